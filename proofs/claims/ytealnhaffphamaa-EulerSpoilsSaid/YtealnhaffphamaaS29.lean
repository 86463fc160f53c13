/- Contracts of the functions that the statement reaches, and plain lemmas: part 29 of 31. -/
import Derived.Test.YtealnhaffphamaaS22
import Derived.Test.YtealnhaffphamaaS15
set_option linter.unusedVariables false
set_option linter.unusedSimpArgs false

namespace Go.Proofs.Ytealnhaffphamaa
open Go.RowKit Go.Shelf Go.Proofs.YtealnhaffphamaaW.PrintWords
theorem FindP.uniq {ds:List PV} {v w r s:Int} (h:FindP ds v w r) (h2:FindP ds v w s):r=s:=by
 rcases h with⟨rfl,h⟩ | ⟨i,x,rfl,hx,e1,e2,h⟩
 ·rcases h2 with⟨rfl,_⟩ | ⟨j,y,rfl,hy,e3,e4,_⟩
  ·rfl
  ·exact absurd ⟨e3,e4⟩ (h y (List.mem_of_getElem? hy))
 ·rcases h2 with⟨rfl,h2⟩ | ⟨j,y,rfl,hy,e3,e4,h2⟩
  ·exact absurd ⟨e1,e2⟩ (h2 x (List.mem_of_getElem? hx))
  ·rcases Nat.lt_trichotomy i j with q | rfl | q
   ·exact absurd ⟨e1,e2⟩ (h2 i x q hx)
   ·rfl
   ·exact absurd ⟨e3,e4⟩ (h j y q hy)
theorem find_at (ds:List PV) (hl:ds.length≤1000000) (v w r:Int) (h:FindP ds v w r) (u:Value) (W:World) (hR:RE W u ds) (n:Nat) :
  Calls Try.prog 45 #[u,.int .i64 v,.int .i64 w] (W.drewN n) fun e w'=>e=.returned (.int .i64 r)∧∃m,w'=(W.drewN n).drewN m:=by
 refine(findR_any ds hl v w u (W.drewN n) (hR.below (Drawn0.below ⟨⟨n,rfl⟩⟩))).mono ?_
 rintro e w' ⟨⟨s,rfl,hs⟩,hm⟩
 rw[h.uniq hs]
 exact⟨rfl,hm⟩
theorem own_ib {W:World} {F base e g:Nat} {xs:List Value} (h:W.ownsRow base e 1 (.slice (some ⟨g,0,none⟩) F F) F xs) (hx:xs.length=F):Blk W g (.cells xs.toArray e):=by
 rcases h.2 with⟨h0,_⟩ | ⟨g',cap',cur,he,hb,hh,h1,h2,h3,h4⟩
 ·cases h0
 ·injection he with he hn hc
  injection he with he
  injection he with he _ _
  subst he hc
  unfold Blk
  rw[hh]
  congr 1
  congr 1
  refine Array.ext' ?_
  rw[List.take_of_length_le (by rw[Array.length_toList,h3];omega)] at h4
  rw[h4]
set_option maxRecDepth 100000 in
set_option maxHeartbeats 8000000 in
theorem rright_any (N:Int) (A:Option Addr) (c:Nat) (fs:Fs) (w:World) (hF:RF w A fs) (hc:fs.length≤c) (hSm:Sm fs) (hcap:(plsA fs).length≤100000) :
  Calls Try.prog 15 #[.agg #[.int .i64 N,.slice A fs.length c]] w fun e w'=>OutB (RtP N fs) e∧Below w.heap.size w w':=by
 obtain⟨W1,hW1⟩:∃W1,W1=w.alloc (.cells #[.int .i64 N,.slice A fs.length c] 26):=⟨_,rfl⟩
 have HOB:Hid (Obs [.cells #[.int .i64 N,.slice A fs.length c] 26] w W1):=by rw[hW1];exact Obs.one w _
 have HSZ:=Lib.hid (sizes_any N A c fs W1 (hF.below HOB.out.below) hSm)
 have HF:=Lib.hid hF
 have HS:=Lib.hid hSm
 have HED:Hid (∀W,Below w.heap.size w W→Calls Try.prog 40 #[.agg #[.int .i64 N,.slice A fs.length c]] W (EdO W (dartsA fs (plsA fs)))):=fun W hb=>edgesR_any N A c fs W (hF.below hb) hc hSm hcap
 have hN:=hSm.1
 clear hF hSm hcap
 go_enter Try.func15,Try.ntmps15
 go_upto_region 1 with fail
 rw[←hW1]
 clear hW1
 have m00:W1.cell? ⟨w.heap.size,0,none⟩=some (.int .i64 N):=HOB.out.cell 0 0 rfl rfl
 have m01:W1.cell? ⟨w.heap.size,1,none⟩=some (.slice A fs.length c):=HOB.out.cell 0 1 rfl rfl
 go_wp2_with fail
 ((with_reducible refine(HSZ.out).mono ?_);rintro e W2 ⟨⟨b,rfl,hb⟩,hbl⟩)
 have HOB1:=Lib.hid (HOB.out.call hbl)
 have HBI:=Lib.hid hb
 clear m00 m01 HSZ HOB hbl hb
 cases b with
 | false=>
  go_wp2
  go_ret
  exact⟨OutB.no (fun h=>by have:=HBI.out.2 h.1;cases this),HOB1.out.below⟩
 | true=>
 have HSR:Hid (SizR N fs):=HBI.out.1 rfl
 clear HBI
 obtain⟨n,rfl⟩:=Int.eq_ofNat_of_zero_le (show 0≤N by have:=HSR.out.1;omega)
 have hn1:1≤n:=by have:=HSR.out.1;omega
 have hn2:n≤200:=by have:=HSR.out.2.1;omega
 have m00:W2.cell? ⟨w.heap.size,0,none⟩=some (.int .i64 n):=HOB1.out.cell 0 0 rfl rfl
 have m01:W2.cell? ⟨w.heap.size,1,none⟩=some (.slice A fs.length c):=HOB1.out.cell 0 1 rfl rfl
 go_upto_region 3 with fail
 go_wp2_with fail
 ((with_reducible refine(HED.out _ HOB1.out.below).mono ?_);rintro e W3 ⟨v3,rfl,hre,hbl⟩)
 obtain⟨ds,hds⟩:∃ds,ds=dartsA fs (plsA fs):=⟨_,rfl⟩
 rw[←hds] at hre
 have HDS:=Lib.hid hds
 have HDL:Hid (ds.length≤2000):=by
  show ds.length≤2000
  have h1:=List.length_filter_le (dartB fs) (plsA fs)
  have h2:=HSR.out.2.2.2.2.1
  rw[hds];unfold dartsA;omega
 obtain⟨AE,cE,rfl,hcE,hKE⟩:=hre
 have HRE:Hid (RE W3 (.slice AE ds.length cE) ds):=⟨AE,cE,rfl,hcE,hKE⟩
 have HOB3:=Lib.hid (HOB1.out.call hbl)
 clear m00 m01 HOB1 hbl HED hKE hds
 obtain⟨B,hB⟩:∃B,W3.heap.size=B:=⟨_,rfl⟩
 have m00:W3.cell? ⟨w.heap.size,0,none⟩=some (.int .i64 n):=HOB3.out.cell 0 0 rfl rfl
 obtain⟨iL,hiL,hiL0,hiL1,hiL2⟩:=info_parts infoL
 obtain⟨iB,hiB,hiB0,hiB1,hiB2⟩:=info_parts infoB
 go_upto_region 4 with fail
 go_upto_region 5 with(at_make;refine wpList_make_full _ rfl _ _ 37 rfl B 36 iL (.slice none 0 0) 1 Try.underlying37 hiL hiL0 hiL1 .i64 .i64 _ _ n rfl rfl rfl rfl (by rw[hiL2];omega) (by simp only[maxLen];omega) (Nat.le_of_eq hB.symm) ?_;intro W4 hown4 hg4)
 rw[made_nils,hB] at hown4
 have HFW4:Hid (FW B (.slice (some ⟨B,0,none⟩) n n) (List.replicate n []) n (fun _=>.slice none 0 0) W4):=FW.madeO hown4
 have HOB4:=Lib.hid (HOB3.out.grown hg4)
 have HBL4:Hid (Below W3.heap.size W3 W4):=(Below.refl _ _).grown hg4 (Nat.le_refl _) (fun k e=>by cases e)
 clear hown4 hg4 m00 hiL hiL0 hiL1 hiL2
 have m00:W4.cell? ⟨w.heap.size,0,none⟩=some (.int .i64 n):=HOB4.out.cell 0 0 rfl rfl
 obtain⟨M,hM⟩:∃M,W4.heap.size=M:=⟨_,rfl⟩
 go_upto_region 6 with(at_make;refine wpList_make_full _ rfl _ _ 81 rfl M 4 iB (.bool false) 1 Try.underlying81 hiB hiB0 hiB1 .i64 .i64 _ _ n rfl rfl rfl rfl (by rw[hiB2];omega) (by simp only[maxLen];omega) (Nat.le_of_eq hM.symm) ?_;intro W5 hown5 hg5)
 rw[hM] at hown5
 have HM5:Hid (Blk W5 M (.cells (mb n fun _=>false) 4)):=made_met hown5
 have HFW5:=Lib.hid (HFW4.out.kept hg5 (fun r e=>by cases e))
 have HOB5:=Lib.hid (HOB4.out.grown hg5)
 have HBL5:=Lib.hid (HBL4.out.grown hg5 HBL4.out.size (fun k e=>by cases e))
 clear hown5 hg5 m00 hiB hiB0 hiB1 hiB2 HFW4 HOB4
 have hmm:=@run_makeMap Try.prog
 go_upto_region 7 with fail
 have hga:=World.grownBy_alloc W5 (.map #[] 0) none
 have hgb:=World.grownBy_alloc (W5.alloc (.map #[] 0)) (.map #[] 0) none
 have hk2:=IM.made (W5.alloc (.map #[] 0))
 rw[World.size_alloc] at hk2
 have HFI:Hid (FI [.cells #[.int .i64 n,.slice A fs.length c] 26] w W3 B fs n B M W5.heap.size (W5.heap.size+1) [] (fun _=>.slice none 0 0) ((W5.alloc (.map #[] 0)).alloc (.map #[] 0))):=by
  have h1:=HOB3.out.size
  have h2:=HM5.out.lt
  have h3:=HBL5.out.size
  have h4:=HBL4.out.size
  refine⟨(HOB5.out.grown hga).grown hgb,?_,?_,FD.nils _,?_,((IM.made W5).kept hgb (by simp)),hk2,by omega,?_,hB,by omega,by omega,by omega⟩
  ·exact(HBL5.out.grown hga HBL5.out.size (fun k e=>by cases e)).grown hgb (by simp;omega) (fun k e=>by cases e)
  ·rw[atL_nil];exact(HFW5.out.kept hga (fun r e=>by cases e)).kept hgb (fun r e=>by cases e)
  ·exact(HM5.out.kept hga (by simp)).kept hgb (by simp)
  ·simp at h1 ⊢;omega
 clear hga hgb hk2 HM5 HFW5 HOB5 HBL5 HBL4 hmm hM
 have HB:=Lib.hid hB
 clear hB
 obtain⟨k1,hk1⟩:∃k1,W5.heap.size=k1:=⟨_,rfl⟩
 obtain⟨k2,hk2⟩:∃k2,k1+1=k2:=⟨_,rfl⟩
 rw[hk1,hk2] at HFI ⊢
 clear hk1 hk2
 generalize (W5.alloc (.map #[] 0)).alloc (.map #[] 0)=W6 at HFI ⊢
 go_wp2
 go_loopw [8,9] (fun s8 s9 wr=>∃(f ct:Nat) (lv:Nat→Value),f≤fs.length∧ct≤2000∧s8=.int .i64 ct∧s9=.int .i64 f∧Hid (ct=(preA fs f 0 0).length)∧Hid (FI [.cells #[.int .i64 n,.slice A fs.length c] 26] w W3 B fs n B M k1 k2 (preA fs f 0 0) lv wr)) (fun _ v _=>fs.length - (intOf v).toNat)
 case atStart=>exact⟨0,0,_,by omega,by omega,rfl,rfl,rfl,HFI⟩
 case round=>
  clear HFI HOB3
  rename World=>wr
  obtain⟨f,ct,lv,hf,hct,rfl,rfl,HCT,HFI⟩:=hrel
  have m01:wr.cell? ⟨w.heap.size,1,none⟩=some (.slice A fs.length c):=HFI.out.obs.cell 0 1 rfl rfl
  by_cases hlt:f<fs.length
  ·have hlz:(f:Int)<(fs.length:Int):=by omega
   obtain⟨ad0,A0,c0,rfl,hcw,hl0,hr0⟩:=HF.out.at hlt
   have hn0:=hr0.len
   have HR0:=Lib.hid hr0
   have HC0:=Lib.hid hcw
   clear hr0 hcw
   have hc:=pw_cell_below HFI.out.obs.below HC0.out
   go_wp2
   go_loopw [8,10] (fun s8 s10 wr=>∃(l ct:Nat) (lv:Nat→Value),l≤(fcA fs f).length∧ct≤2000∧s8=.int .i64 ct∧s10=.int .i64 l∧Hid (ct=(preA fs f l 0).length)∧Hid (FI [.cells #[.int .i64 n,.slice (some ad0) fs.length c] 26] w W3 B fs n B M k1 k2 (preA fs f l 0) lv wr)) (fun _ v _=>(fcA fs f).length - (intOf v).toNat)
   case atStart=>exact⟨0,ct,lv,by omega,by omega,rfl,rfl,HCT,HFI⟩
   case round=>
    clear HFI hc m01 HCT
    rename World=>wr
    obtain⟨l,ct,lv,hl,hct,rfl,rfl,HCT,HFI⟩:=hrel
    have m01:wr.cell? ⟨w.heap.size,1,none⟩=some (.slice (some ad0) fs.length c):=HFI.out.obs.cell 0 1 rfl rfl
    have hc:=pw_cell_below HFI.out.obs.below HC0.out
    by_cases hlt2:l<(fcA fs f).length
    ·have hlz2:(l:Int)<((fcA fs f).length:Int):=by omega
     obtain⟨ad1,A1,c1,rfl,hc1w,hl1,hr1⟩:=HR0.out.atP hlt2
     have hn1:=hr1.len
     have HR1:Hid (RI w A1 (lpA fs f l)):=hr1
     have hc1:=pw_cell_below HFI.out.obs.below hc1w
     have HN1:(lpA fs f l).length≤1000000:=HS.out.2.2 f l
     have HLL:Hid (0<(lpA fs f l).length):=(HSR.out.2.2.2.2.2.1 f hlt).2 l hlt2
     obtain⟨ll,hll⟩:∃ll,(lpA fs f l).length=ll:=⟨_,rfl⟩
     have HLE:=Lib.hid hll
     rw[hll] at hc1 hl1 hn1 HN1 HLL
     clear hr1 hc1w hll
     go_wp2
     go_loopw [8,12] (fun s8 s12 wr=>∃(i ct:Nat) (lv:Nat→Value),i≤ll∧ct≤2000∧s8=.int .i64 ct∧s12=.int .i64 i∧Hid (ct=(preA fs f l i).length)∧Hid (FI [.cells #[.int .i64 n,.slice (some ad0) fs.length c] 26] w W3 B fs n B M k1 k2 (preA fs f l i) lv wr)) (fun _ v _=>ll - (intOf v).toNat)
     case atStart=>exact⟨0,ct,lv,by omega,by omega,rfl,rfl,HCT,HFI⟩
     case round=>
      clear HFI hc m01 hc1 HCT
      rename World=>wr
      obtain⟨i,ct,lv,hi,hct,rfl,rfl,HCT,HFI⟩:=hrel
      by_cases hlt3:i<ll
      ·have hlz3:(i:Int)<(ll:Int):=by omega
       obtain⟨x,hx⟩:∃x,x=pvA fs f l i:=⟨_,rfl⟩
       have HX:Hid (x∈plsA fs∧preA fs f l (i+1)=preA fs f l i ++ [x]∧(preA fs f l (i+1)).length≤2000∧(lpA fs x.f x.l).length=ll):=by
        rw[hx]
        exact⟨mem_pls.2 ⟨f,l,i,hlt,hlt2,by rw[HLE.out];exact hlt3,rfl⟩,preA_i _ _ _ _,Nat.le_trans (preA_prefix fs hlt hlt2 (by rw[HLE.out];exact hlt3)).length_le HSR.out.2.2.2.2.1,HLE.out⟩
       obtain⟨vn,hv,hvn⟩:∃vn:Nat,x.v=vn∧vn<n:=by
        have h1:=HSR.out.2.2.2.2.2.2.1 x HX.out.1
        exact⟨x.v.toNat,by omega,by omega⟩
       obtain⟨s,hs⟩:∃s:Nat,s=i+ll:=⟨_,rfl⟩
       obtain⟨p,hp⟩:∃p:Nat,p=s - 1:=⟨_,rfl⟩
       obtain⟨pb,hpb⟩:∃pb:Nat,pb=p % ll:=⟨_,rfl⟩
       obtain⟨pa,hpa⟩:∃pa:Nat,pa=(i+1) % ll:=⟨_,rfl⟩
       have hpbn:pb<ll:=by rw[hpb];exact Nat.mod_lt _ (by omega)
       have hpan:pa<ll:=by rw[hpa];exact Nat.mod_lt _ (by omega)
       obtain⟨ad2,rfl,hxi⟩:=HR1.out.at (i:=i) (by rw[HLE.out];exact hlt3)
       obtain⟨_,e2,hxb⟩:=HR1.out.at (i:=pb) (by rw[HLE.out];exact hpbn)
       cases e2
       obtain⟨_,e2,hxa⟩:=HR1.out.at (i:=pa) (by rw[HLE.out];exact hpan)
       cases e2
       have hpv:pvA fs f l i=⟨f,l,i,(lpA fs f l).getD i 0,(lpA fs f l).getD pb 0,(lpA fs f l).getD pa 0⟩:=by
        unfold pvA
        rw[HLE.out,hpb,hpa,hp,hs]
       obtain⟨xb,hxbb⟩:∃xb,xb=(lpA fs f l).getD pb 0:=⟨_,rfl⟩
       obtain⟨xa,hxaa⟩:∃xa,xa=(lpA fs f l).getD pa 0:=⟨_,rfl⟩
       have hxv:(lpA fs f l).getD i 0=(vn:Int):=by rw[hx,hpv] at hv;exact hv
       rw[hxv] at hxi hpv
       rw[←hxbb] at hxb hpv
       rw[←hxaa] at hxa hpv
       have HXV:Hid (x.v=vn∧x.b=xb∧x.a=xa):=by rw[hx,hpv];exact⟨rfl,rfl,rfl⟩
       have hw1:IntKind.i64.wrap ((i:Int)+(ll:Int))=(s:Int):=by rw[IntKind.wrap_i64];omega
       have hw2:IntKind.i64.wrap ((s:Int) - 1)=(p:Int):=by rw[IntKind.wrap_i64];omega
       have hm1:Int.tmod (p:Int) (ll:Int)=(pb:Int):=by rw[hpb];rfl
       have hzb:(pb:Int)<(ll:Int):=by omega
       have hza:(pa:Int)<(ll:Int):=by omega
       have hzv:(vn:Int)<(n:Int):=by omega
       have hlz0:¬ (ll:Int)=0:=by omega
       have hln0:¬ ll=0:=by omega
       have hpm:p % ll=pb:=hpb.symm
       have HXI:=Lib.hid hxi
       have HXB:=Lib.hid hxb
       have HXA:=Lib.hid hxa
       have HPA:=Lib.hid hpa
       obtain⟨c2,hc2⟩:∃c2,c2=ct+1:=⟨_,rfl⟩
       have hw4:IntKind.i64.wrap ((ct:Int)+1)=(c2:Int):=by rw[IntKind.wrap_i64];omega
       have HC2:=Lib.hid hc2
       have hxi:=pw_cell_below HFI.out.obs.below HXI.out
       have hown:=HFI.out.row.ownL vn hvn
       obtain⟨⟨A4,n4,c4⟩,hlv⟩:=slice_of_own hown
       simp only[encS] at hlv
       have c4f:=HFI.out.cell hvn
       rw[hlv] at c4f
       rw[atL_at hvn,hlv] at hown
       have HOWN:=Lib.hid hown
       have HLV:=Lib.hid hlv
       have hcs:=HFI.out.sz
       clear hx hv hs hp hpb hpa hxbb hxaa hxv hpv hxb hxa hc2 hown hlv
       go_upto_region 20 with fail
       have HPC:Hid ((preA fs f l i).length=ct):=HCT.out.symm
       have HILE:Hid ((natsI (idxA (preA fs f l i) vn)).length≤1000000):=by
        show _≤_
        rw[natsI_len]
        have h1:=idxA_len (preA fs f l i) vn
        have h2:=HPC.out
        omega
       have hga:=World.grownBy_alloc wr (.cells #[.int .i64 ct] 3) none
       have HFG:=Lib.hid (HFI.out.grown hga)
       have HBS:Hid (Blk (wr.alloc (.cells #[.int .i64 ct] 3)) wr.heap.size (.cells #[.int .i64 ct] 3)):=blk_new wr _
       have HOW1:Hid ((wr.alloc (.cells #[.int .i64 ct] 3)).ownsRow B 3 1 (.slice A4 n4 c4) (natsI (idxA (preA fs f l i) vn)).length (intsV (natsI (idxA (preA fs f l i) vn)))):=own_keptB HOWN.out hga (fun r e=>by cases e)
       clear hga
       go_upto_region 21 with(at_builtin;refine wpList_append_int rfl _ _ rfl B (.slice A4 n4 c4) (natsI (idxA (preA fs f l i) vn)) ct rfl HOW1.out wr.heap.size rfl HBS.out HILE.out HFG.out.sz ?_;intro u4 w7 hown7 hg7 hat7;have hFJ:=HFG.out.pend hvn (by rw[HLV.out];exact hg7) hown7 (by rw[HLV.out];exact hat7);obtain⟨⟨A5,n5,c5⟩,h5⟩:=slice_of_own hown7;simp only[encS] at h5;subst h5;have c7:=World.ownsRow.cellAt hFJ.fq.own vn (by omega);rw[List.getElem?_map,List.getElem?_range hvn] at c7;simp only[Option.map_some,HLV.out] at c7;have c8:=World.ownsRow.frozenAt hFJ.fq.own vn;have HFJ:=Lib.hid hFJ;clear hown7 hg7 hat7 hFJ)
       obtain⟨lv8,hFK⟩:=(show FJ _ w W3 B fs n B M k1 k2 (preA fs f l i) lv vn (.slice A5 n5 c5) (natsI (idxA (preA fs f l i) vn) ++ [((preA fs f l i).length:Int)]) w7 from by rw[HPC.out];exact HFJ.out).store HXV.out.1 hvn
       clear c7 c8 HFJ HFG HBS HOW1 HFI c4f HLV HOWN HILE hcs
       generalize w7.setCell ⟨B,vn,none⟩ (.slice A5 n5 c5)=w8 at hFK ⊢
       have HFK:=Lib.hid hFK
       clear hFK
       go_cut [] from 82 to 93 (fun W9=>Hid (FK [.cells #[.int .i64 n,.slice (some ad0) fs.length c] 26] w W3 B fs n B M k1 k2 (preA fs f l i) x 1 lv8 W9))
       case first=>
        have HFK0:=HFK.out.lon
        rw[if_neg (by omega)] at HFK0
        have c7:=(blk_cells HFK0).1 vn _ (mb_get _ hvn)
        have c8:=(blk_cells HFK0).2 vn
        have HLX:=Lib.hid HX.out.2.2.2
        clear HFK0
        cases hm:lonV fs (preA fs f l i) vn with
        | true=>
         rw[hm] at c7
         have HK1:=Lib.hid (HFK.out.lon1 (b:=true) HXV.out.1 (by rw[hm];rfl))
         clear hm
         go_wp2
         go_meet
         case rel=>exact HK1
        | false=>
         rw[hm] at c7
         by_cases h1:ll=1
         ·have h1z:((ll:Int) == 1)=true:=by simp;omega
          have HK1:=Lib.hid (HFK.out.lon1 (b:=true) HXV.out.1 (by rw[hm,HLX.out,decide_eq_true h1];rfl))
          clear hm h1
          go_wp2
          go_meet
          case rel=>exact HK1
         ·have h1z:((ll:Int) == 1)=false:=by simp;omega
          have HK1:=Lib.hid (HFK.out.lon1 (b:=false) HXV.out.1 (by rw[hm,HLX.out,decide_eq_false h1];rfl))
          clear hm h1
          go_wp2
          go_meet
          case rel=>exact HK1
       case rest=>
       clear HFK
       have HFK1:=hcut
       rename World=>w9
       have HXBc:=pw_cell_below HFK1.out.obs.below HXB.out
       have HNX:Hid (∀W,Below w.heap.size w W→Calls Try.prog 44 #[.slice (some ad2) ll c1,.int .i64 i] W fun e w'=>e=.returned (.int .i64 (pa:Int))∧∃n,w'=W.drewN n):=fun W hb=>by
        have h:=next_any (some ad2) c1 (lpA fs f l) i W (HR1.out.below hb) (by rw[HLE.out];exact hl1) (by rw[HLE.out];exact hlt3) (by rw[HLE.out];exact HN1)
        rw[HLE.out,←HPA.out] at h
        exact h
       have HLC:Hid (∀W,IM W k1 (leaL (preA fs f l i))→(leaL (preA fs f l i)).length=ct):=fun W _=>by unfold leaL;rw[List.length_map];exact HPC.out
       have HLD:Hid ((leaL (preA fs f l i)).length=ct∧(comL (preA fs f l i)).length=ct):=⟨by unfold leaL;rw[List.length_map];exact HPC.out,by unfold comL;rw[List.length_map];exact HPC.out⟩
       clear HLC
       go_upto_region 23 with fail
       clear HXBc
       go_wp2_with fail
       ((with_reducible refine(HNX.out _ HFK1.out.obs.below).mono ?_);rintro e w10 ⟨rfl,nq,rfl⟩)
       have HFK2:Hid (FK [.cells #[.int .i64 n,.slice (some ad0) fs.length c] 26] w W3 B fs n B M k1 k2 (preA fs f l i) x 1 lv8 (w9.drewN nq)):=HFK1.out.drawn (grown_of_below (Drawn0.below ⟨⟨nq,rfl⟩⟩) none)
       clear HFK1
       generalize w9.drewN nq=w10 at HFK2 ⊢
       have HXAc:=pw_cell_below HFK2.out.obs.below HXA.out
       have HI1:Hid (IM w10 k1 (leaL (preA fs f l i))):=by
        have h:=HFK2.out.lea
        rwa [if_neg (by omega)] at h
       go_upto_region 24 with(at_mapUpdate;refine wpList_upd_im _ rfl _ _ _ rfl k1 (leaL (preA fs f l i)) rfl HI1.out (by have:=HLD.out.1;omega) ((vn:Int),xa) (by rw[HLD.out.1];rfl) rfl ?_;intro w11 hI11 hg11;have HI11:=Lib.hid hI11;have HG11:=Lib.hid hg11;clear hI11 hg11)
       have HFK3:=Lib.hid (HFK2.out.lea2 HG11.out (by rw[HXV.out.1,HXV.out.2.2];exact HI11.out))
       clear HFK2 HI1 HI11 HG11 HXAc
       have HI2:Hid (IM w11 k2 (comL (preA fs f l i))):=by
        have h:=HFK3.out.com
        rwa [if_neg (by omega)] at h
       go_upto_region 25 with(at_mapUpdate;refine wpList_upd_im _ rfl _ _ _ rfl k2 (comL (preA fs f l i)) rfl HI2.out (by have:=HLD.out.2;omega) (xb,(vn:Int)) (by rw[HLD.out.2];rfl) rfl ?_;intro w12 hI12 hg12;have HI12:=Lib.hid hI12;have HG12:=Lib.hid hg12;clear hI12 hg12)
       have HFI2:=Lib.hid (HFK3.out.com3 HG12.out (by rw[HXV.out.1,HXV.out.2.1];exact HI12.out)).done
       clear HFK3 HI2 HI12 HG12
       go_wp2
       go_roundw
       case rel=>
        have h1:=HX.out.2.2.1
        rw[HX.out.2.1,List.length_append,List.length_singleton] at h1
        have h2:=HPC.out
        have h3:=HC2.out
        refine⟨i+1,c2,lv8,by omega,by omega,rfl,by go_num,?_,?_⟩
        ·show c2=_
         rw[HX.out.2.1,List.length_append,List.length_singleton];omega
        ·rw[HX.out.2.1];exact HFI2
       case measure=>simp[intOf];omega
      ·obtain rfl:i=ll:=by omega
       go_wp2
       go_roundw
       case rel=>exact⟨l+1,ct,lv,by omega,by omega,rfl,by go_num,by rw[preA_l,HLE.out];exact HCT.out,by rw[preA_l,HLE.out];exact HFI⟩
       case measure=>simp[intOf];omega
    ·obtain rfl:l=(fcA fs f).length:=by omega
     go_wp2
     go_roundw
     case rel=>exact⟨f+1,ct,lv,by omega,by omega,rfl,by go_num,by rw[preA_f];exact HCT.out,by rw[preA_f];exact HFI⟩
     case measure=>simp[intOf];omega
  ·obtain rfl:f=fs.length:=by omega
   rw[preA_end] at HFI
   have HFE:=HFI
   clear HFI HCT
   rename World=>W5
   go_wp2
   clear m01
   go_loopw [2,16] (fun _ s16 wr=>∃i:Nat,i≤ds.length∧s16=.int .i64 i∧Hid (Below W5.heap.size W5 wr)∧Hid (∀j x,j<i→ds[j]?=some x→x.v≠x.a∧FindP ds x.v x.a j∧∃y∈ds,y.v=x.a∧y.a=x.v)) (fun _ v _=>ds.length - (intOf v).toNat)
   case atStart=>exact⟨0,by omega,rfl,Below.refl _ _,fun j x h=>by omega⟩
   case round=>
    rename World=>wr
    obtain⟨i,hi,rfl,HBL,HJ⟩:=hrel
    by_cases hlt:i<ds.length
    ·have hlz:(i:Int)<(ds.length:Int):=by omega
     have hdl:ds.length≤2000:=HDL.out
     obtain⟨x,hx⟩:∃x,ds[i]?=some x:=⟨_,List.getElem?_eq_getElem hlt⟩
     have HX:=Lib.hid hx
     have HB3:Hid (Below W3.heap.size W3 wr):=HFE.out.bel.trans (HBL.out.mono HFE.out.bel.size)
     have HBW:Hid (Below w.heap.size w wr):=HFE.out.obs.below.trans (HBL.out.mono HFE.out.obs.below.size)
     obtain⟨A',c',e1,hc',hK⟩:=HRE.out
     injection e1 with e1 _ e2
     subst e1 e2
     obtain⟨g5,rfl,hcell⟩:=hK i x hx
     have c0:W3.cell? ⟨g5,i * 5,none⟩=some (.int .i64 x.v):=hcell 0 _ rfl
     have c1:W3.cell? ⟨g5,i * 5+1,none⟩=some (.int .i64 x.a):=hcell 1 _ rfl
     have c0:=pw_cell_below HB3.out c0
     have c1:=pw_cell_below HB3.out c1
     clear hcell
     have HRW:Hid (RE wr (.slice (some ⟨g5,0,none⟩) ds.length cE) ds):=HRE.out.below HB3.out
     clear hK hx
     by_cases h1:x.v=x.a
     ·have h1z:(x.v == x.a)=true:=by simp[h1]
      have HNB:Hid (¬ RtP n fs):=fun h=>by
       have h2:=h.2.1.1.2 x (by rw[←HDS.out];exact List.mem_of_getElem? HX.out)
       exact h2 h1
      clear h1
      go_wp2_with fail
      go_quiet (fail)
      go_wp2
      go_ret
      exact⟨OutB.no HNB.out,below_drewN HBW.out _⟩
     have H1:=Lib.hid h1
     have h1z:(x.v == x.a)=false:=by simpa using h1
     obtain⟨r1,hr1⟩:=find_is ds x.v x.a
     have HF1:Hid (∀n,Calls Try.prog 45 #[.slice (some ⟨g5,0,none⟩) ds.length cE,.int .i64 x.v,.int .i64 x.a] (wr.drewN n) fun e w'=>e=.returned (.int .i64 r1)∧∃m,w'=(wr.drewN n).drewN m):=fun n=>find_at ds (by have:=HDL.out;omega) x.v x.a r1 hr1 _ wr HRW.out n
     have HR1:=Lib.hid hr1
     clear hr1
     by_cases h2:r1=(i:Int)
     ·obtain⟨r2,hr2⟩:=find_is ds x.a x.v
      have HF2:Hid (∀n,Calls Try.prog 45 #[.slice (some ⟨g5,0,none⟩) ds.length cE,.int .i64 x.a,.int .i64 x.v] (wr.drewN n) fun e w'=>e=.returned (.int .i64 r2)∧∃m,w'=(wr.drewN n).drewN m):=fun n=>find_at ds (by have:=HDL.out;omega) x.a x.v r2 hr2 _ wr HRW.out n
      have HR2:=Lib.hid hr2
      have h2z:(r1 != (i:Int))=false:=by simp[h2]
      have H2:=Lib.hid h2
      clear hr2 h2
      by_cases h3:r2<0
      ·have h3z:decide (r2<0)=true:=by simpa using h3
       have HNB:Hid (¬ RtP n fs):=fun h=>by
        have h4:=h.2.1.2 x (by rw[←HDS.out];exact List.mem_of_getElem? HX.out)
        obtain⟨y,hy,e1,e2⟩:=hasE_mem h4
        rw[←HDS.out] at hy
        rcases HR2.out with⟨_,h5⟩ | ⟨j,z,e3,_⟩
        ·exact h5 y hy ⟨e1,e2⟩
        ·omega
       clear h3
       go_wp2_with fail
       go_quiet ((first | (go_at_call 45;with_reducible exact Calls.quiet_of (HF1.out _)) | (go_at_call 45;with_reducible exact Calls.quiet_of (HF2.out _))))
       go_wp2
       go_ret
       exact⟨OutB.no HNB.out,below_drewN HBW.out _⟩
      ·have h3z:decide (r2<0)=false:=by simpa using h3
       have H3:=Lib.hid h3
       clear h3
       go_wp2_with fail
       go_quiet ((first | (go_at_call 45;with_reducible exact Calls.quiet_of (HF1.out _)) | (go_at_call 45;with_reducible exact Calls.quiet_of (HF2.out _))))
       rename_i nq
       have HBL2:=Lib.hid (below_drewN HBL.out nq)
       clear HBL HB3 HBW c0 c1 HF1 HF2 HRW
       generalize wr.drewN nq=wq at HBL2 ⊢
       go_wp2
       go_roundw
       case rel=>
        refine⟨i+1,by omega,by go_num,HBL2,fun j y hj hy=>?_⟩
        by_cases e:j=i
        ·subst e
         rw[HX.out] at hy
         cases hy
         refine⟨H1.out,by rw[←H2.out];exact HR1.out,?_⟩
         rcases HR2.out with⟨h5,_⟩ | ⟨k,z,_,hz,e1,e2,_⟩
         ·have h6:=H3.out;omega
         ·exact⟨z,List.mem_of_getElem? hz,e1,e2⟩
        ·exact HJ.out j y (by omega) hy
       case measure=>simp[intOf];omega
     ·have h2z:(r1 != (i:Int))=true:=by simpa using h2
      have HNB:Hid (¬ RtP n fs):=fun h=>by
       have h4:=h.2.1.1.1
       rw[←HDS.out] at h4
       rcases HR1.out with⟨_,h5⟩ | ⟨j,z,e3,hz,e1,e2,h5⟩
       ·exact h5 x (List.mem_of_getElem? HX.out) ⟨rfl,rfl⟩
       ·have hp:=List.pairwise_iff_getElem.1 h4
        obtain⟨hjl,hjz⟩:=List.getElem?_eq_some_iff.1 hz
        obtain⟨hil,hix⟩:=List.getElem?_eq_some_iff.1 HX.out
        rcases Nat.lt_trichotomy j i with q | q | q
        ·exact hp j i hjl hil q (by rw[hjz,hix];exact⟨e1,e2⟩)
        ·exact h2 (by rw[e3,q])
        ·exact h5 i x q HX.out ⟨rfl,rfl⟩
      clear h2
      go_wp2_with fail
      go_quiet ((go_at_call 45;with_reducible exact Calls.quiet_of (HF1.out _)))
      go_wp2
      go_ret
      exact⟨OutB.no HNB.out,below_drewN HBW.out _⟩
    ·obtain rfl:i=ds.length:=by omega
     have HFE7:=Lib.hid (HFE.out.grown (grown_of_below HBL.out none))
     have HEO:Hid (EdOk fs):=by
      have h:=HJ.out
      show EdUp _∧_
      rw[←HDS.out]
      refine⟨⟨List.pairwise_iff_getElem.2 (fun a b ha hb hab hq=>?_),fun x hx=>?_⟩,fun x hx=>?_⟩
      ·obtain⟨_,h2,_⟩:=h b ds[b] hb (List.getElem?_eq_getElem hb)
       rcases h2 with⟨h3,_⟩ | ⟨j,z,e,hz,_,_,h5⟩
       ·omega
       ·obtain rfl:b=j:=by omega
        exact h5 a ds[a] hab (List.getElem?_eq_getElem ha) hq
      ·obtain⟨j,hj,rfl⟩:=List.getElem_of_mem hx
       exact(h j _ hj (List.getElem?_eq_getElem hj)).1
      ·obtain⟨j,hj,rfl⟩:=List.getElem_of_mem hx
       obtain⟨_,_,y,hy,e1,e2⟩:=h j _ hj (List.getElem?_eq_getElem hj)
       have h9:=hasE_of hy
       rw[e1,e2] at h9
       exact h9
     clear HFE HBL HJ
     rename World=>W7
     have HPL:Hid ((plsA fs).length≤2000):=HSR.out.2.2.2.2.1
     have hbw:B≤W7.heap.size:=HFE7.out.sz
     go_wp2
     go_loopw [2,17] (fun _ s17 wr=>∃v:Nat,v≤n∧s17=.int .i64 v∧Hid (Below W7.heap.size W7 wr)∧Hid (∀u,u<v→NodeR fs u)) (fun _ v _=>n - (intOf v).toNat)
     case atStart=>exact⟨0,by omega,rfl,Below.refl _ _,fun j h=>by omega⟩
     case round=>
      rename World=>wr
      obtain⟨v,hv,rfl,HBL,HJ⟩:=hrel
      have HFR:=Lib.hid (HFE7.out.grown (grown_of_below HBL.out none))
      have m00:wr.cell? ⟨w.heap.size,0,none⟩=some (.int .i64 n):=HFR.out.obs.cell 0 0 rfl rfl
      by_cases hlt:v<n
      ·have hvz:(v:Int)<(n:Int):=by omega
       have c0:=(blk_cells HFR.out.lon).1 v _ (mb_get _ hlt)
       have hown:=HFE7.out.row.ownL v hlt
       rw[atL_at hlt] at hown
       obtain⟨A4,c4,hlv,hle,hri⟩:=ints_reads rfl hown
       have c1:=HFR.out.cell hlt
       have cAT:=HFE7.out.cell hlt
       rw[hlv] at c1 cAT
       obtain⟨q,hq⟩:∃q,(natsI (idxA (plsA fs) v)).length=q:=⟨_,rfl⟩
       rw[hq] at c1 hle cAT
       have HAT:=Lib.hid cAT
       have HQ:Hid (q=(idxA (plsA fs) v).length∧(rowsA (plsA fs) v).length=q):=⟨by rw[←hq,natsI_len],by rw[(rows_idx (plsA fs) v).1,←hq,natsI_len]⟩
       have hq2:q≤2000:=by have:=HQ.out.1;have:=idxA_len (plsA fs) v;have:=HPL.out;omega
       have HRI:=Lib.hid hri
       clear hown hlv hri hq cAT
       cases hm:lonV fs (plsA fs) v with
       | true=>
        have HM:=Lib.hid hm
        rw[hm] at c0
        clear hm
        by_cases h1:(q:Int) > 1
        ·have HNB:Hid (¬ RtP n fs):=fun h=>by
          have h2:=(h.2.2 v hvz).1 HM.out
          rw[HQ.out.2] at h2
          omega
         go_wp2
         go_ret
         exact⟨OutB.no HNB.out,HFR.out.obs.below⟩
        ·go_wp2
         go_roundw
         case rel=>
          refine⟨v+1,by omega,by go_num,HBL,fun u hu=>?_⟩
          by_cases e:u=v
          ·subst e
           exact⟨fun _=>by rw[HQ.out.2];omega,fun h=>by rw[HM.out] at h;cases h⟩
          ·exact HJ.out u (by omega)
         case measure=>simp[intOf];omega
       | false=>
        have HM:=Lib.hid hm
        rw[hm] at c0
        clear hm
        obtain⟨iI,hiI,hiI0,hiI1,hiI2⟩:=info_parts infoI
        obtain⟨G,hG⟩:∃G,wr.heap.size=G:=⟨_,rfl⟩
        go_upto_region 38 with(at_make;refine wpList_make_full _ rfl _ _ 36 rfl G 3 iI (.int .i64 0) 1 Try.underlying36 hiI hiI0 hiI1 .i64 .i64 _ _ q rfl rfl rfl rfl (by rw[hiI2];omega) (by simp only[maxLen];omega) (Nat.le_of_eq hG.symm) ?_;intro w3 hown3 hg3)
        rw[made_ints,hG] at hown3
        have HIB:Hid (Ib w3 G (List.replicate q 0)):=own_ib hown3 (by simp[intsV])
        have HBL3:Hid (Below W7.heap.size W7 w3):=HBL.out.grown hg3 HBL.out.size (fun k e=>by cases e)
        have HWG:Hid (W7.heap.size≤G):=by rw[←hG];exact HBL.out.size
        clear hown3 hg3 hiI hiI0 hiI1 hiI2 HBL m00 c0 c1 hG HFR
        go_wp2
        go_loopw [19] (fun s19 wr=>∃i:Nat,i≤q∧s19=.int .i64 i∧Hid (Below W7.heap.size W7 wr)∧Hid (Ib wr G (fillI q i))) (fun v _=>q - (intOf v).toNat)
        case atStart=>exact⟨0,by omega,rfl,HBL3,by rw[fillI_zero];exact HIB⟩
        case round=>
         clear HBL3 HIB
         rename World=>wr
         obtain⟨i,hi,rfl,HBL,HIB⟩:=hrel
         by_cases hlt2:i<q
         ·have hiz:(i:Int)<(q:Int):=by omega
          obtain⟨z,hz⟩:∃z,(fillI q i)[i]?=some z:=⟨_,List.getElem?_eq_getElem (by rw[fillI_len hi];exact hlt2)⟩
          obtain⟨c0,c1⟩:=HIB.out.cell hz
          clear hz
          go_wp2
          go_roundw
          case rel=>
           refine⟨i+1,by omega,by go_num,HBL.out.grown (grown_set _ _ _ _) HBL.out.size (fun k e=>by cases e;exact HWG.out),?_⟩
           rw[←fillI_set hlt2]
           exact HIB.out.set i i
          case measure=>simp[intOf];omega
         ·obtain rfl:i=q:=by omega
          have HGI:Hid (GInv (LinkP (rowsA (plsA fs) v)) i (fun a b=>a<0) (fillI i i)):=by rw[fillI_all];exact GInv.start _ _ (fun a b=>by omega)
          go_wp2
          go_loopw [20] (fun s20 wr=>∃(a:Nat) (g:List Int),a≤i∧s20=.int .i64 a∧Hid (Below W7.heap.size W7 wr)∧Hid (Ib wr G g)∧Hid (GInv (LinkP (rowsA (plsA fs) v)) i (fun x y=>x<a) g)) (fun v _=>i - (intOf v).toNat)
          case atStart=>exact⟨0,_,by omega,rfl,HBL,HIB,HGI⟩
          case round=>
           clear HBL HIB HGI
           rename World=>wr
           obtain⟨a,g,ha,rfl,HBL,HIB,HGI⟩:=hrel
           by_cases hlt3:a<i
           ·have haz:(a:Int)<(i:Int):=by omega
            have HGJ:Hid (GInv (LinkP (rowsA (plsA fs) v)) i (fun x y=>x<a∨(x=a∧y<0)) g):=HGI.out.weaken (fun x y _ _ h=>by omega)
            obtain⟨j1,x1,hj1,hx1,hr1⟩:=(rows_idx (plsA fs) v).2 a (by rw[←HQ.out.1];exact hlt3)
            have hjl1:j1<1000000:=by have:=(List.getElem?_eq_some_iff.1 hx1).1;have:=HPL.out;omega
            obtain⟨ad4,rfl,cj⟩:=HRI.out.at (i:=a) (by rw[natsI_len,←HQ.out.1];exact hlt3)
            rw[show(natsI (idxA (plsA fs) v)).getD a 0=(j1:Int) by rw[List.getD_eq_getElem?_getD];unfold natsI;rw[List.getElem?_map,hj1];rfl] at cj
            have HCJ:=Lib.hid cj
            have HX1:Hid ((leaL (plsA fs))[j1]?=some (x1.v,x1.a)∧(rowsA (plsA fs) v)[a]?=some x1):=⟨by unfold leaL;rw[List.getElem?_map,hx1];rfl,hr1⟩
            clear cj hj1 hx1 hr1
            go_wp2
            go_loopw [21] (fun s21 wr=>∃(b:Nat) (g:List Int),b≤i∧s21=.int .i64 b∧Hid (Below W7.heap.size W7 wr)∧Hid (Ib wr G g)∧Hid (GInv (LinkP (rowsA (plsA fs) v)) i (fun x y=>x<a∨(x=a∧y<b)) g)) (fun v _=>i - (intOf v).toNat)
            case atStart=>exact⟨0,_,by omega,rfl,HBL,HIB,HGJ⟩
            case round=>
             clear HBL HIB HGI HGJ
             rename World=>wr
             obtain⟨b,g,hb,rfl,HBL,HIB,HGI⟩:=hrel
             by_cases hlt4:b<i
             ·have hbz:(b:Int)<(i:Int):=by omega
              obtain⟨j2,x2,hj2,hx2,hr2⟩:=(rows_idx (plsA fs) v).2 b (by rw[←HQ.out.1];exact hlt4)
              have hjl2:j2<1000000:=by have:=(List.getElem?_eq_some_iff.1 hx2).1;have:=HPL.out;omega
              obtain⟨_,e4,ck⟩:=HRI.out.at (i:=b) (by rw[natsI_len,←HQ.out.1];exact hlt4)
              cases e4
              rw[show(natsI (idxA (plsA fs) v)).getD b 0=(j2:Int) by rw[List.getD_eq_getElem?_getD];unfold natsI;rw[List.getElem?_map,hj2];rfl] at ck
              have HFR:=Lib.hid (HFE7.out.grown (grown_of_below HBL.out none))
              have hk2:(comL (plsA fs))[j2]?=some (x2.b,x2.v):=by unfold comL;rw[List.getElem?_map,hx2];rfl
              have HX2:=Lib.hid hr2
              clear hj2 hx2 hr2
              have cjw:=pw_cell_below HBL.out HCJ.out
              have ckw:=pw_cell_below HBL.out ck
              have catw:=pw_cell_below HBL.out HAT.out
              have hg1:∀m,(Instr.lookup 82 (.map (some k1)) (.int .i64 j1) false).run Try.prog (wr.drewN m)=.ok (.agg #[.int .i64 x1.v,.int .i64 x1.a,.int .i64 0,.int .i64 0,.int .i64 0]) (wr.drewN m):=fun m=>(HFR.out.lea.kept (grown_of_below (Drawn0.below ⟨⟨m,rfl⟩⟩) none) (by simp)).get HX1.out.1 hjl1
              have hg2:∀m,(Instr.lookup 82 (.map (some k2)) (.int .i64 j2) false).run Try.prog (wr.drewN m)=.ok (.agg #[.int .i64 x2.b,.int .i64 x2.v,.int .i64 0,.int .i64 0,.int .i64 0]) (wr.drewN m):=fun m=>(HFR.out.com.kept (grown_of_below (Drawn0.below ⟨⟨m,rfl⟩⟩) none) (by simp)).get hk2 hjl2
              have hf1:∀W,(Instr.field 76 (.agg #[.int .i64 x1.v,.int .i64 x1.a,.int .i64 0,.int .i64 0,.int .i64 0]) 1).run Try.prog W=.ok (.int .i64 x1.a) W:=fun W=>by kernel_rfl
              have hf2:∀W,(Instr.field 76 (.agg #[.int .i64 x2.b,.int .i64 x2.v,.int .i64 0,.int .i64 0,.int .i64 0]) 0).run Try.prog W=.ok (.int .i64 x2.b) W:=fun W=>by kernel_rfl
              have hiz:(v:Int)<(n:Int):=by omega
              clear ck hk2 HFR
              by_cases hl:x1.a=x2.b
              ·have hlz:(x1.a == x2.b)=true:=by simpa using hl
               have HLK:Hid (LinkP (rowsA (plsA fs) v) a b):=⟨x1,x2,HX1.out.2,HX2.out,hl⟩
               have HMG:Hid (∀W,Ib W G g→Calls Try.prog 46 #[.slice (some ⟨G,0,none⟩) i i,.int .i64 a,.int .i64 b] W (MrgP G g a b W)):=fun W hW=>by
                have h:=merge_any G g i a b W hW (by rw[HGI.out.len];exact hlt3) (by rw[HGI.out.len];exact hlt4) (by rw[HGI.out.len];omega)
                rw[HGI.out.len] at h
                exact h
               clear hl
               go_wp2_with fail
               go_quiet (fail)
               rename_i nq
               have HBL2:=Lib.hid (below_drewN HBL.out nq)
               have HIB2:Hid (Ib (wr.drewN nq) G g):=HIB.out.kept (grown_of_below (Drawn0.below ⟨⟨nq,rfl⟩⟩) none) (by simp)
               clear hg1 hg2 hf1 hf2 cjw ckw catw HBL HIB
               generalize wr.drewN nq=wq at HBL2 HIB2 ⊢
               go_wp2_with fail
               ((with_reducible refine(HMG.out _ HIB2.out).mono ?_);rintro e w8 ⟨rfl,hib,hgr⟩)
               have HIB3:=Lib.hid hib
               have HBL3:=Lib.hid (HBL2.out.grown hgr HBL2.out.size (fun k e=>by cases e;exact HWG.out))
               clear hib hgr HBL2 HIB2
               go_wp2
               go_roundw
               case rel=>exact⟨b+1,_,by omega,by go_num,HBL3,HIB3,HGI.out.merge hlt3 hlt4 (fun x y h=>by omega) HLK.out⟩
               case measure=>simp[intOf];omega
              ·have hlz:(x1.a == x2.b)=false:=by simpa using hl
               have HLK:Hid (¬ LinkP (rowsA (plsA fs) v) a b):=fun⟨y1,y2,h1,h2,h3⟩=>by
                rw[HX1.out.2] at h1
                rw[HX2.out] at h2
                cases h1
                cases h2
                exact hl h3
               clear hl
               go_wp2_with fail
               go_quiet (fail)
               rename_i nq
               have HBL2:=Lib.hid (below_drewN HBL.out nq)
               have HIB2:Hid (Ib (wr.drewN nq) G g):=HIB.out.kept (grown_of_below (Drawn0.below ⟨⟨nq,rfl⟩⟩) none) (by simp)
               clear hg1 hg2 hf1 hf2 cjw ckw catw HBL HIB
               generalize wr.drewN nq=wq at HBL2 HIB2 ⊢
               go_wp2
               go_roundw
               case rel=>exact⟨b+1,g,by omega,by go_num,HBL2,HIB2,HGI.out.skip (fun x y h=>by omega) HLK.out⟩
               case measure=>simp[intOf];omega
             ·obtain rfl:b=i:=by omega
              go_wp2
              go_roundw
              case rel=>exact⟨a+1,g,by omega,by go_num,HBL,HIB,HGI.out.weaken (fun x y _ hy h=>by omega)⟩
              case measure=>simp[intOf];omega
           ·obtain rfl:a=i:=by omega
            have HLI:Hid (∀x y,LinkP (rowsA (plsA fs) v) x y→x<a∧y<a):=fun x y ⟨x1,y1,h1,h2,_⟩=>by
             have h3:=(List.getElem?_eq_some_iff.1 h1).1
             have h4:=(List.getElem?_eq_some_iff.1 h2).1
             rw[HQ.out.2] at h3 h4
             exact⟨h3,h4⟩
            go_wp2
            go_loopw [2,22] (fun _ s22 wr=>∃b:Nat,b≤a∧s22=.int .i64 b∧Hid (Below W7.heap.size W7 wr)∧Hid (Ib wr G g)∧Hid (∀x,x<b→g.getD x 0=g.getD 0 0)) (fun _ v _=>a - (intOf v).toNat)
            case atStart=>exact⟨0,by omega,rfl,HBL,HIB,fun x h=>by omega⟩
            case round=>
             clear HBL HIB
             rename World=>wr
             obtain⟨b,hb,rfl,HBL,HIB,HGS⟩:=hrel
             by_cases hlt5:b<a
             ·have hbz:(b:Int)<(a:Int):=by omega
              have h0z:(0:Int)<(a:Int):=by omega
              have h0n:0<a:=by omega
              have hgl:=HGI.out.len
              obtain⟨z,hz⟩:∃z,g[b]?=some z:=⟨_,List.getElem?_eq_getElem (by omega)⟩
              obtain⟨z0,hz0⟩:∃z,g[0]?=some z:=⟨_,List.getElem?_eq_getElem (by omega)⟩
              have c0:=(HIB.out.cell hz).1
              have c1:=(HIB.out.cell hz0).1
              have HZ:Hid (g.getD b 0=z∧g.getD 0 0=z0):=⟨by rw[List.getD_eq_getElem?_getD,hz];rfl,by rw[List.getD_eq_getElem?_getD,hz0];rfl⟩
              have HDN:=Lib.hid (HGI.out.done (fun x y hx _=>hx) HLI.out (i:=b) hlt5 h0n)
              clear hgl hz hz0
              by_cases he:z=z0
              ·have hez:(z != z0)=false:=by simp[he]
               have HZE:Hid (g.getD b 0=g.getD 0 0):=by show _=_;rw[HZ.out.1,HZ.out.2,he]
               clear he
               go_wp2_with fail
               go_quiet (fail)
               rename_i nq
               have HBL2:=Lib.hid (below_drewN HBL.out nq)
               have HIB2:Hid (Ib (wr.drewN nq) G g):=HIB.out.kept (grown_of_below (Drawn0.below ⟨⟨nq,rfl⟩⟩) none) (by simp)
               clear c0 c1 HBL HIB
               generalize wr.drewN nq=wq at HBL2 HIB2 ⊢
               go_wp2
               go_roundw
               case rel=>
                refine⟨b+1,by omega,by go_num,HBL2,HIB2,fun x hx=>?_⟩
                by_cases e:x=b
                ·rw[e];exact HZE.out
                ·exact HGS.out x (by omega)
               case measure=>simp[intOf];omega
              ·have hez:(z != z0)=true:=by simpa using he
               have HNB:Hid (¬ RtP n fs):=fun h=>by
                have h2:=(h.2.2 v (by omega)).2 HM.out b (by rw[HQ.out.2];exact hlt5)
                have h3:=HDN.out.2 h2
                rw[HZ.out.1,HZ.out.2] at h3
                exact he h3
               have HBW:Hid (Below w.heap.size w wr):=HFE7.out.obs.below.trans (HBL.out.mono HFE7.out.obs.below.size)
               clear he
               go_wp2_with fail
               go_quiet (fail)
               go_wp2
               go_ret
               exact⟨OutB.no HNB.out,below_drewN HBW.out _⟩
             ·obtain rfl:b=a:=by omega
              have HNR:Hid (NodeR fs v):=⟨fun h=>absurd (HM.out.symm.trans h) (by simp),fun _ x hx=>by
               rw[HQ.out.2] at hx
               exact(HGI.out.done (fun x y hx _=>hx) HLI.out hx (by omega)).1 (HGS.out x hx)⟩
              go_wp2
              go_roundw
              case rel=>
               refine⟨v+1,by omega,by go_num,HBL,fun u hu=>?_⟩
               by_cases e:u=v
               ·rw[e];exact HNR.out
               ·exact HJ.out u (by omega)
              case measure=>simp[intOf];omega
      ·obtain rfl:v=n:=by omega
       have HYB:Hid (RtP v fs):=⟨HSR.out,HEO.out,fun u hu=>HJ.out u (by omega)⟩
       go_wp2
       go_ret
       exact⟨OutB.yes HYB.out,HFR.out.obs.below⟩
end Go.Proofs.Ytealnhaffphamaa
