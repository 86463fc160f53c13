/- Contracts of the functions that the statement reaches, and plain lemmas: part 18 of 31. -/
import Derived.Test.YtealnhaffphamaaS17
import Derived.Test.YtealnhaffphamaaS15
set_option linter.unusedVariables false
set_option linter.unusedSimpArgs false

namespace Go.Proofs.Ytealnhaffphamaa
open Go.RowKit Go.Shelf Go.Proofs.YtealnhaffphamaaW.PrintWords
open Classical
def dnL (fs:Fs) (x:PV):Fs:=setL fs x.f x.l (shutL (turnL (lpA fs x.f x.l) x.i).tail)
def lvA (fs:Fs) (v:Int):List PV:=(dartsA fs (plsA fs)).filter fun x=>x.v == v
noncomputable def rdnE (N:Int) (fs:Fs) (v:Int):Except Int (Int × Fs):=
 if ¬ (0≤v∧v<N) then .error 1 else match lvA fs v with
  | [x]=>doneE (N - 1) (renL v (dnL fs x))
  | _=>.error 7
theorem rdnE_no {N:Int} {fs:Fs} {v:Int} (h:0≤v∧v<N) (h1:(lvA fs v).length≠1):rdnE N fs v=.error 7:=by
 unfold rdnE
 rw[if_neg (fun q=>q h)]
 split
 ·rename_i x e;rw[e] at h1;exact absurd rfl h1
 ·rfl
theorem rdnE_ok {N:Int} {fs:Fs} {v:Int} (h:0≤v∧v<N) {x:PV} (h1:lvA fs v=[x]):rdnE N fs v=doneE (N - 1) (renL v (dnL fs x)):=by
 unfold rdnE
 rw[if_neg (fun q=>q h),h1]
theorem tail_len (l:List Int):l.tail.length=l.length - 1:=by cases l <;> rfl
theorem shutL_sub (l:List Int):(shutL l).length≤l.length∧(∀x∈shutL l,x∈l)∧(l≠[]→shutL l≠[]):=by
 unfold shutL
 split
 ·rename_i h
  refine⟨by simp,fun x hx=>(List.dropLast_sublist l).subset hx,fun _ e=>?_⟩
  have:=congrArg List.length e
  rw[List.length_dropLast] at this
  simp at this;omega
 ·exact⟨Nat.le_refl _,fun x hx=>hx,fun h=>h⟩
theorem dn_ok {N:Int} {fs:Fs} (h:RightP N fs) {v:Int} {x:PV} (hx:lvA fs v=[x]):(x.f<fs.length∧x.l<(fcA fs x.f).length∧x.i<(lpA fs x.f x.l).length∧2≤(lpA fs x.f x.l).length) ∧
  cpA (dnL fs x) (dnL fs x).length 401 2001=dnL fs x∧(∀f,f<(dnL fs x).length→(0<(fcA (dnL fs x) f).length∧(fcA (dnL fs x) f).length≤100000)∧∀l,l<(fcA (dnL fs x) f).length→0<(lpA (dnL fs x) f l).length∧(lpA (dnL fs x) f l).length≤100000) ∧
  (∀f l i,-1000000≤(lpA (dnL fs x) f l).getD i 0∧(lpA (dnL fs x) f l).getD i 0≤1000000)∧Sm (renL v (dnL fs x)):=by
 have hm:x∈dartsA fs (plsA fs):=(List.mem_filter.1 (show x∈lvA fs v by rw[hx];simp)).1
 have hd:=List.mem_filter.1 hm
 obtain⟨⟨h1,h2,h3⟩,_⟩:=isP_of hd.1
 have h4:(lpA fs x.f x.l).length≠1:=by simpa [dartB] using hd.2
 have h3':x.i<(lpA fs x.f x.l).length:=h3
 have hw:=(whole_iff N fs).1 h.1
 have hF:=h.fine
 obtain⟨a1,a2⟩:=hF.loop x.f x.l
 obtain⟨s1,s2,s3⟩:=shutL_sub (turnL (lpA fs x.f x.l) x.i).tail
 rw[tail_len,turnL_len] at s1
 have hmem:∀y∈shutL (turnL (lpA fs x.f x.l) x.i).tail,y∈lpA fs x.f x.l:=fun y hy=>by
  have h5:=List.mem_of_mem_tail (s2 y hy)
  unfold turnL at h5
  rcases List.mem_append.1 h5 with h5 | h5
  ·exact List.mem_of_mem_drop h5
  ·exact List.mem_of_mem_take h5
 have hFine:Fine 6000 (dnL fs x):=hF.setL x.f x.l (m:=2000) (by omega) (fun y hy=>a2 y (hmem y hy))
 have hfc:∀f,(fcA (dnL fs x) f).length=(fcA fs f).length:=fun f=>fcA_setL_len h1 _ f
 have hlp:∀f l,lpA (dnL fs x) f l=if f=x.f∧l=x.l then shutL (turnL (lpA fs x.f x.l) x.i).tail else lpA fs f l:=fun f l=>lpA_setL h1 h2 _ f l
 have hlen:(dnL fs x).length=fs.length:=setL_len _ _ _ _
 have hll:∀f l,(lpA (dnL fs x) f l).length≤2000:=fun f l=>by
  rw[hlp]
  split
  ·omega
  ·exact(hF.loop f l).1
 refine⟨⟨h1,h2,h3',by omega⟩,?_,fun f hf=>?_,fun f l i=>lpA_num hFine f l i,?_⟩
 ·refine cpA_all _ (fun face hf=>?_) (fun l hl=>?_)
  ·obtain⟨f,hf1,rfl⟩:=List.getElem_of_mem hf
   have e:(dnL fs x)[f]=fcA (dnL fs x) f:=by unfold fcA;rw[List.getD_eq_getElem?_getD,List.getElem?_eq_getElem hf1];rfl
   rw[e,hfc]
   have:=fcA_len_le fs f
   omega
  ·obtain⟨face,hf,hl2⟩:=List.mem_flatten.1 hl
   obtain⟨f,hf1,rfl⟩:=List.getElem_of_mem hf
   obtain⟨k,hk,rfl⟩:=List.getElem_of_mem hl2
   have e:(dnL fs x)[f][k]=lpA (dnL fs x) f k:=by unfold lpA lA fcA;rw[List.getD_eq_getElem?_getD,List.getD_eq_getElem?_getD,List.getElem?_eq_getElem hf1];show _=((dnL fs x)[f])[k]?.getD [];rw[List.getElem?_eq_getElem hk];rfl
   rw[e]
   have:=hll f k
   omega
 ·rw[hlen] at hf
  obtain⟨b1,b2⟩:=h.1.2.2.2.2.2.2 f hf
  rw[hfc]
  refine⟨⟨b1,by have:=(hF.face (f:=f)).1;omega⟩,fun l hl=>⟨?_,by have:=hll f l;omega⟩⟩
  rw[hlp]
  split
  ·exact List.length_pos_iff.2 (s3 (fun e=>by have:=congrArg List.length e;rw[tail_len,turnL_len] at this;simp at this;omega))
  ·exact b2 l hl
 ·obtain⟨q1,q2,q3,_⟩:=renL_lens v (dnL fs x)
  have hS:=hFine.sm (by omega)
  exact⟨by rw[q1];exact hS.1,fun f=>by rw[q2];exact hS.2.1 f,fun f l=>by rw[q3];exact hS.2.2 f l⟩
set_option maxRecDepth 100000 in
set_option maxHeartbeats 8000000 in
theorem rdropNode_any (N:Int) (A:Option Addr) (c:Nat) (fs:Fs) (v:Int) (w:World) (hF:RF w A fs) (hc:fs.length≤c) (hR:RightP N fs) :
  Calls Try.prog 36 #[.agg #[.int .i64 N,.slice A fs.length c],.int .i64 v] w fun e w'=>OpT (rdnE N fs v) e w'∧Below w.heap.size w w':=by
 obtain⟨W1,hW1⟩:∃W1,W1=(w.alloc (.cells #[.int .i64 N,.slice A fs.length c] 26)).alloc (.cells #[.int .i64 0,.slice none 0 0] 26):=⟨_,rfl⟩
 have HOB:Hid (Obs [.cells #[.int .i64 N,.slice A fs.length c] 26,.cells #[.int .i64 0,.slice none 0 0] 26] w W1):=by rw[hW1];exact Obs.two w _ _
 have HF:=Lib.hid hF
 have HR:=Lib.hid hR
 have HC:=Lib.hid hc
 clear hF hR hc
 go_enter Try.func36,Try.ntmps36
 go_upto_region 1 with fail
 rw[←hW1]
 clear hW1
 have m00:W1.cell? ⟨w.heap.size,0,none⟩=some (.int .i64 N):=HOB.out.cell 0 0 rfl rfl
 have m01:W1.cell? ⟨w.heap.size,1,none⟩=some (.slice A fs.length c):=HOB.out.cell 0 1 rfl rfl
 by_cases h0:0≤v∧v<N
 ·have z1:¬ v<0:=by omega
  have z2:¬ v≥N:=by omega
  have HV0:Hid (0≤v∧v<N):=h0
  clear h0
  have hcap:(plsA fs).length≤100000:=HR.out.fine.cap (by omega)
  have HEG:=Lib.hid (edgesR_any N A c fs W1 (HF.out.below HOB.out.below) HC.out (HR.out.fine.sm (by omega)) hcap)
  obtain⟨ds,hds⟩:∃ds,ds=dartsA fs (plsA fs):=⟨_,rfl⟩
  rw[←hds] at HEG
  have hdl:ds.length≤1000000:=by have:=List.length_filter_le (dartB fs) (plsA fs);rw[hds];unfold dartsA;omega
  have HDS:Hid (ds=dartsA fs (plsA fs)):=hds
  clear hcap hds
  go_upto_region 4 with((with_reducible refine(HEG.out).mono ?_);rintro e W2 ⟨v2,rfl,hre,hbl⟩)
  have HOB2:=Lib.hid (HOB.out.call hbl)
  obtain⟨A5,c5,rfl,-,hed⟩:=hre
  have HED:=Lib.hid hed
  clear hed
  clear m00 m01
  clear HEG hbl HOB z1 z2
  go_wp2
  go_loop [7,8,9] (fun s7 s8 s9=>∃(i m:Nat) (a:Int),i≤ds.length∧m≤i∧s7=.int .i64 a∧s8=.int .i64 m∧s9=.int .i64 i∧Hid (m=((ds.take i).filter fun x=>x.v == v).length∧(m=0∨∃(j:Nat) (x:PV),a=j∧ds[j]?=some x∧x.v=v))) (fun _ _ s=>ds.length - (intOf s).toNat)
  case atStart=>exact⟨0,0,-1,by omega,by omega,rfl,rfl,rfl,by simp,.inl rfl⟩
  case round=>
   obtain⟨i,m,a,hi,hmi,rfl,rfl,rfl,HJ⟩:=hrel
   by_cases hlt:i<ds.length
   ·have hiz:(i:Int)<(ds.length:Int):=by omega
    obtain⟨g5,rfl,hcell⟩:=HED.out i ds[i] (List.getElem?_eq_getElem hlt)
    have hx:Hid (ds[i]?=some ds[i]):=List.getElem?_eq_getElem hlt
    have ht:Hid (((ds.take (i+1)).filter fun x=>x.v == v)=((ds.take i).filter fun x=>x.v == v) ++ if ds[i].v=v then[ds[i]] else[]):=by show _=_;rw[List.take_succ_eq_append_getElem hlt,List.filter_append];congr 1;simp[List.filter_cons]
    generalize ds[i]=x at hcell hx ht
    have c0:W2.cell? ⟨g5,i * 5,none⟩=some (.int .i64 x.v):=hcell 0 _ rfl
    clear hcell
    by_cases h1:x.v=v
    ·have hv:(x.v == v)=true:=by simpa using h1
     have H1:Hid (x.v=v):=h1
     clear h1
     go_wp2
     go_round
     case rel=>exact⟨i+1,m+1,i,by omega,by omega,rfl,by go_num,by go_num,by rw[ht.out,if_pos H1.out,List.length_append,←HJ.out.1];rfl,.inr ⟨i,x,rfl,hx.out,H1.out⟩⟩
     case measure=>simp[intOf];omega
    ·have hv:(x.v == v)=false:=by simpa using h1
     have H1:Hid (x.v≠v):=h1
     clear h1
     go_wp2
     go_round
     case rel=>exact⟨i+1,m,a,by omega,by omega,rfl,rfl,by go_num,by rw[ht.out,if_neg H1.out,List.append_nil];exact HJ.out.1,HJ.out.2⟩
     case measure=>simp[intOf];omega
   ·have HJ2:Hid (m=(lvA fs v).length∧(m=0∨∃(j:Nat) (x:PV),a=j∧ds[j]?=some x∧x.v=v)):=⟨by have:=HJ.out.1;rw[List.take_of_length_le (by omega),HDS.out] at this;exact this,HJ.out.2⟩
    clear HJ
    by_cases h1:m=1
    ·subst h1
     obtain⟨j,x,rfl,hx,hxv⟩:=HJ2.out.2.resolve_left (by omega)
     have hlv:lvA fs v=[x]:=by
      have h1:=HJ2.out.1
      obtain⟨y,hy⟩:=List.length_eq_one_iff.1 h1.symm
      have h2:x∈lvA fs v:=List.mem_filter.2 ⟨by rw[←HDS.out];exact List.mem_of_getElem? hx,by simpa using hxv⟩
      rw[hy,List.mem_singleton] at h2
      rw[hy,h2]
     have HOK:=Lib.hid (dn_ok HR.out hlv)
     have HRE:=Lib.hid (rdnE_ok HV0.out hlv)
     obtain⟨g5,rfl,hcell⟩:=HED.out j x hx
     have hjl:(j:Int)<(ds.length:Int):=by have:=(List.getElem?_eq_some_iff.1 hx).1;omega
     obtain⟨fn,hfn⟩:∃fn,fn=x.f:=⟨_,rfl⟩
     obtain⟨ln,hln⟩:∃ln,ln=x.l:=⟨_,rfl⟩
     obtain⟨pn,hpn⟩:∃pn,pn=x.i:=⟨_,rfl⟩
     have d2:W2.cell? ⟨g5,j * 5+2,none⟩=some (.int .i64 fn):=by rw[hfn];exact hcell 2 _ rfl
     have d3:W2.cell? ⟨g5,j * 5+3,none⟩=some (.int .i64 ln):=by rw[hln];exact hcell 3 _ rfl
     have d4:W2.cell? ⟨g5,j * 5+4,none⟩=some (.int .i64 pn):=by rw[hpn];exact hcell 4 _ rfl
     have HXX:Hid (fn=x.f∧ln=x.l∧pn=x.i):=⟨hfn,hln,hpn⟩
     have HX:Hid (fn<fs.length∧ln<(fcA fs fn).length∧pn<(lpA fs fn ln).length∧2≤(lpA fs fn ln).length):=by have h:=HOK.out.1;rw[hfn,hln,hpn];exact h
     clear hcell hxv hlv hx hfn hln hpn HJ2 HDS
     have HOW:=Lib.hid (rown_right N A c fs W2 (HF.out.below HOB2.out.below) HC.out HR.out)
     have m00:W2.cell? ⟨w.heap.size,0,none⟩=some (.int .i64 N):=HOB2.out.cell 0 0 rfl rfl
     have m01:W2.cell? ⟨w.heap.size,1,none⟩=some (.slice A fs.length c):=HOB2.out.cell 0 1 rfl rfl
     go_upto_region 14 with((with_reducible refine(HOW.out).mono ?_);rintro e W4 ⟨⟨g,cV,vf,vl,rfl,hM,hMD⟩,hbl⟩)
     clear m00 m01 HOW
     clear hMD
     have HRW:Hid (RW [.cells #[.int .i64 N,.slice A fs.length c] 26,.cells #[.int .i64 0,.slice none 0 0] 26] w W2.heap.size W4.heap.size g cV N fs vf vl (W4.alloc (.cells #[.int .i64 N,.slice (some ⟨g,0,none⟩) fs.length cV] 26))):=by
      have hg3:W4.grownBy (W4.alloc (.cells #[.int .i64 N,.slice (some ⟨g,0,none⟩) fs.length cV] 26)) none:=World.grownBy_alloc _ _ _
      exact⟨(HOB2.out.call hbl).grown hg3,blk_new W4 _,hM.kept hg3 (fun r e=>by cases e),⟨HOB2.out.size,hbl.size⟩,fun r hr=>(hM.lt hr).2⟩
     have HBL:Hid (Below W2.heap.size W2 (W4.alloc (.cells #[.int .i64 N,.slice (some ⟨g,0,none⟩) fs.length cV] 26))):=hbl.alloc hbl.size _
     clear hM hbl HOB2
     generalize W4.heap.size=O at HRW ⊢
     generalize W2.heap.size=B at HRW
     generalize W4.alloc (.cells #[.int .i64 N,.slice (some ⟨g,0,none⟩) fs.length cV] 26)=W5 at HRW HBL ⊢
     have d2:=pw_cell_below HBL.out d2
     have d3:=pw_cell_below HBL.out d3
     have d4:=pw_cell_below HBL.out d4
     clear HBL
     go_upto_region 15 with fail
     clear d2 d3 d4 hjl
     have HT:Hid (RW [.cells #[.int .i64 N,.slice A fs.length c] 26,.cells #[.int .i64 0,.slice none 0 0] 26] w B O g cV N fs vf vl (W5.alloc (.cells #[.int .i64 fn,.int .i64 ln,.int .i64 pn] 34))∧Blk (W5.alloc (.cells #[.int .i64 fn,.int .i64 ln,.int .i64 pn] 34)) W5.heap.size (.cells #[.int .i64 fn,.int .i64 ln,.int .i64 pn] 34)∧O<W5.heap.size):=⟨HRW.out.grown (World.grownBy_alloc _ _ none),blk_new W5 _,HRW.out.size⟩
     clear HRW
     generalize W5.heap.size=P at HT ⊢
     generalize W5.alloc (.cells #[.int .i64 fn,.int .i64 ln,.int .i64 pn] 34)=W6 at HT ⊢
     obtain⟨g1,cF,hvf,hcF⟩:=HT.out.1.form HX.out.1 (by have:=HX.out;omega)
     have HVF:=Lib.hid hvf
     have HGG:Hid (g1<O∧g<O∧g≠g1∧B≤g1∧B≤g∧w.heap.size+2≤B∧O<P):=⟨HT.out.1.top g1 (.inr ⟨fn,HX.out.1,.inl (by rw[hvf];rfl)⟩),HT.out.1.top g (.inl rfl),fun e=>own_other_types HT.out.1.mw.own (HT.out.1.mw.face fn HX.out.1).own (by decide) (show _=some g from rfl) (by rw[hvf,e];rfl),(HT.out.1.mw.lt (b:=g1) (.inr ⟨fn,HX.out.1,.inl (by rw[hvf];rfl)⟩)).1,(HT.out.1.mw.lt (b:=g) (.inl rfl)).1,HT.out.1.low.1,HT.out.2.2⟩
     clear hvf
     obtain⟨ad0,A0,c0,rfl,hc0,hl0,hr0⟩:=HF.out.at HX.out.1
     obtain⟨ad1,A1,c1,rfl,hc1,hl1,hr1⟩:=hr0.atP HX.out.2.1
     have HRL:Hid (RI w A1 (lpA fs fn ln)∧(lpA fs fn ln).length≤c1∧(lpA fs fn ln).length≤2000):=⟨hr1,hl1,(HR.out.fine.loop fn ln).1⟩
     have HE:Hid (∀W,(RW [.cells #[.int .i64 N,.slice (some ad0) fs.length c] 26,.cells #[.int .i64 0,.slice none 0 0] 26] w B O g cV N fs vf vl W∧Blk W P (.cells #[.int .i64 fn,.int .i64 ln,.int .i64 pn] 34)∧O<P)→(W.cell? ⟨w.heap.size,1,none⟩=some (.slice (some ad0) fs.length c)∧W.cell? ⟨P,0,none⟩=some (.int .i64 fn)∧W.cell? ⟨P,1,none⟩=some (.int .i64 ln)∧W.cell? ⟨P,2,none⟩=some (.int .i64 pn)∧W.cell? (ad0.add fn)=some (.slice (some ad1) (fcA fs fn).length c0)∧W.cell? (ad1.add ln)=some (.slice A1 (lpA fs fn ln).length c1))):=fun W h=>⟨h.1.obs.cell 0 1 rfl rfl,(blk_cells h.2.1).1 0 _ rfl,(blk_cells h.2.1).1 1 _ rfl,(blk_cells h.2.1).1 2 _ rfl,pw_cell_below h.1.obs.below hc0,pw_cell_below h.1.obs.below hc1⟩
     clear hc0 hl0 hr0 hc1 hl1 hr1
     have HTG:Hid (∀W W1,(RW [.cells #[.int .i64 N,.slice (some ad0) fs.length c] 26,.cells #[.int .i64 0,.slice none 0 0] 26] w B O g cV N fs vf vl W∧Blk W P (.cells #[.int .i64 fn,.int .i64 ln,.int .i64 pn] 34)∧O<P)→W.grownBy W1 none→(RW [.cells #[.int .i64 N,.slice (some ad0) fs.length c] 26,.cells #[.int .i64 0,.slice none 0 0] 26] w B O g cV N fs vf vl W1∧Blk W1 P (.cells #[.int .i64 fn,.int .i64 ln,.int .i64 pn] 34)∧O<P)):=fun W W1 h hg=>⟨h.1.grown hg,h.2.1.kept hg (by simp),h.2.2⟩
     have HTU:Hid (∀W,(RW [.cells #[.int .i64 N,.slice (some ad0) fs.length c] 26,.cells #[.int .i64 0,.slice none 0 0] 26] w B O g cV N fs vf vl W∧Blk W P (.cells #[.int .i64 fn,.int .i64 ln,.int .i64 pn] 34)∧O<P)→Calls Try.prog 68 #[.slice A1 (lpA fs fn ln).length c1,.int .i64 pn] W fun e w'=>(∃A n c,e=.returned (.slice A n c)∧Hid (n=(lpA fs fn ln).length)∧n≤c∧LR w' (.slice A n c) (turnL (lpA fs fn ln) pn))∧Below W.heap.size W w'):=fun W h=>by
      refine(rturned_any A1 _ c1 pn (lpA fs fn ln) W rfl (RI.below HRL.out.1 h.1.obs.below) HRL.out.2.1 (by have:=HX.out;omega) (by have:=HRL.out;omega)).mono ?_
      rintro e w' ⟨⟨v,rfl,ho⟩,hb⟩
      rw[rotA_len] at ho
      obtain⟨A2,c2,rfl,hc2,hl2⟩:=own_LR (rotA_len (lpA fs fn ln) pn).symm ho
      exact⟨⟨A2,_,c2,rfl,rfl,hc2,hl2⟩,hb⟩
     have z1:(fn:Int)<(fs.length:Int):=by have:=HX.out;omega
     have z2:(ln:Int)<((fcA fs fn).length:Int):=by have:=HX.out;omega
     go_region_held3 (fun W=>(W.cell? ⟨w.heap.size,1,none⟩=some (.slice (some ad0) fs.length c)∧W.cell? ⟨P,0,none⟩=some (.int .i64 fn)∧W.cell? ⟨P,1,none⟩=some (.int .i64 ln)∧W.cell? ⟨P,2,none⟩=some (.int .i64 pn)∧W.cell? (ad0.add fn)=some (.slice (some ad1) (fcA fs fn).length c0)∧W.cell? (ad1.add ln)=some (.slice A1 (lpA fs fn ln).length c1))) ((first | (with_reducible exact HE.out _ (HTG.out _ _ (HTG.out _ _ HT.out (grown_drew _)) (grown_of_below hb1 none))) | (with_reducible exact HE.out _ (HTG.out _ _ HT.out (grown_drew _))))) ((go_at_call 68;(with_reducible refine(HTU.out _ (HTG.out _ _ HT.out (grown_drew _))).mono ?_);rintro e W7 ⟨⟨A2,n2,c2,rfl,hn2,hc2,hlr⟩,hb1⟩))
     have HT7:=Lib.hid (HTG.out _ _ (HTG.out _ _ HT.out (grown_drew _)) (grown_of_below hb1 none))
     have HL7:=Lib.hid hlr
     clear HT HE HTU hlr hb1
     obtain⟨iI,hiI,hiI0,hiI1,hiI2⟩:=info_parts infoI
     obtain⟨n3,hn3⟩:∃n3,n3=n2 - 1:=⟨_,rfl⟩
     obtain⟨n4,hn4⟩:∃n4,n4=n3 - 1:=⟨_,rfl⟩
     have HNN:Hid (n2=(lpA fs fn ln).length∧n3=n2 - 1∧n4=n3 - 1∧n2≤c2∧2≤n2∧n2≤2000):=⟨hn2.out,hn3,hn4,hc2,by have:=HX.out;have:=hn2.out;omega,by have:=HRL.out;have:=hn2.out;omega⟩
     have hcf:=cut_from (P:=Try.prog) 36 3 .i64 Try.underlying36 hiI 1 hiI1 A2 n2 c2 (1:Int) (by omega) (by have:=HNN.out;omega)
     rw[show((1:Int).toNat)=1 from rfl] at hcf
     have hL8:=HL7.out.drop (m:=1) (by rw[turnL_len];have:=HX.out;omega)
     generalize (if c2=1 then A2 else A2.map (·.add (1 * 1)))=A8 at hcf hL8
     rw[List.drop_one] at hL8
     generalize hc8:c2 - 1=c8 at hcf hL8
     rw[←hn3] at hcf hL8
     have HC8:Hid (n3≤c8):=by have:=HNN.out;show n3≤c8;omega
     have hcz:(1:Int)≤(n2:Int):=by have:=HNN.out;omega
     have hct:=cut_to (P:=Try.prog) 36 3 .i64 Try.underlying36 hiI A8 n3 c8 (n4:Int) (by omega) (by have:=HNN.out;omega) HC8.out
     rw[Int.toNat_natCast] at hct
     have hw:1<n3→IntKind.i64.wrap ((n3:Int) - 1)=(n4:Int):=fun h=>by have:=HNN.out;rw[IntKind.wrap_i64];omega
     have HW:=Lib.hid hw
     have HL8:=Lib.hid hL8
     clear hn2 hc2 hn3 hn4 hL8 hc8 hw HL7
     go_upto_if 68 with fail
     go_cut [13] from 14 (fun s13 W9=>∃A9 n9 c9,s13=.slice A9 n9 c9∧Hid ((RW [.cells #[.int .i64 N,.slice (some ad0) fs.length c] 26,.cells #[.int .i64 0,.slice none 0 0] 26] w B O g cV N fs vf vl W9∧Blk W9 P (.cells #[.int .i64 fn,.int .i64 ln,.int .i64 pn] 34)∧O<P))∧Hid (LR W9 (.slice A9 n9 c9) (shutL (turnL (lpA fs fn ln) pn).tail)))
     case first=>
      by_cases h1:1<n3
      ·have h2:(n3:Int) > 1:=by omega
       have hw:=HW.out h1
       have HS:Hid (shutL (turnL (lpA fs fn ln) pn).tail=(turnL (lpA fs fn ln) pn).tail.take n4):=by show _=_;unfold shutL;rw[if_pos (by rw[tail_len,turnL_len];have:=HNN.out;omega),List.dropLast_eq_take,tail_len,turnL_len,show(lpA fs fn ln).length - 1 - 1=n4 by have:=HNN.out;omega]
       clear h1
       go_wp2
       go_meet
       case rel=>exact⟨A8,n4,c8,rfl,HT7,by rw[HS.out];exact HL8.out.take (by rw[tail_len,turnL_len];have:=HNN.out;omega) (by have:=HNN.out;have:=HC8.out;omega)⟩
      ·have h2:¬ (n3:Int) > 1:=by omega
       have HS:Hid (shutL (turnL (lpA fs fn ln) pn).tail=(turnL (lpA fs fn ln) pn).tail):=by show _=_;unfold shutL;rw[if_neg (by rw[tail_len,turnL_len];have:=HNN.out;omega)]
       clear h1
       go_wp2
       go_meet
       case rel=>exact⟨A8,n3,c8,rfl,HT7,by rw[HS.out];exact HL8.out⟩
     case rest=>
      obtain⟨A9,n9,c9,rfl,HT9,HL9⟩:=hcut
      rename World=>W9
      clear HL8 HT7 hcf hct HW HC8
      have HE:Hid (∀W,(RW [.cells #[.int .i64 N,.slice (some ad0) fs.length c] 26,.cells #[.int .i64 0,.slice none 0 0] 26] w B O g cV N fs vf vl W∧Blk W P (.cells #[.int .i64 fn,.int .i64 ln,.int .i64 pn] 34)∧O<P)→(W.cell? ⟨O,1,none⟩=some (.slice (some ⟨g,0,none⟩) fs.length cV)∧W.cell? ⟨P,0,none⟩=some (.int .i64 fn)∧W.cell? ⟨P,1,none⟩=some (.int .i64 ln)∧W.cell? ⟨g,fn,none⟩=some (.slice (some ⟨g1,0,none⟩) ((fcA fs fn).length) cF)∧W.frozen? ⟨g1,ln,none⟩=false∧W.cell? ⟨g1,ln,none⟩=some (clO W ⟨g1,ln,none⟩))):=fun W h=>⟨h.1.o1,(blk_cells h.2.1).1 0 _ rfl,(blk_cells h.2.1).1 1 _ rfl,by rw[h.1.face HX.out.1,HVF.out],(by have h1:=(h.1.mw.face fn HX.out.1).own;rw[HVF.out] at h1;exact World.ownsRow.frozenAt h1 ln),clO_of (h.1.loop HX.out.1 HX.out.2.1 HVF.out)⟩
      have HKS:Hid (∀W v,(W.cell? ⟨O,1,none⟩=some (.slice (some ⟨g,0,none⟩) fs.length cV)∧W.cell? ⟨P,0,none⟩=some (.int .i64 fn)∧W.cell? ⟨P,1,none⟩=some (.int .i64 ln)∧W.cell? ⟨g,fn,none⟩=some (.slice (some ⟨g1,0,none⟩) ((fcA fs fn).length) cF)∧W.frozen? ⟨g1,ln,none⟩=false∧W.cell? ⟨g1,ln,none⟩=some (clO W ⟨g1,ln,none⟩))→((W.setCell ⟨g1,ln,none⟩ v).cell? ⟨O,1,none⟩=some (.slice (some ⟨g,0,none⟩) fs.length cV)∧(W.setCell ⟨g1,ln,none⟩ v).cell? ⟨P,0,none⟩=some (.int .i64 fn)∧(W.setCell ⟨g1,ln,none⟩ v).cell? ⟨P,1,none⟩=some (.int .i64 ln)∧(W.setCell ⟨g1,ln,none⟩ v).cell? ⟨g,fn,none⟩=some (.slice (some ⟨g1,0,none⟩) ((fcA fs fn).length) cF)∧(W.setCell ⟨g1,ln,none⟩ v).frozen? ⟨g1,ln,none⟩=false∧(W.setCell ⟨g1,ln,none⟩ v).cell? ⟨g1,ln,none⟩=some (clO (W.setCell ⟨g1,ln,none⟩ v) ⟨g1,ln,none⟩))):=fun W v h=>⟨set_far (by show g1≠O;have:=HGG.out;omega) h.1,set_far (by show g1≠P;have:=HGG.out;omega) h.2.1,set_far (by show g1≠P;have:=HGG.out;omega) h.2.2.1,set_far (by show g1≠g;have:=HGG.out;omega) h.2.2.2.1,set_frz h.2.2.2.2.1,set_here h.2.2.2.2.2⟩
      have HKD:Hid (∀v,((W9.setCell ⟨g1,ln,none⟩ v).drew.cell? ⟨O,1,none⟩=some (.slice (some ⟨g,0,none⟩) fs.length cV)∧(W9.setCell ⟨g1,ln,none⟩ v).drew.cell? ⟨P,0,none⟩=some (.int .i64 fn)∧(W9.setCell ⟨g1,ln,none⟩ v).drew.cell? ⟨P,1,none⟩=some (.int .i64 ln)∧(W9.setCell ⟨g1,ln,none⟩ v).drew.cell? ⟨g,fn,none⟩=some (.slice (some ⟨g1,0,none⟩) ((fcA fs fn).length) cF)∧(W9.setCell ⟨g1,ln,none⟩ v).drew.frozen? ⟨g1,ln,none⟩=false∧(W9.setCell ⟨g1,ln,none⟩ v).drew.cell? ⟨g1,ln,none⟩=some (clO (W9.setCell ⟨g1,ln,none⟩ v).drew ⟨g1,ln,none⟩))):=fun v=>HKS.out W9.drew v (HE.out W9.drew (HTG.out _ _ HT9.out (grown_drew W9)))
      go_upto_region 19 with fail
      go_region_held3 (fun W=>(W.cell? ⟨O,1,none⟩=some (.slice (some ⟨g,0,none⟩) fs.length cV)∧W.cell? ⟨P,0,none⟩=some (.int .i64 fn)∧W.cell? ⟨P,1,none⟩=some (.int .i64 ln)∧W.cell? ⟨g,fn,none⟩=some (.slice (some ⟨g1,0,none⟩) ((fcA fs fn).length) cF)∧W.frozen? ⟨g1,ln,none⟩=false∧W.cell? ⟨g1,ln,none⟩=some (clO W ⟨g1,ln,none⟩))) ((first | (with_reducible exact HKD.out _) | (with_reducible exact HE.out _ (HTG.out _ _ HT9.out (grown_drew _))))) (fail)
      have hT:=HTG.out _ _ HT9.out (grown_drew _)
      have hRO:RO [.cells #[.int .i64 N,.slice (some ad0) fs.length c] 26,.cells #[.int .i64 0,.slice none 0 0] 26] w B O N (.slice (some ⟨g,0,none⟩) fs.length cV) (setL fs fn ln (shutL (turnL (lpA fs fn ln) pn).tail)) ((W9.setCell ⟨g1,ln,none⟩ (.slice A9 n9 c9)).drew):=hT.1.put HX.out.1 HX.out.2.1 HVF.out (HL9.out.kept (grown_drew _) (NoI.none _))
      clear HE HKS HKD hT HTG HT9 HL9
      generalize (W9.setCell _ _).drew=W10 at hRO ⊢
      have HFS:Hid ((setL fs fn ln (shutL (turnL (lpA fs fn ln) pn).tail))=dnL fs x):=by show _=_;unfold dnL;rw[←HXX.out.1,←HXX.out.2.1,←HXX.out.2.2]
      rw[HFS.out] at hRO
      have HRO:=Lib.hid hRO
      clear hRO
      have n0:=(blk_cells HRO.out.out).1 0 _ rfl
      have n1:=(blk_cells HRO.out.out).2 0
      have hNw:IntKind.i64.wrap (N - 1)=N - 1:=by rw[IntKind.wrap_i64];have h1:=HR.out.1.1;have h2:=HR.out.1.2.1;omega
      go_upto_region 21 with fail
      have HRO2:=Lib.hid (HRO.out.setN (N - 1))
      clear n0 n1 HRO
      generalize W10.setCell _ _=W11 at HRO2 ⊢
      have HLE:Hid ((dnL fs x).length=fs.length):=setL_len _ _ _ _
      have HRN:Hid (Calls Try.prog 69 #[.slice (some ⟨g,0,none⟩) fs.length cV,.int .i64 v] W11 fun e w'=>(∃A c' vf vl,e=.returned (.slice A fs.length c')∧MW W11.heap.size (.slice A fs.length c') (renL v (dnL fs x)) (renL v (dnL fs x)).length vf vl w')∧Below W11.heap.size W11 w'):=by
       obtain⟨A2,c2,e2,hc2,hF2⟩:=HRO2.out.reads
       injection e2 with ea eb ec
       subst ea ec
       have h:=renamed_any _ _ (dnL fs x) v W11 hF2 hc2 (by rw[HLE.out];have:=HX.out;omega) (by rw[HLE.out];have:=HR.out.fine.faces;omega) HOK.out.2.1 HOK.out.2.2.1 HOK.out.2.2.2.1
       rw[HLE.out] at h
       exact h.mono fun e w' ⟨⟨g,c',vf,vl,h1,h2⟩,h3⟩=>⟨⟨_,c',vf,vl,h1,h2⟩,h3⟩
      have n0:=(blk_cells HRO2.out.out).1 1 _ rfl
      go_wp2_with fail
      ((with_reducible refine(HRN.out).mono ?_);rintro e W12 ⟨⟨A12,c12,vf2,vl2,rfl,hM12⟩,hb12⟩)
      have hB12:B≤W11.heap.size:=by have:=HRO2.out.low;have:=HRO2.out.out.lt;omega
      have HRO3:=Lib.hid (HRO2.out.call hb12)
      have HM12:=Lib.hid ((MR.of hM12).lower hB12)
      clear n0 HRN HRO2 hM12 hb12 hB12
      have n0:=(blk_cells HRO3.out.out).1 1 _ rfl
      have n1:=(blk_cells HRO3.out.out).2 1
      go_upto_region 22 with fail
      have HRO4:=Lib.hid (HRO3.out.setF ⟨_,_,HM12.out⟩)
      clear n0 n1 HRO3 HM12
      generalize W12.setCell _ _=W13 at HRO4 ⊢
      have HDN:=Lib.hid (HRO4.out.calls HOK.out.2.2.2.2)
      have n0:=(blk_cells HRO4.out.out).1 0 _ rfl
      have n1:=(blk_cells HRO4.out.out).1 1 _ rfl
      go_wp2_with fail
      ((with_reducible refine(HDN.out).mono ?_);rintro e W20 ⟨⟨bb,rfl,hbb⟩,hbl⟩)
      have HBB2:=Lib.hid hbb
      have HRO20:=Lib.hid (HRO4.out.call hbl)
      have HOB20:=Lib.hid HRO20.out.obs
      clear HDN hbb hbl HRO4 n0 n1
      have m10:W20.cell? ⟨w.heap.size+1,0,none⟩=some (.int .i64 0):=HOB20.out.cell 1 0 rfl rfl
      have z10:W20.frozen? ⟨w.heap.size+1,0,none⟩=false:=HOB20.out.frz 1 0 rfl
      have m11:W20.cell? ⟨w.heap.size+1,1,none⟩=some (.slice none 0 0):=HOB20.out.cell 1 1 rfl rfl
      have z11:W20.frozen? ⟨w.heap.size+1,1,none⟩=false:=HOB20.out.frz 1 1 rfl
      have HE:Hid (rdnE N fs v=doneE (N - 1) (renL v (dnL fs x))):=HRE.out
      cases bb
      ·go_wp2
       obtain⟨hx,hxB⟩:=HOB20.out.ret 1 (.int .i64 0) (.slice none 0 0) rfl
       have e00:=(blk_cells hx).1 0 _ rfl
       have e01:=(blk_cells hx).1 1 _ rfl
       refine bodyPost_ret (v:=.tuple #[.agg #[.int .i64 0,.slice none 0 0],.int .i64 2]) (by simp[results,Try.f36,go_sem,e00,e01]) rfl ?_
       exact⟨HRO20.out.done (b:=false) 1 rfl (.int .i64 0) (.slice none 0 0) HE.out (by simpa using HBB2.out) rfl,hxB⟩
      ·go_wp2
       obtain⟨hx,hxB⟩:=HOB20.out.ret 1 (.int .i64 (N - 1)) (.slice A12 fs.length c12) rfl
       have e00:=(blk_cells hx).1 0 _ rfl
       have e01:=(blk_cells hx).1 1 _ rfl
       refine bodyPost_ret (v:=.tuple #[.agg #[.int .i64 (N - 1),.slice A12 fs.length c12],.int .i64 0]) (by simp[results,Try.f36,go_sem,e00,e01]) rfl ?_
       exact⟨HRO20.out.done (b:=true) 1 rfl (.int .i64 (N - 1)) (.slice A12 fs.length c12) HE.out (by simpa using HBB2.out) rfl,hxB⟩
    ·have h2:¬ (m:Int)=1:=by omega
     have HE:Hid (rdnE N fs v=.error 7):=rdnE_no HV0.out (by have:=HJ2.out.1;omega)
     clear h1
     have m10:W2.cell? ⟨w.heap.size+1,0,none⟩=some (.int .i64 0):=HOB2.out.cell 1 0 rfl rfl
     have z10:W2.frozen? ⟨w.heap.size+1,0,none⟩=false:=HOB2.out.frz 1 0 rfl
     have m11:W2.cell? ⟨w.heap.size+1,1,none⟩=some (.slice none 0 0):=HOB2.out.cell 1 1 rfl rfl
     have z11:W2.frozen? ⟨w.heap.size+1,1,none⟩=false:=HOB2.out.frz 1 1 rfl
     go_wp2
     obtain⟨hx,hxB⟩:=HOB2.out.ret 1 (.int .i64 0) (.slice none 0 0) rfl
     have e00:=(blk_cells hx).1 0 _ rfl
     have e01:=(blk_cells hx).1 1 _ rfl
     refine bodyPost_ret (v:=.tuple #[.agg #[.int .i64 0,.slice none 0 0],.int .i64 7]) (by simp[results,Try.f36,go_sem,e00,e01]) rfl ?_
     exact⟨by rw[HE.out];rfl,hxB⟩
 ·have HE:Hid (rdnE N fs v=.error 1):=by
   show _=_
   unfold rdnE
   rw[if_pos h0]
  have m10:W1.cell? ⟨w.heap.size+1,0,none⟩=some (.int .i64 0):=HOB.out.cell 1 0 rfl rfl
  have z10:W1.frozen? ⟨w.heap.size+1,0,none⟩=false:=HOB.out.frz 1 0 rfl
  have m11:W1.cell? ⟨w.heap.size+1,1,none⟩=some (.slice none 0 0):=HOB.out.cell 1 1 rfl rfl
  have z11:W1.frozen? ⟨w.heap.size+1,1,none⟩=false:=HOB.out.frz 1 1 rfl
  rcases(show v<0∨(¬ v<0∧v≥N) by omega) with h | ⟨h,h1⟩
  all_goals
   clear h0
   go_wp2
   obtain⟨hx,hxB⟩:=HOB.out.ret 1 (.int .i64 0) (.slice none 0 0) rfl
   have e00:=(blk_cells hx).1 0 _ rfl
   have e01:=(blk_cells hx).1 1 _ rfl
   refine bodyPost_ret (v:=.tuple #[.agg #[.int .i64 0,.slice none 0 0],.int .i64 1]) (by simp[results,Try.f36,go_sem,e00,e01]) rfl ?_
   exact⟨by rw[HE.out];rfl,hxB⟩
end Go.Proofs.Ytealnhaffphamaa
