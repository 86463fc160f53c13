/- Contracts of the functions that the statement reaches, and plain lemmas: part 16 of 31. -/
import Derived.Test.YtealnhaffphamaaS15
set_option linter.unusedVariables false
set_option linter.unusedSimpArgs false

namespace Go.Proofs.Ytealnhaffphamaa
open Go.RowKit Go.Shelf Go.Proofs.YtealnhaffphamaaW.PrintWords
open Classical
def aeL (fs:Fs) (f l1 i1 l2 i2:Nat):Fs:=
 if l1=l2 then setL fs f l1 (upToL (lpA fs f l1) i2 i1) ++ [[upToL (lpA fs f l1) i1 i2]]
 else fs.set f (((fcA fs f).set (min l1 l2) (roundL (lpA fs f l1) i1 ++ roundL (lpA fs f l2) i2)).eraseIdx (max l1 l2))
noncomputable def raeE (N:Int) (fs:Fs) (f1 l1 i1 f2 l2 i2:Int):Except Int (Int × Fs):=
 if ¬ (HasP fs f1 l1 i1∧HasP fs f2 l2 i2) then .error 1
 else if f1≠f2∨(lpA fs f1.toNat l1.toNat).getD i1.toNat 0=(lpA fs f2.toNat l2.toNat).getD i2.toNat 0∨hasE (dartsA fs (plsA fs)) ((lpA fs f1.toNat l1.toNat).getD i1.toNat 0) ((lpA fs f2.toNat l2.toNat).getD i2.toNat 0)=true then .error 7
 else doneE N (aeL fs f1.toNat l1.toNat i1.toNat l2.toNat i2.toNat)
theorem hasE_iff {ds:List PV} {v w:Int}:hasE ds v w=true↔∃x∈ds,x.v=v∧x.a=w:=by
 unfold hasE
 rw[List.any_eq_true]
 exact⟨fun⟨x,hx,h⟩=>⟨x,hx,by rw[Bool.and_eq_true,beq_iff_eq,beq_iff_eq] at h;exact h⟩,fun⟨x,hx,h⟩=>⟨x,hx,by rw[Bool.and_eq_true,beq_iff_eq,beq_iff_eq];exact h⟩⟩
theorem find_has {ds:List PV} {v w r:Int} (h:FindP ds v w r):(0≤r↔hasE ds v w=true):=by
 rw[hasE_iff]
 rcases h with⟨rfl,h⟩ | ⟨i,x,rfl,hx,e1,e2,_⟩
 ·exact⟨fun q=>by omega,fun⟨x,hx,e⟩=>absurd e (h x hx)⟩
 ·exact⟨fun _=>⟨x,List.mem_of_getElem? hx,e1,e2⟩,fun _=>by omega⟩
theorem upToL_len (l:List Int) (i j:Nat):(upToL l i j).length≤l.length:=by
 unfold upToL
 rw[List.length_take,turnL_len];omega
theorem upToL_mem {l:List Int} {i j:Nat} {x:Int} (h:x∈upToL l i j):x∈l:=by
 have h1:=List.mem_of_mem_take h
 unfold turnL at h1
 rcases List.mem_append.1 h1 with h1 | h1
 ·exact List.mem_of_mem_drop h1
 ·exact List.mem_of_mem_take h1
theorem roundL_fine {l:List Int} {i:Nat} (hi:i<l.length):(roundL l i).length≤l.length+1∧∀x∈roundL l i,x∈l:=by
 unfold roundL
 split
 ·exact⟨by omega,fun x hx=>hx⟩
 ·refine⟨by rw[List.length_append,turnL_len];simp,fun x hx=>?_⟩
  rcases List.mem_append.1 hx with hx | hx
  ·unfold turnL at hx
   rcases List.mem_append.1 hx with hx | hx
   ·exact List.mem_of_mem_drop hx
   ·exact List.mem_of_mem_take hx
  ·rw[List.mem_singleton] at hx
   rw[hx,List.getD_eq_getElem?_getD,List.getElem?_eq_getElem hi]
   exact List.getElem_mem hi
theorem ae_fine {N:Int} {fs:Fs} (h:RightP N fs) {f l1 i1 l2 i2:Nat} (hi1:i1<(lpA fs f l1).length) (hi2:i2<(lpA fs f l2).length):Fine 100000 (aeL fs f l1 i1 l2 i2):=by
 have hF:=h.fine
 obtain⟨a1,a2⟩:=hF.loop f l1
 obtain⟨b1,b2⟩:=hF.loop f l2
 obtain⟨d1,d2,d3⟩:=hF.face (f:=f)
 unfold aeL
 split
 ·have h1:=hF.setL f l1 (m:=2000) (x:=upToL (lpA fs f l1) i2 i1) (Nat.le_trans (upToL_len _ _ _) a1) (fun v hv=>a2 v (upToL_mem hv))
  exact(h1.app (Fine.one (m:=2000) (y:=[upToL (lpA fs f l1) i1 i2]) (by omega) (by simp) (by simpa using Nat.le_trans (upToL_len _ _ _) a1) (fun v hv=>a2 v (upToL_mem (by simpa using hv))))).mono (by omega)
 ·obtain⟨r1,r2⟩:=roundL_fine hi1
  obtain⟨s1,s2⟩:=roundL_fine hi2
  have hs:=List.eraseIdx_sublist ((fcA fs f).set (min l1 l2) (roundL (lpA fs f l1) i1 ++ roundL (lpA fs f l2) i2)) (max l1 l2)
  refine(hF.setF f (m:=7000) (Nat.le_trans hs.length_le (by simp;omega)) (Nat.le_trans (sub_flatten hs).length_le ?_) (fun v hv=>?_)).mono (by omega)
  ·exact Nat.le_trans (flatten_set _ _ _) (by rw[List.length_append];omega)
  ·rcases mem_flatten_set ((sub_flatten hs).subset hv) with q | q
   ·exact d3 v q
   ·rcases List.mem_append.1 q with q | q
    ·exact a2 v (r2 v q)
    ·exact b2 v (s2 v q)
set_option maxRecDepth 100000 in
set_option maxHeartbeats 8000000 in
theorem raddEdge_any (N:Int) (A:Option Addr) (c:Nat) (fs:Fs) (f1 l1 i1 f2 l2 i2:Int) (w:World) (hF:RF w A fs) (hc:fs.length≤c) (hR:RightP N fs) :
  Calls Try.prog 37 #[.agg #[.int .i64 N,.slice A fs.length c],.agg #[.int .i64 f1,.int .i64 l1,.int .i64 i1],.agg #[.int .i64 f2,.int .i64 l2,.int .i64 i2]] w fun e w'=>OpT (raeE N fs f1 l1 i1 f2 l2 i2) e w'∧Below w.heap.size w w':=by
 have HIN1:=Lib.hid (fun(W:World) (hb:Below w.heap.size w W)=>in_o N A c fs f1 l1 i1 W (hF.below hb))
 have HIN2:=Lib.hid (fun(W:World) (hb:Below w.heap.size w W)=>in_o N A c fs f2 l2 i2 W (hF.below hb))
 obtain⟨W1,hW1⟩:∃W1,W1=(((w.alloc (.cells #[.int .i64 N,.slice A fs.length c] 26)).alloc (.cells #[.int .i64 f1,.int .i64 l1,.int .i64 i1] 34)).alloc (.cells #[.int .i64 f2,.int .i64 l2,.int .i64 i2] 34)).alloc (.cells #[.int .i64 0,.slice none 0 0] 26):=⟨_,rfl⟩
 have HOB:Hid (Obs [.cells #[.int .i64 N,.slice A fs.length c] 26,.cells #[.int .i64 f1,.int .i64 l1,.int .i64 i1] 34,.cells #[.int .i64 f2,.int .i64 l2,.int .i64 i2] 34,.cells #[.int .i64 0,.slice none 0 0] 26] w W1):=by rw[hW1];exact Obs.four w _ _ _ _
 have HF:=Lib.hid hF
 have HR:=Lib.hid hR
 have HC:=Lib.hid hc
 clear hF hR hc
 go_enter Try.func37,Try.ntmps37
 go_upto_region 1 with fail
 rw[←hW1]
 clear hW1
 have m00:W1.cell? ⟨w.heap.size,0,none⟩=some (.int .i64 N):=HOB.out.cell 0 0 rfl rfl
 have m01:W1.cell? ⟨w.heap.size,1,none⟩=some (.slice A fs.length c):=HOB.out.cell 0 1 rfl rfl
 have m10:W1.cell? ⟨w.heap.size+1,0,none⟩=some (.int .i64 f1):=HOB.out.cell 1 0 rfl rfl
 have m11:W1.cell? ⟨w.heap.size+1,1,none⟩=some (.int .i64 l1):=HOB.out.cell 1 1 rfl rfl
 have m12:W1.cell? ⟨w.heap.size+1,2,none⟩=some (.int .i64 i1):=HOB.out.cell 1 2 rfl rfl
 have m20:W1.cell? ⟨w.heap.size+1+1,0,none⟩=some (.int .i64 f2):=HOB.out.cell 2 0 rfl rfl
 have m21:W1.cell? ⟨w.heap.size+1+1,1,none⟩=some (.int .i64 l2):=HOB.out.cell 2 1 rfl rfl
 have m22:W1.cell? ⟨w.heap.size+1+1,2,none⟩=some (.int .i64 i2):=HOB.out.cell 2 2 rfl rfl
 go_wp2_with fail
 ((with_reducible refine(HIN1.out _ HOB.out.below).mono ?_);rintro e W2 ⟨⟨b,rfl,hb⟩,hbl⟩)
 have HOB2:=Lib.hid (HOB.out.call hbl)
 have HBI:=Lib.hid hb
 clear m00 m01 m10 m11 m12 m20 m21 m22
 clear HIN1 hb hbl HOB
 cases b
 ·have HE:Hid (raeE N fs f1 l1 i1 f2 l2 i2=.error 1):=by
   show _=_
   unfold raeE
   rw[if_pos (fun h=>by simpa using HBI.out.2 h.1)]
  have m30:W2.cell? ⟨w.heap.size+1+1+1,0,none⟩=some (.int .i64 0):=HOB2.out.cell 3 0 rfl rfl
  have z30:W2.frozen? ⟨w.heap.size+1+1+1,0,none⟩=false:=HOB2.out.frz 3 0 rfl
  have m31:W2.cell? ⟨w.heap.size+1+1+1,1,none⟩=some (.slice none 0 0):=HOB2.out.cell 3 1 rfl rfl
  have z31:W2.frozen? ⟨w.heap.size+1+1+1,1,none⟩=false:=HOB2.out.frz 3 1 rfl
  go_wp2
  obtain⟨hx,hxB⟩:=HOB2.out.ret 3 (.int .i64 0) (.slice none 0 0) rfl
  have e00:=(blk_cells hx).1 0 _ rfl
  have e01:=(blk_cells hx).1 1 _ rfl
  refine bodyPost_ret (v:=.tuple #[.agg #[.int .i64 0,.slice none 0 0],.int .i64 1]) (by simp[results,Try.f37,go_sem,e00,e01]) rfl ?_
  exact⟨by rw[HE.out];rfl,hxB⟩
 ·have HP1:Hid (HasP fs f1 l1 i1):=HBI.out.1 rfl
  clear HBI
  have m00:W2.cell? ⟨w.heap.size,0,none⟩=some (.int .i64 N):=HOB2.out.cell 0 0 rfl rfl
  have m01:W2.cell? ⟨w.heap.size,1,none⟩=some (.slice A fs.length c):=HOB2.out.cell 0 1 rfl rfl
  have m10:W2.cell? ⟨w.heap.size+1,0,none⟩=some (.int .i64 f1):=HOB2.out.cell 1 0 rfl rfl
  have m11:W2.cell? ⟨w.heap.size+1,1,none⟩=some (.int .i64 l1):=HOB2.out.cell 1 1 rfl rfl
  have m12:W2.cell? ⟨w.heap.size+1,2,none⟩=some (.int .i64 i1):=HOB2.out.cell 1 2 rfl rfl
  have m20:W2.cell? ⟨w.heap.size+1+1,0,none⟩=some (.int .i64 f2):=HOB2.out.cell 2 0 rfl rfl
  have m21:W2.cell? ⟨w.heap.size+1+1,1,none⟩=some (.int .i64 l2):=HOB2.out.cell 2 1 rfl rfl
  have m22:W2.cell? ⟨w.heap.size+1+1,2,none⟩=some (.int .i64 i2):=HOB2.out.cell 2 2 rfl rfl
  go_wp2_with fail
  ((with_reducible refine(HIN2.out _ HOB2.out.below).mono ?_);rintro e W3 ⟨⟨b,rfl,hb⟩,hbl⟩)
  have HOB3:=Lib.hid (HOB2.out.call hbl)
  have HBI:=Lib.hid hb
  clear m00 m01 m10 m11 m12 m20 m21 m22
  clear HIN2 hb hbl HOB2
  cases b
  ·have HE:Hid (raeE N fs f1 l1 i1 f2 l2 i2=.error 1):=by
    show _=_
    unfold raeE
    rw[if_pos (fun h=>by simpa using HBI.out.2 h.2)]
   have m30:W3.cell? ⟨w.heap.size+1+1+1,0,none⟩=some (.int .i64 0):=HOB3.out.cell 3 0 rfl rfl
   have z30:W3.frozen? ⟨w.heap.size+1+1+1,0,none⟩=false:=HOB3.out.frz 3 0 rfl
   have m31:W3.cell? ⟨w.heap.size+1+1+1,1,none⟩=some (.slice none 0 0):=HOB3.out.cell 3 1 rfl rfl
   have z31:W3.frozen? ⟨w.heap.size+1+1+1,1,none⟩=false:=HOB3.out.frz 3 1 rfl
   go_wp2
   obtain⟨hx,hxB⟩:=HOB3.out.ret 3 (.int .i64 0) (.slice none 0 0) rfl
   have e00:=(blk_cells hx).1 0 _ rfl
   have e01:=(blk_cells hx).1 1 _ rfl
   refine bodyPost_ret (v:=.tuple #[.agg #[.int .i64 0,.slice none 0 0],.int .i64 1]) (by simp[results,Try.f37,go_sem,e00,e01]) rfl ?_
   exact⟨by rw[HE.out];rfl,hxB⟩
  ·have HP2:Hid (HasP fs f2 l2 i2):=HBI.out.1 rfl
   clear HBI
   obtain⟨q1,q2,q3,q4,q5,q6⟩:=HP1.out
   obtain⟨r1,r2,r3,r4,r5,r6⟩:=HP2.out
   obtain⟨fn,rfl⟩:=Int.eq_ofNat_of_zero_le q1
   obtain⟨l1,rfl⟩:=Int.eq_ofNat_of_zero_le q3
   obtain⟨i1,rfl⟩:=Int.eq_ofNat_of_zero_le q5
   obtain⟨fm,rfl⟩:=Int.eq_ofNat_of_zero_le r1
   obtain⟨l2,rfl⟩:=Int.eq_ofNat_of_zero_le r3
   obtain⟨i2,rfl⟩:=Int.eq_ofNat_of_zero_le r5
   simp only[Int.toNat_natCast] at q4 q6 r4 r6
   have HX:Hid ((fn<fs.length∧l1<(fcA fs fn).length∧i1<(lpA fs fn l1).length)∧fm<fs.length∧l2<(fcA fs fm).length∧i2<(lpA fs fm l2).length):=⟨⟨by omega,by omega,by omega⟩,by omega,by omega,by omega⟩
   clear q1 q2 q3 q4 q5 q6 r1 r2 r3 r4 r5 r6
   have HE:Hid (∀W,Obs [.cells #[.int .i64 N,.slice A fs.length c] 26,.cells #[.int .i64 fn,.int .i64 l1,.int .i64 i1] 34,.cells #[.int .i64 fm,.int .i64 l2,.int .i64 i2] 34,.cells #[.int .i64 0,.slice none 0 0] 26] w W→(Obs [.cells #[.int .i64 N,.slice A fs.length c] 26,.cells #[.int .i64 fn,.int .i64 l1,.int .i64 i1] 34,.cells #[.int .i64 fm,.int .i64 l2,.int .i64 i2] 34,.cells #[.int .i64 0,.slice none 0 0] 26] w W∧W.cell? ⟨w.heap.size,0,none⟩=some (.int .i64 N)∧W.cell? ⟨w.heap.size,1,none⟩=some (.slice A fs.length c)∧W.cell? ⟨w.heap.size+1,0,none⟩=some (.int .i64 fn)∧W.cell? ⟨w.heap.size+1,1,none⟩=some (.int .i64 l1)∧W.cell? ⟨w.heap.size+1,2,none⟩=some (.int .i64 i1)∧W.cell? ⟨w.heap.size+1+1,0,none⟩=some (.int .i64 fm)∧W.cell? ⟨w.heap.size+1+1,1,none⟩=some (.int .i64 l2)∧W.cell? ⟨w.heap.size+1+1,2,none⟩=some (.int .i64 i2))):=fun W h=>⟨h,h.cell 0 0 rfl rfl,h.cell 0 1 rfl rfl,h.cell 1 0 rfl rfl,h.cell 1 1 rfl rfl,h.cell 1 2 rfl rfl,h.cell 2 0 rfl rfl,h.cell 2 1 rfl rfl,h.cell 2 2 rfl rfl⟩
   have HKB:Hid (∀W W1,(Obs [.cells #[.int .i64 N,.slice A fs.length c] 26,.cells #[.int .i64 fn,.int .i64 l1,.int .i64 i1] 34,.cells #[.int .i64 fm,.int .i64 l2,.int .i64 i2] 34,.cells #[.int .i64 0,.slice none 0 0] 26] w W∧W.cell? ⟨w.heap.size,0,none⟩=some (.int .i64 N)∧W.cell? ⟨w.heap.size,1,none⟩=some (.slice A fs.length c)∧W.cell? ⟨w.heap.size+1,0,none⟩=some (.int .i64 fn)∧W.cell? ⟨w.heap.size+1,1,none⟩=some (.int .i64 l1)∧W.cell? ⟨w.heap.size+1,2,none⟩=some (.int .i64 i1)∧W.cell? ⟨w.heap.size+1+1,0,none⟩=some (.int .i64 fm)∧W.cell? ⟨w.heap.size+1+1,1,none⟩=some (.int .i64 l2)∧W.cell? ⟨w.heap.size+1+1,2,none⟩=some (.int .i64 i2))→Below W.heap.size W W1→(Obs [.cells #[.int .i64 N,.slice A fs.length c] 26,.cells #[.int .i64 fn,.int .i64 l1,.int .i64 i1] 34,.cells #[.int .i64 fm,.int .i64 l2,.int .i64 i2] 34,.cells #[.int .i64 0,.slice none 0 0] 26] w W1∧W1.cell? ⟨w.heap.size,0,none⟩=some (.int .i64 N)∧W1.cell? ⟨w.heap.size,1,none⟩=some (.slice A fs.length c)∧W1.cell? ⟨w.heap.size+1,0,none⟩=some (.int .i64 fn)∧W1.cell? ⟨w.heap.size+1,1,none⟩=some (.int .i64 l1)∧W1.cell? ⟨w.heap.size+1,2,none⟩=some (.int .i64 i1)∧W1.cell? ⟨w.heap.size+1+1,0,none⟩=some (.int .i64 fm)∧W1.cell? ⟨w.heap.size+1+1,1,none⟩=some (.int .i64 l2)∧W1.cell? ⟨w.heap.size+1+1,2,none⟩=some (.int .i64 i2))):=fun W W1 h hb=>HE.out W1 (h.1.call hb)
   obtain⟨v,hv⟩:∃v,v=(lpA fs fn l1).getD i1 0:=⟨_,rfl⟩
   obtain⟨u,hu⟩:∃u,u=(lpA fs fm l2).getD i2 0:=⟨_,rfl⟩
   have HN1:Hid (∀W,(Obs [.cells #[.int .i64 N,.slice A fs.length c] 26,.cells #[.int .i64 fn,.int .i64 l1,.int .i64 i1] 34,.cells #[.int .i64 fm,.int .i64 l2,.int .i64 i2] 34,.cells #[.int .i64 0,.slice none 0 0] 26] w W∧W.cell? ⟨w.heap.size,0,none⟩=some (.int .i64 N)∧W.cell? ⟨w.heap.size,1,none⟩=some (.slice A fs.length c)∧W.cell? ⟨w.heap.size+1,0,none⟩=some (.int .i64 fn)∧W.cell? ⟨w.heap.size+1,1,none⟩=some (.int .i64 l1)∧W.cell? ⟨w.heap.size+1,2,none⟩=some (.int .i64 i1)∧W.cell? ⟨w.heap.size+1+1,0,none⟩=some (.int .i64 fm)∧W.cell? ⟨w.heap.size+1+1,1,none⟩=some (.int .i64 l2)∧W.cell? ⟨w.heap.size+1+1,2,none⟩=some (.int .i64 i2))→Calls Try.prog 70 #[.agg #[.int .i64 N,.slice A fs.length c],.agg #[.int .i64 fn,.int .i64 l1,.int .i64 i1]] W fun e w'=>e=.returned (.int .i64 v)∧Below W.heap.size W w'):=fun W h=>by rw[hv];exact node_any N A c fs fn l1 i1 W (HF.out.below h.1.below) HX.out.1.1 HX.out.1.2.1 HX.out.1.2.2
   have HN2:Hid (∀W,(Obs [.cells #[.int .i64 N,.slice A fs.length c] 26,.cells #[.int .i64 fn,.int .i64 l1,.int .i64 i1] 34,.cells #[.int .i64 fm,.int .i64 l2,.int .i64 i2] 34,.cells #[.int .i64 0,.slice none 0 0] 26] w W∧W.cell? ⟨w.heap.size,0,none⟩=some (.int .i64 N)∧W.cell? ⟨w.heap.size,1,none⟩=some (.slice A fs.length c)∧W.cell? ⟨w.heap.size+1,0,none⟩=some (.int .i64 fn)∧W.cell? ⟨w.heap.size+1,1,none⟩=some (.int .i64 l1)∧W.cell? ⟨w.heap.size+1,2,none⟩=some (.int .i64 i1)∧W.cell? ⟨w.heap.size+1+1,0,none⟩=some (.int .i64 fm)∧W.cell? ⟨w.heap.size+1+1,1,none⟩=some (.int .i64 l2)∧W.cell? ⟨w.heap.size+1+1,2,none⟩=some (.int .i64 i2))→Calls Try.prog 70 #[.agg #[.int .i64 N,.slice A fs.length c],.agg #[.int .i64 fm,.int .i64 l2,.int .i64 i2]] W fun e w'=>e=.returned (.int .i64 u)∧Below W.heap.size W w'):=fun W h=>by rw[hu];exact node_any N A c fs fm l2 i2 W (HF.out.below h.1.below) HX.out.2.1 HX.out.2.2.1 HX.out.2.2.2
   have HV:=Lib.hid hv
   have HU:=Lib.hid hu
   clear hv hu
   go_upto_region 3 with fail
   go_cut [8,9] from 10 (fun s8 s9 Wr=>s8=.int .i64 v∧s9=.int .i64 u∧Hid (Obs [.cells #[.int .i64 N,.slice A fs.length c] 26,.cells #[.int .i64 fn,.int .i64 l1,.int .i64 i1] 34,.cells #[.int .i64 fm,.int .i64 l2,.int .i64 i2] 34,.cells #[.int .i64 0,.slice none 0 0] 26] w Wr))
   case first=>
    go_region_held3 (fun W=>Obs [.cells #[.int .i64 N,.slice A fs.length c] 26,.cells #[.int .i64 fn,.int .i64 l1,.int .i64 i1] 34,.cells #[.int .i64 fm,.int .i64 l2,.int .i64 i2] 34,.cells #[.int .i64 0,.slice none 0 0] 26] w W∧W.cell? ⟨w.heap.size,0,none⟩=some (.int .i64 N)∧W.cell? ⟨w.heap.size,1,none⟩=some (.slice A fs.length c)∧W.cell? ⟨w.heap.size+1,0,none⟩=some (.int .i64 fn)∧W.cell? ⟨w.heap.size+1,1,none⟩=some (.int .i64 l1)∧W.cell? ⟨w.heap.size+1,2,none⟩=some (.int .i64 i1)∧W.cell? ⟨w.heap.size+1+1,0,none⟩=some (.int .i64 fm)∧W.cell? ⟨w.heap.size+1+1,1,none⟩=some (.int .i64 l2)∧W.cell? ⟨w.heap.size+1+1,2,none⟩=some (.int .i64 i2)) ((first | (with_reducible exact HKB.out _ _ (by assumption) hb1) | (with_reducible exact HE.out _ (HOB3.out.grown (grown_drew _))))) ((first | (go_at_call 70;(with_reducible refine(HN1.out _ (by assumption)).mono ?_);rintro e w1 ⟨rfl,hb1⟩) | (go_at_call 70;(with_reducible refine(HN2.out _ (by assumption)).mono ?_);rintro e w1 ⟨rfl,hb1⟩)))
    all_goals
     go_wp2
     go_meet
     case rel=>exact⟨rfl,rfl,And.left (by assumption)⟩
   case rest=>
    obtain⟨rfl,rfl,HOB4⟩:=hcut
    rename World=>W4
    clear HE HKB HN1 HN2 HOB3 HP1 HP2
    have m00:W4.cell? ⟨w.heap.size,0,none⟩=some (.int .i64 N):=HOB4.out.cell 0 0 rfl rfl
    have m01:W4.cell? ⟨w.heap.size,1,none⟩=some (.slice A fs.length c):=HOB4.out.cell 0 1 rfl rfl
    have m10:W4.cell? ⟨w.heap.size+1,0,none⟩=some (.int .i64 fn):=HOB4.out.cell 1 0 rfl rfl
    have m11:W4.cell? ⟨w.heap.size+1,1,none⟩=some (.int .i64 l1):=HOB4.out.cell 1 1 rfl rfl
    have m12:W4.cell? ⟨w.heap.size+1,2,none⟩=some (.int .i64 i1):=HOB4.out.cell 1 2 rfl rfl
    have m20:W4.cell? ⟨w.heap.size+1+1,0,none⟩=some (.int .i64 fm):=HOB4.out.cell 2 0 rfl rfl
    have m21:W4.cell? ⟨w.heap.size+1+1,1,none⟩=some (.int .i64 l2):=HOB4.out.cell 2 1 rfl rfl
    have m22:W4.cell? ⟨w.heap.size+1+1,2,none⟩=some (.int .i64 i2):=HOB4.out.cell 2 2 rfl rfl
    have HE7:Hid ((fn≠fm∨v=u∨hasE (dartsA fs (plsA fs)) v u=true)→raeE N fs fn l1 i1 fm l2 i2=.error 7):=fun h=>by
     have hx:=HX.out
     unfold raeE
     rw[if_neg (fun q=>q ⟨⟨by omega,by omega,by omega,by simp only[Int.toNat_natCast];omega,by omega,by simp only[Int.toNat_natCast];omega⟩,by omega,by omega,by omega,by simp only[Int.toNat_natCast];omega,by omega,by simp only[Int.toNat_natCast];omega⟩)]
     simp only[Int.toNat_natCast]
     rw[←HV.out,←HU.out,if_pos (by rcases h with h | h;exact .inl (by omega);exact .inr h)]
    by_cases h1:fn=fm
    ·subst h1
     by_cases h2:v=u
     ·have HE:Hid (raeE N fs fn l1 i1 fn l2 i2=.error 7):=HE7.out (.inr (.inl h2))
      have m30:W4.cell? ⟨w.heap.size+1+1+1,0,none⟩=some (.int .i64 0):=HOB4.out.cell 3 0 rfl rfl
      have z30:W4.frozen? ⟨w.heap.size+1+1+1,0,none⟩=false:=HOB4.out.frz 3 0 rfl
      have m31:W4.cell? ⟨w.heap.size+1+1+1,1,none⟩=some (.slice none 0 0):=HOB4.out.cell 3 1 rfl rfl
      have z31:W4.frozen? ⟨w.heap.size+1+1+1,1,none⟩=false:=HOB4.out.frz 3 1 rfl
      have h3:(v == u)=true:=by simpa using h2
      clear h2
      go_wp2
      obtain⟨hx,hxB⟩:=HOB4.out.ret 3 (.int .i64 0) (.slice none 0 0) rfl
      have e00:=(blk_cells hx).1 0 _ rfl
      have e01:=(blk_cells hx).1 1 _ rfl
      refine bodyPost_ret (v:=.tuple #[.agg #[.int .i64 0,.slice none 0 0],.int .i64 7]) (by simp[results,Try.f37,go_sem,e00,e01]) rfl ?_
      exact⟨by rw[HE.out];rfl,hxB⟩
     ·have h3:(v == u)=false:=by simpa using h2
      have HVU:Hid (v≠u):=h2
      clear h2
      have hcap:(plsA fs).length≤100000:=HR.out.fine.cap (by omega)
      have HEG:=Lib.hid (edgesR_any N A c fs W4 (HF.out.below HOB4.out.below) HC.out (HR.out.fine.sm (by omega)) hcap)
      obtain⟨ds,hds⟩:∃ds,ds=dartsA fs (plsA fs):=⟨_,rfl⟩
      rw[←hds] at HE7 HEG
      have hdl:ds.length≤1000000:=by have:=List.length_filter_le (dartB fs) (plsA fs);rw[hds];unfold dartsA;omega
      have HDS:Hid (ds=dartsA fs (plsA fs)∧ds.length≤1000000):=⟨hds,hdl⟩
      clear hcap hds hdl
      go_wp2_with fail
      ((with_reducible refine(HEG.out).mono ?_);rintro e W5 ⟨v5,rfl,hre,hbl⟩)
      have HOB5:=Lib.hid (HOB4.out.call hbl)
      have HFD:=Lib.hid (findR_any ds HDS.out.2 v u v5 W5 hre)
      clear m00 m01 m10 m11 m12 m20 m21 m22
      clear HEG hre hbl
      go_wp2_with fail
      ((with_reducible refine(HFD.out).mono ?_);rintro e W6 ⟨⟨r,rfl,hr⟩,nq,rfl⟩)
      have HFR:=Lib.hid (find_has hr)
      have HOB6:=Lib.hid (HOB5.out.call (Drawn0.below ⟨⟨nq,rfl⟩⟩))
      clear hr HFD HOB5 HOB4
      generalize W5.drewN nq=W6 at HOB6 ⊢
      by_cases h4:r≥0
      ·have HE:Hid (raeE N fs fn l1 i1 fn l2 i2=.error 7):=HE7.out (.inr (.inr (HFR.out.1 h4)))
       have m30:W6.cell? ⟨w.heap.size+1+1+1,0,none⟩=some (.int .i64 0):=HOB6.out.cell 3 0 rfl rfl
       have z30:W6.frozen? ⟨w.heap.size+1+1+1,0,none⟩=false:=HOB6.out.frz 3 0 rfl
       have m31:W6.cell? ⟨w.heap.size+1+1+1,1,none⟩=some (.slice none 0 0):=HOB6.out.cell 3 1 rfl rfl
       have z31:W6.frozen? ⟨w.heap.size+1+1+1,1,none⟩=false:=HOB6.out.frz 3 1 rfl
       go_wp2
       obtain⟨hx,hxB⟩:=HOB6.out.ret 3 (.int .i64 0) (.slice none 0 0) rfl
       have e00:=(blk_cells hx).1 0 _ rfl
       have e01:=(blk_cells hx).1 1 _ rfl
       refine bodyPost_ret (v:=.tuple #[.agg #[.int .i64 0,.slice none 0 0],.int .i64 7]) (by simp[results,Try.f37,go_sem,e00,e01]) rfl ?_
       exact⟨by rw[HE.out];rfl,hxB⟩
      ·have HOK:Hid (raeE N fs fn l1 i1 fn l2 i2=doneE N (aeL fs fn l1 i1 l2 i2)):=by
        have hx:=HX.out
        have hr:=HFR.out
        rw[HDS.out.1] at hr
        show _=_
        unfold raeE
        rw[if_neg (fun q=>q ⟨⟨by omega,by omega,by omega,by simp only[Int.toNat_natCast];omega,by omega,by simp only[Int.toNat_natCast];omega⟩,by omega,by omega,by omega,by simp only[Int.toNat_natCast];omega,by omega,by simp only[Int.toNat_natCast];omega⟩)]
        simp only[Int.toNat_natCast]
        rw[←HV.out,←HU.out,if_neg (by rintro(q | q | q);exact q rfl;exact HVU.out q;exact h4 (hr.2 q))]
       clear HE7 HFR HDS
       go_upto_region 6 with fail
       have HOW:=Lib.hid (rown_right N A c fs W6 (HF.out.below HOB6.out.below) HC.out HR.out)
       have m00:W6.cell? ⟨w.heap.size,0,none⟩=some (.int .i64 N):=HOB6.out.cell 0 0 rfl rfl
       have m01:W6.cell? ⟨w.heap.size,1,none⟩=some (.slice A fs.length c):=HOB6.out.cell 0 1 rfl rfl
       go_upto_region 7 with((with_reducible refine(HOW.out).mono ?_);rintro e W4 ⟨⟨g,cV,vf,vl,rfl,hM,hMD⟩,hbl⟩)
       clear m00 m01 HOW
       clear hMD
       have HRW:Hid (RW [.cells #[.int .i64 N,.slice A fs.length c] 26,.cells #[.int .i64 fn,.int .i64 l1,.int .i64 i1] 34,.cells #[.int .i64 fn,.int .i64 l2,.int .i64 i2] 34,.cells #[.int .i64 0,.slice none 0 0] 26] w W6.heap.size W4.heap.size g cV N fs vf vl (W4.alloc (.cells #[.int .i64 N,.slice (some ⟨g,0,none⟩) fs.length cV] 26))):=by
        have hg3:W4.grownBy (W4.alloc (.cells #[.int .i64 N,.slice (some ⟨g,0,none⟩) fs.length cV] 26)) none:=World.grownBy_alloc _ _ _
        exact⟨(HOB6.out.call hbl).grown hg3,blk_new W4 _,hM.kept hg3 (fun r e=>by cases e),⟨HOB6.out.size,hbl.size⟩,fun r hr=>(hM.lt hr).2⟩
       clear hM hbl HOB6
       generalize W4.heap.size=O at HRW ⊢
       generalize W6.heap.size=B at HRW
       generalize W4.alloc (.cells #[.int .i64 N,.slice (some ⟨g,0,none⟩) fs.length cV] 26)=W5 at HRW ⊢
       obtain⟨g1,cF,hvf,hcF⟩:=HRW.out.form HX.out.1.1 (by have:=HX.out;omega)
       obtain⟨AU,cU,hAU,-,-⟩:=ints_reads rfl ((HRW.out.mw.face fn HX.out.1.1).ownL l1 HX.out.1.2.1)
       obtain⟨AV,cW,hAV,-,-⟩:=ints_reads rfl ((HRW.out.mw.face fn HX.out.1.1).ownL l2 HX.out.2.2.1)
       have HVF:=Lib.hid hvf
       have HVA:Hid (vl fn l1=.slice AU (lpA fs fn l1).length cU):=hAU
       have HVB:Hid (vl fn l2=.slice AV (lpA fs fn l2).length cW):=hAV
       have HGG:Hid (g1<O∧g<O∧g≠g1∧B≤g1∧B≤g∧w.heap.size+4≤B):=⟨HRW.out.top g1 (.inr ⟨fn,HX.out.1.1,.inl (by rw[hvf];rfl)⟩),HRW.out.top g (.inl rfl),fun e=>own_other_types HRW.out.mw.own (HRW.out.mw.face fn HX.out.1.1).own (by decide) (show _=some g from rfl) (by rw[hvf,e];rfl),(HRW.out.mw.lt (b:=g1) (.inr ⟨fn,HX.out.1.1,.inl (by rw[hvf];rfl)⟩)).1,(HRW.out.mw.lt (b:=g) (.inl rfl)).1,HRW.out.low.1⟩
       clear hvf hAU hAV
       have HRA:Hid (∀W,RW [.cells #[.int .i64 N,.slice A fs.length c] 26,.cells #[.int .i64 fn,.int .i64 l1,.int .i64 i1] 34,.cells #[.int .i64 fn,.int .i64 l2,.int .i64 i2] 34,.cells #[.int .i64 0,.slice none 0 0] 26] w B O g cV N fs vf vl W→LR W (.slice AU (lpA fs fn l1).length cU) (lpA fs fn l1)):=fun W h=>by have h1:=LR.of_own ((h.mw.face fn HX.out.1.1).ownL l1 HX.out.1.2.1);rw[HVA.out] at h1;exact h1
       have HRB:Hid (∀W,RW [.cells #[.int .i64 N,.slice A fs.length c] 26,.cells #[.int .i64 fn,.int .i64 l1,.int .i64 i1] 34,.cells #[.int .i64 fn,.int .i64 l2,.int .i64 i2] 34,.cells #[.int .i64 0,.slice none 0 0] 26] w B O g cV N fs vf vl W→LR W (.slice AV (lpA fs fn l2).length cW) (lpA fs fn l2)):=fun W h=>by have h1:=LR.of_own ((h.mw.face fn HX.out.1.1).ownL l2 HX.out.2.2.1);rw[HVB.out] at h1;exact h1
       have HNG:Hid (∀W,RW [.cells #[.int .i64 N,.slice A fs.length c] 26,.cells #[.int .i64 fn,.int .i64 l1,.int .i64 i1] 34,.cells #[.int .i64 fn,.int .i64 l2,.int .i64 i2] 34,.cells #[.int .i64 0,.slice none 0 0] 26] w B O g cV N fs vf vl W→NoI W (some g1)):=fun W h=>by have h1:=NoI.own (h.mw.face fn HX.out.1.1).own (by decide);rw[HVF.out] at h1;exact h1
       have HL1:Hid ((lpA fs fn l1).length≤2000∧(lpA fs fn l2).length≤2000):=⟨(HR.out.fine.loop fn l1).1,(HR.out.fine.loop fn l2).1⟩
       have m00:W5.cell? ⟨w.heap.size,0,none⟩=some (.int .i64 N):=HRW.out.obs.cell 0 0 rfl rfl
       have m01:W5.cell? ⟨w.heap.size,1,none⟩=some (.slice A fs.length c):=HRW.out.obs.cell 0 1 rfl rfl
       have m10:W5.cell? ⟨w.heap.size+1,0,none⟩=some (.int .i64 fn):=HRW.out.obs.cell 1 0 rfl rfl
       have m11:W5.cell? ⟨w.heap.size+1,1,none⟩=some (.int .i64 l1):=HRW.out.obs.cell 1 1 rfl rfl
       have m12:W5.cell? ⟨w.heap.size+1,2,none⟩=some (.int .i64 i1):=HRW.out.obs.cell 1 2 rfl rfl
       have m20:W5.cell? ⟨w.heap.size+1+1,0,none⟩=some (.int .i64 fn):=HRW.out.obs.cell 2 0 rfl rfl
       have m21:W5.cell? ⟨w.heap.size+1+1,1,none⟩=some (.int .i64 l2):=HRW.out.obs.cell 2 1 rfl rfl
       have m22:W5.cell? ⟨w.heap.size+1+1,2,none⟩=some (.int .i64 i2):=HRW.out.obs.cell 2 2 rfl rfl
       have n1:=HRW.out.o1
       have n2:W5.cell? ⟨g,fn,none⟩=some (.slice (some ⟨g1,0,none⟩) ((fcA fs fn).length) cF):=by rw[HRW.out.face HX.out.1.1,HVF.out]
       have n3:W5.cell? ⟨g1,l1,none⟩=some (.slice AU (lpA fs fn l1).length cU):=(HRW.out.loop HX.out.1.1 HX.out.1.2.1 HVF.out).trans (by rw[HVA.out])
       have n4:W5.cell? ⟨g1,l2,none⟩=some (.slice AV (lpA fs fn l2).length cW):=(HRW.out.loop HX.out.1.1 HX.out.2.2.1 HVF.out).trans (by rw[HVB.out])
       have z1:(fn:Int)<(fs.length:Int):=by have:=HX.out;omega
       have z2:(l1:Int)<((fcA fs fn).length:Int):=by have:=HX.out;omega
       have z3:(l2:Int)<((fcA fs fn).length:Int):=by have:=HX.out;omega
       go_upto_region 8 with fail
       clear n1 n2
       go_quiet (fail)
       rename_i nq
       have HRW6:=Lib.hid (HRW.out.call (Drawn0.below ⟨⟨nq,rfl⟩⟩))
       clear HRW n3 n4 z1
       generalize W5.drewN nq=W6 at HRW6 ⊢
       clear m00 m01 m10 m11 m12 m20 m21 m22
       have m10:W6.cell? ⟨w.heap.size+1,0,none⟩=some (.int .i64 fn):=HRW6.out.obs.cell 1 0 rfl rfl
       have m11:W6.cell? ⟨w.heap.size+1,1,none⟩=some (.int .i64 l1):=HRW6.out.obs.cell 1 1 rfl rfl
       have m12:W6.cell? ⟨w.heap.size+1,2,none⟩=some (.int .i64 i1):=HRW6.out.obs.cell 1 2 rfl rfl
       have m20:W6.cell? ⟨w.heap.size+1+1,0,none⟩=some (.int .i64 fn):=HRW6.out.obs.cell 2 0 rfl rfl
       have m21:W6.cell? ⟨w.heap.size+1+1,1,none⟩=some (.int .i64 l2):=HRW6.out.obs.cell 2 1 rfl rfl
       have m22:W6.cell? ⟨w.heap.size+1+1,2,none⟩=some (.int .i64 i2):=HRW6.out.obs.cell 2 2 rfl rfl
       by_cases h5:l1=l2
       ·subst h5
        go_upto_region 10 with fail
        clear m10 m11 m12 m20 m21 m22
        have HE:Hid (∀W,RW [.cells #[.int .i64 N,.slice A fs.length c] 26,.cells #[.int .i64 fn,.int .i64 l1,.int .i64 i1] 34,.cells #[.int .i64 fn,.int .i64 l1,.int .i64 i2] 34,.cells #[.int .i64 0,.slice none 0 0] 26] w B O g cV N fs vf vl W→(W.cell? ⟨w.heap.size+1,1,none⟩=some (.int .i64 l1)∧W.cell? ⟨w.heap.size+1,2,none⟩=some (.int .i64 i1)∧W.cell? ⟨w.heap.size+1+1,2,none⟩=some (.int .i64 i2)∧W.frozen? ⟨g1,l1,none⟩=false∧W.cell? ⟨g1,l1,none⟩=some (clO W ⟨g1,l1,none⟩))):=fun W h=>⟨h.obs.cell 1 1 rfl rfl,h.obs.cell 1 2 rfl rfl,h.obs.cell 2 2 rfl rfl,(by have h1:=(h.mw.face fn HX.out.1.1).own;rw[HVF.out] at h1;exact World.ownsRow.frozenAt h1 l1),clO_of (h.loop HX.out.1.1 HX.out.1.2.1 HVF.out)⟩
        have HKS:Hid (∀W v,(W.cell? ⟨w.heap.size+1,1,none⟩=some (.int .i64 l1)∧W.cell? ⟨w.heap.size+1,2,none⟩=some (.int .i64 i1)∧W.cell? ⟨w.heap.size+1+1,2,none⟩=some (.int .i64 i2)∧W.frozen? ⟨g1,l1,none⟩=false∧W.cell? ⟨g1,l1,none⟩=some (clO W ⟨g1,l1,none⟩))→((W.setCell ⟨g1,l1,none⟩ v).cell? ⟨w.heap.size+1,1,none⟩=some (.int .i64 l1)∧(W.setCell ⟨g1,l1,none⟩ v).cell? ⟨w.heap.size+1,2,none⟩=some (.int .i64 i1)∧(W.setCell ⟨g1,l1,none⟩ v).cell? ⟨w.heap.size+1+1,2,none⟩=some (.int .i64 i2)∧(W.setCell ⟨g1,l1,none⟩ v).frozen? ⟨g1,l1,none⟩=false∧(W.setCell ⟨g1,l1,none⟩ v).cell? ⟨g1,l1,none⟩=some (clO (W.setCell ⟨g1,l1,none⟩ v) ⟨g1,l1,none⟩))):=fun W v h=>⟨set_far (by show g1≠w.heap.size+1;have:=HGG.out;omega) h.1,set_far (by show g1≠w.heap.size+1;have:=HGG.out;omega) h.2.1,set_far (by show g1≠w.heap.size+1+1;have:=HGG.out;omega) h.2.2.1,set_frz h.2.2.2.1,set_here h.2.2.2.2⟩
        have HUT:Hid (∀W,RW [.cells #[.int .i64 N,.slice A fs.length c] 26,.cells #[.int .i64 fn,.int .i64 l1,.int .i64 i1] 34,.cells #[.int .i64 fn,.int .i64 l1,.int .i64 i2] 34,.cells #[.int .i64 0,.slice none 0 0] 26] w B O g cV N fs vf vl W→Calls Try.prog 71 #[.slice AU (lpA fs fn l1).length cU,.int .i64 i2,.int .i64 i1] W fun e w'=>(∃v,e=.returned v∧LR w' v (upToL (lpA fs fn l1) i2 i1))∧Below W.heap.size W w'):=fun W h=>upTo_any AU _ cU i2 i1 (lpA fs fn l1) W rfl (HRA.out W h).reads.2.2 (HRA.out W h).reads.2.1 HX.out.2.2.2 HX.out.1.2.2 (by have:=HL1.out;omega)
        go_region_held3 (fun W=>(W.cell? ⟨w.heap.size+1,1,none⟩=some (.int .i64 l1)∧W.cell? ⟨w.heap.size+1,2,none⟩=some (.int .i64 i1)∧W.cell? ⟨w.heap.size+1+1,2,none⟩=some (.int .i64 i2)∧W.frozen? ⟨g1,l1,none⟩=false∧W.cell? ⟨g1,l1,none⟩=some (clO W ⟨g1,l1,none⟩))) ((first | (with_reducible exact HKS.out _ _ (by assumption)) | (with_reducible exact HE.out _ ((HRW6.out.grown (grown_drew _)).call hb1)) | (with_reducible exact HE.out _ (HRW6.out.grown (grown_drew _))))) ((go_at_call 71;(with_reducible refine(HUT.out _ (HRW6.out.grown (grown_drew _))).mono ?_);rintro e W10 ⟨⟨v10,rfl,hlr⟩,hb1⟩;obtain⟨A10,n10,c10,rfl⟩:=hlr.slice3))
        have hR10:=(HRW6.out.grown (grown_drew _)).call hb1
        have hRO:=hR10.put HX.out.1.1 HX.out.1.2.1 HVF.out hlr
        have hLA:=(HRA.out _ hR10).kept (grown_set W10 g1 l1 (.slice A10 n10 c10)) (HNG.out _ hR10)
        clear HE HKS HUT hR10 hlr hb1 HRW6 HRA HRB HNG z2 z3
        generalize W10.setCell _ _=W11 at hRO hLA ⊢
        have HRO:=Lib.hid hRO
        have HLA:=Lib.hid hLA
        clear hRO hLA
        have m10:W11.cell? ⟨w.heap.size+1,0,none⟩=some (.int .i64 fn):=HRO.out.obs.cell 1 0 rfl rfl
        have m11:W11.cell? ⟨w.heap.size+1,1,none⟩=some (.int .i64 l1):=HRO.out.obs.cell 1 1 rfl rfl
        have m12:W11.cell? ⟨w.heap.size+1,2,none⟩=some (.int .i64 i1):=HRO.out.obs.cell 1 2 rfl rfl
        have m20:W11.cell? ⟨w.heap.size+1+1,0,none⟩=some (.int .i64 fn):=HRO.out.obs.cell 2 0 rfl rfl
        have m21:W11.cell? ⟨w.heap.size+1+1,1,none⟩=some (.int .i64 l1):=HRO.out.obs.cell 2 1 rfl rfl
        have m22:W11.cell? ⟨w.heap.size+1+1,2,none⟩=some (.int .i64 i2):=HRO.out.obs.cell 2 2 rfl rfl
        have n1:=(blk_cells HRO.out.out).1 1 _ rfl
        have HUT:=Lib.hid (upTo_any AU _ cU i1 i2 (lpA fs fn l1) W11 rfl HLA.out.reads.2.2 HLA.out.reads.2.1 HX.out.1.2.2 HX.out.2.2.2 (by have:=HL1.out;omega))
        go_wp2_with fail
        ((with_reducible refine(HUT.out).mono ?_);rintro e W12 ⟨⟨v12,rfl,hlr⟩,hb1⟩)
        obtain⟨A12,n12,c12,rfl⟩:=hlr.slice3
        have HRO12:=Lib.hid (HRO.out.call hb1)
        have HLR:=Lib.hid hlr
        clear m10 m11 m12 m20 m21 m22
        clear n1 HUT HRO hb1 hlr HLA
        obtain⟨vf2,vl2,hm2⟩:=HRO12.out.mr
        have ho2:=((hm2.grown (World.grownBy_alloc W12 (.cells #[.slice A12 n12 c12] 36) none)).grown (World.grownBy_alloc _ (.cells #[.slice (some ⟨W12.heap.size,0,none⟩) 1 1] 37) none)).own
        rw[setL_len] at ho2
        have HO2:=Lib.hid ho2
        have HM2:=Lib.hid hm2
        clear ho2 hm2
        have hA:=(HRO12.out.grown (World.grownBy_alloc W12 (.cells #[.slice A12 n12 c12] 36) none)).grown (World.grownBy_alloc _ (.cells #[.slice (some ⟨W12.heap.size,0,none⟩) 1 1] 37) none)
        have HA:=Lib.hid hA
        clear hA
        have HB12:Hid (B≤W12.heap.size):=by have:=HRO12.out.out.lt;have:=HRO12.out.low;show B≤_;omega
        go_upto_region 13 with(at_builtin;refine wpList_keep1 rfl _ _ _ rfl B 37 Try.underlying24 infoF g cV fs.length _ rfl HO2.out (.slice (some ⟨W12.heap.size,0,none⟩) 1 1) rfl (W12.heap.size+1) rfl (by have h:=blk_new (W12.alloc (.cells #[.slice A12 n12 c12] 36)) (.cells #[.slice (some ⟨W12.heap.size,0,none⟩) 1 1] 37);simpa using h) (by have:=HR.out.fine.faces;omega) (by have:=HB12.out;simp;omega) ?_;intro g7 cap7 W7 hown7 hg7 hat7;have hout7:=HA.out.out.kept hg7 (fun e=>by injection e with e;have:=HGG.out;omega);have n9:=(blk_cells hout7).2 1;have n10:=(blk_cells hout7).1 1 _ rfl)
        have hFR:=fr_one (base:=B) ((blk_new W12 (.cells #[.slice A12 n12 c12] 36)).alloc (o':=.cells #[.slice (some ⟨W12.heap.size,0,none⟩) 1 1] 37)) HB12.out ((HLR.out.kept (World.grownBy_alloc _ _ none) (NoI.none _)).kept (World.grownBy_alloc _ _ none) (NoI.none _))
        have hM7:=((HM2.out.grown (World.grownBy_alloc _ _ none)).grown (World.grownBy_alloc _ _ none)).appF hFR (fun j hj=>Ap.of_lt (B:=W12.heap.size) (fun r q=>((HM2.out.lt.2 j hj r q)).2) (fun r q=>by cases q;exact Nat.le_refl _)) (by rw[setL_len];exact hown7) hg7
        have hob7:=HA.out.obs.kept hg7 (fun k e=>by cases e;have:=HGG.out;simp;omega)
        have HRO7:=Lib.hid (ro_new (v:=.slice (some ⟨g7,0,none⟩) (fs.length+1) cap7) hob7 hout7 hM7 HA.out.low)
        clear n9 n10 hFR hM7 hob7 hout7 hown7 hg7 hat7 HO2 HM2 HA HRO12 HLR HB12
        generalize W7.setCell _ _=W13 at HRO7 ⊢
        have HDN:=Lib.hid (HRO7.out.calls ((by have h:=ae_fine HR.out HX.out.1.2.2 HX.out.2.2.2;unfold aeL at h;rw[if_pos rfl] at h;exact h.sm (by omega))))
        have n0:=(blk_cells HRO7.out.out).1 0 _ rfl
        have n1:=(blk_cells HRO7.out.out).1 1 _ rfl
        go_wp2_with fail
        ((with_reducible refine(HDN.out).mono ?_);rintro e W20 ⟨⟨bb,rfl,hbb⟩,hbl⟩)
        have HBB2:=Lib.hid hbb
        have HRO20:=Lib.hid (HRO7.out.call hbl)
        have HOB20:=Lib.hid HRO20.out.obs
        clear HDN hbb hbl HRO7 n0 n1
        have m30:W20.cell? ⟨w.heap.size+1+1+1,0,none⟩=some (.int .i64 0):=HOB20.out.cell 3 0 rfl rfl
        have z30:W20.frozen? ⟨w.heap.size+1+1+1,0,none⟩=false:=HOB20.out.frz 3 0 rfl
        have m31:W20.cell? ⟨w.heap.size+1+1+1,1,none⟩=some (.slice none 0 0):=HOB20.out.cell 3 1 rfl rfl
        have z31:W20.frozen? ⟨w.heap.size+1+1+1,1,none⟩=false:=HOB20.out.frz 3 1 rfl
        have HE:Hid (raeE N fs fn l1 i1 fn l1 i2=doneE N ((setL fs fn l1 (upToL (lpA fs fn l1) i2 i1)) ++ [[upToL (lpA fs fn l1) i1 i2]])):=by have h:=HOK.out;unfold aeL at h;rw[if_pos rfl] at h;exact h
        cases bb
        ·go_wp2
         obtain⟨hx,hxB⟩:=HOB20.out.ret 3 (.int .i64 0) (.slice none 0 0) rfl
         have e00:=(blk_cells hx).1 0 _ rfl
         have e01:=(blk_cells hx).1 1 _ rfl
         refine bodyPost_ret (v:=.tuple #[.agg #[.int .i64 0,.slice none 0 0],.int .i64 2]) (by simp[results,Try.f37,go_sem,e00,e01]) rfl ?_
         exact⟨HRO20.out.done (b:=false) 3 rfl (.int .i64 0) (.slice none 0 0) HE.out (by simpa using HBB2.out) rfl,hxB⟩
        ·go_wp2
         obtain⟨hx,hxB⟩:=HOB20.out.ret 3 (.int .i64 N) (.slice (some ⟨g7,0,none⟩) ((fs.length+1)) cap7) rfl
         have e00:=(blk_cells hx).1 0 _ rfl
         have e01:=(blk_cells hx).1 1 _ rfl
         refine bodyPost_ret (v:=.tuple #[.agg #[.int .i64 N,.slice (some ⟨g7,0,none⟩) ((fs.length+1)) cap7],.int .i64 0]) (by simp[results,Try.f37,go_sem,e00,e01]) rfl ?_
         exact⟨HRO20.out.done (b:=true) 3 rfl (.int .i64 N) (.slice (some ⟨g7,0,none⟩) ((fs.length+1)) cap7) HE.out (by simpa using HBB2.out) rfl,hxB⟩
       ·have h6:¬ (l1:Int)=(l2:Int):=by omega
        obtain⟨k,hk⟩:∃k,k=min l1 l2:=⟨_,rfl⟩
        obtain⟨m,hm⟩:∃m,m=max l1 l2:=⟨_,rfl⟩
        have hmin:min (l1:Int) (l2:Int)=(k:Int):=by omega
        have hmax:max (l1:Int) (l2:Int)=(m:Int):=by omega
        have HKM:Hid (k=min l1 l2∧m=max l1 l2∧k<m∧m<(fcA fs fn).length):=⟨hk,hm,by omega,by have:=HX.out;omega⟩
        have H5:Hid (l1≠l2):=h5
        clear hk hm h5 z2 z3
        have HR1:=Lib.hid (round_any AU _ cU i1 (lpA fs fn l1) W6 rfl (HRA.out W6 HRW6.out).reads.2.2 (HRA.out W6 HRW6.out).reads.2.1 HX.out.1.2.2 (by have:=HL1.out;omega))
        go_upto_region 15 with((with_reducible refine(HR1.out).mono ?_);rintro e W7 ⟨⟨v7,rfl,ho7⟩,hb7⟩)
        clear m10 m11 m12 m20 m21 m22
        have HRW7:=Lib.hid (HRW6.out.call hb7)
        obtain⟨BB,hBB⟩:∃BB,BB=W6.heap.size:=⟨_,rfl⟩
        have HBB:Hid (O<BB∧BB≤W7.heap.size):=⟨by rw[hBB];exact HRW6.out.size,by rw[hBB];exact hb7.size⟩
        rw[←hBB] at ho7
        have HO7:=Lib.hid ho7
        clear HR1 ho7 hb7 hBB HRW6
        have HR2:=Lib.hid (round_any AV _ cW i2 (lpA fs fn l2) W7 rfl (HRB.out W7 HRW7.out).reads.2.2 (HRB.out W7 HRW7.out).reads.2.1 HX.out.2.2.2 (by have:=HL1.out;omega))
        have m10:W7.cell? ⟨w.heap.size+1,0,none⟩=some (.int .i64 fn):=HRW7.out.obs.cell 1 0 rfl rfl
        have m11:W7.cell? ⟨w.heap.size+1,1,none⟩=some (.int .i64 l1):=HRW7.out.obs.cell 1 1 rfl rfl
        have m12:W7.cell? ⟨w.heap.size+1,2,none⟩=some (.int .i64 i1):=HRW7.out.obs.cell 1 2 rfl rfl
        have m20:W7.cell? ⟨w.heap.size+1+1,0,none⟩=some (.int .i64 fn):=HRW7.out.obs.cell 2 0 rfl rfl
        have m21:W7.cell? ⟨w.heap.size+1+1,1,none⟩=some (.int .i64 l2):=HRW7.out.obs.cell 2 1 rfl rfl
        have m22:W7.cell? ⟨w.heap.size+1+1,2,none⟩=some (.int .i64 i2):=HRW7.out.obs.cell 2 2 rfl rfl
        go_wp2_with fail
        ((with_reducible refine(HR2.out).mono ?_);rintro e W8 ⟨⟨v8,rfl,ho8⟩,hb8⟩)
        obtain⟨A8,c8,rfl,-,hl8⟩:=own_LR rfl ho8
        have HRW8:=Lib.hid (HRW7.out.call hb8)
        have HO8:=Lib.hid (own_keptB HO7.out (grown_of_below hb8 none) (fun b e=>by cases e))
        have HR8:=Lib.hid hl8.reads.2.2
        have HBB8:Hid (O<BB∧BB≤W8.heap.size):=⟨HBB.out.1,Nat.le_trans HBB.out.2 hb8.size⟩
        clear m10 m11 m12 m20 m21 m22
        clear HR2 ho8 hb8 hl8 HRW7 HO7 HBB
        have HRL:Hid ((roundL (lpA fs fn l1) i1).length≤2001∧(roundL (lpA fs fn l2) i2).length≤2001):=⟨by have:=(roundL_fine HX.out.1.2.2).1;have:=HL1.out;omega,by have:=(roundL_fine HX.out.2.2.2).1;have:=HL1.out;omega⟩
        go_upto_region 16 with(at_builtin;refine wpList_append_ints rfl _ _ rfl BB v7 (roundL (lpA fs fn l1) i1) (roundL (lpA fs fn l2) i2) A8 _ c8 rfl rfl rfl HO8.out HR8.out HBB8.out.2 (by have:=HRL.out;omega) ?_;intro v9 W9 hown9 hg9 _)
        obtain⟨A9,n9,c9,rfl⟩:=own_slice3 hown9
        have HRW9:=Lib.hid (HRW8.out.kept hg9 (fun b e=>by have:=own_base HO8.out b e;have:=HBB8.out;omega))
        have HL9:=Lib.hid (LR.of_own hown9)
        clear hown9 hg9 HO8 HR8 HBB8 HRW8
        have m10:W9.cell? ⟨w.heap.size+1,0,none⟩=some (.int .i64 fn):=HRW9.out.obs.cell 1 0 rfl rfl
        have m11:W9.cell? ⟨w.heap.size+1,1,none⟩=some (.int .i64 l1):=HRW9.out.obs.cell 1 1 rfl rfl
        have m12:W9.cell? ⟨w.heap.size+1,2,none⟩=some (.int .i64 i1):=HRW9.out.obs.cell 1 2 rfl rfl
        have m20:W9.cell? ⟨w.heap.size+1+1,0,none⟩=some (.int .i64 fn):=HRW9.out.obs.cell 2 0 rfl rfl
        have m21:W9.cell? ⟨w.heap.size+1+1,1,none⟩=some (.int .i64 l2):=HRW9.out.obs.cell 2 1 rfl rfl
        have m22:W9.cell? ⟨w.heap.size+1+1,2,none⟩=some (.int .i64 i2):=HRW9.out.obs.cell 2 2 rfl rfl
        have n3:=World.ownsRow.frozenAt (by have h1:=(HRW9.out.mw.face fn HX.out.1.1).own;rw[HVF.out] at h1;exact h1) k
        have n4:=clO_of (HRW9.out.loop HX.out.1.1 (show k<_ by have:=HKM.out;omega) HVF.out)
        have z4:(k:Int)<((fcA fs fn).length:Int):=by have:=HKM.out;omega
        go_upto_region 17 with fail
        clear m10 m11 m12 m20 m21 m22
        have hRO:=HRW9.out.put HX.out.1.1 (show k<_ by have:=HKM.out;omega) HVF.out HL9.out
        have hM:=(MR.of HRW9.out.mw).put HX.out.1.1 (show k<_ by have:=HKM.out;omega) HL9.out HVF.out
        clear n3 n4 z4 HRW9 HL9 HRA HRB HNG
        generalize W9.setCell _ _=W16 at hRO hM ⊢
        have HRO:=Lib.hid hRO
        have HM:=Lib.hid hM
        clear hRO hM
        have z1:(fn:Int)<(fs.length:Int):=by have:=HX.out;omega
        have HE:Hid (∀W,RO [.cells #[.int .i64 N,.slice A fs.length c] 26,.cells #[.int .i64 fn,.int .i64 l1,.int .i64 i1] 34,.cells #[.int .i64 fn,.int .i64 l2,.int .i64 i2] 34,.cells #[.int .i64 0,.slice none 0 0] 26] w B O N (.slice (some ⟨g,0,none⟩) fs.length cV) (setL fs fn k (roundL (lpA fs fn l1) i1 ++ roundL (lpA fs fn l2) i2)) W→MR B (.slice (some ⟨g,0,none⟩) fs.length cV) (setL fs fn k (roundL (lpA fs fn l1) i1 ++ roundL (lpA fs fn l2) i2)) (setL fs fn k (roundL (lpA fs fn l1) i1 ++ roundL (lpA fs fn l2) i2)).length vf (fun f'=>if f'=fn then(fun j=>if j=k then .slice A9 n9 c9 else vl fn j) else vl f') W→(W.cell? ⟨O,1,none⟩=some (.slice (some ⟨g,0,none⟩) fs.length cV)∧W.cell? ⟨w.heap.size+1,0,none⟩=some (.int .i64 fn)∧W.cell? ⟨w.heap.size+1,1,none⟩=some (.int .i64 l1)∧W.cell? ⟨w.heap.size+1+1,1,none⟩=some (.int .i64 l2)∧W.frozen? ⟨g,fn,none⟩=false∧W.cell? ⟨g,fn,none⟩=some (clO W ⟨g,fn,none⟩))):=fun W h h2=>by
         have ho:=h2.own
         rw[setL_len] at ho
         have q0:=World.ownsRow.cellAt ho fn (by have:=HX.out;omega)
         rw[List.getElem?_map,List.getElem?_range HX.out.1.1] at q0
         exact⟨(blk_cells h.out).1 1 _ rfl,h.obs.cell 1 0 rfl rfl,h.obs.cell 1 1 rfl rfl,h.obs.cell 2 1 rfl rfl,World.ownsRow.frozenAt ho fn,clO_of q0⟩
        have HKS:Hid (∀W v,(W.cell? ⟨O,1,none⟩=some (.slice (some ⟨g,0,none⟩) fs.length cV)∧W.cell? ⟨w.heap.size+1,0,none⟩=some (.int .i64 fn)∧W.cell? ⟨w.heap.size+1,1,none⟩=some (.int .i64 l1)∧W.cell? ⟨w.heap.size+1+1,1,none⟩=some (.int .i64 l2)∧W.frozen? ⟨g,fn,none⟩=false∧W.cell? ⟨g,fn,none⟩=some (clO W ⟨g,fn,none⟩))→((W.setCell ⟨g,fn,none⟩ v).cell? ⟨O,1,none⟩=some (.slice (some ⟨g,0,none⟩) fs.length cV)∧(W.setCell ⟨g,fn,none⟩ v).cell? ⟨w.heap.size+1,0,none⟩=some (.int .i64 fn)∧(W.setCell ⟨g,fn,none⟩ v).cell? ⟨w.heap.size+1,1,none⟩=some (.int .i64 l1)∧(W.setCell ⟨g,fn,none⟩ v).cell? ⟨w.heap.size+1+1,1,none⟩=some (.int .i64 l2)∧(W.setCell ⟨g,fn,none⟩ v).frozen? ⟨g,fn,none⟩=false∧(W.setCell ⟨g,fn,none⟩ v).cell? ⟨g,fn,none⟩=some (clO (W.setCell ⟨g,fn,none⟩ v) ⟨g,fn,none⟩))):=fun W v h=>⟨set_far (by show g≠O;have:=HGG.out;omega) h.1,set_far (by show g≠w.heap.size+1;have:=HGG.out;omega) h.2.1,set_far (by show g≠w.heap.size+1;have:=HGG.out;omega) h.2.2.1,set_far (by show g≠w.heap.size+1+1;have:=HGG.out;omega) h.2.2.2.1,set_frz h.2.2.2.2.1,set_here h.2.2.2.2.2⟩
        have HFL:Hid (fcA (setL fs fn k (roundL (lpA fs fn l1) i1 ++ roundL (lpA fs fn l2) i2)) fn=(fcA fs fn).set k (roundL (lpA fs fn l1) i1 ++ roundL (lpA fs fn l2) i2)):=by show _=_;rw[fcA_setL HX.out.1.1,if_pos rfl]
        have HWT:Hid (∀W,MR B (.slice (some ⟨g,0,none⟩) fs.length cV) (setL fs fn k (roundL (lpA fs fn l1) i1 ++ roundL (lpA fs fn l2) i2)) (setL fs fn k (roundL (lpA fs fn l1) i1 ++ roundL (lpA fs fn l2) i2)).length vf (fun f'=>if f'=fn then(fun j=>if j=k then .slice A9 n9 c9 else vl fn j) else vl f') W→Calls Try.prog 63 #[.slice (some ⟨g1,0,none⟩) ((fcA fs fn).length) cF,.int .i64 m] W fun e w'=>(∃A m' c' lv',e=.returned (.slice A m' c')∧FR W.heap.size (.slice A m' c') (((fcA fs fn).set k (roundL (lpA fs fn l1) i1 ++ roundL (lpA fs fn l2) i2)).eraseIdx m) (((fcA fs fn).set k (roundL (lpA fs fn l1) i1 ++ roundL (lpA fs fn l2) i2)).eraseIdx m).length lv' w')∧W.grownBy w' none):=fun W h=>by
         have h1:=h.face fn (by rw[setL_len];exact HX.out.1.1)
         rw[HVF.out,HFL.out] at h1
         exact h1.without (by rw[List.length_set]) (by have:=HKM.out;omega) (by have:=HR.out.fine.face (f:=fn);omega)
        go_region_held3 (fun W=>(W.cell? ⟨O,1,none⟩=some (.slice (some ⟨g,0,none⟩) fs.length cV)∧W.cell? ⟨w.heap.size+1,0,none⟩=some (.int .i64 fn)∧W.cell? ⟨w.heap.size+1,1,none⟩=some (.int .i64 l1)∧W.cell? ⟨w.heap.size+1+1,1,none⟩=some (.int .i64 l2)∧W.frozen? ⟨g,fn,none⟩=false∧W.cell? ⟨g,fn,none⟩=some (clO W ⟨g,fn,none⟩))) ((first | (with_reducible exact HKS.out _ _ (by assumption)) | (with_reducible exact HE.out _ ((HRO.out.grown (grown_drew _)).grown hg17) ((HM.out.grown (grown_drew _)).grown hg17)) | (with_reducible exact HE.out _ (HRO.out.grown (grown_drew _)) (HM.out.grown (grown_drew _))))) ((go_at_call 63;(with_reducible refine(HWT.out _ (HM.out.grown (grown_drew _))).mono ?_);rintro e W17 ⟨⟨A17,n17,c17,lv17,rfl,hF17⟩,hg17⟩))
        have hR17:=(HRO.out.grown (grown_drew _)).grown hg17
        have hsz:B≤(W16.drew).heap.size:=by have:=(HRO.out.grown (grown_drew _)).out.lt;have:=HRO.out.low;omega
        have hM17:=(HM.out.grown (grown_drew _)).face_new (f:=fn) (by rw[setL_len];exact HX.out.1.1) (by rw[setL_len]) hg17 (.inl rfl) (hF17.lower hsz) (.inr (fun b q=>(World.ownsRow.lt hF17.own b q).1))
        have HFE:Hid ((setL fs fn k (roundL (lpA fs fn l1) i1 ++ roundL (lpA fs fn l2) i2)).set fn (((fcA fs fn).set k (roundL (lpA fs fn l1) i1 ++ roundL (lpA fs fn l2) i2)).eraseIdx m)=fs.set fn (((fcA fs fn).set k (roundL (lpA fs fn l1) i1 ++ roundL (lpA fs fn l2) i2)).eraseIdx m)):=by show _=_;unfold setL;rw[List.set_set]
        rw[HFE.out] at hM17
        have hRO:RO [.cells #[.int .i64 N,.slice A fs.length c] 26,.cells #[.int .i64 fn,.int .i64 l1,.int .i64 i1] 34,.cells #[.int .i64 fn,.int .i64 l2,.int .i64 i2] 34,.cells #[.int .i64 0,.slice none 0 0] 26] w B O N (.slice (some ⟨g,0,none⟩) fs.length cV) (fs.set fn (((fcA fs fn).set k (roundL (lpA fs fn l1) i1 ++ roundL (lpA fs fn l2) i2)).eraseIdx m)) (W17.setCell ⟨g,fn,none⟩ (.slice A17 n17 c17)):=⟨hR17.obs.kept (grown_set _ _ _ _) (fun b e=>by cases e;have:=HGG.out;simp;omega),hR17.out.kept (grown_set _ _ _ _) (fun e=>by injection e with e;have:=HGG.out;omega),⟨_,_,hM17⟩,hR17.low⟩
        clear HE HKS HWT hR17 hM17 hF17 hg17 hsz HRO HM
        generalize W17.setCell _ _=W13 at hRO ⊢
        have HRO7:=Lib.hid hRO
        clear hRO
        have HDN:=Lib.hid (HRO7.out.calls ((by have h:=ae_fine HR.out HX.out.1.2.2 HX.out.2.2.2;unfold aeL at h;rw[if_neg H5.out,←HKM.out.1,←HKM.out.2.1] at h;exact h.sm (by omega))))
        have n0:=(blk_cells HRO7.out.out).1 0 _ rfl
        have n1:=(blk_cells HRO7.out.out).1 1 _ rfl
        go_wp2_with fail
        ((with_reducible refine(HDN.out).mono ?_);rintro e W20 ⟨⟨bb,rfl,hbb⟩,hbl⟩)
        have HBB2:=Lib.hid hbb
        have HRO20:=Lib.hid (HRO7.out.call hbl)
        have HOB20:=Lib.hid HRO20.out.obs
        clear HDN hbb hbl HRO7 n0 n1
        have m30:W20.cell? ⟨w.heap.size+1+1+1,0,none⟩=some (.int .i64 0):=HOB20.out.cell 3 0 rfl rfl
        have z30:W20.frozen? ⟨w.heap.size+1+1+1,0,none⟩=false:=HOB20.out.frz 3 0 rfl
        have m31:W20.cell? ⟨w.heap.size+1+1+1,1,none⟩=some (.slice none 0 0):=HOB20.out.cell 3 1 rfl rfl
        have z31:W20.frozen? ⟨w.heap.size+1+1+1,1,none⟩=false:=HOB20.out.frz 3 1 rfl
        have HE:Hid (raeE N fs fn l1 i1 fn l2 i2=doneE N (fs.set fn (((fcA fs fn).set k (roundL (lpA fs fn l1) i1 ++ roundL (lpA fs fn l2) i2)).eraseIdx m))):=by have h:=HOK.out;unfold aeL at h;rw[if_neg H5.out,←HKM.out.1,←HKM.out.2.1] at h;exact h
        cases bb
        ·go_wp2
         obtain⟨hx,hxB⟩:=HOB20.out.ret 3 (.int .i64 0) (.slice none 0 0) rfl
         have e00:=(blk_cells hx).1 0 _ rfl
         have e01:=(blk_cells hx).1 1 _ rfl
         refine bodyPost_ret (v:=.tuple #[.agg #[.int .i64 0,.slice none 0 0],.int .i64 2]) (by simp[results,Try.f37,go_sem,e00,e01]) rfl ?_
         exact⟨HRO20.out.done (b:=false) 3 rfl (.int .i64 0) (.slice none 0 0) HE.out (by simpa using HBB2.out) rfl,hxB⟩
        ·go_wp2
         obtain⟨hx,hxB⟩:=HOB20.out.ret 3 (.int .i64 N) (.slice (some ⟨g,0,none⟩) fs.length cV) rfl
         have e00:=(blk_cells hx).1 0 _ rfl
         have e01:=(blk_cells hx).1 1 _ rfl
         refine bodyPost_ret (v:=.tuple #[.agg #[.int .i64 N,.slice (some ⟨g,0,none⟩) fs.length cV],.int .i64 0]) (by simp[results,Try.f37,go_sem,e00,e01]) rfl ?_
         exact⟨HRO20.out.done (b:=true) 3 rfl (.int .i64 N) (.slice (some ⟨g,0,none⟩) fs.length cV) HE.out (by simpa using HBB2.out) rfl,hxB⟩
    ·have h2:¬ (fn:Int)=(fm:Int):=by omega
     have HE:Hid (raeE N fs fn l1 i1 fm l2 i2=.error 7):=HE7.out (.inl h1)
     have m30:W4.cell? ⟨w.heap.size+1+1+1,0,none⟩=some (.int .i64 0):=HOB4.out.cell 3 0 rfl rfl
     have z30:W4.frozen? ⟨w.heap.size+1+1+1,0,none⟩=false:=HOB4.out.frz 3 0 rfl
     have m31:W4.cell? ⟨w.heap.size+1+1+1,1,none⟩=some (.slice none 0 0):=HOB4.out.cell 3 1 rfl rfl
     have z31:W4.frozen? ⟨w.heap.size+1+1+1,1,none⟩=false:=HOB4.out.frz 3 1 rfl
     clear h1
     go_wp2
     obtain⟨hx,hxB⟩:=HOB4.out.ret 3 (.int .i64 0) (.slice none 0 0) rfl
     have e00:=(blk_cells hx).1 0 _ rfl
     have e01:=(blk_cells hx).1 1 _ rfl
     refine bodyPost_ret (v:=.tuple #[.agg #[.int .i64 0,.slice none 0 0],.int .i64 7]) (by simp[results,Try.f37,go_sem,e00,e01]) rfl ?_
     exact⟨by rw[HE.out];rfl,hxB⟩
end Go.Proofs.Ytealnhaffphamaa
