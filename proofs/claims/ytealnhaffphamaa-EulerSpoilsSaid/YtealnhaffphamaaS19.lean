/- Contracts of the functions that the statement reaches, and plain lemmas: part 19 of 31. -/
import Derived.Test.YtealnhaffphamaaS16
import Derived.Test.YtealnhaffphamaaS18
set_option linter.unusedVariables false
set_option linter.unusedSimpArgs false

namespace Go.Proofs.Ytealnhaffphamaa
open Go.RowKit Go.Shelf Go.Proofs.YtealnhaffphamaaW.PrintWords
open Classical
def deL (fs:Fs) (x y:PV):Fs:=
 if x.f=y.f∧x.l=y.l then fs.set x.f ((fcA fs x.f).set x.l (shutL (upToL (lpA fs x.f x.l) ((x.i+1) % (lpA fs x.f x.l).length) y.i)) ++ [shutL (upToL (lpA fs x.f x.l) ((y.i+1) % (lpA fs x.f x.l).length) x.i)])
 else(setL fs x.f x.l (upToL (lpA fs x.f x.l) ((x.i+1) % (lpA fs x.f x.l).length) x.i ++ (upToL (lpA fs y.f y.l) ((y.i+1) % (lpA fs y.f y.l).length) y.i).tail.dropLast)).eraseIdx y.f
def edA (fs:Fs) (v u:Int):Option PV:=(dartsA fs (plsA fs)).find? fun x=>x.v == v && x.a == u
noncomputable def rdeE (N:Int) (fs:Fs) (v u:Int):Except Int (Int × Fs):=
 if ¬ (0≤v∧v<N∧0≤u∧u<N) then .error 1 else match edA fs v u,edA fs u v with
  | some x,some y=>if ¬ (x.f=y.f∧x.l=y.l)∧(x.f=y.f∨1<(fcA fs y.f).length) then .error 7 else doneE N (deL fs x y)
  | _,_=>.error 7
theorem find_ed {fs:Fs} {v u r:Int} (h:FindP (dartsA fs (plsA fs)) v u r):(r<0→edA fs v u=none)∧(0≤r→∃(i:Nat) (x:PV),r=i∧(dartsA fs (plsA fs))[i]?=some x∧edA fs v u=some x):=by
 unfold edA
 rcases h with⟨rfl,h⟩ | ⟨i,x,rfl,hx,e1,e2,h⟩
 ·refine⟨fun _=>?_,fun q=>by omega⟩
  rw[List.find?_eq_none]
  intro y hy
  have:=h y hy
  simp only[Bool.and_eq_true,beq_iff_eq]
  exact this
 ·refine⟨fun q=>by omega,fun _=>⟨i,x,rfl,hx,?_⟩⟩
  rw[List.find?_eq_some_iff_getElem]
  obtain⟨hi,hxi⟩:=List.getElem?_eq_some_iff.1 hx
  refine⟨by rw[Bool.and_eq_true,beq_iff_eq,beq_iff_eq];exact⟨e1,e2⟩,i,hi,hxi,fun j hj=>?_⟩
  have:=h j _ hj (List.getElem?_eq_getElem (by omega))
  rw[Bool.not_eq_true',Bool.eq_false_iff]
  intro q
  rw[Bool.and_eq_true,beq_iff_eq,beq_iff_eq] at q
  exact this q
theorem dart_in {fs:Fs} {x:PV} (h:x∈dartsA fs (plsA fs)):x∈plsA fs∧(lpA fs x.f x.l).length≠1:=by
 unfold dartsA dartB at h
 rw[List.mem_filter] at h
 simpa using h
def PP (B Pa Pb:Nat) (a b:Obj) (W:World):Prop:=Blk W Pa a∧Blk W Pb b∧Pa<B∧Pb<B
section
variable {B Pa Pb:Nat} {a b:Obj} {W W':World}
theorem PP.kept {row:Option Nat} (h:PP B Pa Pb a b W) (hg:W.grownBy W' row) (hr:∀k,row=some k→B≤k):PP B Pa Pb a b W':=
 ⟨h.1.kept hg (fun e=>by have:=hr Pa e.symm;have:=h.2.2.1;omega),h.2.1.kept hg (fun e=>by have:=hr Pb e.symm;have:=h.2.2.2;omega),h.2.2⟩
theorem PP.grown (h:PP B Pa Pb a b W) (hg:W.grownBy W' none):PP B Pa Pb a b W':=h.kept hg (fun k e=>by cases e)
theorem PP.call (h:PP B Pa Pb a b W) (hb:Below W.heap.size W W'):PP B Pa Pb a b W':=h.grown (grown_of_below hb none)
theorem PP.mk1 (W:World):PP ((W.alloc a).alloc b).drew.heap.size W.heap.size (W.heap.size+1) a b ((W.alloc a).alloc b).drew:=
 ⟨(blk_new W a).alloc.kept (grown_drew _) (fun e=>by cases e),Blk.kept (by have:=blk_new (W.alloc a) b;simpa using this) (grown_drew _) (fun e=>by cases e),by show _<((W.alloc a).alloc b).heap.size;simp;omega,by show _<((W.alloc a).alloc b).heap.size;simp⟩
theorem PP.mk2 (W:World):PP ((W.alloc b).alloc a).drew.heap.size (W.heap.size+1) W.heap.size a b ((W.alloc b).alloc a).drew:=
 ⟨(PP.mk1 W).2.1,(PP.mk1 W).1,(PP.mk1 W).2.2.2,(PP.mk1 W).2.2.1⟩
end
theorem drop_take_mid (xs:List Int):(xs.drop 1).take (xs.length - 2)=xs.tail.dropLast:=by
 rw[List.drop_one,List.dropLast_eq_take,List.length_tail];rfl
set_option maxRecDepth 100000 in
set_option maxHeartbeats 1000000 in
theorem upTo_full (A:Option Addr) (n c i j:Nat) (l:List Int) (w:World) (hn:n=l.length) (h:RI w A l) (hc:n≤c) (hi:i<n) (hj:j<n) (hl:n≤100000) :
  Calls Try.prog 71 #[.slice A n c,.int .i64 i,.int .i64 j] w fun e w'=>(∃A m,e=.returned (.slice A m m)∧LR w' (.slice A m m) (upToL l i j))∧Below w.heap.size w w':=by
 have HT:=Lib.hid (rturned_any A n c i l w hn h hc (by omega) (by omega))
 obtain⟨iI,hiI,hiI0,hiI1,hiI2⟩:=info_parts infoI
 obtain⟨q,hq⟩:∃q:Nat,q=j+n - i:=⟨_,rfl⟩
 obtain⟨d,hd⟩:∃d:Nat,q % n=d:=⟨_,rfl⟩
 obtain⟨e,he⟩:∃e:Nat,e=d+1:=⟨_,rfl⟩
 have hdn:d<n:=by rw[←hd];exact Nat.mod_lt _ (by omega)
 have HE:Hid (e=(j+n - i) % n+1∧e≤n∧n=l.length):=⟨by rw[he,←hd,hq],by omega,hn⟩
 have hw1:IntKind.i64.wrap ((j:Int) - (i:Int))=(j:Int) - (i:Int):=by rw[IntKind.wrap_i64];omega
 have hw2:IntKind.i64.wrap ((j:Int) - (i:Int)+(n:Int))=(q:Int):=by rw[IntKind.wrap_i64];omega
 have hw3:IntKind.i64.wrap ((d:Int)+1)=(e:Int):=by rw[IntKind.wrap_i64];omega
 have hm:Int.tmod (q:Int) (n:Int)=(d:Int):=by rw[←hd];rfl
 have h1:¬ (n:Int)=0:=by omega
 have h2:¬ n=0:=by omega
 have HCT:Hid (∀A1 c1,n≤c1→∀W,(Instr.slice 36 (.slice A1 n c1) none (some (.int .i64 (e:Int))) (some (.int .i64 (e:Int)))).run Try.prog W=.ok (.slice A1 e e) W):=fun A1 c1 hc1=>cut_toM 36 3 .i64 .i64 Try.underlying36 hiI A1 n c1 e (by omega)
 clear hq he h hn hdn hi hj hl
 go_enter Try.func71,Try.ntmps71
 go_upto_region 2 with((with_reducible refine(HT.out).mono ?_);rintro e1 w1 ⟨⟨v1,rfl,ho1⟩,hb1⟩;obtain⟨A1,c1,rfl,hc1,hr1⟩:=own_LR (n:=n) (xs:=rotA l i) (by rw[rotA_len];exact HE.out.2.2) (by rw[rotA_len,←HE.out.2.2] at ho1;exact ho1))
 have hcut:=HCT.out A1 c1 hc1
 have HL1:=Lib.hid hr1
 have HB1:=Lib.hid hb1
 clear HT HCT ho1 hr1 hb1
 go_quiet (fail)
 rename_i nq
 go_wp2
 go_ret
 refine⟨⟨_,_,rfl,?_⟩,below_drewN HB1.out nq⟩
 have h3:=(HL1.out.take (m:=e) (c':=e) (by rw[rotA_len,←HE.out.2.2];exact HE.out.2.1) (Nat.le_refl _)).kept (grown_of_below (Drawn0.below ⟨⟨nq,rfl⟩⟩) none) (NoI.none w1)
 unfold upToL
 rw[←HE.out.2.2,←HE.out.1]
 exact h3
theorem run_append_full (W:World) (ty:TypeId) (xs ys:List Int) (A A2:Option Addr) (n m c:Nat) (hx:LR W (.slice A n n) xs) (h0:0<n) (hm:m=ys.length) (hy:RI W A2 ys) (hl:xs.length+ys.length≤100000000) :
  ∃A1 n1 c1 w1,(Builtin.append_ #[36,36] ty #[.slice A n n,.slice A2 m c]).run Try.prog W=.ok (.slice A1 n1 c1) w1∧LR w1 (.slice A1 n1 c1) (xs ++ ys)∧W.grownBy w1 none:=by
 obtain⟨i0,hi,hz0,hz1,hz2⟩:=info_parts infoI
 obtain⟨hn,-,hrx⟩:=hx.reads
 subst hn
 subst hm
 obtain⟨b,rfl,-⟩:=hrx.at h0
 rcases Nat.eq_zero_or_pos ys.length with h1 | h1
 ·obtain rfl:ys=[]:=List.eq_nil_of_length_eq_zero h1
  refine⟨some b,xs.length,xs.length,W,?_,by simpa using hx,World.grownBy.refl W _⟩
  rcases A2 with _ | ad <;> simp[Builtin.append_,run_underlying Try.underlying36,sizeOf,typeInfo,hi,Builtin.lenOf,Builtin.firstCells,storeCells,loadCells,loadCellsFrom]
 ·obtain⟨ad,rfl,-⟩:=hy.at h1
  have cellsOf:∀(A:Addr) (zs:List Int),RI W (some A) zs→∀j v,(intsV zs)[j]?=some v→W.cell? (A.add j)=some v:=fun A zs hz j v hv=>by
   have hj:j<zs.length:=by have:=(List.getElem?_eq_some_iff.1 hv).1;rwa [intsV_len] at this
   obtain⟨ad',h',hc⟩:=hz.at hj
   cases h'
   rw[hc,←hv]
   simp[intsV,List.getD_eq_getElem?_getD,hj]
  have hr:=run_append_grow (P:=Try.prog) W 36 ty 3 i0 (.int .i64 0) Try.underlying36 hi hz0 b xs.length xs.length (intsV xs) (by rw[intsV_len,hz1,Nat.mul_one]) (cellsOf b xs hrx) ad ys.length c (intsV ys) (by rw[intsV_len,hz1,Nat.mul_one]) (cellsOf ad ys hy) (by omega) (by omega) (by rw[hz2];exact growslice_fits (by omega) (by omega))
  refine⟨_,_,_,_,hr,?_,(grown_drew W).trans (World.grownBy_alloc _ _ _)⟩
  have hge:=grownCap_ge W (xs.length+ys.length) xs.length 3
  have hcm:=grownCap_le_maxLen W (xs.length+ys.length) xs.length 3 (by simp only[maxLen];omega)
  have hlen:(intsV (xs ++ ys)).length=(xs.length+ys.length) * 1:=by rw[intsV_len,List.length_append];omega
  refine LR.of_own (base:=W.heap.size) ⟨by rw[intsV_len];omega,.inr ⟨W.heap.size,_,_,by rw[List.length_append],Nat.le_refl _,heap_alloc_new W.drew _,by rw[List.length_append];exact hge,hcm,?_,?_⟩⟩
  ·simp only[Array.size_append,List.size_toArray,size_zeroCells,intsV_len]
   show _+_ * 1=_
   omega
  ·simp only[Array.toList_append,List.append_assoc]
   rw[←List.append_assoc,←intsV_app,show(xs ++ ys).length * 1=(intsV (xs ++ ys)).length by rw[intsV_len];omega]
   exact List.take_left
theorem step_append_full {ops:Array Oper} {o:Oper} {a:Act} {W:World} {K:Act→World→Prop} {Q:Exit→Act→World→Prop} {E:Prop} (hgd:o.guard=none) (s x:Operand)
  (ho:o.op=.call { callee:=.builtin .append,args:=#[s,x],argTypes:=#[36,36] })
  (xs ys:List Int) (A A2:Option Addr) (n m c:Nat) (hs:a.eval s=.slice A n n) (hv:a.eval x=.slice A2 m c) (hx:LR W (.slice A n n) xs) (h0:0<n) (hm:m=ys.length) (hy:RI W A2 ys) (hl:xs.length+ys.length≤100000000)
  (h:∀A1 n1 c1 w1,LR w1 (.slice A1 n1 c1) (xs ++ ys)→W.grownBy w1 none→K (a.put o.dst (.slice A1 n1 c1)) w1) :
  if Region.wanted o (yielded ops a.tmps)=true then Oper.wp Try.prog o a W K Q else E:=by
 have hw:Region.wanted o (yielded ops a.tmps)=true:=by simp[Region.wanted,hgd]
 rw[if_pos hw]
 obtain⟨A1,n1,c1,w1,hr,h2,h3⟩:=run_append_full W o.type xs ys A A2 n m c hx h0 hm hy hl
 unfold Oper.wp execOp
 simp only[ho,resolve,invoke,builtin,Sem.run_bind,Sem.run_pure,Result.andThen_ok,List.map_toArray,List.map_cons,List.map_nil,hs,hv,hr]
 exact h _ _ _ _ h2 h3
theorem ROt.faceApp {os:List Obj} {w:World} {B O g cV n m:Nat} {N:Int} {fs:Fs} {vf:Nat→Value} {vl:Nat→Nat→Value} {W W':World} (h:RO os w B O N (.slice (some ⟨g,0,none⟩) n cV) fs W) (hm:MR B (.slice (some ⟨g,0,none⟩) n cV) fs fs.length vf vl W) (hO:g<O) (hn:n=fs.length)
  {f g1 c1 q cap:Nat} (hf:f<fs.length) (hv:vf f=.slice (some ⟨g1,0,none⟩) m c1) (hm1:m=(fcA fs f).length) (hO1:g1<O) {u:Value} {x:List Int} (hu:LR W u x)
  (ho:W'.ownsRow B 36 1 (.slice (some ⟨q,0,none⟩) (m+1) cap) (m+1) ((List.range m).map (vl f) ++ [u])) (hg:W.grownBy W' (some g1)) (hat:q=g1∨(q=W.heap.size∧W.grownBy W' none)) :
  RO os w B O N (.slice (some ⟨g,0,none⟩) n cV) (fs.set f (fcA fs f ++ [x])) (W'.setCell ⟨g,f,none⟩ (.slice (some ⟨q,0,none⟩) (m+1) cap)):=by
 subst hn
 subst hm1
 have hb:(vf f).ownBlock=some g1:=by rw[hv];rfl
 have h2:B≤g1:=(hm.lt.2 f hf g1 hb).1
 have h4:B≤g:=(hm.lt.1 g rfl).1
 have hl:=h.low
 have hgs:=grown_set W' g f (.slice (some ⟨q,0,none⟩) ((fcA fs f).length+1) cap)
 have hM:=hm.face_new hf rfl hg (.inr hb.symm) (FR.append (hm.face f hf) hu ho (by rw[hb];exact hg)) (by
  rcases hat with e | e
  ·exact .inl (by rw[e,hb];rfl)
  ·exact .inr (fun b e2=>by cases e2;show W.heap.size≤q;omega))
 exact⟨(h.obs.kept hg (fun k e=>by cases e;omega)).kept hgs (fun k e=>by cases e;omega),(h.out.kept hg (fun e=>by injection e with e;omega)).kept hgs (fun e=>by injection e with e;omega),⟨_,_,hM⟩,hl⟩
theorem upToL_round (l:List Int) {p:Nat} (hp:p<l.length):(upToL l ((p+1) % l.length) p).length=l.length:=by
 unfold upToL
 rw[List.length_take,turnL_len]
 have h1:(p+l.length - (p+1) % l.length) % l.length=l.length - 1:=by
  by_cases h:p+1<l.length
  ·rw[Nat.mod_eq_of_lt h,show p+l.length - (p+1)=l.length - 1 by omega,Nat.mod_eq_of_lt (by omega)]
  ·rw[show p+1=l.length by omega,Nat.mod_self,Nat.sub_zero,Nat.add_mod_right,Nat.mod_eq_of_lt hp];omega
 rw[h1];omega
theorem fine_two {N:Int} {fs:Fs} (h:RightP N fs) (f l:Nat) {X Y:List Int} (hX:X.length≤4000) (hY:Y.length≤4000) (hx:∀v∈X,-1000000≤v∧v≤1000000) (hy:∀v∈Y,-1000000≤v∧v≤1000000):Fine 100000 (fs.set f ((fcA fs f).set l X ++ [Y])):=by
 have hF:=h.fine
 obtain⟨d1,d2,d3⟩:=hF.face (f:=f)
 have h0:=flatten_set (fcA fs f) l X
 refine(hF.setF f (m:=14000) (by simp;omega) (by rw[List.flatten_append,List.length_append];have h1:([Y]:List (List Int)).flatten.length=Y.length:=congrArg List.length (by simp);omega) (fun v hv=>?_)).mono (by omega)
 rw[List.flatten_append,List.mem_append] at hv
 rcases hv with hv | hv
 ·rcases mem_flatten_set hv with q | q
  ·exact d3 v q
  ·exact hx v q
 ·exact hy v (by simpa using hv)
theorem fine_join {N:Int} {fs:Fs} (h:RightP N fs) (f l k:Nat) {X:List Int} (hX:X.length≤4000) (hx:∀v∈X,-1000000≤v∧v≤1000000):Fine 100000 ((setL fs f l X).eraseIdx k):=
 ((h.fine.setL f l (m:=4000) hX hx).sub (List.eraseIdx_sublist _ _)).mono (by omega)
set_option maxRecDepth 100000 in
set_option maxHeartbeats 8000000 in
theorem rdropEdge_any (N:Int) (A:Option Addr) (c:Nat) (fs:Fs) (v u:Int) (w:World) (hF:RF w A fs) (hc:fs.length≤c) (hR:RightP N fs) :
  Calls Try.prog 39 #[.agg #[.int .i64 N,.slice A fs.length c],.int .i64 v,.int .i64 u] w fun e w'=>OpT (rdeE N fs v u) e w'∧Below w.heap.size w w':=by
 obtain⟨W1,hW1⟩:∃W1,W1=(w.alloc (.cells #[.int .i64 N,.slice A fs.length c] 26)).alloc (.cells #[.int .i64 0,.slice none 0 0] 26):=⟨_,rfl⟩
 have HOB:Hid (Obs [.cells #[.int .i64 N,.slice A fs.length c] 26,.cells #[.int .i64 0,.slice none 0 0] 26] w W1):=by rw[hW1];exact Obs.two w _ _
 have HF:=Lib.hid hF
 have HR:=Lib.hid hR
 have HC:=Lib.hid hc
 clear hF hR hc
 go_enter Try.func39,Try.ntmps39
 go_upto_region 1 with fail
 rw[←hW1]
 clear hW1
 have m00:W1.cell? ⟨w.heap.size,0,none⟩=some (.int .i64 N):=HOB.out.cell 0 0 rfl rfl
 have m01:W1.cell? ⟨w.heap.size,1,none⟩=some (.slice A fs.length c):=HOB.out.cell 0 1 rfl rfl
 by_cases h0:0≤v∧v<N∧0≤u∧u<N
 ·have z1:¬ v<0:=by omega
  have z2:¬ v≥N:=by omega
  have z3:¬ u<0:=by omega
  have z4:¬ u≥N:=by omega
  have HV0:Hid (0≤v∧v<N∧0≤u∧u<N):=h0
  clear h0
  have hcap:(plsA fs).length≤100000:=HR.out.fine.cap (by omega)
  have HEG:=Lib.hid (edgesR_any N A c fs W1 (HF.out.below HOB.out.below) HC.out (HR.out.fine.sm (by omega)) hcap)
  obtain⟨ds,hds⟩:∃ds,ds=dartsA fs (plsA fs):=⟨_,rfl⟩
  rw[←hds] at HEG
  have hdl:ds.length≤1000000:=by have:=List.length_filter_le (dartB fs) (plsA fs);rw[hds];unfold dartsA;omega
  have HDS:Hid (ds=dartsA fs (plsA fs)):=hds
  clear hcap hds
  go_upto_region 4 with((with_reducible refine(HEG.out).mono ?_);rintro e W2 ⟨v2,rfl,hre,hbl⟩)
  have HOB2:=Lib.hid (HOB.out.call hbl)
  have HRE0:=Lib.hid hre
  clear hre
  clear m00 m01
  clear HEG hbl HOB z1 z2 z3 z4
  have HF1:=Lib.hid (findR_any ds hdl v u v2 W2 HRE0.out)
  go_wp2_with fail
  ((with_reducible refine(HF1.out).mono ?_);rintro e W3 ⟨⟨r1,rfl,hr1⟩,nq,rfl⟩)
  have HOB3:=Lib.hid (HOB2.out.call (Drawn0.below ⟨⟨nq,rfl⟩⟩))
  have HRE1:=Lib.hid (HRE0.out.below (Drawn0.below ⟨⟨nq,rfl⟩⟩:Below W2.heap.size W2 (W2.drewN nq)))
  have HR1:=Lib.hid hr1
  clear hr1 HF1 HRE0 HOB2
  generalize W2.drewN nq=W3 at HOB3 HRE1 ⊢
  have HF1:=Lib.hid (findR_any ds hdl u v v2 W3 HRE1.out)
  go_wp2_with fail
  ((with_reducible refine(HF1.out).mono ?_);rintro e W4 ⟨⟨r2,rfl,hr2⟩,nq,rfl⟩)
  have HOB4:=Lib.hid (HOB3.out.call (Drawn0.below ⟨⟨nq,rfl⟩⟩))
  have HRE:=Lib.hid (HRE1.out.below (Drawn0.below ⟨⟨nq,rfl⟩⟩:Below W3.heap.size W3 (W3.drewN nq)))
  have HR2:=Lib.hid hr2
  clear hr2 HF1 HRE1 HOB3
  generalize W3.drewN nq=W4 at HOB4 HRE ⊢
  have HD1:=HR1.out
  rw[HDS.out] at HD1
  have HD1:=Lib.hid (find_ed HD1)
  have HD2:=HR2.out
  rw[HDS.out] at HD2
  have HD2:=Lib.hid (find_ed HD2)
  clear HR1 HR2
  by_cases h1:r1<0
  ·have HE:Hid (rdeE N fs v u=.error 7):=by
    show _=_
    unfold rdeE
    rw[if_neg (fun q=>q HV0.out)]
    rw[HD1.out.1 h1]
   have m10:W4.cell? ⟨w.heap.size+1,0,none⟩=some (.int .i64 0):=HOB4.out.cell 1 0 rfl rfl
   have z10:W4.frozen? ⟨w.heap.size+1,0,none⟩=false:=HOB4.out.frz 1 0 rfl
   have m11:W4.cell? ⟨w.heap.size+1,1,none⟩=some (.slice none 0 0):=HOB4.out.cell 1 1 rfl rfl
   have z11:W4.frozen? ⟨w.heap.size+1,1,none⟩=false:=HOB4.out.frz 1 1 rfl
   go_wp2
   obtain⟨hx,hxB⟩:=HOB4.out.ret 1 (.int .i64 0) (.slice none 0 0) rfl
   have e00:=(blk_cells hx).1 0 _ rfl
   have e01:=(blk_cells hx).1 1 _ rfl
   refine bodyPost_ret (v:=.tuple #[.agg #[.int .i64 0,.slice none 0 0],.int .i64 7]) (by simp[results,Try.f39,go_sem,e00,e01]) rfl ?_
   exact⟨by rw[HE.out];rfl,hxB⟩
  ·by_cases h2:r2<0
   ·have HE:Hid (rdeE N fs v u=.error 7):=by
     show _=_
     unfold rdeE
     rw[if_neg (fun q=>q HV0.out)]
     rw[HD2.out.1 h2]
     cases edA fs v u <;> rfl
    have m10:W4.cell? ⟨w.heap.size+1,0,none⟩=some (.int .i64 0):=HOB4.out.cell 1 0 rfl rfl
    have z10:W4.frozen? ⟨w.heap.size+1,0,none⟩=false:=HOB4.out.frz 1 0 rfl
    have m11:W4.cell? ⟨w.heap.size+1,1,none⟩=some (.slice none 0 0):=HOB4.out.cell 1 1 rfl rfl
    have z11:W4.frozen? ⟨w.heap.size+1,1,none⟩=false:=HOB4.out.frz 1 1 rfl
    go_wp2
    obtain⟨hx,hxB⟩:=HOB4.out.ret 1 (.int .i64 0) (.slice none 0 0) rfl
    have e00:=(blk_cells hx).1 0 _ rfl
    have e01:=(blk_cells hx).1 1 _ rfl
    refine bodyPost_ret (v:=.tuple #[.agg #[.int .i64 0,.slice none 0 0],.int .i64 7]) (by simp[results,Try.f39,go_sem,e00,e01]) rfl ?_
    exact⟨by rw[HE.out];rfl,hxB⟩
   ·obtain⟨i,x,rfl,hx,hex⟩:=HD1.out.2 (by omega)
    obtain⟨k,y,rfl,hy,hey⟩:=HD2.out.2 (by omega)
    clear HD1 HD2
    rw[←HDS.out] at hx hy
    obtain⟨A5,c5,rfl,-,hed⟩:=HRE.out
    obtain⟨g5,rfl,hcx⟩:=hed i x hx
    obtain⟨g6,e6,hcy⟩:=hed k y hy
    cases e6
    have hil:(i:Int)<(ds.length:Int):=by have:=(List.getElem?_eq_some_iff.1 hx).1;omega
    have hkl:(k:Int)<(ds.length:Int):=by have:=(List.getElem?_eq_some_iff.1 hy).1;omega
    have HED:Hid (edA fs v u=some x∧edA fs u v=some y∧ds[i]?=some x∧ds[k]?=some y):=⟨hex,hey,hx,hy⟩
    obtain⟨f1,hf1⟩:∃n:Nat,n=x.f:=⟨_,rfl⟩
    obtain⟨l1,hl1⟩:∃n:Nat,n=x.l:=⟨_,rfl⟩
    obtain⟨p1,hp1⟩:∃n:Nat,n=x.i:=⟨_,rfl⟩
    obtain⟨f2,hf2⟩:∃n:Nat,n=y.f:=⟨_,rfl⟩
    obtain⟨l2,hl2⟩:∃n:Nat,n=y.l:=⟨_,rfl⟩
    obtain⟨p2,hp2⟩:∃n:Nat,n=y.i:=⟨_,rfl⟩
    have HXX:Hid ((f1=x.f∧l1=x.l∧p1=x.i)∧f2=y.f∧l2=y.l∧p2=y.i):=⟨⟨hf1,hl1,hp1⟩,hf2,hl2,hp2⟩
    have d0:W4.cell? ⟨g5,i * 5+2,none⟩=some (.int .i64 f1):=by rw[hf1];exact hcx 2 _ rfl
    have w0:=World.new_ne W4 _ d0
    have d1:W4.cell? ⟨g5,i * 5+3,none⟩=some (.int .i64 l1):=by rw[hl1];exact hcx 3 _ rfl
    have w1:=World.new_ne W4 _ d1
    have d2:W4.cell? ⟨g5,i * 5+4,none⟩=some (.int .i64 p1):=by rw[hp1];exact hcx 4 _ rfl
    have w2:=World.new_ne W4 _ d2
    have d3:W4.cell? ⟨g5,k * 5+2,none⟩=some (.int .i64 f2):=by rw[hf2];exact hcy 2 _ rfl
    have w3:=World.new_ne W4 _ d3
    have d4:W4.cell? ⟨g5,k * 5+3,none⟩=some (.int .i64 l2):=by rw[hl2];exact hcy 3 _ rfl
    have w4:=World.new_ne W4 _ d4
    have d5:W4.cell? ⟨g5,k * 5+4,none⟩=some (.int .i64 p2):=by rw[hp2];exact hcy 4 _ rfl
    have w5:=World.new_ne W4 _ d5
    clear hcx hcy hf1 hl1 hp1 hf2 hl2 hp2 hx hy hex hey hed HRE h1 h2
    have z1:¬ (i:Int)<0:=by omega
    have z2:¬ (k:Int)<0:=by omega
    have HX:Hid ((f1<fs.length∧l1<(fcA fs f1).length∧p1<(lpA fs f1 l1).length∧2≤(lpA fs f1 l1).length)∧f2<fs.length∧l2<(fcA fs f2).length∧p2<(lpA fs f2 l2).length∧2≤(lpA fs f2 l2).length):=by
     have hx:=List.mem_of_getElem? HED.out.2.2.1
     have hy:=List.mem_of_getElem? HED.out.2.2.2
     rw[HDS.out] at hx hy
     have hx:=dart_in hx
     have hy:=dart_in hy
     obtain⟨⟨i1,i2,i3⟩,-⟩:=isP_of hx.1
     obtain⟨⟨j1,j2,j3⟩,-⟩:=isP_of hy.1
     simp only[pl3] at i1 i2 i3 j1 j2 j3
     obtain⟨⟨ef1,el1,ep1⟩,ef2,el2,ep2⟩:=HXX.out
     rw[←ef1] at i1 i2 i3 hx
     rw[←el1] at i2 i3 hx
     rw[←ep1] at i3
     rw[←ef2] at j1 j2 j3 hy
     rw[←el2] at j2 j3 hy
     rw[←ep2] at j3
     exact⟨⟨i1,i2,i3,by omega⟩,j1,j2,j3,by omega⟩
    go_upto_region 7 with fail
    go_cut [11,12] from 13 (fun s11 s12 Wr=>∃Pa Pb,s11=.pointer (some ⟨Pa,0,none⟩)∧s12=.pointer (some ⟨Pb,0,none⟩)∧Hid (Obs [.cells #[.int .i64 N,.slice A fs.length c] 26,.cells #[.int .i64 0,.slice none 0 0] 26] w Wr)∧Hid (PP Wr.heap.size Pa Pb (.cells #[.int .i64 f1,.int .i64 l1,.int .i64 p1] 34) (.cells #[.int .i64 f2,.int .i64 l2,.int .i64 p2] 34) Wr))
    case first=>
     go_region_held3 (fun W=>W.cell? ⟨g5,i * 5+2,none⟩=some (.int .i64 f1)∧W.cell? ⟨g5,i * 5+3,none⟩=some (.int .i64 l1)∧W.cell? ⟨g5,i * 5+4,none⟩=some (.int .i64 p1)∧W.cell? ⟨g5,k * 5+2,none⟩=some (.int .i64 f2)∧W.cell? ⟨g5,k * 5+3,none⟩=some (.int .i64 l2)∧W.cell? ⟨g5,k * 5+4,none⟩=some (.int .i64 p2)) (go_keep) (fail)
     all_goals
      go_wp2
      go_meet
      case rel=>
       have hob:=((HOB4.out.grown (World.grownBy_alloc _ (.cells #[.int .i64 f1,.int .i64 l1,.int .i64 p1] 34) _)).grown (World.grownBy_alloc _ (.cells #[.int .i64 f2,.int .i64 l2,.int .i64 p2] 34) _)).grown (grown_drew _)
       have hob':=((HOB4.out.grown (World.grownBy_alloc _ (.cells #[.int .i64 f2,.int .i64 l2,.int .i64 p2] 34) _)).grown (World.grownBy_alloc _ (.cells #[.int .i64 f1,.int .i64 l1,.int .i64 p1] 34) _)).grown (grown_drew _)
       first | exact⟨_,_,rfl,rfl,hob,PP.mk1 _⟩ | exact⟨_,_,rfl,rfl,hob',PP.mk2 _⟩
    case rest=>
     obtain⟨Pa,Pb,rfl,rfl,HOB6,HPP0⟩:=hcut
     rename World=>W6
     clear HOB4 d0 w0 d1 w1 d2 w2 d3 w3 d4 w4 d5 w5
     have HOW:=Lib.hid (rown_right N A c fs W6 (HF.out.below HOB6.out.below) HC.out HR.out)
     have m00:W6.cell? ⟨w.heap.size,0,none⟩=some (.int .i64 N):=HOB6.out.cell 0 0 rfl rfl
     have m01:W6.cell? ⟨w.heap.size,1,none⟩=some (.slice A fs.length c):=HOB6.out.cell 0 1 rfl rfl
     go_upto_region 9 with((with_reducible refine(HOW.out).mono ?_);rintro e W4 ⟨⟨g,cV,vf,vl,rfl,hM,hMD⟩,hbl⟩)
     clear m00 m01 HOW
     clear hMD
     have HRW:Hid (RW [.cells #[.int .i64 N,.slice A fs.length c] 26,.cells #[.int .i64 0,.slice none 0 0] 26] w W6.heap.size W4.heap.size g cV N fs vf vl (W4.alloc (.cells #[.int .i64 N,.slice (some ⟨g,0,none⟩) fs.length cV] 26))):=by
      have hg3:W4.grownBy (W4.alloc (.cells #[.int .i64 N,.slice (some ⟨g,0,none⟩) fs.length cV] 26)) none:=World.grownBy_alloc _ _ _
      exact⟨(HOB6.out.call hbl).grown hg3,blk_new W4 _,hM.kept hg3 (fun r e=>by cases e),⟨HOB6.out.size,hbl.size⟩,fun r hr=>(hM.lt hr).2⟩
     have HBL:Hid (Below W6.heap.size W6 (W4.alloc (.cells #[.int .i64 N,.slice (some ⟨g,0,none⟩) fs.length cV] 26))):=hbl.alloc hbl.size _
     clear hM hbl HOB6
     have HPP:Hid (PP W6.heap.size Pa Pb (.cells #[.int .i64 f1,.int .i64 l1,.int .i64 p1] 34) (.cells #[.int .i64 f2,.int .i64 l2,.int .i64 p2] 34) (W4.alloc (.cells #[.int .i64 N,.slice (some ⟨g,0,none⟩) fs.length cV] 26))):=⟨HPP0.out.1.below HBL.out HPP0.out.2.2.1,HPP0.out.2.1.below HBL.out HPP0.out.2.2.2,HPP0.out.2.2⟩
     clear HPP0 HBL
     generalize W4.heap.size=O at HRW ⊢
     generalize W6.heap.size=B at HRW HPP
     generalize W4.alloc (.cells #[.int .i64 N,.slice (some ⟨g,0,none⟩) fs.length cV] 26)=W5 at HRW HPP ⊢
     obtain⟨g1,cF,hvf,hcF⟩:=HRW.out.form HX.out.1.1 (by have:=HX.out;omega)
     have HVF:=Lib.hid hvf
     have HGG:Hid (g1<O∧g<O∧g≠g1∧B≤g1∧B≤g∧w.heap.size+2≤B∧Pa<B∧Pb<B):=⟨HRW.out.top g1 (.inr ⟨f1,HX.out.1.1,.inl (by rw[hvf];rfl)⟩),HRW.out.top g (.inl rfl),fun e=>own_other_types HRW.out.mw.own (HRW.out.mw.face f1 HX.out.1.1).own (by decide) (show _=some g from rfl) (by rw[hvf,e];rfl),(HRW.out.mw.lt (b:=g1) (.inr ⟨f1,HX.out.1.1,.inl (by rw[hvf];rfl)⟩)).1,(HRW.out.mw.lt (b:=g) (.inl rfl)).1,HRW.out.low.1,HPP.out.2.2⟩
     clear hvf hcF
     obtain⟨ad0,A0,c0,rfl,hc0,hl0,hr0⟩:=HF.out.at HX.out.1.1
     obtain⟨ad1,AX,cX,rfl,hc1,hl1,hr1⟩:=hr0.atP HX.out.1.2.1
     obtain⟨ad0',B0,d0,e0,hd0,hm0,hs0⟩:=HF.out.at HX.out.2.1
     cases e0
     obtain⟨ad2,AY,cY,rfl,hd1,hm1,hs1⟩:=hs0.atP HX.out.2.2.1
     have HRL:Hid ((RI w AX (lpA fs f1 l1)∧(lpA fs f1 l1).length≤cX∧(lpA fs f1 l1).length≤2000)∧RI w AY (lpA fs f2 l2)∧(lpA fs f2 l2).length≤cY∧(lpA fs f2 l2).length≤2000):=⟨⟨hr1,hl1,(HR.out.fine.loop f1 l1).1⟩,hs1,hm1,(HR.out.fine.loop f2 l2).1⟩
     have HTG:Hid (∀W W1,(RW [.cells #[.int .i64 N,.slice (some ad0) fs.length c] 26,.cells #[.int .i64 0,.slice none 0 0] 26] w B O g cV N fs vf vl W∧PP B Pa Pb (.cells #[.int .i64 f1,.int .i64 l1,.int .i64 p1] 34) (.cells #[.int .i64 f2,.int .i64 l2,.int .i64 p2] 34) W)→W.grownBy W1 none→(RW [.cells #[.int .i64 N,.slice (some ad0) fs.length c] 26,.cells #[.int .i64 0,.slice none 0 0] 26] w B O g cV N fs vf vl W1∧PP B Pa Pb (.cells #[.int .i64 f1,.int .i64 l1,.int .i64 p1] 34) (.cells #[.int .i64 f2,.int .i64 l2,.int .i64 p2] 34) W1)):=fun W W1 h hg=>⟨h.1.grown hg,h.2.grown hg⟩
     have HT:Hid ((RW [.cells #[.int .i64 N,.slice (some ad0) fs.length c] 26,.cells #[.int .i64 0,.slice none 0 0] 26] w B O g cV N fs vf vl W5∧PP B Pa Pb (.cells #[.int .i64 f1,.int .i64 l1,.int .i64 p1] 34) (.cells #[.int .i64 f2,.int .i64 l2,.int .i64 p2] 34) W5)):=⟨HRW.out,HPP.out⟩
     clear HRW HPP
     have m01:W5.cell? ⟨w.heap.size,1,none⟩=some (.slice (some ad0) fs.length c):=HT.out.1.obs.cell 0 1 rfl rfl
     have k0:=pw_cell_below HT.out.1.obs.below hc0
     have k1:=pw_cell_below HT.out.1.obs.below hc1
     have k2:=pw_cell_below HT.out.1.obs.below hd0
     have k3:=pw_cell_below HT.out.1.obs.below hd1
     have a0:W5.cell? ⟨Pa,0,none⟩=some (.int .i64 f1):=(blk_cells HT.out.2.1).1 0 _ rfl
     have a1:W5.cell? ⟨Pa,1,none⟩=some (.int .i64 l1):=(blk_cells HT.out.2.1).1 1 _ rfl
     have b0:W5.cell? ⟨Pb,0,none⟩=some (.int .i64 f2):=(blk_cells HT.out.2.2.1).1 0 _ rfl
     have b1:W5.cell? ⟨Pb,1,none⟩=some (.int .i64 l2):=(blk_cells HT.out.2.2.1).1 1 _ rfl
     have HC3:Hid (w.cell? (ad0.add f2)=some (.slice (some ad2) (fcA fs f2).length d0)):=hd0
     clear hc0 hl0 hr0 hc1 hl1 hr1 hd0 hm0 hs0 hd1 hm1 hs1
     have z5:(f1:Int)<(fs.length:Int):=by have:=HX.out;omega
     have z6:(l1:Int)<((fcA fs f1).length:Int):=by have:=HX.out;omega
     have z7:(f2:Int)<(fs.length:Int):=by have:=HX.out;omega
     have z8:(l2:Int)<((fcA fs f2).length:Int):=by have:=HX.out;omega
     obtain⟨q1,hq1⟩:∃q,q=(p1+1) % (lpA fs f1 l1).length:=⟨_,rfl⟩
     obtain⟨q2,hq2⟩:∃q,q=(p2+1) % (lpA fs f2 l2).length:=⟨_,rfl⟩
     have HQ:Hid (q1=(p1+1) % (lpA fs f1 l1).length∧q2=(p2+1) % (lpA fs f2 l2).length∧q1<(lpA fs f1 l1).length∧q2<(lpA fs f2 l2).length):=⟨hq1,hq2,by rw[hq1];exact Nat.mod_lt _ (by have:=HX.out;omega),by rw[hq2];exact Nat.mod_lt _ (by have:=HX.out;omega)⟩
     clear hq1 hq2
     go_quiet (fail)
     rename_i nq
     have HT6:Hid ((RW [.cells #[.int .i64 N,.slice (some ad0) fs.length c] 26,.cells #[.int .i64 0,.slice none 0 0] 26] w B O g cV N fs vf vl (W5.drewN nq)∧PP B Pa Pb (.cells #[.int .i64 f1,.int .i64 l1,.int .i64 p1] 34) (.cells #[.int .i64 f2,.int .i64 l2,.int .i64 p2] 34) (W5.drewN nq))):=HTG.out _ _ HT.out (grown_of_below (Drawn0.below ⟨⟨nq,rfl⟩⟩) none)
     clear HT m01 k0 k1 k2 k3 a0 a1 b0 b1
     generalize W5.drewN nq=W6 at HT6 ⊢
     have a0:W6.cell? ⟨Pa,0,none⟩=some (.int .i64 f1):=(blk_cells HT6.out.2.1).1 0 _ rfl
     have a1:W6.cell? ⟨Pa,1,none⟩=some (.int .i64 l1):=(blk_cells HT6.out.2.1).1 1 _ rfl
     have b0:W6.cell? ⟨Pb,0,none⟩=some (.int .i64 f2):=(blk_cells HT6.out.2.2.1).1 0 _ rfl
     have b1:W6.cell? ⟨Pb,1,none⟩=some (.int .i64 l2):=(blk_cells HT6.out.2.2.1).1 1 _ rfl
     by_cases h1:f1=f2∧l1=l2
     ·obtain⟨rfl,rfl⟩:=h1
      have HSA:Hid (rdeE N fs v u=doneE N (fs.set f1 ((fcA fs f1).set l1 (shutL (upToL (lpA fs f1 l1) q1 p2)) ++ [shutL (upToL (lpA fs f1 l1) q2 p1)]))):=by
       obtain⟨⟨ef1,el1,ep1⟩,ef2,el2,ep2⟩:=HXX.out
       show _=_
       unfold rdeE
       rw[if_neg (fun q=>q HV0.out),HED.out.1,HED.out.2.1]
       have hs:x.f=y.f∧x.l=y.l:=⟨by rw[←ef1,←ef2],by rw[←el1,←el2]⟩
       simp only[]
       rw[if_neg (fun q=>q.1 hs)]
       unfold deL
       rw[if_pos hs,←ef1,←el1,←ep1,←ep2,←HQ.out.1,←HQ.out.2.1]
      go_upto_region 11 with fail
      clear a0 a1 b0 b1
      have HE:Hid (∀W,(RW [.cells #[.int .i64 N,.slice (some ad0) fs.length c] 26,.cells #[.int .i64 0,.slice none 0 0] 26] w B O g cV N fs vf vl W∧PP B Pa Pb (.cells #[.int .i64 f1,.int .i64 l1,.int .i64 p1] 34) (.cells #[.int .i64 f1,.int .i64 l1,.int .i64 p2] 34) W)→(W.cell? ⟨O,1,none⟩=some (.slice (some ⟨g,0,none⟩) fs.length cV)∧W.cell? ⟨Pa,0,none⟩=some (.int .i64 f1)∧W.cell? ⟨Pa,1,none⟩=some (.int .i64 l1)∧W.cell? ⟨Pa,2,none⟩=some (.int .i64 p1)∧W.cell? ⟨Pb,2,none⟩=some (.int .i64 p2)∧W.cell? ⟨g,f1,none⟩=some (.slice (some ⟨g1,0,none⟩) ((fcA fs f1).length) cF)∧W.frozen? ⟨g1,l1,none⟩=false∧W.cell? ⟨g1,l1,none⟩=some (clO W ⟨g1,l1,none⟩))):=fun W h=>⟨h.1.o1,(blk_cells h.2.1).1 0 _ rfl,(blk_cells h.2.1).1 1 _ rfl,(blk_cells h.2.1).1 2 _ rfl,(blk_cells h.2.2.1).1 2 _ rfl,by rw[h.1.face HX.out.1.1,HVF.out],(by have h1:=(h.1.mw.face f1 HX.out.1.1).own;rw[HVF.out] at h1;exact World.ownsRow.frozenAt h1 l1),clO_of (h.1.loop HX.out.1.1 HX.out.1.2.1 HVF.out)⟩
      have HKS:Hid (∀W v,(W.cell? ⟨O,1,none⟩=some (.slice (some ⟨g,0,none⟩) fs.length cV)∧W.cell? ⟨Pa,0,none⟩=some (.int .i64 f1)∧W.cell? ⟨Pa,1,none⟩=some (.int .i64 l1)∧W.cell? ⟨Pa,2,none⟩=some (.int .i64 p1)∧W.cell? ⟨Pb,2,none⟩=some (.int .i64 p2)∧W.cell? ⟨g,f1,none⟩=some (.slice (some ⟨g1,0,none⟩) ((fcA fs f1).length) cF)∧W.frozen? ⟨g1,l1,none⟩=false∧W.cell? ⟨g1,l1,none⟩=some (clO W ⟨g1,l1,none⟩))→((W.setCell ⟨g1,l1,none⟩ v).cell? ⟨O,1,none⟩=some (.slice (some ⟨g,0,none⟩) fs.length cV)∧(W.setCell ⟨g1,l1,none⟩ v).cell? ⟨Pa,0,none⟩=some (.int .i64 f1)∧(W.setCell ⟨g1,l1,none⟩ v).cell? ⟨Pa,1,none⟩=some (.int .i64 l1)∧(W.setCell ⟨g1,l1,none⟩ v).cell? ⟨Pa,2,none⟩=some (.int .i64 p1)∧(W.setCell ⟨g1,l1,none⟩ v).cell? ⟨Pb,2,none⟩=some (.int .i64 p2)∧(W.setCell ⟨g1,l1,none⟩ v).cell? ⟨g,f1,none⟩=some (.slice (some ⟨g1,0,none⟩) ((fcA fs f1).length) cF)∧(W.setCell ⟨g1,l1,none⟩ v).frozen? ⟨g1,l1,none⟩=false∧(W.setCell ⟨g1,l1,none⟩ v).cell? ⟨g1,l1,none⟩=some (clO (W.setCell ⟨g1,l1,none⟩ v) ⟨g1,l1,none⟩))):=fun W v h=>⟨set_far (by show g1≠O;have:=HGG.out;omega) (h.1),set_far (by show g1≠Pa;have:=HGG.out;omega) (h.2.1),set_far (by show g1≠Pa;have:=HGG.out;omega) (h.2.2.1),set_far (by show g1≠Pa;have:=HGG.out;omega) (h.2.2.2.1),set_far (by show g1≠Pb;have:=HGG.out;omega) (h.2.2.2.2.1),set_far (by show g1≠g;have:=HGG.out;omega) (h.2.2.2.2.2.1),set_frz (h.2.2.2.2.2.2.1),set_here (h.2.2.2.2.2.2.2)⟩
      have HNX:Hid (∀W,Calls Try.prog 44 #[.slice AX (lpA fs f1 l1).length cX,.int .i64 p1] W fun e w'=>e=.returned (.int .i64 q1)∧w'=W):=fun W=>by rw[HQ.out.1];exact next_same AX cX _ p1 W (by have:=HX.out;omega) (by have:=HX.out;omega) (by have:=HRL.out;omega)
      have HUT:Hid (∀W,(RW [.cells #[.int .i64 N,.slice (some ad0) fs.length c] 26,.cells #[.int .i64 0,.slice none 0 0] 26] w B O g cV N fs vf vl W∧PP B Pa Pb (.cells #[.int .i64 f1,.int .i64 l1,.int .i64 p1] 34) (.cells #[.int .i64 f1,.int .i64 l1,.int .i64 p2] 34) W)→Calls Try.prog 71 #[.slice AX (lpA fs f1 l1).length cX,.int .i64 q1,.int .i64 p2] W fun e w'=>(∃A m,e=.returned (.slice A m m)∧LR w' (.slice A m m) (upToL (lpA fs f1 l1) q1 p2))∧Below W.heap.size W w'):=fun W h=>upTo_full AX _ cX q1 p2 _ W rfl (RI.below HRL.out.1.1 h.1.obs.below) HRL.out.1.2.1 (by have:=HQ.out;omega) (by have:=HX.out;omega) (by have:=HRL.out;omega)
      go_region_held3 (fun W=>(W.cell? ⟨O,1,none⟩=some (.slice (some ⟨g,0,none⟩) fs.length cV)∧W.cell? ⟨Pa,0,none⟩=some (.int .i64 f1)∧W.cell? ⟨Pa,1,none⟩=some (.int .i64 l1)∧W.cell? ⟨Pa,2,none⟩=some (.int .i64 p1)∧W.cell? ⟨Pb,2,none⟩=some (.int .i64 p2)∧W.cell? ⟨g,f1,none⟩=some (.slice (some ⟨g1,0,none⟩) ((fcA fs f1).length) cF)∧W.frozen? ⟨g1,l1,none⟩=false∧W.cell? ⟨g1,l1,none⟩=some (clO W ⟨g1,l1,none⟩))) ((first | (with_reducible exact HKS.out _ _ (by assumption)) | (with_reducible exact HE.out _ (HTG.out _ _ (HTG.out _ _ HT6.out (grown_drew _)) (grown_of_below hb1 none))) | (with_reducible exact HE.out _ (HTG.out _ _ HT6.out (grown_drew _))))) ((first | (go_at_call 44;(with_reducible refine(HNX.out _).mono ?_);rintro e w1 ⟨rfl,rfl⟩) | (go_at_call 71;(with_reducible refine(HUT.out _ (HTG.out _ _ HT6.out (grown_drew _))).mono ?_);rintro e W10 ⟨⟨A10,n10,rfl,hlr⟩,hb1⟩) | (go_at_call 74;(with_reducible refine(shut_any _ _ _ _ _ hlr (by have h:=hlr.reads.1;have:=upToL_len (lpA fs f1 l1) q1 p2;have:=HRL.out;omega)).mono ?_);rintro e W10 ⟨⟨v11,rfl,hls⟩,rfl⟩;obtain⟨A11,n11,c11,rfl⟩:=hls.slice3)))
      have hT10:=HTG.out _ _ (HTG.out _ _ HT6.out (grown_drew _)) (grown_of_below hb1 none)
      have hRO:=hT10.1.put HX.out.1.1 HX.out.1.2.1 HVF.out hls
      have hM:=(MR.of hT10.1.mw).put HX.out.1.1 HX.out.1.2.1 hls HVF.out
      have hP:=hT10.2.kept (grown_set W10 g1 l1 (.slice A11 n11 c11)) (fun k e=>by cases e;have:=HGG.out;omega)
      clear HE HKS HNX HUT hT10 hlr hls hb1 HT6 HTG
      generalize W10.setCell _ _=W11 at hRO hM hP ⊢
      obtain⟨vl2,hM2⟩:∃vl2,MR B (.slice (some ⟨g,0,none⟩) fs.length cV) (setL fs f1 l1 (shutL (upToL (lpA fs f1 l1) q1 p2))) (setL fs f1 l1 (shutL (upToL (lpA fs f1 l1) q1 p2))).length vf vl2 W11:=⟨_,hM⟩
      have HU:Hid ((RO [.cells #[.int .i64 N,.slice (some ad0) fs.length c] 26,.cells #[.int .i64 0,.slice none 0 0] 26] w B O N (.slice (some ⟨g,0,none⟩) fs.length cV) (setL fs f1 l1 (shutL (upToL (lpA fs f1 l1) q1 p2))) W11∧MR B (.slice (some ⟨g,0,none⟩) fs.length cV) (setL fs f1 l1 (shutL (upToL (lpA fs f1 l1) q1 p2))) (setL fs f1 l1 (shutL (upToL (lpA fs f1 l1) q1 p2))).length vf vl2 W11∧PP B Pa Pb (.cells #[.int .i64 f1,.int .i64 l1,.int .i64 p1] 34) (.cells #[.int .i64 f1,.int .i64 l1,.int .i64 p2] 34) W11)):=⟨hRO,hM2,hP⟩
      clear hRO hM hM2 hP
      have HUG:Hid (∀W W1,(RO [.cells #[.int .i64 N,.slice (some ad0) fs.length c] 26,.cells #[.int .i64 0,.slice none 0 0] 26] w B O N (.slice (some ⟨g,0,none⟩) fs.length cV) (setL fs f1 l1 (shutL (upToL (lpA fs f1 l1) q1 p2))) W∧MR B (.slice (some ⟨g,0,none⟩) fs.length cV) (setL fs f1 l1 (shutL (upToL (lpA fs f1 l1) q1 p2))) (setL fs f1 l1 (shutL (upToL (lpA fs f1 l1) q1 p2))).length vf vl2 W∧PP B Pa Pb (.cells #[.int .i64 f1,.int .i64 l1,.int .i64 p1] 34) (.cells #[.int .i64 f1,.int .i64 l1,.int .i64 p2] 34) W)→W.grownBy W1 none→(RO [.cells #[.int .i64 N,.slice (some ad0) fs.length c] 26,.cells #[.int .i64 0,.slice none 0 0] 26] w B O N (.slice (some ⟨g,0,none⟩) fs.length cV) (setL fs f1 l1 (shutL (upToL (lpA fs f1 l1) q1 p2))) W1∧MR B (.slice (some ⟨g,0,none⟩) fs.length cV) (setL fs f1 l1 (shutL (upToL (lpA fs f1 l1) q1 p2))) (setL fs f1 l1 (shutL (upToL (lpA fs f1 l1) q1 p2))).length vf vl2 W1∧PP B Pa Pb (.cells #[.int .i64 f1,.int .i64 l1,.int .i64 p1] 34) (.cells #[.int .i64 f1,.int .i64 l1,.int .i64 p2] 34) W1)):=fun W W1 h hg=>⟨h.1.grown hg,h.2.1.grown hg,h.2.2.grown hg⟩
      have HFC:Hid (∀W,(RO [.cells #[.int .i64 N,.slice (some ad0) fs.length c] 26,.cells #[.int .i64 0,.slice none 0 0] 26] w B O N (.slice (some ⟨g,0,none⟩) fs.length cV) (setL fs f1 l1 (shutL (upToL (lpA fs f1 l1) q1 p2))) W∧MR B (.slice (some ⟨g,0,none⟩) fs.length cV) (setL fs f1 l1 (shutL (upToL (lpA fs f1 l1) q1 p2))) (setL fs f1 l1 (shutL (upToL (lpA fs f1 l1) q1 p2))).length vf vl2 W∧PP B Pa Pb (.cells #[.int .i64 f1,.int .i64 l1,.int .i64 p1] 34) (.cells #[.int .i64 f1,.int .i64 l1,.int .i64 p2] 34) W)→W.cell? ⟨g,f1,none⟩=some (.slice (some ⟨g1,0,none⟩) ((fcA fs f1).length) cF)∧W.frozen? ⟨g,f1,none⟩=false):=fun W h=>by
       have ho:=h.2.1.own
       rw[setL_len] at ho
       have q0:=World.ownsRow.cellAt ho f1 (by have:=HX.out;omega)
       rw[List.getElem?_map,List.getElem?_range HX.out.1.1] at q0
       exact⟨q0.trans (by rw[←HVF.out];rfl),World.ownsRow.frozenAt ho f1⟩
      have n1:=(blk_cells HU.out.1.out).1 1 _ rfl
      have n2:=(HFC.out _ HU.out).1
      have a0:W11.cell? ⟨Pa,0,none⟩=some (.int .i64 f1):=(blk_cells HU.out.2.2.1).1 0 _ rfl
      go_upto_region 13 with fail
      clear n1 n2 a0
      have HE:Hid (∀W,(RO [.cells #[.int .i64 N,.slice (some ad0) fs.length c] 26,.cells #[.int .i64 0,.slice none 0 0] 26] w B O N (.slice (some ⟨g,0,none⟩) fs.length cV) (setL fs f1 l1 (shutL (upToL (lpA fs f1 l1) q1 p2))) W∧MR B (.slice (some ⟨g,0,none⟩) fs.length cV) (setL fs f1 l1 (shutL (upToL (lpA fs f1 l1) q1 p2))) (setL fs f1 l1 (shutL (upToL (lpA fs f1 l1) q1 p2))).length vf vl2 W∧PP B Pa Pb (.cells #[.int .i64 f1,.int .i64 l1,.int .i64 p1] 34) (.cells #[.int .i64 f1,.int .i64 l1,.int .i64 p2] 34) W)→(W.cell? ⟨O,1,none⟩=some (.slice (some ⟨g,0,none⟩) fs.length cV)∧W.cell? ⟨Pa,0,none⟩=some (.int .i64 f1)∧W.cell? ⟨Pa,2,none⟩=some (.int .i64 p1)∧W.cell? ⟨Pb,2,none⟩=some (.int .i64 p2)∧W.frozen? ⟨g,f1,none⟩=false∧W.cell? ⟨g,f1,none⟩=some (clO W ⟨g,f1,none⟩))):=fun W h=>⟨(blk_cells h.1.out).1 1 _ rfl,(blk_cells h.2.2.1).1 0 _ rfl,(blk_cells h.2.2.1).1 2 _ rfl,(blk_cells h.2.2.2.1).1 2 _ rfl,(HFC.out _ h).2,clO_of (HFC.out _ h).1⟩
      have HKS:Hid (∀W v,(W.cell? ⟨O,1,none⟩=some (.slice (some ⟨g,0,none⟩) fs.length cV)∧W.cell? ⟨Pa,0,none⟩=some (.int .i64 f1)∧W.cell? ⟨Pa,2,none⟩=some (.int .i64 p1)∧W.cell? ⟨Pb,2,none⟩=some (.int .i64 p2)∧W.frozen? ⟨g,f1,none⟩=false∧W.cell? ⟨g,f1,none⟩=some (clO W ⟨g,f1,none⟩))→((W.setCell ⟨g,f1,none⟩ v).cell? ⟨O,1,none⟩=some (.slice (some ⟨g,0,none⟩) fs.length cV)∧(W.setCell ⟨g,f1,none⟩ v).cell? ⟨Pa,0,none⟩=some (.int .i64 f1)∧(W.setCell ⟨g,f1,none⟩ v).cell? ⟨Pa,2,none⟩=some (.int .i64 p1)∧(W.setCell ⟨g,f1,none⟩ v).cell? ⟨Pb,2,none⟩=some (.int .i64 p2)∧(W.setCell ⟨g,f1,none⟩ v).frozen? ⟨g,f1,none⟩=false∧(W.setCell ⟨g,f1,none⟩ v).cell? ⟨g,f1,none⟩=some (clO (W.setCell ⟨g,f1,none⟩ v) ⟨g,f1,none⟩))):=fun W v h=>⟨set_far (by show g≠O;have:=HGG.out;omega) (h.1),set_far (by show g≠Pa;have:=HGG.out;omega) (h.2.1),set_far (by show g≠Pa;have:=HGG.out;omega) (h.2.2.1),set_far (by show g≠Pb;have:=HGG.out;omega) (h.2.2.2.1),set_frz (h.2.2.2.2.1),set_here (h.2.2.2.2.2)⟩
      have HKG:Hid (∀W W1,(W.cell? ⟨O,1,none⟩=some (.slice (some ⟨g,0,none⟩) fs.length cV)∧W.cell? ⟨Pa,0,none⟩=some (.int .i64 f1)∧W.cell? ⟨Pa,2,none⟩=some (.int .i64 p1)∧W.cell? ⟨Pb,2,none⟩=some (.int .i64 p2)∧W.frozen? ⟨g,f1,none⟩=false∧W.cell? ⟨g,f1,none⟩=some (clO W ⟨g,f1,none⟩))→W.grownBy W1 (some g1)→(W1.cell? ⟨O,1,none⟩=some (.slice (some ⟨g,0,none⟩) fs.length cV)∧W1.cell? ⟨Pa,0,none⟩=some (.int .i64 f1)∧W1.cell? ⟨Pa,2,none⟩=some (.int .i64 p1)∧W1.cell? ⟨Pb,2,none⟩=some (.int .i64 p2)∧W1.frozen? ⟨g,f1,none⟩=false∧W1.cell? ⟨g,f1,none⟩=some (clO W1 ⟨g,f1,none⟩))):=fun W W1 h hg=>⟨far_cell hg (by simp;have:=HGG.out;omega) (h.1),far_cell hg (by simp;have:=HGG.out;omega) (h.2.1),far_cell hg (by simp;have:=HGG.out;omega) (h.2.2.1),far_cell hg (by simp;have:=HGG.out;omega) (h.2.2.2.1),far_frz hg (by simp;have:=HGG.out;omega) (h.2.2.2.2.2) (h.2.2.2.2.1),far_here hg (by simp;have:=HGG.out;omega) (h.2.2.2.2.2)⟩
      have HNX:Hid (∀W,Calls Try.prog 44 #[.slice AX (lpA fs f1 l1).length cX,.int .i64 p2] W fun e w'=>e=.returned (.int .i64 q2)∧w'=W):=fun W=>by rw[HQ.out.2.1];exact next_same AX cX _ p2 W (by have:=HX.out;omega) (by have:=HX.out;omega) (by have:=HRL.out;omega)
      have HUT:Hid (∀W,(RO [.cells #[.int .i64 N,.slice (some ad0) fs.length c] 26,.cells #[.int .i64 0,.slice none 0 0] 26] w B O N (.slice (some ⟨g,0,none⟩) fs.length cV) (setL fs f1 l1 (shutL (upToL (lpA fs f1 l1) q1 p2))) W∧MR B (.slice (some ⟨g,0,none⟩) fs.length cV) (setL fs f1 l1 (shutL (upToL (lpA fs f1 l1) q1 p2))) (setL fs f1 l1 (shutL (upToL (lpA fs f1 l1) q1 p2))).length vf vl2 W∧PP B Pa Pb (.cells #[.int .i64 f1,.int .i64 l1,.int .i64 p1] 34) (.cells #[.int .i64 f1,.int .i64 l1,.int .i64 p2] 34) W)→Calls Try.prog 71 #[.slice AX (lpA fs f1 l1).length cX,.int .i64 q2,.int .i64 p1] W fun e w'=>(∃A m,e=.returned (.slice A m m)∧LR w' (.slice A m m) (upToL (lpA fs f1 l1) q2 p1))∧Below W.heap.size W w'):=fun W h=>upTo_full AX _ cX q2 p1 _ W rfl (RI.below HRL.out.1.1 h.1.obs.below) HRL.out.1.2.1 (by have:=HQ.out;omega) (by have:=HX.out;omega) (by have:=HRL.out;omega)
      have HFL:Hid ((fcA (setL fs f1 l1 (shutL (upToL (lpA fs f1 l1) q1 p2))) f1).length=(fcA fs f1).length∧fcA (setL fs f1 l1 (shutL (upToL (lpA fs f1 l1) q1 p2))) f1=(fcA fs f1).set l1 (shutL (upToL (lpA fs f1 l1) q1 p2))):=(fun(h:fcA (setL fs f1 l1 (shutL (upToL (lpA fs f1 l1) q1 p2))) f1=(fcA fs f1).set l1 (shutL (upToL (lpA fs f1 l1) q1 p2)))=>⟨by rw[h,List.length_set],h⟩) (by rw[fcA_setL HX.out.1.1,if_pos rfl])
      have HOF:Hid (∀W,(RO [.cells #[.int .i64 N,.slice (some ad0) fs.length c] 26,.cells #[.int .i64 0,.slice none 0 0] 26] w B O N (.slice (some ⟨g,0,none⟩) fs.length cV) (setL fs f1 l1 (shutL (upToL (lpA fs f1 l1) q1 p2))) W∧MR B (.slice (some ⟨g,0,none⟩) fs.length cV) (setL fs f1 l1 (shutL (upToL (lpA fs f1 l1) q1 p2))) (setL fs f1 l1 (shutL (upToL (lpA fs f1 l1) q1 p2))).length vf vl2 W∧PP B Pa Pb (.cells #[.int .i64 f1,.int .i64 l1,.int .i64 p1] 34) (.cells #[.int .i64 f1,.int .i64 l1,.int .i64 p2] 34) W)→W.ownsRow B 36 1 (.slice (some ⟨g1,0,none⟩) ((fcA fs f1).length) cF) (fcA fs f1).length ((List.range (fcA fs f1).length).map (vl2 f1))):=fun W h=>by have h1:=(h.2.1.face f1 (by rw[setL_len];exact HX.out.1.1)).own;rw[HVF.out,HFL.out.1] at h1;exact h1
      go_region_held3 (fun W=>(W.cell? ⟨O,1,none⟩=some (.slice (some ⟨g,0,none⟩) fs.length cV)∧W.cell? ⟨Pa,0,none⟩=some (.int .i64 f1)∧W.cell? ⟨Pa,2,none⟩=some (.int .i64 p1)∧W.cell? ⟨Pb,2,none⟩=some (.int .i64 p2)∧W.frozen? ⟨g,f1,none⟩=false∧W.cell? ⟨g,f1,none⟩=some (clO W ⟨g,f1,none⟩))) ((first | (with_reducible exact HKS.out _ _ (by assumption)) | (with_reducible exact HKG.out _ _ (by assumption) hgrow) | (with_reducible exact HE.out _ (HUG.out _ _ (HUG.out _ _ (HUG.out _ _ HU.out (grown_drew _)) (grown_of_below hb1 none)) (World.grownBy_alloc _ _ none))) | (with_reducible exact HE.out _ (HUG.out _ _ (HUG.out _ _ HU.out (grown_drew _)) (grown_of_below hb1 none))) | (with_reducible exact HE.out _ (HUG.out _ _ HU.out (grown_drew _))))) ((first | (go_at_call 44;(with_reducible refine(HNX.out _).mono ?_);rintro e w1 ⟨rfl,rfl⟩) | (go_at_call 71;(with_reducible refine(HUT.out _ (HUG.out _ _ HU.out (grown_drew _))).mono ?_);rintro e W12 ⟨⟨A12,n12,rfl,hlr⟩,hb1⟩) | (go_at_call 74;(with_reducible refine(shut_any _ _ _ _ _ hlr (by have h:=hlr.reads.1;have:=upToL_len (lpA fs f1 l1) q2 p1;have:=HRL.out;omega)).mono ?_);rintro e W12 ⟨⟨v13,rfl,hls⟩,rfl⟩;obtain⟨A13,n13,c13,rfl⟩:=hls.slice3) | (refine step_keep1 (by rfl) _ _ _ (by rfl) B 36 Try.underlying37 infoL g1 cF (fcA fs f1).length _ (by rfl) (HOF.out _ (HUG.out _ _ (HUG.out _ _ (HUG.out _ _ HU.out (grown_drew _)) (grown_of_below hb1 none)) (World.grownBy_alloc _ _ none))) (.slice A13 n13 c13) rfl W12.heap.size (by rfl) (blk_new W12 _) (by have:=HR.out.fine.face (f:=f1);omega) (by have h1:=(HUG.out _ _ (HUG.out _ _ HU.out (grown_drew _)) (grown_of_below hb1 none));have h2:=h1.1.out.lt;have h3:=h1.1.low;have h4:O<W12.heap.size:=h2;have h5:B≤O:=h3.2;simp;omega) ?_;intro q10 cap10 W14 hown10 hgrow hat)))
      have hU:=HUG.out _ _ (HUG.out _ _ (HUG.out _ _ HU.out (grown_drew _)) (grown_of_below hb1 none)) (World.grownBy_alloc W12 (.cells #[.slice A13 n13 c13] 36) none)
      have hRO:=hU.1.faceApp hU.2.1 HGG.out.2.1 (by rw[setL_len]) (by rw[setL_len];exact HX.out.1.1) HVF.out HFL.out.1.symm HGG.out.1 (hls.kept (World.grownBy_alloc _ _ none) (NoI.none _)) hown10 hgrow hat
      clear HE HKS HKG HNX HUT HOF hU hlr hls hb1 HU HUG HFC hown10 hgrow hat
      generalize W14.setCell _ _=W15 at hRO ⊢
      rw[HFL.out.2,show((setL fs f1 l1 (shutL (upToL (lpA fs f1 l1) q1 p2)))).set f1 ((fcA fs f1).set l1 (shutL (upToL (lpA fs f1 l1) q1 p2)) ++ [(shutL (upToL (lpA fs f1 l1) q2 p1))])=fs.set f1 ((fcA fs f1).set l1 (shutL (upToL (lpA fs f1 l1) q1 p2)) ++ [(shutL (upToL (lpA fs f1 l1) q2 p1))]) by unfold setL;rw[List.set_set]] at hRO
      have HRO7:=Lib.hid hRO
      clear hRO HFL
      have HDN:=Lib.hid (HRO7.out.calls ((fine_two HR.out f1 l1 (by have:=(shutL_sub (upToL (lpA fs f1 l1) q1 p2)).1;have:=upToL_len (lpA fs f1 l1) q1 p2;have:=HRL.out;omega) (by have:=(shutL_sub (upToL (lpA fs f1 l1) q2 p1)).1;have:=upToL_len (lpA fs f1 l1) q2 p1;have:=HRL.out;omega) (fun z hz=>(HR.out.fine.loop f1 l1).2 z (upToL_mem ((shutL_sub _).2.1 z hz))) (fun z hz=>(HR.out.fine.loop f1 l1).2 z (upToL_mem ((shutL_sub _).2.1 z hz)))).sm (by omega)))
      have n0:=(blk_cells HRO7.out.out).1 0 _ rfl
      have n1:=(blk_cells HRO7.out.out).1 1 _ rfl
      go_wp2_with fail
      ((with_reducible refine(HDN.out).mono ?_);rintro e W20 ⟨⟨bb,rfl,hbb⟩,hbl⟩)
      have HBB2:=Lib.hid hbb
      have HRO20:=Lib.hid (HRO7.out.call hbl)
      have HOB20:=Lib.hid HRO20.out.obs
      clear HDN hbb hbl HRO7 n0 n1
      have m10:W20.cell? ⟨w.heap.size+1,0,none⟩=some (.int .i64 0):=HOB20.out.cell 1 0 rfl rfl
      have z10:W20.frozen? ⟨w.heap.size+1,0,none⟩=false:=HOB20.out.frz 1 0 rfl
      have m11:W20.cell? ⟨w.heap.size+1,1,none⟩=some (.slice none 0 0):=HOB20.out.cell 1 1 rfl rfl
      have z11:W20.frozen? ⟨w.heap.size+1,1,none⟩=false:=HOB20.out.frz 1 1 rfl
      have HE:Hid (rdeE N fs v u=doneE N (fs.set f1 ((fcA fs f1).set l1 (shutL (upToL (lpA fs f1 l1) q1 p2)) ++ [(shutL (upToL (lpA fs f1 l1) q2 p1))]))):=HSA.out
      cases bb
      ·go_wp2
       obtain⟨hx,hxB⟩:=HOB20.out.ret 1 (.int .i64 0) (.slice none 0 0) rfl
       have e00:=(blk_cells hx).1 0 _ rfl
       have e01:=(blk_cells hx).1 1 _ rfl
       refine bodyPost_ret (v:=.tuple #[.agg #[.int .i64 0,.slice none 0 0],.int .i64 2]) (by simp[results,Try.f39,go_sem,e00,e01]) rfl ?_
       exact⟨HRO20.out.done (b:=false) 1 rfl (.int .i64 0) (.slice none 0 0) HE.out (by simpa using HBB2.out) rfl,hxB⟩
      ·go_wp2
       obtain⟨hx,hxB⟩:=HOB20.out.ret 1 (.int .i64 N) (.slice (some ⟨g,0,none⟩) fs.length cV) rfl
       have e00:=(blk_cells hx).1 0 _ rfl
       have e01:=(blk_cells hx).1 1 _ rfl
       refine bodyPost_ret (v:=.tuple #[.agg #[.int .i64 N,.slice (some ⟨g,0,none⟩) fs.length cV],.int .i64 0]) (by simp[results,Try.f39,go_sem,e00,e01]) rfl ?_
       exact⟨HRO20.out.done (b:=true) 1 rfl (.int .i64 N) (.slice (some ⟨g,0,none⟩) fs.length cV) HE.out (by simpa using HBB2.out) rfl,hxB⟩
     ·have hns:¬ (x.f=y.f∧x.l=y.l):=by obtain⟨⟨ef1,el1,ep1⟩,ef2,el2,ep2⟩:=HXX.out;rw[←ef1,←ef2,←el1,←el2];exact h1
      have HNS:=Lib.hid hns
      clear hns
      have HOB6:=Lib.hid HT6.out.1.obs
      by_cases h2:f1=f2
      ·have h3:¬ (l1:Int)=(l2:Int):=fun e=>h1 ⟨h2,by omega⟩
       have HE:Hid (rdeE N fs v u=.error 7):=by
        obtain⟨⟨ef1,el1,ep1⟩,ef2,el2,ep2⟩:=HXX.out
        show _=_
        unfold rdeE
        rw[if_neg (fun q=>q HV0.out),HED.out.1,HED.out.2.1]
        simp only[]
        rw[if_pos ⟨HNS.out,.inl (by rw[←ef1,←ef2];exact h2)⟩]
       have m10:W6.cell? ⟨w.heap.size+1,0,none⟩=some (.int .i64 0):=HOB6.out.cell 1 0 rfl rfl
       have z10:W6.frozen? ⟨w.heap.size+1,0,none⟩=false:=HOB6.out.frz 1 0 rfl
       have m11:W6.cell? ⟨w.heap.size+1,1,none⟩=some (.slice none 0 0):=HOB6.out.cell 1 1 rfl rfl
       have z11:W6.frozen? ⟨w.heap.size+1,1,none⟩=false:=HOB6.out.frz 1 1 rfl
       subst h2
       clear h1
       go_wp2
       obtain⟨hx,hxB⟩:=HOB6.out.ret 1 (.int .i64 0) (.slice none 0 0) rfl
       have e00:=(blk_cells hx).1 0 _ rfl
       have e01:=(blk_cells hx).1 1 _ rfl
       refine bodyPost_ret (v:=.tuple #[.agg #[.int .i64 0,.slice none 0 0],.int .i64 7]) (by simp[results,Try.f39,go_sem,e00,e01]) rfl ?_
       exact⟨by rw[HE.out];rfl,hxB⟩
      ·have h3:¬ (f1:Int)=(f2:Int):=by omega
       have H12:Hid (f1≠f2):=h2
       clear h1 h2
       have m01:W6.cell? ⟨w.heap.size,1,none⟩=some (.slice (some ad0) fs.length c):=HT6.out.1.obs.cell 0 1 rfl rfl
       have k2:=pw_cell_below HT6.out.1.obs.below HC3.out
       by_cases h4:1<(fcA fs f2).length
       ·have h5:((fcA fs f2).length:Int) > 1:=by omega
        have HE:Hid (rdeE N fs v u=.error 7):=by
         obtain⟨⟨ef1,el1,ep1⟩,ef2,el2,ep2⟩:=HXX.out
         show _=_
         unfold rdeE
         rw[if_neg (fun q=>q HV0.out),HED.out.1,HED.out.2.1]
         simp only[]
         rw[if_pos ⟨HNS.out,.inr (by rw[←ef2];exact h4)⟩]
        have m10:W6.cell? ⟨w.heap.size+1,0,none⟩=some (.int .i64 0):=HOB6.out.cell 1 0 rfl rfl
        have z10:W6.frozen? ⟨w.heap.size+1,0,none⟩=false:=HOB6.out.frz 1 0 rfl
        have m11:W6.cell? ⟨w.heap.size+1,1,none⟩=some (.slice none 0 0):=HOB6.out.cell 1 1 rfl rfl
        have z11:W6.frozen? ⟨w.heap.size+1,1,none⟩=false:=HOB6.out.frz 1 1 rfl
        clear h4
        go_wp2
        obtain⟨hx,hxB⟩:=HOB6.out.ret 1 (.int .i64 0) (.slice none 0 0) rfl
        have e00:=(blk_cells hx).1 0 _ rfl
        have e01:=(blk_cells hx).1 1 _ rfl
        refine bodyPost_ret (v:=.tuple #[.agg #[.int .i64 0,.slice none 0 0],.int .i64 7]) (by simp[results,Try.f39,go_sem,e00,e01]) rfl ?_
        exact⟨by rw[HE.out];rfl,hxB⟩
       ·have h5:¬ ((fcA fs f2).length:Int) > 1:=by omega
        have HSA:Hid (rdeE N fs v u=doneE N ((setL fs f1 l1 (upToL (lpA fs f1 l1) q1 p1 ++ (upToL (lpA fs f2 l2) q2 p2).tail.dropLast)).eraseIdx f2)):=by
         obtain⟨⟨ef1,el1,ep1⟩,ef2,el2,ep2⟩:=HXX.out
         show _=_
         unfold rdeE
         rw[if_neg (fun q=>q HV0.out),HED.out.1,HED.out.2.1]
         simp only[]
         rw[if_neg (by rintro⟨-,q | q⟩;exact H12.out (by rw[ef1,ef2];exact q);rw[←ef2] at q;exact h4 q)]
         unfold deL
         rw[if_neg HNS.out,←ef1,←el1,←ep1,←ef2,←el2,←ep2,←HQ.out.1,←HQ.out.2.1]
        clear h4 HOB6
        go_upto_region 17 with fail
        clear a0 a1 b0 b1 m01 k2 h3 h5
        have HE:Hid (∀W,(RW [.cells #[.int .i64 N,.slice (some ad0) fs.length c] 26,.cells #[.int .i64 0,.slice none 0 0] 26] w B O g cV N fs vf vl W∧PP B Pa Pb (.cells #[.int .i64 f1,.int .i64 l1,.int .i64 p1] 34) (.cells #[.int .i64 f2,.int .i64 l2,.int .i64 p2] 34) W)→W.cell? ⟨Pa,2,none⟩=some (.int .i64 p1)):=fun W h=>(blk_cells h.2.1).1 2 _ rfl
        have HNX:Hid (∀W,Calls Try.prog 44 #[.slice AX (lpA fs f1 l1).length cX,.int .i64 p1] W fun e w'=>e=.returned (.int .i64 q1)∧w'=W):=fun W=>by rw[HQ.out.1];exact next_same AX cX _ p1 W (by have:=HX.out;omega) (by have:=HX.out;omega) (by have:=HRL.out;omega)
        have HUT:Hid (∀W,(RW [.cells #[.int .i64 N,.slice (some ad0) fs.length c] 26,.cells #[.int .i64 0,.slice none 0 0] 26] w B O g cV N fs vf vl W∧PP B Pa Pb (.cells #[.int .i64 f1,.int .i64 l1,.int .i64 p1] 34) (.cells #[.int .i64 f2,.int .i64 l2,.int .i64 p2] 34) W)→Calls Try.prog 71 #[.slice AX (lpA fs f1 l1).length cX,.int .i64 q1,.int .i64 p1] W fun e w'=>(∃A m,e=.returned (.slice A m m)∧LR w' (.slice A m m) (upToL (lpA fs f1 l1) q1 p1))∧Below W.heap.size W w'):=fun W h=>upTo_full AX _ cX q1 p1 _ W rfl (RI.below HRL.out.1.1 h.1.obs.below) HRL.out.1.2.1 (by have:=HQ.out;omega) (by have:=HX.out;omega) (by have:=HRL.out;omega)
        go_region_held3 (fun W=>W.cell? ⟨Pa,2,none⟩=some (.int .i64 p1)) ((first | (with_reducible exact HE.out _ (HTG.out _ _ (HTG.out _ _ HT6.out (grown_drew _)) (grown_of_below hb1 none))) | (with_reducible exact HE.out _ (HTG.out _ _ HT6.out (grown_drew _))))) ((first | (go_at_call 44;(with_reducible refine(HNX.out _).mono ?_);rintro e w1 ⟨rfl,rfl⟩) | (go_at_call 71;(with_reducible refine(HUT.out _ (HTG.out _ _ HT6.out (grown_drew _))).mono ?_);rintro e W7 ⟨⟨A17,n17,rfl,hlr⟩,hb1⟩)))
        have HT7:Hid ((RW [.cells #[.int .i64 N,.slice (some ad0) fs.length c] 26,.cells #[.int .i64 0,.slice none 0 0] 26] w B O g cV N fs vf vl W7∧PP B Pa Pb (.cells #[.int .i64 f1,.int .i64 l1,.int .i64 p1] 34) (.cells #[.int .i64 f2,.int .i64 l2,.int .i64 p2] 34) W7)):=HTG.out _ _ (HTG.out _ _ HT6.out (grown_drew _)) (grown_of_below hb1 none)
        have HL17:=Lib.hid hlr
        clear HE HNX HUT hlr hb1 HT6
        go_upto_region 18 with fail
        have HE:Hid (∀W,(RW [.cells #[.int .i64 N,.slice (some ad0) fs.length c] 26,.cells #[.int .i64 0,.slice none 0 0] 26] w B O g cV N fs vf vl W∧PP B Pa Pb (.cells #[.int .i64 f1,.int .i64 l1,.int .i64 p1] 34) (.cells #[.int .i64 f2,.int .i64 l2,.int .i64 p2] 34) W)→W.cell? ⟨Pb,2,none⟩=some (.int .i64 p2)):=fun W h=>(blk_cells h.2.2.1).1 2 _ rfl
        have HNX:Hid (∀W,Calls Try.prog 44 #[.slice AY (lpA fs f2 l2).length cY,.int .i64 p2] W fun e w'=>e=.returned (.int .i64 q2)∧w'=W):=fun W=>by rw[HQ.out.2.1];exact next_same AY cY _ p2 W (by have:=HX.out;omega) (by have:=HX.out;omega) (by have:=HRL.out;omega)
        have HUT:Hid (∀W,(RW [.cells #[.int .i64 N,.slice (some ad0) fs.length c] 26,.cells #[.int .i64 0,.slice none 0 0] 26] w B O g cV N fs vf vl W∧PP B Pa Pb (.cells #[.int .i64 f1,.int .i64 l1,.int .i64 p1] 34) (.cells #[.int .i64 f2,.int .i64 l2,.int .i64 p2] 34) W)→Calls Try.prog 71 #[.slice AY (lpA fs f2 l2).length cY,.int .i64 q2,.int .i64 p2] W fun e w'=>(∃A m,e=.returned (.slice A m m)∧LR w' (.slice A m m) (upToL (lpA fs f2 l2) q2 p2))∧Below W.heap.size W w'):=fun W h=>upTo_full AY _ cY q2 p2 _ W rfl (RI.below HRL.out.2.1 h.1.obs.below) HRL.out.2.2.1 (by have:=HQ.out;omega) (by have:=HX.out;omega) (by have:=HRL.out;omega)
        go_region_held3 (fun W=>W.cell? ⟨Pb,2,none⟩=some (.int .i64 p2)) ((first | (with_reducible exact HE.out _ (HTG.out _ _ (HTG.out _ _ HT7.out (grown_drew _)) (grown_of_below hb1 none))) | (with_reducible exact HE.out _ (HTG.out _ _ HT7.out (grown_drew _))))) ((first | (go_at_call 44;(with_reducible refine(HNX.out _).mono ?_);rintro e w1 ⟨rfl,rfl⟩) | (go_at_call 71;(with_reducible refine(HUT.out _ (HTG.out _ _ HT7.out (grown_drew _))).mono ?_);rintro e W8 ⟨⟨A18,n18,rfl,hlr⟩,hb1⟩)))
        have HT8:Hid ((RW [.cells #[.int .i64 N,.slice (some ad0) fs.length c] 26,.cells #[.int .i64 0,.slice none 0 0] 26] w B O g cV N fs vf vl W8∧PP B Pa Pb (.cells #[.int .i64 f1,.int .i64 l1,.int .i64 p1] 34) (.cells #[.int .i64 f2,.int .i64 l2,.int .i64 p2] 34) W8)):=HTG.out _ _ (HTG.out _ _ HT7.out (grown_drew _)) (grown_of_below hb1 none)
        have HLA:=Lib.hid ((HL17.out.kept (grown_drew _) (NoI.none _)).kept (grown_of_below hb1 none) (NoI.none _))
        clear HL17
        have HL18:=Lib.hid hlr
        clear HE HNX HUT hlr hb1 HT7
        go_upto_region 19 with fail
        obtain⟨iI,hiI,hiI0,hiI1,hiI2⟩:=info_parts infoI
        obtain⟨n19,hn19⟩:∃n,n=n18 - 1:=⟨_,rfl⟩
        obtain⟨n20,hn20⟩:∃n,n=n19 - 1:=⟨_,rfl⟩
        have e17:=HLA.out.reads.1
        have e18:=HL18.out.reads.1
        rw[HQ.out.1,upToL_round _ (by have:=HX.out;omega)] at e17
        rw[HQ.out.2.1,upToL_round _ (by have:=HX.out;omega)] at e18
        have HNN:Hid (n17=(lpA fs f1 l1).length∧n18=(lpA fs f2 l2).length∧n19=n18 - 1∧n20=n19 - 1∧2≤n18∧2≤n17∧n17≤2000∧n18≤2000):=⟨e17,e18,hn19,hn20,by have:=HX.out;omega,by have:=HX.out;omega,by have:=HRL.out;omega,by have:=HRL.out;omega⟩
        clear e17 e18
        have hcm:∀W:World,(Instr.slice 36 (.slice A18 n18 n18) (some (.int .i64 (1:Int))) (some (.int .i64 (n19:Int))) none).run Try.prog W=.ok (.slice (if n18=1 then A18 else A18.map (·.add (1 * 1))) (n19 - 1) (n18 - 1)) W:=cut_mid (P:=Try.prog) 36 3 .i64 .i64 Try.underlying36 hiI hiI1 A18 n18 n18 1 n19 (by have:=HNN.out;omega) (by have:=HNN.out;omega)
        have hL8:=(HL18.out.drop (m:=1) (by rw[HQ.out.2.1,upToL_round _ (by have:=HX.out;omega)];have:=HX.out;omega)).take (m:=n20) (c':=n19) (by rw[List.length_drop,HQ.out.2.1,upToL_round _ (by have:=HX.out;omega)];have:=HNN.out;omega) (by have:=HNN.out;omega)
        generalize (if n18=1 then A18 else A18.map (·.add (1 * 1)))=A19 at hcm hL8
        rw[←hn19,←hn20] at hcm
        rw[show n20=(upToL (lpA fs f2 l2) q2 p2).length - 2 by rw[HQ.out.2.1,upToL_round _ (by have:=HX.out;omega)];have:=HNN.out;omega,drop_take_mid] at hL8
        have HYR:=Lib.hid (hL8.kept (grown_drew _) (NoI.none _)).reads.2.2
        have HAR:=Lib.hid (HLA.out.kept (grown_drew _) (NoI.none _))
        have HYL:Hid (n20=(upToL (lpA fs f2 l2) q2 p2).tail.dropLast.length):=by have h:=hL8.reads.1;have h2:=HNN.out;rw[←h];show n20=_;first | rfl | (rw[HQ.out.2.1,upToL_round _ (by have:=HX.out;omega)];omega)
        clear hL8 HL18 HLA hn19 hn20
        have hw:IntKind.i64.wrap ((n18:Int) - 1)=(n19:Int):=by have:=HNN.out;rw[IntKind.wrap_i64];omega
        have HE:Hid (∀W,(RW [.cells #[.int .i64 N,.slice (some ad0) fs.length c] 26,.cells #[.int .i64 0,.slice none 0 0] 26] w B O g cV N fs vf vl W∧PP B Pa Pb (.cells #[.int .i64 f1,.int .i64 l1,.int .i64 p1] 34) (.cells #[.int .i64 f2,.int .i64 l2,.int .i64 p2] 34) W)→(W.cell? ⟨O,1,none⟩=some (.slice (some ⟨g,0,none⟩) fs.length cV)∧W.cell? ⟨Pa,0,none⟩=some (.int .i64 f1)∧W.cell? ⟨Pa,1,none⟩=some (.int .i64 l1)∧W.cell? ⟨g,f1,none⟩=some (.slice (some ⟨g1,0,none⟩) ((fcA fs f1).length) cF)∧W.frozen? ⟨g1,l1,none⟩=false∧W.cell? ⟨g1,l1,none⟩=some (clO W ⟨g1,l1,none⟩))):=fun W h=>⟨h.1.o1,(blk_cells h.2.1).1 0 _ rfl,(blk_cells h.2.1).1 1 _ rfl,by rw[h.1.face HX.out.1.1,HVF.out],(by have h1:=(h.1.mw.face f1 HX.out.1.1).own;rw[HVF.out] at h1;exact World.ownsRow.frozenAt h1 l1),clO_of (h.1.loop HX.out.1.1 HX.out.1.2.1 HVF.out)⟩
        have HKS:Hid (∀W v,(W.cell? ⟨O,1,none⟩=some (.slice (some ⟨g,0,none⟩) fs.length cV)∧W.cell? ⟨Pa,0,none⟩=some (.int .i64 f1)∧W.cell? ⟨Pa,1,none⟩=some (.int .i64 l1)∧W.cell? ⟨g,f1,none⟩=some (.slice (some ⟨g1,0,none⟩) ((fcA fs f1).length) cF)∧W.frozen? ⟨g1,l1,none⟩=false∧W.cell? ⟨g1,l1,none⟩=some (clO W ⟨g1,l1,none⟩))→((W.setCell ⟨g1,l1,none⟩ v).cell? ⟨O,1,none⟩=some (.slice (some ⟨g,0,none⟩) fs.length cV)∧(W.setCell ⟨g1,l1,none⟩ v).cell? ⟨Pa,0,none⟩=some (.int .i64 f1)∧(W.setCell ⟨g1,l1,none⟩ v).cell? ⟨Pa,1,none⟩=some (.int .i64 l1)∧(W.setCell ⟨g1,l1,none⟩ v).cell? ⟨g,f1,none⟩=some (.slice (some ⟨g1,0,none⟩) ((fcA fs f1).length) cF)∧(W.setCell ⟨g1,l1,none⟩ v).frozen? ⟨g1,l1,none⟩=false∧(W.setCell ⟨g1,l1,none⟩ v).cell? ⟨g1,l1,none⟩=some (clO (W.setCell ⟨g1,l1,none⟩ v) ⟨g1,l1,none⟩))):=fun W v h=>⟨set_far (by show g1≠O;have:=HGG.out;omega) (h.1),set_far (by show g1≠Pa;have:=HGG.out;omega) (h.2.1),set_far (by show g1≠Pa;have:=HGG.out;omega) (h.2.2.1),set_far (by show g1≠g;have:=HGG.out;omega) (h.2.2.2.1),set_frz (h.2.2.2.2.1),set_here (h.2.2.2.2.2)⟩
        go_region_held3 (fun W=>(W.cell? ⟨O,1,none⟩=some (.slice (some ⟨g,0,none⟩) fs.length cV)∧W.cell? ⟨Pa,0,none⟩=some (.int .i64 f1)∧W.cell? ⟨Pa,1,none⟩=some (.int .i64 l1)∧W.cell? ⟨g,f1,none⟩=some (.slice (some ⟨g1,0,none⟩) ((fcA fs f1).length) cF)∧W.frozen? ⟨g1,l1,none⟩=false∧W.cell? ⟨g1,l1,none⟩=some (clO W ⟨g1,l1,none⟩))) ((first | (with_reducible exact HKS.out _ _ (by assumption)) | (with_reducible exact HE.out _ (HTG.out _ _ (HTG.out _ _ HT8.out (grown_drew _)) hg1)) | (with_reducible exact HE.out _ (HTG.out _ _ HT8.out (grown_drew _))))) ((refine step_append_full (by rfl) _ _ (by rfl) (upToL (lpA fs f1 l1) q1 p1) (upToL (lpA fs f2 l2) q2 p2).tail.dropLast A17 A19 n17 n20 n19 (by rfl) (by rfl) HAR.out (by have:=HNN.out;omega) HYL.out HYR.out (by have h1:=HAR.out.reads.1;have h2:=HYL.out;have:=HNN.out;omega) ?_;intro A21 n21 c21 W9 hlr hg1))
        have hT9:=HTG.out _ _ (HTG.out _ _ HT8.out (grown_drew _)) hg1
        have hRO:=hT9.1.put HX.out.1.1 HX.out.1.2.1 HVF.out hlr
        have hP:=hT9.2.kept (grown_set W9 g1 l1 (.slice A21 n21 c21)) (fun k e=>by cases e;have:=HGG.out;omega)
        have HRO:=Lib.hid hRO
        have HP:=Lib.hid hP
        clear HE HKS hT9 hRO hP hlr hg1 HT8 HAR HYR HYL hcm hw
        generalize W9.setCell _ _=W11 at HRO HP ⊢
        have HLS:=Lib.hid (HRO.out.less (by rw[setL_len]) HX.out.2.1 (by have:=HR.out.fine.faces;omega))
        have n0:=(blk_cells HRO.out.out).1 1 _ rfl
        have b0:W11.cell? ⟨Pb,0,none⟩=some (.int .i64 f2):=(blk_cells HP.out.2.1).1 0 _ rfl
        go_wp2_with fail
        ((with_reducible refine(HLS.out).mono ?_);rintro e W12 ⟨⟨A12,m12,c12,rfl,hM12⟩,hg12⟩)
        have HRO2:=Lib.hid (HRO.out.grown hg12)
        have HM12:=Lib.hid hM12
        clear n0 b0 HRO HP HLS hg12 hM12
        have n0:=(blk_cells HRO2.out.out).1 1 _ rfl
        have n1:=(blk_cells HRO2.out.out).2 1
        go_upto_region 21 with fail
        have HRO7:=Lib.hid (HRO2.out.setF HM12.out)
        clear n0 n1 HRO2 HM12
        generalize W12.setCell _ _=W13 at HRO7 ⊢
        have HDN:=Lib.hid (HRO7.out.calls ((fine_join HR.out f1 l1 f2 (by rw[List.length_append];have h1:=upToL_len (lpA fs f1 l1) q1 p1;have h2:(upToL (lpA fs f2 l2) q2 p2).tail.dropLast.length≤(upToL (lpA fs f2 l2) q2 p2).length:=(by simp;omega);have h3:=upToL_len (lpA fs f2 l2) q2 p2;have:=HRL.out;omega) (fun z hz=>by rcases List.mem_append.1 hz with hz | hz;exact(HR.out.fine.loop f1 l1).2 z (upToL_mem hz);exact(HR.out.fine.loop f2 l2).2 z (upToL_mem (List.mem_of_mem_tail ((List.dropLast_sublist _).subset hz))))).sm (by omega)))
        have n0:=(blk_cells HRO7.out.out).1 0 _ rfl
        have n1:=(blk_cells HRO7.out.out).1 1 _ rfl
        go_wp2_with fail
        ((with_reducible refine(HDN.out).mono ?_);rintro e W20 ⟨⟨bb,rfl,hbb⟩,hbl⟩)
        have HBB2:=Lib.hid hbb
        have HRO20:=Lib.hid (HRO7.out.call hbl)
        have HOB20:=Lib.hid HRO20.out.obs
        clear HDN hbb hbl HRO7 n0 n1
        have m10:W20.cell? ⟨w.heap.size+1,0,none⟩=some (.int .i64 0):=HOB20.out.cell 1 0 rfl rfl
        have z10:W20.frozen? ⟨w.heap.size+1,0,none⟩=false:=HOB20.out.frz 1 0 rfl
        have m11:W20.cell? ⟨w.heap.size+1,1,none⟩=some (.slice none 0 0):=HOB20.out.cell 1 1 rfl rfl
        have z11:W20.frozen? ⟨w.heap.size+1,1,none⟩=false:=HOB20.out.frz 1 1 rfl
        have HE:Hid (rdeE N fs v u=doneE N ((setL fs f1 l1 (upToL (lpA fs f1 l1) q1 p1 ++ (upToL (lpA fs f2 l2) q2 p2).tail.dropLast)).eraseIdx f2)):=HSA.out
        cases bb
        ·go_wp2
         obtain⟨hx,hxB⟩:=HOB20.out.ret 1 (.int .i64 0) (.slice none 0 0) rfl
         have e00:=(blk_cells hx).1 0 _ rfl
         have e01:=(blk_cells hx).1 1 _ rfl
         refine bodyPost_ret (v:=.tuple #[.agg #[.int .i64 0,.slice none 0 0],.int .i64 2]) (by simp[results,Try.f39,go_sem,e00,e01]) rfl ?_
         exact⟨HRO20.out.done (b:=false) 1 rfl (.int .i64 0) (.slice none 0 0) HE.out (by simpa using HBB2.out) rfl,hxB⟩
        ·go_wp2
         obtain⟨hx,hxB⟩:=HOB20.out.ret 1 (.int .i64 N) (.slice A12 m12 c12) rfl
         have e00:=(blk_cells hx).1 0 _ rfl
         have e01:=(blk_cells hx).1 1 _ rfl
         refine bodyPost_ret (v:=.tuple #[.agg #[.int .i64 N,.slice A12 m12 c12],.int .i64 0]) (by simp[results,Try.f39,go_sem,e00,e01]) rfl ?_
         exact⟨HRO20.out.done (b:=true) 1 rfl (.int .i64 N) (.slice A12 m12 c12) HE.out (by simpa using HBB2.out) rfl,hxB⟩
 ·have HE:Hid (rdeE N fs v u=.error 1):=by
   show _=_
   unfold rdeE
   rw[if_pos h0]
  have m10:W1.cell? ⟨w.heap.size+1,0,none⟩=some (.int .i64 0):=HOB.out.cell 1 0 rfl rfl
  have z10:W1.frozen? ⟨w.heap.size+1,0,none⟩=false:=HOB.out.frz 1 0 rfl
  have m11:W1.cell? ⟨w.heap.size+1,1,none⟩=some (.slice none 0 0):=HOB.out.cell 1 1 rfl rfl
  have z11:W1.frozen? ⟨w.heap.size+1,1,none⟩=false:=HOB.out.frz 1 1 rfl
  rcases(show v<0∨(¬ v<0∧v≥N)∨(¬ v<0∧¬ v≥N∧u<0)∨(¬ v<0∧¬ v≥N∧¬ u<0∧u≥N) by omega) with h | ⟨h,h1⟩ | ⟨h,h1,h2⟩ | ⟨h,h1,h2,h3⟩
  all_goals
   clear h0
   go_wp2
   obtain⟨hx,hxB⟩:=HOB.out.ret 1 (.int .i64 0) (.slice none 0 0) rfl
   have e00:=(blk_cells hx).1 0 _ rfl
   have e01:=(blk_cells hx).1 1 _ rfl
   refine bodyPost_ret (v:=.tuple #[.agg #[.int .i64 0,.slice none 0 0],.int .i64 1]) (by simp[results,Try.f39,go_sem,e00,e01]) rfl ?_
   exact⟨by rw[HE.out];rfl,hxB⟩
end Go.Proofs.Ytealnhaffphamaa
