/- Contracts of the functions that the statement reaches, and plain lemmas: part 30 of 31. -/
import Derived.Test.YtealnhaffphamaaS27
import Derived.Test.YtealnhaffphamaaS11
import Derived.Test.YtealnhaffphamaaS28
import Derived.Test.YtealnhaffphamaaS29
import Derived.Test.YtealnhaffphamaaS15
set_option linter.unusedVariables false
set_option linter.unusedSimpArgs false

namespace Go.Proofs.Ytealnhaffphamaa
open Go.RowKit Go.Shelf Go.Proofs.YtealnhaffphamaaW.PrintWords
open Classical
theorem cpA_out {fs:Fs} {many:Nat} (h:fs.length≤many) (loops nodes:Nat):cpA fs many loops nodes=cpA fs fs.length loops nodes:=by
 unfold cpA
 rw[List.take_of_length_le h,List.take_of_length_le (Nat.le_refl _)]
def Lim (fs:Fs):Prop:=fs.length≤1000∧fs.flatten.length≤1000∧(∀l∈fs.flatten,l.length≤5000)∧fs.flatten.flatten.length≤10000∧∀v∈fs.flatten.flatten,-1000000≤v∧v≤1000000
theorem Lim.fine {fs:Fs} (h:Lim fs):Fine 10000 fs:=⟨by have:=h.1;omega,by have:=h.2.1;omega,h.2.2.2.1,h.2.2.2.2⟩
theorem Lim.cp {fs:Fs} (h:Lim fs):cpA fs 1000 1000 5000=fs:=by
 rw[cpA_out h.1]
 refine cpA_all fs (fun face hf=>?_) h.2.2.1
 have:=len_flatten_of_mem hf;have:=h.2.1;omega
theorem right_sizes {N:Int} {fs:Fs} (h:RightP N fs):fs.length≤400∧fs.flatten.length≤400∧(∀l∈fs.flatten,l.length≤2000)∧fs.flatten.flatten.length≤2000:=by
 have hF:=h.fine
 have hz:=(right_surf h).1
 have h2:=hz.2.2.2.1
 rw[nlA_eq] at h2
 exact⟨hz.2.2.1,h2,fun l hl=>Nat.le_trans (len_flatten_of_mem hl) hF.nodes,hF.nodes⟩
theorem Lim.right {N:Int} {fs:Fs} (h:RightP N fs):Lim fs:=by
 obtain⟨h1,h2,h3,h4⟩:=right_sizes h
 exact⟨by omega,by omega,fun l hl=>by have:=h3 l hl;omega,by omega,h.fine.nums⟩
theorem Lim.setF {N:Int} {fs:Fs} (h:RightP N fs) (f:Nat) {y:List (List Int)} (h1:y.length≤500) (h2:∀l∈y,l.length≤5000) (h3:y.flatten.length≤8000) (h4:∀v∈y.flatten,-1000000≤v∧v≤1000000):Lim (fs.set f y):=by
 obtain⟨a1,a2,a3,a4⟩:=right_sizes h
 have hF:=h.fine.setF f (m:=8000) (by omega) h3 h4
 refine⟨by rw[List.length_set];omega,Nat.le_trans (flatten_set _ _ _) (by omega),fun l hl=>?_,hF.nodes,hF.nums⟩
 rcases mem_flatten_set hl with q | q
 ·have:=a3 l q;omega
 ·exact h2 l q
theorem face_sizes {N:Int} {fs:Fs} (h:RightP N fs) (f:Nat):(fcA fs f).length≤400∧(∀l∈fcA fs f,l.length≤2000)∧(fcA fs f).flatten.length≤2000∧∀v∈(fcA fs f).flatten,-1000000≤v∧v≤1000000:=by
 obtain⟨a1,a2,a3,a4⟩:=right_sizes h
 obtain⟨d1,d2,d3⟩:=h.fine.face (f:=f)
 exact⟨Nat.le_trans (fcA_len_le fs f) a2,fun l hl=>Nat.le_trans (len_flatten_of_mem hl) d2,d2,d3⟩
theorem Lim.setL {N:Int} {fs:Fs} (h:RightP N fs) (f l:Nat) {x:List Int} (h1:x.length≤4000) (h2:∀v∈x,-1000000≤v∧v≤1000000):Lim (setL fs f l x):=by
 obtain⟨d1,d2,d3,d4⟩:=face_sizes h f
 refine Lim.setF h f (by rw[List.length_set];omega) (fun m hm=>?_) (Nat.le_trans (flatten_set _ _ _) (by omega)) (fun v hv=>?_)
 ·rcases List.mem_or_eq_of_mem_set hm with q | q
  ·have:=d2 m q;omega
  ·rw[q];omega
 ·rcases mem_flatten_set hv with q | q
  ·exact d4 v q
  ·exact h2 v q
theorem Lim.app {N:Int} {fs:Fs} (h:RightP N fs) (f l:Nat):Lim (fs.set f (fcA fs f ++ [lpA fs f l])):=by
 obtain⟨d1,d2,d3,d4⟩:=face_sizes h f
 obtain⟨e1,e2⟩:=h.fine.loop f l
 have hf:([lpA fs f l]:List (List Int)).flatten=lpA fs f l:=by simp
 refine Lim.setF h f (by rw[List.length_append];simp;omega) (fun m hm=>?_) (by rw[List.flatten_append,List.length_append,hf];omega) (fun v hv=>?_)
 ·rcases List.mem_append.1 hm with q | q
  ·have:=d2 m q;omega
  ·rw[List.mem_singleton.1 q];omega
 ·rw[List.flatten_append,hf] at hv
  rcases List.mem_append.1 hv with q | q
  ·exact d4 v q
  ·exact e2 v q
theorem spo_end {B O:Nat} {N:Int} {fs:Fs} {vf:Nat→Value} {vl:Nat→Nat→Value} {w W:World} {v:Value} (hm:MR B v fs fs.length vf vl W) (hO:Blk W O (.cells #[.int .i64 N,v] 26)) (hl:Lim fs) (hb:Below w.heap.size w W) :
  ∃(N2:Int) (A':Option Addr) (c':Nat) (fs':Fs),Hid (Blk W O (.cells #[.int .i64 N2,.slice A' fs'.length c'] 26))∧Hid (RF W A' fs'∧fs'.length≤c'∧Lim fs')∧Hid (Below w.heap.size w W):=by
 obtain⟨A,c,rfl,h2,h3⟩:=hm.reads
 exact⟨N,A,c,fs,hO,⟨h3,h2,hl⟩,hb⟩
theorem copy_lim (A:Option Addr) (c:Nat) (fs:Fs) (w:World) (hF:RF w A fs) (hc:fs.length≤c) (h:Lim fs) (h0:0<fs.length) :
  Calls Try.prog 12 #[.slice A fs.length c,.int .i64 1000,.int .i64 1000,.int .i64 5000] w fun e w'=>(∃g cV vf vl,e=.returned (.slice (some ⟨g,0,none⟩) fs.length cV)∧MW w.heap.size (.slice (some ⟨g,0,none⟩) fs.length cV) fs fs.length vf vl w'∧MD fs fs.length vl)∧Below w.heap.size w w':=by
 have h1:=copyD_any A c fs 1000 1000 5000 w hF hc (by omega) (by omega) (by omega)
 rw[h.cp] at h1
 refine h1.mono ?_
 rintro e w' ⟨⟨v,vf,vl,rfl,hM,hD⟩,hb⟩
 obtain⟨g,cap,hv,_,_⟩:=hM.own.form (by omega)
 subst hv
 exact⟨⟨g,cap,vf,vl,rfl,hM,hD⟩,hb⟩
theorem given_lim (N:Int) (A:Option Addr) (c:Nat) (fs:Fs) (w:World) (hF:RF w A fs) (hc:fs.length≤c) (h:Lim fs) :
  Calls Try.prog 11 #[.agg #[.int .i64 N,.slice A fs.length c]] w fun e w'=>(∃A c,e=.returned (.agg #[.int .i64 N,.slice A fs.length c])∧fs.length≤c∧RF w' A fs)∧Below w.heap.size w w':=by
 refine(given_any N A c fs w hF hc).mono ?_
 rintro e w' ⟨⟨v,rfl,hg⟩,hb⟩
 rw[h.cp] at hg
 obtain⟨A2,c2,rfl,h2,h3⟩:=hg.rf
 exact⟨⟨A2,c2,rfl,h2,h3⟩,hb⟩
theorem check_lim (N:Int) (A:Option Addr) (c:Nat) (fs:Fs) (w:World) (hF:RF w A fs) (h:Lim fs) :
  Calls Try.prog 10 #[.agg #[.int .i64 N,.slice A fs.length c]] w fun e w'=>(∃b:Bool,e=.returned (.int .i64 (if b then 0 else 140))∧(b=true↔RightP N fs))∧Below w.heap.size w w':=
 check_any N A c fs w hF (h.fine.sm (by omega)) h.fine.ni (h.fine.cap (by omega))
theorem rr_lim (N:Int) (A:Option Addr) (c:Nat) (fs:Fs) (w:World) (hF:RF w A fs) (hc:fs.length≤c) (h:Lim fs) :
  Calls Try.prog 15 #[.agg #[.int .i64 N,.slice A fs.length c]] w fun e w'=>(∃b:Bool,e=.returned (.bool b)∧(b=true↔RightP N fs))∧Below w.heap.size w w':=by
 refine(rright_any N A c fs w hF hc (h.fine.sm (by omega)) (h.fine.cap (by omega))).mono ?_
 rintro e w' ⟨⟨b,rfl,hb⟩,h2⟩
 exact⟨⟨b,rfl,hb.trans (right_iff N fs)⟩,h2⟩
theorem run_append_fb (W:World) (ty:TypeId) (xs ys:List Int) (b:Addr) (A2:Option Addr) (n m c:Nat) (hx:LR W (.slice (some b) n n) xs) (hm:m=ys.length) (hy:RI W A2 ys) (hl:xs.length+ys.length≤100000000) :
  ∃A1 n1 c1 w1,(Builtin.append_ #[36,36] ty #[.slice (some b) n n,.slice A2 m c]).run Try.prog W=.ok (.slice A1 n1 c1) w1∧LR w1 (.slice A1 n1 c1) (xs ++ ys)∧W.grownBy w1 none:=by
 obtain⟨i0,hi,hz0,hz1,hz2⟩:=info_parts infoI
 obtain⟨hn,-,hrx⟩:=hx.reads
 subst hn
 subst hm
 rcases Nat.eq_zero_or_pos ys.length with h1 | h1
 ·obtain rfl:ys=[]:=List.eq_nil_of_length_eq_zero h1
  refine⟨some b,xs.length,xs.length,W,?_,by simpa using hx,World.grownBy.refl W _⟩
  rcases A2 with _ | ad <;> simp[Builtin.append_,run_underlying Try.underlying36,sizeOf,typeInfo,hi,Builtin.lenOf,Builtin.firstCells,storeCells,loadCells,loadCellsFrom]
 ·obtain⟨ad,rfl,-⟩:=hy.at h1
  have cellsOf:∀(A:Addr) (zs:List Int),RI W (some A) zs→∀j v,(intsV zs)[j]?=some v→W.cell? (A.add j)=some v:=fun A zs hz j v hv=>by
   have hj:j<zs.length:=by have:=(List.getElem?_eq_some_iff.1 hv).1;rwa [intsV_len] at this
   obtain⟨ad',h',hc⟩:=hz.at hj
   cases h'
   rw[hc,←hv]
   simp[intsV,List.getD_eq_getElem?_getD,hj]
  have hr:=run_append_grow (P:=Try.prog) W 36 ty 3 i0 (.int .i64 0) Try.underlying36 hi hz0 b xs.length xs.length (intsV xs) (by rw[intsV_len,hz1,Nat.mul_one]) (cellsOf b xs hrx) ad ys.length c (intsV ys) (by rw[intsV_len,hz1,Nat.mul_one]) (cellsOf ad ys hy) (by omega) (by omega) (by rw[hz2];exact growslice_fits (by omega) (by omega))
  refine⟨_,_,_,_,hr,?_,(grown_drew W).trans (World.grownBy_alloc _ _ _)⟩
  have hge:=grownCap_ge W (xs.length+ys.length) xs.length 3
  have hcm:=grownCap_le_maxLen W (xs.length+ys.length) xs.length 3 (by simp only[maxLen];omega)
  have hlen:(intsV (xs ++ ys)).length=(xs.length+ys.length) * 1:=by rw[intsV_len,List.length_append];omega
  refine LR.of_own (base:=W.heap.size) ⟨by rw[intsV_len];omega,.inr ⟨W.heap.size,_,_,by rw[List.length_append],Nat.le_refl _,heap_alloc_new W.drew _,by rw[List.length_append];exact hge,hcm,?_,?_⟩⟩
  ·simp only[Array.size_append,List.size_toArray,size_zeroCells,intsV_len]
   show _+_ * 1=_
   omega
  ·simp only[Array.toList_append,List.append_assoc]
   rw[←List.append_assoc,←intsV_app,show(xs ++ ys).length * 1=(intsV (xs ++ ys)).length by rw[intsV_len];omega]
   exact List.take_left
theorem step_append_fb {ops:Array Oper} {o:Oper} {a:Act} {W:World} {K:Act→World→Prop} {Q:Exit→Act→World→Prop} {E:Prop} (hgd:o.guard=none) (s x:Operand)
  (ho:o.op=.call { callee:=.builtin .append,args:=#[s,x],argTypes:=#[36,36] })
  (xs ys:List Int) (b:Addr) (A2:Option Addr) (n m c:Nat) (hs:a.eval s=.slice (some b) n n) (hv:a.eval x=.slice A2 m c) (hx:LR W (.slice (some b) n n) xs) (hm:m=ys.length) (hy:RI W A2 ys) (hl:xs.length+ys.length≤100000000)
  (h:∀A1 n1 c1 w1,LR w1 (.slice A1 n1 c1) (xs ++ ys)→W.grownBy w1 none→K (a.put o.dst (.slice A1 n1 c1)) w1) :
  if Region.wanted o (yielded ops a.tmps)=true then Oper.wp Try.prog o a W K Q else E:=by
 have hw:Region.wanted o (yielded ops a.tmps)=true:=by simp[Region.wanted,hgd]
 rw[if_pos hw]
 obtain⟨A1,n1,c1,w1,hr,h2,h3⟩:=run_append_fb W o.type xs ys b A2 n m c hx hm hy hl
 unfold Oper.wp execOp
 simp only[ho,resolve,invoke,builtin,Sem.run_bind,Sem.run_pure,Result.andThen_ok,List.map_toArray,List.map_cons,List.map_nil,hs,hv,hr]
 exact h _ _ _ _ h2 h3
theorem MR.faceApp {B g cV n m:Nat} {fs:Fs} {vf:Nat→Value} {vl:Nat→Nat→Value} {W W':World} (hm:MR B (.slice (some ⟨g,0,none⟩) n cV) fs fs.length vf vl W) (hn:n=fs.length)
  {f g1 c1 q cap:Nat} (hf:f<fs.length) (hv:vf f=.slice (some ⟨g1,0,none⟩) m c1) (hm1:m=(fcA fs f).length) {u:Value} {x:List Int} (hu:LR W u x)
  (ho:W'.ownsRow B 36 1 (.slice (some ⟨q,0,none⟩) (m+1) cap) (m+1) ((List.range m).map (vl f) ++ [u])) (hg:W.grownBy W' (some g1)) (hat:q=g1∨(q=W.heap.size∧W.grownBy W' none)) :
  ∃vf' vl',MR B (.slice (some ⟨g,0,none⟩) n cV) (fs.set f (fcA fs f ++ [x])) (fs.set f (fcA fs f ++ [x])).length vf' vl' (W'.setCell ⟨g,f,none⟩ (.slice (some ⟨q,0,none⟩) (m+1) cap)):=by
 subst hn
 subst hm1
 have hb:(vf f).ownBlock=some g1:=by rw[hv];rfl
 have hM:=hm.face_new hf rfl hg (.inr hb.symm) (FR.append (hm.face f hf) hu ho (by rw[hb];exact hg)) (by
  rcases hat with e | e
  ·exact .inl (by rw[e,hb];rfl)
  ·exact .inr (fun b e2=>by cases e2;show W.heap.size≤q;omega))
 exact⟨_,_,hM⟩
set_option maxRecDepth 100000 in
set_option maxHeartbeats 8000000 in
theorem spoils_any (A:Option Addr) (c:Nat) (ops:List OpN) (b0 b1 b2 b3:Int) (w:World) (hO:RO5 w A ops) (hl:ops.length≤9223372036854775807) :
  Calls Try.prog 3 #[.slice A ops.length c,.agg #[.int .i64 b0,.int .i64 b1,.int .i64 b2,.int .i64 b3]] w fun e w'=>e=.returned (.bool true)∧Below w.heap.size w w':=by
 obtain⟨W1,hW1⟩:∃W1,W1=w.alloc (.cells #[.int .i64 b0,.int .i64 b1,.int .i64 b2,.int .i64 b3] 23):=⟨_,rfl⟩
 have HOB:Hid (Obs [.cells #[.int .i64 b0,.int .i64 b1,.int .i64 b2,.int .i64 b3] 23] w W1):=by rw[hW1];exact Obs.one w _
 have HST:=Lib.hid (steps_any A c ops 14 W1 (fun i q hq=>by obtain⟨ad,e,h⟩:=hO i q hq;exact⟨ad,e,fun j u hj=>pw_cell_below HOB.out.below (h j u hj)⟩) hl (by omega))
 clear hO hl
 go_enter Try.func3,Try.ntmps3
 go_upto_region 1 with fail
 rw[←hW1]
 clear hW1
 go_upto_region 2 with((with_reducible refine(HST.out).mono ?_);rintro e W2 ⟨⟨N,A3,fs,c3,rfl,hc3,hrf,hRP,hN⟩,hb1⟩)
 clear HST
 have HR:=Lib.hid hRP
 have HC:=Lib.hid hc3
 have HN:=Lib.hid hN
 have HLM:=Lib.hid (Lim.right hRP)
 have hl0:0<fs.length:=by have:=hRP.1.2.2.1;omega
 have HL0:=Lib.hid hl0
 have HOB2:Hid (Obs [.cells #[.int .i64 b0,.int .i64 b1,.int .i64 b2,.int .i64 b3] 23] w (W2.alloc (.cells #[.int .i64 N,.slice A3 fs.length c3] 26))):=(HOB.out.call hb1).grown (World.grownBy_alloc W2 (.cells #[.int .i64 N,.slice A3 fs.length c3] 26) none)
 have HMB:Hid (Blk (W2.alloc (.cells #[.int .i64 N,.slice A3 fs.length c3] 26)) W2.heap.size (.cells #[.int .i64 N,.slice A3 fs.length c3] 26)):=blk_new W2 _
 have HRF:Hid (RFT (W2.alloc (.cells #[.int .i64 N,.slice A3 fs.length c3] 26)) A3 fs):=hrf.call (below_new W2 _)
 have HPM:Hid (w.heap.size<W2.heap.size):=by have:=(HOB.out.call hb1).size;show _<_;simp at this;omega
 clear hrf hc3 hRP hN hl0 hb1 HOB
 generalize W2.heap.size=P at HMB HPM ⊢
 generalize W2.alloc (.cells #[.int .i64 N,.slice A3 fs.length c3] 26)=W3 at HOB2 HMB HRF ⊢
 have p0:W3.cell? ⟨P,0,none⟩=some (.int .i64 N):=(blk_cells HMB.out).1 0 _ rfl
 have p1:W3.cell? ⟨P,1,none⟩=some (.slice A3 fs.length c3):=(blk_cells HMB.out).1 1 _ rfl
 have HG:=Lib.hid (given_lim N A3 c3 fs W3 HRF.out.rf HC.out HLM.out)
 go_wp2_with fail
 ((with_reducible refine(HG.out).mono ?_);rintro e W4 ⟨⟨A4,c4,rfl,hc4,hr4⟩,hb⟩)
 have HOB4:=Lib.hid (HOB2.out.call hb)
 have HMB4:=Lib.hid (HMB.out.bel hb)
 have HRF4:=Lib.hid (HRF.out.call hb)
 clear p0 p1 HG hb HOB2 HMB HRF
 have HK:=Lib.hid (check_lim N A4 c4 fs W4 hr4 HLM.out)
 clear hc4 hr4
 go_wp2_with fail
 ((with_reducible refine(HK.out).mono ?_);rintro e W5 ⟨⟨bb,rfl,hbb⟩,hb⟩)
 have HOB5:=Lib.hid (HOB4.out.call hb)
 have HMB5:=Lib.hid (HMB4.out.bel hb)
 have HRF5:=Lib.hid (HRF4.out.call hb)
 obtain rfl:bb=true:=hbb.2 HR.out
 clear HK hb hbb HOB4 HMB4 HRF4
 have p0:W5.cell? ⟨P,0,none⟩=some (.int .i64 N):=(blk_cells HMB5.out).1 0 _ rfl
 have p1:W5.cell? ⟨P,1,none⟩=some (.slice A3 fs.length c3):=(blk_cells HMB5.out).1 1 _ rfl
 go_upto_region 4 with fail
 clear p0 p1
 have HE:Hid (∀W,(Obs [.cells #[.int .i64 b0,.int .i64 b1,.int .i64 b2,.int .i64 b3] 23] w W∧Blk W P (.cells #[.int .i64 N,.slice A3 fs.length c3] 26)∧RFT W A3 fs)→(Hid ((Obs [.cells #[.int .i64 b0,.int .i64 b1,.int .i64 b2,.int .i64 b3] 23] w W∧Blk W P (.cells #[.int .i64 N,.slice A3 fs.length c3] 26)∧RFT W A3 fs))∧W.cell? ⟨P,0,none⟩=some (.int .i64 N)∧W.cell? ⟨P,1,none⟩=some (.slice A3 fs.length c3))):=fun W h=>⟨h,(blk_cells h.2.1).1 0 _ rfl,(blk_cells h.2.1).1 1 _ rfl⟩
 have HKB:Hid (∀W W',(Hid ((Obs [.cells #[.int .i64 b0,.int .i64 b1,.int .i64 b2,.int .i64 b3] 23] w W∧Blk W P (.cells #[.int .i64 N,.slice A3 fs.length c3] 26)∧RFT W A3 fs))∧W.cell? ⟨P,0,none⟩=some (.int .i64 N)∧W.cell? ⟨P,1,none⟩=some (.slice A3 fs.length c3))→Below W.heap.size W W'→(Hid ((Obs [.cells #[.int .i64 b0,.int .i64 b1,.int .i64 b2,.int .i64 b3] 23] w W'∧Blk W' P (.cells #[.int .i64 N,.slice A3 fs.length c3] 26)∧RFT W' A3 fs))∧W'.cell? ⟨P,0,none⟩=some (.int .i64 N)∧W'.cell? ⟨P,1,none⟩=some (.slice A3 fs.length c3))):=fun W W' h hb=>HE.out W' ⟨h.1.out.1.call hb,h.1.out.2.1.bel hb,h.1.out.2.2.call hb⟩
 have HS1:Hid ((Hid ((Obs [.cells #[.int .i64 b0,.int .i64 b1,.int .i64 b2,.int .i64 b3] 23] w W5∧Blk W5 P (.cells #[.int .i64 N,.slice A3 fs.length c3] 26)∧RFT W5 A3 fs))∧W5.cell? ⟨P,0,none⟩=some (.int .i64 N)∧W5.cell? ⟨P,1,none⟩=some (.slice A3 fs.length c3))):=HE.out W5 ⟨HOB5.out,HMB5.out,HRF5.out⟩
 have HPQ:Hid (P<W5.heap.size):=HMB5.out.lt
 clear HOB5 HRF5 HMB5
 have HC1:Hid (∀W,(Hid ((Obs [.cells #[.int .i64 b0,.int .i64 b1,.int .i64 b2,.int .i64 b3] 23] w W∧Blk W P (.cells #[.int .i64 N,.slice A3 fs.length c3] 26)∧RFT W A3 fs))∧W.cell? ⟨P,0,none⟩=some (.int .i64 N)∧W.cell? ⟨P,1,none⟩=some (.slice A3 fs.length c3))→Calls Try.prog 12 #[.slice A3 fs.length c3,.int .i64 1000,.int .i64 1000,.int .i64 5000] W fun e w'=>(∃g cV vf vl,e=.returned (.slice (some ⟨g,0,none⟩) fs.length cV)∧MW W.heap.size (.slice (some ⟨g,0,none⟩) fs.length cV) fs fs.length vf vl w'∧MD fs fs.length vl)∧Below W.heap.size W w'):=fun W h=>copy_lim A3 c3 fs W h.1.out.2.2.rf HC.out HLM.out HL0.out
 have HKQ:Hid (∀W v0 v1,(Hid ((Obs [.cells #[.int .i64 b0,.int .i64 b1,.int .i64 b2,.int .i64 b3] 23] w W∧Blk W P (.cells #[.int .i64 N,.slice A3 fs.length c3] 26)∧RFT W A3 fs))∧W.cell? ⟨P,0,none⟩=some (.int .i64 N)∧W.cell? ⟨P,1,none⟩=some (.slice A3 fs.length c3))→Blk W W5.heap.size (.cells #[.int .i64 0,.slice none 0 0] 26)→(Hid ((Obs [.cells #[.int .i64 b0,.int .i64 b1,.int .i64 b2,.int .i64 b3] 23] w ((W.setCell ⟨W5.heap.size,0,none⟩ v0).setCell ⟨W5.heap.size,1,none⟩ v1)∧Blk ((W.setCell ⟨W5.heap.size,0,none⟩ v0).setCell ⟨W5.heap.size,1,none⟩ v1) P (.cells #[.int .i64 N,.slice A3 fs.length c3] 26)∧RFT ((W.setCell ⟨W5.heap.size,0,none⟩ v0).setCell ⟨W5.heap.size,1,none⟩ v1) A3 fs))∧((W.setCell ⟨W5.heap.size,0,none⟩ v0).setCell ⟨W5.heap.size,1,none⟩ v1).cell? ⟨P,0,none⟩=some (.int .i64 N)∧((W.setCell ⟨W5.heap.size,0,none⟩ v0).setCell ⟨W5.heap.size,1,none⟩ v1).cell? ⟨P,1,none⟩=some (.slice A3 fs.length c3))):=fun W v0 v1 h hz=>by
  have hg:=grown_set W W5.heap.size 0 v0
  have hg2:=grown_set (W.setCell ⟨W5.heap.size,0,none⟩ v0) W5.heap.size 1 v1
  exact HE.out _ ⟨(h.1.out.1.kept hg (fun k e=>by cases e;have:=HPQ.out;have:=HPM.out;simp;omega)).kept hg2 (fun k e=>by cases e;have:=HPQ.out;have:=HPM.out;simp;omega),(h.1.out.2.1.kept hg (fun e=>by injection e with e;have:=HPQ.out;omega)).kept hg2 (fun e=>by injection e with e;have:=HPQ.out;omega),h.1.out.2.2.keep (RBx.sets ⟨_,_,hz⟩ v0 v1).2⟩
 go_cut [6] from 7 (fun s6 Wr=>∃(O g cV B:Nat) (vf:Nat→Value) (vl:Nat→Nat→Value),s6=.pointer (some ⟨O,0,none⟩)∧Hid ((Obs [.cells #[.int .i64 b0,.int .i64 b1,.int .i64 b2,.int .i64 b3] 23] w Wr∧Blk Wr P (.cells #[.int .i64 N,.slice A3 fs.length c3] 26)∧RFT Wr A3 fs))∧Hid (Blk Wr O (.cells #[.int .i64 N,.slice (some ⟨g,0,none⟩) fs.length cV] 26))∧Hid (MW B (.slice (some ⟨g,0,none⟩) fs.length cV) fs fs.length vf vl Wr)∧Hid (MD fs fs.length vl)∧Hid (P<B∧w.heap.size<O∧P<O))
 case first=>
  go_region_held3 (fun W=>(Hid ((Obs [.cells #[.int .i64 b0,.int .i64 b1,.int .i64 b2,.int .i64 b3] 23] w W∧Blk W P (.cells #[.int .i64 N,.slice A3 fs.length c3] 26)∧RFT W A3 fs))∧W.cell? ⟨P,0,none⟩=some (.int .i64 N)∧W.cell? ⟨P,1,none⟩=some (.slice A3 fs.length c3))) ((first | (with_reducible exact HKB.out _ _ (by assumption) hb1) | (with_reducible exact HKQ.out _ _ _ HS9.out hz) | (with_reducible exact HKB.out _ _ HS9.out (below_new _ _)) | (with_reducible exact HKB.out _ _ (by assumption) (below_new _ _)) | (with_reducible exact HKB.out _ _ HS1.out (Below.refl _ _).drew))) ((go_at_call 12;(with_reducible refine(HC1.out _ (by assumption)).mono ?_);rintro e W9 ⟨⟨g,cV,vf,vl,rfl,hM,hD⟩,hb1⟩;have HS9:=Lib.hid (HKB.out _ _ (by assumption) hb1);try(have hz:Blk W9 W5.heap.size (.cells #[.int .i64 0,.slice none 0 0] 26):=(blk_new W5.drew (.cells #[.int .i64 0,.slice none 0 0] 26)).bel hb1;have y0:=(blk_cells hz).1 0 _ rfl;have y1:=(blk_cells hz).1 1 _ rfl;have y2:=(blk_cells hz).2 0;have y3:=(blk_cells hz).2 1)))
  all_goals
   go_wp2
   go_meet
   case rel=>
    have hS:=HS9.out
    have hlo:=HPQ.out
    have hpm:=HPM.out
    have hsz:=hb1.size
    first
     | exact⟨_,g,cV,_,vf,vl,rfl,(HKB.out _ _ hS (below_new W9 _)).1.out,blk_new W9 _,hM.belowW (below_new W9 _),hD,hlo,Nat.lt_of_lt_of_le (Nat.lt_trans hpm hlo) hsz,Nat.lt_of_lt_of_le hlo hsz⟩
     | exact⟨_,g,cV,_,vf,vl,rfl,(HKQ.out _ _ _ hS hz).1.out,(RBx.sets ⟨_,_,hz⟩ _ _).1,hM.back (r:=W5.heap.size) (by show W5.heap.size<(W5.alloc (.cells #[.int .i64 0,.slice none 0 0] 26)).heap.size;simp) _ _,hD,(by show P<(W5.alloc (.cells #[.int .i64 0,.slice none 0 0] 26)).heap.size;rw[World.size_alloc];omega),Nat.lt_trans hpm hlo,hlo⟩
 case rest=>
  obtain⟨O,g,cV,B,vf,vl,rfl,HJ,HOB,HMW,HMD,HPO⟩:=hcut
  rename World=>W6
  clear HE HKB HS1 HC1 HKQ HPQ
  have HLX:Hid (∀f,f<fs.length→0<(fcA fs f).length∧∀l,l<(fcA fs f).length→0<(lpA fs f l).length):=(right_surf HR.out).1.2.2.2.2.2.1
  obtain⟨q1,hq1⟩:∃q,q=arA b0 fs.length:=⟨_,rfl⟩
  obtain⟨q2,hq2⟩:∃q,q=arA b1 (fcA fs q1).length:=⟨_,rfl⟩
  obtain⟨q3,hq3⟩:∃q,q=arA b2 (lpA fs q1 q2).length:=⟨_,rfl⟩
  have hx1:q1<fs.length:=by rw[hq1];exact arA_lt _ HL0.out
  have hx2:q2<(fcA fs q1).length:=by rw[hq2];exact arA_lt _ (HLX.out q1 hx1).1
  have hx3:q3<(lpA fs q1 q2).length:=by rw[hq3];exact arA_lt _ ((HLX.out q1 hx1).2 q2 hx2)
  have HX:Hid (q1<fs.length∧q2<(fcA fs q1).length∧q3<(lpA fs q1 q2).length):=⟨hx1,hx2,hx3⟩
  have HSW:Hid (Calls Try.prog 13 #[.agg #[.int .i64 N,.slice (some ⟨g,0,none⟩) fs.length cV],.int .i64 b0,.int .i64 b1,.int .i64 b2] W6 fun e w'=>e=.returned (.agg #[.int .i64 q1,.int .i64 q2,.int .i64 q3])∧Below W6.heap.size W6 w'):=by
   obtain⟨A',c',e1,e2,e3⟩:=HMW.out.reads
   injection e1 with ea en ec
   refine(somewhere_any N b0 b1 b2 (some ⟨g,0,none⟩) cV fs W6 (by rw[ea];exact e3) (HLM.out.fine.sm (by omega)) HL0.out HLX.out).mono ?_
   rintro e w' ⟨⟨f',l',i',rfl,e5,e6,e7⟩,hb⟩
   exact⟨by rw[e5] at e6 e7;rw[←hq1] at e6 e7;rw[e6,←hq2] at e7;rw[e5,e6,e7,←hq1,←hq2,←hq3],hb⟩
  clear hx1 hx2 hx3 hq1 hq2 hq3
  have o0:W6.cell? ⟨O,0,none⟩=some (.int .i64 N):=(blk_cells HOB.out).1 0 _ rfl
  have o1:W6.cell? ⟨O,1,none⟩=some (.slice (some ⟨g,0,none⟩) fs.length cV):=(blk_cells HOB.out).1 1 _ rfl
  have b0':W6.cell? ⟨w.heap.size,0,none⟩=some (.int .i64 b0):=HJ.out.1.cell 0 0 rfl rfl
  have b1':W6.cell? ⟨w.heap.size,1,none⟩=some (.int .i64 b1):=HJ.out.1.cell 0 1 rfl rfl
  have b2':W6.cell? ⟨w.heap.size,2,none⟩=some (.int .i64 b2):=HJ.out.1.cell 0 2 rfl rfl
  go_upto_region 6 with((with_reducible refine(HSW.out).mono ?_);rintro e W7 ⟨rfl,hb⟩)
  clear o0 o1 b0' b1' b2' HSW
  have hbA:=below_new W7 (.cells #[.int .i64 q1,.int .i64 q2,.int .i64 q3] 34)
  have HT:Hid ((Obs [.cells #[.int .i64 b0,.int .i64 b1,.int .i64 b2,.int .i64 b3] 23] w (W7.alloc (.cells #[.int .i64 q1,.int .i64 q2,.int .i64 q3] 34))∧Blk (W7.alloc (.cells #[.int .i64 q1,.int .i64 q2,.int .i64 q3] 34)) O (.cells #[.int .i64 N,.slice (some ⟨g,0,none⟩) fs.length cV] 26)∧Blk (W7.alloc (.cells #[.int .i64 q1,.int .i64 q2,.int .i64 q3] 34)) P (.cells #[.int .i64 N,.slice A3 fs.length c3] 26)∧Blk (W7.alloc (.cells #[.int .i64 q1,.int .i64 q2,.int .i64 q3] 34)) W7.heap.size (.cells #[.int .i64 q1,.int .i64 q2,.int .i64 q3] 34))):=⟨(HJ.out.1.call hb).call hbA,(HOB.out.bel hb).bel hbA,(HJ.out.2.1.bel hb).bel hbA,blk_new W7 _⟩
  have HM7:Hid (MW B (.slice (some ⟨g,0,none⟩) fs.length cV) fs fs.length vf vl (W7.alloc (.cells #[.int .i64 q1,.int .i64 q2,.int .i64 q3] 34))):=(HMW.out.belowW hb).belowW hbA
  have HOL:Hid (O<W7.heap.size):=Nat.lt_of_lt_of_le HOB.out.lt hb.size
  clear hb hbA HMW HJ HOB
  generalize W7.heap.size=L at HT HOL ⊢
  generalize (W7.alloc (.cells #[.int .i64 q1,.int .i64 q2,.int .i64 q3] 34))=W8 at HT HM7 ⊢
  have HK:=Lib.hid (MJ.start (h:=fun _ _ _=>0) (P:=fun _ _ _=>False) HM7.out HMD.out (fun _ _ _ h=>h))
  obtain⟨g1,cF,hvf⟩:=HK.out.form HX.out.1 (by have:=HX.out;omega)
  obtain⟨bb,cB,hvl,hcB⟩:=HK.out.rform HX.out.1 HX.out.2.1 (by have:=HX.out;omega)
  have HVF:=Lib.hid hvf
  have HVL:=Lib.hid (And.intro hvl hcB)
  clear hvf hvl hcB
  have o1:W8.cell? ⟨O,1,none⟩=some (.slice (some ⟨g,0,none⟩) fs.length cV):=(blk_cells HT.out.2.1).1 1 _ rfl
  have k0:W8.cell? ⟨g,q1,none⟩=some (.slice (some ⟨g1,0,none⟩) (fcA fs q1).length cF):=(HK.out.face HX.out.1).trans (by rw[HVF.out])
  have k1:W8.cell? ⟨g1,q2,none⟩=some (.slice (some ⟨bb,0,none⟩) (lpA fs q1 q2).length cB):=(HK.out.loop HX.out.1 HX.out.2.1 HVF.out).trans (by rw[HVL.out.1])
  have l0:W8.cell? ⟨L,0,none⟩=some (.int .i64 q1):=(blk_cells HT.out.2.2.2).1 0 _ rfl
  have l1:W8.cell? ⟨L,1,none⟩=some (.int .i64 q2):=(blk_cells HT.out.2.2.2).1 1 _ rfl
  have z1:(q1:Int)<(fs.length:Int):=by have:=HX.out;omega
  have z2:(q2:Int)<((fcA fs q1).length:Int):=by have:=HX.out;omega
  clear HK
  go_quiet (fail)
  rename_i nq
  have hbq:Below W8.heap.size W8 (W8.drewN nq):=Drawn0.below ⟨⟨nq,rfl⟩⟩
  have HT9:Hid ((Obs [.cells #[.int .i64 b0,.int .i64 b1,.int .i64 b2,.int .i64 b3] 23] w (W8.drewN nq)∧Blk (W8.drewN nq) O (.cells #[.int .i64 N,.slice (some ⟨g,0,none⟩) fs.length cV] 26)∧Blk (W8.drewN nq) P (.cells #[.int .i64 N,.slice A3 fs.length c3] 26)∧Blk (W8.drewN nq) L (.cells #[.int .i64 q1,.int .i64 q2,.int .i64 q3] 34))):=⟨HT.out.1.call hbq,HT.out.2.1.bel hbq,HT.out.2.2.1.bel hbq,HT.out.2.2.2.bel hbq⟩
  have HM9:=Lib.hid (HM7.out.belowW hbq)
  clear HT HM7 o1 k0 k1 l0 l1 hbq
  generalize W8.drewN nq=W9 at HT9 HM9 ⊢
  apply_assumption
  apply wp_seq_k;intro _ _
  go_cut [] from 8 (fun Wr=>∃(N2:Int) (A':Option Addr) (c':Nat) (fs':Fs),Hid (Blk Wr O (.cells #[.int .i64 N2,.slice A' fs'.length c'] 26))∧Hid (RF Wr A' fs'∧fs'.length≤c'∧Lim fs')∧Hid (Below w.heap.size w Wr))
  case first=>
   obtain⟨u,hu⟩:∃u:Int,IntKind.u64.wrap b3=u:=⟨_,rfl⟩
   have hun:0≤u:=by rw[←hu,IntKind.wrap_u64];omega
   obtain⟨k,hk⟩:∃k:Nat,u.tmod 5=(k:Int)∧k<5:=⟨(u % 5).toNat,by rw[Int.tmod_eq_emod_of_nonneg hun];omega⟩
   obtain⟨hk,hk5⟩:=hk
   clear hun
   have HG:Hid (B≤bb∧B≤g1∧B≤g∧O≠bb∧O≠g1∧O≠g∧P≠bb∧P≠g1∧P≠g∧L≠bb∧L≠g1∧L≠g∧g≠g1∧w.heap.size<B):=by
    have hm:=(MR.of HM9.out).lt
    have hof:=(MR.of HM9.out).far HT9.out.2.1 (by decide) (by decide)
    have hlf:=(MR.of HM9.out).far HT9.out.2.2.2 (by decide) (by decide)
    have hrow:=(HM9.out.face q1 HX.out.1).ownL q2 HX.out.2.1
    have b1:=World.ownsRow.lt hrow bb (by rw[HVL.out.1];rfl)
    have b2:=hm.2 q1 HX.out.1 g1 (by rw[HVF.out];rfl)
    have b3:=hm.1 g rfl
    have hp:=HPO.out
    have ob:=own_no_blk hrow HT9.out.2.1 (by decide)
    have lb:=own_no_blk hrow HT9.out.2.2.2 (by decide)
    have c1:=hof.2 q1 HX.out.1
    have c2:=hlf.2 q1 HX.out.1
    rw[HVL.out.1] at ob lb
    rw[HVF.out] at c1 c2
    have hgg:g≠g1:=fun e=>own_other_types HM9.out.own (HM9.out.face q1 HX.out.1).own (by decide) (show _=some g from rfl) (by rw[HVF.out,e];rfl)
    exact⟨b1.1,b2.1,b3.1,fun e=>ob (by rw[e];rfl),fun e=>c1 (by rw[e];rfl),fun e=>hof.1 (by rw[e];rfl),by omega,by omega,by omega,fun e=>lb (by rw[e];rfl),fun e=>c2 (by rw[e];rfl),fun e=>hlf.1 (by rw[e];rfl),hgg,by have:=HPM.out;omega⟩
   have b3':W9.cell? ⟨w.heap.size,3,none⟩=some (.int .i64 b3):=HT9.out.1.cell 0 3 rfl rfl
   rcases k with _ | _ | _ | _ | _ | k
   ·have hk:u.tmod 5=0:=hk
    clear hk5
    obtain⟨n,hn⟩:∃n:Nat,(n:Int)=N+1∧1≤n∧n≤15:=⟨(N+1).toNat,by have h1:=HN.out;have h2:=(right_surf HR.out).1.1;omega⟩
    obtain⟨q,hq⟩:∃q,q=arA b3 n:=⟨_,rfl⟩
    have hqn:q<n:=by rw[hq];exact arA_lt _ hn.2.1
    have HNQ:Hid ((n:Int)=N+1∧1≤n∧n≤15∧q<n):=⟨hn.1,hn.2.1,hn.2.2,hqn⟩
    have hw:IntKind.i64.wrap (N+1)=N+1:=by rw[IntKind.wrap_i64];omega
    have HAR:Hid (∀W,Calls Try.prog 14 #[.int .i64 b3,.int .i64 (N+1)] W fun e w'=>e=.returned (.int .i64 q)∧Below W.heap.size W w'):=fun W=>by rw[hq,←HNQ.out.1];exact around_any b3 n HNQ.out.2.1 (by have:=HNQ.out;omega) W
    clear hn hq hqn
    have HST:Hid (∀W,Below W9.heap.size W9 W→(Hid (w.heap.size≤W.heap.size)∧W.cell? ⟨L,2,none⟩=some (.int .i64 q3)∧W.cell? ⟨w.heap.size,3,none⟩=some (.int .i64 b3)∧W.cell? ⟨P,0,none⟩=some (.int .i64 N)∧W.frozen? ⟨bb,q3,none⟩=false∧W.cell? ⟨bb,q3,none⟩=some (clO W ⟨bb,q3,none⟩))):=fun W hb=>by
     have hM:=HM9.out.belowW hb
     have hnum:=(MJ.start (h:=fun _ _ _=>0) (P:=fun _ _ _=>False) hM HMD.out (fun _ _ _ h=>h)).num HX.out.1 HX.out.2.1 HX.out.2.2 HVL.out.1 (fun h=>h)
     exact⟨by have h1:=HT9.out.1.below.size;exact Nat.le_trans h1 hb.size,(blk_cells (HT9.out.2.2.2.bel hb)).1 2 _ rfl,(HT9.out.1.call hb).cell 0 3 rfl rfl,(blk_cells (HT9.out.2.2.1.bel hb)).1 0 _ rfl,hnum.2,clO_of hnum.1⟩
    have HKS:Hid (∀W v,(Hid (w.heap.size≤W.heap.size)∧W.cell? ⟨L,2,none⟩=some (.int .i64 q3)∧W.cell? ⟨w.heap.size,3,none⟩=some (.int .i64 b3)∧W.cell? ⟨P,0,none⟩=some (.int .i64 N)∧W.frozen? ⟨bb,q3,none⟩=false∧W.cell? ⟨bb,q3,none⟩=some (clO W ⟨bb,q3,none⟩))→(Hid (w.heap.size≤(W.setCell ⟨bb,q3,none⟩ v).heap.size)∧(W.setCell ⟨bb,q3,none⟩ v).cell? ⟨L,2,none⟩=some (.int .i64 q3)∧(W.setCell ⟨bb,q3,none⟩ v).cell? ⟨w.heap.size,3,none⟩=some (.int .i64 b3)∧(W.setCell ⟨bb,q3,none⟩ v).cell? ⟨P,0,none⟩=some (.int .i64 N)∧(W.setCell ⟨bb,q3,none⟩ v).frozen? ⟨bb,q3,none⟩=false∧(W.setCell ⟨bb,q3,none⟩ v).cell? ⟨bb,q3,none⟩=some (clO (W.setCell ⟨bb,q3,none⟩ v) ⟨bb,q3,none⟩))):=fun W v h=>⟨Nat.le_trans h.1.out (grown_set W bb q3 v).size,set_far (by show bb≠L;have:=HG.out;omega) h.2.1,set_far (by show bb≠w.heap.size;have:=HG.out;omega) h.2.2.1,set_far (by show bb≠P;have:=HG.out;omega) h.2.2.2.1,set_frz h.2.2.2.2.1,set_here h.2.2.2.2.2⟩
    have z3:(q3:Int)<((lpA fs q1 q2).length:Int):=by have:=HX.out;omega
    go_upto_region 10 with fail
    go_region_held3 (fun W=>(Hid (w.heap.size≤W.heap.size)∧W.cell? ⟨L,2,none⟩=some (.int .i64 q3)∧W.cell? ⟨w.heap.size,3,none⟩=some (.int .i64 b3)∧W.cell? ⟨P,0,none⟩=some (.int .i64 N)∧W.frozen? ⟨bb,q3,none⟩=false∧W.cell? ⟨bb,q3,none⟩=some (clO W ⟨bb,q3,none⟩))) ((first | (with_reducible exact HKS.out _ _ (by assumption)) | (with_reducible exact HST.out _ (((Below.refl _ _).drew).trans (hb1.mono (Nat.le_refl _)))) | (with_reducible exact HST.out _ (Below.refl _ _).drew))) ((go_at_call 14;(with_reducible refine(HAR.out _).mono ?_);rintro e W11 ⟨rfl,hb1⟩))
    have hb:Below W9.heap.size W9 W11:=((Below.refl _ _).drew).trans (hb1.mono (Nat.le_refl _))
    have hM2:=(HM9.out.belowW hb).putAt HMD.out HX.out.1 HX.out.2.1 (i:=q3) HVL.out.1 (q:Int)
    go_wp2
    go_meet
    case rel=>exact spo_end (MR.of hM2) ((HT9.out.2.1.bel hb).kept (grown_set W11 bb q3 _) (fun e=>by injection e with e;have:=HG.out;omega)) (Lim.setL HR.out q1 q2 (by rw[List.length_set];have:=(HR.out.fine.loop q1 q2).1;omega) (fun z hz=>by rcases List.mem_or_eq_of_mem_set hz with h | h;exact(HR.out.fine.loop q1 q2).2 z h;rw[h];have:=HNQ.out;omega)) ((HT9.out.1.call hb).below.setCell (p:=⟨bb,q3,none⟩) (by have:=HG.out;show _≤bb;omega) _)
   ·have hk:u.tmod 5=1:=hk
    clear hk5
    have o0:W9.cell? ⟨O,0,none⟩=some (.int .i64 N):=(blk_cells HT9.out.2.1).1 0 _ rfl
    have o2:=(blk_cells HT9.out.2.1).2 0
    have hw:IntKind.i64.wrap (N+1)=N+1:=by have h1:=HN.out;have h2:=(right_surf HR.out).1.1;rw[IntKind.wrap_i64];omega
    go_wp2
    go_meet
    case rel=>exact spo_end ((MR.of HM9.out).set HT9.out.2.1 (by decide) (by decide) (by decide) 0 _) (blk_set (o:=0) (x:=.int .i64 (N+1)) HT9.out.2.1) HLM.out (HT9.out.1.below.setCell (p:=⟨O,0,none⟩) (by have:=HPO.out;show _≤O;omega) _)
   ·have hk:u.tmod 5=2:=hk
    clear hk5
    have HN2:Hid ((lpA fs q1 q2).length≤2000):=(HR.out.fine.loop q1 q2).1
    have HO0:Hid (W9.ownsRow W9.heap.size 3 1 (.slice none 0 0) ((lpA fs q1 q2).reverse.take 0).length (intsV ((lpA fs q1 q2).reverse.take 0))):=World.ownsRow_nil _ _ _ _
    go_wp2
    go_loopw [9,10] (fun s9 s10 wr=>∃i:Nat,i≤(lpA fs q1 q2).length∧s10=.int .i64 i∧Hid (Below W9.heap.size W9 wr)∧Hid (wr.ownsRow W9.heap.size 3 1 s9 ((lpA fs q1 q2).reverse.take i).length (intsV ((lpA fs q1 q2).reverse.take i)))) (fun _ v _=>(lpA fs q1 q2).length - (intOf v).toNat)
    case atStart=>exact⟨0,by omega,rfl,Below.refl _ _,HO0⟩
    case round=>
     clear HO0
     obtain⟨i,hi,rfl,HB,HOW⟩:=hrel
     have h9:=own_slice3 HOW.out
     obtain⟨A9,n9,c9,rfl⟩:=h9
     by_cases hlt:i<(lpA fs q1 q2).length
     ·have z4:(i:Int)<((lpA fs q1 q2).length:Int):=by omega
      obtain⟨p,hp⟩:∃p,p=(lpA fs q1 q2).length - 1:=⟨_,rfl⟩
      obtain⟨m,hm⟩:∃m,m=p - i:=⟨_,rfl⟩
      have hw1:IntKind.i64.wrap (((lpA fs q1 q2).length:Int) - 1)=(p:Int):=by have:=HN2.out;rw[IntKind.wrap_i64];omega
      have hw2:IntKind.i64.wrap ((p:Int) - (i:Int))=(m:Int):=by have:=HN2.out;rw[IntKind.wrap_i64];omega
      have hw3:IntKind.i64.wrap ((i:Int)+1)=((i+1:Nat):Int):=by have:=HN2.out;rw[IntKind.wrap_i64];omega
      have hmn:m<(lpA fs q1 q2).length:=by omega
      have z5:(m:Int)<((lpA fs q1 q2).length:Int):=by omega
      have hnum:=(MJ.start (h:=fun _ _ _=>0) (P:=fun _ _ _=>False) (HM9.out.belowW HB.out) HMD.out (fun _ _ _ h=>h)).num (i:=m) HX.out.1 HX.out.2.1 hmn HVL.out.1 (fun h=>h)
      have hcell:=hnum.1
      obtain⟨z,hz⟩:∃z,z=(lpA fs q1 q2).getD m 0:=⟨_,rfl⟩
      rw[←hz] at hcell
      have HTK:Hid ((lpA fs q1 q2).reverse.take (i+1)=(lpA fs q1 q2).reverse.take i ++ [z]∧i+1≤(lpA fs q1 q2).length):=⟨by rw[List.take_add_one,List.getElem?_reverse hlt,←hp.trans rfl.symm,←hm,List.getElem?_eq_getElem hmn,hz,List.getD_eq_getElem?_getD,List.getElem?_eq_getElem hmn];rfl,by omega⟩
      clear hnum hp hm hz hmn hi hlt
      go_wp2_with (at_builtin;refine wpList_append_ints rfl _ _ rfl W9.heap.size (.slice A9 n9 c9) ((lpA fs q1 q2).reverse.take i) [z] (some ⟨wr.heap.size,0,none⟩) 1 1 rfl rfl rfl (own_keptB HOW.out (World.grownBy_alloc wr _ none) (fun b e=>by cases e)) (ri_one (blk_new wr _)) (by simp;have:=HB.out.size;omega) (by have:=HN2.out;have:=HTK.out.2;simp;omega) ?_;intro v2 w2 hown2 hg2 _)
      go_round
      case rel=>exact⟨i+1,HTK.out.2,by go_num,(HB.out.alloc HB.out.size _).grown hg2 (by simp;have:=HB.out.size;omega) (fun k e=>own_base HOW.out k e),by rw[HTK.out.1];exact hown2⟩
      case measure=>simp[intOf];have:=HTK.out.2;omega
     ·have z4:¬ (i:Int)<((lpA fs q1 q2).length:Int):=by omega
      have hLR:LR wr (.slice A9 n9 c9) (lpA fs q1 q2).reverse:=by have h1:=LR.of_own HOW.out;rwa [List.take_of_length_le (by rw[List.length_reverse];omega)] at h1
      have HLR:=Lib.hid hLR
      clear hLR HOW hi hlt
      have HST:Hid (∀W,Below W9.heap.size W9 W→(W.cell? ⟨O,1,none⟩=some (.slice (some ⟨g,0,none⟩) fs.length cV)∧W.cell? ⟨L,0,none⟩=some (.int .i64 q1)∧W.cell? ⟨L,1,none⟩=some (.int .i64 q2)∧W.cell? ⟨g,q1,none⟩=some (.slice (some ⟨g1,0,none⟩) (fcA fs q1).length cF)∧W.frozen? ⟨g1,q2,none⟩=false∧W.cell? ⟨g1,q2,none⟩=some (clO W ⟨g1,q2,none⟩))):=fun W hb=>by
       have hM:=HM9.out.belowW hb
       have q0:=World.ownsRow.cellAt hM.own q1 (by have:=HX.out;omega)
       rw[List.getElem?_map,List.getElem?_range HX.out.1] at q0
       have hfo:=(hM.face q1 HX.out.1).own
       rw[HVF.out] at hfo
       have q4:=World.ownsRow.cellAt hfo q2 (by have:=HX.out;omega)
       rw[List.getElem?_map,List.getElem?_range HX.out.2.1] at q4
       have hL:=HT9.out.2.2.2.bel hb
       exact⟨(blk_cells (HT9.out.2.1.bel hb)).1 1 _ rfl,(blk_cells hL).1 0 _ rfl,(blk_cells hL).1 1 _ rfl,q0.trans (by rw[←HVF.out];rfl),World.ownsRow.frozenAt hfo q2,clO_of q4⟩
      have HKS:Hid (∀W v,(W.cell? ⟨O,1,none⟩=some (.slice (some ⟨g,0,none⟩) fs.length cV)∧W.cell? ⟨L,0,none⟩=some (.int .i64 q1)∧W.cell? ⟨L,1,none⟩=some (.int .i64 q2)∧W.cell? ⟨g,q1,none⟩=some (.slice (some ⟨g1,0,none⟩) (fcA fs q1).length cF)∧W.frozen? ⟨g1,q2,none⟩=false∧W.cell? ⟨g1,q2,none⟩=some (clO W ⟨g1,q2,none⟩))→((W.setCell ⟨g1,q2,none⟩ v).cell? ⟨O,1,none⟩=some (.slice (some ⟨g,0,none⟩) fs.length cV)∧(W.setCell ⟨g1,q2,none⟩ v).cell? ⟨L,0,none⟩=some (.int .i64 q1)∧(W.setCell ⟨g1,q2,none⟩ v).cell? ⟨L,1,none⟩=some (.int .i64 q2)∧(W.setCell ⟨g1,q2,none⟩ v).cell? ⟨g,q1,none⟩=some (.slice (some ⟨g1,0,none⟩) (fcA fs q1).length cF)∧(W.setCell ⟨g1,q2,none⟩ v).frozen? ⟨g1,q2,none⟩=false∧(W.setCell ⟨g1,q2,none⟩ v).cell? ⟨g1,q2,none⟩=some (clO (W.setCell ⟨g1,q2,none⟩ v) ⟨g1,q2,none⟩))):=fun W v h=>⟨set_far (by show g1≠O;have:=HG.out;omega) h.1,set_far (by show g1≠L;have:=HG.out;omega) h.2.1,set_far (by show g1≠L;have:=HG.out;omega) h.2.2.1,set_far (by show g1≠g;have:=HG.out;omega) h.2.2.2.1,set_frz h.2.2.2.2.1,set_here h.2.2.2.2.2⟩
      have HKD:Hid (∀v,((wr.setCell ⟨g1,q2,none⟩ v).drew.cell? ⟨O,1,none⟩=some (.slice (some ⟨g,0,none⟩) fs.length cV)∧(wr.setCell ⟨g1,q2,none⟩ v).drew.cell? ⟨L,0,none⟩=some (.int .i64 q1)∧(wr.setCell ⟨g1,q2,none⟩ v).drew.cell? ⟨L,1,none⟩=some (.int .i64 q2)∧(wr.setCell ⟨g1,q2,none⟩ v).drew.cell? ⟨g,q1,none⟩=some (.slice (some ⟨g1,0,none⟩) (fcA fs q1).length cF)∧(wr.setCell ⟨g1,q2,none⟩ v).drew.frozen? ⟨g1,q2,none⟩=false∧(wr.setCell ⟨g1,q2,none⟩ v).drew.cell? ⟨g1,q2,none⟩=some (clO (wr.setCell ⟨g1,q2,none⟩ v).drew ⟨g1,q2,none⟩))):=fun v=>HKS.out wr.drew v (HST.out wr.drew HB.out.drew)
      have z1:(q1:Int)<(fs.length:Int):=by have:=HX.out;omega
      have z2:(q2:Int)<((fcA fs q1).length:Int):=by have:=HX.out;omega
      go_upto_region 19 with fail
      go_region_held3 (fun W=>(W.cell? ⟨O,1,none⟩=some (.slice (some ⟨g,0,none⟩) fs.length cV)∧W.cell? ⟨L,0,none⟩=some (.int .i64 q1)∧W.cell? ⟨L,1,none⟩=some (.int .i64 q2)∧W.cell? ⟨g,q1,none⟩=some (.slice (some ⟨g1,0,none⟩) (fcA fs q1).length cF)∧W.frozen? ⟨g1,q2,none⟩=false∧W.cell? ⟨g1,q2,none⟩=some (clO W ⟨g1,q2,none⟩))) ((first | (with_reducible exact HKS.out _ _ (by assumption)) | (with_reducible exact HKD.out _) | (with_reducible exact HST.out _ HB.out.drew))) (fail)
      have hM2:=(MR.of (HM9.out.belowW HB.out)).put HX.out.1 HX.out.2.1 HLR.out HVF.out
      have hOk:=(HT9.out.2.1.bel HB.out).kept (grown_set wr g1 q2 (.slice A9 n9 c9)) (fun e=>by injection e with e;have:=HG.out;omega)
      have hBk:=(HT9.out.1.call HB.out).below.setCell (p:=⟨g1,q2,none⟩) (by have:=HG.out;show _≤g1;omega) (.slice A9 n9 c9)
      have hLm:=Lim.setL HR.out q1 q2 (x:=(lpA fs q1 q2).reverse) (by have:=HN2.out;simp;omega) (fun z hz=>(HR.out.fine.loop q1 q2).2 z (List.mem_reverse.1 hz))
      all_goals
       go_wp2
       go_meet
       case rel=>first | exact spo_end (hM2.grown (grown_drew _)) (hOk.kept (grown_drew _) (by simp)) hLm hBk.drew | exact spo_end hM2 hOk hLm hBk
   ·have hk:u.tmod 5=3:=hk
    clear hk5
    have HST:Hid (∀W,Below W9.heap.size W9 W→(W.cell? ⟨O,1,none⟩=some (.slice (some ⟨g,0,none⟩) fs.length cV)∧W.cell? ⟨L,0,none⟩=some (.int .i64 q1)∧W.frozen? ⟨g,q1,none⟩=false∧W.cell? ⟨g,q1,none⟩=some (clO W ⟨g,q1,none⟩))):=fun W hb=>by
     have hM:=HM9.out.belowW hb
     have q0:=World.ownsRow.cellAt hM.own q1 (by have:=HX.out;omega)
     rw[List.getElem?_map,List.getElem?_range HX.out.1] at q0
     exact⟨(blk_cells (HT9.out.2.1.bel hb)).1 1 _ rfl,(blk_cells (HT9.out.2.2.2.bel hb)).1 0 _ rfl,World.ownsRow.frozenAt hM.own q1,clO_of q0⟩
    have HKS:Hid (∀W v,(W.cell? ⟨O,1,none⟩=some (.slice (some ⟨g,0,none⟩) fs.length cV)∧W.cell? ⟨L,0,none⟩=some (.int .i64 q1)∧W.frozen? ⟨g,q1,none⟩=false∧W.cell? ⟨g,q1,none⟩=some (clO W ⟨g,q1,none⟩))→((W.setCell ⟨g,q1,none⟩ v).cell? ⟨O,1,none⟩=some (.slice (some ⟨g,0,none⟩) fs.length cV)∧(W.setCell ⟨g,q1,none⟩ v).cell? ⟨L,0,none⟩=some (.int .i64 q1)∧(W.setCell ⟨g,q1,none⟩ v).frozen? ⟨g,q1,none⟩=false∧(W.setCell ⟨g,q1,none⟩ v).cell? ⟨g,q1,none⟩=some (clO (W.setCell ⟨g,q1,none⟩ v) ⟨g,q1,none⟩))):=fun W v h=>⟨set_far (by show g≠O;have:=HG.out;omega) h.1,set_far (by show g≠L;have:=HG.out;omega) h.2.1,set_frz h.2.2.1,set_here h.2.2.2⟩
    have HKG:Hid (∀W W1,W.grownBy W1 (some g1)→(W.cell? ⟨O,1,none⟩=some (.slice (some ⟨g,0,none⟩) fs.length cV)∧W.cell? ⟨L,0,none⟩=some (.int .i64 q1)∧W.frozen? ⟨g,q1,none⟩=false∧W.cell? ⟨g,q1,none⟩=some (clO W ⟨g,q1,none⟩))→(W1.cell? ⟨O,1,none⟩=some (.slice (some ⟨g,0,none⟩) fs.length cV)∧W1.cell? ⟨L,0,none⟩=some (.int .i64 q1)∧W1.frozen? ⟨g,q1,none⟩=false∧W1.cell? ⟨g,q1,none⟩=some (clO W1 ⟨g,q1,none⟩))):=fun W W1 hg h=>⟨far_cell hg (by simp;have:=HG.out;omega) h.1,far_cell hg (by simp;have:=HG.out;omega) h.2.1,far_frz hg (by simp;have:=HG.out;omega) h.2.2.2 h.2.2.1,far_here hg (by simp;have:=HG.out;omega) h.2.2.2⟩
    have HOF:Hid (∀W,Below W9.heap.size W9 W→W.ownsRow B 36 1 (.slice (some ⟨g1,0,none⟩) (fcA fs q1).length cF) (fcA fs q1).length ((List.range (fcA fs q1).length).map (vl q1))):=fun W hb=>by have h1:=((HM9.out.belowW hb).face q1 HX.out.1).own;rwa [HVF.out] at h1
    have o1:W9.cell? ⟨O,1,none⟩=some (.slice (some ⟨g,0,none⟩) fs.length cV):=(blk_cells HT9.out.2.1).1 1 _ rfl
    have l0:W9.cell? ⟨L,0,none⟩=some (.int .i64 q1):=(blk_cells HT9.out.2.2.2).1 0 _ rfl
    have k0:W9.cell? ⟨g,q1,none⟩=some (.slice (some ⟨g1,0,none⟩) (fcA fs q1).length cF):=by have q0:=World.ownsRow.cellAt HM9.out.own q1 (by have:=HX.out;omega);rw[List.getElem?_map,List.getElem?_range HX.out.1] at q0;exact q0.trans (by rw[←HVF.out];rfl)
    have z1:(q1:Int)<(fs.length:Int):=by have:=HX.out;omega
    have hbA:Below W9.heap.size W9 (W9.alloc (.cells #[.slice (some ⟨bb,0,none⟩) (lpA fs q1 q2).length cB] 36)).drew:=(below_new W9 _).drew
    have HBA:=Lib.hid hbA
    clear hbA
    go_upto_region 22 with fail
    clear o1 l0 k0
    go_region_held3 (fun W=>(W.cell? ⟨O,1,none⟩=some (.slice (some ⟨g,0,none⟩) fs.length cV)∧W.cell? ⟨L,0,none⟩=some (.int .i64 q1)∧W.frozen? ⟨g,q1,none⟩=false∧W.cell? ⟨g,q1,none⟩=some (clO W ⟨g,q1,none⟩))) ((first | (with_reducible exact HKS.out _ _ (by assumption)) | (with_reducible exact HKG.out _ _ hgrow (by assumption)) | (with_reducible exact HST.out _ HBA.out) | (with_reducible exact HST.out _ (Below.refl _ _).drew))) ((refine step_keep1 (by rfl) _ _ _ (by rfl) B 36 Try.underlying37 infoL g1 cF (fcA fs q1).length _ (by rfl) (HOF.out _ HBA.out) (.slice (some ⟨bb,0,none⟩) (lpA fs q1 q2).length cB) rfl W9.heap.size (by rfl) ((blk_new W9 _).kept (grown_drew _) (by simp)) (by have:=HR.out.fine.face (f:=q1);omega) (by have h1:=HOF.out W9 (Below.refl _ _);have h2:=World.ownsRow.lt h1 g1 rfl;simp;omega) ?_;intro q10 cap10 W10 hown10 hgrow hat))
    have hLR:LR (W9.alloc (.cells #[.slice (some ⟨bb,0,none⟩) (lpA fs q1 q2).length cB] 36)).drew (.slice (some ⟨bb,0,none⟩) (lpA fs q1 q2).length cB) (lpA fs q1 q2):=by have h1:=LR.of_own (((HM9.out.belowW HBA.out).face q1 HX.out.1).ownL q2 HX.out.2.1);rwa [HVL.out.1] at h1
    obtain⟨vf2,vl2,hM2⟩:=(MR.of (HM9.out.belowW HBA.out)).faceApp rfl HX.out.1 HVF.out rfl hLR hown10 hgrow hat
    have hB2:Below w.heap.size w (W9.alloc (.cells #[.slice (some ⟨bb,0,none⟩) (lpA fs q1 q2).length cB] 36)).drew:=HT9.out.1.below.trans (HBA.out.mono HT9.out.1.below.size)
    go_wp2
    go_meet
    case rel=>exact spo_end hM2 (((HT9.out.2.1.bel HBA.out).kept hgrow (fun e=>by injection e with e;have:=HG.out;omega)).kept (grown_set W10 g q1 _) (fun e=>by injection e with e;have:=HG.out;omega)) (Lim.app HR.out q1 q2) ((hB2.grown hgrow hB2.size (fun k e=>by cases e;have:=HG.out;omega)).setCell (p:=⟨g,q1,none⟩) (by have:=HG.out;show _≤g;omega) _)
   ·have hk:u.tmod 5=4:=hk
    clear hk5
    obtain⟨iI,hiI,hiI0,hiI1,hiI2⟩:=info_parts infoI
    obtain⟨j,hj⟩:∃j,j=q3+1:=⟨_,rfl⟩
    have HJ9:Hid (j=q3+1∧(lpA fs q1 q2).length≤2000∧(lpA fs q1 q2).length≤cB):=⟨hj,(HR.out.fine.loop q1 q2).1,HVL.out.2⟩
    have hw:IntKind.i64.wrap ((q3:Int)+1)=(j:Int):=by have:=HX.out;have:=HJ9.out;rw[IntKind.wrap_i64];omega
    have hc1:∀W:World,(Instr.slice 36 (.slice (some ⟨bb,0,none⟩) (lpA fs q1 q2).length cB) none (some (.int .i64 (q3:Int))) (some (.int .i64 (q3:Int)))).run Try.prog W=.ok (.slice (some ⟨bb,0,none⟩) q3 q3) W:=cut_toM 36 3 .i64 .i64 Try.underlying36 hiI _ _ cB q3 (by have:=HX.out;have:=HJ9.out;omega)
    have hc2:=cut_from (P:=Try.prog) 36 3 .i64 Try.underlying36 hiI 1 hiI1 (some ⟨bb,0,none⟩) (lpA fs q1 q2).length cB (j:Int) (by omega) (by have:=HX.out;have:=HJ9.out;omega)
    rw[Int.toNat_natCast] at hc2
    have hLR:LR W9 (.slice (some ⟨bb,0,none⟩) (lpA fs q1 q2).length cB) (lpA fs q1 q2):=by have h1:=LR.of_own ((HM9.out.face q1 HX.out.1).ownL q2 HX.out.2.1);rwa [HVL.out.1] at h1
    have hLX:=(hLR.take (m:=q3) (c':=q3) (by have:=HX.out;omega) (Nat.le_refl _)).kept (grown_drew W9) (NoI.none _)
    have hLY:=(hLR.drop (m:=j) (by have:=HX.out;omega)).kept (grown_drew W9) (NoI.none _)
    generalize (if cB=j then(some (⟨bb,0,none⟩:Addr)) else(some (⟨bb,0,none⟩:Addr)).map (·.add (j * 1)))=A8 at hc2 hLY
    generalize hn8:(lpA fs q1 q2).length - j=n8 at hc2 hLY
    generalize cB - j=c8 at hc2 hLY
    have HLX2:=Lib.hid hLX
    have HLY:=Lib.hid hLY
    clear hLR hLX hLY hj hn8
    have HST:Hid (∀W,Below W9.heap.size W9 W→(W.cell? ⟨O,1,none⟩=some (.slice (some ⟨g,0,none⟩) fs.length cV)∧W.cell? ⟨L,0,none⟩=some (.int .i64 q1)∧W.cell? ⟨L,1,none⟩=some (.int .i64 q2)∧W.cell? ⟨L,2,none⟩=some (.int .i64 q3)∧W.cell? ⟨g,q1,none⟩=some (.slice (some ⟨g1,0,none⟩) (fcA fs q1).length cF)∧W.frozen? ⟨g1,q2,none⟩=false∧W.cell? ⟨g1,q2,none⟩=some (clO W ⟨g1,q2,none⟩))):=fun W hb=>by
     have hM:=HM9.out.belowW hb
     have q0:=World.ownsRow.cellAt hM.own q1 (by have:=HX.out;omega)
     rw[List.getElem?_map,List.getElem?_range HX.out.1] at q0
     have hfo:=(hM.face q1 HX.out.1).own
     rw[HVF.out] at hfo
     have q4:=World.ownsRow.cellAt hfo q2 (by have:=HX.out;omega)
     rw[List.getElem?_map,List.getElem?_range HX.out.2.1] at q4
     have hL:=HT9.out.2.2.2.bel hb
     exact⟨(blk_cells (HT9.out.2.1.bel hb)).1 1 _ rfl,(blk_cells hL).1 0 _ rfl,(blk_cells hL).1 1 _ rfl,(blk_cells hL).1 2 _ rfl,q0.trans (by rw[←HVF.out];rfl),World.ownsRow.frozenAt hfo q2,clO_of q4⟩
    have HKS:Hid (∀W v,(W.cell? ⟨O,1,none⟩=some (.slice (some ⟨g,0,none⟩) fs.length cV)∧W.cell? ⟨L,0,none⟩=some (.int .i64 q1)∧W.cell? ⟨L,1,none⟩=some (.int .i64 q2)∧W.cell? ⟨L,2,none⟩=some (.int .i64 q3)∧W.cell? ⟨g,q1,none⟩=some (.slice (some ⟨g1,0,none⟩) (fcA fs q1).length cF)∧W.frozen? ⟨g1,q2,none⟩=false∧W.cell? ⟨g1,q2,none⟩=some (clO W ⟨g1,q2,none⟩))→((W.setCell ⟨g1,q2,none⟩ v).cell? ⟨O,1,none⟩=some (.slice (some ⟨g,0,none⟩) fs.length cV)∧(W.setCell ⟨g1,q2,none⟩ v).cell? ⟨L,0,none⟩=some (.int .i64 q1)∧(W.setCell ⟨g1,q2,none⟩ v).cell? ⟨L,1,none⟩=some (.int .i64 q2)∧(W.setCell ⟨g1,q2,none⟩ v).cell? ⟨L,2,none⟩=some (.int .i64 q3)∧(W.setCell ⟨g1,q2,none⟩ v).cell? ⟨g,q1,none⟩=some (.slice (some ⟨g1,0,none⟩) (fcA fs q1).length cF)∧(W.setCell ⟨g1,q2,none⟩ v).frozen? ⟨g1,q2,none⟩=false∧(W.setCell ⟨g1,q2,none⟩ v).cell? ⟨g1,q2,none⟩=some (clO (W.setCell ⟨g1,q2,none⟩ v) ⟨g1,q2,none⟩))):=fun W v h=>⟨set_far (by show g1≠O;have:=HG.out;omega) h.1,set_far (by show g1≠L;have:=HG.out;omega) h.2.1,set_far (by show g1≠L;have:=HG.out;omega) h.2.2.1,set_far (by show g1≠L;have:=HG.out;omega) h.2.2.2.1,set_far (by show g1≠g;have:=HG.out;omega) h.2.2.2.2.1,set_frz h.2.2.2.2.2.1,set_here h.2.2.2.2.2.2⟩
    have z1:(q1:Int)<(fs.length:Int):=by have:=HX.out;omega
    have z2:(q2:Int)<((fcA fs q1).length:Int):=by have:=HX.out;omega
    have HYL:Hid (n8=((lpA fs q1 q2).drop j).length):=HLY.out.reads.1
    go_upto_region 8 with fail
    go_region_held3 (fun W=>(W.cell? ⟨O,1,none⟩=some (.slice (some ⟨g,0,none⟩) fs.length cV)∧W.cell? ⟨L,0,none⟩=some (.int .i64 q1)∧W.cell? ⟨L,1,none⟩=some (.int .i64 q2)∧W.cell? ⟨L,2,none⟩=some (.int .i64 q3)∧W.cell? ⟨g,q1,none⟩=some (.slice (some ⟨g1,0,none⟩) (fcA fs q1).length cF)∧W.frozen? ⟨g1,q2,none⟩=false∧W.cell? ⟨g1,q2,none⟩=some (clO W ⟨g1,q2,none⟩))) ((first | (with_reducible exact HKS.out _ _ (by assumption)) | (with_reducible exact HST.out _ (((Below.refl _ _).drew).grown hg1 (Nat.le_refl _) (fun k e=>by cases e))) | (with_reducible exact HST.out _ (Below.refl _ _).drew))) ((refine step_append_fb (by rfl) _ _ (by rfl) ((lpA fs q1 q2).take q3) ((lpA fs q1 q2).drop j) ⟨bb,0,none⟩ A8 q3 n8 c8 (by rfl) (by rfl) HLX2.out HYL.out HLY.out.reads.2.2 (by have:=HJ9.out;simp;omega) ?_;intro A21 n21 c21 W11 hlr hg1))
    have hb:Below W9.heap.size W9 W11:=((Below.refl W9.heap.size W9).drew).grown hg1 (Nat.le_refl _) (fun k e=>by cases e)
    have hM2:=(MR.of (HM9.out.belowW hb)).put HX.out.1 HX.out.2.1 hlr HVF.out
    go_wp2
    go_meet
    case rel=>exact spo_end hM2 ((HT9.out.2.1.bel hb).kept (grown_set W11 g1 q2 _) (fun e=>by injection e with e;have:=HG.out;omega)) (Lim.setL HR.out q1 q2 (by have:=HJ9.out;simp;omega) (fun z hz=>by rcases List.mem_append.1 hz with h | h;exact(HR.out.fine.loop q1 q2).2 z (List.mem_of_mem_take h);exact(HR.out.fine.loop q1 q2).2 z (List.mem_of_mem_drop h))) ((HT9.out.1.call hb).below.setCell (p:=⟨g1,q2,none⟩) (by have:=HG.out;show _≤g1;omega) _)
   ·omega
  case rest=>
   obtain⟨N2,A',c',fs',HOB,HRF,HB⟩:=hcut
   rename World=>W10
   clear HM9 HT9 HOL HVF HVL HX HPO HMD HLX HLM HL0 HC HN HR HPM
   have HKB:Hid (∀W W',(Hid (Below w.heap.size w W)∧Hid (Blk W O (.cells #[.int .i64 N2,.slice A' fs'.length c'] 26)∧RF W A' fs')∧W.cell? ⟨O,0,none⟩=some (.int .i64 N2)∧W.cell? ⟨O,1,none⟩=some (.slice A' fs'.length c'))→Below W.heap.size W W'→(Hid (Below w.heap.size w W')∧Hid (Blk W' O (.cells #[.int .i64 N2,.slice A' fs'.length c'] 26)∧RF W' A' fs')∧W'.cell? ⟨O,0,none⟩=some (.int .i64 N2)∧W'.cell? ⟨O,1,none⟩=some (.slice A' fs'.length c'))):=fun W W' h hb=>⟨h.1.out.trans (hb.mono h.1.out.size),⟨h.2.1.out.1.bel hb,h.2.1.out.2.below hb⟩,(blk_cells (h.2.1.out.1.bel hb)).1 0 _ rfl,(blk_cells (h.2.1.out.1.bel hb)).1 1 _ rfl⟩
   have HS1:Hid ((Hid (Below w.heap.size w W10)∧Hid (Blk W10 O (.cells #[.int .i64 N2,.slice A' fs'.length c'] 26)∧RF W10 A' fs')∧W10.cell? ⟨O,0,none⟩=some (.int .i64 N2)∧W10.cell? ⟨O,1,none⟩=some (.slice A' fs'.length c'))):=⟨HB.out,⟨HOB.out,HRF.out.1⟩,(blk_cells HOB.out).1 0 _ rfl,(blk_cells HOB.out).1 1 _ rfl⟩
   have HL2:=Lib.hid HRF.out.2
   clear HB HOB HRF
   have HG:Hid (∀W,(Hid (Below w.heap.size w W)∧Hid (Blk W O (.cells #[.int .i64 N2,.slice A' fs'.length c'] 26)∧RF W A' fs')∧W.cell? ⟨O,0,none⟩=some (.int .i64 N2)∧W.cell? ⟨O,1,none⟩=some (.slice A' fs'.length c'))→Calls Try.prog 11 #[.agg #[.int .i64 N2,.slice A' fs'.length c']] W fun e w'=>(∃A c,e=.returned (.agg #[.int .i64 N2,.slice A fs'.length c])∧fs'.length≤c∧RF w' A fs')∧Below W.heap.size W w'):=fun W h=>given_lim N2 A' c' fs' W h.2.1.out.2 HL2.out.1 HL2.out.2
   have HAW:Hid (∀W,Calls Try.prog 16 #[] W fun e w'=>e=.returned (.bool true)∧Below W.heap.size W w'):=fun W=>awake_any W
   by_cases hrp:RightP N2 fs'
   ·have HK:Hid (∀W A4 c4,RF W A4 fs'→Calls Try.prog 10 #[.agg #[.int .i64 N2,.slice A4 fs'.length c4]] W fun e w'=>e=.returned (.int .i64 0)∧Below W.heap.size W w'):=fun W A4 c4 h=>(check_lim N2 A4 c4 fs' W h HL2.out.2).mono (fun e w' ⟨⟨bb,e1,hbb⟩,h2⟩=>⟨by rw[e1];cases bb with | true=>rfl | false=>exact absurd (hbb.2 hrp) (by simp),h2⟩)
    have HRT:Hid (∀W,(Hid (Below w.heap.size w W)∧Hid (Blk W O (.cells #[.int .i64 N2,.slice A' fs'.length c'] 26)∧RF W A' fs')∧W.cell? ⟨O,0,none⟩=some (.int .i64 N2)∧W.cell? ⟨O,1,none⟩=some (.slice A' fs'.length c'))→Calls Try.prog 15 #[.agg #[.int .i64 N2,.slice A' fs'.length c']] W fun e w'=>e=.returned (.bool true)∧Below W.heap.size W w'):=fun W h=>(rr_lim N2 A' c' fs' W h.2.1.out.2 HL2.out.1 HL2.out.2).mono (fun e w' ⟨⟨bb,e1,hbb⟩,h2⟩=>⟨by rw[e1];cases bb with | true=>rfl | false=>exact absurd (hbb.2 hrp) (by simp),h2⟩)
    clear hrp
    go_upto_region 23 with fail
    go_region_held3 (fun W=>(Hid (Below w.heap.size w W)∧Hid (Blk W O (.cells #[.int .i64 N2,.slice A' fs'.length c'] 26)∧RF W A' fs')∧W.cell? ⟨O,0,none⟩=some (.int .i64 N2)∧W.cell? ⟨O,1,none⟩=some (.slice A' fs'.length c'))) ((first | (with_reducible exact HKB.out _ _ (by assumption) hb1) | (with_reducible exact HKB.out _ _ HS1.out (Below.refl _ _).drew))) ((first | (go_at_call 11;(with_reducible refine(HG.out _ (by assumption)).mono ?_);rintro e w1 ⟨⟨A4,c4,rfl,hc4,hr4⟩,hb1⟩) | (go_at_call 10;(with_reducible refine(HK.out _ _ _ (by first | exact hr4 | exact hr4.below hbR)).mono ?_);rintro e w1 ⟨rfl,hb1⟩) | (go_at_call 15;(with_reducible refine(HRT.out _ (by assumption)).mono ?_);rintro e w1 ⟨rfl,hb1⟩;have hbR:=hb1) | (go_at_call 16;(with_reducible refine(HAW.out _).mono ?_);rintro e w1 ⟨rfl,hb1⟩)))
    all_goals
     go_wp2
     go_ret
     exact⟨rfl,Hid.out (And.left (by assumption))⟩
   ·have HK:Hid (∀W A4 c4,RF W A4 fs'→Calls Try.prog 10 #[.agg #[.int .i64 N2,.slice A4 fs'.length c4]] W fun e w'=>e=.returned (.int .i64 140)∧Below W.heap.size W w'):=fun W A4 c4 h=>(check_lim N2 A4 c4 fs' W h HL2.out.2).mono (fun e w' ⟨⟨bb,e1,hbb⟩,h2⟩=>⟨by rw[e1];cases bb with | true=>exact absurd (hbb.1 rfl) hrp | false=>rfl,h2⟩)
    have HRT:Hid (∀W,(Hid (Below w.heap.size w W)∧Hid (Blk W O (.cells #[.int .i64 N2,.slice A' fs'.length c'] 26)∧RF W A' fs')∧W.cell? ⟨O,0,none⟩=some (.int .i64 N2)∧W.cell? ⟨O,1,none⟩=some (.slice A' fs'.length c'))→Calls Try.prog 15 #[.agg #[.int .i64 N2,.slice A' fs'.length c']] W fun e w'=>e=.returned (.bool false)∧Below W.heap.size W w'):=fun W h=>(rr_lim N2 A' c' fs' W h.2.1.out.2 HL2.out.1 HL2.out.2).mono (fun e w' ⟨⟨bb,e1,hbb⟩,h2⟩=>⟨by rw[e1];cases bb with | true=>exact absurd (hbb.1 rfl) hrp | false=>rfl,h2⟩)
    clear hrp
    go_upto_region 23 with fail
    go_region_held3 (fun W=>(Hid (Below w.heap.size w W)∧Hid (Blk W O (.cells #[.int .i64 N2,.slice A' fs'.length c'] 26)∧RF W A' fs')∧W.cell? ⟨O,0,none⟩=some (.int .i64 N2)∧W.cell? ⟨O,1,none⟩=some (.slice A' fs'.length c'))) ((first | (with_reducible exact HKB.out _ _ (by assumption) hb1) | (with_reducible exact HKB.out _ _ HS1.out (Below.refl _ _).drew))) ((first | (go_at_call 11;(with_reducible refine(HG.out _ (by assumption)).mono ?_);rintro e w1 ⟨⟨A4,c4,rfl,hc4,hr4⟩,hb1⟩) | (go_at_call 10;(with_reducible refine(HK.out _ _ _ (by first | exact hr4 | exact hr4.below hbR)).mono ?_);rintro e w1 ⟨rfl,hb1⟩) | (go_at_call 15;(with_reducible refine(HRT.out _ (by assumption)).mono ?_);rintro e w1 ⟨rfl,hb1⟩;have hbR:=hb1) | (go_at_call 16;(with_reducible refine(HAW.out _).mono ?_);rintro e w1 ⟨rfl,hb1⟩)))
    all_goals
     go_wp2
     go_ret
     exact⟨rfl,Hid.out (And.left (by assumption))⟩
end Go.Proofs.Ytealnhaffphamaa
