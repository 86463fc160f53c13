/- Contracts of the functions that the statement reaches, and plain lemmas: part 3 of 31. -/
import Derived.Test.YtealnhaffphamaaS02
import Derived.RangeFuncBox
import Derived.Shelf.Abstract
import Derived.Deep.OwnRows
import Derived.Laws.OwnMore
import Derived.Deep.AppendLies
set_option linter.unusedVariables false
set_option linter.unusedSimpArgs false

namespace Go.Proofs.Ytealnhaffphamaa
open Go.RowKit Go.Shelf Go.Proofs.YtealnhaffphamaaW.PrintWords
def dartB (fs:Fs) (x:PV):Bool:=(lpA fs x.f x.l).length != 1
def dartsA (fs:Fs) (pre:List PV):List PV:=pre.filter (dartB fs)
def EdUp (ds:List PV):Prop:=ds.Pairwise (fun x y=>¬ (x.v=y.v∧x.a=y.a))∧∀x∈ds,x.v≠x.a
def EdOk (fs:Fs):Prop:=EdUp (dartsA fs (plsA fs))∧∀x∈dartsA fs (plsA fs),hasE (dartsA fs (plsA fs)) x.a x.v=true
def NI (fs:Fs):Prop:=∀x∈plsA fs,I64 x.v∧I64 x.a
theorem dartsA_snoc (fs:Fs) (pre:List PV) (x:PV):dartsA fs (pre ++ [x])=dartsA fs pre ++ if dartB fs x then[x] else[]:=by
 unfold dartsA;rw[List.filter_append];simp[List.filter_cons]
theorem EdUp.snoc {ds:List PV} (h:EdUp ds) {x:PV} (hn:hasE ds x.v x.a=false) (hx:x.v≠x.a):EdUp (ds ++ [x]):=by
 refine⟨List.pairwise_append.2 ⟨h.1,List.pairwise_singleton _ _,fun y hy z hz=>?_⟩,fun y hy=>?_⟩
 ·rw[List.mem_singleton.1 hz]
  rintro⟨e1,e2⟩
  have:=hasE_of hy
  rw[e1,e2,hn] at this;simp at this
 ·rcases List.mem_append.1 hy with hy | hy
  ·exact h.2 y hy
  ·rw[List.mem_singleton.1 hy];exact hx
theorem EdUp.ofPrefix {a b:List PV} (h:EdUp b) (hp:a <+: b):EdUp a:=⟨h.1.sublist hp.sublist,fun x hx=>h.2 x (hp.subset hx)⟩
theorem EdUp.not_snoc {ds:List PV} {x:PV} (h:hasE ds x.v x.a=true∨x.v=x.a):¬ EdUp (ds ++ [x]):=by
 rintro⟨h1,h2⟩
 rcases h with h | h
 ·obtain⟨y,hy,e1,e2⟩:=hasE_mem h
  exact(List.pairwise_append.1 h1).2.2 y hy x (by simp) ⟨e1,e2⟩
 ·exact h2 x (by simp) h
theorem darts_prefix {fs:Fs} {a b:List PV} (h:a <+: b):dartsA fs a <+: dartsA fs b:=by
 obtain⟨t,rfl⟩:=h
 unfold dartsA;rw[List.filter_append];exact List.prefix_append _ _
theorem valsP_snoc {fs:Fs} (pre:List (PM fs)) (x:PM fs):valsP (pre ++ [x])=valsP pre ++ [x.1]:=by simp[valsP]
theorem EM.alloc {W:World} {b:Nat} {ds:List PV} (h:EM W b ds) (o:Obj):EM (W.alloc o) b ds:=h.kept (World.grownBy_alloc _ _ none) (by simp)
theorem EM.drew {W:World} {b:Nat} {ds:List PV} (h:EM W b ds):EM W.drew b ds:=h.kept (row:=none) (grown_of_below ((Below.refl W.heap.size W).drew) none) (by simp)
theorem Blk.kept {W W':World} {b:Nat} {o:Obj} {row:Option Nat} (h:Blk W b o) (hg:W.grownBy W' row) (hne:some b≠row):Blk W' b o:=(hg.block b h.lt hne).trans h
theorem grown_drew (W:World):W.grownBy W.drew none:=grown_of_below ((Below.refl W.heap.size W).drew) none
attribute [local go_sem] Oper.semAt_some
def EI (fs:Fs) (w:World) (b2 b3 b4 bm:Nat) (m:Value) (pre:List (PM fs)) (W:World):Prop:=(EdUp (dartsA fs (valsP pre))∧EM W bm (dartsA fs (valsP pre)))∧(Boxed W b2 88 (.map none)∧Boxed W b3 4 (.bool false)∧Boxed W b4 88 m)∧Below w.heap.size w W
theorem EI.kept {fs:Fs} {w:World} {b2 b3 b4 bm:Nat} {m:Value} {pre:List (PM fs)} {W W':World} {row:Option Nat} (h:EI fs w b2 b3 b4 bm m pre W) (hg:W.grownBy W' row) (hr:∀k,row=some k→w.heap.size≤k∧k≠bm∧k≠b2∧k≠b3∧k≠b4):EI fs w b2 b3 b4 bm m pre W':=
 ⟨⟨h.1.1,h.1.2.kept hg (fun e=>(hr _ e.symm).2.1 rfl)⟩,⟨h.2.1.1.kept hg (fun e=>(hr _ e.symm).2.2.1 rfl),h.2.1.2.1.kept hg (fun e=>(hr _ e.symm).2.2.2.1 rfl),h.2.1.2.2.kept hg (fun e=>(hr _ e.symm).2.2.2.2 rfl)⟩,h.2.2.grown hg h.2.2.size (fun k e=>(hr k e).1)⟩
theorem EI.grown {fs:Fs} {w:World} {b2 b3 b4 bm:Nat} {m:Value} {pre:List (PM fs)} {W W':World} (h:EI fs w b2 b3 b4 bm m pre W) (hg:W.grownBy W' none):EI fs w b2 b3 b4 bm m pre W':=h.kept hg (fun k e=>by cases e)
def EL (w:World) (b2 b3 b4 bm Dd:Nat) (W:World):Prop:=(Boxed W b2 88 (.map none)∧Boxed W b3 4 (.bool false)∧Boxed W b4 88 (.map (some bm)))∧Below w.heap.size w W∧W.heap[Dd]?=some (.deferred (some []))
theorem EL.kept {w:World} {b2 b3 b4 bm Dd:Nat} {W W':World} {row:Option Nat} (h:EL w b2 b3 b4 bm Dd W) (hg:W.grownBy W' row) (hr:∀k,row=some k→w.heap.size≤k∧k≠Dd∧k≠b2∧k≠b3∧k≠b4):EL w b2 b3 b4 bm Dd W':=
 ⟨⟨h.1.1.kept hg (fun e=>(hr _ e.symm).2.2.1 rfl),h.1.2.1.kept hg (fun e=>(hr _ e.symm).2.2.2.1 rfl),h.1.2.2.kept hg (fun e=>(hr _ e.symm).2.2.2.2 rfl)⟩,h.2.1.grown hg h.2.1.size (fun k e=>(hr k e).1),(hg.block Dd (Array.getElem?_eq_some_iff.1 h.2.2).1 (fun e=>(hr _ e.symm).2.1 rfl)).trans h.2.2⟩
set_option maxRecDepth 100000 in
set_option maxHeartbeats 4000000 in
theorem edges_any (N:Int) (A:Option Addr) (c:Nat) (fs:Fs) (w:World) (hF:RF w A fs) (hSm:Sm fs) (hI:NI fs) (hcap:(plsA fs).length≤100000) :
  Calls Try.prog 52 #[.agg #[.int .i64 N,.slice A fs.length c]] w fun e w'=>(∃m b,e=.returned (.tuple #[m,.bool b])∧(b=true↔EdOk fs)∧(b=true→∃k,m=.map (some k)∧w.heap.size≤k∧EM w' k (dartsA fs (plsA fs))))∧Below w.heap.size w w':=by
 have HF:=Lib.hid hF
 have HS:=Lib.hid hSm
 have HI:=Lib.hid hI
 have hN:=hSm.1
 have hmm:=@run_makeMap Try.prog
 clear hF hSm hI
 refine(callsIn_wide (n:=9)).1 ?_
 refine callsIn_of_wp_marks Try.func52 rfl trivial ?_ rfl
 simp only[Try.ntmps52,List.size_toArray,List.length_cons,List.length_nil,Nat.reduceAdd,Nat.reduceSub,Array.replicate_succ,Array.replicate_zero,List.push_toArray,List.append_toArray,List.nil_append,List.cons_append]
 gi_wp2_with fail
 refine⟨trivial,?_⟩
 have hE:Blk (((((w.alloc (.cells #[.int .i64 N,.slice A fs.length c] 30)).alloc (.cells #[.map none] 88)).alloc (.cells #[.bool false] 4)).alloc (.map #[] 0)).alloc (.cells #[.map (some (w.heap.size+1+1+1))] 88)) w.heap.size (.cells #[.int .i64 N,.slice A fs.length c] 30) ∧
   EI fs w (w.heap.size+1) (w.heap.size+1+1) (w.heap.size+1+1+1+1) (w.heap.size+1+1+1) (.map (some (w.heap.size+1+1+1))) [] (((((w.alloc (.cells #[.int .i64 N,.slice A fs.length c] 30)).alloc (.cells #[.map none] 88)).alloc (.cells #[.bool false] 4)).alloc (.map #[] 0)).alloc (.cells #[.map (some (w.heap.size+1+1+1))] 88)) ∧
   (((((w.alloc (.cells #[.int .i64 N,.slice A fs.length c] 30)).alloc (.cells #[.map none] 88)).alloc (.cells #[.bool false] 4)).alloc (.map #[] 0)).alloc (.cells #[.map (some (w.heap.size+1+1+1))] 88)).heap.size=w.heap.size+1+1+1+1+1:=by
  refine⟨((((blk_new w _).alloc).alloc).alloc).alloc,⟨⟨⟨by simp[dartsA,valsP],by simp[dartsA,valsP]⟩,?_⟩,⟨?_,?_,?_⟩,?_⟩,by simp⟩
  ·have h:=EM.made ((((w.alloc (.cells #[.int .i64 N,.slice A fs.length c] 30)).alloc (.cells #[.map none] 88)).alloc (.cells #[.bool false] 4)))
   simp only[World.size_alloc] at h
   exact h.kept (World.grownBy_alloc _ _ none) (by simp)
  ·have h:=Boxed.new (w.alloc (.cells #[.int .i64 N,.slice A fs.length c] 30)) 88 (.map none)
   simp only[World.size_alloc] at h
   exact((h.alloc _).alloc _).alloc _
  ·have h:=Boxed.new ((w.alloc (.cells #[.int .i64 N,.slice A fs.length c] 30)).alloc (.cells #[.map none] 88)) 4 (.bool false)
   simp only[World.size_alloc] at h
   exact(h.alloc _).alloc _
  ·have h:=Boxed.new ((((w.alloc (.cells #[.int .i64 N,.slice A fs.length c] 30)).alloc (.cells #[.map none] 88)).alloc (.cells #[.bool false] 4)).alloc (.map #[] 0)) 88 (.map (some (w.heap.size+1+1+1)))
   simp only[World.size_alloc] at h
   exact h
  ·exact(((((Below.refl _ w).alloc (Nat.le_refl _) _).alloc (by simp) _).alloc (by simp;omega) _).alloc (by simp;omega) _).alloc (by simp;omega) _
 generalize (((((w.alloc (.cells #[.int .i64 N,.slice A fs.length c] 30)).alloc (.cells #[.map none] 88)).alloc (.cells #[.bool false] 4)).alloc (.map #[] 0)).alloc (.cells #[.map (some (w.heap.size+1+1+1))] 88))=We at hE ⊢
 obtain⟨hE1,hE2,hEs⟩:=hE
 refine(callsIn_wide.2 (places_any N A fs.length c We)).mono ?_
 rintro e w1 ⟨rfl,rfl⟩
 gi_wp2
 have hP:=blk_new We (.cells #[.int .i64 N,.slice A fs.length c] 30)
 rw[hEs] at hP
 have hE1:=hE1.alloc (o':=.cells #[.int .i64 N,.slice A fs.length c] 30)
 have hE2:EI fs w (w.heap.size+1) (w.heap.size+1+1) (w.heap.size+1+1+1+1) (w.heap.size+1+1+1) (.map (some (w.heap.size+1+1+1))) [] (We.alloc (.cells #[.int .i64 N,.slice A fs.length c] 30)):=⟨⟨hE2.1.1,hE2.1.2.kept (World.grownBy_alloc _ _ none) (by simp)⟩,⟨hE2.2.1.1.alloc _,hE2.2.1.2.1.alloc _,hE2.2.1.2.2.alloc _⟩,hE2.2.2.alloc (by omega) _⟩
 have hsz:(We.alloc (.cells #[.int .i64 N,.slice A fs.length c] 30)).heap.size=We.heap.size+1:=by simp
 obtain⟨W0,hW0⟩:∃W0,We.alloc (.cells #[.int .i64 N,.slice A fs.length c] 30)=W0:=⟨_,rfl⟩
 rw[hW0] at hP hE1 hE2 hsz ⊢
 clear hW0
 refine wpIn_rangeFunc_ownH rfl (by decide) (gf:=86) (lb:=#[.pointer (some ⟨w.heap.size+1+1+1+1+1,0,none⟩)]) rfl trivial (enters_of Try.func86 (by kernel_rfl) rfl)
  (places_stops 8 (w.heap.size+1+1+1+1+1) N A c fs w W0 HF.out HS.out hE2.2.2 (by omega) ((blk_cells hP).1 0 _ rfl) ((blk_cells hP).1 1 _ rfl)) belowK_t (belowK_b (by omega)) (Below.refl _ _) (fun _=>rfl)
  (fun pre W=>EI fs w (w.heap.size+1) (w.heap.size+1+1) (w.heap.size+1+1+1+1) (w.heap.size+1+1+1) (.map (some (w.heap.size+1+1+1))) pre W∧Blk W w.heap.size (.cells #[.int .i64 N,.slice A fs.length c] 30)∧W0.heap.size≤W.heap.size)
  (fun c pre W=>(c=.ret∧¬ EdUp (dartsA fs (valsP pre)))∧(Boxed W (w.heap.size+1) 88 (.map none)∧Boxed W (w.heap.size+1+1) 4 (.bool false))∧Below w.heap.size w W)
  ?ownI ?ownIx ⟨hE2,hE1,Nat.le_refl _⟩
  (fun x a' W=>∃B5 B6,W0.heap.size≤B5∧B5≠B6∧W0.heap.size≤B6∧Blk W B5 (.cells #[.int .i64 (x.1.f:Nat),.int .i64 (x.1.l:Nat),.int .i64 (x.1.i:Nat)] 45)∧Blk W B6 (.cells #[.int .i64 x.1.v,.int .i64 x.1.b,.int .i64 x.1.a] 107)∧a'={ tmps:=#[.agg #[.int .i64 N,.slice A fs.length c],.pointer (some ⟨w.heap.size,0,none⟩),.pointer (some ⟨w.heap.size+1,0,none⟩),.pointer (some ⟨w.heap.size+1+1,0,none⟩),.pointer (some ⟨w.heap.size+1+1+1+1,0,none⟩),.pointer (some ⟨B5,0,none⟩),.pointer (some ⟨B6,0,none⟩),undef,undef,undef,undef,undef,undef,.map (some (w.heap.size+1+1+1)),.agg #[.int .i64 N,.slice A fs.length c],.func (.func 86) #[] #[.pointer (some ⟨w.heap.size+1+1+1+1+1,0,none⟩)],.agg #[.int .i64 (x.1.f:Nat),.int .i64 (x.1.l:Nat),.int .i64 (x.1.i:Nat)],.agg #[.int .i64 x.1.v,.int .i64 x.1.b,.int .i64 x.1.a],undef,undef,undef,undef,undef,undef,undef,undef,undef,undef,undef,undef,undef,undef,undef,undef,undef,undef,undef,undef,undef,undef,undef,undef,undef,undef,undef,undef,undef,undef,undef,undef,undef,undef,undef,undef,undef,undef,undef,undef,undef,undef,undef,undef,undef,undef,undef,undef,undef,undef,undef,undef,undef],defers:=[] })
  ?ownA ?assign ?body ?done ?stop
 case ownI=>
  intro pre X Y row hs hg hr
  exact⟨hs.1.kept hg (fun k e=>by have:=(hr k e).1;omega),hs.2.1.kept hg (fun e=>by have:=(hr _ e.symm).1;omega),Nat.le_trans hs.2.2 hg.size⟩
 case ownIx=>
  intro c pre X Y row hs hg hr
  exact⟨hs.1,⟨hs.2.1.1.kept hg (fun e=>by have:=(hr _ e.symm).1;omega),hs.2.1.2.kept hg (fun e=>by have:=(hr _ e.symm).1;omega)⟩,hs.2.2.grown hg hs.2.2.size (fun k e=>by have:=(hr k e).1;omega)⟩
 case ownA=>
  intro x a' _ X Y row hs hg hr
  obtain⟨B5,B6,h1,h2,h3,h4,h5,h6⟩:=hs
  refine⟨B5,B6,h1,h2,h3,h4.kept hg (fun e=>?_),h5.kept hg (fun e=>?_),h6⟩
  ·obtain⟨_,o,ho,hc⟩:=hr _ e.symm
   rw[show X.heap[B5]?=_ from h4] at ho;cases ho;cases hc
  ·obtain⟨_,o,ho,hc⟩:=hr _ e.symm
   rw[show X.heap[B6]?=_ from h5] at ho;cases ho;cases hc
 case assign=>
  rintro l pre ⟨⟨xf,xl,xi,xv,xb,xa⟩,hx⟩ W K ⟨hI,hM,hL⟩ hK
  dsimp only[encsP,encP,enc3] at *
  gi_wp2
  exact hK _ _ (((KeepsOthers.alloc _ _).trans (KeepsOthers.alloc _ _)).from _) (((Below.refl _ W).alloc hI.2.2.size _).alloc (by have:=hI.2.2.size;simp;omega) _) ⟨(hI.grown (World.grownBy_alloc _ _ none)).grown (World.grownBy_alloc _ _ none),hM.alloc.alloc,by simp;omega⟩ ⟨W.heap.size,W.heap.size+1,hL,by omega,by omega,(blk_new W _).alloc,by have h:=blk_new (W.alloc (.cells #[.int .i64 xf,.int .i64 xl,.int .i64 xi] 45)) (.cells #[.int .i64 xv,.int .i64 xb,.int .i64 xa] 107);simpa using h,rfl⟩
 case body=>
  rintro l pre ⟨⟨xf,xl,xi,xv,xb,xa⟩,hx⟩ a' W hl' _ ⟨hE,hM,hL⟩ ⟨B5,B6,hB5,hB56,hB6,bl5,bl6,rfl⟩ hlt
  dsimp only at bl5 bl6 ⊢
  have hIx:=HI.out _ hx
  dsimp only at hIx
  obtain⟨f,l',i,hf,hl2,hi,e⟩:=mem_pls.1 hx
  have e1:xf=f:=congrArg PV.f e
  have e2:xl=l':=congrArg PV.l e
  clear e hi i
  subst e1 e2
  obtain⟨ad,A0,c1,rfl,hc0,hl0,hr0⟩:=HF.out.at hf
  obtain⟨ad1,A2,c2,rfl,hc1,hl1,hr1⟩:=hr0.atP hl2
  have hc0:=pw_cell_below hE.2.2 hc0
  have hc1:=pw_cell_below hE.2.2 hc1
  obtain⟨n,hn⟩:∃n,n=(lpA fs xf xl).length:=⟨_,rfl⟩
  rw[←hn] at hc1 hl1
  have HN:=Lib.hid hn
  obtain⟨q,hq⟩:∃q,((n:Int) == 1)=q:=⟨_,rfl⟩
  have hfz:(xf:Int)<(fs.length:Int):=by omega
  have hlz:(xl:Int)<((fcA fs xf).length:Int):=by omega
  have hn0:=hr0.len
  have m1:=(blk_cells hM).1 1 _ rfl
  have p0:=(blk_cells bl5).1 0 _ rfl
  have p1:=(blk_cells bl5).1 1 _ rfl
  have HE:=Lib.hid hE
  have HM:=Lib.hid hM
  clear hE hM hr0 hr1 hn
  gi_upto_region 5 with fail
  refine wpIn_region_inv' (by kernel_rfl) (by kernel_rfl) (fun listed aa wy=>∃t:Nat→Value,aa={ tmps:=#[.agg #[.int .i64 N,.slice (some ad) fs.length c],.pointer (some ⟨w.heap.size,0,none⟩),.pointer (some ⟨w.heap.size+1,0,none⟩),.pointer (some ⟨w.heap.size+1+1,0,none⟩),.pointer (some ⟨w.heap.size+1+1+1+1,0,none⟩),.pointer (some ⟨B5,0,none⟩),.pointer (some ⟨B6,0,none⟩),undef,undef,undef,undef,undef,undef,.map (some (w.heap.size+1+1+1)),.agg #[.int .i64 N,.slice (some ad) fs.length c],.func (.func 86) #[] #[.pointer (some ⟨w.heap.size+1+1+1+1+1,0,none⟩)],.agg #[.int .i64 (xf:Nat),.int .i64 (xl:Nat),.int .i64 (xi:Nat)],.agg #[.int .i64 xv,.int .i64 xb,.int .i64 xa],t 18,t 19,t 20,t 21,t 22,t 23,t 24,t 25,t 26,t 27,t 28,t 29,undef,undef,undef,undef,undef,undef,undef,undef,undef,undef,undef,undef,undef,undef,undef,undef,undef,undef,undef,undef,undef,undef,undef,undef,undef,undef,undef,undef,undef,undef,undef,undef,undef,undef,undef,undef,undef,undef,undef,undef,undef],defers:=[] }∧IR (fun wz=>wz=W.drew) (fun d (_:World) v=>match d with | 18=>v=.pointer (some ⟨w.heap.size,1,none⟩) | 19=>v=.slice (some ad) fs.length c | 20=>v=.pointer (some ⟨B5,0,none⟩) | 21=>v=.int .i64 xf | 22=>v=.pointer (some (ad.add xf)) | 23=>v=.slice (some ad1) (fcA fs xf).length c1 | 24=>v=.pointer (some ⟨B5,1,none⟩) | 25=>v=.int .i64 xl | 26=>v=.pointer (some (ad1.add xl)) | 27=>v=.slice A2 n c2 | 28=>v=.int .i64 n | 29=>v=.bool q | _=>True) [(0,18),(1,19),(2,20),(3,21),(4,22),(5,23),(6,24),(7,25),(8,26),(9,27),(10,28),(11,29)] listed t wy) ⟨(fun d=>match d with | 18=>undef | 19=>undef | 20=>undef | 21=>undef | 22=>undef | 23=>undef | 24=>undef | 25=>undef | 26=>undef | 27=>undef | 28=>undef | 29=>undef | _=>undef),rfl,IR.start _ (by rfl) _⟩ ?_ ?_
  rotate_left
  ·rintro listed hCl ix hix aa wy ⟨t,rfl,hR⟩ hr
   match ix,hix,hr with
   | 0,_,hr=>
    as_aux_lemma=>
    refine wpOpIn_step rfl (fun K' hK=>?_)
    go_simp
    exact hK _ _ ⟨upd t 18 (.pointer (some ⟨w.heap.size,1,none⟩)),rfl,hR.yields hR.fin (fun _ _ h=>h) rfl rfl⟩
   | 1,_,hr=>
    as_aux_lemma=>
    refine wpOpIn_step rfl (fun K' hK=>?_)
    have e1:t 18=.pointer (some ⟨w.heap.size,1,none⟩):=hR.val (0,18) (by simp) (dep_of hr 0 (by kernel_rfl))
    obtain rfl:wy=W.drew:=hR.fin
    go_simp
    exact hK _ _ ⟨upd t 19 (.slice (some ad) fs.length c),by simp[upd,e1],hR.yields hR.fin (fun _ _ h=>h) rfl rfl⟩
   | 2,_,hr=>
    as_aux_lemma=>
    refine wpOpIn_step rfl (fun K' hK=>?_)
    go_simp
    exact hK _ _ ⟨upd t 20 (.pointer (some ⟨B5,0,none⟩)),rfl,hR.yields hR.fin (fun _ _ h=>h) rfl rfl⟩
   | 3,_,hr=>
    as_aux_lemma=>
    refine wpOpIn_step rfl (fun K' hK=>?_)
    have e1:t 20=.pointer (some ⟨B5,0,none⟩):=hR.val (2,20) (by simp) (dep_of hr 2 (by kernel_rfl))
    obtain rfl:wy=W.drew:=hR.fin
    go_simp
    exact hK _ _ ⟨upd t 21 (.int .i64 xf),by simp[upd,e1],hR.yields hR.fin (fun _ _ h=>h) rfl rfl⟩
   | 4,_,hr=>
    as_aux_lemma=>
    refine wpOpIn_step rfl (fun K' hK=>?_)
    have e1:t 19=.slice (some ad) fs.length c:=hR.val (1,19) (by simp) (dep_of hr 1 (by kernel_rfl))
    have e2:t 21=.int .i64 xf:=hR.val (3,21) (by simp) (dep_of hr 3 (by kernel_rfl))
    go_simp
    exact hK _ _ ⟨upd t 22 (.pointer (some (ad.add xf))),by simp[upd,e1,e2],hR.yields hR.fin (fun _ _ h=>h) rfl rfl⟩
   | 5,_,hr=>
    as_aux_lemma=>
    refine wpOpIn_step rfl (fun K' hK=>?_)
    have e1:t 22=.pointer (some (ad.add xf)):=hR.val (4,22) (by simp) (dep_of hr 4 (by kernel_rfl))
    obtain rfl:wy=W.drew:=hR.fin
    go_simp
    exact hK _ _ ⟨upd t 23 (.slice (some ad1) (fcA fs xf).length c1),by simp[upd,e1],hR.yields hR.fin (fun _ _ h=>h) rfl rfl⟩
   | 6,_,hr=>
    as_aux_lemma=>
    refine wpOpIn_step rfl (fun K' hK=>?_)
    go_simp
    exact hK _ _ ⟨upd t 24 (.pointer (some ⟨B5,1,none⟩)),rfl,hR.yields hR.fin (fun _ _ h=>h) rfl rfl⟩
   | 7,_,hr=>
    as_aux_lemma=>
    refine wpOpIn_step rfl (fun K' hK=>?_)
    have e1:t 24=.pointer (some ⟨B5,1,none⟩):=hR.val (6,24) (by simp) (dep_of hr 6 (by kernel_rfl))
    obtain rfl:wy=W.drew:=hR.fin
    go_simp
    exact hK _ _ ⟨upd t 25 (.int .i64 xl),by simp[upd,e1],hR.yields hR.fin (fun _ _ h=>h) rfl rfl⟩
   | 8,_,hr=>
    as_aux_lemma=>
    refine wpOpIn_step rfl (fun K' hK=>?_)
    have e1:t 23=.slice (some ad1) (fcA fs xf).length c1:=hR.val (5,23) (by simp) (dep_of hr 5 (by kernel_rfl))
    have e2:t 25=.int .i64 xl:=hR.val (7,25) (by simp) (dep_of hr 7 (by kernel_rfl))
    go_simp
    exact hK _ _ ⟨upd t 26 (.pointer (some (ad1.add xl))),by simp[upd,e1,e2],hR.yields hR.fin (fun _ _ h=>h) rfl rfl⟩
   | 9,_,hr=>
    as_aux_lemma=>
    refine wpOpIn_step rfl (fun K' hK=>?_)
    have e1:t 26=.pointer (some (ad1.add xl)):=hR.val (8,26) (by simp) (dep_of hr 8 (by kernel_rfl))
    obtain rfl:wy=W.drew:=hR.fin
    go_simp
    exact hK _ _ ⟨upd t 27 (.slice A2 n c2),by simp[upd,e1],hR.yields hR.fin (fun _ _ h=>h) rfl rfl⟩
   | 10,_,hr=>
    as_aux_lemma=>
    refine wpOpIn_step rfl (fun K' hK=>?_)
    have e1:t 27=.slice A2 n c2:=hR.val (9,27) (by simp) (dep_of hr 9 (by kernel_rfl))
    go_simp
    exact hK _ _ ⟨upd t 28 (.int .i64 n),by simp[upd,e1],hR.yields hR.fin (fun _ _ h=>h) rfl rfl⟩
   | 11,_,hr=>
    as_aux_lemma=>
    refine wpOpIn_step rfl (fun K' hK=>?_)
    have e1:t 28=.int .i64 n:=hR.val (10,28) (by simp) (dep_of hr 10 (by kernel_rfl))
    go_simp
    exact hK _ _ ⟨upd t 29 (.bool q),by simp[upd,e1],hR.yields hR.fin (fun _ _ h=>h) rfl rfl⟩
   | nx+12,hix,_=>exact absurd (show nx+12<12 from hix) (by omega)
  rintro listed a2 W2 ⟨t,rfl,hR⟩ hl
  obtain rfl:W2=W.drew:=hR.fin
  have e18:t 18=.pointer (some ⟨w.heap.size,1,none⟩):=hR.val (0,18) (by simp) (hl 0 (by decide))
  have e19:t 19=.slice (some ad) fs.length c:=hR.val (1,19) (by simp) (hl 1 (by decide))
  have e20:t 20=.pointer (some ⟨B5,0,none⟩):=hR.val (2,20) (by simp) (hl 2 (by decide))
  have e21:t 21=.int .i64 xf:=hR.val (3,21) (by simp) (hl 3 (by decide))
  have e22:t 22=.pointer (some (ad.add xf)):=hR.val (4,22) (by simp) (hl 4 (by decide))
  have e23:t 23=.slice (some ad1) (fcA fs xf).length c1:=hR.val (5,23) (by simp) (hl 5 (by decide))
  have e24:t 24=.pointer (some ⟨B5,1,none⟩):=hR.val (6,24) (by simp) (hl 6 (by decide))
  have e25:t 25=.int .i64 xl:=hR.val (7,25) (by simp) (hl 7 (by decide))
  have e26:t 26=.pointer (some (ad1.add xl)):=hR.val (8,26) (by simp) (hl 8 (by decide))
  have e27:t 27=.slice A2 n c2:=hR.val (9,27) (by simp) (hl 9 (by decide))
  have e28:t 28=.int .i64 n:=hR.val (10,28) (by simp) (hl 10 (by decide))
  have e29:t 29=.bool q:=hR.val (11,29) (by simp) (hl 11 (by decide))
  clear hR hl
  have hdx:dartB fs ⟨xf,xl,xi,xv,xb,xa⟩ = !q:=by
   show((lpA fs xf xl).length != 1) = !q
   rw[←HN.out,←hq]
   show(!(n == 1)) = !((n:Int) == 1)
   by_cases h:n=1
   ·rw[h];rfl
   ·have hz:¬ (n:Int)=1:=by omega
    rw[beq_eq_false_iff_ne.2 hz,beq_eq_false_iff_ne.2 h]
  have HDX:=Lib.hid hdx
  have HE1:=Lib.hid (HE.out.grown (grown_drew W))
  have HM1:=Lib.hid (HM.out.kept (grown_drew W) (by simp))
  clear hdx HE HM hc0 hc1 m1 p0 p1
  obtain⟨W1,hW1⟩:∃W1,W1=W.drew:=⟨_,rfl⟩
  have HB1:Hid (KeepsFrom W0.heap.size W W1∧Below w.heap.size W W1∧W0.heap.size≤W1.heap.size):=by rw[hW1];exact⟨(KeepsOthers.drew W).from _,(Below.refl _ W).drew,hL⟩
  have bl5:=bl5.kept (grown_drew W) (by simp)
  have bl6:=bl6.kept (grown_drew W) (by simp)
  rw[←hW1] at HE1 HM1 bl5 bl6 ⊢
  clear hW1
  rw[e29]
  clear e18 e19 e20 e21 e22 e23 e24 e25 e26 e27 e28 e29
  cases q
  ·have v0:=(blk_cells bl6).1 0 _ rfl
   have v2:=(blk_cells bl6).1 2 _ rfl
   have p0:=(blk_cells bl5).1 0 _ rfl
   have p1:=(blk_cells bl5).1 1 _ rfl
   have p2:=(blk_cells bl5).1 2 _ rfl
   have c4:=HE1.out.2.1.2.2.cell
   have k4:=HE1.out.2.1.2.2.lt
   have k3:=HE1.out.2.1.2.1.lt
   have k2:=HE1.out.2.1.1.lt
   have k3f:=HE1.out.2.1.2.1.frozen
   have k2f:=HE1.out.2.1.1.frozen
   have k3c:=HE1.out.2.1.2.1.cell
   have k2c:=HE1.out.2.1.1.cell
   have k5:=bl5.lt
   have k6:=bl6.lt
   have k1:w.heap.size<W1.heap.size:=by omega
   have kk:w.heap.size+1+1+1<W1.heap.size:=by omega
   have k5s:B5<W1.heap.size+1:=by omega
   have k6s:B6<W1.heap.size+1:=by omega
   by_cases hh:hasE (dartsA fs (valsP pre)) xv xa=true
   ·gi_wp2_with (gi_at_lookup;refine wpListIn_look_em _ rfl _ _ rfl (w.heap.size+1+1+1) (dartsA fs (valsP pre)) rfl (by(repeat (first | exact HE1.out.1.2 | refine EM.alloc ?_ _))) xv xa rfl hIx.1 hIx.2 ?_;intro f0 l0 i0)
    refine⟨HB1.out.1.trans (((((KeepsOthers.setCell _ _ _).trans (KeepsOthers.setCell _ _ _)).trans (KeepsOthers.alloc _ _)).trans (KeepsOthers.alloc _ _)).from _),⟨rfl,?_⟩,⟨(((HE1.out.2.1.1.set _).other (by omega) _).alloc _).alloc _,(((HE1.out.2.1.2.1.other (by omega) _).set _).alloc _).alloc _⟩,?_⟩
    ·rw[valsP_snoc,dartsA_snoc,HDX.out]
     exact EdUp.not_snoc (.inl hh)
    ·exact((((HE1.out.2.2.setCell (p:=⟨_,0,none⟩) (by show w.heap.size≤w.heap.size+1;omega) _).setCell (p:=⟨_,0,none⟩) (by show w.heap.size≤w.heap.size+1+1;omega) _).alloc (by simp;omega) _).alloc (by simp;omega) _)
   ·have hh:hasE (dartsA fs (valsP pre)) xv xa=false:=by simpa using hh
    by_cases hva:xv=xa
    ·subst hva
     gi_wp2_with (gi_at_lookup;refine wpListIn_look_em _ rfl _ _ rfl (w.heap.size+1+1+1) (dartsA fs (valsP pre)) rfl (by(repeat (first | exact HE1.out.1.2 | refine EM.alloc ?_ _))) xv xv rfl hIx.1 hIx.2 ?_;intro f0 l0 i0)
     refine⟨HB1.out.1.trans (((((KeepsOthers.setCell _ _ _).trans (KeepsOthers.setCell _ _ _)).trans (KeepsOthers.alloc _ _)).trans (KeepsOthers.alloc _ _)).from _),⟨rfl,?_⟩,⟨(((HE1.out.2.1.1.set _).other (by omega) _).alloc _).alloc _,(((HE1.out.2.1.2.1.other (by omega) _).set _).alloc _).alloc _⟩,?_⟩
     ·rw[valsP_snoc,dartsA_snoc,HDX.out]
      exact EdUp.not_snoc (.inr rfl)
     ·exact((((HE1.out.2.2.setCell (p:=⟨_,0,none⟩) (by show w.heap.size≤w.heap.size+1;omega) _).setCell (p:=⟨_,0,none⟩) (by show w.heap.size≤w.heap.size+1+1;omega) _).alloc (by simp;omega) _).alloc (by simp;omega) _)
    ·have HCAP:Hid ((dartsA fs (valsP pre)).length<1000000):=by
      have h1:=List.length_filter_le (dartB fs) (valsP pre)
      have h2:(valsP pre).length=pre.length:=by simp[valsP]
      show(dartsA fs (valsP pre)).length<1000000
      unfold dartsA;omega
     gi_wp2_with (first | (gi_at_lookup;refine wpListIn_look_em _ rfl _ _ rfl (w.heap.size+1+1+1) (dartsA fs (valsP pre)) rfl (by(repeat (first | exact HE1.out.1.2 | refine EM.alloc ?_ _))) xv xa rfl hIx.1 hIx.2 ?_;intro f0 l0 i0) | (gi_at_mapUpdate;refine wpListIn_upd_em _ rfl _ _ _ rfl (w.heap.size+1+1+1) (dartsA fs (valsP pre)) rfl (by(repeat (first | exact HE1.out.1.2 | refine EM.alloc ?_ _))) HCAP.out ⟨xf,xl,xi,xv,xb,xa⟩ rfl rfl hIx hh ?_;intro w2 hem hgrow))
     have hEA:=(HE1.out.grown (World.grownBy_alloc W1 (.cells #[.int .i64 xv,.int .i64 xa] 95) none)).grown (World.grownBy_alloc _ (.cells #[.int .i64 f0,.int .i64 l0,.int .i64 i0] 45) none)
     have hMA:=(HM1.out.alloc (o':=.cells #[.int .i64 xv,.int .i64 xa] 95)).alloc (o':=.cells #[.int .i64 f0,.int .i64 l0,.int .i64 i0] 45)
     refine⟨(HB1.out.1.trans (((KeepsOthers.alloc _ _).trans (KeepsOthers.alloc _ _)).from _)).trans (KeepsFrom.of_grownBy hgrow (fun j e=>by cases e;omega)),?_,⟨⟨?_,?_⟩,⟨hEA.2.1.1.kept hgrow (by simp),hEA.2.1.2.1.kept hgrow (by simp),hEA.2.1.2.2.kept hgrow (by simp)⟩,hEA.2.2.grown hgrow hEA.2.2.size (fun k e=>by cases e;omega)⟩,hMA.kept hgrow (by simp;omega),?_⟩
     ·exact HB1.out.2.1.trans ((((Below.refl w.heap.size W1).alloc (by omega) _).alloc (by simp;omega) _).grown hgrow (by simp;omega) (fun k e=>by cases e;omega))
     ·rw[valsP_snoc,dartsA_snoc,HDX.out]
      exact HE1.out.1.1.snoc hh hva
     ·rw[valsP_snoc,dartsA_snoc,HDX.out]
      exact hem
     ·have:=hgrow.size
      have:=HB1.out.2.2
      simp at *
      omega
  ·gi_wp2
   refine⟨HB1.out.1,HB1.out.2.1,⟨⟨?_,?_⟩,HE1.out.2⟩,HM1.out,HB1.out.2.2⟩
   all_goals(rw[valsP_snoc,dartsA_snoc,HDX.out];simp only[Bool.not_true,Bool.false_eq_true,if_false,List.append_nil])
   ·exact HE1.out.1.1
   ·exact HE1.out.1.2
 case stop=>
  rintro Dd cc pre W hD hSp ⟨⟨rfl,hne⟩,⟨bx2,bx3⟩,hBw⟩ hK
  have c2:=bx2.cell
  have c3:=bx3.cell
  gi_wp2
  refine⟨by simp,.inl ⟨_,_,rfl,run_takeDeferred hK,?_⟩⟩
  have k2:=cell_kept bx2.cell (grownBy_putObj' _ Dd (.deferred none)) (fun r e=>by cases e;exact⟨_,hK,rfl⟩)
  have k3:=cell_kept bx3.cell (grownBy_putObj' _ Dd (.deferred none)) (fun r e=>by cases e;exact⟨_,hK,rfl⟩)
  refine⟨.tuple #[.map none,.bool false],?_,⟨_,false,rfl,⟨by simp,fun h=>?_⟩,by simp⟩,hBw.trans (belowK_b (w:=w) (Nat.le_refl _) W Dd _ _ (by omega) hK rfl rfl)⟩
  ·simp[results,Try.f52,go_sem,k2,k3]
  ·exact absurd (h.1.ofPrefix (darts_prefix hSp)) hne
 case done=>
  rintro Dd ys W hD hSy ⟨hE,hM,hL⟩ hK
  have hSy:valsP ys=plsA fs:=hSy
  unfold EI at hE
  rw[hSy] at hE
  obtain⟨⟨hup,hem⟩,⟨bx2,bx3,bx4⟩,hBw⟩:=hE
  have c4:=bx4.cell
  have HEM:=Lib.hid hem
  gi_wp2_with (gi_at_range;refine wpListIn_range_em _ rfl _ rfl (w.heap.size+1+1+1) (dartsA fs (plsA fs)) rfl HEM.out ?_;intro w1 hER hg1 hs1)
  go_frame
  have hDs:Dd<W.heap.size:=(Array.getElem?_eq_some_iff.1 hK).1
  have hEL:EL w (w.heap.size+1) (w.heap.size+1+1) (w.heap.size+1+1+1+1) (w.heap.size+1+1+1) Dd W:=⟨⟨bx2,bx3,bx4⟩,hBw,hK⟩
  have HEL:=Lib.hid (hEL.kept hg1 (fun k e=>by cases e))
  have HUP:=Lib.hid hup
  obtain⟨r,hr⟩:∃r,r=W.heap.size:=⟨_,rfl⟩
  rw[←hr] at hER ⊢
  have HER:=Lib.hid hER
  have hrw:w.heap.size+1+1+1+1<r:=by rw[hr];exact bx4.lt
  have hrd:Dd<r:=by omega
  clear hEL bx2 bx3 bx4 hBw hK hem HEM hup hER hM hr c4 hg1 hs1
  generalize hds:dartsA fs (plsA fs)=ds at HER HUP ⊢
  gi_loopw [54] (fun _ wr=>∃todo cnt,Hid (ER wr (w.heap.size+1+1+1) r ds todo cnt)∧Hid (∀x∈ds,todo x.v x.a=false→hasE ds x.a x.v=true)∧Hid (EL w (w.heap.size+1) (w.heap.size+1+1) (w.heap.size+1+1+1+1) (w.heap.size+1+1+1) Dd wr)) (fun _ wr=>wr.rangeLeft (w.heap.size+1+1+1) r)
  case atStart=>exact⟨_,_,HER,fun x hx h=>by rw[hasE_of hx] at h;simp at h,HEL⟩
  case round=>
   clear HER HEL
   rename World=>wr
   obtain⟨todo,cnt,HER,HT,HEL⟩:=hrel
   have c4:=HEL.out.1.2.2.cell
   gi_wp2_with (gi_at_next;refine wpListIn_next_em _ rfl _ rfl (w.heap.size+1+1+1) r ds todo cnt rfl HER.out ?_ ?_)
   ·intro hall
    have k2:=HEL.out.1.1.cell
    have k3:=HEL.out.1.2.1.cell
    have k2f:=HEL.out.1.1.frozen
    have k3f:=HEL.out.1.2.1.frozen
    gi_wp2
    obtain⟨Ws,hWs⟩:∃Ws,Ws=(wr.setCell ⟨w.heap.size+1,0,none⟩ (.map (some (w.heap.size+1+1+1)))).setCell ⟨w.heap.size+1+1,0,none⟩ (.bool true):=⟨_,rfl⟩
    have hb2:Boxed Ws (w.heap.size+1) 88 (.map (some (w.heap.size+1+1+1))):=by rw[hWs];exact(HEL.out.1.1.set _).other (by omega) _
    have hb3:Boxed Ws (w.heap.size+1+1) 4 (.bool true):=by rw[hWs];exact(HEL.out.1.2.1.other (by omega) _).set _
    have hK2:Ws.heap[Dd]?=some (.deferred (some [])):=by rw[hWs];rw[Below.heap_setCell _ _ _ _ (by show Dd≠w.heap.size+1+1;omega),Below.heap_setCell _ _ _ _ (by show Dd≠w.heap.size+1;omega)];exact HEL.out.2.2
    have hBs:Below w.heap.size w Ws:=by rw[hWs];exact(HEL.out.2.1.setCell (p:=⟨_,0,none⟩) (by show w.heap.size≤w.heap.size+1;omega) _).setCell (p:=⟨_,0,none⟩) (by show w.heap.size≤w.heap.size+1+1;omega) _
    have hEs:EM Ws (w.heap.size+1+1+1) ds:=by rw[hWs];exact(HER.out.em.kept (grownBy_setCell' _ _ _) (by simp;omega)).kept (grownBy_setCell' _ _ _) (by simp)
    rw[←hWs]
    refine⟨by simp,.inl ⟨_,_,rfl,run_takeDeferred hK2,?_⟩⟩
    have k2:=cell_kept hb2.cell (grownBy_putObj' _ Dd (.deferred none)) (fun r e=>by cases e;exact⟨_,hK2,rfl⟩)
    have k3:=cell_kept hb3.cell (grownBy_putObj' _ Dd (.deferred none)) (fun r e=>by cases e;exact⟨_,hK2,rfl⟩)
    refine⟨.tuple #[.map (some (w.heap.size+1+1+1)),.bool true],?_,⟨_,true,rfl,⟨fun _=>?_,fun _=>rfl⟩,fun _=>⟨_,rfl,by omega,by rw[hds];exact hEs.kept (grownBy_putObj' _ Dd (.deferred none)) (by simp;omega)⟩⟩,hBs.trans (belowK_b (w:=w) (Nat.le_refl _) _ Dd _ _ (by omega) hK2 rfl rfl)⟩
    ·simp[results,Try.f52,go_sem,k2,k3]
    ·unfold EdOk
     rw[hds]
     exact⟨HUP.out,fun x hx=>by
      have hIx:=HI.out x (by
                   have:x∈dartsA fs (plsA fs):=by rw[hds];exact hx
                   exact(List.mem_filter.1 this).1)
      exact HT.out x hx (hall _ _ hIx.1 hIx.2)⟩
   ·intro x hx w2 cnt2 ht hER2 hlt hg2 hs2 hen
    have HER2:=Lib.hid hER2
    have HEL2:=Lib.hid (HEL.out.kept hg2 (fun k e=>by cases e;omega))
    have hIx:=HI.out x (by
                 have:x∈dartsA fs (plsA fs):=by rw[hds];exact hx
                 exact(List.mem_filter.1 this).1)
    have c4:=HEL2.out.1.2.2.cell
    have k2:=HEL2.out.1.1.cell
    have k3:=HEL2.out.1.2.1.cell
    have k2f:=HEL2.out.1.1.frozen
    have k3f:=HEL2.out.1.2.1.frozen
    have z4:=HEL2.out.1.2.2.lt
    have z1:w.heap.size<w2.heap.size:=by omega
    have z2:w.heap.size+1<w2.heap.size:=by omega
    have z3:w.heap.size+1+1<w2.heap.size:=by omega
    have zm:w.heap.size+1+1+1<w2.heap.size:=by omega
    have HS2:=Lib.hid hs2
    have HER0:=HER
    clear hER2 HER HEL hs2
    by_cases hop:hasE ds x.a x.v=true
    ·gi_wp2_with (gi_at_lookup;refine wpListIn_look_em _ rfl _ _ rfl (w.heap.size+1+1+1) ds rfl (by(repeat (first | exact HER2.out.em | refine EM.alloc ?_ _))) x.a x.v rfl hIx.2 hIx.1 ?_;intro f0 l0 i0)
     have hER3:=(HER2.out.kept (World.grownBy_alloc w2 (.cells #[.int .i64 x.v,.int .i64 x.a] 95) none) (by simp) (by simp)).kept (World.grownBy_alloc _ (.cells #[.int .i64 f0,.int .i64 l0,.int .i64 i0] 45) none) (by simp) (by simp)
     have hEL3:=(HEL2.out.kept (World.grownBy_alloc w2 (.cells #[.int .i64 x.v,.int .i64 x.a] 95) none) (fun k e=>by cases e)).kept (World.grownBy_alloc _ (.cells #[.int .i64 f0,.int .i64 l0,.int .i64 i0] 45) none) (fun k e=>by cases e)
     go_roundw
     case rel=>
      refine⟨_,_,hER3,fun y hy hty=>?_,hEL3⟩
      by_cases hq:todo y.v y.a=false
      ·exact HT.out y hy hq
      ·have hq:todo y.v y.a=true:=by simpa using hq
       have hty:(todo y.v y.a && (!y.v == x.v || !y.a == x.a))=false:=hty
       rw[hq] at hty
       simp at hty
       have e1:y.v=x.v:=hty.1
       have e2:y.a=x.a:=hty.2
       rw[e1,e2];exact hop
     case measure=>rw[hER3.left_eq,HER0.out.left_eq];exact hlt
    ·have hop:hasE ds x.a x.v=false:=by simpa using hop
     gi_wp2_with (gi_at_lookup;refine wpListIn_look_em _ rfl _ _ rfl (w.heap.size+1+1+1) ds rfl (by(repeat (first | exact HER2.out.em | refine EM.alloc ?_ _))) x.a x.v rfl hIx.2 hIx.1 ?_;intro f0 l0 i0)
     obtain⟨Ws,hWs⟩:∃Ws,Ws=(((w2.setCell ⟨w.heap.size+1,0,none⟩ (.map none)).setCell ⟨w.heap.size+1+1,0,none⟩ (.bool false)).alloc (.cells #[.int .i64 x.v,.int .i64 x.a] 95)).alloc (.cells #[.int .i64 f0,.int .i64 l0,.int .i64 i0] 45):=⟨_,rfl⟩
     have hb2:Boxed Ws (w.heap.size+1) 88 (.map none):=by rw[hWs];exact(((HEL2.out.1.1.set _).other (by omega) _).alloc _).alloc _
     have hb3:Boxed Ws (w.heap.size+1+1) 4 (.bool false):=by rw[hWs];exact(((HEL2.out.1.2.1.other (by omega) _).set _).alloc _).alloc _
     have hK2:Ws.heap[Dd]?=some (.deferred (some [])):=by rw[hWs];rw[Below.heap_alloc _ _ _ (by have:=(Array.getElem?_eq_some_iff.1 HEL2.out.2.2).1;simp;omega),Below.heap_alloc _ _ _ (by have:=(Array.getElem?_eq_some_iff.1 HEL2.out.2.2).1;simp;omega),Below.heap_setCell _ _ _ _ (by show Dd≠w.heap.size+1+1;omega),Below.heap_setCell _ _ _ _ (by show Dd≠w.heap.size+1;omega)];exact HEL2.out.2.2
     have hBs:Below w.heap.size w Ws:=by rw[hWs];exact(((HEL2.out.2.1.setCell (p:=⟨_,0,none⟩) (by show w.heap.size≤w.heap.size+1;omega) _).setCell (p:=⟨_,0,none⟩) (by show w.heap.size≤w.heap.size+1+1;omega) _).alloc (by simp;omega) _).alloc (by simp;omega) _
     rw[←hWs]
     refine⟨by simp,.inl ⟨_,_,rfl,run_takeDeferred hK2,?_⟩⟩
     have k2:=cell_kept hb2.cell (grownBy_putObj' _ Dd (.deferred none)) (fun r e=>by cases e;exact⟨_,hK2,rfl⟩)
     have k3:=cell_kept hb3.cell (grownBy_putObj' _ Dd (.deferred none)) (fun r e=>by cases e;exact⟨_,hK2,rfl⟩)
     refine⟨.tuple #[.map none,.bool false],?_,⟨_,false,rfl,⟨by simp,fun h=>?_⟩,by simp⟩,hBs.trans (belowK_b (w:=w) (Nat.le_refl _) _ Dd _ _ (by omega) hK2 rfl rfl)⟩
     ·simp[results,Try.f52,go_sem,k2,k3]
     ·unfold EdOk at h
      rw[hds] at h
      have:=h.2 x hx
      rw[hop] at this;simp at this
end Go.Proofs.Ytealnhaffphamaa

namespace Go.Proofs.Ytealnhaffphamaa
open Go.RowKit Go.Proofs.YtealnhaffphamaaW.PrintWords
def flatP (ps:List PV):List Value:=ps.flatMap fun x=>[.int .i64 x.f,.int .i64 x.l,.int .i64 x.i]
theorem flatP_snoc (ps:List PV) (x:PV):flatP (ps ++ [x])=flatP ps ++ [.int .i64 x.f,.int .i64 x.l,.int .i64 x.i]:=by simp[flatP]
structure AtW (ga base N:Nat) (rows:Nat→List PV) (vs:Nat→Value) (but:Nat) (W:World):Prop where
 blk:W.rowIs ga 103 N vs
 own:∀i,i<N→i≠but→W.ownsRow base 45 3 (vs i) (rows i).length (flatP (rows i))
 dis:∀i,i<N→∀j,j<N→i≠j→(vs i).ownBlock=none∨(vs i).ownBlock≠(vs j).ownBlock
 low:ga<base
 old:∀i,i<N→∀k,(vs i).ownBlock=some k→base≤k∧k<W.heap.size
 bas:base≤W.heap.size
section
variable {ga base N:Nat} {rows:Nat→List PV} {vs:Nat→Value} {but:Nat} {W W':World}
theorem AtW.made (W:World) (N:Nat):AtW W.heap.size (W.heap.size+1) N (fun _=>[]) (fun _=>.slice none 0 0) N (W.alloc (.cells (madeCells #[.slice none 0 0] N) 103)):=
 ⟨World.rowIs_made W _ N _,fun i hi _=>World.ownsRow_nil _ _ _ _,fun i hi j hj h=>.inl rfl,by omega,fun i hi k hk=>by simp[Value.ownBlock] at hk,by simp⟩
theorem AtW.kept (h:AtW ga base N rows vs but W) {row:Option Nat} (hg:W.grownBy W' row) (hr:∀k,row=some k→k≠ga∧∀i,i<N→i≠but→(vs i).ownBlock≠some k):AtW ga base N rows vs but W':=
 ⟨h.blk.of_block (hg.block ga h.blk.lt (fun e=>(hr _ e.symm).1 rfl)),fun i hi hb=>(h.own i hi hb).kept hg (by
  cases ho:(vs i).ownBlock with
  | none=>exact .inl rfl
  | some k=>exact .inr (fun e=>(hr k e.symm).2 i hi hb ho)),h.dis,h.low,fun i hi k hk=>⟨(h.old i hi k hk).1,Nat.lt_of_lt_of_le (h.old i hi k hk).2 hg.size⟩,Nat.le_trans h.bas hg.size⟩
theorem AtW.grown (h:AtW ga base N rows vs but W) (hg:W.grownBy W' none):AtW ga base N rows vs but W':=h.kept hg (fun k e=>by cases e)
theorem AtW.appended {v:Nat} (h:AtW ga base N rows vs N W) (hv:v<N) (hg:W.grownBy W' (vs v).ownBlock):AtW ga base N rows vs v W':=
 (show AtW ga base N rows vs v W from⟨h.blk,fun i hi _=>h.own i hi (by omega),h.dis,h.low,h.old,h.bas⟩).kept hg (fun k e=>⟨by have:=(h.old v hv k e).1;have:=h.low;omega,fun i hi hiv e2=>by
  rcases h.dis i hi v hv hiv with q | q
  ·rw[q] at e2;cases e2
  ·exact q (e2.trans e.symm)⟩)
theorem AtW.stored {v:Nat} {u:Value} {rows':Nat→List PV} (h:AtW ga base N rows vs v W) (hv:v<N) (ho:W.ownsRow base 45 3 u (rows' v).length (flatP (rows' v))) (hr:∀i,i<N→i≠v→rows' i=rows i)
  (hd:∀i,i<N→i≠v→(vs i).ownBlock=none∨(vs i).ownBlock≠u.ownBlock):AtW ga base N rows' (fun i=>if i=v then u else vs i) N (W.setCell ⟨ga,v,none⟩ u):=by
 have hg:W.grownBy (W.setCell ⟨ga,v,none⟩ u) (some ga):=⟨rfl,rfl,rfl,(KeepsWalks.setCell W _ u).size,fun k _ hk=>Below.heap_setCell _ _ _ k (fun e=>hk (by rw[e]))⟩
 have hlt:=fun k hk=>World.ownsRow.lt ho k hk
 refine⟨h.blk.set v u,fun i hi _=>?_,fun i hi j hj hij=>?_,h.low,fun i hi k hk=>?_,by simpa using h.bas⟩
 ·by_cases e:i=v
  ·subst e
   simp only[if_true]
   exact ho.kept hg (by cases hb:u.ownBlock with
    | none=>exact .inl rfl
    | some k=>exact .inr (fun e=>by cases e;have:=(hlt _ hb).1;have:=h.low;omega))
  ·simp only[if_neg e]
   rw[hr i hi e]
   exact(h.own i hi e).kept hg (by cases hb:(vs i).ownBlock with
    | none=>exact .inl rfl
    | some k=>exact .inr (fun e'=>by cases e';have:=(h.old i hi _ hb).1;have:=h.low;omega))
 ·by_cases e:i=v
  ·subst e
   rw[if_pos rfl,if_neg (fun e=>hij e.symm)]
   rcases hd j hj (fun e=>hij e.symm) with q | q
   ·cases hb:u.ownBlock with
    | none=>exact .inl rfl
    | some k=>exact .inr (by rw[q];simp)
   ·cases hb:u.ownBlock with
    | none=>exact .inl rfl
    | some k=>exact .inr (by rw[hb] at q;exact fun e=>q e.symm)
  ·rw[if_neg e]
   by_cases e2:j=v
   ·subst e2;rw[if_pos rfl];exact hd i hi e
   ·rw[if_neg e2];exact h.dis i hi j hj hij
 ·by_cases e:i=v
  ·rw[if_pos e] at hk;have:=hlt k hk;simpa using this
  ·rw[if_neg e] at hk;simpa using h.old i hi k hk
end
def rowsA (pre:List PV) (i:Nat):List PV:=pre.filter fun x=>x.v == (i:Int)
theorem rowsA_snoc (pre:List PV) (x:PV) (i:Nat):rowsA (pre ++ [x]) i=rowsA pre i ++ if x.v=(i:Int) then[x] else[]:=by
 unfold rowsA;rw[List.filter_append];simp[List.filter_cons]
theorem AtW.cell {ga base N:Nat} {rows:Nat→List PV} {vs:Nat→Value} {but:Nat} {W:World} (h:AtW ga base N rows vs but W) {i:Nat} (hi:i<N):W.cell? ⟨ga,i,none⟩=some (vs i)∧W.frozen? ⟨ga,i,none⟩=false:=⟨h.blk.cell hi,h.blk.frozen i⟩
theorem blk_news {W:World} {b:Nat} {x y z:Value} {t:TypeId} (h:Blk W b (.cells #[x,y,z] t)):∀j u,[x,y,z][j]?=some u→W.cell? ((⟨b,0,none⟩:Addr).add j)=some u:=by
 intro j u hj
 rw[add_plain]
 exact(blk_cells h).1 j u (by simpa using hj)
theorem stepIn_append {F:Fence} {nF:Nat} {P:Program} {ops:Array Oper} {o:Oper} {a:Act} {w:World} {K:Act→World→Prop} {Q:Exit→Act→World→Prop} {E:Prop} (hgd:o.guard=none) (s x:Operand) (t:TypeId)
  (ho:o.op=.call { callee:=.builtin .append,args:=#[s,x],argTypes:=#[t,t] })
  (base:Nat) (e:TypeId) (i:TypeInfo) (z:Value) (size bytes:Nat) (ht:P.underlying t=some (.slice e)) (hi:P.info? e=some i) (hz:i.zero=some z)
  (hsize:i.size=size) (hby:i.bytes=bytes) (hzs:z.cells.size=size) (hsz:0<size)
  (v:Value) (n:Nat) (xs:List Value) (hs:a.eval s=v) (hown:w.ownsRow base e size v n xs)
  (ad:Addr) (m c:Nat) (news:List Value) (hx:a.eval x=.slice (some ad) m c) (hl:news.length=m * size) (hnews:∀j u,news[j]?=some u→w.cell? (ad.add j)=some u) (h1:∀u∈news,u.oneCell'=true)
  (hm:0<m) (h63:n+m≤maxLen) (hbytes:(n+m) * bytes≤140737488355328) (hbase:base≤w.heap.size)
  (h:∀g cap w',w'.ownsRow base e size (.slice (some ⟨g,0,none⟩) (n+m) cap) (n+m) (xs ++ news)→w.grownBy w' v.ownBlock→(v.ownBlock=some g∨g=w.heap.size)→g<w'.heap.size→K (a.put o.dst (.slice (some ⟨g,0,none⟩) (n+m) cap)) w') :
  if Region.wanted o (yielded ops a.tmps)=true then Oper.wpIn F nF P o a w K Q else E:=by
 have hw:Region.wanted o (yielded ops a.tmps)=true:=by simp[Region.wanted,hgd]
 rw[if_pos hw]
 obtain⟨g,cap,w',hr,h2,h3,h4,h5⟩:=run_append_lies (P:=P) w t o.type base e i z size bytes ht hi hz hsize hby hzs hsz v n xs hown ad m c news hl hnews h1 hm h63 hbytes hbase _ rfl
 unfold Oper.wpIn
 refine⟨by simp[Oper.about,ho,resolve,Target.leads,Sem.run_pure],?_⟩
 rw[Oper.semAt_plain F _ _ (by rw[ho];intro c hc';cases hc')]
 simp[execOp,ho,resolve,invoke,builtin,hs,hx,hr,Result.andThen]
 exact h g cap w' h2 h3 h4 h5
end Go.Proofs.Ytealnhaffphamaa

namespace Go.Proofs.Ytealnhaffphamaa
def oppP (ds:List PV) (x:PV):PV:=(ds.find? fun y=>y.v == x.a && y.a == x.v).getD x
def stepP (fs:Fs) (ds:List PV) (p:Nat × Nat × Nat):Nat × Nat × Nat:=((oppP ds (pvA fs p.1 p.2.1 p.2.2)).f,(oppP ds (pvA fs p.1 p.2.1 p.2.2)).l,((oppP ds (pvA fs p.1 p.2.1 p.2.2)).i+1) % (lpA fs (oppP ds (pvA fs p.1 p.2.1 p.2.2)).f (oppP ds (pvA fs p.1 p.2.1 p.2.2)).l).length)
def iterP (fs:Fs) (ds:List PV) (p:Nat × Nat × Nat):Nat→Nat × Nat × Nat
 | 0=>p
 | k+1=>stepP fs ds (iterP fs ds p k)
def NodeOk (fs:Fs) (ds:List PV) (l:List PV):Prop:=∃x rest,l=x :: rest∧((lpA fs x.f x.l).length=1→rest=[]) ∧
 ((lpA fs x.f x.l).length≠1→iterP fs ds (pl3 x) l.length=pl3 x∧∀j,0<j→j<l.length→iterP fs ds (pl3 x) j≠pl3 x)
def RightP (N:Int) (fs:Fs):Prop:=Whole N fs∧(∀x∈plsA fs,0≤x.v∧x.v<N)∧EdOk fs∧∀i:Nat,(i:Int)<N→NodeOk fs (dartsA fs (plsA fs)) (rowsA (plsA fs) i)
theorem oppP_spec {fs:Fs} (h:EdOk fs) {x:PV} (hx:x∈dartsA fs (plsA fs)):oppP (dartsA fs (plsA fs)) x∈dartsA fs (plsA fs)∧(oppP (dartsA fs (plsA fs)) x).v=x.a∧(oppP (dartsA fs (plsA fs)) x).a=x.v:=by
 obtain⟨y,hy,e1,e2⟩:=hasE_mem (h.2 x hx)
 unfold oppP
 cases hf:(dartsA fs (plsA fs)).find? (fun y=>y.v == x.a && y.a == x.v) with
 | none=>
  have:=List.find?_eq_none.1 hf y hy
  simp[e1,e2] at this
 | some z=>
  have h1:=List.mem_of_find?_eq_some hf
  have h2:=List.find?_some hf
  simp only[Bool.and_eq_true,beq_iff_eq] at h2
  exact⟨h1,h2.1,h2.2⟩
theorem dart_of {fs:Fs} {p:Nat × Nat × Nat} (h:IsP fs p) (h1:(lpA fs p.1 p.2.1).length≠1):pvA fs p.1 p.2.1 p.2.2∈dartsA fs (plsA fs):=by
 unfold dartsA
 rw[List.mem_filter]
 exact⟨h.mem,by show((lpA fs p.1 p.2.1).length != 1)=true;simpa using h1⟩
theorem stepP_is {fs:Fs} (h:EdOk fs) {p:Nat × Nat × Nat} (hp:IsP fs p) (h1:(lpA fs p.1 p.2.1).length≠1):IsP fs (stepP fs (dartsA fs (plsA fs)) p)∧(lpA fs (stepP fs (dartsA fs (plsA fs)) p).1 (stepP fs (dartsA fs (plsA fs)) p).2.1).length≠1:=by
 obtain⟨h2,_,_⟩:=oppP_spec h (dart_of hp h1)
 unfold stepP
 generalize oppP (dartsA fs (plsA fs)) (pvA fs p.1 p.2.1 p.2.2)=y at h2
 have h3:=List.mem_filter.1 h2
 obtain⟨h4,_⟩:=isP_of h3.1
 have h5:(lpA fs y.f y.l).length≠1:=by simpa [dartB] using h3.2
 have h6:y.i<(lpA fs y.f y.l).length:=h4.2.2
 exact⟨⟨h4.1,h4.2.1,Nat.mod_lt _ (by omega)⟩,h5⟩
end Go.Proofs.Ytealnhaffphamaa
