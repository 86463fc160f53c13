/- Contracts of the functions that the statement reaches, and plain lemmas: part 6 of 31. -/
import Derived.Test.YtealnhaffphamaaS05
import Derived.Sort.OwnSorted
import Derived.Test.YtealnhaffphamaaS01
set_option linter.unusedVariables false
set_option linter.unusedSimpArgs false

namespace Go.Proofs.Ytealnhaffphamaa
theorem range_map_getD {α:Type} (xs:List α) (d:α):(List.range xs.length).map (fun i=>xs.getD i d)=xs:=by
 refine List.ext_getElem (by simp) (fun j h1 h2=>?_)
 simp[List.getD_eq_getElem?_getD,List.getElem?_eq_getElem h2]
theorem rowA_v (fs:Fs) (f l:Nat):(rowA fs f l (lpA fs f l).length).map (·.v)=lpA fs f l:=by
 unfold rowA
 rw[List.map_map]
 exact range_map_getD (lpA fs f l) 0
theorem flatMap_range {α β:Type} (xs:List α) (d:α) (g:α→List β):(List.range xs.length).flatMap (fun i=>g (xs.getD i d))=xs.flatMap g:=by
 conv=>rhs;rw[←range_map_getD xs d]
 rw[List.flatMap_map]
theorem pls_v (fs:Fs):(plsA fs).map (·.v)=fs.flatten.flatten:=by
 unfold plsA upA faceA
 rw[List.map_flatMap]
 have h:∀f,List.map (fun x=>x.v) ((List.range (fcA fs f).length).flatMap fun l=>rowA fs f l (lpA fs f l).length)=(fcA fs f).flatten:=by
  intro f
  rw[List.map_flatMap]
  simp only[rowA_v]
  unfold lpA lA
  exact(flatMap_range (fcA fs f) [] id).trans (by simp)
 simp only[h]
 unfold fcA
 rw[flatMap_range fs [] List.flatten]
 simp[List.flatten_flatten,List.flatMap_def]
theorem pls_len (fs:Fs):(plsA fs).length=fs.flatten.flatten.length:=by rw[←pls_v,List.length_map]
theorem fcA_mem {fs:Fs} {f:Nat} (h:f<fs.length):fcA fs f∈fs:=by
 unfold fcA
 rw[List.getD_eq_getElem?_getD,List.getElem?_eq_getElem h]
 exact List.getElem_mem h
theorem lA_mem {ls:List (List Int)} {l:Nat} (h:l<ls.length):lA ls l∈ls:=by
 unfold lA
 rw[List.getD_eq_getElem?_getD,List.getElem?_eq_getElem h]
 exact List.getElem_mem h
theorem len_flatten_of_mem {α:Type} {x:List α} {xs:List (List α)} (h:x∈xs):x.length≤xs.flatten.length:=by
 induction xs with
 | nil=>simp at h
 | cons y ys ih=>
  rw[List.flatten_cons,List.length_append]
  rcases List.mem_cons.1 h with rfl | h
  ·omega
  ·have:=ih h;omega
structure Fine (k:Nat) (fs:Fs):Prop where
 faces:fs.length≤k
 loops:fs.flatten.length≤k
 nodes:fs.flatten.flatten.length≤k
 nums:∀v∈fs.flatten.flatten,-1000000≤v∧v≤1000000
theorem Fine.mono {k m:Nat} {fs:Fs} (h:Fine k fs) (hk:k≤m):Fine m fs:=⟨Nat.le_trans h.faces hk,Nat.le_trans h.loops hk,Nat.le_trans h.nodes hk,h.nums⟩
theorem fcA_len_le (fs:Fs) (f:Nat):(fcA fs f).length≤fs.flatten.length:=by
 by_cases h:f<fs.length
 ·exact len_flatten_of_mem (fcA_mem h)
 ·unfold fcA
  rw[List.getD_eq_getElem?_getD,List.getElem?_eq_none (by omega)];simp
theorem lpA_mem {fs:Fs} {f l:Nat} (hf:f<fs.length) (hl:l<(fcA fs f).length):lpA fs f l∈fs.flatten:=by
 rw[List.mem_flatten]
 exact⟨_,fcA_mem hf,lA_mem hl⟩
theorem lpA_none {fs:Fs} {f l:Nat} (h:¬ (f<fs.length∧l<(fcA fs f).length)):lpA fs f l=[]:=by
 unfold lpA lA
 by_cases hf:f<fs.length
 ·rw[List.getD_eq_getElem?_getD,List.getElem?_eq_none (by have:=fun h2=>h ⟨hf,h2⟩;omega)];rfl
 ·have:fcA fs f=[]:=by unfold fcA;rw[List.getD_eq_getElem?_getD,List.getElem?_eq_none (by omega)];rfl
  rw[this];rfl
theorem lpA_len_le (fs:Fs) (f l:Nat):(lpA fs f l).length≤fs.flatten.flatten.length:=by
 by_cases h:f<fs.length∧l<(fcA fs f).length
 ·exact len_flatten_of_mem (lpA_mem h.1 h.2)
 ·rw[lpA_none h];simp
theorem Fine.sm {k:Nat} {fs:Fs} (h:Fine k fs) (hk:k≤1000000):Sm fs:=
 ⟨Nat.le_trans h.faces hk,fun f=>Nat.le_trans (fcA_len_le fs f) (Nat.le_trans h.loops hk),fun f l=>Nat.le_trans (lpA_len_le fs f l) (Nat.le_trans h.nodes hk)⟩
theorem lpA_num {k:Nat} {fs:Fs} (h:Fine k fs) (f l i:Nat):-1000000≤(lpA fs f l).getD i 0∧(lpA fs f l).getD i 0≤1000000:=by
 by_cases hi:i<(lpA fs f l).length
 ·have hx:(lpA fs f l).getD i 0∈lpA fs f l:=by
   rw[List.getD_eq_getElem?_getD,List.getElem?_eq_getElem hi];exact List.getElem_mem hi
  by_cases hc:f<fs.length∧l<(fcA fs f).length
  ·exact h.nums _ (List.mem_flatten.2 ⟨_,lpA_mem hc.1 hc.2,hx⟩)
  ·rw[lpA_none hc] at hi;simp at hi
 ·rw[List.getD_eq_getElem?_getD,List.getElem?_eq_none (by omega)];simp
theorem Fine.ni {k:Nat} {fs:Fs} (h:Fine k fs):NI fs:=by
 intro x hx
 obtain⟨f,l,i,_,_,_,rfl⟩:=mem_pls.1 hx
 have h1:=lpA_num h f l i
 have h2:=lpA_num h f l ((i+1) % (lpA fs f l).length)
 refine⟨?_,?_⟩
 ·show -9223372036854775808≤(lpA fs f l).getD i 0∧(lpA fs f l).getD i 0≤9223372036854775807
  omega
 ·show -9223372036854775808≤(lpA fs f l).getD ((i+1) % (lpA fs f l).length) 0∧(lpA fs f l).getD ((i+1) % (lpA fs f l).length) 0≤9223372036854775807
  omega
theorem Fine.cap {k:Nat} {fs:Fs} (h:Fine k fs) (hk:k≤100000):(plsA fs).length≤100000:=by rw[pls_len];exact Nat.le_trans h.nodes hk
theorem nlA_eq (fs:Fs):nlA fs fs.length=fs.flatten.length:=by
 have h:∀k,k≤fs.length→nlA fs k=(fs.take k).flatten.length:=by
  intro k
  induction k with
  | zero=>intro _;simp[nlA]
  | succ k ih=>
   intro hk
   have e:fs.take (k+1)=fs.take k ++ [fcA fs k]:=by
    rw[List.take_succ_eq_append_getElem (by omega)]
    unfold fcA
    rw[List.getD_eq_getElem?_getD,List.getElem?_eq_getElem (by omega)];rfl
   rw[e,List.flatten_append,List.length_append,nlA,ih (by omega)]
   simp
 have:=h fs.length (Nat.le_refl _)
 rwa [List.take_length] at this
theorem npL_eq (fs:Fs) (f:Nat):npL fs f (fcA fs f).length=(fcA fs f).flatten.length:=by
 have h:∀k,k≤(fcA fs f).length→npL fs f k=((fcA fs f).take k).flatten.length:=by
  intro k
  induction k with
  | zero=>intro _;simp[npL]
  | succ k ih=>
   intro hk
   have e:(fcA fs f).take (k+1)=(fcA fs f).take k ++ [lpA fs f k]:=by
    rw[List.take_succ_eq_append_getElem (by omega)]
    unfold lpA lA
    rw[List.getD_eq_getElem?_getD,List.getElem?_eq_getElem (by omega)];rfl
   rw[e,List.flatten_append,List.length_append,npL,ih (by omega)]
   simp
 have:=h _ (Nat.le_refl _)
 rwa [List.take_length] at this
theorem npA_eq (fs:Fs):npA fs fs.length=fs.flatten.flatten.length:=by
 have h:∀k,k≤fs.length→npA fs k=(fs.take k).flatten.flatten.length:=by
  intro k
  induction k with
  | zero=>intro _;simp[npA]
  | succ k ih=>
   intro hk
   have e:fs.take (k+1)=fs.take k ++ [fcA fs k]:=by
    rw[List.take_succ_eq_append_getElem (by omega)]
    unfold fcA
    rw[List.getD_eq_getElem?_getD,List.getElem?_eq_getElem (by omega)];rfl
   rw[e,List.flatten_append,List.flatten_append,List.length_append,npA,ih (by omega),npL_eq]
   simp
 have:=h fs.length (Nat.le_refl _)
 rwa [List.take_length] at this
theorem whole_iff (N:Int) (fs:Fs):Whole N fs↔1≤N∧N≤200∧1≤fs.length∧fs.length≤400∧fs.flatten.length≤400∧fs.flatten.flatten.length≤2000∧(∀face∈fs,face≠[])∧∀l∈fs.flatten,l≠[]:=by
 unfold Whole
 rw[nlA_eq,npA_eq]
 constructor
 ·rintro⟨h1,h2,h3,h4,h5,h6,h7⟩
  refine⟨h1,h2,h3,h4,h5,h6,fun face hf=>?_,fun l hl=>?_⟩
  ·obtain⟨i,hi,rfl⟩:=List.getElem_of_mem hf
   have h8:=(h7 i hi).1
   unfold fcA at h8
   rw[List.getD_eq_getElem?_getD,List.getElem?_eq_getElem hi] at h8
   intro e
   simp[e] at h8
  ·obtain⟨face,hf,hl⟩:=List.mem_flatten.1 hl
   obtain⟨i,hi,rfl⟩:=List.getElem_of_mem hf
   obtain⟨j,hj,rfl⟩:=List.getElem_of_mem hl
   have e1:fcA fs i=fs[i]:=by unfold fcA;rw[List.getD_eq_getElem?_getD,List.getElem?_eq_getElem hi];rfl
   have h8:=(h7 i hi).2 j (by rw[e1];exact hj)
   have e2:lpA fs i j=fs[i][j]:=by unfold lpA lA;rw[e1,List.getD_eq_getElem?_getD,List.getElem?_eq_getElem hj];rfl
   rw[e2] at h8
   intro e
   simp[e] at h8
 ·rintro⟨h1,h2,h3,h4,h5,h6,h7,h8⟩
  refine⟨h1,h2,h3,h4,h5,h6,fun f hf=>⟨?_,fun l hl=>?_⟩⟩
  ·have:=h7 _ (fcA_mem hf)
   exact List.length_pos_iff.2 this
  ·exact List.length_pos_iff.2 (h8 _ (lpA_mem hf hl))
theorem RightP.fine {N:Int} {fs:Fs} (h:RightP N fs):Fine 2000 fs:=by
 obtain⟨h1,h2,h3,h4,h5,h6,-⟩:=(whole_iff N fs).1 h.1
 refine⟨by omega,by omega,h6,fun v hv=>?_⟩
 rw[←pls_v] at hv
 obtain⟨x,hx,rfl⟩:=List.mem_map.1 hv
 have:=h.2.1 x hx
 omega
theorem flatten_set {α:Type} (xs:List (List α)) (i:Nat) (y:List α):(xs.set i y).flatten.length≤xs.flatten.length+y.length:=by
 induction xs generalizing i with
 | nil=>simp
 | cons x xs ih=>
  cases i with
  | zero=>rw[List.set_cons_zero,List.flatten_cons,List.flatten_cons,List.length_append,List.length_append];omega
  | succ i=>have:=ih i;rw[List.set_cons_succ,List.flatten_cons,List.flatten_cons,List.length_append,List.length_append];omega
theorem mem_flatten_set {α:Type} {xs:List (List α)} {i:Nat} {y:List α} {a:α} (h:a∈(xs.set i y).flatten):a∈xs.flatten∨a∈y:=by
 obtain⟨l,hl,ha⟩:=List.mem_flatten.1 h
 rcases List.mem_or_eq_of_mem_set hl with hl | rfl
 ·exact .inl (List.mem_flatten.2 ⟨l,hl,ha⟩)
 ·exact .inr ha
theorem flatten2_mono {α:Type} {x:List (List α)} {xs:List (List (List α))} (h:x∈xs):x.flatten.length≤xs.flatten.flatten.length:=by
 induction xs with
 | nil=>simp at h
 | cons y ys ih=>
  rw[List.flatten_cons,List.flatten_append,List.length_append]
  rcases List.mem_cons.1 h with rfl | h
  ·omega
  ·have:=ih h;omega
theorem flatten2_set (xs:Fs) (i:Nat) (y:List (List Int)):(xs.set i y).flatten.flatten.length≤xs.flatten.flatten.length+y.flatten.length:=by
 induction xs generalizing i with
 | nil=>simp
 | cons x xs ih=>
  cases i with
  | zero=>rw[List.set_cons_zero,List.flatten_cons,List.flatten_cons,List.flatten_append,List.flatten_append,List.length_append,List.length_append];omega
  | succ i=>have:=ih i;rw[List.set_cons_succ,List.flatten_cons,List.flatten_cons,List.flatten_append,List.flatten_append,List.length_append,List.length_append];omega
theorem Fine.face {k:Nat} {fs:Fs} (h:Fine k fs) {f:Nat}:(fcA fs f).length≤k∧(fcA fs f).flatten.length≤k∧∀v∈(fcA fs f).flatten,-1000000≤v∧v≤1000000:=by
 by_cases hf:f<fs.length
 ·refine⟨Nat.le_trans (fcA_len_le fs f) h.loops,Nat.le_trans (flatten2_mono (fcA_mem hf)) h.nodes,fun v hv=>h.nums v ?_⟩
  obtain⟨l,hl,hv⟩:=List.mem_flatten.1 hv
  exact List.mem_flatten.2 ⟨l,List.mem_flatten.2 ⟨_,fcA_mem hf,hl⟩,hv⟩
 ·have e:fcA fs f=[]:=by unfold fcA;rw[List.getD_eq_getElem?_getD,List.getElem?_eq_none (by omega)];rfl
  rw[e];exact⟨by simp,by simp,by simp⟩
theorem Fine.setF {k m:Nat} {fs:Fs} (h:Fine k fs) (f:Nat) {y:List (List Int)} (h1:y.length≤m) (h2:y.flatten.length≤m) (h3:∀v∈y.flatten,-1000000≤v∧v≤1000000):Fine (k+m) (fs.set f y):=by
 refine⟨by rw[List.length_set];have:=h.faces;omega,?_,?_,fun v hv=>?_⟩
 ·have h4:=flatten_set fs f y;have:=h.loops;omega
 ·have h4:=flatten2_set fs f y;have:=h.nodes;omega
 ·obtain⟨l,hl,hv⟩:=List.mem_flatten.1 hv
  rcases mem_flatten_set hl with hl | hl
  ·exact h.nums v (List.mem_flatten.2 ⟨l,hl,hv⟩)
  ·exact h3 v (List.mem_flatten.2 ⟨l,hl,hv⟩)
theorem Fine.setL {k m:Nat} {fs:Fs} (h:Fine k fs) (f l:Nat) {x:List Int} (h1:x.length≤m) (h3:∀v∈x,-1000000≤v∧v≤1000000):Fine (k+(k+m)) (fs.set f ((fcA fs f).set l x)):=by
 obtain⟨a,b,c⟩:=h.face (f:=f)
 refine h.setF f (by rw[List.length_set];omega) (by have:=flatten_set (fcA fs f) l x;omega) (fun v hv=>?_)
 rcases mem_flatten_set hv with hv | hv
 ·exact c v hv
 ·exact h3 v hv
theorem Fine.app {k m:Nat} {fs gs:Fs} (h:Fine k fs) (h2:Fine m gs):Fine (k+m) (fs ++ gs):=by
 refine⟨?_,?_,?_,fun v hv=>?_⟩
 ·rw[List.length_append];have:=h.faces;have:=h2.faces;omega
 ·rw[List.flatten_append,List.length_append];have:=h.loops;have:=h2.loops;omega
 ·rw[List.flatten_append,List.flatten_append,List.length_append];have:=h.nodes;have:=h2.nodes;omega
 ·rw[List.flatten_append,List.flatten_append,List.mem_append] at hv
  exact hv.elim (h.nums v) (h2.nums v)
theorem sub_flatten {α:Type} {xs ys:List (List α)} (h:List.Sublist xs ys):List.Sublist xs.flatten ys.flatten:=by
 induction h with
 | slnil=>exact List.Sublist.refl _
 | cons a _ ih=>rw[List.flatten_cons];exact ih.trans (List.sublist_append_right _ _)
 | cons_cons a _ ih=>rw[List.flatten_cons,List.flatten_cons];exact(List.Sublist.refl _).append ih
theorem Fine.sub {k:Nat} {fs gs:Fs} (h:Fine k fs) (hs:List.Sublist gs fs):Fine k gs:=
 ⟨Nat.le_trans hs.length_le h.faces,Nat.le_trans (sub_flatten hs).length_le h.loops,Nat.le_trans (sub_flatten (sub_flatten hs)).length_le h.nodes,fun v hv=>h.nums v ((sub_flatten (sub_flatten hs)).subset hv)⟩
theorem Fine.one {m:Nat} {y:List (List Int)} (h0:1≤m) (h1:y.length≤m) (h2:y.flatten.length≤m) (h3:∀v∈y.flatten,-1000000≤v∧v≤1000000):Fine m [y]:=⟨by simpa using h0,by simpa using h1,by simpa using h2,by simpa using h3⟩
theorem Fine.loop {k:Nat} {fs:Fs} (h:Fine k fs) (f l:Nat):(lpA fs f l).length≤k∧∀v∈lpA fs f l,-1000000≤v∧v≤1000000:=by
 refine⟨Nat.le_trans (lpA_len_le fs f l) h.nodes,fun v hv=>?_⟩
 by_cases hc:f<fs.length∧l<(fcA fs f).length
 ·exact h.nums v (List.mem_flatten.2 ⟨_,lpA_mem hc.1 hc.2,hv⟩)
 ·rw[lpA_none hc] at hv;simp at hv
end Go.Proofs.Ytealnhaffphamaa

namespace Go.Proofs.Ytealnhaffphamaa
open Go.RowKit Go.Shelf Go.Proofs.YtealnhaffphamaaW.PrintWords
open Classical
def OpOut (r:Except Int (Int × Fs)) (e:Ending) (w:World):Prop:=match r with
 | .error z=>e=.returned (.tuple #[.agg #[.int .i64 0,.slice none 0 0],.int .i64 z])
 | .ok (N,fs)=>∃A c,e=.returned (.tuple #[.agg #[.int .i64 N,.slice A fs.length c],.int .i64 0])∧fs.length≤c∧RF w A fs
noncomputable def fitE (N:Int) (fs:Fs):Except Int (Int × Fs):=if RightP N fs then .ok (N,fs) else .error 2
section
variable {base:Nat} {v:Value} {fs:Fs} {vf:Nat→Value} {vl:Nat→Nat→Value} {W W':World} {k:Nat}
theorem MW.typed (h:MW base v fs k vf vl W) {b:Nat} (hb:MB v fs k vf vl b):∃cells t,W.heap[b]?=some (.cells cells t (0,0))∧(t=37∨t=36∨t=3):=by
 rcases hb with hb | ⟨f,hf,hb | ⟨l,hl,hb⟩⟩
 ·obtain⟨cells,hc⟩:=own_typed h.own b hb
  exact⟨cells,_,hc,.inl rfl⟩
 ·obtain⟨cells,hc⟩:=own_typed (h.face f hf).own b hb
  exact⟨cells,_,hc,.inr (.inl rfl)⟩
 ·obtain⟨cells,hc⟩:=own_typed ((h.face f hf).ownL l hl) b hb
  exact⟨cells,_,hc,.inr (.inr rfl)⟩
theorem MW.not_model (h:MW base v fs k vf vl W) {O:Nat} {cs:Array Value} (hO:Blk W O (.cells cs 30)):¬ MB v fs k vf vl O:=by
 intro hb
 obtain⟨cells,t,hc,ht⟩:=h.typed hb
 unfold Blk at hO
 rw[hO] at hc
 injection hc with hc
 injection hc with _ hc
 subst hc
 revert ht;decide
theorem MW.setO (h:MW base v fs k vf vl W) {O:Nat} {cs:Array Value} (hO:Blk W O (.cells cs 30)) (o:Nat) (x:Value):MW base v fs k vf vl (W.setCell ⟨O,o,none⟩ x):=
 h.kept (grown_set _ _ _ _) (fun r e q=>by cases e;exact h.not_model hO q)
theorem MW.back (h:MW base v fs k vf vl W) {r:Nat} (hr:r<base) (x y:Value):MW base v fs k vf vl ((W.setCell ⟨r,0,none⟩ x).setCell ⟨r,1,none⟩ y):=by
 have h1:=h.kept (grown_set W r 0 x) (fun b e q=>by cases e;have:=(h.lt q).1;omega)
 exact h1.kept (grown_set _ r 1 y) (fun b e q=>by cases e;have:=(h1.lt q).1;omega)
theorem MW.belowW (h:MW base v fs k vf vl W) (hb:Below W.heap.size W W'):MW base v fs k vf vl W':=h.kept (grown_of_below hb none) (fun r e=>by cases e)
theorem fit_own (N:Int) {A:Option Addr} {n c:Nat} (h:MW base (.slice A n c) fs fs.length vf vl W) (hf:Fine 100000 fs):Calls Try.prog 51 #[.agg #[.int .i64 N,.slice A n c]] W fun e w'=>(∃b:Bool,e=.returned (if b then .tuple #[.agg #[.int .i64 N,.slice A n c],.int .i64 0] else .tuple #[.agg #[.int .i64 0,.slice none 0 0],.int .i64 2])∧(b=true↔RightP N fs))∧Below W.heap.size W w':=by
 obtain⟨A',c',e1,e2,e3⟩:=h.reads
 injection e1 with ea en ec
 subst ea en ec
 exact fit_any N A c fs W e3 (hf.sm (by omega)) hf.ni (hf.cap (by omega))
theorem opOut_fit {N:Int} {A:Option Addr} {n c:Nat} {b:Bool} {e:Ending} {r:Except Int (Int × Fs)} (hr:r=fitE N fs) (hb:b=true↔RightP N fs) (h:MW base (.slice A n c) fs fs.length vf vl W)
  (he:e=.returned (if b then .tuple #[.agg #[.int .i64 N,.slice A n c],.int .i64 0] else .tuple #[.agg #[.int .i64 0,.slice none 0 0],.int .i64 2])):OpOut r e W:=by
 subst hr
 obtain⟨A',c',e1,e2,e3⟩:=h.reads
 injection e1 with ea en ec
 subst ea en ec
 unfold fitE
 cases b with
 | true=>
  rw[if_pos (hb.1 rfl)]
  exact⟨A,c,he,e2,e3⟩
 | false=>
  rw[if_neg (fun h=>by have:=hb.2 h;cases this)]
  exact he
end
end Go.Proofs.Ytealnhaffphamaa

namespace Go.Proofs.Ytealnhaffphamaa
open Go.RowKit Go.Shelf Go.Sort Go.Proofs.YtealnhaffphamaaW.PrintWords
theorem holdsV {α:Type} [Inhabited α] (enc:α→Value) {w:World} {g:Nat} {cur:Array Value} {e:TypeId} {ss:List α} (hb:w.heap[g]?=some (.cells cur e (0,0))) (ht:cur.toList.take ss.length=ss.map enc):Holds enc w g 0 ss.toArray:=by
 intro j hj
 have hj':j<ss.length:=by simpa using hj
 refine⟨?_,by simp[World.frozen?,hb]⟩
 have h1:(cur.toList.take ss.length)[j]?=(ss.map enc)[j]?:=by rw[ht]
 rw[List.getElem?_take_of_lt hj'] at h1
 simp only[World.cell?,hb,Nat.zero_add]
 simp only[Option.isSome_none,Bool.false_eq_true,if_false]
 rw[←Array.getElem?_toList,h1]
 simp[hj']
theorem heapV {α:Type} [Inhabited α] (enc:α→Value) {w:World} {g n:Nat} {os:Array Obj} {cur:Array Value} {e:TypeId} {fr:Nat × Nat} (d:Array α) (hb:w.heap[g]?=some (.cells cur e fr)) :
  (grow (putRow enc (Sort.ahead w n) g 0 d) os).heap[g]?=some (.cells (putCells enc 0 d cur) e fr):=by
 have hg:g<w.heap.size:=(Array.getElem?_eq_some_iff.1 hb).1
 rw[heap_grow_old _ _ (by simpa using hg)]
 simp[putRow,mapBlock,Sort.ahead,Array.getElem?_modify,hb,onCells]
theorem grownV {α:Type} [Inhabited α] (enc:α→Value) {w:World} {g n:Nat} {os:Array Obj} (d:Array α):w.grownBy (grow (putRow enc (Sort.ahead w n) g 0 d) os) (some g):=by
 refine⟨rfl,rfl,rfl,by simp,fun k hk hne=>?_⟩
 rw[heap_grow_old _ _ (by simpa using hk)]
 have:g≠k:=fun e=>hne (by rw[e])
 simp[putRow,mapBlock,Sort.ahead,Array.getElem?_modify,this]
theorem takeV {α:Type} [Inhabited α] (enc:α→Value) (cur:Array Value) (ts:List α) (h:ts.length≤cur.size):(putCells enc 0 ts.toArray cur).toList.take ts.length=ts.map enc:=by
 apply List.ext_getElem?
 intro j
 by_cases hj:j<ts.length
 ·rw[List.getElem?_take_of_lt hj,Array.getElem?_toList]
  simp[putCells,hj,show j<cur.size by omega]
 ·rw[List.getElem?_take_eq_none (by omega),List.getElem?_eq_none (by simp;omega)]
theorem World.grow_none (w:World):grow w #[]=w:=by simp
theorem ownV {α:Type} [Inhabited α] (enc:α→Value) {w:World} {base g cap n m q:Nat} {e:TypeId} {os:Array Obj} {xs:List Value} {ts:List α} (h:w.ownsRow base e 1 (.slice (some ⟨g,0,none⟩) n cap) n xs) (hl:ts.length=n) (hm:m≤n) :
  (grow (putRow enc (Sort.ahead w q) g 0 ts.toArray) os).ownsRow base e 1 (.slice (some ⟨g,0,none⟩) m cap) m ((ts.take m).map enc):=by
 rcases h.2 with⟨h0,_⟩ | ⟨g',cap',cur,he,hbase,hb,h1,h2,h3,h4⟩
 ·cases h0
 ·cases he
  refine⟨by simp;omega,.inr ⟨g,cap,_,rfl,hbase,heapV enc _ hb,by omega,h2,by simp[putCells,h3],?_⟩⟩
  have h5:=takeV enc cur ts (by rw[h3];omega)
  rw[Nat.mul_one,List.map_take,←h5,List.take_take,Nat.min_eq_left (by omega)]
abbrev SlV:=Option Addr × Nat × Nat
def encS (x:SlV):Value:=.slice x.1 x.2.1 x.2.2
theorem encS_one (x:SlV):(encS x).oneCell'=true:=rfl
theorem delete_core {fnum:Nat} {ety:TypeId} (hD:∀(blk off cap i j:Nat) (d:Array SlV) (w:World),Holds encS w blk off d→d.size≤cap→cap≤9223372036854775807→i≤j→j≤d.size →
   Calls Try.prog fnum #[.slice (some ⟨blk,off,none⟩) d.size cap,.int .i64 i,.int .i64 j] w fun e w'=>e=.returned (.slice (some ⟨blk,off,none⟩) (d.size - (j - i)) cap)∧∃q,w'=putRow encS (Sort.ahead w q) blk off (d.toList.take i ++ d.toList.drop j ++ List.replicate (j - i) (none,0,0)).toArray)
  {base g n cap i:Nat} {xs:List SlV} {w:World} (h:w.ownsRow base ety 1 (.slice (some ⟨g,0,none⟩) n cap) n (xs.map encS)) (hi:i<n) :
  Calls Try.prog fnum #[.slice (some ⟨g,0,none⟩) n cap,.int .i64 i,.int .i64 (i+1:Nat)] w fun e w'=>e=.returned (.slice (some ⟨g,0,none⟩) (n - 1) cap)∧w'.ownsRow base ety 1 (.slice (some ⟨g,0,none⟩) (n - 1) cap) (n - 1) ((xs.eraseIdx i).map encS)∧w.grownBy w' (some g):=by
 have hn:xs.length=n:=by have:=h.1;simpa using this
 rcases h.2 with⟨h0,_⟩ | ⟨g',cap',cur,he,hbase,hb,h1,h2,h3,h4⟩
 ·cases h0
 ·cases he
  have hH:Holds encS w g 0 xs.toArray:=holdsV encS hb (by rw[hn];simpa using h4)
  have hc:=hD g 0 cap i (i+1) xs.toArray w hH (by simp;omega) (by simp only[maxLen] at h2;omega) (by omega) (by simp;omega)
  simp only[List.size_toArray,hn] at hc
  refine hc.mono ?_
  rintro e w' ⟨rfl,q,rfl⟩
  rw[show i+1 - i=1 by omega]
  have hl:(xs.take i ++ xs.drop (i+1) ++ List.replicate 1 ((none,0,0):SlV)).length=n:=by simp;omega
  refine⟨rfl,?_,?_⟩
  ·have h5:=ownV (m:=n - 1) (q:=q) (os:=#[]) encS h hl (by omega)
   rw[World.grow_none] at h5
   have e6:(xs.take i ++ xs.drop (i+1) ++ List.replicate 1 ((none,0,0):SlV)).take (n - 1)=xs.eraseIdx i:=by
    rw[List.take_append_of_le_length (by simp;omega),List.take_of_length_le (by simp;omega),List.eraseIdx_eq_take_drop_succ]
   rw[e6] at h5
   exact h5
  ·have h5:=grownV (w:=w) (g:=g) (n:=q) (os:=#[]) encS (xs.take i ++ xs.drop (i+1) ++ List.replicate 1 ((none,0,0):SlV)).toArray
   rw[World.grow_none] at h5
   exact h5
theorem zeroF (w:World):(zeroValue 37).run Try.prog w=.ok (.slice none 0 0) w:=by kernel_rfl
theorem infoF1:∃i0,Try.prog.info? 37=some i0∧i0.size=1:=by obtain⟨i,h1,h2,h3,h4⟩:=info_parts infoF;exact⟨i,h1,h3⟩
theorem deleteF_any {base g n cap i:Nat} {xs:List SlV} {w:World} (h:w.ownsRow base 37 1 (.slice (some ⟨g,0,none⟩) n cap) n (xs.map encS)) (hi:i<n) :
  Calls Try.prog 83 #[.slice (some ⟨g,0,none⟩) n cap,.int .i64 i,.int .i64 (i+1:Nat)] w fun e w'=>e=.returned (.slice (some ⟨g,0,none⟩) (n - 1) cap)∧w'.ownsRow base 37 1 (.slice (some ⟨g,0,none⟩) (n - 1) cap) (n - 1) ((xs.eraseIdx i).map encS)∧w.grownBy w' (some g):=by
 obtain⟨i0,h0,h1⟩:=infoF1
 exact delete_core (fun blk off cap i j d w hH hc hm hij hj=>Try.slices_Delete_f83 encS encS_one (none,0,0) zeroF i0 h0 h1 blk off cap i j d w hH hc hm hij hj) h hi
set_option maxRecDepth 100000 in
set_option maxHeartbeats 1000000 in
theorem withoutF_any {base g n cap i:Nat} {xs:List SlV} {w:World} (h:w.ownsRow base 37 1 (.slice (some ⟨g,0,none⟩) n cap) n (xs.map encS)) (hi:i<n) (hn:n≤1000000) :
  Calls Try.prog 59 #[.slice (some ⟨g,0,none⟩) n cap,.int .i64 i] w fun e w'=>e=.returned (.slice (some ⟨g,0,none⟩) (n - 1) cap)∧w'.ownsRow base 37 1 (.slice (some ⟨g,0,none⟩) (n - 1) cap) (n - 1) ((xs.eraseIdx i).map encS)∧w.grownBy w' (some g):=by
 have HD:=Lib.hid (deleteF_any h hi)
 have hwr:IntKind.i64.wrap ((i:Int)+1)=(i:Int)+1:=by rw[IntKind.wrap_i64];omega
 clear h
 go_enter Try.func59,Try.ntmps59
 go_wp2_with fail
 rw[show((i:Int)+1)=((i+1:Nat):Int) from rfl]
 ((with_reducible refine(HD.out).mono ?_);rintro e w' ⟨rfl,h1,h2⟩)
 go_wp2
 go_ret
 exact⟨rfl,h1,h2⟩
theorem slice_of_own {W:World} {base e size n:Nat} {v:Value} {xs:List Value} (h:W.ownsRow base e size v n xs):∃x:SlV,v=encS x:=by
 rcases h.2 with⟨h0,_⟩ | ⟨g',cap',cur,he,_⟩
 ·exact⟨(none,0,0),h0⟩
 ·exact⟨(some ⟨g',0,none⟩,n,cap'),he⟩
theorem slices_of {k:Nat} {lv:Nat→Value} (h:∀l,l<k→∃x:SlV,lv l=encS x):∃xs:List SlV,(List.range k).map lv=xs.map encS:=by
 induction k with
 | zero=>exact⟨[],rfl⟩
 | succ k ih=>
  obtain⟨xs,hx⟩:=ih (fun l hl=>h l (by omega))
  obtain⟨x,hy⟩:=h k (by omega)
  exact⟨xs ++ [x],by rw[List.range_succ,List.map_append,hx];simp[hy]⟩
theorem map_eraseIdx {α β:Type} (g:α→β) (xs:List α) (i:Nat):(xs.map g).eraseIdx i=(xs.eraseIdx i).map g:=by
 induction xs generalizing i with
 | nil=>rfl
 | cons x xs ih=>
  cases i with
  | zero=>rfl
  | succ i=>simp[ih]
def skip (i j:Nat):Nat:=if j<i then j else j+1
theorem skip_inj {i a b:Nat} (h:skip i a=skip i b):a=b:=by unfold skip at h;split at h <;> split at h <;> omega
theorem skip_lt {i j n:Nat} (h:j<n - 1):skip i j<n:=by unfold skip;split <;> omega
theorem map_range_erase (k i:Nat) (hi:i<k) (lv:Nat→Value):((List.range k).map lv).eraseIdx i=(List.range (k - 1)).map (fun j=>lv (skip i j)):=by
 refine List.ext_getElem (by rw[List.length_eraseIdx];simp[hi]) (fun j h1 h2=>?_)
 rw[List.getElem_eraseIdx]
 simp only[List.getElem_map,List.getElem_range,skip]
 split <;> rfl
theorem getD_erase {α:Type} (xs:List α) (i j:Nat) (d:α):(xs.eraseIdx i).getD j d=xs.getD (skip i j) d:=by
 rw[List.getD_eq_getElem?_getD,List.getD_eq_getElem?_getD,List.getElem?_eraseIdx]
 unfold skip
 split <;> rfl
section
variable {base g cap n:Nat} {fv v u:Value} {ls:List (List Int)} {fs:Fs} {k:Nat} {lv vf:Nat→Value} {vl:Nat→Nat→Value} {W W':World} {row:Option Nat}
theorem FW.congr {ls':List (List Int)} (h:FW base fv ls k lv W) (e:∀l,l<k→lA ls' l=lA ls l):FW base fv ls' k lv W:=⟨h.own,fun l hl=>by rw[e l hl];exact h.ownL l hl⟩
theorem FW.append (h:FW base fv ls ls.length lv W) {x:List Int} (hu:W.ownsRow base 3 1 u x.length (intsV x)) {fv':Value} (ho:W'.ownsRow base 36 1 fv' (ls.length+1) ((List.range ls.length).map lv ++ [u])) (hg:W.grownBy W' fv.ownBlock) :
  FW base fv' (ls ++ [x]) (ls ++ [x]).length (fun l=>if l=ls.length then u else lv l) W':=by
 have e1:lA (ls ++ [x]) ls.length=x:=by simp[lA,List.getD_eq_getElem?_getD]
 have h1:FW base fv (ls ++ [x]) ls.length lv W:=h.congr (fun l hl=>by simp[lA,List.getD_eq_getElem?_getD,List.getElem?_append_left hl])
 rw[List.length_append,List.length_singleton]
 exact h1.snoc (by rw[e1];exact hu) ho hg
theorem FW.drop (h:FW base fv ls ls.length lv W) {i:Nat} (hi:i<ls.length) (hb:fv.ownBlock=some g) {fv':Value} (ho:W'.ownsRow base 36 1 fv' (ls.length - 1) (((List.range ls.length).map lv).eraseIdx i)) (hg:W.grownBy W' (some g)) :
  FW base fv' (ls.eraseIdx i) (ls.eraseIdx i).length (fun l=>lv (skip i l)) W':=by
 have e1:(ls.eraseIdx i).length=ls.length - 1:=by rw[List.length_eraseIdx,if_pos hi]
 rw[e1]
 refine⟨by rw[←map_range_erase _ _ hi];exact ho,fun l hl=>?_⟩
 have e2:lA (ls.eraseIdx i) l=lA ls (skip i l):=getD_erase ls i l []
 rw[e2]
 exact own_keptB (h.ownL _ (skip_lt hl)) hg (fun b q=>by cases q;exact own_other_types h.own (h.ownL _ (skip_lt hl)) (by decide) hb)
structure MQ (base:Nat) (v:Value) (fs:Fs) (vf:Nat→Value) (vl:Nat→Nat→Value) (f:Nat) (u:Value) (ls:List (List Int)) (lv:Nat→Value) (W:World):Prop where
 own:W.ownsRow base 37 1 v fs.length ((List.range fs.length).map vf)
 face:∀j,j<fs.length→j≠f→FW base (vf j) (fcA fs j) (fcA fs j).length (vl j) W
 new:FW base u ls ls.length lv W
 dis:∀i,i<fs.length→i≠f→∀j,j<fs.length→j≠f→i≠j→Ap (vf i) (vf j)
 disN:∀i,i<fs.length→i≠f→Ap (vf i) u
variable {f:Nat}
theorem MQ.grown (h:MQ base v fs vf vl f u ls lv W) (hg:W.grownBy W' none):MQ base v fs vf vl f u ls lv W':=
 ⟨own_keptB h.own hg (fun b e=>by cases e),fun j hj hn=>(h.face j hj hn).kept hg (fun b e=>by cases e),h.new.kept hg (fun b e=>by cases e),h.dis,h.disN⟩
theorem MQ.store (h:MQ base v fs vf vl f u ls lv W) (hv:v=.slice (some ⟨g,0,none⟩) fs.length cap) :
  MW base v (fs.set f ls) (fs.set f ls).length (fun j=>if j=f then u else vf j) (fun j=>if j=f then lv else vl j) (W.setCell ⟨g,f,none⟩ u):=by
 have hb:v.ownBlock=some g:=by rw[hv];rfl
 refine⟨?_,fun j hj=>?_,fun i hi j hj hij=>?_⟩
 ·rw[List.length_set,←map_range_set]
  have h1:=h.own
  rw[hv] at h1 ⊢
  exact(World.ownsRow.stored h1 f u).1
 ·rw[List.length_set] at hj
  by_cases e:j=f
  ·subst e
   have e1:fcA (fs.set j ls) j=ls:=by unfold fcA;rw[List.getD_eq_getElem?_getD,List.getElem?_set_self hj];rfl
   simp only[if_pos]
   rw[e1]
   exact h.new.kept (grown_set _ _ _ _) (fun r q hF=>by cases q;exact h.new.apart h.own hb hF)
  ·have e1:fcA (fs.set f ls) j=fcA fs j:=by unfold fcA;rw[List.getD_eq_getElem?_getD,List.getElem?_set_ne (fun q=>e q.symm),←List.getD_eq_getElem?_getD]
   simp only[if_neg e]
   rw[e1]
   exact(h.face j hj e).kept (grown_set _ _ _ _) (fun r q hF=>by cases q;exact(h.face j hj e).apart h.own hb hF)
 ·rw[List.length_set] at hi hj
  show Ap (if i=f then u else vf i) (if j=f then u else vf j)
  by_cases e:i=f
  ·rw[if_pos e,if_neg (fun q=>hij (e.trans q.symm))]
   exact(h.disN j hj (fun q=>hij (e.trans q.symm))).symm
  ·rw[if_neg e]
   by_cases e2:j=f
   ·rw[if_pos e2];exact h.disN i hi e
   ·rw[if_neg e2];exact h.dis i hi e j hj e2 hij
theorem MW.pend (h:MW base v fs fs.length vf vl W) {f:Nat} (hf:f<fs.length) (hg:W.grownBy W' (vf f).ownBlock) (hu:FW base u ls ls.length lv W') (hat:u.ownBlock=(vf f).ownBlock∨u.ownBlock=some W.heap.size∨u.ownBlock=none):MQ base v fs vf vl f u ls lv W':=by
 refine⟨?_,fun j hj hne=>?_,hu,fun i hi hni j hj hnj hij=>h.dis i hi j hj hij,fun i hi hne=>?_⟩
 ·exact own_keptB h.own hg (fun r q=>own_other_types (h.face f hf).own h.own (by decide) q)
 ·refine(h.face j hj).kept hg (fun r q hF=>?_)
  rcases hF with hF | ⟨l,hl,hF⟩
  ·rcases h.dis j hj f hf hne with z | z
   ·rw[z] at hF;cases hF
   ·exact z (hF.trans q.symm)
  ·exact own_other_types (h.face f hf).own ((h.face j hj).ownL l hl) (by decide) q hF
 ·rcases hat with e | e | e
  ·unfold Ap;rw[e];exact h.dis i hi f hf hne
  ·exact Ap.of_lt (B:=W.heap.size) (fun r q=>((h.face i hi).lt (.inl q)).2) (fun r q=>by rw[e] at q;cases q;exact Nat.le_refl _)
  ·exact Ap.symm (.inl e)
theorem MW.dropF (h:MW base v fs fs.length vf vl W) {i:Nat} (hi:i<fs.length) (hb:v.ownBlock=some g) {v':Value} (ho:W'.ownsRow base 37 1 v' (fs.length - 1) (((List.range fs.length).map vf).eraseIdx i)) (hg:W.grownBy W' (some g)) :
  MW base v' (fs.eraseIdx i) (fs.eraseIdx i).length (fun j=>vf (skip i j)) (fun j=>vl (skip i j)) W':=by
 have e1:(fs.eraseIdx i).length=fs.length - 1:=by rw[List.length_eraseIdx,if_pos hi]
 rw[e1]
 refine⟨by rw[←map_range_erase _ _ hi];exact ho,fun j hj=>?_,fun a ha b hb2 hne=>h.dis _ (skip_lt ha) _ (skip_lt hb2) (fun q=>hne (skip_inj q))⟩
 have e2:fcA (fs.eraseIdx i) j=fcA fs (skip i j):=getD_erase fs i j []
 rw[e2]
 exact(h.face _ (skip_lt hj)).kept hg (fun r q=>by cases q;exact(h.face _ (skip_lt hj)).apart h.own hb)
theorem MW.appF (h:MW base v fs fs.length vf vl W) (hu:FW base u ls ls.length lv W) (hd:∀f,f<fs.length→Ap (vf f) u) {v':Value} (ho:W'.ownsRow base 37 1 v' (fs.length+1) ((List.range fs.length).map vf ++ [u])) (hg:W.grownBy W' v.ownBlock) :
  MW base v' (fs ++ [ls]) (fs ++ [ls]).length (fun j=>if j=fs.length then u else vf j) (fun j=>if j=fs.length then lv else vl j) W':=by
 have e1:fcA (fs ++ [ls]) fs.length=ls:=by simp[fcA,List.getD_eq_getElem?_getD]
 have h1:MW base v (fs ++ [ls]) fs.length vf vl W:=by
  refine⟨h.own,fun j hj=>?_,h.dis⟩
  have:fcA (fs ++ [ls]) j=fcA fs j:=by simp[fcA,List.getD_eq_getElem?_getD,List.getElem?_append_left hj]
  rw[this];exact h.face j hj
 rw[List.length_append,List.length_singleton]
 exact h1.snoc (by rw[e1];exact hu) hd ho hg
end
theorem step_append {P:Program} {ops:Array Oper} {o:Oper} {a:Act} {w:World} {K:Act→World→Prop} {Q:Exit→Act→World→Prop} {E:Prop} (hgd:o.guard=none) (s x:Operand) (t:TypeId)
  (ho:o.op=.call { callee:=.builtin .append,args:=#[s,x],argTypes:=#[t,t] })
  (base:Nat) (e:TypeId) (ht:P.underlying t=some (.slice e)) (hi:(P.info? e).map (fun i=>(i.zero,i.size,i.bytes))=some (some (.slice none 0 0),1,24))
  (v:Value) (n:Nat) (xs:List Value) (hs:a.eval s=v) (hown:w.ownsRow base e 1 v n xs) (u:Value) (hu:u.oneCell'=true)
  (m:Nat) (hx:a.eval x=.slice (some ⟨m,0,none⟩) 1 1) (hm:Blk w m (.cells #[u] e)) (hn:n≤1000000) (hbase:base≤w.heap.size)
  (h:∀g cap w',w'.ownsRow base e 1 (.slice (some ⟨g,0,none⟩) (n+1) cap) (n+1) (xs ++ [u])→w.grownBy w' v.ownBlock→(v.ownBlock=some g∨g=w.heap.size)→g<w'.heap.size→K (a.put o.dst (.slice (some ⟨g,0,none⟩) (n+1) cap)) w') :
  if Region.wanted o (yielded ops a.tmps)=true then Oper.wp P o a w K Q else E:=by
 have hw:Region.wanted o (yielded ops a.tmps)=true:=by simp[Region.wanted,hgd]
 rw[if_pos hw]
 obtain⟨i,hi0,hz,hsz,hby⟩:=info_parts hi
 obtain⟨g,cap,w',hr,h2,h3,h4,h5⟩:=run_append_lies (P:=P) w t o.type base e i (.slice none 0 0) 1 24 ht hi0 hz hsz hby rfl (by decide) v n xs hown ⟨m,0,none⟩ 1 1 [u] rfl (fun j x hj=>by
  match j,hj with
  | 0,hj=>cases hj;exact(blk_cells hm).1 0 _ rfl) (by simpa using hu) (by decide) (by simp only[maxLen];omega) (by omega) hbase _ rfl
 unfold Oper.wp execOp
 simp only[ho,resolve,invoke,builtin,Sem.run_bind,Sem.run_pure,Result.andThen_ok,List.map_toArray,List.map_cons,List.map_nil,hs,hx,hr]
 exact h g cap w' h2 h3 h4 h5
end Go.Proofs.Ytealnhaffphamaa

namespace Go.Proofs.Ytealnhaffphamaa
open Go.RowKit Go.Shelf Go.Proofs.YtealnhaffphamaaW.PrintWords
structure Obs (os:List Obj) (w W:World):Prop where
 blk:∀i o,os[i]?=some o→Blk W (w.heap.size+i) o
 below:Below w.heap.size w W
 size:w.heap.size+os.length≤W.heap.size
section
variable {os:List Obj} {w W W':World} {row:Option Nat} {cs:Array Value} {t:TypeId}
theorem Obs.cell (h:Obs os w W) (i j:Nat) (ho:os[i]?=some (.cells cs t)) {x:Value} (hx:cs[j]?=some x):W.cell? ⟨w.heap.size+i,j,none⟩=some x:=(blk_cells (h.blk i _ ho)).1 j x hx
theorem Obs.frz (h:Obs os w W) (i j:Nat) (ho:os[i]?=some (.cells cs t)):W.frozen? ⟨w.heap.size+i,j,none⟩=false:=(blk_cells (h.blk i _ ho)).2 j
theorem Obs.kept (h:Obs os w W) (hg:W.grownBy W' row) (hr:∀k,row=some k→w.heap.size+os.length≤k):Obs os w W':=
 ⟨fun i o ho=>(h.blk i o ho).kept hg (fun e=>by have:=hr _ e.symm;have:=(List.getElem?_eq_some_iff.1 ho).1;omega),h.below.grown hg (by have:=h.size;omega) (fun k e=>by have:=hr k e;omega),Nat.le_trans h.size hg.size⟩
theorem Obs.call (h:Obs os w W) (hb:Below W.heap.size W W'):Obs os w W':=h.kept (row:=none) (grown_of_below hb none) (fun k e=>by cases e)
theorem Obs.grown (h:Obs os w W) (hg:W.grownBy W' none):Obs os w W':=h.kept hg (fun k e=>by cases e)
theorem Obs.alloc (h:Obs os w W) (hs:W.heap.size=w.heap.size+os.length) (o:Obj):Obs (os ++ [o]) w (W.alloc o):=by
 refine⟨fun i x hx=>?_,h.below.alloc (by omega) _,by rw[World.size_alloc,List.length_append,List.length_singleton];omega⟩
 rcases Nat.lt_or_ge i os.length with hi | hi
 ·rw[List.getElem?_append_left hi] at hx
  exact(h.blk i x hx).alloc
 ·rw[List.getElem?_append_right hi] at hx
  have:i - os.length=0:=by
   rcases Nat.eq_zero_or_pos (i - os.length) with q | q
   ·exact q
   ·rw[List.getElem?_eq_none (by simp;omega)] at hx;cases hx
  rw[this] at hx
  cases hx
  have e:w.heap.size+i=W.heap.size:=by omega
  rw[e]
  exact blk_new W _
theorem Obs.nil (w:World):Obs [] w w:=⟨fun i o h=>by simp at h,Below.refl _ _,by simp⟩
theorem Obs.one (w:World) (o:Obj):Obs [o] w (w.alloc o):=(Obs.nil w).alloc rfl o
theorem Obs.two (w:World) (o1 o2:Obj):Obs [o1,o2] w ((w.alloc o1).alloc o2):=(Obs.one w o1).alloc (by simp) o2
theorem Obs.three (w:World) (o1 o2 o3:Obj):Obs [o1,o2,o3] w (((w.alloc o1).alloc o2).alloc o3):=(Obs.two w o1 o2).alloc (by simp) o3
theorem Obs.four (w:World) (o1 o2 o3 o4:Obj):Obs [o1,o2,o3,o4] w ((((w.alloc o1).alloc o2).alloc o3).alloc o4):=(Obs.three w o1 o2 o3).alloc (by simp) o4
theorem Obs.set (h:Obs os w W) (i j:Nat) (x:Value) (ho:os[i]?=some (.cells cs t)):Obs (os.set i (.cells (cs.setIfInBounds j x) t)) w (W.setCell ⟨w.heap.size+i,j,none⟩ x):=by
 refine⟨fun k o hk=>?_,h.below.setCell (p:=⟨_,j,none⟩) (by show w.heap.size≤w.heap.size+i;omega) _,by rw[List.length_set];simp;exact h.size⟩
 rw[List.getElem?_set] at hk
 by_cases e:i=k
 ·subst e
  have hi:=(List.getElem?_eq_some_iff.1 ho).1
  rw[if_pos rfl,if_pos hi] at hk
  cases hk
  exact blk_set (h.blk i _ ho)
 ·rw[if_neg e] at hk
  exact blk_other (h.blk k o hk) (by omega)
theorem Obs.ret (h:Obs os w W) (i:Nat) (x y:Value) {u v:Value} (ho:os[i]?=some (.cells #[u,v] t)):Blk ((W.setCell ⟨w.heap.size+i,0,none⟩ x).setCell ⟨w.heap.size+i,1,none⟩ y) (w.heap.size+i) (.cells #[x,y] t)∧Below w.heap.size w ((W.setCell ⟨w.heap.size+i,0,none⟩ x).setCell ⟨w.heap.size+i,1,none⟩ y):=
 ⟨blk_set2 (h.blk i _ ho),(h.below.setCell (p:=⟨_,0,none⟩) (by show w.heap.size≤w.heap.size+i;omega) _).setCell (p:=⟨_,1,none⟩) (by show w.heap.size≤w.heap.size+i;omega) _⟩
end
end Go.Proofs.Ytealnhaffphamaa

namespace Go.Proofs.Ytealnhaffphamaa
open Go.RowKit
structure IRE (J:World→Prop) (e:Nat) (C:(Nat→Value)→World→Prop) (I:World→Prop) (S:Nat→World→Value→Prop) (vals:List (Nat × Nat)) (listed:Array Bool) (t:Nat→Value) (W:World):Prop where
 fin:I W
 old:listed.getD e false=false→J W∧∀x∈vals,listed.getD x.1 false=true→S x.2 W (t x.2)
 new:listed.getD e false=true→C t W
section
variable {J I:World→Prop} {C:(Nat→Value)→World→Prop} {e:Nat} {S:Nat→World→Value→Prop} {vals:List (Nat × Nat)} {listed:Array Bool} {t:Nat→Value} {W W1:World} {ops:Array Oper}
theorem IRE.start (n:Nat) (hI:I W) (h:J W) (t:Nat→Value):IRE J e C I S vals (Array.replicate n false) t W:=⟨hI,fun _=>⟨h,fun _ _ h=>(none_listed h).elim⟩,fun h=>(none_listed h).elim⟩
theorem IRE.val {i:Nat} (h:IRE J e C I S vals listed t W) (hC:Cl ops listed) (hr:i∈Region.ready .any ops listed) (hre:reachB ops 9 e i=true) (x:Nat × Nat) (hx:x∈vals) (hl:listed.getD x.1 false=true):S x.2 W (t x.2):=(h.old (hC.not hr 9 hre)).2 x hx hl
theorem IRE.bef {i:Nat} (h:IRE J e C I S vals listed t W) (hC:Cl ops listed) (hr:i∈Region.ready .any ops listed) (hre:reachB ops 9 e i=true):J W:=(h.old (hC.not hr 9 hre)).1
theorem IRE.yields {i d:Nat} {v:Value} (h:IRE J e C I S vals listed t W) (hC:Cl ops listed) (hr:i∈Region.ready .any ops listed) (he:i≠e) (hre:reachB ops 9 e i=true) (hI:I W1) (hJ:J W→J W1) (hm:∀d v,S d W v→S d W1 v) (hv:S d W1 v) (h1:clashV vals i d=true):IRE J e C I S vals (listed.setIfInBounds i true) (upd t d v) W1:=
 ⟨hI,fun _=>⟨hJ (h.bef hC hr hre),fun x hx hlx=>by
  have hc:=List.all_eq_true.1 h1 x hx
  by_cases q:x.1=i
  ·rw[if_pos q] at hc
   have:x.2=d:=by simpa using hc
   rw[this,upd_same];exact hv
  ·rw[if_neg q] at hc
   have hne:x.2≠d:=by simpa using hc
   rw[upd_other _ _ hne]
   exact hm _ _ (h.val hC hr hre x hx ((listed_set hlx).resolve_left q))⟩,fun hl=>by rw[getD_set_ne he,hC.not hr 9 hre] at hl;simp at hl⟩
theorem IRE.ends (h:IRE J e C I S vals listed t W) (hr:e∈Region.ready .any ops listed) (hI:I W1) (hC:C t W1):IRE J e C I S vals (listed.setIfInBounds e true) t W1:=
 ⟨hI,fun h0=>by rw[getD_set_eq (ready_spec.1 hr).2.1] at h0;simp at h0,fun _=>hC⟩
theorem IRE.atEnd (h:IRE J e C I S vals listed t W) (hr:e∈Region.ready .any ops listed):J W∧∀x∈vals,listed.getD x.1 false=true→S x.2 W (t x.2):=h.old (getD_tf (ready_spec.1 hr).2.1).1
end
structure IRX (e s:Nat) (v0:Value) (I:World→Prop) (S:Nat→World→Value→Prop) (vals:List (Nat × Nat)) (listed:Array Bool) (t:Nat→Value) (W:World):Prop where
 ir:IR I S vals listed t W
 ini:listed.getD e false=false→t s=v0
section
variable {e s:Nat} {v0:Value} {I:World→Prop} {S:Nat→World→Value→Prop} {vals:List (Nat × Nat)} {listed:Array Bool} {t:Nat→Value} {W W1:World} {ops:Array Oper}
theorem IRX.start (n:Nat) (hI:I W) (t:Nat→Value) (h0:t s=v0):IRX e s v0 I S vals (Array.replicate n false) t W:=⟨IR.start n hI t,fun _=>h0⟩
theorem IRX.yields {i d:Nat} {v:Value} (h:IRX e s v0 I S vals listed t W) (he:i≠e) (hs:d≠s) (hI:I W1) (hm:∀d v,S d W v→S d W1 v) (hv:S d W1 v) (h1:clashV vals i d=true):IRX e s v0 I S vals (listed.setIfInBounds i true) (upd t d v) W1:=
 ⟨h.ir.yields hI hm hv h1,fun hl=>by rw[upd_other _ _ (fun q=>hs q.symm)];exact h.ini (by rwa [getD_set_ne he] at hl)⟩
theorem IRX.ends {d:Nat} {v:Value} (h:IRX e s v0 I S vals listed t W) (hr:e∈Region.ready .any ops listed) (hI:I W1) (hm:∀d v,S d W v→S d W1 v) (hv:S d W1 v) (h1:clashV vals e d=true):IRX e s v0 I S vals (listed.setIfInBounds e true) (upd t d v) W1:=
 ⟨h.ir.yields hI hm hv h1,fun hl=>by rw[getD_set_eq (ready_spec.1 hr).2.1] at hl;simp at hl⟩
end
end Go.Proofs.Ytealnhaffphamaa

namespace Go.Proofs.Ytealnhaffphamaa
open Go.RowKit Go.Shelf Go.Proofs.YtealnhaffphamaaW.PrintWords
open Classical
structure IRT (I:World→Prop) (L:List (List Nat × (World→(Nat→Value)→Prop))) (listed:Array Bool) (t:Nat→Value) (W:World):Prop where
 fin:I W
 fact:∀x∈L,(∀i∈x.1,listed.getD i false=true)→x.2 W t
section
variable {I:World→Prop} {L:List (List Nat × (World→(Nat→Value)→Prop))} {listed:Array Bool} {t t':Nat→Value} {W W1:World}
theorem IRT.start (n:Nat) (hI:I W) (hL:L.all (fun x=>!x.1.isEmpty)=true) (t:Nat→Value):IRT I L (Array.replicate n false) t W:=
 ⟨hI,fun x hx h=>by
  have h2:=List.all_eq_true.1 hL x hx
  cases hq:x.1 with
  | nil=>rw[hq] at h2;simp at h2
  | cons i r=>exact(none_listed (h i (by rw[hq];simp))).elim⟩
theorem IRT.step {i:Nat} (h:IRT I L listed t W) (hI:I W1) (hs:∀x∈L,i ∉ x.1→(∀j∈x.1,listed.getD j false=true)→x.2 W t→x.2 W1 t') (hn:∀x∈L,i∈x.1→(∀j∈x.1,j≠i→listed.getD j false=true)→x.2 W1 t'):IRT I L (listed.setIfInBounds i true) t' W1:=by
 refine⟨hI,fun x hx hl=>?_⟩
 by_cases q:i∈x.1
 ·exact hn x hx q (fun j hj hne=>(listed_set (hl j hj)).resolve_left hne)
 ·have h2:∀j∈x.1,listed.getD j false=true:=fun j hj=>(listed_set (hl j hj)).resolve_left (fun e=>q (e ▸ hj))
  exact hs x hx q h2 (h.fact x hx h2)
end
section
variable {base:Nat} {v:Value} {fs:Fs} {vf:Nat→Value} {vl:Nat→Nat→Value} {W W':World}
theorem lpA_setL {fs:Fs} {f l:Nat} (hf:f<fs.length) (hl:l<(fcA fs f).length) (x:List Int) (f' l':Nat):lpA (setL fs f l x) f' l'=if f'=f∧l'=l then x else lpA fs f' l':=by
 unfold lpA
 rw[fcA_setL hf]
 by_cases e:f'=f
 ·subst e
  rw[if_pos rfl,lA_set hl]
  by_cases e2:l'=l
  ·rw[if_pos e2,if_pos ⟨rfl,e2⟩]
  ·rw[if_neg e2,if_neg (fun q=>e2 q.2)]
 ·rw[if_neg e,if_neg (fun q=>e q.1)]
theorem fcA_setL_len {fs:Fs} {f l:Nat} (hf:f<fs.length) (x:List Int) (f':Nat):(fcA (setL fs f l x) f').length=(fcA fs f').length:=by
 rw[fcA_setL hf]
 split
 ·rename_i e;subst e;simp
 ·rfl
theorem MW.putAt {b n c f l i:Nat} (h:MW base v fs fs.length vf vl W) (hd:MD fs fs.length vl) (hf:f<fs.length) (hl:l<(fcA fs f).length) (hv:vl f l=.slice (some ⟨b,0,none⟩) n c) (x:Int) :
  MW base v (setL fs f l ((lpA fs f l).set i x)) (setL fs f l ((lpA fs f l).set i x)).length vf vl (W.setCell ⟨b,i,none⟩ (.int .i64 x)):=by
 have hb:(vl f l).ownBlock=some b:=by rw[hv];rfl
 have hL:=(h.face f hf).ownL l hl
 refine⟨?_,fun f' hf'=>?_,?_⟩
 ·rw[setL_len]
  exact own_keptB h.own (grown_set _ _ _ _) (fun r q q2=>by cases q;exact own_other_types hL h.own (by decide) hb q2)
 ·rw[setL_len] at hf'
  rw[fcA_setL_len hf]
  refine⟨own_keptB (h.face f' hf').own (grown_set _ _ _ _) (fun r q q2=>by cases q;exact own_other_types hL (h.face f' hf').own (by decide) hb q2),fun l' hl'=>?_⟩
  show(W.setCell ⟨b,i,none⟩ (.int .i64 x)).ownsRow base 3 1 (vl f' l') (lpA (setL fs f l ((lpA fs f l).set i x)) f' l').length (intsV (lpA (setL fs f l ((lpA fs f l).set i x)) f' l'))
  rw[lpA_setL hf hl]
  by_cases e:f'=f∧l'=l
  ·obtain⟨rfl,rfl⟩:=e
   rw[if_pos ⟨rfl,rfl⟩,List.length_set]
   have hL2:W.ownsRow base 3 1 (vl f' l') (lpA fs f' l').length (intsV (lpA fs f' l')):=hL
   have en:n=(lpA fs f' l').length:=by
    rcases hL2.2 with⟨h0,hz⟩ | ⟨g,cap,cur,he,_⟩
    ·rw[hv] at h0;cases h0
    ·rw[hv] at he;cases he;rfl
   rw[hv,en] at hL2 ⊢
   have:=(World.ownsRow.stored hL2 i (.int .i64 x)).1
   rwa [show(intsV (lpA fs f' l')).set i (.int .i64 x)=intsV ((lpA fs f' l').set i x) by unfold intsV;rw[List.map_set]] at this
  ·rw[if_neg e]
   refine own_keptB ((h.face f' hf').ownL l' hl') (grown_set _ _ _ _) (fun r q q2=>?_)
   cases q
   have hap:Ap (vl f' l') (vl f l):=by
    by_cases e1:f'=f
    ·subst e1
     exact hd.1 f' hf l' hl' l hl (fun q=>e ⟨rfl,q⟩)
    ·exact hd.2 f' hf' f hf e1 l' hl' l hl
   rcases hap with z | z
   ·rw[z] at q2;cases q2
   ·exact z (q2.trans hb.symm)
 ·rw[setL_len];exact h.dis
theorem MD.setL {f l:Nat} (hd:MD fs fs.length vl) (hf:f<fs.length) (x:List Int):MD (setL fs f l x) (setL fs f l x).length vl:=by
 rw[setL_len]
 exact⟨fun f' hf'=>by rw[fcA_setL_len hf];exact hd.1 f' hf',fun f' hf' f'' hf'' hne i hi j hj=>by rw[fcA_setL_len hf] at hi hj;exact hd.2 f' hf' f'' hf'' hne i hi j hj⟩
variable {v2:Value} {gs:Fs} {wf:Nat→Value} {wl:Nat→Nat→Value}
theorem map_range_app (n m:Nat) (a b:Nat→Value):(List.range n).map a ++ (List.range m).map b=(List.range (n+m)).map (fun j=>if j<n then a j else b (j - n)):=by
 refine List.ext_getElem (by simp) (fun j h1 h2=>?_)
 rw[List.getElem_append]
 simp only[List.getElem_map,List.getElem_range,List.length_map,List.length_range]
 split <;> rfl
theorem MW.join (h:MW base v fs fs.length vf vl W) (k:MW base v2 gs gs.length wf wl W) (hd:∀i,i<fs.length→∀j,j<gs.length→Ap (vf i) (wf j)) (hdv:∀b,v.ownBlock=some b→¬ MB v2 gs gs.length wf wl b) {v':Value}
  (ho:W'.ownsRow base 37 1 v' (fs.length+gs.length) ((List.range fs.length).map vf ++ (List.range gs.length).map wf)) (hg:W.grownBy W' v.ownBlock) :
  MW base v' (fs ++ gs) (fs ++ gs).length (fun j=>if j<fs.length then vf j else wf (j - fs.length)) (fun j=>if j<fs.length then vl j else wl (j - fs.length)) W':=by
 rw[List.length_append]
 refine⟨by rw[←map_range_app];exact ho,fun f hf=>?_,fun i hi j hj hij=>?_⟩
 ·by_cases e:f<fs.length
  ·have e1:fcA (fs ++ gs) f=fcA fs f:=by simp[fcA,List.getD_eq_getElem?_getD,List.getElem?_append_left e]
   simp only[if_pos e]
   rw[e1]
   exact(h.face f e).kept hg (fun b q=>(h.face f e).apart h.own q)
  ·have e1:fcA (fs ++ gs) f=fcA gs (f - fs.length):=by simp[fcA,List.getD_eq_getElem?_getD,List.getElem?_append_right (Nat.le_of_not_lt e)]
   simp only[if_neg e]
   rw[e1]
   exact(k.face _ (by omega)).kept hg (fun b q hb=>hdv b q (.inr ⟨_,by omega,hb⟩))
 ·show Ap (if i<fs.length then vf i else wf (i - fs.length)) (if j<fs.length then vf j else wf (j - fs.length))
  by_cases e:i<fs.length
  ·rw[if_pos e]
   by_cases e2:j<fs.length
   ·rw[if_pos e2];exact h.dis i e j e2 hij
   ·rw[if_neg e2];exact hd i e _ (by omega)
  ·rw[if_neg e]
   by_cases e2:j<fs.length
   ·rw[if_pos e2];exact(hd j e2 _ (by omega)).symm
   ·rw[if_neg e2];exact k.dis _ (by omega) _ (by omega) (by omega)
end
structure ShI (N:Int) (gs hs:Fs) (P:Nat→Nat→Nat→Prop):Prop where
 len:hs.length=gs.length
 flen:∀f,(fcA hs f).length=(fcA gs f).length
 llen:∀f l,(lpA hs f l).length=(lpA gs f l).length
 val:∀f l i,f<gs.length→l<(fcA gs f).length→i<(lpA gs f l).length→(lpA hs f l).getD i 0=if P f l i then(lpA gs f l).getD i 0+N else(lpA gs f l).getD i 0
theorem ShI.start (N:Int) (gs:Fs):ShI N gs gs (fun _ _ _=>False):=⟨rfl,fun _=>rfl,fun _ _=>rfl,fun _ _ _ _ _ _=>by simp⟩
theorem ShI.congr {N:Int} {gs hs:Fs} {P Q:Nat→Nat→Nat→Prop} (h:ShI N gs hs P) (e:∀f l i,f<gs.length→l<(fcA gs f).length→i<(lpA gs f l).length→(P f l i↔Q f l i)):ShI N gs hs Q:=
 ⟨h.len,h.flen,h.llen,fun f l i hf hl hi=>by
  rw[h.val f l i hf hl hi]
  have:P f l i↔Q f l i:=e f l i hf hl hi
  simp only[this]⟩
theorem ShI.put {N:Int} {gs hs:Fs} {P:Nat→Nat→Nat→Prop} (h:ShI N gs hs P) {f l i:Nat} (hf:f<gs.length) (hl:l<(fcA gs f).length) (hi:i<(lpA gs f l).length) (hP:¬ P f l i) :
  ShI N gs (setL hs f l ((lpA hs f l).set i ((lpA gs f l).getD i 0+N))) (fun f' l' i'=>P f' l' i'∨(f'=f∧l'=l∧i'=i)):=by
 have hf2:f<hs.length:=by rw[h.len];exact hf
 have hl2:l<(fcA hs f).length:=by rw[h.flen];exact hl
 refine⟨by rw[setL_len];exact h.len,fun f'=>by rw[fcA_setL_len hf2];exact h.flen f',fun f' l'=>?_,fun f' l' i' hf' hl' hi'=>?_⟩
 ·rw[lpA_setL hf2 hl2]
  split
  ·rename_i e;obtain⟨rfl,rfl⟩:=e;rw[List.length_set];exact h.llen _ _
  ·exact h.llen _ _
 ·rw[lpA_setL hf2 hl2]
  by_cases e:f'=f∧l'=l
  ·obtain⟨rfl,rfl⟩:=e
   rw[if_pos ⟨rfl,rfl⟩]
   by_cases e2:i'=i
   ·subst e2
    rw[if_pos (.inr ⟨rfl,rfl,rfl⟩)]
    rw[List.getD_eq_getElem?_getD,List.getElem?_set_self (by rw[h.llen];exact hi)];rfl
   ·rw[List.getD_eq_getElem?_getD,List.getElem?_set_ne (fun q=>e2 q.symm),←List.getD_eq_getElem?_getD,h.val _ _ _ hf' hl' hi']
    by_cases q:P f' l' i'
    ·rw[if_pos q,if_pos (.inl q)]
    ·rw[if_neg q,if_neg (fun z=>z.elim q (fun z=>e2 z.2.2))]
  ·rw[if_neg e,h.val _ _ _ hf' hl' hi']
   by_cases q:P f' l' i'
   ·rw[if_pos q,if_pos (.inl q)]
   ·rw[if_neg q,if_neg (fun z=>z.elim q (fun z=>e ⟨z.1,z.2.1⟩))]
def shAll (N:Int) (gs:Fs):Fs:=gs.map fun f=>f.map fun l=>l.map fun x=>x+N
theorem fs_ext {fs gs:Fs} (h1:fs.length=gs.length) (h2:∀f,(fcA fs f).length=(fcA gs f).length) (h3:∀f l,(lpA fs f l).length=(lpA gs f l).length) (h4:∀f l i,f<fs.length→l<(fcA fs f).length→i<(lpA fs f l).length→(lpA fs f l).getD i 0=(lpA gs f l).getD i 0):fs=gs:=by
 refine List.ext_getElem h1 (fun f a b=>?_)
 have e1:fcA fs f=fs[f]:=by simp[fcA,List.getD_eq_getElem?_getD,a]
 have e2:fcA gs f=gs[f]:=by simp[fcA,List.getD_eq_getElem?_getD,b]
 rw[←e1,←e2]
 refine List.ext_getElem (h2 f) (fun l c d=>?_)
 have e3:lpA fs f l=(fcA fs f)[l]:=by simp[lpA,lA,List.getD_eq_getElem?_getD,c]
 have e4:lpA gs f l=(fcA gs f)[l]:=by simp[lpA,lA,List.getD_eq_getElem?_getD,d]
 rw[←e3,←e4]
 refine List.ext_getElem (h3 f l) (fun i p q=>?_)
 have:=h4 f l i a c p
 simpa [List.getD_eq_getElem?_getD,p,q] using this
theorem fcA_shAll (N:Int) (gs:Fs) (f:Nat):fcA (shAll N gs) f=(fcA gs f).map fun l=>l.map fun x=>x+N:=by
 unfold fcA shAll
 rw[List.getD_eq_getElem?_getD,List.getD_eq_getElem?_getD,List.getElem?_map]
 cases gs[f]? <;> simp
theorem lpA_shAll (N:Int) (gs:Fs) (f l:Nat):lpA (shAll N gs) f l=(lpA gs f l).map fun x=>x+N:=by
 unfold lpA lA
 rw[fcA_shAll,List.getD_eq_getElem?_getD,List.getD_eq_getElem?_getD,List.getElem?_map]
 cases (fcA gs f)[l]? <;> simp
theorem ShI.done {N:Int} {gs hs:Fs} {P:Nat→Nat→Nat→Prop} (h:ShI N gs hs P) (hP:∀f l i,f<gs.length→l<(fcA gs f).length→i<(lpA gs f l).length→P f l i):hs=shAll N gs:=by
 refine fs_ext (by rw[h.len];simp[shAll]) (fun f=>by rw[h.flen,fcA_shAll];simp) (fun f l=>by rw[h.llen,lpA_shAll];simp) (fun f l i hf hl hi=>?_)
 rw[h.len] at hf
 rw[h.flen] at hl
 rw[h.llen] at hi
 rw[h.val f l i hf hl hi,if_pos (hP f l i hf hl hi),lpA_shAll]
 simp[List.getD_eq_getElem?_getD,hi]
theorem ShI.fine {N:Int} {gs hs:Fs} {P:Nat→Nat→Nat→Prop} {k:Nat} (h:ShI N gs hs P) (hF:Fine k gs) (hN:0≤N∧N≤1000) (hv:∀v∈gs.flatten.flatten,-1000≤v∧v≤1000):Fine k hs:=by
 have e1:nlA hs hs.length=nlA gs gs.length:=by
  rw[h.len]
  have:∀k,nlA hs k=nlA gs k:=by
   intro k;induction k with
   | zero=>rfl
   | succ k ih=>simp only[nlA];rw[ih,h.flen]
  exact this _
 have e2:npA hs hs.length=npA gs gs.length:=by
  rw[h.len]
  have hL:∀f k,npL hs f k=npL gs f k:=by
   intro f k;induction k with
   | zero=>rfl
   | succ k ih=>simp only[npL];rw[ih,h.llen]
  have:∀k,npA hs k=npA gs k:=by
   intro k;induction k with
   | zero=>rfl
   | succ k ih=>simp only[npA];rw[ih,h.flen,hL]
  exact this _
 rw[nlA_eq,nlA_eq] at e1
 rw[npA_eq,npA_eq] at e2
 refine⟨by rw[h.len];exact hF.faces,by rw[e1];exact hF.loops,by rw[e2];exact hF.nodes,fun v hvm=>?_⟩
 rw[←pls_v] at hvm
 obtain⟨x,hx,rfl⟩:=List.mem_map.1 hvm
 obtain⟨f,l,i,hf,hl,hi,rfl⟩:=mem_pls.1 hx
 show -1000000≤(lpA hs f l).getD i 0∧(lpA hs f l).getD i 0≤1000000
 rw[h.len] at hf
 rw[h.flen] at hl
 rw[h.llen] at hi
 rw[h.val f l i hf hl hi]
 have hm:(lpA gs f l).getD i 0∈gs.flatten.flatten:=by
  rw[←pls_v]
  exact List.mem_map.2 ⟨pvA gs f l i,mem_pls.2 ⟨f,l,i,hf,hl,hi,rfl⟩,rfl⟩
 have:=hv _ hm
 split <;> omega
end Go.Proofs.Ytealnhaffphamaa
