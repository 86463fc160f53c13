/- Contracts of the functions that the statement reaches, and plain lemmas: part 22 of 31. -/
import Derived.Test.YtealnhaffphamaaS21
import Derived.Maps.OwnSet
set_option linter.unusedVariables false
set_option linter.unusedSimpArgs false

namespace Go.Proofs.Ytealnhaffphamaa
open Go.RowKit Go.Shelf Go.Proofs.YtealnhaffphamaaW.PrintWords
open Go.Maps (Keyed)
theorem Try.uIm:Try.prog.underlying 82=some (.map 3 76):=by kernel_rfl
theorem lawI:Keyed Try.prog 3:=Go.Maps.int_keyed Try.u3
theorem keyOf_i {a:Int} (ha:I64 a):keyOf Try.prog 3 (.int .i64 a)=some (.int .i64 a):=Go.Maps.keyOf_int_mk Try.u3 (wf_i64 ha)
def edV (a b:Int):Value:=.agg #[.int .i64 a,.int .i64 b,.int .i64 0,.int .i64 0,.int .i64 0]
def datE (a b c d e:Int):DataW Unit:=.agg [.lit (.int .i64 a),.lit (.int .i64 b),.lit (.int .i64 c),.lit (.int .i64 d),.lit (.int .i64 e)]
def readEg (v:Value):Option (DataW Unit × List MemPlace):=
 match v with
 | .agg cs=>match cs.toList with
  | [.int .i64 a,.int .i64 b,.int .i64 c,.int .i64 d,.int .i64 e]=>some (datE a b c d e,[])
  | _=>none
 | _=>none
theorem readEg_inv {v:Value} {y:DataW Unit × List MemPlace} (h:readEg v=some y):∃a b c d e:Int,v=.agg #[.int .i64 a,.int .i64 b,.int .i64 c,.int .i64 d,.int .i64 e]∧y=(datE a b c d e,[]):=by
 unfold readEg at h
 split at h
 ·rename_i cs
  split at h
  ·rename_i a b c d e hl
   obtain⟨cs⟩:=cs
   simp at hl
   subst hl
   exact⟨a,b,c,d,e,rfl,by simpa using h.symm⟩
  ·simp at h
 ·simp at h
theorem datE_inj {a b c d e a' b' c' d' e':Int} (h:datE a b c d e=datE a' b' c' d' e'):a=a'∧b=b'∧c=c'∧d=d'∧e=e':=by simpa [datE] using h
theorem zeroEg (w:World):(zeroValue 76).run Try.prog w=.ok (.agg #[.int .i64 0,.int .i64 0,.int .i64 0,.int .i64 0,.int .i64 0]) w:=by kernel_rfl
def IM (W:World) (b:Nat) (vs:List (Int × Int)):Prop:=∃D:DataW Unit,W.ownsMap Try.prog 3 readEg b vs.length D∧(∀i:Nat,i<1000000→Maps.has D (.int .i64 i)=decide (i<vs.length)) ∧
 ∀(i:Nat) (x:Int × Int),vs[i]?=some x→∀z,D.atKey (.int .i64 i) z=datE x.1 x.2 0 0 0
theorem IM.lt {W:World} {b:Nat} {vs:List (Int × Int)} (h:IM W b vs):b<W.heap.size:=by
 obtain⟨D,⟨es,clock,hb,_⟩,_⟩:=h
 exact(Array.getElem?_eq_some_iff.1 hb).1
theorem IM.made (W:World):IM (W.alloc (.map #[] 0)) W.heap.size []:=⟨_,World.ownsMap_made _ _ _ _,fun i _=>by simp[Maps.has],fun i x h=>by simp at h⟩
theorem IM.kept {W W':World} {b:Nat} {vs:List (Int × Int)} (h:IM W b vs) {row:Option Nat} (hg:W.grownBy W' row) (hb:some b≠row):IM W' b vs:=by
 obtain⟨D,h1,h2⟩:=h
 exact⟨D,h1.kept hg hb,h2⟩
theorem key_i (i:Nat) (h:i<1000000):WideAt.IsKeyLit (.int .i64 (i:Int)):=lawI.key (keyOf_i ⟨by omega,by omega⟩)
theorem wpList_upd_im {ops:Array Oper} {rest:List Oper} {o:Oper} {a:Act} {Q:Exit→Act→World→Prop} (w:World) (hg:o.guard=none) (m x v:Operand) (hop:o.op=Op.mapUpdate 82 m x v) (b:Nat) (vs:List (Int × Int)) (hm:a.eval m=.map (some b)) (h:IM w b vs) (hl:vs.length<1000000) (y:Int × Int)
  (hx:a.eval x=.int .i64 vs.length) (hv:a.eval v=.agg #[.int .i64 y.1,.int .i64 y.2,.int .i64 0,.int .i64 0,.int .i64 0])
  (hK:∀w',IM w' b (vs ++ [y])→w.grownBy w' (some b)→wpList Try.prog ops Q rest (a.put o.dst undef) w'):wpList Try.prog ops Q (o :: rest) a w:=by
 obtain⟨D,h1,h3,h4⟩:=h
 have hk:=key_i vs.length hl
 refine wpList_mapUpdate_own w hg m x v _ hop 3 76 lawI Try.uIm readEg b _ D hm h1 (by unfold maxLen;omega) (.int .i64 vs.length) _ (.int .i64 vs.length) hx hv (keyOf_i ⟨by omega,by omega⟩) (datE y.1 y.2 0 0 0) [] rfl ?_
 intro w' hown hgrow
 have hT:=h1.tidy lawI
 refine hK w' ⟨_,by rw[List.length_append,List.length_singleton];exact hown,fun i hi=>?_,fun i x hix z=>?_⟩ hgrow
 ·by_cases e:i=vs.length
  ·subst e
   rw[Maps.has_put_same hT.isMap hk];simp
  ·rw[Maps.has_put_other (fun q=>e (by injection q with _ q;omega)),h3 i hi]
   simp only[List.length_append,List.length_singleton,decide_eq_decide]
   omega
 ·by_cases e:i=vs.length
  ·subst e
   rw[List.getElem?_append_right (Nat.le_refl _),Nat.sub_self] at hix
   cases hix
   rw[Maps.atKey_put_same hT.isMap hk]
  ·rw[Maps.atKey_put_other (fun q=>e (by injection q with _ q;omega))]
   refine h4 i x ?_ z
   have:=(List.getElem?_eq_some_iff.1 hix).1
   rw[List.length_append,List.length_singleton] at this
   rwa [List.getElem?_append_left (by omega)] at hix
theorem IM.get {W:World} {b:Nat} {vs:List (Int × Int)} (h:IM W b vs) {i:Nat} {x:Int × Int} (hx:vs[i]?=some x) (hi:i<1000000):(Instr.lookup 82 (.map (some b)) (.int .i64 i) false).run Try.prog W=.ok (.agg #[.int .i64 x.1,.int .i64 x.2,.int .i64 0,.int .i64 0,.int .i64 0]) W:=by
 obtain⟨D,⟨es,clock,hb,F,hs,rfl⟩,h3,h4⟩:=h
 have hlt:=(List.getElem?_eq_some_iff.1 hx).1
 rcases Maps.fit_look false lawI Try.uIm (zeroEg W) hb F (keyOf_i (a:=(i:Int)) ⟨by omega,by omega⟩) with⟨_,_,hat⟩ | ⟨e0,y,_,_,hrun,hR,hat,_⟩
 ·exfalso
  have h6:=h3 i hi
  rw[Maps.has_false_of_atKey hat] at h6
  simp[hlt] at h6
 ·have h6:=h4 i x hx (datE 0 0 0 0 0)
  rw[hat] at h6
  obtain⟨a,b',c,d,e,hv,hy⟩:=readEg_inv hR
  rw[hy] at h6
  obtain⟨rfl,rfl,rfl,rfl,rfl⟩:=datE_inj h6
  rw[hv] at hrun
  exact hrun
end Go.Proofs.Ytealnhaffphamaa

namespace Go.Proofs.Ytealnhaffphamaa
open Go.RowKit Go.Shelf Go.Proofs.YtealnhaffphamaaW.PrintWords
def idxA (pre:List PV) (v:Int):List Nat:=(List.range pre.length).filter fun j=>match pre[j]? with | some x=>x.v == v | none=>false
theorem idxA_snoc (pre:List PV) (x:PV) (v:Int):idxA (pre ++ [x]) v=idxA pre v ++ if x.v=v then[pre.length] else[]:=by
 unfold idxA
 rw[List.length_append,List.length_singleton,List.range_succ,List.filter_append]
 congr 1
 ·refine List.filter_congr (fun j hj=>?_)
  rw[List.getElem?_append_left (List.mem_range.1 hj)]
 ·rw[List.filter_cons,List.filter_nil]
  simp
theorem idxA_mem {pre:List PV} {v:Int} {j:Nat}:j∈idxA pre v↔∃x,pre[j]?=some x∧x.v=v:=by
 unfold idxA
 rw[List.mem_filter,List.mem_range]
 constructor
 ·rintro⟨hj,h⟩
  rw[List.getElem?_eq_getElem hj] at h
  exact⟨_,List.getElem?_eq_getElem hj,by simpa using h⟩
 ·rintro⟨x,hx,h⟩
  exact⟨(List.getElem?_eq_some_iff.1 hx).1,by rw[hx];simpa using h⟩
theorem idxA_len (pre:List PV) (v:Int):(idxA pre v).length≤pre.length:=by
 unfold idxA
 have:=List.length_filter_le (fun j=>match pre[j]? with | some x=>x.v == v | none=>false) (List.range pre.length)
 simpa using this
theorem snocInd {α:Type} {P:List α→Prop} (h0:P []) (h1:∀l x,P l→P (l ++ [x])) (l:List α):P l:=by
 have h:∀m:List α,P m.reverse:=by
  intro m
  induction m with
  | nil=>exact h0
  | cons x m ih=>rw[List.reverse_cons];exact h1 _ _ ih
 have:=h l.reverse
 rwa [List.reverse_reverse] at this
theorem idxA_rows (pre:List PV) (v:Nat):(idxA pre v).filterMap (fun j=>pre[j]?)=rowsA pre v:=by
 refine snocInd (P:=fun pre=>(idxA pre v).filterMap (fun j=>pre[j]?)=rowsA pre v) (by simp[idxA,rowsA]) (fun pre x ih=>?_) pre
 ·show _=_
  rw[idxA_snoc,rowsA_snoc,List.filterMap_append]
  congr 1
  ·rw[←ih]
   have hq:∀l:List Nat,(∀j∈l,j<pre.length)→l.filterMap (fun j=>(pre ++ [x])[j]?)=l.filterMap (fun j=>pre[j]?):=by
    intro l
    induction l with
    | nil=>intro _;rfl
    | cons j l ih=>
     intro h
     rw[List.filterMap_cons,List.filterMap_cons,ih (fun k hk=>h k (List.mem_cons_of_mem _ hk)),List.getElem?_append_left (h j List.mem_cons_self)]
   refine hq _ (fun j hj=>?_)
   obtain⟨y,hy,_⟩:=idxA_mem.1 hj
   exact(List.getElem?_eq_some_iff.1 hy).1
  ·split
   ·simp
   ·rfl
def atL (pre:List PV) (n:Nat):List (List Int):=(List.range n).map fun(v:Nat)=>natsI (idxA pre v)
theorem atL_at {pre:List PV} {n v:Nat} (h:v<n):lA (atL pre n) v=natsI (idxA pre v):=by
 unfold lA atL
 rw[List.getD_eq_getElem?_getD,List.getElem?_map,List.getElem?_range h];rfl
theorem atL_len (pre:List PV) (n:Nat):(atL pre n).length=n:=by simp[atL]
theorem atL_nil (n:Nat):atL [] n=List.replicate n []:=by
 unfold atL idxA natsI
 refine List.ext_getElem (by simp) (fun j h1 h2=>by simp)
theorem atL_snoc {pre:List PV} {n v:Nat} {x:PV} (hx:x.v=v) (h:v<n):(atL pre n).set v (natsI (idxA pre v) ++ [(pre.length:Int)])=atL (pre ++ [x]) n:=by
 refine List.ext_getElem (by simp[atL]) (fun j h1 h2=>?_)
 have hj:j<n:=by simpa [atL] using h2
 rw[List.getElem_set]
 unfold atL
 simp only[List.getElem_map,List.getElem_range,idxA_snoc,hx]
 by_cases e:v=j
 ·subst e;simp[natsI]
 ·rw[if_neg e,if_neg (by omega),List.append_nil]
def lonV (fs:Fs) (pre:List PV) (v:Nat):Bool:=pre.any fun x=>x.v == (v:Int) && (lpA fs x.f x.l).length == 1
theorem lonV_one {fs:Fs} {pre:List PV} {x:PV} {v:Nat} (hx:x.v=v) (h:(lpA fs x.f x.l).length=1):lonV fs (pre ++ [x])=mark (lonV fs pre) v:=by
 funext g
 unfold lonV mark
 rw[List.any_append]
 simp only[List.any_cons,List.any_nil,Bool.or_false,hx,h]
 by_cases e:g=v
 ·subst e;simp
 ·rw[if_neg e,show((v:Int) == (g:Int))=false by simp;omega];simp
theorem lonV_more {fs:Fs} {pre:List PV} {x:PV} (h:(lpA fs x.f x.l).length≠1):lonV fs (pre ++ [x])=lonV fs pre:=by
 funext g
 unfold lonV
 rw[List.any_append]
 simp[h]
theorem lonV_same {fs:Fs} {pre:List PV} {x:PV} {v:Nat} (hx:x.v=v) (h:lonV fs pre v=true):lonV fs (pre ++ [x])=lonV fs pre:=by
 funext g
 unfold lonV at h ⊢
 rw[List.any_append]
 simp only[List.any_cons,List.any_nil,Bool.or_false,hx]
 by_cases e:g=v
 ·subst e;rw[h];simp
 ·rw[show((v:Int) == (g:Int))=false by simp;omega];simp
def leaL (pre:List PV):List (Int × Int):=pre.map fun x=>(x.v,x.a)
def comL (pre:List PV):List (Int × Int):=pre.map fun x=>(x.b,x.v)
section
variable {ops:Array Oper} {rest:List Oper} {o:Oper} {a:Act} {Q:Exit→Act→World→Prop} {w:World}
theorem wpList_append_int (hgd:o.guard=none) (s x:Operand) (ho:o.op=.call { callee:=.builtin .append,args:=#[s,x],argTypes:=#[36,36] })
  (base:Nat) (v:Value) (xs:List Int) (z:Int) (hs:a.eval s=v) (hown:w.ownsRow base 3 1 v xs.length (intsV xs))
  (m:Nat) (hx:a.eval x=.slice (some ⟨m,0,none⟩) 1 1) (hm:Blk w m (.cells #[.int .i64 z] 3)) (hn:xs.length≤1000000) (hbase:base≤w.heap.size)
  (h:∀v1 w1,w1.ownsRow base 3 1 v1 (xs ++ [z]).length (intsV (xs ++ [z]))→w.grownBy w1 v.ownBlock→(v1.ownBlock=v.ownBlock∨v1.ownBlock=some w.heap.size)→wpList Try.prog ops Q rest (a.put o.dst v1) w1) :
  wpList Try.prog ops Q (o :: rest) a w:=by
 refine wpList_plain hgd fun K' hK'=>?_
 have h1:=step_append_int (ops:=ops) (Q:=Q) (K:=K') (E:=True) hgd s x ho base v xs z hs hown m hx hm hn hbase (fun v1 w1 a1 a2 a3=>hK' _ _ (h v1 w1 a1 a2 a3))
 rwa [if_pos (by simp[Region.wanted,hgd])] at h1
end
theorem own_ne_im {W:World} {base e size n k:Nat} {v:Value} {xs:List Value} {vs:List (Int × Int)} (ho:W.ownsRow base e size v n xs) (h:IM W k vs):v.ownBlock≠some k:=by
 intro q
 obtain⟨c,hc⟩:=own_typed ho k q
 obtain⟨D,⟨es,clock,hb,_⟩,_⟩:=h
 rw[hb] at hc
 cases hc
theorem blk_ne_im {W:World} {k b:Nat} {cs:Array Value} {t:TypeId} {vs:List (Int × Int)} (ho:Blk W b (.cells cs t)) (h:IM W k vs):b≠k:=by
 rintro rfl
 obtain⟨D,⟨es,clock,hb,_⟩,_⟩:=h
 unfold Blk at ho
 rw[hb] at ho
 cases ho
structure FI (os:List Obj) (w W2:World) (B:Nat) (fs:Fs) (n NB M k1 k2:Nat) (pre:List PV) (lv:Nat→Value) (W:World):Prop where
 obs:Obs os w W
 bel:Below W2.heap.size W2 W
 row:FW B (.slice (some ⟨NB,0,none⟩) n n) (atL pre n) n lv W
 dis:FD n lv
 lon:Blk W M (.cells (mb n (lonV fs pre)) 4)
 lea:IM W k1 (leaL pre)
 com:IM W k2 (comL pre)
 ne:k1≠k2
 low:w.heap.size+os.length≤B∧W2.heap.size=B∧B≤M∧B≤k1∧B≤k2
section
variable {os:List Obj} {w W2 W W':World} {B:Nat} {fs:Fs} {n NB M k1 k2:Nat} {pre:List PV} {lv:Nat→Value} {v ph:Nat} {u:Value} {x:PV}
theorem FI.grown (h:FI os w W2 B fs n NB M k1 k2 pre lv W) (hg:W.grownBy W' none):FI os w W2 B fs n NB M k1 k2 pre lv W':=
 ⟨h.obs.grown hg,h.bel.grown hg h.bel.size (fun k e=>by cases e),h.row.kept hg (fun r e=>by cases e),h.dis,h.lon.kept hg (by simp),h.lea.kept hg (by simp),h.com.kept hg (by simp),h.ne,h.low⟩
theorem FI.sz (h:FI os w W2 B fs n NB M k1 k2 pre lv W):B≤W.heap.size:=by rw[←h.low.2.1];exact h.bel.size
theorem FI.nb (h:FI os w W2 B fs n NB M k1 k2 pre lv W):B≤NB:=(h.row.lt (.inl rfl)).1
theorem FI.cell (h:FI os w W2 B fs n NB M k1 k2 pre lv W) {v:Nat} (hv:v<n):W.cell? ⟨NB,v,none⟩=some (lv v):=by
 have q0:=World.ownsRow.cellAt h.row.own v (by omega)
 rw[List.getElem?_map,List.getElem?_range hv] at q0
 exact q0
structure FJ (os:List Obj) (w W2:World) (B:Nat) (fs:Fs) (n NB M k1 k2:Nat) (pre:List PV) (lv:Nat→Value) (v:Nat) (u:Value) (xs:List Int) (W:World):Prop where
 obs:Obs os w W
 bel:Below W2.heap.size W2 W
 fq:FQ B (.slice (some ⟨NB,0,none⟩) n n) (atL pre n) n lv v u xs W
 lon:Blk W M (.cells (mb n (lonV fs pre)) 4)
 lea:IM W k1 (leaL pre)
 com:IM W k2 (comL pre)
 ne:k1≠k2
 low:w.heap.size+os.length≤B∧W2.heap.size=B∧B≤M∧B≤k1∧B≤k2
theorem FI.pend (h:FI os w W2 B fs n NB M k1 k2 pre lv W) {v:Nat} {u:Value} {xs:List Int} (hv:v<n) (hg:W.grownBy W' (lv v).ownBlock) (hu:W'.ownsRow B 3 1 u xs.length (intsV xs)) (hat:u.ownBlock=(lv v).ownBlock∨u.ownBlock=some W.heap.size) :
  FJ os w W2 B fs n NB M k1 k2 pre lv v u xs W':=by
 have ho:=h.row.ownL v hv
 have hlt:=fun r e=>World.ownsRow.lt ho r e
 exact⟨h.obs.kept hg (fun k e=>by have:=(hlt k e).1;have:=h.low.1;omega),h.bel.grown hg h.bel.size (fun k e=>by have:=(hlt k e).1;rw[h.low.2.1];exact this),h.row.pendL h.dis hv hg hu hat,
  h.lon.kept hg (fun e=>own_ne_blk ho h.lon (by decide) e.symm),h.lea.kept hg (fun e=>own_ne_im ho h.lea e.symm),h.com.kept hg (fun e=>own_ne_im ho h.com e.symm),h.ne,h.low⟩
structure FK (os:List Obj) (w W2:World) (B:Nat) (fs:Fs) (n NB M k1 k2:Nat) (pre:List PV) (x:PV) (ph:Nat) (lv:Nat→Value) (W:World):Prop where
 obs:Obs os w W
 bel:Below W2.heap.size W2 W
 row:FW B (.slice (some ⟨NB,0,none⟩) n n) (atL (pre ++ [x]) n) n lv W
 dis:FD n lv
 lon:Blk W M (.cells (mb n (lonV fs (if 0<ph then pre ++ [x] else pre))) 4)
 lea:IM W k1 (leaL (if 1<ph then pre ++ [x] else pre))
 com:IM W k2 (comL (if 2<ph then pre ++ [x] else pre))
 ne:k1≠k2
 low:w.heap.size+os.length≤B∧W2.heap.size=B∧B≤M∧B≤k1∧B≤k2
theorem FJ.store (h:FJ os w W2 B fs n NB M k1 k2 pre lv v u (natsI (idxA pre v) ++ [(pre.length:Int)]) W) {x:PV} (hx:x.v=v) (hv:v<n) :
  ∃lv',FK os w W2 B fs n NB M k1 k2 pre x 0 lv' (W.setCell ⟨NB,v,none⟩ u):=by
 obtain⟨h1,h2⟩:=h.fq.store (atL_len pre n).symm hv rfl
 rw[atL_snoc hx hv] at h1
 have hg:=grown_set W NB v u
 have hnb:B≤NB:=(World.ownsRow.lt h.fq.own NB rfl).1
 exact⟨_,h.obs.kept hg (fun k e=>by cases e;have:=h.low.1;omega),h.bel.grown hg h.bel.size (fun k e=>by cases e;rw[h.low.2.1];exact hnb),h1,h2,
  h.lon.kept hg (fun e=>own_ne_blk h.fq.own h.lon (by decide) e.symm),h.lea.kept hg (fun e=>own_ne_im h.fq.own h.lea e.symm),h.com.kept hg (fun e=>own_ne_im h.fq.own h.com e.symm),h.ne,h.low⟩
theorem FK.done (h:FK os w W2 B fs n NB M k1 k2 pre x 3 lv W):FI os w W2 B fs n NB M k1 k2 (pre ++ [x]) lv W:=⟨h.obs,h.bel,h.row,h.dis,h.lon,h.lea,h.com,h.ne,h.low⟩
theorem FK.sz (h:FK os w W2 B fs n NB M k1 k2 pre x ph lv W):B≤W.heap.size:=by rw[←h.low.2.1];exact h.bel.size
theorem FK.drawn (h:FK os w W2 B fs n NB M k1 k2 pre x ph lv W) (hg:W.grownBy W' none):FK os w W2 B fs n NB M k1 k2 pre x ph lv W':=
 ⟨h.obs.grown hg,h.bel.grown hg h.bel.size (fun k e=>by cases e),h.row.kept hg (fun r e=>by cases e),h.dis,h.lon.kept hg (by simp),h.lea.kept hg (by simp),h.com.kept hg (by simp),h.ne,h.low⟩
theorem FK.lon1 (h:FK os w W2 B fs n NB M k1 k2 pre x 0 lv W) {v:Nat} {b:Bool} (hx:x.v=v) (hb:b=(lonV fs pre v || decide ((lpA fs x.f x.l).length=1))) :
  FK os w W2 B fs n NB M k1 k2 pre x 1 lv (W.setCell ⟨M,v,none⟩ (.bool b)):=by
 have hg:=grown_set W M v (.bool b)
 have h1:=blk_set (o:=v) (x:=.bool b) h.lon
 have hne:∀r,some M=some r→¬ FB (.slice (some ⟨NB,0,none⟩) n n) n lv r:=fun r e q=>by
  cases e
  rcases q with q | ⟨l,hl,q⟩
  ·exact own_ne_blk h.row.own h.lon (by decide) q
  ·exact own_ne_blk (h.row.ownL l hl) h.lon (by decide) q
 refine⟨h.obs.kept hg (fun k e=>by cases e;have:=h.low.1;have:=h.low.2.2.1;omega),h.bel.grown hg h.bel.size (fun k e=>by cases e;rw[h.low.2.1];exact h.low.2.2.1),h.row.kept hg hne,h.dis,?_,
  h.lea.kept hg (fun e=>blk_ne_im h.lon h.lea (by injection e with e;exact e.symm)),h.com.kept hg (fun e=>blk_ne_im h.lon h.com (by injection e with e;exact e.symm)),h.ne,h.low⟩
 rw[if_neg (by omega)] at h1
 rw[if_pos (by omega)]
 have e:(mb n (lonV fs pre)).setIfInBounds v (.bool b)=mb n (lonV fs (pre ++ [x])):=by
  by_cases hm:lonV fs pre v=true
  ·rw[lonV_same hx hm]
   rw[hm,Bool.true_or] at hb
   rw[hb,mb_mark]
   congr 1
   funext g
   unfold mark
   split
   ·rename_i e;rw[e,hm]
   ·rfl
  ·rw[Bool.not_eq_true] at hm
   rw[hm,Bool.false_or] at hb
   by_cases h2:(lpA fs x.f x.l).length=1
   ·rw[lonV_one hx h2,hb,decide_eq_true h2,mb_mark]
   ·rw[lonV_more h2,hb,decide_eq_false h2]
    refine Array.ext_getElem? (fun j=>?_)
    rw[Array.getElem?_setIfInBounds]
    split
    ·rename_i e
     subst e
     split
     ·rename_i hj
      have:v<n:=by simpa [mb] using hj
      rw[mb_get _ this,hm]
     ·rename_i hj
      rw[Array.getElem?_eq_none (by omega)]
    ·rfl
 rw[←e]
 exact h1
theorem FK.lea2 (h:FK os w W2 B fs n NB M k1 k2 pre x 1 lv W) (hg:W.grownBy W' (some k1)) (hi:IM W' k1 (leaL pre ++ [(x.v,x.a)])):FK os w W2 B fs n NB M k1 k2 pre x 2 lv W':=by
 have hne:∀r,some k1=some r→¬ FB (.slice (some ⟨NB,0,none⟩) n n) n lv r:=fun r e q=>by
  cases e
  rcases q with q | ⟨l,hl,q⟩
  ·exact own_ne_im h.row.own h.lea q
  ·exact own_ne_im (h.row.ownL l hl) h.lea q
 have hl:=h.low
 refine⟨h.obs.kept hg (fun k e=>by cases e;omega),h.bel.grown hg h.bel.size (fun k e=>by cases e;omega),h.row.kept hg hne,h.dis,h.lon.kept hg (fun e=>blk_ne_im h.lon h.lea (by injection e)),?_,h.com.kept hg (fun e=>h.ne (by injection e with e;exact e.symm)),h.ne,h.low⟩
 rw[if_pos (by omega)]
 simpa [leaL] using hi
theorem FK.com3 (h:FK os w W2 B fs n NB M k1 k2 pre x 2 lv W) (hg:W.grownBy W' (some k2)) (hi:IM W' k2 (comL pre ++ [(x.b,x.v)])):FK os w W2 B fs n NB M k1 k2 pre x 3 lv W':=by
 have hne:∀r,some k2=some r→¬ FB (.slice (some ⟨NB,0,none⟩) n n) n lv r:=fun r e q=>by
  cases e
  rcases q with q | ⟨l,hl,q⟩
  ·exact own_ne_im h.row.own h.com q
  ·exact own_ne_im (h.row.ownL l hl) h.com q
 have hl:=h.low
 refine⟨h.obs.kept hg (fun k e=>by cases e;omega),h.bel.grown hg h.bel.size (fun k e=>by cases e;omega),h.row.kept hg hne,h.dis,h.lon.kept hg (fun e=>blk_ne_im h.lon h.com (by injection e)),h.lea.kept hg (fun e=>h.ne (by injection e)),?_,h.ne,h.low⟩
 rw[if_pos (by omega)]
 simpa [comL] using hi
end
end Go.Proofs.Ytealnhaffphamaa

namespace Go.Proofs.Ytealnhaffphamaa
open Go.RowKit Go.Shelf Go.Proofs.YtealnhaffphamaaW.PrintWords
theorem filterMap_at {α β:Type} (f:α→Option β):∀(l:List α),(∀j∈l,∃x,f j=some x)→(l.filterMap f).length=l.length∧∀i:Nat,(l.filterMap f)[i]?=l[i]?.bind f:=by
 intro l
 induction l with
 | nil=>intro _;exact⟨rfl,fun i=>by simp⟩
 | cons j l ih=>
  intro h
  obtain⟨x,hx⟩:=h j List.mem_cons_self
  obtain⟨h1,h2⟩:=ih (fun k hk=>h k (List.mem_cons_of_mem _ hk))
  rw[List.filterMap_cons_some hx]
  refine⟨by simp[h1],fun i=>?_⟩
  cases i with
  | zero=>simp[hx]
  | succ i=>simpa using h2 i
theorem rows_idx (pre:List PV) (v:Nat):(rowsA pre v).length=(idxA pre v).length∧∀i,i<(idxA pre v).length→∃j x,(idxA pre v)[i]?=some j∧pre[j]?=some x∧(rowsA pre v)[i]?=some x:=by
 obtain⟨h1,h2⟩:=filterMap_at (fun j=>pre[j]?) (idxA pre v) (fun j hj=>by obtain⟨x,hx,_⟩:=idxA_mem.1 hj;exact⟨x,hx⟩)
 rw[idxA_rows] at h1 h2
 refine⟨h1,fun i hi=>?_⟩
 have h3:=h2 i
 rw[List.getElem?_eq_getElem hi] at h3
 obtain⟨x,hx,_⟩:=idxA_mem.1 (List.getElem_mem hi)
 exact⟨_,x,List.getElem?_eq_getElem hi,hx,by rw[h3];exact hx⟩
def LinkP (xs:List PV) (i k:Nat):Prop:=∃x y,xs[i]?=some x∧xs[k]?=some y∧x.a=y.b
def ConnP (L:Nat→Nat→Prop) (i j:Nat):Prop:=∀E:Nat→Nat→Prop,(∀a,E a a)→(∀a b,E a b→E b a)→(∀a b c,E a b→E b c→E a c)→(∀a b,L a b→E a b)→E i j
theorem ConnP.refl (L:Nat→Nat→Prop) (i:Nat):ConnP L i i:=fun _ h _ _ _=>h i
theorem ConnP.symm {L:Nat→Nat→Prop} {i j:Nat} (h:ConnP L i j):ConnP L j i:=fun E a b c d=>b _ _ (h E a b c d)
theorem ConnP.trans {L:Nat→Nat→Prop} {i j k:Nat} (h:ConnP L i j) (h2:ConnP L j k):ConnP L i k:=fun E a b c d=>c _ _ _ (h E a b c d) (h2 E a b c d)
theorem ConnP.one {L:Nat→Nat→Prop} {i j:Nat} (h:L i j):ConnP L i j:=fun _ _ _ _ d=>d _ _ h
structure GInv (L:Nat→Nat→Prop) (q:Nat) (P:Nat→Nat→Prop) (g:List Int):Prop where
 len:g.length=q
 sound:∀i j,i<q→j<q→g.getD i 0=g.getD j 0→ConnP L i j
 full:∀i k,i<q→k<q→P i k→L i k→g.getD i 0=g.getD k 0
section
variable {L:Nat→Nat→Prop} {q:Nat} {P P':Nat→Nat→Prop} {g:List Int}
theorem natsI_at {q i:Nat} (h:i<q):(natsI (List.range q)).getD i 0=i:=by
 unfold natsI
 rw[List.getD_eq_getElem?_getD,List.getElem?_map,List.getElem?_range h];rfl
theorem GInv.start (L:Nat→Nat→Prop) (q:Nat) (hP:∀i k,¬ P i k):GInv L q P (natsI (List.range q)):=by
 refine⟨by simp[natsI],fun i j hi hj h=>?_,fun i k _ _ h _=>absurd h (hP i k)⟩
 rw[natsI_at hi,natsI_at hj] at h
 obtain rfl:i=j:=by omega
 exact ConnP.refl _ _
theorem GInv.skip (h:GInv L q P g) {x y:Nat} (hP:∀i k,P' i k→P i k∨(i=x∧k=y)) (hn:¬ L x y):GInv L q P' g:=by
 refine⟨h.len,h.sound,fun i k hi hk hp hl=>?_⟩
 rcases hP i k hp with hp | ⟨rfl,rfl⟩
 ·exact h.full i k hi hk hp hl
 ·exact absurd hl hn
theorem GInv.weaken (h:GInv L q P g) (hP:∀i k,i<q→k<q→P' i k→P i k):GInv L q P' g:=⟨h.len,h.sound,fun i k hi hk hp hl=>h.full i k hi hk (hP i k hi hk hp) hl⟩
theorem mrgL_at {x y i:Nat} (hi:i<g.length):(mrgL g x y).getD i 0=subV (g.getD x 0) (g.getD y 0) (g.getD i 0):=by
 unfold mrgL
 rw[List.getD_eq_getElem?_getD,List.getElem?_map,List.getElem?_eq_getElem hi,show g.getD i 0=g[i] by rw[List.getD_eq_getElem?_getD,List.getElem?_eq_getElem hi];rfl];rfl
theorem GInv.merge (h:GInv L q P g) {x y:Nat} (hx:x<q) (hy:y<q) (hP:∀i k,P' i k→P i k∨(i=x∧k=y)) (hl:L x y):GInv L q P' (mrgL g x y):=by
 have hm:∀i,i<q→(mrgL g x y).getD i 0=subV (g.getD x 0) (g.getD y 0) (g.getD i 0):=fun i hi=>mrgL_at (by rw[h.len];exact hi)
 refine⟨by rw[mrgL,List.length_map];exact h.len,fun i j hi hj hij=>?_,fun i k hi hk hp hl2=>?_⟩
 ·rw[hm i hi,hm j hj] at hij
  unfold subV at hij
  have cxy:=ConnP.one hl
  split at hij <;> split at hij
  ·rename_i a b
   exact h.sound i j hi hj (a.trans b.symm)
  ·rename_i a b
   exact(h.sound i x hi hx a).trans (cxy.trans (h.sound y j hy hj hij))
  ·rename_i a b
   exact(h.sound i y hi hy hij).trans (cxy.symm.trans (h.sound x j hx hj b.symm))
  ·exact h.sound i j hi hj hij
 ·rw[hm i hi,hm k hk]
  rcases hP i k hp with hp | ⟨rfl,rfl⟩
  ·rw[h.full i k hi hk hp hl2]
  ·unfold subV
   rw[if_pos rfl]
   split <;> rfl
theorem GInv.done (h:GInv L q P g) (hP:∀i k,i<q→k<q→P i k) (hL:∀i k,L i k→i<q∧k<q) {i:Nat} (hi:i<q) (h0:0<q):g.getD i 0=g.getD 0 0↔ConnP L i 0:=by
 refine⟨h.sound i 0 hi h0,fun hc=>?_⟩
 have h1:=hc (fun a b=>a=b∨(a<q∧b<q∧g.getD a 0=g.getD b 0)) (fun a=>.inl rfl) (fun a b hab=>by
  rcases hab with rfl | ⟨a1,a2,a3⟩
  ·exact .inl rfl
  ·exact .inr ⟨a2,a1,a3.symm⟩) (fun a b c hab hbc=>by
  rcases hab with rfl | ⟨a1,a2,a3⟩
  ·exact hbc
  ·rcases hbc with rfl | ⟨b1,b2,b3⟩
   ·exact .inr ⟨a1,a2,a3⟩
   ·exact .inr ⟨a1,b2,a3.trans b3⟩) (fun a b hab=>by
  obtain⟨a1,a2⟩:=hL a b hab
  exact .inr ⟨a1,a2,h.full a b a1 a2 (hP a b a1 a2) hab⟩)
 rcases h1 with rfl | ⟨_,_,h1⟩
 ·rfl
 ·exact h1
end
def fillI (q i:Nat):List Int:=natsI (List.range i) ++ List.replicate (q - i) 0
theorem fillI_zero (q:Nat):fillI q 0=List.replicate q 0:=by simp[fillI,natsI]
theorem fillI_all (q:Nat):fillI q q=natsI (List.range q):=by simp[fillI]
theorem fillI_len {q i:Nat} (h:i≤q):(fillI q i).length=q:=by unfold fillI natsI;simp;omega
theorem fillI_set {q i:Nat} (h:i<q):(fillI q i).set i (i:Int)=fillI q (i+1):=by
 refine List.ext_getElem? (fun j=>?_)
 rw[List.getElem?_set,fillI_len (by omega)]
 unfold fillI natsI
 by_cases e:i=j
 ·subst e
  rw[if_pos rfl,if_pos h,List.getElem?_append_left (by simp)]
  simp
 ·rw[if_neg e]
  rcases Nat.lt_or_ge j i with a | a
  ·rw[List.getElem?_append_left (by simp;omega),List.getElem?_append_left (by simp;omega)]
   simp[List.getElem?_range,a,show j<i+1 by omega]
  ·rw[List.getElem?_append_right (by simp;omega),List.getElem?_append_right (by simp;omega)]
   simp only[List.length_map,List.length_range,List.getElem?_replicate]
   by_cases b:j - i<q - i
   ·rw[if_pos b,if_pos (by omega)]
   ·rw[if_neg b,if_neg (by omega)]
def NodeR (fs:Fs) (v:Nat):Prop:=(lonV fs (plsA fs) v=true→(rowsA (plsA fs) v).length≤1)∧(lonV fs (plsA fs) v=false→∀i,i<(rowsA (plsA fs) v).length→ConnP (LinkP (rowsA (plsA fs) v)) i 0)
def RtP (N:Int) (fs:Fs):Prop:=SizR N fs∧EdOk fs∧∀v:Nat,(v:Int)<N→NodeR fs v
end Go.Proofs.Ytealnhaffphamaa

namespace Go.Proofs.Ytealnhaffphamaa
def itN {α:Type} (s:α→α) (x:α):Nat→α
 | 0=>x
 | k+1=>s (itN s x k)
section
variable {α:Type} {l:List α} {s:α→α} {x:α}
theorem itN_add (s:α→α) (x:α) (a b:Nat):itN s x (a+b)=itN s (itN s x a) b:=by
 induction b with
 | zero=>rfl
 | succ b ih=>rw[Nat.add_succ,itN,itN,ih]
theorem itN_mem (hs:∀x∈l,s x∈l) (hx:x∈l) (k:Nat):itN s x k∈l:=by
 induction k with
 | zero=>exact hx
 | succ k ih=>exact hs _ ih
theorem itN_back (hs:∀x∈l,s x∈l) (hi:∀x∈l,∀y∈l,s x=s y→x=y) (hx:x∈l):∀i d,itN s x i=itN s x (i+d)→x=itN s x d:=by
 intro i
 induction i with
 | zero=>intro d h;rw[Nat.zero_add] at h;exact h
 | succ i ih=>
  intro d h
  rw[show i+1+d=(i+d)+1 by omega] at h
  exact ih d (hi _ (itN_mem hs hx i) _ (itN_mem hs hx (i+d)) h)
def orbN (s:α→α) (x:α) (m:Nat):List α:=(List.range m).map (itN s x)
theorem orbN_mem {m:Nat} {y:α}:y∈orbN s x m↔∃k,k<m∧y=itN s x k:=by
 unfold orbN
 rw[List.mem_map]
 exact⟨fun⟨k,h1,h2⟩=>⟨k,List.mem_range.1 h1,h2.symm⟩,fun⟨k,h1,h2⟩=>⟨k,List.mem_range.2 h1,h2.symm⟩⟩
theorem orbN_nodup (hs:∀x∈l,s x∈l) (hi:∀x∈l,∀y∈l,s x=s y→x=y) (hx:x∈l) {m:Nat} (h:∀j,0<j→j<m→itN s x j≠x):(orbN s x m).Nodup:=by
 unfold orbN
 rw[List.nodup_iff_pairwise_ne,List.pairwise_map]
 refine List.Pairwise.imp_of_mem ?_ (List.pairwise_lt_range (n:=m))
 intro a b ha hb hab e
 have h1:=List.mem_range.1 hb
 have h2:=itN_back hs hi hx a (b - a) (by rw[show a+(b - a)=b by omega];exact e)
 exact h (b - a) (by omega) (by omega) h2.symm
theorem cyc_iff (hn:l.Nodup) (hs:∀x∈l,s x∈l) (hi:∀x∈l,∀y∈l,s x=s y→x=y) (hx:x∈l) :
  (itN s x l.length=x∧∀j,0<j→j<l.length→itN s x j≠x)↔∀y∈l,∃k,y=itN s x k:=by
 have hsub:∀m,orbN s x m ⊆ l:=fun m y hy=>by
  obtain⟨k,_,rfl⟩:=orbN_mem.1 hy
  exact itN_mem hs hx k
 have hlen:∀m,(orbN s x m).length=m:=fun m=>by simp[orbN]
 constructor
 ·rintro⟨_,h2⟩ y hy
  rcases Classical.em (y∈orbN s x l.length) with q | q
  ·obtain⟨k,_,e⟩:=orbN_mem.1 q;exact⟨k,e⟩
  ·exfalso
   have h3:(y :: orbN s x l.length).Nodup:=List.nodup_cons.2 ⟨q,orbN_nodup hs hi hx h2⟩
   have h4:=h3.length_le_of_subset (l₂:=l) (fun z hz=>by
    rcases List.mem_cons.1 hz with rfl | hz
    ·exact hy
    ·exact hsub _ hz)
   rw[List.length_cons,hlen] at h4
   omega
 ·intro h
  have hret:∃m,0<m∧itN s x m=x:=by
   refine Classical.byContradiction (fun hno=>?_)
   have h3:=orbN_nodup hs hi hx (m:=l.length+1) (fun j h1 _ e=>hno ⟨j,h1,e⟩)
   have h4:=h3.length_le_of_subset (hsub _)
   rw[hlen] at h4
   omega
  obtain⟨m,⟨hm0,hm⟩,hmin⟩:∃m,(0<m∧itN s x m=x)∧∀j,0<j→j<m→itN s x j≠x:=by
   obtain⟨m0,h0⟩:=hret
   have key:∀n,(∃m,m≤n∧0<m∧itN s x m=x)→∃m,(0<m∧itN s x m=x)∧∀j,0<j→j<m→itN s x j≠x:=by
    intro n
    induction n with
    | zero=>rintro⟨m,h1,h2,_⟩;omega
    | succ n ih=>
     rintro⟨m,h1,h2⟩
     rcases Classical.em (∃m,m≤n∧0<m∧itN s x m=x) with q | q
     ·exact ih q
     ·exact⟨m,h2,fun j hj hjm e=>q ⟨j,by omega,hj,e⟩⟩
   exact key m0 ⟨m0,Nat.le_refl _,h0⟩
  have h3:=orbN_nodup hs hi hx hmin
  have h4:=h3.length_le_of_subset (hsub m)
  rw[hlen] at h4
  have hmod:∀k,itN s x (k * m)=x:=by
   intro k
   induction k with
   | zero=>rw[Nat.zero_mul];rfl
   | succ k ih=>rw[Nat.succ_mul,itN_add,ih,hm]
  have h5:=hn.length_le_of_subset (l₂:=orbN s x m) (fun y hy=>by
   obtain⟨k,rfl⟩:=h y hy
   refine orbN_mem.2 ⟨k % m,Nat.mod_lt _ hm0,?_⟩
   conv=>lhs;rw[←Nat.div_add_mod k m,Nat.mul_comm,itN_add,hmod])
  rw[hlen] at h5
  obtain rfl:m=l.length:=by omega
  exact⟨hm,hmin⟩
theorem orb_closed (hn:l.Nodup) (hs:∀x∈l,s x∈l) (hi:∀x∈l,∀y∈l,s x=s y→x=y) (hx:x∈l) {y:α} (hy:y∈l):(∃k,y=itN s x k)↔∃k,s y=itN s x k:=by
 constructor
 ·rintro⟨k,rfl⟩;exact⟨k+1,rfl⟩
 ·rintro⟨k,hk⟩
  have hret:∃m,0<m∧itN s x m=x:=by
   refine Classical.byContradiction (fun hno=>?_)
   have h3:=orbN_nodup hs hi hx (m:=l.length+1) (fun j h1 _ e=>hno ⟨j,h1,e⟩)
   have h4:=h3.length_le_of_subset (l₂:=l) (fun y hy=>by
    obtain⟨k,_,rfl⟩:=orbN_mem.1 hy
    exact itN_mem hs hx k)
   unfold orbN at h4
   rw[List.length_map,List.length_range] at h4
   omega
  obtain⟨m,hm0,hm⟩:=hret
  cases k with
  | zero=>
   obtain⟨m,rfl⟩:∃m',m=m'+1:=⟨m - 1,by omega⟩
   exact⟨m,hi _ hy _ (itN_mem hs hx m) (hk.trans hm.symm)⟩
  | succ k=>exact⟨k,hi _ hy _ (itN_mem hs hx k) hk⟩
end
end Go.Proofs.Ytealnhaffphamaa

namespace Go.Proofs.Ytealnhaffphamaa
theorem mod_back {i n:Nat} (h:i<n):((i+1) % n+n - 1) % n=i:=by
 rcases Nat.lt_or_ge (i+1) n with q | q
 ·rw[Nat.mod_eq_of_lt q,show i+1+n - 1=i+n by omega,Nat.add_mod_right,Nat.mod_eq_of_lt h]
 ·obtain rfl:n=i+1:=by omega
  rw[Nat.mod_self,show 0+(i+1) - 1=i by omega,Nat.mod_eq_of_lt h]
theorem mod_fore {i n:Nat} (h:i<n):((i+n - 1) % n+1) % n=i:=by
 rcases Nat.eq_zero_or_pos i with rfl | q
 ·rw[Nat.zero_add,Nat.mod_eq_of_lt (show n - 1<n by omega),show n - 1+1=n by omega,Nat.mod_self]
 ·rw[show i+n - 1=(i - 1)+n by omega,Nat.add_mod_right,Nat.mod_eq_of_lt (show i - 1<n by omega),show i - 1+1=i by omega,Nat.mod_eq_of_lt h]
theorem dart_mem {fs:Fs} {x:PV}:x∈dartsA fs (plsA fs)↔x∈plsA fs∧(lpA fs x.f x.l).length≠1:=by
 unfold dartsA dartB
 rw[List.mem_filter]
 simp
def aftP (fs:Fs) (x:PV):PV:=pvA fs x.f x.l ((x.i+1) % (lpA fs x.f x.l).length)
def befP (fs:Fs) (x:PV):PV:=pvA fs x.f x.l ((x.i+(lpA fs x.f x.l).length - 1) % (lpA fs x.f x.l).length)
theorem aft_spec {fs:Fs} {x:PV} (hx:x∈plsA fs):aftP fs x∈plsA fs∧(aftP fs x).v=x.a∧(aftP fs x).b=x.v∧(aftP fs x).f=x.f∧(aftP fs x).l=x.l:=by
 obtain⟨f,l,i,hf,hl,hi,rfl⟩:=mem_pls.1 hx
 refine⟨mem_pls.2 ⟨f,l,_,hf,hl,Nat.mod_lt _ (by show 0<(lpA fs f l).length;omega),rfl⟩,rfl,?_,rfl,rfl⟩
 exact congrArg (fun j=>(lpA fs f l).getD j 0) (mod_back hi)
theorem bef_spec {fs:Fs} {x:PV} (hx:x∈plsA fs):befP fs x∈plsA fs∧(befP fs x).v=x.b∧(befP fs x).a=x.v∧aftP fs (befP fs x)=x:=by
 obtain⟨f,l,i,hf,hl,hi,rfl⟩:=mem_pls.1 hx
 refine⟨mem_pls.2 ⟨f,l,_,hf,hl,Nat.mod_lt _ (by show 0<(lpA fs f l).length;omega),rfl⟩,rfl,?_,?_⟩
 ·exact congrArg (fun j=>(lpA fs f l).getD j 0) (mod_fore hi)
 ·exact congrArg (fun j=>pvA fs f l j) (mod_fore hi)
section
variable {fs:Fs}
theorem step_aft (x:PV) (hx:x∈plsA fs):stepP fs (dartsA fs (plsA fs)) (pl3 x)=pl3 (aftP fs (oppP (dartsA fs (plsA fs)) x)):=by
 have e:=(isP_of hx).2
 unfold stepP
 rw[show pvA fs (pl3 x).1 (pl3 x).2.1 (pl3 x).2.2=x from e.symm]
 rfl
theorem step_spec (h:EdOk fs) {x:PV} (hx:x∈dartsA fs (plsA fs)):aftP fs (oppP (dartsA fs (plsA fs)) x)∈dartsA fs (plsA fs)∧(aftP fs (oppP (dartsA fs (plsA fs)) x)).v=x.v∧(aftP fs (oppP (dartsA fs (plsA fs)) x)).b=x.a:=by
 obtain⟨h1,h2,h3⟩:=oppP_spec h hx
 obtain⟨h4,h5⟩:=dart_mem.1 h1
 obtain⟨a1,a2,a3,a4,a5⟩:=aft_spec h4
 exact⟨dart_mem.2 ⟨a1,by rw[a4,a5];exact h5⟩,a2.trans h3,a3.trans h2⟩
theorem step_link (h:EdOk fs) {x z:PV} (hx:x∈dartsA fs (plsA fs)) (hz:z∈dartsA fs (plsA fs)) (e1:z.v=x.v) (e2:x.a=z.b):z=aftP fs (oppP (dartsA fs (plsA fs)) x):=by
 obtain⟨h4,h5⟩:=dart_mem.1 hz
 obtain⟨b1,b2,b3,b4⟩:=bef_spec h4
 obtain⟨h1,h2,h3⟩:=oppP_spec h hx
 have hb:befP fs z∈dartsA fs (plsA fs):=dart_mem.2 ⟨b1,h5⟩
 have e:=oppP_uniq h hb h1 (by rw[h2,b2,e2]) (by rw[h3,b3,e1])
 rw[e,b4]
theorem pl3_inj {x y:PV} (hx:x∈plsA fs) (hy:y∈plsA fs) (h:pl3 x=pl3 y):x=y:=by
 rw[(isP_of hx).2,(isP_of hy).2]
 unfold pl3 at h
 injection h with h1 h
 injection h with h2 h3
 rw[h1,h2,h3]
theorem iter_it (fs:Fs) (ds:List PV) (p:Nat × Nat × Nat) (k:Nat):iterP fs ds p k=itN (stepP fs ds) p k:=by
 induction k with
 | zero=>rfl
 | succ k ih=>rw[iterP,itN,ih]
def atD (fs:Fs) (v:Nat):List PV:=(rowsA (plsA fs) v).filter (dartB fs)
theorem atD_mem {v:Nat} {x:PV}:x∈atD fs v↔x∈dartsA fs (plsA fs)∧x.v=(v:Int):=by
 unfold atD rowsA dartsA
 simp only[List.mem_filter,beq_iff_eq]
 exact⟨fun h=>⟨⟨h.1.1,h.2⟩,h.1.2⟩,fun h=>⟨⟨h.1.1,h.2⟩,h.1.2⟩⟩
theorem atD_nodup (h:EdOk fs) (v:Nat):((atD fs v).map pl3).Nodup:=by
 have h1:(atD fs v).Pairwise (fun x y=>¬ (x.v=y.v∧x.a=y.a)):=by
  have e:atD fs v=rowsA (dartsA fs (plsA fs)) v:=by
   unfold atD rowsA dartsA
   rw[List.filter_filter,List.filter_filter]
   exact List.filter_congr (fun x _=>Bool.and_comm _ _)
  rw[e]
  exact h.1.1.sublist List.filter_sublist
 rw[List.nodup_iff_pairwise_ne,List.pairwise_map]
 refine List.Pairwise.imp_of_mem ?_ h1
 intro a b ha hb hab e
 have e2:=pl3_inj (dart_mem.1 (atD_mem.1 ha).1).1 (dart_mem.1 (atD_mem.1 hb).1).1 e
 exact hab (by rw[e2];exact⟨rfl,rfl⟩)
theorem atD_step (h:EdOk fs) (v:Nat):∀p∈(atD fs v).map pl3,stepP fs (dartsA fs (plsA fs)) p∈(atD fs v).map pl3:=by
 intro p hp
 obtain⟨x,hx,rfl⟩:=List.mem_map.1 hp
 obtain⟨h1,h2⟩:=atD_mem.1 hx
 obtain⟨a1,a2,_⟩:=step_spec h h1
 rw[step_aft x (dart_mem.1 h1).1]
 exact List.mem_map.2 ⟨_,atD_mem.2 ⟨a1,a2.trans h2⟩,rfl⟩
theorem atD_inj (h:EdOk fs) (v:Nat):∀p∈(atD fs v).map pl3,∀q∈(atD fs v).map pl3,stepP fs (dartsA fs (plsA fs)) p=stepP fs (dartsA fs (plsA fs)) q→p=q:=by
 intro p hp q hq e
 obtain⟨x,hx,rfl⟩:=List.mem_map.1 hp
 obtain⟨y,hy,rfl⟩:=List.mem_map.1 hq
 obtain⟨h1,h2⟩:=atD_mem.1 hx
 obtain⟨h3,h4⟩:=atD_mem.1 hy
 rw[step_aft x (dart_mem.1 h1).1,step_aft y (dart_mem.1 h3).1] at e
 obtain⟨a1,_,a3⟩:=step_spec h h1
 obtain⟨b1,_,b3⟩:=step_spec h h3
 have e2:=pl3_inj (dart_mem.1 a1).1 (dart_mem.1 b1).1 e
 have e3:x.a=y.a:=by rw[←a3,←b3,e2]
 rw[oppP_uniq h h3 h1 (h2.trans h4.symm) e3]
theorem lon_mem {v:Nat}:lonV fs (plsA fs) v=true↔∃x∈rowsA (plsA fs) v,(lpA fs x.f x.l).length=1:=by
 unfold lonV rowsA
 rw[List.any_eq_true]
 constructor
 ·rintro⟨x,hx,h⟩
  simp only[Bool.and_eq_true,beq_iff_eq] at h
  exact⟨x,List.mem_filter.2 ⟨hx,by simpa using h.1⟩,h.2⟩
 ·rintro⟨x,hx,h⟩
  obtain⟨h1,h2⟩:=List.mem_filter.1 hx
  exact⟨x,h1,by simp[h,by simpa using h2]⟩
theorem node_iff (h:EdOk fs) (v:Nat) (hne:rowsA (plsA fs) v≠[]):NodeOk fs (dartsA fs (plsA fs)) (rowsA (plsA fs) v)↔NodeR fs v:=by
 obtain⟨x,rest,e⟩:=List.exists_cons_of_ne_nil hne
 have hxr:x∈rowsA (plsA fs) v:=by rw[e];exact List.mem_cons_self
 have hxp:x∈plsA fs:=(List.mem_filter.1 hxr).1
 have hxv:x.v=(v:Int):=by simpa using(List.mem_filter.1 hxr).2
 have hall:(∀y∈rowsA (plsA fs) v,(lpA fs y.f y.l).length≠1)→atD fs v=rowsA (plsA fs) v:=fun q=>by
  unfold atD
  rw[List.filter_eq_self]
  intro y hy
  show((lpA fs y.f y.l).length != 1)=true
  simpa using q y hy
 constructor
 ·intro hN
  rw[e] at hN
  obtain⟨h1,h2⟩:=node_cons.1 hN
  by_cases hl:(lpA fs x.f x.l).length=1
  ·have hr:=h1 hl
   refine⟨fun _=>by rw[e,hr];simp,fun _ i hi=>?_⟩
   rw[e,hr] at hi
   obtain rfl:i=0:=by simpa using hi
   exact ConnP.refl _ _
  ·obtain⟨h3,h4⟩:=h2 hl
   rw[←e] at h3 h4
   have hxd:x∈dartsA fs (plsA fs):=dart_mem.2 ⟨hxp,hl⟩
   have hx0:pl3 x∈(atD fs v).map pl3:=List.mem_map.2 ⟨x,atD_mem.2 ⟨hxd,hxv⟩,rfl⟩
   simp only[iter_it] at h3 h4
   have hor:=orbN_nodup (atD_step h v) (atD_inj h v) hx0 (m:=(rowsA (plsA fs) v).length) h4
   have hlen:=hor.length_le_of_subset (l₂:=(atD fs v).map pl3) (fun y hy=>by
    obtain⟨k,_,rfl⟩:=orbN_mem.1 hy
    exact itN_mem (atD_step h v) hx0 k)
   rw[List.length_map] at hlen
   unfold orbN at hlen
   rw[List.length_map,List.length_range] at hlen
   have hsub:List.Sublist (atD fs v) (rowsA (plsA fs) v):=List.filter_sublist
   have heq:atD fs v=rowsA (plsA fs) v:=hsub.eq_of_length_le hlen
   have hd:∀y∈rowsA (plsA fs) v,(lpA fs y.f y.l).length≠1:=fun y hy=>by
    rw[←heq] at hy
    exact(dart_mem.1 (atD_mem.1 hy).1).2
   refine⟨fun hlon=>?_,fun _ i hi=>?_⟩
   ·obtain⟨y,hy,hy1⟩:=lon_mem.1 hlon
    exact absurd hy1 (hd y hy)
   ·have hc:=(cyc_iff (atD_nodup h v) (atD_step h v) (atD_inj h v) hx0).1 (by rw[List.length_map,heq];exact⟨h3,h4⟩)
    rw[heq] at hc
    have key:∀k j y,(rowsA (plsA fs) v)[j]?=some y→pl3 y=itN (stepP fs (dartsA fs (plsA fs))) (pl3 x) k→ConnP (LinkP (rowsA (plsA fs) v)) j 0:=by
     intro k
     induction k with
     | zero=>
      intro j y hj hy
      have hnd:=atD_nodup h v
      rw[heq] at hnd
      have hy2:y=x:=pl3_inj (List.mem_filter.1 (List.mem_of_getElem? hj)).1 hxp hy
      have hj0:j=0:=by
       have hjl:=(List.getElem?_eq_some_iff.1 hj).1
       refine(List.getElem?_inj (l:=(rowsA (plsA fs) v).map pl3) (by rw[List.length_map];exact hjl) hnd).1 ?_
       rw[List.getElem?_map,List.getElem?_map,hj,e,List.getElem?_cons_zero,hy2]
      rw[hj0]
      exact ConnP.refl _ _
     | succ k ih=>
      intro j y hj hy
      obtain⟨z,hz,hz2⟩:=List.mem_map.1 (itN_mem (atD_step h v) hx0 k)
      rw[heq] at hz
      obtain⟨j',hj',hjz⟩:=List.getElem_of_mem hz
      have hz3:(rowsA (plsA fs) v)[j']?=some z:=by rw[List.getElem?_eq_getElem hj',hjz]
      have hzd:z∈dartsA fs (plsA fs):=dart_mem.2 ⟨(List.mem_filter.1 hz).1,hd z hz⟩
      have hyr:=List.mem_of_getElem? hj
      rw[itN,←hz2,step_aft z (dart_mem.1 hzd).1] at hy
      obtain⟨s1,s2,s3⟩:=step_spec h hzd
      have hye:=pl3_inj (List.mem_filter.1 hyr).1 (dart_mem.1 s1).1 hy
      exact(ConnP.one ⟨z,y,hz3,hj,by rw[hye,s3]⟩:ConnP (LinkP (rowsA (plsA fs) v)) j' j).symm.trans (ih j' z hz3 hz2)
    obtain⟨k,hk⟩:=hc (pl3 (rowsA (plsA fs) v)[i]) (List.mem_map.2 ⟨_,List.getElem_mem hi,rfl⟩)
    exact key k i _ (List.getElem?_eq_getElem hi) hk
 ·rintro⟨hN1,hN2⟩
  rw[e,node_cons,←e]
  refine⟨fun hl=>?_,fun hl=>?_⟩
  ·have h1:=hN1 (lon_mem.2 ⟨x,hxr,hl⟩)
   rw[e,List.length_cons] at h1
   exact List.eq_nil_of_length_eq_zero (by omega)
  ·have hlon:lonV fs (plsA fs) v=false:=by
    rw[Bool.eq_false_iff]
    intro hq
    have h1:=hN1 hq
    obtain⟨y,hy,hy1⟩:=lon_mem.1 hq
    rw[e] at h1 hy
    have hr:rest=[]:=List.eq_nil_of_length_eq_zero (by rw[List.length_cons] at h1;omega)
    rw[hr,List.mem_singleton] at hy
    rw[hy] at hy1
    exact hl hy1
   have hd:∀y∈rowsA (plsA fs) v,(lpA fs y.f y.l).length≠1:=fun y hy q=>by
    have:=lon_mem.2 ⟨y,hy,q⟩
    rw[hlon] at this;cases this
   have heq:=hall hd
   have hxd:x∈dartsA fs (plsA fs):=dart_mem.2 ⟨hxp,hl⟩
   have hx0:pl3 x∈(atD fs v).map pl3:=List.mem_map.2 ⟨x,atD_mem.2 ⟨hxd,hxv⟩,rfl⟩
   have hc:=(cyc_iff (atD_nodup h v) (atD_step h v) (atD_inj h v) hx0).2 (fun p hp=>by
    obtain⟨y,hy,rfl⟩:=List.mem_map.1 hp
    rw[heq] at hy
    obtain⟨i,hi,hiy⟩:=List.getElem_of_mem hy
    have hcon:=hN2 hlon i hi (fun a b=>(∃z k,(rowsA (plsA fs) v)[a]?=some z∧pl3 z=itN (stepP fs (dartsA fs (plsA fs))) (pl3 x) k)↔(∃z k,(rowsA (plsA fs) v)[b]?=some z∧pl3 z=itN (stepP fs (dartsA fs (plsA fs))) (pl3 x) k)) (fun a=>Iff.rfl) (fun a b h=>h.symm) (fun a b c h1 h2=>h1.trans h2) (fun a b hab=>by
     obtain⟨y1,z1,hy1,hz1,e1⟩:=hab
     have hy1m:=List.mem_of_getElem? hy1
     have hz1m:=List.mem_of_getElem? hz1
     have hy1d:y1∈atD fs v:=by rw[heq];exact hy1m
     have hz1d:z1∈atD fs v:=by rw[heq];exact hz1m
     have hzs:=step_link h (atD_mem.1 hy1d).1 (atD_mem.1 hz1d).1 ((atD_mem.1 hz1d).2.trans (atD_mem.1 hy1d).2.symm) e1
     have hst:stepP fs (dartsA fs (plsA fs)) (pl3 y1)=pl3 z1:=by rw[step_aft y1 (dart_mem.1 (atD_mem.1 hy1d).1).1,←hzs]
     have hoc:=orb_closed (atD_nodup h v) (atD_step h v) (atD_inj h v) hx0 (y:=pl3 y1) (List.mem_map.2 ⟨y1,hy1d,rfl⟩)
     rw[hst] at hoc
     constructor
     ·rintro⟨z,k,hz,hk⟩
      rw[hy1] at hz
      cases hz
      obtain⟨k2,hk2⟩:=hoc.1 ⟨k,hk⟩
      exact⟨z1,k2,hz1,hk2⟩
     ·rintro⟨z,k,hz,hk⟩
      rw[hz1] at hz
      cases hz
      obtain⟨k2,hk2⟩:=hoc.2 ⟨k,hk⟩
      exact⟨y1,k2,hy1,hk2⟩)
    obtain⟨z,k,hz,hk⟩:=hcon.2 ⟨x,0,by rw[e];rfl,rfl⟩
    rw[List.getElem?_eq_getElem hi] at hz
    cases hz
    rw[←hiy]
    exact⟨k,hk⟩)
   rw[List.length_map,heq] at hc
   simp only[iter_it]
   exact hc
end
theorem right_iff (N:Int) (fs:Fs):RtP N fs↔RightP N fs:=by
 have hmem:∀v:Nat,(plsA fs).any (fun x=>x.v == (v:Int))=true↔rowsA (plsA fs) v≠[]:=by
  intro v
  rw[List.any_eq_true]
  constructor
  ·rintro⟨x,hx,h⟩ e
   have:x∈rowsA (plsA fs) v:=List.mem_filter.2 ⟨hx,h⟩
   rw[e] at this;simp at this
  ·intro h
   obtain⟨x,hx⟩:=List.exists_mem_of_ne_nil _ h
   obtain⟨h1,h2⟩:=List.mem_filter.1 hx
   exact⟨x,h1,h2⟩
 have hnp:npA fs fs.length=(plsA fs).length:=by rw[npA_eq,pls_len]
 constructor
 ·rintro⟨⟨a1,a2,a3,a4,a5,a6,a7,a8⟩,h2,h3⟩
  refine⟨⟨a1,a2,?_,a3,a4,by rw[hnp];exact a5,a6⟩,a7,h2,fun i hi=>(node_iff h2 i ((hmem i).1 (a8 i hi))).2 (h3 i hi)⟩
  have h4:=(hmem 0).1 (a8 0 (by omega))
  rcases Nat.eq_zero_or_pos fs.length with q | q
  ·exfalso
   apply h4
   have:fs=[]:=List.eq_nil_of_length_eq_zero q
   rw[this]
   rfl
  ·exact q
 ·rintro⟨⟨a1,a2,a3,a4,a5,a6,a7⟩,h1,h2,h3⟩
  have hne:∀i:Nat,(i:Int)<N→rowsA (plsA fs) i≠[]:=fun i hi e=>by
   obtain⟨x,rest,h4,_⟩:=h3 i hi
   rw[e] at h4;cases h4
  exact⟨⟨a1,a2,a4,a5,by rw[←hnp];exact a6,a7,h1,fun v hv=>(hmem v).2 (hne v hv)⟩,h2,fun v hv=>(node_iff h2 v (hne v hv)).1 (h3 v hv)⟩
end Go.Proofs.Ytealnhaffphamaa
