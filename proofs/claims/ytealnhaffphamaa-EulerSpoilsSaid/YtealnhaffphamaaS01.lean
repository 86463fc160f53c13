/- Contracts of the functions that the statement reaches, and plain lemmas: part 1 of 31. -/
import Derived.Test.YtealnhaffphamaaRows
import Derived.WalkKit
import Derived.WalkSpells
import Derived.WalkLawsBesides
import Derived.Lib.Hide
import Derived.IntWalk
import Derived.RegionTactic
import Derived.OrdersIn
import Derived.Below
import Derived.Deep.Draws
import Derived.Deep.AppendLies
import Derived.Maps.AppendAt
import Derived.OwnWalk
import Derived.Laws.BytesArg
import Derived.Laws.MakeOwn
import Derived.Laws.OwnMore
import Derived.Deep.OwnRows
import Derived.Tactics
import Derived.Lib.ConvBytes
import Derived.Laws.Slices
import Derived.KernelRfl
import Derived.RowKit3
import Derived.Deep.LoopGhost
import Derived.Deep.QuietTactic
import Derived.BigQuiet
import Derived.WideLaws
import Derived.Deep.DeepCutAuto
import Derived.Deep.CutBlock
import Derived.Deep.RegionHeld3
import Derived.Laws.Rows
import Derived.Lib.AppendStr
import Derived.ArgAppend
import Derived.Laws.IdiomCopy
import Derived.RowKit
set_option linter.unusedVariables false
set_option linter.unusedSimpArgs false

namespace Go.Proofs.Ytealnhaffphamaa
open Go.RowKit
section
variable {P:Program} {ops:Array Oper} {Q:Exit→Act→World→Prop} {md:Region.Mode}
def backB (ops:Array Oper):Bool:=(List.range ops.size).all fun i=>match ops[i]? with | some o=>o.after.all fun e=>!Region.binds .any e || decide (e.on<i) | none=>true
theorem ready_spec {listed:Array Bool} {i:Nat}:i∈Region.ready md ops listed↔i<ops.size∧listed.getD i true=false∧∃o,ops[i]?=some o∧(o.after.all fun e=>!Region.binds md e || listed.getD e.on false)=true:=by
 unfold Region.ready
 simp only[List.mem_filter,List.mem_range,Bool.and_eq_true,Bool.not_eq_true']
 constructor
 ·rintro⟨h1,h2,h3⟩
  refine⟨h1,h2,_,Array.getElem?_eq_getElem h1,?_⟩
  simpa [Array.getElem?_eq_getElem h1] using h3
 ·rintro⟨h1,h2,o,ho,h3⟩
  exact⟨h1,h2,by rw[ho];simpa using h3⟩
theorem all_listed (hb:backB ops=true) {listed:Array Bool} (hs:listed.size=ops.size) (hr:Region.ready .any ops listed=[]):∀i,i<ops.size→listed.getD i false=true:=by
 intro i
 induction i using Nat.strongRecOn with
 | _ i ih=>
  intro hi
  cases hl:listed.getD i false with
  | true=>rfl
  | false=>
   exfalso
   have hmem:i∈Region.ready .any ops listed:=by
    rw[ready_spec]
    refine⟨hi,?_,_,Array.getElem?_eq_getElem hi,?_⟩
    ·have:i<listed.size:=by omega
     simp[Array.getD,this] at hl ⊢
     exact hl
    ·rw[Array.all_eq_true_iff_forall_mem]
     intro e he
     have h1:=List.all_eq_true.1 hb i (List.mem_range.2 hi)
     simp only[Array.getElem?_eq_getElem hi] at h1
     have h2:=Array.all_eq_true_iff_forall_mem.1 h1 e he
     simp only[Bool.or_eq_true,Bool.not_eq_true',decide_eq_true_eq] at h2 ⊢
     rcases h2 with h2 | h2
     ·exact .inl h2
     ·exact .inr (ih e.on h2 (by omega))
   rw[hr] at hmem
   simp at hmem
def left (listed:Array Bool):Nat:=(listed.toList.filter fun b=>!b).length
theorem left_set {listed:Array Bool} {i:Nat} (h:listed.getD i true=false):left (listed.setIfInBounds i true)+1≤left listed:=by
 have hi:i<listed.size:=by
  rcases Nat.lt_or_ge i listed.size with h' | h'
  ·exact h'
  ·simp[Array.getD,Nat.not_lt.2 h'] at h
 obtain⟨l⟩:=listed
 simp[Array.getD] at h hi
 unfold left
 simp only[List.setIfInBounds_toArray]
 have hget:l[i]?=some false:=by
  rw[List.getElem?_eq_getElem hi]
  congr 1
  simpa [hi] using h
 clear h
 induction l generalizing i with
 | nil=>simp at hi
 | cons b l ih=>
  cases i with
  | zero=>
   simp at hget
   subst hget
   simp
  | succ i=>
   simp at hget hi
   have:=ih hi hget
   cases b <;> simp at this ⊢ <;> omega
theorem wpAny_inv (hb:backB ops=true) (I:Array Bool→Act→World→Prop)
  (hstep:∀listed,listed.size=ops.size→∀i,i<ops.size→∀a w,I listed a w→i∈Region.ready .any ops listed→wpOp P ops Q i (fun a' w'=>I (listed.setIfInBounds i true) a' w') a w)
  (hdone:∀listed a w,I listed a w→(∀i,i<ops.size→listed.getD i false=true)→Q .normal a w) :
  ∀(fuel:Nat) (listed:Array Bool) (a:Act) (w:World),listed.size=ops.size→left listed≤fuel→I listed a w→wpAny P .any ops Q fuel listed a w:=by
 intro fuel
 induction fuel with
 | zero=>
  intro listed a w hs hl hI
  have hr:Region.ready .any ops listed=[]:=by
   cases hr:Region.ready .any ops listed with
   | nil=>rfl
   | cons i _=>
    exfalso
    have:i∈Region.ready .any ops listed:=by rw[hr];simp
    have h2:=left_set (ready_spec.1 this).2.1
    omega
  exact⟨hr,hdone _ _ _ hI (all_listed hb hs hr)⟩
 | succ fuel ih=>
  intro listed a w hs hl hI
  refine⟨fun hr=>hdone _ _ _ hI (all_listed hb hs hr),fun i hi=>?_⟩
  have h1:=ready_spec.1 hi
  refine wpOp_mono (fun a' w' h=>?_) (hstep listed hs i h1.1 a w hI hi)
  exact ih _ a' w' (by simpa using hs) (by have:=left_set h1.2.1;omega) h
theorem left_none (n:Nat):left (Array.replicate n false)≤n:=by
 unfold left
 simp
theorem wp_region_inv {id:Nat} {a:Act} {w:World} (hm:P.follows .mixedOrders=true) (hb:backB ops=true) (I:Array Bool→Act→World→Prop)
  (h0:I (Array.replicate ops.size false) a w.drew)
  (hdone:∀listed a w,I listed a w→(∀i,i<ops.size→listed.getD i false=true)→Q .normal a w)
  (hstep:∀listed,listed.size=ops.size→∀i,i<ops.size→∀a w,I listed a w→i∈Region.ready .any ops listed→wpOp P ops Q i (fun a' w'=>I (listed.setIfInBounds i true) a' w') a w) :
  (Code.region id ops true).wp P Q a w:=
 wp_region_any hm (wpAny_inv hb I hstep hdone _ _ _ _ (by simp) (left_none _) h0)
variable {F:Fence} {n:Nat}
theorem wpAnyIn_inv (hb:backB ops=true) (I:Array Bool→Act→World→Prop)
  (hstep:∀listed,listed.size=ops.size→∀i,i<ops.size→∀a w,I listed a w→i∈Region.ready .any ops listed→wpOpIn F n P ops Q i (fun a' w'=>I (listed.setIfInBounds i true) a' w') a w)
  (hdone:∀listed a w,I listed a w→(∀i,i<ops.size→listed.getD i false=true)→Q .normal a w) :
  ∀(fuel:Nat) (listed:Array Bool) (a:Act) (w:World),listed.size=ops.size→left listed≤fuel→I listed a w→wpAnyIn F n P .any ops Q fuel listed a w:=by
 intro fuel
 induction fuel with
 | zero=>
  intro listed a w hs hl hI
  have hr:Region.ready .any ops listed=[]:=by
   cases hr:Region.ready .any ops listed with
   | nil=>rfl
   | cons i _=>
    exfalso
    have:i∈Region.ready .any ops listed:=by rw[hr];simp
    have h2:=left_set (ready_spec.1 this).2.1
    omega
  exact⟨hr,hdone _ _ _ hI (all_listed hb hs hr)⟩
 | succ fuel ih=>
  intro listed a w hs hl hI
  refine⟨fun hr=>hdone _ _ _ hI (all_listed hb hs hr),fun i hi=>?_⟩
  have h1:=ready_spec.1 hi
  refine wpOpIn_mono (fun a' w' h=>?_) (hstep listed hs i h1.1 a w hI hi)
  exact ih _ a' w' (by simpa using hs) (by have:=left_set h1.2.1;omega) h
theorem wpIn_region_inv {id:Nat} {a:Act} {w:World} (hm:P.follows .mixedOrders=true) (hb:backB ops=true) (I:Array Bool→Act→World→Prop)
  (h0:I (Array.replicate ops.size false) a w.drew)
  (hdone:∀listed a w,I listed a w→(∀i,i<ops.size→listed.getD i false=true)→Q .normal a w)
  (hstep:∀listed,listed.size=ops.size→∀i,i<ops.size→∀a w,I listed a w→i∈Region.ready .any ops listed→wpOpIn F n P ops Q i (fun a' w'=>I (listed.setIfInBounds i true) a' w') a w) :
  (Code.region id ops true).wpIn F n P Q a w:=
 wpIn_region_any hm (wpAnyIn_inv hb I hstep hdone _ _ _ _ (by simp) (left_none _) h0)
theorem dep_listed {listed:Array Bool} {i:Nat} {o:Oper} (h:i∈Region.ready .any ops listed) (ho:ops[i]?=some o) (j:Nat) (hj:(o.after.any fun e=>Region.binds .any e && e.on == j)=true):listed.getD j false=true:=by
 obtain⟨_,_,o',ho',h3⟩:=ready_spec.1 h
 have e:o=o':=Option.some.inj (ho.symm.trans ho')
 subst e
 obtain⟨e,he,h4⟩:=Array.any_eq_true'.1 hj
 have h5:=Array.all_eq_true_iff_forall_mem.1 h3 e he
 simp only[Bool.and_eq_true,beq_iff_eq] at h4
 simp only[h4.1,Bool.not_true,Bool.false_or] at h5
 rw[←h4.2]
 exact h5
def depB (ops:Array Oper) (i j:Nat):Bool:=match ops[i]? with | some o=>o.after.any fun e=>Region.binds .any e && e.on == j | none=>false
theorem dep_of {listed:Array Bool} {i:Nat} (h:i∈Region.ready .any ops listed) (j:Nat) (hj:depB ops i j=true):listed.getD j false=true:=by
 unfold depB at hj
 cases ho:ops[i]? with
 | none=>rw[ho] at hj;simp at hj
 | some o=>rw[ho] at hj;exact dep_listed h ho j hj
end
def upd (u:Nat→Value) (d:Nat) (v:Value):Nat→Value:=fun s=>if s=d then v else u s
theorem upd_same (u:Nat→Value) (d:Nat) (v:Value):upd u d v d=v:=if_pos rfl
theorem upd_other (u:Nat→Value) {d s:Nat} (v:Value) (h:s≠d):upd u d v s=u s:=if_neg h
theorem listed_set {listed:Array Bool} {i j:Nat} (h:(listed.setIfInBounds i true).getD j false=true):j=i∨listed.getD j false=true:=by
 by_cases e:j=i
 ·exact .inl e
 ·right
  rw[←h]
  simp only[Array.getD,Array.size_setIfInBounds]
  split
  ·simp only[Array.getInternal_eq_getElem]
   rw[Array.getElem_setIfInBounds_ne (by assumption) (fun h=>e h.symm)]
  ·rfl
def Blk (W:World) (b:Nat) (o:Obj):Prop:=W.heap[b]?=some o
theorem Blk.lt {W:World} {b:Nat} {o:Obj} (h:Blk W b o):b<W.heap.size:=(Array.getElem?_eq_some_iff.1 h).1
theorem Blk.below {W W1:World} {b B:Nat} {o:Obj} (h:Blk W b o) (hb:Below B W W1) (hB:b<B):Blk W1 b o:=by unfold Blk at *;rw[hb.block b hB];exact h
theorem listed_more {listed:Array Bool} {i j:Nat} (h:listed.getD j false=true):(listed.setIfInBounds i true).getD j false=true:=by
 simp only[Array.getD,Array.size_setIfInBounds] at h ⊢
 split at h
 ·rename_i hj
  rw[dif_pos hj]
  simp only[Array.getInternal_eq_getElem] at h ⊢
  rw[Array.getElem_setIfInBounds]
  split
  ·rfl
  ·exact h
 ·simp at h
def clashV (vals:List (Nat × Nat)) (i d:Nat):Bool:=vals.all fun x=>if x.1=i then x.2 == d else x.2 != d
theorem blk_cells {W:World} {b:Nat} {c:Array Value} {t:TypeId} (h:Blk W b (.cells c t)):(∀o (x:Value),c[o]?=some x→W.cell? ⟨b,o,none⟩=some x)∧(∀o,W.frozen? ⟨b,o,none⟩=false):=by
 unfold Blk at h
 refine⟨fun o x hx=>?_,fun o=>?_⟩
 ·simp only[World.cell?,h];simpa using hx
 ·simp[World.frozen?,h]
theorem blk_set {W:World} {b o:Nat} {c:Array Value} {t:TypeId} {x:Value} (h:Blk W b (.cells c t)):Blk (W.setCell ⟨b,o,none⟩ x) b (.cells (c.setIfInBounds o x) t):=by
 unfold Blk at *
 simp[World.setCell,Array.getElem?_modify,h]
theorem blk_other {W:World} {b b' o:Nat} {ob:Obj} {x:Value} (h:Blk W b ob) (hne:b≠b'):Blk (W.setCell ⟨b',o,none⟩ x) b ob:=by
 unfold Blk at *
 rw[Below.heap_setCell _ _ _ _ (by show b≠b';exact hne)];exact h
theorem blk_new (W:World) (o:Obj):Blk (W.alloc o) W.heap.size o:=by
 unfold Blk;show(W.heap.push _)[W.heap.size]?=_;simp
theorem Blk.alloc {W:World} {b:Nat} {o o':Obj} (h:Blk W b o):Blk (W.alloc o') b o:=h.below ((Below.refl W.heap.size W).alloc (Nat.le_refl _) _) h.lt
structure IR (I:World→Prop) (S:Nat→World→Value→Prop) (vals:List (Nat × Nat)) (listed:Array Bool) (t:Nat→Value) (W:World):Prop where
 fin:I W
 val:∀x∈vals,listed.getD x.1 false=true→S x.2 W (t x.2)
section
variable {I:World→Prop} {S:Nat→World→Value→Prop} {vals:List (Nat × Nat)} {listed:Array Bool} {t:Nat→Value} {W W1:World}
theorem IR.start (n:Nat) (h:I W) (t:Nat→Value):IR I S vals (Array.replicate n false) t W:=
 ⟨h,fun x _ hl=>by simp only[Array.getD] at hl;split at hl <;> simp at hl⟩
theorem IR.yields {i d:Nat} {v:Value} (h:IR I S vals listed t W) (hI:I W1) (hm:∀d v,S d W v→S d W1 v) (hv:S d W1 v) (h1:clashV vals i d=true):IR I S vals (listed.setIfInBounds i true) (upd t d v) W1:=by
 refine⟨hI,fun x hx hl=>?_⟩
 have hc:=List.all_eq_true.1 h1 x hx
 by_cases e:x.1=i
 ·rw[if_pos e] at hc
  have:x.2=d:=by simpa using hc
  rw[this,upd_same];exact hv
 ·rw[if_neg e] at hc
  rw[upd_other _ _ (by simpa using hc)]
  exact hm _ _ (h.val x hx ((listed_set hl).resolve_left e))
end
theorem getD_set_ne {listed:Array Bool} {i k:Nat} (hne:i≠k):(listed.setIfInBounds i true).getD k false=listed.getD k false:=by
 simp[Array.getD_eq_getD_getElem?,Array.getElem?_setIfInBounds_ne hne]
theorem getD_tf {listed:Array Bool} {i:Nat} (h:listed.getD i true=false):listed.getD i false=false∧(listed.setIfInBounds i true).getD i false=true:=by
 simp only[Array.getD_eq_getD_getElem?] at h ⊢
 cases hh:listed[i]? with
 | none=>rw[hh] at h;simp at h
 | some b=>
  rw[hh] at h
  have hl:=(Array.getElem?_eq_some_iff.1 hh).1
  simp at h
  simp[h,Array.getElem?_setIfInBounds,hl]
def Cl (ops:Array Oper) (listed:Array Bool):Prop:=∀k,listed.getD k false=true→∀j,depB ops k j=true→listed.getD j false=true
def reachB (ops:Array Oper):Nat→Nat→Nat→Bool
 | 0,k,i=>k == i
 | n+1,k,i=>k == i || (List.range ops.size).any fun j=>depB ops k j && reachB ops n j i
theorem Cl.reach {ops:Array Oper} {listed:Array Bool} (h:Cl ops listed):∀(n k i:Nat),reachB ops n k i=true→listed.getD k false=true→listed.getD i false=true
 | 0,k,i,hr,hk=>by
  have:k=i:=by simpa [reachB] using hr
  rwa [←this]
 | n+1,k,i,hr,hk=>by
  simp only[reachB,Bool.or_eq_true,beq_iff_eq,List.any_eq_true,Bool.and_eq_true] at hr
  rcases hr with rfl | ⟨j,_,h1,h2⟩
  ·exact hk
  ·exact h.reach n j i h2 (h k hk j h1)
theorem Cl.not {ops:Array Oper} {listed:Array Bool} (h:Cl ops listed) {i k:Nat} (hi:i∈Region.ready .any ops listed) (n:Nat) (hr:reachB ops n k i=true):listed.getD k false=false:=by
 cases hk:listed.getD k false with
 | false=>rfl
 | true=>
  have h1:=h.reach n k i hr hk
  have h2:=(getD_tf (ready_spec.1 hi).2.1).1
  rw[h1] at h2;simp at h2
theorem Cl.start (ops:Array Oper) (n:Nat):Cl ops (Array.replicate n false):=fun k hk=>by
 simp only[Array.getD] at hk
 split at hk <;> simp at hk
theorem Cl.step {ops:Array Oper} {listed:Array Bool} (h:Cl ops listed) {i:Nat} (hi:i∈Region.ready .any ops listed):Cl ops (listed.setIfInBounds i true):=fun k hk j hd=>by
 rcases listed_set hk with rfl | hk
 ·exact listed_more (dep_of hi j hd)
 ·exact listed_more (h k hk j hd)
section
variable {P:Program} {ops:Array Oper} {Q:Exit→Act→World→Prop} {F:Fence} {n:Nat}
theorem wp_region_inv' {id:Nat} {a:Act} {w:World} (hm:P.follows .mixedOrders=true) (hb:backB ops=true) (I:Array Bool→Act→World→Prop)
  (h0:I (Array.replicate ops.size false) a w.drew)
  (hdone:∀listed a w,I listed a w→(∀i,i<ops.size→listed.getD i false=true)→Q .normal a w)
  (hstep:∀listed,Cl ops listed→∀i,i<ops.size→∀a w,I listed a w→i∈Region.ready .any ops listed→wpOp P ops Q i (fun a' w'=>I (listed.setIfInBounds i true) a' w') a w) :
  (Code.region id ops true).wp P Q a w:=
 wp_region_inv hm hb (fun listed a w=>Cl ops listed∧I listed a w) ⟨Cl.start _ _,h0⟩ (fun listed a w h hl=>hdone listed a w h.2 hl)
  (fun listed _ i hi a w h hr=>wpOp_mono (fun a' w' hI=>⟨h.1.step hr,hI⟩) (hstep listed h.1 i hi a w h.2 hr))
theorem wpIn_region_inv' {id:Nat} {a:Act} {w:World} (hm:P.follows .mixedOrders=true) (hb:backB ops=true) (I:Array Bool→Act→World→Prop)
  (h0:I (Array.replicate ops.size false) a w.drew)
  (hdone:∀listed a w,I listed a w→(∀i,i<ops.size→listed.getD i false=true)→Q .normal a w)
  (hstep:∀listed,Cl ops listed→∀i,i<ops.size→∀a w,I listed a w→i∈Region.ready .any ops listed→wpOpIn F n P ops Q i (fun a' w'=>I (listed.setIfInBounds i true) a' w') a w) :
  (Code.region id ops true).wpIn F n P Q a w:=
 wpIn_region_inv hm hb (fun listed a w=>Cl ops listed∧I listed a w) ⟨Cl.start _ _,h0⟩ (fun listed a w h hl=>hdone listed a w h.2 hl)
  (fun listed _ i hi a w h hr=>wpOpIn_mono (fun a' w' hI=>⟨h.1.step hr,hI⟩) (hstep listed h.1 i hi a w h.2 hr))
end
structure IRC (J:World→Prop) (k:Nat) (S:Nat→Value→Prop) (T:Nat→World→Value→Prop) (vals late:List (Nat × Nat)) (listed:Array Bool) (t:Nat→Value) (W:World):Prop where
 val:∀x∈vals,listed.getD x.1 false=true→S x.2 (t x.2)
 lat:∀x∈late,listed.getD x.1 false=true→T x.2 W (t x.2)
 old:listed.getD k false=false→J W
section
variable {J:World→Prop} {k:Nat} {S:Nat→Value→Prop} {T:Nat→World→Value→Prop} {vals late:List (Nat × Nat)} {listed:Array Bool} {t:Nat→Value} {W W1:World} {ops:Array Oper}
theorem none_listed {n i:Nat} (h:(Array.replicate n false).getD i false=true):False:=by
 simp only[Array.getD] at h
 split at h <;> simp at h
theorem IRC.start (n:Nat) (h:J W) (t:Nat→Value):IRC J k S T vals late (Array.replicate n false) t W:=⟨fun _ _ h=>(none_listed h).elim,fun _ _ h=>(none_listed h).elim,fun _=>h⟩
theorem upd_val {S:Nat→Value→Prop} {vals:List (Nat × Nat)} {i d:Nat} {v:Value} (h:∀x∈vals,listed.getD x.1 false=true→S x.2 (t x.2)) (hv:S d v) (h1:clashV vals i d=true):∀x∈vals,(listed.setIfInBounds i true).getD x.1 false=true→S x.2 (upd t d v x.2):=fun x hx hl=>by
 have hc:=List.all_eq_true.1 h1 x hx
 by_cases e:x.1=i
 ·rw[if_pos e] at hc
  have:x.2=d:=by simpa using hc
  rw[this,upd_same];exact hv
 ·rw[if_neg e] at hc
  rw[upd_other _ _ (by simpa using hc)]
  exact h x hx ((listed_set hl).resolve_left e)
def clear0 (late:List (Nat × Nat)) (i d:Nat):Bool:=late.all fun x=>x.1 != i && x.2 != d
theorem upd_clear {S:Nat→Value→Prop} {vals:List (Nat × Nat)} {i d:Nat} {v:Value} (h:∀x∈vals,listed.getD x.1 false=true→S x.2 (t x.2)) (h1:clear0 vals i d=true):∀x∈vals,(listed.setIfInBounds i true).getD x.1 false=true→S x.2 (upd t d v x.2):=fun x hx hl=>by
 have hc:=List.all_eq_true.1 h1 x hx
 simp only[Bool.and_eq_true,bne_iff_ne,ne_eq] at hc
 rw[upd_other _ _ hc.2]
 exact h x hx ((listed_set hl).resolve_left hc.1)
theorem IRC.yields {i d:Nat} {v:Value} (h:IRC J k S T vals late listed t W) (hk:i≠k) (hv:S d v) (h1:clashV vals i d=true) (h2:clear0 late i d=true):IRC J k S T vals late (listed.setIfInBounds i true) (upd t d v) W:=
 ⟨upd_val h.val hv h1,upd_clear (S:=fun d v=>T d W v) h.lat h2,fun hl=>h.old (by rwa [getD_set_ne hk] at hl)⟩
theorem IRC.lates {i d:Nat} {v:Value} (h:IRC J k S T vals late listed t W) (hk:i≠k) (hv:T d W v) (h1:clear0 vals i d=true) (h2:clashV late i d=true):IRC J k S T vals late (listed.setIfInBounds i true) (upd t d v) W:=
 ⟨upd_clear h.val h1,upd_val (S:=fun d v=>T d W v) h.lat hv h2,fun hl=>h.old (by rwa [getD_set_ne hk] at hl)⟩
theorem getD_set_eq {listed:Array Bool} {i:Nat} (h:listed.getD i true=false):(listed.setIfInBounds i true).getD i false=true:=by
 have hi:i<listed.size:=by
  rcases Nat.lt_or_ge i listed.size with h' | h'
  ·exact h'
  ·simp[Array.getD,Nat.not_lt.2 h'] at h
 simp[Array.getD,hi]
theorem IRC.turns {d:Nat} {v:Value} (h:IRC J k S T vals late listed t W) (hC:Cl ops listed) (hr:k∈Region.ready .any ops listed) (hl:(late.all fun x=>x.1 == k || reachB ops 9 x.1 k)=true) (hv:T d W1 v) (h1:clear0 vals k d=true) (h2:clashV late k d=true):IRC J k S T vals late (listed.setIfInBounds k true) (upd t d v) W1:=
 ⟨upd_clear h.val h1,fun x hx hlx=>by
  have hc:=List.all_eq_true.1 h2 x hx
  have hq:=List.all_eq_true.1 hl x hx
  by_cases e:x.1=k
  ·rw[if_pos e] at hc
   have:x.2=d:=by simpa using hc
   rw[this,upd_same];exact hv
  ·exfalso
   have h3:reachB ops 9 x.1 k=true:=by simpa [e] using hq
   have h4:=hC.not hr 9 h3
   rw[getD_set_ne (fun q=>e q.symm)] at hlx
   rw[h4] at hlx;simp at hlx,fun h0=>by rw[getD_set_eq (ready_spec.1 hr).2.1] at h0;simp at h0⟩
end
structure IRK (J:World→Prop) (k e:Nat) (C:(Nat→Value)→World→Prop) (I:World→Prop) (S:Nat→World→Value→Prop) (vals:List (Nat × Nat)) (listed:Array Bool) (t:Nat→Value) (W:World):Prop where
 fin:I W
 vls:listed.getD e false=false→∀x∈vals,listed.getD x.1 false=true→S x.2 W (t x.2)
 old:listed.getD k false=false→J W
 new:listed.getD e false=true→C t W
section
variable {J I:World→Prop} {C:(Nat→Value)→World→Prop} {k e:Nat} {S:Nat→World→Value→Prop} {vals:List (Nat × Nat)} {listed:Array Bool} {t:Nat→Value} {W W1:World} {ops:Array Oper}
theorem IRK.start (n:Nat) (hI:I W) (h:J W) (t:Nat→Value):IRK J k e C I S vals (Array.replicate n false) t W:=⟨hI,fun _ _ _ h=>(none_listed h).elim,fun _=>h,fun h=>(none_listed h).elim⟩
theorem IRK.val {i:Nat} (h:IRK J k e C I S vals listed t W) (hC:Cl ops listed) (hr:i∈Region.ready .any ops listed) (hre:reachB ops 9 e i=true) (x:Nat × Nat) (hx:x∈vals) (hl:listed.getD x.1 false=true):S x.2 W (t x.2):=h.vls (hC.not hr 9 hre) x hx hl
theorem IRK.yields {i d:Nat} {v:Value} (h:IRK J k e C I S vals listed t W) (hC:Cl ops listed) (hr:i∈Region.ready .any ops listed) (hk:i≠k) (he:i≠e) (hre:reachB ops 9 e i=true) (hI:I W1) (hJ:J W→J W1) (hm:∀d v,S d W v→S d W1 v) (hv:S d W1 v) (h1:clashV vals i d=true):IRK J k e C I S vals (listed.setIfInBounds i true) (upd t d v) W1:=
 ⟨hI,fun _ x hx hlx=>by
  have hc:=List.all_eq_true.1 h1 x hx
  by_cases q:x.1=i
  ·rw[if_pos q] at hc
   have:x.2=d:=by simpa using hc
   rw[this,upd_same];exact hv
  ·rw[if_neg q] at hc
   have hne:x.2≠d:=by simpa using hc
   rw[upd_other _ _ hne]
   exact hm _ _ (h.val hC hr hre x hx ((listed_set hlx).resolve_left q)),fun hl=>hJ (h.old (by rwa [getD_set_ne hk] at hl)),fun hl=>by rw[getD_set_ne he,hC.not hr 9 hre] at hl;simp at hl⟩
theorem IRK.turns {d:Nat} {v:Value} (h:IRK J k e C I S vals listed t W) (hC:Cl ops listed) (hr:k∈Region.ready .any ops listed) (he:k≠e) (hre:reachB ops 9 e k=true) (hI:I W1) (hm:∀d' v,d'≠d→S d' W v→S d' W1 v) (hv:S d W1 v) (h1:clashV vals k d=true):IRK J k e C I S vals (listed.setIfInBounds k true) (upd t d v) W1:=
 ⟨hI,fun _ x hx hlx=>by
  have hc:=List.all_eq_true.1 h1 x hx
  by_cases q:x.1=k
  ·rw[if_pos q] at hc
   have:x.2=d:=by simpa using hc
   rw[this,upd_same];exact hv
  ·rw[if_neg q] at hc
   have hne:x.2≠d:=by simpa using hc
   rw[upd_other _ _ hne]
   exact hm _ _ hne (h.val hC hr hre x hx ((listed_set hlx).resolve_left q)),fun h0=>by rw[getD_set_eq (ready_spec.1 hr).2.1] at h0;simp at h0,fun hl=>by rw[getD_set_ne he,hC.not hr 9 hre] at hl;simp at hl⟩
theorem IRK.ends (h:IRK J k e C I S vals listed t W) (hr:e∈Region.ready .any ops listed) (hk:listed.getD k false=true∨J W1) (hne:e≠k) (hI:I W1) (hC:C t W1):IRK J k e C I S vals (listed.setIfInBounds e true) t W1:=
 ⟨hI,fun h0=>by rw[getD_set_eq (ready_spec.1 hr).2.1] at h0;simp at h0,fun h0=>hk.elim (fun hk=>by rw[getD_set_ne hne,hk] at h0;simp at h0) id,fun _=>hC⟩
end
end Go.Proofs.Ytealnhaffphamaa

set_option linter.unusedVariables false
set_option linter.unusedSimpArgs false
namespace Go.Proofs.YtealnhaffphamaaW.PrintWords
open Go.RowKit
structure Drawn0 (w w':World):Prop where mk :: (out:∃n,w'=w.drewN n)
theorem Drawn0.below {w w':World} (h:Drawn0 w w'):Below w.heap.size w w':=by
 obtain⟨n,rfl⟩:=h
 induction n with
 | zero=>exact Below.refl _ _
 | succ n ih=>rw[←World.drew_drewN];exact ih.drew
def rd (xs:List Int) (i:Int):Int:=xs.getD i.toNat 0
theorem grown_of_below {w w1:World} (h:Below w.heap.size w w1) (row:Option Nat):w.grownBy w1 row:=⟨h.os,h.tape,h.output,h.size,fun i hi _=>h.block i hi⟩
theorem pw_cell_below {w w1:World} (h:Below w.heap.size w w1) {a:Addr} {v:Value} (hc:w.cell? a=some v):w1.cell? a=some v:=(h.cell (World.block_lt_of_cell? w a hc)).trans hc
theorem add_plain (g j:Nat):(⟨g,0,none⟩:Addr).add j=⟨g,j,none⟩:=by unfold Addr.add;split <;> simp_all
theorem own_base {w:World} {base:Nat} {e:TypeId} {size n:Nat} {v:Value} {xs:List Value} (h:w.ownsRow base e size v n xs) (k:Nat) (hk:v.ownBlock=some k):base≤k:=by
 rcases h.2 with⟨rfl,_⟩ | ⟨g,cap,cur,rfl,hb,_⟩
 ·simp[Value.ownBlock] at hk
 ·have:g=k:=by simpa [Value.ownBlock] using hk
  omega
theorem own_lt {w:World} {base:Nat} {e:TypeId} {size n:Nat} {v:Value} {xs:List Value} (h:w.ownsRow base e size v n xs) (k:Nat) (hk:v.ownBlock=some k):k<w.heap.size:=by
 rcases h.2 with⟨rfl,_⟩ | ⟨g,cap,cur,rfl,hb,hh,_⟩
 ·simp[Value.ownBlock] at hk
 ·have:g=k:=by simpa [Value.ownBlock] using hk
  subst this
  exact(Array.getElem?_eq_some_iff.1 hh).1
theorem own_slice {w:World} {base n:Nat} {e:TypeId} {size:Nat} {v:Value} {xs:List Value} (h:w.ownsRow base e size v n xs):∃A c,v=.slice A n c:=by
 rcases h.2 with⟨rfl,rfl⟩ | ⟨g,cap,cur,rfl,_⟩
 ·exact⟨none,0,rfl⟩
 ·exact⟨_,cap,rfl⟩
def Reps {α:Type} (R:α→List Value→Prop) (size:Nat) (ps:List α) (cs:List Value):Prop:=
 cs.length=ps.length * size∧∀j p,ps[j]?=some p→R p ((cs.drop (j * size)).take size)
theorem Reps.imp_ {α:Type} {R R':α→List Value→Prop} {size:Nat} {ps:List α} {cs:List Value} (h:Reps R size ps cs) (hR:∀p c,R p c→R' p c):Reps R' size ps cs:=⟨h.1,fun j p hj=>hR _ _ (h.2 j p hj)⟩
def ReadsRow {α:Type} (R:α→List Value→Prop) (size:Nat) (w:World) (A:Option Addr) (n:Nat) (ps:List α):Prop:=
 ps.length=n∧n≤9223372036854775807∧(0<n→∃ad,A=some ad∧∀j p,ps[j]?=some p→∃c,c.length=size∧R p c∧∀i u,c[i]?=some u→w.cell? (ad.add (j * size+i))=some u)
theorem ReadsRow.get_ {α:Type} {R:α→List Value→Prop} {size:Nat} {w:World} {A:Option Addr} {n:Nat} {ps:List α} (h:ReadsRow R size w A n ps) (d:α) (i:Int) (h0:0≤i) (h1:i<n) :
  ∃ad c,A=some ad∧c.length=size∧R (ps.getD i.toNat d) c∧∀j u,c[j]?=some u→w.cell? (ad.add (i.toNat * size+j))=some u:=by
 obtain⟨ad,e,hc⟩:=h.2.2 (by omega)
 have hl:i.toNat<ps.length:=by have:=h.1;omega
 obtain⟨c,hs,hr,hcell⟩:=hc i.toNat _ (List.getElem?_eq_getElem hl)
 refine⟨ad,c,e,hs,?_,hcell⟩
 rw[List.getD_eq_getElem?_getD,List.getElem?_eq_getElem hl]
 exact hr
theorem ReadsRow.imp_ {α:Type} {R R':α→List Value→Prop} {size:Nat} {w w1:World} {A:Option Addr} {n:Nat} {ps:List α} (h:ReadsRow R size w A n ps) (hb:Below w.heap.size w w1) (hR:∀p c,R p c→R' p c):ReadsRow R' size w1 A n ps:=
 ⟨h.1,h.2.1,fun hn=>by
  obtain⟨ad,e,hc⟩:=h.2.2 hn
  refine⟨ad,e,fun j p hj=>?_⟩
  obtain⟨c,hs,hr,hcell⟩:=hc j p hj
  exact⟨c,hs,hR _ _ hr,fun i u hu=>pw_cell_below hb (hcell i u hu)⟩⟩
theorem own_reads_row {α:Type} {R:α→List Value→Prop} {w:World} {base n size:Nat} {e:TypeId} {v:Value} {ps:List α} {cs:List Value} (h:w.ownsRow base e size v n cs) (hR:Reps R size ps cs) (hn:ps.length=n) :
  ∃A c,v=.slice A n c∧ReadsRow R size w A n ps:=by
 rcases Nat.eq_zero_or_pos n with h0 | h0
 ·rcases h.2 with⟨rfl,rfl⟩ | ⟨g,cap,cur,rfl,_⟩
  ·exact⟨none,0,rfl,hn,by omega,fun hp=>absurd hp (by omega)⟩
  ·exact⟨_,cap,rfl,hn,by omega,fun hp=>absurd hp (by omega)⟩
 ·obtain⟨g,cap,rfl,_,_⟩:=h.form h0
  have hm:n≤9223372036854775807:=by
   rcases h.2 with⟨_,h1⟩ | ⟨g',cap',cur,he,_,_,h1,h2,_⟩
   ·omega
   ·simp only[maxLen] at h2
    omega
  refine⟨_,cap,rfl,hn,hm,fun _=>⟨_,rfl,fun j p hj=>⟨(cs.drop (j * size)).take size,?_,hR.2 j p hj,fun i u hu=>?_⟩⟩⟩
  ·have hjl:=(List.getElem?_eq_some_iff.1 hj).1
   have h1:j * size+size≤cs.length:=by rw[hR.1,←Nat.succ_mul];exact Nat.mul_le_mul_right _ hjl
   rw[List.length_take,List.length_drop]
   omega
  ·refine h.cells (g:=g) rfl _ u ?_
   rw[List.getElem?_take] at hu
   split at hu
   ·rw[List.getElem?_drop] at hu
    exact hu
   ·cases hu
theorem blk_set {w:World} {g:Nat} {t:TypeId} {cs:Array Value} (h:w.heap[g]?=some (.cells cs t (0,0))) (i:Nat) (u:Value):(w.setCell ⟨g,i,none⟩ u).heap[g]?=some (.cells (cs.setIfInBounds i u) t (0,0)):=by
 simp[World.setCell,Array.getElem?_modify,h]
theorem blk_frozen {w:World} {g:Nat} {t:TypeId} {cs:Array Value} (h:w.heap[g]?=some (.cells cs t (0,0))) (i:Nat):w.frozen? ⟨g,i,none⟩=false:=by simp[World.frozen?,h]
theorem own_weaken {w:World} {base base':Nat} {e:TypeId} {size n:Nat} {v:Value} {xs:List Value} (h:w.ownsRow base e size v n xs) (hb:base'≤base):w.ownsRow base' e size v n xs:=by
 obtain⟨h1,h2⟩:=h
 refine⟨h1,?_⟩
 rcases h2 with h2 | ⟨g,cap,cur,rfl,hg,r⟩
 ·exact .inl h2
 ·exact .inr ⟨g,cap,cur,rfl,Nat.le_trans hb hg,r⟩
section
variable {α:Type} {enc:α→Value} {d:α}
def encs (enc:α→Value) (xs:List α):List Value:=xs.map enc
theorem encs_length (xs:List α):(encs enc xs).length=xs.length:=by simp[encs]
theorem encs_append (xs ys:List α):encs enc (xs ++ ys)=encs enc xs ++ encs enc ys:=by simp[encs]
theorem encs_get (xs:List α) (j:Nat) (h:j<xs.length):(encs enc xs)[j]?=some (enc (xs.getD j d)):=by
 simp[encs,List.getElem?_eq_getElem h,List.getD_eq_getElem?_getD]
def ReadsOf (enc:α→Value) (d:α) (w:World) (A:Option Addr) (n:Nat) (xs:List α):Prop:=
 xs.length=n∧n≤9223372036854775807∧(0<n→∃ad,A=some ad∧∀j,j<n→w.cell? (ad.add j)=some (enc (xs.getD j d)))
end
theorem own_le {w:World} {base n m c size:Nat} {e:TypeId} {A:Option Addr} {xs:List Value} (h:w.ownsRow base e size (.slice A m c) n xs):m≤c:=by
 rcases h.2 with⟨he,_⟩ | ⟨g,cap,cur,he,_,_,hnc,_⟩
 ·injection he with _ h2 h3
  omega
 ·injection he with _ h2 h3
  omega
def OwnRow {α:Type} (R:α→List Value→Prop) (e:TypeId) (size:Nat) (w:World) (base:Nat) (v:Value) (ps:List α):Prop:=
 ∃inner,w.ownsRow base e size v ps.length inner∧Reps R size ps inner
section
variable {α:Type} {R R':α→List Value→Prop} {e:TypeId} {size:Nat} {w w1:World} {base:Nat} {v:Value} {ps:List α}
theorem OwnRow.imp_ (h:OwnRow R e size w base v ps) (hR:∀p c,R p c→R' p c):OwnRow R' e size w base v ps:=by
 obtain⟨inner,ho,hr⟩:=h
 exact⟨inner,ho,hr.imp_ hR⟩
theorem OwnRow.reads (h:OwnRow R e size w base v ps):∃A c,v=.slice A ps.length c∧ps.length≤c∧ReadsRow R size w A ps.length ps:=by
 obtain⟨inner,ho,hr⟩:=h
 obtain⟨A,c,rfl,hrow⟩:=own_reads_row ho hr rfl
 exact⟨A,c,rfl,own_le ho,hrow⟩
end
structure Kd (α:Type) where
 sz:Nat
 E:List Nat
 K:World→α→List Value→Prop
 M:World→Nat→(Nat→Prop)→α→List Value→Prop
 K_len:∀ {w x cs},K w x cs→cs.length=sz
 K_one:∀ {w x cs},K w x cs→∀u∈cs,u.oneCell'=true
 K_below:∀ {w w1:World} {x cs},Below w.heap.size w w1→K w x cs→K w1 x cs
 K_of_M:∀ {w base ok x cs},M w base ok x cs→K w x cs
 M_mono:∀ {w base ok ok' x cs},(∀k,ok k→ok' k)→M w base ok x cs→M w base ok' x cs
 M_bound:∀ {w:World} {base ok x cs},M w base ok x cs→M w base (fun k=>ok k∧base≤k∧k<w.heap.size∧∃q,q∈E∧∃cells,w.heap[k]?=some (.cells cells q (0,0))) x cs
 M_move:∀ {w w1:World} {base ok x cs},(∀k,ok k→w1.heap[k]?=w.heap[k]?)→M w base ok x cs→M w1 base ok x cs
 M_lower:∀ {w base base' ok x cs},base'≤base→M w base ok x cs→M w base' ok x cs
theorem own_move {w w1:World} {base:Nat} {e:TypeId} {size n:Nat} {v:Value} {xs:List Value} (h:w.ownsRow base e size v n xs) (hm:∀k,v.ownBlock=some k→w1.heap[k]?=w.heap[k]?):w1.ownsRow base e size v n xs:=by
 obtain⟨h1,h2⟩:=h
 refine⟨h1,?_⟩
 rcases h2 with h2 | ⟨g,cap,cur,rfl,hg,hh,r⟩
 ·exact .inl h2
 ·exact .inr ⟨g,cap,cur,rfl,hg,(hm g (by simp[Value.ownBlock])).trans hh,r⟩
theorem own_typed {w:World} {base:Nat} {e:TypeId} {size n:Nat} {v:Value} {xs:List Value} (h:w.ownsRow base e size v n xs) (k:Nat) (hk:v.ownBlock=some k):∃cells,w.heap[k]?=some (.cells cells e (0,0)):=by
 rcases h.2 with⟨rfl,_⟩ | ⟨g,cap,cur,rfl,hg,hh,r⟩
 ·simp[Value.ownBlock] at hk
 ·have:g=k:=by simpa [Value.ownBlock] using hk
  subst this
  exact⟨cur,hh⟩
namespace Kd
def C {α:Type} (d:Kd α) (w:World) (A:Option Addr) (n:Nat) (xs:List α):Prop:=ReadsRow (d.K w) d.sz w A n xs
def R {α:Type} (d:Kd α) (e:Nat) (w:World) (base:Nat) (ok:Nat→Prop) (v:Value) (xs:List α):Prop:=
 (∀k,v.ownBlock=some k→ok k)∧OwnRow (d.M w base (fun k=>ok k∧some k≠v.ownBlock)) e d.sz w base v xs
section
variable {α:Type} {d:Kd α} {e:Nat} {w w1:World} {base:Nat} {ok ok':Nat→Prop} {v:Value} {xs:List α}
theorem C_below {A:Option Addr} {n:Nat} (h:d.C w A n xs) (hb:Below w.heap.size w w1):d.C w1 A n xs:=ReadsRow.imp_ h hb (fun _ _ hp=>d.K_below hb hp)
theorem R_mono (h:d.R e w base ok v xs) (hok:∀k,ok k→ok' k):d.R e w base ok' v xs:=⟨fun k hk=>hok k (h.1 k hk),h.2.imp_ (fun _ _ hp=>d.M_mono (fun k hk=>⟨hok k hk.1,hk.2⟩) hp)⟩
theorem R_bound (h:d.R e w base ok v xs):d.R e w base (fun k=>ok k∧base≤k∧k<w.heap.size∧∃q,q∈e :: d.E∧∃cells,w.heap[k]?=some (.cells cells q (0,0))) v xs:=by
 obtain⟨h0,inner,ho,hr⟩:=h
 refine⟨fun k hk=>?_,inner,ho,hr.imp_ (fun _ _ hp=>d.M_mono (fun k hk=>?_) (d.M_bound hp))⟩
 ·obtain⟨cells,hc⟩:=own_typed ho k hk
  exact⟨h0 k hk,own_base ho k hk,own_lt ho k hk,e,List.mem_cons_self,cells,hc⟩
 ·obtain⟨⟨h1,h2⟩,h3,h4,q,hq,hc⟩:=hk
  exact⟨⟨h1,h3,h4,q,List.mem_cons_of_mem _ hq,hc⟩,h2⟩
theorem R_move (h:d.R e w base ok v xs) (hm:∀k,ok k→w1.heap[k]?=w.heap[k]?):d.R e w1 base ok v xs:=by
 obtain⟨h0,inner,ho,hr⟩:=h
 exact⟨h0,inner,own_move ho (fun k hk=>hm k (h0 k hk)),hr.imp_ (fun _ _ hp=>d.M_move (fun k hk=>hm k hk.1) hp)⟩
theorem R_lower {base':Nat} (h:d.R e w base ok v xs) (hb:base'≤base):d.R e w base' ok v xs:=by
 obtain⟨h0,inner,ho,hr⟩:=h
 exact⟨h0,inner,own_weaken ho hb,hr.imp_ (fun _ _ hp=>d.M_lower hb hp)⟩
theorem R_reads (h:d.R e w base ok v xs):∃A c,v=.slice A xs.length c∧xs.length≤c∧d.C w A xs.length xs:=by
 obtain⟨A,c,he,hl,hr⟩:=OwnRow.reads h.2
 exact⟨A,c,he,hl,hr.imp_ (Below.refl _ _) (fun _ _ hp=>d.K_of_M hp)⟩
end
def scalar {α:Type} (enc:α→Value) (h1:∀x,(enc x).oneCell'=true):Kd α where
 sz:=1
 E:=[]
 K:=fun _ x cs=>cs=[enc x]
 M:=fun _ _ _ x cs=>cs=[enc x]
 K_len:=fun h=>by rw[h];rfl
 K_one:=fun h u hu=>by
  rw[h] at hu
  rw[List.mem_singleton.1 hu]
  exact h1 _
 K_below:=fun _ h=>h
 K_of_M:=fun h=>h
 M_mono:=fun _ h=>h
 M_bound:=fun h=>h
 M_move:=fun _ h=>h
 M_lower:=fun _ h=>h
def int (k:IntKind):Kd Int:=scalar (Value.int k) (fun _=>rfl)
def slice {α:Type} (e:Nat) (d:Kd α):Kd (List α) where
 sz:=1
 E:=e :: d.E
 K:=fun w xs cs=>∃A c,cs=[.slice A xs.length c]∧xs.length≤c∧d.C w A xs.length xs
 M:=fun w base ok xs cs=>∃v,cs=[v]∧d.R e w base ok v xs
 K_len:=by
  rintro w x cs ⟨A,c,rfl,_⟩
  rfl
 K_one:=by
  rintro w x cs ⟨A,c,rfl,_⟩ u hu
  rw[List.mem_singleton.1 hu]
  rfl
 K_below:=by
  rintro w w1 x cs hb ⟨A,c,rfl,hl,hr⟩
  exact⟨A,c,rfl,hl,C_below hr hb⟩
 K_of_M:=by
  rintro w base ok x cs ⟨v,rfl,h⟩
  obtain⟨A,c,rfl,hl,hr⟩:=R_reads h
  exact⟨A,c,rfl,hl,hr⟩
 M_mono:=by
  rintro w base ok ok' x cs hok ⟨v,rfl,h⟩
  exact⟨v,rfl,R_mono h hok⟩
 M_bound:=by
  rintro w base ok x cs ⟨v,rfl,h⟩
  exact⟨v,rfl,R_bound h⟩
 M_move:=by
  rintro w w1 base ok x cs hm ⟨v,rfl,h⟩
  exact⟨v,rfl,R_move h hm⟩
 M_lower:=by
  rintro w base base' ok x cs hb ⟨v,rfl,h⟩
  exact⟨v,rfl,R_lower h hb⟩
theorem C_get {α:Type} {d:Kd α} {w:World} {A:Option Addr} {n:Nat} {xs:List α} (h:d.C w A n xs) (z:α) (i:Int) (h0:0≤i) (h1:i<n) :
  ∃ad c,A=some ad∧c.length=d.sz∧d.K w (xs.getD i.toNat z) c∧∀j u,c[j]?=some u→w.cell? (ad.add (i.toNat * d.sz+j))=some u:=ReadsRow.get_ h z i h0 h1
theorem reps_scalar {α:Type} {enc:α→Value} (xs:List α):Reps (fun(x:α) (cs:List Value)=>cs=[enc x]) 1 xs (encs enc xs):=by
 refine⟨by simp[encs],fun j p hj=>?_⟩
 obtain⟨hl,hp⟩:=List.getElem?_eq_some_iff.1 hj
 have hl':j<(encs enc xs).length:=by rw[encs_length];exact hl
 rw[Nat.mul_one,List.drop_eq_getElem_cons hl']
 simp[encs,hp]
theorem R_of_own {α:Type} {enc:α→Value} {h1:∀x,(enc x).oneCell'=true} {e:Nat} {w:World} {base:Nat} {ok:Nat→Prop} {v:Value} {xs:List α} (ho:w.ownsRow base e 1 v xs.length (encs enc xs)) (hok:∀k,v.ownBlock=some k→ok k):(scalar enc h1).R e w base ok v xs:=⟨hok,encs enc xs,ho,reps_scalar xs⟩
theorem own_of_R {α:Type} {enc:α→Value} {h1:∀x,(enc x).oneCell'=true} {e:Nat} {w:World} {base:Nat} {ok:Nat→Prop} {v:Value} {xs:List α} (h:(scalar enc h1).R e w base ok v xs):w.ownsRow base e 1 v xs.length (encs enc xs):=by
 obtain⟨_,inner,ho,hr⟩:=h
 have:inner=encs enc xs:=by
  apply List.ext_getElem?
  intro j
  rcases Nat.lt_or_ge j xs.length with hj | hj
  ·have h2:=hr.2 j _ (List.getElem?_eq_getElem hj)
   have hl:j<inner.length:=by have:=hr.1;simp[scalar] at this;omega
   have h3:(inner.drop (j * 1)).take 1=[enc xs[j]]:=h2
   rw[Nat.mul_one,List.drop_eq_getElem_cons hl] at h3
   have h4:inner[j]=enc xs[j]:=by
    have h5:=congrArg List.head? h3
    rw[List.take_succ_cons] at h5
    exact Option.some.inj h5
   rw[List.getElem?_eq_getElem hl,h4]
   simp[encs,List.getElem?_eq_getElem hj]
  ·have h3:inner.length=xs.length:=by have:=hr.1;simp[scalar] at this;omega
   rw[List.getElem?_eq_none (by omega),List.getElem?_eq_none (by rw[encs_length];omega)]
 rw[←this]
 exact ho
theorem reads_of_C {α:Type} {enc:α→Value} {d:α} {h1:∀x,(enc x).oneCell'=true} {w:World} {A:Option Addr} {n:Nat} {xs:List α} (h:(scalar enc h1).C w A n xs):ReadsOf enc d w A n xs:=by
 refine⟨h.1,h.2.1,fun hn=>?_⟩
 obtain⟨ad,e,hc⟩:=h.2.2 hn
 refine⟨ad,e,fun j hj=>?_⟩
 have hl:j<xs.length:=by have:=h.1;omega
 obtain⟨c,_,hK,hcell⟩:=hc j _ (List.getElem?_eq_getElem hl)
 have hK':c=[enc xs[j]]:=hK
 subst hK'
 have:=hcell 0 _ rfl
 simpa [scalar,List.getD_eq_getElem?_getD,List.getElem?_eq_getElem hl] using this
end Kd
namespace Kd
section
variable {α β:Type} {d:Kd α} {d':Kd β} {e e':Nat} {w w1 W:World} {base b b':Nat} {ok ok' okv oku:Nat→Prop} {v u:Value} {xs:List α} {ys:List β}
end
end Kd
section
variable {P:Program}
theorem cut_to (t e:TypeId) (kh:IntKind) {i:TypeInfo} (ht:P.underlying t=some (.slice e)) (hi:P.info? e=some i) (A:Option Addr) (n c:Nat) (j:Int) (h0:0≤j) (hm:j≤n) (hc:n≤c) :
  ∀W:World,(Instr.slice t (.slice A n c) none (some (.int kh j)) none).run P W=.ok (.slice A j.toNat c) W:=by
 intro W
 have hel:P.elem t=e:=by simp[Program.elem,ht]
 have hu:P.underlying t=some (.slice (P.elem t)):=by rw[hel];exact ht
 have ha:(A.map fun x=>x.add 0)=A:=by cases A <;> simp[Addr.add]
 rw[run_slice_h W t A n c hu kh j h0 (by omega),hel]
 simp[sizeOf,typeInfo,hi,sliced,Result.andThen,ha]
theorem cut_from (t e:TypeId) (kl:IntKind) {i:TypeInfo} (ht:P.underlying t=some (.slice e)) (hi:P.info? e=some i) (size:Nat) (hsz:i.size=size) (A:Option Addr) (n c:Nat) (j:Int) (h0:0≤j) (hm:j≤n) :
  ∀W:World,(Instr.slice t (.slice A n c) (some (.int kl j)) none none).run P W=.ok (.slice (if c=j.toNat then A else A.map (·.add (j.toNat * size))) (n - j.toNat) (c - j.toNat)) W:=by
 intro W
 have hel:P.elem t=e:=by simp[Program.elem,ht]
 have hu:P.underlying t=some (.slice (P.elem t)):=by rw[hel];exact ht
 rw[run_slice_l W t A n c hu kl j h0 hm,hel]
 simp[sizeOf,typeInfo,hi,hsz,sliced,Result.andThen]
end
section
variable {w w1:World} {base n size:Nat} {e:TypeId} {v:Value} {xs:List Value}
theorem setCells_far {g:Nat}:∀(vs:List Value) (o:Nat) {w:World} (k:Nat),k≠g→(w.setCells g o vs).heap[k]?=w.heap[k]?
 | [],_,_,_,_=>rfl
 | v :: r,o,w,k,hk=>by
  rw[World.setCells,setCells_far r (o+1) k hk]
  exact Below.heap_setCell w ⟨g,o,none⟩ v k hk
theorem setCells_same (g:Nat):∀(vs:List Value) (o:Nat) (w:World),(w.setCells g o vs).os=w.os∧(w.setCells g o vs).tape=w.tape∧(w.setCells g o vs).output=w.output∧(w.setCells g o vs).heap.size=w.heap.size
 | [],_,_=>⟨rfl,rfl,rfl,rfl⟩
 | v :: r,o,w=>by
  obtain⟨h1,h2,h3,h4⟩:=setCells_same g r (o+1) (w.setCell ⟨g,o,none⟩ v)
  rw[World.setCells]
  exact⟨h1,h2,h3,by rw[h4];simp[World.setCell]⟩
theorem setCells_row {g:Nat} {e:TypeId}:∀(vs:List Value) (o:Nat) (w:World) (cur:Array Value),w.heap[g]?=some (.cells cur e (0,0))→o+vs.length≤cur.size →
  ∃cur',(w.setCells g o vs).heap[g]?=some (.cells cur' e (0,0))∧cur'.size=cur.size∧cur'.toList=cur.toList.take o ++ vs ++ cur.toList.drop (o+vs.length)
 | [],o,w,cur,h,_=>⟨cur,h,rfl,by simp⟩
 | v :: r,o,w,cur,h,hl=>by
  have h2:=blk_set h o v
  simp only[List.length_cons] at hl
  obtain⟨cur',h3,h4,h5⟩:=setCells_row r (o+1) (w.setCell ⟨g,o,none⟩ v) _ h2 (by simp;omega)
  refine⟨cur',h3,by rw[h4];simp,?_⟩
  rw[h5,Array.toList_setIfInBounds]
  have ho:o<cur.toList.length:=by rw[Array.length_toList];omega
  rw[List.take_set,List.drop_set_of_lt (by omega)]
  simp only[List.length_cons]
  rw[show o+1+r.length=o+(r.length+1) by omega]
  congr 1
  rw[List.take_succ_eq_append_getElem ho,List.set_append_right _ _ (by rw[List.length_take];omega)]
  have ho':o<cur.size:=by omega
  simp[Nat.min_eq_left (Nat.le_of_lt ho')]
end
namespace Kd
section
variable {P:Program} {ops:Array Oper} {rest:List Oper} {o:Oper} {a:Act} {Q:Exit→Act→World→Prop} {α:Type}
theorem R_copy {enc:α→Value} {h1:∀x,(enc x).oneCell'=true} (d:α) {w0 W:World} (base:Nat) (hgd:o.guard=none) (s x:Operand) (t t' e:TypeId)
  (ho:o.op=.call { callee:=.builtin .copy,args:=#[s,x],argTypes:=#[t,t'] }) (ht:P.underlying t=some (.slice e)) (hinfo:(P.info? e).map (·.size)=some 1)
  (v:Value) (xs ys:List α) (A:Option Addr) (m c:Nat) (ok:Nat→Prop) (hs:a.eval s=v) (hx:a.eval x=.slice A m c)
  (HO:(scalar enc h1).R e W base ok v xs) (HR:(scalar enc h1).C W A m ys) (HB:Below base w0 W) (hbase:base≤W.heap.size)
  (h:∀w1,(scalar enc h1).R e w1 base ok v (ys.take (min m xs.length) ++ xs.drop (min m xs.length))→Below base w0 w1→W.grownBy w1 v.ownBlock→wpList P ops Q rest (a.put o.dst (.int .i64 ((min m xs.length:Nat):Int))) w1) :
  wpList P ops Q (o :: rest) a W:=by
 have hR:=reads_of_C (enc:=enc) (d:=d) (h1:=h1) HR
 have hm:ys.length=m:=hR.1
 have hown:=own_of_R HO
 have fin:∀w1,(Builtin.copy_ #[t,t'] o.type #[v,.slice A m c]).run P W=.ok (goInt ((min m xs.length:Nat):Int)) w1→(scalar enc h1).R e w1 base ok v (ys.take (min m xs.length) ++ xs.drop (min m xs.length))→W.grownBy w1 v.ownBlock→wpList P ops Q (o :: rest) a W:=by
  intro w1 hr hrow hg
  refine wpList_plain hgd fun K hK=>?_
  unfold Oper.wp execOp
  simp only[ho,resolve,invoke,builtin,Sem.run_bind,Sem.run_pure,Result.andThen_ok,List.map_toArray,List.map_cons,List.map_nil,hs,hx,hr]
  exact hK _ _ (h w1 hrow (HB.grown hg hbase (own_base hown)) hg)
 rcases Nat.eq_zero_or_pos (min m xs.length) with h0 | hp
 ·obtain⟨A',c',hv⟩:=own_slice hown
  refine fin W ?_ (by rw[h0,List.take_zero,List.drop_zero,List.nil_append];exact HO) (World.grownBy.refl W _)
  rw[h0,hv]
  exact run_copy_none W t t' o.type e A' A xs.length c' m c ht hinfo h0
 ·obtain⟨ad,hA,hc⟩:=hR.2.2 (by omega)
  rcases hown.2 with⟨_,hx0⟩ | ⟨g,cap,cur,hv,hb,hh,hnc,hcm,hcs,htake⟩
  ·omega
  have hcs1:cur.size=cap:=by omega
  have hsrc:∀j u,(encs enc (ys.take (min m xs.length)))[j]?=some u→W.cell? (ad.add j)=some u:=by
   intro j u hu
   have hj:j<(ys.take (min m xs.length)).length:=by
    rcases Nat.lt_or_ge j (ys.take (min m xs.length)).length with h | h
    ·exact h
    ·rw[List.getElem?_eq_none (by rw[encs_length];exact h)] at hu
     cases hu
   have hjm:j<min m xs.length:=by rw[List.length_take] at hj;omega
   rw[encs_get (d:=d) _ j hj] at hu
   rw[hc j (by omega),←hu]
   simp[List.getD_eq_getElem?_getD,hjm]
  have hkl:(encs enc (ys.take (min m xs.length))).length=min m xs.length:=by rw[encs_length,List.length_take];omega
  have hr:=run_copy_cells (P:=P) W t t' o.type e g 0 xs.length cap ad m c (encs enc (ys.take (min m xs.length))) ht hinfo (by rw[hkl]) hsrc
   (fun j hj=>by rw[cell_of_row W g _ cur e (0,0) hh];simp;omega) (fun j _=>blk_frozen hh _) (by intro u hu;simp only[encs,List.mem_map] at hu;obtain⟨q,_,rfl⟩:=hu;exact h1 q)
  obtain⟨cur',h3,h4,h5⟩:=setCells_row (encs enc (ys.take (min m xs.length))) 0 W cur hh (by rw[hkl];omega)
  obtain⟨s1,s2,s3,s4⟩:=setCells_same g (encs enc (ys.take (min m xs.length))) 0 W
  refine fin _ (by rw[hv,hA,hr,hkl]) (R_of_own ?_ HO.1) ⟨s1,s2,s3,by rw[s4];exact Nat.le_refl _,fun k _ hk=>setCells_far _ _ k (fun he=>hk (by rw[hv,he];simp[Value.ownBlock]))⟩
  have hln:(ys.take (min m xs.length) ++ xs.drop (min m xs.length)).length=xs.length:=by
   rw[List.length_append,List.length_take,List.length_drop]
   omega
  rw[hln]
  refine⟨by rw[encs_length,hln,Nat.mul_one],.inr ⟨g,cap,cur',hv,hb,h3,hnc,hcm,by rw[h4,hcs],?_⟩⟩
  rw[h5,List.take_zero,List.nil_append,hkl,Nat.zero_add,encs_append,Nat.mul_one]
  rw[List.take_append,hkl,List.take_of_length_le (by rw[hkl];omega)]
  congr 1
  have htk:cur.toList.take xs.length=encs enc xs:=by rw[←htake,Nat.mul_one]
  have hd:encs enc (xs.drop (min m xs.length))=(encs enc xs).drop (min m xs.length):=by simp[encs,List.map_drop]
  rw[hd,←htk,List.drop_take]
end
end Kd
theorem add_add (a:Addr) (i j:Nat):(a.add i).add j=a.add (i+j):=by
 unfold Addr.add
 by_cases h1:i=0 <;> by_cases h2:j=0 <;> simp[h1,h2,Nat.add_assoc]
namespace Kd
section
variable {α:Type} {k:Kd α} {w:World} {A:Option Addr} {xs:List α} {m c:Nat}
theorem C_take (h:k.C w A xs.length xs) (hm:m≤xs.length):k.C w A (xs.take m).length (xs.take m):=by
 have hl:(xs.take m).length=m:=by rw[List.length_take];omega
 refine⟨rfl,by rw[hl];have:=h.2.1;omega,fun hp=>?_⟩
 obtain⟨ad,e,hc⟩:=h.2.2 (by omega)
 refine⟨ad,e,fun j p hj=>hc j p ?_⟩
 rw[List.getElem?_take] at hj
 split at hj
 ·exact hj
 ·cases hj
theorem C_drop (h:k.C w A xs.length xs) (hm:m≤xs.length) (hc:xs.length≤c):k.C w (if c=m then A else A.map (·.add (m * k.sz))) (xs.drop m).length (xs.drop m):=by
 have hl:(xs.drop m).length=xs.length - m:=List.length_drop
 refine⟨rfl,by rw[hl];have:=h.2.1;omega,fun hp=>?_⟩
 rw[hl] at hp
 obtain⟨ad,rfl,hcell⟩:=h.2.2 (by omega)
 rw[if_neg (by omega)]
 refine⟨ad.add (m * k.sz),rfl,fun j p hj=>?_⟩
 rw[List.getElem?_drop] at hj
 obtain⟨cs,h1,h2,h3⟩:=hcell (m+j) p hj
 refine⟨cs,h1,h2,fun i u hu=>?_⟩
 rw[add_add,show m * k.sz+(j * k.sz+i)=(m+j) * k.sz+i by rw[Nat.add_mul];omega]
 exact h3 i u hu
end
end Kd
end Go.Proofs.YtealnhaffphamaaW.PrintWords

namespace Go.Proofs.Ytealnhaffphamaa
open Go.RowKit Go.Proofs.YtealnhaffphamaaW.PrintWords
abbrev Fs:=List (List (List Int))
def fcA (fs:Fs) (f:Nat):List (List Int):=fs.getD f []
def lA (ls:List (List Int)) (l:Nat):List Int:=ls.getD l []
def lpA (fs:Fs) (f l:Nat):List Int:=lA (fcA fs f) l
structure PV where
 f:Nat
 l:Nat
 i:Nat
 v:Int
 b:Int
 a:Int
def pvA (fs:Fs) (f l i:Nat):PV:=⟨f,l,i,(lpA fs f l).getD i 0,(lpA fs f l).getD ((i+(lpA fs f l).length - 1) % (lpA fs f l).length) 0,(lpA fs f l).getD ((i+1) % (lpA fs f l).length) 0⟩
def rowA (fs:Fs) (f l k:Nat):List PV:=(List.range k).map (pvA fs f l)
def faceA (fs:Fs) (f k:Nat):List PV:=(List.range k).flatMap fun l=>rowA fs f l (lpA fs f l).length
def upA (fs:Fs) (k:Nat):List PV:=(List.range k).flatMap fun f=>faceA fs f (fcA fs f).length
def plsA (fs:Fs):List PV:=upA fs fs.length
theorem rowA_succ (fs:Fs) (f l k:Nat):rowA fs f l (k+1)=rowA fs f l k ++ [pvA fs f l k]:=by simp[rowA,List.range_succ]
theorem faceA_succ (fs:Fs) (f k:Nat):faceA fs f (k+1)=faceA fs f k ++ rowA fs f k (lpA fs f k).length:=by simp[faceA,List.range_succ]
theorem upA_succ (fs:Fs) (k:Nat):upA fs (k+1)=upA fs k ++ faceA fs k (fcA fs k).length:=by simp[upA,List.range_succ]
theorem upA_prefix (fs:Fs) {k n:Nat} (h:k≤n):upA fs k <+: upA fs n:=by
 induction n with
 | zero=>
      obtain rfl:k=0:=by omega
      exact List.prefix_refl _
 | succ n ih=>
  by_cases e:k=n+1
  ·subst e;exact List.prefix_refl _
  ·rw[upA_succ];exact(ih (by omega)).trans (List.prefix_append _ _)
theorem faceA_prefix (fs:Fs) (f:Nat) {k n:Nat} (h:k≤n):faceA fs f k <+: faceA fs f n:=by
 induction n with
 | zero=>
      obtain rfl:k=0:=by omega
      exact List.prefix_refl _
 | succ n ih=>
  by_cases e:k=n+1
  ·subst e;exact List.prefix_refl _
  ·rw[faceA_succ];exact(ih (by omega)).trans (List.prefix_append _ _)
theorem rowA_prefix (fs:Fs) (f l:Nat) {k n:Nat} (h:k≤n):rowA fs f l k <+: rowA fs f l n:=by
 induction n with
 | zero=>
      obtain rfl:k=0:=by omega
      exact List.prefix_refl _
 | succ n ih=>
  by_cases e:k=n+1
  ·subst e;exact List.prefix_refl _
  ·rw[rowA_succ];exact(ih (by omega)).trans (List.prefix_append _ _)
theorem at_prefix (fs:Fs) {f l k:Nat} (hf:f<fs.length) (hl:l<(fcA fs f).length) (hk:k≤(lpA fs f l).length):upA fs f ++ faceA fs f l ++ rowA fs f l k <+: plsA fs:=by
 refine List.IsPrefix.trans ?_ (upA_prefix fs (show f+1≤fs.length from hf))
 rw[upA_succ,List.append_assoc]
 refine(List.prefix_append_right_inj _).2 ?_
 refine List.IsPrefix.trans ?_ (faceA_prefix fs f (show l+1≤_ from hl))
 rw[faceA_succ]
 exact(List.prefix_append_right_inj _).2 (rowA_prefix fs f l hk)
theorem mem_row {fs:Fs} {f l k:Nat} {x:PV}:x∈rowA fs f l k↔∃i,i<k∧x=pvA fs f l i:=by
 simp only[rowA,List.mem_map,List.mem_range]
 exact⟨fun⟨i,h1,h2⟩=>⟨i,h1,h2.symm⟩,fun⟨i,h1,h2⟩=>⟨i,h1,h2.symm⟩⟩
theorem mem_pls {fs:Fs} {x:PV}:x∈plsA fs↔∃f l i,f<fs.length∧l<(fcA fs f).length∧i<(lpA fs f l).length∧x=pvA fs f l i:=by
 simp only[plsA,upA,faceA,List.mem_flatMap,List.mem_range,mem_row]
 constructor
 ·rintro⟨f,hf,l,hl,i,hi,rfl⟩;exact⟨f,l,i,hf,hl,hi,rfl⟩
 ·rintro⟨f,l,i,hf,hl,hi,rfl⟩;exact⟨f,hf,l,hl,i,hi,rfl⟩
abbrev PM (fs:Fs):={x:PV // x∈plsA fs}
def valsP {fs:Fs} (q:List (PM fs)):List PV:=q.map (·.1)
def pl3 (x:PV):Nat × Nat × Nat:=(x.f,x.l,x.i)
def IsP (fs:Fs) (p:Nat × Nat × Nat):Prop:=p.1<fs.length∧p.2.1<(fcA fs p.1).length∧p.2.2<(lpA fs p.1 p.2.1).length
theorem IsP.mem {fs:Fs} {p:Nat × Nat × Nat} (h:IsP fs p):pvA fs p.1 p.2.1 p.2.2∈plsA fs:=mem_pls.2 ⟨_,_,_,h.1,h.2.1,h.2.2,rfl⟩
theorem isP_of {fs:Fs} {x:PV} (h:x∈plsA fs):IsP fs (pl3 x)∧x=pvA fs x.f x.l x.i:=by
 obtain⟨f,l,i,hf,hl,hi,rfl⟩:=mem_pls.1 h
 exact⟨⟨hf,hl,hi⟩,rfl⟩
def Sm (fs:Fs):Prop:=fs.length≤1000000∧(∀f,(fcA fs f).length≤1000000)∧∀f l,(lpA fs f l).length≤1000000
abbrev KI:Kd Int:=Kd.int .i64
abbrev KL:Kd (List Int):=Kd.slice 3 KI
abbrev KF:Kd (List (List Int)):=Kd.slice 36 KL
def RF (W:World) (A:Option Addr) (fs:Fs):Prop:=KF.C W A fs.length fs
def RL (W:World) (A:Option Addr) (ls:List (List Int)):Prop:=KL.C W A ls.length ls
def RI (W:World) (A:Option Addr) (xs:List Int):Prop:=KI.C W A xs.length xs
theorem RF.below {w W:World} {A:Option Addr} {fs:Fs} (h:RF w A fs) (hb:Below w.heap.size w W):RF W A fs:=Kd.C_below h hb
theorem RL.below {w W:World} {A:Option Addr} {fs:List (List Int)} (h:RL w A fs) (hb:Below w.heap.size w W):RL W A fs:=Kd.C_below h hb
theorem RI.below {w W:World} {A:Option Addr} {fs:List Int} (h:RI w A fs) (hb:Below w.heap.size w W):RI W A fs:=Kd.C_below h hb
theorem at_row {α:Type} {d:Kd α} {e:Nat} {w:World} {A:Option Addr} {n:Nat} {xs:List (List α)} (h:Kd.C (Kd.slice e d) w A n xs) {i:Nat} (hi:i<n):∃ad A0 c0,A=some ad∧w.cell? (ad.add i)=some (.slice A0 (xs.getD i []).length c0)∧(xs.getD i []).length≤c0∧d.C w A0 (xs.getD i []).length (xs.getD i []):=by
 obtain⟨ad,c,e,_,hK,hc0⟩:=Kd.C_get h ([]:List α) (i:Int) (by omega) (by omega)
 obtain⟨A0,c0,rfl,l0,g0⟩:=hK
 exact⟨ad,A0,c0,e,by have hq:=hc0 0 _ rfl;simpa [Kd.slice] using hq,l0,g0⟩
theorem RF.at {W:World} {A:Option Addr} {fs:Fs} (h:RF W A fs) {f:Nat} (hf:f<fs.length):∃ad A0 c0,A=some ad∧W.cell? (ad.add f)=some (.slice A0 (fcA fs f).length c0)∧(fcA fs f).length≤c0∧RL W A0 (fcA fs f):=at_row h hf
theorem RL.at {W:World} {A:Option Addr} {ls:List (List Int)} (h:RL W A ls) {l:Nat} (hl:l<ls.length):∃ad A0 c0,A=some ad∧W.cell? (ad.add l)=some (.slice A0 (lA ls l).length c0)∧(lA ls l).length≤c0∧RI W A0 (lA ls l):=at_row h hl
theorem RL.atP {W:World} {A:Option Addr} {fs:Fs} {f:Nat} (h:RL W A (fcA fs f)) {l:Nat} (hl:l<(fcA fs f).length):∃ad A0 c0,A=some ad∧W.cell? (ad.add l)=some (.slice A0 (lpA fs f l).length c0)∧(lpA fs f l).length≤c0∧RI W A0 (lpA fs f l):=RL.at h hl
theorem RI.at {W:World} {A:Option Addr} {xs:List Int} (h:RI W A xs) {i:Nat} (hi:i<xs.length):∃ad,A=some ad∧W.cell? (ad.add i)=some (.int .i64 (xs.getD i 0)):=by
 obtain⟨ad,c,e,_,hK,hc0⟩:=Kd.C_get h (0:Int) (i:Int) (by omega) (by omega)
 have hc:c=[.int .i64 (xs.getD (i:Int).toNat 0)]:=hK
 subst hc
 have hq:=hc0 0 _ rfl
 exact⟨ad,e,by simpa [KI,Kd.int,Kd.scalar] using hq⟩
theorem RF.len {W:World} {A:Option Addr} {fs:Fs} (h:RF W A fs):fs.length≤9223372036854775807:=h.2.1
theorem RL.len {W:World} {A:Option Addr} {fs:List (List Int)} (h:RL W A fs):fs.length≤9223372036854775807:=h.2.1
theorem RI.len {W:World} {A:Option Addr} {fs:List Int} (h:RI W A fs):fs.length≤9223372036854775807:=h.2.1
end Go.Proofs.Ytealnhaffphamaa
