/- Contracts of the functions that the statement reaches, and plain lemmas: part 31 of 31. -/
import Derived.Test.YtealnhaffphamaaS01
import Derived.Test.YtealnhaffphamaaS02
import Derived.Deep.Slices
import Derived.ChangeSame
import Derived.ChangeShapes
import Derived.ChangeAt
import Derived.JoinedOf
import Derived.OpenShut
import Derived.RowKit
set_option linter.unusedVariables false
set_option linter.unusedSimpArgs false

namespace Go.Proofs.Ytealnhaffphamaa
open Go.RowKit Go.Proofs.YtealnhaffphamaaW.PrintWords Go.ChangeShapes Go.WideShapes Go.ChangeAt
theorem choose_list {α:Type} {p:Nat→α→Prop}:∀n,(∀i,i<n→∃x,p i x)→∃l:List α,l.length=n∧∀i x,l[i]?=some x→p i x
 | 0,_=>⟨[],rfl,fun i x h=>by simp at h⟩
 | n+1,h=>by
  obtain⟨l,hl,hp⟩:=choose_list n (fun i hi=>h i (by omega))
  obtain⟨x,hx⟩:=h n (by omega)
  refine⟨l ++ [x],by simp[hl],fun i y hy=>?_⟩
  by_cases e:i<l.length
  ·rw[List.getElem?_append_left e] at hy;exact hp i y hy
  ·rw[List.getElem?_append_right (by omega)] at hy
   have hi:i - l.length=0:=by
    have:=(List.getElem?_eq_some_iff.1 hy).1;simp at this;omega
   rw[hi] at hy
   simp at hy
   subst hy
   have:i=n:=by omega
   rw[this];exact hx
section
variable {H:Type} {enc:TypeId × Value→H} {w:World} {base:Nat} {spare:Nat→Bool} {held:Bool}
theorem arg_again {t:TypeId} (hr:Try.prog.readableRec t=true) (hrow:t<Try.prog.types.size) {W W':World} {v:Value} {d:DataW H} {ps:List MemPlace} (h:DataW.Trod enc Try.prog W 0 (fun _=>true) true t v d ps)
  (hb:Below W.heap.size W W') (hlt:∀x∈ps,x.block<W.heap.size) {sp:Nat→Bool} (hs:∀x∈ps,sp x.block=true):DataW.Trod enc Try.prog W' 0 sp true t v d ps:=
 WideElems.Trod_stays Try.laid hr hrow h (fun x hx=>hb.same (hlt x hx)) hs
theorem Try.c3:Try.prog.cellsOf 3=1:=by kernel_rfl
theorem Try.cF:Try.prog.cellsOf 37=1:=by kernel_rfl
end
end Go.Proofs.Ytealnhaffphamaa

namespace Go.Proofs.Ytealnhaffphamaa
open Go.ChangeShapes Go.WideShapes Go.ChangeAt Go.RowKit
section
variable {H:Type} {enc:TypeId × Value→H}
theorem post_below {P:Program} {f:Func} {s:ChangeSpec} {apart fresh handsOn again:Bool} {W W':World} {args:Array Value} {v:Value} {ds gs:List (DataW H)} {before pa pv:List MemPlace}
  (hW:DataW.Whole enc P f.params.toList s.vars apart W args.toList ds gs before)
  (hres:∀(b:Nat) (sp:Nat→Bool) (hd:Bool),DataW.TrodAll enc P W' b sp hd f.resultTypes.toList (v.resultList f.resultTypes.size) (s.fn H (ds ++ gs)).results [])
  (hargs:∀sp:Nat→Bool,(∀p∈before,sp p.block=true)→DataW.TrodAll enc P W' 0 sp true f.params.toList args.toList (s.fn H (ds ++ gs)).args pa)
  (hvars:∀sp:Nat→Bool,(∀p∈before,sp p.block=true)→DataW.TrodVars enc P W' sp s.vars (s.fn H (ds ++ gs)).vars pv)
  (hps:before=pa ++ pv) (hb:Below W.heap.size W W')
  (hok:∀(j:Nat) (t:TypeId) (r:Value),f.resultTypes[j]?=some t→(v.resultList f.resultTypes.size)[j]?=some r→Value.okWide P W' .any 0 t r) :
  s.post enc P f apart fresh handsOn again W args v W':=by
 have lt:∀p,p∈before→p.block<W.heap.size:=fun p hp=>hW.lt p hp
 have old:∀p,p∈before→(fun b=>decide (b<W.heap.size)) p.block=true:=fun p hp=>decide_eq_true (lt p hp)
 refine⟨ds,gs,before,[],pa,pv,hW,hres _ _ _,hargs _ old,hvars _ old,World.keptBut_mono (fun p hp=>⟨hp,?_⟩) (hb.frame (·∈before)),fun _=>?_⟩
 ·have hp':=hp
  rw[hps,List.mem_append] at hp'
  exact Or.inr hp'
 ·obtain⟨_,_,_,_,_,hz,hn⟩:=hW
  refine⟨hok,_,_,([] ++ pa) ++ pv,⟨[] ++ pa,pv,trodAll_append (hargs _ (fun _ _=>rfl)) (hres _ _ _),hvars _ (fun _ _=>rfl),rfl,fun b off hp=>?_,fun ha=>?_⟩,?_⟩
  ·have hin:MemPlace.cell b off∈before:=by rw[hps];simpa using hp
   rw[hb.frozen (lt _ hin)];exact hz b off hin
  ·have h:=hn ha
   rw[hps] at h;simpa using h
  ·intro p hp _
   rw[hps];simpa using hp
end
theorem eul_own:ownKnob Try.prog.godebug=none:=by kernel_rfl
end Go.Proofs.Ytealnhaffphamaa
