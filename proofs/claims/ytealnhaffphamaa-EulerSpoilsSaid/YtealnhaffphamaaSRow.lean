/- For every input the law EulerSpoils returns true, and each argument reads behind the call as it read before. No condition. -/
import Derived.Test.YtealnhaffphamaaS30
import Derived.Test.YtealnhaffphamaaS31
import Derived.Test.YtealnhaffphamaaS31
import Derived.Test.YtealnhaffphamaaRows
namespace Go.Proofs.Ytealnhaffphamaa
open Go.ChangeShapes Go.WideShapes Go.ChangeAt Go.RowKit
theorem Try.cOp:Try.prog.cellsOf 80=5:=by kernel_rfl
theorem list4 {α:Type} (l:List α) (h:(⟨l⟩:Array α).size=4):∃a b c d,l=[a,b,c,d]:=by
 match l,h with
 | [a,b,c,d],_=>exact⟨a,b,c,d,rfl⟩
section
variable {H:Type} {enc:TypeId × Value→H} {w:World} {base:Nat} {spare:Nat→Bool} {held:Bool}
set_option maxRecDepth 100000 in
theorem open_op {fuel:Nat} {cs:List Value} {x:DataW H × List MemPlace} (h:DataW.trod enc Try.prog w base spare held fuel 80 cs=some x):∃q:OpN,cs=opC q:=by
 obtain⟨xs,n,_,_,hl,hlen,hf⟩:=DataW.trod_struct Try.underlying80 h
 have hl2:cs.length=5:=hl.trans (by kernel_rfl)
 match cs,hl2,xs,hlen with
 | [c0,c1,c2,c3,c4],_,[y0,y1,y2,y3,y4],_=>
  obtain⟨x0,k0,_,_⟩:=DataW.trod_int Try.u3 (show DataW.trod enc Try.prog w base spare held n 3 [c0]=some y0 from hf 0 _ rfl)
  obtain⟨x1,k1,_,_⟩:=DataW.trod_int Try.u3 (show DataW.trod enc Try.prog w base spare held n 3 [c1]=some y1 from hf 1 _ rfl)
  obtain⟨x2,k2,_,_⟩:=DataW.trod_int Try.u3 (show DataW.trod enc Try.prog w base spare held n 3 [c2]=some y2 from hf 2 _ rfl)
  obtain⟨x3,k3,_,_⟩:=DataW.trod_int Try.u3 (show DataW.trod enc Try.prog w base spare held n 3 [c3]=some y3 from hf 3 _ rfl)
  obtain⟨x4,k4,_,_⟩:=DataW.trod_int Try.u3 (show DataW.trod enc Try.prog w base spare held n 3 [c4]=some y4 from hf 4 _ rfl)
  injection k0 with k0
  injection k1 with k1
  injection k2 with k2
  injection k3 with k3
  injection k4 with k4
  exact⟨⟨x0,x1,x2,x3,x4⟩,by rw[k0,k1,k2,k3,k4];rfl⟩
set_option maxRecDepth 100000 in
theorem open_ops {b0:Nat} {v:Value} {d:DataW H} {p:List MemPlace} (hv:Value.okWide Try.prog w .any b0 22 v) (h:DataW.Trod enc Try.prog w base spare held 22 v d p) :
  ∃A0 c ops,v=.slice A0 (List.length ops) c∧RO5 w A0 ops∧ops.length≤9223372036854775807:=by
 obtain⟨a,len,cap,rfl⟩:=okWide_slice Try.underlying22 hv
 obtain⟨fuel,hf⟩:=h
 rcases Deep.open_slice Try.underlying22 hf with⟨hcs,-⟩ | ⟨a',len',cap',m,n,D,Pl,hcs,hb,hl,hm,hmm,-,hx⟩
 ·simp[Value.cells] at hcs
  obtain⟨rfl,rfl,rfl⟩:=hcs
  exact⟨none,0,[],rfl,fun i q hq=>by simp at hq,by simp⟩
 ·simp[Value.cells] at hcs
  obtain⟨rfl,rfl,rfl⟩:=hcs
  have hlm:len≤m:=by rw[hmm];split <;> omega
  obtain⟨l,h1,h2⟩:=choose_list (p:=fun i (q:OpN)=>∀j u,(opC q)[j]?=some u→w.cell? ((a'.add (i * 5)).add j)=some u) len (fun i hi=>by
   obtain⟨cs,e1,e2⟩:=hx i (by omega)
   rw[Try.cOp] at e1
   obtain⟨_,hlen,hc⟩:=World.cells?_some e1
   obtain⟨q,rfl⟩:=open_op e2
   refine⟨q,fun j u hj=>?_⟩
   have hj5:=(List.getElem?_eq_some_iff.1 hj).1
   have:=hc j hj5
   rw[this,hj])
  subst h1
  exact⟨some a',cap,l,rfl,fun i q hq=>⟨a',rfl,h2 i q hq⟩,by unfold maxLen at hm;omega⟩
set_option maxRecDepth 100000 in
theorem open_four {b0:Nat} {v:Value} {d:DataW H} {p:List MemPlace} (hv:Value.okWide Try.prog w .any b0 23 v) (h:DataW.Trod enc Try.prog w base spare held 23 v d p) :
  ∃x0 x1 x2 x3:Int,v=.agg #[.int .i64 x0,.int .i64 x1,.int .i64 x2,.int .i64 x3]:=by
 obtain⟨cs,rfl,hsz,_⟩:∃cs,v=.agg cs∧cs.size=Try.prog.cellsOf 23∧Row.okWide Try.prog w .any b0 23 cs:=by
  simpa [Value.okWide,Try.underlying23] using hv
 rw[show Try.prog.cellsOf 23=4 by kernel_rfl] at hsz
 obtain⟨l⟩:=cs
 obtain⟨c0,c1,c2,c3,rfl⟩:=list4 l hsz
 obtain⟨fuel,hf⟩:=h
 obtain⟨xs,m,_,_,_,hlen,hx⟩:=DataW.trod_array Try.underlying23 hf
 have h0:=hx 0 (by omega)
 have h1:=hx 1 (by omega)
 have h2:=hx 2 (by omega)
 have h3:=hx 3 (by omega)
 rw[Try.c3,List.getElem?_eq_getElem (by omega)] at h0 h1 h2 h3
 obtain⟨x0,k0,_,_⟩:=DataW.trod_int Try.u3 (show DataW.trod enc Try.prog w base spare held m 3 [c0]=some _ from by simpa [Value.cells] using h0)
 obtain⟨x1,k1,_,_⟩:=DataW.trod_int Try.u3 (show DataW.trod enc Try.prog w base spare held m 3 [c1]=some _ from by simpa [Value.cells] using h1)
 obtain⟨x2,k2,_,_⟩:=DataW.trod_int Try.u3 (show DataW.trod enc Try.prog w base spare held m 3 [c2]=some _ from by simpa [Value.cells] using h2)
 obtain⟨x3,k3,_,_⟩:=DataW.trod_int Try.u3 (show DataW.trod enc Try.prog w base spare held m 3 [c3]=some _ from by simpa [Value.cells] using h3)
 injection k0 with k0
 injection k1 with k1
 injection k2 with k2
 injection k3 with k3
 exact⟨x0,x1,x2,x3,by rw[k0,k1,k2,k3]⟩
end
set_option maxHeartbeats 400000 in
set_option maxRecDepth 100000 in
theorem eulerSpoils_lifted (os:Os) (started:os.Started) (H:Type) (enc:TypeId × Value→H) :
  ReturnsInHanded {} Try.checked os 3 .any (Rows.eulerSpoilsSpec.pre6 enc Try.prog Try.f3 Rows.eulerSpoilsRow.domain false) (Rows.eulerSpoilsSpec.post enc Try.prog Try.f3 false true false false):=by
 refine returnsInHanded_of_change (C:=Try.checked) eul_own started (by kernel_rfl) Try.func3
  (ChangeSpec.witness6 (enc:=enc) (C:=Try.checked) false ⟨#[],#[.slice none 0 0,.agg #[.int .i64 0,.int .i64 0,.int .i64 0,.int .i64 0]],[]⟩ 8 (by kernel_rfl) (by kernel_rfl) (by kernel_rfl) (by kernel_rfl)) ?_
 intro W base args ds gs before hval0 hW _ _
 have hval:∀(j:Nat) t v,Try.f3.params[j]?=some t→args[j]?=some v→Value.okWide Try.prog W .any base t v:=hval0
 have hW':=hW
 obtain⟨p,q,hA0,hV,rfl,_,_⟩:=hW
 have hA:DataW.TrodAll enc Try.prog W 0 (fun _=>true) true Try.f3.params.toList args.toList ds p:=hA0
 rw[Try.params3] at hA hval
 obtain⟨v0,v1,d0,d1,p0,p1,rfl,rfl,rfl,h0,h1⟩:=trodAll_two hA
 obtain⟨rfl,rfl⟩:=trodVars_none hV
 obtain⟨A0,c,ops,rfl,hO,hl⟩:=open_ops (hval 0 22 v0 rfl rfl) h0
 obtain⟨b0,b1,b2,b3,rfl⟩:=open_four (hval 1 23 v1 rfl rfl) h1
 clear hA0 hval0
 have hlt:∀z∈p0 ++ p1,z.block<W.heap.size:=fun z hz=>hW'.lt z (by simpa using hz)
 refine(spoils_any A0 c ops b0 b1 b2 b3 W hO hl).mono fun e W' ⟨he,hb⟩=>?_
 subst he
 exact⟨_,rfl,post_below (pa:=p0 ++ p1) (pv:=[]) hW' (fun _ _ _=>trodAll_mk1 (shut_bool Try.underlying4 _))
  (fun sp hs=>trodAll_mk2 (arg_again (by kernel_rfl) (of_decide_eq_true (by kernel_rfl)) h0 hb (fun z hz=>hlt z (by simp[hz])) (fun z hz=>hs z (by simp[hz])))
   (arg_again (by kernel_rfl) (of_decide_eq_true (by kernel_rfl)) h1 hb (fun z hz=>hlt z (by simp[hz])) (fun z hz=>hs z (by simp[hz])))) (fun _ _=>rfl) (by simp)
  hb (ok_one (by kernel_rfl) rfl (okWide_bool_mk Try.underlying4 _))⟩
theorem eulerSpoils_holds:Rows.EulerSpoilsSaid:=
 OpenClaim.holds_of_wide 3 Try.f3 rfl rfl rfl rfl rfl rfl rfl ⟨rfl,rfl,rfl,rfl,rfl⟩ rfl rfl rfl rfl rfl (by kernel_rfl) Try.func3 (by kernel_rfl)
  (of_decide_eq_true (by kernel_rfl)) (by unfold Func.isWrapper;first | (rw[if_pos (by decide +kernel)];kernel_rfl) | (rw[if_neg (by decide +kernel)];exact⟨rfl,rfl⟩))
  (fun os started H enc _=>eulerSpoils_lifted os started H enc)
#print axioms eulerSpoils_holds
end Go.Proofs.Ytealnhaffphamaa
