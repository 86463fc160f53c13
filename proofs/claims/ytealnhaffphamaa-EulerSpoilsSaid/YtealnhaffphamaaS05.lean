/- Contracts of the functions that the statement reaches, and plain lemmas: part 5 of 31. -/
import Derived.Test.YtealnhaffphamaaS04
import Derived.OwnWalk
import Derived.Laws.IdiomCopy
import Derived.Laws.MakeOwn
import Derived.Shelf.Sort.Plain
import Derived.Ground.Names2Prog
import Derived.Shelf.Spec.SlicesInsertGrow
import Derived.Shelf.Slices.In.SortNone
import Derived.Ground.SlgnProg
import Derived.Shelf.SlicesE.Delete
import Derived.Test.YtealnhaffphamaaProg
import Derived.Test.YtealnhaffphamaaS02
import Derived.Deep.QuietTactic
import Derived.BigQuiet
set_option linter.unusedVariables false
set_option linter.unusedSimpArgs false

namespace Go.Proofs.Ytealnhaffphamaa
open Go.RowKit Go.Shelf Go.Proofs.YtealnhaffphamaaW.PrintWords
theorem blk_set2 {W:World} {b:Nat} {x y u v:Value} {t:TypeId} (h:Blk W b (.cells #[x,y] t)):Blk ((W.setCell ⟨b,0,none⟩ u).setCell ⟨b,1,none⟩ v) b (.cells #[u,v] t):=blk_set (blk_set h)
theorem right_at {N:Int} {A:Option Addr} {c:Nat} {fs:Fs} {w W:World} (hF:RF w A fs) (hb:Below w.heap.size w W) (hSm:Sm fs) (hI:NI fs) (hcap:(plsA fs).length≤100000) :
  Calls Try.prog 42 #[.agg #[.int .i64 N,.slice A fs.length c]] W fun e w'=>(∃b,e=.returned (.bool b)∧(b=true↔RightP N fs))∧Below w.heap.size w w'∧Below W.heap.size W w':=
 (right_any N A c fs W (hF.below hb) hSm hI hcap).mono (fun _ _ h=>⟨h.1,hb.trans (h.2.mono hb.size),h.2⟩)
set_option maxRecDepth 100000 in
set_option maxHeartbeats 4000000 in
theorem check_any (N:Int) (A:Option Addr) (c:Nat) (fs:Fs) (w:World) (hF:RF w A fs) (hSm:Sm fs) (hI:NI fs) (hcap:(plsA fs).length≤100000) :
  Calls Try.prog 10 #[.agg #[.int .i64 N,.slice A fs.length c]] w fun e w'=>(∃b:Bool,e=.returned (.int .i64 (if b then 0 else 140))∧(b=true↔RightP N fs))∧Below w.heap.size w w':=by
 obtain⟨W1,hW1⟩:∃W1,W1=w.alloc (.cells #[.int .i64 N,.slice A fs.length c] 30):=⟨_,rfl⟩
 have HB:Hid (Below w.heap.size w W1):=by rw[hW1];exact(Below.refl _ _).alloc (Nat.le_refl _) _
 have HR:=Lib.hid (right_at (N:=N) (c:=c) hF HB.out hSm hI hcap)
 clear hF hSm hI hcap
 go_enter Try.func10,Try.ntmps10
 go_wp2_with fail
 rw[←hW1]
 clear hW1
 ((with_reducible refine(HR.out).mono ?_);rintro e W2 ⟨⟨b,rfl,hb⟩,hbl,-⟩)
 have HBI:=Lib.hid hb
 have HBL:=Lib.hid hbl
 clear HR hb hbl
 cases b
 ·go_wp2
  go_ret
  exact⟨⟨false,rfl,by simpa using HBI.out⟩,HBL.out⟩
 ·go_wp2
  go_ret
  exact⟨⟨true,rfl,by simpa using HBI.out⟩,HBL.out⟩
set_option maxRecDepth 100000 in
set_option maxHeartbeats 4000000 in
theorem fit_any (N:Int) (A:Option Addr) (c:Nat) (fs:Fs) (w:World) (hF:RF w A fs) (hSm:Sm fs) (hI:NI fs) (hcap:(plsA fs).length≤100000) :
  Calls Try.prog 51 #[.agg #[.int .i64 N,.slice A fs.length c]] w fun e w'=>(∃b:Bool,e=.returned (if b then .tuple #[.agg #[.int .i64 N,.slice A fs.length c],.int .i64 0] else .tuple #[.agg #[.int .i64 0,.slice none 0 0],.int .i64 2])∧(b=true↔RightP N fs))∧Below w.heap.size w w':=by
 obtain⟨W1,hW1⟩:∃W1,W1=(w.alloc (.cells #[.int .i64 N,.slice A fs.length c] 30)).alloc (.cells #[.int .i64 0,.slice none 0 0] 30):=⟨_,rfl⟩
 have HB:Hid (Below w.heap.size w W1):=by rw[hW1];exact((Below.refl _ _).alloc (Nat.le_refl _) _).alloc (by simp) _
 have HR:=Lib.hid (right_at (N:=N) (c:=c) hF HB.out hSm hI hcap)
 have HP:Hid (Blk W1 w.heap.size (.cells #[.int .i64 N,.slice A fs.length c] 30)∧Blk W1 (w.heap.size+1) (.cells #[.int .i64 0,.slice none 0 0] 30)):=by
  rw[hW1]
  exact⟨(blk_new w _).alloc,by have h:=blk_new (w.alloc (.cells #[.int .i64 N,.slice A fs.length c] 30)) (.cells #[.int .i64 0,.slice none 0 0] 30);rw[World.size_alloc] at h;exact h⟩
 clear hF hSm hI hcap
 go_enter Try.func51,Try.ntmps51
 go_wp2_with fail
 rw[←hW1]
 have hs1:w.heap.size+1<W1.heap.size:=by rw[hW1];simp
 clear hW1
 ((with_reducible refine(HR.out).mono ?_);rintro e W2 ⟨⟨b,rfl,hb⟩,hbl,hbl1⟩)
 have HBI:=Lib.hid hb
 have HBL:=Lib.hid hbl
 have HP0:=Lib.hid (HP.out.1.below hbl1 (by omega))
 have HP1:=Lib.hid (HP.out.2.below hbl1 hs1)
 clear HR hb hbl hbl1 HP
 obtain⟨c0,-⟩:=blk_cells HP0.out
 have c00:=c0 0 _ rfl
 have c01:=c0 1 _ rfl
 obtain⟨d0,d1⟩:=blk_cells HP1.out
 have d00:=d0 0 _ rfl
 have d01:=d0 1 _ rfl
 have d10:=d1 0
 have d11:=d1 1
 clear c0 d0 d1
 cases b
 ·go_wp2
  obtain⟨e0,-⟩:=blk_cells (blk_set2 (u:=.int .i64 0) (v:=.slice none 0 0) HP1.out)
  have e00:=e0 0 _ rfl
  have e01:=e0 1 _ rfl
  clear e0
  refine bodyPost_ret (v:=.tuple #[.agg #[.int .i64 0,.slice none 0 0],.int .i64 2]) (by simp[results,Try.f51,go_sem,e00,e01]) rfl ?_
  exact⟨⟨false,rfl,by simpa using HBI.out⟩,(HBL.out.setCell (p:=⟨_,0,none⟩) (by show w.heap.size≤w.heap.size+1;omega) _).setCell (p:=⟨_,1,none⟩) (by show w.heap.size≤w.heap.size+1;omega) _⟩
 ·go_wp2
  obtain⟨e0,-⟩:=blk_cells (blk_set2 (u:=.int .i64 N) (v:=.slice A fs.length c) HP1.out)
  have e00:=e0 0 _ rfl
  have e01:=e0 1 _ rfl
  clear e0
  refine bodyPost_ret (v:=.tuple #[.agg #[.int .i64 N,.slice A fs.length c],.int .i64 0]) (by simp[results,Try.f51,go_sem,e00,e01]) rfl ?_
  exact⟨⟨true,rfl,by simpa using HBI.out⟩,(HBL.out.setCell (p:=⟨_,0,none⟩) (by show w.heap.size≤w.heap.size+1;omega) _).setCell (p:=⟨_,1,none⟩) (by show w.heap.size≤w.heap.size+1;omega) _⟩
end Go.Proofs.Ytealnhaffphamaa

namespace Go.Proofs.Ytealnhaffphamaa
open Go.RowKit Go.Proofs.YtealnhaffphamaaW.PrintWords
def intsV (xs:List Int):List Value:=xs.map (Value.int .i64)
structure FW (base:Nat) (fv:Value) (ls:List (List Int)) (k:Nat) (lv:Nat→Value) (W:World):Prop where
 own:W.ownsRow base 36 1 fv k ((List.range k).map lv)
 ownL:∀l,l<k→W.ownsRow base 3 1 (lv l) (lA ls l).length (intsV (lA ls l))
def FB (fv:Value) (k:Nat) (lv:Nat→Value) (b:Nat):Prop:=fv.ownBlock=some b∨∃l,l<k∧(lv l).ownBlock=some b
structure MW (base:Nat) (v:Value) (fs:Fs) (k:Nat) (vf:Nat→Value) (vl:Nat→Nat→Value) (W:World):Prop where
 own:W.ownsRow base 37 1 v k ((List.range k).map vf)
 face:∀f,f<k→FW base (vf f) (fcA fs f) (fcA fs f).length (vl f) W
 dis:∀f,f<k→∀f',f'<k→f≠f'→(vf f).ownBlock=none∨(vf f).ownBlock≠(vf f').ownBlock
def MB (v:Value) (fs:Fs) (k:Nat) (vf:Nat→Value) (vl:Nat→Nat→Value) (b:Nat):Prop:=v.ownBlock=some b∨∃f,f<k∧FB (vf f) (fcA fs f).length (vl f) b
section
variable {base base':Nat} {fv v u:Value} {ls:List (List Int)} {fs:Fs} {k:Nat} {lv vf:Nat→Value} {vl:Nat→Nat→Value} {W W':World} {row:Option Nat}
theorem own_keptB {e n size:Nat} {xs:List Value} (h:W.ownsRow base e size v n xs) (hg:W.grownBy W' row) (hr:∀b,row=some b→v.ownBlock≠some b):W'.ownsRow base e size v n xs:=
 h.kept hg (by
  cases ho:v.ownBlock with
  | none=>exact .inl rfl
  | some b=>exact .inr (fun e=>hr b e.symm ho))
theorem FW.kept (h:FW base fv ls k lv W) (hg:W.grownBy W' row) (hr:∀b,row=some b→¬ FB fv k lv b):FW base fv ls k lv W':=
 ⟨own_keptB h.own hg (fun b e q=>hr b e (.inl q)),fun l hl=>own_keptB (h.ownL l hl) hg (fun b e q=>hr b e (.inr ⟨l,hl,q⟩))⟩
theorem FW.lt (h:FW base fv ls k lv W) {b:Nat} (hb:FB fv k lv b):base≤b∧b<W.heap.size:=by
 rcases hb with hb | ⟨l,hl,hb⟩
 ·exact World.ownsRow.lt h.own b hb
 ·exact World.ownsRow.lt (h.ownL l hl) b hb
theorem FW.lower (h:FW base fv ls k lv W) (hb:base'≤base):FW base' fv ls k lv W:=⟨own_weaken h.own hb,fun l hl=>own_weaken (h.ownL l hl) hb⟩
theorem FW.typed (h:FW base fv ls k lv W) {b:Nat} (hb:FB fv k lv b):∃cells t,W.heap[b]?=some (.cells cells t (0,0))∧t≠37:=by
 rcases hb with hb | ⟨l,hl,hb⟩
 ·obtain⟨cells,hc⟩:=own_typed h.own b hb
  exact⟨cells,_,hc,by decide⟩
 ·obtain⟨cells,hc⟩:=own_typed (h.ownL l hl) b hb
  exact⟨cells,_,hc,by decide⟩
theorem own_other_types {b1 b2 e1 e2 s1 s2 n1 n2:Nat} {v1 v2:Value} {x1 x2:List Value} (h1:W.ownsRow b1 e1 s1 v1 n1 x1) (h2:W.ownsRow b2 e2 s2 v2 n2 x2) (hne:e1≠e2) {b:Nat} (q1:v1.ownBlock=some b):v2.ownBlock≠some b:=by
 intro q2
 obtain⟨c1,hc1⟩:=own_typed h1 b q1
 obtain⟨c2,hc2⟩:=own_typed h2 b q2
 rw[hc1] at hc2
 injection hc2 with hc2
 injection hc2 with _ hc2
 exact hne hc2
theorem range_map_snoc (k:Nat) (lv:Nat→Value) (u:Value):(List.range (k+1)).map (fun l=>if l=k then u else lv l)=(List.range k).map lv ++ [u]:=by
 rw[List.range_succ,List.map_append]
 congr 1
 ·refine List.map_congr_left (fun l hl=>?_)
  rw[if_neg (by have:=List.mem_range.1 hl;omega)]
 ·simp
theorem FW.snoc (h:FW base fv ls k lv W) (hu:W.ownsRow base 3 1 u (lA ls k).length (intsV (lA ls k))) {fv':Value} (ho:W'.ownsRow base 36 1 fv' (k+1) ((List.range k).map lv ++ [u])) (hg:W.grownBy W' fv.ownBlock) :
  FW base fv' ls (k+1) (fun l=>if l=k then u else lv l) W':=
 ⟨by rw[range_map_snoc];exact ho,fun l hl=>by
  by_cases e:l=k
  ·rw[if_pos e,e]
   exact own_keptB hu hg (fun b q=>own_other_types h.own hu (by decide) q)
  ·rw[if_neg e]
   exact own_keptB (h.ownL l (by omega)) hg (fun b q=>own_other_types h.own (h.ownL l (by omega)) (by decide) q)⟩
theorem FW.nil (ls:List (List Int)) (lv:Nat→Value):FW base (.slice none 0 0) ls 0 lv W:=⟨World.ownsRow_nil _ _ _ _,fun l hl=>by omega⟩
theorem MW.nil (fs:Fs) (vf:Nat→Value) (vl:Nat→Nat→Value):MW base (.slice none 0 0) fs 0 vf vl W:=⟨World.ownsRow_nil _ _ _ _,fun l hl=>by omega,fun l hl=>by omega⟩
theorem MW.kept (h:MW base v fs k vf vl W) (hg:W.grownBy W' row) (hr:∀b,row=some b→¬ MB v fs k vf vl b):MW base v fs k vf vl W':=
 ⟨own_keptB h.own hg (fun b e q=>hr b e (.inl q)),fun f hf=>(h.face f hf).kept hg (fun b e q=>hr b e (.inr ⟨f,hf,q⟩)),h.dis⟩
theorem MW.lt (h:MW base v fs k vf vl W) {b:Nat} (hb:MB v fs k vf vl b):base≤b∧b<W.heap.size:=by
 rcases hb with hb | ⟨f,hf,hb⟩
 ·exact World.ownsRow.lt h.own b hb
 ·exact(h.face f hf).lt hb
theorem MW.lower (h:MW base v fs k vf vl W) (hb:base'≤base):MW base' v fs k vf vl W:=⟨own_weaken h.own hb,fun f hf=>(h.face f hf).lower hb,h.dis⟩
theorem FW.apart (h:FW base fv ls k lv W) {b2 n:Nat} {xs:List Value} (ho:W.ownsRow b2 37 1 v n xs) {b:Nat} (q:v.ownBlock=some b):¬ FB fv k lv b:=by
 intro hb
 obtain⟨cells,t,hc,ht⟩:=h.typed hb
 obtain⟨c2,hc2⟩:=own_typed ho b q
 rw[hc] at hc2
 injection hc2 with hc2
 injection hc2 with _ hc2
 exact ht hc2
theorem MW.snoc (h:MW base v fs k vf vl W) (hu:FW base fv (fcA fs k) (fcA fs k).length lv W) (hd:∀f,f<k→(vf f).ownBlock=none∨(vf f).ownBlock≠fv.ownBlock) {v':Value}
  (ho:W'.ownsRow base 37 1 v' (k+1) ((List.range k).map vf ++ [fv])) (hg:W.grownBy W' v.ownBlock) :
  MW base v' fs (k+1) (fun f=>if f=k then fv else vf f) (fun f=>if f=k then lv else vl f) W':=
 ⟨by rw[range_map_snoc];exact ho,fun f hf=>by
  by_cases e:f=k
  ·rw[if_pos e,if_pos e,e]
   exact hu.kept hg (fun b q=>hu.apart h.own q)
  ·rw[if_neg e,if_neg e]
   exact(h.face f (by omega)).kept hg (fun b q=>(h.face f (by omega)).apart h.own q),
  fun f hf f' hf' hne=>by
  by_cases e:f=k
  ·rw[if_pos e,if_neg (fun q=>hne (e.trans q.symm))]
   rcases hd f' (by omega) with q | q
   ·cases hb:fv.ownBlock with
    | none=>exact .inl rfl
    | some b=>exact .inr (by rw[q];simp)
   ·cases hb:fv.ownBlock with
    | none=>exact .inl rfl
    | some b=>exact .inr (by rw[hb] at q;exact fun e=>q e.symm)
  ·rw[if_neg e]
   by_cases e2:f'=k
   ·rw[if_pos e2];exact hd f (by omega)
   ·rw[if_neg e2];exact h.dis f (by omega) f' (by omega) hne⟩
theorem reps_one {α:Type} {R:α→List Value→Prop} {ps:List α} {g:Nat→Value} (h:∀j p,ps[j]?=some p→R p [g j]):Reps R 1 ps ((List.range ps.length).map g):=by
 refine⟨by simp,fun j p hj=>?_⟩
 have hlt:=(List.getElem?_eq_some_iff.1 hj).1
 have e:(((List.range ps.length).map g).drop (j * 1)).take 1=[g j]:=by
  rw[Nat.mul_one,List.drop_eq_getElem_cons (by simpa using hlt)]
  simp
 rw[e]
 exact h j p hj
theorem ints_reads {n:Nat} {xs:List Int} (hn:n=xs.length) (h:W.ownsRow base 3 1 v n (intsV xs)):∃A c,v=.slice A xs.length c∧xs.length≤c∧RI W A xs:=by
 subst hn
 refine OwnRow.reads (R:=KI.K W) (e:=3) (base:=base) ⟨intsV xs,h,?_⟩
 have h2:=reps_one (R:=KI.K W) (ps:=xs) (g:=fun j=>.int .i64 (xs.getD j 0)) (fun j p hj=>by
  show _=_
  simp[List.getD_eq_getElem?_getD,hj])
 have e:(List.range xs.length).map (fun j=>Value.int .i64 (xs.getD j 0))=intsV xs:=by
  refine List.ext_getElem (by simp[intsV]) (fun j h1 h2=>?_)
  simp[intsV,List.getD_eq_getElem?_getD] at h1 h2 ⊢
  rw[List.getElem?_eq_getElem (by omega)];simp
 rw[e] at h2
 exact h2
theorem FW.reads (h:FW base fv ls ls.length lv W):∃A c,fv=.slice A ls.length c∧ls.length≤c∧RL W A ls:=by
 refine OwnRow.reads (R:=KL.K W) (e:=36) (base:=base) ⟨_,h.own,reps_one (fun j p hj=>?_)⟩
 have hlt:=(List.getElem?_eq_some_iff.1 hj).1
 have e:lA ls j=p:=by simp[lA,List.getD_eq_getElem?_getD,hj]
 obtain⟨A,c,e1,e2,e3⟩:=ints_reads rfl (h.ownL j hlt)
 rw[e] at e1 e2 e3
 exact⟨A,c,by rw[e1],e2,e3⟩
theorem MW.reads (h:MW base v fs fs.length vf vl W):∃A c,v=.slice A fs.length c∧fs.length≤c∧RF W A fs:=by
 refine OwnRow.reads (R:=KF.K W) (e:=37) (base:=base) ⟨_,h.own,reps_one (fun j p hj=>?_)⟩
 have hlt:=(List.getElem?_eq_some_iff.1 hj).1
 have e:fcA fs j=p:=by simp[fcA,List.getD_eq_getElem?_getD,hj]
 obtain⟨A,c,e1,e2,e3⟩:=(h.face j hlt).reads
 rw[e] at e1 e2 e3
 exact⟨A,c,by rw[e1],e2,e3⟩
end
def Ap (a b:Value):Prop:=a.ownBlock=none∨a.ownBlock≠b.ownBlock
theorem Ap.symm {a b:Value} (h:Ap a b):Ap b a:=by
 cases hb:b.ownBlock with
 | none=>exact .inl hb
 | some k=>
  refine .inr ?_
  rcases h with q | q
  ·rw[hb,q];simp
  ·exact fun e=>q e.symm
theorem Ap.of_lt {a b:Value} {B:Nat} (ha:∀k,a.ownBlock=some k→k<B) (hb:∀k,b.ownBlock=some k→B≤k):Ap a b:=by
 cases h:a.ownBlock with
 | none=>exact .inl h
 | some k=>exact .inr (fun e=>by have:=ha k h;have:=hb k (by rw[←e];exact h);omega)
def FD (k:Nat) (lv:Nat→Value):Prop:=∀i,i<k→∀j,j<k→i≠j→Ap (lv i) (lv j)
def FX (ls:List (List Int)) (k:Nat) (lv:Nat→Value):Prop:=∀l,l<k→∃b,lv l=.slice (some ⟨b,0,none⟩) (lA ls l).length (lA ls l).length
theorem FX.snoc {ls:List (List Int)} {k b:Nat} {lv:Nat→Value} (h:FX ls k lv):FX ls (k+1) (fun l=>if l=k then .slice (some ⟨b,0,none⟩) (lA ls k).length (lA ls k).length else lv l):=by
 intro l hl
 show ∃b',(if l=k then _ else lv l)=_
 by_cases e:l=k
 ·rw[if_pos e,e];exact⟨b,rfl⟩
 ·rw[if_neg e];exact h l (by omega)
def MX (fs:Fs) (k:Nat) (vl:Nat→Nat→Value):Prop:=∀f,f<k→FX (fcA fs f) (fcA fs f).length (vl f)
theorem MX.snoc {fs:Fs} {k:Nat} {vl:Nat→Nat→Value} {lv:Nat→Value} (h:MX fs k vl) (hl:FX (fcA fs k) (fcA fs k).length lv):MX fs (k+1) (fun f=>if f=k then lv else vl f):=by
 intro f hf
 show FX _ _ (if f=k then lv else vl f)
 by_cases e:f=k
 ·rw[if_pos e,e];exact hl
 ·rw[if_neg e];exact h f (by omega)
def MD (fs:Fs) (k:Nat) (vl:Nat→Nat→Value):Prop:=(∀f,f<k→FD (fcA fs f).length (vl f))∧∀f,f<k→∀f',f'<k→f≠f'→∀i,i<(fcA fs f).length→∀j,j<(fcA fs f').length→Ap (vl f i) (vl f' j)
theorem FD.snoc {k:Nat} {lv:Nat→Value} {u:Value} (h:FD k lv) (hu:∀i,i<k→Ap (lv i) u):FD (k+1) (fun l=>if l=k then u else lv l):=by
 intro i hi j hj hij
 show Ap (if i=k then u else lv i) (if j=k then u else lv j)
 by_cases e:i=k
 ·rw[if_pos e,if_neg (fun q=>hij (e.trans q.symm))];exact(hu j (by omega)).symm
 ·rw[if_neg e]
  by_cases e2:j=k
  ·rw[if_pos e2];exact hu i (by omega)
  ·rw[if_neg e2];exact h i (by omega) j (by omega) hij
theorem MD.snoc {fs:Fs} {k:Nat} {vl:Nat→Nat→Value} {lv:Nat→Value} (h:MD fs k vl) (hl:FD (fcA fs k).length lv) (hu:∀f,f<k→∀i,i<(fcA fs f).length→∀j,j<(fcA fs k).length→Ap (vl f i) (lv j)):MD fs (k+1) (fun f=>if f=k then lv else vl f):=by
 refine⟨fun f hf=>?_,fun f hf f' hf' hne i hi j hj=>?_⟩
 ·show FD _ (if f=k then lv else vl f)
  by_cases e:f=k
  ·rw[if_pos e,e];exact hl
  ·rw[if_neg e];exact h.1 f (by omega)
 ·show Ap ((if f=k then lv else vl f) i) ((if f'=k then lv else vl f') j)
  by_cases e:f=k
  ·rw[if_pos e,if_neg (fun q=>hne (e.trans q.symm))]
   rw[e] at hi
   exact(hu f' (by omega) j hj i hi).symm
  ·rw[if_neg e]
   by_cases e2:f'=k
   ·rw[if_pos e2]
    rw[e2] at hj
    exact hu f (by omega) i hi j hj
   ·rw[if_neg e2];exact h.2 f (by omega) f' (by omega) hne i hi j hj
end Go.Proofs.Ytealnhaffphamaa

namespace Go.Proofs.Ytealnhaffphamaa
open Go.RowKit Go.Shelf Go.Proofs.YtealnhaffphamaaW.PrintWords
theorem wpList_copy_ints {ops:Array Oper} {rest:List Oper} {o:Oper} {a:Act} {Q:Exit→Act→World→Prop} (W:World) (hgd:o.guard=none) (s x:Operand)
  (ho:o.op=.call { callee:=.builtin .copy,args:=#[s,x],argTypes:=#[36,36] }) (b n base:Nat) (A:Option Addr) (c:Nat) (xs ys:List Int) (hs:a.eval s=.slice (some ⟨b,0,none⟩) n n) (hx:a.eval x=.slice A n c)
  (hn:n=xs.length) (hy:ys.length=n) (h:W.ownsRow base 3 1 (.slice (some ⟨b,0,none⟩) n n) n (intsV ys)) (hr:RI W A xs) (hbase:base≤W.heap.size)
  (hK:∀w1,w1.ownsRow base 3 1 (.slice (some ⟨b,0,none⟩) n n) n (intsV xs)→W.grownBy w1 (some b)→wpList Try.prog ops Q rest (a.put o.dst (.int .i64 n)) w1):wpList Try.prog ops Q (o :: rest) a W:=by
 subst hn
 refine Kd.R_copy (enc:=Value.int .i64) (h1:=fun _=>rfl) (0:Int) (w0:=W) (base:=base) hgd s x 36 36 3 ho Try.underlying36 (by kernel_rfl) (.slice (some ⟨b,0,none⟩) xs.length xs.length) ys xs A xs.length c (fun _=>True) hs hx (Kd.R_of_own (by rw[hy];exact h) (fun _ _=>trivial)) hr (Below.refl _ _) hbase ?_
 intro w1 hR _ hg
 have h2:=Kd.own_of_R hR
 rw[hy,Nat.min_self,List.take_length,show ys.drop xs.length=[] from List.drop_eq_nil_of_le (by omega),List.append_nil] at h2
 rw[hy,Nat.min_self] at *
 exact hK w1 h2 hg
theorem infoI:(Try.prog.info? 3).map (fun i=>(i.zero,i.size,i.bytes))=some (some (.int .i64 0),1,8):=by kernel_rfl
theorem infoL:(Try.prog.info? 36).map (fun i=>(i.zero,i.size,i.bytes))=some (some (.slice none 0 0),1,24):=by kernel_rfl
theorem infoF:(Try.prog.info? 37).map (fun i=>(i.zero,i.size,i.bytes))=some (some (.slice none 0 0),1,24):=by kernel_rfl
theorem made_ints (n:Nat):(madeCells (Value.int .i64 0).cells (n * 1)).toList=intsV (List.replicate n 0):=by
 rw[Nat.mul_one,show(Value.int .i64 0).cells=#[.int .i64 0] from rfl,toList_madeCells_one]
 simp[intsV]
def Bx (N:Int) (A:Option Addr) (c:Nat) (fs:Fs) (v:Value) (w W:World):Prop:=(Blk W w.heap.size (.cells #[.int .i64 N,.slice A fs.length c] 30)∧Blk W (w.heap.size+1) (.cells #[.int .i64 0,.slice none 0 0] 30)∧Blk W (w.heap.size+1+1) (.cells #[.int .i64 N,v] 30))∧Below w.heap.size w W∧w.heap.size+3≤W.heap.size
theorem Bx.kept {N:Int} {A:Option Addr} {c:Nat} {fs:Fs} {v:Value} {w W W':World} {row:Option Nat} (h:Bx N A c fs v w W) (hg:W.grownBy W' row) (hr:∀k,row=some k→w.heap.size+3≤k):Bx N A c fs v w W':=
 ⟨⟨h.1.1.kept hg (fun e=>by have:=hr _ e.symm;omega),h.1.2.1.kept hg (fun e=>by have:=hr _ e.symm;omega),h.1.2.2.kept hg (fun e=>by have:=hr _ e.symm;omega)⟩,h.2.1.grown hg (by have:=h.2.2;omega) (fun k e=>by have:=hr k e;omega),Nat.le_trans h.2.2 hg.size⟩
theorem grown_set (W:World) (b o:Nat) (u:Value):W.grownBy (W.setCell ⟨b,o,none⟩ u) (some b):=⟨rfl,rfl,rfl,(KeepsWalks.setCell W _ _).size,fun k _ hk=>Below.heap_setCell _ _ _ k (fun e=>hk (by rw[e]))⟩
theorem Bx.set {N:Int} {A:Option Addr} {c:Nat} {fs:Fs} {v v':Value} {w W:World} (h:Bx N A c fs v w W):Bx N A c fs v' w (W.setCell ⟨w.heap.size+1+1,1,none⟩ v'):=
 ⟨⟨h.1.1.kept (grown_set _ _ _ _) (fun e=>by injection e with e;omega),h.1.2.1.kept (grown_set _ _ _ _) (fun e=>by injection e with e;omega),blk_set h.1.2.2⟩,h.2.1.setCell (p:=⟨_,1,none⟩) (by show w.heap.size≤w.heap.size+1+1;omega) _,Nat.le_trans h.2.2 (grown_set W _ _ _).size⟩
set_option maxRecDepth 100000 in
set_option maxHeartbeats 4000000 in
theorem copied_any (N:Int) (A:Option Addr) (c:Nat) (fs:Fs) (w:World) (hF:RF w A fs) (hSm:Sm fs) :
  Calls Try.prog 49 #[.agg #[.int .i64 N,.slice A fs.length c]] w fun e w'=>(∃v vf vl,e=.returned (.agg #[.int .i64 N,v])∧MW w.heap.size v fs fs.length vf vl w'∧MD fs fs.length vl∧MX fs fs.length vl)∧Below w.heap.size w w':=by
 have HF:=Lib.hid hF
 have HS:=Lib.hid hSm
 have hN:=hSm.1
 clear hF hSm
 go_enter Try.func49,Try.ntmps49
 go_wp2
 have hBx:Bx N A c fs (.slice none 0 0) w (((w.alloc (.cells #[.int .i64 N,.slice A fs.length c] 30)).alloc (.cells #[.int .i64 0,.slice none 0 0] 30)).alloc (.cells #[.int .i64 N,.slice none 0 0] 30)):=by
  refine⟨⟨((blk_new w _).alloc).alloc,?_,?_⟩,(((Below.refl _ w).alloc (Nat.le_refl _) _).alloc (by simp) _).alloc (by simp;omega) _,by simp⟩
  ·have h:=blk_new (w.alloc (.cells #[.int .i64 N,.slice A fs.length c] 30)) (.cells #[.int .i64 0,.slice none 0 0] 30)
   rw[World.size_alloc] at h
   exact h.alloc
  ·have h:=blk_new ((w.alloc (.cells #[.int .i64 N,.slice A fs.length c] 30)).alloc (.cells #[.int .i64 0,.slice none 0 0] 30)) (.cells #[.int .i64 N,.slice none 0 0] 30)
   rw[World.size_alloc,World.size_alloc] at h
   exact h
 generalize ((w.alloc (.cells #[.int .i64 N,.slice A fs.length c] 30)).alloc (.cells #[.int .i64 0,.slice none 0 0] 30)).alloc (.cells #[.int .i64 N,.slice none 0 0] 30)=W1 at hBx ⊢
 have HB1:=Lib.hid hBx
 clear hBx
 go_loopw [16] (fun s16 wr=>∃(k:Nat) (v:Value) (vf:Nat→Value) (vl:Nat→Nat→Value),k≤fs.length∧s16=.int .i64 k∧Hid (Bx N A c fs v w wr)∧Hid (MW (w.heap.size+3) v fs k vf vl wr)∧Hid (MD fs k vl∧MX fs k vl)) (fun v _=>fs.length - (intOf v).toNat)
 case atStart=>exact⟨0,_,fun _=>undef,fun _ _=>undef,by omega,rfl,HB1,MW.nil fs _ _,⟨⟨fun f hf=>by omega,fun f hf=>by omega⟩,fun f hf=>by omega⟩⟩
 case round=>
  clear HB1
  rename World=>wr
  obtain⟨k,v,vf,vl,hk,rfl,HBX,HM,HMD⟩:=hrel
  by_cases hlt:k<fs.length
  ·have hkz:(k:Int)<(fs.length:Int):=by omega
   obtain⟨ad,A0,c0,rfl,hc0,hl0,hr0⟩:=HF.out.at hlt
   have hc0:=pw_cell_below HBX.out.2.1 hc0
   have HR0:=Lib.hid hr0
   have hn0:=hr0.len
   have hs0:=HS.out.2.1 k
   obtain⟨B',hB'⟩:∃B',wr.heap.size=B':=⟨_,rfl⟩
   have HOLD:Hid (∀b,MB v fs k vf vl b→b<B'):=fun b hb=>by rw[←hB'];exact(HM.out.lt hb).2
   have HBB:Hid (w.heap.size+3≤B'):=by rw[←hB'];exact HBX.out.2.2
   clear hr0
   go_wp2
   go_loopw [6,22] (fun s6 s22 wi=>∃(l:Nat) (lv:Nat→Value),l≤(fcA fs k).length∧s22=.int .i64 l∧Hid (Bx N (some ad) c fs v w wi)∧Hid (MW (w.heap.size+3) v fs k vf vl wi)∧Hid (FW B' s6 (fcA fs k) l lv wi)∧Hid (FD l lv∧FX (fcA fs k) l lv)∧Hid (B'≤wi.heap.size)) (fun _ v _=>(fcA fs k).length - (intOf v).toNat)
   case atStart=>exact⟨0,fun _=>undef,by omega,rfl,HBX,HM,FW.nil _ _,⟨fun i hi=>by omega,fun i hi=>by omega⟩,Nat.le_of_eq hB'.symm⟩
   case round=>
    clear HBX HM hc0 hB'
    rename World=>wi
    obtain⟨l,lv,hl,rfl,HBX,HM,HFW,HFD,HSZ⟩:=hrel
    by_cases hlt2:l<(fcA fs k).length
    ·have hlz:(l:Int)<((fcA fs k).length:Int):=by omega
     obtain⟨ad1,A2,c2,rfl,hc1,hl1,hr1⟩:=HR0.out.atP hlt2
     have hc1:=pw_cell_below HBX.out.2.1 hc1
     have hn1:=hr1.len
     have hs1:=HS.out.2.2 k l
     obtain⟨n,hn⟩:∃n,n=(lpA fs k l).length:=⟨_,rfl⟩
     have HN:=Lib.hid hn
     rw[←hn] at hc1 hl1 hn1 hs1
     have HR1:=Lib.hid hr1
     clear hr1 hn
     obtain⟨iI,hiI,hiI0,hiI1,hiI2⟩:=info_parts infoI
     go_upto_region 10 with(at_make;refine wpList_make_full _ rfl _ _ 36 rfl B' 3 iI (.int .i64 0) 1 Try.underlying36 hiI hiI0 hiI1 .i64 .i64 _ _ n rfl rfl rfl rfl (by rw[hiI2];omega) (by simp only[maxLen];omega) HSZ.out ?_;intro w1 hown1 hg1)
     obtain⟨b,hb⟩:∃b,wi.heap.size=b:=⟨_,rfl⟩
     have hBb:B'≤b:=by rw[←hb];exact HSZ.out
     have HFB:Hid (∀j,FB u6 l lv j→j<b):=fun j hj=>by rw[←hb];exact(HFW.out.lt hj).2
     rw[hb] at hown1 ⊢
     rw[made_ints] at hown1
     have HBX1:=Lib.hid (HBX.out.kept hg1 (fun r e=>by cases e))
     have HM1:=Lib.hid (HM.out.kept hg1 (fun r e=>by cases e))
     have HFW1:=Lib.hid (HFW.out.kept hg1 (fun r e=>by cases e))
     have HOW:=Lib.hid hown1
     have HS1:Hid (B'≤w1.heap.size):=Nat.le_trans HSZ.out hg1.size
     clear hown1 hg1 hc1 hb hiI hiI0 hiI1 hiI2 HBX HM HFW HSZ
     go_upto_region 11 with(refine wpList_copy_ints _ rfl _ _ rfl b n B' A2 c2 (lpA fs k l) (List.replicate n 0) rfl rfl HN.out (by simp) HOW.out (RI.below HR1.out HBX1.out.2.1) HS1.out ?_;intro w2 hown2 hg2)
     have HBX2:=Lib.hid (HBX1.out.kept hg2 (fun r e=>by cases e;have:=HBB.out;omega))
     have HM2:=Lib.hid (HM1.out.kept hg2 (fun r e q=>by cases e;have:=HOLD.out _ q;omega))
     have HFW2:=Lib.hid (HFW1.out.kept hg2 (fun r e q=>by cases e;have:=HFB.out _ q;omega))
     have HOW2:=Lib.hid hown2
     have HS2:Hid (B'≤w2.heap.size):=Nat.le_trans HS1.out hg2.size
     clear HBX1 HM1 HFW1 HOW HS1 hown2 hg2
     obtain⟨iL,hiL,hiL0,hiL1,hiL2⟩:=info_parts infoL
     have hg3:w2.grownBy (w2.alloc (.cells #[.slice (some ⟨b,0,none⟩) n n] 36)) none:=World.grownBy_alloc _ _ _
     have HBX3:=Lib.hid (HBX2.out.kept hg3 (fun r e=>by cases e))
     have HM3:=Lib.hid (HM2.out.kept hg3 (fun r e=>by cases e))
     have HFW3:=Lib.hid (HFW2.out.kept hg3 (fun r e=>by cases e))
     have HOW3:=Lib.hid (own_keptB HOW2.out hg3 (fun r e=>by cases e))
     have HS3:Hid (B'≤(w2.alloc (.cells #[.slice (some ⟨b,0,none⟩) n n] 36)).heap.size):=Nat.le_trans HS2.out hg3.size
     have hs0l:l+1≤1000001:=by omega
     clear hg3 HBX2 HM2 HFW2 HOW2
     go_wp2_with (at_builtin;refine wpList_append_own _ rfl _ _ 37 rfl B' 36 iL (.slice none 0 0) 1 24 Try.underlying37 hiL hiL0 hiL1 hiL2 rfl (by decide) _ _ _ rfl HFW3.out.own ⟨w2.heap.size,0,none⟩ 1 1 [.slice (some ⟨b,0,none⟩) n n] rfl rfl (cell_one_new _ _ _) (by simp[Value.oneCell']) (by simp only[maxLen];omega) (by omega) HS3.out ?_;intro v' w4 hown4 hg4 _)
     go_roundw
     case rel=>
      have hB4:∀r,u6.ownBlock=some r→B'≤r:=fun r e=>(HFW3.out.lt (.inl e)).1
      refine⟨l+1,fun j=>if j=l then .slice (some ⟨b,0,none⟩) n n else lv j,by omega,by go_num,HBX3.out.kept hg4 (fun r e=>by have:=hB4 r e;have:=HBB.out;omega),HM3.out.kept hg4 (fun r e q=>by have:=hB4 r e;have:=HOLD.out _ q;omega),FW.snoc HFW3.out ?_ hown4 hg4,⟨HFD.out.1.snoc (fun i hi=>Ap.of_lt (B:=b) (fun r e=>HFB.out r (.inr ⟨i,hi,e⟩)) (fun r e=>by cases e;exact Nat.le_refl _)),by have h:=FX.snoc (b:=b) HFD.out.2;rwa [show(lA (fcA fs k) l).length=n from HN.out.symm] at h⟩,Nat.le_trans HS3.out hg4.size⟩
      rw[show(lA (fcA fs k) l).length=n from HN.out.symm]
      exact HOW3.out
     case measure=>simp[intOf];omega
    ·obtain rfl:l=(fcA fs k).length:=by omega
     obtain⟨AF,cF,hu6⟩:=own_slice HFW.out.own
     subst hu6
     obtain⟨iF,hiF,hiF0,hiF1,hiF2⟩:=info_parts infoF
     have hg3:wi.grownBy (wi.alloc (.cells #[.slice AF (fcA fs k).length cF] 37)) none:=World.grownBy_alloc _ _ _
     have HBX3:=Lib.hid (HBX.out.kept hg3 (fun r e=>by cases e))
     have HM3:=Lib.hid (HM.out.kept hg3 (fun r e=>by cases e))
     have HFW3:=Lib.hid (HFW.out.kept hg3 (fun r e=>by cases e))
     have HS3:Hid (w.heap.size+3≤(wi.alloc (.cells #[.slice AF (fcA fs k).length cF] 37)).heap.size):=Nat.le_trans HBX.out.2.2 hg3.size
     have m2:=(blk_cells HBX.out.1.2.2).1 1 _ rfl
     have m2b:w.heap.size+1+1<wi.heap.size:=HBX.out.1.2.2.lt
     have m2c:w.heap.size+1<wi.heap.size:=by omega
     have m2d:w.heap.size<wi.heap.size:=by omega
     clear hg3 HBX HM HFW
     go_wp2_with (at_builtin;refine wpList_append_own _ rfl _ _ 24 rfl (w.heap.size+3) 37 iF (.slice none 0 0) 1 24 Try.underlying24 hiF hiF0 hiF1 hiF2 rfl (by decide) _ _ _ rfl HM3.out.own ⟨wi.heap.size,0,none⟩ 1 1 [.slice AF (fcA fs k).length cF] rfl rfl (cell_one_new _ _ _) (by simp[Value.oneCell']) (by simp only[maxLen];omega) (by omega) HS3.out ?_;intro v' w4 hown4 hg4 _;obtain⟨AV,cV,rfl⟩:=own_slice hown4;have hx4:=HBX3.out.kept hg4 (fun r e=>(HM3.out.lt (.inl e)).1);have HX4:=Lib.hid hx4;have p0:=(blk_cells hx4.1.2.2).1 0 _ rfl;have p1:=(blk_cells hx4.1.2.2).1 1 _ rfl;have p2:=(blk_cells hx4.1.2.2).2 0;have p3:=(blk_cells hx4.1.2.2).2 1;have HOW4:=Lib.hid hown4;have HG4:=Lib.hid hg4;clear hx4 hown4 hg4 m2)
     go_roundw
     case rel=>
      have hvn:∀r,v.ownBlock=some r→w.heap.size+3≤r:=fun r e=>(HM3.out.lt (.inl e)).1
      have hm5:=MW.snoc HM3.out (HFW3.out.lower HBB.out) (fun f hf=>by
       cases hb:(vf f).ownBlock with
       | none=>exact .inl rfl
       | some r=>exact .inr (fun e=>by
         have h1:=HOLD.out r (.inr ⟨f,hf,.inl hb⟩)
         have h2:=(HFW3.out.lt (.inl e.symm)).1
         omega)) HOW4.out HG4.out
      exact⟨k+1,_,_,_,by omega,by go_num,HX4.out.set,hm5.kept (grown_set _ _ _ _) (fun r e q=>by cases e;have:=(hm5.lt q).1;omega),⟨HMD.out.1.snoc HFD.out.1 (fun f hf i hi j hj=>Ap.of_lt (B:=B') (fun r e=>HOLD.out r (.inr ⟨f,hf,.inr ⟨i,hi,e⟩⟩)) (fun r e=>(HFW3.out.lt (.inr ⟨j,hj,e⟩)).1)),HMD.out.2.snoc HFD.out.2⟩⟩
     case measure=>simp[intOf];omega
  ·obtain rfl:k=fs.length:=by omega
   have n0:=(blk_cells HBX.out.1.2.2).1 0 _ rfl
   have n1:=(blk_cells HBX.out.1.2.2).1 1 _ rfl
   have o0:=(blk_cells HBX.out.1.2.1).1 0 _ rfl
   have o1:=(blk_cells HBX.out.1.2.1).1 1 _ rfl
   have o2:=(blk_cells HBX.out.1.2.1).2 0
   have o3:=(blk_cells HBX.out.1.2.1).2 1
   obtain⟨AV,cV,rfl⟩:=own_slice HM.out.own
   go_wp2
   have hx:=HBX.out.1.2.1
   obtain⟨e0,-⟩:=blk_cells (blk_set2 (u:=.int .i64 N) (v:=.slice AV fs.length cV) hx)
   have e00:=e0 0 _ rfl
   have e01:=e0 1 _ rfl
   clear e0
   refine bodyPost_ret (v:=.agg #[.int .i64 N,.slice AV fs.length cV]) (by simp[results,Try.f49,go_sem,e00,e01]) rfl ?_
   have hk:∀(W:World) (o:Nat) (u:Value),MW (w.heap.size+3) (.slice AV fs.length cV) fs fs.length vf vl W→MW (w.heap.size+3) (.slice AV fs.length cV) fs fs.length vf vl (W.setCell ⟨w.heap.size+1,o,none⟩ u):=fun W o u h=>h.kept (grown_set _ _ _ _) (fun r e q=>by cases e;have:=(h.lt q).1;omega)
   exact⟨⟨_,vf,vl,rfl,(hk _ _ _ (hk _ _ _ HM.out)).lower (by omega),HMD.out⟩,(HBX.out.2.1.setCell (p:=⟨_,0,none⟩) (by show w.heap.size≤w.heap.size+1;omega) _).setCell (p:=⟨_,1,none⟩) (by show w.heap.size≤w.heap.size+1;omega) _⟩
end Go.Proofs.Ytealnhaffphamaa

namespace Go.Proofs
open Go.Shelf
def Try.lays189_ren:Go.Shelf.Ren:=⟨fun | 189=>81 | 125=>91 | 257=>90 | 128=>102 | 129=>103 | 294=>93 | 295=>94 | 296=>95 | 297=>96 | 298=>97 | 299=>98 | 216=>99 | 300=>100 | 301=>101 | 328=>104 | 329=>105 | 330=>106 | 331=>107 | 332=>108 | 215=>109 | 343=>110 | n=>n,fun | 28=>36 | 3=>3 | 46=>38 | 0=>0 | 51=>134 | 53=>136 | 4=>4 | 183=>127 | 182=>126 | 131=>131 | 5=>5 | 9=>9 | 218=>137 | 222=>141 | 228=>144 | 229=>145 | n=>n,fun | n=>n⟩
theorem Try.lays189:Go.Proofs.Lays.n189 Try.prog Try.lays189_ren:={
 mixed:=by kernel_rfl
 f125:=Try.func91.trans (congrArg some (by kernel_rfl))
 f128:=Try.func102.trans (congrArg some (by kernel_rfl))
 f129:=Try.func103.trans (congrArg some (by kernel_rfl))
 f189:=Try.func81.trans (congrArg some (by kernel_rfl))
 f215:=Try.func109.trans (congrArg some (by kernel_rfl))
 f216:=Try.func99.trans (congrArg some (by kernel_rfl))
 f257:=Try.func90.trans (congrArg some (by kernel_rfl))
 f294:=Try.func93.trans (congrArg some (by kernel_rfl))
 f295:=Try.func94.trans (congrArg some (by kernel_rfl))
 f296:=Try.func95.trans (congrArg some (by kernel_rfl))
 f297:=Try.func96.trans (congrArg some (by kernel_rfl))
 f298:=Try.func97.trans (congrArg some (by kernel_rfl))
 f299:=Try.func98.trans (congrArg some (by kernel_rfl))
 f300:=Try.func100.trans (congrArg some (by kernel_rfl))
 f301:=Try.func101.trans (congrArg some (by kernel_rfl))
 f328:=Try.func104.trans (congrArg some (by kernel_rfl))
 f329:=Try.func105.trans (congrArg some (by kernel_rfl))
 f330:=Try.func106.trans (congrArg some (by kernel_rfl))
 f331:=Try.func107.trans (congrArg some (by kernel_rfl))
 f332:=Try.func108.trans (congrArg some (by kernel_rfl))
 f343:=Try.func110.trans (congrArg some (by kernel_rfl))
 t0:=Try.underlying0
 a0:=Try.isAgg0
 z0:=Try.sizeOf0
 v0:=Try.zeroValue0
 t3:=Try.underlying3
 a3:=Try.isAgg3
 z3:=Try.sizeOf3
 v3:=Try.zeroValue3
 t4:=Try.underlying4
 a4:=Try.isAgg4
 z4:=Try.sizeOf4
 v4:=Try.zeroValue4
 t5:=Try.underlying5
 a5:=Try.isAgg5
 z5:=Try.sizeOf5
 v5:=Try.zeroValue5
 t9:=Try.underlying9
 a9:=Try.isAgg9
 z9:=Try.sizeOf9
 v9:=Try.zeroValue9
 t28:=Try.underlying36
 a28:=Try.isAgg36
 z28:=Try.sizeOf36
 v28:=Try.zeroValue36
 t46:=Try.underlying38
 a46:=Try.isAgg38
 z46:=Try.sizeOf38
 v46:=Try.zeroValue38
 t51:=Try.underlying134
 a51:=Try.isAgg134
 z51:=Try.sizeOf134
 v51:=Try.zeroValue134
 t53:=Try.underlying136
 a53:=Try.isAgg136
 z53:=Try.sizeOf136
 v53:=Try.zeroValue136
 t131:=Try.underlying131
 a131:=Try.isAgg131
 z131:=Try.sizeOf131
 v131:=Try.zeroValue131
 t182:=Try.underlying126
 a182:=Try.isAgg126
 z182:=Try.sizeOf126
 v182:=Try.zeroValue126
 t183:=Try.underlying127
 a183:=Try.isAgg127
 z183:=Try.sizeOf127
 v183:=Try.zeroValue127
 t218:=Try.underlying137
 a218:=Try.isAgg137
 z218:=Try.sizeOf137
 v218:=Try.zeroValue137
 t222:=Try.underlying141
 a222:=Try.isAgg141
 z222:=Try.sizeOf141
 v222:=Try.zeroValue141
 t228:=Try.underlying144
 a228:=Try.isAgg144
 z228:=Try.sizeOf144
 v228:=Try.zeroValue144
 t229:=Try.underlying145
 a229:=Try.isAgg145
 z229:=Try.sizeOf145
 v229:=Try.zeroValue145 }
open Go.Sort Go.RowKit in
theorem Try.slices_Sort_int (blk off cap:Nat) (zs:List Int) (w:World) (hH:Holds (Value.int .i64) w blk off zs.toArray) (hblk:blk<w.heap.size) (hsz:zs.length<4611686018427387904) :
  Calls Try.prog 81 #[.slice (some ⟨blk,off,none⟩) zs.length cap] w fun e w'=>
   e=.returned (.tuple #[])∧∃n os,w'=grow (putRow (Value.int .i64) (Sort.ahead w n) blk off (zs.mergeSort fun x y=>decide (x≤y)).toArray) os:=Any.slices_Sort_int Try.lays189 blk off cap zs w hH hblk hsz
open Go.RowKit Go.Sort in
def Try.laysNm221_ren:Go.Shelf.Ren:=⟨fun | 21=>50 | 27=>78 | 28=>79 | 35=>89 | 39=>64 | n=>n,fun | 22=>36 | 3=>3 | 4=>4 | 0=>0 | n=>n,fun | n=>n⟩
theorem Try.laysNm221:Go.Proofs.Lays2.n21 Try.prog Try.laysNm221_ren:={
 mixed:=by kernel_rfl
 f21:=Try.func50.trans (congrArg some (by kernel_rfl))
 f27:=Try.func78.trans (congrArg some (by kernel_rfl))
 f28:=Try.func79.trans (congrArg some (by kernel_rfl))
 f35:=Try.func89.trans (congrArg some (by kernel_rfl))
 f39:=Try.func64.trans (congrArg some (by kernel_rfl))
 t0:=Try.underlying0
 a0:=Try.isAgg0
 z0:=Try.sizeOf0
 v0:=Try.zeroValue0
 t3:=Try.underlying3
 a3:=Try.isAgg3
 z3:=Try.sizeOf3
 v3:=Try.zeroValue3
 t4:=Try.underlying4
 a4:=Try.isAgg4
 z4:=Try.sizeOf4
 v4:=Try.zeroValue4
 t22:=Try.underlying36
 a22:=Try.isAgg36
 z22:=Try.sizeOf36
 v22:=Try.zeroValue36
 i3:=by kernel_rfl }
def Try.laysSlE45_f82_ren:Go.Shelf.Ren:=⟨fun | 45=>82 | n=>n,fun | 22=>37 | 23=>36 | 3=>3 | 4=>4 | 0=>0 | n=>n,fun | n=>n⟩
open Go.RowKit Go.Lib Go.Sort in
def Try.laysSlE45_f83_ren:Go.Shelf.Ren:=⟨fun | 45=>83 | n=>n,fun | 22=>24 | 23=>37 | 3=>3 | 4=>4 | 0=>0 | n=>n,fun | n=>n⟩
theorem Try.laysSlE45_f83:Go.Proofs.SlLaysE.n45 Try.prog Try.laysSlE45_f83_ren:={
 mixed:=by kernel_rfl
 f45:=⟨Try.f83.name,by decide,Try.func83.trans (congrArg some (by kernel_rfl))⟩
 t0:=Try.underlying0
 a0:=Try.isAgg0
 z0:=Try.sizeOf0
 v0:=Try.zeroValue0
 t3:=Try.underlying3
 a3:=Try.isAgg3
 z3:=Try.sizeOf3
 v3:=Try.zeroValue3
 t4:=Try.underlying4
 a4:=Try.isAgg4
 z4:=Try.sizeOf4
 v4:=Try.zeroValue4
 t22:=Try.underlying24
 a22:=Try.isAgg24
 z22:=Try.sizeOf24
 v22:=Try.zeroValue24
 a23:=Try.isAgg37
 z23:=Try.sizeOf37 }
open Go.RowKit Go.Lib Go.Sort in
theorem Try.slices_Delete_f83 {α:Type} [Inhabited α] (enc:α→Value) (h1:OneCell enc) (zr:α) (v23:∀w,(zeroValue 37).run Try.prog w=.ok (enc zr) w) (i0:TypeInfo) (hi0:Try.prog.info? 37=some i0) (hz1:i0.size=1) (blk off cap i j:Nat) (d:Array α) (w:World) (hH:Holds enc w blk off d) (hcap:d.size≤cap) (hm:cap≤9223372036854775807) (hij:i≤j) (hj:j≤d.size) :
  Calls Try.prog 83 #[.slice (some ⟨blk,off,none⟩) d.size cap,.int .i64 i,.int .i64 j] w fun e w'=>e=.returned (.slice (some ⟨blk,off,none⟩) (d.size - (j - i)) cap)∧∃q,w'=putRow enc (Sort.ahead w q) blk off (d.toList.take i ++ d.toList.drop j ++ List.replicate (j - i) zr).toArray:=AnyE.slices_Delete Try.laysSlE45_f83 enc h1 zr v23 i0 hi0 hz1 blk off cap i j d w hH hcap hm hij hj
end Go.Proofs

namespace Go.Proofs.Ytealnhaffphamaa
open Go.RowKit Go.Proofs.YtealnhaffphamaaW.PrintWords
theorem below_setCells (g:Nat) {B:Nat} (hB:B≤g):∀(vs:List Value) (o:Nat) (w W:World),Below B w W→Below B w (W.setCells g o vs)
 | [],_,_,_,h=>h
 | v :: r,o,w,W,h=>below_setCells g hB r (o+1) w _ (h.setCell (p:=⟨g,o,none⟩) hB v)
theorem intsV_one (xs:List Int):∀v∈intsV xs,v.oneCell'=true:=by
 intro v hv
 simp only[intsV,List.mem_map] at hv
 obtain⟨x,_,rfl⟩:=hv
 rfl
theorem intsV_len (xs:List Int):(intsV xs).length=xs.length:=by simp[intsV]
theorem intsV_app (a b:List Int):intsV (a ++ b)=intsV a ++ intsV b:=by simp[intsV]
theorem insert_any (b n i m vb vc:Nat) (xs vs:List Int) (W:World) (hn:n=xs.length) (hm:vs.length=m) (hm0:0<m) (hi:i≤n) (hbig:n+m≤10000000)
  (hx:∀j u,(intsV xs)[j]?=some u→W.cell? ⟨b,j,none⟩=some u) (hv:∀j u,(intsV vs)[j]?=some u→W.cell? ⟨vb,j,none⟩=some u) :
  Calls Try.prog 50 #[.slice (some ⟨b,0,none⟩) n n,.int .i64 i,.slice (some ⟨vb,0,none⟩) m vc] W fun e w'=>(∃cap,e=.returned (.slice (some ⟨W.heap.size,0,none⟩) (n+m) cap)∧w'.ownsRow W.heap.size 3 1 (.slice (some ⟨W.heap.size,0,none⟩) (n+m) cap) (n+m) (intsV (xs.take i ++ vs ++ xs.drop i)))∧Below W.heap.size W w':=by
 have hxl:(intsV xs).length=n:=by rw[intsV_len,hn]
 have hvl:(intsV vs).length=m:=by rw[intsV_len,hm]
 have hz:(Value.int .i64 0).cells=#[.int .i64 0]:=rfl
 have hge:=grownCap_ge W (n+m) n 3
 have hle:=grownCap_le_maxLen W (n+m) n 3 (by simp only[maxLen];omega)
 by_cases hin:i<n
 ·have h:=Any2.slices_Insert_int_grow Try.laysNm221 b 0 n n i vb 0 m vc (intsV xs) (intsV vs) W hin hm0 (Nat.le_refl _) (by omega) (by omega) hxl hvl (fun j v h=>by rw[Nat.zero_add];exact hx j v h) (fun j v h=>by rw[Nat.zero_add];exact hv j v h) (intsV_one _) (intsV_one _)
  refine Calls.mono h ?_
  rintro e w' ⟨rfl,rfl⟩
  have hge2:n+m≤grownCap W (n+m) n 3:=hge
  generalize hG:grownCap W (n+m) n 3=G at hge2 hle
  refine⟨⟨G,by rw[←hG];rfl,?_⟩,?_⟩
  ·have e0:grownCap W (n+m) n (Try.laysNm221_ren.t 3)=G:=hG
   rw[e0]
   generalize hR:((intsV xs).take i).toArray ++ Builtin.zeroCells (Value.int .i64 0).cells (n+m - i) ++ Builtin.zeroCells (Value.int .i64 0).cells (G - (n+m))=R
   have hRs:R.size=G:=by rw[←hR];simp[Builtin.zeroCells,hz,hxl];omega
   have h1:((W.alloc (.cells R 3)).drew).heap[W.heap.size]?=some (.cells R 3 (0,0)):=blk_new W _
   obtain⟨c1,h2,h3,h4⟩:=setCells_row (intsV vs) i _ R h1 (by rw[hvl,hRs];omega)
   obtain⟨c2,h5,h6,h7⟩:=setCells_row ((intsV xs).drop i) (i+m) _ c1 (show(((W.alloc (.cells R 3)).drew.setCells W.heap.size i (intsV vs)).drew).heap[W.heap.size]?=_ from h2) (by rw[List.length_drop,hxl,h3,hRs];omega)
   refine⟨by simp[intsV_len];omega,.inr ⟨_,G,c2,rfl,Nat.le_refl _,h5,hge2,hle,by rw[h6,h3,hRs,Nat.mul_one],?_⟩⟩
   have hRl:R.toList.take i=(intsV xs).take i:=by
    rw[←hR,Array.toList_append,Array.toList_append,List.append_assoc,List.take_append_of_le_length (by simp[hxl];omega),List.take_take,Nat.min_self]
   rw[h7,h4,hRl,Nat.mul_one]
   have ea:((intsV xs).take i ++ intsV vs ++ R.toList.drop (i+(intsV vs).length)).take (i+m)=(intsV xs).take i ++ intsV vs:=by
    rw[List.take_append_of_le_length (by simp[hxl,hvl];omega)]
    exact List.take_of_length_le (by simp[hxl,hvl];omega)
   rw[ea,List.take_append_of_le_length (by simp[hxl,hvl];omega),List.take_of_length_le (by simp[hxl,hvl];omega)]
   simp[intsV]
  ·exact below_setCells _ (Nat.le_refl _) _ _ _ _ (below_setCells _ (Nat.le_refl _) _ _ _ _ (((Below.refl _ W).alloc (Nat.le_refl _) _).drew)).drew
 ·obtain rfl:i=n:=by omega
  have h:=Any2.slices_Insert_int_end_grow Try.laysNm221 (some ⟨b,0,none⟩) i i vb 0 m vc (intsV xs) (intsV vs) W hm0 (Nat.le_refl _) (by omega) (by omega) hxl hvl (fun h=>by cases h) (fun a h j v hj=>by cases h;rw[add_plain];exact hx j v hj) (fun j v h=>by rw[Nat.zero_add];exact hv j v h) (intsV_one _)
  refine Calls.mono h ?_
  rintro e w' ⟨rfl,rfl⟩
  have hge2:i+m≤grownCap W (i+m) i 3:=hge
  generalize hG:grownCap W (i+m) i 3=G at hge2 hle
  refine⟨⟨G,by rw[←hG];rfl,?_⟩,(Below.refl _ W).drew.alloc (Nat.le_refl _) _⟩
  have e0:grownCap W (i+m) i (Try.laysNm221_ren.t 3)=G:=hG
  rw[e0]
  refine⟨by simp[intsV_len];omega,.inr ⟨_,G,_,rfl,Nat.le_refl _,blk_new W.drew _,hge2,hle,?_,?_⟩⟩
  ·simp[Builtin.zeroCells,hz,hxl,hvl];omega
  ·simp only[Array.toList_append]
   rw[Nat.mul_one,List.take_append_of_le_length (by simp[hxl,hvl]),List.take_of_length_le (by simp[hxl,hvl])]
   simp[intsV,hn]
end Go.Proofs.Ytealnhaffphamaa

namespace Go.Proofs.Ytealnhaffphamaa
open Go.RowKit Go.Proofs.YtealnhaffphamaaW.PrintWords
def HasP (fs:Fs) (f l i:Int):Prop:=0≤f∧f<fs.length∧0≤l∧l<(fcA fs f.toNat).length∧0≤i∧i<(lpA fs f.toNat l.toNat).length
def HasO (fs:Fs) (f l i:Int) (e:Ending):Prop:=∃b,e=.returned (.bool b)∧(b=true↔HasP fs f l i)
theorem HasO.no {fs:Fs} {f l i:Int} (h:¬ HasP fs f l i):HasO fs f l i (.returned (.bool false)):=⟨false,rfl,by simpa using h⟩
theorem HasO.yes {fs:Fs} {f l i:Int} (h:HasP fs f l i):HasO fs f l i (.returned (.bool true)):=⟨true,rfl,by simpa using h⟩
end Go.Proofs.Ytealnhaffphamaa

namespace Go.Proofs.Ytealnhaffphamaa
open Go.RowKit Go.Proofs.YtealnhaffphamaaW.PrintWords
set_option maxRecDepth 100000 in
set_option maxHeartbeats 4000000 in
theorem has_o (N:Int) (A:Option Addr) (c:Nat) (fs:Fs) (f l i:Int) (w:World) (hF:RF w A fs) :
  Calls Try.prog 48 #[.agg #[.int .i64 N,.slice A fs.length c],.agg #[.int .i64 f,.int .i64 l,.int .i64 i]] w fun e w'=>HasO fs f l i e∧Below w.heap.size w w':=by
 obtain⟨W1,hW1⟩:∃W1,W1=(w.alloc (.cells #[.int .i64 N,.slice A fs.length c] 30)).alloc (.cells #[.int .i64 f,.int .i64 l,.int .i64 i] 45):=⟨_,rfl⟩
 have HOB:Hid (Below w.heap.size w W1):=by rw[hW1];exact((Below.refl _ _).alloc (Nat.le_refl _) _).alloc (by simp) _
 have m01:W1.cell? ⟨w.heap.size,1,none⟩=some (.slice A fs.length c):=by rw[hW1];simp
 have p0:W1.cell? ⟨w.heap.size+1,0,none⟩=some (.int .i64 f):=by rw[hW1];simp
 have p1:W1.cell? ⟨w.heap.size+1,1,none⟩=some (.int .i64 l):=by rw[hW1];simp
 have p2:W1.cell? ⟨w.heap.size+1,2,none⟩=some (.int .i64 i):=by rw[hW1];simp
 have HF:=Lib.hid hF
 clear hF
 go_enter Try.func48,Try.ntmps48
 go_upto_region 1 with fail
 rw[←hW1]
 clear hW1
 by_cases h:0≤f
 ·obtain⟨fn,rfl⟩:=Int.eq_ofNat_of_zero_le h
  clear h
  by_cases h:fn<fs.length
  ·have z1:(fn:Int)<(fs.length:Int):=by omega
   obtain⟨ad0,A0,c0,rfl,hc0,hl0,hr0⟩:=HF.out.at h
   have HR0:=Lib.hid hr0
   have k0:=pw_cell_below HOB.out hc0
   have hn0:=hr0.len
   clear hr0 hc0
   by_cases h2:0≤l
   ·obtain⟨ln,rfl⟩:=Int.eq_ofNat_of_zero_le h2
    clear h2
    by_cases h3:ln<(fcA fs fn).length
    ·have z2:(ln:Int)<((fcA fs fn).length:Int):=by omega
     obtain⟨ad1,A1,c1,rfl,hc1,hl1,hr1⟩:=HR0.out.atP h3
     have k1:=pw_cell_below HOB.out hc1
     have hn1:=hr1.len
     clear hr1 hc1
     by_cases h4:0≤i
     ·obtain⟨iN,rfl⟩:=Int.eq_ofNat_of_zero_le h4
      clear h4
      by_cases h5:iN<(lpA fs fn ln).length
      ·have HY:Hid (HasP fs fn ln iN):=⟨by omega,by omega,by omega,by simp only[Int.toNat_natCast];omega,by omega,by simp only[Int.toNat_natCast];omega⟩
       have d1:(iN:Int)<((lpA fs fn ln).length:Int):=by omega
       go_wp2_with fail
       go_quiet (fail)
       go_wp2
       go_ret
       exact⟨HasO.yes HY.out,HOB.out.trans ((Drawn0.below ⟨⟨_,rfl⟩⟩).mono HOB.out.size)⟩
      ·have HN:Hid (¬ HasP fs fn ln iN):=fun q=>by have:=q.2.2.2.2.2;simp only[Int.toNat_natCast] at this;omega
       have d1:decide ((iN:Int)<((lpA fs fn ln).length:Int))=false:=by simpa using h5
       have d2:decide (iN<(lpA fs fn ln).length)=false:=by simpa using h5
       go_wp2_with fail
       go_quiet (fail)
       go_wp2
       go_ret
       exact⟨HasO.no HN.out,HOB.out.trans ((Drawn0.below ⟨⟨_,rfl⟩⟩).mono HOB.out.size)⟩
     ·have HN:Hid (¬ HasP fs fn ln i):=fun q=>h4 q.2.2.2.2.1
      have d1:decide (i≥0)=false:=by simp;omega
      clear h4
      go_wp2_with fail
      go_quiet (fail)
      go_wp2
      go_ret
      exact⟨HasO.no HN.out,HOB.out.trans ((Drawn0.below ⟨⟨_,rfl⟩⟩).mono HOB.out.size)⟩
    ·have HN:Hid (¬ HasP fs fn ln i):=fun q=>by have:=q.2.2.2.1;simp only[Int.toNat_natCast] at this;omega
     have d1:decide ((ln:Int)<((fcA fs fn).length:Int))=false:=by simpa using h3
     have d2:decide (ln<(fcA fs fn).length)=false:=by simpa using h3
     go_wp2_with fail
     go_quiet (fail)
     go_wp2
     go_ret
     exact⟨HasO.no HN.out,HOB.out.trans ((Drawn0.below ⟨⟨_,rfl⟩⟩).mono HOB.out.size)⟩
   ·have HN:Hid (¬ HasP fs fn l i):=fun q=>h2 q.2.2.1
    have d1:decide (l≥0)=false:=by simp;omega
    clear h2
    go_wp2_with fail
    go_quiet (fail)
    go_wp2
    go_ret
    exact⟨HasO.no HN.out,HOB.out.trans ((Drawn0.below ⟨⟨_,rfl⟩⟩).mono HOB.out.size)⟩
  ·have HN:Hid (¬ HasP fs fn l i):=fun q=>by have:=q.2.1;omega
   have z1:¬ (fn:Int)<(fs.length:Int):=by omega
   have d1:decide ((fn:Int)<(fs.length:Int))=false:=by simpa using h
   have d2:decide (fn<fs.length)=false:=by simpa using h
   clear z1
   go_wp2_with fail
   go_quiet (fail)
   go_wp2
   go_ret
   exact⟨HasO.no HN.out,HOB.out.trans ((Drawn0.below ⟨⟨_,rfl⟩⟩).mono HOB.out.size)⟩
 ·have HN:Hid (¬ HasP fs f l i):=fun q=>h q.1
  have d1:decide (f≥0)=false:=by simp;omega
  clear h
  go_wp2_with fail
  go_quiet (fail)
  go_wp2
  go_ret
  exact⟨HasO.no HN.out,HOB.out.trans ((Drawn0.below ⟨⟨_,rfl⟩⟩).mono HOB.out.size)⟩
end Go.Proofs.Ytealnhaffphamaa

namespace Go.Proofs.Ytealnhaffphamaa
open Go.RowKit Go.Proofs.YtealnhaffphamaaW.PrintWords
def setL (fs:Fs) (f l:Nat) (x:List Int):Fs:=fs.set f ((fcA fs f).set l x)
theorem setL_len (fs:Fs) (f l:Nat) (x:List Int):(setL fs f l x).length=fs.length:=by simp[setL]
theorem fcA_setL {fs:Fs} {f:Nat} (hf:f<fs.length) (l:Nat) (x:List Int) (f':Nat):fcA (setL fs f l x) f'=if f'=f then(fcA fs f).set l x else fcA fs f':=by
 unfold setL
 show(fs.set f _).getD f' []=_
 rw[List.getD_eq_getElem?_getD,List.getElem?_set]
 by_cases e:f'=f
 ·rw[if_pos e.symm,if_pos e,if_pos (by omega)];rfl
 ·rw[if_neg (fun q=>e q.symm),if_neg e];simp[fcA,List.getD_eq_getElem?_getD]
theorem lA_set {ls:List (List Int)} {l:Nat} (hl:l<ls.length) (x:List Int) (l':Nat):lA (ls.set l x) l'=if l'=l then x else lA ls l':=by
 show(ls.set l _).getD l' []=_
 rw[List.getD_eq_getElem?_getD,List.getElem?_set]
 by_cases e:l'=l
 ·rw[if_pos e.symm,if_pos e,if_pos (by omega)];rfl
 ·rw[if_neg (fun q=>e q.symm),if_neg e];simp[lA,List.getD_eq_getElem?_getD]
theorem map_range_set (k l:Nat) (lv:Nat→Value) (u:Value):((List.range k).map lv).set l u=(List.range k).map (fun j=>if j=l then u else lv j):=by
 refine List.ext_getElem (by simp) (fun j h1 h2=>?_)
 rw[List.getElem_set]
 simp only[List.getElem_map,List.getElem_range]
 by_cases e:l=j
 ·rw[if_pos e,if_pos e.symm]
 ·rw[if_neg e,if_neg (fun q=>e q.symm)]
section
variable {base b cap:Nat} {fv v u:Value} {ls:List (List Int)} {fs:Fs} {lv vf:Nat→Value} {vl:Nat→Nat→Value} {W:World}
theorem FW.put (h:FW base fv ls ls.length lv W) {l:Nat} (hl:l<ls.length) {x:List Int} (hu:W.ownsRow base 3 1 u x.length (intsV x)) (hv:fv=.slice (some ⟨b,0,none⟩) ls.length cap) :
  FW base fv (ls.set l x) (ls.set l x).length (fun j=>if j=l then u else lv j) (W.setCell ⟨b,l,none⟩ u):=by
 subst hv
 have hb:(Value.slice (some ⟨b,0,none⟩) ls.length cap).ownBlock=some b:=rfl
 refine⟨?_,fun j hj=>?_⟩
 ·rw[List.length_set,←map_range_set]
  exact(World.ownsRow.stored h.own l u).1
 ·rw[List.length_set] at hj
  rw[lA_set hl]
  by_cases e:j=l
  ·rw[if_pos e,if_pos e]
   exact own_keptB hu (grown_set _ _ _ _) (fun r q=>by cases q;exact own_other_types h.own hu (by decide) hb)
  ·rw[if_neg e,if_neg e]
   exact own_keptB (h.ownL j hj) (grown_set _ _ _ _) (fun r q=>by cases q;exact own_other_types h.own (h.ownL j hj) (by decide) hb)
theorem MW.put (h:MW base v fs fs.length vf vl W) {f l:Nat} (hf:f<fs.length) (hl:l<(fcA fs f).length) {x:List Int} (hu:W.ownsRow base 3 1 u x.length (intsV x)) (hv:vf f=.slice (some ⟨b,0,none⟩) (fcA fs f).length cap) :
  MW base v (setL fs f l x) (setL fs f l x).length vf (fun f'=>if f'=f then(fun j=>if j=l then u else vl f j) else vl f') (W.setCell ⟨b,l,none⟩ u):=by
 have hb:(vf f).ownBlock=some b:=by rw[hv];rfl
 refine⟨?_,fun f' hf'=>?_,?_⟩
 ·rw[setL_len]
  exact own_keptB h.own (grown_set _ _ _ _) (fun r q=>by cases q;exact own_other_types (h.face f hf).own h.own (by decide) hb)
 ·rw[setL_len] at hf'
  rw[fcA_setL hf]
  by_cases e:f'=f
  ·subst e
   rw[if_pos rfl,if_pos rfl]
   exact(h.face f' hf).put hl hu hv
  ·rw[if_neg e,if_neg e]
   refine(h.face f' hf').kept (grown_set _ _ _ _) (fun r q hFB=>?_)
   cases q
   rcases hFB with hFB | ⟨j,hj,hFB⟩
   ·rcases h.dis f' hf' f hf e with q | q
    ·rw[q] at hFB;cases hFB
    ·exact q (hFB.trans hb.symm)
   ·exact own_other_types (h.face f hf).own ((h.face f' hf').ownL j hj) (by decide) hb hFB
 ·rw[setL_len];exact h.dis
end
theorem has_any (N:Int) (A:Option Addr) (c:Nat) (fs:Fs) (f l i:Int) (w:World) (hF:RF w A fs) (hc:fs.length≤c) :
  Calls Try.prog 48 #[.agg #[.int .i64 N,.slice A fs.length c],.agg #[.int .i64 f,.int .i64 l,.int .i64 i]] w fun e w'=>(∃b,e=.returned (.bool b)∧(b=true↔HasP fs f l i))∧Below w.heap.size w w':=
 has_o N A c fs f l i w hF
end Go.Proofs.Ytealnhaffphamaa
