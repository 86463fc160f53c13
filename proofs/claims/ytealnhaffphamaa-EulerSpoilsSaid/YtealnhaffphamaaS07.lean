/- Contracts of the functions that the statement reaches, and plain lemmas: part 7 of 31. -/
import Derived.Test.YtealnhaffphamaaS06
set_option linter.unusedVariables false
set_option linter.unusedSimpArgs false

namespace Go.Proofs.Ytealnhaffphamaa
open Go.RowKit Go.Shelf Go.Proofs.YtealnhaffphamaaW.PrintWords
def NoI (W:World) (row:Option Nat):Prop:=∀b,row=some b→∀cur,W.heap[b]?≠some (.cells cur 3 (0,0))
theorem NoI.none (W:World):NoI W none:=fun b e=>by cases e
theorem NoI.own {W:World} {base e n size:Nat} {v:Value} {xs:List Value} (h:W.ownsRow base e size v n xs) (he:e≠3):NoI W v.ownBlock:=fun b q cur hc=>by
 obtain⟨cells,h1⟩:=own_typed h b q
 rw[h1] at hc
 injection hc with hc
 injection hc with _ hc
 exact he hc
theorem NoI.blk {W:World} {b:Nat} {cs:Array Value} {t:TypeId} (h:Blk W b (.cells cs t)) (ht:t≠3):NoI W (some b):=fun b' q cur hc=>by
 cases q
 unfold Blk at h
 rw[h] at hc
 injection hc with hc
 injection hc with _ hc
 exact ht hc
theorem own_no_blk {W:World} {base e size n b:Nat} {v:Value} {xs:List Value} {cs:Array Value} {t:TypeId} (ho:W.ownsRow base e size v n xs) (hb:Blk W b (.cells cs t)) (hne:t≠e):v.ownBlock≠some b:=by
 intro q
 obtain⟨c,hc⟩:=own_typed ho b q
 unfold Blk at hb
 rw[hb] at hc
 injection hc with hc
 injection hc with _ hc
 exact hne hc
def LR (W:World) (v:Value) (xs:List Int):Prop:=∃A c,v=.slice A xs.length c∧xs.length≤c∧RI W A xs∧∀ad,A=some ad→0<xs.length→∃cur,W.heap[ad.block]?=some (.cells cur 3 (0,0))
section
variable {base g cap:Nat} {fv v u:Value} {xs:List Int} {ls:List (List Int)} {fs:Fs} {k:Nat} {lv vf:Nat→Value} {vl:Nat→Nat→Value} {W W':World} {row:Option Nat}
theorem addr_block (a:Addr) (j:Nat):(a.add j).block=a.block:=by unfold Addr.add;split <;> rfl
theorem LR.of_own (h:W.ownsRow base 3 1 v xs.length (intsV xs)):LR W v xs:=by
 obtain⟨A,c,e,hc,hr⟩:=ints_reads rfl h
 refine⟨A,c,e,hc,hr,fun ad ea _=>?_⟩
 obtain⟨cells,h1⟩:=own_typed h ad.block (by rw[e,ea];rfl)
 exact⟨cells,h1⟩
theorem LR.slice (h:LR W v xs):∃x:SlV,v=encS x:=by
 obtain⟨A,c,e,_⟩:=h
 exact⟨(A,xs.length,c),e⟩
theorem LR.kept (h:LR W v xs) (hg:W.grownBy W' row) (hr:NoI W row):LR W' v xs:=by
 obtain⟨A,c,e,hc,hR,ht⟩:=h
 rcases Nat.eq_zero_or_pos xs.length with q | q
 ·exact⟨A,c,e,hc,⟨rfl,hR.2.1,fun h=>absurd h (by omega)⟩,fun ad _ h=>absurd h (by omega)⟩
 ·obtain⟨ad,ea,hcell⟩:=hR.2.2 q
  obtain⟨cur,hb⟩:=ht ad ea q
  have hlt:=(Array.getElem?_eq_some_iff.1 hb).1
  have hne:some ad.block≠row:=fun e=>hr _ e.symm cur hb
  refine⟨A,c,e,hc,⟨rfl,hR.2.1,fun _=>⟨ad,ea,fun j p hj=>?_⟩⟩,fun ad' ea' _=>?_⟩
  ·obtain⟨cs,h1,h2,h3⟩:=hcell j p hj
   exact⟨cs,h1,h2,fun i x hx=>by rw[hg.cell_far _ (by rw[addr_block];exact hlt) (by rw[addr_block];exact hne)];exact h3 i x hx⟩
  ·rw[ea] at ea';cases ea'
   exact⟨cur,by rw[hg.block _ hlt hne];exact hb⟩
theorem LR.take {A:Option Addr} {n c c' m:Nat} (h:LR W (.slice A n c) xs) (hm:m≤xs.length) (hc:m≤c'):LR W (.slice A m c') (xs.take m):=by
 obtain⟨A2,c2,e,_,hR,ht⟩:=h
 injection e with e1 e2 e3
 subst e1
 have hl:(xs.take m).length=m:=by rw[List.length_take];omega
 exact⟨A,c',by rw[hl],by rw[hl];exact hc,Kd.C_take hR hm,fun ad ea hp=>ht ad ea (by omega)⟩
theorem LR.drop {A:Option Addr} {n c m:Nat} (h:LR W (.slice A n c) xs) (hm:m≤xs.length):LR W (.slice (if c=m then A else A.map (·.add (m * 1))) (n - m) (c - m)) (xs.drop m):=by
 obtain⟨A2,c2,e,hc2,hR,ht⟩:=h
 injection e with e1 e2 e3
 subst e1 e2 e3
 refine⟨_,c - m,by rw[List.length_drop];rfl,by rw[List.length_drop];omega,Kd.C_drop hR hm hc2,fun ad ea hp=>?_⟩
 rw[List.length_drop] at hp
 rw[if_neg (by omega)] at ea
 cases A with
 | none=>cases ea
 | some a=>
  obtain⟨cur,hb⟩:=ht a rfl (by omega)
  injection ea with ea
  exact⟨cur,by rw[←ea,addr_block];exact hb⟩
theorem LR.reads {A:Option Addr} {n c:Nat} (h:LR W (.slice A n c) xs):n=xs.length∧n≤c∧RI W A xs:=by
 obtain⟨A2,c2,e,hc,hR,_⟩:=h
 injection e with e1 e2 e3
 subst e1 e2 e3
 exact⟨rfl,hc,hR⟩
structure FR (base:Nat) (fv:Value) (ls:List (List Int)) (k:Nat) (lv:Nat→Value) (W:World):Prop where
 own:W.ownsRow base 36 1 fv k ((List.range k).map lv)
 ownL:∀l,l<k→LR W (lv l) (lA ls l)
theorem FR.of (h:FW base fv ls k lv W):FR base fv ls k lv W:=⟨h.own,fun l hl=>LR.of_own (h.ownL l hl)⟩
theorem FR.kept (h:FR base fv ls k lv W) (hg:W.grownBy W' row) (hr:NoI W row) (hf:∀b,row=some b→fv.ownBlock≠some b):FR base fv ls k lv W':=
 ⟨own_keptB h.own hg hf,fun l hl=>(h.ownL l hl).kept hg hr⟩
theorem FR.grown (h:FR base fv ls k lv W) (hg:W.grownBy W' none):FR base fv ls k lv W':=h.kept hg (NoI.none W) (fun b e=>by cases e)
theorem FR.congr {ls':List (List Int)} (h:FR base fv ls k lv W) (e:∀l,l<k→lA ls' l=lA ls l):FR base fv ls' k lv W:=
 ⟨h.own,fun l hl=>by rw[e l hl];exact h.ownL l hl⟩
theorem FR.reads (h:FR base fv ls ls.length lv W):∃A c,fv=.slice A ls.length c∧ls.length≤c∧RL W A ls:=by
 refine OwnRow.reads (R:=KL.K W) (e:=36) (base:=base) ⟨_,h.own,reps_one (fun j p hj=>?_)⟩
 have hlt:=(List.getElem?_eq_some_iff.1 hj).1
 have e:lA ls j=p:=by simp[lA,List.getD_eq_getElem?_getD,hj]
 obtain⟨A,c,e1,e2,e3,_⟩:=h.ownL j hlt
 rw[e] at e1 e2 e3
 exact⟨A,c,by rw[e1],e2,e3⟩
theorem FR.put (h:FR base fv ls ls.length lv W) {l:Nat} (hl:l<ls.length) {x:List Int} (hu:LR W u x) (hv:fv=.slice (some ⟨g,0,none⟩) ls.length cap) :
  FR base fv (ls.set l x) (ls.set l x).length (fun j=>if j=l then u else lv j) (W.setCell ⟨g,l,none⟩ u):=by
 have hn:NoI W (some g):=by have:=NoI.own h.own (by decide);rw[hv] at this;exact this
 subst hv
 refine⟨?_,fun j hj=>?_⟩
 ·rw[List.length_set,←map_range_set]
  exact(World.ownsRow.stored h.own l u).1
 ·rw[List.length_set] at hj
  rw[lA_set hl]
  by_cases e:j=l
  ·rw[if_pos e,if_pos e];exact hu.kept (grown_set _ _ _ _) hn
  ·rw[if_neg e,if_neg e];exact(h.ownL j hj).kept (grown_set _ _ _ _) hn
theorem FR.append (h:FR base fv ls ls.length lv W) {x:List Int} (hu:LR W u x) {fv':Value} (ho:W'.ownsRow base 36 1 fv' (ls.length+1) ((List.range ls.length).map lv ++ [u])) (hg:W.grownBy W' fv.ownBlock) :
  FR base fv' (ls ++ [x]) (ls ++ [x]).length (fun l=>if l=ls.length then u else lv l) W':=by
 have hn:=NoI.own h.own (show(36:Nat)≠3 by decide)
 rw[List.length_append,List.length_singleton]
 refine⟨by rw[range_map_snoc];exact ho,fun l hl=>?_⟩
 by_cases e:l=ls.length
 ·subst e
  rw[if_pos rfl,show lA (ls ++ [x]) ls.length=x by simp[lA,List.getD_eq_getElem?_getD]]
  exact hu.kept hg hn
 ·rw[if_neg e,show lA (ls ++ [x]) l=lA ls l by simp[lA,List.getD_eq_getElem?_getD,List.getElem?_append_left (show l<ls.length by omega)]]
  exact(h.ownL l (by omega)).kept hg hn
theorem FR.less {base2:Nat} (h:FR base fv ls ls.length lv W) {i:Nat} (hi:i<ls.length) {fv':Value} (ho:W'.ownsRow base2 36 1 fv' (ls.length - 1) (((List.range ls.length).map lv).eraseIdx i)) (hg:W.grownBy W' none) :
  FR base2 fv' (ls.eraseIdx i) (ls.eraseIdx i).length (fun l=>lv (skip i l)) W':=by
 rw[List.length_eraseIdx,if_pos hi]
 refine⟨by rw[←map_range_erase _ _ hi];exact ho,fun l hl=>?_⟩
 rw[show lA (ls.eraseIdx i) l=lA ls (skip i l) from getD_erase ls i l []]
 exact(h.ownL _ (skip_lt hl)).kept hg (NoI.none W)
structure MR (base:Nat) (v:Value) (fs:Fs) (k:Nat) (vf:Nat→Value) (vl:Nat→Nat→Value) (W:World):Prop where
 own:W.ownsRow base 37 1 v k ((List.range k).map vf)
 face:∀f,f<k→FR base (vf f) (fcA fs f) (fcA fs f).length (vl f) W
 dis:∀f,f<k→∀f',f'<k→f≠f'→Ap (vf f) (vf f')
theorem MR.of (h:MW base v fs k vf vl W):MR base v fs k vf vl W:=⟨h.own,fun f hf=>FR.of (h.face f hf),h.dis⟩
theorem MR.reads (h:MR base v fs fs.length vf vl W):∃A c,v=.slice A fs.length c∧fs.length≤c∧RF W A fs:=by
 refine OwnRow.reads (R:=KF.K W) (e:=37) (base:=base) ⟨_,h.own,reps_one (fun j p hj=>?_)⟩
 have hlt:=(List.getElem?_eq_some_iff.1 hj).1
 have e:fcA fs j=p:=by simp[fcA,List.getD_eq_getElem?_getD,hj]
 obtain⟨A,c,e1,e2,e3⟩:=(h.face j hlt).reads
 rw[e] at e1 e2 e3
 exact⟨A,c,by rw[e1],e2,e3⟩
theorem MR.kept (h:MR base v fs k vf vl W) (hg:W.grownBy W' row) (hr:NoI W row) (hv:∀b,row=some b→v.ownBlock≠some b) (hf:∀b,row=some b→∀f,f<k→(vf f).ownBlock≠some b):MR base v fs k vf vl W':=
 ⟨own_keptB h.own hg hv,fun f hfk=>(h.face f hfk).kept hg hr (fun b e=>hf b e f hfk),h.dis⟩
theorem MR.grown (h:MR base v fs k vf vl W) (hg:W.grownBy W' none):MR base v fs k vf vl W':=h.kept hg (NoI.none W) (fun b e=>by cases e) (fun b e=>by cases e)
theorem MR.lt (h:MR base v fs k vf vl W):(∀b,v.ownBlock=some b→base≤b∧b<W.heap.size)∧∀f,f<k→∀b,(vf f).ownBlock=some b→base≤b∧b<W.heap.size:=
 ⟨fun b q=>World.ownsRow.lt h.own b q,fun f hf b q=>World.ownsRow.lt (h.face f hf).own b q⟩
theorem MR.far (h:MR base v fs k vf vl W) {O:Nat} {cs:Array Value} {t:TypeId} (hO:Blk W O (.cells cs t)) (h1:t≠37) (h2:t≠36):v.ownBlock≠some O∧∀f,f<k→(vf f).ownBlock≠some O:=
 ⟨fun q=>own_no_blk h.own hO h1 q,fun f hf q=>own_no_blk (h.face f hf).own hO h2 q⟩
theorem MR.set (h:MR base v fs k vf vl W) {O:Nat} {cs:Array Value} {t:TypeId} (hO:Blk W O (.cells cs t)) (h0:t≠3) (h1:t≠37) (h2:t≠36) (o:Nat) (x:Value):MR base v fs k vf vl (W.setCell ⟨O,o,none⟩ x):=
 h.kept (grown_set _ _ _ _) (NoI.blk hO h0) (fun b e=>by cases e;exact(h.far hO h1 h2).1) (fun b e=>by cases e;exact(h.far hO h1 h2).2)
theorem MR.lower {base':Nat} (h:MR base v fs k vf vl W) (hb:base'≤base):MR base' v fs k vf vl W:=
 ⟨own_weaken h.own hb,fun f hf=>⟨own_weaken (h.face f hf).own hb,(h.face f hf).ownL⟩,h.dis⟩
theorem MR.put (h:MR base v fs fs.length vf vl W) {f l:Nat} (hf:f<fs.length) (hl:l<(fcA fs f).length) {x:List Int} (hu:LR W u x) (hv:vf f=.slice (some ⟨g,0,none⟩) (fcA fs f).length cap) :
  MR base v (setL fs f l x) (setL fs f l x).length vf (fun f'=>if f'=f then(fun j=>if j=l then u else vl f j) else vl f') (W.setCell ⟨g,l,none⟩ u):=by
 have hb:(vf f).ownBlock=some g:=by rw[hv];rfl
 have hn:NoI W (some g):=by have:=NoI.own (h.face f hf).own (by decide);rw[hb] at this;exact this
 refine⟨?_,fun f' hf'=>?_,?_⟩
 ·rw[setL_len]
  exact own_keptB h.own (grown_set _ _ _ _) (fun r q=>by cases q;exact own_other_types (h.face f hf).own h.own (by decide) hb)
 ·rw[setL_len] at hf'
  rw[fcA_setL hf]
  by_cases e:f'=f
  ·subst e
   rw[if_pos rfl,if_pos rfl]
   exact(h.face f' hf').put hl hu hv
  ·rw[if_neg e,if_neg e]
   refine(h.face f' hf').kept (grown_set _ _ _ _) hn (fun r q hFB=>?_)
   cases q
   rcases h.dis f' hf' f hf e with q | q
   ·rw[q] at hFB;cases hFB
   ·exact q (hFB.trans hb.symm)
 ·rw[setL_len];exact h.dis
theorem MR.face_new (h:MR base v fs fs.length vf vl W) {f:Nat} (hf:f<fs.length) (hv:v=.slice (some ⟨g,0,none⟩) fs.length cap) (hg:W.grownBy W' row) (hrow:row=none∨row=(vf f).ownBlock) (hu:FR base u ls ls.length lv W') (hat:u.ownBlock=(vf f).ownBlock∨∀b,u.ownBlock=some b→W.heap.size≤b) :
  MR base v (fs.set f ls) (fs.set f ls).length (fun j=>if j=f then u else vf j) (fun j=>if j=f then lv else vl j) (W'.setCell ⟨g,f,none⟩ u):=by
 have hnI:NoI W row:=by
  rcases hrow with rfl | rfl
  ·exact NoI.none W
  ·exact NoI.own (h.face f hf).own (by decide)
 have hvn:∀b,row=some b→v.ownBlock≠some b:=fun b e=>by
  rcases hrow with rfl | rfl
  ·cases e
  ·exact own_other_types (h.face f hf).own h.own (by decide) e
 have hown:W'.ownsRow base 37 1 v fs.length ((List.range fs.length).map vf):=own_keptB h.own hg hvn
 have hface:∀j,j<fs.length→j≠f→FR base (vf j) (fcA fs j) (fcA fs j).length (vl j) W':=fun j hj hne=>by
  refine(h.face j hj).kept hg hnI (fun b e q=>?_)
  rcases hrow with rfl | rfl
  ·cases e
  ·rcases h.dis j hj f hf hne with z | z
   ·rw[z] at q;cases q
   ·exact z (q.trans e.symm)
 have hb:v.ownBlock=some g:=by rw[hv];rfl
 have hn2:NoI W' (some g):=by have:=NoI.own hown (by decide);rw[hb] at this;exact this
 have hap:∀j,j<fs.length→j≠f→Ap (vf j) u:=fun j hj hne=>by
  rcases hat with e | e
  ·unfold Ap;rw[e];exact h.dis j hj f hf hne
  ·exact Ap.of_lt (B:=W.heap.size) (fun r q=>(h.lt.2 j hj r q).2) e
 refine⟨?_,fun j hj=>?_,fun i hi j hj hij=>?_⟩
 ·rw[List.length_set,←map_range_set]
  rw[hv] at hown ⊢
  exact(World.ownsRow.stored hown f u).1
 ·rw[List.length_set] at hj
  by_cases e:j=f
  ·subst e
   rw[show fcA (fs.set j ls) j=ls by unfold fcA;rw[List.getD_eq_getElem?_getD,List.getElem?_set_self hj];rfl]
   simp only[if_pos]
   exact hu.kept (grown_set _ _ _ _) hn2 (fun r q=>by cases q;exact own_other_types hown hu.own (by decide) hb)
  ·rw[show fcA (fs.set f ls) j=fcA fs j by unfold fcA;rw[List.getD_eq_getElem?_getD,List.getElem?_set_ne (fun q=>e q.symm),←List.getD_eq_getElem?_getD]]
   simp only[if_neg e]
   exact(hface j hj e).kept (grown_set _ _ _ _) hn2 (fun r q=>by cases q;exact own_other_types hown (hface j hj e).own (by decide) hb)
 ·rw[List.length_set] at hi hj
  show Ap (if i=f then u else vf i) (if j=f then u else vf j)
  by_cases e:i=f
  ·rw[if_pos e,if_neg (fun q=>hij (e.trans q.symm))]
   exact(hap j hj (fun q=>hij (e.trans q.symm))).symm
  ·rw[if_neg e]
   by_cases e2:j=f
   ·rw[if_pos e2];exact hap i hi e
   ·rw[if_neg e2];exact h.dis i hi j hj hij
theorem MR.appF (h:MR base v fs fs.length vf vl W) (hu:FR base u ls ls.length lv W) (hd:∀f,f<fs.length→Ap (vf f) u) {v':Value} (ho:W'.ownsRow base 37 1 v' (fs.length+1) ((List.range fs.length).map vf ++ [u])) (hg:W.grownBy W' v.ownBlock) :
  MR base v' (fs ++ [ls]) (fs ++ [ls]).length (fun j=>if j=fs.length then u else vf j) (fun j=>if j=fs.length then lv else vl j) W':=by
 have hn:=NoI.own h.own (show(37:Nat)≠3 by decide)
 rw[List.length_append,List.length_singleton]
 refine⟨by rw[range_map_snoc];exact ho,fun j hj=>?_,fun i hi j hj hij=>?_⟩
 ·by_cases e:j=fs.length
  ·subst e
   simp only[if_pos]
   rw[show fcA (fs ++ [ls]) fs.length=ls by simp[fcA,List.getD_eq_getElem?_getD]]
   exact hu.kept hg hn (fun b q=>own_other_types h.own hu.own (by decide) q)
  ·simp only[if_neg e]
   rw[show fcA (fs ++ [ls]) j=fcA fs j by simp[fcA,List.getD_eq_getElem?_getD,List.getElem?_append_left (show j<fs.length by omega)]]
   exact(h.face j (by omega)).kept hg hn (fun b q=>own_other_types h.own (h.face j (by omega)).own (by decide) q)
 ·show Ap (if i=fs.length then u else vf i) (if j=fs.length then u else vf j)
  by_cases e:i=fs.length
  ·rw[if_pos e,if_neg (by omega)];exact(hd j (by omega)).symm
  ·rw[if_neg e]
   by_cases e2:j=fs.length
   ·rw[if_pos e2];exact hd i (by omega)
   ·rw[if_neg e2];exact h.dis i (by omega) j (by omega) hij
theorem MR.less (h:MR base v fs fs.length vf vl W) {i:Nat} (hi:i<fs.length) {v':Value} (ho:W'.ownsRow base 37 1 v' (fs.length - 1) (((List.range fs.length).map vf).eraseIdx i)) (hg:W.grownBy W' none) :
  MR base v' (fs.eraseIdx i) (fs.eraseIdx i).length (fun j=>vf (skip i j)) (fun j=>vl (skip i j)) W':=by
 rw[List.length_eraseIdx,if_pos hi]
 refine⟨by rw[←map_range_erase _ _ hi];exact ho,fun j hj=>?_,fun a ha b hb2 hne=>h.dis _ (skip_lt ha) _ (skip_lt hb2) (fun q=>hne (skip_inj q))⟩
 rw[show fcA (fs.eraseIdx i) j=fcA fs (skip i j) from getD_erase fs i j []]
 exact(h.face _ (skip_lt hj)).grown hg
end
end Go.Proofs.Ytealnhaffphamaa

namespace Go.Proofs.Ytealnhaffphamaa
open Go.RowKit Go.Shelf Go.Proofs.YtealnhaffphamaaW.PrintWords
def Ty3 (t:TypeId):Prop:=t=3∨t=36∨t=37
structure Keep3 (W W':World):Prop where
 size:W.heap.size≤W'.heap.size
 block:∀k,k<W.heap.size→(∀cs t,Blk W k (.cells cs t)→Ty3 t)→W'.heap[k]?=W.heap[k]?
section
variable {W W' W'':World} {base n size:Nat} {e:TypeId} {v:Value} {xs:List Value} {fs:Fs} {vf:Nat→Value} {vl:Nat→Nat→Value} {A:Option Addr}
theorem Keep3.refl (W:World):Keep3 W W:=⟨Nat.le_refl _,fun _ _ _=>rfl⟩
theorem Keep3.trans (h:Keep3 W W') (k:Keep3 W' W''):Keep3 W W'':=by
 refine⟨Nat.le_trans h.size k.size,fun b hb ht=>?_⟩
 have h1:=h.block b hb ht
 rw[k.block b (Nat.lt_of_lt_of_le hb h.size) (fun cs t q=>ht cs t (by unfold Blk at *;rw[←h1];exact q)),h1]
theorem Keep3.below (hb:Below W.heap.size W W'):Keep3 W W':=⟨hb.size,fun k hk _=>hb.block k hk⟩
theorem Keep3.set {b o:Nat} {cs:Array Value} {t:TypeId} {x:Value} (hb:Blk W b (.cells cs t)) (ht:¬ Ty3 t):Keep3 W (W.setCell ⟨b,o,none⟩ x):=by
 have hg:=grown_set W b o x
 refine⟨hg.size,fun k hk h3=>?_⟩
 exact hg.block k hk (fun q=>by cases q;exact ht (h3 cs t hb))
theorem own_keep3 (h:W.ownsRow base e size v n xs) (he:Ty3 e) (hk:Keep3 W W'):W'.ownsRow base e size v n xs:=by
 obtain⟨h1,h2 | ⟨g,cap,cur,h3,h4,h5,h6⟩⟩:=h
 ·exact⟨h1,.inl h2⟩
 ·refine⟨h1,.inr ⟨g,cap,cur,h3,h4,?_,h6⟩⟩
  rw[hk.block g (Array.getElem?_eq_some_iff.1 h5).1 (fun cs t q=>by
   unfold Blk at q
   rw[h5] at q
   injection q with q
   injection q with _ q
   rw[←q];exact he),h5]
theorem cell_block {p:Addr} (h:W'.heap[p.block]?=W.heap[p.block]?):W'.cell? p=W.cell? p:=by
 unfold World.cell?
 rw[h]
theorem LR.keep3 {xs:List Int} (h:LR W v xs) (hk:Keep3 W W'):LR W' v xs:=by
 obtain⟨A,c,e,hc,hR,ht⟩:=h
 rcases Nat.eq_zero_or_pos xs.length with q | q
 ·exact⟨A,c,e,hc,⟨rfl,hR.2.1,fun h=>absurd h (by omega)⟩,fun ad _ h=>absurd h (by omega)⟩
 ·obtain⟨ad,ea,hcell⟩:=hR.2.2 q
  obtain⟨cur,hb⟩:=ht ad ea q
  have hsame:=hk.block ad.block (Array.getElem?_eq_some_iff.1 hb).1 (fun cs t q=>by
   unfold Blk at q
   rw[hb] at q
   injection q with q
   injection q with _ q
   exact .inl q.symm)
  refine⟨A,c,e,hc,⟨rfl,hR.2.1,fun _=>⟨ad,ea,fun j p hj=>?_⟩⟩,fun ad' ea' _=>?_⟩
  ·obtain⟨cs,h1,h2,h3⟩:=hcell j p hj
   exact⟨cs,h1,h2,fun i x hx=>(cell_block (p:=ad.add (j * KI.sz+i)) (by rw[addr_block];exact hsame)).trans (h3 i x hx)⟩
  ·rw[ea] at ea';cases ea'
   exact⟨cur,by rw[hsame];exact hb⟩
theorem MR.keep3 {k:Nat} (h:MR base v fs k vf vl W) (hk:Keep3 W W'):MR base v fs k vf vl W':=
 ⟨own_keep3 h.own (.inr (.inr rfl)) hk,fun f hf=>⟨own_keep3 (h.face f hf).own (.inr (.inl rfl)) hk,fun l hl=>((h.face f hf).ownL l hl).keep3 hk⟩,h.dis⟩
def RFT (W:World) (A:Option Addr) (fs:Fs):Prop:=∀W',Keep3 W W'→RF W' A fs
theorem RFT.rf (h:RFT W A fs):RF W A fs:=h W (Keep3.refl W)
theorem RFT.keep (h:RFT W A fs) (hk:Keep3 W W'):RFT W' A fs:=fun W'' h2=>h W'' (hk.trans h2)
theorem RFT.call (h:RFT W A fs) (hb:Below W.heap.size W W'):RFT W' A fs:=h.keep (Keep3.below hb)
theorem RFT.set {b o:Nat} {cs:Array Value} {t:TypeId} {x:Value} (h:RFT W A fs) (hb:Blk W b (.cells cs t)) (ht:¬ Ty3 t):RFT (W.setCell ⟨b,o,none⟩ x) A fs:=h.keep (Keep3.set hb ht)
theorem MR.readsT (h:MR base v fs fs.length vf vl W):∃A c,v=.slice A fs.length c∧fs.length≤c∧RFT W A fs:=by
 obtain⟨A,c,rfl,h2,_⟩:=h.reads
 refine⟨A,c,rfl,h2,fun W' hk=>?_⟩
 obtain⟨A',c',e1,_,h4⟩:=(h.keep3 hk).reads
 injection e1 with e2 e3 e4
 rw[e2];exact h4
def OpT (r:Except Int (Int × Fs)) (e:Ending) (w:World):Prop:=match r with
 | .error z=>e=.returned (.tuple #[.agg #[.int .i64 0,.slice none 0 0],.int .i64 z])
 | .ok (N,fs)=>∃A c,e=.returned (.tuple #[.agg #[.int .i64 N,.slice A fs.length c],.int .i64 0])∧fs.length≤c∧RFT w A fs
theorem OpT.form {r:Except Int (Int × Fs)} {e:Ending} (h:OpT r e W):∃(N:Int) (A:Option Addr) (n c:Nat) (z:Int),e=.returned (.tuple #[.agg #[.int .i64 N,.slice A n c],.int .i64 z])∧OpT r (.returned (.tuple #[.agg #[.int .i64 N,.slice A n c],.int .i64 z])) W:=by
 rcases r with z | ⟨N,fs⟩
 ·exact⟨0,none,0,0,z,h,rfl⟩
 ·obtain⟨A,c,he,h2⟩:=h
  exact⟨N,A,fs.length,c,0,he,A,c,rfl,h2⟩
theorem OpT.keep {r:Except Int (Int × Fs)} {e:Ending} (h:OpT r e W) (hk:Keep3 W W'):OpT r e W':=by
 rcases r with z | ⟨N,fs⟩
 ·exact h
 ·obtain⟨A,c,he,h2,h3⟩:=h
  exact⟨A,c,he,h2,h3.keep hk⟩
end
end Go.Proofs.Ytealnhaffphamaa
