/- Contracts of the functions that the statement reaches, and plain lemmas: part 15 of 31. -/
import Derived.Test.YtealnhaffphamaaS14
import Derived.StillTailTactics
import Derived.Laws.AppendOwn
set_option linter.unusedVariables false
set_option linter.unusedSimpArgs false

namespace Go.Proofs.Ytealnhaffphamaa
open Go.RowKit Go.Shelf Go.Proofs.YtealnhaffphamaaW.PrintWords
section
variable {P:Program} {w:World}
theorem run_keep1 (t ty:TypeId) (base:Nat) (e:TypeId) (ht:P.underlying t=some (.slice e)) (hi:(P.info? e).map (fun i=>(i.zero,i.size,i.bytes))=some (some (.slice none 0 0),1,24))
  (g0 c0 n:Nat) (xs:List Value) (hown:w.ownsRow base e 1 (.slice (some ⟨g0,0,none⟩) n c0) n xs) (u:Value) (hu:u.oneCell'=true)
  (m:Nat) (hm:Blk w m (.cells #[u] e)) (hn:n≤1000000) (hbase:base≤w.heap.size) :
  ∃g cap w',(Builtin.append_ #[t,t] ty #[.slice (some ⟨g0,0,none⟩) n c0,.slice (some ⟨m,0,none⟩) 1 1]).run P w=.ok (.slice (some ⟨g,0,none⟩) (n+1) cap) w' ∧
   w'.ownsRow base e 1 (.slice (some ⟨g,0,none⟩) (n+1) cap) (n+1) (xs ++ [u])∧w.grownBy w' (some g0)∧(g=g0∨(g=w.heap.size∧w.grownBy w' none)):=by
 obtain⟨i,hi0,hz,hsz,hby⟩:=info_parts hi
 have hnews:∀j x,[u][j]?=some x→w.cell? ((⟨m,0,none⟩:Addr).add j)=some x:=fun j x hj=>by
  match j,hj with
  | 0,hj=>cases hj;exact(blk_cells hm).1 0 _ rfl
 obtain⟨g,cap,w',hr,h2,h3,h4,h5⟩:=run_append_lies (P:=P) w t ty base e i (.slice none 0 0) 1 24 ht hi0 hz hsz hby rfl (by decide) _ n xs hown ⟨m,0,none⟩ 1 1 [u] rfl hnews (by simpa using hu) (by decide) (by simp only[maxLen];omega) (by omega) hbase _ rfl
 refine⟨g,cap,w',hr,h2,h3,?_⟩
 rcases hown.2 with⟨q,_⟩ | ⟨g1,cap1,cur,he,hbg,hg,hnc,hcm,hcs,htake⟩
 ·cases q
 ·cases he
  by_cases hroom:n+1≤c0
  ·have hr2:=run_append_room (P:=P) w t ty e i ht hi0 g0 n c0 cur hg ⟨m,0,none⟩ 1 1 [u] (by rw[hsz];rfl) hnews (by simpa using hu) hroom (by rw[hsz,hcs];simp;omega)
   rw[hr2] at hr
   cases hr
   exact .inl rfl
  ·have hr2:=run_append_grow (P:=P) w t ty e i (.slice none 0 0) ht hi0 hz ⟨g0,0,none⟩ n c0 xs (by rw[hsz];exact hown.1) (hown.cells (g:=g0) rfl) ⟨m,0,none⟩ 1 1 [u] (by rw[hsz];rfl) hnews (by omega) (by omega) (by rw[hby];exact growslice_fits (by omega) (by omega))
   rw[hr2] at hr
   cases hr
   exact .inr ⟨rfl,rfl,rfl,rfl,by simp,fun k hk _=>heap_alloc_old w.drew _ hk⟩
variable {ops:Array Oper} {rest:List Oper} {o:Oper} {a:Act} {Q:Exit→Act→World→Prop} {K:Act→World→Prop} {E:Prop}
theorem wpList_keep1 (hgd:o.guard=none) (s x:Operand) (t:TypeId)
  (ho:o.op=.call { callee:=.builtin .append,args:=#[s,x],argTypes:=#[t,t] })
  (base:Nat) (e:TypeId) (ht:P.underlying t=some (.slice e)) (hi:(P.info? e).map (fun i=>(i.zero,i.size,i.bytes))=some (some (.slice none 0 0),1,24))
  (g0 c0 n:Nat) (xs:List Value) (hs:a.eval s=.slice (some ⟨g0,0,none⟩) n c0) (hown:w.ownsRow base e 1 (.slice (some ⟨g0,0,none⟩) n c0) n xs) (u:Value) (hu:u.oneCell'=true)
  (m:Nat) (hx:a.eval x=.slice (some ⟨m,0,none⟩) 1 1) (hm:Blk w m (.cells #[u] e)) (hn:n≤1000000) (hbase:base≤w.heap.size)
  (h:∀g cap w',w'.ownsRow base e 1 (.slice (some ⟨g,0,none⟩) (n+1) cap) (n+1) (xs ++ [u])→w.grownBy w' (some g0)→(g=g0∨(g=w.heap.size∧w.grownBy w' none))→wpList P ops Q rest (a.put o.dst (.slice (some ⟨g,0,none⟩) (n+1) cap)) w') :
  wpList P ops Q (o :: rest) a w:=by
 refine wpList_plain hgd fun K hK=>?_
 obtain⟨g,cap,w',hr,h2,h3,h4⟩:=run_keep1 (P:=P) t o.type base e ht hi g0 c0 n xs hown u hu m hm hn hbase
 unfold Oper.wp execOp
 simp only[ho,resolve,invoke,builtin,Sem.run_bind,Sem.run_pure,Result.andThen_ok,List.map_toArray,List.map_cons,List.map_nil,hs,hx,hr]
 exact hK _ _ (h g cap w' h2 h3 h4)
theorem step_keep1 (hgd:o.guard=none) (s x:Operand) (t:TypeId)
  (ho:o.op=.call { callee:=.builtin .append,args:=#[s,x],argTypes:=#[t,t] })
  (base:Nat) (e:TypeId) (ht:P.underlying t=some (.slice e)) (hi:(P.info? e).map (fun i=>(i.zero,i.size,i.bytes))=some (some (.slice none 0 0),1,24))
  (g0 c0 n:Nat) (xs:List Value) (hs:a.eval s=.slice (some ⟨g0,0,none⟩) n c0) (hown:w.ownsRow base e 1 (.slice (some ⟨g0,0,none⟩) n c0) n xs) (u:Value) (hu:u.oneCell'=true)
  (m:Nat) (hx:a.eval x=.slice (some ⟨m,0,none⟩) 1 1) (hm:Blk w m (.cells #[u] e)) (hn:n≤1000000) (hbase:base≤w.heap.size)
  (h:∀g cap w',w'.ownsRow base e 1 (.slice (some ⟨g,0,none⟩) (n+1) cap) (n+1) (xs ++ [u])→w.grownBy w' (some g0)→(g=g0∨(g=w.heap.size∧w.grownBy w' none))→K (a.put o.dst (.slice (some ⟨g,0,none⟩) (n+1) cap)) w') :
  if Region.wanted o (yielded ops a.tmps)=true then Oper.wp P o a w K Q else E:=by
 rw[if_pos (by simp[Region.wanted,hgd])]
 obtain⟨g,cap,w',hr,h2,h3,h4⟩:=run_keep1 (P:=P) t o.type base e ht hi g0 c0 n xs hown u hu m hm hn hbase
 unfold Oper.wp execOp
 simp only[ho,resolve,invoke,builtin,Sem.run_bind,Sem.run_pure,Result.andThen_ok,List.map_toArray,List.map_cons,List.map_nil,hs,hx,hr]
 exact h g cap w' h2 h3 h4
end
section
variable {W W':World} {row:Option Nat} {p:Addr} {v:Value}
theorem far_cell (hg:W.grownBy W' row) (hne:row≠some p.block) (h:W.cell? p=some v):W'.cell? p=some v:=by
 rw[hg.cell_far _ (World.block_lt_of_cell? W _ h) (fun e=>hne e.symm)];exact h
theorem far_frz (hg:W.grownBy W' row) (hne:row≠some p.block) (hc:W.cell? p=some v) (h:W.frozen? p=false):W'.frozen? p=false:=by
 rw[hg.frozen_far _ (World.block_lt_of_cell? W _ hc) (fun e=>hne e.symm)];exact h
theorem set_oth {b o o':Nat} {x:Value} (hne:o≠o') (h:W.cell? ⟨b,o',none⟩=some v):(W.setCell ⟨b,o,none⟩ x).cell? ⟨b,o',none⟩=some v:=by
 rw[World.cell?_setCell_other W _ _ _ (fun e=>hne (by injection e))];exact h
theorem far_here (hg:W.grownBy W' row) (hne:row≠some p.block) (h:W.cell? p=some (clO W p)):W'.cell? p=some (clO W' p):=clO_of (far_cell hg hne h)
theorem fr_one {base m:Nat} {u:Value} {x:List Int} (hm:Blk W m (.cells #[u] 36)) (hb:base≤m) (hu:LR W u x):FR base (.slice (some ⟨m,0,none⟩) 1 1) [x] 1 (fun _=>u) W:=
 ⟨⟨rfl,.inr ⟨m,1,#[u],rfl,hb,hm,Nat.le_refl _,by simp[maxLen],rfl,rfl⟩⟩,fun l hl=>by
  obtain rfl:l=0:=by omega
  exact hu⟩
end
section
variable {ty:TypeId} {os:List Obj} {w W W':World} {B O g cV base:Nat} {N:Int} {fs gs:Fs} {vf:Nat→Value} {vl:Nat→Nat→Value} {v:Value} {row:Option Nat} {ls:List (List Int)} {lv:Nat→Value}
theorem RWt.faceApp (h:RWt ty os w B O g cV N fs vf vl W) {f g1 c1 q cap:Nat} (hf:f<fs.length) (hv:vf f=.slice (some ⟨g1,0,none⟩) (fcA fs f).length c1) {u:Value} {x:List Int} (hu:LR W u x)
  (ho:W'.ownsRow B 36 1 (.slice (some ⟨q,0,none⟩) ((fcA fs f).length+1) cap) ((fcA fs f).length+1) ((List.range (fcA fs f).length).map (vl f) ++ [u])) (hg:W.grownBy W' (some g1)) (hat:q=g1∨(q=W.heap.size∧W.grownBy W' none)) :
  ROt ty os w B O N (.slice (some ⟨g,0,none⟩) fs.length cV) (fs.set f (fcA fs f ++ [x])) (W'.setCell ⟨g,f,none⟩ (.slice (some ⟨q,0,none⟩) ((fcA fs f).length+1) cap)):=by
 have hb:(vf f).ownBlock=some g1:=by rw[hv];rfl
 have h1:=h.top _ (.inr ⟨f,hf,.inl hb⟩:MB _ _ _ _ _ g1)
 have h2:B≤g1:=(h.mw.lt (b:=g1) (.inr ⟨f,hf,.inl hb⟩)).1
 have h3:=h.top g (.inl rfl)
 have h4:B≤g:=(h.mw.lt (b:=g) (.inl rfl)).1
 have hl:=h.low
 have hgs:=grown_set W' g f (.slice (some ⟨q,0,none⟩) ((fcA fs f).length+1) cap)
 have hM:=(MR.of h.mw).face_new hf rfl hg (.inr hb.symm) (FR.append (FR.of (h.mw.face f hf)) hu ho (by rw[hb];exact hg)) (by
  rcases hat with e | e
  ·exact .inl (by rw[e,hb];rfl)
  ·exact .inr (fun b e2=>by cases e2;show W.heap.size≤q;omega))
 exact⟨(h.obs.kept hg (fun k e=>by cases e;omega)).kept hgs (fun k e=>by cases e;omega),(h.out.kept hg (fun e=>by injection e with e;omega)).kept hgs (fun e=>by injection e with e;omega),⟨_,_,hM⟩,hl⟩
theorem FR.without {n c k:Nat} (h:FR base (.slice (some ⟨g,0,none⟩) n c) ls ls.length lv W) (hn:n=ls.length) (hk:k<n) (hl:n≤100000) :
  Calls Try.prog 63 #[.slice (some ⟨g,0,none⟩) n c,.int .i64 k] W fun e w'=>(∃A m c' lv',e=.returned (.slice A m c')∧FR W.heap.size (.slice A m c') (ls.eraseIdx k) (ls.eraseIdx k).length lv' w')∧W.grownBy w' none:=by
 subst hn
 refine(without_any g ls.length c k lv W (fun j hj=>?_) (fun j hj=>?_) (own_le h.own) hk hl).mono ?_
 ·have q0:=World.ownsRow.cellAt h.own j (by omega)
  rw[List.getElem?_map,List.getElem?_range hj] at q0
  exact q0
 ·obtain⟨x,hx⟩:=(h.ownL j hj).slice
  rw[hx];rfl
 ·rintro e w' ⟨⟨v,rfl,ho⟩,hg⟩
  obtain⟨A,m,c',rfl⟩:=own_slice3 ho
  exact⟨⟨A,m,c',_,rfl,h.less hk ho hg⟩,hg⟩
theorem FR.lower {base' k:Nat} {fv:Value} (h:FR base' fv ls k lv W) (hb:base≤base'):FR base fv ls k lv W:=⟨own_weaken h.own hb,h.ownL⟩
theorem ro_new [MdT ty] {x:Value} (h1:Obs os w W) (h2:Blk W O (.cells #[.int .i64 N,x] ty)) (h3:MR B v fs fs.length vf vl W) (h4:w.heap.size+os.length≤B∧B≤O):ROt ty os w B O N v fs (W.setCell ⟨O,1,none⟩ v):=
 ⟨h1.kept (grown_set _ _ _ _) (fun k e=>by cases e;omega),blk_set (o:=1) (x:=v) h2,⟨vf,vl,h3.set h2 MdT.ne.1 MdT.ne.2.1 MdT.ne.2.2 _ _⟩,h4⟩
theorem ROt.less {n c k:Nat} (h:ROt ty os w B O N (.slice (some ⟨g,0,none⟩) n c) fs W) (hn:n=fs.length) (hk:k<n) (hl:n≤100000) :
  Calls Try.prog 61 #[.slice (some ⟨g,0,none⟩) n c,.int .i64 k] W fun e w'=>(∃A m c',e=.returned (.slice A m c')∧∃vf vl,MR B (.slice A m c') (fs.eraseIdx k) (fs.eraseIdx k).length vf vl w')∧W.grownBy w' none:=by
 subst hn
 obtain⟨vf,vl,hm⟩:=h.mr
 refine(less_any g fs.length c k vf W (fun j hj=>?_) (fun j hj=>?_) (own_le hm.own) hk hl).mono ?_
 ·have q0:=World.ownsRow.cellAt hm.own j (by omega)
  rw[List.getElem?_map,List.getElem?_range hj] at q0
  exact q0
 ·obtain⟨x,hx⟩:=slice_of_own (hm.face j hj).own
  rw[hx];rfl
 ·rintro e w' ⟨⟨v,rfl,ho⟩,hg⟩
  obtain⟨A,m,c',rfl⟩:=own_slice3 ho
  exact⟨⟨A,m,c',rfl,_,_,hm.less hk (own_weaken ho (by have:=h.low;have:=h.out.lt;omega)) hg⟩,hg⟩
end
end Go.Proofs.Ytealnhaffphamaa

namespace Go.Proofs.Ytealnhaffphamaa
open Go.RowKit Go.Shelf Go.Proofs.YtealnhaffphamaaW.PrintWords
set_option maxHeartbeats 1000000 in
theorem next_same (A:Option Addr) (c n i:Nat) (W:World) (hn:0<n) (hi:i<n) (hl:n≤1000000) :
  Calls Try.prog 44 #[.slice A n c,.int .i64 i] W fun e w'=>e=.returned (.int .i64 (((i+1) % n:Nat):Int))∧w'=W:=by
 obtain⟨q,hq⟩:∃q:Nat,q=i+1:=⟨_,rfl⟩
 obtain⟨p,hp⟩:∃p:Nat,q % n=p:=⟨_,rfl⟩
 have hw:IntKind.i64.wrap ((i:Int)+1)=(q:Int):=by rw[IntKind.wrap_i64];omega
 have hm:Int.tmod (q:Int) (n:Int)=(p:Int):=by rw[←hp];rfl
 have h1:¬ (n:Int)=0:=by omega
 have h2:¬ n=0:=by omega
 have HP:Hid ((i+1) % n=p):=by rw[←hq];exact hp
 rw[HP.out]
 clear hq
 go_enter Try.func44,Try.ntmps44
 go_wp2
 go_ret
 exact⟨rfl,rfl⟩
theorem next_any (A:Option Addr) (c:Nat) (xs:List Int) (i:Nat) (W:World) (hR:RI W A xs) (hc:xs.length≤c) (hi:i<xs.length) (hl:xs.length≤1000000) :
  Calls Try.prog 44 #[.slice A xs.length c,.int .i64 i] W fun e w'=>e=.returned (.int .i64 (((i+1) % xs.length:Nat):Int))∧∃n,w'=W.drewN n:=
 (next_same A c xs.length i W (by omega) hi hl).mono fun _ _ h=>⟨h.1,0,h.2⟩
def edC (x:PV):List Value:=[.int .i64 x.v,.int .i64 x.a,.int .i64 (x.f:Nat),.int .i64 (x.l:Nat),.int .i64 (x.i:Nat)]
def edF (ds:List PV):List Value:=ds.flatMap edC
theorem edF_snoc (ds:List PV) (x:PV):edF (ds ++ [x])=edF ds ++ edC x:=by simp[edF]
theorem edF_at {ds:List PV} {i:Nat} {x:PV} (h:ds[i]?=some x) {j:Nat} (hj:j<5):(edF ds)[i * 5+j]?=(edC x)[j]?:=by
 induction ds generalizing i with
 | nil=>simp at h
 | cons y ds ih=>
  cases i with
  | zero=>
   simp at h
   subst h
   simp only[edF,List.flatMap_cons,Nat.zero_mul,Nat.zero_add]
   rw[List.getElem?_append_left (by simp[edC];omega)]
  | succ i=>
   have:=ih (i:=i) (by simpa using h)
   simp only[edF,List.flatMap_cons] at this ⊢
   rw[List.getElem?_append_right (by simp[edC];omega),←this]
   congr 1
   simp[edC];omega
def RE (W:World) (v:Value) (ds:List PV):Prop:=∃A c,v=.slice A ds.length c∧ds.length≤c∧∀(i:Nat) (x:PV),ds[i]?=some x→∃g,A=some ⟨g,0,none⟩∧∀j u,(edC x)[j]?=some u→W.cell? ⟨g,i * 5+j,none⟩=some u
theorem RE.below {w W:World} {v:Value} {ds:List PV} (h:RE w v ds) (hb:Below w.heap.size w W):RE W v ds:=by
 obtain⟨A,c,h1,h2,h3⟩:=h
 refine⟨A,c,h1,h2,fun i x hx=>?_⟩
 obtain⟨g,e,h4⟩:=h3 i x hx
 exact⟨g,e,fun j u hj=>pw_cell_below hb (h4 j u hj)⟩
theorem RE.of_own {W:World} {base:Nat} {v:Value} {ds:List PV} (h:W.ownsRow base 76 5 v ds.length (edF ds)):RE W v ds:=by
 rcases Nat.eq_zero_or_pos ds.length with h0 | h0
 ·obtain⟨A,c,rfl⟩:=own_slice h
  exact⟨A,c,rfl,by omega,fun i x hx=>by have:=(List.getElem?_eq_some_iff.1 hx).1;omega⟩
 ·obtain⟨g,cap,rfl,h1,h2⟩:=h.form h0
  refine⟨_,cap,rfl,?_,fun i x hx=>⟨g,rfl,fun j u hj=>?_⟩⟩
  ·rcases h.2 with⟨q,_⟩ | ⟨g',cap',cur,q,_,_,q2,_⟩
   ·cases q
   ·injection q with _ _ q;omega
  ·have hi:=(List.getElem?_eq_some_iff.1 hx).1
   have hj5:j<5:=by have:=(List.getElem?_eq_some_iff.1 hj).1;simpa [edC] using this
   rw[World.ownsRow.cellAt h (i * 5+j) (by omega),edF_at hx hj5]
   exact hj
theorem infoEd:(Try.prog.info? 76).map (fun i=>(i.zero,i.size,i.bytes))=some (some (.agg #[.int .i64 0,.int .i64 0,.int .i64 0,.int .i64 0,.int .i64 0]),5,40):=by kernel_rfl
def EdO (w:World) (ds:List PV) (e:Ending) (w':World):Prop:=∃v,e=.returned v∧RE w' v ds∧Below w.heap.size w w'
structure IRKX (s:Nat) (v0:Value) (J:World→Prop) (k e:Nat) (C:(Nat→Value)→World→Prop) (I:World→Prop) (S:Nat→World→Value→Prop) (vals:List (Nat × Nat)) (listed:Array Bool) (t:Nat→Value) (W:World):Prop where
 ir:IRK J k e C I S vals listed t W
 ini:listed.getD e false=false→t s=v0
section
variable {s:Nat} {v0:Value} {J I:World→Prop} {C:(Nat→Value)→World→Prop} {k e:Nat} {S:Nat→World→Value→Prop} {vals:List (Nat × Nat)} {listed:Array Bool} {t:Nat→Value} {W W1:World} {ops:Array Oper}
theorem IRKX.start (n:Nat) (hI:I W) (h:J W) (t:Nat→Value) (h0:t s=v0):IRKX s v0 J k e C I S vals (Array.replicate n false) t W:=⟨IRK.start n hI h t,fun _=>h0⟩
theorem IRKX.fin (h:IRKX s v0 J k e C I S vals listed t W):I W:=h.ir.fin
theorem IRKX.old (h:IRKX s v0 J k e C I S vals listed t W) (h0:listed.getD k false=false):J W:=h.ir.old h0
theorem IRKX.new (h:IRKX s v0 J k e C I S vals listed t W) (h0:listed.getD e false=true):C t W:=h.ir.new h0
theorem IRKX.vls (h:IRKX s v0 J k e C I S vals listed t W) (h0:listed.getD e false=false) (x:Nat × Nat) (hx:x∈vals) (hl:listed.getD x.1 false=true):S x.2 W (t x.2):=h.ir.vls h0 x hx hl
theorem IRKX.val {i:Nat} (h:IRKX s v0 J k e C I S vals listed t W) (hC:Cl ops listed) (hr:i∈Region.ready .any ops listed) (hre:reachB ops 9 e i=true) (x:Nat × Nat) (hx:x∈vals) (hl:listed.getD x.1 false=true):S x.2 W (t x.2):=h.ir.val hC hr hre x hx hl
theorem IRKX.bef {i:Nat} (h:IRKX s v0 J k e C I S vals listed t W) (hC:Cl ops listed) (hr:i∈Region.ready .any ops listed) (hre:reachB ops 9 e i=true):t s=v0:=h.ini (hC.not hr 9 hre)
theorem IRKX.yields {i d:Nat} {v:Value} (h:IRKX s v0 J k e C I S vals listed t W) (hC:Cl ops listed) (hr:i∈Region.ready .any ops listed) (hk:i≠k) (he:i≠e) (hre:reachB ops 9 e i=true) (hI:I W1) (hJ:J W→J W1) (hm:∀d v,S d W v→S d W1 v) (hv:S d W1 v) (h1:(clashV vals i d && decide (s≠d))=true):IRKX s v0 J k e C I S vals (listed.setIfInBounds i true) (upd t d v) W1:=by
 rw[Bool.and_eq_true] at h1
 exact⟨h.ir.yields hC hr hk he hre hI hJ hm hv h1.1,fun _=>by rw[upd_other _ _ (of_decide_eq_true h1.2)];exact h.bef hC hr hre⟩
theorem IRKX.turns {d:Nat} {v:Value} (h:IRKX s v0 J k e C I S vals listed t W) (hC:Cl ops listed) (hr:k∈Region.ready .any ops listed) (he:k≠e) (hre:reachB ops 9 e k=true) (hI:I W1) (hm:∀d' v,d'≠d→S d' W v→S d' W1 v) (hv:S d W1 v) (h1:(clashV vals k d && decide (s≠d))=true):IRKX s v0 J k e C I S vals (listed.setIfInBounds k true) (upd t d v) W1:=by
 rw[Bool.and_eq_true] at h1
 exact⟨h.ir.turns hC hr he hre hI hm hv h1.1,fun _=>by rw[upd_other _ _ (of_decide_eq_true h1.2)];exact h.bef hC hr hre⟩
theorem IRKX.endsV {d:Nat} {v:Value} (h:IRKX s v0 J k e C I S vals listed t W) (hr:e∈Region.ready .any ops listed) (hk:listed.getD k false=true) (hne:e≠k) (hC:C (upd t d v) W):IRKX s v0 J k e C I S vals (listed.setIfInBounds e true) (upd t d v) W:=
 ⟨⟨h.ir.fin,fun h0=>by rw[getD_set_eq (ready_spec.1 hr).2.1] at h0;simp at h0,fun h0=>by rw[getD_set_ne hne,hk] at h0;simp at h0,fun _=>hC⟩,fun h0=>by rw[getD_set_eq (ready_spec.1 hr).2.1] at h0;simp at h0⟩
end
theorem wp_value {P:Program} {o:Oper} {a:Act} {next:Act→World→Prop} {Q:Exit→Act→World→Prop} {w w':World} (v:Value) (h:(execOp a.eval o).run P w=.ok (.value v) w') (hn:next (a.put o.dst v) w'):Oper.wp P o a w next Q:=by unfold Oper.wp;rw[h];exact hn
def S12 (w:World) (O:Nat) (u3:Value) (ad2:Addr) (ll c1 f l i pa:Nat) (x:PV) (dd:List PV) (d:Nat) (W:World) (v:Value):Prop:=match d with | 44=>v=u3 | 45=>v=.slice (some ad2) ll c1 | 46=>v=.int .i64 i | 47=>v=.pointer (some (ad2.add i)) | 48=>v=.int .i64 x.v | 49=>v=.slice (some ad2) ll c1 | 50=>v=.slice (some ad2) ll c1 | 51=>v=.int .i64 i | 52=>v=.int .i64 pa | 53=>v=.pointer (some (ad2.add pa)) | 54=>v=.int .i64 x.a | 55=>v=.int .i64 f | 56=>v=.int .i64 l | 57=>v=.int .i64 i | 58=>v=.agg #[.int .i64 f,.int .i64 l,.int .i64 i] | 59=>v=.agg #[.int .i64 x.v,.int .i64 x.a,.int .i64 f,.int .i64 l,.int .i64 i] | 60=>∃m,v=.slice (some ⟨m,0,none⟩) 1 1∧O≤m∧Blk W m (.cells #[.int .i64 x.v,.int .i64 x.a,.int .i64 f,.int .i64 l,.int .i64 i] 76) | 61=>W.ownsRow (w.heap.size+1) 76 5 v (dd.length+1) (edF dd ++ #[.int .i64 x.v,.int .i64 x.a,.int .i64 f,.int .i64 l,.int .i64 i].toList) | _=>True
theorem S12.grown {w:World} {O:Nat} {u3:Value} {ad2:Addr} {ll c1 f l i pa:Nat} {x:PV} {dd:List PV} {W W1:World} (hg:W.grownBy W1 none):∀d v,S12 w O u3 ad2 ll c1 f l i pa x dd d W v→S12 w O u3 ad2 ll c1 f l i pa x dd d W1 v:=by
 intro d v h
 unfold S12 at h ⊢
 split at h
 all_goals first | exact h | (obtain⟨m,h1,h2,h3⟩:=h;exact⟨m,h1,h2,h3.kept hg (by simp)⟩) | exact own_keptB h hg (fun r e=>by cases e)
theorem S12.turned {w:World} {O:Nat} {u3:Value} {ad2:Addr} {ll c1 f l i pa:Nat} {x:PV} {dd:List PV} {W W1:World} {row:Option Nat} (hg:W.grownBy W1 row) (hr:∀k,row=some k→k<O):∀d v,d≠61→S12 w O u3 ad2 ll c1 f l i pa x dd d W v→S12 w O u3 ad2 ll c1 f l i pa x dd d W1 v:=by
 intro d v hd h
 unfold S12 at h ⊢
 split at h
 all_goals first | exact h | exact absurd rfl hd | (obtain⟨m,h1,h2,h3⟩:=h;exact⟨m,h1,h2,h3.kept hg (fun e=>by have:=hr _ e.symm;omega)⟩)
set_option maxRecDepth 100000 in
set_option maxHeartbeats 4000000 in
theorem edgesR_any (N:Int) (A:Option Addr) (c:Nat) (fs:Fs) (w:World) (hF:RF w A fs) (hc:fs.length≤c) (hS:Sm fs) (hcap:(plsA fs).length≤100000) :
  Calls Try.prog 40 #[.agg #[.int .i64 N,.slice A fs.length c]] w (EdO w (dartsA fs (plsA fs))):=by
 obtain⟨W1,hW1⟩:∃W1,W1=w.alloc (.cells #[.int .i64 N,.slice A fs.length c] 26):=⟨_,rfl⟩
 have HOB:Hid (Obs [.cells #[.int .i64 N,.slice A fs.length c] 26] w W1):=by rw[hW1];exact Obs.one w _
 have HF:=Lib.hid hF
 have HS:=Lib.hid hS
 have HCP:=Lib.hid hcap
 have hN:=hS.1
 clear hF hS hcap
 go_enter Try.func40,Try.ntmps40
 go_upto_region 1 with fail
 rw[←hW1]
 clear hW1
 have HB1:Hid (w.heap.size+1≤W1.heap.size):=HOB.out.size
 go_wp2
 go_loopw [3,4] (fun s3 s4 wr=>∃f:Nat,f≤fs.length∧s4=.int .i64 f∧Hid (Obs [.cells #[.int .i64 N,.slice A fs.length c] 26] w wr)∧Hid (wr.ownsRow (w.heap.size+1) 76 5 s3 (dartsA fs (preA fs f 0 0)).length (edF (dartsA fs (preA fs f 0 0))))) (fun _ v _=>fs.length - (intOf v).toNat)
 case atStart=>exact⟨0,by omega,rfl,HOB,World.ownsRow_nil _ _ _ _⟩
 case round=>
  clear HOB HB1
  rename World=>wr
  obtain⟨f,hf,rfl,HOB,HOW⟩:=hrel
  have m01:wr.cell? ⟨w.heap.size,1,none⟩=some (.slice A fs.length c):=HOB.out.cell 0 1 rfl rfl
  by_cases hlt:f<fs.length
  ·have hlz:(f:Int)<(fs.length:Int):=by omega
   obtain⟨ad0,A0,c0,rfl,hcw,hl0,hr0⟩:=HF.out.at hlt
   have hn0:=hr0.len
   have HR0:=Lib.hid hr0
   have HC0:=Lib.hid hcw
   clear hr0 hcw
   have hc0:=pw_cell_below HOB.out.below HC0.out
   go_wp2
   go_loopw [3,5] (fun s3 s5 wr=>∃l:Nat,l≤(fcA fs f).length∧s5=.int .i64 l∧Hid (Obs [.cells #[.int .i64 N,.slice (some ad0) fs.length c] 26] w wr)∧Hid (wr.ownsRow (w.heap.size+1) 76 5 s3 (dartsA fs (preA fs f l 0)).length (edF (dartsA fs (preA fs f l 0))))) (fun _ v _=>(fcA fs f).length - (intOf v).toNat)
   case atStart=>exact⟨0,by omega,rfl,HOB,HOW⟩
   case round=>
    clear HOB hc0 m01 HOW
    rename World=>wr
    obtain⟨l,hl,rfl,HOB,HOW⟩:=hrel
    have m01:wr.cell? ⟨w.heap.size,1,none⟩=some (.slice (some ad0) fs.length c):=HOB.out.cell 0 1 rfl rfl
    have hc0:=pw_cell_below HOB.out.below HC0.out
    by_cases hlt2:l<(fcA fs f).length
    ·have hlz2:(l:Int)<((fcA fs f).length:Int):=by omega
     obtain⟨ad1,A1,c1,rfl,hc1w,hl1,hr1⟩:=HR0.out.atP hlt2
     have hn1:=hr1.len
     have HR1:Hid (RI w A1 (lpA fs f l)):=hr1
     have hc1:=pw_cell_below HOB.out.below hc1w
     have HN1:(lpA fs f l).length≤1000000:=HS.out.2.2 f l
     obtain⟨ll,hll⟩:∃ll,(lpA fs f l).length=ll:=⟨_,rfl⟩
     have HLE:=Lib.hid hll
     rw[hll] at hc1 hl1 hn1 HN1
     clear hr1 hc1w hll
     go_wp2
     go_loopw [3,7] (fun s3 s7 wr=>∃i:Nat,i≤ll∧s7=.int .i64 i∧Hid (Obs [.cells #[.int .i64 N,.slice (some ad0) fs.length c] 26] w wr)∧Hid (wr.ownsRow (w.heap.size+1) 76 5 s3 (dartsA fs (preA fs f l i)).length (edF (dartsA fs (preA fs f l i))))∧Hid (ll≤1→i=0)) (fun _ v _=>ll - (intOf v).toNat)
     case atStart=>exact⟨0,by omega,rfl,HOB,HOW,fun _=>rfl⟩
     case round=>
      clear HOB hc0 m01 hc1 HOW
      rename World=>wr
      obtain⟨i,hi,rfl,HOB,HOW,HI0⟩:=hrel
      by_cases hlt3:i<ll
      ·have hlz3:(i:Int)<(ll:Int):=by omega
       by_cases h1:1<ll
       ·have h1z:(ll:Int) > 1:=by omega
        obtain⟨ad2,rfl,hxi0⟩:=HR1.out.at (i:=i) (by rw[HLE.out];exact hlt3)
        obtain⟨pa,hpa⟩:∃pa:Nat,pa=(i+1) % ll:=⟨_,rfl⟩
        have hpan:pa<ll:=by rw[hpa];exact Nat.mod_lt _ (by omega)
        obtain⟨_,e2,hxa0⟩:=HR1.out.at (i:=pa) (by rw[HLE.out];exact hpan)
        cases e2
        obtain⟨x,hx⟩:∃x,x=pvA fs f l i:=⟨_,rfl⟩
        have hvx:(lpA fs f l).getD i 0=x.v:=by rw[hx];rfl
        have hax:(lpA fs f l).getD pa 0=x.a:=by rw[hx,hpa,←HLE.out];rfl
        rw[hvx] at hxi0
        rw[hax] at hxa0
        have HX:Hid (dartsA fs (preA fs f l (i+1))=dartsA fs (preA fs f l i) ++ [x]∧(dartsA fs (preA fs f l i)).length≤100000∧x.f=f∧x.l=l∧x.i=i):=by
         rw[hx]
         refine⟨?_,?_,rfl,rfl,rfl⟩
         ·rw[preA_i,dartsA_snoc,if_pos (by show((lpA fs f l).length != 1)=true;rw[HLE.out];simp;omega)]
         ·have a1:=(preA_prefix fs hlt hlt2 (i:=i) (by rw[HLE.out];omega)).length_le
          have a2:(dartsA fs (preA fs f l i)).length≤(preA fs f l i).length:=List.length_filter_le _ _
          have:=HCP.out
          omega
        have hpz:(pa:Int)<(ll:Int):=by omega
        have HNX:Hid (∀W,Calls Try.prog 44 #[.slice (some ad2) ll c1,.int .i64 i] W fun e w'=>e=.returned (.int .i64 (pa:Int))∧w'=W):=fun W=>by rw[hpa];exact next_same (some ad2) c1 ll i W (by omega) hlt3 HN1
        have HXI:=Lib.hid hxi0
        have HXA:=Lib.hid hxa0
        have HOBd:Hid (Obs [.cells #[.int .i64 N,.slice (some ad0) fs.length c] 26] w wr.drew):=HOB.out.grown (grown_drew _)
        have HOWd:=Lib.hid (own_keptB HOW.out (grown_drew wr) (fun r e=>by cases e))
        obtain⟨iE,hiE,hiE0,hiE1,hiE2⟩:=info_parts infoEd
        have HRO:Hid (∀r,u3.ownBlock=some r→r<wr.heap.size∧w.heap.size+1≤r):=fun r e=>by have h:=World.ownsRow.lt HOW.out r e;exact⟨h.2,h.1⟩
        have HO1:Hid (w.heap.size+1≤wr.heap.size):=HOB.out.size
        obtain⟨dd,hdd⟩:∃dd,dartsA fs (preA fs f l i)=dd:=⟨_,rfl⟩
        rw[hdd] at HX HOWd
        clear hx hvx hax hpa HOB HOW HI0 hdd hxi0 hxa0
        go_wp2_with fail
        refine wp_region_inv' (by kernel_rfl) (by kernel_rfl) (fun listed aa wy=>∃t:Nat→Value,aa={ tmps:=#[.agg #[.int .i64 N,.slice (some ad0) fs.length c],.pointer (some ⟨w.heap.size,0,none⟩),.slice none 0 0,t 3,.int .i64 f,.int .i64 l,.slice (some ad2) ll c1,.int .i64 i,.int .i64 f,.pointer (some ⟨w.heap.size,1,none⟩),.slice (some ad0) fs.length c,.int .i64 fs.length,.bool true,u13,u14,.int .i64 l,.pointer (some ⟨w.heap.size,1,none⟩),.slice (some ad0) fs.length c,.int .i64 f,.pointer (some (ad0.add f)),.slice (some ad1) (fcA fs f).length c0,.int .i64 ((fcA fs f).length),.bool true,u23,u24,.pointer (some ⟨w.heap.size,1,none⟩),.slice (some ad0) fs.length c,.int .i64 f,.pointer (some (ad0.add f)),.slice (some ad1) (fcA fs f).length c0,.int .i64 l,.pointer (some (ad1.add l)),.slice (some ad2) ll c1,.int .i64 i,.slice (some ad2) ll c1,.int .i64 ll,.bool true,.bool true,.slice (some ad2) ll c1,.int .i64 ll,.bool true,.bool true,u42,u43,t 44,t 45,t 46,t 47,t 48,t 49,t 50,t 51,t 52,t 53,t 54,t 55,t 56,t 57,t 58,t 59,t 60,t 61,undef],defers:=[] }∧IRKX 3 u3 (fun wz=>wz.ownsRow (w.heap.size+1) 76 5 u3 dd.length (edF dd)) 17 18 (fun t wz=>wz.ownsRow (w.heap.size+1) 76 5 (t 3) (dd.length+1) (edF dd ++ #[.int .i64 x.v,.int .i64 x.a,.int .i64 f,.int .i64 l,.int .i64 i].toList)) (fun wz=>Obs [.cells #[.int .i64 N,.slice (some ad0) fs.length c] 26] w wz∧wr.heap.size≤wz.heap.size) (S12 w wr.heap.size u3 ad2 ll c1 f l i pa x dd) [(0,44),(1,45),(2,46),(3,47),(4,48),(5,49),(6,50),(7,51),(8,52),(9,53),(10,54),(11,55),(12,56),(13,57),(14,58),(15,59),(16,60),(17,61)] listed t wy) ⟨(fun d=>match d with | 3=>u3 | 44=>u44 | 45=>u45 | 46=>u46 | 47=>u47 | 48=>u48 | 49=>u49 | 50=>u50 | 51=>u51 | 52=>u52 | 53=>u53 | 54=>u54 | 55=>u55 | 56=>u56 | 57=>u57 | 58=>u58 | 59=>u59 | 60=>u60 | 61=>u61 | _=>undef),rfl,IRKX.start _ ⟨HOBd.out,by simp⟩ HOWd.out _ rfl⟩ ?_ ?_
        rotate_left
        ·rintro listed hCl ix hix aa wy ⟨t,rfl,hR⟩ hr
         match ix,hix,hr with
         | 0,_,hr=>
          as_aux_lemma=>
          refine wpOp_step rfl (fun K' hK=>?_)
          have e1:=hR.bef hCl hr (by kernel_rfl)
          go_simp
          exact hK _ _ ⟨upd t 44 u3,by simp[upd,e1],hR.yields hCl hr (by decide) (by decide) (by kernel_rfl) hR.fin (fun h=>h) (fun _ _ h=>h) (by rfl) rfl⟩
         | 1,_,hr=>
          as_aux_lemma=>
          refine wpOp_step rfl (fun K' hK=>?_)
          go_simp
          exact hK _ _ ⟨upd t 45 (.slice (some ad2) ll c1),rfl,hR.yields hCl hr (by decide) (by decide) (by kernel_rfl) hR.fin (fun h=>h) (fun _ _ h=>h) (by rfl) rfl⟩
         | 2,_,hr=>
          as_aux_lemma=>
          refine wpOp_step rfl (fun K' hK=>?_)
          go_simp
          exact hK _ _ ⟨upd t 46 (.int .i64 i),rfl,hR.yields hCl hr (by decide) (by decide) (by kernel_rfl) hR.fin (fun h=>h) (fun _ _ h=>h) (by rfl) rfl⟩
         | 3,_,hr=>
          as_aux_lemma=>
          refine wpOp_step rfl (fun K' hK=>?_)
          have e1:t 45=.slice (some ad2) ll c1:=hR.val hCl hr (by kernel_rfl) (1,45) (by simp) (dep_of hr 1 (by kernel_rfl))
          have e2:t 46=.int .i64 i:=hR.val hCl hr (by kernel_rfl) (2,46) (by simp) (dep_of hr 2 (by kernel_rfl))
          go_simp
          exact hK _ _ ⟨upd t 47 (.pointer (some (ad2.add i))),by first | (simp[upd,e1,e2];done) | (simp[upd,e1,e2];rfl),hR.yields hCl hr (by decide) (by decide) (by kernel_rfl) hR.fin (fun h=>h) (fun _ _ h=>h) (by rfl) rfl⟩
         | 4,_,hr=>
          as_aux_lemma=>
          refine wpOp_step rfl (fun K' hK=>?_)
          have e1:t 47=.pointer (some (ad2.add i)):=hR.val hCl hr (by kernel_rfl) (3,47) (by simp) (dep_of hr 3 (by kernel_rfl))
          have f0:=pw_cell_below (hR.fin).1.below HXI.out
          go_simp
          exact hK _ _ ⟨upd t 48 (.int .i64 x.v),by first | (simp[upd,e1];done) | (simp[upd,e1];rfl),hR.yields hCl hr (by decide) (by decide) (by kernel_rfl) hR.fin (fun h=>h) (fun _ _ h=>h) (by rfl) rfl⟩
         | 5,_,hr=>
          as_aux_lemma=>
          refine wpOp_step rfl (fun K' hK=>?_)
          go_simp
          exact hK _ _ ⟨upd t 49 (.slice (some ad2) ll c1),rfl,hR.yields hCl hr (by decide) (by decide) (by kernel_rfl) hR.fin (fun h=>h) (fun _ _ h=>h) (by rfl) rfl⟩
         | 6,_,hr=>
          as_aux_lemma=>
          refine wpOp_step rfl (fun K' hK=>?_)
          go_simp
          exact hK _ _ ⟨upd t 50 (.slice (some ad2) ll c1),rfl,hR.yields hCl hr (by decide) (by decide) (by kernel_rfl) hR.fin (fun h=>h) (fun _ _ h=>h) (by rfl) rfl⟩
         | 7,_,hr=>
          as_aux_lemma=>
          refine wpOp_step rfl (fun K' hK=>?_)
          go_simp
          exact hK _ _ ⟨upd t 51 (.int .i64 i),rfl,hR.yields hCl hr (by decide) (by decide) (by kernel_rfl) hR.fin (fun h=>h) (fun _ _ h=>h) (by rfl) rfl⟩
         | 8,_,hr=>
          as_aux_lemma=>
          refine wpOp_step rfl (fun K' hK=>?_)
          have e1:t 50=.slice (some ad2) ll c1:=hR.val hCl hr (by kernel_rfl) (6,50) (by simp) (dep_of hr 6 (by kernel_rfl))
          have e2:t 51=.int .i64 i:=hR.val hCl hr (by kernel_rfl) (7,51) (by simp) (dep_of hr 7 (by kernel_rfl))
          go_simp
          refine(HNX.out wy).mono ?_
          rintro e W' ⟨rfl,rfl⟩
          exact hK _ _ ⟨upd t 52 (.int .i64 pa),by first | (simp[upd,e1,e2];done) | (simp[upd,e1,e2];rfl),hR.yields hCl hr (by decide) (by decide) (by kernel_rfl) hR.fin (fun h=>h) (fun _ _ h=>h) (by rfl) rfl⟩
         | 9,_,hr=>
          as_aux_lemma=>
          refine wpOp_step rfl (fun K' hK=>?_)
          have e1:t 49=.slice (some ad2) ll c1:=hR.val hCl hr (by kernel_rfl) (5,49) (by simp) (dep_of hr 5 (by kernel_rfl))
          have e2:t 52=.int .i64 pa:=hR.val hCl hr (by kernel_rfl) (8,52) (by simp) (dep_of hr 8 (by kernel_rfl))
          go_simp
          exact hK _ _ ⟨upd t 53 (.pointer (some (ad2.add pa))),by first | (simp[upd,e1,e2];done) | (simp[upd,e1,e2];rfl),hR.yields hCl hr (by decide) (by decide) (by kernel_rfl) hR.fin (fun h=>h) (fun _ _ h=>h) (by rfl) rfl⟩
         | 10,_,hr=>
          as_aux_lemma=>
          refine wpOp_step rfl (fun K' hK=>?_)
          have e1:t 53=.pointer (some (ad2.add pa)):=hR.val hCl hr (by kernel_rfl) (9,53) (by simp) (dep_of hr 9 (by kernel_rfl))
          have f0:=pw_cell_below (hR.fin).1.below HXA.out
          go_simp
          exact hK _ _ ⟨upd t 54 (.int .i64 x.a),by first | (simp[upd,e1];done) | (simp[upd,e1];rfl),hR.yields hCl hr (by decide) (by decide) (by kernel_rfl) hR.fin (fun h=>h) (fun _ _ h=>h) (by rfl) rfl⟩
         | 11,_,hr=>
          as_aux_lemma=>
          refine wpOp_step rfl (fun K' hK=>?_)
          go_simp
          exact hK _ _ ⟨upd t 55 (.int .i64 f),rfl,hR.yields hCl hr (by decide) (by decide) (by kernel_rfl) hR.fin (fun h=>h) (fun _ _ h=>h) (by rfl) rfl⟩
         | 12,_,hr=>
          as_aux_lemma=>
          refine wpOp_step rfl (fun K' hK=>?_)
          go_simp
          exact hK _ _ ⟨upd t 56 (.int .i64 l),rfl,hR.yields hCl hr (by decide) (by decide) (by kernel_rfl) hR.fin (fun h=>h) (fun _ _ h=>h) (by rfl) rfl⟩
         | 13,_,hr=>
          as_aux_lemma=>
          refine wpOp_step rfl (fun K' hK=>?_)
          go_simp
          exact hK _ _ ⟨upd t 57 (.int .i64 i),rfl,hR.yields hCl hr (by decide) (by decide) (by kernel_rfl) hR.fin (fun h=>h) (fun _ _ h=>h) (by rfl) rfl⟩
         | 14,_,hr=>
          as_aux_lemma=>
          refine wpOp_step rfl (fun K' hK=>?_)
          have e1:t 55=.int .i64 f:=hR.val hCl hr (by kernel_rfl) (11,55) (by simp) (dep_of hr 11 (by kernel_rfl))
          have e2:t 56=.int .i64 l:=hR.val hCl hr (by kernel_rfl) (12,56) (by simp) (dep_of hr 12 (by kernel_rfl))
          have e3:t 57=.int .i64 i:=hR.val hCl hr (by kernel_rfl) (13,57) (by simp) (dep_of hr 13 (by kernel_rfl))
          go_simp
          exact hK _ _ ⟨upd t 58 (.agg #[.int .i64 f,.int .i64 l,.int .i64 i]),by first | (simp[upd,e1,e2,e3];done) | (simp[upd,e1,e2,e3];rfl),hR.yields hCl hr (by decide) (by decide) (by kernel_rfl) hR.fin (fun h=>h) (fun _ _ h=>h) (by rfl) rfl⟩
         | 15,_,hr=>
          as_aux_lemma=>
          refine wpOp_step rfl (fun K' hK=>?_)
          have e1:t 48=.int .i64 x.v:=hR.val hCl hr (by kernel_rfl) (4,48) (by simp) (dep_of hr 4 (by kernel_rfl))
          have e2:t 54=.int .i64 x.a:=hR.val hCl hr (by kernel_rfl) (10,54) (by simp) (dep_of hr 10 (by kernel_rfl))
          have e3:t 58=.agg #[.int .i64 f,.int .i64 l,.int .i64 i]:=hR.val hCl hr (by kernel_rfl) (14,58) (by simp) (dep_of hr 14 (by kernel_rfl))
          go_simp
          exact hK _ _ ⟨upd t 59 (.agg #[.int .i64 x.v,.int .i64 x.a,.int .i64 f,.int .i64 l,.int .i64 i]),by first | (simp[upd,e1,e2,e3];done) | (simp[upd,e1,e2,e3];rfl),hR.yields hCl hr (by decide) (by decide) (by kernel_rfl) hR.fin (fun h=>h) (fun _ _ h=>h) (by rfl) rfl⟩
         | 16,_,hr=>
          as_aux_lemma=>
          refine wpOp_step rfl (fun K' hK=>?_)
          have e1:t 59=.agg #[.int .i64 x.v,.int .i64 x.a,.int .i64 f,.int .i64 l,.int .i64 i]:=hR.val hCl hr (by kernel_rfl) (15,59) (by simp) (dep_of hr 15 (by kernel_rfl))
          have hI2:=hR.fin
          have hg:=World.grownBy_alloc wy (.cells #[.int .i64 x.v,.int .i64 x.a,.int .i64 f,.int .i64 l,.int .i64 i] 76) none
          rw[if_pos (by rfl)]
          refine wp_value (w':=wy.alloc (.cells #[.int .i64 x.v,.int .i64 x.a,.int .i64 f,.int .i64 l,.int .i64 i] 76)) (.slice (some ⟨wy.heap.size,0,none⟩) 1 1) (by rw[e1];kernel_rfl) ?_
          exact hK _ _ ⟨upd t 60 (.slice (some ⟨wy.heap.size,0,none⟩) 1 1),rfl,hR.yields hCl hr (by decide) (by decide) (by kernel_rfl) ⟨hI2.1.grown hg,Nat.le_trans hI2.2 hg.size⟩ (fun h=>own_keptB h hg (fun r e=>by cases e)) (S12.grown hg) ⟨_,rfl,hI2.2,blk_new wy _⟩ rfl⟩
         | 17,_,hr=>
          as_aux_lemma=>
          refine wpOp_step rfl (fun K' hK=>?_)
          have e1:t 44=u3:=hR.val hCl hr (by kernel_rfl) (0,44) (by simp) (dep_of hr 0 (by kernel_rfl))
          obtain⟨m,e2,hm,hbl⟩:∃m,t 60=.slice (some ⟨m,0,none⟩) 1 1∧wr.heap.size≤m∧Blk wy m (.cells #[.int .i64 x.v,.int .i64 x.a,.int .i64 f,.int .i64 l,.int .i64 i] 76):=hR.val hCl hr (by kernel_rfl) (16,60) (by simp) (dep_of hr 16 (by kernel_rfl))
          have hJ:=hR.old (getD_tf (ready_spec.1 hr).2.1).1
          have hI2:=hR.fin
          have ho1:=HO1.out
          have hdl:=HX.out.2.1
          rw[if_pos (by rfl)]
          refine wp_append_own wy (.tmp 44) (.tmp 60) _ rfl (w.heap.size+1) 76 iE _ 5 40 Try.underlying73 hiE hiE0 hiE1 hiE2 rfl (by decide) u3 dd.length (edF dd) e1 hJ ⟨m,0,none⟩ 1 1 #[.int .i64 x.v,.int .i64 x.a,.int .i64 f,.int .i64 l,.int .i64 i].toList e2 rfl (fun j u hj=>by rw[add_plain];exact(blk_cells hbl).1 j u (by simpa using hj)) (by simp[Value.oneCell']) (by simp only[maxLen];omega) (by omega) (Nat.le_trans ho1 hI2.2) ?_
          intro v' w1 hown1 hgrow _
          exact hK _ _ ⟨upd t 61 v',rfl,hR.turns hCl hr (by decide) (by kernel_rfl) ⟨hI2.1.kept hgrow (fun k e=>by have:=(HRO.out k e).2;simp;omega),Nat.le_trans hI2.2 hgrow.size⟩ (S12.turned hgrow (fun k e=>(HRO.out k e).1)) hown1 rfl⟩
         | 18,_,hr=>
          as_aux_lemma=>
          refine wpOp_step rfl (fun K' hK=>?_)
          have e9:wy.ownsRow (w.heap.size+1) 76 5 (t 61) (dd.length+1) (edF dd ++ #[.int .i64 x.v,.int .i64 x.a,.int .i64 f,.int .i64 l,.int .i64 i].toList):=hR.vls (getD_tf (ready_spec.1 hr).2.1).1 (17,61) (by simp) (dep_of hr 17 (by kernel_rfl))
          go_simp
          exact hK _ _ ⟨upd t 3 (t 61),by simp[upd],hR.endsV hr (dep_of hr 17 (by kernel_rfl)) (by decide) (by rw[upd_same];exact e9)⟩
         | nx+19,hix,_=>exact absurd (show nx+19<19 from hix) (by omega)
        rintro listed a2 W12 ⟨t,rfl,hR⟩ hl
        have hO12:=hR.new (hl 18 (by decide))
        have hI12:=hR.fin
        clear hR hl
        generalize t 3=u3 at hO12 ⊢
        generalize t 44=u44
        generalize t 45=u45
        generalize t 46=u46
        generalize t 47=u47
        generalize t 48=u48
        generalize t 49=u49
        generalize t 50=u50
        generalize t 51=u51
        generalize t 52=u52
        generalize t 53=u53
        generalize t 54=u54
        generalize t 55=u55
        generalize t 56=u56
        generalize t 57=u57
        generalize t 58=u58
        generalize t 59=u59
        generalize t 60=u60
        generalize t 61=u61
        have HOB12:=Lib.hid hI12.1
        have HOW12:=Lib.hid hO12
        clear hI12 hO12
        go_wp2
        go_roundw
        case rel=>
         refine⟨i+1,by omega,by go_num,HOB12,?_,fun _=>by omega⟩
         rw[HX.out.1,edF_snoc,List.length_append,List.length_singleton]
         have h:=HOW12.out
         unfold edC
         rw[HX.out.2.2.1,HX.out.2.2.2.1,HX.out.2.2.2.2]
         exact h
        case measure=>simp[intOf];omega
       ·have h1z:¬ (ll:Int) > 1:=by omega
        have HE:Hid (dartsA fs (preA fs f (l+1) 0)=dartsA fs (preA fs f l i)):=by
         have h0:=HI0.out (by omega)
         subst h0
         obtain rfl:ll=1:=by omega
         show _=_
         rw[preA_l,HLE.out,preA_i,dartsA_snoc,if_neg (by show ¬ ((lpA fs f l).length != 1)=true;simp[HLE.out]),List.append_nil]
        go_wp2
        go_roundw
        case rel=>exact⟨l+1,by omega,by go_num,HOB,by rw[HE.out];exact HOW⟩
        case measure=>simp[intOf];omega
      ·obtain rfl:i=ll:=by omega
       go_wp2
       go_roundw
       case rel=>exact⟨l+1,by omega,by go_num,HOB,by rw[preA_l,HLE.out];exact HOW⟩
       case measure=>simp[intOf];omega
    ·obtain rfl:l=(fcA fs f).length:=by omega
     go_wp2
     go_roundw
     case rel=>exact⟨f+1,by omega,by go_num,HOB,by rw[preA_f];exact HOW⟩
     case measure=>simp[intOf];omega
  ·obtain rfl:f=fs.length:=by omega
   rw[preA_end] at HOW
   go_wp2
   go_ret
   exact⟨_,rfl,RE.of_own HOW.out,HOB.out.below⟩
end Go.Proofs.Ytealnhaffphamaa

namespace Go.Proofs.Ytealnhaffphamaa
open Go.RowKit Go.Shelf Go.Proofs.YtealnhaffphamaaW.PrintWords
def FindP (ds:List PV) (v w r:Int):Prop:=(r=-1∧∀y∈ds,¬ (y.v=v∧y.a=w))∨∃(i:Nat) (x:PV),r=i∧ds[i]?=some x∧x.v=v∧x.a=w∧∀(j:Nat) (y:PV),j<i→ds[j]?=some y→¬ (y.v=v∧y.a=w)
theorem find_is (ds:List PV) (v w:Int):∃r,FindP ds v w r:=by
 have key:∀n,n≤ds.length→(∀(j:Nat) (y:PV),j<n→ds[j]?=some y→¬ (y.v=v∧y.a=w))∨∃r,FindP ds v w r:=by
  intro n
  induction n with
  | zero=>exact fun _=>.inl (fun j y h=>by omega)
  | succ n ih=>
   intro hn
   rcases ih (by omega) with h | h
   ·by_cases e:ds[n].v=v∧ds[n].a=w
    ·exact .inr ⟨n,.inr ⟨n,ds[n],rfl,List.getElem?_eq_getElem (by omega),e.1,e.2,h⟩⟩
    ·refine .inl (fun j y hj hy=>?_)
     rcases Nat.lt_or_ge j n with q | q
     ·exact h j y q hy
     ·obtain rfl:j=n:=by omega
      rw[List.getElem?_eq_getElem (by omega)] at hy
      cases hy;exact e
   ·exact .inr h
 rcases key ds.length (Nat.le_refl _) with h | h
 ·refine⟨-1,.inl ⟨rfl,fun y hy=>?_⟩⟩
  obtain⟨j,hj,rfl⟩:=List.getElem_of_mem hy
  exact h j _ hj (List.getElem?_eq_getElem hj)
 ·exact h
set_option maxHeartbeats 1000000 in
theorem findR_any (ds:List PV) (hl:ds.length≤1000000) (v w:Int) (u:Value) (W:World) (hR:RE W u ds) :
  Calls Try.prog 45 #[u,.int .i64 v,.int .i64 w] W fun e w'=>(∃r,e=.returned (.int .i64 r)∧FindP ds v w r)∧∃m,w'=W.drewN m:=by
 obtain⟨A,c,rfl,hc,hE⟩:=hR
 have HE:=Lib.hid hE
 clear hE
 go_enter Try.func45,Try.ntmps45
 go_wp2
 go_loop [7] (fun s7=>∃i:Nat,i≤ds.length∧s7=.int .i64 i∧Hid (∀(j:Nat) (y:PV),j<i→ds[j]?=some y→¬ (y.v=v∧y.a=w))) (fun s=>ds.length - (intOf s).toNat)
 case atStart=>exact⟨0,by omega,rfl,fun j y h=>by omega⟩
 case round=>
  obtain⟨i,hi,rfl,HJ⟩:=hrel
  by_cases hlt:i<ds.length
  ·obtain⟨g,rfl,hcell⟩:=HE.out i ds[i] (List.getElem?_eq_getElem hlt)
   have hx:Hid (ds[i]?=some ds[i]):=List.getElem?_eq_getElem hlt
   generalize ds[i]=x at hcell hx
   have c0:W.cell? ⟨g,i * 5,none⟩=some (.int .i64 x.v):=hcell 0 _ rfl
   have c1:W.cell? ⟨g,i * 5+1,none⟩=some (.int .i64 x.a):=hcell 1 _ rfl
   clear hcell
   by_cases h1:x.v=v
   ·by_cases h2:x.a=w
    ·have hv:(x.v == v)=true:=by simpa using h1
     have hw:(x.a == w)=true:=by simpa using h2
     have H1:Hid (x.v=v∧x.a=w):=⟨h1,h2⟩
     clear h1 h2
     go_wp2
     go_ret
     exact⟨⟨i,rfl,.inr ⟨i,x,rfl,hx.out,H1.out.1,H1.out.2,HJ.out⟩⟩,0,rfl⟩
    ·have hv:(x.v == v)=true:=by simpa using h1
     have hw:(x.a == w)=false:=by simpa using h2
     have H1:Hid (x.a≠w):=h2
     clear h1 h2
     go_wp2
     go_round
     case rel=>exact⟨i+1,by omega,by go_num,fun j y hj hy=>by
      rcases Nat.lt_or_ge j i with q | q
      ·exact HJ.out j y q hy
      ·obtain rfl:j=i:=by omega
       have:=hx.out
       rw[hy] at this;cases this
       exact fun z=>H1.out z.2⟩
     case measure=>simp[intOf];omega
   ·have hv:(x.v == v)=false:=by simpa using h1
    have H1:Hid (x.v≠v):=h1
    clear h1
    go_wp2
    go_round
    case rel=>exact⟨i+1,by omega,by go_num,fun j y hj hy=>by
     rcases Nat.lt_or_ge j i with q | q
     ·exact HJ.out j y q hy
     ·obtain rfl:j=i:=by omega
      have:=hx.out
      rw[hy] at this;cases this
      exact fun z=>H1.out z.1⟩
    case measure=>simp[intOf];omega
  ·go_wp2
   go_ret
   refine⟨⟨-1,rfl,.inl ⟨rfl,fun y hy=>?_⟩⟩,0,rfl⟩
   obtain⟨j,hj,rfl⟩:=List.getElem_of_mem hy
   exact HJ.out j _ (by omega) (List.getElem?_eq_getElem hj)
end Go.Proofs.Ytealnhaffphamaa
