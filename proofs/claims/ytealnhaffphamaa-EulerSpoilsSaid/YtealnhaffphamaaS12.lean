/- Contracts of the functions that the statement reaches, and plain lemmas: part 12 of 31. -/
import Derived.Test.YtealnhaffphamaaS11
set_option linter.unusedVariables false
set_option linter.unusedSimpArgs false

namespace Go.Proofs.Ytealnhaffphamaa
def mark (m:Nat→Bool) (f:Nat):Nat→Bool:=fun g=>if g=f then true else m g
def growF (nr:Nat→List Nat):Nat→Nat→(Nat→Bool)→List Nat × (Nat→Bool)
 | 0,_,m=>([],m)
 | k+1,f,m=>if m f then([],m) else
   (nr f).foldl (fun(acc:List Nat × (Nat→Bool)) g=>(acc.1 ++ (growF nr k g acc.2).1,(growF nr k g acc.2).2)) ([f],mark m f)
def growL (nr:Nat→List Nat) (k:Nat) (l:List Nat) (acc:List Nat × (Nat→Bool)):List Nat × (Nat→Bool):=
 l.foldl (fun(acc:List Nat × (Nat→Bool)) g=>(acc.1 ++ (growF nr k g acc.2).1,(growF nr k g acc.2).2)) acc
theorem growL_cons (nr:Nat→List Nat) (k g:Nat) (l:List Nat) (acc:List Nat × (Nat→Bool)):growL nr k (g :: l) acc=growL nr k l (acc.1 ++ (growF nr k g acc.2).1,(growF nr k g acc.2).2):=rfl
theorem growL_snoc (nr:Nat→List Nat) (k g:Nat) (l:List Nat) (acc:List Nat × (Nat→Bool)):growL nr k (l ++ [g]) acc=((growL nr k l acc).1 ++ (growF nr k g (growL nr k l acc).2).1,(growF nr k g (growL nr k l acc).2).2):=by
 unfold growL;rw[List.foldl_append];rfl
theorem growF_met {nr:Nat→List Nat} {k f:Nat} {m:Nat→Bool} (h:m f=true):growF nr k f m=([],m):=by
 cases k with
 | zero=>rfl
 | succ k=>simp[growF,h]
theorem growF_new {nr:Nat→List Nat} {k f:Nat} {m:Nat→Bool} (h:m f=false):growF nr (k+1) f m=growL nr k (nr f) ([f],mark m f):=by
 simp[growF,h,growL]
def unmet (F:Nat) (m:Nat→Bool):Nat:=((List.range F).filter fun f=>!m f).length
theorem unmet_mark {F f:Nat} {m:Nat→Bool} (hf:f<F) (h:m f=false):unmet F (mark m f)+1=unmet F m:=by
 unfold unmet
 induction F with
 | zero=>omega
 | succ F ih=>
  rw[List.range_succ,List.filter_append,List.filter_append,List.length_append,List.length_append]
  by_cases e:f=F
  ·subst e
   have e1:List.filter (fun g=>!mark m f g) (List.range f)=List.filter (fun g=>!m g) (List.range f):=by
    refine List.filter_congr (fun g hg=>?_)
    have:=List.mem_range.1 hg
    simp[mark,show g≠f by omega]
   rw[e1]
   simp[mark,h]
  ·have:=ih (by omega)
   have e2:mark m f F=m F:=by simp[mark,show ¬ F=f by omega]
   have e3:List.filter (fun g=>!mark m f g) [F]=List.filter (fun g=>!m g) [F]:=by simp[List.filter_cons,e2]
   rw[e3]
   omega
theorem unmet_pos {F f:Nat} {m:Nat→Bool} (hf:f<F) (h:m f=false):0<unmet F m:=by have:=unmet_mark hf h;omega
theorem unmet_le {F:Nat} {m m':Nat→Bool} (h:∀g,m g=true→m' g=true):unmet F m'≤unmet F m:=by
 unfold unmet
 induction F with
 | zero=>simp
 | succ F ih=>
  rw[List.range_succ,List.filter_append,List.filter_append,List.length_append,List.length_append]
  have:(List.filter (fun g=>!m' g) [F]).length≤(List.filter (fun g=>!m g) [F]).length:=by
   simp only[List.filter_cons,List.filter_nil]
   cases hm:m F with
   | true=>simp[h F hm]
   | false=>simp;split <;> simp
  omega
theorem unmet_top (F:Nat) (m:Nat→Bool):unmet F m≤F:=by
 unfold unmet
 have:=List.length_filter_le (fun f=>!m f) (List.range F)
 simpa using this
structure GrowOk (F:Nat) (m:Nat→Bool) (out:List Nat) (m':Nat→Bool):Prop where
 met:∀g,m' g=(m g || out.contains g)
 new:∀g∈out,g<F∧m g=false
 nodup:out.Nodup
 count:out.length+unmet F m'=unmet F m
theorem GrowOk.nil (F:Nat) (m:Nat→Bool):GrowOk F m [] m:=⟨fun g=>by simp,fun g h=>by simp at h,List.nodup_nil,by simp⟩
theorem GrowOk.one {F f:Nat} {m:Nat→Bool} (hf:f<F) (h:m f=false):GrowOk F m [f] (mark m f):=
 ⟨fun g=>by
  unfold mark
  by_cases e:g=f
  ·simp[e]
  ·simp[e],fun g hg=>by rw[List.mem_singleton.1 hg];exact⟨hf,h⟩,by simp,by have:=unmet_mark hf h;simp;omega⟩
theorem GrowOk.app {F:Nat} {m m1 m2:Nat→Bool} {a b:List Nat} (h1:GrowOk F m a m1) (h2:GrowOk F m1 b m2):GrowOk F m (a ++ b) m2:=by
 refine⟨fun g=>?_,fun g hg=>?_,?_,?_⟩
 ·rw[h2.met,h1.met]
  simp[Bool.or_assoc]
 ·rcases List.mem_append.1 hg with hg | hg
  ·exact h1.new g hg
  ·obtain⟨a1,a2⟩:=h2.new g hg
   rw[h1.met] at a2
   simp at a2
   exact⟨a1,a2.1⟩
 ·rw[List.nodup_append]
  refine⟨h1.nodup,h2.nodup,fun x hx y hy e=>?_⟩
  subst e
  have:=(h2.new x hy).2
  rw[h1.met] at this
  simp[hx] at this
 ·have e1:=h1.count;have e2:=h2.count
  rw[List.length_append];omega
theorem grow_ok (F:Nat) (nr:Nat→List Nat) (hnr:∀f,∀g∈nr f,g<F):∀(k f:Nat) (m:Nat→Bool),f<F→GrowOk F m (growF nr k f m).1 (growF nr k f m).2:=by
 intro k
 induction k with
 | zero=>intro f m _;exact GrowOk.nil F m
 | succ k ih=>
  intro f m hf
  cases hm:m f with
  | true=>rw[growF_met hm];exact GrowOk.nil F m
  | false=>
   rw[growF_new hm]
   have hl:∀(l:List Nat) (acc:List Nat × (Nat→Bool)),(∀g∈l,g<F)→GrowOk F m acc.1 acc.2→GrowOk F m (growL nr k l acc).1 (growL nr k l acc).2:=by
    intro l
    induction l with
    | nil=>intro acc _ h;exact h
    | cons g l ihl=>
     intro acc hl h
     rw[growL_cons]
     exact ihl _ (fun g' hg'=>hl g' (by simp[hg'])) (h.app (ih g acc.2 (hl g (by simp))))
   exact hl (nr f) _ (hnr f) (GrowOk.one hf hm)
theorem growL_ok (F:Nat) (nr:Nat→List Nat) (hnr:∀f,∀g∈nr f,g<F) (k:Nat) (m:Nat→Bool):∀(l:List Nat) (acc:List Nat × (Nat→Bool)),(∀g∈l,g<F)→GrowOk F m acc.1 acc.2→GrowOk F m (growL nr k l acc).1 (growL nr k l acc).2:=by
 intro l
 induction l with
 | nil=>intro acc _ h;exact h
 | cons g l ihl=>
  intro acc hl h
  rw[growL_cons]
  exact ihl _ (fun g' hg'=>hl g' (by simp[hg'])) (h.app (grow_ok F nr hnr k g acc.2 (hl g (by simp))))
theorem grow_closed (F:Nat) (nr:Nat→List Nat) (hnr:∀f,∀g∈nr f,g<F):∀(k f:Nat) (m:Nat→Bool),f<F→unmet F m≤k→(growF nr k f m).2 f=true∧∀x∈(growF nr k f m).1,∀y∈nr x,(growF nr k f m).2 y=true:=by
 intro k
 induction k with
 | zero=>
  intro f m hf hk
  have:m f=true:=by
   cases hm:m f with
   | true=>rfl
   | false=>have:=unmet_pos hf hm;omega
  rw[growF_met this]
  exact⟨this,fun x hx=>by simp at hx⟩
 | succ k ih=>
  intro f m hf hk
  cases hm:m f with
  | true=>rw[growF_met hm];exact⟨hm,fun x hx=>by simp at hx⟩
  | false=>
   rw[growF_new hm]
   have hmk:=unmet_mark hf hm
   have hl:∀(l:List Nat) (acc:List Nat × (Nat→Bool)),(∀g∈l,g<F)→GrowOk F m acc.1 acc.2→unmet F acc.2≤k→(∀x∈acc.1,x≠f→∀y∈nr x,acc.2 y=true) →
     (∀g,acc.2 g=true→(growL nr k l acc).2 g=true)∧(∀g∈l,(growL nr k l acc).2 g=true)∧(∀x∈(growL nr k l acc).1,x≠f→∀y∈nr x,(growL nr k l acc).2 y=true):=by
    intro l
    induction l with
    | nil=>intro acc _ _ _ h;exact⟨fun g hg=>hg,fun g hg=>by simp at hg,h⟩
    | cons g l ihl=>
     intro acc hlt hok hu hc
     rw[growL_cons]
     have hg:=grow_ok F nr hnr k g acc.2 (hlt g (by simp))
     obtain⟨c1,c2⟩:=ih g acc.2 (hlt g (by simp)) hu
     have hmono:∀z,acc.2 z=true→(growF nr k g acc.2).2 z=true:=fun z hz=>by rw[hg.met,hz];rfl
     obtain⟨d1,d2,d3⟩:=ihl (acc.1 ++ (growF nr k g acc.2).1,(growF nr k g acc.2).2) (fun g' hg'=>hlt g' (by simp[hg'])) (hok.app hg) (Nat.le_trans (unmet_le hmono) hu) (fun x hx hxf y hy=>by
      rcases List.mem_append.1 hx with hx | hx
      ·exact hmono y (hc x hx hxf y hy)
      ·exact c2 x hx y hy)
     refine⟨fun z hz=>d1 z (hmono z hz),fun z hz=>?_,d3⟩
     rcases List.mem_cons.1 hz with rfl | hz
     ·exact d1 _ c1
     ·exact d2 z hz
   obtain⟨d1,d2,d3⟩:=hl (nr f) ([f],mark m f) (hnr f) (GrowOk.one hf hm) (by show unmet F (mark m f)≤k;omega) (fun x hx hxf=>absurd (by simpa using hx) hxf)
   refine⟨d1 f (by simp[mark]),fun x hx y hy=>?_⟩
   by_cases e:x=f
   ·subst e;exact d2 y hy
   ·exact d3 x hx e y hy
inductive Reach (nr:Nat→List Nat):Nat→Nat→Prop
 | refl (f:Nat):Reach nr f f
 | step {f g h:Nat} (hg:g∈nr f) (hh:Reach nr g h):Reach nr f h
theorem Reach.trans {nr:Nat→List Nat} {a b c:Nat} (h1:Reach nr a b) (h2:Reach nr b c):Reach nr a c:=by
 induction h1 with
 | refl=>exact h2
 | step hg _ ih=>exact .step hg (ih h2)
theorem grow_reach (nr:Nat→List Nat):∀(k f:Nat) (m:Nat→Bool),∀x∈(growF nr k f m).1,Reach nr f x:=by
 intro k
 induction k with
 | zero=>intro f m x hx;simp[growF] at hx
 | succ k ih=>
  intro f m x hx
  cases hm:m f with
  | true=>rw[growF_met hm] at hx;simp at hx
  | false=>
   rw[growF_new hm] at hx
   have hl:∀(l:List Nat) (acc:List Nat × (Nat→Bool)),(∀g∈l,g∈nr f)→(∀z∈acc.1,Reach nr f z)→∀z∈(growL nr k l acc).1,Reach nr f z:=by
    intro l
    induction l with
    | nil=>intro acc _ h;exact h
    | cons g l ihl=>
     intro acc hl h
     rw[growL_cons]
     refine ihl _ (fun g' hg'=>hl g' (by simp[hg'])) (fun z hz=>?_)
     rcases List.mem_append.1 hz with hz | hz
     ·exact h z hz
     ·exact .step (hl g (by simp)) (ih g acc.2 z hz)
   exact hl (nr f) _ (fun g hg=>hg) (fun z hz=>by rw[List.mem_singleton.1 hz];exact .refl f) x hx
end Go.Proofs.Ytealnhaffphamaa

namespace Go.Proofs.Ytealnhaffphamaa
open Go.RowKit Go.Shelf Go.Proofs.YtealnhaffphamaaW.PrintWords
def mb (F:Nat) (m:Nat→Bool):Array Value:=((List.range F).map fun g=>Value.bool (m g)).toArray
theorem mb_get {F f:Nat} (m:Nat→Bool) (hf:f<F):(mb F m)[f]?=some (.bool (m f)):=by simp[mb,hf]
theorem mb_mark {F f:Nat} (m:Nat→Bool):(mb F m).setIfInBounds f (.bool true)=mb F (mark m f):=by
 unfold mb
 refine Array.ext' ?_
 simp only[Array.toList_setIfInBounds]
 refine List.ext_getElem (by simp) (fun j h1 h2=>?_)
 rw[List.getElem_set]
 simp only[List.getElem_map,List.getElem_range,mark]
 by_cases e:f=j
 ·rw[if_pos e,if_pos e.symm]
 ·rw[if_neg e,if_neg (fun q=>e q.symm)]
def nrA (nl:List (List Int)) (f:Nat):List Nat:=(lA nl f).map Int.toNat
def growV (g1 g2 g3:Nat):Value:=.func (.func 80) #[] #[.pointer (some ⟨g1,0,none⟩),.pointer (some ⟨g2,0,none⟩),.pointer (some ⟨g3,0,none⟩)]
structure GS (g1 g2 g3 M F base:Nat) (nv:Value) (nl:List (List Int)) (lv:Nat→Value) (m:Nat→Bool) (W:World):Prop where
 b1:Blk W g1 (.cells #[.slice (some ⟨M,0,none⟩) F F] 81)
 b2:Blk W g2 (.cells #[nv] 37)
 b3:Blk W g3 (.cells #[growV g1 g2 g3] 115)
 bm:Blk W M (.cells (mb F m) 4)
 near:FW base nv nl F lv W
section
variable {g1 g2 g3 M F base:Nat} {nv:Value} {nl:List (List Int)} {lv:Nat→Value} {m:Nat→Bool} {W W':World}
theorem GS.grown (h:GS g1 g2 g3 M F base nv nl lv m W) (hg:W.grownBy W' none):GS g1 g2 g3 M F base nv nl lv m W':=
 ⟨h.b1.kept hg (by simp),h.b2.kept hg (by simp),h.b3.kept hg (by simp),h.bm.kept hg (by simp),h.near.kept hg (fun b e=>by cases e)⟩
theorem GS.kept {row:Option Nat} (h:GS g1 g2 g3 M F base nv nl lv m W) (hg:W.grownBy W' row) (hr:∀r,row=some r→r≠g1∧r≠g2∧r≠g3∧r≠M∧¬ FB nv F lv r):GS g1 g2 g3 M F base nv nl lv m W':=
 ⟨h.b1.kept hg (fun e=>(hr _ e.symm).1 rfl),h.b2.kept hg (fun e=>(hr _ e.symm).2.1 rfl),h.b3.kept hg (fun e=>(hr _ e.symm).2.2.1 rfl),h.bm.kept hg (fun e=>(hr _ e.symm).2.2.2.1 rfl),h.near.kept hg (fun b e=>(hr _ e).2.2.2.2)⟩
theorem GS.low (h:GS g1 g2 g3 M F base nv nl lv m W):∀r,(r=g1∨r=g2∨r=g3∨r=M∨FB nv F lv r)→r<W.heap.size:=by
 rintro r (rfl | rfl | rfl | rfl | e)
 ·exact h.b1.lt
 ·exact h.b2.lt
 ·exact h.b3.lt
 ·exact h.bm.lt
 ·exact(h.near.lt e).2
theorem GS.ne (h:GS g1 g2 g3 M F base nv nl lv m W):M≠g1∧M≠g2∧M≠g3∧¬ FB nv F lv M:=by
 have hM:=h.bm
 unfold Blk at hM
 refine⟨fun e=>?_,fun e=>?_,fun e=>?_,fun e=>?_⟩
 ·have:=h.b1;unfold Blk at this;rw[←e,hM] at this;injection this with this;injection this with _ this;revert this;decide
 ·have:=h.b2;unfold Blk at this;rw[←e,hM] at this;injection this with this;injection this with _ this;revert this;decide
 ·have:=h.b3;unfold Blk at this;rw[←e,hM] at this;injection this with this;injection this with _ this;revert this;decide
 ·rcases e with e | ⟨l,hl,e⟩
  ·obtain⟨c,hc⟩:=own_typed h.near.own _ e
   rw[hM] at hc;injection hc with this;injection this with _ this;revert this;decide
  ·obtain⟨c,hc⟩:=own_typed (h.near.ownL l hl) _ e
   rw[hM] at hc;injection hc with this;injection this with _ this;revert this;decide
theorem GS.mark (h:GS g1 g2 g3 M F base nv nl lv m W) (f:Nat):GS g1 g2 g3 M F base nv nl lv (mark m f) (W.setCell ⟨M,f,none⟩ (.bool true)):=by
 obtain⟨n1,n2,n3,n4⟩:=h.ne
 refine⟨blk_other h.b1 (fun e=>n1 e.symm),blk_other h.b2 (fun e=>n2 e.symm),blk_other h.b3 (fun e=>n3 e.symm),?_,h.near.kept (grown_set _ _ _ _) (fun b e=>by cases e;exact n4)⟩
 have:=blk_set (o:=f) (x:=.bool true) h.bm
 rwa [mb_mark] at this
theorem GS.own_ne (h:GS g1 g2 g3 M F base nv nl lv m W) {b n:Nat} {v:Value} {xs:List Value} (ho:W.ownsRow b 3 1 v n xs):v.ownBlock≠some M:=by
 intro e
 obtain⟨c,hc⟩:=own_typed ho _ e
 have hM:=h.bm
 unfold Blk at hM
 rw[hM] at hc;injection hc with this;injection this with _ this;revert this;decide
theorem own_kept_ne {e n size:Nat} {v:Value} {xs:List Value} (ho:W.ownsRow base e size v n xs) (hg:W.grownBy W' (some M)) (hne:v.ownBlock≠some M):W'.ownsRow base e size v n xs:=
 own_keptB ho hg (fun b e=>by cases e;exact hne)
end
def natsI (l:List Nat):List Int:=l.map fun(x:Nat)=>(x:Int)
theorem natsI_len (l:List Nat):(natsI l).length=l.length:=by simp[natsI]
theorem natsI_app (a b:List Nat):natsI (a ++ b)=natsI a ++ natsI b:=by simp[natsI]
theorem own_built {B:Nat} {e:TypeId} (W:World) (x:Value) (hB:B≤W.heap.size):(W.alloc (.cells #[x] e)).ownsRow B e 1 (.slice (some ⟨W.heap.size,0,none⟩) 1 1) 1 [x]:=
 ⟨by simp,.inr ⟨W.heap.size,1,#[x],rfl,hB,blk_new W _,by omega,by simp[maxLen],by simp,by simp⟩⟩
theorem grown_weaken {W W':World} (h:W.grownBy W' none) (row:Option Nat):W.grownBy W' row:=⟨h.os,h.tape,h.output,h.size,fun k hk _=>h.block k hk (by simp)⟩
theorem growL_acc (nr:Nat→List Nat) (k:Nat) (l a:List Nat) (m:Nat→Bool):growL nr k l (a,m)=(a ++ (growL nr k l ([],m)).1,(growL nr k l ([],m)).2):=by
 have h:∀(l:List Nat) (a b:List Nat) (m:Nat→Bool),growL nr k l (a ++ b,m)=(a ++ (growL nr k l (b,m)).1,(growL nr k l (b,m)).2):=by
  intro l
  induction l with
  | nil=>intro a b m;rfl
  | cons g l ih=>
   intro a b m
   rw[growL_cons,growL_cons]
   rw[List.append_assoc]
   exact ih _ _ _
 have:=h l a [] m
 rwa [List.append_nil] at this
set_option maxRecDepth 100000 in
set_option maxHeartbeats 4000000 in
theorem grow_any (g1 g2 g3 M F base:Nat) (nv:Value) (nl:List (List Int)) (lv:Nat→Value) (hF:F≤100000) (hnl:nl.length=F) (hnr:∀f,∀x∈lA nl f,0≤x∧x<(F:Int)) (hln:∀f,(lA nl f).length≤100000) :
  ∀(k f:Nat) (m:Nat→Bool) (W:World),f<F→unmet F m≤k→GS g1 g2 g3 M F base nv nl lv m W →
   Calls Try.prog 80 #[.int .i64 f,.pointer (some ⟨g1,0,none⟩),.pointer (some ⟨g2,0,none⟩),.pointer (some ⟨g3,0,none⟩)] W fun e W'=>
    GS g1 g2 g3 M F base nv nl lv (growF (nrA nl) k f m).2 W'∧W.grownBy W' (some M)∧∃v,e=.returned v∧W'.ownsRow W.heap.size 3 1 v (growF (nrA nl) k f m).1.length (intsV (natsI (growF (nrA nl) k f m).1))∧(m f=true→v=.slice none 0 0):=by
 have HNR:=Lib.hid hnr
 have HLN:=Lib.hid hln
 have hlt:∀f,∀g∈nrA nl f,g<F:=by
  intro f g hg
  simp only[nrA,List.mem_map] at hg
  obtain⟨x,hx,rfl⟩:=hg
  have:=hnr f x hx
  omega
 have HLT:=Lib.hid hlt
 clear hnr hln hlt
 intro k
 induction k with
 | zero=>
  intro f m W hf hk hG
  have hm:m f=true:=by
   cases hm:m f with
   | true=>rfl
   | false=>have:=unmet_pos hf hm;omega
  rw[growF_met hm]
  have HG:=Lib.hid hG
  have c1:=(blk_cells hG.b1).1 0 _ rfl
  have c2:=(blk_cells hG.bm).1 f _ (mb_get m hf)
  rw[hm] at c2
  have hfz:(f:Int)<(F:Int):=by omega
  clear hk hG
  go_enter Try.func80,Try.ntmps80
  go_wp2
  go_ret
  exact⟨HG.out,World.grownBy.refl _ _,_,rfl,World.ownsRow_nil _ _ _ _,fun _=>rfl⟩
 | succ k ih=>
  intro f m W hf hk hG
  have HIH:=Lib.hid ih
  have HG:=Lib.hid hG
  have c1:=(blk_cells hG.b1).1 0 _ rfl
  have c2:=(blk_cells hG.bm).1 f _ (mb_get m hf)
  have hfz:(f:Int)<(F:Int):=by omega
  cases hm:m f with
  | true=>
   rw[growF_met hm]
   rw[hm] at c2
   clear hk hG ih
   go_enter Try.func80,Try.ntmps80
   go_wp2
   go_ret
   exact⟨HG.out,World.grownBy.refl _ _,_,rfl,World.ownsRow_nil _ _ _ _,fun _=>rfl⟩
  | false=>
   rw[growF_new hm]
   rw[hm] at c2
   have HM:=Lib.hid hm
   have HK:Hid (unmet F (mark m f)≤k):=by show unmet F (mark m f)≤k;have:=unmet_mark hf hm;omega
   have c3:=(blk_cells hG.bm).2 f
   have c4:=hG.bm.lt
   have HLOW:=Lib.hid hG.low
   clear hk hG ih hm
   go_enter Try.func80,Try.ntmps80
   go_upto_region 4 with fail
   have hG1:=HG.out.mark f
   have hg1:W.grownBy (W.setCell ⟨M,f,none⟩ (.bool true)) (some M):=grown_set _ _ _ _
   clear c1 c2 c3 c4 HG
   generalize W.setCell ⟨M,f,none⟩ (.bool true)=W1 at hG1 hg1 ⊢
   go_upto_region 5 with fail
   have hrow:(W1.alloc (.cells #[.int .i64 f] 3)).ownsRow W.heap.size 3 1 (.slice (some ⟨W1.heap.size,0,none⟩) 1 1) 1 (intsV (natsI [f])):=own_built W1 _ hg1.size
   have hg2:W1.grownBy (W1.alloc (.cells #[.int .i64 f] 3)) none:=World.grownBy_alloc _ _ _
   have hG2:=hG1.grown hg2
   have hg3:=hg1.trans (grown_weaken hg2 (some M))
   clear hG1 hg1 hg2
   obtain⟨b0,hb0⟩:∃b0,W1.heap.size=b0:=⟨_,rfl⟩
   rw[hb0] at hrow ⊢
   clear hb0
   generalize W1.alloc (.cells #[.int .i64 f] 3)=W2 at hrow hG2 hg3 ⊢
   obtain⟨nb,cN,hnv,hnb1,hnb2⟩:=hG2.near.own.form (by omega)
   obtain⟨A,cA,hlv,hcA,hri⟩:=ints_ri rfl (hG2.near.ownL f hf)
   obtain⟨n,hn⟩:∃n,n=(lA nl f).length:=⟨_,rfl⟩
   rw[←hn] at hlv hcA
   have hnle:n≤100000:=by rw[hn];exact HLN.out f
   have q0:=World.ownsRow.cellAt (by have h:=hG2.near.own;rw[hnv] at h;exact h) f (by omega)
   rw[List.getElem?_map,List.getElem?_range hf] at q0
   simp only[Option.map_some,hlv] at q0
   have q1:W2.cell? ⟨g2,0,none⟩=some (.slice (some ⟨nb,0,none⟩) F cN):=by rw[←hnv];exact(blk_cells hG2.b2).1 0 _ rfl
   have HG:=Lib.hid hG2
   have HGW:=Lib.hid hg3
   have HROW:=Lib.hid hrow
   have HLV:=Lib.hid hlv
   have HNN:=Lib.hid hn
   clear hG2 hg3 hrow hlv hn hnv hri
   go_wp2
   go_loopw [6,23] (fun s6 s23 wr=>∃j:Nat,j≤n∧s23=.int .i64 j∧Hid (GS g1 g2 g3 M F base nv nl lv (growL (nrA nl) k ((nrA nl f).take j) ([f],mark m f)).2 wr)∧Hid (W.grownBy wr (some M))∧Hid (wr.ownsRow W.heap.size 3 1 s6 (growL (nrA nl) k ((nrA nl f).take j) ([f],mark m f)).1.length (intsV (natsI (growL (nrA nl) k ((nrA nl f).take j) ([f],mark m f)).1)))) (fun _ v _=>n - (intOf v).toNat)
   case atStart=>exact⟨0,by omega,rfl,HG,HGW,HROW⟩
   case round=>
    clear HG HGW HROW q0 q1
    rename World=>wr
    obtain⟨j,hj,rfl,HG,HGW,HROW⟩:=hrel
    have hnlen:(nrA nl f).length=n:=by rw[HNN.out];simp[nrA]
    by_cases hjn:j<n
    ·have hjz:(j:Int)<(n:Int):=by omega
     obtain⟨g,hg⟩:∃g:Nat,(lA nl f).getD j 0=(g:Int):=by
      have hx:(lA nl f).getD j 0∈lA nl f:=by
       rw[List.getD_eq_getElem?_getD,List.getElem?_eq_getElem (by rw[←HNN.out];exact hjn)];exact List.getElem_mem _
      exact⟨_,(Int.toNat_of_nonneg (HNR.out f _ hx).1).symm⟩
     have hgg:(nrA nl f)[j]?=some g:=by
      have h1:j<(lA nl f).length:=by rw[←HNN.out];exact hjn
      have h2:(lA nl f)[j]=(g:Int):=by rw[←hg];simp[List.getD_eq_getElem?_getD,h1]
      simp[nrA,h1,h2]
     have hgm:g∈nrA nl f:=List.mem_of_getElem? hgg
     have hgF:=HLT.out f g hgm
     have htk:(nrA nl f).take (j+1)=(nrA nl f).take j ++ [g]:=by rw[List.take_add_one,hgg];rfl
     have hsn:=growL_snoc (nrA nl) k g ((nrA nl f).take j) ([f],mark m f)
     rw[←htk] at hsn
     obtain⟨acc,hacc⟩:∃acc,acc=growL (nrA nl) k ((nrA nl f).take j) ([f],mark m f):=⟨_,rfl⟩
     rw[←hacc] at HG HROW hsn
     have HTK:=Lib.hid hsn
     clear hsn
     have hok:GrowOk F m acc.1 acc.2:=by
      rw[hacc]
      exact growL_ok F (nrA nl) HLT.out k m _ _ (fun x hx=>HLT.out f x (List.mem_of_mem_take hx)) (GrowOk.one hf HM.out)
     have hmono:∀z,mark m f z=true→acc.2 z=true:=by
      have h2:=growL_ok F (nrA nl) HLT.out k (mark m f) ((nrA nl f).take j) ([],mark m f) (fun x hx=>HLT.out f x (List.mem_of_mem_take hx)) (GrowOk.nil F _)
      intro z hz
      have e:=growL_acc (nrA nl) k ((nrA nl f).take j) [f] (mark m f)
      rw[hacc,e]
      rw[h2.met,hz];rfl
     have hun:unmet F acc.2≤k:=Nat.le_trans (unmet_le hmono) HK.out
     have hlen1:=hok.count
     have htop:=unmet_top F m
     have HC:=Lib.hid (HIH.out g acc.2 wr hgF hun HG.out)
     have hok2:=grow_ok F (nrA nl) HLT.out k g acc.2 hgF
     have hlen2:=hok2.count
     have htop2:=unmet_top F acc.2
     obtain⟨ad,hA,hcell⟩:=RI.at (i:=j) (show RI wr A (lA nl f) by
      obtain⟨A2,c2,e1,e2,e3⟩:=ints_ri rfl (HG.out.near.ownL f hf)
      rw[HLV.out] at e1
      injection e1 with ea _ _
      rw[ea];exact e3) (by rw[←HNN.out];exact hjn)
     rw[hg] at hcell
     have c6:wr.cell? ⟨g3,0,none⟩=some (.func (.func 80) #[] #[.pointer (some ⟨g1,0,none⟩),.pointer (some ⟨g2,0,none⟩),.pointer (some ⟨g3,0,none⟩)]):=(blk_cells HG.out.b3).1 0 _ rfl
     have HOK:=Lib.hid hok
     clear hmono hok hok2 htk hgm hgg hacc
     subst hA
     obtain⟨A6,c6',hu6,hc6',hr6⟩:=ints_ri (xs:=natsI acc.1) (by rw[natsI_len]) HROW.out
     have HU6:=Lib.hid hu6
     clear hu6 hr6
     go_wp2_with (first | (at_builtin;refine wpList_append_ints rfl _ _ rfl W.heap.size u6 (natsI acc.1) (natsI (growF (nrA nl) k g acc.2).1) AR _ cR (by rw[natsI_len]) rfl rfl (by rw[natsI_len];exact HO6.out) HRR.out HSZ.out (by rw[natsI_len,natsI_len];omega) ?_;intro v2 w2 hown2 hgr2 _) | ((with_reducible refine(HC.out).mono ?_);rintro e wc ⟨hGc,hgc,vr,rfl,hor,-⟩;obtain⟨AR,cR,rfl,hcR,hrR⟩:=ints_ri (xs:=natsI (growF (nrA nl) k g acc.2).1) (by rw[natsI_len]) hor;have HRR:=Lib.hid hrR;have HGC:=Lib.hid hGc;have HGR:=Lib.hid (HGW.out.trans hgc);have HO6:=Lib.hid (own_kept_ne HROW.out hgc (HG.out.own_ne HROW.out));have HSZ:Hid (W.heap.size≤wc.heap.size):=Nat.le_trans HGW.out.size hgc.size;clear hrR hGc hgc hor hcR HC))
     go_roundw
     case rel=>
      have hne:∀b,u6.ownBlock=some b→W.heap.size≤b∧b≠M:=fun b e=>⟨own_base HROW.out b e,fun q=>HG.out.own_ne HROW.out (by rw[e,q])⟩
      refine⟨j+1,by omega,by go_num,?_,?_,?_⟩
      ·rw[HTK.out]
       exact HGC.out.kept hgr2 (fun r e=>by
        have h1:=(hne r e).1
        have h2:=fun q=>HLOW.out r q
        refine⟨fun q=>?_,fun q=>?_,fun q=>?_,fun q=>?_,fun q=>?_⟩
        ·have:=h2 (.inl q);omega
        ·have:=h2 (.inr (.inl q));omega
        ·have:=h2 (.inr (.inr (.inl q)));omega
        ·have:=h2 (.inr (.inr (.inr (.inl q))));omega
        ·have:=h2 (.inr (.inr (.inr (.inr q))));omega)
      ·exact⟨hgr2.os.trans HGR.out.os,hgr2.tape.trans HGR.out.tape,hgr2.output.trans HGR.out.output,Nat.le_trans HGR.out.size hgr2.size,fun q hq hqn=>(hgr2.block q (Nat.lt_of_lt_of_le hq HGR.out.size) (fun e=>by have:=(hne q e.symm).1;omega)).trans (HGR.out.block q hq hqn)⟩
      ·rw[HTK.out]
       rw[←natsI_app,natsI_len] at hown2
       exact hown2
     case measure=>simp[intOf];omega
    ·obtain rfl:j=n:=by omega
     have HE:Hid (growL (nrA nl) k ((nrA nl f).take j) ([f],mark m f)=growL (nrA nl) k (nrA nl f) ([f],mark m f)):=by
      show growL _ _ _ _=_
      rw[List.take_of_length_le (by omega)]
     rw[HE.out] at HG HROW
     go_wp2
     go_ret
     exact⟨HG.out,HGW.out,_,rfl,HROW.out,fun h=>by first | (cases h;done) | (rw[HM.out] at h;cases h)⟩
end Go.Proofs.Ytealnhaffphamaa

namespace Go.Proofs.Ytealnhaffphamaa
open Go.RowKit Go.Shelf Go.Proofs.YtealnhaffphamaaW.PrintWords
section
variable {base g cap:Nat} {fv u:Value} {ls:List (List Int)} {k l:Nat} {lv:Nat→Value} {W W':World} {x:List Int}
structure FQ (base:Nat) (fv:Value) (ls:List (List Int)) (k:Nat) (lv:Nat→Value) (l:Nat) (u:Value) (x:List Int) (W:World):Prop where
 own:W.ownsRow base 36 1 fv k ((List.range k).map lv)
 row:∀j,j<k→j≠l→W.ownsRow base 3 1 (lv j) (lA ls j).length (intsV (lA ls j))
 new:W.ownsRow base 3 1 u x.length (intsV x)
 dis:∀i,i<k→i≠l→∀j,j<k→j≠l→i≠j→Ap (lv i) (lv j)
 disN:∀i,i<k→i≠l→Ap (lv i) u
theorem FQ.grown (h:FQ base fv ls k lv l u x W) (hg:W.grownBy W' none):FQ base fv ls k lv l u x W':=
 ⟨own_keptB h.own hg (fun b e=>by cases e),fun j hj hn=>own_keptB (h.row j hj hn) hg (fun b e=>by cases e),own_keptB h.new hg (fun b e=>by cases e),h.dis,h.disN⟩
theorem FW.pendL (h:FW base fv ls k lv W) (hd:FD k lv) (hl:l<k) (hg:W.grownBy W' (lv l).ownBlock) (hu:W'.ownsRow base 3 1 u x.length (intsV x)) (hat:u.ownBlock=(lv l).ownBlock∨u.ownBlock=some W.heap.size):FQ base fv ls k lv l u x W':=by
 refine⟨own_keptB h.own hg (fun r q q2=>own_other_types (h.ownL l hl) h.own (by decide) q q2),fun j hj hne=>?_,hu,fun i hi _ j hj _ hij=>hd i hi j hj hij,fun i hi hne=>?_⟩
 ·refine own_keptB (h.ownL j hj) hg (fun r q q2=>?_)
  rcases hd j hj l hl hne with z | z
  ·rw[z] at q2;cases q2
  ·exact z (q2.trans q.symm)
 ·rcases hat with e | e
  ·unfold Ap;rw[e];exact hd i hi l hl hne
  ·exact Ap.of_lt (B:=W.heap.size) (fun r q=>(World.ownsRow.lt (h.ownL i hi) r q).2) (fun r q=>by rw[e] at q;cases q;exact Nat.le_refl _)
theorem FQ.store (h:FQ base fv ls k lv l u x W) (hk:k=ls.length) (hl:l<k) (hv:fv=.slice (some ⟨g,0,none⟩) k cap) :
  FW base fv (ls.set l x) k (fun j=>if j=l then u else lv j) (W.setCell ⟨g,l,none⟩ u)∧FD k (fun j=>if j=l then u else lv j):=by
 have hb:fv.ownBlock=some g:=by rw[hv];rfl
 refine⟨⟨?_,fun j hj=>?_⟩,fun i hi j hj hij=>?_⟩
 ·rw[←map_range_set]
  have h1:=h.own
  rw[hv] at h1 ⊢
  exact(World.ownsRow.stored h1 l u).1
 ·rw[lA_set (by omega)]
  by_cases e:j=l
  ·rw[if_pos e,if_pos e]
   exact own_keptB h.new (grown_set _ _ _ _) (fun r q q2=>by cases q;exact own_other_types h.own h.new (by decide) hb q2)
  ·rw[if_neg e,if_neg e]
   exact own_keptB (h.row j hj e) (grown_set _ _ _ _) (fun r q q2=>by cases q;exact own_other_types h.own (h.row j hj e) (by decide) hb q2)
 ·show Ap (if i=l then u else lv i) (if j=l then u else lv j)
  by_cases e:i=l
  ·rw[if_pos e,if_neg (fun q=>hij (e.trans q.symm))]
   exact(h.disN j hj (fun q=>hij (e.trans q.symm))).symm
  ·rw[if_neg e]
   by_cases e2:j=l
   ·rw[if_pos e2];exact h.disN i hi e
   ·rw[if_neg e2];exact h.dis i hi e j hj e2 hij
end
theorem FW.made {W:World} {F g base:Nat} (hF:F≤1000000) (hb:base≤g) (h:W.heap[g]?=some (.cells (Array.replicate F (.slice none 0 0)) 36 (0,0))):FW base (.slice (some ⟨g,0,none⟩) F F) (List.replicate F []) F (fun _=>.slice none 0 0) W:=by
 refine⟨⟨by simp,.inr ⟨g,F,_,rfl,hb,h,Nat.le_refl _,by simp only[maxLen];omega,by simp,?_⟩⟩,fun l hl=>?_⟩
 ·simp[List.map_const']
 ·have:lA (List.replicate F []) l=[]:=by simp[lA,List.getD_eq_getElem?_getD,List.getElem?_replicate,hl]
  rw[this]
  exact World.ownsRow_nil _ _ _ _
theorem FW.madeO {W:World} {F base:Nat} {v:Value} (h:W.ownsRow base 36 1 v F (List.replicate F (.slice none 0 0))):FW base v (List.replicate F []) F (fun _=>.slice none 0 0) W:=by
 refine⟨by simpa [List.map_const'] using h,fun l hl=>?_⟩
 have:lA (List.replicate F []) l=[]:=by simp[lA,List.getD_eq_getElem?_getD,List.getElem?_replicate,hl]
 rw[this]
 exact World.ownsRow_nil _ _ _ _
theorem made_nils (n:Nat):(madeCells (Value.slice none 0 0).cells (n * 1)).toList=List.replicate n (.slice none 0 0):=by
 rw[Nat.mul_one,show(Value.slice none 0 0).cells=#[.slice none 0 0] from rfl,toList_madeCells_one]
theorem FD.nils (k:Nat):FD k (fun _=>Value.slice none 0 0):=fun i hi j hj hij=>.inl rfl
theorem step_append_int {ops:Array Oper} {o:Oper} {a:Act} {w:World} {K:Act→World→Prop} {Q:Exit→Act→World→Prop} {E:Prop} (hgd:o.guard=none) (s x:Operand)
  (ho:o.op=.call { callee:=.builtin .append,args:=#[s,x],argTypes:=#[36,36] })
  (base:Nat) (v:Value) (xs:List Int) (z:Int) (hs:a.eval s=v) (hown:w.ownsRow base 3 1 v xs.length (intsV xs))
  (m:Nat) (hx:a.eval x=.slice (some ⟨m,0,none⟩) 1 1) (hm:Blk w m (.cells #[.int .i64 z] 3)) (hn:xs.length≤1000000) (hbase:base≤w.heap.size)
  (h:∀v1 w1,w1.ownsRow base 3 1 v1 (xs ++ [z]).length (intsV (xs ++ [z]))→w.grownBy w1 v.ownBlock→(v1.ownBlock=v.ownBlock∨v1.ownBlock=some w.heap.size)→K (a.put o.dst v1) w1) :
  if Region.wanted o (yielded ops a.tmps)=true then Oper.wp Try.prog o a w K Q else E:=by
 have hw:Region.wanted o (yielded ops a.tmps)=true:=by simp[Region.wanted,hgd]
 rw[if_pos hw]
 obtain⟨i0,hi,hz0,hz1,hz2⟩:=info_parts infoI
 obtain⟨v1,w1,hr,h2,h3,_,h5⟩:=run_append_own_at (P:=Try.prog) w base 36 o.type 3 i0 (.int .i64 0) 1 8 Try.underlying36 hi hz0 hz1 hz2 rfl (by omega) v xs.length (intsV xs) hown ⟨m,0,none⟩ 1 1 [.int .i64 z] rfl (fun j u hj=>by
  match j,hj with
  | 0,hj=>cases hj;exact(blk_cells hm).1 0 _ rfl) (by simp[Value.oneCell']) (by simp only[maxLen];omega) (by omega) hbase
 unfold Oper.wp execOp
 simp only[ho,resolve,invoke,builtin,Sem.run_bind,Sem.run_pure,Result.andThen_ok,List.map_toArray,List.map_cons,List.map_nil,hs,hx,hr]
 exact h v1 w1 (by rw[intsV_app,List.length_append];exact h2) h3 h5
end Go.Proofs.Ytealnhaffphamaa
