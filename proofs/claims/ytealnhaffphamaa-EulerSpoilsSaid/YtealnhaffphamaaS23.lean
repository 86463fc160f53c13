/- Contracts of the functions that the statement reaches, and plain lemmas: part 23 of 31. -/
import Derived.Test.YtealnhaffphamaaS22
import Derived.Test.YtealnhaffphamaaS08
import Derived.Test.YtealnhaffphamaaS14
import Derived.Test.YtealnhaffphamaaS19
import Derived.Test.YtealnhaffphamaaS20
import Derived.Test.YtealnhaffphamaaS21
import Derived.Test.YtealnhaffphamaaS09
import Derived.Test.YtealnhaffphamaaS05
import Derived.Test.YtealnhaffphamaaS13
set_option linter.unusedVariables false
set_option linter.unusedSimpArgs false

namespace Go.Proofs.Ytealnhaffphamaa
theorem range_getD {α:Type} (d:α) (xs:List α):(List.range xs.length).map (fun i=>xs.getD i d)=xs:=by
 refine List.ext_getElem (by simp) (fun i h1 h2=>?_)
 simp only[List.getElem_map,List.getElem_range]
 rw[List.getD_eq_getElem?_getD,List.getElem?_eq_getElem h2];rfl
theorem range_flat {α β:Type} (d:α) (g:α→List β) (xs:List α):(List.range xs.length).flatMap (fun i=>g (xs.getD i d))=xs.flatMap g:=by
 conv=>rhs;rw[←range_getD d xs,List.flatMap_map]
def corP (x:PV):Cor:=(x.b,x.v,x.a)
theorem row_cor (fs:Fs) (f l:Nat):((rowA fs f l (lpA fs f l).length).filter (dartB fs)).map corP=corL (lpA fs f l):=by
 have hf:(rowA fs f l (lpA fs f l).length).filter (dartB fs)=if (lpA fs f l).length=1 then[] else rowA fs f l (lpA fs f l).length:=by
  split
  ·rename_i h
   rw[List.filter_eq_nil_iff]
   intro x hx
   obtain⟨i,_,rfl⟩:=mem_row.1 hx
   simp[dartB,pvA,h]
  ·rename_i h
   rw[List.filter_eq_self]
   intro x hx
   obtain⟨i,_,rfl⟩:=mem_row.1 hx
   simp[dartB,pvA,h]
 rw[hf]
 unfold corL
 by_cases h:(lpA fs f l).length=1
 ·rw[if_pos h,if_pos h];rfl
 ·rw[if_neg h,if_neg h]
  refine List.ext_getElem? (fun i=>?_)
  by_cases hi:i<(lpA fs f l).length
  ·rw[segC_get _ _ _ _ hi,rowA,List.map_map,List.getElem?_map,List.getElem?_range hi]
   show some (corP (pvA fs f l i))=_
   unfold corP pvA
   generalize lpA fs f l=r at h hi
   dsimp only
   congr 2
   ·cases i with
    | zero=>
     rw[Nat.zero_add,Nat.mod_eq_of_lt (by omega),List.getLastD_eq_getLast?,List.getLast?_eq_getElem?]
     rfl
    | succ i=>
     rw[show i+1+r.length - 1=i+r.length by omega,Nat.add_mod_right,Nat.mod_eq_of_lt (by omega)]
     rfl
   ·congr 1
    rcases Nat.lt_or_ge (i+1) r.length with q | q
    ·rw[Nat.mod_eq_of_lt q,List.getD_eq_getElem?_getD,List.getD_eq_getElem?_getD,List.getElem?_append_left q]
    ·obtain e:i+1=r.length:=by omega
     rw[e,Nat.mod_self,List.getD_eq_getElem?_getD,List.getD_eq_getElem?_getD,List.getElem?_append_right (Nat.le_refl _),Nat.sub_self]
     cases r with
     | nil=>simp at hi
     | cons y B=>rfl
  ·rw[List.getElem?_eq_none (by rw[List.length_map,rowA,List.length_map,List.length_range];omega),List.getElem?_eq_none (by rw[segC_len];omega)]
theorem row_sol (fs:Fs) (f l:Nat):((rowA fs f l (lpA fs f l).length).filter (fun x=>!dartB fs x)).map (·.v)=solL (lpA fs f l):=by
 unfold solL
 split
 ·rename_i h
  rw[List.filter_eq_self.2 (fun x hx=>by
   obtain⟨i,_,rfl⟩:=mem_row.1 hx
   simp[dartB,pvA,h]),rowA,List.map_map]
  exact range_getD 0 _
 ·rename_i h
  rw[List.filter_eq_nil_iff.2 (fun x hx=>by
   obtain⟨i,_,rfl⟩:=mem_row.1 hx
   simp[dartB,pvA,h])];rfl
theorem flat_flat {α β:Type} (G:α→List β) (fs:List (List α)):fs.flatten.flatMap G=fs.flatMap fun face=>face.flatMap G:=by
 induction fs with
 | nil=>rfl
 | cons f fs ih=>rw[List.flatten_cons,List.flatMap_append,ih,List.flatMap_cons]
theorem pls_flat {β:Type} (fs:Fs) (p:PV→Bool) (g:PV→β) (G:List Int→List β) (h:∀f l,((rowA fs f l (lpA fs f l).length).filter p).map g=G (lpA fs f l)):((plsA fs).filter p).map g=fs.flatten.flatMap G:=by
 unfold plsA upA faceA
 rw[List.filter_flatMap,List.map_flatMap,flat_flat]
 rw[←range_flat ([]:List (List Int)) (fun face=>face.flatMap G) fs]
 refine congrArg (fun k=>(List.range fs.length).flatMap k) (funext fun f=>?_)
 rw[List.filter_flatMap,List.map_flatMap]
 show _=(fcA fs f).flatMap G
 rw[←range_flat ([]:List Int) G (fcA fs f)]
 exact congrArg (fun k=>(List.range (fcA fs f).length).flatMap k) (funext fun l=>h f l)
theorem darts_cor (fs:Fs):(dartsA fs (plsA fs)).map corP=corS fs.flatten:=pls_flat fs _ _ _ (row_cor fs)
theorem solos (fs:Fs):((plsA fs).filter (fun x=>!dartB fs x)).map (·.v)=solS fs.flatten:=pls_flat fs _ _ _ (row_sol fs)
theorem darts_va (fs:Fs):(dartsA fs (plsA fs)).map (fun x=>(x.v,x.a))=vaC (corS fs.flatten):=by rw[←darts_cor];unfold vaC;rw[List.map_map];rfl
theorem darts_bv (fs:Fs):(dartsA fs (plsA fs)).map (fun x=>(x.b,x.v))=bvC (corS fs.flatten):=by rw[←darts_cor];unfold bvC;rw[List.map_map];rfl
theorem corS_bv (L:List (List Int)):(bvC (corS L)).Perm (vaC (corS L)):=by
 induction L with
 | nil=>exact List.Perm.refl _
 | cons l L ih=>rw[corS_cons,vaC_append,bvC_append];exact(corL_bv l).append ih
theorem edOk_iff (fs:Fs):EdOk fs↔(vaC (corS fs.flatten)).Nodup∧(∀c∈corS fs.flatten,c.2.1≠c.2.2)∧∀c∈corS fs.flatten,(c.2.2,c.2.1)∈vaC (corS fs.flatten):=by
 unfold EdOk EdUp
 rw[←darts_va,←darts_cor,and_assoc]
 refine and_congr ?_ (and_congr ?_ ?_)
 ·rw[List.nodup_iff_pairwise_ne,List.pairwise_map]
  constructor
  ·exact fun h=>h.imp (fun hab e=>hab (by injection e with e1 e2;exact⟨e1,e2⟩))
  ·exact fun h=>h.imp (fun hab e=>hab (by rw[e.1,e.2]))
 ·constructor
  ·intro h c hc
   obtain⟨x,hx,rfl⟩:=List.mem_map.1 hc
   exact h x hx
  ·exact fun h x hx=>h (corP x) (List.mem_map.2 ⟨x,hx,rfl⟩)
 ·constructor
  ·intro h c hc
   obtain⟨x,hx,rfl⟩:=List.mem_map.1 hc
   obtain⟨y,hy,e1,e2⟩:=hasE_mem (h x hx)
   exact List.mem_map.2 ⟨y,hy,by rw[e1,e2];rfl⟩
  ·intro h x hx
   obtain⟨y,hy,e⟩:=List.mem_map.1 (h (corP x) (List.mem_map.2 ⟨x,hx,rfl⟩))
   injection e with e1 e2
   unfold hasE
   rw[List.any_eq_true]
   exact⟨y,hy,by rw[Bool.and_eq_true,beq_iff_eq,beq_iff_eq];exact⟨e1,e2⟩⟩
theorem idx_uniq {xs:List PV} {g:PV→Int} (h:(xs.map g).Nodup) {i j:Nat} {x y:PV} (hx:xs[i]?=some x) (hy:xs[j]?=some y) (e:g x=g y):i=j:=by
 refine(List.getElem?_inj (l:=xs.map g) (by rw[List.length_map];exact(List.getElem?_eq_some_iff.1 hx).1) h).1 ?_
 rw[List.getElem?_map,List.getElem?_map,hx,hy]
 exact congrArg some e
theorem conn_star {xs:List PV} (ha:(xs.map (·.a)).Nodup) (hb:(xs.map (·.b)).Nodup) :
  (∀i,i<xs.length→ConnP (LinkP xs) i 0)↔∀E,Eqv E→(∀x∈xs,E x.b x.a)→∀x∈xs,∀y∈xs,E x.a y.a:=by
 constructor
 ·intro h E hE hc x hx y hy
  have key:∀(i:Nat) (z:PV),xs[i]?=some z→∀u:PV,xs[0]?=some u→E z.a u.a:=by
   intro i z hz u hu
   have h1:=h i (List.getElem?_eq_some_iff.1 hz).1 (fun p q=>p=q∨∃z u:PV,xs[p]?=some z∧xs[q]?=some u∧E z.a u.a) (fun a=>.inl rfl) (fun a b q=>by
    rcases q with rfl | ⟨z,u,h1,h2,h3⟩
    ·exact .inl rfl
    ·exact .inr ⟨u,z,h2,h1,hE.symm _ _ h3⟩) (fun a b c q r=>by
    rcases q with rfl | ⟨z,u,h1,h2,h3⟩
    ·exact r
    ·rcases r with rfl | ⟨z',u',h4,h5,h6⟩
     ·exact .inr ⟨z,u,h1,h2,h3⟩
     ·rw[h2] at h4;cases h4
      exact .inr ⟨z,u',h1,h5,hE.trans _ _ _ h3 h6⟩) (fun a b q=>by
    obtain⟨z,u,h1,h2,h3⟩:=q
    exact .inr ⟨z,u,h1,h2,by rw[h3];exact hc u (List.mem_of_getElem? h2)⟩)
   rcases h1 with rfl | ⟨z',u',h1,h2,h3⟩
   ·rw[hz] at hu;cases hu;exact hE.refl _
   ·rw[hz] at h1;cases h1
    rw[hu] at h2;cases h2
    exact h3
  obtain⟨i,hi,rfl⟩:=List.getElem_of_mem hx
  obtain⟨j,hj,rfl⟩:=List.getElem_of_mem hy
  have h0:0<xs.length:=by omega
  exact hE.trans _ _ _ (key i _ (List.getElem?_eq_getElem hi) _ (List.getElem?_eq_getElem h0)) (hE.symm _ _ (key j _ (List.getElem?_eq_getElem hj) _ (List.getElem?_eq_getElem h0)))
 ·intro h i hi E' hr hs ht hl
  have touch:∀i j x y q,xs[i]?=some x→xs[j]?=some y→(x.a=q∨x.b=q)→(y.a=q∨y.b=q)→E' i j:=by
   intro i j x y q hx hy h1 h2
   rcases h1 with h1 | h1 <;> rcases h2 with h2 | h2
   ·rw[idx_uniq ha hx hy (h1.trans h2.symm)];exact hr _
   ·exact hl _ _ ⟨x,y,hx,hy,h1.trans h2.symm⟩
   ·exact hs _ _ (hl _ _ ⟨y,x,hy,hx,h2.trans h1.symm⟩)
   ·rw[idx_uniq hb hx hy (h1.trans h2.symm)];exact hr _
  have h0:0<xs.length:=by omega
  have h1:=h (fun p q=>p=q∨∃(i j:Nat) (x y:PV),xs[i]?=some x∧xs[j]?=some y∧(x.a=p∨x.b=p)∧(y.a=q∨y.b=q)∧E' i j) ⟨fun a=>.inl rfl,fun a b q=>by
   rcases q with rfl | ⟨i,j,x,y,q1,q2,q3,q4,q5⟩
   ·exact .inl rfl
   ·exact .inr ⟨j,i,y,x,q2,q1,q4,q3,hs _ _ q5⟩,fun a b c q r=>by
   rcases q with rfl | ⟨i,j,x,y,q1,q2,q3,q4,q5⟩
   ·exact r
   ·rcases r with rfl | ⟨i',j',x',y',r1,r2,r3,r4,r5⟩
    ·exact .inr ⟨i,j,x,y,q1,q2,q3,q4,q5⟩
    ·exact .inr ⟨i,j',x,y',q1,r2,q3,r4,ht _ _ _ q5 (ht _ _ _ (touch j i' y x' b q2 r1 q4 r3) r5)⟩⟩ (fun x hx=>by
   obtain⟨k,hk,rfl⟩:=List.getElem_of_mem hx
   exact .inr ⟨k,k,_,_,List.getElem?_eq_getElem hk,List.getElem?_eq_getElem hk,.inr rfl,.inl rfl,hr _⟩) _ (List.getElem_mem hi) _ (List.getElem_mem h0)
  rcases h1 with e | ⟨i',j',x,y,q1,q2,q3,q4,q5⟩
  ·rw[idx_uniq ha (List.getElem?_eq_getElem hi) (List.getElem?_eq_getElem h0) e];exact hr _
  ·exact ht _ _ _ (touch i i' _ x _ (List.getElem?_eq_getElem hi) q1 (.inl rfl) q3) (ht _ _ _ q5 (touch j' 0 y _ _ q2 (List.getElem?_eq_getElem h0) q4 (.inl rfl)))
theorem sol_mem {fs:Fs} {v:Nat}:(v:Int)∈solS fs.flatten↔lonV fs (plsA fs) v=true:=by
 rw[←solos,lon_mem]
 constructor
 ·intro h
  obtain⟨x,hx,e⟩:=List.mem_map.1 h
  obtain⟨h1,h2⟩:=List.mem_filter.1 hx
  exact⟨x,List.mem_filter.2 ⟨h1,by simpa using e⟩,by simpa [dartB] using h2⟩
 ·rintro⟨x,hx,h⟩
  obtain⟨h1,h2⟩:=List.mem_filter.1 hx
  exact List.mem_map.2 ⟨x,List.mem_filter.2 ⟨h1,by simp[dartB,h]⟩,by simpa using h2⟩
theorem rows_count (fs:Fs) (v:Nat):(rowsA (plsA fs) v).length=(solS fs.flatten).count (v:Int)+((corS fs.flatten).map (fun c=>c.2.1)).count (v:Int):=by
 rw[←solos,←darts_cor,List.map_map]
 unfold rowsA dartsA
 rw[←List.countP_eq_length_filter,List.count_eq_countP,List.count_eq_countP,List.countP_map,List.countP_map,List.countP_filter,List.countP_filter,Nat.add_comm]
 generalize plsA fs=l
 induction l with
 | nil=>rfl
 | cons x l ih=>
  rw[List.countP_cons,List.countP_cons,List.countP_cons,ih]
  simp only[Function.comp,corP]
  have hd:dartB fs x=true∨dartB fs x=false:=by cases dartB fs x <;> simp
  rcases hd with hd | hd <;> by_cases e:x.v=(v:Int) <;> simp[hd,e] <;> omega
theorem at_rows {fs:Fs} {v:Nat} (h:lonV fs (plsA fs) v=false):rowsA (plsA fs) v=(dartsA fs (plsA fs)).filter (fun x=>x.v == (v:Int)):=by
 unfold rowsA dartsA
 rw[List.filter_filter]
 refine List.filter_congr (fun x hx=>?_)
 by_cases e:x.v=(v:Int)
 ·have:dartB fs x=true:=by
   rw[Bool.eq_false_iff] at h
   have h1:(lpA fs x.f x.l).length≠1:=fun q=>h (lon_mem.2 ⟨x,List.mem_filter.2 ⟨hx,by simpa using e⟩,q⟩)
   simp[dartB,h1]
  rw[this,Bool.and_true]
 ·simp[e]
theorem rows_nodup {fs:Fs} {v:Nat} (h:lonV fs (plsA fs) v=false) (hn:(vaC (corS fs.flatten)).Nodup):((rowsA (plsA fs) v).map (·.a)).Nodup∧((rowsA (plsA fs) v).map (·.b)).Nodup:=by
 have hm:=(corS_bv fs.flatten).nodup_iff.2 hn
 rw[←darts_va] at hn
 rw[←darts_bv] at hm
 rw[at_rows h]
 rw[List.nodup_iff_pairwise_ne,List.pairwise_map] at hn hm
 have hv:∀x∈(dartsA fs (plsA fs)).filter (fun x=>x.v == (v:Int)),x.v=v:=fun x hx=>by simpa using(List.mem_filter.1 hx).2
 constructor
 ·rw[List.nodup_iff_pairwise_ne,List.pairwise_map]
  refine(hn.sublist List.filter_sublist).imp_of_mem (fun {x y} hx hy hab e=>hab ?_)
  rw[hv x hx,hv y hy,e]
 ·rw[List.nodup_iff_pairwise_ne,List.pairwise_map]
  refine(hm.sublist List.filter_sublist).imp_of_mem (fun {x y} hx hy hab e=>hab ?_)
  rw[hv x hx,hv y hy,e]
theorem star_rows {fs:Fs} {v:Nat} (h:lonV fs (plsA fs) v=false):StarAt (corS fs.flatten) v↔∀E,Eqv E→(∀x∈rowsA (plsA fs) v,E x.b x.a)→∀x∈rowsA (plsA fs) v,∀y∈rowsA (plsA fs) v,E x.a y.a:=by
 have hm:∀c:Cor,(c∈corS fs.flatten∧c.2.1=(v:Int))↔∃x∈rowsA (plsA fs) v,corP x=c:=by
  intro c
  rw[at_rows h,←darts_cor]
  constructor
  ·rintro⟨h1,h2⟩
   obtain⟨x,hx,rfl⟩:=List.mem_map.1 h1
   exact⟨x,List.mem_filter.2 ⟨hx,by simpa [corP] using h2⟩,rfl⟩
  ·rintro⟨x,hx,rfl⟩
   obtain⟨h1,h2⟩:=List.mem_filter.1 hx
   exact⟨List.mem_map.2 ⟨x,h1,rfl⟩,by simpa [corP] using h2⟩
 constructor
 ·intro hs E hE hc x hx y hy
  have h1:=(hm _).2 ⟨x,hx,rfl⟩
  have h2:=(hm _).2 ⟨y,hy,rfl⟩
  exact hs E hE (fun c hcm e=>by
   obtain⟨z,hz,rfl⟩:=(hm c).1 ⟨hcm,e⟩
   exact hc z hz) _ h1.1 _ h2.1 h1.2 h2.2
 ·intro hs E hE hc c hcm d hdm e1 e2
  obtain⟨x,hx,rfl⟩:=(hm c).1 ⟨hcm,e1⟩
  obtain⟨y,hy,rfl⟩:=(hm d).1 ⟨hdm,e2⟩
  exact hs E hE (fun z hz=>by
   have h1:=(hm _).2 ⟨z,hz,rfl⟩
   exact hc _ h1.1 h1.2) x hx y hy
theorem rt_surf {N:Int} {fs:Fs} (hz:SizR N fs):RtP N fs↔SurfL fs.flatten:=by
 have hin:∀x∈plsA fs,∃v:Nat,(v:Int)<N∧x.v=v:=fun x hx=>by
  have h1:=hz.2.2.2.2.2.2.1 x hx
  exact⟨x.v.toNat,by omega,by omega⟩
 have hinC:∀c∈corS fs.flatten,∃v:Nat,(v:Int)<N∧c.2.1=v:=fun c hc=>by
  rw[←darts_cor] at hc
  obtain⟨x,hx,rfl⟩:=List.mem_map.1 hc
  exact hin x (List.mem_filter.1 hx).1
 have hinS:∀p∈solS fs.flatten,∃v:Nat,(v:Int)<N∧p=v:=fun p hp=>by
  rw[←solos] at hp
  obtain⟨x,hx,rfl⟩:=List.mem_map.1 hp
  exact hin x (List.mem_filter.1 hx).1
 constructor
 ·rintro⟨_,h2,h3⟩
  obtain⟨e1,e2,e3⟩:=(edOk_iff fs).1 h2
  have hone:∀p∈solS fs.flatten,(solS fs.flatten).count p+((corS fs.flatten).map (fun c=>c.2.1)).count p≤1:=fun p hp=>by
   obtain⟨v,hv,rfl⟩:=hinS p hp
   rw[←rows_count]
   exact(h3 v hv).1 (sol_mem.1 hp)
  have hsa:∀c∈corS fs.flatten,c.2.1 ∉ solS fs.flatten:=fun c hc q=>by
   have h4:=hone _ q
   have h5:=List.count_pos_iff.2 q
   have h6:=List.count_pos_iff.2 (List.mem_map.2 ⟨c,hc,rfl⟩:c.2.1∈(corS fs.flatten).map (fun c=>c.2.1))
   omega
  refine⟨corS_bv _,e1,e3,e2,fun v=>?_,?_,hsa⟩
  ·intro E hE hc c hcm d hdm q1 q2
   obtain⟨n,hn,en⟩:=hinC c hcm
   have ev:v=n:=q1.symm.trans en
   subst ev
   cases hl:lonV fs (plsA fs) n with
   | true=>exact absurd (sol_mem.2 hl) (en ▸ hsa c hcm)
   | false=>
    obtain⟨n1,n2⟩:=rows_nodup hl e1
    exact(star_rows hl).2 ((conn_star n1 n2).1 ((h3 n hn).2 hl)) E hE hc c hcm d hdm q1 q2
  ·rw[List.nodup_iff_count]
   intro p
   by_cases hp:p∈solS fs.flatten
   ·have:=hone p hp;omega
   ·rw[List.count_eq_zero_of_not_mem hp];omega
 ·intro h
  refine⟨hz,(edOk_iff fs).2 ⟨h.nd,h.ne,h.opp⟩,fun v hv=>⟨fun hl=>?_,fun hl=>?_⟩⟩
  ·have h1:=sol_mem.2 hl
   have h2:=List.nodup_iff_count.1 h.sd (v:Int)
   have h3:((corS fs.flatten).map (fun c=>c.2.1)).count (v:Int)=0:=List.count_eq_zero_of_not_mem (fun q=>by
    obtain⟨c,hc,e⟩:=List.mem_map.1 q
    exact h.sa c hc (e ▸ h1))
   rw[rows_count,h3]
   omega
  ·obtain⟨n1,n2⟩:=rows_nodup hl h.nd
   exact(conn_star n1 n2).2 ((star_rows hl).1 (h.star v))
end Go.Proofs.Ytealnhaffphamaa

namespace Go.Proofs.Ytealnhaffphamaa
open Go.RowKit Go.Shelf Go.Proofs.YtealnhaffphamaaW.PrintWords
open Classical
theorem right_surf {N:Int} {fs:Fs} (h:RightP N fs):SizR N fs∧SurfL fs.flatten:=by
 have h1:=(right_iff N fs).2 h
 exact⟨h1.1,(rt_surf h1.1).1 h1⟩
theorem surf_right {N:Int} {fs:Fs} (hz:SizR N fs) (h:SurfL fs.flatten):RightP N fs:=(right_iff N fs).1 ((rt_surf hz).2 h)
theorem done_right {M N':Int} {gs fs':Fs} (h:doneE M gs=.ok (N',fs')) (hs:SurfL gs.flatten):RightP N' fs':=by
 unfold doneE at h
 split at h
 ·rename_i hz
  cases h
  exact surf_right hz hs
 ·cases h
theorem siz_nodes {N:Int} {fs:Fs} (h:SizR N fs):∀m∈fs.flatten,∀x∈m,0≤x∧x<N:=by
 intro m hm x hx
 have h1:x∈(plsA fs).map (·.v):=by rw[pls_v];exact List.mem_flatten.2 ⟨m,hm,hx⟩
 obtain⟨y,hy,rfl⟩:=List.mem_map.1 h1
 exact h.2.2.2.2.2.2.1 y hy
end Go.Proofs.Ytealnhaffphamaa

namespace Go.Proofs.Ytealnhaffphamaa
open Go.RowKit Go.Shelf Go.Proofs.YtealnhaffphamaaW.PrintWords
open Classical
theorem has_nat {fs:Fs} {f l i:Int} (h:HasP fs f l i):f.toNat<fs.length∧l.toNat<(fcA fs f.toNat).length∧i.toNat<(lpA fs f.toNat l.toNat).length:=by
 obtain⟨h1,h2,h3,h4,h5,h6⟩:=h
 omega
theorem st_ran {N N':Int} {fs fs':Fs} {f l i:Int} (h:RightP N fs) (he:ranE N fs f l i=.ok (N',fs')):RightP N' fs':=by
 obtain⟨hz,hs⟩:=right_surf h
 unfold ranE at he
 split at he
 ·cases he
 ·rename_i hp
  obtain⟨h1,h2,h3⟩:=has_nat (Classical.not_not.1 hp)
  exact done_right he (so_addNode hs h1 h2 h3 (fun m hm hN=>by have:=siz_nodes hz m hm N hN;omega))
theorem st_rdf {N N':Int} {fs fs':Fs} {f g:Int} (h:RightP N fs) (he:rdfE N fs f g=.ok (N',fs')):RightP N' fs':=by
 obtain⟨hz,hs⟩:=right_surf h
 unfold rdfE at he
 split at he
 ·cases he
 ·rename_i hp
  split at he
  ·cases he
  ·rename_i hq
   have h1:=(hz.2.2.2.2.2.1 g.toNat (by omega)).1
   exact done_right he (so_dropFace hs (by omega) (by omega) (by omega) (by omega))
theorem st_raf {N N':Int} {fs fs':Fs} {f l:Int} (h:RightP N fs) (he:rafE N fs f l=.ok (N',fs')):RightP N' fs':=by
 obtain⟨hz,hs⟩:=right_surf h
 unfold rafE at he
 split at he
 ·cases he
 ·rename_i hp
  split at he
  ·cases he
  ·exact done_right he (so_addFace hs (by omega) (by omega))
theorem has_va {fs:Fs} {v w:Int}:hasE (dartsA fs (plsA fs)) v w=true↔(v,w)∈vaC (corS fs.flatten):=by
 rw[hasE_iff,←darts_va,List.mem_map]
 constructor
 ·rintro⟨x,hx,rfl,rfl⟩
  exact⟨x,hx,rfl⟩
 ·rintro⟨x,hx,e⟩
  injection e with e1 e2
  exact⟨x,hx,e1,e2⟩
theorem st_rae {N N':Int} {fs fs':Fs} {f1 l1 i1 f2 l2 i2:Int} (h:RightP N fs) (he:raeE N fs f1 l1 i1 f2 l2 i2=.ok (N',fs')):RightP N' fs':=by
 obtain⟨hz,hs⟩:=right_surf h
 unfold raeE at he
 split at he
 ·cases he
 ·rename_i hp
  split at he
  ·cases he
  ·rename_i hq
   have hp:=Classical.not_not.1 hp
   obtain⟨a1,a2,a3⟩:=has_nat hp.1
   obtain⟨b1,b2,b3⟩:=has_nat hp.2
   have hf:f1=f2:=Classical.byContradiction fun e=>hq (.inl e)
   subst hf
   have hne:=fun e=>hq (.inr (.inl e))
   have hno:=fun e=>hq (.inr (.inr (has_va.2 e)))
   refine done_right he ?_
   unfold aeL
   split
   ·rename_i hl
    rw[←hl] at hne hno b3
    exact so_edge1 hs a1 a2 a3 b3 hne hno
   ·rename_i hl
    exact so_edge2 hs a1 a2 b2 hl a3 b3 hne hno
theorem ed_is {fs:Fs} {v u:Int} {x:PV} (h:edA fs v u=some x):x∈dartsA fs (plsA fs)∧x.v=v∧x.a=u∧(x.f<fs.length∧x.l<(fcA fs x.f).length∧x.i<(lpA fs x.f x.l).length)∧(lpA fs x.f x.l).getD x.i 0=v∧(lpA fs x.f x.l).getD ((x.i+1) % (lpA fs x.f x.l).length) 0=u:=by
 have h1:=List.mem_of_find?_eq_some h
 have h2:=List.find?_some h
 simp only[Bool.and_eq_true,beq_iff_eq] at h2
 obtain⟨h3,h4⟩:=isP_of (dart_in h1).1
 refine⟨h1,h2.1,h2.2,h3,?_,?_⟩
 ·rw[←h2.1];conv=>rhs;rw[h4]
  rfl
 ·rw[←h2.2];conv=>rhs;rw[h4]
  rfl
theorem st_rde {N N':Int} {fs fs':Fs} {v u:Int} (h:RightP N fs) (he:rdeE N fs v u=.ok (N',fs')):RightP N' fs':=by
 obtain⟨hz,hs⟩:=right_surf h
 unfold rdeE at he
 split at he
 ·cases he
 ·split at he
  ·rename_i x y hx hy
   split at he
   ·cases he
   ·rename_i hq
    obtain⟨x1,x2,x3,⟨x4,x5,x6⟩,x7,x8⟩:=ed_is hx
    obtain⟨y1,y2,y3,⟨y4,y5,y6⟩,y7,y8⟩:=ed_is hy
    have hvu:v≠u:=fun e=>by
     have:=((edOk_iff fs).1 h.2.2.1).2.1 (corP x) (by rw[←darts_cor];exact List.mem_map_of_mem x1)
     exact this (by show x.v=x.a;rw[x2,x3,e])
    refine done_right he ?_
    unfold deL
    split
    ·rename_i hsame
     rw[←hsame.1,←hsame.2] at y6 y7 y8
     exact so_drop1 hs x4 x5 x6 y6 x7 x8 y7 y8 hvu
    ·rename_i hns
     have hf:x.f≠y.f:=fun e=>hq ⟨hns,.inl e⟩
     have h1:(fcA fs y.f).length=1:=by
      have:=fun e=>hq ⟨hns,.inr e⟩
      omega
     have h0:y.l=0:=by omega
     rw[h0] at y6 y7 y8 ⊢
     exact so_drop2 hs x4 y4 hf x5 h1 x6 y6 x7 x8 y7 y8 hvu
  ·cases he
theorem st_rdn {N N':Int} {fs fs':Fs} {v:Int} (h:RightP N fs) (he:rdnE N fs v=.ok (N',fs')):RightP N' fs':=by
 obtain⟨hz,hs⟩:=right_surf h
 unfold rdnE at he
 split at he
 ·cases he
 ·split at he
  ·rename_i x hx
   have hx1:x∈lvA fs v:=by rw[hx];exact List.mem_singleton.2 rfl
   unfold lvA at hx1
   rw[List.mem_filter,beq_iff_eq] at hx1
   obtain⟨⟨a1,a2,a3⟩,a4⟩:=isP_of (dart_in hx1.1).1
   simp only[pl3] at a1 a2 a3
   refine done_right he (so_dropNode hs a1 a2 a3 ?_ (dart_in hx1.1).2 ?_).2
   ·rw[←hx1.2];conv=>rhs;rw[a4]
    rfl
   ·intro c hc d hd ec ed
    rw[←darts_cor] at hc hd
    obtain⟨y,hy,rfl⟩:=List.mem_map.1 hc
    obtain⟨z,hz,rfl⟩:=List.mem_map.1 hd
    have hy2:y∈lvA fs v:=by unfold lvA;rw[List.mem_filter,beq_iff_eq];exact⟨hy,ec⟩
    have hz2:z∈lvA fs v:=by unfold lvA;rw[List.mem_filter,beq_iff_eq];exact⟨hz,ed⟩
    rw[hx,List.mem_singleton] at hy2 hz2
    rw[hy2,hz2]
  ·cases he
theorem st_rbo {N M N':Int} {fs gs fs':Fs} (h:RightP N fs) (k:RightP M gs) (he:rboE N fs M gs=.ok (N',fs')):RightP N' fs':=by
 obtain⟨hz,hs⟩:=right_surf h
 obtain⟨kz,ks⟩:=right_surf k
 exact done_right he (so_both hs ks (fun m hm x hx=>(siz_nodes hz m hm x hx).2) (fun m hm x hx=>(siz_nodes kz m hm x hx).1))
theorem nlA_len {fs gs:Fs} (h:∀f,(fcA gs f).length=(fcA fs f).length) (k:Nat):nlA gs k=nlA fs k:=by
 induction k with
 | zero=>rfl
 | succ n ih=>show nlA gs n+_=nlA fs n+_;rw[ih,h]
theorem st_rtu {N:Int} {fs:Fs} (h:RightP N fs):RightP N (turL fs):=by
 obtain⟨hz,hs⟩:=right_surf h
 refine surf_right ?_ (so_turned hs)
 obtain⟨h1,h2,h3,_⟩:=turL_lens fs
 have hf:(turL fs).flatten=fs.flatten.map List.reverse:=by unfold turL;rw[List.map_flatten]
 have hv:∀z,z∈(turL fs).flatten.flatten↔z∈fs.flatten.flatten:=fun z=>by
  rw[hf,List.mem_flatten,List.mem_flatten]
  exact⟨fun⟨l,hl,hz⟩=>by obtain⟨m,hm,rfl⟩:=List.mem_map.1 hl;exact⟨m,hm,List.mem_reverse.1 hz⟩,fun⟨m,hm,hz⟩=>⟨m.reverse,List.mem_map_of_mem hm,List.mem_reverse.2 hz⟩⟩
 have hp:∀z,(∃x∈plsA (turL fs),x.v=z)↔∃x∈plsA fs,x.v=z:=fun z=>by
  have e:∀gs:Fs,(∃x∈plsA gs,x.v=z)↔z∈gs.flatten.flatten:=fun gs=>by rw[←pls_v,List.mem_map]
  rw[e,e,hv]
 obtain⟨z1,z2,z3,z4,z5,z6,z7,z8⟩:=hz
 refine⟨z1,z2,by omega,by rw[h1,nlA_len h2];exact z4,?_,fun f hf=>⟨by rw[h2];exact(z6 f (by omega)).1,fun l hl=>by rw[h3];exact(z6 f (by omega)).2 l (by rw[h2] at hl;exact hl)⟩,fun x hx=>?_,fun v hv=>?_⟩
 ·rw[pls_len] at z5 ⊢
  have e:(turL fs).flatten.flatten.length=fs.flatten.flatten.length:=by
   rw[hf,List.length_flatten,List.length_flatten,List.map_map]
   congr 2
   funext l
   exact List.length_reverse
  omega
 ·obtain⟨y,hy,e⟩:=(hp x.v).1 ⟨x,hx,rfl⟩
  rw[←e]
  exact z7 y hy
 ·have:=z8 v hv
  rw[List.any_eq_true] at this ⊢
  obtain⟨x,hx,e⟩:=this
  obtain⟨y,hy,e2⟩:=(hp x.v).2 ⟨x,hx,rfl⟩
  exact⟨y,hy,by rw[e2];exact e⟩
end Go.Proofs.Ytealnhaffphamaa

namespace Go.Proofs.Ytealnhaffphamaa
open Go.RowKit Go.Proofs.YtealnhaffphamaaW.PrintWords
theorem max2_i (k k':IntKind) (x y:Int):Builtin.max2 (.int k x) (.int k' y)=pure (.int k (if x<y then y else x)):=by simp only[Builtin.max2,gt_iff_lt]
theorem max_2 (ats:Array TypeId) (ty:TypeId) (a b:Value):Builtin.max_ ats ty #[a,b]=(Builtin.max2 a b >>= fun s=>pure s):=by simp only[Builtin.max_,List.foldlM_cons,List.foldlM_nil]
attribute [local go_sem] max2_i max_2
def arA (a:Int) (n:Nat):Nat:=((a % 18446744073709551616) % (n:Int)).toNat
theorem arA_lt (a:Int) {n:Nat} (h:1≤n):arA a n<n:=by
 unfold arA
 have h1:=Int.emod_lt_of_pos (a % 18446744073709551616) (show 0<(n:Int) by omega)
 have h2:=Int.emod_nonneg (a % 18446744073709551616) (show(n:Int)≠0 by omega)
 omega
theorem around_any (a:Int) (n:Nat) (h1:1≤n) (h2:n≤1000000) (w:World):Calls Try.prog 14 #[.int .i64 a,.int .i64 n] w fun e w'=>e=.returned (.int .i64 (arA a n))∧Below w.heap.size w w':=by
 obtain⟨q,hq⟩:∃q:Nat,q=arA a n:=⟨_,rfl⟩
 have hqn:q<n:=by rw[hq];exact arA_lt a h1
 obtain⟨u,hu⟩:∃u:Int,IntKind.u64.wrap a=u:=⟨_,rfl⟩
 have hm:u.tmod (n:Int)=(q:Int):=by
  have e3:u=a % 18446744073709551616:=by rw[←hu,IntKind.wrap_u64]
  have h3:=Int.emod_nonneg a (show(18446744073709551616:Int)≠0 by omega)
  rw[e3,Int.tmod_eq_emod_of_nonneg h3,hq]
  have h5:=Int.emod_nonneg (a % 18446744073709551616) (show(n:Int)≠0 by omega)
  unfold arA;omega
 have e2:IntKind.u64.wrap (n:Int)=(n:Int):=by rw[IntKind.wrap_u64];omega
 have e4:IntKind.i64.wrap (q:Int)=(q:Int):=by rw[IntKind.wrap_i64];omega
 have e5:IntKind.u64.wrap (q:Int)=(q:Int):=by rw[IntKind.wrap_u64];omega
 have z1:¬ (n:Int)<1:=by omega
 have z2:¬ (n:Int)=0:=by omega
 have z3:¬ n=0:=by omega
 have z4:((n:Int) == 0)=false:=by simp;omega
 have HQ:=Lib.hid hq
 clear hq
 go_enter Try.func14,Try.ntmps14
 go_wp2
 go_ret
 exact⟨by rw[←HQ.out];rfl,by first | exact Below.refl _ _ | exact(Below.refl _ _).drew⟩
set_option maxRecDepth 100000 in
set_option maxHeartbeats 1000000 in
theorem somewhere_any (N a b d:Int) (A:Option Addr) (c:Nat) (fs:Fs) (w:World) (hF:RF w A fs) (hSm:Sm fs) (h0:0<fs.length) (hne:∀f,f<fs.length→0<(fcA fs f).length∧∀l,l<(fcA fs f).length→0<(lpA fs f l).length) :
  Calls Try.prog 13 #[.agg #[.int .i64 N,.slice A fs.length c],.int .i64 a,.int .i64 b,.int .i64 d] w fun e w'=>(∃f l i:Nat,e=.returned (.agg #[.int .i64 f,.int .i64 l,.int .i64 i])∧f=arA a fs.length∧l=arA b (fcA fs f).length∧i=arA d (lpA fs f l).length)∧Below w.heap.size w w':=by
 obtain⟨W1,hW1⟩:∃W1,W1=(w.alloc (.cells #[.int .i64 N,.slice A fs.length c] 26)).alloc (.cells #[.int .i64 0,.int .i64 0,.int .i64 0] 34):=⟨_,rfl⟩
 have HB:Hid (Below w.heap.size w W1):=by rw[hW1];exact((Below.refl _ _).alloc (Nat.le_refl _) _).alloc (by simp) _
 have HX:Hid (Blk W1 w.heap.size (.cells #[.int .i64 N,.slice A fs.length c] 26)∧Blk W1 (w.heap.size+1) (.cells #[.int .i64 0,.int .i64 0,.int .i64 0] 34)):=by
  rw[hW1]
  refine⟨(blk_new w _).alloc,?_⟩
  have h:=blk_new (w.alloc (.cells #[.int .i64 N,.slice A fs.length c] 26)) (.cells #[.int .i64 0,.int .i64 0,.int .i64 0] 34)
  rwa [World.size_alloc] at h
 obtain⟨f,hf⟩:∃f,f=arA a fs.length:=⟨_,rfl⟩
 obtain⟨l,hl⟩:∃l,l=arA b (fcA fs f).length:=⟨_,rfl⟩
 obtain⟨i,hi⟩:∃i,i=arA d (lpA fs f l).length:=⟨_,rfl⟩
 have hfl:f<fs.length:=by rw[hf];exact arA_lt _ h0
 have hll:l<(fcA fs f).length:=by rw[hl];exact arA_lt _ (hne f hfl).1
 have HP:Hid (∃f l i:Nat,Ending.returned (.agg #[.int .i64 f,.int .i64 l,.int .i64 i])=.returned (.agg #[.int .i64 f,.int .i64 l,.int .i64 i])∧f=arA a fs.length∧l=arA b (fcA fs f).length∧i=arA d (lpA fs f l).length):=⟨f,l,i,rfl,hf,hl,hi⟩
 have HCA:Hid (∀W,Calls Try.prog 14 #[.int .i64 a,.int .i64 fs.length] W fun e w'=>e=.returned (.int .i64 f)∧Below W.heap.size W w'):=fun W=>by rw[hf];exact around_any a _ h0 hSm.1 W
 have HCB:Hid (∀W,Calls Try.prog 14 #[.int .i64 b,.int .i64 (fcA fs f).length] W fun e w'=>e=.returned (.int .i64 l)∧Below W.heap.size W w'):=fun W=>by rw[hl];exact around_any b _ (hne f hfl).1 (hSm.2.1 f) W
 have HCC:Hid (∀W,Calls Try.prog 14 #[.int .i64 d,.int .i64 (lpA fs f l).length] W fun e w'=>e=.returned (.int .i64 i)∧Below W.heap.size W w'):=fun W=>by rw[hi];exact around_any d _ ((hne f hfl).2 l hll) (hSm.2.2 f l) W
 obtain⟨ad0,A0,c0,rfl,hc0,hl0,hr0⟩:=hF.at hfl
 obtain⟨ad1,A1,c1,rfl,hc1,hl1,hr1⟩:=hr0.atP hll
 have hn:=hF.len
 have hn0:=hr0.len
 have hn1:=hr1.len
 have HC0:=Lib.hid hc0
 have HC1:=Lib.hid hc1
 have hfz:(f:Int)<(fs.length:Int):=by omega
 have hlz:(l:Int)<((fcA fs f).length:Int):=by omega
 have HE:=Lib.hid (And.intro hf (And.intro hl hi))
 clear hF hSm h0 hne hf hl hi hr0 hr1 hc0 hc1 HP
 go_enter Try.func13,Try.ntmps13
 go_upto_region 1 with fail
 rw[←hW1]
 clear hW1
 have m1:=(blk_cells HX.out.1).1 1 _ rfl
 go_wp2_with fail
 ((with_reducible refine(HCA.out _).mono ?_);rintro e W2 ⟨rfl,hb⟩)
 have HB2:=Lib.hid (HB.out.trans (hb.mono HB.out.size))
 have HX2:Hid (Blk W2 w.heap.size (.cells #[.int .i64 N,.slice (some ad0) fs.length c] 26)∧Blk W2 (w.heap.size+1) (.cells #[.int .i64 0,.int .i64 0,.int .i64 0] 34)):=⟨HX.out.1.below hb HX.out.1.lt,HX.out.2.below hb HX.out.2.lt⟩
 clear m1 hb HB HX
 have m1:=(blk_cells HX2.out.1).1 1 _ rfl
 have k0:=pw_cell_below HB2.out HC0.out
 go_upto_region 2 with fail
 go_wp2_with fail
 ((with_reducible refine(HCB.out _).mono ?_);rintro e W3 ⟨rfl,hb⟩)
 have HB3:=Lib.hid (HB2.out.trans (hb.mono HB2.out.size))
 have HX3:Hid (Blk W3 w.heap.size (.cells #[.int .i64 N,.slice (some ad0) fs.length c] 26)∧Blk W3 (w.heap.size+1) (.cells #[.int .i64 0,.int .i64 0,.int .i64 0] 34)):=⟨HX2.out.1.below hb HX2.out.1.lt,HX2.out.2.below hb HX2.out.2.lt⟩
 clear m1 k0 hb HB2 HX2
 have m1:=(blk_cells HX3.out.1).1 1 _ rfl
 have k0:=pw_cell_below HB3.out HC0.out
 have k1:=pw_cell_below HB3.out HC1.out
 go_upto_region 3 with fail
 go_wp2_with fail
 ((with_reducible refine(HCC.out _).mono ?_);rintro e W4 ⟨rfl,hb⟩)
 have HB4:=Lib.hid (HB3.out.trans (hb.mono HB3.out.size))
 have hX4:=HX3.out.2.below hb HX3.out.2.lt
 have m0:=(blk_cells hX4).1 0 _ rfl
 have m1':=(blk_cells hX4).1 1 _ rfl
 have m2:=(blk_cells hX4).1 2 _ rfl
 have n0:=(blk_cells hX4).2 0
 have n1:=(blk_cells hX4).2 1
 have n2:=(blk_cells hX4).2 2
 have HX4:=Lib.hid (blk_set3 (u:=.int .i64 f) (v:=.int .i64 l) (q:=.int .i64 i) hX4).1
 have HBF:=Lib.hid (((HB4.out.setCell (p:=⟨w.heap.size+1,0,none⟩) (by simp) (.int .i64 f)).setCell (p:=⟨w.heap.size+1,1,none⟩) (by simp) (.int .i64 l)).setCell (p:=⟨w.heap.size+1,2,none⟩) (by simp) (.int .i64 i))
 clear m1 k0 k1 hb HB3 HX3 hX4
 go_wp2
 have e00:=(blk_cells HX4.out).1 0 _ rfl
 have e01:=(blk_cells HX4.out).1 1 _ rfl
 have e02:=(blk_cells HX4.out).1 2 _ rfl
 refine bodyPost_ret (v:=.agg #[.int .i64 f,.int .i64 l,.int .i64 i]) (by simp[results,Try.f13,go_sem,e00,e01,e02]) rfl ?_
 exact⟨⟨f,l,i,rfl,HE.out.1,HE.out.2.1,HE.out.2.2⟩,HBF.out⟩
end Go.Proofs.Ytealnhaffphamaa

namespace Go.Proofs.Ytealnhaffphamaa
open Go.RowKit Go.Shelf Go.Proofs.YtealnhaffphamaaW.PrintWords
def edN (fs:Fs):Nat:=(dartsA fs (plsA fs)).length / 2
noncomputable def hdN (N:Int) (fs:Fs):Int:=((shA fs).length:Int) - (N - (edN fs:Int)+(fs.length:Int) - ((fs.flatten.length:Int) - (fs.length:Int))).tdiv 2
noncomputable def ctV (N:Int) (fs:Fs):Value:=.agg #[.int .i64 N,.int .i64 (edN fs),.int .i64 fs.length,.int .i64 ((fs.flatten.length:Int) - (fs.length:Int)),.int .i64 (shA fs).length,.int .i64 (hdN N fs)]
theorem shUp_len (fs:Fs) (f:Nat):(shUp fs f).length≤f:=by
 induction f with
 | zero=>simp[shUp]
 | succ f ih=>
  simp only[shUp]
  split
  ·omega
  ·simp;omega
theorem wrap64_small {x:Int} (h:-100000≤x∧x≤100000):wrap64 x=x:=by
 unfold wrap64
 omega
theorem Int.tdiv_mul_add_tmod_two (X:Int):X.tdiv 2 * 2+X.tmod 2=X∧-1≤X.tmod 2∧X.tmod 2≤1:=by
 refine⟨by rw[Int.mul_comm];exact Int.mul_tdiv_add_tmod X 2,?_⟩
 rcases Int.le_total 0 X with h | h
 ·have h1:=Int.tmod_nonneg 2 h
  have h2:=Int.tmod_lt_of_pos X (b:=2) (by omega)
  omega
 ·have h1:=Int.tmod_nonneg 2 (show 0≤-X by omega)
  have h2:=Int.tmod_lt_of_pos (-X) (b:=2) (by omega)
  rw[Int.neg_tmod] at h1 h2
  omega
theorem ct_wraps {N:Int} {D L F S:Nat} {X:Int} (hN1:1≤N) (hN2:N≤200) (hD:D≤2000) (hL:L≤2000) (hF:F≤2000) (hS:S≤F) (hX:X=N - (D:Int) / 2+(F:Int) - ((L:Int) - (F:Int))) :
  wrap64 ((D:Int) / 2)=(D:Int) / 2∧wrap64 (N - (D:Int) / 2)=N - (D:Int) / 2∧wrap64 (N - (D:Int) / 2+(F:Int))=N - (D:Int) / 2+(F:Int)∧wrap64 ((L:Int) - (F:Int))=(L:Int) - (F:Int) ∧
  wrap64 (N - (D:Int) / 2+(F:Int) - ((L:Int) - (F:Int)))=X∧wrap64 (X.tdiv 2)=X.tdiv 2∧wrap64 ((S:Int) - X.tdiv 2)=(S:Int) - X.tdiv 2:=by
 have hX1:-5000≤X∧X≤5000:=by omega
 have hX2:-5000≤X.tdiv 2∧X.tdiv 2≤5000:=by
  have h1:=Int.tdiv_mul_add_tmod_two X
  omega
 refine⟨wrap64_small (by omega),wrap64_small (by omega),wrap64_small (by omega),wrap64_small (by omega),?_,wrap64_small (by omega),wrap64_small (by omega)⟩
 rw[←hX];exact wrap64_small (by omega)
theorem EM.len {W:World} {b:Nat} {ds:List PV} (h:EM W b ds) (ty:TypeId):(Builtin.len_ #[88] ty #[.map (some b)]).run Try.prog W=.ok (.int .i64 ds.length) W:=by
 obtain⟨D,h1,h2,h3,h4,h5⟩:=h
 rw[h1.len Try.u88 ty,h5]
theorem blk_set6 {W:World} {b:Nat} {x0 x1 x2 x3 x4 x5 y0 y1 y2 y3 y4 y5:Value} {t:TypeId} (h:Blk W b (.cells #[x0,x1,x2,x3,x4,x5] t)):Blk ((((((W.setCell ⟨b,0,none⟩ y0).setCell ⟨b,1,none⟩ y1).setCell ⟨b,2,none⟩ y2).setCell ⟨b,3,none⟩ y3).setCell ⟨b,4,none⟩ y4).setCell ⟨b,5,none⟩ y5) b (.cells #[y0,y1,y2,y3,y4,y5] t):=blk_set (blk_set (blk_set (blk_set (blk_set (blk_set h)))))
theorem below_set6 {w W:World} {b:Nat} {y0 y1 y2 y3 y4 y5:Value} (h:Below w.heap.size w W) (hb:w.heap.size≤b):Below w.heap.size w ((((((W.setCell ⟨b,0,none⟩ y0).setCell ⟨b,1,none⟩ y1).setCell ⟨b,2,none⟩ y2).setCell ⟨b,3,none⟩ y3).setCell ⟨b,4,none⟩ y4).setCell ⟨b,5,none⟩ y5):=
 (((((h.setCell (p:=⟨_,0,none⟩) hb _).setCell (p:=⟨_,1,none⟩) hb _).setCell (p:=⟨_,2,none⟩) hb _).setCell (p:=⟨_,3,none⟩) hb _).setCell (p:=⟨_,4,none⟩) hb _).setCell (p:=⟨_,5,none⟩) hb _
set_option maxRecDepth 100000 in
set_option maxHeartbeats 4000000 in
theorem counts_any (N:Int) (A:Option Addr) (c:Nat) (fs:Fs) (w:World) (hF:RF w A fs) (hSm:Sm fs) (hI:NI fs) (hcap:(plsA fs).length≤100000) :
  Calls Try.prog 23 #[.agg #[.int .i64 N,.slice A fs.length c]] w fun e w'=>((RightP N fs→e=.returned (.tuple #[ctV N fs,.int .i64 0]))∧(¬ RightP N fs→e=.returned (.tuple #[.agg #[.int .i64 0,.int .i64 0,.int .i64 0,.int .i64 0,.int .i64 0,.int .i64 0],.int .i64 140])))∧Below w.heap.size w w':=by
 obtain⟨W1,hW1⟩:∃W1,W1=(w.alloc (.cells #[.int .i64 N,.slice A fs.length c] 30)).alloc (.cells #[.int .i64 0,.int .i64 0,.int .i64 0,.int .i64 0,.int .i64 0,.int .i64 0] 53):=⟨_,rfl⟩
 have HOB:Hid (Obs [.cells #[.int .i64 N,.slice A fs.length c] 30,.cells #[.int .i64 0,.int .i64 0,.int .i64 0,.int .i64 0,.int .i64 0,.int .i64 0] 53] w W1):=by rw[hW1];exact Obs.two w _ _
 have HR:=Lib.hid (right_at (N:=N) (c:=c) hF HOB.out.below hSm hI hcap)
 have HF:=Lib.hid hF
 have HS:=Lib.hid hSm
 clear hF hSm hI hcap
 go_enter Try.func23,Try.ntmps23
 go_wp2_with fail
 rw[←hW1]
 clear hW1
 ((with_reducible refine(HR.out).mono ?_);rintro e W2 ⟨⟨b,rfl,hb⟩,-,hbl⟩)
 have HOB2:=Lib.hid (HOB.out.call hbl)
 have HBI:=Lib.hid hb
 clear HR hb hbl HOB
 have m00:W2.cell? ⟨w.heap.size,0,none⟩=some (.int .i64 N):=HOB2.out.cell 0 0 rfl rfl
 have m01:W2.cell? ⟨w.heap.size,1,none⟩=some (.slice A fs.length c):=HOB2.out.cell 0 1 rfl rfl
 cases b
 ·have hlt:=(HOB2.out.blk 1 _ rfl).lt
  have z0:W2.frozen? ⟨w.heap.size+1,0,none⟩=false:=HOB2.out.frz 1 0 rfl
  have z1:W2.frozen? ⟨w.heap.size+1,1,none⟩=false:=HOB2.out.frz 1 1 rfl
  have z2:W2.frozen? ⟨w.heap.size+1,2,none⟩=false:=HOB2.out.frz 1 2 rfl
  have z3:W2.frozen? ⟨w.heap.size+1,3,none⟩=false:=HOB2.out.frz 1 3 rfl
  have z4:W2.frozen? ⟨w.heap.size+1,4,none⟩=false:=HOB2.out.frz 1 4 rfl
  have z5:W2.frozen? ⟨w.heap.size+1,5,none⟩=false:=HOB2.out.frz 1 5 rfl
  have c0:W2.cell? ⟨w.heap.size+1,0,none⟩=some (.int .i64 0):=HOB2.out.cell 1 0 rfl rfl
  have c1:W2.cell? ⟨w.heap.size+1,1,none⟩=some (.int .i64 0):=HOB2.out.cell 1 1 rfl rfl
  have c2:W2.cell? ⟨w.heap.size+1,2,none⟩=some (.int .i64 0):=HOB2.out.cell 1 2 rfl rfl
  have c3:W2.cell? ⟨w.heap.size+1,3,none⟩=some (.int .i64 0):=HOB2.out.cell 1 3 rfl rfl
  have c4:W2.cell? ⟨w.heap.size+1,4,none⟩=some (.int .i64 0):=HOB2.out.cell 1 4 rfl rfl
  have c5:W2.cell? ⟨w.heap.size+1,5,none⟩=some (.int .i64 0):=HOB2.out.cell 1 5 rfl rfl
  go_wp2
  have e0:=blk_cells (blk_set6 (y0:=.int .i64 0) (y1:=.int .i64 0) (y2:=.int .i64 0) (y3:=.int .i64 0) (y4:=.int .i64 0) (y5:=.int .i64 0) (HOB2.out.blk 1 _ rfl))
  have e00:=e0.1 0 _ rfl
  have e01:=e0.1 1 _ rfl
  have e02:=e0.1 2 _ rfl
  have e03:=e0.1 3 _ rfl
  have e04:=e0.1 4 _ rfl
  have e05:=e0.1 5 _ rfl
  refine bodyPost_ret (v:=.tuple #[.agg #[.int .i64 0,.int .i64 0,.int .i64 0,.int .i64 0,.int .i64 0,.int .i64 0],.int .i64 140]) (by simp[results,Try.f23,go_sem,e00,e01,e02,e03,e04,e05]) rfl ?_
  exact⟨⟨fun h=>by simpa using HBI.out.2 h,fun _=>rfl⟩,below_set6 HOB2.out.below (by omega)⟩
 ·have HRP:Hid (RightP N fs):=HBI.out.1 rfl
  have hfi:=HRP.out.fine
  have HED:=Lib.hid (edges_any N A c fs W2 (HF.out.below HOB2.out.below) HS.out hfi.ni (hfi.cap (by omega)))
  clear HBI
  go_wp2_with fail
  ((with_reducible refine(HED.out).mono ?_);rintro e W3 ⟨⟨m,b,rfl,hb,hm⟩,hbl⟩)
  obtain rfl:b=true:=hb.2 HRP.out.2.2.1
  obtain⟨k,rfl,hk1,hk2⟩:=hm rfl
  have HOB3:=Lib.hid (HOB2.out.call hbl)
  have HEM3:=Lib.hid hk2
  clear hb hm hk1 hk2 hbl HED HOB2 m00 m01
  have m00:W3.cell? ⟨w.heap.size,0,none⟩=some (.int .i64 N):=HOB3.out.cell 0 0 rfl rfl
  have m01:W3.cell? ⟨w.heap.size,1,none⟩=some (.slice A fs.length c):=HOB3.out.cell 0 1 rfl rfl
  have HSZ:=Lib.hid (size_any N A c fs W3 (HF.out.below HOB3.out.below) HS.out)
  go_wp2_with fail
  ((with_reducible refine(HSZ.out).mono ?_);rintro e W4 ⟨rfl,hbl⟩)
  have HOB4:=Lib.hid (HOB3.out.call hbl)
  have HEM4:=Lib.hid (HEM3.out.kept (grown_of_below hbl none) (by simp))
  clear hbl HSZ HOB3 HEM3 m00 m01
  have m00:W4.cell? ⟨w.heap.size,0,none⟩=some (.int .i64 N):=HOB4.out.cell 0 0 rfl rfl
  have m01:W4.cell? ⟨w.heap.size,1,none⟩=some (.slice A fs.length c):=HOB4.out.cell 0 1 rfl rfl
  have HSH:=Lib.hid (shells_are N A c fs W4 (HF.out.below HOB4.out.below) HRP.out)
  go_wp2_with fail
  ((with_reducible refine(HSH.out).mono ?_);rintro e W5 ⟨⟨v,lv,rfl,hFW⟩,hbl⟩)
  obtain⟨AV,cV,rfl⟩:=own_slice hFW.own
  have HOB5:=Lib.hid (HOB4.out.call hbl)
  have HEM5:=Lib.hid (HEM4.out.kept (grown_of_below hbl none) (by simp))
  clear hbl HSH HOB4 HEM4 m00 m01 hFW
  have m00:W5.cell? ⟨w.heap.size,0,none⟩=some (.int .i64 N):=HOB5.out.cell 0 0 rfl rfl
  have m01:W5.cell? ⟨w.heap.size,1,none⟩=some (.slice A fs.length c):=HOB5.out.cell 0 1 rfl rfl
  obtain⟨D,hD⟩:∃D,D=(dartsA fs (plsA fs)).length:=⟨_,rfl⟩
  have hlen:∀ty,(Builtin.len_ #[88] ty #[.map (some k)]).run Try.prog W5=.ok (.int .i64 D) W5:=fun ty=>by rw[hD];exact HEM5.out.len ty
  have hD2:D≤2000:=by
   have h1:=List.length_filter_le (dartB fs) (plsA fs)
   have h2:=hfi.nodes
   rw[←pls_len] at h2
   rw[hD];unfold dartsA;omega
  have hL2:=hfi.loops
  rw[←nlA_eq] at hL2
  have hF2:=hfi.faces
  have hS2:=shUp_len fs fs.length
  have hN2:=HRP.out.1.2.1
  have hN1:=HRP.out.1.1
  obtain⟨S,hS⟩:∃S,S=(shA fs).length:=⟨_,rfl⟩
  have hS3:S≤fs.length:=by rw[hS];exact hS2
  obtain⟨L,hL⟩:∃L,L=nlA fs fs.length:=⟨_,rfl⟩
  obtain⟨F,hF⟩:∃F,F=fs.length:=⟨_,rfl⟩
  have HD:=Lib.hid hD
  have HSS:=Lib.hid hS
  have HLL:=Lib.hid hL
  have HFF:=Lib.hid hF
  rw[←hF] at hF2 hS3
  rw[←hL] at hL2
  obtain⟨X,hX⟩:∃X:Int,X=N - (D:Int) / 2+(F:Int) - ((L:Int) - (F:Int)):=⟨_,rfl⟩
  have HX:=Lib.hid hX
  obtain⟨w1,w2,w3,w4,w5,w6,w7⟩:=ct_wraps hN1 hN2 hD2 hL2 hF2 hS3 hX
  clear hX hS hD hL hF hD2 hL2 hF2 hS2 hS3 hfi
  go_upto_region 6 with fail
  rw[←HSS.out,←HLL.out,←HFF.out]
  have hlt:=(HOB5.out.blk 1 _ rfl).lt
  have z0:W5.frozen? ⟨w.heap.size+1,0,none⟩=false:=HOB5.out.frz 1 0 rfl
  have z1:W5.frozen? ⟨w.heap.size+1,1,none⟩=false:=HOB5.out.frz 1 1 rfl
  have z2:W5.frozen? ⟨w.heap.size+1,2,none⟩=false:=HOB5.out.frz 1 2 rfl
  have z3:W5.frozen? ⟨w.heap.size+1,3,none⟩=false:=HOB5.out.frz 1 3 rfl
  have z4:W5.frozen? ⟨w.heap.size+1,4,none⟩=false:=HOB5.out.frz 1 4 rfl
  have z5:W5.frozen? ⟨w.heap.size+1,5,none⟩=false:=HOB5.out.frz 1 5 rfl
  have c0:W5.cell? ⟨w.heap.size+1,0,none⟩=some (.int .i64 0):=HOB5.out.cell 1 0 rfl rfl
  have c1:W5.cell? ⟨w.heap.size+1,1,none⟩=some (.int .i64 0):=HOB5.out.cell 1 1 rfl rfl
  have c2:W5.cell? ⟨w.heap.size+1,2,none⟩=some (.int .i64 0):=HOB5.out.cell 1 2 rfl rfl
  have c3:W5.cell? ⟨w.heap.size+1,3,none⟩=some (.int .i64 0):=HOB5.out.cell 1 3 rfl rfl
  have c4:W5.cell? ⟨w.heap.size+1,4,none⟩=some (.int .i64 0):=HOB5.out.cell 1 4 rfl rfl
  have c5:W5.cell? ⟨w.heap.size+1,5,none⟩=some (.int .i64 0):=HOB5.out.cell 1 5 rfl rfl
  have HCV:Hid (ctV N fs=.agg #[.int .i64 N,.int .i64 ((D:Int) / 2),.int .i64 F,.int .i64 ((L:Int) - (F:Int)),.int .i64 S,.int .i64 ((S:Int) - X.tdiv 2)]):=by
   show ctV N fs=_
   have e1:((edN fs:Nat):Int)=(D:Int) / 2:=by rw[HD.out];unfold edN;omega
   have e2:((fs.flatten.length:Nat):Int)=(L:Int):=by rw[HLL.out,nlA_eq]
   unfold ctV hdN
   rw[e1,e2,←HSS.out,←HFF.out,←HX.out]
  go_wp2
  have e0:=blk_cells (blk_set6 (y0:=.int .i64 N) (y1:=.int .i64 ((D:Int) / 2)) (y2:=.int .i64 F) (y3:=.int .i64 ((L:Int) - (F:Int))) (y4:=.int .i64 S) (y5:=.int .i64 ((S:Int) - X.tdiv 2)) (HOB5.out.blk 1 _ rfl))
  have e00:=e0.1 0 _ rfl
  have e01:=e0.1 1 _ rfl
  have e02:=e0.1 2 _ rfl
  have e03:=e0.1 3 _ rfl
  have e04:=e0.1 4 _ rfl
  have e05:=e0.1 5 _ rfl
  refine bodyPost_ret (v:=.tuple #[.agg #[.int .i64 N,.int .i64 ((D:Int) / 2),.int .i64 F,.int .i64 ((L:Int) - (F:Int)),.int .i64 S,.int .i64 ((S:Int) - X.tdiv 2)],.int .i64 0]) (by simp[results,Try.f23,go_sem,e00,e01,e02,e03,e04,e05]) rfl ?_
  exact⟨⟨fun _=>by rw[HCV.out],fun h=>absurd HRP.out h⟩,below_set6 HOB5.out.below (by omega)⟩
end Go.Proofs.Ytealnhaffphamaa
