/- Contracts of the functions that the statement reaches, and plain lemmas: part 8 of 31. -/
set_option linter.unusedVariables false
set_option linter.unusedSimpArgs false

namespace Go.Proofs.Ytealnhaffphamaa
abbrev Cor:=Int × Int × Int
def vaC (C:List Cor):List (Int × Int):=C.map fun c=>(c.2.1,c.2.2)
def bvC (C:List Cor):List (Int × Int):=C.map fun c=>(c.1,c.2.1)
structure Eqv (E:Int→Int→Prop):Prop where
 refl:∀a,E a a
 symm:∀a b,E a b→E b a
 trans:∀a b c,E a b→E b c→E a c
def StarAt (C:List Cor) (v:Int):Prop:=∀E,Eqv E→(∀c∈C,c.2.1=v→E c.1 c.2.2)→∀c∈C,∀d∈C,c.2.1=v→d.2.1=v→E c.2.2 d.2.2
structure Surf (C:List Cor) (S:List Int):Prop where
 per:(bvC C).Perm (vaC C)
 nd:(vaC C).Nodup
 opp:∀c∈C,(c.2.2,c.2.1)∈vaC C
 ne:∀c∈C,c.2.1≠c.2.2
 star:∀v,StarAt C v
 sd:S.Nodup
 sa:∀c∈C,c.2.1 ∉ S
theorem vaC_append (A B:List Cor):vaC (A ++ B)=vaC A ++ vaC B:=List.map_append
theorem bvC_append (A B:List Cor):bvC (A ++ B)=bvC A ++ bvC B:=List.map_append
theorem vaC_mem {C:List Cor} {p:Int × Int}:p∈vaC C↔∃c∈C,c.2.1=p.1∧c.2.2=p.2:=by
 unfold vaC
 rw[List.mem_map]
 exact⟨fun⟨c,h,e⟩=>⟨c,h,by rw[←e],by rw[←e]⟩,fun⟨c,h,e1,e2⟩=>⟨c,h,by rw[e1,e2]⟩⟩
theorem bvC_mem {C:List Cor} {p:Int × Int}:p∈bvC C↔∃c∈C,c.1=p.1∧c.2.1=p.2:=by
 unfold bvC
 rw[List.mem_map]
 exact⟨fun⟨c,h,e⟩=>⟨c,h,by rw[←e],by rw[←e]⟩,fun⟨c,h,e1,e2⟩=>⟨c,h,by rw[e1,e2]⟩⟩
theorem StarAt.congr {C D:List Cor} {v:Int} (h:StarAt C v) (hm:∀c:Cor,c.2.1=v→(c∈D↔c∈C)):StarAt D v:=
 fun E hE hc c hcD d hdD e1 e2=>h E hE (fun x hx e=>hc x ((hm x e).2 hx) e) c ((hm c e1).1 hcD) d ((hm d e2).1 hdD) e1 e2
theorem Surf.perm {C D:List Cor} {S T:List Int} (h:Surf C S) (hc:C.Perm D) (hs:S.Perm T):Surf D T:=by
 have h1:(vaC C).Perm (vaC D):=hc.map _
 have h2:(bvC C).Perm (bvC D):=hc.map _
 exact⟨h2.symm.trans (h.per.trans h1),h1.nodup_iff.1 h.nd,fun c hx=>h1.mem_iff.1 (h.opp c (hc.mem_iff.2 hx)),fun c hx=>h.ne c (hc.mem_iff.2 hx),
  fun v=>(h.star v).congr (fun c _=>hc.mem_iff.symm),hs.nodup_iff.1 h.sd,fun c hx q=>h.sa c (hc.mem_iff.2 hx) (hs.mem_iff.2 q)⟩
inductive Ins (v w:Int) (C:List Cor):List Cor→List Cor→Prop
 | mid (u x:Int):Ins v w C [(u,v,x)] [(u,v,w),(w,v,x)]
 | new (h:∀c∈C,c.2.1≠v):Ins v w C [] [(w,v,w)]
section
variable {v w:Int} {C L A A' B B' R:List Cor}
theorem Ins.at (h:Ins v w C A A'):(∀c∈A,c.2.1=v)∧∀c∈A',c.2.1=v:=by
 cases h <;> simp
theorem Ins.va (h:Ins v w C A A'):(vaC A').Perm ((v,w) :: vaC A):=by
 cases h <;> simp[vaC]
theorem Ins.bv (h:Ins v w C A A'):(bvC A').Perm ((w,v) :: bvC A):=by
 cases h with
 | mid u x=>simp only[bvC,List.map_cons,List.map_nil];exact List.Perm.swap _ _ _
 | new h=>simp[bvC]
theorem star_ins (h:Ins v w L A A') (hs:StarAt (A ++ L) v):StarAt (A' ++ L) v:=by
 intro E hE hc
 cases h with
 | mid u x=>
  have h1:E u w:=hc (u,v,w) (by simp) rfl
  have h2:E w x:=hc (w,v,x) (by simp) rfl
  have h3:=hs E hE (fun c hcm e=>by
   rcases List.mem_append.1 hcm with hq | hq
   ·rw[List.mem_singleton] at hq;subst hq;exact hE.trans _ _ _ h1 h2
   ·exact hc c (List.mem_append_right _ hq) e)
  have h4:∀c∈[(u,v,w),(w,v,x)] ++ L,c.2.1=v→E c.2.2 x:=by
   intro c hcm e
   rcases List.mem_append.1 hcm with hq | hq
   ·simp only[List.mem_cons,List.not_mem_nil,or_false] at hq
    rcases hq with rfl | rfl
    ·exact h2
    ·exact hE.refl _
   ·exact h3 c (List.mem_append_right _ hq) (u,v,x) (by simp) e rfl
  exact fun c hcm d hdm e1 e2=>hE.trans _ _ _ (h4 c hcm e1) (hE.symm _ _ (h4 d hdm e2))
 | new hn=>
  have h4:∀c∈[(w,v,w)] ++ L,c.2.1=v→c.2.2=w:=by
   intro c hcm e
   rcases List.mem_append.1 hcm with hq | hq
   ·rw[List.mem_singleton] at hq;subst hq;rfl
   ·exact absurd e (hn c hq)
  exact fun c hcm d hdm e1 e2=>by rw[h4 c hcm e1,h4 d hdm e2];exact hE.refl _
theorem star_del (h:Ins v w L A A') (hs:StarAt (A' ++ L) v) (h1:(vaC (A ++ L)).Nodup) (h2:∀c∈A ++ L,c.2.1=v→c.2.2≠w) (h3:∀c∈A ++ L,c.2.1=v→c.1≠w):StarAt (A ++ L) v:=by
 intro E hE hc
 cases h with
 | mid u x=>
  have hu:u≠w:=h3 (u,v,x) (by simp) rfl
  have hx:x≠w:=h2 (u,v,x) (by simp) rfl
  have hux:E u x:=hc (u,v,x) (by simp) rfl
  have key:=hs (fun p q=>E (if p=w then u else p) (if q=w then u else q)) ⟨fun a=>hE.refl _,fun a b q=>hE.symm _ _ q,fun a b c q r=>hE.trans _ _ _ q r⟩ (fun c hcm e=>by
   rcases List.mem_append.1 hcm with hq | hq
   ·simp only[List.mem_cons,List.not_mem_nil,or_false] at hq
    rcases hq with rfl | rfl
    ·show E (if u=w then u else u) (if w=w then u else w)
     rw[if_pos rfl,if_neg hu];exact hE.refl _
    ·show E (if w=w then u else w) (if x=w then u else x)
     rw[if_pos rfl,if_neg hx];exact hux
   ·show E (if c.1=w then u else c.1) (if c.2.2=w then u else c.2.2)
    rw[if_neg (h3 c (List.mem_append_right _ hq) e),if_neg (h2 c (List.mem_append_right _ hq) e)]
    exact hc c (List.mem_append_right _ hq) e)
  have h4:∀c∈[(u,v,x)] ++ L,c.2.1=v→E c.2.2 x:=by
   intro c hcm e
   rcases List.mem_append.1 hcm with hq | hq
   ·rw[List.mem_singleton] at hq;subst hq;exact hE.refl _
   ·have h5:=key c (List.mem_append_right _ hq) (w,v,x) (by simp) e rfl
    have h6:E (if c.2.2=w then u else c.2.2) (if x=w then u else x):=h5
    rw[if_neg (h2 c hcm e),if_neg hx] at h6
    exact h6
  exact fun c hcm d hdm e1 e2=>hE.trans _ _ _ (h4 c hcm e1) (hE.symm _ _ (h4 d hdm e2))
 | new hn=>exact fun c hcm d hdm e1 e2=>absurd e1 (hn c (by simpa using hcm))
end
section
variable {v w:Int} {C D R A A' B B':List Cor} {S T:List Int}
theorem edge_lists (hA:Ins v w (B ++ R) A A') (hB:Ins w v (A ++ R) B B'):(vaC (A' ++ B' ++ R)).Perm ((v,w) :: (w,v) :: vaC (A ++ B ++ R))∧(bvC (A' ++ B' ++ R)).Perm ((v,w) :: (w,v) :: bvC (A ++ B ++ R)):=by
 constructor
 ·simp only[vaC_append]
  refine((hA.va.append hB.va).append_right _).trans ?_
  refine List.Perm.cons _ ?_
  show(vaC A ++ ((w,v) :: vaC B) ++ vaC R).Perm ((w,v) :: (vaC A ++ vaC B ++ vaC R))
  rw[List.append_assoc,List.append_assoc,List.cons_append]
  exact List.perm_middle
 ·simp only[bvC_append]
  refine((hA.bv.append hB.bv).append_right _).trans ?_
  refine List.Perm.trans ?_ (List.Perm.swap _ _ _)
  refine List.Perm.cons _ ?_
  show(bvC A ++ ((v,w) :: bvC B) ++ bvC R).Perm ((v,w) :: (bvC A ++ bvC B ++ bvC R))
  rw[List.append_assoc,List.append_assoc,List.cons_append]
  exact List.perm_middle
theorem edge_more (hA:Ins v w (B ++ R) A A') (hB:Ins w v (A ++ R) B B') (h:Surf (A ++ B ++ R) S) (hvw:v≠w) (hno:(v,w) ∉ vaC (A ++ B ++ R)) (hd:T.Nodup) (hs:∀x∈T,x∈S∧x≠v∧x≠w):Surf (A' ++ B' ++ R) T:=by
 obtain⟨h1,h2⟩:=edge_lists hA hB
 have hno2:(w,v) ∉ vaC (A ++ B ++ R):=fun q=>by
  obtain⟨c,hc,e1,e2⟩:=vaC_mem.1 q
  have:=h.opp c hc
  rw[e1,e2] at this
  exact hno this
 have hnd:((v,w) :: (w,v) :: vaC (A ++ B ++ R)).Nodup:=by
  refine List.nodup_cons.2 ⟨fun q=>?_,List.nodup_cons.2 ⟨hno2,h.nd⟩⟩
  rcases List.mem_cons.1 q with q | q
  ·injection q with q1 q2;exact hvw q1
  ·exact hno q
 have hmem:∀c∈A' ++ B' ++ R,(c.2.1,c.2.2)=(v,w)∨(c.2.1,c.2.2)=(w,v)∨∃d∈A ++ B ++ R,(c.2.1,c.2.2)=(d.2.1,d.2.2):=fun c hc=>by
  have h3:=h1.mem_iff.1 (show(c.2.1,c.2.2)∈vaC (A' ++ B' ++ R) from List.mem_map.2 ⟨c,hc,rfl⟩)
  rcases List.mem_cons.1 h3 with h3 | h3
  ·exact .inl h3
  rcases List.mem_cons.1 h3 with h3 | h3
  ·exact .inr (.inl h3)
  obtain⟨d,hd,e⟩:=List.mem_map.1 h3
  exact .inr (.inr ⟨d,hd,e.symm⟩)
 refine⟨h2.trans (List.Perm.trans ?_ h1.symm),h1.nodup_iff.2 hnd,fun c hc=>h1.mem_iff.2 ?_,fun c hc=>?_,fun z=>?_,hd,fun c hc q=>?_⟩
 ·exact(List.Perm.cons _ (List.Perm.cons _ h.per))
 ·rcases hmem c hc with e | e | ⟨d,hd,e⟩
  ·injection e with e1 e2;rw[e1,e2];simp
  ·injection e with e1 e2;rw[e1,e2];simp
  ·injection e with e1 e2;rw[e1,e2]
   exact List.mem_cons_of_mem _ (List.mem_cons_of_mem _ (h.opp d hd))
 ·rcases hmem c hc with e | e | ⟨d,hd,e⟩
  ·injection e with e1 e2;rw[e1,e2];exact hvw
  ·injection e with e1 e2;rw[e1,e2];exact hvw.symm
  ·injection e with e1 e2;rw[e1,e2];exact h.ne d hd
 ·by_cases ev:z=v
  ·subst ev
   refine(star_ins hA ((h.star z).congr (fun c _=>by simp only[List.mem_append,or_assoc]))).congr (fun c e=>?_)
   have hb1:c ∉ B:=fun q=>hvw ((hB.at.1 c q) ▸ e.symm)
   have hb2:c ∉ B':=fun q=>hvw ((hB.at.2 c q) ▸ e.symm)
   simp only[List.mem_append,hb1,hb2,or_false,false_or]
  ·by_cases ew:z=w
   ·subst ew
    refine(star_ins hB ((h.star z).congr (fun c _=>by simp only[List.mem_append];exact⟨fun q=>by rcases q with q | q | q <;> simp[q],fun q=>by rcases q with(q | q) | q <;> simp[q]⟩))).congr (fun c e=>?_)
    have hb1:c ∉ A:=fun q=>hvw ((hA.at.1 c q) ▸ e)
    have hb2:c ∉ A':=fun q=>hvw ((hA.at.2 c q) ▸ e)
    simp only[List.mem_append,hb1,hb2,false_or]
   ·refine(h.star z).congr (fun c e=>?_)
    have a1:c ∉ A:=fun q=>ev (e ▸ hA.at.1 c q)
    have a2:c ∉ A':=fun q=>ev (e ▸ hA.at.2 c q)
    have a3:c ∉ B:=fun q=>ew (e ▸ hB.at.1 c q)
    have a4:c ∉ B':=fun q=>ew (e ▸ hB.at.2 c q)
    simp only[List.mem_append,a1,a2,a3,a4,or_false,false_or]
 ·obtain⟨q1,q2,q3⟩:=hs _ q
  rcases hmem c hc with e | e | ⟨d,hd,e⟩
  ·injection e with e1 e2;exact q2 e1
  ·injection e with e1 e2;exact q3 e1
  ·injection e with e1 e2;rw[e1] at q1;exact h.sa d hd q1
theorem edge_less (hA:Ins v w (B ++ R) A A') (hB:Ins w v (A ++ R) B B') (h:Surf (A' ++ B' ++ R) S) (hvw:v≠w) (hd:T.Nodup) (hs:∀x∈T,x ∉ S→∀c∈A ++ B ++ R,c.2.1≠x):Surf (A ++ B ++ R) T:=by
 obtain⟨h1,h2⟩:=edge_lists hA hB
 have hnd:=h1.nodup_iff.1 h.nd
 obtain⟨n1,n2⟩:=List.nodup_cons.1 hnd
 obtain⟨n3,n4⟩:=List.nodup_cons.1 n2
 have n1':(v,w) ∉ vaC (A ++ B ++ R):=fun q=>n1 (List.mem_cons_of_mem _ q)
 have hper:(bvC (A ++ B ++ R)).Perm (vaC (A ++ B ++ R)):=((h2.symm.trans (h.per.trans h1)).cons_inv).cons_inv
 have hmem:∀c∈A ++ B ++ R,∃d∈A' ++ B' ++ R,(c.2.1,c.2.2)=(d.2.1,d.2.2):=fun c hc=>by
  have h3:=h1.mem_iff.2 (List.mem_cons_of_mem _ (List.mem_cons_of_mem _ (show(c.2.1,c.2.2)∈vaC (A ++ B ++ R) from List.mem_map.2 ⟨c,hc,rfl⟩)))
  obtain⟨d,hd,e⟩:=List.mem_map.1 h3
  exact⟨d,hd,e.symm⟩
 have hva:∀c∈A ++ B ++ R,(c.2.1,c.2.2)∈vaC (A ++ B ++ R):=fun c hc=>List.mem_map.2 ⟨c,hc,rfl⟩
 have hbv:∀c∈A ++ B ++ R,(c.1,c.2.1)∈vaC (A ++ B ++ R):=fun c hc=>hper.mem_iff.1 (List.mem_map.2 ⟨c,hc,rfl⟩)
 refine⟨hper,n4,fun c hc=>?_,fun c hc=>?_,fun z=>?_,hd,fun c hc q=>?_⟩
 ·obtain⟨d,hd,e⟩:=hmem c hc
  injection e with e1 e2
  have h3:=h1.mem_iff.1 (h.opp d hd)
  rw[←e1,←e2] at h3
  rcases List.mem_cons.1 h3 with q | q
  ·injection q with q1 q2
   exact absurd (hva c hc) (by rw[q1,q2];exact n3)
  rcases List.mem_cons.1 q with q | q
  ·injection q with q1 q2
   exact absurd (hva c hc) (by rw[q1,q2];exact n1')
  ·exact q
 ·obtain⟨d,hd,e⟩:=hmem c hc
  injection e with e1 e2
  rw[e1,e2];exact h.ne d hd
 ·by_cases ev:z=v
  ·subst ev
   have hb1:∀c:Cor,c.2.1=z→c ∉ B:=fun c e q=>hvw ((hB.at.1 c q) ▸ e.symm)
   have hb2:∀c:Cor,c.2.1=z→c ∉ B':=fun c e q=>hvw ((hB.at.2 c q) ▸ e.symm)
   have h3:StarAt (A' ++ (B ++ R)) z:=(h.star z).congr (fun c e=>by simp only[List.mem_append,hb1 c e,hb2 c e,or_false,false_or])
   refine(star_del hA h3 ?_ (fun c hc e q=>?_) (fun c hc e q=>?_)).congr (fun c _=>by simp only[List.mem_append,or_assoc])
   ·rw[←List.append_assoc];exact n4
   ·rw[←List.append_assoc] at hc
    have:=hva c hc
    rw[e,q] at this;exact n1' this
   ·rw[←List.append_assoc] at hc
    have:=hbv c hc
    rw[e,q] at this;exact n3 this
  ·by_cases ew:z=w
   ·subst ew
    have hb1:∀c:Cor,c.2.1=z→c ∉ A:=fun c e q=>hvw ((hA.at.1 c q) ▸ e)
    have hb2:∀c:Cor,c.2.1=z→c ∉ A':=fun c e q=>hvw ((hA.at.2 c q) ▸ e)
    have h3:StarAt (B' ++ (A ++ R)) z:=(h.star z).congr (fun c e=>by simp only[List.mem_append,hb1 c e,hb2 c e,false_or])
    have hmid:∀c:Cor,c∈B ++ (A ++ R)→c∈A ++ B ++ R:=fun c q=>by simp only[List.mem_append] at q ⊢;rcases q with q | q | q <;> simp[q]
    refine(star_del hB h3 ?_ (fun c hc e q=>?_) (fun c hc e q=>?_)).congr (fun c e=>by simp only[List.mem_append,hb1 c e,false_or])
    ·refine List.Perm.nodup_iff ?_ |>.1 n4
     unfold vaC
     refine List.Perm.map _ ?_
     rw[←List.append_assoc]
     exact List.perm_append_comm.append_right _
    ·have:=hva c (hmid c hc)
     rw[e,q] at this;exact n3 this
    ·have:=hbv c (hmid c hc)
     rw[e,q] at this;exact n1' this
   ·refine(h.star z).congr (fun c e=>?_)
    have a1:c ∉ A:=fun q=>ev (e ▸ hA.at.1 c q)
    have a2:c ∉ A':=fun q=>ev (e ▸ hA.at.2 c q)
    have a3:c ∉ B:=fun q=>ew (e ▸ hB.at.1 c q)
    have a4:c ∉ B':=fun q=>ew (e ▸ hB.at.2 c q)
    simp only[List.mem_append,a1,a2,a3,a4,or_false,false_or]
 ·by_cases hx:c.2.1∈S
  ·obtain⟨d,hd,e⟩:=hmem c hc
   injection e with e1 e2
   rw[e1] at hx
   exact h.sa d hd hx
  ·exact hs _ q hx c hc rfl
end
def turnC (c:Cor):Cor:=(c.2.2,c.2.1,c.1)
def nameC (f:Int→Int) (c:Cor):Cor:=(f c.1,f c.2.1,f c.2.2)
theorem surf_turn {C:List Cor} {S:List Int} (h:Surf C S):Surf (C.map turnC) S:=by
 have e1:vaC (C.map turnC)=(bvC C).map (fun p=>(p.2,p.1)):=by unfold vaC bvC turnC;simp[List.map_map,Function.comp_def]
 have e2:bvC (C.map turnC)=(vaC C).map (fun p=>(p.2,p.1)):=by unfold vaC bvC turnC;simp[List.map_map,Function.comp_def]
 have hinj:∀l:List (Int × Int),l.Nodup→(l.map (fun p=>(p.2,p.1))).Nodup:=fun l hl=>by
  rw[List.nodup_iff_pairwise_ne,List.pairwise_map]
  rw[List.nodup_iff_pairwise_ne] at hl
  refine hl.imp (fun hab e=>hab ?_)
  injection e with a b
  exact Prod.ext b a
 refine⟨?_,?_,fun c hc=>?_,fun c hc=>?_,fun v E hE hcE=>?_,h.sd,fun c hc=>?_⟩
 ·rw[e1,e2];exact(h.per.map _).symm
 ·rw[e1];exact hinj _ (h.per.nodup_iff.2 h.nd)
 ·obtain⟨d,hd,rfl⟩:=List.mem_map.1 hc
  rw[e1]
  have h1:(d.1,d.2.1)∈vaC C:=h.per.mem_iff.1 (List.mem_map.2 ⟨d,hd,rfl⟩)
  obtain⟨x,hx,hx1,hx2⟩:=vaC_mem.1 h1
  have h2:=h.opp x hx
  rw[hx1,hx2] at h2
  exact List.mem_map.2 ⟨_,h.per.mem_iff.2 h2,rfl⟩
 ·obtain⟨d,hd,rfl⟩:=List.mem_map.1 hc
  have h1:(d.1,d.2.1)∈vaC C:=h.per.mem_iff.1 (List.mem_map.2 ⟨d,hd,rfl⟩)
  obtain⟨x,hx,hx1,hx2⟩:=vaC_mem.1 h1
  have h2:=h.ne x hx
  rw[hx1,hx2] at h2
  exact h2.symm
 ·have h1:=h.star v E hE (fun d hd e=>hE.symm _ _ (hcE (turnC d) (List.mem_map.2 ⟨d,hd,rfl⟩) e))
  intro c hc d hd q1 q2
  obtain⟨c,hc',rfl⟩:=List.mem_map.1 hc
  obtain⟨d,hd',rfl⟩:=List.mem_map.1 hd
  exact hE.trans _ _ _ (hE.symm _ _ (hcE _ hc q1)) (hE.trans _ _ _ (h1 c hc' d hd' q1 q2) (hcE _ hd q2))
 ·obtain⟨d,hd,rfl⟩:=List.mem_map.1 hc
  exact h.sa d hd
theorem surf_name {C:List Cor} {S:List Int} (f:Int→Int) (h:Surf C S) (hf:∀p q,(p∈S∨∃c∈C,c.2.1=p)→(q∈S∨∃c∈C,c.2.1=q)→f p=f q→p=q):Surf (C.map (nameC f)) (S.map f):=by
 have e1:vaC (C.map (nameC f))=(vaC C).map (fun p=>(f p.1,f p.2)):=by unfold vaC nameC;simp[List.map_map,Function.comp_def]
 have e2:bvC (C.map (nameC f))=(bvC C).map (fun p=>(f p.1,f p.2)):=by unfold bvC nameC;simp[List.map_map,Function.comp_def]
 have hat:∀c∈C,∃d∈C,d.2.1=c.2.2:=fun c hc=>by
  obtain⟨d,hd,e,_⟩:=vaC_mem.1 (h.opp c hc)
  exact⟨d,hd,e⟩
 refine⟨?_,?_,fun c hc=>?_,fun c hc=>?_,fun v E hE hcE=>?_,?_,fun c hc q=>?_⟩
 ·rw[e1,e2];exact h.per.map _
 ·rw[e1,List.nodup_iff_pairwise_ne,List.pairwise_map]
  have hl:=h.nd
  rw[List.nodup_iff_pairwise_ne] at hl
  refine hl.imp_of_mem (fun {a b} ha hb hab e=>hab ?_)
  obtain⟨x,hx,x1,x2⟩:=vaC_mem.1 ha
  obtain⟨y,hy,y1,y2⟩:=vaC_mem.1 hb
  obtain⟨x',hx',x3⟩:=hat x hx
  obtain⟨y',hy',y3⟩:=hat y hy
  injection e with ea eb
  exact Prod.ext (hf _ _ (.inr ⟨x,hx,x1⟩) (.inr ⟨y,hy,y1⟩) ea) (hf _ _ (.inr ⟨x',hx',x3.trans x2⟩) (.inr ⟨y',hy',y3.trans y2⟩) eb)
 ·obtain⟨d,hd,rfl⟩:=List.mem_map.1 hc
  rw[e1]
  exact List.mem_map.2 ⟨_,h.opp d hd,rfl⟩
 ·obtain⟨d,hd,rfl⟩:=List.mem_map.1 hc
  intro e
  obtain⟨d',hd',e'⟩:=hat d hd
  exact h.ne d hd (hf _ _ (.inr ⟨d,hd,rfl⟩) (.inr ⟨d',hd',e'⟩) e)
 ·intro c hc d hd q1 q2
  obtain⟨c,hc',rfl⟩:=List.mem_map.1 hc
  obtain⟨d,hd',rfl⟩:=List.mem_map.1 hd
  have hcd:d.2.1=c.2.1:=hf _ _ (.inr ⟨d,hd',rfl⟩) (.inr ⟨c,hc',rfl⟩) (q2.trans q1.symm)
  exact h.star c.2.1 (fun p q=>E (f p) (f q)) ⟨fun _=>hE.refl _,fun _ _=>hE.symm _ _,fun _ _ _=>hE.trans _ _ _⟩ (fun x hx e=>hcE (nameC f x) (List.mem_map.2 ⟨x,hx,rfl⟩) (by show f x.2.1=v;rw[e];exact q1)) c hc' d hd' rfl hcd
 ·rw[List.nodup_iff_pairwise_ne,List.pairwise_map]
  have hl:=h.sd
  rw[List.nodup_iff_pairwise_ne] at hl
  exact hl.imp_of_mem (fun {a b} ha hb hab e=>hab (hf _ _ (.inl ha) (.inl hb) e))
 ·obtain⟨d,hd,rfl⟩:=List.mem_map.1 hc
  obtain⟨s,hs,e⟩:=List.mem_map.1 q
  have:=hf _ _ (.inl hs) (.inr ⟨d,hd,rfl⟩) e
  exact h.sa d hd (this ▸ hs)
theorem surf_both {C D:List Cor} {S T:List Int} (h:Surf C S) (k:Surf D T) (hd:∀p,(p∈S∨∃c∈C,c.2.1=p)→¬ (p∈T∨∃c∈D,c.2.1=p)):Surf (C ++ D) (S ++ T):=by
 have hcd:∀c∈C,∀d∈D,c.2.1≠d.2.1:=fun c hc d hd2 e=>hd _ (.inr ⟨c,hc,rfl⟩) (.inr ⟨d,hd2,e.symm⟩)
 refine⟨?_,?_,fun c hc=>?_,fun c hc=>?_,fun v E hE hcE c hc d hd2 q1 q2=>?_,?_,fun c hc q=>?_⟩
 ·rw[vaC_append,bvC_append];exact h.per.append k.per
 ·rw[vaC_append]
  refine List.nodup_append.2 ⟨h.nd,k.nd,fun a ha b hb e=>?_⟩
  obtain⟨x,hx,x1,_⟩:=vaC_mem.1 ha
  obtain⟨y,hy,y1,_⟩:=vaC_mem.1 hb
  exact hcd x hx y hy (by rw[x1,y1,e])
 ·rw[vaC_append]
  rcases List.mem_append.1 hc with hc | hc
  ·exact List.mem_append_left _ (h.opp c hc)
  ·exact List.mem_append_right _ (k.opp c hc)
 ·rcases List.mem_append.1 hc with hc | hc
  ·exact h.ne c hc
  ·exact k.ne c hc
 ·rcases List.mem_append.1 hc with hc | hc <;> rcases List.mem_append.1 hd2 with hd2 | hd2
  ·exact h.star v E hE (fun x hx=>hcE x (List.mem_append_left _ hx)) c hc d hd2 q1 q2
  ·exact absurd (q1.trans q2.symm) (hcd c hc d hd2)
  ·exact absurd (q2.trans q1.symm) (hcd d hd2 c hc)
  ·exact k.star v E hE (fun x hx=>hcE x (List.mem_append_right _ hx)) c hc d hd2 q1 q2
 ·exact List.nodup_append.2 ⟨h.sd,k.sd,fun a ha b hb e=>hd a (.inl ha) (.inl (e ▸ hb))⟩
 ·rcases List.mem_append.1 hc with hc | hc <;> rcases List.mem_append.1 q with q | q
  ·exact h.sa c hc q
  ·exact hd _ (.inr ⟨c,hc,rfl⟩) (.inl q)
  ·exact hd _ (.inl q) (.inr ⟨c,hc,rfl⟩)
  ·exact k.sa c hc q
def segC:Int→List Int→Int→List Cor
 | _,[],_=>[]
 | p,x :: A,n=>(p,x,A.headD n) :: segC x A n
def corL (l:List Int):List Cor:=if l.length=1 then[] else segC (l.getLastD 0) l (l.headD 0)
def solL (l:List Int):List Int:=if l.length=1 then l else[]
theorem segC_append (A B:List Int) (n:Int):∀p,segC p (A ++ B) n=segC p A (B.headD n) ++ segC (A.getLastD p) B n:=by
 induction A with
 | nil=>intro p;rfl
 | cons x A ih=>
  intro p
  rw[List.cons_append,segC,ih x,segC,List.getLastD_cons,List.cons_append]
  congr 3
  cases A <;> rfl
theorem segC_len (A:List Int) (n:Int):∀p,(segC p A n).length=A.length:=by
 induction A with
 | nil=>intro p;rfl
 | cons x A ih=>intro p;rw[segC,List.length_cons,List.length_cons,ih]
theorem segC_mid (A:List Int) (n:Int):∀p,(segC p A n).map (fun c=>c.2.1)=A:=by
 induction A with
 | nil=>intro p;rfl
 | cons x A ih=>intro p;rw[segC,List.map_cons,ih]
theorem segC_get (A:List Int) (n:Int):∀p i,i<A.length→(segC p A n)[i]?=some ((p :: A).getD i 0,A.getD i 0,(A ++ [n]).getD (i+1) 0):=by
 induction A with
 | nil=>intro p i h;simp at h
 | cons x A ih=>
  intro p i h
  cases i with
  | zero=>
   rw[segC]
   cases A <;> simp
  | succ i=>
   rw[segC,List.getElem?_cons_succ,ih x i (by simpa using h)]
   simp
theorem getLastD_append_ne (X Y:List Int) (h:Y≠[]) (d e:Int):(X ++ Y).getLastD d=Y.getLastD e:=by
 cases Y with
 | nil=>exact absurd rfl h
 | cons y Y=>rw[List.getLastD_eq_getLast?,List.getLastD_eq_getLast?,List.getLast?_append,List.getLast?_cons];rfl
theorem headD_append_ne (X Y:List Int) (h:X≠[]) (d e:Int):(X ++ Y).headD d=X.headD e:=by
 cases X with
 | nil=>exact absurd rfl h
 | cons y Y=>rfl
theorem corL_turn (X Y:List Int):(corL (X ++ Y)).Perm (corL (Y ++ X)):=by
 by_cases hx:X=[]
 ·subst hx;simp
 by_cases hy:Y=[]
 ·subst hy;simp
 unfold corL
 have hl:(X ++ Y).length≠1:=by
  rw[List.length_append]
  have:=List.length_pos_iff.2 hx
  have:=List.length_pos_iff.2 hy
  omega
 have hl2:(Y ++ X).length≠1:=by rw[List.length_append] at hl ⊢;omega
 rw[if_neg hl,if_neg hl2,getLastD_append_ne X Y hy 0 0,getLastD_append_ne Y X hx 0 0,headD_append_ne X Y hx 0 0,headD_append_ne Y X hy 0 0,segC_append,segC_append]
 have e1:Y.headD (X.headD 0)=Y.headD 0:=by cases Y with | nil=>exact absurd rfl hy | cons y Y=>rfl
 have e2:X.headD (Y.headD 0)=X.headD 0:=by cases X with | nil=>exact absurd rfl hx | cons y Y=>rfl
 have e3:X.getLastD (Y.getLastD 0)=X.getLastD 0:=by cases X with | nil=>exact absurd rfl hx | cons y Y=>rw[List.getLastD_cons,List.getLastD_cons]
 have e4:Y.getLastD (X.getLastD 0)=Y.getLastD 0:=by cases Y with | nil=>exact absurd rfl hy | cons y Y=>rw[List.getLastD_cons,List.getLastD_cons]
 rw[e1,e2,e3,e4]
 exact List.perm_append_comm
theorem solL_turn (X Y:List Int):solL (X ++ Y)=solL (Y ++ X):=by
 unfold solL
 rw[List.length_append,List.length_append]
 by_cases h:X.length+Y.length=1
 ·rw[if_pos h,if_pos (by omega)]
  rcases Nat.eq_zero_or_pos X.length with q | q
  ·rw[List.eq_nil_of_length_eq_zero q];simp
  ·rw[List.eq_nil_of_length_eq_zero (show Y.length=0 by omega)];simp
 ·rw[if_neg h,if_neg (by omega)]
theorem corL_bv (l:List Int):(bvC (corL l)).Perm (vaC (corL l)):=by
 have key:∀(A:List Int) (p n:Int),((p,A.headD n) :: vaC (segC p A n)).Perm ((A.getLastD p,n) :: bvC (segC p A n)):=by
  intro A
  induction A with
  | nil=>intro p n;simp[segC,vaC,bvC]
  | cons x A ih=>
   intro p n
   have h1:=ih x n
   show((p,x) :: (x,A.headD n) :: vaC (segC x A n)).Perm (((x :: A).getLastD p,n) :: (p,x) :: bvC (segC x A n))
   rw[List.getLastD_cons]
   exact(List.Perm.cons _ h1).trans (List.Perm.swap _ _ _)
 unfold corL
 split
 ·exact List.Perm.refl _
 ·cases l with
  | nil=>exact List.Perm.refl _
  | cons x A=>
   have h1:=key (x :: A) ((x :: A).getLastD 0) ((x :: A).headD 0)
   have e:(x :: A).getLastD ((x :: A).getLastD 0)=(x :: A).getLastD 0:=by rw[List.getLastD_cons,List.getLastD_cons]
   rw[e] at h1
   exact h1.cons_inv.symm
theorem corL_mid (l:List Int) (h:l.length≠1):(corL l).map (fun c=>c.2.1)=l:=by
 unfold corL;rw[if_neg h,segC_mid]
theorem segC_snoc (A:List Int) (x n p:Int):segC p (A ++ [x]) n=segC p A x ++ [(A.getLastD p,x,n)]:=segC_append A [x] n p
theorem segC_turn (A:List Int):∀p n,(segC n A.reverse p)=((segC p A n).map turnC).reverse:=by
 induction A with
 | nil=>intro p n;rfl
 | cons x A ih=>
  intro p n
  rw[List.reverse_cons,segC_append]
  show segC n A.reverse x ++ _=_
  rw[ih x n]
  simp only[segC,List.map_cons,List.reverse_cons]
  congr 1
  show[(A.reverse.getLastD n,x,p)]=[(A.headD n,x,p)]
  cases A with
  | nil=>rfl
  | cons y A=>rw[List.reverse_cons,getLastD_append_ne _ _ (by simp) n n];rfl
theorem corL_rev (l:List Int):(corL l.reverse).Perm ((corL l).map turnC):=by
 unfold corL
 rw[List.length_reverse]
 split
 ·exact List.Perm.refl _
 ·have e1:l.reverse.getLastD 0=l.headD 0:=by cases l with | nil=>rfl | cons x A=>rw[List.reverse_cons,getLastD_append_ne _ _ (by simp) 0 0];rfl
  have e2:l.reverse.headD 0=l.getLastD 0:=by
   cases h:l.reverse with
   | nil=>rw[List.reverse_eq_nil_iff.1 h];rfl
   | cons y B=>
    have:=congrArg List.reverse h
    rw[List.reverse_reverse,List.reverse_cons] at this
    rw[this,getLastD_append_ne _ _ (by simp) 0 0];rfl
  rw[e1,e2,segC_turn]
  exact List.reverse_perm _
theorem solL_rev (l:List Int):solL l.reverse=solL l:=by
 unfold solL
 rw[List.length_reverse]
 split
 ·rename_i h
  obtain⟨x,rfl⟩:=List.length_eq_one_iff.1 h
  rfl
 ·rfl
theorem segC_name (f:Int→Int) (A:List Int):∀p n,segC (f p) (A.map f) (f n)=(segC p A n).map (nameC f):=by
 induction A with
 | nil=>intro p n;rfl
 | cons x A ih=>
  intro p n
  rw[List.map_cons,segC,ih x n,segC,List.map_cons]
  congr 1
  show(f p,f x,(A.map f).headD (f n))=(f p,f x,f (A.headD n))
  cases A <;> rfl
theorem getLastD_map (f:Int→Int) (A:List Int):∀x,(A.map f).getLastD (f x)=f (A.getLastD x):=by
 induction A with
 | nil=>intro x;rfl
 | cons y A ih=>intro x;rw[List.map_cons,List.getLastD_cons,List.getLastD_cons,ih]
theorem corL_name (f:Int→Int) (l:List Int):corL (l.map f)=(corL l).map (nameC f):=by
 unfold corL
 rw[List.length_map]
 split
 ·rfl
 ·cases l with
  | nil=>rfl
  | cons x A=>
   rw[←segC_name]
   congr 1
   ·rw[List.map_cons,List.getLastD_cons,List.getLastD_cons,getLastD_map]
theorem solL_name (f:Int→Int) (l:List Int):solL (l.map f)=(solL l).map f:=by
 unfold solL;rw[List.length_map];split <;> rfl
def corS (L:List (List Int)):List Cor:=L.flatMap corL
def solS (L:List (List Int)):List Int:=L.flatMap solL
def SurfL (L:List (List Int)):Prop:=Surf (corS L) (solS L)
theorem corS_cons (l:List Int) (L:List (List Int)):corS (l :: L)=corL l ++ corS L:=List.flatMap_cons
theorem solS_cons (l:List Int) (L:List (List Int)):solS (l :: L)=solL l ++ solS L:=List.flatMap_cons
theorem SurfL.perm {L M:List (List Int)} (h:SurfL L) (hp:L.Perm M):SurfL M:=Surf.perm h (hp.flatMap_right _) (hp.flatMap_right _)
theorem SurfL.turn1 {X Y:List Int} {L:List (List Int)} (h:SurfL ((X ++ Y) :: L)):SurfL ((Y ++ X) :: L):=by
 unfold SurfL at *
 rw[corS_cons,solS_cons] at *
 exact h.perm ((corL_turn X Y).append_right _) (by rw[solL_turn])
theorem corL_two (v w:Int) (A B:List Int):corL (v :: (A ++ w :: B))=(B.getLastD w,v,A.headD w) :: (segC v A w ++ (A.getLastD v,w,B.headD v) :: segC w B v):=by
 unfold corL
 rw[if_neg (by simp),segC,segC_append,segC]
 congr 1
 ·rw[List.getLastD_cons,getLastD_append_ne A (w :: B) (by simp) v v,List.getLastD_cons]
  congr 2
  cases A <;> rfl
theorem corL_end (v w:Int) (A:List Int):corL (v :: (A ++ [w]))=(w,v,A.headD w) :: (segC v A w ++ [(A.getLastD v,w,v)]):=corL_two v w A []
theorem solL_more (v w:Int) (A B:List Int):solL (v :: (A ++ w :: B))=[]:=by
 unfold solL;rw[if_neg (by simp)]
theorem corS_two (v w:Int) (A B:List Int) (L:List (List Int)):(corS ((v :: (A ++ w :: B)) :: L)).Perm ([(B.getLastD w,v,A.headD w)] ++ [(A.getLastD v,w,B.headD v)] ++ (segC v A w ++ (segC w B v ++ corS L))):=by
 rw[corS_cons,corL_two]
 simp only[List.cons_append,List.append_assoc,List.nil_append]
 exact List.Perm.cons _ List.perm_middle
theorem corS_ends (v w:Int) (A B:List Int) (L:List (List Int)):(corS ((w :: (B ++ [v])) :: (v :: (A ++ [w])) :: L)).Perm ([(B.getLastD w,v,w),(w,v,A.headD w)] ++ [(A.getLastD v,w,v),(v,w,B.headD v)] ++ (segC v A w ++ (segC w B v ++ corS L))):=by
 rw[corS_cons,corS_cons,corL_end,corL_end]
 simp only[List.cons_append,List.append_assoc,List.nil_append]
 rw[List.perm_iff_count]
 intro c
 simp only[List.count_cons,List.count_append]
 omega
theorem solS_two (v w:Int) (A B:List Int) (L:List (List Int)):solS ((v :: (A ++ w :: B)) :: L)=solS L:=by rw[solS_cons,solL_more];rfl
theorem addE1 {v w:Int} {A B:List Int} {L:List (List Int)} (h:SurfL ((v :: (A ++ w :: B)) :: L)) (hvw:v≠w) (hno:(v,w) ∉ vaC (corS ((v :: (A ++ w :: B)) :: L))):SurfL ((w :: (B ++ [v])) :: (v :: (A ++ [w])) :: L):=by
 unfold SurfL at *
 have hp:=corS_two v w A B L
 rw[solS_two] at h
 have h1:=h.perm hp (List.Perm.refl _)
 rw[solS_two,solS_two]
 refine(edge_more (.mid _ _) (.mid _ _) h1 hvw (fun q=>hno ((hp.map _).mem_iff.2 q)) h.sd (fun x hx=>⟨hx,fun e=>?_,fun e=>?_⟩)).perm (corS_ends v w A B L).symm (List.Perm.refl _)
 ·subst e;exact h1.sa _ (by simp:(B.getLastD w,x,A.headD w)∈_) hx
 ·subst e;exact h1.sa _ (by simp:(A.getLastD v,x,B.headD v)∈_) hx
theorem dropE1 {v w:Int} {A B:List Int} {L:List (List Int)} (h:SurfL ((w :: (B ++ [v])) :: (v :: (A ++ [w])) :: L)):SurfL ((v :: (A ++ w :: B)) :: L):=by
 unfold SurfL at *
 rw[solS_two,solS_two] at h
 rw[solS_two]
 have h1:=h.perm (corS_ends v w A B L) (List.Perm.refl _)
 have hvw:v≠w:=h1.ne (B.getLastD w,v,w) (by simp)
 exact(edge_less (.mid _ _) (.mid _ _) h1 hvw h.sd (fun x hx hn=>absurd hx hn)).perm (corS_two v w A B L).symm (List.Perm.refl _)
def rndL (v:Int) (A:List Int):List Int:=if A=[] then[v] else v :: (A ++ [v])
def rndO (v:Int) (A:List Int):List Cor:=if A=[] then[] else[(A.getLastD v,v,A.headD v)]
def rndN (v w:Int) (A:List Int):List Cor:=if A=[] then[(w,v,w)] else[(A.getLastD v,v,w),(w,v,A.headD v)]
theorem rnd_old (v:Int) (A:List Int):corL (v :: A)=rndO v A ++ segC v A v:=by
 unfold corL rndO
 cases A with
 | nil=>rfl
 | cons x A=>
  rw[if_neg (by simp),if_neg (by simp),segC,List.getLastD_cons]
  rfl
theorem rnd_new (v w:Int) (A:List Int):(segC w (rndL v A) w).Perm (rndN v w A ++ segC v A v):=by
 unfold rndL rndN
 cases A with
 | nil=>exact List.Perm.refl _
 | cons x A=>
  rw[if_neg (by simp),if_neg (by simp),segC,segC_snoc]
  show((w,v,x) :: (segC v (x :: A) v ++ [((x :: A).getLastD v,v,w)])).Perm ([((x :: A).getLastD v,v,w),(w,v,x)] ++ segC v (x :: A) v)
  rw[List.perm_iff_count]
  intro c
  simp only[List.count_cons,List.count_append,List.count_nil]
  omega
theorem rnd_ins {v w:Int} {A:List Int} {C:List Cor} (h:A=[]→∀c∈C,c.2.1≠v):Ins v w C (rndO v A) (rndN v w A):=by
 unfold rndO rndN
 by_cases e:A=[]
 ·rw[if_pos e,if_pos e];exact .new (h e)
 ·rw[if_neg e,if_neg e];exact .mid _ _
theorem rndL_ne (v:Int) (A:List Int):rndL v A≠[]:=by unfold rndL;split <;> simp
theorem rndL_head (v d:Int) (A:List Int):(rndL v A).headD d=v:=by unfold rndL;split <;> rfl
theorem rndL_last (v d:Int) (A:List Int):(rndL v A).getLastD d=v:=by
 unfold rndL;split
 ·rfl
 ·rw[List.getLastD_cons,getLastD_append_ne A [v] (by simp) v v];rfl
theorem rnd_len (v w:Int) (A B:List Int):(rndL v A ++ rndL w B).length≠1:=by
 rw[List.length_append]
 have:=List.length_pos_iff.2 (rndL_ne v A)
 have:=List.length_pos_iff.2 (rndL_ne w B)
 omega
theorem corL_rnd (v w:Int) (A B:List Int):(corL (rndL v A ++ rndL w B)).Perm (rndN v w A ++ rndN w v B ++ (segC v A v ++ segC w B w)):=by
 unfold corL
 rw[if_neg (rnd_len v w A B),getLastD_append_ne _ _ (rndL_ne w B) 0 0,headD_append_ne _ _ (rndL_ne v A) 0 0,rndL_last,rndL_head,segC_append,rndL_head,rndL_last]
 refine((rnd_new v w A).append (rnd_new w v B)).trans ?_
 rw[List.perm_iff_count]
 intro c
 simp only[List.count_append]
 omega
theorem corS_rnd (v w:Int) (A B:List Int) (L:List (List Int)):(corS ((rndL v A ++ rndL w B) :: L)).Perm (rndN v w A ++ rndN w v B ++ (segC v A v ++ (segC w B w ++ corS L))):=by
 rw[corS_cons]
 refine((corL_rnd v w A B).append_right _).trans ?_
 simp only[List.append_assoc]
 exact List.Perm.refl _
theorem corS_old (v w:Int) (A B:List Int) (L:List (List Int)):(corS ((v :: A) :: (w :: B) :: L)).Perm (rndO v A ++ rndO w B ++ (segC v A v ++ (segC w B w ++ corS L))):=by
 rw[corS_cons,corS_cons,rnd_old,rnd_old]
 rw[List.perm_iff_count]
 intro c
 simp only[List.count_append]
 omega
theorem solS_rnd (v w:Int) (A B:List Int) (L:List (List Int)):solS ((rndL v A ++ rndL w B) :: L)=solS L:=by
 rw[solS_cons];unfold solL;rw[if_neg (rnd_len v w A B)];rfl
theorem solL_cons (v:Int) (A:List Int):solL (v :: A)=if A=[] then[v] else[]:=by
 unfold solL
 cases A <;> simp
theorem alone_no {v:Int} {A:List Int} {S:List Int} {C:List Cor} (h:Surf C (solL (v :: A) ++ S)) (hc:∀c∈corL (v :: A),c∈C):v ∉ S:=by
 intro q
 rw[solL_cons] at h
 by_cases e:A=[]
 ·rw[if_pos e] at h
  exact(List.nodup_cons.1 h.sd).1 q
 ·refine h.sa (A.getLastD v,v,A.headD v) (hc _ ?_) (List.mem_append_right _ q)
  rw[rnd_old];unfold rndO;rw[if_neg e];simp
theorem none_at {v:Int} {A:List Int} {S:List Int} {C:List Cor} (h:Surf C (solL (v :: A) ++ S)):A=[]→∀c∈C,c.2.1≠v:=by
 rintro rfl c hc e
 exact h.sa c hc (by rw[e];simp[solL])
theorem addE2 {v w:Int} {A B:List Int} {L:List (List Int)} (h:SurfL ((v :: A) :: (w :: B) :: L)) (hvw:v≠w) (hno:(v,w) ∉ vaC (corS ((v :: A) :: (w :: B) :: L))):SurfL ((rndL v A ++ rndL w B) :: L):=by
 unfold SurfL at *
 have hp:=corS_old v w A B L
 rw[solS_rnd]
 have hs:solS ((v :: A) :: (w :: B) :: L)=solL (v :: A) ++ (solL (w :: B) ++ solS L):=by rw[solS_cons,solS_cons]
 rw[hs] at h
 have hv:v ∉ solL (w :: B) ++ solS L:=alone_no h (fun c hc=>by rw[corS_cons];exact List.mem_append_left _ hc)
 have h':Surf (corS ((v :: A) :: (w :: B) :: L)) (solL (w :: B) ++ (solL (v :: A) ++ solS L)):=h.perm (List.Perm.refl _) (by rw[←List.append_assoc,←List.append_assoc];exact List.perm_append_comm.append_right _)
 have hw:w ∉ solL (v :: A) ++ solS L:=alone_no h' (fun c hc=>by rw[corS_cons,corS_cons];exact List.mem_append_right _ (List.mem_append_left _ hc))
 have h1:=h.perm hp (List.Perm.refl _)
 have h2:=h'.perm hp (List.Perm.refl _)
 refine(edge_more (rnd_ins (fun e c hc=>none_at h1 e c ?_)) (rnd_ins (fun e c hc=>none_at h2 e c ?_)) h1 hvw (fun q=>hno ((hp.map _).mem_iff.2 q)) ?_ (fun x hx=>⟨by simp[hx],fun e=>?_,fun e=>?_⟩)).perm (corS_rnd v w A B L).symm (List.Perm.refl _)
 ·rw[List.append_assoc];exact List.mem_append_right _ hc
 ·simp only[List.mem_append] at hc ⊢
  rcases hc with hc | hc <;> simp[hc]
 ·exact(h.sd.sublist (List.sublist_append_right _ _)).sublist (List.sublist_append_right _ _)
 ·exact hv (List.mem_append_right _ (e ▸ hx))
 ·exact hw (List.mem_append_right _ (e ▸ hx))
theorem star_lone {v w:Int} {C:List Cor} {S:List Int} (h:Surf ((w,v,w) :: C) S):∀c∈C,c.2.1≠v:=by
 intro c hc e
 have n1:(v,w) ∉ vaC C:=(List.nodup_cons.1 h.nd).1
 have n2:(w,v) ∉ bvC C:=(List.nodup_cons.1 (h.per.nodup_iff.2 h.nd)).1
 have hne:∀d∈C,d.2.1=v→d.2.2≠w∧d.1≠w:=fun d hd e=>⟨fun q=>n1 (vaC_mem.2 ⟨d,hd,e,q⟩),fun q=>n2 (bvC_mem.2 ⟨d,hd,q,e⟩)⟩
 have h1:=h.star v (fun p q=>p=w↔q=w) ⟨fun _=>Iff.rfl,fun _ _=>Iff.symm,fun _ _ _=>Iff.trans⟩ (fun d hd ed=>by
  rcases List.mem_cons.1 hd with rfl | hd
  ·exact Iff.rfl
  ·exact⟨fun q=>absurd q (hne d hd ed).2,fun q=>absurd q (hne d hd ed).1⟩) (w,v,w) List.mem_cons_self c (List.mem_cons_of_mem _ hc) rfl e
 exact(hne c hc e).1 (h1.1 rfl)
theorem dropE2 {v w:Int} {A B:List Int} {L:List (List Int)} (h:SurfL ((rndL v A ++ rndL w B) :: L)):SurfL ((v :: A) :: (w :: B) :: L):=by
 unfold SurfL at *
 rw[solS_rnd] at h
 have h1:=h.perm (corS_rnd v w A B L) (List.Perm.refl _)
 have hvw:v≠w:=by
  by_cases e:A=[]
  ·exact h1.ne (w,v,w) (by unfold rndN;rw[if_pos e];simp)
  ·exact h1.ne (A.getLastD v,v,w) (by unfold rndN;rw[if_neg e];simp)
 have hmv:∃c∈corS ((rndL v A ++ rndL w B) :: L),c.2.1=v:=by
  refine⟨(if A=[] then w else A.getLastD v,v,w),(corS_rnd v w A B L).mem_iff.2 ?_,rfl⟩
  unfold rndN;split <;> simp
 have hmw:∃c∈corS ((rndL v A ++ rndL w B) :: L),c.2.1=w:=by
  refine⟨(if B=[] then v else B.getLastD w,w,v),(corS_rnd v w A B L).mem_iff.2 ?_,rfl⟩
  unfold rndN;split <;> split <;> simp
 have hvS:v ∉ solS L:=by obtain⟨c,hc,e⟩:=hmv;rw[←e];exact h.sa c hc
 have hwS:w ∉ solS L:=by obtain⟨c,hc,e⟩:=hmw;rw[←e];exact h.sa c hc
 have hA0:A=[]→∀c∈rndN w v B ++ (segC v A v ++ (segC w B w ++ corS L)),c.2.1≠v:=fun e=>by
  refine star_lone (w:=w) (S:=solS L) (h1.perm ?_ (List.Perm.refl _))
  unfold rndN;rw[if_pos e];simp
 have hB0:B=[]→∀c∈rndN v w A ++ (segC v A v ++ (segC w B w ++ corS L)),c.2.1≠w:=fun e=>by
  refine star_lone (w:=v) (S:=solS L) (h1.perm ?_ (List.Perm.refl _))
  have e2:rndN w v B=[(v,w,v)]:=by unfold rndN;rw[if_pos e]
  rw[e2,List.append_assoc]
  exact List.perm_middle
 have hA:Ins v w (rndO w B ++ (segC v A v ++ (segC w B w ++ corS L))) (rndO v A) (rndN v w A):=rnd_ins (fun e c hc=>by
  rcases List.mem_append.1 hc with hc | hc
  ·unfold rndO at hc
   split at hc
   ·simp at hc
   ·rw[List.mem_singleton] at hc;subst hc;exact hvw.symm
  ·exact hA0 e c (List.mem_append_right _ hc))
 have hB:Ins w v (rndO v A ++ (segC v A v ++ (segC w B w ++ corS L))) (rndO w B) (rndN w v B):=rnd_ins (fun e c hc=>by
  rcases List.mem_append.1 hc with hc | hc
  ·unfold rndO at hc
   split at hc
   ·simp at hc
   ·rw[List.mem_singleton] at hc;subst hc;exact hvw
  ·exact hB0 e c (List.mem_append_right _ hc))
 rw[solS_cons,solS_cons,solL_cons,solL_cons]
 refine(edge_less hA hB h1 hvw ?_ (fun x hx hn c hc e=>?_)).perm (corS_old v w A B L).symm (List.Perm.refl _)
 ·have hb:((if B=[] then[w] else[]) ++ solS L).Nodup:=by
   split
   ·exact List.nodup_cons.2 ⟨hwS,h.sd⟩
   ·exact h.sd
  split
  ·refine List.nodup_cons.2 ⟨fun q=>?_,hb⟩
   rcases List.mem_append.1 (show v∈(if B=[] then[w] else[]) ++ solS L from q) with q | q
   ·split at q
    ·rw[List.mem_singleton] at q;exact hvw q
    ·simp at q
   ·exact hvS q
  ·exact hb
 ·rcases List.mem_append.1 hx with q | q
  ·split at q
   ·rename_i eA
    rw[List.mem_singleton] at q
    rw[q] at e
    rcases List.mem_append.1 hc with hc | hc
    ·rcases List.mem_append.1 hc with hc | hc
     ·unfold rndO at hc;rw[if_pos eA] at hc;simp at hc
     ·unfold rndO at hc
      split at hc
      ·simp at hc
      ·rw[List.mem_singleton] at hc;subst hc;exact hvw.symm e
    ·exact hA0 eA c (List.mem_append_right _ hc) e
   ·simp at q
  ·rcases List.mem_append.1 q with q | q
   ·split at q
    ·rename_i eB
     rw[List.mem_singleton] at q
     rw[q] at e
     rcases List.mem_append.1 hc with hc | hc
     ·rcases List.mem_append.1 hc with hc | hc
      ·unfold rndO at hc
       split at hc
       ·simp at hc
       ·rw[List.mem_singleton] at hc;subst hc;exact hvw e
      ·unfold rndO at hc;rw[if_pos eB] at hc;simp at hc
     ·exact hB0 eB c (List.mem_append_right _ hc) e
    ·simp at q
   ·exact hn q
theorem mem_corL {l:List Int} {c:Cor} (h:c∈corL l):c.2.1∈l:=by
 by_cases e:l.length=1
 ·unfold corL at h;rw[if_pos e] at h;simp at h
 ·rw[←corL_mid l e];exact List.mem_map.2 ⟨c,h,rfl⟩
theorem mem_solL {l:List Int} {x:Int} (h:x∈solL l):x∈l:=by
 unfold solL at h;split at h
 ·exact h
 ·simp at h
theorem mem_nodes {L:List (List Int)} {x:Int} (h:x∈solS L∨∃c∈corS L,c.2.1=x):∃l∈L,x∈l:=by
 rcases h with h | ⟨c,h,rfl⟩
 ·obtain⟨l,hl,hx⟩:=List.mem_flatMap.1 h
  exact⟨l,hl,mem_solL hx⟩
 ·obtain⟨l,hl,hx⟩:=List.mem_flatMap.1 h
  exact⟨l,hl,mem_corL hx⟩
theorem addSolo {n:Int} {L:List (List Int)} (h:SurfL L) (hn:∀l∈L,n ∉ l):SurfL ([n] :: L):=by
 unfold SurfL at *
 have hno:¬ (n∈solS L∨∃c∈corS L,c.2.1=n):=fun q=>by
  obtain⟨l,hl,hx⟩:=mem_nodes q
  exact hn l hl hx
 rw[corS_cons,solS_cons]
 exact⟨h.per,h.nd,h.opp,h.ne,h.star,List.nodup_cons.2 ⟨fun q=>hno (.inl q),h.sd⟩,fun c hc q=>by
  rcases List.mem_cons.1 q with q | q
  ·exact hno (.inr ⟨c,hc,q⟩)
  ·exact h.sa c hc q⟩
theorem dropSolo {n:Int} {L:List (List Int)} (h:SurfL ([n] :: L)):SurfL L∧∀l∈L,n ∉ l:=by
 unfold SurfL at *
 rw[corS_cons,solS_cons] at h
 refine⟨⟨h.per,h.nd,h.opp,h.ne,h.star,(List.nodup_cons.1 h.sd).2,fun c hc q=>h.sa c hc (List.mem_cons_of_mem _ q)⟩,fun l hl hx=>?_⟩
 by_cases e:l.length=1
 ·refine(List.nodup_cons.1 h.sd).1 (List.mem_flatMap.2 ⟨l,hl,?_⟩)
  unfold solL;rw[if_pos e];exact hx
 ·rw[←corL_mid l e] at hx
  obtain⟨c,hc,ec⟩:=List.mem_map.1 hx
  exact h.sa c (List.mem_flatMap.2 ⟨l,hl,hc⟩) (by rw[ec];exact List.mem_cons_self)
theorem surfL_name {L:List (List Int)} (f:Int→Int) (h:SurfL L) (hf:∀l∈L,∀p∈l,∀m∈L,∀q∈m,f p=f q→p=q):SurfL (L.map (List.map f)):=by
 have e1:corS (L.map (List.map f))=(corS L).map (nameC f):=by
  unfold corS;rw[List.flatMap_map,List.map_flatMap]
  exact congrArg (fun g=>L.flatMap g) (funext fun l=>corL_name f l)
 have e2:solS (L.map (List.map f))=(solS L).map f:=by
  unfold solS;rw[List.flatMap_map,List.map_flatMap]
  exact congrArg (fun g=>L.flatMap g) (funext fun l=>solL_name f l)
 unfold SurfL
 rw[e1,e2]
 refine surf_name f h (fun p q hp hq e=>?_)
 obtain⟨l,hl,h1⟩:=mem_nodes hp
 obtain⟨m,hm,h2⟩:=mem_nodes hq
 exact hf l hl p h1 m hm q h2 e
theorem surfL_rev {L:List (List Int)} (h:SurfL L):SurfL (L.map List.reverse):=by
 have e1:(corS (L.map List.reverse)).Perm ((corS L).map turnC):=by
  induction L with
  | nil=>exact List.Perm.refl _
  | cons l L ih=>
   have ih':(corS (L.map List.reverse)).Perm ((corS L).map turnC):=by
    clear ih h
    induction L with
    | nil=>exact List.Perm.refl _
    | cons m L ih=>rw[List.map_cons,corS_cons,corS_cons,List.map_append];exact(corL_rev m).append ih
   rw[List.map_cons,corS_cons,corS_cons,List.map_append]
   exact(corL_rev l).append ih'
 have e2:solS (L.map List.reverse)=solS L:=by
  unfold solS;rw[List.flatMap_map]
  exact congrArg (fun g=>L.flatMap g) (funext fun l=>solL_rev l)
 unfold SurfL
 rw[e2]
 exact(surf_turn h).perm e1.symm (List.Perm.refl _)
theorem surfL_both {L M:List (List Int)} (h:SurfL L) (k:SurfL M) (hd:∀l∈L,∀m∈M,∀x∈l,x ∉ m):SurfL (L ++ M):=by
 unfold SurfL
 rw[show corS (L ++ M)=corS L ++ corS M from List.flatMap_append,show solS (L ++ M)=solS L ++ solS M from List.flatMap_append]
 refine surf_both h k (fun p hp hq=>?_)
 obtain⟨l,hl,h1⟩:=mem_nodes hp
 obtain⟨m,hm,h2⟩:=mem_nodes hq
 exact hd l hl m hm p h1 h2
end Go.Proofs.Ytealnhaffphamaa
