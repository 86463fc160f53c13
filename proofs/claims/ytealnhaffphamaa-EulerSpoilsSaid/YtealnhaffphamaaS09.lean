/- Contracts of the functions that the statement reaches, and plain lemmas: part 9 of 31. -/
import Derived.Test.YtealnhaffphamaaS08
import Derived.Test.YtealnhaffphamaaS05
set_option linter.unusedVariables false
set_option linter.unusedSimpArgs false

namespace Go.Proofs.Ytealnhaffphamaa
def turnL (l:List Int) (i:Nat):List Int:=l.drop i ++ l.take i
theorem turnL_len (l:List Int) (i:Nat):(turnL l i).length=l.length:=by unfold turnL;simp;omega
theorem turnL_cons {l:List Int} {i:Nat} (h:i<l.length):turnL l i=l.getD i 0 :: (l.drop (i+1) ++ l.take i):=by
 unfold turnL
 rw[List.drop_eq_getElem_cons h,List.getD_eq_getElem?_getD,List.getElem?_eq_getElem h];rfl
theorem turnL_get {l:List Int} {i k:Nat} (h:i≤l.length) (hk:k<l.length):(turnL l i)[k]?=l[(i+k) % l.length]?:=by
 unfold turnL
 rcases Nat.lt_or_ge (i+k) l.length with q | q
 ·rw[List.getElem?_append_left (by rw[List.length_drop];omega),List.getElem?_drop,Nat.mod_eq_of_lt q]
 ·rw[List.getElem?_append_right (by rw[List.length_drop];omega),List.length_drop,List.getElem?_take_of_lt (by omega)]
  have e:(i+k) % l.length=i+k - l.length:=by rw[Nat.mod_eq_sub_mod q,Nat.mod_eq_of_lt (by omega)]
  rw[e];congr 1;omega
theorem turnL_turn {l:List Int} {i j:Nat} (hi:i<l.length) (hj:j<l.length):turnL (turnL l i) ((j+l.length - i) % l.length)=turnL l j:=by
 refine List.ext_getElem? (fun k=>?_)
 by_cases hk:k<l.length
 ·have hm:(j+l.length - i) % l.length<l.length:=Nat.mod_lt _ (by omega)
  rw[turnL_get (by rw[turnL_len];omega) (by rw[turnL_len];exact hk),turnL_len,turnL_get (by omega) (Nat.mod_lt _ (by omega)),turnL_get (by omega) hk]
  congr 1
  rw[Nat.add_mod i,Nat.mod_mod,←Nat.add_mod,←Nat.add_assoc,Nat.add_mod,Nat.add_mod i,Nat.mod_mod,←Nat.add_mod i,←Nat.add_mod]
  rw[show i+(j+l.length - i)+k=j+k+l.length by omega,Nat.add_mod_right]
 ·rw[List.getElem?_eq_none (by rw[turnL_len,turnL_len];omega),List.getElem?_eq_none (by rw[turnL_len];omega)]
def upToL (l:List Int) (i j:Nat):List Int:=(turnL l i).take ((j+l.length - i) % l.length+1)
def roundL (l:List Int) (i:Nat):List Int:=if l.length=1 then l else turnL l i ++ [l.getD i 0]
def shutL (l:List Int):List Int:=if 1<l.length then l.dropLast else l
theorem shutL_rnd (v:Int) (A:List Int):shutL (rndL v A)=v :: A:=by
 unfold shutL rndL
 by_cases e:A=[]
 ·rw[if_pos e,if_neg (by simp),e]
 ·rw[if_neg e,if_pos (by simp),←List.cons_append,List.dropLast_concat]
theorem roundL_rnd {l:List Int} {i:Nat} (h:i<l.length):roundL l i=rndL (l.getD i 0) (l.drop (i+1) ++ l.take i):=by
 unfold roundL rndL
 by_cases e:l.length=1
 ·obtain⟨x,rfl⟩:=List.length_eq_one_iff.1 e
  obtain rfl:i=0:=by simpa using h
  rfl
 ·rw[if_neg e,turnL_cons h,if_neg (fun q=>by have:=congrArg List.length q;rw[List.length_append,List.length_drop,List.length_take,List.length_nil] at this;omega)]
  rfl
theorem turn_part {l:List Int} {i j:Nat} (hi:i<l.length) (hj:j<l.length) (hne:i≠j):∃A B,turnL l i=l.getD i 0 :: (A ++ l.getD j 0 :: B)∧turnL l j=l.getD j 0 :: (B ++ l.getD i 0 :: A)∧upToL l i j=l.getD i 0 :: (A ++ [l.getD j 0])∧upToL l j i=l.getD j 0 :: (B ++ [l.getD i 0]):=by
 have hm:(j+l.length - i) % l.length<l.length:=Nat.mod_lt _ (by omega)
 have hme:(i+l.length - j) % l.length<l.length:=Nat.mod_lt _ (by omega)
 have hm0:(j+l.length - i) % l.length+(i+l.length - j) % l.length=l.length:=by
  rcases Nat.lt_or_ge i j with q | q
  ·rw[show j+l.length - i=(j - i)+l.length by omega,Nat.add_mod_right,Nat.mod_eq_of_lt (by omega),Nat.mod_eq_of_lt (show i+l.length - j<l.length by omega)];omega
  ·rw[show i+l.length - j=(i - j)+l.length by omega,Nat.add_mod_right,Nat.mod_eq_of_lt (show i - j<l.length by omega),Nat.mod_eq_of_lt (show j+l.length - i<l.length by omega)];omega
 have hij:=turnL_turn hi hj
 have hji:=turnL_turn hj hi
 have h1:∃X,turnL l i=l.getD i 0 :: X:=⟨_,turnL_cons hi⟩
 have h2:∃Y,turnL l j=l.getD j 0 :: Y:=⟨_,turnL_cons hj⟩
 have hl1:=turnL_len l i
 have hl2:=turnL_len l j
 unfold upToL
 generalize (j+l.length - i) % l.length=d at hm hm0 hij ⊢
 generalize (i+l.length - j) % l.length=e at hm0 hme hji ⊢
 obtain⟨X,hX⟩:=h1
 obtain⟨Y,hY⟩:=h2
 have hd0:0<d:=by
  rcases Nat.eq_zero_or_pos d with rfl | q
  ·have:e=l.length:=by omega
   omega
  ·exact q
 obtain⟨d,rfl⟩:∃d',d=d'+1:=⟨d - 1,by omega⟩
 have h3:(turnL l i).drop (d+1) ++ (turnL l i).take (d+1)=l.getD j 0 :: Y:=by rw[←hY,←hij];rfl
 rw[hX] at h3 hl1
 rw[List.drop_succ_cons,List.take_succ_cons] at h3
 rw[List.length_cons] at hl1
 have hdl:d<X.length:=by omega
 rw[List.drop_eq_getElem_cons hdl,List.cons_append] at h3
 injection h3 with h4 h5
 refine⟨X.take d,X.drop (d+1),?_,?_,?_,?_⟩
 ·rw[hX,←h4,←List.drop_eq_getElem_cons hdl,List.take_append_drop]
 ·rw[hY,←h5]
 ·rw[hX,List.take_succ_cons,List.take_succ_eq_append_getElem hdl,h4]
 ·rw[hY,List.take_succ_cons,←h5]
  congr 1
  have he:e=(X.drop (d+1)).length+1:=by rw[List.length_drop];omega
  rw[he,List.take_length_add_append]
  rfl
theorem SurfL.turn {l:List Int} {L:List (List Int)} (h:SurfL (l :: L)) (i:Nat):SurfL (turnL l i :: L):=by
 unfold turnL
 rw[←List.take_append_drop i l] at h
 exact h.turn1
theorem SurfL.unturn {l:List Int} {L:List (List Int)} {i:Nat} (h:SurfL (turnL l i :: L)):SurfL (l :: L):=by
 have h1:=SurfL.turn1 (X:=l.drop i) (Y:=l.take i) h
 rwa [List.take_append_drop] at h1
theorem erase_perm {α:Type} (d:α):∀(xs:List α) (i:Nat),i<xs.length→xs.Perm (xs.getD i d :: xs.eraseIdx i):=by
 intro xs
 induction xs with
 | nil=>intro i h;simp at h
 | cons x xs ih=>
  intro i h
  cases i with
  | zero=>exact List.Perm.refl _
  | succ i=>
   have h1:=ih i (by simpa using h)
   exact(List.Perm.cons x h1).trans (List.Perm.swap _ _ _)
theorem set_perm {α:Type} (d:α) {xs:List α} {i:Nat} (h:i<xs.length) (y:α):(xs.set i y).Perm (y :: xs.eraseIdx i):=by
 have h1:=erase_perm d (xs.set i y) i (by simpa using h)
 rw[List.eraseIdx_set_eq,List.getD_eq_getElem?_getD,List.getElem?_set_self h] at h1
 exact h1
def othL (fs:Fs) (f l:Nat):List (List Int):=(fcA fs f).eraseIdx l ++ (fs.eraseIdx f).flatten
theorem flat_face {fs:Fs} {f:Nat} (hf:f<fs.length):fs.flatten.Perm (fcA fs f ++ (fs.eraseIdx f).flatten):=(erase_perm [] fs f hf).flatten
theorem flat_setF {fs:Fs} {f:Nat} (hf:f<fs.length) (y:List (List Int)):(fs.set f y).flatten.Perm (y ++ (fs.eraseIdx f).flatten):=(set_perm [] hf y).flatten
theorem flat_at {fs:Fs} {f l:Nat} (hf:f<fs.length) (hl:l<(fcA fs f).length):fs.flatten.Perm (lpA fs f l :: othL fs f l):=
 (flat_face hf).trans ((erase_perm [] (fcA fs f) l hl).append_right _)
theorem flat_setL {fs:Fs} {f l:Nat} (hf:f<fs.length) (hl:l<(fcA fs f).length) (x:List Int):(setL fs f l x).flatten.Perm (x :: othL fs f l):=
 (flat_setF hf _).trans ((set_perm [] hl x).append_right _)
theorem so_addNode {fs:Fs} {f l i:Nat} {n:Int} (h:SurfL fs.flatten) (hf:f<fs.length) (hl:l<(fcA fs f).length) (hi:i<(lpA fs f l).length) (hn:∀m∈fs.flatten,n ∉ m) :
  SurfL (setL fs f l ((lpA fs f l).take (i+1) ++ (if (lpA fs f l).length=1 then[n] else[n,(lpA fs f l).getD i 0]) ++ (lpA fs f l).drop (i+1))).flatten:=by
 have h1:=addSolo h hn
 have hp:=flat_at hf hl
 have h2:SurfL ([n] :: lpA fs f l :: othL fs f l):=h1.perm (List.Perm.cons _ hp)
 have h3:SurfL (lpA fs f l :: [n] :: othL fs f l):=h2.perm (List.Perm.swap _ _ _)
 have h4:=h3.turn i
 rw[turnL_cons hi] at h4
 have h5:=h4.perm (List.Perm.swap _ _ _)
 have hno:∀m∈(((lpA fs f l).getD i 0 :: ((lpA fs f l).drop (i+1) ++ (lpA fs f l).take i)) :: othL fs f l),n ∉ m:=by
  intro m hm q
  rcases List.mem_cons.1 hm with rfl | hm
  ·rw[←turnL_cons hi] at q
   unfold turnL at q
   refine hn (lpA fs f l) (hp.mem_iff.2 List.mem_cons_self) ?_
   rcases List.mem_append.1 q with q | q
   ·exact List.mem_of_mem_drop q
   ·exact List.mem_of_mem_take q
  ·exact hn m (hp.mem_iff.2 (List.mem_cons_of_mem _ hm)) q
 have h6:=addE2 (A:=[]) h5 (fun e=>hno _ List.mem_cons_self (by rw[←e];exact List.mem_cons_self)) (fun q=>by
  obtain⟨c,hc,e1,_⟩:=vaC_mem.1 q
  rw[corS_cons] at hc
  rcases List.mem_append.1 hc with hc | hc
  ·simp[corL] at hc
  ·obtain⟨m,hm,hx⟩:=mem_nodes (.inr ⟨c,hc,e1⟩)
   exact hno m hm hx)
 refine SurfL.perm ?_ (flat_setL hf hl _).symm
 generalize othL fs f l=L at h6
 generalize lpA fs f l=r at h6 hi ⊢
 refine SurfL.unturn (i:=i+1) ?_
 have e1:turnL (r.take (i+1) ++ (if r.length=1 then[n] else[n,r.getD i 0]) ++ r.drop (i+1)) (i+1)=(if r.length=1 then[n] else[n,r.getD i 0]) ++ r.drop (i+1) ++ r.take (i+1):=by
  unfold turnL
  have hlt:(r.take (i+1)).length=i+1:=by rw[List.length_take];omega
  rw[List.append_assoc]
  congr 1
  ·rw[List.drop_append_of_le_length (by omega),List.drop_of_length_le (by omega)];rfl
  ·rw[List.take_append_of_le_length (by omega),List.take_of_length_le (by omega)]
 rw[e1]
 have e2:r.take (i+1)=r.take i ++ [r.getD i 0]:=by
  rw[List.take_succ_eq_append_getElem hi,List.getD_eq_getElem?_getD,List.getElem?_eq_getElem hi];rfl
 have e3:(if r.length=1 then[n] else[n,r.getD i 0]) ++ r.drop (i+1) ++ (r.take i ++ [r.getD i 0])=rndL n [] ++ rndL (r.getD i 0) (r.drop (i+1) ++ r.take i):=by
  unfold rndL
  rw[if_pos rfl]
  by_cases e:r.length=1
  ·obtain⟨x,rfl⟩:=List.length_eq_one_iff.1 e
   obtain rfl:i=0:=by simpa using hi
   rfl
  ·rw[if_neg e,if_neg (fun q=>by have:=congrArg List.length q;rw[List.length_append,List.length_drop,List.length_take,List.length_nil] at this;omega)]
   simp
 rw[e2,e3]
 exact h6
theorem so_edge1 {fs:Fs} {f l i j:Nat} (h:SurfL fs.flatten) (hf:f<fs.length) (hl:l<(fcA fs f).length) (hi:i<(lpA fs f l).length) (hj:j<(lpA fs f l).length)
  (hne:(lpA fs f l).getD i 0≠(lpA fs f l).getD j 0) (hno:((lpA fs f l).getD i 0,(lpA fs f l).getD j 0) ∉ vaC (corS fs.flatten)) :
  SurfL (setL fs f l (upToL (lpA fs f l) j i) ++ [[upToL (lpA fs f l) i j]]).flatten:=by
 have hp:=flat_at hf hl
 have hij:i≠j:=fun e=>hne (by rw[e])
 obtain⟨A,B,e1,e2,e3,e4⟩:=turn_part hi hj hij
 have h1:=(h.perm hp).turn i
 have hv:vaC (corS (turnL (lpA fs f l) i :: othL fs f l)) |>.Perm (vaC (corS fs.flatten)):=by
  refine List.Perm.map _ ?_
  refine List.Perm.trans ?_ (List.Perm.flatMap_right _ hp).symm
  show(corS _).Perm (corS _)
  rw[corS_cons,corS_cons]
  refine List.Perm.append_right _ ?_
  have:=corL_turn ((lpA fs f l).take i) ((lpA fs f l).drop i)
  rw[List.take_append_drop] at this
  exact this.symm
 rw[e1] at h1 hv
 have h2:=addE1 h1 hne (fun q=>hno (hv.mem_iff.1 q))
 refine h2.perm ?_
 rw[e3,e4,List.flatten_append]
 refine List.Perm.trans ?_ ((flat_setL hf hl _).append_right _).symm
 rw[List.cons_append]
 refine List.Perm.cons _ ?_
 show(_ :: othL fs f l).Perm (othL fs f l ++ [_])
 exact(List.perm_append_comm (l₁:=[_]))
theorem join_perm {fs:Fs} {f k m:Nat} (hf:f<fs.length) (hm:m<(fcA fs f).length) (hk:k<m):fs.flatten.Perm (lpA fs f k :: lpA fs f m :: (((fcA fs f).eraseIdx m).eraseIdx k ++ (fs.eraseIdx f).flatten)) ∧
  ∀row,(fs.set f (((fcA fs f).set k row).eraseIdx m)).flatten.Perm (row :: (((fcA fs f).eraseIdx m).eraseIdx k ++ (fs.eraseIdx f).flatten)):=by
 have h1:=erase_perm [] (fcA fs f) m hm
 have hkl:k<((fcA fs f).eraseIdx m).length:=by rw[List.length_eraseIdx_of_lt hm];omega
 have h2:=erase_perm [] ((fcA fs f).eraseIdx m) k hkl
 have e:((fcA fs f).eraseIdx m).getD k []=lpA fs f k:=by
  rw[List.getD_eq_getElem?_getD,List.getElem?_eraseIdx_of_lt hk];rfl
 rw[e] at h2
 constructor
 ·refine(flat_face hf).trans ?_
  refine((h1.trans ((List.Perm.cons _ h2).trans (List.Perm.swap _ _ _))).append_right _).trans ?_
  exact List.Perm.refl _
 ·intro row
  refine(flat_setF hf _).trans ?_
  rw[List.eraseIdx_set_gt hk]
  exact(set_perm [] hkl row).append_right _
theorem so_edge2 {fs:Fs} {f k m i j:Nat} (h:SurfL fs.flatten) (hf:f<fs.length) (hk:k<(fcA fs f).length) (hm:m<(fcA fs f).length) (hkm:k≠m) (hi:i<(lpA fs f k).length) (hj:j<(lpA fs f m).length)
  (hne:(lpA fs f k).getD i 0≠(lpA fs f m).getD j 0) (hno:((lpA fs f k).getD i 0,(lpA fs f m).getD j 0) ∉ vaC (corS fs.flatten)) :
  SurfL (fs.set f (((fcA fs f).set (min k m) (roundL (lpA fs f k) i ++ roundL (lpA fs f m) j)).eraseIdx (max k m))).flatten:=by
 obtain⟨R,hp,hq⟩:∃R,fs.flatten.Perm (lpA fs f k :: lpA fs f m :: R)∧∀row,(fs.set f (((fcA fs f).set (min k m) row).eraseIdx (max k m))).flatten.Perm (row :: R):=by
  rcases Nat.lt_or_ge k m with q | q
  ·rw[Nat.min_eq_left (by omega),Nat.max_eq_right (by omega)]
   exact⟨_,join_perm hf hm q⟩
  ·rw[Nat.min_eq_right (by omega),Nat.max_eq_left (by omega)]
   obtain⟨h1,h2⟩:=join_perm hf hk (show m<k by omega)
   exact⟨_,h1.trans (List.Perm.swap _ _ _),h2⟩
 refine SurfL.perm ?_ (hq _).symm
 rw[roundL_rnd hi,roundL_rnd hj]
 have h1:=(((h.perm hp).turn i).perm (List.Perm.swap _ _ _)).turn j
 have h2:=h1.perm (List.Perm.swap _ _ _)
 have hv:(vaC (corS (turnL (lpA fs f k) i :: turnL (lpA fs f m) j :: R))).Perm (vaC (corS fs.flatten)):=by
  refine List.Perm.map _ ?_
  refine List.Perm.trans ?_ (List.Perm.flatMap_right _ hp).symm
  show(corS _).Perm (corS _)
  rw[corS_cons,corS_cons,corS_cons,corS_cons]
  have t1:=corL_turn ((lpA fs f k).take i) ((lpA fs f k).drop i)
  have t2:=corL_turn ((lpA fs f m).take j) ((lpA fs f m).drop j)
  rw[List.take_append_drop] at t1 t2
  exact t1.symm.append (t2.symm.append_right _)
 rw[turnL_cons hi,turnL_cons hj] at h2 hv
 exact addE2 h2 hne (fun q=>hno (hv.mem_iff.1 q))
theorem rnd_of {l:List Int} {v:Int} (h:∃A,l=v :: A) (h2:∃B,l=B ++ [v]) (hne:l≠[v,v]):∃A,l=rndL v A:=by
 obtain⟨A,rfl⟩:=h
 obtain⟨B,hB⟩:=h2
 cases B with
 | nil=>exact⟨[],by rw[hB];rfl⟩
 | cons y B=>
  injection hB with e1 e2
  subst e1
  cases B with
  | nil=>exact absurd (by rw[e2];rfl) hne
  | cons z B=>exact⟨z :: B,by unfold rndL;rw[if_neg (by simp),e2];rfl⟩
theorem no_twice {X Y:List Int} {v:Int} {L:List (List Int)} (h:SurfL ((X ++ v :: v :: Y) :: L)):False:=by
 have h1:=SurfL.turn1 h
 unfold SurfL at h1
 rw[corS_cons] at h1
 have hl:((v :: v :: Y) ++ X).length≠1:=by simp
 refine h1.ne (((v :: v :: Y) ++ X).getLastD 0,v,v) (List.mem_append_left _ ?_) rfl
 unfold corL
 rw[if_neg hl]
 show _∈segC _ (v :: (v :: Y ++ X)) _
 rw[segC]
 exact List.mem_cons_self
theorem so_drop1 {fs:Fs} {f l i j:Nat} {v w:Int} (h:SurfL fs.flatten) (hf:f<fs.length) (hl:l<(fcA fs f).length) (hi:i<(lpA fs f l).length) (hj:j<(lpA fs f l).length)
  (hv:(lpA fs f l).getD i 0=v) (hw:(lpA fs f l).getD ((i+1) % (lpA fs f l).length) 0=w) (hw2:(lpA fs f l).getD j 0=w) (hv2:(lpA fs f l).getD ((j+1) % (lpA fs f l).length) 0=v) (hvw:v≠w) :
  SurfL (fs.set f ((fcA fs f).set l (shutL (upToL (lpA fs f l) ((i+1) % (lpA fs f l).length) j)) ++ [shutL (upToL (lpA fs f l) ((j+1) % (lpA fs f l).length) i)])).flatten:=by
 have hp:=flat_at hf hl
 have hS:=h.perm hp
 have hq:∀x y,(fs.set f ((fcA fs f).set l x ++ [y])).flatten.Perm (x :: y :: othL fs f l):=fun x y=>by
  refine(flat_setF hf _).trans ?_
  refine(((set_perm [] hl x).append_right _).append_right _).trans ?_
  unfold othL
  simp only[List.cons_append,List.append_assoc]
  refine List.Perm.cons _ ?_
  exact List.perm_middle
 refine SurfL.perm ?_ (hq _ _).symm
 clear hq
 generalize othL fs f l=L at hS ⊢
 generalize lpA fs f l=r at *
 clear hp hl hf h
 have hn:0<r.length:=by omega
 obtain⟨a,ha⟩:∃a,a=(i+1) % r.length:=⟨_,rfl⟩
 obtain⟨b,hb⟩:∃b,b=(j+1) % r.length:=⟨_,rfl⟩
 have hal:a<r.length:=by rw[ha];exact Nat.mod_lt _ hn
 have hbl:b<r.length:=by rw[hb];exact Nat.mod_lt _ hn
 rw[←ha] at hw ⊢
 rw[←hb] at hv2 ⊢
 have hab:a≠b:=fun e=>hvw (by rw[←hv2,←e,hw])
 have hlen:∀p q,p<r.length→q<r.length→p≠(q+1) % r.length→(q+r.length - p) % r.length+1=((q+1) % r.length+r.length - p) % r.length:=by
  intro p q hp hq hne
  rcases Nat.lt_or_ge (q+1) r.length with c | c
  ·rw[Nat.mod_eq_of_lt c] at hne ⊢
   rcases Nat.lt_or_ge q p with d | d
   ·rw[Nat.mod_eq_of_lt (show q+r.length - p<r.length by omega),Nat.mod_eq_of_lt (show q+1+r.length - p<r.length by omega)];omega
   ·rw[show q+r.length - p=(q - p)+r.length by omega,show q+1+r.length - p=(q+1 - p)+r.length by omega,Nat.add_mod_right,Nat.add_mod_right,Nat.mod_eq_of_lt (by omega),Nat.mod_eq_of_lt (by omega)];omega
  ·obtain e:q+1=r.length:=by omega
   rw[e,Nat.mod_self] at hne ⊢
   rw[show q+r.length - p=(r.length - 1 - p)+r.length by omega,Nat.add_mod_right,Nat.mod_eq_of_lt (by omega),Nat.zero_add,Nat.mod_eq_of_lt (by omega)];omega
 have hjb:=hlen a j hal hj (by rw[←hb];exact hab)
 have hia:=hlen b i hbl hi (by rw[←ha];exact hab.symm)
 rw[←hb] at hjb
 rw[←ha] at hia
 obtain⟨A,B,e1,e2,e3,e4⟩:=turn_part hal hbl hab
 rw[hw,hv2] at e1 e2 e3 e4
 have hX:upToL r a j=w :: A:=by
  have h5:upToL r a b=(turnL r a).take ((j+r.length - a) % r.length+1+1):=by unfold upToL;rw[hjb]
  unfold upToL at e3 ⊢
  rw[←hjb] at e3
  have h6:=congrArg List.length e3
  rw[List.length_take,turnL_len] at h6
  have h7:(turnL r a).take ((j+r.length - a) % r.length+1)=(w :: (A ++ [v])).take ((j+r.length - a) % r.length+1):=by rw[←e3,List.take_take,Nat.min_eq_left (by omega)]
  have hb2:(j+r.length - a) % r.length+1≤r.length:=Nat.mod_lt _ hn
  have h8:(j+r.length - a) % r.length+1+1≤r.length:=by
   rw[hjb];exact Nat.mod_lt _ hn
  rw[h7,←List.cons_append,List.take_append_of_le_length (by simp at h6 ⊢;omega),List.take_of_length_le (by simp at h6 ⊢;omega)]
 have hY:upToL r b i=v :: B:=by
  unfold upToL at e4 ⊢
  rw[←hia] at e4
  have h6:=congrArg List.length e4
  rw[List.length_take,turnL_len] at h6
  have h7:(turnL r b).take ((i+r.length - b) % r.length+1)=(v :: (B ++ [w])).take ((i+r.length - b) % r.length+1):=by rw[←e4,List.take_take,Nat.min_eq_left (by omega)]
  have h8:(i+r.length - b) % r.length+1+1≤r.length:=by
   rw[hia];exact Nat.mod_lt _ hn
  rw[h7,←List.cons_append,List.take_append_of_le_length (by simp at h6 ⊢;omega),List.take_of_length_le (by simp at h6 ⊢;omega)]
 have hT:=hS.turn a
 rw[e1] at hT
 have hget:∀p k,p<r.length→k<r.length→(turnL r p)[k]?=some (r.getD ((p+k) % r.length) 0):=fun p k hp hk=>by
  rw[turnL_get (by omega) hk,List.getD_eq_getElem?_getD,List.getElem?_eq_getElem (Nat.mod_lt _ hn)];rfl
 have hAe:∃C,w :: A=C ++ [w]:=by
  have hk:A.length<r.length:=by have:=congrArg List.length e1;rw[turnL_len] at this;simp at this;omega
  have h5:=hget a A.length hal hk
  have h6:(a+A.length) % r.length=j:=by
   have h7:=congrArg List.length hX
   unfold upToL at h7
   rw[List.length_take,turnL_len] at h7
   have h8:(j+r.length - a) % r.length+1≤r.length:=Nat.mod_lt _ hn
   have h9:A.length=(j+r.length - a) % r.length:=by simp at h7;omega
   rw[h9,Nat.add_mod,Nat.mod_mod,←Nat.add_mod,show a+(j+r.length - a)=j+r.length by omega,Nat.add_mod_right,Nat.mod_eq_of_lt hj]
  rw[h6,hw2,e1,←List.cons_append,List.getElem?_append_left (by simp)] at h5
  refine⟨(w :: A).dropLast,?_⟩
  have h7:(w :: A).getLast?=some w:=by rw[List.getLast?_eq_getElem?];exact h5
  rw[←List.dropLast_concat_getLast (show w :: A≠[] by simp)]
  rw[List.getLast?_eq_some_getLast (show w :: A≠[] by simp)] at h7
  injection h7 with h7
  rw[h7];simp
 have hBe:∃C,v :: B=C ++ [v]:=by
  have hk:B.length<r.length:=by have:=congrArg List.length e2;rw[turnL_len] at this;simp at this;omega
  have h5:=hget b B.length hbl hk
  have h6:(b+B.length) % r.length=i:=by
   have h7:=congrArg List.length hY
   unfold upToL at h7
   rw[List.length_take,turnL_len] at h7
   have h8:(i+r.length - b) % r.length+1≤r.length:=Nat.mod_lt _ hn
   have h9:B.length=(i+r.length - b) % r.length:=by simp at h7;omega
   rw[h9,Nat.add_mod,Nat.mod_mod,←Nat.add_mod,show b+(i+r.length - b)=i+r.length by omega,Nat.add_mod_right,Nat.mod_eq_of_lt hi]
  rw[h6,hv,e2,←List.cons_append,List.getElem?_append_left (by simp)] at h5
  refine⟨(v :: B).dropLast,?_⟩
  have h7:(v :: B).getLast?=some v:=by rw[List.getLast?_eq_getElem?];exact h5
  rw[←List.dropLast_concat_getLast (show v :: B≠[] by simp)]
  rw[List.getLast?_eq_some_getLast (show v :: B≠[] by simp)] at h7
  injection h7 with h7
  rw[h7];simp
 obtain⟨A',hA'⟩:=rnd_of ⟨A,rfl⟩ hAe (fun q=>by
  injection q with q1 q2
  rw[q2] at hT
  exact no_twice (X:=[]) hT)
 obtain⟨B',hB'⟩:=rnd_of ⟨B,rfl⟩ hBe (fun q=>by
  injection q with q1 q2
  rw[q2] at hT
  exact no_twice (X:=w :: A) (Y:=[]) hT)
 rw[hX,hY,hA',hB',shutL_rnd,shutL_rnd]
 refine dropE2 ?_
 rw[←hA',←hB']
 exact hT
theorem drop_perm {fs:Fs} {f g:Nat} (hf:f<fs.length) (hg:g<fs.length) (hne:f≠g):∃R:List (List Int),fs.flatten.Perm (fcA fs f ++ (fcA fs g ++ R))∧∀F,((fs.set f F).eraseIdx g).flatten.Perm (F ++ R):=by
 have h1:=erase_perm [] fs g hg
 have hlen:=List.length_eraseIdx_of_lt hg
 obtain⟨k,hk,e1,e2⟩:∃k,k<(fs.eraseIdx g).length∧(fs.eraseIdx g).getD k []=fcA fs f∧∀F,(fs.set f F).eraseIdx g=(fs.eraseIdx g).set k F:=by
  rcases Nat.lt_or_ge f g with q | q
  ·exact⟨f,by omega,by rw[List.getD_eq_getElem?_getD,List.getElem?_eraseIdx_of_lt q];rfl,fun F=>List.eraseIdx_set_gt q⟩
  ·obtain⟨f',rfl⟩:∃f',f=f'+1:=⟨f - 1,by omega⟩
   exact⟨f',by omega,by rw[List.getD_eq_getElem?_getD,List.getElem?_eraseIdx_of_ge (by omega)];rfl,fun F=>List.eraseIdx_set_lt (by omega)⟩
 refine⟨((fs.eraseIdx g).eraseIdx k).flatten,?_,fun F=>?_⟩
 ·have h2:=erase_perm [] (fs.eraseIdx g) k hk
  rw[e1] at h2
  exact((h1.trans (List.Perm.cons _ h2)).trans (List.Perm.swap _ _ _)).flatten
 ·rw[e2]
  exact(set_perm [] hk F).flatten
theorem upTo_all {l:List Int} {i:Nat} (h:i<l.length):upToL l ((i+1) % l.length) i=turnL l ((i+1) % l.length):=by
 unfold upToL
 have e:(i+l.length - (i+1) % l.length) % l.length+1=l.length:=by
  rcases Nat.lt_or_ge (i+1) l.length with q | q
  ·rw[Nat.mod_eq_of_lt q,Nat.mod_eq_of_lt (by omega)];omega
  ·obtain e:i+1=l.length:=by omega
   rw[e,Nat.mod_self,show i+l.length - 0=i+l.length by omega,Nat.add_mod_right,Nat.mod_eq_of_lt h];omega
 rw[e,List.take_of_length_le (by rw[turnL_len];omega)]
theorem behind {l:List Int} {i:Nat} (h:i<l.length) (hne:l.getD i 0≠l.getD ((i+1) % l.length) 0):∃A,turnL l ((i+1) % l.length)=l.getD ((i+1) % l.length) 0 :: (A ++ [l.getD i 0])∧upToL l ((i+1) % l.length) i=l.getD ((i+1) % l.length) 0 :: (A ++ [l.getD i 0]):=by
 have h2:(i+1) % l.length≠i:=fun e=>hne (by rw[e])
 obtain⟨A,B,e1,e2,e3,e4⟩:=turn_part (Nat.mod_lt (i+1) (by omega)) h h2
 exact⟨A,by rw[←upTo_all h,e3],e3⟩
theorem so_drop2 {fs:Fs} {f g l i j:Nat} {v w:Int} (h:SurfL fs.flatten) (hf:f<fs.length) (hg:g<fs.length) (hfg:f≠g) (hl:l<(fcA fs f).length) (hg1:(fcA fs g).length=1) (hi:i<(lpA fs f l).length) (hj:j<(lpA fs g 0).length)
  (hv:(lpA fs f l).getD i 0=v) (hw:(lpA fs f l).getD ((i+1) % (lpA fs f l).length) 0=w) (hw2:(lpA fs g 0).getD j 0=w) (hv2:(lpA fs g 0).getD ((j+1) % (lpA fs g 0).length) 0=v) (hvw:v≠w) :
  SurfL ((setL fs f l (upToL (lpA fs f l) ((i+1) % (lpA fs f l).length) i ++ (upToL (lpA fs g 0) ((j+1) % (lpA fs g 0).length) j).tail.dropLast)).eraseIdx g).flatten:=by
 obtain⟨R,hp,hq⟩:=drop_perm hf hg hfg
 have e:fcA fs g=[lpA fs g 0]:=by
  obtain⟨x,hx⟩:=List.length_eq_one_iff.1 hg1
  unfold lpA lA
  rw[hx];rfl
 have hp2:fs.flatten.Perm (lpA fs f l :: lpA fs g 0 :: ((fcA fs f).eraseIdx l ++ R)):=by
  refine hp.trans ?_
  rw[e]
  refine((erase_perm [] (fcA fs f) l hl).append_right _).trans ?_
  refine List.Perm.cons _ ?_
  exact List.perm_middle
 have hS:=h.perm hp2
 refine SurfL.perm ?_ ((hq _).trans ((set_perm [] hl _).append_right _)).symm
 obtain⟨A,a1,a2⟩:=behind hi (by rw[hv,hw];exact hvw)
 obtain⟨B,b1,b2⟩:=behind hj (by rw[hv2,hw2];exact hvw.symm)
 have h1:=((hS.turn ((i+1) % (lpA fs f l).length)).perm (List.Perm.swap _ _ _)).turn ((j+1) % (lpA fs g 0).length)
 rw[a1,b1,hv,hw,hv2,hw2] at h1
 rw[a2,b2,hv,hw,hv2,hw2]
 have h2:=dropE1 h1
 rw[List.tail_cons,List.dropLast_concat]
 simpa using h2
def decI (v x:Int):Int:=if v<x then x - 1 else x
theorem so_dropNode {fs:Fs} {f l i:Nat} {v:Int} (h:SurfL fs.flatten) (hf:f<fs.length) (hl:l<(fcA fs f).length) (hi:i<(lpA fs f l).length) (hv:(lpA fs f l).getD i 0=v) (h1:(lpA fs f l).length≠1)
  (hone:∀c∈corS fs.flatten,∀d∈corS fs.flatten,c.2.1=v→d.2.1=v→c=d) :
  (∃u B,turnL (lpA fs f l) i=v :: rndL u B∧v≠u)∧SurfL ((setL fs f l (shutL (turnL (lpA fs f l) i).tail)).map (List.map (List.map (decI v)))).flatten:=by
 have hp:=flat_at hf hl
 have hS:=(h.perm hp).turn i
 obtain⟨T,hT⟩:∃T,turnL (lpA fs f l) i=v :: T:=⟨_,by rw[turnL_cons hi,hv]⟩
 have hT0:T≠[]:=fun e=>by
  have:=congrArg List.length hT
  rw[turnL_len,e] at this
  exact h1 this
 have hvp:(corS (turnL (lpA fs f l) i :: othL fs f l)).Perm (corS fs.flatten):=by
  refine List.Perm.trans ?_ (List.Perm.flatMap_right _ hp).symm
  show(corS _).Perm (corS _)
  rw[corS_cons,corS_cons]
  refine List.Perm.append_right _ ?_
  have:=corL_turn ((lpA fs f l).take i) ((lpA fs f l).drop i)
  rw[List.take_append_drop] at this
  exact this.symm
 rw[hT] at hS hvp
 have hc:(T.getLastD v,v,T.headD v)∈corS ((v :: T) :: othL fs f l):=by
  rw[corS_cons,rnd_old];unfold rndO;rw[if_neg hT0];simp
 have hlh:T.getLastD v=T.headD v:=by
  have h2:(T.getLastD v,v)∈vaC (corS ((v :: T) :: othL fs f l)):=hS.per.mem_iff.1 (List.mem_map.2 ⟨_,hc,rfl⟩)
  obtain⟨c,hcm,c1,c2⟩:=vaC_mem.1 h2
  have h3:=hS.opp c hcm
  rw[c1,c2] at h3
  obtain⟨d,hdm,d1,d2⟩:=vaC_mem.1 h3
  have h4:=hone _ (hvp.mem_iff.1 hdm) _ (hvp.mem_iff.1 hc) d1 rfl
  rw[h4] at d2
  exact d2.symm
 obtain⟨u,hu⟩:∃u,u=T.headD v:=⟨_,rfl⟩
 have hvu:v≠u:=by rw[hu];exact hS.ne _ hc
 have hTa:∃X,T=u :: X:=by
  cases T with
  | nil=>exact absurd rfl hT0
  | cons x X=>exact⟨X,by rw[hu];rfl⟩
 have hTb:∃X,T=X ++ [u]:=⟨T.dropLast,by
  have h5:T.getLast hT0=u:=by
   rw[hu,←hlh,List.getLastD_eq_getLast?,List.getLast?_eq_some_getLast hT0];rfl
  rw[←h5,List.dropLast_concat_getLast]⟩
 obtain⟨B,hB⟩:=rnd_of hTa hTb (fun q=>by
  rw[q] at hS
  exact no_twice (X:=[v]) (Y:=[]) hS)
 have hS2:SurfL ((rndL v [] ++ rndL u B) :: othL fs f l):=by rw[←hB];exact hS
 obtain⟨h6,h7⟩:=dropSolo (dropE2 hS2)
 refine⟨⟨u,B,by rw[hT,hB],hvu⟩,?_⟩
 rw[←List.map_flatten]
 have h8:SurfL (setL fs f l (shutL (turnL (lpA fs f l) i).tail)).flatten:=by
  refine SurfL.perm ?_ (flat_setL hf hl _).symm
  rw[hT,List.tail_cons,hB,shutL_rnd]
  exact h6
 have h9:∀m∈(setL fs f l (shutL (turnL (lpA fs f l) i).tail)).flatten,v ∉ m:=fun m hm=>by
  have h10:=(flat_setL hf hl _).mem_iff.1 hm
  rw[hT,List.tail_cons,hB,shutL_rnd] at h10
  exact h7 m h10
 refine surfL_name (decI v) h8 (fun m hm p hp m' hm' q hq e=>?_)
 have n1:p≠v:=fun e=>h9 m hm (e ▸ hp)
 have n2:q≠v:=fun e=>h9 m' hm' (e ▸ hq)
 unfold decI at e
 split at e <;> split at e <;> omega
theorem so_dropFace {fs:Fs} {f g:Nat} (h:SurfL fs.flatten) (hf:f<fs.length) (hg:g<fs.length) (hfg:f≠g) (hg1:(fcA fs g).length=1):SurfL ((fs.set f (fcA fs f ++ [lpA fs g 0])).eraseIdx g).flatten:=by
 obtain⟨R,hp,hq⟩:=drop_perm hf hg hfg
 have e:fcA fs g=[lpA fs g 0]:=by
  obtain⟨x,hx⟩:=List.length_eq_one_iff.1 hg1
  unfold lpA lA
  rw[hx];rfl
 refine SurfL.perm h (hp.trans ?_)
 rw[e]
 exact List.Perm.trans (by rw[List.append_assoc]) (hq _).symm
theorem so_addFace {fs:Fs} {f l:Nat} (h:SurfL fs.flatten) (hf:f<fs.length) (hl:l<(fcA fs f).length):SurfL (fs.set f ((fcA fs f).eraseIdx l) ++ [[lpA fs f l]]).flatten:=by
 refine SurfL.perm h ((flat_at hf hl).trans ?_)
 rw[List.flatten_append]
 refine List.Perm.trans ?_ ((flat_setF hf _).append_right _).symm
 exact(List.perm_append_comm (l₁:=[_]))
theorem so_both {fs gs:Fs} {N:Int} (h:SurfL fs.flatten) (k:SurfL gs.flatten) (h1:∀m∈fs.flatten,∀x∈m,x<N) (h2:∀m∈gs.flatten,∀x∈m,0≤x):SurfL (fs ++ gs.map fun f=>f.map fun l=>l.map fun x=>x+N).flatten:=by
 rw[List.flatten_append]
 have e:(gs.map fun f=>f.map fun l=>l.map fun x=>x+N).flatten=gs.flatten.map (List.map (fun x=>x+N)):=by rw[List.map_flatten]
 rw[e]
 refine surfL_both h (surfL_name _ k (fun _ _ p _ _ _ q _ e=>by omega)) (fun m hm m' hm' x hx hx'=>?_)
 obtain⟨r,hr,rfl⟩:=List.mem_map.1 hm'
 obtain⟨y,hy,rfl⟩:=List.mem_map.1 hx'
 have:=h1 m hm _ hx
 have:=h2 r hr y hy
 omega
theorem so_turned {fs:Fs} (h:SurfL fs.flatten):SurfL (fs.map (List.map List.reverse)).flatten:=by
 rw[←List.map_flatten]
 exact surfL_rev h
end Go.Proofs.Ytealnhaffphamaa
