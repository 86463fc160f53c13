/- Contracts of the functions that the statement reaches, and plain lemmas: part 17 of 31. -/
import Derived.Test.YtealnhaffphamaaS15
set_option linter.unusedVariables false
set_option linter.unusedSimpArgs false

namespace Go.Proofs.Ytealnhaffphamaa
open Go.RowKit Go.Shelf Go.Proofs.YtealnhaffphamaaW.PrintWords
structure MpI (h:Nat→Nat→Nat→Int) (gs hs:Fs) (P:Nat→Nat→Nat→Prop):Prop where
 len:hs.length=gs.length
 flen:∀f,(fcA hs f).length=(fcA gs f).length
 llen:∀f l,(lpA hs f l).length=(lpA gs f l).length
 val:∀f l i,f<gs.length→l<(fcA gs f).length→i<(lpA gs f l).length→(P f l i→(lpA hs f l).getD i 0=h f l i)∧(¬ P f l i→(lpA hs f l).getD i 0=(lpA gs f l).getD i 0)
section
variable {h:Nat→Nat→Nat→Int} {gs hs:Fs} {P Q:Nat→Nat→Nat→Prop}
theorem MpI.start (h:Nat→Nat→Nat→Int) (gs:Fs) (hP:∀f l i,¬ P f l i):MpI h gs gs P:=⟨rfl,fun _=>rfl,fun _ _=>rfl,fun f l i _ _ _=>⟨fun q=>absurd q (hP f l i),fun _=>rfl⟩⟩
theorem MpI.congr (k:MpI h gs hs P) (e:∀f l i,f<gs.length→l<(fcA gs f).length→i<(lpA gs f l).length→(P f l i↔Q f l i)):MpI h gs hs Q:=
 ⟨k.len,k.flen,k.llen,fun f l i hf hl hi=>⟨fun q=>(k.val f l i hf hl hi).1 ((e f l i hf hl hi).2 q),fun q=>(k.val f l i hf hl hi).2 (fun z=>q ((e f l i hf hl hi).1 z))⟩⟩
theorem MpI.skip (k:MpI h gs hs P) {f l i:Nat} (hP:¬ P f l i) (e:(lpA gs f l).getD i 0=h f l i):MpI h gs hs (fun f' l' i'=>P f' l' i'∨(f'=f∧l'=l∧i'=i)):=
 ⟨k.len,k.flen,k.llen,fun f' l' i' hf hl hi=>⟨fun q=>by
  rcases q with q | ⟨rfl,rfl,rfl⟩
  ·exact(k.val f' l' i' hf hl hi).1 q
  ·rw[(k.val _ _ _ hf hl hi).2 hP,e],fun q=>(k.val f' l' i' hf hl hi).2 (fun z=>q (.inl z))⟩⟩
theorem MpI.put (k:MpI h gs hs P) {f l i:Nat} (hf:f<gs.length) (hl:l<(fcA gs f).length) (hi:i<(lpA gs f l).length):MpI h gs (setL hs f l ((lpA hs f l).set i (h f l i))) (fun f' l' i'=>P f' l' i'∨(f'=f∧l'=l∧i'=i)):=by
 have hf2:f<hs.length:=by rw[k.len];exact hf
 have hl2:l<(fcA hs f).length:=by rw[k.flen];exact hl
 refine⟨by rw[setL_len];exact k.len,fun f'=>by rw[fcA_setL_len hf2];exact k.flen f',fun f' l'=>?_,fun f' l' i' hf' hl' hi'=>?_⟩
 ·rw[lpA_setL hf2 hl2]
  split
  ·rename_i e;obtain⟨rfl,rfl⟩:=e;rw[List.length_set];exact k.llen _ _
  ·exact k.llen _ _
 ·rw[lpA_setL hf2 hl2]
  by_cases e:f'=f∧l'=l
  ·obtain⟨rfl,rfl⟩:=e
   rw[if_pos ⟨rfl,rfl⟩]
   by_cases e2:i'=i
   ·subst e2
    rw[List.getD_eq_getElem?_getD,List.getElem?_set_self (by rw[k.llen];exact hi)]
    exact⟨fun _=>rfl,fun q=>absurd (.inr ⟨rfl,rfl,rfl⟩) q⟩
   ·rw[List.getD_eq_getElem?_getD,List.getElem?_set_ne (fun q=>e2 q.symm),←List.getD_eq_getElem?_getD]
    exact⟨fun q=>(k.val _ _ _ hf' hl' hi').1 (q.resolve_right (fun z=>e2 z.2.2)),fun q=>(k.val _ _ _ hf' hl' hi').2 (fun z=>q (.inl z))⟩
  ·rw[if_neg e]
   exact⟨fun q=>(k.val _ _ _ hf' hl' hi').1 (q.resolve_right (fun z=>e ⟨z.1,z.2.1⟩)),fun q=>(k.val _ _ _ hf' hl' hi').2 (fun z=>q (.inl z))⟩
theorem MpI.all (k:MpI h gs hs P) (hP:∀f l i,f<gs.length→l<(fcA gs f).length→i<(lpA gs f l).length→P f l i) {ks:Fs} (h1:ks.length=gs.length) (h2:∀f,(fcA ks f).length=(fcA gs f).length) (h3:∀f l,(lpA ks f l).length=(lpA gs f l).length)
  (h4:∀f l i,f<gs.length→l<(fcA gs f).length→i<(lpA gs f l).length→(lpA ks f l).getD i 0=h f l i):hs=ks:=
 fs_ext (k.len.trans h1.symm) (fun f=>(k.flen f).trans (h2 f).symm) (fun f l=>(k.llen f l).trans (h3 f l).symm) (fun f l i hf hl hi=>by
  have a:f<gs.length:=by rw[←k.len];exact hf
  have b:l<(fcA gs f).length:=by rw[←k.flen];exact hl
  have d:i<(lpA gs f l).length:=by rw[←k.llen];exact hi
  rw[(k.val f l i a b d).1 (hP f l i a b d),h4 f l i a b d])
end
def Pre3 (f l i f' l' i':Nat):Prop:=f'<f∨(f'=f∧(l'<l∨(l'=l∧i'<i)))
structure MJ (B:Nat) (v:Value) (n:Nat) (h:Nat→Nat→Nat→Int) (gs:Fs) (P:Nat→Nat→Nat→Prop) (vf:Nat→Value) (vl:Nat→Nat→Value) (W:World):Prop where
 ex:∃hs,MpI h gs hs P∧n=hs.length∧MW B v hs n vf vl W∧MD hs n vl
section
variable {B n g cV:Nat} {v:Value} {h:Nat→Nat→Nat→Int} {gs:Fs} {P Q:Nat→Nat→Nat→Prop} {vf:Nat→Value} {vl:Nat→Nat→Value} {W W':World}
theorem MJ.start (hM:MW B v gs gs.length vf vl W) (hD:MD gs gs.length vl) (hP:∀f l i,¬ P f l i):MJ B v gs.length h gs P vf vl W:=⟨gs,MpI.start h gs hP,rfl,hM,hD⟩
theorem MJ.congr (k:MJ B v n h gs P vf vl W) (e:∀f l i,f<gs.length→l<(fcA gs f).length→i<(lpA gs f l).length→(P f l i↔Q f l i)):MJ B v n h gs Q vf vl W:=by
 obtain⟨hs,h1,h2⟩:=k.ex
 exact⟨hs,h1.congr e,h2⟩
theorem MJ.kept {row:Option Nat} (k:MJ B v n h gs P vf vl W) (hg:W.grownBy W' row) (hr:∀b,row=some b→b<B):MJ B v n h gs P vf vl W':=by
 obtain⟨hs,h1,h2,h3,h4⟩:=k.ex
 exact⟨hs,h1,h2,h3.kept hg (fun b e q=>by have:=hr b e;have:=(h3.lt q).1;omega),h4⟩
theorem MJ.grown (k:MJ B v n h gs P vf vl W) (hg:W.grownBy W' none):MJ B v n h gs P vf vl W':=k.kept hg (fun b e=>by cases e)
theorem MJ.len (k:MJ B v n h gs P vf vl W):n=gs.length:=by
 obtain⟨hs,h1,h2,_⟩:=k.ex
 rw[h2,h1.len]
theorem MJ.lt (k:MJ B v n h gs P vf vl W):(∀b,v.ownBlock=some b→B≤b∧b<W.heap.size)∧(∀f,f<n→∀b,(vf f).ownBlock=some b→B≤b∧b<W.heap.size)∧∀f l,f<n→l<(fcA gs f).length→∀b,(vl f l).ownBlock=some b→B≤b∧b<W.heap.size:=by
 obtain⟨hs,h1,h2,h3,h4⟩:=k.ex
 exact⟨fun b q=>h3.lt (.inl q),fun f hf b q=>h3.lt (.inr ⟨f,hf,.inl q⟩),fun f l hf hl b q=>h3.lt (.inr ⟨f,hf,.inr ⟨l,by rw[h1.flen];exact hl,q⟩⟩)⟩
theorem MJ.face (k:MJ B (.slice (some ⟨g,0,none⟩) n cV) n h gs P vf vl W) {f:Nat} (hf:f<n):W.cell? ⟨g,f,none⟩=some (vf f):=by
 obtain⟨hs,h1,h2,h3,h4⟩:=k.ex
 have q0:=World.ownsRow.cellAt h3.own f (by omega)
 rw[List.getElem?_map,List.getElem?_range hf] at q0
 exact q0
theorem MJ.form (k:MJ B v n h gs P vf vl W) {f:Nat} (hf:f<n) (h0:0<(fcA gs f).length):∃g1 c1,vf f=.slice (some ⟨g1,0,none⟩) (fcA gs f).length c1:=by
 obtain⟨hs,h1,h2,h3,h4⟩:=k.ex
 have h5:=(h3.face f hf).own
 rw[h1.flen] at h5
 obtain⟨g1,c1,e,_,_⟩:=h5.form h0
 exact⟨g1,c1,e⟩
theorem MJ.loop (k:MJ B v n h gs P vf vl W) {f l g1 c1:Nat} (hf:f<n) (hl:l<(fcA gs f).length) (hv:vf f=.slice (some ⟨g1,0,none⟩) (fcA gs f).length c1):W.cell? ⟨g1,l,none⟩=some (vl f l):=by
 obtain⟨hs,h1,h2,h3,h4⟩:=k.ex
 have h5:=(h3.face f hf).own
 rw[h1.flen,hv] at h5
 have q0:=World.ownsRow.cellAt h5 l (by omega)
 rw[List.getElem?_map,List.getElem?_range hl] at q0
 exact q0
theorem MJ.rform (k:MJ B v n h gs P vf vl W) {f l:Nat} (hf:f<n) (hl:l<(fcA gs f).length) (h0:0<(lpA gs f l).length):∃b c,vl f l=.slice (some ⟨b,0,none⟩) (lpA gs f l).length c∧(lpA gs f l).length≤c:=by
 obtain⟨hs,h1,h2,h3,h4⟩:=k.ex
 have h5:=(h3.face f hf).ownL l (by rw[h1.flen];exact hl)
 rw[show(lA (fcA hs f) l).length=(lpA gs f l).length from h1.llen f l] at h5
 obtain⟨b,c,e,_,_⟩:=h5.form h0
 rw[e] at h5
 exact⟨b,c,e,own_le h5⟩
theorem MJ.num (k:MJ B v n h gs P vf vl W) {f l i b c:Nat} (hf:f<n) (hl:l<(fcA gs f).length) (hi:i<(lpA gs f l).length) (hv:vl f l=.slice (some ⟨b,0,none⟩) (lpA gs f l).length c) (hP:¬ P f l i):W.cell? ⟨b,i,none⟩=some (.int .i64 ((lpA gs f l).getD i 0))∧W.frozen? ⟨b,i,none⟩=false:=by
 obtain⟨hs,h1,h2,h3,h4⟩:=k.ex
 have h5:=(h3.face f hf).ownL l (by rw[h1.flen];exact hl)
 rw[show(lA (fcA hs f) l).length=(lpA gs f l).length from h1.llen f l,hv] at h5
 have q0:=World.ownsRow.cellAt h5 i (by omega)
 refine⟨q0.trans ?_,World.ownsRow.frozenAt h5 i⟩
 have hi2:i<(lA (fcA hs f) l).length:=by rw[show(lA (fcA hs f) l).length=(lpA gs f l).length from h1.llen f l];exact hi
 unfold intsV
 rw[List.getElem?_map,List.getElem?_eq_getElem hi2]
 have h6:=(h1.val f l i (by rw[←h1.len,←h2];exact hf) hl hi).2 hP
 rw[←h6]
 show _=some (Value.int .i64 ((lA (fcA hs f) l).getD i 0))
 rw[List.getD_eq_getElem?_getD,List.getElem?_eq_getElem hi2];rfl
theorem MJ.put (k:MJ B v n h gs P vf vl W) {f l i b c:Nat} (hf:f<n) (hl:l<(fcA gs f).length) (hi:i<(lpA gs f l).length) (hv:vl f l=.slice (some ⟨b,0,none⟩) (lpA gs f l).length c):MJ B v n h gs (fun f' l' i'=>P f' l' i'∨(f'=f∧l'=l∧i'=i)) vf vl (W.setCell ⟨b,i,none⟩ (.int .i64 (h f l i))):=by
 obtain⟨hs,h1,h2,h3,h4⟩:=k.ex
 subst h2
 have a:f<gs.length:=by rw[←h1.len];exact hf
 have hl2:l<(fcA hs f).length:=by rw[h1.flen];exact hl
 refine⟨_,h1.put a hl hi,(setL_len _ _ _ _).symm,?_,?_⟩
 ·have:=h3.putAt h4 hf hl2 hv (i:=i) (h f l i)
  rwa [setL_len] at this
 ·have:=h4.setL (l:=l) hf ((lpA hs f l).set i (h f l i))
  rwa [setL_len] at this
theorem MJ.skip (k:MJ B v n h gs P vf vl W) {f l i:Nat} (hP:¬ P f l i) (e:(lpA gs f l).getD i 0=h f l i):MJ B v n h gs (fun f' l' i'=>P f' l' i'∨(f'=f∧l'=l∧i'=i)) vf vl W:=by
 obtain⟨hs,h1,h2⟩:=k.ex
 exact⟨hs,h1.skip hP e,h2⟩
theorem MJ.done (k:MJ B v n h gs P vf vl W) (hP:∀f l i,f<gs.length→l<(fcA gs f).length→i<(lpA gs f l).length→P f l i) {ks:Fs} (h1:ks.length=gs.length) (h2:∀f,(fcA ks f).length=(fcA gs f).length) (h3:∀f l,(lpA ks f l).length=(lpA gs f l).length)
  (h4:∀f l i,f<gs.length→l<(fcA gs f).length→i<(lpA gs f l).length→(lpA ks f l).getD i 0=h f l i):n=ks.length∧MW B v ks ks.length vf vl W∧MD ks ks.length vl:=by
 obtain⟨hs,a,b,d,e⟩:=k.ex
 have q:=a.all hP h1 h2 h3 h4
 subst q b
 exact⟨rfl,d,e⟩
theorem MJ.next {f l i:Nat} (k:MJ B v n h gs (fun f' l' i'=>Pre3 f l i f' l' i'∨(f'=f∧l'=l∧i'=i)) vf vl W):MJ B v n h gs (Pre3 f l (i+1)) vf vl W:=k.congr (fun f' l' i' _ _ _=>by unfold Pre3;omega)
theorem MJ.nextL {f l:Nat} (k:MJ B v n h gs (Pre3 f l (lpA gs f l).length) vf vl W):MJ B v n h gs (Pre3 f (l+1) 0) vf vl W:=k.congr (fun f' l' i' _ _ hi=>by
 unfold Pre3
 constructor
 ·omega
 ·rintro(q | ⟨rfl,q | ⟨rfl,q⟩⟩)
  ·omega
  ·by_cases e:l'=l
   ·subst e;omega
   ·omega
  ·omega)
theorem MJ.nextF {f:Nat} (k:MJ B v n h gs (Pre3 f (fcA gs f).length 0) vf vl W):MJ B v n h gs (Pre3 (f+1) 0 0) vf vl W:=k.congr (fun f' l' i' _ hl _=>by
 unfold Pre3
 constructor
 ·omega
 ·rintro(q | ⟨rfl,q | ⟨rfl,q⟩⟩)
  ·by_cases e:f'=f
   ·subst e;omega
   ·omega
  ·omega
  ·omega)
theorem pre_no {f l i:Nat}:¬ Pre3 f l i f l i:=by unfold Pre3;omega
theorem pre_zero:∀f l i,¬ Pre3 0 0 0 f l i:=fun _ _ _=>by unfold Pre3;omega
theorem MJ.fin (k:MJ B v n h gs (Pre3 gs.length 0 0) vf vl W) {ks:Fs} (h1:ks.length=gs.length) (h2:∀f,(fcA ks f).length=(fcA gs f).length) (h3:∀f l,(lpA ks f l).length=(lpA gs f l).length)
  (h4:∀f l i,f<gs.length→l<(fcA gs f).length→i<(lpA gs f l).length→(lpA ks f l).getD i 0=h f l i):n=ks.length∧MW B v ks ks.length vf vl W∧MD ks ks.length vl:=k.done (fun f l i hf _ _=>.inl hf) h1 h2 h3 h4
end
theorem MR.join {base:Nat} {v v2 v':Value} {fs gs:Fs} {vf wf:Nat→Value} {vl wl:Nat→Nat→Value} {W W':World} (h:MR base v fs fs.length vf vl W) (k:MR base v2 gs gs.length wf wl W) (hd:∀i,i<fs.length→∀j,j<gs.length→Ap (vf i) (wf j)) (hdv:∀b,v.ownBlock=some b→∀j,j<gs.length→(wf j).ownBlock≠some b)
  (ho:W'.ownsRow base 37 1 v' (fs.length+gs.length) ((List.range fs.length).map vf ++ (List.range gs.length).map wf)) (hg:W.grownBy W' v.ownBlock) :
  MR base v' (fs ++ gs) (fs ++ gs).length (fun j=>if j<fs.length then vf j else wf (j - fs.length)) (fun j=>if j<fs.length then vl j else wl (j - fs.length)) W':=by
 have hn:=NoI.own h.own (show(37:Nat)≠3 by decide)
 rw[List.length_append]
 refine⟨by rw[←map_range_app];exact ho,fun f hf=>?_,fun i hi j hj hij=>?_⟩
 ·by_cases e:f<fs.length
  ·simp only[if_pos e]
   rw[show fcA (fs ++ gs) f=fcA fs f by simp[fcA,List.getD_eq_getElem?_getD,List.getElem?_append_left e]]
   exact(h.face f e).kept hg hn (fun b q=>own_other_types h.own (h.face f e).own (by decide) q)
  ·simp only[if_neg e]
   rw[show fcA (fs ++ gs) f=fcA gs (f - fs.length) by simp[fcA,List.getD_eq_getElem?_getD,List.getElem?_append_right (Nat.le_of_not_lt e)]]
   exact(k.face _ (by omega)).kept hg hn (fun b q=>hdv b q _ (by omega))
 ·show Ap (if i<fs.length then vf i else wf (i - fs.length)) (if j<fs.length then vf j else wf (j - fs.length))
  by_cases e:i<fs.length
  ·rw[if_pos e]
   by_cases e2:j<fs.length
   ·rw[if_pos e2];exact h.dis i e j e2 hij
   ·rw[if_neg e2];exact hd i e _ (by omega)
  ·rw[if_neg e]
   by_cases e2:j<fs.length
   ·rw[if_pos e2];exact(hd j e2 _ (by omega)).symm
   ·rw[if_neg e2];exact k.dis _ (by omega) _ (by omega) (by omega)
theorem map_lens (F:List Int→List Int) (hF:∀l,(F l).length=l.length) (gs:Fs):(gs.map (List.map F)).length=gs.length∧(∀f,(fcA (gs.map (List.map F)) f).length=(fcA gs f).length)∧(∀f l,lpA (gs.map (List.map F)) f l=F (lpA gs f l)):=by
 have h0:F []=[]:=List.eq_nil_of_length_eq_zero (hF [])
 have h1:∀f,fcA (gs.map (List.map F)) f=(fcA gs f).map F:=fun f=>getD_map_nil (List.map F) rfl gs f
 refine⟨by simp,fun f=>by rw[h1];simp,fun f l=>?_⟩
 unfold lpA lA
 rw[h1]
 exact getD_map_nil F h0 (fcA gs f) l
end Go.Proofs.Ytealnhaffphamaa

namespace Go.Proofs.Ytealnhaffphamaa
open Go.RowKit Go.Shelf Go.Proofs.YtealnhaffphamaaW.PrintWords
def renL (v:Int) (fs:Fs):Fs:=fs.map (List.map (List.map (decI v)))
theorem renL_lens (v:Int) (fs:Fs):(renL v fs).length=fs.length∧(∀f,(fcA (renL v fs) f).length=(fcA fs f).length)∧(∀f l,(lpA (renL v fs) f l).length=(lpA fs f l).length)∧∀f l i,f<fs.length→l<(fcA fs f).length→i<(lpA fs f l).length→(lpA (renL v fs) f l).getD i 0=decI v ((lpA fs f l).getD i 0):=by
 obtain⟨h1,h2,h3⟩:=map_lens (List.map (decI v)) (fun l=>List.length_map _) fs
 refine⟨h1,h2,fun f l=>by unfold renL;rw[h3];simp,fun f l i _ _ hi=>?_⟩
 unfold renL
 rw[h3,List.getD_eq_getElem?_getD,List.getElem?_map,List.getElem?_eq_getElem hi,List.getD_eq_getElem?_getD,List.getElem?_eq_getElem hi];rfl
set_option maxRecDepth 100000 in
set_option maxHeartbeats 4000000 in
theorem renamed_any (A:Option Addr) (c:Nat) (fs:Fs) (v:Int) (w:World) (hF:RF w A fs) (hc:fs.length≤c) (h0:0<fs.length) (hm:fs.length≤100000) (hcp:cpA fs fs.length 401 2001=fs)
  (hne:∀f,f<fs.length→(0<(fcA fs f).length∧(fcA fs f).length≤100000)∧∀l,l<(fcA fs f).length→0<(lpA fs f l).length∧(lpA fs f l).length≤100000) (hI:∀f l i,-1000000≤(lpA fs f l).getD i 0∧(lpA fs f l).getD i 0≤1000000) :
  Calls Try.prog 69 #[.slice A fs.length c,.int .i64 v] w fun e w'=>(∃g c' vf vl,e=.returned (.slice (some ⟨g,0,none⟩) fs.length c')∧MW w.heap.size (.slice (some ⟨g,0,none⟩) fs.length c') (renL v fs) (renL v fs).length vf vl w')∧Below w.heap.size w w':=by
 have HCY:Hid (Calls Try.prog 12 #[.slice A fs.length c,.int .i64 fs.length,.int .i64 401,.int .i64 2001] w fun e w'=>(∃g cV vf vl,e=.returned (.slice (some ⟨g,0,none⟩) fs.length cV)∧MW w.heap.size (.slice (some ⟨g,0,none⟩) fs.length cV) fs fs.length vf vl w'∧MD fs fs.length vl)∧Below w.heap.size w w'):=by
  have h:=copyD_any A c fs fs.length 401 2001 w hF hc (by omega) (by omega) (by omega)
  rw[hcp] at h
  refine h.mono ?_
  rintro e w' ⟨⟨v,vf,vl,rfl,hM,hD⟩,hb⟩
  obtain⟨g,cap,hv,_,_⟩:=hM.own.form h0
  subst hv
  exact⟨⟨g,cap,vf,vl,rfl,hM,hD⟩,hb⟩
 have HNE:=Lib.hid hne
 have HI:=Lib.hid hI
 obtain⟨n,hn⟩:∃n,n=fs.length:=⟨_,rfl⟩
 have HN:=Lib.hid hn
 obtain⟨h,hh⟩:∃h:Nat→Nat→Nat→Int,h=fun f l i=>decI v ((lpA fs f l).getD i 0):=⟨_,rfl⟩
 have HH:Hid (∀f l i,h f l i=decI v ((lpA fs f l).getD i 0)):=fun f l i=>by rw[hh]
 have hn1:n≤100000:=by omega
 clear hF hc h0 hcp hne hI hh hm
 rw[←hn] at HCY ⊢
 clear hn
 go_enter Try.func69,Try.ntmps69
 go_upto_region 2 with((with_reducible refine(HCY.out).mono ?_);rintro e W2 ⟨⟨g,cV,vf,vl,rfl,hM,hD⟩,hbl⟩)
 have HM:Hid (MJ w.heap.size (.slice (some ⟨g,0,none⟩) n cV) n h fs (Pre3 0 0 0) vf vl W2):=by
  have h1:=HN.out
  subst h1
  exact MJ.start hM hD pre_zero
 have HB:=Lib.hid hbl
 clear hM hD hbl HCY
 go_wp2
 go_loopw [6] (fun s6 wr=>∃f:Nat,f≤n∧s6=.int .i64 f∧Hid (Below w.heap.size w wr)∧Hid (MJ w.heap.size (.slice (some ⟨g,0,none⟩) n cV) n h fs (Pre3 f 0 0) vf vl wr)) (fun s _=>n - (intOf s).toNat)
 case atStart=>exact⟨0,by omega,rfl,HB,HM⟩
 case round=>
  clear HB HM
  rename World=>wr
  obtain⟨f,hf,rfl,HB,HM⟩:=hrel
  by_cases hlt:f<n
  ·have hfz:(f:Int)<(n:Int):=by omega
   have hq:=HNE.out f (by rw[←HN.out];exact hlt)
   obtain⟨g1,c1,hvf⟩:=HM.out.form hlt hq.1.1
   have HVF:=Lib.hid hvf
   obtain⟨nF,hnF⟩:∃nF,nF=(fcA fs f).length:=⟨_,rfl⟩
   have HNF:Hid (nF=(fcA fs f).length):=hnF
   have hnF1:nF≤100000:=by omega
   have HLN:Hid (∀l,l<nF→0<(lpA fs f l).length∧(lpA fs f l).length≤100000):=fun l hl=>hq.2 l (by omega)
   rw[←hnF] at HVF
   have HVF2:Hid (vf f=.slice (some ⟨g1,0,none⟩) (fcA fs f).length c1):=hvf
   clear hq hvf hnF
   go_wp2
   go_loopw [7] (fun s7 wi=>∃l:Nat,l≤nF∧s7=.int .i64 l∧Hid (Below w.heap.size w wi)∧Hid (MJ w.heap.size (.slice (some ⟨g,0,none⟩) n cV) n h fs (Pre3 f l 0) vf vl wi)) (fun s _=>nF - (intOf s).toNat)
   case atStart=>exact⟨0,by omega,rfl,HB,HM⟩
   case round=>
    clear HB HM
    rename World=>wi
    obtain⟨l,hl,rfl,HB,HM⟩:=hrel
    have k0:wi.cell? ⟨g,f,none⟩=some (.slice (some ⟨g1,0,none⟩) nF c1):=by rw[HM.out.face hlt,HVF.out]
    by_cases hlt2:l<nF
    ·have hlz:(l:Int)<(nF:Int):=by omega
     have hll:l<(fcA fs f).length:=by rw[←HNF.out];exact hlt2
     obtain⟨b,c2,hvl,-⟩:=HM.out.rform hlt hll (HLN.out l hlt2).1
     have HVL:=Lib.hid hvl
     obtain⟨nl,hnl⟩:∃nl,nl=(lpA fs f l).length:=⟨_,rfl⟩
     have HNL:Hid (nl=(lpA fs f l).length):=hnl
     have hnl1:nl≤100000:=by rw[hnl];exact(HLN.out l hlt2).2
     have k1:wi.cell? ⟨g1,l,none⟩=some (.slice (some ⟨b,0,none⟩) nl c2):=by rw[HM.out.loop hlt hll HVF2.out,hvl,hnl]
     clear hvl hnl
     go_wp2
     go_loopw [9] (fun s9 wj=>∃i:Nat,i≤nl∧s9=.int .i64 i∧Hid (Below w.heap.size w wj)∧Hid (MJ w.heap.size (.slice (some ⟨g,0,none⟩) n cV) n h fs (Pre3 f l i) vf vl wj)) (fun s _=>nl - (intOf s).toNat)
     case atStart=>exact⟨0,by omega,rfl,HB,HM⟩
     case round=>
      clear HB HM k0 k1
      rename World=>wj
      obtain⟨i,hi,rfl,HB,HM⟩:=hrel
      by_cases hlt3:i<nl
      ·have hiz:(i:Int)<(nl:Int):=by omega
       have hil:i<(lpA fs f l).length:=by rw[←HNL.out];exact hlt3
       obtain⟨k2,k3⟩:=HM.out.num hlt hll hil HVL.out pre_no
       have hIx:=HI.out f l i
       have HX:Hid (h f l i=decI v ((lpA fs f l).getD i 0)):=HH.out f l i
       have HHL:Hid (b≥w.heap.size):=(HM.out.lt.2.2 f l hlt hll b (by rw[HVL.out];rfl)).1
       have HP:=Lib.hid (HM.out.put hlt hll hil HVL.out)
       have HSK:Hid ((lpA fs f l).getD i 0=h f l i→MJ w.heap.size (.slice (some ⟨g,0,none⟩) n cV) n h fs (fun f' l' i'=>Pre3 f l i f' l' i'∨(f'=f∧l'=l∧i'=i)) vf vl wj):=fun e=>HM.out.skip pre_no e
       clear HM
       rw[HX.out] at HP HSK
       generalize (lpA fs f l).getD i 0=x at k2 hIx HX HP HSK
       by_cases h1:x > v
       ·have hw:IntKind.i64.wrap (x - 1)=x - 1:=by rw[IntKind.wrap_i64];omega
        have hd:decI v x=x - 1:=by unfold decI;rw[if_pos (by omega)]
        rw[hd] at HP
        clear hd HSK HX
        go_wp2
        go_roundw
        case rel=>exact⟨i+1,by omega,by go_num,HB.out.setCell (p:=⟨b,i,none⟩) HHL.out _,HP.out.next⟩
        case measure=>simp[intOf];omega
       ·have hd:x=decI v x:=by unfold decI;rw[if_neg (by omega)]
        have HP2:=Lib.hid (HSK.out hd).next
        clear hd HSK HP HX
        go_wp2
        go_roundw
        case rel=>exact⟨i+1,by omega,by go_num,HB,HP2⟩
        case measure=>simp[intOf];omega
      ·have HE:Hid (i=(lpA fs f l).length):=by have:=HNL.out;show i=_;omega
       have hM:=HM.out
       rw[HE.out] at hM
       have HM2:=Lib.hid hM.nextL
       clear hM HM HE
       go_wp2
       go_roundw
       case rel=>exact⟨l+1,by omega,by go_num,HB,HM2⟩
       case measure=>simp[intOf];omega
    ·have HE:Hid (l=(fcA fs f).length):=by have:=HNF.out;show l=_;omega
     have hM:=HM.out
     rw[HE.out] at hM
     have HM2:=Lib.hid hM.nextF
     clear hM HM HE
     go_wp2
     go_roundw
     case rel=>exact⟨f+1,by omega,by go_num,HB,HM2⟩
     case measure=>simp[intOf];omega
  ·have HE:Hid (f=fs.length):=by have:=HN.out;show f=_;omega
   have hM:=HM.out
   rw[HE.out] at hM
   obtain⟨q1,q2,q3,q4⟩:=renL_lens v fs
   obtain⟨a,b,-⟩:=hM.fin q1 q2 q3 (fun f l i hf hl hi=>by rw[q4 f l i hf hl hi,HH.out])
   have HM2:=Lib.hid b
   clear hM HM HE a b q1 q2 q3 q4
   go_wp2
   go_ret
   exact⟨⟨g,cV,vf,vl,rfl,HM2.out⟩,HB.out⟩
end Go.Proofs.Ytealnhaffphamaa
