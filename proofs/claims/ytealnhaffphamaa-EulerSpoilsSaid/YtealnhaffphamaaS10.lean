/- Contracts of the functions that the statement reaches, and plain lemmas: part 10 of 31. -/
import Derived.Test.YtealnhaffphamaaS06
import Derived.Deep.CutRange
import Derived.Deep.QuietTactic
import Derived.BigQuiet
set_option linter.unusedVariables false
set_option linter.unusedSimpArgs false

namespace Go.Proofs.Ytealnhaffphamaa
open Go.RowKit Go.Shelf Go.Proofs.YtealnhaffphamaaW.PrintWords
theorem run_append_ints (W:World) (base:Nat) (ty:TypeId) (v:Value) (xs ys:List Int) (A:Option Addr) (c:Nat) (HO:W.ownsRow base 3 1 v xs.length (intsV xs)) (HR:RI W A ys) (hbase:base≤W.heap.size) (hl:xs.length+ys.length≤100000000) :
  ∃v1 w1,(Builtin.append_ #[36,36] ty #[v,.slice A ys.length c]).run Try.prog W=.ok v1 w1∧w1.ownsRow base 3 1 v1 (xs ++ ys).length (intsV (xs ++ ys))∧W.grownBy w1 v.ownBlock∧(v1.ownBlock=v.ownBlock∨v1.ownBlock=some W.heap.size):=by
 obtain⟨i0,hi,hz0,hz1,hz2⟩:=info_parts infoI
 rcases A with _ | ad
 ·have h0:ys.length=0:=by
   rcases Nat.eq_zero_or_pos ys.length with h0 | h0
   ·exact h0
   ·obtain⟨ad,h,_⟩:=RI.at HR h0
    cases h
  obtain rfl:ys=[]:=List.eq_nil_of_length_eq_zero h0
  refine⟨v,W,?_,by simpa using HO,World.grownBy.refl W _,.inl rfl⟩
  rcases HO.2 with⟨rfl,hn⟩ | ⟨g,cap,cur,rfl,_,_,hnc,_⟩
  ·simp[Builtin.append_,run_underlying Try.underlying36,sizeOf,typeInfo,hi,Builtin.lenOf,Builtin.firstCells]
  ·simp[Builtin.append_,run_underlying Try.underlying36,sizeOf,typeInfo,hi,Builtin.lenOf,Builtin.firstCells,hnc,storeCells]
 ·obtain⟨v1,w1,hr,h2,h3,_,h5⟩:=run_append_own_at (P:=Try.prog) W base 36 ty 3 i0 (.int .i64 0) 1 8 Try.underlying36 hi hz0 hz1 hz2 rfl (by omega) v xs.length (intsV xs) HO ad ys.length c (intsV ys) (by simp[intsV]) (fun j u hu=>by
   have hj:j<ys.length:=by have:=(List.getElem?_eq_some_iff.1 hu).1;rwa [intsV_len] at this
   obtain⟨ad',h',hc⟩:=RI.at HR hj
   cases h'
   rw[hc,←hu]
   simp[intsV,List.getD_eq_getElem?_getD,hj])
   (intsV_one ys) (by simp only[maxLen];omega) (by omega) hbase
  exact⟨v1,w1,hr,by rw[intsV_app,List.length_append];exact h2,h3,h5⟩
theorem step_append_ints {ops:Array Oper} {o:Oper} {a:Act} {W:World} {K:Act→World→Prop} {Q:Exit→Act→World→Prop} {E:Prop} (hgd:o.guard=none) (s x:Operand)
  (ho:o.op=.call { callee:=.builtin .append,args:=#[s,x],argTypes:=#[36,36] })
  (base:Nat) (v:Value) (xs ys:List Int) (A:Option Addr) (m c:Nat) (hm:m=ys.length) (hs:a.eval s=v) (hx:a.eval x=.slice A m c) (HO:W.ownsRow base 3 1 v xs.length (intsV xs)) (HR:RI W A ys) (hbase:base≤W.heap.size) (hl:xs.length+ys.length≤100000000)
  (h:∀v1 w1,w1.ownsRow base 3 1 v1 (xs ++ ys).length (intsV (xs ++ ys))→W.grownBy w1 v.ownBlock→(v1.ownBlock=v.ownBlock∨v1.ownBlock=some W.heap.size)→K (a.put o.dst v1) w1) :
  if Region.wanted o (yielded ops a.tmps)=true then Oper.wp Try.prog o a W K Q else E:=by
 have hw:Region.wanted o (yielded ops a.tmps)=true:=by simp[Region.wanted,hgd]
 rw[if_pos hw]
 subst hm
 obtain⟨v1,w1,hr,h2,h3,h4⟩:=run_append_ints W base o.type v xs ys A c HO HR hbase hl
 unfold Oper.wp execOp
 simp only[ho,resolve,invoke,builtin,Sem.run_bind,Sem.run_pure,Result.andThen_ok,List.map_toArray,List.map_cons,List.map_nil,hs,hx,hr]
 exact h v1 w1 h2 h3 h4
theorem wpList_append_ints {ops:Array Oper} {rest:List Oper} {o:Oper} {a:Act} {W:World} {Q:Exit→Act→World→Prop} (hgd:o.guard=none) (s x:Operand)
  (ho:o.op=.call { callee:=.builtin .append,args:=#[s,x],argTypes:=#[36,36] })
  (base:Nat) (v:Value) (xs ys:List Int) (A:Option Addr) (m c:Nat) (hm:m=ys.length) (hs:a.eval s=v) (hx:a.eval x=.slice A m c) (HO:W.ownsRow base 3 1 v xs.length (intsV xs)) (HR:RI W A ys) (hbase:base≤W.heap.size) (hl:xs.length+ys.length≤100000000)
  (h:∀v1 w1,w1.ownsRow base 3 1 v1 (xs ++ ys).length (intsV (xs ++ ys))→W.grownBy w1 v.ownBlock→(v1.ownBlock=v.ownBlock∨v1.ownBlock=some W.heap.size)→wpList Try.prog ops Q rest (a.put o.dst v1) w1):wpList Try.prog ops Q (o :: rest) a W:=by
 refine wpList_plain hgd fun K hK=>?_
 subst hm
 obtain⟨v1,w1,hr,h2,h3,h4⟩:=run_append_ints W base o.type v xs ys A c HO HR hbase hl
 unfold Oper.wp execOp
 simp only[ho,resolve,invoke,builtin,Sem.run_bind,Sem.run_pure,Result.andThen_ok,List.map_toArray,List.map_cons,List.map_nil,hs,hx,hr]
 exact hK _ _ (h v1 w1 h2 h3 h4)
def cpA (fs:Fs) (many loops nodes:Nat):Fs:=(fs.take many).map fun f=>(f.take loops).map fun l=>l.take nodes
theorem getD_map_nil {α β:Type} (g:List α→List β) (h0:g []=[]) (xs:List (List α)) (i:Nat):(xs.map g).getD i []=g (xs.getD i []):=by
 rw[List.getD_eq_getElem?_getD,List.getD_eq_getElem?_getD,List.getElem?_map]
 cases xs[i]? with
 | none=>simp[h0]
 | some x=>rfl
theorem getD_take {α:Type} (xs:List (List α)) {k i:Nat} (h:i<k):(xs.take k).getD i []=xs.getD i []:=by
 rw[List.getD_eq_getElem?_getD,List.getD_eq_getElem?_getD,List.getElem?_take_of_lt h]
theorem fcA_cpA (fs:Fs) {many loops nodes f:Nat} (h:f<many):fcA (cpA fs many loops nodes) f=((fcA fs f).take loops).map fun l=>l.take nodes:=by
 unfold fcA cpA
 exact(getD_map_nil (α:=List Int) (β:=List Int) (fun f=>(f.take loops).map fun l=>l.take nodes) (by simp) _ _).trans (by rw[getD_take fs h])
theorem lpA_cpA (fs:Fs) {many loops nodes f l:Nat} (h:f<many) (hl:l<loops):lpA (cpA fs many loops nodes) f l=(lpA fs f l).take nodes:=by
 unfold lpA lA
 rw[fcA_cpA fs h]
 exact(getD_map_nil (α:=Int) (β:=Int) (fun l=>List.take nodes l) (by simp) _ _).trans (by rw[getD_take _ hl])
theorem cpA_len (fs:Fs) (many loops nodes:Nat):(cpA fs many loops nodes).length=min many fs.length:=by simp[cpA]
theorem fcA_cpA_len (fs:Fs) {many loops nodes f:Nat} (h:f<many):(fcA (cpA fs many loops nodes) f).length=min loops (fcA fs f).length:=by rw[fcA_cpA fs h];simp
def SCy (B:Nat) (fs:Fs) (ad ad1:Addr) (A2:Option Addr) (c c0 c2 k l n m nodes:Nat) (d:Nat) (W:World) (v:Value):Prop:=match d with | 39=>v=.slice none 0 0 | 40=>v=.slice (some ad) fs.length c | 41=>v=.int .i64 k | 42=>v=.pointer (some (ad.add k)) | 43=>v=.slice (some ad1) (fcA fs k).length c0 | 44=>v=.int .i64 l | 45=>v=.pointer (some (ad1.add l)) | 46=>v=.slice A2 n c2 | 47=>v=.slice (some ad) fs.length c | 48=>v=.int .i64 k | 49=>v=.pointer (some (ad.add k)) | 50=>v=.slice (some ad1) (fcA fs k).length c0 | 51=>v=.int .i64 l | 52=>v=.pointer (some (ad1.add l)) | 53=>v=.slice A2 n c2 | 54=>v=.int .i64 n | 55=>v=.int .i64 nodes | 56=>v=.int .i64 m | 57=>v=.slice A2 m c2 | 58=>W.ownsRow B 3 1 v m (intsV ((lpA fs k l).take nodes)) | 13=>W.ownsRow B 3 1 v m (intsV ((lpA fs k l).take nodes)) | _=>True
theorem SCy.grown {B:Nat} {fs:Fs} {ad ad1:Addr} {A2:Option Addr} {c c0 c2 k l n m nodes:Nat} {W W1:World} (hg:W.grownBy W1 none):∀d v,SCy B fs ad ad1 A2 c c0 c2 k l n m nodes d W v→SCy B fs ad ad1 A2 c c0 c2 k l n m nodes d W1 v:=by
 intro d v h
 unfold SCy at h ⊢
 split at h
 all_goals first | exact h | exact own_keptB h hg (fun b e=>by cases e)
set_option maxRecDepth 100000 in
set_option maxHeartbeats 4000000 in
theorem copyD_any (A:Option Addr) (c:Nat) (fs:Fs) (many loops nodes:Nat) (w:World) (hF:RF w A fs) (hc:fs.length≤c) (hm:many≤100000) (hl:loops≤100000) (hn:nodes≤100000) :
  Calls Try.prog 12 #[.slice A fs.length c,.int .i64 many,.int .i64 loops,.int .i64 nodes] w fun e w'=>(∃v vf vl,e=.returned v∧MW w.heap.size v (cpA fs many loops nodes) (cpA fs many loops nodes).length vf vl w'∧MD (cpA fs many loops nodes) (cpA fs many loops nodes).length vl)∧Below w.heap.size w w':=by
 have HF:=Lib.hid hF
 have HMA:=Lib.hid hm
 have HLO:=Lib.hid hl
 have HNO:=Lib.hid hn
 have hN:=hF.len
 clear hF hc hm hl hn
 go_enter Try.func12,Try.ntmps12
 go_wp2
 obtain⟨G,hG⟩:∃G,G=cpA fs many loops nodes:=⟨_,rfl⟩
 have HGG:=Lib.hid hG
 clear hG
 have HB0:Hid (Below w.heap.size w w):=Below.refl _ _
 go_loopw [9,10] (fun s9 s10 wr=>∃(k:Nat) (vf:Nat→Value) (vl:Nat→Nat→Value),k≤fs.length∧k≤many∧s10=.int .i64 k∧Hid (Below w.heap.size w wr)∧Hid (MW w.heap.size s9 G k vf vl wr)∧Hid (MD G k vl)) (fun _ v _=>fs.length - (intOf v).toNat)
 case atStart=>exact⟨0,fun _=>undef,fun _ _=>undef,by omega,by omega,rfl,HB0,MW.nil _ _ _,⟨fun f hf=>by omega,fun f hf=>by omega⟩⟩
 case round=>
  clear HB0
  rename World=>wr
  obtain⟨k,vf,vl,hk,hkm,rfl,HB,HM,HMD⟩:=hrel
  by_cases hlt:k<fs.length∧k<many
  ·obtain⟨hlt,hltm⟩:=hlt
   have hkz:(k:Int)<(fs.length:Int):=by omega
   have hkmz:(k:Int)<(many:Int):=by omega
   obtain⟨ad,A0,c0,rfl,hc0,hl0,hr0⟩:=HF.out.at hlt
   have HCK:=Lib.hid hc0
   have hc0:=pw_cell_below HB.out hc0
   have HR0:=Lib.hid hr0
   have hn0:=hr0.len
   obtain⟨B',hB'⟩:∃B',wr.heap.size=B':=⟨_,rfl⟩
   have HOLD:Hid (∀b,MB u9 G k vf vl b→b<B'):=fun b hb=>by rw[←hB'];exact(HM.out.lt hb).2
   have HBB:Hid (w.heap.size≤B'):=by rw[←hB'];exact HB.out.size
   have HFCK:Hid (fcA G k=((fcA fs k).take loops).map fun l=>l.take nodes):=by rw[HGG.out];exact fcA_cpA fs hltm
   clear hr0
   go_upto_region 5 with fail
   go_cut [11] from 14 to 66 (fun s11 wc=>s11=.slice none 0 0∧wr=wc)
   case first=>
    go_wp2
    go_meet
    case rel=>exact⟨rfl,rfl⟩
   case rest=>
   obtain⟨rfl,rfl⟩:=hcut
   go_wp2
   go_loopw [11,12] (fun s11 s12 wi=>∃(l:Nat) (lv:Nat→Value),l≤(fcA fs k).length∧l≤loops∧s12=.int .i64 l∧Hid (Below w.heap.size w wi)∧Hid (MW w.heap.size u9 G k vf vl wi)∧Hid (FW B' s11 (fcA G k) l lv wi)∧Hid (B'≤wi.heap.size)∧Hid (FD l lv)) (fun _ v _=>(fcA fs k).length - (intOf v).toNat)
   case atStart=>exact⟨0,fun _=>undef,by omega,by omega,rfl,HB,HM,FW.nil _ _,Nat.le_of_eq hB'.symm,fun i hi=>by omega⟩
   case round=>
    clear HB HM hc0 hB'
    rename World=>wi
    obtain⟨l,lv,hl,hlm,rfl,HBI,HM,HFW,HSZ,HFD⟩:=hrel
    have hc0:=pw_cell_below HBI.out (show w.cell? (ad.add k)=some (.slice A0 (fcA fs k).length c0) from HCK.out)
    by_cases hlt2:l<(fcA fs k).length∧l<loops
    ·obtain⟨hlt2,hltm2⟩:=hlt2
     have hlz:(l:Int)<((fcA fs k).length:Int):=by omega
     have hlmz:(l:Int)<(loops:Int):=by omega
     obtain⟨ad1,A2,c2,rfl,hc1,hl1,hr1⟩:=HR0.out.atP hlt2
     have HR1:=Lib.hid hr1
     have HC1:Hid (∀W,Below w.heap.size w W→W.cell? (ad1.add l)=some (.slice A2 (lpA fs k l).length c2)):=fun W h=>pw_cell_below h hc1
     have HC0:Hid (∀W,Below w.heap.size w W→W.cell? (ad.add k)=some (.slice (some ad1) (fcA fs k).length c0)):=fun W h=>pw_cell_below h HCK.out
     obtain⟨n,hn⟩:∃n,n=(lpA fs k l).length:=⟨_,rfl⟩
     have hn1:=hr1.len
     rw[←hn] at hl1 hn1
     obtain⟨m,hm⟩:∃m,m=min n nodes:=⟨_,rfl⟩
     have HN:=Lib.hid hn
     rw[←hn] at HC1
     have hmz:min (n:Int) (nodes:Int)=(m:Int):=by omega
     have HM0:=Lib.hid hm
     clear hr1 hc1 hn hm
     go_upto_region 9 with fail
     go_cut [13] from 25 to 62 (fun s13 wc=>s13=.slice none 0 0∧wi=wc)
     case first=>
      go_wp2
      go_meet
      case rel=>exact⟨rfl,rfl⟩
     case rest=>
      obtain⟨rfl,rfl⟩:=hcut
      clear hc0
      go_upto_region 10 with fail
      obtain⟨BI,hBI⟩:∃BI,BI=wi.heap.size:=⟨_,rfl⟩
      have HBI2:Hid (BI≤wi.heap.size∧B'≤BI∧∀i,i<l→∀b,(lv i).ownBlock=some b→b<BI):=⟨Nat.le_of_eq hBI,by rw[hBI];exact HSZ.out,fun i hi b q=>by rw[hBI];exact(HFW.out.lt (.inr ⟨i,hi,q⟩)).2⟩
      clear hBI
      obtain⟨iI,hiI,hiI0,hiI1,hiI2⟩:=info_parts infoI
      refine wp_region_inv' (by kernel_rfl) (by kernel_rfl) (fun listed aa wy=>∃t:Nat→Value,aa={ tmps:=#[.slice (some ad) fs.length c,.int .i64 many,.int .i64 loops,.int .i64 nodes,undef,undef,undef,undef,.slice none 0 0,u9,.int .i64 k,u11,.int .i64 l,t 13,u14,u15,u16,u17,u18,u19,u20,u21,u22,u23,u24,u25,u26,u27,u28,u29,u30,u31,u32,u33,u34,u35,u36,u37,u38,t 39,t 40,t 41,t 42,t 43,t 44,t 45,t 46,t 47,t 48,t 49,t 50,t 51,t 52,t 53,t 54,t 55,t 56,t 57,t 58,u59,u60,u61,u62,u63,u64,u65,u66,undef],defers:=[] }∧IRX 20 13 (.slice none 0 0) (fun wz=>Below w.heap.size w wz∧MW w.heap.size u9 G k vf vl wz∧FW B' u11 (fcA G k) l lv wz∧BI≤wz.heap.size) (SCy BI fs ad ad1 A2 c c0 c2 k l n m nodes) [(0,39),(1,40),(2,41),(3,42),(4,43),(5,44),(6,45),(7,46),(8,47),(9,48),(10,49),(11,50),(12,51),(13,52),(14,53),(15,54),(16,55),(17,56),(18,57),(19,58),(20,13)] listed t wy) ⟨(fun d=>match d with | 13=>.slice none 0 0 | 39=>u39 | 40=>u40 | 41=>u41 | 42=>u42 | 43=>u43 | 44=>u44 | 45=>u45 | 46=>u46 | 47=>u47 | 48=>u48 | 49=>u49 | 50=>u50 | 51=>u51 | 52=>u52 | 53=>u53 | 54=>u54 | 55=>u55 | 56=>u56 | 57=>u57 | 58=>u58 | _=>undef),rfl,IRX.start _ ⟨HBI.out.grown (grown_drew _) HBI.out.size (fun k e=>by cases e),HM.out.kept (grown_drew _) (fun r e=>by cases e),HFW.out.kept (grown_drew _) (fun r e=>by cases e),HBI2.out.1⟩ _ rfl⟩ ?_ ?_
      rotate_left
      ·rintro listed hCl ix hix aa wy ⟨t,rfl,hR⟩ hr
       match ix,hix,hr with
       | 0,_,hr=>
        as_aux_lemma=>
        refine wpOp_step rfl (fun K' hK=>?_)
        have e0:t 13=.slice none 0 0:=hR.ini (hCl.not hr 9 (by kernel_rfl))
        go_simp
        exact hK _ _ ⟨upd t 39 (.slice none 0 0),by first | (simp[upd,e0];done) | (simp[upd,e0];rfl),hR.yields (by decide) (by decide) hR.ir.fin (fun _ _ h=>h) (by rfl) rfl⟩
       | 1,_,hr=>
        as_aux_lemma=>
        refine wpOp_step rfl (fun K' hK=>?_)
        go_simp
        exact hK _ _ ⟨upd t 40 (.slice (some ad) fs.length c),rfl,hR.yields (by decide) (by decide) hR.ir.fin (fun _ _ h=>h) (by rfl) rfl⟩
       | 2,_,hr=>
        as_aux_lemma=>
        refine wpOp_step rfl (fun K' hK=>?_)
        go_simp
        exact hK _ _ ⟨upd t 41 (.int .i64 k),rfl,hR.yields (by decide) (by decide) hR.ir.fin (fun _ _ h=>h) (by rfl) rfl⟩
       | 3,_,hr=>
        as_aux_lemma=>
        refine wpOp_step rfl (fun K' hK=>?_)
        have e1:t 40=.slice (some ad) fs.length c:=hR.ir.val (1,40) (by simp) (dep_of hr 1 (by kernel_rfl))
        have e2:t 41=.int .i64 k:=hR.ir.val (2,41) (by simp) (dep_of hr 2 (by kernel_rfl))
        go_simp
        exact hK _ _ ⟨upd t 42 (.pointer (some (ad.add k))),by first | (simp[upd,e1,e2];done) | (simp[upd,e1,e2];rfl),hR.yields (by decide) (by decide) hR.ir.fin (fun _ _ h=>h) (by rfl) rfl⟩
       | 4,_,hr=>
        as_aux_lemma=>
        refine wpOp_step rfl (fun K' hK=>?_)
        have e1:t 42=.pointer (some (ad.add k)):=hR.ir.val (3,42) (by simp) (dep_of hr 3 (by kernel_rfl))
        have f0:=HC0.out _ hR.ir.fin.1
        go_simp
        exact hK _ _ ⟨upd t 43 (.slice (some ad1) (fcA fs k).length c0),by first | (simp[upd,e1];done) | (simp[upd,e1];rfl),hR.yields (by decide) (by decide) hR.ir.fin (fun _ _ h=>h) (by rfl) rfl⟩
       | 5,_,hr=>
        as_aux_lemma=>
        refine wpOp_step rfl (fun K' hK=>?_)
        go_simp
        exact hK _ _ ⟨upd t 44 (.int .i64 l),rfl,hR.yields (by decide) (by decide) hR.ir.fin (fun _ _ h=>h) (by rfl) rfl⟩
       | 6,_,hr=>
        as_aux_lemma=>
        refine wpOp_step rfl (fun K' hK=>?_)
        have e1:t 43=.slice (some ad1) (fcA fs k).length c0:=hR.ir.val (4,43) (by simp) (dep_of hr 4 (by kernel_rfl))
        have e2:t 44=.int .i64 l:=hR.ir.val (5,44) (by simp) (dep_of hr 5 (by kernel_rfl))
        go_simp
        exact hK _ _ ⟨upd t 45 (.pointer (some (ad1.add l))),by first | (simp[upd,e1,e2];done) | (simp[upd,e1,e2];rfl),hR.yields (by decide) (by decide) hR.ir.fin (fun _ _ h=>h) (by rfl) rfl⟩
       | 7,_,hr=>
        as_aux_lemma=>
        refine wpOp_step rfl (fun K' hK=>?_)
        have e1:t 45=.pointer (some (ad1.add l)):=hR.ir.val (6,45) (by simp) (dep_of hr 6 (by kernel_rfl))
        have f0:=HC1.out _ hR.ir.fin.1
        go_simp
        exact hK _ _ ⟨upd t 46 (.slice A2 n c2),by first | (simp[upd,e1];done) | (simp[upd,e1];rfl),hR.yields (by decide) (by decide) hR.ir.fin (fun _ _ h=>h) (by rfl) rfl⟩
       | 8,_,hr=>
        as_aux_lemma=>
        refine wpOp_step rfl (fun K' hK=>?_)
        go_simp
        exact hK _ _ ⟨upd t 47 (.slice (some ad) fs.length c),rfl,hR.yields (by decide) (by decide) hR.ir.fin (fun _ _ h=>h) (by rfl) rfl⟩
       | 9,_,hr=>
        as_aux_lemma=>
        refine wpOp_step rfl (fun K' hK=>?_)
        go_simp
        exact hK _ _ ⟨upd t 48 (.int .i64 k),rfl,hR.yields (by decide) (by decide) hR.ir.fin (fun _ _ h=>h) (by rfl) rfl⟩
       | 10,_,hr=>
        as_aux_lemma=>
        refine wpOp_step rfl (fun K' hK=>?_)
        have e1:t 47=.slice (some ad) fs.length c:=hR.ir.val (8,47) (by simp) (dep_of hr 8 (by kernel_rfl))
        have e2:t 48=.int .i64 k:=hR.ir.val (9,48) (by simp) (dep_of hr 9 (by kernel_rfl))
        go_simp
        exact hK _ _ ⟨upd t 49 (.pointer (some (ad.add k))),by first | (simp[upd,e1,e2];done) | (simp[upd,e1,e2];rfl),hR.yields (by decide) (by decide) hR.ir.fin (fun _ _ h=>h) (by rfl) rfl⟩
       | 11,_,hr=>
        as_aux_lemma=>
        refine wpOp_step rfl (fun K' hK=>?_)
        have e1:t 49=.pointer (some (ad.add k)):=hR.ir.val (10,49) (by simp) (dep_of hr 10 (by kernel_rfl))
        have f0:=HC0.out _ hR.ir.fin.1
        go_simp
        exact hK _ _ ⟨upd t 50 (.slice (some ad1) (fcA fs k).length c0),by first | (simp[upd,e1];done) | (simp[upd,e1];rfl),hR.yields (by decide) (by decide) hR.ir.fin (fun _ _ h=>h) (by rfl) rfl⟩
       | 12,_,hr=>
        as_aux_lemma=>
        refine wpOp_step rfl (fun K' hK=>?_)
        go_simp
        exact hK _ _ ⟨upd t 51 (.int .i64 l),rfl,hR.yields (by decide) (by decide) hR.ir.fin (fun _ _ h=>h) (by rfl) rfl⟩
       | 13,_,hr=>
        as_aux_lemma=>
        refine wpOp_step rfl (fun K' hK=>?_)
        have e1:t 50=.slice (some ad1) (fcA fs k).length c0:=hR.ir.val (11,50) (by simp) (dep_of hr 11 (by kernel_rfl))
        have e2:t 51=.int .i64 l:=hR.ir.val (12,51) (by simp) (dep_of hr 12 (by kernel_rfl))
        go_simp
        exact hK _ _ ⟨upd t 52 (.pointer (some (ad1.add l))),by first | (simp[upd,e1,e2];done) | (simp[upd,e1,e2];rfl),hR.yields (by decide) (by decide) hR.ir.fin (fun _ _ h=>h) (by rfl) rfl⟩
       | 14,_,hr=>
        as_aux_lemma=>
        refine wpOp_step rfl (fun K' hK=>?_)
        have e1:t 52=.pointer (some (ad1.add l)):=hR.ir.val (13,52) (by simp) (dep_of hr 13 (by kernel_rfl))
        have f0:=HC1.out _ hR.ir.fin.1
        go_simp
        exact hK _ _ ⟨upd t 53 (.slice A2 n c2),by first | (simp[upd,e1];done) | (simp[upd,e1];rfl),hR.yields (by decide) (by decide) hR.ir.fin (fun _ _ h=>h) (by rfl) rfl⟩
       | 15,_,hr=>
        as_aux_lemma=>
        refine wpOp_step rfl (fun K' hK=>?_)
        have e1:t 53=.slice A2 n c2:=hR.ir.val (14,53) (by simp) (dep_of hr 14 (by kernel_rfl))
        go_simp
        exact hK _ _ ⟨upd t 54 (.int .i64 n),by first | (simp[upd,e1];done) | (simp[upd,e1];rfl),hR.yields (by decide) (by decide) hR.ir.fin (fun _ _ h=>h) (by rfl) rfl⟩
       | 16,_,hr=>
        as_aux_lemma=>
        refine wpOp_step rfl (fun K' hK=>?_)
        go_simp
        exact hK _ _ ⟨upd t 55 (.int .i64 nodes),rfl,hR.yields (by decide) (by decide) hR.ir.fin (fun _ _ h=>h) (by rfl) rfl⟩
       | 17,_,hr=>
        as_aux_lemma=>
        refine wpOp_step rfl (fun K' hK=>?_)
        have e1:t 54=.int .i64 n:=hR.ir.val (15,54) (by simp) (dep_of hr 15 (by kernel_rfl))
        have e2:t 55=.int .i64 nodes:=hR.ir.val (16,55) (by simp) (dep_of hr 16 (by kernel_rfl))
        go_simp
        exact hK _ _ ⟨upd t 56 (.int .i64 m),by first | (simp[upd,e1,e2];done) | (simp[upd,e1,e2];rfl),hR.yields (by decide) (by decide) hR.ir.fin (fun _ _ h=>h) (by rfl) rfl⟩
       | 18,_,hr=>
        as_aux_lemma=>
        refine wpOp_step rfl (fun K' hK=>?_)
        have e1:t 46=.slice A2 n c2:=hR.ir.val (7,46) (by simp) (dep_of hr 7 (by kernel_rfl))
        have e2:t 56=.int .i64 m:=hR.ir.val (17,56) (by simp) (dep_of hr 17 (by kernel_rfl))
        have hct:=cut_to (P:=Try.prog) 36 3 .i64 Try.underlying36 hiI A2 n c2 (m:Int) (by omega) (by have:=HM0.out;omega) hl1 wy
        rw[Int.toNat_natCast] at hct
        go_simp
        exact hK _ _ ⟨upd t 57 (.slice A2 m c2),by first | (simp[upd,e1,e2];done) | (simp[upd,e1,e2];rfl),hR.yields (by decide) (by decide) hR.ir.fin (fun _ _ h=>h) (by rfl) rfl⟩
       | 19,_,hr=>
        as_aux_lemma=>
        refine wpOp_step rfl (fun K' hK=>?_)
        have e1:t 39=.slice none 0 0:=hR.ir.val (0,39) (by simp) (dep_of hr 0 (by kernel_rfl))
        have e2:t 57=.slice A2 m c2:=hR.ir.val (18,57) (by simp) (dep_of hr 18 (by kernel_rfl))
        have hI2:=hR.ir.fin
        have hr2:=RI.below HR1.out hI2.1
        have hr3:RI wy A2 ((lpA fs k l).take nodes):=by have h:=Kd.C_take (m:=m) hr2 (by have h1:=HM0.out;have h2:=HN.out;omega);rwa [show(lpA fs k l).take m=(lpA fs k l).take nodes by have h1:=HM0.out;have h2:=HN.out;rw[List.take_eq_take_iff];omega] at h
        refine step_append_ints rfl (.tmp 39) (.tmp 57) rfl BI (.slice none 0 0) [] ((lpA fs k l).take nodes) A2 m c2 (by have h1:=HM0.out;have h2:=HN.out;rw[List.length_take];omega) e1 e2 (World.ownsRow_nil _ _ _ _) hr3 hI2.2.2.2 (by have h1:=HNO.out;rw[List.length_take];simp;omega) ?_
        intro v1 w1 hown hg hat
        have hg:wy.grownBy w1 none:=hg
        refine hK _ _ ⟨upd t 58 v1,rfl,hR.yields (by decide) (by decide) ⟨hI2.1.grown hg hI2.1.size (fun k e=>by cases e),hI2.2.1.kept hg (fun r e=>by cases e),hI2.2.2.1.kept hg (fun r e=>by cases e),Nat.le_trans hI2.2.2.2 hg.size⟩ (SCy.grown hg) ?_ rfl⟩
        have hl3:([] ++ (lpA fs k l).take nodes).length=m:=by have h1:=HM0.out;have h2:=HN.out;simp;omega
        rw[hl3] at hown
        exact hown
       | 20,_,hr=>
        as_aux_lemma=>
        refine wpOp_step rfl (fun K' hK=>?_)
        have h58:wy.ownsRow BI 3 1 (t 58) m (intsV ((lpA fs k l).take nodes)):=hR.ir.val (19,58) (by simp) (dep_of hr 19 (by kernel_rfl))
        go_simp
        exact hK _ _ ⟨upd t 13 (t 58),rfl,hR.ends hr hR.ir.fin (fun _ _ h=>h) h58 rfl⟩
       | nx+21,hix,_=>exact absurd (show nx+21<21 from hix) (by omega)
      rintro listed a2 W10 ⟨t,rfl,hR⟩ hl
      have hrow:W10.ownsRow BI 3 1 (t 13) m (intsV ((lpA fs k l).take nodes)):=hR.ir.val (20,13) (by simp) (hl 20 (by decide))
      obtain⟨hB10,hM10,hF10,hS10⟩:=hR.ir.fin
      have hS10:=Nat.le_trans HBI2.out.2.1 hS10
      clear hR hl
      generalize t 13=u13 at hrow ⊢
      generalize t 39=u39
      generalize t 40=u40
      generalize t 41=u41
      generalize t 42=u42
      generalize t 43=u43
      generalize t 44=u44
      generalize t 45=u45
      generalize t 46=u46
      generalize t 47=u47
      generalize t 48=u48
      generalize t 49=u49
      generalize t 50=u50
      generalize t 51=u51
      generalize t 52=u52
      generalize t 53=u53
      generalize t 54=u54
      generalize t 55=u55
      generalize t 56=u56
      generalize t 57=u57
      generalize t 58=u58
      obtain⟨⟨A13,n13,c13⟩,h13⟩:=slice_of_own hrow
      simp only[encS] at h13
      subst h13
      obtain⟨iL,hiL,hiL0,hiL1,hiL2⟩:=info_parts infoL
      have hg3:W10.grownBy (W10.alloc (.cells #[.slice A13 n13 c13] 36)) none:=World.grownBy_alloc _ _ _
      have HBX3:=Lib.hid (hB10.grown hg3 hB10.size (fun k e=>by cases e))
      have HM3:=Lib.hid (hM10.kept hg3 (fun r e=>by cases e))
      have HFW3:=Lib.hid (hF10.kept hg3 (fun r e=>by cases e))
      have HOW3:=Lib.hid (own_keptB hrow hg3 (fun r e=>by cases e))
      have HFD3:=Lib.hid (FD.snoc HFD.out (u:=.slice A13 n13 c13) (fun i hi=>Ap.of_lt (HBI2.out.2.2 i hi) (fun b q=>own_base hrow b q)))
      have HS3:Hid (B'≤(W10.alloc (.cells #[.slice A13 n13 c13] 36)).heap.size):=Nat.le_trans hS10 hg3.size
      have hs0l:l+1≤1000001:=by have:=HLO.out;omega
      clear hg3 hB10 hM10 hF10 hS10 hrow HBI HM HFW HSZ
      go_wp2_with (at_builtin;refine wpList_append_own _ rfl _ _ 37 rfl B' 36 iL (.slice none 0 0) 1 24 Try.underlying37 hiL hiL0 hiL1 hiL2 rfl (by decide) _ _ _ rfl HFW3.out.own ⟨W10.heap.size,0,none⟩ 1 1 [.slice A13 n13 c13] rfl rfl (cell_one_new _ _ _) (by simp[Value.oneCell']) (by simp only[maxLen];omega) (by omega) HS3.out ?_;intro v' w4 hown4 hg4 _)
      go_roundw
      case rel=>
       have hB4:∀r,u11.ownBlock=some r→B'≤r:=fun r e=>(HFW3.out.lt (.inl e)).1
       have hll:lA (fcA G k) l=(lpA fs k l).take nodes:=by rw[HGG.out];exact lpA_cpA fs hltm hltm2
       refine⟨l+1,fun j=>if j=l then .slice A13 n13 c13 else lv j,by omega,by omega,by go_num,HBX3.out.grown hg4 HBX3.out.size (fun r e=>by have:=hB4 r e;have:=HBB.out;omega),HM3.out.kept hg4 (fun r e q=>by have:=hB4 r e;have:=HOLD.out _ q;omega),FW.snoc HFW3.out ?_ hown4 hg4,Nat.le_trans HS3.out hg4.size,HFD3.out⟩
       rw[hll,show((lpA fs k l).take nodes).length=m by have h1:=HM0.out;have h2:=HN.out;rw[List.length_take];omega]
       exact own_weaken HOW3.out HBI2.out.2.1
      case measure=>simp[intOf];omega
    ·have HLEN:Hid (l=(fcA G k).length):=by
      show l=_
      rw[HGG.out,fcA_cpA_len fs hltm];omega
     obtain⟨AF,cF,hu11⟩:=own_slice HFW.out.own
     subst hu11
     obtain⟨iF,hiF,hiF0,hiF1,hiF2⟩:=info_parts infoF
     have hg3:wi.grownBy (wi.alloc (.cells #[.slice AF l cF] 37)) none:=World.grownBy_alloc _ _ _
     have HBX3:=Lib.hid (HBI.out.grown hg3 HBI.out.size (fun k e=>by cases e))
     have HM3:=Lib.hid (HM.out.kept hg3 (fun r e=>by cases e))
     have HFW3:=Lib.hid (HFW.out.kept hg3 (fun r e=>by cases e))
     have HS3:Hid (w.heap.size≤(wi.alloc (.cells #[.slice AF l cF] 37)).heap.size):=Nat.le_trans HBI.out.size hg3.size
     have hkb:k+1≤100000:=by have:=HMA.out;omega
     clear hg3 HBI HM HFW
     by_cases hq:(l:Int)<((fcA fs k).length:Int)
     ·have hq2:¬ (l:Int)<(loops:Int):=by omega
      go_wp2_with (at_builtin;refine wpList_append_own _ rfl _ _ 24 rfl w.heap.size 37 iF (.slice none 0 0) 1 24 Try.underlying24 hiF hiF0 hiF1 hiF2 rfl (by decide) _ _ _ rfl HM3.out.own ⟨wi.heap.size,0,none⟩ 1 1 [.slice AF l cF] rfl rfl (cell_one_new _ _ _) (by simp[Value.oneCell']) (by simp only[maxLen];omega) (by omega) HS3.out ?_;intro v' w4 hown4 hg4 _)
      go_roundw
      case rel=>
       have hm5:=MW.snoc HM3.out (by rw[←HLEN.out];exact HFW3.out.lower HBB.out) (fun f hf=>by
        cases hb:(vf f).ownBlock with
        | none=>exact .inl rfl
        | some r=>exact .inr (fun e=>by
          have h1:=HOLD.out r (.inr ⟨f,hf,.inl hb⟩)
          have h2:=(HFW3.out.lt (.inl e.symm)).1
          omega)) hown4 hg4
       have hmd:=MD.snoc HMD.out (lv:=lv) (by rw[←HLEN.out];exact HFD.out) (fun f hf i hi j hj=>Ap.of_lt (B:=B') (fun b q=>HOLD.out b (.inr ⟨f,hf,.inr ⟨i,hi,q⟩⟩)) (fun b q=>(HFW3.out.lt (.inr ⟨j,by rw[HLEN.out];exact hj,q⟩)).1))
       exact⟨k+1,_,_,by omega,by omega,by go_num,HBX3.out.grown hg4 HBX3.out.size (fun r e=>(HM3.out.lt (.inl e)).1),hm5,hmd⟩
      case measure=>simp[intOf];omega
     ·go_wp2_with (at_builtin;refine wpList_append_own _ rfl _ _ 24 rfl w.heap.size 37 iF (.slice none 0 0) 1 24 Try.underlying24 hiF hiF0 hiF1 hiF2 rfl (by decide) _ _ _ rfl HM3.out.own ⟨wi.heap.size,0,none⟩ 1 1 [.slice AF l cF] rfl rfl (cell_one_new _ _ _) (by simp[Value.oneCell']) (by simp only[maxLen];omega) (by omega) HS3.out ?_;intro v' w4 hown4 hg4 _)
      go_roundw
      case rel=>
       have hm5:=MW.snoc HM3.out (by rw[←HLEN.out];exact HFW3.out.lower HBB.out) (fun f hf=>by
        cases hb:(vf f).ownBlock with
        | none=>exact .inl rfl
        | some r=>exact .inr (fun e=>by
          have h1:=HOLD.out r (.inr ⟨f,hf,.inl hb⟩)
          have h2:=(HFW3.out.lt (.inl e.symm)).1
          omega)) hown4 hg4
       have hmd:=MD.snoc HMD.out (lv:=lv) (by rw[←HLEN.out];exact HFD.out) (fun f hf i hi j hj=>Ap.of_lt (B:=B') (fun b q=>HOLD.out b (.inr ⟨f,hf,.inr ⟨i,hi,q⟩⟩)) (fun b q=>(HFW3.out.lt (.inr ⟨j,by rw[HLEN.out];exact hj,q⟩)).1))
       exact⟨k+1,_,_,by omega,by omega,by go_num,HBX3.out.grown hg4 HBX3.out.size (fun r e=>(HM3.out.lt (.inl e)).1),hm5,hmd⟩
      case measure=>simp[intOf];omega
  ·have HLEN:Hid (k=G.length):=by
    show k=_
    rw[HGG.out,cpA_len];omega
   obtain⟨AV,cV,hu9⟩:=own_slice HM.out.own
   subst hu9
   by_cases hq:(k:Int)<(fs.length:Int)
   ·have hq2:¬ (k:Int)<(many:Int):=by omega
    go_wp2
    go_ret
    exact⟨⟨_,rfl,vf,vl,by rw[←HGG.out,←HLEN.out];exact HM.out,by rw[←HGG.out,←HLEN.out];exact HMD.out⟩,HB.out⟩
   ·go_wp2
    go_ret
    exact⟨⟨_,rfl,vf,vl,by rw[←HGG.out,←HLEN.out];exact HM.out,by rw[←HGG.out,←HLEN.out];exact HMD.out⟩,HB.out⟩
theorem copy_any (A:Option Addr) (c:Nat) (fs:Fs) (many loops nodes:Nat) (w:World) (hF:RF w A fs) (hc:fs.length≤c) (hm:many≤100000) (hl:loops≤100000) (hn:nodes≤100000) :
  Calls Try.prog 12 #[.slice A fs.length c,.int .i64 many,.int .i64 loops,.int .i64 nodes] w fun e w'=>(∃v vf vl,e=.returned v∧MW w.heap.size v (cpA fs many loops nodes) (cpA fs many loops nodes).length vf vl w')∧Below w.heap.size w w':=
 (copyD_any A c fs many loops nodes w hF hc hm hl hn).mono fun _ _ ⟨⟨v,vf,vl,h1,h2,_⟩,h3⟩=>⟨⟨v,vf,vl,h1,h2⟩,h3⟩
end Go.Proofs.Ytealnhaffphamaa

namespace Go.Proofs.Ytealnhaffphamaa
open Go.RowKit Go.Shelf Go.Proofs.YtealnhaffphamaaW.PrintWords
def rotA (l:List Int) (i:Nat):List Int:=l.drop i ++ l.take i
theorem rotA_len (l:List Int) (i:Nat):(rotA l i).length=l.length:=by simp[rotA];omega
def cmpA:List Int→List Int→Int
 | [],[]=>0
 | [],_ :: _=>-1
 | _ :: _,[]=>1
 | a :: r,b :: s=>if a=b then cmpA r s else if a<b then -1 else 1
theorem cmpA_eq {a b:List Int}:cmpA a b=0↔a=b:=by
 induction a generalizing b with
 | nil=>cases b <;> simp[cmpA]
 | cons x a ih=>
  cases b with
  | nil=>simp[cmpA]
  | cons y b=>
   simp only[cmpA]
   split
   ·rename_i e;rw[ih];simp[e]
   ·rename_i e
    split <;> simp[e]
theorem below_drewN {w W:World} (h:Below w.heap.size w W) (n:Nat):Below w.heap.size w (W.drewN n):=h.trans ((Drawn0.below ⟨⟨n,rfl⟩⟩).mono h.size)
theorem cmp_step {a b:List Int} {i:Nat} (h1:i<a.length) (h2:i<b.length):cmpA (a.drop i) (b.drop i)=if a.getD i 0=b.getD i 0 then cmpA (a.drop (i+1)) (b.drop (i+1)) else if a.getD i 0<b.getD i 0 then -1 else 1:=by
 rw[List.drop_eq_getElem_cons h1,List.drop_eq_getElem_cons h2]
 simp only[cmpA]
 rw[show a.getD i 0=a[i] by simp[List.getD_eq_getElem?_getD,h1],show b.getD i 0=b[i] by simp[List.getD_eq_getElem?_getD,h2]]
theorem cmp_end {a b:List Int} {i:Nat} (h:i=a.length∨i=b.length) (h1:i≤a.length) (h2:i≤b.length):cmpA (a.drop i) (b.drop i)=if a.length<b.length then -1 else if b.length<a.length then 1 else 0:=by
 rcases Nat.lt_or_ge i a.length with q | q
 ·have e:i=b.length:=by omega
  rw[List.drop_eq_nil_of_le (show b.length≤i by omega),List.drop_eq_getElem_cons q,if_neg (by omega),if_pos (by omega)];rfl
 ·rw[List.drop_eq_nil_of_le q]
  rcases Nat.lt_or_ge i b.length with r | r
  ·rw[List.drop_eq_getElem_cons r,if_pos (by omega)];rfl
  ·rw[List.drop_eq_nil_of_le r,if_neg (by omega),if_neg (by omega)];rfl
set_option maxHeartbeats 1000000 in
theorem cmp_any (A1 A2:Option Addr) (n1 c1 n2 c2:Nat) (a b:List Int) (w:World) (hn1:n1=a.length) (hn2:n2=b.length) (h1:RI w A1 a) (hc1:n1≤c1) (h2:RI w A2 b) (hc2:n2≤c2) (hl:a.length≤1000000000) :
  Calls Try.prog 76 #[.slice A1 n1 c1,.slice A2 n2 c2] w fun e w'=>e=.returned (.int .i64 (cmpA a b))∧Below w.heap.size w w':=by
 have HA:=Lib.hid h1
 have HB:=Lib.hid h2
 have HN:Hid (a.length=n1∧b.length=n2):=⟨hn1.symm,hn2.symm⟩
 have hl1:n1≤1000000000:=by omega
 have hb2:=h2.len
 have hl2:n2≤9223372036854775807:=by omega
 clear h1 h2 hn1 hn2 hl hb2
 go_enter Try.func76,Try.ntmps76
 go_wp2
 go_loopw [4,5] (fun _ s5 wr=>∃i:Nat,i≤n1∧i≤n2∧s5=.int .i64 i∧Hid (Below w.heap.size w wr)∧Hid (cmpA (a.drop i) (b.drop i)=cmpA a b)) (fun _ v _=>n1 - (intOf v).toNat)
 case atStart=>exact⟨0,by omega,by omega,rfl,Below.refl _ _,by show _=_;simp⟩
 case round=>
  rename World=>wr
  obtain⟨i,hi,hj,rfl,HBL,HC⟩:=hrel
  by_cases q1:i<n1
  ·by_cases q2:i<n2
   ·have z1:(i:Int)<(n1:Int):=by omega
    have z2:(i:Int)<(n2:Int):=by omega
    obtain⟨ad1,rfl,k1⟩:=(RI.below HA.out HBL.out).at (i:=i) (by have:=HN.out.1;omega)
    obtain⟨ad2,rfl,k2⟩:=(RI.below HB.out HBL.out).at (i:=i) (by have:=HN.out.2;omega)
    have hst:=cmp_step (a:=a) (b:=b) (i:=i) (by have:=HN.out.1;omega) (by have:=HN.out.2;omega)
    obtain⟨x,hx⟩:∃x,x=a.getD i 0:=⟨_,rfl⟩
    obtain⟨y,hy⟩:∃y,y=b.getD i 0:=⟨_,rfl⟩
    rw[←hx] at k1 hst
    rw[←hy] at k2 hst
    rw[HC.out] at hst
    have HST:=Lib.hid hst
    clear hx hy hst
    by_cases e:x=y
    ·have ez:(x != y)=false:=by simp[e]
     have HE:Hid (cmpA (a.drop (i+1)) (b.drop (i+1))=cmpA a b):=by show _=_;rw[HST.out,if_pos e]
     clear e
     go_wp2_with fail
     go_quiet (fail)
     rename_i nq
     have HB2:Hid (Below w.heap.size w (wr.drewN nq)):=HBL.out.trans ((Drawn0.below ⟨⟨nq,rfl⟩⟩).mono HBL.out.size)
     clear k1 k2 HBL
     generalize wr.drewN nq=wq at HB2 ⊢
     go_wp2
     go_roundw
     case rel=>exact⟨i+1,by omega,by omega,by go_num,HB2,HE⟩
     case measure=>simp[intOf];omega
    ·have ez:(x != y)=true:=by simpa using e
     by_cases l:x<y
     ·have HE:Hid (cmpA a b=-1):=by show _=_;rw[HST.out,if_neg e,if_pos l]
      have lz:decide (x<y)=true:=by simpa using l
      clear e l
      go_wp2_with fail
      go_quiet (fail)
      go_wp2
      go_quiet (fail)
      go_wp2
      go_ret
      exact⟨by rw[HE.out];rfl,below_drewN (below_drewN HBL.out _) _⟩
     ·have HE:Hid (cmpA a b=1):=by show _=_;rw[HST.out,if_neg e,if_neg l]
      have lz:decide (x<y)=false:=by simpa using l
      clear e l
      go_wp2_with fail
      go_quiet (fail)
      go_wp2
      go_quiet (fail)
      go_wp2
      go_ret
      exact⟨by rw[HE.out];rfl,below_drewN (below_drewN HBL.out _) _⟩
   ·have HW:True:=trivial
    by_cases l:n1<n2
    ·have lz:(n1:Int)<(n2:Int):=by omega
     have HE:Hid (cmpA a b=-1):=by
      have h:=cmp_end (a:=a) (b:=b) (i:=i) (by have:=HN.out.1;have:=HN.out.2;omega) (by have:=HN.out.1;omega) (by have:=HN.out.2;omega)
      rw[HN.out.1,HN.out.2,if_pos l,HC.out] at h
      exact h
     go_wp2
     go_ret
     exact⟨by rw[HE.out];rfl,HBL.out⟩
    ·have lz:¬ (n1:Int)<(n2:Int):=by omega
     by_cases g:n2<n1
     ·have gz:(n1:Int) > (n2:Int):=by omega
      have HE:Hid (cmpA a b=1):=by
       have h:=cmp_end (a:=a) (b:=b) (i:=i) (by have:=HN.out.1;have:=HN.out.2;omega) (by have:=HN.out.1;omega) (by have:=HN.out.2;omega)
       rw[HN.out.1,HN.out.2,if_neg l,if_pos g,HC.out] at h
       exact h
      go_wp2
      go_ret
      exact⟨by rw[HE.out];rfl,HBL.out⟩
     ·have gz:¬ (n1:Int) > (n2:Int):=by omega
      have HE:Hid (cmpA a b=0):=by
       have h:=cmp_end (a:=a) (b:=b) (i:=i) (by have:=HN.out.1;have:=HN.out.2;omega) (by have:=HN.out.1;omega) (by have:=HN.out.2;omega)
       rw[HN.out.1,HN.out.2,if_neg l,if_neg g,HC.out] at h
       exact h
      go_wp2
      go_ret
      exact⟨by rw[HE.out];rfl,HBL.out⟩
  ·have HW:True:=trivial
   by_cases l:n1<n2
   ·have lz:(n1:Int)<(n2:Int):=by omega
    have HE:Hid (cmpA a b=-1):=by
     have h:=cmp_end (a:=a) (b:=b) (i:=i) (by have:=HN.out.1;have:=HN.out.2;omega) (by have:=HN.out.1;omega) (by have:=HN.out.2;omega)
     rw[HN.out.1,HN.out.2,if_pos l,HC.out] at h
     exact h
    go_wp2
    go_ret
    exact⟨by rw[HE.out];rfl,HBL.out⟩
   ·have lz:¬ (n1:Int)<(n2:Int):=by omega
    by_cases g:n2<n1
    ·have gz:(n1:Int) > (n2:Int):=by omega
     have HE:Hid (cmpA a b=1):=by
      have h:=cmp_end (a:=a) (b:=b) (i:=i) (by have:=HN.out.1;have:=HN.out.2;omega) (by have:=HN.out.1;omega) (by have:=HN.out.2;omega)
      rw[HN.out.1,HN.out.2,if_neg l,if_pos g,HC.out] at h
      exact h
     go_wp2
     go_ret
     exact⟨by rw[HE.out];rfl,HBL.out⟩
    ·have gz:¬ (n1:Int) > (n2:Int):=by omega
     have HE:Hid (cmpA a b=0):=by
      have h:=cmp_end (a:=a) (b:=b) (i:=i) (by have:=HN.out.1;have:=HN.out.2;omega) (by have:=HN.out.1;omega) (by have:=HN.out.2;omega)
      rw[HN.out.1,HN.out.2,if_neg l,if_neg g,HC.out] at h
      exact h
     go_wp2
     go_ret
     exact⟨by rw[HE.out];rfl,HBL.out⟩
theorem ints_ri {W:World} {base n:Nat} {v:Value} {xs:List Int} (hn:n=xs.length) (h:W.ownsRow base 3 1 v n (intsV xs)):∃A c,v=.slice A n c∧n≤c∧RI W A xs:=by
 obtain⟨A,c,h1,h2,h3⟩:=ints_reads hn h
 subst hn
 exact⟨A,c,h1,h2,h3⟩
set_option maxRecDepth 100000 in
set_option maxHeartbeats 1000000 in
theorem rturned_any (A:Option Addr) (n c i:Nat) (l:List Int) (w:World) (hn:n=l.length) (h:RI w A l) (hc:n≤c) (hi:i≤n) (hl:n≤10000000) :
  Calls Try.prog 68 #[.slice A n c,.int .i64 i] w fun e w'=>(∃v,e=.returned v∧w'.ownsRow w.heap.size 3 1 v (rotA l i).length (intsV (rotA l i)))∧Below w.heap.size w w':=by
 subst hn
 have HR:=Lib.hid h
 obtain⟨iI,hiI,hiI0,hiI1,hiI2⟩:=info_parts infoI
 have hcf:=cut_from (P:=Try.prog) 36 3 .i64 Try.underlying36 hiI 1 hiI1 A l.length c (i:Int) (by omega) (by omega)
 have hct:=cut_to (P:=Try.prog) 36 3 .i64 Try.underlying36 hiI A l.length c (i:Int) (by omega) (by omega) hc
 rw[Int.toNat_natCast] at hcf hct
 obtain⟨A',hA'⟩:∃A',A'=(if c=i then A else A.map (·.add (i * 1))):=⟨_,rfl⟩
 have hd:RI w A' (l.drop i):=by rw[hA'];exact Kd.C_drop h hi hc
 have ht:RI w A (l.take i):=Kd.C_take h hi
 rw[←hA'] at hcf
 have HD:=Lib.hid hd
 have HT:=Lib.hid ht
 clear hd ht h hA'
 go_enter Try.func68,Try.ntmps68
 go_upto_region 3 with(at_builtin;refine wpList_append_ints rfl _ _ rfl w.heap.size (.slice none 0 0) [] (l.drop i) A' (l.length - i) (c - i) (by simp) rfl rfl (World.ownsRow_nil _ _ _ _) HD.out (Nat.le_refl _) (by simp;omega) ?_;intro v1 w1 hown1 hg1 _)
 have hg1:w.grownBy w1 none:=hg1
 have HB1:Hid (Below w.heap.size w w1):=(Below.refl _ w).grown hg1 (Nat.le_refl _) (fun k e=>by cases e)
 have HOW1:=Lib.hid hown1
 clear hown1 hg1
 go_wp2_with (at_builtin;refine wpList_append_ints rfl _ _ rfl w.heap.size v1 ([] ++ l.drop i) (l.take i) A i c (by simp;omega) rfl rfl HOW1.out (RI.below HT.out HB1.out) HB1.out.size (by simp;omega) ?_;intro v2 w2 hown2 hg2 _)
 go_ret
 exact⟨⟨v2,rfl,hown2⟩,HB1.out.grown hg2 HB1.out.size (fun k e=>own_base HOW1.out k e)⟩
end Go.Proofs.Ytealnhaffphamaa

namespace Go.Proofs.Ytealnhaffphamaa
open Go.RowKit Go.Shelf Go.Proofs.YtealnhaffphamaaW.PrintWords
def leastUp (l:List Int):Nat→List Int
 | 0=>l
 | i+1=>if cmpA (rotA l i) (leastUp l i)<0 then rotA l i else leastUp l i
def leastA (l:List Int):List Int:=leastUp l l.length
theorem rotA_zero (l:List Int):rotA l 0=l:=by simp[rotA]
theorem leastUp_one (l:List Int):leastUp l 1=l:=by
 show(if cmpA (rotA l 0) l<0 then rotA l 0 else l)=l
 rw[rotA_zero]
 split <;> rfl
theorem leastUp_len (l:List Int) (i:Nat):(leastUp l i).length=l.length:=by
 induction i with
 | zero=>rfl
 | succ i ih=>
  simp only[leastUp]
  split
  ·exact rotA_len l i
  ·exact ih
theorem leastA_len (l:List Int):(leastA l).length=l.length:=leastUp_len l _
theorem leastA_of {l:List Int} {i:Nat} (h1:1≤i) (h2:i≤max 1 l.length) (h3:¬ i<l.length):leastUp l i=leastA l:=by
 unfold leastA
 rcases Nat.lt_or_ge l.length 1 with h | h
 ·have e:l.length=0:=by omega
  have e1:i=1:=by omega
  rw[e,e1,leastUp_one];rfl
 ·have:i=l.length:=by omega
  rw[this]
set_option maxRecDepth 100000 in
set_option maxHeartbeats 2000000 in
theorem least_any (A:Option Addr) (n c:Nat) (l:List Int) (w:World) (hn:n=l.length) (h:RI w A l) (hc:n≤c) (hl:n≤10000000) :
  Calls Try.prog 77 #[.slice A n c] w fun e w'=>(∃A' c',e=.returned (.slice A' n c')∧n≤c'∧RI w' A' (leastA l))∧Below w.heap.size w w':=by
 have HR:=Lib.hid h
 have HN:=Lib.hid hn
 have HL:=Lib.hid hl
 have HC:=Lib.hid hc
 clear h hn hc
 go_enter Try.func77,Try.ntmps77
 go_wp2
 have HB0:Hid (Below w.heap.size w w):=Below.refl _ _
 go_loopw [3,4] (fun s3 s4 wr=>∃(i c':Nat) (A':Option Addr),1≤i∧i≤max 1 n∧s3=.slice A' n c'∧s4=.int .i64 i∧Hid (n≤c')∧Hid (RI wr A' (leastUp l i))∧Hid (Below w.heap.size w wr)) (fun _ v _=>n - (intOf v).toNat)
 case atStart=>exact⟨1,c,A,by omega,by omega,rfl,rfl,HC.out,by show RI w A (leastUp l 1);rw[leastUp_one];exact HR.out,HB0⟩
 case round=>
  clear HB0
  rename World=>wr
  obtain⟨i,c',A',hi1,hi2,rfl,rfl,HC',HM,HB⟩:=hrel
  by_cases hlt:i<n
  ·have hlz:(i:Int)<(n:Int):=by omega
   have HT:=Lib.hid (rturned_any A n c i l wr HN.out (RI.below HR.out HB.out) HC.out (by omega) (by omega))
   go_upto_region 6 with((with_reducible refine(HT.out).mono ?_);rintro e w1 ⟨⟨v1,rfl,ho1⟩,hb1⟩;obtain⟨A1,c1,rfl,hc1,hr1⟩:=ints_ri (n:=(rotA l i).length) rfl ho1)
   have HB1:=Lib.hid (HB.out.trans (hb1.mono HB.out.size))
   have HM1:=Lib.hid (RI.below HM.out hb1)
   have HR1:=Lib.hid hr1
   have hrl:(rotA l i).length=n:=by rw[rotA_len,←HN.out]
   rw[hrl] at hc1 ⊢
   have HC1:=Lib.hid hc1
   clear hr1 hb1 ho1 HT HB HM hc1
   have HP:=Lib.hid (cmp_any A1 A' n c1 n c' (rotA l i) (leastUp l i) w1 hrl.symm (by rw[leastUp_len,←HN.out]) HR1.out HC1.out HM1.out HC'.out (by rw[hrl];omega))
   by_cases hcmp:cmpA (rotA l i) (leastUp l i)<0
   ·have HU:Hid (leastUp l (i+1)=rotA l i):=by show leastUp l (i+1)=rotA l i;simp only[leastUp];rw[if_pos hcmp]
    go_wp2_with ((with_reducible refine(HP.out).mono ?_);rintro e w2 ⟨rfl,hb2⟩)
    go_roundw
    case rel=>exact⟨i+1,c1,A1,by omega,by omega,rfl,by go_num,HC1,by show RI w2 A1 (leastUp l (i+1));rw[HU.out];exact RI.below HR1.out hb2,HB1.out.trans (hb2.mono HB1.out.size)⟩
    case measure=>simp[intOf];omega
   ·have HU:Hid (leastUp l (i+1)=leastUp l i):=by show leastUp l (i+1)=leastUp l i;simp only[leastUp];rw[if_neg hcmp]
    go_wp2_with ((with_reducible refine(HP.out).mono ?_);rintro e w2 ⟨rfl,hb2⟩)
    go_roundw
    case rel=>exact⟨i+1,c',A',by omega,by omega,rfl,by go_num,HC',by show RI w2 A' (leastUp l (i+1));rw[HU.out];exact RI.below HM1.out hb2,HB1.out.trans (hb2.mono HB1.out.size)⟩
    case measure=>simp[intOf];omega
  ·have HE:Hid (leastUp l i=leastA l):=leastA_of hi1 (by rw[←HN.out];exact hi2) (by rw[←HN.out];exact hlt)
   go_wp2
   go_ret
   exact⟨⟨A',c',rfl,HC'.out,by rw[←HE.out];exact HM.out⟩,HB.out⟩
end Go.Proofs.Ytealnhaffphamaa
