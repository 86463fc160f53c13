/- Contracts of the functions that the statement reaches, and plain lemmas: part 2 of 31. -/
import Derived.Test.YtealnhaffphamaaS01
import Derived.RangeFuncNested
import Derived.RangeFuncBound
import Derived.RangeFuncCalls
import Derived.RangeFuncLeaves
import Derived.OwnWalkIn
import Derived.TacticsInMore
import Derived.LoopNIn
import Derived.LoopIn
import Derived.Sort.CutIn
import Derived.WideKeyPair
import Derived.Maps.RangeWalk
import Derived.Maps.OwnSet
import Derived.Maps.OwnIn
import Derived.DeepKeys4
import Derived.Sort.MapsRangeIn
import Derived.DeepKeys2
set_option linter.unusedVariables false
set_option linter.unusedSimpArgs false

namespace Go.Proofs.Ytealnhaffphamaa
open Go.RowKit Go.Proofs.YtealnhaffphamaaW.PrintWords
def encP (f l i:Nat):Value:=.agg #[.int .i64 f,.int .i64 l,.int .i64 i]
def enc3 (v b a:Int):Value:=.agg #[.int .i64 v,.int .i64 b,.int .i64 a]
def encsP (x:PV):Array Value:=#[encP x.f x.l x.i,enc3 x.v x.b x.a]
attribute [local go_sem] Oper.semAt_some
def RY (J Jx:List PV→World→Prop) (w0 wr:World) (pre:List PV) (b:Bool) (W:World) (v:Value):Prop:=(v=.bool b∧J pre W∧Below w0.heap.size wr.drew W)∨(v=.bool !b∧Jx pre W)
set_option maxRecDepth 100000 in
set_option maxHeartbeats 4000000 in
theorem places1_any (n':Nat) (y Bm:Nat) (N:Int) (A:Option Addr) (c:Nat) (fs:Fs) (w0:World) (hF:RF w0 A fs) (hSm:Sm fs) (J Jx:List PV→World→Prop)
  (hD:∀pre W,J pre W→J pre W.drew)
  (hY:∀pre x W,J pre W→pre ++ [x] <+: plsA fs→YieldAt Fence.wide (n' - 1) Try.prog y (encsP x) W fun e W'=>
   (e=.returned (.bool true)∧J (pre ++ [x]) W'∧Below w0.heap.size W W')∨(e=.returned (.bool false)∧Jx (pre ++ [x]) W'))
  (W:World) (hW:Below w0.heap.size w0 W) (hm0:W.cell? ⟨Bm,0,none⟩=some (.int .i64 N)) (hm1:W.cell? ⟨Bm,1,none⟩=some (.slice A fs.length c)) (h0:J [] W) :
  CallsIn Fence.wide n' Try.prog 86 #[.func (.yield y) #[] #[],.pointer (some ⟨Bm,0,none⟩)] W fun e W'=>(∃v,e=.returned v) ∧
   ((∃ys,ys=plsA fs∧J ys W')∨(∃pre,pre <+: plsA fs∧Jx pre W')):=by
 have HSm:=Lib.hid hSm
 have HF:=Lib.hid hF
 have HY:=Lib.hid hY
 have HB:=Lib.hid hW
 have H0:=Lib.hid h0
 have HD:=Lib.hid hD
 have hN:=hF.len
 clear hF hY hW h0 hD hSm
 refine callsIn_of_wp Try.func86 rfl trivial ?_ rfl
 simp only[Try.ntmps86,List.size_toArray,List.length_cons,List.length_nil,Nat.reduceAdd,Nat.reduceSub,Array.replicate_succ,Array.replicate_zero,List.push_toArray,List.append_toArray,List.nil_append,List.cons_append]
 gi_wp2
 gi_loopw [13] (fun s13 wr=>∃f:Nat,f≤fs.length∧s13=.int .i64 f∧Hid (J (upA fs f) wr∧Below w0.heap.size w0 wr)) (fun v _=>fs.length - (intOf v).toNat)
 case atStart=>exact⟨0,by omega,rfl,H0.out,HB.out⟩
 case round=>
  rename World=>wr
  obtain⟨f,hf,rfl,HJ⟩:=hrel
  by_cases hlt:f<fs.length
  ·have hlz:(f:Int)<(fs.length:Int):=by omega
   obtain⟨ad,A0,c0,rfl,hc,hl0,hr0⟩:=HF.out.at hlt
   have hn0:=hr0.len
   have HR0:=Lib.hid hr0
   have hcw:=pw_cell_below HJ.out.2 hc
   have HC0:=Lib.hid hc
   clear hr0 hc
   gi_wp2
   gi_loopw [20] (fun s20 wr=>∃l:Nat,l≤(fcA fs f).length∧s20=.int .i64 l∧Hid (J (upA fs f ++ faceA fs f l) wr∧Below w0.heap.size w0 wr)) (fun v _=>(fcA fs f).length - (intOf v).toNat)
   case atStart=>exact⟨0,by omega,rfl,by simpa [faceA] using HJ.out.1,HJ.out.2⟩
   case round=>
    clear HJ hcw
    rename World=>wr
    obtain⟨l,hl,rfl,HJ⟩:=hrel
    by_cases hlt2:l<(fcA fs f).length
    ·have hlz2:(l:Int)<((fcA fs f).length:Int):=by omega
     obtain⟨ad1,A1,c2,rfl,hc,hl1,hr1⟩:=HR0.out.atP hlt2
     have HR1:Hid (RI w0 A1 (lpA fs f l)):=hr1
     have hcw:=pw_cell_below HJ.out.2 hc
     have hn1:=HR1.out.len
     obtain⟨n,hn⟩:∃n,n=(lpA fs f l).length:=⟨_,rfl⟩
     rw[←hn] at hcw hn1 hl1
     have HN:=Lib.hid hn
     clear hr1 hc hn
     gi_wp2
     gi_loopw [29] (fun s29 wr=>∃i:Nat,i≤n∧s29=.int .i64 i∧Hid (J (upA fs f ++ faceA fs f l ++ rowA fs f l i) wr∧Below w0.heap.size w0 wr)) (fun v _=>n - (intOf v).toNat)
     case atStart=>exact⟨0,by omega,rfl,by simpa [rowA] using HJ.out.1,HJ.out.2⟩
     case round=>
      clear HJ hcw
      rename World=>wr
      obtain⟨i,hi,rfl,HJ⟩:=hrel
      by_cases hlt3:i<n
      ·have hlz3:(i:Int)<(n:Int):=by omega
       have hnz:¬ n=0:=by omega
       obtain⟨s,hs⟩:∃s:Nat,s=i+n:=⟨_,rfl⟩
       obtain⟨p,hp⟩:∃p:Nat,p=s - 1:=⟨_,rfl⟩
       obtain⟨q,hq⟩:∃q:Nat,q=i+1:=⟨_,rfl⟩
       obtain⟨pb,hpb⟩:∃pb:Nat,pb=p % n:=⟨_,rfl⟩
       obtain⟨pa,hpa⟩:∃pa:Nat,pa=q % n:=⟨_,rfl⟩
       have hpbn:pb<n:=by rw[hpb];exact Nat.mod_lt _ (by omega)
       have hpan:pa<n:=by rw[hpa];exact Nat.mod_lt _ (by omega)
       obtain⟨ad2,rfl,hx⟩:=HR1.out.at (i:=i) (by rw[←HN.out];exact hlt3)
       obtain⟨_,e2,hxb⟩:=HR1.out.at (i:=pb) (by rw[←HN.out];exact hpbn)
       cases e2
       obtain⟨_,e2,hxa⟩:=HR1.out.at (i:=pa) (by rw[←HN.out];exact hpan)
       cases e2
       have hpv:pvA fs f l i=⟨f,l,i,(lpA fs f l).getD i 0,(lpA fs f l).getD pb 0,(lpA fs f l).getD pa 0⟩:=by
        unfold pvA
        rw[←HN.out,hpb,hpa,hp,hq,hs]
       obtain⟨xi,hxi⟩:∃xi,xi=(lpA fs f l).getD i 0:=⟨_,rfl⟩
       obtain⟨xb,hxbb⟩:∃xb,xb=(lpA fs f l).getD pb 0:=⟨_,rfl⟩
       obtain⟨xa,hxaa⟩:∃xa,xa=(lpA fs f l).getD pa 0:=⟨_,rfl⟩
       rw[←hxi] at hx hpv
       rw[←hxbb] at hxb hpv
       rw[←hxaa] at hxa hpv
       have hns:n≤1000000:=by rw[HN.out];exact HSm.out.2.2 f l
       have hw1:IntKind.i64.wrap ((i:Int)+(n:Int))=(s:Int):=by rw[IntKind.wrap_i64];omega
       have hw2:IntKind.i64.wrap ((s:Int) - 1)=(p:Int):=by rw[IntKind.wrap_i64];omega
       have hw3:IntKind.i64.wrap ((i:Int)+1)=(q:Int):=by rw[IntKind.wrap_i64];omega
       have hm1:Int.tmod (p:Int) (n:Int)=(pb:Int):=by rw[hpb];rfl
       have hm2:Int.tmod (q:Int) (n:Int)=(pa:Int):=by rw[hpa];rfl
       have hzb:(pb:Int)<(n:Int):=by omega
       have hza:(pa:Int)<(n:Int):=by omega
       have hx:=pw_cell_below HJ.out.2 hx
       have HXB:=Lib.hid (pw_cell_below HJ.out.2 hxb)
       have HXA:=Lib.hid (pw_cell_below HJ.out.2 hxa)
       have HPV:=Lib.hid hpv
       have HYI:=Lib.hid (HY.out (upA fs f ++ faceA fs f l ++ rowA fs f l i) (pvA fs f l i) wr.drew (HD.out _ _ HJ.out.1) (by rw[List.append_assoc,←rowA_succ];exact at_prefix fs hlt hlt2 (by rw[←HN.out];exact hlt3)))
       clear hpv hxb hxa hxi hxbb hxaa hs hp hq hpb hpa hns
       gi_upto_region 10 with fail
       refine wpIn_region_inv' (by kernel_rfl) (by kernel_rfl) (fun listed aa wy=>∃t:Nat→Value,aa={ tmps:=#[.func (.yield y) #[] #[],.pointer (some ⟨Bm,0,none⟩),undef,.int .i64 f,.slice (some ad1) (fcA fs f).length c0,.int .i64 l,.slice (some ad2) n c2,.int .i64 n,.int .i64 i,.int .i64 xi,.pointer (some ⟨Bm,1,none⟩),.slice (some ad) fs.length c,.int .i64 fs.length,.int .i64 f,.bool true,.int .i64 f,.pointer (some (ad.add f)),.slice (some ad1) (fcA fs f).length c0,.slice (some ad1) (fcA fs f).length c0,.int .i64 (fcA fs f).length,.int .i64 l,.bool true,.int .i64 l,.pointer (some (ad1.add l)),.slice (some ad2) n c2,.slice (some ad2) n c2,.int .i64 n,.slice (some ad2) n c2,.int .i64 n,.int .i64 i,.bool true,.int .i64 i,.pointer (some (ad2.add i)),.int .i64 xi,t 34,t 35,t 36,t 37,t 38,t 39,t 40,t 41,t 42,t 43,t 44,t 45,t 46,t 47,t 48,t 49,t 50,t 51,t 52,t 53,t 54,t 55,t 56,t 57,t 58,u59,u60,u61],defers:=[] }∧IRC (fun W=>W=wr.drew) 23 (fun d v=>match d with | 34=>v=.func (.yield y) #[] #[] | 35=>v=.int .i64 f | 36=>v=.int .i64 l | 37=>v=.int .i64 i | 38=>v=.agg #[.int .i64 f,.int .i64 l,.int .i64 i] | 39=>v=.int .i64 xi | 40=>v=.slice (some ad2) n c2 | 41=>v=.int .i64 i | 42=>v=.int .i64 n | 43=>v=.int .i64 s | 44=>v=.int .i64 p | 45=>v=.int .i64 n | 46=>v=.int .i64 pb | 47=>v=.pointer (some (ad2.add pb)) | 48=>v=.int .i64 xb | 49=>v=.slice (some ad2) n c2 | 50=>v=.int .i64 i | 51=>v=.int .i64 q | 52=>v=.int .i64 n | 53=>v=.int .i64 pa | 54=>v=.pointer (some (ad2.add pa)) | 55=>v=.int .i64 xa | 56=>v=.agg #[.int .i64 xi,.int .i64 xb,.int .i64 xa] | _=>True) (fun d (W:World) v=>match d with | 57=>RY J Jx w0 wr (upA fs f ++ faceA fs f l ++ rowA fs f l i ++ [pvA fs f l i]) true W v | 58=>RY J Jx w0 wr (upA fs f ++ faceA fs f l ++ rowA fs f l i ++ [pvA fs f l i]) false W v | _=>True) [(0,34),(1,35),(2,36),(3,37),(4,38),(5,39),(6,40),(7,41),(8,42),(9,43),(10,44),(11,45),(12,46),(13,47),(14,48),(15,49),(16,50),(17,51),(18,52),(19,53),(20,54),(21,55),(22,56)] [(23,57),(24,58)] listed t wy) ⟨(fun d=>match d with | 34=>u34 | 35=>u35 | 36=>u36 | 37=>u37 | 38=>u38 | 39=>u39 | 40=>u40 | 41=>u41 | 42=>u42 | 43=>u43 | 44=>u44 | 45=>u45 | 46=>u46 | 47=>u47 | 48=>u48 | 49=>u49 | 50=>u50 | 51=>u51 | 52=>u52 | 53=>u53 | 54=>u54 | 55=>u55 | 56=>u56 | 57=>u57 | 58=>u58 | _=>undef),rfl,IRC.start _ (by rfl) _⟩ ?_ ?_
       rotate_left
       ·rintro listed hCl ix hix aa wy ⟨t,rfl,hR⟩ hr
        match ix,hix,hr with
        | 0,_,hr=>
         as_aux_lemma=>
         refine wpOpIn_step rfl (fun K' hK=>?_)
         go_simp
         exact hK _ _ ⟨upd t 34 (.func (.yield y) #[] #[]),rfl,hR.yields (by decide) rfl rfl rfl⟩
        | 1,_,hr=>
         as_aux_lemma=>
         refine wpOpIn_step rfl (fun K' hK=>?_)
         go_simp
         exact hK _ _ ⟨upd t 35 (.int .i64 f),rfl,hR.yields (by decide) rfl rfl rfl⟩
        | 2,_,hr=>
         as_aux_lemma=>
         refine wpOpIn_step rfl (fun K' hK=>?_)
         go_simp
         exact hK _ _ ⟨upd t 36 (.int .i64 l),rfl,hR.yields (by decide) rfl rfl rfl⟩
        | 3,_,hr=>
         as_aux_lemma=>
         refine wpOpIn_step rfl (fun K' hK=>?_)
         go_simp
         exact hK _ _ ⟨upd t 37 (.int .i64 i),rfl,hR.yields (by decide) rfl rfl rfl⟩
        | 4,_,hr=>
         as_aux_lemma=>
         refine wpOpIn_step rfl (fun K' hK=>?_)
         have e1:t 35=.int .i64 f:=hR.val (1,35) (by simp) (dep_of hr 1 (by kernel_rfl))
         have e2:t 36=.int .i64 l:=hR.val (2,36) (by simp) (dep_of hr 2 (by kernel_rfl))
         have e3:t 37=.int .i64 i:=hR.val (3,37) (by simp) (dep_of hr 3 (by kernel_rfl))
         go_simp
         exact hK _ _ ⟨upd t 38 (.agg #[.int .i64 f,.int .i64 l,.int .i64 i]),by simp[upd,e1,e2,e3],hR.yields (by decide) rfl rfl rfl⟩
        | 5,_,hr=>
         as_aux_lemma=>
         refine wpOpIn_step rfl (fun K' hK=>?_)
         go_simp
         exact hK _ _ ⟨upd t 39 (.int .i64 xi),rfl,hR.yields (by decide) rfl rfl rfl⟩
        | 6,_,hr=>
         as_aux_lemma=>
         refine wpOpIn_step rfl (fun K' hK=>?_)
         go_simp
         exact hK _ _ ⟨upd t 40 (.slice (some ad2) n c2),rfl,hR.yields (by decide) rfl rfl rfl⟩
        | 7,_,hr=>
         as_aux_lemma=>
         refine wpOpIn_step rfl (fun K' hK=>?_)
         go_simp
         exact hK _ _ ⟨upd t 41 (.int .i64 i),rfl,hR.yields (by decide) rfl rfl rfl⟩
        | 8,_,hr=>
         as_aux_lemma=>
         refine wpOpIn_step rfl (fun K' hK=>?_)
         go_simp
         exact hK _ _ ⟨upd t 42 (.int .i64 n),rfl,hR.yields (by decide) rfl rfl rfl⟩
        | 9,_,hr=>
         as_aux_lemma=>
         refine wpOpIn_step rfl (fun K' hK=>?_)
         have e1:t 41=.int .i64 i:=hR.val (7,41) (by simp) (dep_of hr 7 (by kernel_rfl))
         have e2:t 42=.int .i64 n:=hR.val (8,42) (by simp) (dep_of hr 8 (by kernel_rfl))
         go_simp
         exact hK _ _ ⟨upd t 43 (.int .i64 s),by simp[upd,e1,e2],hR.yields (by decide) rfl rfl rfl⟩
        | 10,_,hr=>
         as_aux_lemma=>
         refine wpOpIn_step rfl (fun K' hK=>?_)
         have e1:t 43=.int .i64 s:=hR.val (9,43) (by simp) (dep_of hr 9 (by kernel_rfl))
         go_simp
         exact hK _ _ ⟨upd t 44 (.int .i64 p),by simp[upd,e1],hR.yields (by decide) rfl rfl rfl⟩
        | 11,_,hr=>
         as_aux_lemma=>
         refine wpOpIn_step rfl (fun K' hK=>?_)
         go_simp
         exact hK _ _ ⟨upd t 45 (.int .i64 n),rfl,hR.yields (by decide) rfl rfl rfl⟩
        | 12,_,hr=>
         as_aux_lemma=>
         refine wpOpIn_step rfl (fun K' hK=>?_)
         have e1:t 44=.int .i64 p:=hR.val (10,44) (by simp) (dep_of hr 10 (by kernel_rfl))
         have e2:t 45=.int .i64 n:=hR.val (11,45) (by simp) (dep_of hr 11 (by kernel_rfl))
         go_simp
         exact hK _ _ ⟨upd t 46 (.int .i64 pb),by simp[upd,e1,e2],hR.yields (by decide) rfl rfl rfl⟩
        | 13,_,hr=>
         as_aux_lemma=>
         refine wpOpIn_step rfl (fun K' hK=>?_)
         have e1:t 40=.slice (some ad2) n c2:=hR.val (6,40) (by simp) (dep_of hr 6 (by kernel_rfl))
         have e2:t 46=.int .i64 pb:=hR.val (12,46) (by simp) (dep_of hr 12 (by kernel_rfl))
         go_simp
         exact hK _ _ ⟨upd t 47 (.pointer (some (ad2.add pb))),by simp[upd,e1,e2],hR.yields (by decide) rfl rfl rfl⟩
        | 14,_,hr=>
         as_aux_lemma=>
         refine wpOpIn_step rfl (fun K' hK=>?_)
         have e1:t 47=.pointer (some (ad2.add pb)):=hR.val (13,47) (by simp) (dep_of hr 13 (by kernel_rfl))
         obtain rfl:wy=wr.drew:=hR.old (hCl.not hr 4 (by kernel_rfl))
         have c0:=HXB.out
         go_simp
         exact hK _ _ ⟨upd t 48 (.int .i64 xb),by simp[upd,e1],hR.yields (by decide) rfl rfl rfl⟩
        | 15,_,hr=>
         as_aux_lemma=>
         refine wpOpIn_step rfl (fun K' hK=>?_)
         go_simp
         exact hK _ _ ⟨upd t 49 (.slice (some ad2) n c2),rfl,hR.yields (by decide) rfl rfl rfl⟩
        | 16,_,hr=>
         as_aux_lemma=>
         refine wpOpIn_step rfl (fun K' hK=>?_)
         go_simp
         exact hK _ _ ⟨upd t 50 (.int .i64 i),rfl,hR.yields (by decide) rfl rfl rfl⟩
        | 17,_,hr=>
         as_aux_lemma=>
         refine wpOpIn_step rfl (fun K' hK=>?_)
         have e1:t 50=.int .i64 i:=hR.val (16,50) (by simp) (dep_of hr 16 (by kernel_rfl))
         go_simp
         exact hK _ _ ⟨upd t 51 (.int .i64 q),by simp[upd,e1],hR.yields (by decide) rfl rfl rfl⟩
        | 18,_,hr=>
         as_aux_lemma=>
         refine wpOpIn_step rfl (fun K' hK=>?_)
         go_simp
         exact hK _ _ ⟨upd t 52 (.int .i64 n),rfl,hR.yields (by decide) rfl rfl rfl⟩
        | 19,_,hr=>
         as_aux_lemma=>
         refine wpOpIn_step rfl (fun K' hK=>?_)
         have e1:t 51=.int .i64 q:=hR.val (17,51) (by simp) (dep_of hr 17 (by kernel_rfl))
         have e2:t 52=.int .i64 n:=hR.val (18,52) (by simp) (dep_of hr 18 (by kernel_rfl))
         go_simp
         exact hK _ _ ⟨upd t 53 (.int .i64 pa),by simp[upd,e1,e2],hR.yields (by decide) rfl rfl rfl⟩
        | 20,_,hr=>
         as_aux_lemma=>
         refine wpOpIn_step rfl (fun K' hK=>?_)
         have e1:t 49=.slice (some ad2) n c2:=hR.val (15,49) (by simp) (dep_of hr 15 (by kernel_rfl))
         have e2:t 53=.int .i64 pa:=hR.val (19,53) (by simp) (dep_of hr 19 (by kernel_rfl))
         go_simp
         exact hK _ _ ⟨upd t 54 (.pointer (some (ad2.add pa))),by simp[upd,e1,e2],hR.yields (by decide) rfl rfl rfl⟩
        | 21,_,hr=>
         as_aux_lemma=>
         refine wpOpIn_step rfl (fun K' hK=>?_)
         have e1:t 54=.pointer (some (ad2.add pa)):=hR.val (20,54) (by simp) (dep_of hr 20 (by kernel_rfl))
         obtain rfl:wy=wr.drew:=hR.old (hCl.not hr 4 (by kernel_rfl))
         have c0:=HXA.out
         go_simp
         exact hK _ _ ⟨upd t 55 (.int .i64 xa),by simp[upd,e1],hR.yields (by decide) rfl rfl rfl⟩
        | 22,_,hr=>
         as_aux_lemma=>
         refine wpOpIn_step rfl (fun K' hK=>?_)
         have e1:t 39=.int .i64 xi:=hR.val (5,39) (by simp) (dep_of hr 5 (by kernel_rfl))
         have e2:t 48=.int .i64 xb:=hR.val (14,48) (by simp) (dep_of hr 14 (by kernel_rfl))
         have e3:t 55=.int .i64 xa:=hR.val (21,55) (by simp) (dep_of hr 21 (by kernel_rfl))
         go_simp
         exact hK _ _ ⟨upd t 56 (.agg #[.int .i64 xi,.int .i64 xb,.int .i64 xa]),by simp[upd,e1,e2,e3],hR.yields (by decide) rfl rfl rfl⟩
        | 23,_,hr=>
         as_aux_lemma=>
         refine wpOpIn_step rfl (fun K' hK=>?_)
         have e1:t 34=.func (.yield y) #[] #[]:=hR.val (0,34) (by simp) (dep_of hr 0 (by kernel_rfl))
         have e2:t 38=.agg #[.int .i64 f,.int .i64 l,.int .i64 i]:=hR.val (4,38) (by simp) (dep_of hr 4 (by kernel_rfl))
         have e3:t 56=.agg #[.int .i64 xi,.int .i64 xb,.int .i64 xa]:=hR.val (22,56) (by simp) (dep_of hr 22 (by kernel_rfl))
         obtain rfl:wy=wr.drew:=hR.old (getD_tf (ready_spec.1 hr).2.1).1
         obtain⟨fn,tmps,assign,body,hy,hYR⟩:=HYI.out
         rw[HPV.out] at hy
         simp only[encsP,encP,enc3] at hy
         go_simp
         refine⟨by simp[Fence.wide],hYR.mono ?_⟩
         rintro e W' (⟨rfl,hJ3,hk3⟩ | ⟨rfl,hJx3⟩)
         ·exact hK _ _ ⟨upd t 57 (.bool true),by simp[upd,e1,e2,e3],hR.turns hCl hr (by kernel_rfl) (.inl ⟨rfl,hJ3,hk3⟩) rfl rfl⟩
         ·exact hK _ _ ⟨upd t 57 (.bool false),by simp[upd,e1,e2,e3],hR.turns hCl hr (by kernel_rfl) (.inr ⟨rfl,hJx3⟩) rfl rfl⟩
        | 24,_,hr=>
         as_aux_lemma=>
         refine wpOpIn_step rfl (fun K' hK=>?_)
         rcases(hR.lat (23,57) (by simp) (dep_of hr 23 (by kernel_rfl)):RY _ _ _ _ _ _ _ _) with⟨e1,h1,h2⟩ | ⟨e1,h1⟩
         ·go_simp
          exact hK _ _ ⟨upd t 58 (.bool false),by simp[upd,e1],hR.lates (by decide) (.inl ⟨rfl,h1,h2⟩) rfl rfl⟩
         ·go_simp
          exact hK _ _ ⟨upd t 58 (.bool true),by simp[upd,e1],hR.lates (by decide) (.inr ⟨rfl,h1⟩) rfl rfl⟩
        | nx+25,hix,_=>exact absurd (show nx+25<25 from hix) (by omega)
       rintro listed a2 W2 ⟨t,rfl,hR⟩ hl
       rcases(hR.lat (24,58) (by simp) (hl 24 (by decide)):RY _ _ _ _ _ _ _ _) with⟨e1,h1,h2⟩ | ⟨e1,h1⟩
       ·have H1:=Lib.hid (And.intro h1 h2)
        clear h1 h2 hR hl hw1 hw2 hw3
        gi_wp2
        go_roundw
        case rel=>exact⟨i+1,by omega,by go_num,by rw[rowA_succ,←List.append_assoc];exact H1.out.1,HJ.out.2.drew.trans H1.out.2⟩
        case measure=>simp[intOf];omega
       ·have H1:=Lib.hid h1
        clear h1 hR hl
        gi_wp2
        refine bodyPost_ret (results_none rfl _ _ _) rfl ?_
        exact⟨⟨_,rfl⟩,.inr ⟨_,by rw[List.append_assoc,←rowA_succ];exact at_prefix fs hlt hlt2 (by rw[←HN.out];exact hlt3),H1.out⟩⟩
      ·obtain rfl:i=n:=by omega
       gi_wp2
       go_roundw
       case rel=>exact⟨l+1,by omega,by go_num,by rw[faceA_succ,←HN.out,←List.append_assoc];exact HJ⟩
       case measure=>simp[intOf];omega
    ·obtain rfl:l=(fcA fs f).length:=by omega
     gi_wp2
     go_roundw
     case rel=>exact⟨f+1,by omega,by go_num,by rw[upA_succ];exact HJ⟩
     case measure=>simp[intOf];omega
  ·obtain rfl:f=fs.length:=by omega
   gi_wp2
   go_end0
   exact⟨⟨_,rfl⟩,.inl ⟨_,rfl,HJ.out.1⟩⟩
set_option maxHeartbeats 1000000 in
theorem places_any (N:Int) (A:Option Addr) (n c:Nat) (w:World) :
  Calls Try.prog 67 #[.agg #[.int .i64 N,.slice A n c]] w fun e w'=>e=.returned (.func (.func 86) #[] #[.pointer (some ⟨w.heap.size,0,none⟩)])∧w'=w.alloc (.cells #[.int .i64 N,.slice A n c] 30):=by
 go_enter Try.func67,Try.ntmps67
 go_wp2
 go_ret
 exact⟨rfl,rfl⟩
theorem places_stops (n:Nat) (Bm:Nat) (N:Int) (A:Option Addr) (c:Nat) (fs:Fs) (w0 w:World) (hF:RF w0 A fs) (hSm:Sm fs) (hw:Below w0.heap.size w0 w) (hB:Bm<w.heap.size) (hm0:w.cell? ⟨Bm,0,none⟩=some (.int .i64 N)) (hm1:w.cell? ⟨Bm,1,none⟩=some (.slice A fs.length c)) :
  SeqStopsK Fence.wide n Try.prog 86 #[.pointer (some ⟨Bm,0,none⟩)] (fun x:PM fs=>encsP x.1) (Below w0.heap.size) (fun ys=>valsP ys=plsA fs) (fun pre=>valsP pre <+: plsA fs) (plsA fs).length w:=fun l J Jx W hW hJ _ hY h0=>by
 refine(places1_any n l Bm N A c fs w0 hF hSm (fun pre W=>∃q:List (PM fs),valsP q=pre∧J q W) (fun pre W=>∃q:List (PM fs),valsP q=pre∧Jx q W)
  (fun pre W ⟨q,h1,h2⟩=>⟨q,h1,hJ q W _ none h2 (grown_of_below ((Below.refl W.heap.size W).drew) none) (fun r e=>by cases e)⟩) ?_ W (hw.trans (hW.mono hw.size)) ((hW.cell hB).trans hm0) ((hW.cell hB).trans hm1) ⟨[],rfl,h0⟩).mono ?_
 ·rintro pre x W1 ⟨q,rfl,hq⟩ hp
  have hx:x∈plsA fs:=hp.subset (by simp)
  have hl:=hp.length_le
  obtain⟨fn,tmps,assign,body,hy,hR⟩:=hY q ⟨x,hx⟩ W1 hq (by simp[valsP] at hl ⊢;omega)
  refine⟨fn,tmps,assign,body,hy,hR.mono ?_⟩
  rintro e W' (⟨he,h1,h2⟩ | ⟨he,h1⟩)
  ·exact .inl ⟨he,⟨_,by simp[valsP],h1⟩,h2⟩
  ·exact .inr ⟨he,_,by simp[valsP],h1⟩
 ·rintro e W' ⟨he,⟨ys,rfl,q,h1,h2⟩ | ⟨pre,h0,q,h1,h2⟩⟩
  ·exact⟨he,.inl ⟨q,h1,h2⟩⟩
  ·exact⟨he,.inr ⟨q,show valsP q <+: plsA fs by rw[h1];exact h0,h2⟩⟩
end Go.Proofs.Ytealnhaffphamaa

namespace Go.Proofs.Ytealnhaffphamaa
open Go.RowKit Go.Proofs.YtealnhaffphamaaW.PrintWords
open Go.Maps (Keyed)
def I64 (x:Int):Prop:=-9223372036854775808≤x∧x≤9223372036854775807
theorem wf_i64 {x:Int} (h:I64 x):(Lit.int .i64 x).wf=true:=by
 unfold I64 at h
 simp[Lit.wf,IntKind.min,IntKind.max,IntKind.signed,IntKind.bits]
 omega
theorem i64_wf {x:Int} (h:(Lit.int .i64 x).wf=true):I64 x:=by
 simp[Lit.wf,IntKind.min,IntKind.max,IntKind.signed,IntKind.bits] at h
 exact⟨by omega,by omega⟩
def keyV (a b:Int):Value:=.agg #[.int .i64 a,.int .i64 b]
def keyL (a b:Int):Lit:=.string (keyBytes [.int .i64 a,.int .i64 b])
theorem Try.u60:Try.prog.underlying 95=some (.array 2 3):=by kernel_rfl
theorem Try.u3:Try.prog.underlying 3=some (.int .i64):=by kernel_rfl
theorem Try.u88:Try.prog.underlying 88=some (.map 95 45):=by kernel_rfl
theorem Try.laid:laidOutB Try.prog=true:=by kernel_rfl
theorem arrE:WideMaps.ArrKey Try.prog 95 3 2:=⟨Try.u60,by kernel_rfl,by kernel_rfl,by kernel_rfl⟩
theorem sizE:∃m,Try.prog.types.size=m+1:=⟨Try.prog.types.size - 1,by have:0<Try.prog.types.size:=of_decide_eq_true (by kernel_rfl);omega⟩
theorem keyOf_e {a b:Int} (ha:I64 a) (hb:I64 b):keyOf Try.prog 95 (keyV a b)=some (keyL a b):=WideMaps.keyOf_pair arrE Try.u3 sizE (wf_i64 ha) (wf_i64 hb)
theorem lawE:Keyed Try.prog 95:=Keyed.of_law (deep_law_laid Try.laid (m:=2) (by omega) (of_decide_eq_true (by kernel_rfl)) (by kernel_rfl) (by rw[Try.u60]))
theorem keyL_inj {a b c d:Int} (ha:I64 a) (hb:I64 b) (hc:I64 c) (hd:I64 d) (h:keyL a b=keyL c d):a=c∧b=d:=by
 have h1:=keyOf_e ha hb
 have h2:=keyOf_e hc hd
 rw[←h] at h2
 have h3:=lawE.inj h1 h2
 simpa [keyV] using h3
theorem keyL_is {a b:Int} (ha:I64 a) (hb:I64 b):WideAt.IsKeyLit (keyL a b):=lawE.key (keyOf_e ha hb)
def placeV (x:PV):Value:=encP x.f x.l x.i
def datP (f l i:Int):DataW Unit:=.agg [.lit (.int .i64 f),.lit (.int .i64 l),.lit (.int .i64 i)]
def readP (v:Value):Option (DataW Unit × List MemPlace):=
 match v with
 | .agg cs=>match cs.toList with
  | [.int .i64 f,.int .i64 l,.int .i64 i]=>some (datP f l i,[])
  | _=>none
 | _=>none
theorem readP_mk (f l i:Int):readP (.agg #[.int .i64 f,.int .i64 l,.int .i64 i])=some (datP f l i,[]):=rfl
theorem readP_inv {v:Value} {y:DataW Unit × List MemPlace} (h:readP v=some y):∃f l i:Int,v=.agg #[.int .i64 f,.int .i64 l,.int .i64 i]∧y=(datP f l i,[]):=by
 unfold readP at h
 split at h
 ·rename_i cs
  split at h
  ·rename_i f l i hl
   obtain⟨cs⟩:=cs
   simp at hl
   subst hl
   exact⟨f,l,i,rfl,by simpa using h.symm⟩
  ·simp at h
 ·simp at h
theorem datP_inj {f l i f' l' i':Int} (h:datP f l i=datP f' l' i'):f=f'∧l=l'∧i=i':=by simpa [datP] using h
def hasE (ds:List PV) (v w:Int):Bool:=ds.any fun x=>x.v == v && x.a == w
def EM (W:World) (b:Nat) (ds:List PV):Prop:=∃D:DataW Unit,W.ownsMap Try.prog 95 readP b ds.length D∧(∀x∈ds,I64 x.v∧I64 x.a) ∧
 (∀v w,I64 v→I64 w→Maps.has D (keyL v w)=hasE ds v w)∧(∀x∈ds,∀z,D.atKey (keyL x.v x.a) z=datP x.f x.l x.i)∧Maps.size D=ds.length
theorem EM.lt {W:World} {b:Nat} {ds:List PV} (h:EM W b ds):b<W.heap.size:=by
 obtain⟨D,⟨es,clock,hb,_⟩,_⟩:=h
 exact(Array.getElem?_eq_some_iff.1 hb).1
theorem EM.made (W:World):EM (W.alloc (.map #[] 0)) W.heap.size []:=
 ⟨_,World.ownsMap_made _ _ _ _,by simp,fun v w _ _=>rfl,by simp,rfl⟩
theorem EM.kept {W W':World} {b:Nat} {ds:List PV} (h:EM W b ds) {row:Option Nat} (hg:W.grownBy W' row) (hb:some b≠row):EM W' b ds:=by
 obtain⟨D,h1,h2⟩:=h
 exact⟨D,h1.kept hg hb,h2⟩
theorem hasE_snoc (ds:List PV) (x:PV) (v w:Int):hasE (ds ++ [x]) v w=(hasE ds v w || (x.v == v && x.a == w)):=by simp[hasE]
theorem EM.step {D:DataW Unit} {W1:World} {b:Nat} {ds:List PV} {x:PV} (hx:I64 x.v∧I64 x.a) (hn:hasE ds x.v x.a=false)
  (h2:∀x∈ds,I64 x.v∧I64 x.a) (h3:∀v w,I64 v→I64 w→Maps.has D (keyL v w)=hasE ds v w) (h4:∀x∈ds,∀z,D.atKey (keyL x.v x.a) z=datP x.f x.l x.i) (h5:Maps.size D=ds.length) (hT:Maps.Tidy D)
  (h1:W1.ownsMap Try.prog 95 readP b (ds.length+1) (D.put (keyL x.v x.a) (datP x.f x.l x.i))):EM W1 b (ds ++ [x]):=by
 have hk:=keyL_is hx.1 hx.2
 refine⟨_,by rw[List.length_append,List.length_singleton];exact h1,?_,?_,?_,?_⟩
 ·intro y hy
  rcases List.mem_append.1 hy with hy | hy
  ·exact h2 y hy
  ·rw[List.mem_singleton.1 hy];exact hx
 ·intro v w hv hw
  rw[hasE_snoc]
  by_cases e:v=x.v∧w=x.a
  ·rw[e.1,e.2,Maps.has_put_same hT.isMap hk];simp
  ·rw[Maps.has_put_other (fun q=>e (keyL_inj hv hw hx.1 hx.2 q)),h3 v w hv hw]
   have:(x.v == v && x.a == w)=false:=by
    simp only[Bool.and_eq_false_iff,beq_eq_false_iff_ne]
    rcases Classical.em (x.v=v) with q | q
    ·exact .inr (fun q'=>e ⟨q.symm,q'.symm⟩)
    ·exact .inl q
   rw[this,Bool.or_false]
 ·intro y hy z
  rcases List.mem_append.1 hy with hy | hy
  ·rw[Maps.atKey_put_other (fun q=>?_)]
   ·exact h4 y hy z
   ·obtain⟨e1,e2⟩:=keyL_inj (h2 y hy).1 (h2 y hy).2 hx.1 hx.2 q
    have:hasE ds x.v x.a=true:=by
     unfold hasE
     rw[List.any_eq_true]
     exact⟨y,hy,by simp[e1,e2]⟩
    rw[hn] at this;simp at this
  ·rw[List.mem_singleton.1 hy,Maps.atKey_put_same hT.isMap hk]
 ·rw[Maps.size_put hT,h3 _ _ hx.1 hx.2,hn,h5];simp
end Go.Proofs.Ytealnhaffphamaa

namespace Go.Proofs.Ytealnhaffphamaa
open Go.RowKit Go.Proofs.YtealnhaffphamaaW.PrintWords
def nlA (fs:Fs):Nat→Nat
 | 0=>0
 | k+1=>nlA fs k+(fcA fs k).length
def npL (fs:Fs) (f:Nat):Nat→Nat
 | 0=>0
 | k+1=>npL fs f k+(lpA fs f k).length
def npA (fs:Fs):Nat→Nat
 | 0=>0
 | k+1=>npA fs k+npL fs k (fcA fs k).length
theorem nlA_le {fs:Fs} (h:Sm fs) (k:Nat):nlA fs k≤k * 1000000:=by
 induction k with
 | zero=>simp[nlA]
 | succ k ih=>have:=h.2.1 k;simp only[nlA];omega
theorem npL_le {fs:Fs} (h:Sm fs) (f k:Nat):npL fs f k≤k * 1000000:=by
 induction k with
 | zero=>simp[npL]
 | succ k ih=>have:=h.2.2 f k;simp only[npL];omega
theorem npA_le {fs:Fs} (h:Sm fs) (k:Nat):npA fs k≤k * 1000000000000:=by
 induction k with
 | zero=>simp[npA]
 | succ k ih=>have h1:=npL_le h k (fcA fs k).length;have:=h.2.1 k;simp only[npA];omega
set_option maxHeartbeats 1000000 in
theorem size_any (N:Int) (A:Option Addr) (c:Nat) (fs:Fs) (w:World) (hF:RF w A fs) (hSm:Sm fs) :
  Calls Try.prog 53 #[.agg #[.int .i64 N,.slice A fs.length c]] w fun e w'=>e=.returned (.tuple #[.int .i64 fs.length,.int .i64 (nlA fs fs.length),.int .i64 (npA fs fs.length)])∧Below w.heap.size w w':=by
 have HF:=Lib.hid hF
 have HS:=Lib.hid hSm
 have hN:=hSm.1
 clear hF hSm
 obtain⟨W1,hW1⟩:∃W1,W1=w.alloc (.cells #[.int .i64 N,.slice A fs.length c] 30):=⟨_,rfl⟩
 have HB:Hid (Below w.heap.size w W1):=by rw[hW1];exact(Below.refl _ _).alloc (Nat.le_refl _) _
 have hm1:W1.cell? ⟨w.heap.size,1,none⟩=some (.slice A fs.length c):=by rw[hW1];simp
 go_enter Try.func53,Try.ntmps53
 go_wp2
 rw[←hW1]
 clear hW1
 go_loopw [3,4,12] (fun s3 s4 s12 wr=>∃k:Nat,k≤fs.length∧s3=.int .i64 (nlA fs k)∧s4=.int .i64 (npA fs k)∧s12=.int .i64 k∧W1=wr) (fun _ _ v _=>fs.length - (intOf v).toNat)
 case atStart=>exact⟨0,by omega,rfl,rfl,rfl,rfl⟩
 case round=>
  obtain⟨k,hk,rfl,rfl,rfl,rfl⟩:=hrel
  by_cases hlt:k<fs.length
  ·have hlz:(k:Int)<(fs.length:Int):=by omega
   obtain⟨ad,A0,c0,rfl,hc,hl0,hr0⟩:=(HF.out.below HB.out).at hlt
   have hn0:=hr0.len
   have HR0:=Lib.hid hr0
   have hb1:=HS.out.2.1 k
   have hw1:IntKind.i64.wrap ((nlA fs k:Int)+((fcA fs k).length:Int))=(nlA fs (k+1):Int):=by
    have h1:=nlA_le HS.out k
    rw[IntKind.wrap_i64]
    simp only[nlA]
    omega
   clear hr0
   go_wp2
   go_loopw [4,22] (fun s4 s22 wr=>∃l:Nat,l≤(fcA fs k).length∧s4=.int .i64 ((npA fs k+npL fs k l:Nat):Int)∧s22=.int .i64 l∧W1=wr) (fun _ v _=>(fcA fs k).length - (intOf v).toNat)
   case atStart=>exact⟨0,by omega,rfl,rfl,rfl⟩
   case round=>
    obtain⟨l,hl,rfl,rfl,rfl⟩:=hrel
    by_cases hlt2:l<(fcA fs k).length
    ·have hlz2:(l:Int)<((fcA fs k).length:Int):=by omega
     obtain⟨ad1,A1,c1,rfl,hc1,hl1,hr1⟩:=HR0.out.atP hlt2
     have hw2:IntKind.i64.wrap (((npA fs k+npL fs k l:Nat):Int)+((lpA fs k l).length:Int))=((npA fs k+npL fs k (l+1):Nat):Int):=by
      have h1:=npA_le HS.out k
      have h2:=npL_le HS.out k l
      have h3:=HS.out.2.2 k l
      rw[IntKind.wrap_i64]
      simp only[npL]
      omega
     obtain⟨z,hz⟩:∃z,z=npA fs k+npL fs k l:=⟨_,rfl⟩
     obtain⟨z1,hz1⟩:∃z,z=npA fs k+npL fs k (l+1):=⟨_,rfl⟩
     rw[←hz,←hz1] at hw2
     rw[←hz]
     clear hz
     go_wp2
     go_roundw
     case rel=>exact⟨l+1,by omega,by simp,by go_num,trivial⟩
     case measure=>simp[intOf];omega
    ·obtain rfl:l=(fcA fs k).length:=by omega
     go_wp2
     go_roundw
     case rel=>exact⟨k+1,by omega,rfl,rfl,by go_num,trivial⟩
     case measure=>simp[intOf];omega
  ·obtain rfl:k=fs.length:=by omega
   go_wp2
   go_ret3
   exact⟨rfl,HB.out⟩
def Whole (N:Int) (fs:Fs):Prop:=1≤N∧N≤200∧1≤fs.length∧fs.length≤400∧nlA fs fs.length≤400∧npA fs fs.length≤2000∧∀f,f<fs.length→0<(fcA fs f).length∧∀l,l<(fcA fs f).length→0<(lpA fs f l).length
set_option maxHeartbeats 1000000 in
theorem whole1_any (b:Bool) (A:Option Addr) (n c:Nat) (w:World) (hb:b=true↔n=0) :
  Calls Try.prog 88 #[.slice A n c] w fun e w'=>e=.returned (.bool b)∧w'=w:=by
 go_enter Try.func88,Try.ntmps88
 go_wp2
 go_ret
 exact⟨by cases b <;> simp at hb <;> simp[hb],rfl⟩
set_option maxHeartbeats 1000000 in
theorem indexFunc_any (A:Option Addr) (c:Nat) (ls:List (List Int)) (w:World) (hL:RL w A ls) :
  Calls Try.prog 92 #[.slice A ls.length c,.func (.func 88) #[] #[]] w fun e w'=>(∃i:Int,e=.returned (.int .i64 i)∧(0≤i↔∃l,l<ls.length∧(lA ls l).length=0))∧w'=w:=by
 have HL:=Lib.hid hL
 have hN:=hL.len
 clear hL
 go_enter Try.func92,Try.ntmps92
 go_wp2
 go_loopw [8] (fun s8 wr=>∃k:Nat,k≤ls.length∧s8=.int .i64 k∧w=wr∧∀l,l<k→(lA ls l).length≠0) (fun v _=>ls.length - (intOf v).toNat)
 case atStart=>exact⟨0,by omega,rfl,rfl,fun l h=>by omega⟩
 case round=>
  obtain⟨k,hk,rfl,rfl,hno⟩:=hrel
  by_cases hlt:k<ls.length
  ·have hlz:(k:Int)<(ls.length:Int):=by omega
   obtain⟨ad,A0,c0,rfl,hc,hl0,hr0⟩:=HL.out.at hlt
   have hn0:=hr0.len
   by_cases h0:(lA ls k).length=0
   ·go_wp2_with fail
    ((with_reducible refine(whole1_any true _ _ _ _ (by simp[h0])).mono ?_);rintro e w1 ⟨rfl,rfl⟩)
    go_wp2
    go_ret
    exact⟨⟨k,rfl,fun _=>⟨k,hlt,h0⟩,fun _=>by omega⟩,rfl⟩
   ·go_wp2_with fail
    ((with_reducible refine(whole1_any false _ _ _ _ (by simp[h0])).mono ?_);rintro e w1 ⟨rfl,rfl⟩)
    go_wp2
    go_roundw
    case rel=>exact⟨k+1,by omega,by go_num,trivial,fun l hl=>if e:l=k then by rw[e];exact h0 else hno l (by omega)⟩
    case measure=>simp[intOf];omega
  ·obtain rfl:k=ls.length:=by omega
   go_wp2
   go_ret
   exact⟨⟨-1,rfl,by constructor;(· intro h;omega);(· rintro⟨l,h1,h2⟩;exact absurd h2 (hno l h1))⟩,rfl⟩
end Go.Proofs.Ytealnhaffphamaa

namespace Go.Proofs.Ytealnhaffphamaa
open Go.RowKit Go.Proofs.YtealnhaffphamaaW.PrintWords
set_option maxHeartbeats 1000000 in
theorem containsFunc_any (b:Bool) (A:Option Addr) (c:Nat) (ls:List (List Int)) (w:World) (hL:RL w A ls) (hb:b=true↔∃l,l<ls.length∧(lA ls l).length=0) :
  Calls Try.prog 87 #[.slice A ls.length c,.func (.func 88) #[] #[]] w fun e w'=>e=.returned (.bool b)∧w'=w:=by
 have HI:=Lib.hid (indexFunc_any A c ls w hL)
 have HB:=Lib.hid hb
 clear hL hb
 go_enter Try.func87,Try.ntmps87
 go_wp2_with fail
 ((with_reducible refine(HI.out).mono ?_);rintro e w1 ⟨⟨i,rfl,hi⟩,rfl⟩)
 rw[←HB.out] at hi
 go_wp2
 go_ret
 refine⟨?_,rfl⟩
 cases b
 ·have:¬ 0≤i:=fun h=>by simpa using hi.1 h
  simp[this]
 ·have:0≤i:=hi.2 rfl
  simp[this]
set_option maxHeartbeats 2000000 in
theorem whole_any (N:Int) (A:Option Addr) (c:Nat) (fs:Fs) (w:World) (hF:RF w A fs) (hSm:Sm fs) :
  Calls Try.prog 75 #[.agg #[.int .i64 N,.slice A fs.length c]] w fun e w'=>(∃b,e=.returned (.bool b)∧(b=true↔Whole N fs))∧Below w.heap.size w w':=by
 have HF:=Lib.hid hF
 have HS:=Lib.hid hSm
 have hN:=hSm.1
 have HB:Hid (Below w.heap.size w (w.alloc (.cells #[.int .i64 N,.slice A fs.length c] 30))):=(Below.refl _ _).alloc (Nat.le_refl _) _
 have HZ:Hid (∀W,Below w.heap.size w W→Calls Try.prog 53 #[.agg #[.int .i64 N,.slice A fs.length c]] W fun e w'=>e=.returned (.tuple #[.int .i64 fs.length,.int .i64 (nlA fs fs.length),.int .i64 (npA fs fs.length)])∧Below W.heap.size W w'):=fun W h=>size_any N A c fs W (HF.out.below h) HS.out
 have HM:Hid (∀W,Below (w.alloc (.cells #[.int .i64 N,.slice A fs.length c] 30)).heap.size (w.alloc (.cells #[.int .i64 N,.slice A fs.length c] 30)) W→W.cell? ⟨w.heap.size,0,none⟩=some (.int .i64 N)∧W.cell? ⟨w.heap.size,1,none⟩=some (.slice A fs.length c)):=fun W h=>⟨(h.cell (by simp)).trans (by simp),(h.cell (by simp)).trans (by simp)⟩
 clear hF hSm
 go_enter Try.func75,Try.ntmps75
 go_wp2_with fail
 ((with_reducible refine(HZ.out _ HB.out).mono ?_);rintro e w1 ⟨rfl,hb⟩)
 obtain⟨m0,m1⟩:=HM.out _ hb
 have HB1:Hid (Below w.heap.size w w1):=HB.out.trans (hb.mono HB.out.size)
 clear hb HM HB HZ
 obtain⟨nl,hnl⟩:∃n,n=nlA fs fs.length:=⟨_,rfl⟩
 obtain⟨np,hnp⟩:∃n,n=npA fs fs.length:=⟨_,rfl⟩
 rw[←hnl,←hnp]
 have HNL:=Lib.hid hnl
 have HNP:=Lib.hid hnp
 clear hnl hnp
 by_cases hb:1≤N∧N≤200∧1≤fs.length∧fs.length≤400∧nl≤400∧np≤2000
 ·obtain⟨b1,b2,b3,b4,b5,b6⟩:=hb
  have z1:¬ N<1:=by omega
  have z2:¬ 200<N:=by omega
  have z3:¬ (fs.length:Int)<1:=by omega
  have z4:¬ (400:Int)<(fs.length:Int):=by omega
  have z5:¬ (400:Int)<(nl:Int):=by omega
  have z6:¬ (2000:Int)<(np:Int):=by omega
  go_wp2
  go_loopw [41] (fun s41 wr=>∃k:Nat,k≤fs.length∧s41=.int .i64 k∧Hid (Below w.heap.size w wr)∧Hid (∀f,f<k→0<(fcA fs f).length∧∀l,l<(fcA fs f).length→0<(lpA fs f l).length)) (fun v _=>fs.length - (intOf v).toNat)
  case atStart=>exact⟨0,by omega,rfl,HB1,fun f h=>by omega⟩
  case round=>
   clear HB1 m0 m1
   rename World=>wr
   obtain⟨k,hk,rfl,HB1,HK⟩:=hrel
   by_cases hlt:k<fs.length
   ·have hlz:(k:Int)<(fs.length:Int):=by omega
    obtain⟨ad,A0,c0,rfl,hc,hl0,hr0⟩:=(HF.out.below HB1.out).at hlt
    have hn0:=hr0.len
    have HR0:=Lib.hid hr0
    clear hr0
    by_cases h0:(fcA fs k).length=0
    ·have h0z:((fcA fs k).length:Int)=0:=by omega
     have HNB:Hid (¬ Whole N fs):=fun h=>by have:=(h.2.2.2.2.2.2 k hlt).1;omega
     go_wp2
     go_ret
     exact⟨⟨false,rfl,by simpa using HNB.out⟩,HB1.out⟩
    ·have h0z:¬ ((fcA fs k).length:Int)=0:=by omega
     by_cases h1:∃l,l<(fcA fs k).length∧(lA (fcA fs k) l).length=0
     ·have HNB:Hid (¬ Whole N fs):=fun h=>by
       obtain⟨l,hl,hl0⟩:=h1
       have:=(h.2.2.2.2.2.2 k hlt).2 l hl
       unfold lpA at this;omega
      have HC:=Lib.hid (containsFunc_any true A0 c0 (fcA fs k) wr HR0.out (by simpa using h1))
      clear h1
      go_wp2_with fail
      ((with_reducible refine(HC.out).mono ?_);rintro e w2 ⟨rfl,rfl⟩)
      go_wp2
      go_ret
      exact⟨⟨false,rfl,by simpa using HNB.out⟩,HB1.out⟩
     ·have HC:=Lib.hid (containsFunc_any false A0 c0 (fcA fs k) wr HR0.out (by simpa using h1))
      have H1:=Lib.hid h1
      clear h1
      go_wp2_with fail
      ((with_reducible refine(HC.out).mono ?_);rintro e w2 ⟨rfl,rfl⟩)
      go_wp2
      go_roundw
      case rel=>
       refine⟨k+1,by omega,by go_num,HB1,fun f hf=>?_⟩
       by_cases e:f=k
       ·subst e
        exact⟨by omega,fun l hl=>by
         rcases Nat.eq_zero_or_pos (lpA fs f l).length with q | q
         ·exact absurd ⟨l,hl,q⟩ H1.out
         ·exact q⟩
       ·exact HK.out f (by omega)
      case measure=>simp[intOf];omega
   ·obtain rfl:k=fs.length:=by omega
    go_wp2
    go_ret
    refine⟨⟨true,rfl,fun _=>⟨b1,b2,b3,b4,by rw[←HNL.out];exact b5,by rw[←HNP.out];exact b6,HK.out⟩,fun _=>rfl⟩,HB1.out⟩
 ·have HNB:Hid (¬ Whole N fs):=fun h=>hb ⟨h.1,h.2.1,h.2.2.1,h.2.2.2.1,by rw[HNL.out];exact h.2.2.2.2.1,by rw[HNP.out];exact h.2.2.2.2.2.1⟩
  clear HNL HNP
  by_cases z1:N<1
  ·go_wp2
   go_ret
   exact⟨⟨false,rfl,by simpa using HNB.out⟩,HB1.out⟩
  by_cases z2:200<N
  ·go_wp2
   go_ret
   exact⟨⟨false,rfl,by simpa using HNB.out⟩,HB1.out⟩
  by_cases z3:(fs.length:Int)<1
  ·go_wp2
   go_ret
   exact⟨⟨false,rfl,by simpa using HNB.out⟩,HB1.out⟩
  by_cases z4:(400:Int)<(fs.length:Int)
  ·go_wp2
   go_ret
   exact⟨⟨false,rfl,by simpa using HNB.out⟩,HB1.out⟩
  by_cases z5:(400:Int)<(nl:Int)
  ·go_wp2
   go_ret
   exact⟨⟨false,rfl,by simpa using HNB.out⟩,HB1.out⟩
  have z6:(2000:Int)<(np:Int):=by omega
  clear hb
  go_wp2
  go_ret
  exact⟨⟨false,rfl,by simpa using HNB.out⟩,HB1.out⟩
end Go.Proofs.Ytealnhaffphamaa

namespace Go.Proofs.Ytealnhaffphamaa
open Go.RowKit Go.Proofs.YtealnhaffphamaaW.PrintWords
def i64_3 (f l i:Int):Value:=.agg #[.int .i64 f,.int .i64 l,.int .i64 i]
theorem zero45 (w:World):(zeroValue 45).run Try.prog w=.ok (.agg #[.int .i64 0,.int .i64 0,.int .i64 0]) w:=by kernel_rfl
theorem hasE_mem {ds:List PV} {v w:Int} (h:hasE ds v w=true):∃x∈ds,x.v=v∧x.a=w:=by
 unfold hasE at h
 rw[List.any_eq_true] at h
 obtain⟨x,hx,h⟩:=h
 simp only[Bool.and_eq_true,beq_iff_eq] at h
 exact⟨x,hx,h⟩
theorem hasE_of {ds:List PV} {x:PV} (h:x∈ds):hasE ds x.v x.a=true:=by
 unfold hasE
 rw[List.any_eq_true]
 exact⟨x,h,by simp⟩
section
variable {ops:Array Oper} {rest:List Oper} {o:Oper} {a:Act} {Q:Exit→Act→World→Prop} {F:Fence} {nF:Nat} (w:World)
theorem wpListIn_look_em (hg:o.guard=none) (m x:Operand) (hop:o.op=Op.lookup 88 m x true) (b:Nat) (ds:List PV) (hm:a.eval m=.map (some b)) (h:EM w b ds) (v z:Int) (hx:a.eval x=.agg #[.int .i64 v,.int .i64 z]) (hv:I64 v) (hz:I64 z)
  (hK:∀f l i:Int,wpListIn F nF Try.prog ops Q rest (a.put o.dst (.tuple #[.agg #[.int .i64 f,.int .i64 l,.int .i64 i],.bool (hasE ds v z)])) w):wpListIn F nF Try.prog ops Q (o :: rest) a w:=by
 obtain⟨D,h1,h2,h3,h4,h5⟩:=h
 refine wpListIn_lookup_own_ok w hg m x _ hop 95 45 lawE Try.u88 readP (zero45 w) (datP 0 0 0) [] rfl b _ D hm h1 (keyV v z) (keyL v z) hx (keyOf_e hv hz) ?_
 intro u ps hu
 obtain⟨f,l,i,rfl,_⟩:=readP_inv hu
 rw[h3 v z hv hz]
 exact hK f l i
theorem wpListIn_upd_em (hg:o.guard=none) (m x v:Operand) (hop:o.op=Op.mapUpdate 88 m x v) (b:Nat) (ds:List PV) (hm:a.eval m=.map (some b)) (h:EM w b ds) (hl:ds.length<1000000) (y:PV) (hx:a.eval x=.agg #[.int .i64 y.v,.int .i64 y.a]) (hv:a.eval v=.agg #[.int .i64 y.f,.int .i64 y.l,.int .i64 y.i])
  (hy:I64 y.v∧I64 y.a) (hn:hasE ds y.v y.a=false)
  (hK:∀w',EM w' b (ds ++ [y])→w.grownBy w' (some b)→wpListIn F nF Try.prog ops Q rest (a.put o.dst undef) w'):wpListIn F nF Try.prog ops Q (o :: rest) a w:=by
 obtain⟨D,h1,h2,h3,h4,h5⟩:=h
 refine wpListIn_mapUpdate_own w hg m x v _ hop 95 45 lawE Try.u88 readP b _ D hm h1 (by unfold maxLen;omega) (keyV y.v y.a) _ (keyL y.v y.a) hx hv (keyOf_e hy.1 hy.2) (datP y.f y.l y.i) [] rfl ?_
 intro w' hown hgrow
 exact hK w' (EM.step hy hn h2 h3 h4 h5 (h1.tidy lawE) hown) hgrow
end
theorem EM.get {W:World} {b:Nat} {ds:List PV} (h:EM W b ds) {x:PV} (hx:x∈ds):(Instr.lookup 88 (.map (some b)) (.agg #[.int .i64 x.v,.int .i64 x.a]) false).run Try.prog W=.ok (.agg #[.int .i64 x.f,.int .i64 x.l,.int .i64 x.i]) W:=by
 obtain⟨D,⟨es,clock,hb,F,hs,rfl⟩,h2,h3,h4,h5⟩:=h
 have hI:=h2 x hx
 rcases Maps.fit_look false lawE Try.u88 (zero45 W) hb F (keyOf_e hI.1 hI.2) with⟨_,_,hat⟩ | ⟨e0,y,_,_,hrun,hR,hat,_⟩
 ·exfalso
  have h6:=h3 x.v x.a hI.1 hI.2
  rw[Maps.has_false_of_atKey hat,hasE_of hx] at h6
  simp at h6
 ·have h6:=h4 x hx (datP 0 0 0)
  rw[hat] at h6
  obtain⟨f,l,i,hv,hy⟩:=readP_inv hR
  rw[hy] at h6
  obtain⟨rfl,rfl,rfl⟩:=datP_inj h6
  rw[hv] at hrun
  exact hrun
end Go.Proofs.Ytealnhaffphamaa

namespace Go.Proofs.Ytealnhaffphamaa
open Go.RowKit Go.Proofs.YtealnhaffphamaaW.PrintWords
theorem Try.cells60:Try.prog.cellsOf 95=2:=by kernel_rfl
theorem Try.cells3:Try.prog.cellsOf 3=1:=by kernel_rfl
theorem lits_int {m:Nat} {c:Value} {l:List Lit} (h:Try.prog.keyLits (m+1) 3 [c]=some l):∃x,c=.int .i64 x∧I64 x:=by
 unfold Program.keyLits at h
 rw[Try.u3] at h
 cases c <;> simp at h
 obtain⟨⟨rfl,hw⟩,_⟩:=h
 exact⟨_,rfl,i64_wf hw⟩
set_option maxRecDepth 20000 in
theorem keyOf_e_inv {key:Value} {kl:Lit} (h:keyOf Try.prog 95 key=some kl):∃x:Int × Int,(key=.agg #[.int .i64 x.1,.int .i64 x.2]∧kl=keyL x.1 x.2)∧I64 x.1∧I64 x.2:=by
 obtain⟨xs,L,rfl,hk,_⟩:=keyOf_top (by rw[Try.u60]) h
 obtain⟨m,hm⟩:=sizE
 rw[hm] at hk
 unfold Program.keyLits at hk
 rw[Try.u60] at hk
 simp only[Try.cells60] at hk
 split at hk
 ·rename_i hl
  obtain⟨xs⟩:=xs
  match xs,hl with
  | [c0,c1],_=>
   simp only[Try.cells3,List.range_succ,List.range_zero,List.nil_append,List.cons_append,List.mapM_cons,List.mapM_nil] at hk
   cases h0:Try.prog.keyLits (m+1) 3 [c0] with
   | none=>simp[h0] at hk
   | some l0=>
    cases h1:Try.prog.keyLits (m+1) 3 [c1] with
    | none=>simp[h0,h1] at hk
    | some l1=>
     obtain⟨x,rfl,hx⟩:=lits_int h0
     obtain⟨y,rfl,hy⟩:=lits_int h1
     have h2:=keyOf_e hx hy
     unfold keyV at h2
     rw[h2] at h
     exact⟨(x,y),⟨rfl,(Option.some.inj h).symm⟩,hx,hy⟩
 ·simp at hk
def ER (W:World) (b r:Nat) (ds:List PV) (todo:Int→Int→Bool) (cnt:Nat):Prop:=∃(D:DataW Unit) (left:Lit→Bool),W.ranges Try.prog 95 readP b r ds.length D left cnt∧((∀x∈ds,I64 x.v∧I64 x.a) ∧
 (∀v w,I64 v→I64 w→Maps.has D (keyL v w)=hasE ds v w)∧(∀x∈ds,∀z,D.atKey (keyL x.v x.a) z=datP x.f x.l x.i)∧Maps.size D=ds.length)∧∀v w,I64 v→I64 w→left (keyL v w)=todo v w
theorem ER.em {W:World} {b r:Nat} {ds:List PV} {todo:Int→Int→Bool} {cnt:Nat} (h:ER W b r ds todo cnt):EM W b ds:=by
 obtain⟨D,left,h1,h2,_⟩:=h
 exact⟨D,h1.owns,h2⟩
theorem ER.kept {W W':World} {b r:Nat} {ds:List PV} {todo:Int→Int→Bool} {cnt:Nat} (h:ER W b r ds todo cnt) {row:Option Nat} (hg:W.grownBy W' row) (hb:some b≠row) (hr:some r≠row):ER W' b r ds todo cnt:=by
 obtain⟨D,left,h1,h2⟩:=h
 exact⟨D,left,h1.kept hg hb hr,h2⟩
theorem ER.left_eq {W:World} {b r:Nat} {ds:List PV} {todo:Int→Int→Bool} {cnt:Nat} (h:ER W b r ds todo cnt):W.rangeLeft b r=cnt:=by
 obtain⟨D,left,h1,h2⟩:=h
 exact h1.left_eq
theorem ER.lt {W:World} {b r:Nat} {ds:List PV} {todo:Int→Int→Bool} {cnt:Nat} (h:ER W b r ds todo cnt):r<W.heap.size:=by
 obtain⟨D,left,h1,h2⟩:=h
 exact h1.lt
section
variable {ops:Array Oper} {rest:List Oper} {o:Oper} {a:Act} {Q:Exit→Act→World→Prop} {F:Fence} {nF:Nat} (w:World)
theorem wpListIn_range_em (hg:o.guard=none) (m:Operand) (hop:o.op=Op.range 88 m) (b:Nat) (ds:List PV) (hm:a.eval m=.map (some b)) (h:EM w b ds)
  (hK:∀w',ER w' b w.heap.size ds (hasE ds) ds.length→w.grownBy w' none→w'.heap.size=w.heap.size+1→wpListIn F nF Try.prog ops Q rest (a.put o.dst (.pointer (some ⟨w.heap.size,0,none⟩))) w'):wpListIn F nF Try.prog ops Q (o :: rest) a w:=by
 obtain⟨D,h1,h2,h3,h4,h5⟩:=h
 refine wpListIn_range_own w hg m _ hop 95 45 lawE Try.u88 readP b _ D hm h1 ?_
 intro w' r1 r2 r3
 exact hK w' ⟨D,_,by rw[h5] at r1;exact r1,⟨h2,h3,h4,h5⟩,h3⟩ r2 r3
theorem wpList_range_em (hg:o.guard=none) (m:Operand) (hop:o.op=Op.range 88 m) (b:Nat) (ds:List PV) (hm:a.eval m=.map (some b)) (h:EM w b ds)
  (hK:∀w',ER w' b w.heap.size ds (hasE ds) ds.length→w.grownBy w' none→w'.heap.size=w.heap.size+1→wpList Try.prog ops Q rest (a.put o.dst (.pointer (some ⟨w.heap.size,0,none⟩))) w'):wpList Try.prog ops Q (o :: rest) a w:=by
 obtain⟨D,h1,h2,h3,h4,h5⟩:=h
 refine wpList_range_own w hg m _ hop 95 45 lawE Try.u88 readP b _ D hm h1 ?_
 intro w' r1 r2 r3
 exact hK w' ⟨D,_,by rw[h5] at r1;exact r1,⟨h2,h3,h4,h5⟩,h3⟩ r2 r3
set_option maxRecDepth 20000 in
theorem ER.entry {W':World} {b r:Nat} {ds:List PV} {D:DataW Unit} {left:Lit→Bool} {todo:Int→Int→Bool} {cnt':Nat}
  (h2:(∀x∈ds,I64 x.v∧I64 x.a)∧(∀v w,I64 v→I64 w→Maps.has D (keyL v w)=hasE ds v w)∧(∀x∈ds,∀z,D.atKey (keyL x.v x.a) z=datP x.f x.l x.i)∧Maps.size D=ds.length) (h3:∀v w,I64 v→I64 w→left (keyL v w)=todo v w)
  {k:Int × Int} {c:Int × Int × Int} {kl:Lit} {y:DataW Unit × List MemPlace} (hkey:keyOf Try.prog 95 (.agg #[.int .i64 k.1,.int .i64 k.2])=some kl) (hl:left kl=true) (hv:readP (.agg #[.int .i64 c.1,.int .i64 c.2.1,.int .i64 c.2.2])=some y) (hat:∀zd,D.atKey kl zd=y.1)
  (hr:W'.ranges Try.prog 95 readP b r ds.length D (fun z=>left z && !z.sameKey kl) cnt') :
  ∃x∈ds,k=(x.v,x.a)∧c=((x.f:Int),(x.l:Int),(x.i:Int))∧todo x.v x.a=true∧ER W' b r ds (fun v z=>todo v z && !(v == x.v && z == x.a)) cnt':=by
 obtain⟨k',⟨e1,e2⟩,i1,i2⟩:=keyOf_e_inv hkey
 have ek:k=k':=by
  simp only[Value.agg.injEq,Array.mk.injEq,List.cons.injEq,Value.int.injEq,true_and,and_true] at e1
  exact Prod.ext e1.1 e1.2
 subst ek
 have hh:=h2.2.1 k.1 k.2 i1 i2
 rw[←e2,Maps.has_true_of_atKey hat] at hh
 obtain⟨x,hx,x1,x2⟩:=hasE_mem hh.symm
 have h4:=h2.2.2.1 x hx (datP 0 0 0)
 rw[x1,x2,←e2,hat] at h4
 have hy:y=(datP c.1 c.2.1 c.2.2,[]):=by
  have:=readP_mk c.1 c.2.1 c.2.2
  rw[hv] at this
  exact Option.some.inj this
 rw[hy] at h4
 obtain⟨c1,c2,c3⟩:=datP_inj h4
 refine⟨x,hx,Prod.ext x1.symm x2.symm,Prod.ext c1 (Prod.ext c2 c3),?_,D,_,hr,h2,?_⟩
 ·rw[x1,x2,←h3 k.1 k.2 i1 i2,←e2];exact hl
 ·intro v z hv' hz'
  rw[h3 v z hv' hz',e2]
  congr 2
  rw[x1,x2]
  unfold keyL Lit.sameKey
  by_cases q:v=k.1∧z=k.2
  ·rw[q.1,q.2];simp
  ·have h5:¬ keyBytes [.int .i64 v,.int .i64 z]=keyBytes [.int .i64 k.1,.int .i64 k.2]:=fun e=>q (keyL_inj hv' hz' i1 i2 (by unfold keyL;rw[e]))
   have h6:(v == k.1 && z == k.2)=false:=by
    simp only[Bool.and_eq_false_iff,beq_eq_false_iff_ne]
    rcases Classical.em (v=k.1) with q' | q'
    ·exact .inr (fun q''=>q ⟨q',q''⟩)
    ·exact .inl q'
   rw[h6];simpa using h5
theorem wpListIn_next_em (hg:o.guard=none) (it:Operand) (hop:o.op=Op.next it false) (b r:Nat) (ds:List PV) (todo:Int→Int→Bool) (cnt:Nat) (hit:a.eval it=.pointer (some ⟨r,0,none⟩)) (h:ER w b r ds todo cnt)
  (hDone:(∀v z,I64 v→I64 z→todo v z=false)→wpListIn F nF Try.prog ops Q rest (a.put o.dst (.tuple #[.bool false])) w)
  (hMore:∀x∈ds,∀w' cnt',todo x.v x.a=true→ER w' b r ds (fun v z=>todo v z && !(v == x.v && z == x.a)) cnt'→cnt'<cnt→w.grownBy w' (some r)→w'.heap.size=w.heap.size →
   (Instr.entry (.pointer (some ⟨r,0,none⟩))).run Try.prog w'=.ok (.tuple #[.agg #[.int .i64 x.v,.int .i64 x.a],.agg #[.int .i64 x.f,.int .i64 x.l,.int .i64 x.i]]) w' →
   wpListIn F nF Try.prog ops Q rest (a.put o.dst (.tuple #[.bool true,.agg #[.int .i64 x.v,.int .i64 x.a],.agg #[.int .i64 x.f,.int .i64 x.l,.int .i64 x.i]])) w'):wpListIn F nF Try.prog ops Q (o :: rest) a w:=by
 obtain⟨D,left,h1,h2,h3⟩:=h
 refine wpListIn_next_ranges w hg it hop 95 lawE readP (fun k:Int × Int=>.agg #[.int .i64 k.1,.int .i64 k.2]) (fun c:Int × Int × Int=>.agg #[.int .i64 c.1,.int .i64 c.2.1,.int .i64 c.2.2])
  (fun key kl hk=>by obtain⟨x,⟨e,_⟩,_⟩:=keyOf_e_inv hk;exact⟨x,e⟩) (fun v y hv=>by obtain⟨f,l,i,e,_⟩:=readP_inv hv;exact⟨(f,l,i),e⟩) b r _ D left cnt hit h1 (fun _ hl=>hDone (fun v z hv hz=>by rw[←h3 v z hv hz];exact hl _)) ?_
 intro k c kl y w' cnt' hkey hl hv hat hr hlt hg' hs hen
 obtain⟨x,hx,rfl,rfl,ht,hER⟩:=ER.entry h2 h3 hkey hl hv hat hr
 exact hMore x hx w' cnt' ht hER hlt hg' hs hen
theorem wpList_next_em (hg:o.guard=none) (it:Operand) (hop:o.op=Op.next it false) (b r:Nat) (ds:List PV) (todo:Int→Int→Bool) (cnt:Nat) (hit:a.eval it=.pointer (some ⟨r,0,none⟩)) (h:ER w b r ds todo cnt)
  (hDone:(∀v z,I64 v→I64 z→todo v z=false)→wpList Try.prog ops Q rest (a.put o.dst (.tuple #[.bool false])) w)
  (hMore:∀x∈ds,∀w' cnt',todo x.v x.a=true→ER w' b r ds (fun v z=>todo v z && !(v == x.v && z == x.a)) cnt'→cnt'<cnt→w.grownBy w' (some r)→w'.heap.size=w.heap.size →
   (Instr.entry (.pointer (some ⟨r,0,none⟩))).run Try.prog w'=.ok (.tuple #[.agg #[.int .i64 x.v,.int .i64 x.a],.agg #[.int .i64 x.f,.int .i64 x.l,.int .i64 x.i]]) w' →
   wpList Try.prog ops Q rest (a.put o.dst (.tuple #[.bool true,.agg #[.int .i64 x.v,.int .i64 x.a],.agg #[.int .i64 x.f,.int .i64 x.l,.int .i64 x.i]])) w'):wpList Try.prog ops Q (o :: rest) a w:=by
 obtain⟨D,left,h1,h2,h3⟩:=h
 refine wpList_next_ranges w hg it hop 95 lawE readP (fun k:Int × Int=>.agg #[.int .i64 k.1,.int .i64 k.2]) (fun c:Int × Int × Int=>.agg #[.int .i64 c.1,.int .i64 c.2.1,.int .i64 c.2.2])
  (fun key kl hk=>by obtain⟨x,⟨e,_⟩,_⟩:=keyOf_e_inv hk;exact⟨x,e⟩) (fun v y hv=>by obtain⟨f,l,i,e,_⟩:=readP_inv hv;exact⟨(f,l,i),e⟩) b r _ D left cnt hit h1 (fun _ hl=>hDone (fun v z hv hz=>by rw[←h3 v z hv hz];exact hl _)) ?_
 intro k c kl y w' cnt' hkey hl hv hat hr hlt hg' hs hen
 obtain⟨x,hx,rfl,rfl,ht,hER⟩:=ER.entry h2 h3 hkey hl hv hat hr
 exact hMore x hx w' cnt' ht hER hlt hg' hs hen
end
end Go.Proofs.Ytealnhaffphamaa
