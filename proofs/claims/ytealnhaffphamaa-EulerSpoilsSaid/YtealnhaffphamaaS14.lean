/- Contracts of the functions that the statement reaches, and plain lemmas: part 14 of 31. -/
import Derived.Test.YtealnhaffphamaaS13
import Derived.Test.YtealnhaffphamaaS07
import Derived.Test.YtealnhaffphamaaS09
import Derived.Test.YtealnhaffphamaaS10
import Derived.Test.YtealnhaffphamaaS05
import Derived.Deep.QuietTactic
import Derived.BigQuiet
set_option linter.unusedVariables false
set_option linter.unusedSimpArgs false

namespace Go.Proofs.Ytealnhaffphamaa
open Go.RowKit Go.Shelf Go.Proofs.YtealnhaffphamaaW.PrintWords
def OutB (p:Prop) (e:Ending):Prop:=∃b,e=.returned (.bool b)∧(b=true↔p)
theorem OutB.no {p:Prop} (h:¬ p):OutB p (.returned (.bool false)):=⟨false,rfl,by simpa using h⟩
theorem OutB.yes {p:Prop} (h:p):OutB p (.returned (.bool true)):=⟨true,rfl,by simpa using h⟩
def preA (fs:Fs) (f l i:Nat):List PV:=upA fs f ++ faceA fs f l ++ rowA fs f l i
theorem preA_i (fs:Fs) (f l i:Nat):preA fs f l (i+1)=preA fs f l i ++ [pvA fs f l i]:=by unfold preA;rw[rowA_succ];simp[List.append_assoc]
theorem preA_l (fs:Fs) (f l:Nat):preA fs f (l+1) 0=preA fs f l (lpA fs f l).length:=by unfold preA;rw[faceA_succ];simp[List.append_assoc,rowA]
theorem preA_f (fs:Fs) (f:Nat):preA fs (f+1) 0 0=preA fs f (fcA fs f).length 0:=by unfold preA;rw[upA_succ];simp[rowA,faceA]
theorem preA_end (fs:Fs):preA fs fs.length 0 0=plsA fs:=by unfold preA plsA;simp[rowA,faceA]
theorem preA_prefix (fs:Fs) {f l i:Nat} (hf:f<fs.length) (hl:l<(fcA fs f).length) (hi:i≤(lpA fs f l).length):preA fs f l i <+: plsA fs:=at_prefix fs hf hl hi
def SizR (N:Int) (fs:Fs):Prop:=1≤N∧N≤200∧fs.length≤400∧nlA fs fs.length≤400∧(plsA fs).length≤2000∧(∀f,f<fs.length→0<(fcA fs f).length∧∀l,l<(fcA fs f).length→0<(lpA fs f l).length)∧(∀x∈plsA fs,0≤x.v∧x.v<N)∧∀v:Nat,(v:Int)<N→(plsA fs).any (fun x=>x.v == (v:Int))=true
theorem nlA_mono {fs:Fs} {k n:Nat} (h:k≤n):nlA fs k≤nlA fs n:=by
 induction n with
 | zero=>
      obtain rfl:k=0:=by omega
      exact Nat.le_refl _
 | succ n ih=>
  by_cases e:k=n+1
  ·rw[e];exact Nat.le_refl _
  ·have:=ih (by omega);simp only[nlA];omega
structure SQ (N:Int) (fs:Fs) (f l i lo tp:Nat):Prop where
 lo:lo=nlA fs f+l
 tp:tp=(preA fs f l i).length
 ne:∀g,g<f→0<(fcA fs g).length∧∀k,k<(fcA fs g).length→0<(lpA fs g k).length
 nl:∀k,k<l→0<(lpA fs f k).length
 val:∀x∈preA fs f l i,0≤x.v∧x.v<N
def metV (pre:List PV) (g:Nat):Bool:=pre.any fun x=>x.v == (g:Int)
theorem metV_snoc (pre:List PV) {x:PV} {v:Nat} (h:x.v=v):metV (pre ++ [x])=mark (metV pre) v:=by
 funext g
 unfold metV mark
 rw[List.any_append]
 simp only[List.any_cons,List.any_nil,Bool.or_false,h]
 by_cases e:g=v
 ·subst e;simp
 ·rw[if_neg e]
  have:((v:Int) == (g:Int))=false:=by simp;omega
  rw[this,Bool.or_false]
set_option maxRecDepth 100000 in
set_option maxHeartbeats 4000000 in
theorem sizes_any (N:Int) (A:Option Addr) (c:Nat) (fs:Fs) (w:World) (hF:RF w A fs) (hSm:Sm fs) :
  Calls Try.prog 43 #[.agg #[.int .i64 N,.slice A fs.length c]] w fun e w'=>OutB (SizR N fs) e∧Below w.heap.size w w':=by
 obtain⟨W1,hW1⟩:∃W1,W1=w.alloc (.cells #[.int .i64 N,.slice A fs.length c] 26):=⟨_,rfl⟩
 have HOB:Hid (Obs [.cells #[.int .i64 N,.slice A fs.length c] 26] w W1):=by rw[hW1];exact Obs.one w _
 have HM:Hid (W1.heap.size=w.heap.size+1):=by show _=_;rw[hW1];simp
 have HF:=Lib.hid hF
 have HS:=Lib.hid hSm
 have hN:=hSm.1
 clear hF hSm
 go_enter Try.func43,Try.ntmps43
 go_upto_region 1 with fail
 rw[←hW1]
 clear hW1
 have m00:W1.cell? ⟨w.heap.size,0,none⟩=some (.int .i64 N):=HOB.out.cell 0 0 rfl rfl
 have m01:W1.cell? ⟨w.heap.size,1,none⟩=some (.slice A fs.length c):=HOB.out.cell 0 1 rfl rfl
 by_cases z1:N<1
 ·have HNB:Hid (¬ SizR N fs):=fun h=>by have:=h.1;omega
  go_wp2
  go_ret
  exact⟨OutB.no HNB.out,HOB.out.below⟩
 by_cases z2:200<N
 ·have HNB:Hid (¬ SizR N fs):=fun h=>by have:=h.2.1;omega
  go_wp2
  go_ret
  exact⟨OutB.no HNB.out,HOB.out.below⟩
 by_cases z3:(400:Int)<(fs.length:Int)
 ·have HNB:Hid (¬ SizR N fs):=fun h=>by have:=h.2.2.1;omega
  go_wp2
  go_ret
  exact⟨OutB.no HNB.out,HOB.out.below⟩
 obtain⟨n,rfl⟩:=Int.eq_ofNat_of_zero_le (show 0≤N by omega)
 obtain⟨M,hM⟩:∃M,W1.heap.size=M:=⟨_,rfl⟩
 have HWM:Hid (w.heap.size+1=M):=by rw[←hM];exact HM.out.symm
 clear HM
 obtain⟨iB,hiB,hiB0,hiB1,hiB2⟩:=info_parts infoB
 go_upto_region 4 with fail
 go_cut [5] from 8 (fun s5 W3=>s5=.slice (some ⟨M,0,none⟩) n n∧Hid (Obs [.cells #[.int .i64 n,.slice A fs.length c] 26] w W3)∧Hid (Blk W3 M (.cells (mb n fun _=>false) 4)))
 case first=>
  go_wp2_with (at_make;refine wpList_make_full _ rfl _ _ 81 rfl M 4 iB (.bool false) 1 Try.underlying81 hiB hiB0 hiB1 .i64 .i64 _ _ n rfl rfl rfl rfl (by rw[hiB2];omega) (by simp only[maxLen];omega) (Nat.le_of_eq hM.symm) ?_;intro w3 hown3 hg3)
  rw[hM] at hown3
  go_meet
  case rel=>exact⟨rfl,HOB.out.grown hg3,made_met hown3⟩
 case rest=>
 obtain⟨rfl,HOB3,HB3⟩:=hcut
 rename World=>W3
 clear HOB m00 m01 hM hiB hiB0 hiB1 hiB2
 go_upto_region 5 with fail
 go_wp2
 go_loopw [2,3,4,6] (fun _ s3 s4 s6 wr=>Hid (∃f lo tp:Nat,f≤fs.length∧lo≤400∧tp≤2000∧s3=.int .i64 lo∧s4=.int .i64 tp∧s6=.int .i64 f∧Hid (SQ n fs f 0 0 lo tp)∧Hid (Obs [.cells #[.int .i64 n,.slice A fs.length c] 26] w wr)∧Hid (Blk wr M (.cells (mb n (metV (preA fs f 0 0))) 4)))) (fun _ _ _ v _=>fs.length - (intOf v).toNat)
 case atStart=>exact⟨0,0,0,by omega,by omega,by omega,rfl,rfl,rfl,⟨rfl,rfl,fun g h=>by omega,fun g h=>by omega,fun x hx=>by simp[preA,upA,faceA,rowA] at hx⟩,HOB3,HB3⟩
 case round=>
  clear HOB3 HB3
  rename World=>wr
  obtain⟨f,lo,tp,hf,hlo,htp,rfl,rfl,rfl,HQ,HOB,HMB⟩:=hrel.out
  have m00:wr.cell? ⟨w.heap.size,0,none⟩=some (.int .i64 n):=HOB.out.cell 0 0 rfl rfl
  have m01:wr.cell? ⟨w.heap.size,1,none⟩=some (.slice A fs.length c):=HOB.out.cell 0 1 rfl rfl
  by_cases hlt:f<fs.length
  ·have hlz:(f:Int)<(fs.length:Int):=by omega
   have hrr:=(HF.out.below HOB.out.below).at hlt
   obtain⟨ad0,A0,c0,rfl,hc,hl0,hr0⟩:=hrr
   have hn0:=hr0.len
   by_cases h0:(fcA fs f).length=0
   ·have h0z:((fcA fs f).length:Int)=0:=by omega
    have HNB:Hid (¬ SizR n fs):=fun h=>by have:=(h.2.2.2.2.2.1 f hlt).1;omega
    clear hr0
    go_wp2
    go_ret
    exact⟨OutB.no HNB.out,HOB.out.below⟩
   have h0z:¬ ((fcA fs f).length:Int)=0:=by omega
   have HR0:=Lib.hid hr0
   clear hr0
   go_wp2
   go_loopw [2,3,4,7] (fun _ s3 s4 s7 wr=>Hid (∃l lo tp:Nat,l≤(fcA fs f).length∧lo≤400∧tp≤2000∧s3=.int .i64 lo∧s4=.int .i64 tp∧s7=.int .i64 l∧Hid (SQ n fs f l 0 lo tp)∧Hid (Obs [.cells #[.int .i64 n,.slice (some ad0) fs.length c] 26] w wr)∧Hid (Blk wr M (.cells (mb n (metV (preA fs f l 0))) 4)))) (fun _ _ _ v _=>(fcA fs f).length - (intOf v).toNat)
   case atStart=>exact⟨0,lo,tp,by omega,by omega,by omega,rfl,rfl,rfl,HQ,HOB,HMB⟩
   case round=>
    clear HOB HMB hc m00 m01 HR0 HQ
    rename World=>wr
    obtain⟨l,lo,tp,hl,hlo,htp,rfl,rfl,rfl,HQ,HOB,HMB⟩:=hrel.out
    have m00:wr.cell? ⟨w.heap.size,0,none⟩=some (.int .i64 n):=HOB.out.cell 0 0 rfl rfl
    have m01:wr.cell? ⟨w.heap.size,1,none⟩=some (.slice (some ad0) fs.length c):=HOB.out.cell 0 1 rfl rfl
    obtain⟨ad',A0,c0,he,hc,hl0,hr0⟩:=(HF.out.below HOB.out.below).at hlt
    cases he
    have HR0:=Lib.hid hr0
    clear hr0
    by_cases hlt2:l<(fcA fs f).length
    ·have hlz2:(l:Int)<((fcA fs f).length:Int):=by omega
     obtain⟨ad1,A1,c1,rfl,hc1,hl1,hr1⟩:=HR0.out.atP hlt2
     have hn1:=hr1.len
     by_cases h1:(lpA fs f l).length=0
     ·have h1z:((lpA fs f l).length:Int)=0:=by omega
      have HNB:Hid (¬ SizR n fs):=fun h=>by have:=(h.2.2.2.2.2.1 f hlt).2 l hlt2;omega
      clear hr1
      go_wp2
      go_ret
      exact⟨OutB.no HNB.out,HOB.out.below⟩
     have h1z:¬ ((lpA fs f l).length:Int)=0:=by omega
     have HR1:=Lib.hid hr1
     clear hr1
     have HQ0:Hid (SQ n fs f l 0 lo tp∧0<(lpA fs f l).length):=⟨HQ.out,by omega⟩
     have hlo1:lo+1≤401:=by omega
     obtain⟨lo1,hl1e⟩:∃q,q=lo+1:=⟨_,rfl⟩
     have hw1:IntKind.i64.wrap ((lo:Int)+1)=(lo1:Int):=by rw[IntKind.wrap_i64];omega
     have HL1:=Lib.hid hl1e
     clear hl1e
     go_wp2
     go_loopw [2,4,8] (fun _ s4 s8 wr=>Hid (∃i tp:Nat,i≤(lpA fs f l).length∧tp≤2000∧s4=.int .i64 tp∧s8=.int .i64 i∧Hid ((0<i→lo1≤400)∧tp=(preA fs f l i).length∧∀x∈preA fs f l i,0≤x.v∧x.v<n)∧Hid (Obs [.cells #[.int .i64 n,.slice (some ad0) fs.length c] 26] w wr)∧Hid (Blk wr M (.cells (mb n (metV (preA fs f l i))) 4)))) (fun _ _ v _=>(lpA fs f l).length - (intOf v).toNat)
     case atStart=>exact⟨0,tp,by omega,by omega,rfl,rfl,⟨fun h=>by omega,HQ.out.tp,HQ.out.val⟩,HOB,HMB⟩
     case round=>
      clear HOB HMB hc m00 m01 HR0 hc1 HR1 htp
      rename World=>wr
      obtain⟨i,tp,hi,htp,rfl,rfl,HI,HOB,HMB⟩:=hrel.out
      have m00:wr.cell? ⟨w.heap.size,0,none⟩=some (.int .i64 n):=HOB.out.cell 0 0 rfl rfl
      have m01:wr.cell? ⟨w.heap.size,1,none⟩=some (.slice (some ad0) fs.length c):=HOB.out.cell 0 1 rfl rfl
      obtain⟨ad',A0',c0',he,hc,hl0',hr0⟩:=(HF.out.below HOB.out.below).at hlt
      cases he
      obtain⟨ad1',A1',c1',rfl,hc1,hl1',hr1⟩:=hr0.atP hlt2
      have hn2:=hr0.len
      clear hr0
      by_cases hlt3:i<(lpA fs f l).length
      ·have hlz3:(i:Int)<((lpA fs f l).length:Int):=by omega
       obtain⟨ad2,rfl,hc2⟩:=hr1.at hlt3
       clear hr1
       obtain⟨v,hv⟩:∃v,v=(lpA fs f l).getD i 0:=⟨_,rfl⟩
       rw[←hv] at hc2
       have HPV:Hid ((pvA fs f l i).v=v):=by show _=_;rw[hv];rfl
       have HMEM:Hid (pvA fs f l i∈plsA fs):=mem_pls.2 ⟨f,l,i,hlt,hlt2,hlt3,rfl⟩
       have HPRE:Hid (preA fs f l (i+1) <+: plsA fs):=preA_prefix fs hlt hlt2 hlt3
       clear hv
       by_cases y1:v<0
       ·have HNB:Hid (¬ SizR n fs):=fun h=>by have:=h.2.2.2.2.2.2.1 _ HMEM.out;rw[HPV.out] at this;omega
        go_wp2
        go_ret
        exact⟨OutB.no HNB.out,HOB.out.below⟩
       by_cases y2:v≥(n:Int)
       ·have HNB:Hid (¬ SizR n fs):=fun h=>by have:=h.2.2.2.2.2.2.1 _ HMEM.out;rw[HPV.out] at this;omega
        go_wp2
        go_ret
        exact⟨OutB.no HNB.out,HOB.out.below⟩
       by_cases y3:(400:Int)<(lo1:Int)
       ·have HNB:Hid (¬ SizR n fs):=fun h=>by
         have h4:=h.2.2.2.1
         have h5:=nlA_mono (fs:=fs) (show f+1≤fs.length by omega)
         have h6:=HQ0.out.1.lo
         have h7:=HL1.out
         simp only[nlA] at h5
         omega
        go_wp2
        go_ret
        exact⟨OutB.no HNB.out,HOB.out.below⟩
       by_cases y4:(2000:Int)<((tp+1:Nat):Int)
       ·have HNB:Hid (¬ SizR n fs):=fun h=>by
         have h4:=h.2.2.2.2.1
         have h5:=HPRE.out.length_le
         have h6:=HI.out.2.1
         rw[preA_i,List.length_append,List.length_singleton] at h5
         omega
        obtain⟨t1,ht1⟩:∃q,q=tp+1:=⟨_,rfl⟩
        have hw2:IntKind.i64.wrap ((tp:Int)+1)=(t1:Int):=by rw[IntKind.wrap_i64];omega
        rw[←ht1] at y4
        have HT1:=Lib.hid ht1
        clear ht1
        go_wp2
        go_ret
        exact⟨OutB.no HNB.out,HOB.out.below⟩
       obtain⟨vn,rfl⟩:=Int.eq_ofNat_of_zero_le (show 0≤v by omega)
       obtain⟨t1,ht1⟩:∃q,q=tp+1:=⟨_,rfl⟩
       have hw2:IntKind.i64.wrap ((tp:Int)+1)=(t1:Int):=by rw[IntKind.wrap_i64];omega
       rw[←ht1] at y4
       have HT1:=Lib.hid ht1
       clear ht1
       have n0:=(blk_cells HMB.out).1 vn _ (mb_get _ (show vn<n by omega))
       have n1:=(blk_cells HMB.out).2 vn
       have hvz:(vn:Int)<(n:Int):=by omega
       go_wp2
       go_roundw
       case rel=>
        refine⟨i+1,t1,by omega,by omega,rfl,by go_num,⟨fun _=>by omega,by rw[preA_i,List.length_append,List.length_singleton];have:=HI.out.2.1;have:=HT1.out;omega,fun x hx=>?_⟩,?_,?_⟩
        ·rw[preA_i] at hx
         rcases List.mem_append.1 hx with hx | hx
         ·exact HI.out.2.2 x hx
         ·rw[List.mem_singleton.1 hx,HPV.out];omega
        ·exact HOB.out.kept (grown_set _ _ _ _) (fun k e=>by cases e;have:=HWM.out;simp;omega)
        ·have h9:=blk_set (o:=vn) (x:=.bool true) HMB.out
         rw[mb_mark,←metV_snoc _ HPV.out,←preA_i] at h9
         exact h9
       case measure=>simp[intOf];omega
      ·obtain rfl:i=(lpA fs f l).length:=by omega
       clear hr1
       go_wp2
       go_roundw
       case rel=>
        refine⟨l+1,lo1,tp,by omega,HI.out.1 (by have:=HQ0.out.2;omega),by omega,rfl,rfl,by go_num,⟨by have:=HQ0.out.1.lo;have:=HL1.out;omega,by rw[preA_l];exact HI.out.2.1,HQ0.out.1.ne,fun k hk=>?_,by rw[preA_l];exact HI.out.2.2⟩,HOB,by rw[preA_l];exact HMB⟩
        by_cases e:k=l
        ·rw[e];exact HQ0.out.2
        ·exact HQ0.out.1.nl k (by omega)
       case measure=>simp[intOf];omega
    ·obtain rfl:l=(fcA fs f).length:=by omega
     go_wp2
     go_roundw
     case rel=>
      refine⟨f+1,lo,tp,by omega,by omega,by omega,rfl,rfl,by go_num,⟨?_,?_,fun g hg=>?_,fun k hk=>by omega,?_⟩,HOB,by rw[preA_f];exact HMB⟩
      ·have:=HQ.out.lo;simp only[nlA];omega
      ·rw[preA_f];exact HQ.out.tp
      ·by_cases e:g=f
       ·rw[e];exact⟨by omega,HQ.out.nl⟩
       ·exact HQ.out.ne g (by omega)
      ·rw[preA_f];exact HQ.out.val
     case measure=>simp[intOf];omega
  ·obtain rfl:f=fs.length:=by omega
   have HSZ:Hid (∀v:Nat,metV (plsA fs) v=metV (preA fs fs.length 0 0) v):=fun v=>by rw[preA_end]
   go_wp2
   go_loopw [10] (fun s10 wr=>Hid (∃v:Nat,v≤n∧s10=.int .i64 v∧Hid (∀u,u<v→metV (plsA fs) u=true)∧Hid (Obs [.cells #[.int .i64 n,.slice A fs.length c] 26] w wr)∧Hid (Blk wr M (.cells (mb n (metV (preA fs fs.length 0 0))) 4)))) (fun v _=>n - (intOf v).toNat)
   case atStart=>exact⟨0,by omega,rfl,fun u h=>by omega,HOB,HMB⟩
   case round=>
    clear HOB HMB m00 m01
    rename World=>wr
    obtain⟨v,hv,rfl,HU,HOB,HMB⟩:=hrel.out
    have m00:wr.cell? ⟨w.heap.size,0,none⟩=some (.int .i64 n):=HOB.out.cell 0 0 rfl rfl
    by_cases hlt:v<n
    ·have hvz:(v:Int)<(n:Int):=by omega
     have n0:=(blk_cells HMB.out).1 v _ (mb_get _ hlt)
     cases hm:metV (preA fs fs.length 0 0) v with
     | true=>
      rw[hm] at n0
      go_wp2
      go_roundw
      case rel=>
       refine⟨v+1,by omega,by go_num,fun u hu=>?_,HOB,HMB⟩
       by_cases e:u=v
       ·rw[e,HSZ.out];exact hm
       ·exact HU.out u (by omega)
      case measure=>simp[intOf];omega
     | false=>
      rw[hm] at n0
      have HNB:Hid (¬ SizR n fs):=fun h=>by
       have h4:=h.2.2.2.2.2.2.2 v (by omega)
       have h5:=(HSZ.out v).trans hm
       unfold metV at h5
       rw[h4] at h5;cases h5
      go_wp2
      go_ret
      exact⟨OutB.no HNB.out,HOB.out.below⟩
    ·obtain rfl:v=n:=by omega
     have HYB:Hid (SizR v fs):=by
      have hq:=HQ.out
      have e1:=hq.lo
      have e2:=hq.tp
      rw[preA_end] at e2
      refine⟨by omega,by omega,by omega,by omega,by omega,hq.ne,?_,fun u hu=>HU.out u (by omega)⟩
      have:=hq.val
      rw[preA_end] at this
      exact this
     go_wp2
     go_ret
     exact⟨OutB.yes HYB.out,HOB.out.below⟩
end Go.Proofs.Ytealnhaffphamaa

namespace Go.Proofs.Ytealnhaffphamaa
open Go.RowKit Go.Shelf Go.Proofs.YtealnhaffphamaaW.PrintWords
theorem cut_toM {P:Program} (t e:TypeId) (kh km:IntKind) {i:TypeInfo} (ht:P.underlying t=some (.slice e)) (hi:P.info? e=some i) (A:Option Addr) (n c:Nat) (j:Nat) (hc:j≤c) :
  ∀W:World,(Instr.slice t (.slice A n c) none (some (.int kh j)) (some (.int km j))).run P W=.ok (.slice A j j) W:=by
 intro W
 have hel:P.elem t=e:=by simp[Program.elem,ht]
 have hu:P.underlying t=some (.slice (P.elem t)):=by rw[hel];exact ht
 have ha:(A.map fun x=>x.add 0)=A:=by cases A <;> simp[Addr.add]
 have h2:(j:Int)≤(c:Int):=by omega
 rw[run_slice_any W t A n c hu]
 simp[Instr.sliceBounds,run_sliceBound,h2,hel,sizeOf,typeInfo,hi,sliced,Result.andThen,ha]
theorem cut_mid {P:Program} (t e:TypeId) (kl kh:IntKind) {i:TypeInfo} (ht:P.underlying t=some (.slice e)) (hi:P.info? e=some i) (hsz:i.size=1) (A:Option Addr) (n c a b:Nat) (hab:a≤b) (hc:b≤c) :
  ∀W:World,(Instr.slice t (.slice A n c) (some (.int kl a)) (some (.int kh b)) none).run P W=.ok (.slice (if c=a then A else A.map (·.add (a * 1))) (b - a) (c - a)) W:=by
 intro W
 have hel:P.elem t=e:=by simp[Program.elem,ht]
 have hu:P.underlying t=some (.slice (P.elem t)):=by rw[hel];exact ht
 rw[run_slice_lh W t A n c hu kl kh a b (by omega) (by omega) (by omega),hel]
 simp[sizeOf,typeInfo,hi,hsz,sliced,Result.andThen]
theorem own_LR {W:World} {base n:Nat} {v:Value} {xs:List Int} (hn:n=xs.length) (h:W.ownsRow base 3 1 v n (intsV xs)):∃A c,v=.slice A n c∧n≤c∧LR W (.slice A n c) xs:=by
 subst hn
 obtain⟨A,c,e,h1,h2,h3⟩:=LR.of_own h
 exact⟨A,c,e,h1,A,c,rfl,h1,h2,h3⟩
set_option maxRecDepth 100000 in
set_option maxHeartbeats 1000000 in
theorem upTo_any (A:Option Addr) (n c i j:Nat) (l:List Int) (w:World) (hn:n=l.length) (h:RI w A l) (hc:n≤c) (hi:i<n) (hj:j<n) (hl:n≤100000) :
  Calls Try.prog 71 #[.slice A n c,.int .i64 i,.int .i64 j] w fun e w'=>(∃v,e=.returned v∧LR w' v (upToL l i j))∧Below w.heap.size w w':=by
 have HT:=Lib.hid (rturned_any A n c i l w hn h hc (by omega) (by omega))
 obtain⟨iI,hiI,hiI0,hiI1,hiI2⟩:=info_parts infoI
 obtain⟨q,hq⟩:∃q:Nat,q=j+n - i:=⟨_,rfl⟩
 obtain⟨d,hd⟩:∃d:Nat,q % n=d:=⟨_,rfl⟩
 obtain⟨e,he⟩:∃e:Nat,e=d+1:=⟨_,rfl⟩
 have hdn:d<n:=by rw[←hd];exact Nat.mod_lt _ (by omega)
 have HE:Hid (e=(j+n - i) % n+1∧e≤n∧n=l.length):=⟨by rw[he,←hd,hq],by omega,hn⟩
 have hw1:IntKind.i64.wrap ((j:Int) - (i:Int))=(j:Int) - (i:Int):=by rw[IntKind.wrap_i64];omega
 have hw2:IntKind.i64.wrap ((j:Int) - (i:Int)+(n:Int))=(q:Int):=by rw[IntKind.wrap_i64];omega
 have hw3:IntKind.i64.wrap ((d:Int)+1)=(e:Int):=by rw[IntKind.wrap_i64];omega
 have hm:Int.tmod (q:Int) (n:Int)=(d:Int):=by rw[←hd];rfl
 have h1:¬ (n:Int)=0:=by omega
 have h2:¬ n=0:=by omega
 have HCT:Hid (∀A1 c1,n≤c1→∀W,(Instr.slice 36 (.slice A1 n c1) none (some (.int .i64 (e:Int))) (some (.int .i64 (e:Int)))).run Try.prog W=.ok (.slice A1 e e) W):=fun A1 c1 hc1=>cut_toM 36 3 .i64 .i64 Try.underlying36 hiI A1 n c1 e (by omega)
 clear hq he h hn hdn hi hj hl
 go_enter Try.func71,Try.ntmps71
 go_upto_region 2 with((with_reducible refine(HT.out).mono ?_);rintro e1 w1 ⟨⟨v1,rfl,ho1⟩,hb1⟩;obtain⟨A1,c1,rfl,hc1,hr1⟩:=own_LR (n:=n) (xs:=rotA l i) (by rw[rotA_len];exact HE.out.2.2) (by rw[rotA_len,←HE.out.2.2] at ho1;exact ho1))
 have hcut:=HCT.out A1 c1 hc1
 have HL1:=Lib.hid hr1
 have HB1:=Lib.hid hb1
 clear HT HCT ho1 hr1 hb1
 go_quiet (fail)
 rename_i nq
 go_wp2
 go_ret
 refine⟨⟨_,rfl,?_⟩,below_drewN HB1.out nq⟩
 have h3:=(HL1.out.take (m:=e) (c':=e) (by rw[rotA_len,←HE.out.2.2];exact HE.out.2.1) (Nat.le_refl _)).kept (grown_of_below (Drawn0.below ⟨⟨nq,rfl⟩⟩) none) (NoI.none w1)
 unfold upToL
 rw[←HE.out.2.2,←HE.out.1]
 exact h3
theorem ri_one {W:World} {m:Nat} {z:Int} (h:Blk W m (.cells #[.int .i64 z] 3)):RI W (some ⟨m,0,none⟩) [z]:=by
 refine⟨rfl,by simp,fun _=>⟨_,rfl,fun j p hj=>?_⟩⟩
 match j,hj with
 | 0,hj=>
  cases hj
  exact⟨[.int .i64 z],rfl,rfl,fun i u hu=>by
   match i,hu with
   | 0,hu=>cases hu;exact(blk_cells h).1 0 _ rfl⟩
set_option maxRecDepth 100000 in
set_option maxHeartbeats 1000000 in
theorem round_any (A:Option Addr) (n c i:Nat) (l:List Int) (w:World) (hn:n=l.length) (h:RI w A l) (hc:n≤c) (hi:i<n) (hl:n≤100000) :
  Calls Try.prog 72 #[.slice A n c,.int .i64 i] w fun e w'=>(∃v,e=.returned v∧w'.ownsRow w.heap.size 3 1 v (roundL l i).length (intsV (roundL l i)))∧Below w.heap.size w w':=by
 have HT:=Lib.hid (rturned_any A n c i l w hn h hc (by omega) (by omega))
 obtain⟨ad,rfl,hcell⟩:=RI.at h (i:=i) (by omega)
 obtain⟨z,hz⟩:∃z,z=l.getD i 0:=⟨_,rfl⟩
 rw[←hz] at hcell
 have HZ:=Lib.hid hz
 have HN:=Lib.hid hn
 have HI:Hid (i<n):=hi
 clear h hn hz
 go_enter Try.func72,Try.ntmps72
 go_upto_region 2 with((with_reducible refine(HT.out).mono ?_);rintro e1 w1 ⟨⟨v1,rfl,ho1⟩,hb1⟩)
 have hcell1:=pw_cell_below hb1 hcell
 have HO1:Hid (w1.ownsRow w.heap.size 3 1 v1 (rotA l i).length (intsV (rotA l i))):=ho1
 have HB1:=Lib.hid hb1
 clear HT ho1 hb1 hcell
 by_cases h1:n=1
 ·have h2:¬ (n:Int) > 1:=by omega
  have HR:Hid (roundL l i=rotA l i):=by
   have hi0:i=0:=by have:=HI.out;omega
   show _=_
   unfold roundL rotA
   rw[if_pos (by rw[←HN.out];exact h1),hi0];simp
  clear h1
  go_wp2
  go_ret
  exact⟨⟨v1,rfl,by rw[HR.out];exact HO1.out⟩,HB1.out⟩
 ·have h2:(n:Int) > 1:=by omega
  have HR:Hid (roundL l i=rotA l i ++ [z]):=by
   show _=_
   unfold roundL
   rw[if_neg (by rw[←HN.out];exact h1),HZ.out];rfl
  clear h1
  go_wp2_with (at_builtin;refine wpList_append_ints rfl _ _ rfl w.heap.size v1 (rotA l i) [z] (some ⟨w1.heap.size,0,none⟩) 1 1 rfl rfl rfl (own_keptB HO1.out (World.grownBy_alloc w1 _ none) (fun b e=>by cases e)) (ri_one (blk_new w1 _)) (by simp;have:=HB1.out.size;omega) (by rw[rotA_len,←HN.out];simp;omega) ?_;intro v2 w2 hown2 hg2 _)
  go_ret
  refine⟨⟨v2,rfl,by rw[HR.out];exact hown2⟩,?_⟩
  exact((HB1.out.alloc HB1.out.size _)).grown hg2 (by simp;have:=HB1.out.size;omega) (fun k e=>own_base HO1.out k e)
set_option maxRecDepth 100000 in
set_option maxHeartbeats 1000000 in
theorem shut_any (A:Option Addr) (n c:Nat) (l:List Int) (w:World) (h:LR w (.slice A n c) l) (hl:n≤100000) :
  Calls Try.prog 74 #[.slice A n c] w fun e w'=>(∃v,e=.returned v∧LR w' v (shutL l))∧w'=w:=by
 obtain⟨hn,hc,-⟩:=h.reads
 obtain⟨iI,hiI,hiI0,hiI1,hiI2⟩:=info_parts infoI
 have HL:=Lib.hid h
 have HN:=Lib.hid hn
 clear h hn
 by_cases h1:1<n
 ·have h2:(n:Int) > 1:=by omega
  obtain⟨m,hm⟩:∃m,m=n - 1:=⟨_,rfl⟩
  have hw:IntKind.i64.wrap ((n:Int) - 1)=(m:Int):=by rw[IntKind.wrap_i64];omega
  have hcut:=cut_to (P:=Try.prog) 36 3 .i64 Try.underlying36 hiI A n c (m:Int) (by omega) (by omega) hc
  rw[Int.toNat_natCast] at hcut
  have HS:Hid (shutL l=l.take m∧m≤n):=by
   refine⟨?_,by omega⟩
   unfold shutL
   rw[if_pos (by rw[←HN.out];exact h1),List.dropLast_eq_take,←HN.out,hm]
  clear h1 hm
  go_enter Try.func74,Try.ntmps74
  go_wp2
  go_ret
  exact⟨⟨_,rfl,by rw[HS.out.1];exact HL.out.take (by rw[←HN.out];exact HS.out.2) (by have:=HS.out.2;omega)⟩,rfl⟩
 ·have h2:¬ (n:Int) > 1:=by omega
  have HS:Hid (shutL l=l):=by
   show _=_
   unfold shutL
   rw[if_neg (by rw[←HN.out];exact h1)]
  clear h1
  go_enter Try.func74,Try.ntmps74
  go_wp2
  go_ret
  exact⟨⟨_,rfl,by rw[HS.out];exact HL.out⟩,rfl⟩
set_option maxRecDepth 100000 in
set_option maxHeartbeats 1000000 in
theorem without_any (g n c k:Nat) (lv:Nat→Value) (w:World) (hcell:∀j,j<n→w.cell? ⟨g,j,none⟩=some (lv j)) (h1:∀j,j<n→(lv j).oneCell'=true) (hc:n≤c) (hk:k<n) (hn:n≤100000) :
  Calls Try.prog 63 #[.slice (some ⟨g,0,none⟩) n c,.int .i64 k] w fun e w'=>(∃v,e=.returned v∧w'.ownsRow w.heap.size 36 1 v (n - 1) (((List.range n).map lv).eraseIdx k))∧w.grownBy w' none:=by
 obtain⟨iL,hiL,hiL0,hiL1,hiL2⟩:=info_parts infoL
 obtain⟨q,hq⟩:∃q:Nat,q=k+1:=⟨_,rfl⟩
 have hw:IntKind.i64.wrap ((k:Int)+1)=(q:Int):=by rw[IntKind.wrap_i64];omega
 have hct:=cut_to (P:=Try.prog) 37 36 .i64 Try.underlying37 hiL (some ⟨g,0,none⟩) n c (k:Int) (by omega) (by omega) hc
 have hcf:=cut_from (P:=Try.prog) 37 36 .i64 Try.underlying37 hiL 1 hiL1 (some ⟨g,0,none⟩) n c (q:Int) (by omega) (by omega)
 rw[Int.toNat_natCast] at hct hcf
 obtain⟨ad,had⟩:∃ad:Addr,(if c=q then some (⟨g,0,none⟩:Addr) else(some (⟨g,0,none⟩:Addr)).map (·.add (q * 1)))=some ad∧(q<n→ad=⟨g,q,none⟩):=by
  by_cases e:c=q
  ·exact⟨_,by rw[if_pos e],fun h=>by omega⟩
  ·exact⟨(⟨g,0,none⟩:Addr).add q,by rw[if_neg e,Nat.mul_one];rfl,fun _=>add_plain g q⟩
 rw[had.1] at hcf
 have HN:Hid (k≤maxLen∧k * 24≤140737488355328∧0+k≤maxLen∧(0+k) * 24≤140737488355328∧0+k+(n - q)≤maxLen∧(0+k+(n - q)) * 24≤140737488355328∧0+k+(n - q)=n - 1):=by
  refine⟨?_,?_,?_,?_,?_,?_,?_⟩ <;> (try simp only[maxLen]) <;> omega
 have HN1:Hid (∀(j:Nat) (u:Value),((List.range k).map lv)[j]?=some u→w.cell? ((⟨g,0,none⟩:Addr).add j)=some u):=fun j u hj=>by
  obtain⟨hj1,hj2⟩:=List.getElem?_eq_some_iff.1 hj
  rw[List.length_map,List.length_range] at hj1
  rw[add_plain,hcell j (by omega),←hj2];simp
 have HU1:Hid (∀u∈(List.range k).map lv,u.oneCell'=true):=fun u hu=>by
  obtain⟨j,hj,rfl⟩:=List.mem_map.1 hu
  exact h1 j (by have:=List.mem_range.1 hj;omega)
 have HN2:Hid (∀w1,w.grownBy w1 none→∀(j:Nat) (u:Value),((List.range (n - q)).map (fun j=>lv (q+j)))[j]?=some u→w1.cell? (ad.add j)=some u):=fun w1 hg1 j u hj=>by
  obtain⟨hj1,hj2⟩:=List.getElem?_eq_some_iff.1 hj
  rw[List.length_map,List.length_range] at hj1
  have h0:=hcell (q+j) (by omega)
  rw[had.2 (by omega),show(⟨g,q,none⟩:Addr).add j=⟨g,q+j,none⟩ by unfold Addr.add;split <;> simp_all,hg1.cell_far _ (World.block_lt_of_cell? w _ h0) (by simp),h0,←hj2];simp
 have HU2:Hid (∀u∈(List.range (n - q)).map (fun j=>lv (q+j)),u.oneCell'=true):=fun u hu=>by
  obtain⟨j,hj,rfl⟩:=List.mem_map.1 hu
  exact h1 _ (by have:=List.mem_range.1 hj;omega)
 have HE:Hid ([] ++ (List.range k).map lv ++ (List.range (n - q)).map (fun j=>lv (q+j))=((List.range n).map lv).eraseIdx k):=by
  show _=_
  rw[map_range_erase _ _ hk]
  refine List.ext_getElem (by simp;omega) (fun j a b=>?_)
  rw[List.getElem_append]
  simp only[List.nil_append,List.length_map,List.length_range,List.getElem_map,List.getElem_range]
  split
  ·rename_i h;rw[skip,if_pos h]
  ·rename_i h;rw[skip,if_neg h];congr 1;omega
 clear had hcell h1 hq hk hc hn
 go_enter Try.func63,Try.ntmps63
 go_upto_region 3 with(at_builtin;refine wpList_append_own_at _ rfl _ _ _ rfl w.heap.size 36 iL (.slice none 0 0) 1 24 Try.underlying37 hiL hiL0 hiL1 hiL2 rfl (by omega) (.slice none 0 0) 0 [] rfl (World.ownsRow_nil _ _ _ _) ⟨g,0,none⟩ k c ((List.range k).map lv) rfl (by simp) HN1.out HU1.out HN.out.2.2.1 HN.out.2.2.2.1 (Nat.le_refl _) ?_;intro v1 w1 hown1 hg1 _ _)
 have hg1:w.grownBy w1 none:=hg1
 have HO1:=Lib.hid hown1
 have HG1:=Lib.hid hg1
 clear hown1 hg1
 go_wp2_with (at_builtin;refine wpList_append_own_at _ rfl _ _ _ rfl w.heap.size 36 iL (.slice none 0 0) 1 24 Try.underlying37 hiL hiL0 hiL1 hiL2 rfl (by omega) v1 (0+k) ([] ++ (List.range k).map lv) rfl HO1.out ad (n - q) (c - q) ((List.range (n - q)).map (fun j=>lv (q+j))) rfl (by simp) (HN2.out _ HG1.out) HU2.out HN.out.2.2.2.2.1 HN.out.2.2.2.2.2.1 HG1.out.size ?_;intro v2 w2 hown2 hg2 _ _)
 go_ret
 rw[HE.out,HN.out.2.2.2.2.2.2] at hown2
 refine⟨⟨v2,rfl,hown2⟩,?_⟩
 exact⟨hg2.os.trans HG1.out.os,hg2.tape.trans HG1.out.tape,hg2.output.trans HG1.out.output,Nat.le_trans HG1.out.size hg2.size,fun b hb _=>by
  rw[hg2.block b (Nat.lt_of_lt_of_le hb HG1.out.size) (fun e=>by have:=own_base HO1.out b e.symm;omega)]
  exact HG1.out.block b hb (by simp)⟩
set_option maxRecDepth 100000 in
set_option maxHeartbeats 1000000 in
theorem less_any (g n c k:Nat) (lv:Nat→Value) (w:World) (hcell:∀j,j<n→w.cell? ⟨g,j,none⟩=some (lv j)) (h1:∀j,j<n→(lv j).oneCell'=true) (hc:n≤c) (hk:k<n) (hn:n≤100000) :
  Calls Try.prog 61 #[.slice (some ⟨g,0,none⟩) n c,.int .i64 k] w fun e w'=>(∃v,e=.returned v∧w'.ownsRow w.heap.size 37 1 v (n - 1) (((List.range n).map lv).eraseIdx k))∧w.grownBy w' none:=by
 obtain⟨iL,hiL,hiL0,hiL1,hiL2⟩:=info_parts infoF
 obtain⟨q,hq⟩:∃q:Nat,q=k+1:=⟨_,rfl⟩
 have hw:IntKind.i64.wrap ((k:Int)+1)=(q:Int):=by rw[IntKind.wrap_i64];omega
 have hct:=cut_to (P:=Try.prog) 24 37 .i64 Try.underlying24 hiL (some ⟨g,0,none⟩) n c (k:Int) (by omega) (by omega) hc
 have hcf:=cut_from (P:=Try.prog) 24 37 .i64 Try.underlying24 hiL 1 hiL1 (some ⟨g,0,none⟩) n c (q:Int) (by omega) (by omega)
 rw[Int.toNat_natCast] at hct hcf
 obtain⟨ad,had⟩:∃ad:Addr,(if c=q then some (⟨g,0,none⟩:Addr) else(some (⟨g,0,none⟩:Addr)).map (·.add (q * 1)))=some ad∧(q<n→ad=⟨g,q,none⟩):=by
  by_cases e:c=q
  ·exact⟨_,by rw[if_pos e],fun h=>by omega⟩
  ·exact⟨(⟨g,0,none⟩:Addr).add q,by rw[if_neg e,Nat.mul_one];rfl,fun _=>add_plain g q⟩
 rw[had.1] at hcf
 have HN:Hid (k≤maxLen∧k * 24≤140737488355328∧0+k≤maxLen∧(0+k) * 24≤140737488355328∧0+k+(n - q)≤maxLen∧(0+k+(n - q)) * 24≤140737488355328∧0+k+(n - q)=n - 1):=by
  refine⟨?_,?_,?_,?_,?_,?_,?_⟩ <;> (try simp only[maxLen]) <;> omega
 have HN1:Hid (∀(j:Nat) (u:Value),((List.range k).map lv)[j]?=some u→w.cell? ((⟨g,0,none⟩:Addr).add j)=some u):=fun j u hj=>by
  obtain⟨hj1,hj2⟩:=List.getElem?_eq_some_iff.1 hj
  rw[List.length_map,List.length_range] at hj1
  rw[add_plain,hcell j (by omega),←hj2];simp
 have HU1:Hid (∀u∈(List.range k).map lv,u.oneCell'=true):=fun u hu=>by
  obtain⟨j,hj,rfl⟩:=List.mem_map.1 hu
  exact h1 j (by have:=List.mem_range.1 hj;omega)
 have HN2:Hid (∀w1,w.grownBy w1 none→∀(j:Nat) (u:Value),((List.range (n - q)).map (fun j=>lv (q+j)))[j]?=some u→w1.cell? (ad.add j)=some u):=fun w1 hg1 j u hj=>by
  obtain⟨hj1,hj2⟩:=List.getElem?_eq_some_iff.1 hj
  rw[List.length_map,List.length_range] at hj1
  have h0:=hcell (q+j) (by omega)
  rw[had.2 (by omega),show(⟨g,q,none⟩:Addr).add j=⟨g,q+j,none⟩ by unfold Addr.add;split <;> simp_all,hg1.cell_far _ (World.block_lt_of_cell? w _ h0) (by simp),h0,←hj2];simp
 have HU2:Hid (∀u∈(List.range (n - q)).map (fun j=>lv (q+j)),u.oneCell'=true):=fun u hu=>by
  obtain⟨j,hj,rfl⟩:=List.mem_map.1 hu
  exact h1 _ (by have:=List.mem_range.1 hj;omega)
 have HE:Hid ([] ++ (List.range k).map lv ++ (List.range (n - q)).map (fun j=>lv (q+j))=((List.range n).map lv).eraseIdx k):=by
  show _=_
  rw[map_range_erase _ _ hk]
  refine List.ext_getElem (by simp;omega) (fun j a b=>?_)
  rw[List.getElem_append]
  simp only[List.nil_append,List.length_map,List.length_range,List.getElem_map,List.getElem_range]
  split
  ·rename_i h;rw[skip,if_pos h]
  ·rename_i h;rw[skip,if_neg h];congr 1;omega
 clear had hcell h1 hq hk hc hn
 go_enter Try.func61,Try.ntmps61
 go_upto_region 3 with(at_builtin;refine wpList_append_own_at _ rfl _ _ _ rfl w.heap.size 37 iL (.slice none 0 0) 1 24 Try.underlying24 hiL hiL0 hiL1 hiL2 rfl (by omega) (.slice none 0 0) 0 [] rfl (World.ownsRow_nil _ _ _ _) ⟨g,0,none⟩ k c ((List.range k).map lv) rfl (by simp) HN1.out HU1.out HN.out.2.2.1 HN.out.2.2.2.1 (Nat.le_refl _) ?_;intro v1 w1 hown1 hg1 _ _)
 have hg1:w.grownBy w1 none:=hg1
 have HO1:=Lib.hid hown1
 have HG1:=Lib.hid hg1
 clear hown1 hg1
 go_wp2_with (at_builtin;refine wpList_append_own_at _ rfl _ _ _ rfl w.heap.size 37 iL (.slice none 0 0) 1 24 Try.underlying24 hiL hiL0 hiL1 hiL2 rfl (by omega) v1 (0+k) ([] ++ (List.range k).map lv) rfl HO1.out ad (n - q) (c - q) ((List.range (n - q)).map (fun j=>lv (q+j))) rfl (by simp) (HN2.out _ HG1.out) HU2.out HN.out.2.2.2.2.1 HN.out.2.2.2.2.2.1 HG1.out.size ?_;intro v2 w2 hown2 hg2 _ _)
 go_ret
 rw[HE.out,HN.out.2.2.2.2.2.2] at hown2
 refine⟨⟨v2,rfl,hown2⟩,?_⟩
 exact⟨hg2.os.trans HG1.out.os,hg2.tape.trans HG1.out.tape,hg2.output.trans HG1.out.output,Nat.le_trans HG1.out.size hg2.size,fun b hb _=>by
  rw[hg2.block b (Nat.lt_of_lt_of_le hb HG1.out.size) (fun e=>by have:=own_base HO1.out b e.symm;omega)]
  exact HG1.out.block b hb (by simp)⟩
end Go.Proofs.Ytealnhaffphamaa

namespace Go.Proofs.Ytealnhaffphamaa
open Go.RowKit Go.Proofs.YtealnhaffphamaaW.PrintWords
set_option maxRecDepth 100000 in
set_option maxHeartbeats 4000000 in
theorem in_o (N:Int) (A:Option Addr) (c:Nat) (fs:Fs) (f l i:Int) (w:World) (hF:RF w A fs) :
  Calls Try.prog 66 #[.agg #[.int .i64 N,.slice A fs.length c],.agg #[.int .i64 f,.int .i64 l,.int .i64 i]] w fun e w'=>HasO fs f l i e∧Below w.heap.size w w':=by
 obtain⟨W1,hW1⟩:∃W1,W1=(w.alloc (.cells #[.int .i64 N,.slice A fs.length c] 26)).alloc (.cells #[.int .i64 f,.int .i64 l,.int .i64 i] 34):=⟨_,rfl⟩
 have HOB:Hid (Below w.heap.size w W1):=by rw[hW1];exact((Below.refl _ _).alloc (Nat.le_refl _) _).alloc (by simp) _
 have m01:W1.cell? ⟨w.heap.size,1,none⟩=some (.slice A fs.length c):=by rw[hW1];simp
 have p0:W1.cell? ⟨w.heap.size+1,0,none⟩=some (.int .i64 f):=by rw[hW1];simp
 have p1:W1.cell? ⟨w.heap.size+1,1,none⟩=some (.int .i64 l):=by rw[hW1];simp
 have p2:W1.cell? ⟨w.heap.size+1,2,none⟩=some (.int .i64 i):=by rw[hW1];simp
 have HF:=Lib.hid hF
 clear hF
 go_enter Try.func66,Try.ntmps66
 go_upto_region 1 with fail
 rw[←hW1]
 clear hW1
 by_cases h:0≤f
 ·obtain⟨fn,rfl⟩:=Int.eq_ofNat_of_zero_le h
  clear h
  by_cases h:fn<fs.length
  ·have z1:(fn:Int)<(fs.length:Int):=by omega
   obtain⟨ad0,A0,c0,rfl,hc0,hl0,hr0⟩:=HF.out.at h
   have HR0:=Lib.hid hr0
   have k0:=pw_cell_below HOB.out hc0
   have hn0:=hr0.len
   clear hr0 hc0
   by_cases h2:0≤l
   ·obtain⟨ln,rfl⟩:=Int.eq_ofNat_of_zero_le h2
    clear h2
    by_cases h3:ln<(fcA fs fn).length
    ·have z2:(ln:Int)<((fcA fs fn).length:Int):=by omega
     obtain⟨ad1,A1,c1,rfl,hc1,hl1,hr1⟩:=HR0.out.atP h3
     have k1:=pw_cell_below HOB.out hc1
     have hn1:=hr1.len
     clear hr1 hc1
     by_cases h4:0≤i
     ·obtain⟨iN,rfl⟩:=Int.eq_ofNat_of_zero_le h4
      clear h4
      by_cases h5:iN<(lpA fs fn ln).length
      ·have HY:Hid (HasP fs fn ln iN):=⟨by omega,by omega,by omega,by simp only[Int.toNat_natCast];omega,by omega,by simp only[Int.toNat_natCast];omega⟩
       have d1:(iN:Int)<((lpA fs fn ln).length:Int):=by omega
       go_wp2_with fail
       go_quiet (fail)
       go_wp2
       go_ret
       exact⟨HasO.yes HY.out,HOB.out.trans ((Drawn0.below ⟨⟨_,rfl⟩⟩).mono HOB.out.size)⟩
      ·have HN:Hid (¬ HasP fs fn ln iN):=fun q=>by have:=q.2.2.2.2.2;simp only[Int.toNat_natCast] at this;omega
       have d1:decide ((iN:Int)<((lpA fs fn ln).length:Int))=false:=by simpa using h5
       have d2:decide (iN<(lpA fs fn ln).length)=false:=by simpa using h5
       go_wp2_with fail
       go_quiet (fail)
       go_wp2
       go_ret
       exact⟨HasO.no HN.out,HOB.out.trans ((Drawn0.below ⟨⟨_,rfl⟩⟩).mono HOB.out.size)⟩
     ·have HN:Hid (¬ HasP fs fn ln i):=fun q=>h4 q.2.2.2.2.1
      have d1:decide (i≥0)=false:=by simp;omega
      clear h4
      go_wp2_with fail
      go_quiet (fail)
      go_wp2
      go_ret
      exact⟨HasO.no HN.out,HOB.out.trans ((Drawn0.below ⟨⟨_,rfl⟩⟩).mono HOB.out.size)⟩
    ·have HN:Hid (¬ HasP fs fn ln i):=fun q=>by have:=q.2.2.2.1;simp only[Int.toNat_natCast] at this;omega
     have d1:decide ((ln:Int)<((fcA fs fn).length:Int))=false:=by simpa using h3
     have d2:decide (ln<(fcA fs fn).length)=false:=by simpa using h3
     go_wp2_with fail
     go_quiet (fail)
     go_wp2
     go_ret
     exact⟨HasO.no HN.out,HOB.out.trans ((Drawn0.below ⟨⟨_,rfl⟩⟩).mono HOB.out.size)⟩
   ·have HN:Hid (¬ HasP fs fn l i):=fun q=>h2 q.2.2.1
    have d1:decide (l≥0)=false:=by simp;omega
    clear h2
    go_wp2_with fail
    go_quiet (fail)
    go_wp2
    go_ret
    exact⟨HasO.no HN.out,HOB.out.trans ((Drawn0.below ⟨⟨_,rfl⟩⟩).mono HOB.out.size)⟩
  ·have HN:Hid (¬ HasP fs fn l i):=fun q=>by have:=q.2.1;omega
   have z1:¬ (fn:Int)<(fs.length:Int):=by omega
   have d1:decide ((fn:Int)<(fs.length:Int))=false:=by simpa using h
   have d2:decide (fn<fs.length)=false:=by simpa using h
   clear z1
   go_wp2_with fail
   go_quiet (fail)
   go_wp2
   go_ret
   exact⟨HasO.no HN.out,HOB.out.trans ((Drawn0.below ⟨⟨_,rfl⟩⟩).mono HOB.out.size)⟩
 ·have HN:Hid (¬ HasP fs f l i):=fun q=>h q.1
  have d1:decide (f≥0)=false:=by simp;omega
  clear h
  go_wp2_with fail
  go_quiet (fail)
  go_wp2
  go_ret
  exact⟨HasO.no HN.out,HOB.out.trans ((Drawn0.below ⟨⟨_,rfl⟩⟩).mono HOB.out.size)⟩
end Go.Proofs.Ytealnhaffphamaa

namespace Go.Proofs.Ytealnhaffphamaa
open Go.RowKit Go.Shelf Go.Proofs.YtealnhaffphamaaW.PrintWords
open Classical
noncomputable def doneE (N:Int) (fs:Fs):Except Int (Int × Fs):=if SizR N fs then .ok (N,fs) else .error 2
set_option maxRecDepth 100000 in
set_option maxHeartbeats 1000000 in
theorem done_any (N:Int) (A:Option Addr) (c:Nat) (fs:Fs) (w:World) (hF:RF w A fs) (hc:fs.length≤c) (hSm:Sm fs) :
  Calls Try.prog 62 #[.agg #[.int .i64 N,.slice A fs.length c]] w fun e w'=>(∃b:Bool,e=.returned (if b then .tuple #[.agg #[.int .i64 N,.slice A fs.length c],.int .i64 0] else .tuple #[.agg #[.int .i64 0,.slice none 0 0],.int .i64 2])∧(b=true↔SizR N fs))∧Below w.heap.size w w':=by
 obtain⟨W1,hW1⟩:∃W1,W1=(w.alloc (.cells #[.int .i64 N,.slice A fs.length c] 26)).alloc (.cells #[.int .i64 0,.slice none 0 0] 26):=⟨_,rfl⟩
 have HOB:Hid (Obs [.cells #[.int .i64 N,.slice A fs.length c] 26,.cells #[.int .i64 0,.slice none 0 0] 26] w W1):=by rw[hW1];exact Obs.two w _ _
 have HSZ:=Lib.hid (sizes_any N A c fs W1 (hF.below HOB.out.below) hSm)
 clear hF hSm hc
 go_enter Try.func62,Try.ntmps62
 go_upto_region 1 with fail
 rw[←hW1]
 clear hW1
 have m00:W1.cell? ⟨w.heap.size,0,none⟩=some (.int .i64 N):=HOB.out.cell 0 0 rfl rfl
 have m01:W1.cell? ⟨w.heap.size,1,none⟩=some (.slice A fs.length c):=HOB.out.cell 0 1 rfl rfl
 go_wp2_with fail
 ((with_reducible refine(HSZ.out).mono ?_);rintro e W2 ⟨⟨b,rfl,hb⟩,hbl⟩)
 have HOB2:=Lib.hid (HOB.out.call hbl)
 have HBI:=Lib.hid hb
 clear m00 m01 HSZ HOB hbl hb
 have m00:W2.cell? ⟨w.heap.size,0,none⟩=some (.int .i64 N):=HOB2.out.cell 0 0 rfl rfl
 have m01:W2.cell? ⟨w.heap.size,1,none⟩=some (.slice A fs.length c):=HOB2.out.cell 0 1 rfl rfl
 have m10:W2.cell? ⟨w.heap.size+1,0,none⟩=some (.int .i64 0):=HOB2.out.cell 1 0 rfl rfl
 have z10:W2.frozen? ⟨w.heap.size+1,0,none⟩=false:=HOB2.out.frz 1 0 rfl
 have m11:W2.cell? ⟨w.heap.size+1,1,none⟩=some (.slice none 0 0):=HOB2.out.cell 1 1 rfl rfl
 have z11:W2.frozen? ⟨w.heap.size+1,1,none⟩=false:=HOB2.out.frz 1 1 rfl
 cases b
 ·go_wp2
  obtain⟨hx,hxB⟩:=HOB2.out.ret 1 (.int .i64 0) (.slice none 0 0) rfl
  have e00:=(blk_cells hx).1 0 _ rfl
  have e01:=(blk_cells hx).1 1 _ rfl
  refine bodyPost_ret (v:=.tuple #[.agg #[.int .i64 0,.slice none 0 0],.int .i64 2]) (by simp[results,Try.f62,go_sem,e00,e01]) rfl ?_
  exact⟨⟨false,rfl,HBI.out⟩,hxB⟩
 ·go_wp2
  obtain⟨hx,hxB⟩:=HOB2.out.ret 1 (.int .i64 N) (.slice A fs.length c) rfl
  have e00:=(blk_cells hx).1 0 _ rfl
  have e01:=(blk_cells hx).1 1 _ rfl
  refine bodyPost_ret (v:=.tuple #[.agg #[.int .i64 N,.slice A fs.length c],.int .i64 0]) (by simp[results,Try.f62,go_sem,e00,e01]) rfl ?_
  exact⟨⟨true,rfl,by simpa using HBI.out⟩,hxB⟩
theorem opOut_done {base:Nat} {vf:Nat→Value} {vl:Nat→Nat→Value} {W:World} {N:Int} {fs:Fs} {A:Option Addr} {n c:Nat} {b:Bool} {e:Ending} {r:Except Int (Int × Fs)} (hr:r=doneE N fs) (hb:b=true↔SizR N fs) (h:MR base (.slice A n c) fs fs.length vf vl W)
  (he:e=.returned (if b then .tuple #[.agg #[.int .i64 N,.slice A n c],.int .i64 0] else .tuple #[.agg #[.int .i64 0,.slice none 0 0],.int .i64 2])):OpT r e W:=by
 subst hr
 obtain⟨A',c',e1,e2,e3⟩:=h.readsT
 injection e1 with ea en ec
 subst ea en ec
 unfold doneE
 cases b with
 | true=>
  rw[if_pos (hb.1 rfl)]
  exact⟨A,c,he,e2,e3⟩
 | false=>
  rw[if_neg (fun h=>by have:=hb.2 h;cases this)]
  exact he
set_option maxRecDepth 100000 in
set_option maxHeartbeats 1000000 in
theorem node_any (N:Int) (A:Option Addr) (c:Nat) (fs:Fs) (f l i:Nat) (w:World) (hF:RF w A fs) (hf:f<fs.length) (hl:l<(fcA fs f).length) (hi:i<(lpA fs f l).length) :
  Calls Try.prog 70 #[.agg #[.int .i64 N,.slice A fs.length c],.agg #[.int .i64 f,.int .i64 l,.int .i64 i]] w fun e w'=>e=.returned (.int .i64 ((lpA fs f l).getD i 0))∧Below w.heap.size w w':=by
 obtain⟨W1,hW1⟩:∃W1,W1=(w.alloc (.cells #[.int .i64 N,.slice A fs.length c] 26)).alloc (.cells #[.int .i64 f,.int .i64 l,.int .i64 i] 34):=⟨_,rfl⟩
 have HOB:Hid (Below w.heap.size w W1):=by rw[hW1];exact((Below.refl _ _).alloc (Nat.le_refl _) _).alloc (by simp) _
 have m01:W1.cell? ⟨w.heap.size,1,none⟩=some (.slice A fs.length c):=by rw[hW1];simp
 have p0:W1.cell? ⟨w.heap.size+1,0,none⟩=some (.int .i64 f):=by rw[hW1];simp
 have p1:W1.cell? ⟨w.heap.size+1,1,none⟩=some (.int .i64 l):=by rw[hW1];simp
 have p2:W1.cell? ⟨w.heap.size+1,2,none⟩=some (.int .i64 i):=by rw[hW1];simp
 obtain⟨ad0,A0,c0,rfl,hc0,hl0,hr0⟩:=hF.at hf
 obtain⟨ad1,A1,c1,rfl,hc1,hl1,hr1⟩:=hr0.atP hl
 obtain⟨ad2,rfl,hc2⟩:=hr1.at hi
 have k0:=pw_cell_below HOB.out hc0
 have k1:=pw_cell_below HOB.out hc1
 have k2:=pw_cell_below HOB.out hc2
 have z0:(f:Int)<(fs.length:Int):=by omega
 have z1:(l:Int)<((fcA fs f).length:Int):=by omega
 have z2:(i:Int)<((lpA fs f l).length:Int):=by omega
 generalize (lpA fs f l).getD i 0=z at k2 ⊢
 clear hF hc0 hl0 hr0 hc1 hl1 hr1 hc2
 go_enter Try.func70,Try.ntmps70
 go_upto_region 1 with fail
 rw[←hW1]
 clear hW1
 go_quiet (fail)
 go_wp2
 go_ret
 exact⟨rfl,HOB.out.trans ((Drawn0.below ⟨⟨_,rfl⟩⟩).mono HOB.out.size)⟩
theorem cpA_all (fs:Fs) {loops nodes:Nat} (h1:∀face∈fs,face.length≤loops) (h2:∀l∈fs.flatten,l.length≤nodes):cpA fs fs.length loops nodes=fs:=by
 unfold cpA
 rw[List.take_of_length_le (Nat.le_refl _)]
 conv=>rhs;rw[←List.map_id fs]
 refine List.map_congr_left (fun face hf=>?_)
 rw[List.take_of_length_le (h1 face hf)]
 conv=>rhs;rw[id,←List.map_id face]
 refine List.map_congr_left (fun l hl=>?_)
 rw[List.take_of_length_le (h2 l (List.mem_flatten.2 ⟨face,hf,hl⟩))];rfl
theorem cpA_right {N:Int} {fs:Fs} (h:RightP N fs) {loops nodes:Nat} (hl:400≤loops) (hn:2000≤nodes):cpA fs fs.length loops nodes=fs:=by
 have h1:=(whole_iff N fs).1 h.1
 refine cpA_all fs (fun face hf=>?_) (fun l hl2=>?_)
 ·have:=len_flatten_of_mem hf;omega
 ·have:=len_flatten_of_mem hl2;omega
theorem set_far {W:World} {b o:Nat} {x:Value} {p:Addr} {v:Value} (hne:b≠p.block) (h:W.cell? p=some v):(W.setCell ⟨b,o,none⟩ x).cell? p=some v:=by
 rw[World.cell?_setCell_far _ _ _ _ hne];exact h
theorem set_frz {W:World} {b o:Nat} {x:Value} {q:Addr} (h:W.frozen? ⟨b,o,none⟩=false):(W.setCell q x).frozen? ⟨b,o,none⟩=false:=by simpa using h
def clO (W:World) (p:Addr):Value:=(W.cell? p).getD undef
theorem clO_of {W:World} {p:Addr} {v:Value} (h:W.cell? p=some v):W.cell? p=some (clO W p):=by unfold clO;rw[h];rfl
theorem set_here {W:World} {p:Addr} {x v:Value} (h:W.cell? p=some v):(W.setCell p x).cell? p=some (clO (W.setCell p x) p):=clO_of (World.cell?_setCell_same W p x h)
theorem set_any {W:World} {b o o':Nat} {x v:Value} (h:W.cell? ⟨b,o',none⟩=some v):(W.setCell ⟨b,o,none⟩ x).cell? ⟨b,o',none⟩=some (clO (W.setCell ⟨b,o,none⟩ x) ⟨b,o',none⟩):=by
 by_cases e:o=o'
 ·subst e;exact set_here h
 ·exact clO_of ((World.cell?_setCell_other W _ _ _ (fun q=>e (by injection q))).trans h)
abbrev SOw (w:World) (N:Int) (A:Option Addr) (n c:Nat) (W:World):Prop:=W.cell? ⟨w.heap.size,0,none⟩=some (.int .i64 N)∧W.cell? ⟨w.heap.size,1,none⟩=some (.slice A n c)∧W.frozen? ⟨w.heap.size+1,0,none⟩=false∧W.frozen? ⟨w.heap.size+1,1,none⟩=false∧W.cell? ⟨w.heap.size+1,0,none⟩=some (clO W ⟨w.heap.size+1,0,none⟩)∧W.cell? ⟨w.heap.size+1,1,none⟩=some (clO W ⟨w.heap.size+1,1,none⟩)
set_option maxRecDepth 100000 in
set_option maxHeartbeats 2000000 in
theorem rown_right (N:Int) (A:Option Addr) (c:Nat) (fs:Fs) (w:World) (hF:RF w A fs) (hc:fs.length≤c) (hR:RightP N fs) :
  Calls Try.prog 60 #[.agg #[.int .i64 N,.slice A fs.length c]] w fun e w'=>(∃g cV vf vl,e=.returned (.agg #[.int .i64 N,.slice (some ⟨g,0,none⟩) fs.length cV])∧MW w.heap.size (.slice (some ⟨g,0,none⟩) fs.length cV) fs fs.length vf vl w'∧MD fs fs.length vl)∧Below w.heap.size w w':=by
 obtain⟨W1,hW1⟩:∃W1,W1=(w.alloc (.cells #[.int .i64 N,.slice A fs.length c] 26)).alloc (.cells #[.int .i64 0,.slice none 0 0] 26):=⟨_,rfl⟩
 have HOB:Hid (Obs [.cells #[.int .i64 N,.slice A fs.length c] 26,.cells #[.int .i64 0,.slice none 0 0] 26] w W1):=by rw[hW1];exact Obs.two w _ _
 have HE:Hid (∀W,Obs [.cells #[.int .i64 N,.slice A fs.length c] 26,.cells #[.int .i64 0,.slice none 0 0] 26] w W→SOw w N A fs.length c W):=fun W h=>⟨h.cell 0 0 rfl rfl,h.cell 0 1 rfl rfl,h.frz 1 0 rfl,h.frz 1 1 rfl,clO_of (h.cell 1 0 rfl rfl),clO_of (h.cell 1 1 rfl rfl)⟩
 have HKS:Hid (∀W u v,SOw w N A fs.length c W→SOw w N A fs.length c ((W.setCell ⟨w.heap.size+1,0,none⟩ u).setCell ⟨w.heap.size+1,1,none⟩ v)):=fun W u v h=>⟨set_far (by simp) (set_far (by simp) h.1),set_far (by simp) (set_far (by simp) h.2.1),set_frz (set_frz h.2.2.1),set_frz (set_frz h.2.2.2.1),set_any (set_any h.2.2.2.2.1),set_any (set_any h.2.2.2.2.2)⟩
 have HCY:Hid (∀W,Below w.heap.size w W→Calls Try.prog 12 #[.slice A fs.length c,.int .i64 fs.length,.int .i64 401,.int .i64 2001] W fun e w'=>(∃g cV vf vl,e=.returned (.slice (some ⟨g,0,none⟩) fs.length cV)∧MW W.heap.size (.slice (some ⟨g,0,none⟩) fs.length cV) fs fs.length vf vl w'∧MD fs fs.length vl)∧Below W.heap.size W w'):=fun W hb=>by
  have h:=copyD_any A c fs fs.length 401 2001 W (hF.below hb) hc (by have:=hR.fine.faces;omega) (by omega) (by omega)
  rw[cpA_right hR (by omega) (by omega)] at h
  refine h.mono ?_
  rintro e w' ⟨⟨v,vf,vl,rfl,hM,hD⟩,hb⟩
  obtain⟨g,cap,hv,_,_⟩:=hM.own.form (by have:=hR.1.2.2.1;omega)
  subst hv
  exact⟨⟨g,cap,vf,vl,rfl,hM,hD⟩,hb⟩
 clear hF hc hR
 go_enter Try.func60,Try.ntmps60
 go_upto_region 1 with fail
 rw[←hW1]
 clear hW1
 go_region_held3 (fun W=>W.cell? ⟨w.heap.size,0,none⟩=some (.int .i64 N)∧W.cell? ⟨w.heap.size,1,none⟩=some (.slice A fs.length c)∧W.frozen? ⟨w.heap.size+1,0,none⟩=false∧W.frozen? ⟨w.heap.size+1,1,none⟩=false∧W.cell? ⟨w.heap.size+1,0,none⟩=some (clO W ⟨w.heap.size+1,0,none⟩)∧W.cell? ⟨w.heap.size+1,1,none⟩=some (clO W ⟨w.heap.size+1,1,none⟩)) ((first | (with_reducible exact HKS.out _ _ _ (by assumption)) | (with_reducible exact HE.out _ ((HOB.out.grown (grown_drew _)).call hb1)) | (with_reducible exact HE.out _ (HOB.out.grown (grown_drew _))))) ((go_at_call 12;(with_reducible refine(HCY.out _ ((HOB.out.grown (grown_drew _)).below)).mono ?_);rintro e W2 ⟨⟨g,cV,vf,vl,rfl,hM,hD⟩,hb1⟩))
 have hob:=(HOB.out.grown (grown_drew _)).call hb1
 obtain⟨hx,hxB⟩:=hob.ret 1 (.int .i64 N) (.slice (some ⟨g,0,none⟩) fs.length cV) rfl
 have e00:=(blk_cells hx).1 0 _ rfl
 have e01:=(blk_cells hx).1 1 _ rfl
 have hsz:=HOB.out.size
 have HM:=Lib.hid ((hM.back (r:=w.heap.size+1) (by simp at hsz ⊢;omega) (.int .i64 N) (.slice (some ⟨g,0,none⟩) fs.length cV)).lower (base':=w.heap.size) (by simp at hsz ⊢;omega))
 have HD:=Lib.hid hD
 have HXB:=Lib.hid hxB
 clear hM hD hxB hob hb1 HE HKS HCY hsz
 go_wp2
 refine bodyPost_ret (v:=.agg #[.int .i64 N,.slice (some ⟨g,0,none⟩) fs.length cV]) (by simp[results,Try.f60,go_sem,e00,e01]) rfl ?_
 exact⟨⟨g,cV,vf,vl,rfl,HM.out,HD.out⟩,HXB.out⟩
theorem own_slice3 {w:World} {base n:Nat} {e:TypeId} {size:Nat} {v:Value} {xs:List Value} (h:w.ownsRow base e size v n xs):∃A m c,v=.slice A m c:=by
 obtain⟨A,c,e⟩:=own_slice h
 exact⟨A,n,c,e⟩
theorem LR.slice3 {w:World} {v:Value} {xs:List Int} (h:LR w v xs):∃A m c,v=.slice A m c:=by
 obtain⟨A,c,e,_⟩:=h
 exact⟨A,_,c,e⟩
abbrev MOD:TypeId:=26
structure RWt (ty:TypeId) (os:List Obj) (w:World) (B O g cV:Nat) (N:Int) (fs:Fs) (vf:Nat→Value) (vl:Nat→Nat→Value) (W:World):Prop where
 obs:Obs os w W
 out:Blk W O (.cells #[.int .i64 N,.slice (some ⟨g,0,none⟩) fs.length cV] ty)
 mw:MW B (.slice (some ⟨g,0,none⟩) fs.length cV) fs fs.length vf vl W
 low:w.heap.size+os.length≤B∧B≤O
 top:∀r,MB (.slice (some ⟨g,0,none⟩) fs.length cV) fs fs.length vf vl r→r<O
structure ROt (ty:TypeId) (os:List Obj) (w:World) (B O:Nat) (N:Int) (v:Value) (fs:Fs) (W:World):Prop where
 obs:Obs os w W
 out:Blk W O (.cells #[.int .i64 N,v] ty)
 mr:∃vf vl,MR B v fs fs.length vf vl W
 low:w.heap.size+os.length≤B∧B≤O
abbrev RW:=RWt 26
abbrev RO:=ROt 26
class MdT (ty:TypeId):Prop where
 ne:ty≠3∧ty≠37∧ty≠36
instance:MdT 26:=⟨by decide⟩
instance:MdT 30:=⟨by decide⟩
section
variable {ty:TypeId} {os:List Obj} {w W W':World} {B O g cV:Nat} {N:Int} {fs gs:Fs} {vf:Nat→Value} {vl:Nat→Nat→Value} {v:Value} {row:Option Nat}
theorem RWt.kept (h:RWt ty os w B O g cV N fs vf vl W) (hg:W.grownBy W' row) (hr:∀b,row=some b→O<b):RWt ty os w B O g cV N fs vf vl W':=
 ⟨h.obs.kept hg (fun k e=>by have:=hr k e;have:=h.low;omega),h.out.kept hg (fun e=>by have:=hr _ e.symm;omega),h.mw.kept hg (fun r e q=>by have:=hr r e;have:=h.top r q;omega),h.low,h.top⟩
theorem RWt.grown (h:RWt ty os w B O g cV N fs vf vl W) (hg:W.grownBy W' none):RWt ty os w B O g cV N fs vf vl W':=h.kept hg (fun b e=>by cases e)
theorem RWt.call (h:RWt ty os w B O g cV N fs vf vl W) (hb:Below W.heap.size W W'):RWt ty os w B O g cV N fs vf vl W':=h.grown (grown_of_below hb none)
theorem RWt.size (h:RWt ty os w B O g cV N fs vf vl W):O<W.heap.size:=h.out.lt
theorem RWt.o1 (h:RWt ty os w B O g cV N fs vf vl W):W.cell? ⟨O,1,none⟩=some (.slice (some ⟨g,0,none⟩) fs.length cV):=(blk_cells h.out).1 1 _ rfl
theorem RWt.face (h:RWt ty os w B O g cV N fs vf vl W) {f:Nat} (hf:f<fs.length):W.cell? ⟨g,f,none⟩=some (vf f):=by
 have q0:=World.ownsRow.cellAt h.mw.own f (by omega)
 rw[List.getElem?_map,List.getElem?_range hf] at q0
 exact q0
theorem RWt.loop (h:RWt ty os w B O g cV N fs vf vl W) {f l g1 c1:Nat} (hf:f<fs.length) (hl:l<(fcA fs f).length) (hv:vf f=.slice (some ⟨g1,0,none⟩) (fcA fs f).length c1):W.cell? ⟨g1,l,none⟩=some (vl f l):=by
 have h1:=(h.mw.face f hf).own
 rw[hv] at h1
 have q0:=World.ownsRow.cellAt h1 l (by omega)
 rw[List.getElem?_map,List.getElem?_range hl] at q0
 exact q0
theorem RWt.form (h:RWt ty os w B O g cV N fs vf vl W) {f:Nat} (hf:f<fs.length) (h0:0<(fcA fs f).length):∃g1 c1,vf f=.slice (some ⟨g1,0,none⟩) (fcA fs f).length c1∧(fcA fs f).length≤c1:=by
 obtain⟨g1,c1,e,_,_⟩:=(h.mw.face f hf).own.form h0
 have h1:=(h.mw.face f hf).own
 rw[e] at h1
 exact⟨g1,c1,e,own_le h1⟩
theorem RWt.put (h:RWt ty os w B O g cV N fs vf vl W) {f l g1 c1:Nat} (hf:f<fs.length) (hl:l<(fcA fs f).length) (hv:vf f=.slice (some ⟨g1,0,none⟩) (fcA fs f).length c1) {u:Value} {x:List Int} (hu:LR W u x) :
  ROt ty os w B O N (.slice (some ⟨g,0,none⟩) fs.length cV) (setL fs f l x) (W.setCell ⟨g1,l,none⟩ u):=by
 have hg:=grown_set W g1 l u
 have hM:MB (.slice (some ⟨g,0,none⟩) fs.length cV) fs fs.length vf vl g1:=.inr ⟨f,hf,.inl (by rw[hv];rfl)⟩
 have h1:=h.top _ hM
 have h2:=(h.mw.lt hM).1
 exact⟨h.obs.kept hg (fun k e=>by cases e;have:=h.low;omega),h.out.kept hg (fun e=>by injection e with e;omega),⟨_,_,(MR.of h.mw).put hf hl hu hv⟩,h.low⟩
theorem ROt.grown (h:ROt ty os w B O N v fs W) (hg:W.grownBy W' none):ROt ty os w B O N v fs W':=by
 obtain⟨vf,vl,hm⟩:=h.mr
 exact⟨h.obs.grown hg,h.out.kept hg (by simp),⟨vf,vl,hm.grown hg⟩,h.low⟩
theorem ROt.call (h:ROt ty os w B O N v fs W) (hb:Below W.heap.size W W'):ROt ty os w B O N v fs W':=h.grown (grown_of_below hb none)
theorem ROt.setN [MdT ty] (h:ROt ty os w B O N v fs W) (M:Int):ROt ty os w B O M v fs (W.setCell ⟨O,0,none⟩ (.int .i64 M)):=by
 obtain⟨vf,vl,hm⟩:=h.mr
 exact⟨h.obs.kept (grown_set _ _ _ _) (fun k e=>by cases e;have:=h.low;omega),blk_set (o:=0) (x:=.int .i64 M) h.out,⟨vf,vl,hm.set h.out MdT.ne.1 MdT.ne.2.1 MdT.ne.2.2 _ _⟩,h.low⟩
theorem ROt.setF [MdT ty] (h:ROt ty os w B O N v fs W) {u:Value} (hu:∃vf vl,MR B u gs gs.length vf vl W):ROt ty os w B O N u gs (W.setCell ⟨O,1,none⟩ u):=by
 obtain⟨vf,vl,hm⟩:=hu
 exact⟨h.obs.kept (grown_set _ _ _ _) (fun k e=>by cases e;have:=h.low;omega),blk_set (o:=1) (x:=u) h.out,⟨vf,vl,hm.set h.out MdT.ne.1 MdT.ne.2.1 MdT.ne.2.2 _ _⟩,h.low⟩
theorem ROt.reads (h:ROt ty os w B O N v fs W):∃A c,v=.slice A fs.length c∧fs.length≤c∧RF W A fs:=by
 obtain⟨vf,vl,hm⟩:=h.mr
 exact hm.reads
theorem ROt.done (h:ROt 26 os w B O N v fs W) (i:Nat) {cs:Array Value} (ho:os[i]?=some (.cells cs 26)) (x y:Value) {b:Bool} {e:Ending} {R:Except Int (Int × Fs)} (hR:R=doneE N fs) (hb:b=true↔SizR N fs)
  (he:e=.returned (if b then .tuple #[.agg #[.int .i64 N,v],.int .i64 0] else .tuple #[.agg #[.int .i64 0,.slice none 0 0],.int .i64 2])):OpT R e ((W.setCell ⟨w.heap.size+i,0,none⟩ x).setCell ⟨w.heap.size+i,1,none⟩ y):=by
 obtain⟨vf,vl,hm⟩:=h.mr
 obtain⟨A,c,rfl,_,_⟩:=hm.reads
 have h1:=hm.set (h.obs.blk i _ ho) (by decide) (by decide) (by decide) 0 x
 exact opOut_done hR hb (h1.set (blk_set (o:=0) (x:=x) (h.obs.blk i _ ho)) (by decide) (by decide) (by decide) 1 y) he
theorem ROt.calls (h:ROt 26 os w B O N v fs W) (hSm:Sm fs):Calls Try.prog 62 #[.agg #[.int .i64 N,v]] W fun e w'=>(∃b:Bool,e=.returned (if b then .tuple #[.agg #[.int .i64 N,v],.int .i64 0] else .tuple #[.agg #[.int .i64 0,.slice none 0 0],.int .i64 2])∧(b=true↔SizR N fs))∧Below W.heap.size W w':=by
 obtain⟨A,c,rfl,hc,hF⟩:=h.reads
 exact done_any N A c fs W hF hc hSm
end
end Go.Proofs.Ytealnhaffphamaa
