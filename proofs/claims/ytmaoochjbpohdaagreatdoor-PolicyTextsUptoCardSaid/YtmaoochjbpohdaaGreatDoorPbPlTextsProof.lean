/- suffragan/suffraganlaw12.PolicyTexts: the given statement, out of the contract of its walk. Of what reads up to the bound. -/
import Derived.Test.YtmaoochjbpohdaaGreatDoorPbP
import Derived.Deep.Upon
import Derived.Deep.AppendSrc
import Derived.SizedLaws
import Derived.ShutString
import Derived.ChangeOld
import Derived.SliceStrings
import Derived.Deep.Slices
import Derived.OpenShut
set_option linter.unusedVariables false
set_option linter.unusedSimpArgs false
set_option maxRecDepth 100000
set_option maxHeartbeats 1000000
namespace Go.Proofs.YtmaoochjbpohdaaGreatDoor.Pl
open Go.ChangeShapes Go.WideShapes Go.ChangeAt Go.RowKit
open Base Lx Mi Pr Rv Cn
theorem run_cutZ {P:Program} {t e:TypeId} {s:Nat} (ht:P.underlying t=some (.slice e)) (he:(P.info? e).map (·.size)=some s) (w:World) (A:Option Addr) (n c k:Nat) (hk:k≤c) :
  (Instr.sliceAt t (.slice A n c) none (some (.int .i64 (k:Int))) none).run P w=.ok (.slice A k c) w:=by
 have h2:(0:Int)≤(k:Int)∧(k:Int)≤(c:Int):=by omega
 cases hq:P.info? e with
 | none=>simp[hq] at he
 | some i=>
  have hA:A.map (fun a=>a.add 0)=A:=by cases A<;>simp[Addr.add]
  simp[Instr.sliceAt,Instr.slice,Instr.sliceBounds,Instr.sliceBound,run_underlying ht,asIntOf,h2,sizeOf,typeInfo,hq,go_sem,hA,hk]
theorem holdsA_no {p:Int} {l:List Ns} {i:Nat} (h:holdsA p l i=false):∀m,i≤m→holdsA p l m=false
 | 0,hm=>by
  obtain rfl:i=0:=by omega
  exact h
 | m+1,hm=>by
  by_cases e:i=m+1
  ·subst e;exact h
  ·have:=holdsA_no h m (by omega)
   unfold holdsA
   rw[this];rfl
theorem holdsA_step {p:Int} {L:List (Value×Ns)} {i:Nat} {x:Value×Ns} (hx:L[i]?=some x) (h:holdsA p (L.map (·.2)) i=true):holdsA p (L.map (·.2)) (i+1)=nextP p ((L.take i).map (·.2)) x.2:=by
 have e1:(L.map (·.2)).getD i []=x.2:=by rw[List.getD,List.getElem?_map,hx];rfl
 rw[show holdsA p (L.map (·.2)) (i+1)=(holdsA p (L.map (·.2)) i && nextP p ((L.map (·.2)).take i) ((L.map (·.2)).getD i [])) from rfl,h,e1,←List.map_take]
 simp
theorem holds_any (p:Int) (hp:polP p=true) (A:Option Addr) (n c:Nat) (L:List (Value×Ns)) (w:World) (hr:Rd w A (schZ L)) (hn:L.length=n) (hnc:n≤c) (hcm:c≤maxLen) (hA:A=none→c=0) (hl:n≤100000) (hS:∀x∈L,SchOk w x) (hwd:Wd w) (hpow:Pow w) :
  Calls Tryz.prog 54 #[.int .i64 p,.slice A n c] w fun en w'=>en=.returned (.bool (holdsP p (L.map (·.2))))∧Ext w w':=by
 have hfin:∀v,holdsA p (L.map (·.2)) n=v→holdsP p (L.map (·.2))=v:=fun v h=>by unfold holdsP;rw[List.length_map,hn];exact h
 obtain⟨PO,hPO⟩:∃PO:Ending→World→Prop,Hid ((fun en w'=>en=.returned (.bool (holdsP p (L.map (·.2))))∧Ext w w')=PO):=⟨_,Lib.hid rfl⟩
 have fin:∀v W,Ext w W→holdsA p (L.map (·.2)) n=v→PO (.returned (.bool v)) W:=fun v W hW h=>by rw[←hPO.out];exact⟨by rw[hfin v h],hW⟩
 rw[hPO.out]
 clear hfin
 replace fin:=Lib.hid fin
 have hnx:=fun i x W (hi:i<n) (hx:L[i]?=some x) (hW:Ext w W)=>next_any p hp A i c (L.take i) x W ((by have:=hr.take i;rwa [show (schZ L).take i=schZ (L.take i) by simp[schZ,List.map_take]] at this:Rd w A (schZ (L.take i))).ext hW) (by rw[List.length_take];omega) (by omega) hcm hA (by omega) (fun y hy=>(hS y (List.mem_of_mem_take hy)).ext hW) ((hS x (List.mem_of_getElem? hx)).ext hW) (hwd.ext hW) (hpow.ext hW)
 replace hnx:=Lib.hid hnx
 have hcut:∀i:Nat,i<n→∀W,(Instr.sliceAt 77 (.slice A n c) none (some (.int .i64 (i:Int))) none).run Tryz.prog W=.ok (.slice A i c) W:=fun i hi W=>
  run_cutZ (P:=Tryz.prog) (t:=77) (e:=24) (s:=1) Tryz.underlying77 (by kernel_rfl) W A n c i (by omega)
 replace hcut:=Lib.hid hcut
 have hsl:∀x∈L,∃A' n' c',x.1=.slice A' n' c':=fun x hx=>Rv.Sch.slice (hS x hx).sch
 replace hsl:=Lib.hid hsl
 have Hn:=Lib.hid hn
 clear hn hnc hcm hA hS
 go_enter Tryz.func54,Tryz.ntmps54
 go_wp2_with fail
 go_loopw [5,6,9,10,11,12,13,14,15,16,17,18,19,20,21] (fun v5 v6 v9 v10 v11 v12 v13 v14 v15 v16 v17 v18 v19 v20 v21 wr=>∃i:Nat,i≤n∧v9=.int .i64 (i:Int)∧holdsA p (L.map (·.2)) i=true∧Ext w wr) (fun _ _ v9 _ _ _ _ _ _ _ _ _ _ _ _ _=>n-(intOf v9).toNat)
 case atStart=>exact⟨0,Nat.zero_le _,rfl,rfl,Ext.refl w⟩
 case round=>
  obtain⟨i,hi,rfl,h1,hx⟩:=hrel
  by_cases hin:i<n
  ·have hin':(i:Int)<(n:Int):=by omega
   obtain⟨x,hme⟩:∃m,L[i]?=some m:=⟨_,List.getElem?_eq_getElem (by have:=Hn.out;omega)⟩
   obtain⟨b,off,rfl,hzz,hc⟩:=(hr.ext hx).at_ (k:=i) (by simp only[schZ,List.length_map];have:=Hn.out;omega)
   clear hzz
   have hck:wr.cell? ⟨b,off+i,none⟩=some x.1:=hc i _ (by simp[schZ,hme])
   clear hc
   obtain⟨A',n',c',ex⟩:=hsl.out x (List.mem_of_getElem? hme)
   have hst:=holdsA_step hme h1
   have hcc:=fun W (hW:Ext w W)=>hnx.out i x W hin hme hW
   rw[ex] at hck
   simp only[ex] at hcc
   obtain⟨v,hv⟩:∃z,Hid (nextP p ((L.take i).map (·.2)) x.2=z):=⟨_,rfl⟩
   simp only[hv.out] at hcc hst
   clear ex hv hme x
   replace hcc:=Lib.hid hcc
   replace hst:=Lib.hid hst
   have hct:=hcut.out i hin
   have hxa:Ext wr (wr.alloc (.cells #[.slice A' n' c'] 24)):=(Ext.refl wr).alloc _
   have e6:∀W,Ext (wr.alloc (.cells #[.slice A' n' c'] 24)) W→W.cell? ⟨wr.heap.size,0,none⟩=some (.slice A' n' c'):=fun W hW=>by
    have:=((Blk.new wr #[.slice A' n' c'] 24).ext hW).cell 0;simpa using this
   cases v with
   | true=>
    go_wp2_with fail
    refine Reg.startE (by kernel_rfl) ?_
    iterate 5 ((first|refine Reg.tn ?_|refine Reg.sn ?_);(try simp only[Reg.nn]))
    refine Reg.onlyE 5 _ rfl (by kernel_rfl) (by decide) (by rfl) (fun W hW K hK=>?_);go_simp
    refine (hcc.out W (hx.trans (hxa.trans hW))).mono ?_
    rintro en wX ⟨rfl,hX9⟩
    have hq9:=hxa.trans (hW.trans hX9)
    refine hK.out _ _ (hX9) ?_;clear hK K;(try simp only[Reg.nn])
    iterate 1 ((first|refine Reg.tn ?_|refine Reg.sn ?_);(try simp only[Reg.nn]))
    refine Reg.fin (by kernel_rfl) (fun W hW=>?_)
    replace hW:=hq9.trans hW
    go_wp2_with fail
    go_roundw
    case rel=>exact⟨i+1,by omega,by go_num,hst.out,hx.trans hW⟩
    case measure=>simp[intOf]<;>omega
   | false=>
    go_wp2_with fail
    refine Reg.startE (by kernel_rfl) ?_
    iterate 5 ((first|refine Reg.tn ?_|refine Reg.sn ?_);(try simp only[Reg.nn]))
    refine Reg.onlyE 5 _ rfl (by kernel_rfl) (by decide) (by rfl) (fun W hW K hK=>?_);go_simp
    refine (hcc.out W (hx.trans (hxa.trans hW))).mono ?_
    rintro en wX ⟨rfl,hX9⟩
    have hq9:=hxa.trans (hW.trans hX9)
    refine hK.out _ _ (hX9) ?_;clear hK K;(try simp only[Reg.nn])
    iterate 1 ((first|refine Reg.tn ?_|refine Reg.sn ?_);(try simp only[Reg.nn]))
    refine Reg.fin (by kernel_rfl) (fun W hW=>?_)
    have hf:=fin.out false W (hx.trans (hq9.trans hW)) (holdsA_no hst.out n (by omega))
    go_wp2_with fail
    exact hf
  ·obtain rfl:i=n:=by omega
   have hf:=fin.out true wr hx h1
   clear h1
   go_wp2_with fail
   exact hf
theorem isP_ok {s:ByteArray} (h:isP s=true):(parseP s).2.2=0:=by
 unfold isP formP at h
 simp only[Bool.and_eq_true,decide_eq_true_eq] at h
 by_cases h0:(parseP s).2.2=0
 ·exact h0
 ·rw[if_neg h0] at h;exact absurd h.1 h0
theorem schP_of {s:ByteArray} (h:isP s=true):schP s=(parseP s).1.map Nd.toE:=by unfold schP;rw[if_pos h]
theorem schP_len {s:ByteArray} (h:isP s=true):showLen (schP s)≤100000000:=by
 obtain⟨t,_,_,_,_,h5⟩:=back_plain' s (isP_ok h)
 rw[schP_of h];exact h5
theorem nd_ok {w:World} {v:Value} {s:ByteArray} (hs:isP s=true) (h:NdOk w (v,(parseP s).1)):SchOk w (v,schP s):=by
 obtain⟨B,vs,h⟩:=h
 exact⟨by show Sch w.heap.size w v (schP s);rw[schP_of hs];exact Sch.ofNds h (Nat.le_refl _) (parse_rng s),schP_len hs⟩
theorem schs_read {q:Nat} {w:World} {V:Value} {L:List (Value×List Nd)} {l:List ByteArray} (ho:w.ownsRow q 24 1 V l.length (L.map (·.1))) (hl:L.map (·.2)=l.map fun s=>(parseP s).1) (hk:∀x∈L,NdOk w x) (ha:l.all isP=true) :
  ∃A c L2,V=.slice A l.length c∧Rd w A (schZ L2)∧L2.length=l.length∧l.length≤c∧c≤maxLen∧(A=none→c=0)∧L2.map (·.2)=l.map schP∧∀x∈L2,SchOk w x:=by
 obtain⟨A,c,h1,h2,h3,h4,h5⟩:=Rd.of_own ho
 have hlen:L.length=l.length:=by have:=congrArg List.length hl;simpa using this
 have hA:A=none→c=0:=fun ha'=>by
  rcases ho.2 with⟨e2,_⟩|⟨g,cap,cur,e2,_⟩
  ·rw[h1] at e2;injection e2
  ·rw[h1,ha'] at e2;injection e2 with e2;cases e2
 refine⟨A,c,L.map fun x=>(x.1,x.2.map Nd.toE),h1,?_,by simpa using hlen,by first|exact h2|exact h3|exact h4,by first|exact h3|exact h4|exact h5,hA,?_,?_⟩
 ·have e:schZ (L.map fun x=>(x.1,x.2.map Nd.toE))=L.map (·.1):=by simp[schZ,Function.comp_def]
  rw[e]
  first|exact h2|exact h3|exact h4|exact h5
 ·have e:(L.map fun x=>(x.1,x.2.map Nd.toE)).map (·.2)=(L.map (·.2)).map (·.map Nd.toE):=by simp[Function.comp_def]
  rw[e,hl,List.map_map]
  refine List.map_congr_left fun s hs=>?_
  exact (schP_of (List.all_eq_true.1 ha s hs)).symm
 ·intro x hx
  obtain⟨y,hy,rfl⟩:=List.mem_map.1 hx
  have:y.2∈l.map fun s=>(parseP s).1:=by rw[←hl];exact List.mem_map.2 ⟨y,hy,rfl⟩
  obtain⟨s,hs,e⟩:=List.mem_map.1 this
  have hi:=List.all_eq_true.1 ha s hs
  have h6:=hk y hy
  obtain⟨y1,y2⟩:=y
  simp only at e
  subst e
  have h7:=nd_ok hi h6
  rw[schP_of hi] at h7
  exact h7
theorem Holds_any (p:Int) (A:Option Addr) (n c:Nat) (l:List ByteArray) (w:World) (hr:Rd w A (txs l)) (hn:l.length=n) (hl:n≤100000) (hz:∀s∈l,s.size≤140737488351232) (hwd:Wd w) (hpow:Pow w) :
  Calls Tryz.prog 26 #[.int .i64 p,.slice A n c] w fun en w'=>en=.returned (.bool (HoldsT p l))∧Ext w w':=by
 have hc:=schemas_any A n c l w hr hn hl hz hwd hpow
 obtain⟨PO,hPO⟩:∃PO:Ending→World→Prop,Hid ((fun en w'=>en=.returned (.bool (HoldsT p l))∧Ext w w')=PO):=⟨_,Lib.hid rfl⟩
 have fin:∀v W,Ext w W→HoldsT p l=v→PO (.returned (.bool v)) W:=fun v W hW h=>by rw[←hPO.out,h];exact⟨rfl,hW⟩
 rw[hPO.out]
 unfold HoldsT at fin
 replace fin:=Lib.hid fin
 clear hz hr
 have Hn:=Lib.hid hn
 clear hn
 go_enter Tryz.func26,Tryz.ntmps26
 go_wp2_with fail
 refine hc.mono ?_
 rintro en w2 ⟨hv,hx2⟩
 clear hc
 rcases hv with⟨ha,V,L,rfl,ho,hL,hk⟩|⟨ha,rfl⟩
 ·obtain⟨A',c',L2,rfl,g1,g2,g3,g4,g5,g6,g7⟩:=schs_read ho hL hk ha
  rw[Hn.out] at g2 g3 ⊢
  clear ho hL hk L
  have hi:=is_any p w2
  cases hp:polP p with
  | false=>
   rw[hp] at hi
   have hf:=fun W (hW:Ext w2 W)=>fin.out false W (hx2.trans hW) (by rw[hp];simp)
   replace hf:=Lib.hid hf
   clear hp g1 g2 g3 g4 g5 g6 g7
   go_wp2_with fail
   refine hi.mono ?_
   rintro en w3 ⟨rfl,hx3⟩
   have hff:=hf.out w3 hx3
   go_wp2_with fail
   exact hff
  | true=>
   rw[hp] at hi
   have hh:=fun W (hW:Ext w2 W)=>holds_any p hp A' n c' L2 W (g1.ext hW) g2 g3 g4 g5 hl (fun x hx=>(g7 x hx).ext hW) (hwd.ext (hx2.trans hW)) (hpow.ext (hx2.trans hW))
   rw[g6] at hh
   obtain⟨v,hv⟩:∃z,Hid (holdsP p (l.map schP)=z):=⟨_,rfl⟩
   simp only[hv.out] at hh
   have hf:=fun W (hW:Ext w2 W)=>fin.out v W (hx2.trans hW) (by rw[hp,ha,hv.out];simp)
   replace hf:=Lib.hid hf
   replace hh:=Lib.hid hh
   clear hp g1 g2 g3 g4 g5 g6 g7 ha
   go_wp2_with fail
   refine hi.mono ?_
   rintro en w3 ⟨rfl,hx3⟩
   have hh3:=hh.out w3 hx3
   clear hi
   go_wp2_with fail
   refine hh3.mono ?_
   rintro en w4 ⟨rfl,hx4⟩
   have hff:=hf.out w4 (hx3.trans hx4)
   go_wp2_with fail
   exact hff
 ·have hf:=fin.out false w2 hx2 (by rw[ha];simp)
  clear ha
  go_wp2_with fail
  exact hf
theorem Next_any (p:Int) (A:Option Addr) (n c:Nat) (l:List ByteArray) (s:ByteArray) (w:World) (hr:Rd w A (txs l)) (hn:l.length=n) (hl:n≤100000) (hz:∀s∈l,s.size≤140737488351232) (hs:s.size≤140737488351232) (hwd:Wd w) (hpow:Pow w) :
  Calls Tryz.prog 29 #[.int .i64 p,.slice A n c,.string s] w fun en w'=>en=.returned (.bool (NextT p l s))∧Ext w w':=by
 have hc:=schemas_any A n c l w hr hn hl hz hwd hpow
 have hsc:=fun W (hW:Ext w W)=>Schema_any s hs W (hwd.ext hW) (hpow.ext hW)
 obtain⟨PO,hPO⟩:∃PO:Ending→World→Prop,Hid ((fun en w'=>en=.returned (.bool (NextT p l s))∧Ext w w')=PO):=⟨_,Lib.hid rfl⟩
 have fin:∀v W,Ext w W→NextT p l s=v→PO (.returned (.bool v)) W:=fun v W hW h=>by rw[←hPO.out,h];exact⟨rfl,hW⟩
 rw[hPO.out]
 unfold NextT at fin
 replace fin:=Lib.hid fin
 clear hz hr
 have Hn:=Lib.hid hn
 clear hn
 replace hsc:=Lib.hid hsc
 go_enter Tryz.func29,Tryz.ntmps29
 go_wp2_with fail
 refine hc.mono ?_
 rintro en w2 ⟨hv,hx2⟩
 have hs2:=hsc.out w2 hx2
 clear hc hsc
 obtain⟨b,hb⟩:∃z,Hid (isP s=z):=⟨_,rfl⟩
 rw[hb.out] at hs2
 rcases hv with⟨ha,V,L,rfl,ho,hL,hk⟩|⟨ha,rfl⟩
 ·obtain⟨A',c',L2,rfl,g1,g2,g3,g4,g5,g6,g7⟩:=schs_read ho hL hk ha
  rw[Hn.out] at g2 g3 ⊢
  clear ho hL hk L
  have hrow:(∀x∈L2,SchOk w2 x)∧Rd w2 A' (schZ L2)∧L2.length=n∧n≤c'∧c'≤maxLen∧(A'=none→c'=0)∧L2.map (·.2)=l.map schP:=⟨g7,g1,g2,g3,g4,g5,g6⟩
  replace hrow:=Lib.hid hrow
  replace ha:=Lib.hid ha
  clear g1 g2 g3 g4 g5 g6 g7
  go_wp2_with fail
  refine hs2.mono ?_
  rintro en w3 ⟨vy,rfl,hSy,hx3⟩
  obtain⟨A3,n3,c3,rfl⟩:=Rv.Sch.slice hSy
  clear hs2
  obtain⟨w4,hw4⟩:∃z,Hid (w3.alloc (.cells #[.slice A3 n3 c3] 24)=z):=⟨_,rfl⟩
  have hx4:Ext w3 w4:=by rw[←hw4.out];exact (Ext.refl w3).alloc _
  obtain⟨q9,hq9⟩:∃z,Hid (w3.heap.size=z):=⟨_,rfl⟩
  have b9:Blk w4 q9 #[.slice A3 n3 c3] 24:=by rw[←hq9.out,←hw4.out];exact Blk.new w3 _ _
  have e9:∀W,Ext w4 W→W.cell? ⟨q9,0,none⟩=some (.slice A3 n3 c3):=fun W hW=>by have:=(b9.ext hW).cell 0;simpa using this
  replace e9:=Lib.hid e9
  have hx24:=hx3.trans hx4
  clear b9
  cases b with
  | false=>
   have hf:=fin.out false w4 (hx2.trans hx24) (by rw[hb.out];simp)
   clear hSy
   go_wp2_with fail
   rw[hw4.out]
   exact hf
  | true=>
   have hSy':Hid (SchOk w4 (.slice A3 n3 c3,schP s)):=Lib.hid ⟨(hSy.below hx4).mono hx4.size,schP_len hb.out⟩
   clear hSy
   have hi:=is_any p w4
   cases hp:polP p with
   | false=>
    rw[hp] at hi
    have hf:=fun W (hW:Ext w4 W)=>fin.out false W (hx2.trans (hx24.trans hW)) (by rw[hp];simp)
    replace hf:=Lib.hid hf
    clear hp
    go_wp2_with fail
    rw[hw4.out]
    refine hi.mono ?_
    rintro en w5 ⟨rfl,hx5⟩
    have hff:=hf.out w5 hx5
    go_wp2_with fail
    exact hff
   | true=>
    rw[hp] at hi
    have hh:=fun W (hW:Ext w4 W)=>next_any p hp A' n c' L2 (.slice A3 n3 c3,schP s) W (hrow.out.2.1.ext (hx24.trans hW)) hrow.out.2.2.1 hrow.out.2.2.2.1 hrow.out.2.2.2.2.1 hrow.out.2.2.2.2.2.1 hl (fun x hx=>(hrow.out.1 x hx).ext (hx24.trans hW)) (hSy'.out.ext hW) (hwd.ext (hx2.trans (hx24.trans hW))) (hpow.ext (hx2.trans (hx24.trans hW)))
    rw[hrow.out.2.2.2.2.2.2] at hh
    obtain⟨v,hv⟩:∃z,Hid (nextP p (l.map schP) (schP s)=z):=⟨_,rfl⟩
    simp only[hv.out] at hh
    have hf:=fun W (hW:Ext w4 W)=>fin.out v W (hx2.trans (hx24.trans hW)) (by rw[hp,ha.out,hb.out,hv.out];simp)
    replace hf:=Lib.hid hf
    replace hh:=Lib.hid hh
    clear hp hSy' hrow ha
    go_wp2_with fail
    rw[hw4.out,hq9.out]
    refine hi.mono ?_
    rintro en w5 ⟨rfl,hx5⟩
    have hh5:=hh.out w5 hx5
    have e95:=e9.out w5 hx5
    clear hi
    go_wp2_with fail
    refine hh5.mono ?_
    rintro en w6 ⟨rfl,hx6⟩
    have hff:=hf.out w6 (hx5.trans hx6)
    go_wp2_with fail
    exact hff
 ·replace ha:=Lib.hid ha
  go_wp2_with fail
  refine hs2.mono ?_
  rintro en w3 ⟨vy,rfl,hSy,hx3⟩
  obtain⟨A3,n3,c3,rfl⟩:=Rv.Sch.slice hSy
  clear hs2 hSy
  have hf:=fin.out false (w3.alloc (.cells #[.slice A3 n3 c3] 24)) (hx2.trans (hx3.trans ((Ext.refl w3).alloc _))) (by rw[ha.out];simp)
  go_wp2_with fail
  exact hf
def nm0:ByteArray:=⟨#[110,111,110,101]⟩
def nm1:ByteArray:=⟨#[98,97,99,107,119,97,114,100]⟩
def nm2:ByteArray:=⟨#[102,111,114,119,97,114,100]⟩
def nm3:ByteArray:=⟨#[102,117,108,108]⟩
def nm4:ByteArray:=⟨#[98,97,99,107,119,97,114,100,45,97,108,108]⟩
def nm5:ByteArray:=⟨#[102,111,114,119,97,114,100,45,97,108,108]⟩
def nm6:ByteArray:=⟨#[102,117,108,108,45,97,108,108]⟩
def namesL:List ByteArray:=[nm0,nm1,nm2,nm3,nm4,nm5,nm6]
def Nms (w:World):Prop:=Rd w (some ⟨0,0,none⟩) (txs namesL)
theorem Nms.ext {w w':World} (h:Nms w) (hx:Ext w w'):Nms w':=Rd.ext h hx
theorem Nms.at_ {w:World} (h:Nms w) (i:Nat) (s:ByteArray) (hi:namesL[i]?=some s):w.cell? ⟨0,i,none⟩=some (.string s):=by
 obtain⟨b,off,e,hc⟩:=h (by simp[txs,namesL])
 injection e with e
 injection e with e1 e2
 subst e1;subst e2
 have:=hc i (.string s) (by simp[txs,hi])
 simpa using this
def nameP (p:Int):ByteArray:=if polP p=true then namesL.getD p.toNat ⟨#[]⟩ else⟨#[63]⟩
theorem Name_any (p:Int) (w:World) (hN:Nms w):Calls Tryz.prog 33 #[.int .i64 p] w fun en w'=>en=.returned (.string (nameP p))∧Ext w w':=by
 have hi:=is_any p w
 cases hp:polP p with
 | false=>
  rw[hp] at hi
  have e:nameP p=⟨#[63]⟩:=by unfold nameP;rw[hp];rfl
  rw[e]
  clear hp e
  go_enter Tryz.func33,Tryz.ntmps33
  go_wp2_with fail
  refine hi.mono ?_
  rintro en w1 ⟨rfl,hx⟩
  go_wp2_with fail
  go_ret
  exact⟨rfl,hx⟩
 | true=>
  rw[hp] at hi
  rcases pol_cases hp with rfl|rfl|rfl|rfl|rfl|rfl|rfl
  all_goals
   clear hp
   have a0:=fun W (hW:Ext w W)=>(hN.ext hW).at_ 0 _ rfl
   have a1:=fun W (hW:Ext w W)=>(hN.ext hW).at_ 1 _ rfl
   have a2:=fun W (hW:Ext w W)=>(hN.ext hW).at_ 2 _ rfl
   have a3:=fun W (hW:Ext w W)=>(hN.ext hW).at_ 3 _ rfl
   have a4:=fun W (hW:Ext w W)=>(hN.ext hW).at_ 4 _ rfl
   have a5:=fun W (hW:Ext w W)=>(hN.ext hW).at_ 5 _ rfl
   have a6:=fun W (hW:Ext w W)=>(hN.ext hW).at_ 6 _ rfl
   replace a0:=Lib.hid a0
   replace a1:=Lib.hid a1
   replace a2:=Lib.hid a2
   replace a3:=Lib.hid a3
   replace a4:=Lib.hid a4
   replace a5:=Lib.hid a5
   replace a6:=Lib.hid a6
   go_enter Tryz.func33,Tryz.ntmps33
   go_wp2_with fail
   refine hi.mono ?_
   rintro en w1 ⟨rfl,hx⟩
   have b0:=a0.out w1 hx
   have b1:=a1.out w1 hx
   have b2:=a2.out w1 hx
   have b3:=a3.out w1 hx
   have b4:=a4.out w1 hx
   have b5:=a5.out w1 hx
   have b6:=a6.out w1 hx
   clear a0 a1 a2 a3 a4 a5 a6
   go_wp2_with fail
   go_ret
   exact⟨rfl,hx⟩
def tInt:ByteArray:=⟨#[105,110,116]⟩
def tLong:ByteArray:=⟨#[108,111,110,103]⟩
def neK (k:Int):Ne:=⟨k,⟨#[]⟩,0,[],[],[]⟩
theorem is_int:isP tInt=true:=by decide +kernel
theorem is_long:isP tLong=true:=by decide +kernel
theorem sch_int:schP tInt=[neK 2]:=by decide +kernel
theorem sch_long:schP tLong=[neK 3]:=by decide +kernel
theorem show_int:(showP [neK 2]).isSome=true:=by decide +kernel
theorem show_long:(showP [neK 3]).isSome=true:=by decide +kernel
open Classical in
theorem can_long_int:canB [neK 3] [neK 2]=true:=by
 unfold canB
 refine decide_eq_true ⟨show_long,show_int,fun _ _=>true,?_,rfl⟩
 intro i k x y hx hy _
 cases i with
 | succ i=>simp at hx
 | zero=>
  cases k with
  | succ k=>simp at hy
  | zero=>
   simp at hx hy
   subst hx;subst hy
   rfl
open Classical in
theorem can_int_long:canB [neK 2] [neK 3]=false:=by
 unfold canB
 refine decide_eq_false fun h=>?_
 obtain⟨R,hs,hr⟩:=h.2.2
 have:=hs 0 0 (neK 2) (neK 3) rfl rfl hr
 have e:holdP R (neK 2) (neK 3) ((0:Nat):Int) ((0:Nat):Int)=false:=rfl
 rw[e] at this
 cases this
theorem live_holds (p:Int) (hp:polP p=true):HoldsT p [tInt,tLong]=folP p [neK 2] [neK 3]:=by
 unfold HoldsT
 have h1:[tInt,tLong].all isP=true:=by simp[is_int,is_long]
 rw[h1,hp]
 simp only[List.map_cons,List.map_nil,sch_int,sch_long,Bool.true_and]
 show (holdsA p [[neK 2],[neK 3]] 2)=_
 have e0:nextP p ([[neK 2],[neK 3]].take 0) ([[neK 2],[neK 3]].getD 0 [])=true:=by
  unfold nextP lastOf
  simp
 have e1:nextP p ([[neK 2],[neK 3]].take 1) ([[neK 2],[neK 3]].getD 1 [])=folP p [neK 2] [neK 3]:=by
  unfold nextP lastOf
  simp
 unfold holdsA
 rw[e1]
 unfold holdsA
 rw[e0]
 unfold holdsA
 simp
theorem live1:HoldsT 1 [tInt,tLong]=true:=by
 rw[live_holds 1 rfl]
 simp[folP,backP,forthP,can_long_int]
theorem live2:HoldsT 2 [tInt,tLong]=false:=by
 rw[live_holds 2 rfl]
 simp[folP,backP,forthP,can_int_long]
theorem lives12_any (w:World) (hwd:Wd w) (hpow:Pow w) (hN:Nms w):Calls Tryz.prog 28 #[] w fun en w'=>en=.returned (.bool true)∧Ext w w':=by
 obtain⟨w1,hw1⟩:∃z,Hid (w.alloc (.cells #[.string ⟨#[105,110,116]⟩,.string ⟨#[108,111,110,103]⟩] 9)=z):=⟨_,rfl⟩
 have hx1:Ext w w1:=by rw[←hw1.out];exact (Ext.refl w).alloc _
 obtain⟨q,hq⟩:∃z,Hid (w.heap.size=z):=⟨_,rfl⟩
 have b1:Blk w1 q #[.string ⟨#[105,110,116]⟩,.string ⟨#[108,111,110,103]⟩] 9:=by rw[←hq.out,←hw1.out];exact Blk.new w _ _
 have hr:∀W,Ext w1 W→Rd W (some ⟨q,0,none⟩) (txs [tInt,tLong]):=fun W hW _=>⟨q,0,rfl,fun j u hj=>by
  rw[Nat.zero_add,(b1.ext hW).cell j,←hj]
  show (#[Value.string tInt,Value.string tLong]:Array Value)[j]?=(txs [tInt,tLong])[j]?
  rw[←Array.getElem?_toList];rfl⟩
 have hz:∀s∈[tInt,tLong],s.size≤140737488351232:=fun s hs=>by
  simp at hs
  rcases hs with rfl|rfl<;>decide
 have h1:=fun W (hW:Ext w1 W)=>Holds_any 1 (some ⟨q,0,none⟩) 2 2 [tInt,tLong] W (hr W hW) rfl (by omega) hz (hwd.ext (hx1.trans hW)) (hpow.ext (hx1.trans hW))
 have h2:=fun W (hW:Ext w1 W)=>Holds_any 2 (some ⟨q,0,none⟩) 2 2 [tInt,tLong] W (hr W hW) rfl (by omega) hz (hwd.ext (hx1.trans hW)) (hpow.ext (hx1.trans hW))
 have h3:=fun W (hW:Ext w1 W)=>Name_any 6 W (hN.ext (hx1.trans hW))
 simp only[live1] at h1
 simp only[live2] at h2
 have e6:nameP 6=⟨#[102,117,108,108,45,97,108,108]⟩:=by decide +kernel
 simp only[e6] at h3
 have g1:=h1 w1 (Ext.refl _)
 replace h2:=Lib.hid h2
 replace h3:=Lib.hid h3
 clear h1 hr hz b1 e6
 go_enter Tryz.func28,Tryz.ntmps28
 go_wp2_with fail
 rw[hw1.out,hq.out]
 refine g1.mono ?_
 rintro en w2 ⟨rfl,hx2⟩
 have g2:=h2.out w2 hx2
 clear g1
 go_wp2_with fail
 refine g2.mono ?_
 rintro en w3 ⟨rfl,hx3⟩
 have g3:=h3.out w3 (hx2.trans hx3)
 clear g2
 go_wp2_with fail
 refine g3.mono ?_
 rintro en w4 ⟨rfl,hx4⟩
 go_wp2_with fail
 go_ret
 exact⟨rfl,hx1.trans (hx2.trans (hx3.trans hx4))⟩
end Go.Proofs.YtmaoochjbpohdaaGreatDoor.Pl
namespace Go.Proofs.YtmaoochjbpohdaaGreatDoor.Pr
open Go.ChangeShapes Go.WideShapes Go.ChangeAt Go.RowKit
open Base
theorem app0_run {P:Program} {t e:TypeId} {z:Value} {size bytes:Nat} (E:El P t e z size bytes) (w:World) (ty:TypeId) (base:Nat)
  (g:Nat) (hown:w.ownsRow base e size (.slice (some ⟨g,0,none⟩) 0 0) 0 [])
  (A:Option Addr) (m c:Nat) (news:List Value) (hr:Rd w A news) (hl:news.length=m*size) (hA:A=none→c=0)
  (hbytes:m*bytes≤140737488355328) (hby:0<bytes) (hbase:base≤w.heap.size) :
  ∃v' w',(Builtin.append_ #[t,t] ty #[.slice (some ⟨g,0,none⟩) 0 0,.slice A m c]).run P w=.ok v' w'∧w'.ownsRow base e size v' m news∧Ext w w':=by
 obtain⟨i,hi,hz,hs,hb⟩:=info_parts E.info
 have hpos:=E.pos
 by_cases hne:news=[]
 ·subst hne
  have hm:m=0:=by
   rcases Nat.eq_zero_or_pos m with h|h
   ·exact h
   ·have:=Nat.mul_pos h hpos;simp at hl;omega
  subst hm
  refine⟨_,w,?_,hown,Ext.refl w⟩
  cases A with
  | none=>
   rw[hA rfl]
   exact run_append_nothing (P:=P) w t t ty e i E.under hi (some ⟨g,0,none⟩) 0 0 (Nat.le_refl _) _ (Src.ofNil (P:=P) (w:=w) E.under 0)
  | some ad=>
   exact run_append_nothing (P:=P) w t t ty e i E.under hi (some ⟨g,0,none⟩) 0 0 (Nat.le_refl _) _ (Src.ofSlice (P:=P) (w:=w) E.under ad 0 c [] (by simp) (by simp) (fun u hu=>by cases hu))
 ·obtain⟨b,off,rfl,hc⟩:=hr hne
  have hm:0<m:=by
   rcases Nat.eq_zero_or_pos m with h|h
   ·subst h;rw[Nat.zero_mul] at hl;exact absurd (List.eq_nil_of_length_eq_zero hl) hne
   ·exact h
  have h63:m≤maxLen:=by
   have h:m*1≤m*bytes:=Nat.mul_le_mul_left _ hby
   unfold maxLen;omega
  have h63':((0+m:Nat):Int)≤9223372036854775807:=by unfold maxLen at h63;omega
  have hr:=run_append_grow (P:=P) w t ty e i z E.under hi hz ⟨g,0,none⟩ 0 0 [] (by simp) (by simp) ⟨b,off,none⟩ m c news (by rw[hs];exact hl) (fun j u hj=>by
   have hadd:(⟨b,off,none⟩:Addr).add j=⟨b,off+j,none⟩:=by unfold Addr.add;split<;>simp_all
   rw[hadd];exact hc j u hj) (by omega) h63' (growslice_fits (by omega) (by rw[hb,Nat.zero_add];exact hbytes))
  have hge:=grownCap_ge w (0+m) 0 e
  have hcm:grownCap w (0+m) 0 e≤maxLen:=grownCap_le_maxLen w (0+m) 0 e (by omega)
  refine⟨_,_,hr,⟨hl,.inr ⟨w.heap.size,_,_,by rw[Nat.zero_add],hbase,heap_alloc_new w.drew _,by rw[Nat.zero_add] at hge;exact hge,by rw[Nat.zero_add] at hcm;exact hcm,?_,?_⟩⟩,((Ext.refl w).drew).alloc _⟩
  ·have e1:m*size+(grownCap w (0+m) 0 e-(0+m))*size=grownCap w (0+m) 0 e*size:=by
    rw[←Nat.add_mul];congr 1;omega
   simp only[Array.size_append,List.size_toArray,size_zeroCells,E.cells,hl,List.length_nil,Nat.zero_add] at e1 ⊢
   exact e1
  ·simp only[Array.toList_append,List.append_assoc]
   rw[←hl]
   simp
theorem wp_app0 {P:Program} {t e:TypeId} {z:Value} {size bytes:Nat} (E:El P t e z size bytes) (w:World) {o:Oper} {a:Act} {K:Act→World→Prop} {Q:Exit→Act→World→Prop} (s x:Operand)
  (ho:o.op=.call { callee:=.builtin .append,args := #[s,x],argTypes := #[t,t] }) (base:Nat)
  (g:Nat) (hs:a.eval s=.slice (some ⟨g,0,none⟩) 0 0) (hown:w.ownsRow base e size (.slice (some ⟨g,0,none⟩) 0 0) 0 [])
  (A:Option Addr) (m c:Nat) (news:List Value) (hx:a.eval x=.slice A m c) (hr:Rd w A news) (hl:news.length=m*size) (hA:A=none→c=0)
  (hbytes:m*bytes≤140737488355328) (hby:0<bytes) (hbase:base≤w.heap.size)
  (h:∀v' w',w'.ownsRow base e size v' m news→Ext w w'→K (a.put o.dst v') w'):o.wp P a w K Q:=by
 obtain⟨v',w',hrun,h2,h3⟩:=app0_run E w o.type base g hown A m c news hr hl hA hbytes hby hbase
 unfold Oper.wp execOp
 simp only[ho,resolve,invoke,builtin,Sem.run_bind,Sem.run_pure,Result.andThen_ok,List.map_toArray,List.map_cons,List.map_nil,hs,hx,hrun]
 exact h v' w' h2 h3
end Go.Proofs.YtmaoochjbpohdaaGreatDoor.Pr
namespace Go.Proofs.YtmaoochjbpohdaaGreatDoor.Pl
open Go.ChangeShapes Go.WideShapes Go.ChangeAt Go.RowKit
open Base Lx Mi Pr Rv Cn
theorem el_st:El Tryz.prog 32 9 (.string ByteArray.empty) 1 16:=⟨by kernel_rfl,by kernel_rfl,rfl,by omega⟩
theorem wpList_app0 {P:Program} {t e:TypeId} {z:Value} {size bytes:Nat} (E:El P t e z size bytes) (w:World) {ops:Array Oper} {rest:List Oper} {o:Oper} {a:Act} {Q:Exit→Act→World→Prop} (hgd:o.guard=none) (s x:Operand)
  (ho:o.op=.call { callee:=.builtin .append,args := #[s,x],argTypes := #[t,t] }) (base:Nat)
  (g:Nat) (hs:a.eval s=.slice (some ⟨g,0,none⟩) 0 0) (hown:w.ownsRow base e size (.slice (some ⟨g,0,none⟩) 0 0) 0 [])
  (A:Option Addr) (m c:Nat) (news:List Value) (hx:a.eval x=.slice A m c) (hr:Rd w A news) (hl:news.length=m*size) (hA:A=none→c=0)
  (hbytes:m*bytes≤140737488355328) (hby:0<bytes) (hbase:base≤w.heap.size)
  (h:∀v' w',w'.ownsRow base e size v' m news→Ext w w'→wpList P ops Q rest (a.put o.dst v') w'):wpList P ops Q (o::rest) a w:=
 wpList_plain hgd fun _ hK=>wp_app0 E w s x ho base g hs hown A m c news hx hr hl hA hbytes hby hbase fun v' w' h2 h3=>hK _ _ (h v' w' h2 h3)
theorem few12_any (l:List ByteArray) (n c:Nat) (A:Option Addr) (w:World) (hn:l.length=n) (hc:n≤c) :
  Calls Tryz.prog 25 #[.slice A n c] w fun e w'=>e=.returned (.slice A (l.take 6).length c)∧w'=w:=by
 have Hn:=Lib.hid hn
 clear hn
 obtain⟨m,hm⟩:∃m,Hid ((l.take 6).length=m):=⟨_,rfl⟩
 rw[hm.out]
 have hm2:m=min 6 n:=by rw[←hm.out,List.length_take,Hn.out]
 go_enter Tryz.func25,Tryz.ntmps25
 by_cases h:6<n
 ·have h':(6:Int)<n:=by omega
  have hc':(6:Int)≤c:=by omega
  have e:m=6:=by omega
  clear hm2 h
  subst e
  go_wp2_with fail
  go_ret
  exact⟨rfl,rfl⟩
 ·have h':¬(6:Int)<n:=by omega
  have e:m=n:=by omega
  clear hm2 h
  subst e
  go_wp2_with fail
  go_ret
  exact⟨rfl,rfl⟩
theorem pol6 {p:Int} {b:Bool} (h:polP p=b):(0≤p∧p≤6∧b=true)∨(0≤p∧¬p≤6∧b=false)∨(¬0≤p∧b=false):=by
 unfold polP at h
 subst h
 by_cases h1:0≤p
 ·by_cases h2:p≤6
  ·exact .inl ⟨h1,h2,by simp;omega⟩
  ·exact .inr (.inl ⟨h1,h2,by simp;omega⟩)
 ·exact .inr (.inr ⟨h1,by simp;omega⟩)
theorem steps_next {p:Int} {l:List ByteArray} {i:Nat} {s:ByteArray} (hs:l[i]?=some s) (v:Bool) (h:stepsT p l i=v):stepsT p l (i+1)=(v && NextT p (l.take i) s):=by
 rw[show stepsT p l (i+1)=(stepsT p l i && NextT p (l.take i) (l.getD i ⟨#[]⟩)) from rfl,h,show l.getD i ⟨#[]⟩=s by rw[List.getD,hs];rfl]
set_option maxHeartbeats 2000000 in
theorem steps_any (p:Int) (A:Option Addr) (n0 c:Nat) (l0:List ByteArray) (w:World) (hr0:Rd w A (txs l0)) (hn0:l0.length=n0) (hnc0:n0≤c) (hcm:c≤maxLen) (hA:A=none→c=0) (hz0:∀s∈l0,s.size≤140737488351232) (hwd:Wd w) (hpow:Pow w) (hN:Nms w) :
  Calls Tryz.prog 10 #[.int .i64 p,.slice A n0 c] w fun en w'=>en=.returned (.bool true)∧Ext w w':=by
 have hfew:=few12_any l0 n0 c A w hn0 hnc0
 have hr:Rd w A (txs (l0.take 6)):=by have:=hr0.take 6;rwa [show (txs l0).take 6=txs (l0.take 6) by simp[txs,List.map_take]] at this
 have hz:∀s∈l0.take 6,s.size≤140737488351232:=fun s hs=>hz0 s (List.mem_of_mem_take hs)
 have hn6:(l0.take 6).length≤6:=by rw[List.length_take];omega
 have hnc:(l0.take 6).length≤c:=by rw[List.length_take];omega
 generalize l0.take 6=l at hfew hr hz hn6 hnc
 clear hr0 hn0 hz0 hnc0
 obtain⟨n,hn⟩:∃z,Hid (l.length=z):=⟨_,rfl⟩
 rw[hn.out] at hfew hn6 hnc
 have hnx:=fun (i:Nat) (s:ByteArray) (hi:i<n) (hs:s.size≤140737488351232) W A' c' (hW:Ext w W) (h':Rd W A' (txs (l.take i)))=>Next_any p A' i c' (l.take i) s W h' (by rw[List.length_take,hn.out];omega) (by omega) (fun t ht=>hz t (List.mem_of_mem_take ht)) hs (hwd.ext hW) (hpow.ext hW)
 have hho:=fun W A' c' (hW:Ext w W) (h':Rd W A' (txs l))=>Holds_any p A' n c' l W h' hn.out (by omega) hz (hwd.ext hW) (hpow.ext hW)
 rw[←steps_holds,hn.out] at hho
 have hli:=fun W (hW:Ext w W)=>lives12_any W (hwd.ext hW) (hpow.ext hW) (hN.ext hW)
 have hcut:∀i:Nat,i<n→∀W,(Instr.sliceAt 32 (.slice A n c) none (some (.int .i64 (i:Int))) none).run Tryz.prog W=.ok (.slice A i c) W:=fun i hi W=>
  run_cutZ (P:=Tryz.prog) (t:=32) (e:=9) (s:=1) Tryz.underlying32 (by kernel_rfl) W A n c i (by omega)
 have hat:∀i,i<n→∃s,l[i]?=some s∧s.size≤140737488351232:=fun i hi=>⟨l[i]'(by have:=hn.out;omega),List.getElem?_eq_getElem _,hz _ (List.getElem_mem _)⟩
 have hrt:∀i W,Ext w W→Rd W A (txs (l.take i)):=fun i W hW=>by
  have:=(hr.take i).ext hW;rwa [show (txs l).take i=txs (l.take i) by simp[txs,List.map_take]] at this
 obtain⟨PO,hPO⟩:∃PO:Ending→World→Prop,Hid ((fun en w'=>en=.returned (.bool true)∧Ext w w')=PO):=⟨_,Lib.hid rfl⟩
 have fin:∀W,Ext w W→PO (.returned (.bool true)) W:=fun W hW=>by rw[←hPO.out];exact⟨rfl,hW⟩
 rw[hPO.out]
 have h0:stepsT p l 0=polP p:=rfl
 obtain⟨b0,hb0⟩:∃z,Hid (polP p=z):=⟨_,rfl⟩
 rw[hb0.out] at h0
 have h6:=pol6 hb0.out
 replace fin:=Lib.hid fin
 replace hnx:=Lib.hid hnx
 replace hho:=Lib.hid hho
 replace hli:=Lib.hid hli
 replace hcut:=Lib.hid hcut
 replace hat:=Lib.hid hat
 replace hrt:=Lib.hid hrt
 replace h0:=Lib.hid h0
 replace hA:=Lib.hid hA
 clear hz
 have key:∀a2:Act→Prop,True:=fun _=>trivial
 clear key
 go_enter Tryz.func10,Tryz.ntmps10
 go_wp2_with fail
 refine hfew.mono ?_
 rintro en w2 ⟨rfl,hw2⟩
 obtain rfl:w=w2:=hw2.symm
 clear hfew
 rcases h6 with⟨a1,a2,e⟩|⟨a1,a2,e⟩|⟨a1,e⟩<;>subst e
 all_goals
  go_wp2_with fail
  go_loopw [5,6,15,16,17,18,19,20,21,22,23,24,25,26,27,28,29,30,31,32,33,34] (fun v5 v6 v15 v16 v17 v18 v19 v20 v21 v22 v23 v24 v25 v26 v27 v28 v29 v30 v31 v32 v33 v34 wr=>∃i:Nat,i≤n∧v6=.int .i64 (i:Int)∧v5=.bool (stepsT p l i)∧Ext w wr) (fun _ v6 _ _ _ _ _ _ _ _ _ _ _ _ _ _ _ _ _ _ _ _ _=>n-(intOf v6).toNat)
  case atStart=>exact⟨0,Nat.zero_le _,rfl,by rw[h0.out]<;>first|rfl|(simp;done)|(simp;omega),Ext.refl w⟩
  case round=>
   obtain⟨i,hi,rfl,rfl,hx⟩:=hrel
   by_cases hin:i<n
   ·have hin':(i:Int)<(n:Int):=by omega
    obtain⟨s,hs,hs2⟩:=hat.out i hin
    obtain⟨v,hv⟩:∃z,Hid (stepsT p l i=z):=⟨_,rfl⟩
    have hst:=steps_next hs v hv.out
    rw[hv.out]
    clear hv
    cases v with
    | false=>
     replace hst:Hid (stepsT p l (i+1)=false):=Lib.hid (by rw[hst];rfl)
     clear hs hs2
     go_wp2_with fail
     refine Reg.startE (by kernel_rfl) ?_
     iterate 15 ((first|refine Reg.tn ?_|refine Reg.sn ?_);(try simp only[Reg.nn]))
     refine Reg.fin (by kernel_rfl) (fun W hW=>?_)
     go_wp2_with fail
     go_roundw
     case rel=>exact⟨i+1,by omega,by go_num,by rw[hst.out],hx.trans hW⟩
     case measure=>simp[intOf]<;>omega
    | true=>
     rw[Bool.true_and] at hst
     have hcc:=hnx.out i s hin hs2
     rw[←hst] at hcc
     obtain⟨v2,hv2⟩:∃z,Hid (stepsT p l (i+1)=z):=⟨_,rfl⟩
     simp only[hv2.out] at hcc
     obtain⟨b,off,eA,hzz,hc⟩:=((hrt.out n w (Ext.refl w)).ext hx).at_ (k:=i) (by simp only[txs,List.length_map,List.length_take];have:=hn.out;omega)
     clear hzz
     have hck:wr.cell? ⟨b,off+i,none⟩=some (.string s):=hc i _ (by simp[txs,hs,hin])
     clear hc hst hs hs2
     subst eA
     replace hcc:=Lib.hid hcc
     have hct:=hcut.out i hin
     have hcx:∀W,Ext wr W→W.cell? ⟨b,off+i,none⟩=some (.string s):=fun W hW=>hW.cell hck
     go_wp2_with fail
     refine Reg.startE (by kernel_rfl) ?_
     iterate 3 ((first|refine Reg.tn ?_|refine Reg.sn ?_);(try simp only[Reg.nn]))
     refine Reg.tk 4 ?_;(try simp only[Reg.nn])
     refine Reg.tk 5 ?_;(try simp only[Reg.nn])
     refine Reg.tk 6 ?_;(try simp only[Reg.nn])
     refine Reg.tk 8 ?_;(try simp only[Reg.nn])
     refine Reg.tk 9 ?_;(try simp only[Reg.nn])
     refine Reg.tk 10 ?_;(try simp only[Reg.nn])
     refine Reg.tk 11 ?_;(try simp only[Reg.nn])
     refine Reg.onlyE 3 _ rfl (by kernel_rfl) (by decide) (by rfl) (fun W hW K hK=>?_);go_simp
     obtain⟨g,hg⟩:∃z,Hid (W.heap.size=z):=⟨_,rfl⟩
     have hown:∀W2,Ext (W.alloc (.cells #[] 9)) W2→W2.ownsRow 0 9 1 (.slice (some ⟨g,0,none⟩) 0 0) 0 []:=fun W2 h2=>own_ext (by rw[←hg.out];exact World.ownsRow_lit W #[] 0 (Nat.zero_le _) (Nat.zero_le _) rfl) h2
     have hq1:Ext wr (W.alloc (.cells #[] 9)):=hW.trans ((Ext.refl W).alloc _)
     replace hown:=Lib.hid hown
     refine hK.out _ _ ((Ext.refl W).alloc _) ?_;clear hK K;(try simp only[Reg.nn])
     rw[hg.out]
     refine Reg.onlyE 7 _ rfl (by kernel_rfl) (by decide) (by rfl) (fun W hW K hK=>?_)
     refine wp_app0 el_st W (.tmp 24) (.tmp 27) rfl 0 g rfl (hown.out W hW) (some ⟨b,off,none⟩) i c (txs (l.take i)) rfl (hrt.out i W (hx.trans (hq1.trans hW))) (by simp[txs];have:=hn.out;omega) (fun h=>by cases h) (by omega) (by omega) (Nat.zero_le _) (fun v' w' ho hx'=>?_)
     have hrd:=Rd.of_own ho
     obtain⟨A',c',rfl,r2⟩:=hrd
     have r3:Rd w' A' (txs (l.take i)):=by obtain⟨x1,x2,x3,x4⟩:=r2;first|exact x1|exact x2|exact x3|exact x4
     clear r2 ho
     have hq2:=hq1.trans (hW.trans hx')
     replace r3:=Lib.hid r3
     refine hK.out _ _ hx' ?_
     clear hK K
     (try simp only[Reg.nn])
     refine Reg.onlyE 12 _ rfl (by kernel_rfl) (by decide) (by rfl) (fun W hW K hK=>?_);go_simp
     refine (hcc.out W A' c' (hx.trans (hq2.trans hW)) (r3.out.ext hW)).mono ?_
     rintro en wX ⟨rfl,hX9⟩
     have hq3:=hq2.trans (hW.trans hX9)
     refine hK.out _ _ (hX9) ?_;clear hK K;(try simp only[Reg.nn])
     iterate 2 ((first|refine Reg.tn ?_|refine Reg.sn ?_);(try simp only[Reg.nn]))
     refine Reg.fin (by kernel_rfl) (fun W hW=>?_)
     replace hW:=hq3.trans hW
     go_wp2_with fail
     go_roundw
     case rel=>exact⟨i+1,by omega,by go_num,by rw[hv2.out],hx.trans hW⟩
     case measure=>simp[intOf]<;>omega
   ·obtain rfl:i=n:=by omega
    obtain⟨v,hv⟩:∃z,Hid (stepsT p l i=z):=⟨_,rfl⟩
    have hh:=hho.out
    simp only[hv.out] at hh ⊢
    replace hh:=Lib.hid hh
    have hlit:(wr.alloc (.cells #[] 9)).ownsRow 0 9 1 (.slice (some ⟨wr.heap.size,0,none⟩) 0 0) 0 []:=World.ownsRow_lit wr #[] 0 (Nat.zero_le _) (Nat.zero_le _) rfl
    have hrl:Rd (wr.alloc (.cells #[] 9)) A (txs l):=by have:=hrt.out l.length (wr.alloc (.cells #[] 9)) (hx.trans ((Ext.refl wr).alloc _));rwa [List.take_length] at this
    have hll:(txs l).length=i*1:=by simp[txs];exact hn.out
    have hxa:Ext wr (wr.alloc (.cells #[] 9)):=(Ext.refl wr).alloc _
    clear hv
    cases v
    all_goals
     go_wp2_with (
      refine wpList_app0 el_st _ rfl (.tmp 36) (.tmp 37) rfl 0 wr.heap.size rfl hlit A i c (txs l) rfl hrl hll hA.out (by omega) (by omega) (Nat.zero_le _) (fun v' w' ho hx'=>?_)
      have hrd:=Rd.of_own ho
      obtain⟨A',c',rfl,r2⟩:=hrd
      have r3:Rd w' A' (txs l):=by obtain⟨x1,x2,x3,x4⟩:=r2;first|exact x1|exact x2|exact x3|exact x4
      have hq1:=hx.trans (hxa.trans hx')
      have hh2:=hh.out w' A' c' hq1 r3
      clear r2 ho r3 hrl hlit)
     refine hh2.mono ?_
     rintro en w5 ⟨rfl,hx5⟩
     have hl5:=hli.out w5 (hq1.trans hx5)
     clear hh2
     go_wp2_with fail
     refine hl5.mono ?_
     rintro en w6 ⟨rfl,hx6⟩
     have hf:=fin.out w6 (hq1.trans (hx5.trans hx6))
     go_wp2_with fail
     exact hf
end Go.Proofs.YtmaoochjbpohdaaGreatDoor.Pl
namespace Go.Proofs.YtmaoochjbpohdaaGreatDoor.Ch
open Go.ChangeShapes Go.WideShapes Go.ChangeAt Go.RowKit
open Base Pf Cn Pr Lx Mi
def entV (e:Et):Value:=.agg #[.bool e.pol,.int .i64 e.p,.string e.s,.int .u64 (e.id:Int)]
structure EtOk (e:Et):Prop where
 p1 : -9223372036854775808≤e.p
 p2:e.p≤9223372036854775807
 s1:e.s.size≤140737488351232
 id1:e.id<18446744073709551616
end Go.Proofs.YtmaoochjbpohdaaGreatDoor.Ch
namespace Go.Proofs.YtmaoochjbpohdaaGreatDoor.Pl
open Go.ChangeShapes Go.WideShapes Go.ChangeAt Go.RowKit
open Base Lx Mi Pr Rv Cn Ch
def entsZ (l:List Et):List Value:=l.flatMap entC
theorem entsZ_len (l:List Et):(entsZ l).length=l.length*4:=by
 induction l with
 | nil=>simp[entsZ]
 | cons x l ih=>
  have e:entsZ (x::l)=entC x++entsZ l:=by simp[entsZ]
  rw[e,List.length_append,ih,List.length_cons,Nat.succ_mul]
  simp[entC];omega
theorem entsZ_at:∀(l:List Et) (i:Nat) (x:Et),l[i]?=some x→∀j,j<4→(entsZ l)[i*4+j]?=(entC x)[j]?
 | [],i,x,h,j,hj=>by simp at h
 | y::l,0,x,h,j,hj=>by
  simp at h;subst h
  have e:entsZ (y::l)=entC y++entsZ l:=by simp[entsZ]
  rw[e,List.getElem?_append_left (by simp[entC];omega)]
  congr 1;omega
 | y::l,i+1,x,h,j,hj=>by
  have ih:=entsZ_at l i x (by simpa using h) j hj
  have e:entsZ (y::l)=entC y++entsZ l:=by simp[entsZ]
  rw[e,List.getElem?_append_right (by simp[entC];omega),←ih]
  congr 1
  simp[entC];omega
theorem el_ent:El Tryz.prog 52 93 (.agg #[.bool false,.int .i64 0,.string ByteArray.empty,.int .u64 0]) 4 40:=⟨by kernel_rfl,by kernel_rfl,by kernel_rfl,by omega⟩
theorem el_in:El Tryz.prog 33 3 (.int .i64 0) 1 8:=⟨by kernel_rfl,by kernel_rfl,rfl,by omega⟩
def txtP (l:List Et) (at_:List Int):List ByteArray:=at_.flatMap fun i=>if 0≤i then (match l[i.toNat]? with|some e=>[e.s]|none=>[]) else []
theorem txtP_len (l:List Et):∀a:List Int,(txtP l a).length≤a.length
 | []=>by simp[txtP]
 | i::a=>by
  have ih:=txtP_len l a
  have e:txtP l (i::a)=(if 0≤i then (match l[i.toNat]? with|some e=>[e.s]|none=>[]) else [])++txtP l a:=by simp[txtP]
  rw[e,List.length_append,List.length_cons]
  have:(if 0≤i then (match l[i.toNat]? with|some e=>[e.s]|none=>[]) else ([]:List ByteArray)).length≤1:=by
   split
   ·split<;>simp
   ·simp
  omega
theorem txtP_hit {l:List Et} {a:List Int} {i k:Nat} {e:Et} (ha:a[i]?=some (k:Int)) (he:l[k]?=some e):txtP l (a.take (i+1))=txtP l (a.take i)++[e.s]:=by
 unfold txtP
 rw[List.take_add_one,ha,List.flatMap_append]
 simp[he]
theorem txtP_miss {l:List Et} {a:List Int} {i:Nat} {x:Int} (ha:a[i]?=some x) (hx:¬(0≤x∧x<l.length)):txtP l (a.take (i+1))=txtP l (a.take i):=by
 unfold txtP
 rw[List.take_add_one,ha,List.flatMap_append]
 have:(if 0≤x then (match l[x.toNat]? with|some e=>[e.s]|none=>[]) else ([]:List ByteArray))=[]:=by
  split
  ·rw[List.getElem?_eq_none (by omega)]
  ·rfl
 simp[this]
structure TS (q:Nat) (w0:World) (l:List Et) (a:List Int) (i:Nat) (V:Value) (W:World):Prop where
 own:W.ownsRow q 9 1 V (txtP l (a.take i)).length (txs (txtP l (a.take i)))
 x:Ext w0 W
theorem TS.len {q:Nat} {w0:World} {l:List Et} {a:List Int} {i:Nat} {V:Value} {W:World} (h:TS q w0 l a i V W):(txtP l (a.take i)).length≤a.length:=Nat.le_trans (txtP_len l _) (by rw[List.length_take];omega)
theorem TS.hit {q:Nat} {w0:World} {l:List Et} {a:List Int} {i:Nat} {V V':Value} {W W':World} (h:TS q w0 l a i V W) (hq:w0.heap.size≤q) {k:Nat} {e:Et} (ha:a[i]?=some (k:Int)) (he:l[k]?=some e)
  (ho:W'.ownsRow q 9 1 V' ((txtP l (a.take i)).length+1) (txs (txtP l (a.take i))++txs [e.s])) (hg:W.grownBy W' V.ownBlock):TS q w0 l a (i+1) V' W':=by
 refine⟨?_,h.x.then_grown hg (fun k hk=>by have:=(h.own.lt k hk).1;omega)⟩
 rw[txtP_hit ha he,List.length_append]
 have e1:txs (txtP l (a.take i)++[e.s])=txs (txtP l (a.take i))++txs [e.s]:=by simp[txs]
 rw[e1]
 exact ho
theorem TS.miss {q:Nat} {w0:World} {l:List Et} {a:List Int} {i:Nat} {V:Value} {W:World} (h:TS q w0 l a i V W) {x:Int} (ha:a[i]?=some x) (hx:¬(0≤x∧x<l.length)):TS q w0 l a (i+1) V W:=by
 refine⟨?_,h.x⟩
 rw[txtP_miss ha hx]
 exact h.own
theorem TS.ext {q:Nat} {w0:World} {l:List Et} {a:List Int} {i:Nat} {V:Value} {W W':World} (h:TS q w0 l a i V W) (hx:Ext W W'):TS q w0 l a i V W':=⟨own_ext h.own hx,h.x.trans hx⟩
theorem TS.fin {q:Nat} {w0:World} {l:List Et} {a:List Int} {i:Nat} {V:Value} {W:World} (h:TS q w0 l a i V W) (hn:a.length=i):∃A c,V=.slice A (txtP l a).length c∧Rd W A (txs (txtP l a)):=by
 have ho:=h.own
 rw[List.take_of_length_le (by omega)] at ho
 obtain⟨A,c,e,x1,x2,x3,x4⟩:=Rd.of_own ho
 exact⟨A,c,e,by first|exact x1|exact x2|exact x3|exact x4⟩
theorem same_any (l:List ByteArray) (n:Nat) (A B:Option Addr) (ca cb:Nat) (w:World) (hn:l.length=n) (hs:n≤1048576) (hA:Rd w A (txs l)) (hB:Rd w B (txs l)) :
  Calls Tryz.prog 34 #[.slice A n ca,.slice B n cb] w fun e w'=>e=.returned (.bool true)∧Ext w w':=by
 have Hn:=Lib.hid hn
 clear hn
 go_enter Tryz.func34,Tryz.ntmps34
 go_wp2_with fail
 go_loopw [5,11,12,13,15,16,17,18,19,20,21,22,23,24,25] (fun v5 v11 v12 v13 v15 v16 v17 v18 v19 v20 v21 v22 v23 v24 v25 wv=>∃i:Nat,i≤n∧v5=.int .i64 i∧Ext w wv) (fun v5 _ _ _ _ _ _ _ _ _ _ _ _ _ _ _=>n-(intOf v5).toNat)
 case atStart=>exact⟨0,Nat.zero_le _,rfl,Ext.refl w⟩
 case round=>
  obtain⟨i,hi,rfl,hx⟩:=hrel
  by_cases hin:i<n
  ·have hin':(i:Int)<n:=by omega
   obtain⟨b1,o1,rfl,e1,_⟩:=(hA.ext hx).at_ (k:=i) (by rw[txs_length,Hn.out];exact hin)
   obtain⟨b2,o2,rfl,e2,_⟩:=(hB.ext hx).at_ (k:=i) (by rw[txs_length,Hn.out];exact hin)
   obtain⟨s,hs'⟩:∃s,(txs l)[i]'(by rw[txs_length,Hn.out];exact hin)=.string s:=⟨l[i]'(by rw[Hn.out];exact hin),by simp[txs]⟩
   rw[hs'] at e1 e2
   clear hs'
   go_wp2_with fail
   go_quiet (fail)
   go_wp2_with fail
   exact⟨⟨i+1,by omega,by go_num,hx.drewN nq⟩,by simp[intOf];omega⟩
  ·have hin':¬(i:Int)<n:=by omega
   go_wp2_with fail
   go_ret
   exact⟨rfl,hx⟩
theorem Texts_any (A:Option Addr) (n c:Nat) (l:List Et) (B:Option Addr) (m d:Nat) (a:List Int) (w:World) (hr:Rd w A (entsZ l)) (hn:l.length=n) (hra:Rd w B (a.map (Value.int .i64))) (hm:a.length=m) (hn1:n≤1048576) (hm1:m≤1048576) :
  Calls Tryz.prog 35 #[.slice A n c,.slice B m d] w fun en w'=>(∃A' c',en=.returned (.slice A' (txtP l a).length c')∧Rd w' A' (txs (txtP l a)))∧Ext w w':=by
 obtain⟨PO,hPO⟩:∃PO:Ending→World→Prop,Hid ((fun en w'=>(∃A' c',en=.returned (.slice A' (txtP l a).length c')∧Rd w' A' (txs (txtP l a)))∧Ext w w')=PO):=⟨_,Lib.hid rfl⟩
 rw[hPO.out]
 have fin:∀V W,TS w.heap.size w l a m V W→PO (.returned V) W:=fun V W h=>by
  obtain⟨A',c',rfl,h2⟩:=h.fin hm
  rw[←hPO.out]
  exact⟨⟨A',c',rfl,h2⟩,h.x⟩
 replace fin:=Lib.hid fin
 have Hn:=Lib.hid hn
 have Hm:=Lib.hid hm
 clear hn hm
 obtain⟨q,hq⟩:∃z,Hid (w.heap.size=z):=⟨_,rfl⟩
 rw[hq.out] at fin
 have hS0:TS q w l a 0 (.slice none 0 0) w:=⟨World.ownsRow_nil w q _ 1,Ext.refl w⟩
 go_enter Tryz.func35,Tryz.ntmps35
 go_wp2_with fail
 go_loopw [5,7,10,11,12,13,14,15,16,17,18,19,20,21,22,23,24,25,26,27,28,29,30] (fun v5 v7 v10 v11 v12 v13 v14 v15 v16 v17 v18 v19 v20 v21 v22 v23 v24 v25 v26 v27 v28 v29 v30 wr=>∃i:Nat,i≤m∧v10=.int .i64 (i:Int)∧TS q w l a i v5 wr) (fun _ _ v10 _ _ _ _ _ _ _ _ _ _ _ _ _ _ _ _ _ _ _ _ _=>m-(intOf v10).toNat)
 case atStart=>exact⟨0,Nat.zero_le _,rfl,hS0⟩
 case round=>
  obtain⟨i,hi,rfl,hS⟩:=hrel
  obtain⟨V,hV⟩:∃z,z=u5:=⟨_,rfl⟩
  rw[←hV] at hS ⊢
  clear hV hS0
  by_cases hin:i<m
  ·have hin':(i:Int)<(m:Int):=by omega
   obtain⟨x,hme⟩:∃z,a[i]?=some z:=⟨_,List.getElem?_eq_getElem (by have:=Hm.out;omega)⟩
   obtain⟨b,off,rfl,hzz,hc⟩:=(hra.ext hS.x).at_ (k:=i) (by simp only[List.length_map];have:=Hm.out;omega)
   clear hzz
   have hck:wr.cell? ⟨b,off+i,none⟩=some (.int .i64 x):=hc i _ (by simp[hme])
   clear hc
   have Hme:=Lib.hid hme
   clear hme
   by_cases hx0:0≤x
   ·obtain⟨k,rfl⟩:∃k:Nat,x=(k:Int):=⟨x.toNat,by omega⟩
    by_cases hkn:k<n
    ·have hkn':(k:Int)<(n:Int):=by omega
     obtain⟨e,he⟩:∃z,l[k]?=some z:=⟨_,List.getElem?_eq_getElem (by have:=Hn.out;omega)⟩
     have He:=Lib.hid he
     obtain⟨b2,o2,rfl,hzz,hc2⟩:=(hr.ext hS.x).at_ (k:=k*4+2) (by rw[entsZ_len];have:=Hn.out;omega)
     clear hzz
     have hc4:wr.cell? ⟨b2,o2+k*4+2,none⟩=some (.string e.s):=by
      have:=hc2 (k*4+2) (.string e.s) (by rw[entsZ_at l k e he 2 (by omega)];rfl)
      rw[Nat.add_assoc];exact this
     clear hc2 he
     obtain⟨s,hs⟩:∃z,Hid (e.s=z):=⟨_,rfl⟩
     rw[hs.out] at hc4
     have hxL:Ext wr (wr.alloc (.cells #[.string s] 9)):=(Ext.refl wr).alloc _
     have hSL:=hS.ext hxL
     have hln:=hS.len
     rw[Hm.out] at hln
     have hqL:q≤(wr.alloc (.cells #[.string s] 9)).heap.size:=by rw[←hq.out];exact hSL.x.size
     have hrv:Rd (wr.alloc (.cells #[.string s] 9)) (some ⟨wr.heap.size,0,none⟩) (txs [s]):=Rd.of_block wr 9 (0,0) rfl
     obtain⟨N,hN⟩:∃z,Hid ((txtP l (a.take i)).length=z):=⟨_,rfl⟩
     have ho:=hSL.own
     rw[hN.out] at hln ho
     clear hS hxL
     go_wp2_with (
      refine wpList_app el_st _ rfl (.tmp 22) (.tmp 28) rfl q V N (txs (txtP l (a.take i))) rfl ho (some ⟨wr.heap.size,0,none⟩) 1 1 (txs [s]) rfl hrv rfl (fun h=>by cases h) (txs_one _) (by omega) (by omega) hqL (fun V' W' ho' hg' hv'=>?_)
      have hnx:=hSL.hit (by rw[hq.out];exact Nat.le_refl _) Hme.out He.out (by rw[hN.out,hs.out];exact ho') hg'
      clear ho' hg' hv' hSL hrv hqL ho)
     go_roundw
     case rel=>exact⟨i+1,by omega,by go_num,hnx⟩
     case measure=>simp[intOf]<;>omega
    ·have hkn':¬(k:Int)<(n:Int):=by omega
     have hnx:=hS.miss Hme.out (by have:=Hn.out;omega)
     clear hS
     go_wp2_with fail
     go_roundw
     case rel=>exact⟨i+1,by omega,by go_num,hnx⟩
     case measure=>simp[intOf]<;>omega
   ·have hnx:=hS.miss Hme.out (by omega)
    clear hS
    go_wp2_with fail
    go_roundw
    case rel=>exact⟨i+1,by omega,by go_num,hnx⟩
    case measure=>simp[intOf]<;>omega
  ·obtain rfl:i=m:=by omega
   have hf:=fin.out V wr hS
   clear hS
   go_wp2_with fail
   exact hf
theorem rTexts_any (A:Option Addr) (n c:Nat) (l:List Et) (B:Option Addr) (m d:Nat) (a:List Int) (w:World) (hr:Rd w A (entsZ l)) (hn:l.length=n) (hra:Rd w B (a.map (Value.int .i64))) (hm:a.length=m) (hn1:n≤1048576) (hm1:m≤1048576) :
  Calls Tryz.prog 36 #[.slice A n c,.slice B m d] w fun en w'=>(∃A' c',en=.returned (.slice A' (txtP l a).length c')∧Rd w' A' (txs (txtP l a)))∧Ext w w':=by
 obtain⟨PO,hPO⟩:∃PO:Ending→World→Prop,Hid ((fun en w'=>(∃A' c',en=.returned (.slice A' (txtP l a).length c')∧Rd w' A' (txs (txtP l a)))∧Ext w w')=PO):=⟨_,Lib.hid rfl⟩
 rw[hPO.out]
 have fin:∀V W,TS w.heap.size w l a m V W→PO (.returned V) W:=fun V W h=>by
  obtain⟨A',c',rfl,h2⟩:=h.fin hm
  rw[←hPO.out]
  exact⟨⟨A',c',rfl,h2⟩,h.x⟩
 replace fin:=Lib.hid fin
 have Hn:=Lib.hid hn
 have Hm:=Lib.hid hm
 clear hn hm
 have hS0:TS w.heap.size w l a 0 (.slice (some ⟨w.heap.size,0,none⟩) 0 0) (w.alloc (.cells #[] 9)):=⟨World.ownsRow_lit w #[] 0 (Nat.le_refl _) (Nat.zero_le _) rfl,(Ext.refl w).alloc _⟩
 obtain⟨w1,hw1⟩:∃z,Hid (w.alloc (.cells #[] 9)=z):=⟨_,rfl⟩
 obtain⟨q,hq⟩:∃z,Hid (w.heap.size=z):=⟨_,rfl⟩
 rw[hq.out] at fin hS0
 rw[hw1.out] at hS0
 go_enter Tryz.func36,Tryz.ntmps36
 go_wp2_with fail
 rw[hw1.out,hq.out]
 go_loopw [5,6,8,9,10,11,12,13,14,15,16,17,18,19,20,21,22,23,24,25,26,27,28,29,30,31,32,33,34,35,36,37,38] (fun v5 v6 v8 v9 v10 v11 v12 v13 v14 v15 v16 v17 v18 v19 v20 v21 v22 v23 v24 v25 v26 v27 v28 v29 v30 v31 v32 v33 v34 v35 v36 v37 v38 wr=>∃i:Nat,i≤m∧v6=.int .i64 (i:Int)∧TS q w l a i v5 wr) (fun _ v6 _ _ _ _ _ _ _ _ _ _ _ _ _ _ _ _ _ _ _ _ _ _ _ _ _ _ _ _ _ _ _ _=>m-(intOf v6).toNat)
 case atStart=>exact⟨0,Nat.zero_le _,rfl,hS0⟩
 case round=>
  obtain⟨i,hi,rfl,hS⟩:=hrel
  obtain⟨V,hV⟩:∃z,z=u5:=⟨_,rfl⟩
  rw[←hV] at hS ⊢
  clear hV hS0
  by_cases hin:i<m
  ·have hin':(i:Int)<(m:Int):=by omega
   obtain⟨x,hme⟩:∃z,a[i]?=some z:=⟨_,List.getElem?_eq_getElem (by have:=Hm.out;omega)⟩
   obtain⟨b,off,rfl,hzz,hc⟩:=(hra.ext hS.x).at_ (k:=i) (by simp only[List.length_map];have:=Hm.out;omega)
   clear hzz
   have hck:wr.cell? ⟨b,off+i,none⟩=some (.int .i64 x):=hc i _ (by simp[hme])
   clear hc
   have Hme:=Lib.hid hme
   clear hme
   by_cases hx0:0≤x
   ·obtain⟨k,rfl⟩:∃k:Nat,x=(k:Int):=⟨x.toNat,by omega⟩
    by_cases hkn:k<n
    ·have hkn':(k:Int)<(n:Int):=by omega
     obtain⟨e,he⟩:∃z,l[k]?=some z:=⟨_,List.getElem?_eq_getElem (by have:=Hn.out;omega)⟩
     have He:=Lib.hid he
     obtain⟨b2,o2,rfl,hzz,hc2⟩:=(hr.ext hS.x).at_ (k:=k*4+2) (by rw[entsZ_len];have:=Hn.out;omega)
     clear hzz
     have hc4:wr.cell? ⟨b2,o2+k*4+2,none⟩=some (.string e.s):=by
      have:=hc2 (k*4+2) (.string e.s) (by rw[entsZ_at l k e he 2 (by omega)];rfl)
      rw[Nat.add_assoc];exact this
     clear hc2 he
     obtain⟨s,hs⟩:∃z,Hid (e.s=z):=⟨_,rfl⟩
     rw[hs.out] at hc4
     have hxL:Ext wr (wr.alloc (.cells #[.string s] 9)):=(Ext.refl wr).alloc _
     have hSL:=hS.ext hxL
     have hln:=hS.len
     rw[Hm.out] at hln
     have hqL:q≤(wr.alloc (.cells #[.string s] 9)).heap.size:=by rw[←hq.out];exact hSL.x.size
     have hrv:Rd (wr.alloc (.cells #[.string s] 9)) (some ⟨wr.heap.size,0,none⟩) (txs [s]):=Rd.of_block wr 9 (0,0) rfl
     obtain⟨N,hN⟩:∃z,Hid ((txtP l (a.take i)).length=z):=⟨_,rfl⟩
     have ho:=hSL.own
     rw[hN.out] at hln ho
     clear hS hxL
     go_wp2_with (
      refine wpList_app el_st _ rfl (.tmp 28) (.tmp 37) rfl q V N (txs (txtP l (a.take i))) rfl ho (some ⟨wr.heap.size,0,none⟩) 1 1 (txs [s]) rfl hrv rfl (fun h=>by cases h) (txs_one _) (by omega) (by omega) hqL (fun V' W' ho' hg' hv'=>?_)
      have hnx:=hSL.hit (by rw[hq.out];exact Nat.le_refl _) Hme.out He.out (by rw[hN.out,hs.out];exact ho') hg'
      clear ho' hg' hv' hSL hrv hqL ho)
     go_roundw
     case rel=>exact⟨i+1,by omega,by go_num,hnx⟩
     case measure=>simp[intOf]<;>omega
    ·have hkn':¬(k:Int)<(n:Int):=by omega
     have hnx:=hS.miss Hme.out (by have:=Hn.out;omega)
     clear hS
     go_wp2_with fail
     go_roundw
     case rel=>exact⟨i+1,by omega,by go_num,hnx⟩
     case measure=>simp[intOf]<;>omega
   ·have hnx:=hS.miss Hme.out (by omega)
    clear hS
    go_wp2_with fail
    go_roundw
    case rel=>exact⟨i+1,by omega,by go_num,hnx⟩
    case measure=>simp[intOf]<;>omega
  ·obtain rfl:i=m:=by omega
   have hf:=fin.out V wr hS
   clear hS
   go_wp2_with fail
   exact hf
theorem textsLaw_any (A:Option Addr) (n c:Nat) (l:List Et) (B:Option Addr) (m d:Nat) (a:List Int) (w:World) (hr:Rd w A (entsZ l)) (hn:l.length=n) (hA:A=none→c=0) (hra:Rd w B (a.map (Value.int .i64))) (hm:a.length=m) (hB:B=none→d=0) (hn1:n≤1048576) (hm1:m≤1048576) (hwd:Wd w) (hpow:Pow w) (hN:Nms w) :
  Calls Tryz.prog 12 #[.slice A n c,.slice B m d] w fun en w'=>en=.returned (.bool true)∧Ext w w':=by
 have hT:=fun A' c' B' d' W (hW:Ext w W) (h1:Rd W A' (entsZ l)) (h2:Rd W B' (a.map (Value.int .i64)))=>Texts_any A' n c' l B' m d' a W h1 hn h2 hm hn1 hm1
 have hR:=fun W (hW:Ext w W)=>rTexts_any A n c l B m d a W (hr.ext hW) hn (hra.ext hW) hm hn1 hm1
 have hli:=fun W (hW:Ext w W)=>lives12_any W (hwd.ext hW) (hpow.ext hW) (hN.ext hW)
 have hlen:=txtP_len l a
 have hSm:=fun A' c' B' d' W (h1:Rd W A' (txs (txtP l a))) (h2:Rd W B' (txs (txtP l a)))=>same_any (txtP l a) (txtP l a).length A' B' c' d' W rfl (by omega) h1 h2
 obtain⟨TL,hTL⟩:∃z,Hid (txs (txtP l a)=z):=⟨_,rfl⟩
 obtain⟨K,hK⟩:∃z,Hid ((txtP l a).length=z):=⟨_,rfl⟩
 simp only[hTL.out,hK.out] at hT hR hSm
 have el:=entsZ_len l
 rw[hn] at el
 have ea:(a.map (Value.int .i64)).length=m*1:=by rw[List.length_map,hm,Nat.mul_one]
 obtain⟨PO,hPO⟩:∃PO:Ending→World→Prop,Hid ((fun en w'=>en=.returned (.bool true)∧Ext w w')=PO):=⟨_,Lib.hid rfl⟩
 have fin:∀W,Ext w W→PO (.returned (.bool true)) W:=fun W hW=>by rw[←hPO.out];exact⟨rfl,hW⟩
 rw[hPO.out]
 replace fin:=Lib.hid fin
 replace hT:=Lib.hid hT
 replace hR:=Lib.hid hR
 replace hli:=Lib.hid hli
 replace hSm:=Lib.hid hSm
 replace hA:=Lib.hid hA
 replace hB:=Lib.hid hB
 have hlit:(w.alloc (.cells #[] 93)).ownsRow 0 93 4 (.slice (some ⟨w.heap.size,0,none⟩) 0 0) 0 []:=World.ownsRow_lit w #[] 0 (Nat.zero_le _) (Nat.zero_le _) rfl
 have hxa:Ext w (w.alloc (.cells #[] 93)):=(Ext.refl w).alloc _
 have hrl:=hr.ext hxa
 clear hn hm hlen
 go_enter Tryz.func12,Tryz.ntmps12
 go_wp2_with (first
  | (refine wpList_app0 el_ent _ rfl (.tmp 5) (.tmp 6) rfl 0 w.heap.size rfl hlit A n c (entsZ l) rfl hrl el hA.out (by omega) (by omega) (Nat.zero_le _) (fun v1 w1 ho1 hx1 => ?_)
     obtain⟨A1,c1,rfl,r1⟩:=Rd.of_own ho1
     have q1:Rd w1 A1 (entsZ l):=by obtain⟨x1,x2,x3,x4⟩:=r1;first|exact x1|exact x2|exact x3|exact x4
     have hy1:=hxa.trans hx1
     have hxb:Ext w1 (w1.alloc (.cells #[] 3)):=(Ext.refl w1).alloc _
     have hlit2:(w1.alloc (.cells #[] 3)).ownsRow 0 3 1 (.slice (some ⟨w1.heap.size,0,none⟩) 0 0) 0 []:=World.ownsRow_lit w1 #[] 0 (Nat.zero_le _) (Nat.zero_le _) rfl
     have hra2:=hra.ext (hy1.trans hxb)
     clear r1 ho1)
  | (refine wpList_app0 el_in _ rfl (.tmp 8) (.tmp 9) rfl 0 w1.heap.size rfl hlit2 B m d (a.map (Value.int .i64)) rfl hra2 ea hB.out (by omega) (by omega) (Nat.zero_le _) (fun v2 w2 ho2 hx2 => ?_)
     obtain⟨A2,c2,rfl,r2⟩:=Rd.of_own ho2
     have q2:Rd w2 A2 (a.map (Value.int .i64)):=by obtain⟨x1,x2,x3,x4⟩:=r2;first|exact x1|exact x2|exact x3|exact x4
     have hy2:=hy1.trans (hxb.trans hx2)
     have hcT:=hT.out A1 c1 A2 c2 w2 hy2 (q1.ext (hxb.trans hx2)) q2
     clear r2 ho2 q1 q2))
 refine hcT.mono ?_
 rintro en w3 ⟨⟨A3,c3,rfl,q3⟩,hx3⟩
 have hy3:=hy2.trans hx3
 have hcR:=hR.out w3 hy3
 replace q3:=Lib.hid q3
 clear hcT
 go_wp2_with fail
 refine hcR.mono ?_
 rintro en w4 ⟨⟨A4,c4,rfl,q4⟩,hx4⟩
 have hy4:=hy3.trans hx4
 have hcS:=hSm.out A3 c3 A4 c4 w4 (q3.out.ext hx4) q4
 clear hcR q3 q4
 go_wp2_with fail
 refine hcS.mono ?_
 rintro en w5 ⟨rfl,hx5⟩
 have hl5:=hli.out w5 (hy4.trans hx5)
 clear hcS
 go_wp2_with fail
 refine hl5.mono ?_
 rintro en w6 ⟨rfl,hx6⟩
 have hf:=fin.out w6 (hy4.trans (hx5.trans hx6))
 go_wp2_with fail
 exact hf
theorem textsLaw_sl (l:List Et) (a:List Int) (v0 v1:Value) (w:World) (h0:Sl w.heap.size w v0 l.length (entsZ l)) (h1:Sl w.heap.size w v1 a.length (a.flatMap fun n=>[Value.int .i64 n])) (hn1:l.length≤1048576) (hm1:a.length≤1048576) (hwd:Wd w) (hpow:Pow w) (hN:Nms w) :
  Calls Tryz.prog 12 #[v0,v1] w fun en w'=>en=.returned (.bool true)∧Ext w w':=by
 have e:(a.flatMap fun n=>[Value.int .i64 n])=a.map (Value.int .i64):=by
  clear h1 hm1
  induction a with
  | nil=>rfl
  | cons x l ih=>simp[ih]
 rw[e] at h1
 obtain⟨A,c,rfl,r1,_,_,_,a1⟩:=h0
 obtain⟨B,d,rfl,r2,_,_,_,a2⟩:=h1
 exact textsLaw_any A l.length c l B a.length d a w r1 rfl a1 r2 rfl a2 hn1 hm1 hwd hpow hN
end Go.Proofs.YtmaoochjbpohdaaGreatDoor.Pl
namespace Go.Proofs.YtmaoochjbpohdaaGreatDoor.Pl
open Go.ChangeShapes Go.WideShapes Go.ChangeAt Go.RowKit
open Base Pr
theorem gNames:Tryz.prog.globalNamed "suffragan/policy.names" = some 0:=by kernel_rfl
abbrev laidL12:List (String×DataW Unit):=[("math/bits.deBruijn32tab",Rows.laid_math_bits_deBruijn32tab),("math/bits.deBruijn64tab",Rows.laid_math_bits_deBruijn64tab),("internal/strconv.uint64pow10",Rows.laid_internal_strconv_uint64pow10),("suffragan/parse.words",Rows.laid_suffragan_parse_words),("suffragan/policy.names",Rows.laid_suffragan_policy_names)]
theorem words_any {W:World} {rest:List (String×DataW Unit)} (h:laidMet Tryz.prog (("suffragan/parse.words",Rows.laid_suffragan_parse_words)::rest) W):Wd W:=by
 obtain⟨ps,⟨g',t',cs,fuel,p,q,hg',ht',hvar,hd,_,_⟩,_⟩:=h
 obtain rfl:=Option.some.inj (gWords.symm.trans hg')
 obtain rfl:162=t':=Option.some.inj ((show (Tryz.prog.globals[1]?).map (·.type)=some 162 by kernel_rfl).symm.trans ht')
 have hcs:=cells_of_texts (ss:=wordsD) (e:=9) (n:=12) (by kernel_rfl) Tryz.underlying9 (by kernel_rfl) (by kernel_rfl) hd
 intro _
 refine⟨1,0,rfl,fun j u hj=>?_⟩
 have:(wordsD.map fun s=>Value.string ⟨s.toArray⟩)=txs wordsL:=by kernel_rfl
 rw[this] at hcs
 rw[Nat.zero_add,World.var?_cell gWords hvar j,←hj,←hcs]
 simp
def namesD:List (List UInt8):=namesL.map fun s=>s.data.toList
theorem names_any {W:World} {rest:List (String×DataW Unit)} (h:laidMet Tryz.prog (("suffragan/policy.names",Rows.laid_suffragan_policy_names)::rest) W):Nms W:=by
 obtain⟨ps,⟨g',t',cs,fuel,p,q,hg',ht',hvar,hd,_,_⟩,_⟩:=h
 obtain rfl:=Option.some.inj (gNames.symm.trans hg')
 obtain rfl:90=t':=Option.some.inj ((show (Tryz.prog.globals[0]?).map (·.type)=some 90 by kernel_rfl).symm.trans ht')
 have hcs:=cells_of_texts (ss:=namesD) (e:=9) (n:=7) (by kernel_rfl) Tryz.underlying9 (by kernel_rfl) (by kernel_rfl) hd
 intro _
 refine⟨0,0,rfl,fun j u hj=>?_⟩
 have:(namesD.map fun s=>Value.string ⟨s.toArray⟩)=txs namesL:=by kernel_rfl
 rw[this] at hcs
 rw[Nat.zero_add,World.var?_cell gNames hvar j,←hj,←hcs]
 simp
theorem tabs12 {W:World} (h:laidMetH Tryz.prog laidL12 W):Wd W∧Pow W∧Nms W:=by
 have h':laidMet Tryz.prog laidL12 W:=h
 have h2:=laidMet.tail (laidMet.tail h')
 have h3:=laidMet.tail h2
 have h4:=laidMet.tail h3
 exact⟨words_any h3,Lib.tabIs_of_head (t:=187) (e:=91) (n:=20) (zs:=Lib.pow10Tab) powG (by kernel_rfl) (by kernel_rfl) Tryz.underlying91 (by kernel_rfl) (by kernel_rfl) h2,names_any h4⟩
noncomputable def laidWorld (os:Os):World:=
 { World.holding Tryz.prog os ⟨#[],#[],[]⟩ with heap:=(((((World.holding Tryz.prog os ⟨#[],#[],[]⟩).heap.modify 1 (lay (txs wordsL).toArray)).modify 3 (lay (pow10Ints.map (Value.int .u64)).toArray)).modify 4 (lay (Pr.u8sI tab32))).modify 5 (lay (Pr.u8sI tab64))).modify 0 (lay (txs namesL).toArray) }
end Go.Proofs.YtmaoochjbpohdaaGreatDoor.Pl
namespace Go.Proofs.YtmaoochjbpohdaaGreatDoor.Args
open Go.ChangeShapes Go.WideShapes Go.ChangeAt Go.RowKit
open Go.ChangeMaps (open_string shut_string)
open Base
theorem bytes_arg {H:Type} {enc:TypeId×Value→H} {P:Program} {W:World} {base t e:Nat} (hu:P.underlying t=some (.slice e)) (he:P.underlying e=some (.int .u8)) (hc:P.cellsOf e=1)
  {v:Value} {d:DataW H} {p:List MemPlace} (hv:Value.okWide P W .any base t v) (h:DataW.Trod enc P W 0 (fun _=>true) true t v d p) :
  ∃A n c l,v=.slice A n c∧l.length=n∧Rb W A l∧n≤c∧c≤maxLen∧(A=none→c=0)∧((d=.nil∧n=0)∨∃el sp,d=.slice el sp∧el.length=n∧sp.length=c-n):=by
 obtain⟨A,n,c,rfl⟩:=okWide_slice hu hv
 obtain⟨fuel,hf⟩:=h
 rcases open_ints hu he hc hf with⟨hcs,hx⟩|⟨x,l,c',zs,hcs,_,hl,hm,hz,hx,hcell,hwz⟩
 ·simp[Value.cells] at hcs
  obtain⟨rfl,rfl,rfl⟩:=hcs
  exact⟨none,0,0,[],rfl,rfl,Rd.nil _ _,Nat.le_refl _,Nat.zero_le _,fun _=>rfl,.inl ⟨by simpa using congrArg Prod.fst hx,rfl⟩⟩
 ·simp[Value.cells] at hcs
  obtain⟨rfl,rfl,rfl⟩:=hcs
  simp at hz
  have hd:=congrArg Prod.fst hx
  simp only at hd
  have hb:∀z∈zs,0≤z∧z≤255:=fun z hz=>by simpa [Lit.wf,IntKind.min,IntKind.max,IntKind.signed,IntKind.bits] using hwz z hz
  refine⟨some x,n,c,(zs.take n).map fun z=>UInt8.ofNat z.toNat,rfl,by simp;omega,?_,hl,hm,(fun e=>by cases e),.inr ⟨_,_,hd,by simp[lits];omega,by simp[lits];omega⟩⟩
  intro hne
  have hpos:0<n:=by
   rcases Nat.eq_zero_or_pos n with h|h
   ·subst h;simp[u8s] at hne
   ·exact h
  obtain⟨b,off,rfl,hc'⟩:=ints_at hcell (by omega)
  refine⟨b,off,rfl,fun j u hj=>?_⟩
  have hjl:j<n:=by
   rcases Nat.lt_or_ge j n with h|h
   ·exact h
   ·rw[List.getElem?_eq_none (by simp[u8s];omega)] at hj;cases hj
  have h1:=hc' j (by omega)
  rw[h1]
  have h2:zs[j]?=some zs[j]:=List.getElem?_eq_getElem (by omega)
  have h3:=hb zs[j] (List.getElem_mem _)
  simp only[u8s,List.getElem?_map,List.getElem?_take,hjl,if_true,h2,Option.map_some,Option.some.injEq] at hj
  rw[←hj]
  simp only[List.getD,h2,Option.getD_some,UInt8.toNat_ofNat']
  congr 1
  congr 1
  omega
theorem bytes_reach {H:Type} {P:Program} {ts:List TypeId} {ds:List (DataW H)} (h:(DataW.weightsEach P ts ds).all (· ≤ reachBytes)=true) {j t e:Nat} {d:DataW H} {n c:Nat}
  (ht:ts[j]?=some t) (hd:ds[j]?=some d) (hu:P.underlying t=some (.slice e)) (hb:P.bytesOf e=1) (hw:(d=.nil∧n=0)∨∃el sp,d=.slice el sp∧el.length=n∧sp.length=c-n):n≤140737488351232:=by
 rcases hw with⟨_,rfl⟩|⟨el,sp,rfl,h1,h2⟩
 ·omega
 ·have:=sized_slice h ht hd hu
  rw[hb] at this
  simp only[reachBytes] at this
  omega
theorem string_reach {H:Type} {P:Program} {ts:List TypeId} {ds:List (DataW H)} (h:(DataW.weightsEach P ts ds).all (· ≤ reachBytes)=true) {j t:Nat} {s:ByteArray}
  (ht:ts[j]?=some t) (hd:ds[j]?=some (.lit (.string s.data.toList))):s.size≤140737488351232:=by
 have:=sized_string h ht hd
 simp only[reachBytes] at this
 have e:s.data.toList.length=s.size:=Array.length_toList
 omega
theorem bulk_le {H:Type} {l:List (DataW H)} (hk:Rows.uptoSmall H l=true):Rows.uptoBulkAll l≤1048576:=of_decide_eq_true hk
theorem bulk_one {H:Type} (d:DataW H):1≤Rows.uptoBulk d:=by
 cases d with
 | lit l=>cases l<;>simp[Rows.uptoBulk]
 | nil=>simp[Rows.uptoBulk]
 | ptr d=>simp[Rows.uptoBulk]
 | slice elems spare=>simp[Rows.uptoBulk]
 | agg parts=>simp[Rows.uptoBulk]
 | iface t d=>simp[Rows.uptoBulk]
 | map entries=>simp[Rows.uptoBulk]
 | held h=>simp[Rows.uptoBulk]
theorem bulk_at {H:Type} {l:List (DataW H)} {b:Nat} (h:Rows.uptoBulkAll l≤b) {j:Nat} {d:DataW H} (hd:l[j]?=some d):Rows.uptoBulk d≤b:=by
 induction l generalizing j b with
 | nil=>simp at hd
 | cons x r ih=>
  simp only[Rows.uptoBulkAll] at h
  cases j with
  | zero=>simp only[List.getElem?_cons_zero,Option.some.injEq] at hd;subst hd;omega
  | succ j=>simp only[List.getElem?_cons_succ] at hd;have:=ih (b:=b-Rows.uptoBulk x) (by omega) hd;omega
theorem bulk_length {H:Type} (l:List (DataW H)):l.length≤Rows.uptoBulkAll l:=by
 induction l with
 | nil=>simp[Rows.uptoBulkAll]
 | cons x r ih=>have:=bulk_one x;simp only[Rows.uptoBulkAll,List.length_cons];omega
theorem bytes_bulk {H:Type} {ds:List (DataW H)} {b:Nat} (h:Rows.uptoBulkAll ds≤b) {j:Nat} {d:DataW H} {n c:Nat} (hd:ds[j]?=some d)
  (hw:(d=.nil∧n=0)∨∃el sp,d=.slice el sp∧el.length=n∧sp.length=c-n):n≤b:=by
 have h1:=bulk_at h hd
 rcases hw with⟨_,rfl⟩|⟨el,sp,rfl,h2,h3⟩
 ·omega
 ·have:=bulk_length el
  simp only[Rows.uptoBulk] at h1
  omega
theorem string_bulk {H:Type} {ds:List (DataW H)} {b:Nat} (h:Rows.uptoBulkAll ds≤b) {j:Nat} {s:ByteArray} (hd:ds[j]?=some (.lit (.string s.data.toList))):s.size≤b:=by
 have h1:=bulk_at h hd
 simp only[Rows.uptoBulk] at h1
 have e:s.data.toList.length=s.size:=Array.length_toList
 omega
theorem plain_addr {w:World} {a:Addr} {v:Value} (h:w.cell? a=some v):a=⟨a.block,a.off,none⟩:=by
 unfold World.cell? at h
 cases hs:a.spot with
 | none=>cases a;simp at hs;subst hs;rfl
 | some k=>simp[hs] at h;split at h<;>simp at h
theorem Addr.add_zero' (a:Addr):a.add 0=a:=by simp[Addr.add]
theorem strs_arg {H:Type} {enc:TypeId×Value→H} {P:Program} {W:World} {base t e:Nat} (hu:P.underlying t=some (.slice e)) (he:P.underlying e=some .string) (hc:P.cellsOf e=1)
  {v:Value} {d:DataW H} {p:List MemPlace} (hv:Value.okWide P W .any base t v) (h:DataW.Trod enc P W 0 (fun _=>true) true t v d p) :
  ∃A n c l,v=.slice A n c∧l.length=n∧Rd W A (txs l)∧n≤c∧c≤maxLen∧(A=none→c=0)∧(∀s∈l,s.size≤maxLen)∧((d=.nil∧n=0)∨∃sp,d=.slice (l.map fun s=>.lit (.string s.data.toList)) sp∧sp.length=c-n):=by
 obtain⟨A,n,c,rfl⟩:=okWide_slice hu hv
 obtain⟨fuel,hf⟩:=h
 rcases open_strings hu he hc hf with⟨hcs,hx⟩|⟨x,l,c',ss,hcs,_,hl,hm,hz,hx,hcell,hws⟩
 ·simp[Value.cells] at hcs
  obtain⟨rfl,rfl,rfl⟩:=hcs
  exact⟨none,0,0,[],rfl,rfl,Rd.nil _ _,Nat.le_refl _,Nat.zero_le _,fun _=>rfl,by simp,.inl ⟨by simpa using congrArg Prod.fst hx,rfl⟩⟩
 ·simp[Value.cells] at hcs
  obtain⟨rfl,rfl,rfl⟩:=hcs
  simp at hz
  have hd:=congrArg Prod.fst hx
  simp only at hd
  refine⟨some x,n,c,ss.take n,rfl,by simp;omega,?_,hl,hm,(fun e=>by cases e),(fun s hs=>hws s (List.mem_of_mem_take hs)),.inr ⟨_,by rw[hd];rfl,by rw[←hz];simp[ChangeShapes.strs]⟩⟩
  intro hne
  have hpos:0<ss.length:=by
   rcases Nat.eq_zero_or_pos ss.length with h|h
   ·have:ss=[]:=List.eq_nil_of_length_eq_zero h
    subst this;simp[txs] at hne
   ·exact h
  obtain⟨b,o,sp⟩:=x
  have hx0:=plain_addr (hcell 0 hpos)
  rw[Addr.add_zero'] at hx0
  simp only[Addr.mk.injEq,true_and] at hx0
  subst hx0
  refine⟨b,o,rfl,fun j u hj=>?_⟩
  have hjl:j<n∧j<ss.length:=by
   have:=(List.getElem?_eq_some_iff.1 hj).1
   simp[txs] at this
   omega
  have h1:=hcell j hjl.2
  have h2:(⟨b,o,none⟩:Addr).add j=⟨b,o+j,none⟩:=by
   unfold Addr.add;split<;>simp_all
  rw[←h2,h1]
  simp only[txs,List.getElem?_map,List.getElem?_take,hjl.1,if_true,List.getElem?_eq_getElem hjl.2,Option.map_some,Option.some.injEq] at hj
  rw[←hj]
  simp[List.getD,List.getElem?_eq_getElem hjl.2]
theorem arr2_arg {H:Type} {enc:TypeId×Value→H} {P:Program} {W:World} {base t e:Nat} (hu:P.underlying t=some (.array 2 e)) (he:P.underlying e=some (.int .u32)) (hc:P.cellsOf e=1) (hc2:P.cellsOf t=2)
  {v:Value} {d:DataW H} {p:List MemPlace} (hv:Value.okWide P W .any base t v) (h:DataW.Trod enc P W 0 (fun _=>true) true t v d p) :
  ∃x y,v=.agg #[.int .u32 x,.int .u32 y]∧(0≤x∧x≤4294967295)∧(0≤y∧y≤4294967295):=by
 obtain⟨cs,rfl,hsz,_⟩:∃cs,v=.agg cs∧cs.size=P.cellsOf t∧True:=by
  unfold Value.okWide at hv
  rw[hu] at hv
  obtain⟨cs,h1,h2,_⟩:=hv
  exact⟨cs,h1,h2,trivial⟩
 obtain⟨c0,c1,rfl⟩:∃c0 c1,cs = #[c0,c1]:=by
  rw[hc2] at hsz
  match cs,hsz with
  | ⟨[a,b]⟩,_=>exact⟨a,b,rfl⟩
 obtain⟨fuel,hf⟩:=h
 obtain⟨xs,m,_,_,_,hxl,hx⟩:=DataW.trod_array hu hf
 have h0:=hx 0 (by omega)
 have h1:=hx 1 (by omega)
 rw[hc] at h0 h1
 simp only[Value.cells,Nat.zero_mul,Nat.one_mul,List.drop_zero,List.drop_succ_cons,List.take_succ_cons,List.take_zero] at h0 h1
 match xs,hxl with
 | [y0,y1],_=>
  obtain⟨a,e0,_,wa⟩:=DataW.trod_int he h0
  obtain⟨b,e1,_,wb⟩:=DataW.trod_int he h1
  simp only[List.cons.injEq,and_true] at e0 e1
  subst e0 e1
  exact⟨a,b,rfl,by simpa [Lit.wf,IntKind.min,IntKind.max,IntKind.signed,IntKind.bits] using wa,by simpa [Lit.wf,IntKind.min,IntKind.max,IntKind.signed,IntKind.bits] using wb⟩
end Go.Proofs.YtmaoochjbpohdaaGreatDoor.Args
namespace Go.Proofs.YtmaoochjbpohdaaGreatDoor.Args
open Go.ChangeShapes Go.WideShapes Go.ChangeAt Go.RowKit
open Base Pr
structure Rdr {H α:Type} (enc:TypeId×Value→H) (P:Program) (W:World) (e:TypeId) (cells:α→List Value) (G:α→DataW H→Prop):Prop where
 rd:∀fuel cs D pl,DataW.trod enc P W 0 (fun _=>true) true fuel e cs=some (D,pl)→∃x,cs=cells x∧G x D
def Bk {H α:Type} (G:α→DataW H→Prop) (l:List α) (D:DataW H):Prop:=(D=.nil∧l=[])∨∃ds sp,D=.slice ds sp∧ds.length=l.length∧∀(i:Nat) x d,l[i]?=some x→ds[i]?=some d→G x d
theorem Bk.mono {H α:Type} {G G':α→DataW H→Prop} {l:List α} {D:DataW H} (h:Bk G l D) (hg:∀x d,G x d→G' x d):Bk G' l D:=by
 rcases h with h|⟨ds,sp,h1,h2,h3⟩
 ·exact .inl h
 ·exact .inr ⟨ds,sp,h1,h2,fun i x d a b=>hg _ _ (h3 i x d a b)⟩
theorem Bk.all {H α:Type} {G:α→DataW H→Prop} {l:List α} {D:DataW H} (h:Bk G l D):∀(i:Nat) x,l[i]?=some x→∃d,G x d:=by
 intro i x hx
 rcases h with⟨_,rfl⟩|⟨ds,sp,h1,h2,h3⟩
 ·simp at hx
 ·have hi:i<ds.length:=by rw[h2];exact (List.getElem?_eq_some_iff.1 hx).1
  exact⟨ds[i],h3 i x _ hx (List.getElem?_eq_getElem hi)⟩
theorem bulkAll_ge {H α:Type} {G:α→DataW H→Prop} {g:α→Nat} (hg:∀x d,G x d→g x≤Rows.uptoBulk d):∀(l:List α) (ds:List (DataW H)),ds.length=l.length→(∀(i:Nat) x d,l[i]?=some x→ds[i]?=some d→G x d)→(l.map g).sum≤Rows.uptoBulkAll ds
 | [],ds,_,_=>by simp
 | x::l,[],h,_=>by simp at h
 | x::l,d::ds,h,k=>by
  have h1:=hg x d (k 0 x d rfl rfl)
  have h2:=bulkAll_ge hg l ds (by simpa using h) (fun i y e a b=>k (i+1) y e (by simpa using a) (by simpa using b))
  simp only[List.map_cons,List.sum_cons,Rows.uptoBulkAll]
  omega
theorem Bk.bulk {H α:Type} {G:α→DataW H→Prop} {g:α→Nat} (hg:∀x d,G x d→g x≤Rows.uptoBulk d) {l:List α} {D:DataW H} (h:Bk G l D):(l.map g).sum+1≤Rows.uptoBulk D:=by
 rcases h with⟨rfl,rfl⟩|⟨ds,sp,rfl,h2,h3⟩
 ·simp[Rows.uptoBulk]
 ·have:=bulkAll_ge hg l ds h2 h3
  simp only[Rows.uptoBulk]
  omega
theorem flatMap_at {α:Type} {cells:α→List Value} {s:Nat} (hs:∀x,(cells x).length=s):∀(l:List α) (j:Nat) (x:α),l[j]?=some x→∀i,i<s→(l.flatMap cells)[j*s+i]?=(cells x)[i]?
 | [],j,x,h,i,hi=>by simp at h
 | y::l,0,x,h,i,hi=>by
  simp at h;subst h
  rw[List.flatMap_cons,List.getElem?_append_left (by rw[hs];omega)]
  congr 1;omega
 | y::l,j+1,x,h,i,hi=>by
  have ih:=flatMap_at hs l j x (by simpa using h) i hi
  have e:(j+1)*s=j*s+s:=Nat.succ_mul j s
  rw[List.flatMap_cons,List.getElem?_append_right (by rw[hs];omega),←ih]
  congr 1
  rw[hs];omega
theorem flatMap_len {α:Type} {cells:α→List Value} {s:Nat} (hs:∀x,(cells x).length=s) (l:List α):(l.flatMap cells).length=l.length*s:=by
 induction l with
 | nil=>simp
 | cons x l ih=>rw[List.flatMap_cons,List.length_append,hs,ih,List.length_cons,Nat.succ_mul];omega
theorem Rdr.slice {H α:Type} [Inhabited α] {enc:TypeId×Value→H} {P:Program} {W:World} {t e:TypeId} {cells:α→List Value} {G:α→DataW H→Prop} (h:Rdr enc P W e cells G) (hu:P.underlying t=some (.slice e)) {s:Nat} (hce:P.cellsOf e=s) (hs:∀x,(cells x).length=s) (hp:0<s) :
  Rdr enc P W t (fun x:Value×List α=>[x.1]) (fun x D=>Sl W.heap.size W x.1 x.2.length (x.2.flatMap cells)∧Bk G x.2 D):=by
 refine⟨fun fuel cs D pl hf=>?_⟩
 rcases Deep.open_slice hu hf with⟨rfl,hx⟩|⟨a,n,c,m,k,Ds,Pl,rfl,_,hl,hm,hmm,hx,hel⟩
 ·injection hx with hx _
  exact⟨(.slice none 0 0,[]),rfl,⟨none,0,rfl,Rd.nil _ _,fun h=>absurd rfl h,Nat.le_refl _,Nat.zero_le _,fun _=>rfl⟩,.inl ⟨hx,rfl⟩⟩
 ·have hmm:m=c:=by simpa using hmm
  subst hmm
  injection hx with hx _
  have hcell:∀j,j<n→∃x:α,(∀i,i<s→W.cell? (a.add (j*s+i))=(cells x)[i]?)∧G x (Ds j):=by
   intro j hj
   obtain⟨cs',g1,g2⟩:=hel j (by omega)
   rw[hce] at g1
   obtain⟨_,hlen,hc⟩:=World.cells?_some g1
   obtain⟨x,rfl,hg⟩:=h.rd _ _ _ _ g2
   refine⟨x,fun i hi=>?_,hg⟩
   have h4:=hc i hi
   rwa [Deep.add_add] at h4
  obtain⟨f,hfz⟩:=Deep.choose_lt hcell
  have hrd:Rd W (some a) (((List.range n).map f).flatMap cells):=by
   intro hne
   have hpos:0<n:=by
    rcases Nat.eq_zero_or_pos n with h|h
    ·rw[h] at hne;simp at hne
    ·exact h
   obtain⟨b,off,spot⟩:=a
   have hspot:spot=none:=by
    have h9:=(hfz 0 hpos).1 0 hp
    rw[List.getElem?_eq_getElem (by rw[hs];exact hp)] at h9
    simpa [Addr.add] using World.cell?_spot h9
   subst hspot
   refine⟨b,off,rfl,fun j u hj=>?_⟩
   have hjl:j<n*s:=by
    have:=(List.getElem?_eq_some_iff.1 hj).1
    rw[flatMap_len hs] at this
    simpa using this
   have hd:j / s<n:=by rw[Nat.div_lt_iff_lt_mul hp];exact hjl
   have hr:j%s<s:=Nat.mod_lt _ hp
   have hje:j / s*s+j%s=j:=by rw[Nat.mul_comm];exact Nat.div_add_mod j s
   have h5:=(hfz (j / s) hd).1 (j%s) hr
   rw[hje] at h5
   rw[←Go.WideShapes.add_plain,h5]
   have h6:=flatMap_at hs ((List.range n).map f) (j / s) (f (j / s)) (by simp[hd]) (j%s) hr
   rw[hje] at h6
   rw[←h6]
   exact hj
  refine⟨(.slice (some a) n m,(List.range n).map f),rfl,⟨some a,m,by simp,hrd,fun hne a' ha=>?_,by simpa using hl,hm,fun e=>by cases e⟩,.inr ⟨_,_,hx,by simp,fun i x d h1 h2=>?_⟩⟩
  ·injection ha with ha
   subst ha
   obtain⟨b,off,e1,h7⟩:=hrd hne
   injection e1 with e1
   subst e1
   have h8:0<(((List.range n).map f).flatMap cells).length:=List.length_pos_iff.2 hne
   have h9:=h7 0 _ (List.getElem?_eq_getElem h8)
   exact World.block_lt_of_cell? W _ h9
  ·have hi:i<n:=by have:=(List.getElem?_eq_some_iff.1 h1).1;simpa using this
   simp only[List.getElem?_map,List.getElem?_range hi,Option.map_some,Option.some.injEq] at h1 h2
   subst h1;subst h2
   exact (hfz i hi).2
theorem rdr_int {H:Type} {enc:TypeId×Value→H} {P:Program} {W:World} {t:TypeId} {k:IntKind} (hu:P.underlying t=some (.int k)):Rdr enc P W t (fun n:Int=>[.int k n]) (fun n D=>D=.lit (.int k n)∧(Lit.int k n).wf=true):=
 ⟨fun fuel cs D pl hf=>by
  obtain⟨z,e0,e1,w0⟩:=DataW.trod_int hu hf
  injection e1 with e1 _
  exact⟨z,e0,e1,w0⟩⟩
theorem rdr_string {H:Type} {enc:TypeId×Value→H} {P:Program} {W:World} {t:TypeId} (hu:P.underlying t=some .string):Rdr enc P W t (fun s:ByteArray=>[.string s]) (fun s D=>D=.lit (.string s.data.toList)∧s.size≤maxLen):=
 ⟨fun fuel cs D pl hf=>by
  obtain⟨z,e0,e1,w0⟩:=DataW.trod_string hu hf
  injection e1 with e1 _
  exact⟨z,e0,e1,w0⟩⟩
theorem rdr_bool {H:Type} {enc:TypeId×Value→H} {P:Program} {W:World} {t:TypeId} (hu:P.underlying t=some .bool):Rdr enc P W t (fun b:Bool=>[.bool b]) (fun b D=>D=.lit (.bool b)):=
 ⟨fun fuel cs D pl hf=>by
  obtain⟨z,e0,e1⟩:=DataW.trod_bool hu hf
  injection e1 with e1 _
  exact⟨z,e0,e1⟩⟩
end Go.Proofs.YtmaoochjbpohdaaGreatDoor.Args
namespace Go.Proofs.YtmaoochjbpohdaaGreatDoor.Args
open Go.ChangeShapes Go.WideShapes Go.ChangeAt Go.RowKit
open Base Pr Ch
instance:Inhabited Et:=⟨e0⟩
theorem cells_ent:Tryz.prog.cellsOf 93=4:=by kernel_rfl
def entD {H:Type} (e:Et):DataW H:=.agg [.lit (.bool e.pol),.lit (.int .i64 e.p),.lit (.string e.s.data.toList),.lit (.int .u64 (e.id:Int))]
structure EtIn (e:Et):Prop where
 p1 : -9223372036854775808≤e.p
 p2:e.p≤9223372036854775807
 id1:e.id<18446744073709551616
theorem rdr_ent {H:Type} {enc:TypeId×Value→H} {W:World}:Rdr enc Tryz.prog W 93 entC (fun e D=>D=entD e∧EtIn e):=by
 refine⟨fun fuel cs D pl hf=>?_⟩
 obtain⟨xs,m,_,hx,hl,hlen,hfs⟩:=DataW.trod_struct Tryz.underlying93 hf
 injection hx with hD _
 match xs,hlen with
 | [y0,y1,y2,y3],_=>
  have g0:=hfs 0 _ rfl
  have g1:=hfs 1 _ rfl
  have g2:=hfs 2 _ rfl
  have g3:=hfs 3 _ rfl
  have hl4:cs.length=4:=hl.trans cells_ent
  match cs,hl4 with
  | [c0,c1,c2,c3],_=>
   have g0:DataW.trod enc Tryz.prog W 0 (fun _=>true) true m 4 [c0]=some y0:=g0
   have g1:DataW.trod enc Tryz.prog W 0 (fun _=>true) true m 3 [c1]=some y1:=g1
   have g2:DataW.trod enc Tryz.prog W 0 (fun _=>true) true m 9 [c2]=some y2:=g2
   have g3:DataW.trod enc Tryz.prog W 0 (fun _=>true) true m 91 [c3]=some y3:=g3
   obtain⟨z0,e0,f0⟩:=(rdr_bool Tryz.underlying4).rd _ _ _ _ g0
   obtain⟨z1,e1,f1,b1⟩:=(rdr_int Tryz.underlying3).rd _ _ _ _ g1
   obtain⟨z2,e2,f2,_⟩:=(rdr_string Tryz.underlying9).rd _ _ _ _ g2
   obtain⟨z3,e3,f3,b3⟩:=(rdr_int Tryz.underlying91).rd _ _ _ _ g3
   injection e0 with e0 _
   injection e1 with e1 _
   injection e2 with e2 _
   injection e3 with e3 _
   subst e0;subst e1;subst e2;subst e3
   have b1 : -9223372036854775808≤z1∧z1≤9223372036854775807:=by simpa [Lit.wf,IntKind.min,IntKind.max,IntKind.signed,IntKind.bits] using b1
   have b3:0≤z3∧z3≤18446744073709551615:=by simpa [Lit.wf,IntKind.min,IntKind.max,IntKind.signed,IntKind.bits] using b3
   obtain⟨k,rfl⟩:∃k:Nat,z3=(k:Int):=⟨z3.toNat,by omega⟩
   refine⟨⟨z0,z1,z2,k⟩,rfl,?_,⟨b1.1,b1.2,by show k<_;omega⟩⟩
   rw[hD]
   simp only[List.map_cons,List.map_nil,f0,f1,f2,f3,entD]
theorem ent_arg {H:Type} {enc:TypeId×Value→H} {W:World} {base:Nat} {v:Value} {d:DataW H} {p:List MemPlace} (hv:Value.okWide Tryz.prog W .any base 93 v) (h:DataW.Trod enc Tryz.prog W 0 (fun _=>true) true 93 v d p) :
  ∃e,v=entV e∧d=entD e∧EtIn e:=by
 obtain⟨cs,rfl,hsz⟩:∃cs,v=.agg cs∧cs.size=4:=by
  unfold Value.okWide at hv
  rw[Tryz.underlying93] at hv
  obtain⟨cs,h1,h2,_⟩:=hv
  exact⟨cs,h1,h2.trans cells_ent⟩
 obtain⟨fuel,hf⟩:=h
 obtain⟨e,he,h1,h2⟩:=rdr_ent.rd _ _ _ _ hf
 refine⟨e,?_,h1,h2⟩
 have:cs.toList=entC e:=he
 unfold entV
 congr 1
 exact Array.ext' (by rw[this];rfl)
theorem ent_reach {H:Type} {ts:List TypeId} {ds:List (DataW H)} (h:(DataW.weightsEach Tryz.prog ts ds).all (· ≤ reachBytes)=true) {j:Nat} {e:Et}
  (ht:ts[j]?=some 93) (hd:ds[j]?=some (entD e)):e.s.size≤140737488351232:=by
 have hm:e.s.data.toList.length∈(entD (H:=H) e).weights Tryz.prog 93:=by
  unfold entD
  unfold DataW.weights
  rw[Tryz.underlying93]
  simp[DataW.weightsEach,DataW.weights]
 have:=of_decide_eq_true (List.all_eq_true.1 h _ (DataW.weights_mem_each ht hd _ hm))
 simp only[reachBytes] at this
 have e1:e.s.data.toList.length=e.s.size:=Array.length_toList
 omega
theorem ent_bulk {H:Type} {ds:List (DataW H)} {b:Nat} (h:Rows.uptoBulkAll ds≤b) {j:Nat} {e:Et} (hd:ds[j]?=some (entD e)):e.s.size≤b:=by
 have h1:=bulk_at h hd
 unfold entD at h1
 simp only[Rows.uptoBulk,Rows.uptoBulkAll] at h1
 have e1:e.s.data.toList.length=e.s.size:=Array.length_toList
 omega
theorem ents_arg {H:Type} {enc:TypeId×Value→H} {W:World} {base:Nat} {v:Value} {d:DataW H} {p:List MemPlace} (hv:Value.okWide Tryz.prog W .any base 52 v) (h:DataW.Trod enc Tryz.prog W 0 (fun _=>true) true 52 v d p) :
  ∃l,Sl W.heap.size W v l.length (l.flatMap entC)∧Bk (fun e D=>D=entD e∧EtIn e) l d:=by
 obtain⟨fuel,hf⟩:=h
 obtain⟨A,n,c,rfl⟩:=okWide_slice (e:=93) (by kernel_rfl) hv
 obtain⟨⟨v3,l3⟩,e3,s3,f3⟩:=(rdr_ent.slice (t:=52) (by kernel_rfl) (s:=4) (by kernel_rfl) (fun _=>rfl) (by omega)).rd _ _ _ _ hf
 have e3:Value.slice A n c=v3:=by simpa [Value.cells] using e3
 subst e3
 exact⟨l3,s3,f3⟩
theorem ents_reach {H:Type} {ts:List TypeId} {ds:List (DataW H)} (h:(DataW.weightsEach Tryz.prog ts ds).all (· ≤ reachBytes)=true) {j:Nat} {l:List Et} {d:DataW H}
  (ht:ts[j]?=some 52) (hd:ds[j]?=some d) (hb:Bk (fun e D=>D=entD e∧EtIn e) l d):l.length*40≤140737488351232:=by
 rcases hb with⟨_,rfl⟩|⟨es,sp,rfl,h2,h3⟩
 ·simp
 ·have:=sized_slice h ht hd (e:=93) (by kernel_rfl)
  have hby:Tryz.prog.bytesOf 93=40:=by kernel_rfl
  rw[hby] at this
  simp only[reachBytes] at this
  rw[←h2]
  have h5:es.length*40≤(es.length+sp.length)*40:=Nat.mul_le_mul_right _ (Nat.le_add_right _ _)
  omega
theorem intl_arg {H:Type} {enc:TypeId×Value→H} {W:World} {base:Nat} {v:Value} {d:DataW H} {p:List MemPlace} (hv:Value.okWide Tryz.prog W .any base 33 v) (h:DataW.Trod enc Tryz.prog W 0 (fun _=>true) true 33 v d p) :
  ∃l:List Int,Sl W.heap.size W v l.length (l.flatMap fun n=>[Value.int .i64 n])∧Bk (fun n D=>D=.lit (.int .i64 n)∧(Lit.int .i64 n).wf=true) l d:=by
 obtain⟨fuel,hf⟩:=h
 obtain⟨A,n,c,rfl⟩:=okWide_slice (e:=3) (by kernel_rfl) hv
 obtain⟨⟨v3,l3⟩,e3,s3,f3⟩:=((rdr_int Tryz.underlying3).slice (t:=33) (by kernel_rfl) (s:=1) (by kernel_rfl) (fun _=>rfl) (by omega)).rd _ _ _ _ hf
 have e3:Value.slice A n c=v3:=by simpa [Value.cells] using e3
 subst e3
 exact⟨l3,s3,f3⟩
theorem row_bulk {H α:Type} {ds:List (DataW H)} {b:Nat} (h:Rows.uptoBulkAll ds≤b) {j:Nat} {d:DataW H} (hd:ds[j]?=some d) {G:α→DataW H→Prop} {l:List α} (hk:Bk G l d):l.length≤b:=by
 have h1:=bulk_at h hd
 rcases hk with⟨_,rfl⟩|⟨el,sp,rfl,h2,h3⟩
 ·simp
 ·have:=bulk_length el
  simp only[Rows.uptoBulk] at h1
  omega
theorem flat_ints (l:List Int):(l.flatMap fun n=>[Value.int .i64 n])=l.map (Value.int .i64):=by induction l with
 | nil=>rfl
 | cons x l ih=>simp[ih]
end Go.Proofs.YtmaoochjbpohdaaGreatDoor.Args
namespace Go.Proofs.YtmaoochjbpohdaaGreatDoor.policyTextsUpto
open Go.ChangeShapes Go.WideShapes Go.ChangeAt Go.RowKit
open Go.ChangeMaps (open_string shut_string)
open Base Args
theorem own:ownKnob Tryz.prog.godebug=none:=by kernel_rfl
theorem laidOut:laidOutB Tryz.prog=true:=by kernel_rfl
theorem laid_met (os:Os):laidMet Tryz.prog Rows.policyTextsUptoRow.laid ((Pl.laidWorld os).forCall (fun _ _=>0) ⟨#[],#[.slice none 0 0,.slice none 0 0],[]⟩).memory:=
 laidMet_of_run' 8 (by kernel_rfl) (by kernel_rfl)
theorem reads (os:Os) {H:Type} (enc:TypeId×Value→H):∃places,DataW.whole enc Tryz.prog ((Pl.laidWorld os).forCall (fun _ _=>0) ⟨#[],#[.slice none 0 0,.slice none 0 0],[]⟩).memory Tryz.f12.params.toList Rows.policyTextsSpec.vars false (#[.slice none 0 0,.slice none 0 0]:Array Value).toList 8=some ([.nil,.nil],[],places):=
 ⟨[],by kernel_rfl⟩
theorem lifted (os:Os) (started:os.Started) (H:Type) (enc:TypeId×Value→H) (F:Stop.Interp) :
  ReturnsInHanded {} Tryz.checked os 12 .any ((Rows.OpenSpec.upto Rows.policyTextsSpec).preRow enc Tryz.prog Tryz.f12 Rows.policyTextsUptoRow.domain false Rows.policyTextsUptoRow.laid) (((Rows.OpenSpec.upto Rows.policyTextsSpec).at F).post enc Tryz.prog Tryz.f12 false true false false):=by
 obtain⟨places,hx⟩:=reads os enc
 refine returnsInHanded_of_row (C:=Tryz.checked) (s:=(Rows.OpenSpec.upto Rows.policyTextsSpec)) own started (by kernel_rfl) Tryz.func12
  (witness_row_at (enc:=enc) (C:=Tryz.checked) false (Pl.laidWorld os) #[.slice none 0 0,.slice none 0 0] rfl (by kernel_rfl) (by kernel_rfl) (by kernel_rfl)
   (OpenSpec.preRow_of_cond 8 hx (by kernel_rfl) (fun k hk=>by cases hk;kernel_rfl) (by kernel_rfl) (laid_met os))) ?_
 intro W base args ds gs before hval0 hW hcnd hk0 hsz0 hL _ _
 have hk:=hk0 _ rfl
 have hval:∀(j:Nat) t v,Tryz.f12.params[j]?=some t→args[j]?=some v→Value.okWide Tryz.prog W .any base t v:=hval0
 have hW':=hW
 obtain⟨p,q,hAz,hV,rfl,hfz,hnd⟩:=hW
 have hA:DataW.TrodAll enc Tryz.prog W 0 (fun _=>true) true Tryz.f12.params.toList args.toList ds p:=hAz
 rw[Tryz.params12] at hA hval
 obtain⟨v0,vs0,d0,ds0,p0,q0,hargs,rfl,rfl,h0,r0⟩:=trodAll_cons hA
 obtain⟨v1,vs1,d1,ds1,p1,q1,rfl,rfl,rfl,h1,r1⟩:=trodAll_cons r0
 obtain⟨rfl,rfl,rfl⟩:=trodAll_nil r1
 obtain rfl:args = #[v0,v1]:=by cases args;simp_all
 obtain⟨rfl,rfl⟩:=trodVars_none hV
 have hbulk:=bulk_le hk
 have k0:=h0
 have lt0:∀x∈p0,x.block<W.heap.size:=by obtain⟨m,hm⟩:=k0;exact DataW.trod_lt m _ _ _ hm
 obtain⟨l0,hS0,hk0⟩:=ents_arg (hval 0 52 v0 rfl rfl) h0
 have hz0:l0.length≤1048576:=row_bulk hbulk (j:=0) rfl hk0
 have k1:=h1
 have lt1:∀x∈p1,x.block<W.heap.size:=by obtain⟨m,hm⟩:=k1;exact DataW.trod_lt m _ _ _ hm
 obtain⟨l1,hS1,hk1⟩:=intl_arg (hval 1 33 v1 rfl rfl) h1
 have hz1:l1.length≤1048576:=row_bulk hbulk (j:=1) rfl hk1
 clear hAz hval0
 refine (Pl.textsLaw_sl l0 l1 v0 v1 W hS0 hS1 hz0 hz1 (Pl.tabs12 hL).1 (Pl.tabs12 hL).2.1 (Pl.tabs12 hL).2.2).mono fun e W' ⟨he,bel⟩=>?_
 have bel:Below W.heap.size W W':=bel
 subst he
 exact⟨_,rfl,_,_,_,[],_,[],hW',trodAll_mk1 (shut_bool Tryz.underlying4 _),(trodAll_cons_mk (Below.trod laidOut (by kernel_rfl) (of_decide_eq_true (by kernel_rfl)) k0 bel lt0) (trodAll_cons_mk (Below.trod laidOut (by kernel_rfl) (of_decide_eq_true (by kernel_rfl)) k1 bel lt1) trodAll_mk0)),rfl,bel.frame _,fun h=>by cases h⟩
theorem said:Rows.PolicyTextsUptoSaid:=
 OpenClaim.holds_of_cond 12 Tryz.f12 rfl rfl rfl rfl rfl rfl rfl ⟨rfl,rfl,rfl,rfl,rfl⟩ rfl rfl rfl rfl rfl (by kernel_rfl) Tryz.func12 (by kernel_rfl)
  (of_decide_eq_true (by kernel_rfl)) (by unfold Func.isWrapper;first|(rw[if_pos (by decide +kernel)];kernel_rfl)|(rw[if_neg (by decide +kernel)];exact⟨rfl,rfl⟩))
  (fun os started H enc _ F=>by rw[OpenClaim.pre_eq_preRow];exact lifted os started H enc F)
theorem plain (f:FuncId) (fn:Func) (hf:Tryz.pinned.checked.prog.funcNamed "suffragan/suffraganlaw12.PolicyTexts" = some f) (hfn:Tryz.pinned.checked.prog.funcs[f]?=some fn) :
  true=Tryz.pinned.checked.prog.looks []∧∀(j:Nat) t,fn.params[j]?=some t→Tryz.pinned.checked.prog.wantsStandIn t=false:=by
 obtain rfl:f=12:=Option.some.inj ((show Tryz.prog.funcNamed "suffragan/suffraganlaw12.PolicyTexts" = some 12 by kernel_rfl).symm.trans hf) |>.symm
 obtain rfl:fn=Tryz.f12:=(Option.some.inj (Tryz.func12.symm.trans hfn)).symm
 refine⟨by kernel_rfl,fun j t ht=>?_⟩
 rw[Tryz.params12] at ht
 have hm:=Array.mem_of_getElem? ht
 simp only[Array.mem_def,List.mem_cons,List.mem_nil_iff,or_false] at hm
 rcases hm with rfl|rfl
 ·exact (show Tryz.prog.wantsStandIn 52=false by kernel_rfl)
 ·exact (show Tryz.prog.wantsStandIn 33=false by kernel_rfl)
theorem proved:Rows.PolicyTextsUptoCardSaid:=
 Claim7.holds_tied_plain_at .later [] _ _ _ _ said (fun _ h=>by cases h) (by kernel_rfl) (fun _ h=>by cases h) policyTextsUpto_row_tie rfl ⟨rfl,rfl⟩ (by kernel_rfl) rfl plain (by kernel_rfl)
#print axioms proved
end Go.Proofs.YtmaoochjbpohdaaGreatDoor.policyTextsUpto
