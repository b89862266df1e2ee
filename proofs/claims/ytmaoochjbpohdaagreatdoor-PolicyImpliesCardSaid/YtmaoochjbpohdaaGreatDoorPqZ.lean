/- policy: whether a policy holds of texts, whether one may follow: walked. -/
import Derived.Test.YtmaoochjbpohdaaGreatDoorPqY
import Derived.Deep.Upon
import Derived.Deep.AppendSrc
set_option linter.unusedVariables false
set_option linter.unusedSimpArgs false
set_option maxRecDepth 100000
set_option maxHeartbeats 1000000
open Go.ChangeShapes Go.WideShapes Go.ChangeAt Go.RowKit
namespace Go.Proofs.YtmaoochjbpohdaaGreatDoor
namespace Pl
open Base Lx Mi Pr Rv Cn
theorem isP_ok {s:ByteArray} (h:isP s=true):(parseP s).2.2=0:=by
 unfold isP formP at h
 simp only[Bool.and_eq_true,decide_eq_true_eq] at h
 by_cases h0:(parseP s).2.2=0
 ·exact h0
 ·rw[if_neg h0] at h;exact absurd h.1 h0
theorem schP_of {s:ByteArray} (h:isP s=true):schP s=(parseP s).1.map Nd.toE:=by unfold schP;rw[if_pos h]
theorem schP_len {s:ByteArray} (h:isP s=true):showLen (schP s)≤100000000:=by
 obtain⟨t,_,_,_,_,h5⟩:=back_plain' s (isP_ok h)
 rw[schP_of h];exact h5
theorem nd_ok {w:World} {v:Value} {s:ByteArray} (hs:isP s=true) (h:NdOk w (v,(parseP s).1)):SchOk w (v,schP s):=by
 obtain⟨B,vs,h⟩:=h
 exact⟨by show Sch w.heap.size w v (schP s);rw[schP_of hs];exact Sch.ofNds h (Nat.le_refl _) (parse_rng s),schP_len hs⟩
theorem schs_read {q:Nat} {w:World} {V:Value} {L:List (Value×List Nd)} {l:List ByteArray} (ho:w.ownsRow q 24 1 V l.length (L.map (·.1))) (hl:L.map (·.2)=l.map fun s=>(parseP s).1) (hk:∀x∈L,NdOk w x) (ha:l.all isP=true) :
  ∃A c L2,V=.slice A l.length c∧Rd w A (schZ L2)∧L2.length=l.length∧l.length≤c∧c≤maxLen∧(A=none→c=0)∧L2.map (·.2)=l.map schP∧∀x∈L2,SchOk w x:=by
 obtain⟨A,c,h1,h2,h3,h4,h5⟩:=Rd.of_own ho
 have hlen:L.length=l.length:=by have:=congrArg List.length hl;simpa using this
 have hA:A=none→c=0:=fun ha'=>by
  rcases ho.2 with⟨e2,_⟩|⟨g,cap,cur,e2,_⟩
  ·rw[h1] at e2;injection e2
  ·rw[h1,ha'] at e2;injection e2 with e2;cases e2
 refine⟨A,c,L.map fun x=>(x.1,x.2.map Nd.toE),h1,?_,by simpa using hlen,by first|exact h2|exact h3|exact h4,by first|exact h3|exact h4|exact h5,hA,?_,?_⟩
 ·have e:schZ (L.map fun x=>(x.1,x.2.map Nd.toE))=L.map (·.1):=by simp[schZ,Function.comp_def]
  rw[e]
  first|exact h2|exact h3|exact h4|exact h5
 ·have e:(L.map fun x=>(x.1,x.2.map Nd.toE)).map (·.2)=(L.map (·.2)).map (·.map Nd.toE):=by simp[Function.comp_def]
  rw[e,hl,List.map_map]
  refine List.map_congr_left fun s hs=>?_
  exact (schP_of (List.all_eq_true.1 ha s hs)).symm
 ·intro x hx
  obtain⟨y,hy,rfl⟩:=List.mem_map.1 hx
  have:y.2∈l.map fun s=>(parseP s).1:=by rw[←hl];exact List.mem_map.2 ⟨y,hy,rfl⟩
  obtain⟨s,hs,e⟩:=List.mem_map.1 this
  have hi:=List.all_eq_true.1 ha s hs
  have h6:=hk y hy
  obtain⟨y1,y2⟩:=y
  simp only at e
  subst e
  have h7:=nd_ok hi h6
  rw[schP_of hi] at h7
  exact h7
theorem Holds_any (p:Int) (A:Option Addr) (n c:Nat) (l:List ByteArray) (w:World) (hr:Rd w A (txs l)) (hn:l.length=n) (hl:n≤100000) (hz:∀s∈l,s.size≤140737488351232) (hwd:Wd w) (hpow:Pow w) :
  Calls Tryz.prog 26 #[.int .i64 p,.slice A n c] w fun en w'=>en=.returned (.bool (HoldsT p l))∧Ext w w':=by
 have hc:=schemas_any A n c l w hr hn hl hz hwd hpow
 obtain⟨PO,hPO⟩:∃PO:Ending→World→Prop,Hid ((fun en w'=>en=.returned (.bool (HoldsT p l))∧Ext w w')=PO):=⟨_,Lib.hid rfl⟩
 have fin:∀v W,Ext w W→HoldsT p l=v→PO (.returned (.bool v)) W:=fun v W hW h=>by rw[←hPO.out,h];exact⟨rfl,hW⟩
 rw[hPO.out]
 unfold HoldsT at fin
 replace fin:=Lib.hid fin
 clear hz hr
 have Hn:=Lib.hid hn
 clear hn
 go_enter Tryz.func26,Tryz.ntmps26
 go_wp2_with fail
 refine hc.mono ?_
 rintro en w2 ⟨hv,hx2⟩
 clear hc
 rcases hv with⟨ha,V,L,rfl,ho,hL,hk⟩|⟨ha,rfl⟩
 ·obtain⟨A',c',L2,rfl,g1,g2,g3,g4,g5,g6,g7⟩:=schs_read ho hL hk ha
  rw[Hn.out] at g2 g3 ⊢
  clear ho hL hk L
  have hi:=is_any p w2
  cases hp:polP p with
  | false=>
   rw[hp] at hi
   have hf:=fun W (hW:Ext w2 W)=>fin.out false W (hx2.trans hW) (by rw[hp];simp)
   replace hf:=Lib.hid hf
   clear hp g1 g2 g3 g4 g5 g6 g7
   go_wp2_with fail
   refine hi.mono ?_
   rintro en w3 ⟨rfl,hx3⟩
   have hff:=hf.out w3 hx3
   go_wp2_with fail
   exact hff
  | true=>
   rw[hp] at hi
   have hh:=fun W (hW:Ext w2 W)=>holds_any p hp A' n c' L2 W (g1.ext hW) g2 g3 g4 g5 hl (fun x hx=>(g7 x hx).ext hW) (hwd.ext (hx2.trans hW)) (hpow.ext (hx2.trans hW))
   rw[g6] at hh
   obtain⟨v,hv⟩:∃z,Hid (holdsP p (l.map schP)=z):=⟨_,rfl⟩
   simp only[hv.out] at hh
   have hf:=fun W (hW:Ext w2 W)=>fin.out v W (hx2.trans hW) (by rw[hp,ha,hv.out];simp)
   replace hf:=Lib.hid hf
   replace hh:=Lib.hid hh
   clear hp g1 g2 g3 g4 g5 g6 g7 ha
   go_wp2_with fail
   refine hi.mono ?_
   rintro en w3 ⟨rfl,hx3⟩
   have hh3:=hh.out w3 hx3
   clear hi
   go_wp2_with fail
   refine hh3.mono ?_
   rintro en w4 ⟨rfl,hx4⟩
   have hff:=hf.out w4 (hx3.trans hx4)
   go_wp2_with fail
   exact hff
 ·have hf:=fin.out false w2 hx2 (by rw[ha];simp)
  clear ha
  go_wp2_with fail
  exact hf
theorem Next_any (p:Int) (A:Option Addr) (n c:Nat) (l:List ByteArray) (s:ByteArray) (w:World) (hr:Rd w A (txs l)) (hn:l.length=n) (hl:n≤100000) (hz:∀s∈l,s.size≤140737488351232) (hs:s.size≤140737488351232) (hwd:Wd w) (hpow:Pow w) :
  Calls Tryz.prog 29 #[.int .i64 p,.slice A n c,.string s] w fun en w'=>en=.returned (.bool (NextT p l s))∧Ext w w':=by
 have hc:=schemas_any A n c l w hr hn hl hz hwd hpow
 have hsc:=fun W (hW:Ext w W)=>Schema_any s hs W (hwd.ext hW) (hpow.ext hW)
 obtain⟨PO,hPO⟩:∃PO:Ending→World→Prop,Hid ((fun en w'=>en=.returned (.bool (NextT p l s))∧Ext w w')=PO):=⟨_,Lib.hid rfl⟩
 have fin:∀v W,Ext w W→NextT p l s=v→PO (.returned (.bool v)) W:=fun v W hW h=>by rw[←hPO.out,h];exact⟨rfl,hW⟩
 rw[hPO.out]
 unfold NextT at fin
 replace fin:=Lib.hid fin
 clear hz hr
 have Hn:=Lib.hid hn
 clear hn
 replace hsc:=Lib.hid hsc
 go_enter Tryz.func29,Tryz.ntmps29
 go_wp2_with fail
 refine hc.mono ?_
 rintro en w2 ⟨hv,hx2⟩
 have hs2:=hsc.out w2 hx2
 clear hc hsc
 obtain⟨b,hb⟩:∃z,Hid (isP s=z):=⟨_,rfl⟩
 rw[hb.out] at hs2
 rcases hv with⟨ha,V,L,rfl,ho,hL,hk⟩|⟨ha,rfl⟩
 ·obtain⟨A',c',L2,rfl,g1,g2,g3,g4,g5,g6,g7⟩:=schs_read ho hL hk ha
  rw[Hn.out] at g2 g3 ⊢
  clear ho hL hk L
  have hrow:(∀x∈L2,SchOk w2 x)∧Rd w2 A' (schZ L2)∧L2.length=n∧n≤c'∧c'≤maxLen∧(A'=none→c'=0)∧L2.map (·.2)=l.map schP:=⟨g7,g1,g2,g3,g4,g5,g6⟩
  replace hrow:=Lib.hid hrow
  replace ha:=Lib.hid ha
  clear g1 g2 g3 g4 g5 g6 g7
  go_wp2_with fail
  refine hs2.mono ?_
  rintro en w3 ⟨vy,rfl,hSy,hx3⟩
  obtain⟨A3,n3,c3,rfl⟩:=Rv.Sch.slice hSy
  clear hs2
  obtain⟨w4,hw4⟩:∃z,Hid (w3.alloc (.cells #[.slice A3 n3 c3] 24)=z):=⟨_,rfl⟩
  have hx4:Ext w3 w4:=by rw[←hw4.out];exact (Ext.refl w3).alloc _
  obtain⟨q9,hq9⟩:∃z,Hid (w3.heap.size=z):=⟨_,rfl⟩
  have b9:Blk w4 q9 #[.slice A3 n3 c3] 24:=by rw[←hq9.out,←hw4.out];exact Blk.new w3 _ _
  have e9:∀W,Ext w4 W→W.cell? ⟨q9,0,none⟩=some (.slice A3 n3 c3):=fun W hW=>by have:=(b9.ext hW).cell 0;simpa using this
  replace e9:=Lib.hid e9
  have hx24:=hx3.trans hx4
  clear b9
  cases b with
  | false=>
   have hf:=fin.out false w4 (hx2.trans hx24) (by rw[hb.out];simp)
   clear hSy
   go_wp2_with fail
   rw[hw4.out]
   exact hf
  | true=>
   have hSy':Hid (SchOk w4 (.slice A3 n3 c3,schP s)):=Lib.hid ⟨(hSy.below hx4).mono hx4.size,schP_len hb.out⟩
   clear hSy
   have hi:=is_any p w4
   cases hp:polP p with
   | false=>
    rw[hp] at hi
    have hf:=fun W (hW:Ext w4 W)=>fin.out false W (hx2.trans (hx24.trans hW)) (by rw[hp];simp)
    replace hf:=Lib.hid hf
    clear hp
    go_wp2_with fail
    rw[hw4.out]
    refine hi.mono ?_
    rintro en w5 ⟨rfl,hx5⟩
    have hff:=hf.out w5 hx5
    go_wp2_with fail
    exact hff
   | true=>
    rw[hp] at hi
    have hh:=fun W (hW:Ext w4 W)=>next_any p hp A' n c' L2 (.slice A3 n3 c3,schP s) W (hrow.out.2.1.ext (hx24.trans hW)) hrow.out.2.2.1 hrow.out.2.2.2.1 hrow.out.2.2.2.2.1 hrow.out.2.2.2.2.2.1 hl (fun x hx=>(hrow.out.1 x hx).ext (hx24.trans hW)) (hSy'.out.ext hW) (hwd.ext (hx2.trans (hx24.trans hW))) (hpow.ext (hx2.trans (hx24.trans hW)))
    rw[hrow.out.2.2.2.2.2.2] at hh
    obtain⟨v,hv⟩:∃z,Hid (nextP p (l.map schP) (schP s)=z):=⟨_,rfl⟩
    simp only[hv.out] at hh
    have hf:=fun W (hW:Ext w4 W)=>fin.out v W (hx2.trans (hx24.trans hW)) (by rw[hp,ha.out,hb.out,hv.out];simp)
    replace hf:=Lib.hid hf
    replace hh:=Lib.hid hh
    clear hp hSy' hrow ha
    go_wp2_with fail
    rw[hw4.out,hq9.out]
    refine hi.mono ?_
    rintro en w5 ⟨rfl,hx5⟩
    have hh5:=hh.out w5 hx5
    have e95:=e9.out w5 hx5
    clear hi
    go_wp2_with fail
    refine hh5.mono ?_
    rintro en w6 ⟨rfl,hx6⟩
    have hff:=hf.out w6 (hx5.trans hx6)
    go_wp2_with fail
    exact hff
 ·replace ha:=Lib.hid ha
  go_wp2_with fail
  refine hs2.mono ?_
  rintro en w3 ⟨vy,rfl,hSy,hx3⟩
  obtain⟨A3,n3,c3,rfl⟩:=Rv.Sch.slice hSy
  clear hs2 hSy
  have hf:=fin.out false (w3.alloc (.cells #[.slice A3 n3 c3] 24)) (hx2.trans (hx3.trans ((Ext.refl w3).alloc _))) (by rw[ha.out];simp)
  go_wp2_with fail
  exact hf
end Pl
namespace Pd
open Base Lx Mi Pr Rv Cn Rx Pl
theorem good_text {s:ByteArray} (h:isP s=true):∃ns at_,parseP s=(ns,at_,0)∧schP s=ns.map Nd.toE∧showRLen (schP s)≤100000000∧∀d∈ns,-9223372036854775808≤d.size∧d.size≤9223372036854775807:=by
 have h0:=isP_ok h
 obtain⟨t,h1,h2,h3,_,_⟩:=back_plain' s h0
 have h4:=Rc.showR_len' h1
 have h5:=schP_of h
 have h6:=parse_rng s
 refine⟨(parseP s).1,(parseP s).2.1,?_,h5,by rw[h5,h4];omega,h6⟩
 rw[←h0]
theorem rparse_good {s:ByteArray} (h:isP s=true) (hz:s.size≤140737488351232) (w:World):∃at_,Calls Tryz.prog 43 #[.string s] w fun e w'=>∃A n c,e=.returned (.tuple #[.agg #[.slice A n c],.int .i64 at_,.int .i64 0])∧(∀W,Ext w' W→Sch W.heap.size W (.slice A n c) (schP s))∧Ext w w':=by
 obtain⟨ns,at_,h1,h2,h3,h4⟩:=good_text h
 have hp:=refParse_any s hz w
 rw[parse_q,h1] at hp
 refine⟨at_,hp.mono ?_⟩
 rintro e w' ⟨v,vs,rfl,hnd,hx⟩
 have hS:=Sch.ofNds hnd (Nat.le_refl _) h4
 rw[←h2] at hS
 obtain⟨A,n,c,rfl⟩:=Rv.Sch.slice hS
 exact⟨A,n,c,rfl,fun W hW=>(hS.below hW).mono hW.size,hx⟩
set_option maxHeartbeats 2000000 in
theorem can12_any (r t:ByteArray) (hr:isP r=true) (ht:isP t=true) (hzr:r.size≤140737488351232) (hzt:t.size≤140737488351232) (w:World) :
  Calls Tryz.prog 74 #[.string r,.string t] w fun en w'=>en=.returned (.bool (canB (schP r) (schP t)))∧Ext w w':=by
 obtain⟨p1,hp1⟩:=rparse_good hr hzr w
 have hp2:=fun W=>rparse_good ht hzt W
 obtain⟨_,_,_,_,b1,_⟩:=good_text hr
 obtain⟨_,_,_,_,b2,_⟩:=good_text ht
 have hcan:=fun W va vb S1 S2=>rCan_any (schP r) (schP t) va vb W S1 S2 b1 b2
 obtain⟨v,hv⟩:∃z,Hid (canB (schP r) (schP t)=z):=⟨_,rfl⟩
 simp only[hv.out] at hcan ⊢
 replace hcan:=Lib.hid hcan
 replace hp2:=Lib.hid hp2
 clear hr ht hzr hzt b1 b2
 go_enter Tryz.func74,Tryz.ntmps74
 go_wp2_with fail
 refine hp1.mono ?_
 rintro e w1 ⟨A1,n1,c1,rfl,hS1,hx1⟩
 clear hp1
 replace hS1:=Lib.hid hS1
 obtain⟨q1,hq1⟩:∃z,Hid (w1.heap.size=z):=⟨_,rfl⟩
 obtain⟨w2,hw2⟩:∃z,Hid (w1.alloc (.cells #[.slice A1 n1 c1] 24)=z):=⟨_,rfl⟩
 have hx2:Ext w1 w2:=by rw[←hw2.out];exact (Ext.refl w1).alloc _
 have hb2:Blk w2 q1 #[.slice A1 n1 c1] 24:=by rw[←hw2.out,←hq1.out];exact Blk.new w1 _ _
 obtain⟨p2,hp2⟩:=hp2.out w2
 go_wp2_with fail
 rw[hw2.out,hq1.out]
 refine hp2.mono ?_
 rintro e w3 ⟨A2,n2,c2,rfl,hS2,hx3⟩
 clear hp2
 have hx4:Ext w3 (w3.alloc (.cells #[.slice A2 n2 c2] 24)):=(Ext.refl w3).alloc _
 have k1:=(hb2.ext (hx3.trans hx4)).cell 0
 have k2:=(Blk.new w3 #[.slice A2 n2 c2] 24).cell 0
 simp only[List.getElem?_toArray,List.getElem?_cons_zero] at k1 k2
 have hca:=hcan.out _ (.slice A1 n1 c1) (.slice A2 n2 c2) (hS1.out _ (hx2.trans (hx3.trans hx4))) (hS2 _ hx4)
 have hx14:=hx1.trans (hx2.trans (hx3.trans hx4))
 replace hx14:=Lib.hid hx14
 clear hS2 hb2 hx2 hx3 hx4 hx1
 go_wp2_with fail
 refine hca.mono ?_
 rintro e w5 ⟨rfl,hx5⟩
 have hxx:=hx14.out.trans hx5
 clear hca k1 k2 hx14
 go_wp2_with fail
 first|exact hxx|(go_ret;exact⟨rfl,hxx⟩)|exact⟨rfl,hxx⟩
theorem fol_of (p:Int) (e o:Ns):folP p e o=((!backP p || canB o e) && (!forthP p || canB e o)):=rfl
set_option maxHeartbeats 4000000 in
theorem fol12_any (p:Int) (hp:polP p=true) (r t:ByteArray) (hr:isP r=true) (ht:isP t=true) (hzr:r.size≤140737488351232) (hzt:t.size≤140737488351232) (w:World) :
  Calls Tryz.prog 56 #[.int .i64 p,.string r,.string t] w fun en w'=>en=.returned (.bool (folP p (schP r) (schP t)))∧Ext w w':=by
 have h1:=fun W=>can12_any t r ht hr hzt hzr W
 have h2:=fun W=>can12_any r t hr ht hzr hzt W
 rw[fol_of]
 obtain⟨u,hu⟩:∃z,Hid (canB (schP t) (schP r)=z):=⟨_,rfl⟩
 obtain⟨v,hv⟩:∃z,Hid (canB (schP r) (schP t)=z):=⟨_,rfl⟩
 simp only[hu.out] at h1
 simp only[hv.out] at h2
 rw[hu.out,hv.out]
 have hcs:p=0∨p=1∨p=2∨p=3∨p=4∨p=5∨p=6:=by
  unfold polP at hp
  simp only[Bool.and_eq_true,decide_eq_true_eq] at hp
  omega
 obtain⟨PO,hPO⟩:∃PO:Ending→World→Prop,Hid ((fun en w'=>en=.returned (.bool ((!backP p || u) && (!forthP p || v)))∧Ext w w')=PO):=⟨_,Lib.hid rfl⟩
 have fin:∀x W,((!backP p || u) && (!forthP p || v))=x→Ext w W→PO (.returned (.bool x)) W:=fun x W h hW=>by rw[←hPO.out,h];exact⟨rfl,hW⟩
 rw[hPO.out]
 clear hu hv hPO hp hr ht hzr hzt
 replace h1:=Lib.hid h1
 replace h2:=Lib.hid h2
 rcases hcs with rfl|rfl|rfl|rfl|rfl|rfl|rfl
 ·have hf:=fin true w (by simp[backP,forthP]) (Ext.refl w)
  clear fin
  go_enter Tryz.func56,Tryz.ntmps56
  go_wp2_with fail
  exact hf
 case' inr.inl=>have hf:=fun W hW=>fin u W (by simp[backP,forthP]) hW
 case' inr.inr.inr.inr.inl=>have hf:=fun W hW=>fin u W (by simp[backP,forthP]) hW
 case' inr.inr.inl=>have hf:=fun W hW=>fin v W (by simp[backP,forthP]) hW
 case' inr.inr.inr.inr.inr.inl=>have hf:=fun W hW=>fin v W (by simp[backP,forthP]) hW
 case' inr.inr.inr.inl=>have hf:=fun W hW=>fin (u && v) W (by simp[backP,forthP]) hW
 case' inr.inr.inr.inr.inr.inr=>have hf:=fun W hW=>fin (u && v) W (by simp[backP,forthP]) hW
 case inr.inl|inr.inr.inr.inr.inl=>
  clear fin
  replace hf:=Lib.hid hf
  have hc:=h1.out w
  go_enter Tryz.func56,Tryz.ntmps56
  go_wp2_with fail
  refine hc.mono ?_
  rintro e w1 ⟨rfl,hx1⟩
  have hff:=hf.out w1 hx1
  clear hc
  cases u<;>(go_wp2_with fail;exact hff)
 case inr.inr.inl|inr.inr.inr.inr.inr.inl=>
  clear fin
  replace hf:=Lib.hid hf
  have hc:=h2.out w
  go_enter Tryz.func56,Tryz.ntmps56
  go_wp2_with fail
  refine hc.mono ?_
  rintro e w1 ⟨rfl,hx1⟩
  have hff:=hf.out w1 hx1
  clear hc
  cases v<;>(go_wp2_with fail;exact hff)
 all_goals
  clear fin
  replace hf:=Lib.hid hf
  have hc:=h1.out w
  go_enter Tryz.func56,Tryz.ntmps56
  go_wp2_with fail
  refine hc.mono ?_
  rintro e w1 ⟨rfl,hx1⟩
  clear hc
  cases u with
  | false=>
   have hff:=hf.out w1 hx1
   simp only[Bool.false_and] at hff
   go_wp2_with fail
   exact hff
  | true=>
   have hc:=h2.out w1
   go_wp2_with fail
   refine hc.mono ?_
   rintro e w2 ⟨rfl,hx2⟩
   have hff:=hf.out w2 (hx1.trans hx2)
   simp only[Bool.true_and] at hff
   clear hc
   cases v<;>(go_wp2_with fail;exact hff)
noncomputable def rnx (p:Int) (l:List Ns) (o:Ns):Nat→Bool
 | 0=>true
 | i+1=>rnx p l o i && (!(allP p || decide (i+1=l.length)) || folP p (l.getD i []) o)
theorem rnx_all {p:Int} (hp:allP p=true) (l:List Ns) (o:Ns):∀i,i≤l.length→rnx p l o i=(l.take i).all fun e=>folP p e o
 | 0,_=>by simp[rnx]
 | i+1,h=>by
  have e:l.take (i+1)=l.take i++[l.getD i []]:=by rw[List.take_add_one,List.getD,List.getElem?_eq_getElem (show i<l.length by omega)];rfl
  unfold rnx
  rw[rnx_all hp l o i (by omega),hp,e,List.all_append]
  simp
theorem rnx_last {p:Int} (hp:allP p=false) (l:List Ns) (o:Ns):∀i,i<l.length→rnx p l o i=true
 | 0,_=>rfl
 | i+1,h=>by
  unfold rnx
  rw[rnx_last hp l o i (by omega),hp,decide_eq_false (show ¬i+1=l.length by omega)]
  rfl
theorem rnx_eq (p:Int) (l:List Ns) (o:Ns):rnx p l o l.length=nextP p l o:=by
 unfold nextP lastOf
 cases hp:allP p with
 | true=>rw[rnx_all hp l o _ (Nat.le_refl _),List.take_length,if_neg (by simp)]
 | false=>
  cases hl:l.length with
  | zero=>
   have:l=[]:=List.length_eq_zero_iff.1 hl
   subst this
   rfl
  | succ m=>
   unfold rnx
   rw[rnx_last hp l o m (by omega),hp,decide_eq_true (show m+1=l.length by omega)]
   have hd:l.drop m=[l.getD m []]:=by
    rw[List.drop_eq_getElem_cons (show m<l.length by omega),List.drop_eq_nil_of_le (by omega),List.getD,List.getElem?_eq_getElem (show m<l.length by omega)]
    rfl
   by_cases h1:1<m+1
   ·rw[if_pos ⟨rfl,h1⟩,show m+1-1=m by omega,hd]
    simp
   ·rw[if_neg (by simp;omega)]
    obtain rfl:m=0:=by omega
    rw[List.drop_zero] at hd
    rw[hd]
    simp
theorem rnx_no {p:Int} {l:List Ns} {o:Ns} {i:Nat} (h:rnx p l o i=false):∀m,i≤m→rnx p l o m=false
 | 0, hm => by obtain rfl : i = 0 := by omega
               exact h
 | m+1,hm=>by
  by_cases e:i=m+1
  ·subst e;exact h
  ·unfold rnx
   rw[rnx_no h m (by omega)];rfl
theorem all_take_next {l:List ByteArray} {i:Nat} {s:ByteArray} (h:l[i]?=some s) (ha:(l.take i).all isP=true) (hs:isP s=true):(l.take (i+1)).all isP=true:=by
 rw[List.take_add_one,h,List.all_append,ha];simp[hs]
theorem all12_any (A:Option Addr) (n c:Nat) (l:List ByteArray) (w:World) (hr:Rd w A (txs l)) (hn:l.length=n) (hl:n≤100000) (hz:∀s∈l,s.size≤140737488351232) :
  Calls Tryz.prog 55 #[.slice A n c] w fun en w'=>en=.returned (.bool (l.all isP))∧Ext w w':=by
 obtain⟨PO,hPO⟩:∃PO:Ending→World→Prop,Hid ((fun en w'=>en=.returned (.bool (l.all isP))∧Ext w w')=PO):=⟨_,Lib.hid rfl⟩
 rw[hPO.out]
 have hno:∀i s W,l[i]?=some s→isP s=false→Ext w W→PO (.returned (.bool false)) W:=fun i s W h1 h2 h3=>by
  rw[←hPO.out]
  exact⟨by rw[show l.all isP=false by rw[List.all_eq_false];exact⟨s,List.mem_of_getElem? h1,by simp[h2]⟩],h3⟩
 have hyes:∀W,(l.take n).all isP=true→Ext w W→PO (.returned (.bool true)) W:=fun W h1 h2=>by
  rw[←hPO.out]
  rw[List.take_of_length_le (by omega)] at h1
  exact⟨by rw[h1],h2⟩
 replace hno:=Lib.hid hno
 replace hyes:=Lib.hid hyes
 have hq:=fun s (hs:s∈l) W=>Rc.rIs_any s (hz s hs) W
 replace hq:=Lib.hid hq
 have Hn:=Lib.hid hn
 clear hn hz
 go_enter Tryz.func55,Tryz.ntmps55
 go_wp2_with fail
 go_loopw [3,4,5,6,7,8,9,10,11,12,13,14,15] (fun v3 v4 v5 v6 v7 v8 v9 v10 v11 v12 v13 v14 v15 wr=>∃i:Nat,i≤n∧v3=.int .i64 (i:Int)∧Hid ((l.take i).all isP=true)∧Ext w wr) (fun v3 _ _ _ _ _ _ _ _ _ _ _ _ _=>n-(intOf v3).toNat)
 case atStart=>exact⟨0,Nat.zero_le _,rfl,Lib.hid (by simp),Ext.refl w⟩
 case round=>
  obtain⟨i,hi,rfl,h1,hx⟩:=hrel
  by_cases hin:i<n
  ·have hin':(i:Int)<(n:Int):=by omega
   obtain⟨s,hme⟩:∃m,l[i]?=some m:=⟨_,List.getElem?_eq_getElem (by have:=Hn.out;omega)⟩
   obtain⟨b,off,rfl,hzz,hc⟩:=(hr.ext hx).at_ (k:=i) (by simp only[txs,List.length_map];have:=Hn.out;omega)
   clear hzz
   have hck:wr.cell? ⟨b,off+i,none⟩=some (.string s):=hc i _ (by simp[txs,hme])
   clear hc
   have hcall:=hq.out s (List.mem_of_getElem? hme) wr
   have Hme:=Lib.hid hme
   clear hme
   obtain⟨v,hv⟩:∃z,Hid (isP s=z):=⟨_,rfl⟩
   rw[hv.out] at hcall
   go_wp2_with fail
   refine hcall.mono ?_
   rintro en w2 ⟨rfl,hx2⟩
   clear hcall
   cases v with
   | true=>
    have hnx:=Lib.hid (all_take_next Hme.out h1.out hv.out)
    have hxx:=hx.trans hx2
    go_wp2_with fail
    go_roundw
    case rel=>exact⟨i+1,by omega,by go_num,hnx,hxx⟩
    case measure=>simp[intOf]<;>omega
   | false=>
    have hf:=hno.out i s w2 Hme.out hv.out (hx.trans hx2)
    go_wp2_with fail
    exact hf
  ·obtain rfl:i=n:=by omega
   have hf:=hyes.out wr h1.out hx
   go_wp2_with fail
   exact hf
theorem getD_at {l:List ByteArray} {i:Nat} {s:ByteArray} (h:l[i]?=some s):(l.map schP).getD i []=schP s:=by
 rw[List.getD,List.getElem?_map,h];rfl
theorem rnx_skip {p:Int} {l:List Ns} {o:Ns} {i n:Nat} (hn:l.length=n) (ha:allP p=false) (hi:¬i+1=n) (h:rnx p l o i=true):rnx p l o (i+1)=true:=by
 unfold rnx
 rw[h,ha,hn,decide_eq_false hi];rfl
theorem rnx_call {p:Int} {l:List Ns} {o x:Ns} {i n:Nat} (hn:l.length=n) (hx:l.getD i []=x) (hc:allP p=true∨i+1=n) (h:rnx p l o i=true):rnx p l o (i+1)=folP p x o:=by
 unfold rnx
 rw[h,hn,hx]
 rcases hc with h|h
 ·rw[h];simp
 ·rw[decide_eq_true h];simp
theorem pol_cases (p:Int):(p<0∧polP p=false)∨(¬p<0∧6<p∧polP p=false)∨(¬p<0∧¬6<p∧polP p=true):=by
 unfold polP
 by_cases h1:p<0
 ·exact .inl ⟨h1,by simp;omega⟩
 ·by_cases h2:6<p
  ·exact .inr (.inl ⟨h1,h2,by simp;omega⟩)
  ·exact .inr (.inr ⟨h1,h2,by simp;omega⟩)
set_option maxHeartbeats 3000000 in
theorem next12_any (p:Int) (A:Option Addr) (n c:Nat) (l:List ByteArray) (s:ByteArray) (w:World) (hr:Rd w A (txs l)) (hn:l.length=n) (hl:n≤100000) (hz:∀s∈l,s.size≤140737488351232) (hs:s.size≤140737488351232) :
  Calls Tryz.prog 30 #[.int .i64 p,.slice A n c,.string s] w fun en w'=>en=.returned (.bool (NextT p l s))∧Ext w w':=by
 obtain⟨PO,hPO⟩:∃PO:Ending→World→Prop,Hid ((fun en w'=>en=.returned (.bool (NextT p l s))∧Ext w w')=PO):=⟨_,Lib.hid rfl⟩
 have fin:∀v W,Ext w W→NextT p l s=v→PO (.returned (.bool v)) W:=fun v W hW h=>by rw[←hPO.out,h];exact⟨rfl,hW⟩
 rw[hPO.out]
 have hnt:NextT p l s=(l.all isP && (isP s && (polP p && rnx p (l.map schP) (schP s) n))):=by
  unfold NextT;rw[←rnx_eq,List.length_map,hn]
 rw[hnt] at fin
 have hall:=all12_any A n c l w hr hn hl hz
 have his:=fun W=>Rc.rIs_any s hs W
 have hfo:=fun (hp:polP p=true) (hs1:isP s=true) x (hx:x∈l) (hx1:isP x=true) W=>fol12_any p hp x s hx1 hs1 (hz x hx) hs W
 have hln:(l.map schP).length=n:=by rw[List.length_map,hn]
 obtain⟨ba,hba⟩:∃z,Hid (l.all isP=z):=⟨_,rfl⟩
 obtain⟨bs,hbs⟩:∃z,Hid (isP s=z):=⟨_,rfl⟩
 simp only[hba.out] at hall fin
 simp only[hbs.out] at his fin hfo
 replace fin:=Lib.hid fin
 replace his:=Lib.hid his
 replace hfo:=Lib.hid hfo
 replace hln:=Lib.hid hln
 have Hn:=Lib.hid hn
 clear hn hnt hPO hz
 rcases pol_cases p with⟨p1,pp⟩|⟨p1,p2,pp⟩|⟨p1,p2,pp⟩
 ·have hf:=fin.out false w (Ext.refl w) (by rw[pp];simp)
  clear fin hall pp
  go_enter Tryz.func30,Tryz.ntmps30
  go_wp2_with fail
  exact hf
 ·have hf:=fin.out false w (Ext.refl w) (by rw[pp];simp)
  clear fin hall pp
  go_enter Tryz.func30,Tryz.ntmps30
  go_wp2_with fail
  exact hf
 replace pp:=Lib.hid pp
 go_enter Tryz.func30,Tryz.ntmps30
 go_wp2_with fail
 refine hall.mono ?_
 rintro e w1 ⟨rfl,hx1⟩
 clear hall
 cases ba with
 | false=>
  have hf:=fin.out false w1 hx1 (by simp)
  clear fin
  go_wp2_with fail
  exact hf
 | true=>
  have hc:=his.out w1
  go_wp2_with fail
  refine hc.mono ?_
  rintro e w2 ⟨rfl,hx2⟩
  clear hc
  cases bs with
  | false=>
   have hf:=fin.out false w2 (hx1.trans hx2) (by simp)
   clear fin
   go_wp2_with fail
   exact hf
  | true=>
   have hx12:=hx1.trans hx2
   clear hx1 hx2 his
   have hgood:∀x,x∈l→isP x=true:=fun x hx=>List.all_eq_true.1 hba.out x hx
   replace hgood:=Lib.hid hgood
   go_wp2_with fail
   go_loopw [7,24,25,26,27,28,29,30,31,32,33,34,35,36,37,38,39,40,41,42,43,44,45,46,47,48] (fun v7 v24 v25 v26 v27 v28 v29 v30 v31 v32 v33 v34 v35 v36 v37 v38 v39 v40 v41 v42 v43 v44 v45 v46 v47 v48 wr=>∃i:Nat,i≤n∧v7=.int .i64 (i:Int)∧Hid (rnx p (l.map schP) (schP s) i=true)∧Ext w wr) (fun v7 _ _ _ _ _ _ _ _ _ _ _ _ _ _ _ _ _ _ _ _ _ _ _ _ _ _=>n-(intOf v7).toNat)
   case atStart=>exact⟨0,Nat.zero_le _,rfl,Lib.hid rfl,hx12⟩
   case round=>
    obtain⟨i,hi,rfl,h1,hx⟩:=hrel
    by_cases hin:i<n
    ·have hin':(i:Int)<(n:Int):=by omega
     obtain⟨x,hme⟩:∃m,l[i]?=some m:=⟨_,List.getElem?_eq_getElem (by have:=Hn.out;omega)⟩
     obtain⟨b,off,rfl,hzz,hc⟩:=(hr.ext hx).at_ (k:=i) (by simp only[txs,List.length_map];have:=Hn.out;omega)
     clear hzz
     have hck:wr.cell? ⟨b,off+i,none⟩=some (.string x):=hc i _ (by simp[txs,hme])
     clear hc
     have hxm:=List.mem_of_getElem? hme
     have hcall:=hfo.out pp.out (by simp) x hxm (hgood.out x hxm) wr
     have hgd:=getD_at hme
     clear hxm hme
     have Hgd:=Lib.hid hgd
     clear hgd
     obtain⟨v,hv⟩:∃z,Hid (folP p (schP x) (schP s)=z):=⟨_,rfl⟩
     rw[hv.out] at hcall
     have hyes:(allP p=true∨i+1=n)→rnx p (l.map schP) (schP s) (i+1)=v:=fun h=>by rw[←hv.out];exact rnx_call hln.out Hgd.out h h1.out
     have hno:allP p=false→¬i+1=n→rnx p (l.map schP) (schP s) (i+1)=true:=fun h h2=>rnx_skip hln.out h h2 h1.out
     have hend:rnx p (l.map schP) (schP s) (i+1)=false→∀W,Ext w W→PO (.returned (.bool false)) W:=fun h W hW=>fin.out false W hW (by rw[rnx_no h n (by omega)];simp)
     replace hyes:=Lib.hid hyes
     replace hno:=Lib.hid hno
     replace hend:=Lib.hid hend
     by_cases h3:3<p
     ·have hst:=hyes.out (.inl (by unfold allP;exact decide_eq_true h3))
      clear hyes hno
      replace hst:=Lib.hid hst
      go_wp2_with fail
      refine hcall.mono ?_
      rintro e w3 ⟨rfl,hx3⟩
      have hxx:=hx.trans hx3
      clear hcall
      cases v with
      | true=>
       go_wp2_with fail
       go_roundw
       case rel=>exact⟨i+1,by omega,by go_num,hst,hxx⟩
       case measure=>simp[intOf]<;>omega
      | false=>
       have hf:=hend.out hst.out w3 hxx
       go_wp2_with fail
       exact hf
     ·have ha:allP p=false:=decide_eq_false h3
      by_cases hi1:i+1=n
      ·have hst:=hyes.out (.inr hi1)
       have he:((i:Int) == (n:Int)-1)=true:=by simp;omega
       clear hyes hno ha
       replace hst:=Lib.hid hst
       go_wp2_with fail
       refine hcall.mono ?_
       rintro e w3 ⟨rfl,hx3⟩
       have hxx:=hx.trans hx3
       clear hcall
       cases v with
       | true=>
        go_wp2_with fail
        go_roundw
        case rel=>exact⟨i+1,by omega,by go_num,hst,hxx⟩
        case measure=>simp[intOf]<;>omega
       | false=>
        have hf:=hend.out hst.out w3 hxx
        go_wp2_with fail
        exact hf
      ·have hst:=hno.out ha hi1
       have he:((i:Int) == (n:Int)-1)=false:=by simp;omega
       clear hyes hno ha hcall
       replace hst:=Lib.hid hst
       go_wp2_with fail
       go_roundw
       case rel=>exact⟨i+1,by omega,by go_num,hst,hx⟩
       case measure=>simp[intOf]<;>omega
    ·obtain rfl:i=n:=by omega
     have hf:=fin.out true wr hx (by rw[h1.out,pp.out];rfl)
     clear fin
     go_wp2_with fail
     exact hf
theorem take_getD {l:List ByteArray} {k i:Nat} {s:ByteArray} (h:l[i]?=some s) (hi:i<k):((l.map schP).take k).getD i []=schP s:=by
 rw[List.getD,List.getElem?_take,if_pos hi,List.getElem?_map,h];rfl
set_option maxHeartbeats 3000000 in
theorem holds12_any (p:Int) (A:Option Addr) (n c:Nat) (l:List ByteArray) (w:World) (hr:Rd w A (txs l)) (hn:l.length=n) (hl:n≤100000) (hz:∀s∈l,s.size≤140737488351232) :
  Calls Tryz.prog 27 #[.int .i64 p,.slice A n c] w fun en w'=>en=.returned (.bool (HoldsT p l))∧Ext w w':=by
 obtain⟨PO,hPO⟩:∃PO:Ending→World→Prop,Hid ((fun en w'=>en=.returned (.bool (HoldsT p l))∧Ext w w')=PO):=⟨_,Lib.hid rfl⟩
 have fin:∀v W,Ext w W→HoldsT p l=v→PO (.returned (.bool v)) W:=fun v W hW h=>by rw[←hPO.out,h];exact⟨rfl,hW⟩
 rw[hPO.out]
 have hnt:HoldsT p l=(l.all isP && (polP p && holdsA p (l.map schP) n)):=by
  unfold HoldsT holdsP;rw[List.length_map,hn]
 rw[hnt] at fin
 have hall:=all12_any A n c l w hr hn hl hz
 have hfo:=fun (hp:polP p=true) x (hx:x∈l) (hx1:isP x=true) y (hy:y∈l) (hy1:isP y=true) W=>fol12_any p hp x y hx1 hy1 (hz x hx) (hz y hy) W
 obtain⟨ba,hba⟩:∃z,Hid (l.all isP=z):=⟨_,rfl⟩
 simp only[hba.out] at hall fin
 replace fin:=Lib.hid fin
 replace hfo:=Lib.hid hfo
 have Hn:=Lib.hid hn
 clear hn hnt hPO hz
 rcases pol_cases p with⟨p1,pp⟩|⟨p1,p2,pp⟩|⟨p1,p2,pp⟩
 ·have hf:=fin.out false w (Ext.refl w) (by rw[pp];simp)
  clear fin hall pp
  go_enter Tryz.func27,Tryz.ntmps27
  go_wp2_with fail
  exact hf
 ·have hf:=fin.out false w (Ext.refl w) (by rw[pp];simp)
  clear fin hall pp
  go_enter Tryz.func27,Tryz.ntmps27
  go_wp2_with fail
  exact hf
 replace pp:=Lib.hid pp
 go_enter Tryz.func27,Tryz.ntmps27
 go_wp2_with fail
 refine hall.mono ?_
 rintro e w1 ⟨rfl,hx1⟩
 clear hall
 cases ba with
 | false=>
  have hf:=fin.out false w1 hx1 (by simp)
  clear fin
  go_wp2_with fail
  exact hf
 | true=>
  have hgood:∀x,x∈l→isP x=true:=fun x hx=>List.all_eq_true.1 hba.out x hx
  replace hgood:=Lib.hid hgood
  go_wp2_with fail
  go_loopw [5,6,18,19,20,21,22,23,24,25,26,27,28,29,30,31,32,33,34,35,36,37,38,39,40,41,42,43,44,45,46,47,48,49] (fun v5 v6 v18 v19 v20 v21 v22 v23 v24 v25 v26 v27 v28 v29 v30 v31 v32 v33 v34 v35 v36 v37 v38 v39 v40 v41 v42 v43 v44 v45 v46 v47 v48 v49 wr=>∃k:Nat,k≤n∧v5=.int .i64 (k:Int)∧Hid (holdsA p (l.map schP) k=true)∧Ext w wr) (fun v5 _ _ _ _ _ _ _ _ _ _ _ _ _ _ _ _ _ _ _ _ _ _ _ _ _ _ _ _ _ _ _ _ _ _=>n-(intOf v5).toNat)
  case atStart=>exact⟨0,Nat.zero_le _,rfl,Lib.hid rfl,hx1⟩
  case round=>
   obtain⟨k,hk,rfl,h1,hx⟩:=hrel
   by_cases hkn:k<n
   ·have hkn':(k:Int)<(n:Int):=by omega
    obtain⟨y,hye⟩:∃m,l[k]?=some m:=⟨_,List.getElem?_eq_getElem (by have:=Hn.out;omega)⟩
    have Hye:=Lib.hid hye
    clear hye
    have hstep:holdsA p (l.map schP) (k+1)=rnx p ((l.map schP).take k) (schP y) k:=by
     have hlt:((l.map schP).take k).length=k:=by rw[List.length_take,List.length_map,Hn.out];omega
     have:=rnx_eq p ((l.map schP).take k) (schP y)
     rw[hlt] at this
     rw[show holdsA p (l.map schP) (k+1)=(holdsA p (l.map schP) k && nextP p ((l.map schP).take k) ((l.map schP).getD k [])) from rfl,h1.out,getD_at Hye.out,this]
     rfl
    replace hstep:=Lib.hid hstep
    have hlt:Hid (((l.map schP).take k).length=k):=Lib.hid (by rw[List.length_take,List.length_map,Hn.out];omega)
    obtain⟨wo,hwo⟩:∃z,z=wr:=⟨_,rfl⟩
    rw[←hwo] at hx ⊢
    clear hwo
    go_wp2_with fail
    go_loopw [6,24,25,26,27,28,29,30,31,32,33,34,35,36,37,38,39,40,41,42,43,44,45,46,47,48,49] (fun v6 v24 v25 v26 v27 v28 v29 v30 v31 v32 v33 v34 v35 v36 v37 v38 v39 v40 v41 v42 v43 v44 v45 v46 v47 v48 v49 wr=>∃i:Nat,i≤k∧v6=.int .i64 (i:Int)∧Hid (rnx p ((l.map schP).take k) (schP y) i=true)∧Ext w wr) (fun v6 _ _ _ _ _ _ _ _ _ _ _ _ _ _ _ _ _ _ _ _ _ _ _ _ _ _ _=>k-(intOf v6).toNat)
    case atStart=>exact⟨0,Nat.zero_le _,rfl,Lib.hid rfl,hx⟩
    case round=>
     obtain⟨i,hi,rfl,h2,hxi⟩:=hrel
     by_cases hik:i<k
     ·have hik':(i:Int)<(k:Int):=by omega
      have hin:i<n:=by omega
      obtain⟨x,hme⟩:∃m,l[i]?=some m:=⟨_,List.getElem?_eq_getElem (by have:=Hn.out;omega)⟩
      obtain⟨b,off,rfl,hzz,hc⟩:=(hr.ext hxi).at_ (k:=i) (by simp only[txs,List.length_map];have:=Hn.out;omega)
      clear hzz
      have hck:∀W,Ext wr W→W.cell? ⟨b,off+i,none⟩=some (.string x):=fun W hW=>hW.cell (hc i _ (by simp[txs,hme]))
      have hck2:∀W,Ext wr W→W.cell? ⟨b,off+k,none⟩=some (.string y):=fun W hW=>hW.cell (hc k _ (by simp[txs,Hye.out]))
      clear hc
      have hxm:=List.mem_of_getElem? hme
      have hym:=List.mem_of_getElem? Hye.out
      have hcall:=fun W=>hfo.out pp.out x hxm (hgood.out x hxm) y hym (hgood.out y hym) W
      have hgd:=take_getD hme hik
      clear hxm hme hym
      have Hgd:=Lib.hid hgd
      clear hgd
      obtain⟨v,hv⟩:∃z,Hid (folP p (schP x) (schP y)=z):=⟨_,rfl⟩
      simp only[hv.out] at hcall
      have hyes:(allP p=true∨i+1=k)→rnx p ((l.map schP).take k) (schP y) (i+1)=v:=fun h=>by rw[←hv.out];exact rnx_call hlt.out Hgd.out h h2.out
      have hno:allP p=false→¬i+1=k→rnx p ((l.map schP).take k) (schP y) (i+1)=true:=fun h h3=>rnx_skip hlt.out h h3 h2.out
      have hend:rnx p ((l.map schP).take k) (schP y) (i+1)=false→∀W,Ext w W→PO (.returned (.bool false)) W:=fun h W hW=>fin.out false W hW (by
       rw[Pl.holdsA_no (i:=k+1) (by rw[hstep.out,rnx_no h k (by omega)]) n (by omega)];simp)
      replace hyes:=Lib.hid hyes
      replace hno:=Lib.hid hno
      replace hend:=Lib.hid hend
      replace hcall:=Lib.hid hcall
      obtain⟨k1,hk1,hk2⟩:∃z:Int,IntKind.i64.wrap ((k:Int)-1)=z∧z=(k:Int)-1:=⟨_,by rw[IntKind.wrap_i64];omega,rfl⟩
      by_cases h3:3<p
      ·have hst:=hyes.out (.inl (by unfold allP;exact decide_eq_true h3))
       have d3:decide ((3:Int)<p)=true:=decide_eq_true h3
       clear hyes hno hk1 hk2
       replace hst:=Lib.hid hst
       go_wp2_with fail
       refine Reg.startE (by kernel_rfl) ?_
       iterate 18 ((first|refine Reg.tn ?_|refine Reg.sn ?_);(try simp only[Reg.nn]))
       refine Reg.onlyE 18 _ rfl (by kernel_rfl) (by decide) (by rfl) (fun W hW K hK=>?_);go_simp
       refine (hcall.out W).mono ?_
       rintro e w3 ⟨rfl,hx3⟩
       have hxx:=hW.trans hx3
       refine hK.out _ _ (hx3) ?_;clear hK K;(try simp only[Reg.nn])
       iterate 2 ((first|refine Reg.tn ?_|refine Reg.sn ?_);(try simp only[Reg.nn]))
       refine Reg.fin (by kernel_rfl) (fun W hW=>?_)
       have hxx2:=hxi.trans (hxx.trans hW)
       clear hcall hck hck2
       cases v with
       | true=>
        go_wp2_with fail
        go_roundw
        case rel=>exact⟨i+1,by omega,by go_num,hst,hxx2⟩
        case measure=>simp[intOf]<;>omega
       | false=>
        have hf:=hend.out hst.out W hxx2
        go_wp2_with fail
        exact hf
      ·have ha:allP p=false:=decide_eq_false h3
       have d3:decide ((3:Int)<p)=false:=decide_eq_false h3
       by_cases hi1:i+1=k
       ·have hst:=hyes.out (.inr hi1)
        have he:((i:Int) == k1)=true:=by simp;omega
        clear hyes hno ha hk2
        replace hst:=Lib.hid hst
        go_wp2_with fail
        refine Reg.startE (by kernel_rfl) ?_
        iterate 6 ((first|refine Reg.tn ?_|refine Reg.sn ?_);(try simp only[Reg.nn]))
        try rw[hk1]
        iterate 1 ((first|refine Reg.tn ?_|refine Reg.sn ?_);(try simp only[Reg.nn]))
        try rw[he]
        iterate 11 ((first|refine Reg.tn ?_|refine Reg.sn ?_);(try simp only[Reg.nn]))
        refine Reg.onlyE 18 _ rfl (by kernel_rfl) (by decide) (by rfl) (fun W hW K hK=>?_);go_simp
        refine (hcall.out W).mono ?_
        rintro e w3 ⟨rfl,hx3⟩
        have hxx:=hW.trans hx3
        refine hK.out _ _ (hx3) ?_;clear hK K;(try simp only[Reg.nn])
        iterate 2 ((first|refine Reg.tn ?_|refine Reg.sn ?_);(try simp only[Reg.nn]))
        refine Reg.fin (by kernel_rfl) (fun W hW=>?_)
        have hxx2:=hxi.trans (hxx.trans hW)
        clear hcall hck hck2
        cases v with
        | true=>
         go_wp2_with fail
         go_roundw
         case rel=>exact⟨i+1,by omega,by go_num,hst,hxx2⟩
         case measure=>simp[intOf]<;>omega
        | false=>
         have hf:=hend.out hst.out W hxx2
         go_wp2_with fail
         exact hf
       ·have hst:=hno.out ha hi1
        have he:((i:Int) == k1)=false:=by simp;omega
        clear hyes hno ha hcall hk2
        replace hst:=Lib.hid hst
        go_wp2_with fail
        refine Reg.startE (by kernel_rfl) ?_
        iterate 6 ((first|refine Reg.tn ?_|refine Reg.sn ?_);(try simp only[Reg.nn]))
        try rw[hk1]
        iterate 1 ((first|refine Reg.tn ?_|refine Reg.sn ?_);(try simp only[Reg.nn]))
        try rw[he]
        iterate 14 ((first|refine Reg.tn ?_|refine Reg.sn ?_);(try simp only[Reg.nn]))
        refine Reg.fin (by kernel_rfl) (fun W hW=>?_)
        have hxx2:=hxi.trans hW
        go_wp2_with fail
        go_roundw
        case rel=>exact⟨i+1,by omega,by go_num,hst,hxx2⟩
        case measure=>simp[intOf]<;>omega
     ·obtain rfl:i=k:=by omega
      have hst:Hid (holdsA p (l.map schP) (i+1)=true):=Lib.hid (by rw[hstep.out,h2.out])
      go_wp2_with fail
      go_roundw
      case rel=>exact⟨i+1,by omega,by go_num,hst,hxi⟩
      case measure=>simp[intOf]<;>omega
   ·obtain rfl:k=n:=by omega
    have hf:=fin.out true wr hx (by rw[h1.out,pp.out];rfl)
    clear fin
    go_wp2_with fail
    exact hf
end Pd
namespace Pl
open Base Lx Mi Pr Rv Cn
def nm0:ByteArray:=⟨#[110,111,110,101]⟩
def nm1:ByteArray:=⟨#[98,97,99,107,119,97,114,100]⟩
def nm2:ByteArray:=⟨#[102,111,114,119,97,114,100]⟩
def nm3:ByteArray:=⟨#[102,117,108,108]⟩
def nm4:ByteArray:=⟨#[98,97,99,107,119,97,114,100,45,97,108,108]⟩
def nm5:ByteArray:=⟨#[102,111,114,119,97,114,100,45,97,108,108]⟩
def nm6:ByteArray:=⟨#[102,117,108,108,45,97,108,108]⟩
def namesL:List ByteArray:=[nm0,nm1,nm2,nm3,nm4,nm5,nm6]
def Nms (w:World):Prop:=Rd w (some ⟨0,0,none⟩) (txs namesL)
theorem Nms.ext {w w':World} (h:Nms w) (hx:Ext w w'):Nms w':=Rd.ext h hx
theorem Nms.at_ {w:World} (h:Nms w) (i:Nat) (s:ByteArray) (hi:namesL[i]?=some s):w.cell? ⟨0,i,none⟩=some (.string s):=by
 obtain⟨b,off,e,hc⟩:=h (by simp[txs,namesL])
 injection e with e
 injection e with e1 e2
 subst e1;subst e2
 have:=hc i (.string s) (by simp[txs,hi])
 simpa using this
def nameP (p:Int):ByteArray:=if polP p=true then namesL.getD p.toNat ⟨#[]⟩ else⟨#[63]⟩
theorem Name_any (p:Int) (w:World) (hN:Nms w):Calls Tryz.prog 33 #[.int .i64 p] w fun en w'=>en=.returned (.string (nameP p))∧Ext w w':=by
 have hi:=is_any p w
 cases hp:polP p with
 | false=>
  rw[hp] at hi
  have e:nameP p=⟨#[63]⟩:=by unfold nameP;rw[hp];rfl
  rw[e]
  clear hp e
  go_enter Tryz.func33,Tryz.ntmps33
  go_wp2_with fail
  refine hi.mono ?_
  rintro en w1 ⟨rfl,hx⟩
  go_wp2_with fail
  go_ret
  exact⟨rfl,hx⟩
 | true=>
  rw[hp] at hi
  rcases pol_cases hp with rfl|rfl|rfl|rfl|rfl|rfl|rfl
  all_goals
   clear hp
   have a0:=fun W (hW:Ext w W)=>(hN.ext hW).at_ 0 _ rfl
   have a1:=fun W (hW:Ext w W)=>(hN.ext hW).at_ 1 _ rfl
   have a2:=fun W (hW:Ext w W)=>(hN.ext hW).at_ 2 _ rfl
   have a3:=fun W (hW:Ext w W)=>(hN.ext hW).at_ 3 _ rfl
   have a4:=fun W (hW:Ext w W)=>(hN.ext hW).at_ 4 _ rfl
   have a5:=fun W (hW:Ext w W)=>(hN.ext hW).at_ 5 _ rfl
   have a6:=fun W (hW:Ext w W)=>(hN.ext hW).at_ 6 _ rfl
   replace a0:=Lib.hid a0
   replace a1:=Lib.hid a1
   replace a2:=Lib.hid a2
   replace a3:=Lib.hid a3
   replace a4:=Lib.hid a4
   replace a5:=Lib.hid a5
   replace a6:=Lib.hid a6
   go_enter Tryz.func33,Tryz.ntmps33
   go_wp2_with fail
   refine hi.mono ?_
   rintro en w1 ⟨rfl,hx⟩
   have b0:=a0.out w1 hx
   have b1:=a1.out w1 hx
   have b2:=a2.out w1 hx
   have b3:=a3.out w1 hx
   have b4:=a4.out w1 hx
   have b5:=a5.out w1 hx
   have b6:=a6.out w1 hx
   clear a0 a1 a2 a3 a4 a5 a6
   go_wp2_with fail
   go_ret
   exact⟨rfl,hx⟩
def tInt:ByteArray:=⟨#[105,110,116]⟩
def tLong:ByteArray:=⟨#[108,111,110,103]⟩
def neK (k:Int):Ne:=⟨k,⟨#[]⟩,0,[],[],[]⟩
theorem is_int:isP tInt=true:=by decide +kernel
theorem is_long:isP tLong=true:=by decide +kernel
theorem sch_int:schP tInt=[neK 2]:=by decide +kernel
theorem sch_long:schP tLong=[neK 3]:=by decide +kernel
theorem show_int:(showP [neK 2]).isSome=true:=by decide +kernel
theorem show_long:(showP [neK 3]).isSome=true:=by decide +kernel
open Classical in
theorem can_long_int:canB [neK 3] [neK 2]=true:=by
 unfold canB
 refine decide_eq_true ⟨show_long,show_int,fun _ _=>true,?_,rfl⟩
 intro i k x y hx hy _
 cases i with
 | succ i=>simp at hx
 | zero=>
  cases k with
  | succ k=>simp at hy
  | zero=>
   simp at hx hy
   subst hx;subst hy
   rfl
open Classical in
theorem can_int_long:canB [neK 2] [neK 3]=false:=by
 unfold canB
 refine decide_eq_false fun h=>?_
 obtain⟨R,hs,hr⟩:=h.2.2
 have:=hs 0 0 (neK 2) (neK 3) rfl rfl hr
 have e:holdP R (neK 2) (neK 3) ((0:Nat):Int) ((0:Nat):Int)=false:=rfl
 rw[e] at this
 cases this
theorem live_holds (p:Int) (hp:polP p=true):HoldsT p [tInt,tLong]=folP p [neK 2] [neK 3]:=by
 unfold HoldsT
 have h1:[tInt,tLong].all isP=true:=by simp[is_int,is_long]
 rw[h1,hp]
 simp only[List.map_cons,List.map_nil,sch_int,sch_long,Bool.true_and]
 show (holdsA p [[neK 2],[neK 3]] 2)=_
 have e0:nextP p ([[neK 2],[neK 3]].take 0) ([[neK 2],[neK 3]].getD 0 [])=true:=by
  unfold nextP lastOf
  simp
 have e1:nextP p ([[neK 2],[neK 3]].take 1) ([[neK 2],[neK 3]].getD 1 [])=folP p [neK 2] [neK 3]:=by
  unfold nextP lastOf
  simp
 unfold holdsA
 rw[e1]
 unfold holdsA
 rw[e0]
 unfold holdsA
 simp
theorem live1:HoldsT 1 [tInt,tLong]=true:=by
 rw[live_holds 1 rfl]
 simp[folP,backP,forthP,can_long_int]
theorem live2:HoldsT 2 [tInt,tLong]=false:=by
 rw[live_holds 2 rfl]
 simp[folP,backP,forthP,can_int_long]
theorem lives12_any (w:World) (hwd:Wd w) (hpow:Pow w) (hN:Nms w):Calls Tryz.prog 28 #[] w fun en w'=>en=.returned (.bool true)∧Ext w w':=by
 obtain⟨w1,hw1⟩:∃z,Hid (w.alloc (.cells #[.string ⟨#[105,110,116]⟩,.string ⟨#[108,111,110,103]⟩] 9)=z):=⟨_,rfl⟩
 have hx1:Ext w w1:=by rw[←hw1.out];exact (Ext.refl w).alloc _
 obtain⟨q,hq⟩:∃z,Hid (w.heap.size=z):=⟨_,rfl⟩
 have b1:Blk w1 q #[.string ⟨#[105,110,116]⟩,.string ⟨#[108,111,110,103]⟩] 9:=by rw[←hq.out,←hw1.out];exact Blk.new w _ _
 have hr:∀W,Ext w1 W→Rd W (some ⟨q,0,none⟩) (txs [tInt,tLong]):=fun W hW _=>⟨q,0,rfl,fun j u hj=>by
  rw[Nat.zero_add,(b1.ext hW).cell j,←hj]
  show (#[Value.string tInt,Value.string tLong]:Array Value)[j]?=(txs [tInt,tLong])[j]?
  rw[←Array.getElem?_toList];rfl⟩
 have hz:∀s∈[tInt,tLong],s.size≤140737488351232:=fun s hs=>by
  simp at hs
  rcases hs with rfl|rfl<;>decide
 have h1:=fun W (hW:Ext w1 W)=>Holds_any 1 (some ⟨q,0,none⟩) 2 2 [tInt,tLong] W (hr W hW) rfl (by omega) hz (hwd.ext (hx1.trans hW)) (hpow.ext (hx1.trans hW))
 have h2:=fun W (hW:Ext w1 W)=>Holds_any 2 (some ⟨q,0,none⟩) 2 2 [tInt,tLong] W (hr W hW) rfl (by omega) hz (hwd.ext (hx1.trans hW)) (hpow.ext (hx1.trans hW))
 have h3:=fun W (hW:Ext w1 W)=>Name_any 6 W (hN.ext (hx1.trans hW))
 simp only[live1] at h1
 simp only[live2] at h2
 have e6:nameP 6=⟨#[102,117,108,108,45,97,108,108]⟩:=by decide +kernel
 simp only[e6] at h3
 have g1:=h1 w1 (Ext.refl _)
 replace h2:=Lib.hid h2
 replace h3:=Lib.hid h3
 clear h1 hr hz b1 e6
 go_enter Tryz.func28,Tryz.ntmps28
 go_wp2_with fail
 rw[hw1.out,hq.out]
 refine g1.mono ?_
 rintro en w2 ⟨rfl,hx2⟩
 have g2:=h2.out w2 hx2
 clear g1
 go_wp2_with fail
 refine g2.mono ?_
 rintro en w3 ⟨rfl,hx3⟩
 have g3:=h3.out w3 (hx2.trans hx3)
 clear g2
 go_wp2_with fail
 refine g3.mono ?_
 rintro en w4 ⟨rfl,hx4⟩
 go_wp2_with fail
 go_ret
 exact⟨rfl,hx1.trans (hx2.trans (hx3.trans hx4))⟩
end Pl
namespace Pr
open Base
theorem app0_run {P:Program} {t e:TypeId} {z:Value} {size bytes:Nat} (E:El P t e z size bytes) (w:World) (ty:TypeId) (base:Nat)
  (g:Nat) (hown:w.ownsRow base e size (.slice (some ⟨g,0,none⟩) 0 0) 0 [])
  (A:Option Addr) (m c:Nat) (news:List Value) (hr:Rd w A news) (hl:news.length=m*size) (hA:A=none→c=0)
  (hbytes:m*bytes≤140737488355328) (hby:0<bytes) (hbase:base≤w.heap.size) :
  ∃v' w',(Builtin.append_ #[t,t] ty #[.slice (some ⟨g,0,none⟩) 0 0,.slice A m c]).run P w=.ok v' w'∧w'.ownsRow base e size v' m news∧Ext w w':=by
 obtain⟨i,hi,hz,hs,hb⟩:=info_parts E.info
 have hpos:=E.pos
 by_cases hne:news=[]
 ·subst hne
  have hm:m=0:=by
   rcases Nat.eq_zero_or_pos m with h|h
   ·exact h
   ·have:=Nat.mul_pos h hpos;simp at hl;omega
  subst hm
  refine⟨_,w,?_,hown,Ext.refl w⟩
  cases A with
  | none=>
   rw[hA rfl]
   exact run_append_nothing (P:=P) w t t ty e i E.under hi (some ⟨g,0,none⟩) 0 0 (Nat.le_refl _) _ (Src.ofNil (P:=P) (w:=w) E.under 0)
  | some ad=>
   exact run_append_nothing (P:=P) w t t ty e i E.under hi (some ⟨g,0,none⟩) 0 0 (Nat.le_refl _) _ (Src.ofSlice (P:=P) (w:=w) E.under ad 0 c [] (by simp) (by simp) (fun u hu=>by cases hu))
 ·obtain⟨b,off,rfl,hc⟩:=hr hne
  have hm:0<m:=by
   rcases Nat.eq_zero_or_pos m with h|h
   ·subst h;rw[Nat.zero_mul] at hl;exact absurd (List.eq_nil_of_length_eq_zero hl) hne
   ·exact h
  have h63:m≤maxLen:=by
   have h:m*1≤m*bytes:=Nat.mul_le_mul_left _ hby
   unfold maxLen;omega
  have h63':((0+m:Nat):Int)≤9223372036854775807:=by unfold maxLen at h63;omega
  have hr:=run_append_grow (P:=P) w t ty e i z E.under hi hz ⟨g,0,none⟩ 0 0 [] (by simp) (by simp) ⟨b,off,none⟩ m c news (by rw[hs];exact hl) (fun j u hj=>by
   have hadd:(⟨b,off,none⟩:Addr).add j=⟨b,off+j,none⟩:=by unfold Addr.add;split<;>simp_all
   rw[hadd];exact hc j u hj) (by omega) h63' (growslice_fits (by omega) (by rw[hb,Nat.zero_add];exact hbytes))
  have hge:=grownCap_ge w (0+m) 0 e
  have hcm:grownCap w (0+m) 0 e≤maxLen:=grownCap_le_maxLen w (0+m) 0 e (by omega)
  refine⟨_,_,hr,⟨hl,.inr ⟨w.heap.size,_,_,by rw[Nat.zero_add],hbase,heap_alloc_new w.drew _,by rw[Nat.zero_add] at hge;exact hge,by rw[Nat.zero_add] at hcm;exact hcm,?_,?_⟩⟩,((Ext.refl w).drew).alloc _⟩
  ·have e1:m*size+(grownCap w (0+m) 0 e-(0+m))*size=grownCap w (0+m) 0 e*size:=by
    rw[←Nat.add_mul];congr 1;omega
   simp only[Array.size_append,List.size_toArray,size_zeroCells,E.cells,hl,List.length_nil,Nat.zero_add] at e1 ⊢
   exact e1
  ·simp only[Array.toList_append,List.append_assoc]
   rw[←hl]
   simp
theorem wp_app0 {P:Program} {t e:TypeId} {z:Value} {size bytes:Nat} (E:El P t e z size bytes) (w:World) {o:Oper} {a:Act} {K:Act→World→Prop} {Q:Exit→Act→World→Prop} (s x:Operand)
  (ho:o.op=.call { callee:=.builtin .append,args := #[s,x],argTypes := #[t,t] }) (base:Nat)
  (g:Nat) (hs:a.eval s=.slice (some ⟨g,0,none⟩) 0 0) (hown:w.ownsRow base e size (.slice (some ⟨g,0,none⟩) 0 0) 0 [])
  (A:Option Addr) (m c:Nat) (news:List Value) (hx:a.eval x=.slice A m c) (hr:Rd w A news) (hl:news.length=m*size) (hA:A=none→c=0)
  (hbytes:m*bytes≤140737488355328) (hby:0<bytes) (hbase:base≤w.heap.size)
  (h:∀v' w',w'.ownsRow base e size v' m news→Ext w w'→K (a.put o.dst v') w'):o.wp P a w K Q:=by
 obtain⟨v',w',hrun,h2,h3⟩:=app0_run E w o.type base g hown A m c news hr hl hA hbytes hby hbase
 unfold Oper.wp execOp
 simp only[ho,resolve,invoke,builtin,Sem.run_bind,Sem.run_pure,Result.andThen_ok,List.map_toArray,List.map_cons,List.map_nil,hs,hx,hrun]
 exact h v' w' h2 h3
end Pr
namespace Pl
open Base Lx Mi Pr Rv Cn
theorem el_st:El Tryz.prog 32 9 (.string ByteArray.empty) 1 16:=⟨by kernel_rfl,by kernel_rfl,rfl,by omega⟩
theorem wpList_app0 {P:Program} {t e:TypeId} {z:Value} {size bytes:Nat} (E:El P t e z size bytes) (w:World) {ops:Array Oper} {rest:List Oper} {o:Oper} {a:Act} {Q:Exit→Act→World→Prop} (hgd:o.guard=none) (s x:Operand)
  (ho:o.op=.call { callee:=.builtin .append,args := #[s,x],argTypes := #[t,t] }) (base:Nat)
  (g:Nat) (hs:a.eval s=.slice (some ⟨g,0,none⟩) 0 0) (hown:w.ownsRow base e size (.slice (some ⟨g,0,none⟩) 0 0) 0 [])
  (A:Option Addr) (m c:Nat) (news:List Value) (hx:a.eval x=.slice A m c) (hr:Rd w A news) (hl:news.length=m*size) (hA:A=none→c=0)
  (hbytes:m*bytes≤140737488355328) (hby:0<bytes) (hbase:base≤w.heap.size)
  (h:∀v' w',w'.ownsRow base e size v' m news→Ext w w'→wpList P ops Q rest (a.put o.dst v') w'):wpList P ops Q (o::rest) a w:=
 wpList_plain hgd fun _ hK=>wp_app0 E w s x ho base g hs hown A m c news hx hr hl hA hbytes hby hbase fun v' w' h2 h3=>hK _ _ (h v' w' h2 h3)
theorem few12_any (l:List ByteArray) (n c:Nat) (A:Option Addr) (w:World) (hn:l.length=n) (hc:n≤c) :
  Calls Tryz.prog 25 #[.slice A n c] w fun e w'=>e=.returned (.slice A (l.take 6).length c)∧w'=w:=by
 have Hn:=Lib.hid hn
 clear hn
 obtain⟨m,hm⟩:∃m,Hid ((l.take 6).length=m):=⟨_,rfl⟩
 rw[hm.out]
 have hm2:m=min 6 n:=by rw[←hm.out,List.length_take,Hn.out]
 go_enter Tryz.func25,Tryz.ntmps25
 by_cases h:6<n
 ·have h':(6:Int)<n:=by omega
  have hc':(6:Int)≤c:=by omega
  have e:m=6:=by omega
  clear hm2 h
  subst e
  go_wp2_with fail
  go_ret
  exact⟨rfl,rfl⟩
 ·have h':¬(6:Int)<n:=by omega
  have e:m=n:=by omega
  clear hm2 h
  subst e
  go_wp2_with fail
  go_ret
  exact⟨rfl,rfl⟩
end Pl
end Go.Proofs.YtmaoochjbpohdaaGreatDoor
