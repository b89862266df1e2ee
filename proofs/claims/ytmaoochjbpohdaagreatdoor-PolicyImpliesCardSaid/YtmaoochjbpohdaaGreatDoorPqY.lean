/- resolve, the document's side: whether a schema reads another one: walked. -/
import Derived.Test.YtmaoochjbpohdaaGreatDoorPqX
set_option linter.unusedVariables false
set_option linter.unusedSimpArgs false
set_option maxRecDepth 100000
set_option maxHeartbeats 1000000
namespace Go.Proofs.YtmaoochjbpohdaaGreatDoor
namespace Rx
open Go.ChangeShapes Go.WideShapes Go.ChangeAt Go.RowKit
open Base Lx Mi Pr Rv
open Classical in
theorem gB_canB {a b:List Ne} {ta tb:List UInt8} (ha:showP a=some ta) (hb:showP b=some tb):GB a b ((0:Nat):Int) ((0:Nat):Int)=canB a b:=by
 by_cases hc:InR a b ((0:Nat):Int) ((0:Nat):Int)
 ·rw[gb_yes hc]
  unfold canB
  exact (decide_eq_true (show CanR a b from⟨by rw[ha];rfl,by rw[hb];rfl,hc⟩)).symm
 ·rw[gb_no hc]
  unfold canB
  exact (decide_eq_false (show ¬CanR a b from fun h=>hc h.2.2)).symm
theorem shV_parts (a:List Ne):∃S er,shV (showP a)=.tuple #[.string S,.int .i64 er]∧((er=0∧∃t,showP a=some t)∨(er=1∧showP a=none)):=by
 cases showP a with
 | none=>exact⟨_,_,rfl,.inr ⟨rfl,rfl⟩⟩
 | some s=>exact⟨_,_,rfl,.inl ⟨rfl,s,rfl⟩⟩
set_option maxHeartbeats 2000000 in
theorem rCan_any (a b:List Ne) (va vb:Value) (w:World) (hSa:Sch w.heap.size w va a) (hSb:Sch w.heap.size w vb b) (hLa:showRLen a≤100000000) (hLb:showRLen b≤100000000) :
  Calls Tryz.prog 21 #[.agg #[va],.agg #[vb]] w fun en w'=>en=.returned (.bool (canB a b))∧Ext w w':=by
 obtain⟨A1,k1,c1,rfl⟩:=Rv.Sch.slice hSa
 obtain⟨A2,k2,c2,rfl⟩:=Rv.Sch.slice hSb
 obtain⟨q,hq⟩:∃z,Hid (w.heap.size=z):=⟨_,rfl⟩
 obtain⟨w1,hw1⟩:∃z,Hid ((w.alloc (.cells #[.slice A1 k1 c1] 24)).alloc (.cells #[.slice A2 k2 c2] 24)=z):=⟨_,rfl⟩
 have hx1:Ext w w1:=by rw[←hw1.out];exact ((Ext.refl w).alloc _).alloc _
 have hbA:Blk w1 q #[.slice A1 k1 c1] 24:=by rw[←hw1.out,←hq.out];exact (Blk.new w _ _).ext ((Ext.refl _).alloc _)
 have hbB:Blk w1 (q+1) #[.slice A2 k2 c2] 24:=by
  have hn:=Blk.new (w.alloc (.cells #[.slice A1 k1 c1] 24)) #[.slice A2 k2 c2] 24
  rw[World.size_alloc,hq.out,hw1.out] at hn
  exact hn
 have S1:∀W,Ext w1 W→Sch W.heap.size W (.slice A1 k1 c1) a:=fun W hW=>(hSa.below (hx1.trans hW)).mono (hx1.trans hW).size
 have S2:∀W,Ext w1 W→Sch W.heap.size W (.slice A2 k2 c2) b:=fun W hW=>(hSb.below (hx1.trans hW)).mono (hx1.trans hW).size
 have cA:∀W,Ext w1 W→W.cell? ⟨q,0,none⟩=some (.slice A1 k1 c1):=fun W hW=>by have:=(hbA.ext hW).cell 0;simpa using this
 have cB:∀W,Ext w1 W→W.cell? ⟨q+1,0,none⟩=some (.slice A2 k2 c2):=fun W hW=>by have:=(hbB.ext hW).cell 0;simpa using this
 have hs1:=refShow_any _ _ w1 (S1 w1 (Ext.refl _)) hLa
 have hs2:=fun W hW=>refShow_any _ _ W (S2 W hW) hLb
 have g1:=cA w1 (Ext.refl _)
 obtain⟨Sa,ea,ha,hea⟩:=shV_parts a
 obtain⟨Sb,eb,hb,heb⟩:=shV_parts b
 rw[ha] at hs1
 simp only[hb] at hs2
 obtain⟨r,hr⟩:∃z,Hid (canB a b=z):=⟨_,rfl⟩
 obtain⟨PO,hPO⟩:∃PO:Ending→World→Prop,Hid ((fun en w'=>en=.returned (.bool (canB a b))∧Ext w w')=PO):=⟨_,Lib.hid rfl⟩
 have fin:∀v W,canB a b=v→Ext w W→PO (.returned (.bool v)) W:=fun v W h hW=>by rw[←hPO.out,h];exact⟨rfl,hW⟩
 rw[hPO.out]
 replace hs2:=Lib.hid hs2
 replace cA:=Lib.hid cA
 replace cB:=Lib.hid cB
 replace fin:=Lib.hid fin
 have hcan:∀ta tb,showP a=some ta→showP b=some tb→∀W,Ext w1 W→Calls Tryz.prog 24 #[.agg #[.slice A1 k1 c1],.agg #[.slice A2 k2 c2],.int .i64 0,.int .i64 0] W fun en w'=>en=.returned (.bool (canB a b))∧Ext W w':=fun ta tb h1 h2 W hW=>by
  have e1:=show_we h1
  have e2:=show_we h2
  have:=Reads_any W (S1 W hW) (S2 W hW) (by omega) (by omega) e1.2.2 e2.2.2 0 0 e1.1 e2.1
  rw[gB_canB h1 h2] at this
  exact this
 replace hcan:=Lib.hid hcan
 clear hSa hSb S1 S2 hbA hbB ha hb hLa hLb
 have pre:∀v:Bool,True:=fun _=>trivial
 clear pre
 rcases hea with⟨rfl,ta,hta⟩|⟨rfl,hta⟩
 ·rcases heb with⟨rfl,tb,htb⟩|⟨rfl,htb⟩
  ·have hca:=hcan.out ta tb hta htb
   rw[hr.out] at fin hca
   replace hca:=Lib.hid hca
   replace fin:=Lib.hid fin.out
   clear hta htb hcan
   go_enter Tryz.func21,Tryz.ntmps21
   go_wp2_with fail
   rw[hw1.out,hq.out]
   refine hs1.mono ?_
   rintro e w2 ⟨rfl,hx2⟩
   have k2:=cB.out w2 hx2
   have hs22:=hs2.out w2 hx2
   clear hs1 g1
   go_wp2_with fail
   refine hs22.mono ?_
   rintro e w3 ⟨rfl,hx3⟩
   have k3:=cA.out w3 (hx2.trans hx3)
   have k4:=cB.out w3 (hx2.trans hx3)
   have hc3:=hca.out w3 (hx2.trans hx3)
   clear hs22 k2
   go_wp2_with fail
   refine hc3.mono ?_
   rintro e w4 ⟨rfl,hx4⟩
   have hf:=fin.out r w4 rfl (hx1.trans (hx2.trans (hx3.trans hx4)))
   clear hc3 k3 k4
   go_wp2_with fail
   exact hf
  ·have hn:canB a b=false:=canB_no2 htb
   clear hta htb hcan
   go_enter Tryz.func21,Tryz.ntmps21
   go_wp2_with fail
   rw[hw1.out,hq.out]
   refine hs1.mono ?_
   rintro e w2 ⟨rfl,hx2⟩
   have k2:=cB.out w2 hx2
   have hs22:=hs2.out w2 hx2
   clear hs1 g1
   go_wp2_with fail
   refine hs22.mono ?_
   rintro e w3 ⟨rfl,hx3⟩
   have hf:=fin.out false w3 hn (hx1.trans (hx2.trans hx3))
   clear hs22 k2 hn
   go_wp2_with fail
   exact hf
 ·have hn:canB a b=false:=canB_no1 hta
  clear hta hcan
  rcases heb with⟨rfl,_⟩|⟨rfl,_⟩
  all_goals
   go_enter Tryz.func21,Tryz.ntmps21
   go_wp2_with fail
   rw[hw1.out,hq.out]
   refine hs1.mono ?_
   rintro e w2 ⟨rfl,hx2⟩
   have k2:=cB.out w2 hx2
   have hs22:=hs2.out w2 hx2
   clear hs1 g1
   go_wp2_with fail
   refine hs22.mono ?_
   rintro e w3 ⟨rfl,hx3⟩
   have hf:=fin.out false w3 hn (hx1.trans (hx2.trans hx3))
   clear hs22 k2 hn
   go_wp2_with fail
   exact hf
end Rx
namespace Rc
open Go.ChangeShapes Go.WideShapes Go.ChangeAt Go.RowKit
open Base Lx Mi Pr Cn
theorem showR_len' {ns:List Ne} {t:List UInt8} (h:showP ns=some t):showRLen ns=t.length:=by
 rw[←show_r] at h
 unfold showR at h
 simp only at h
 split at h
 ·cases h
 ·split at h
  ·cases h
  ·injection h with h;rw[←h];rfl
theorem rtext_any (s:ByteArray) (hs:s.size≤140737488351232) (w:World):Calls Tryz.prog 80 #[.string s] w fun e w'=>e=.returned (.tuple #[.string (formP s).1,.int .i64 (formP s).2.1,.int .i64 (formP s).2.2])∧Ext w w':=by
 have hpar:=refParse_any s hs w
 rw[parse_q] at hpar
 have l7:=parse_rng s
 have hb:=back_plain' s
 have hbl:=fun ns t=>showR_len' (ns:=ns) (t:=t)
 obtain⟨F,hF⟩:∃z,Hid (formP s=z):=⟨_,Lib.hid rfl⟩
 have hFd:=hF.out
 rw[hF.out]
 unfold formP at hFd
 obtain⟨r,hr⟩:∃z,Hid (parseP s=z):=⟨_,Lib.hid rfl⟩
 rw[hr.out] at hpar l7 hb hFd
 obtain⟨ns,at_,why⟩:=r
 replace hpar:Calls Tryz.prog 43 #[.string s] w fun e w'=>∃v vs,e=.returned (.tuple #[.agg #[v],.int .i64 at_,.int .i64 why])∧Nds w.heap.size w' ns vs v∧Ext w w':=hpar
 replace l7:∀d∈ns,-9223372036854775808≤d.size∧d.size≤9223372036854775807:=l7
 simp only at hFd hb
 obtain⟨PO,hPO⟩:∃PO:Ending→World→Prop,Hid ((fun e w'=>e=.returned (.tuple #[.string F.1,.int .i64 F.2.1,.int .i64 F.2.2])∧Ext w w')=PO):=⟨_,Lib.hid rfl⟩
 rw[hPO.out]
 by_cases hw:why=0
 ·subst hw
  obtain⟨t,h1,ht,hs4,_,_⟩:=hb rfl
  have h5:=hbl _ _ h1
  rw[if_pos rfl,h1] at hFd
  have hp:∀W,Ext w W→PO (.returned (.tuple #[.string ⟨t.toArray⟩,.int .i64 0,.int .i64 0])) W:=fun W hW=>by rw[←hPO.out,←hFd];exact⟨rfl,hW⟩
  obtain⟨T,hT⟩:∃z,Hid (t.toArray=z):=⟨_,Lib.hid rfl⟩
  rw[hT.out] at hp
  obtain⟨nE,hnE⟩:∃z,Hid (ns.map Nd.toE=z):=⟨_,Lib.hid rfl⟩
  rw[hnE.out] at h1 h5
  replace h1:=Lib.hid h1
  replace l7:=Lib.hid l7
  clear hr hb hbl hFd hF hPO
  go_enter Tryz.func80,Tryz.ntmps80
  go_wp2_with fail
  refine hpar.mono ?_
  rintro e w1 ⟨v,vs,rfl,hnd,hx1⟩
  have hS1:=Sch.ofNds hnd (Nat.le_refl _) l7.out
  rw[hnE.out] at hS1
  obtain⟨A,c,rfl,jj1,jj2,jj3,jj4⟩:=Rd.of_own hnd.row
  clear jj1 jj2 jj3 jj4 hpar hnd
  obtain⟨k,hk⟩:∃z,Hid (ns.length=z):=⟨_,Lib.hid rfl⟩
  rw[hk.out] at hS1 ⊢
  obtain⟨w2,hw2⟩:∃z,Hid (w1.alloc (.cells #[.slice A k c] 24)=z):=⟨_,rfl⟩
  have hx2:Ext w1 w2:=by rw[←hw2.out];exact (Ext.refl w1).alloc _
  have hS2:Sch w2.heap.size w2 (.slice A k c) nE:=(hS1.below hx2).mono hx2.size
  have hx02:=hx1.trans hx2
  have hsh:=refShow_any _ _ w2 hS2 (by omega)
  rw[h1.out] at hsh
  clear hS1 hS2
  go_wp2_with fail
  rw[hw2.out]
  refine hsh.mono ?_
  rintro e w4 ⟨rfl,hx4⟩
  rw[show shV (some t)=Value.tuple #[.string ⟨t.toArray⟩,.int .i64 0] from rfl,hT.out]
  have hp4:=hp w4 (hx02.trans hx4)
  clear hsh hp
  go_wp2_with fail
  refine bodyPost_ret (results_tmp3 rfl _ _ _) rfl ?_
  exact hp4
 ·rw[if_neg hw] at hFd
  have hwb:((why:Int) != 0)=true:=by simpa using hw
  have hp:∀W,Ext w W→PO (.returned (.tuple #[.string ⟨#[]⟩,.int .i64 at_,.int .i64 why])) W:=fun W hW=>by rw[←hPO.out,←hFd];exact⟨rfl,hW⟩
  clear hr hb hbl hFd hF hPO l7
  go_enter Tryz.func80,Tryz.ntmps80
  go_wp2_with fail
  refine hpar.mono ?_
  rintro e w1 ⟨v,vs,rfl,hnd,hx1⟩
  obtain⟨A,c,rfl,jj1,jj2,jj3,jj4⟩:=Rd.of_own hnd.row
  clear jj1 jj2 jj3 jj4 hpar hnd
  obtain⟨k,hk⟩:∃z,Hid (ns.length=z):=⟨_,Lib.hid rfl⟩
  rw[hk.out]
  obtain⟨w2,hw2⟩:∃z,Hid (w1.alloc (.cells #[.slice A k c] 24)=z):=⟨_,rfl⟩
  have hx2:Ext w1 w2:=by rw[←hw2.out];exact (Ext.refl w1).alloc _
  have hp4:=hp w2 (hx1.trans hx2)
  clear hp
  go_wp2_with fail
  rw[hw2.out]
  refine bodyPost_ret (results_tmp3 rfl _ _ _) rfl ?_
  exact hp4
theorem rIs_any (s:ByteArray) (hs:s.size≤140737488351232) (w:World):Calls Tryz.prog 59 #[.string s] w fun e w'=>e=.returned (.bool (isP s))∧Ext w w':=by
 have hc:=rtext_any s hs w
 have hi:isP s=(decide ((formP s).2.2=0) && decide ((formP s).1=s)):=rfl
 obtain⟨F,hF⟩:∃z,Hid (formP s=z):=⟨_,Lib.hid rfl⟩
 rw[hF.out] at hc hi
 rw[hi]
 obtain⟨t,a,y⟩:=F
 simp only at hc ⊢
 have hb:=str_beq' t s
 clear hi
 by_cases h0:y=0
 ·subst h0
  obtain⟨b,hbd⟩:∃z,Hid (decide (t=s)=z):=⟨_,Lib.hid rfl⟩
  rw[hbd.out] at hb ⊢
  go_enter Tryz.func59,Tryz.ntmps59
  go_wp2_with fail
  refine hc.mono ?_
  rintro e w1 ⟨rfl,hx1⟩
  go_wp2_with fail
  go_ret
  exact⟨by simp,hx1⟩
 ·have hyb:((y:Int) == 0)=false:=by simpa using h0
  rw[decide_eq_false h0,Bool.false_and]
  clear hb
  go_enter Tryz.func59,Tryz.ntmps59
  go_wp2_with fail
  refine hc.mono ?_
  rintro e w1 ⟨rfl,hx1⟩
  go_wp2_with fail
  go_ret
  exact⟨rfl,hx1⟩
end Rc
namespace Cn
open Go.ChangeShapes Go.WideShapes Go.ChangeAt Go.RowKit
open Base Lx Mi Pr
def schP (s:ByteArray):List Ne:=if isP s=true then (parseP s).1.map Nd.toE else []
theorem resSchema {w:World} {tmps:Array Value} {a:Nat} {u v:Value} (ha:tmps[2]?.getD undef=.pointer (some ⟨a,0,none⟩)) (hb:tmps[3]?.getD undef=v)
  (h1:w.cell? ⟨a,0,none⟩=some u):(results Tryz.f57 tmps).run Tryz.prog w=.ok (.tuple #[.agg #[u],v]) w:=by
 simp[results,Tryz.f57,go_sem,ha,hb,h1]
theorem Sch.nil (B:Nat) (w:World):Sch B w (.slice none 0 0) []:=⟨[],rfl,⟨none,0,rfl,Rd.nil _ _,fun h=>absurd rfl h,Nat.le_refl _,Nat.zero_le _,fun _=>rfl⟩,fun i d v h _=>by simp at h⟩
theorem Schema_any (s:ByteArray) (hs:s.size≤140737488351232) (w:World) (hwd:Wd w) (hpow:Pow w) :
  Calls Tryz.prog 57 #[.string s] w fun e w'=>∃v,e=.returned (.tuple #[.agg #[v],.bool (isP s)])∧Sch w'.heap.size w' v (schP s)∧Ext w w':=by
 obtain⟨q,hq⟩:∃z,Hid (w.heap.size=z):=⟨_,rfl⟩
 obtain⟨w1,hw1⟩:∃z,Hid (w.alloc (.cells #[.slice none 0 0] 24)=z):=⟨_,rfl⟩
 have hx1:Ext w w1:=by rw[←hw1.out];exact (Ext.refl w).alloc _
 have hb1:Blk w1 q #[.slice none 0 0] 24:=by rw[←hw1.out,←hq.out];exact Blk.new w _ _
 have his:=cis_any s hs w1 (hwd.ext hx1) (hpow.ext hx1)
 have hpar:=fun W (hW:Ext w W)=>parse_any s hs W (hwd.ext hW) (by have:=hpow.lt;have:=hW.size;omega)
 have l7:=parse_rng s
 have hsc:schP s=if isP s=true then (parseP s).1.map Nd.toE else []:=rfl
 obtain⟨b,hb⟩:∃z,Hid (isP s=z):=⟨_,Lib.hid rfl⟩
 rw[hb.out] at his hsc ⊢
 rw[hsc]
 obtain⟨PO,hPO⟩:∃PO:Ending→World→Prop,Hid ((fun e w'=>∃v,e=.returned (.tuple #[.agg #[v],.bool b])∧Sch w'.heap.size w' v (if b=true then (parseP s).1.map Nd.toE else [])∧Ext w w')=PO):=⟨_,Lib.hid rfl⟩
 rw[hPO.out]
 cases b with
 | false=>
  go_enter Tryz.func57,Tryz.ntmps57
  go_wp2_with fail
  rw[hw1.out,hq.out]
  refine his.mono ?_
  rintro e w2 ⟨rfl,hx2⟩
  have hb2:=hb1.ext hx2
  have k0:=hb2.cell 0
  have f0:=hb2.frozen 0
  simp only[List.getElem?_toArray,List.getElem?_cons_zero] at k0
  have hbF:=hb2.set 0 (.slice none 0 0)
  have hxF:Ext w (w2.setCell ⟨q,0,none⟩ (.slice none 0 0)):=Ext.chg (hx1.trans hx2) (Chg.one w2 q 0 _) (fun i hi e=>by have e:i=q:=e;have:=hq.out;omega)
  clear his hpar
  go_wp2_with fail
  refine bodyPost_ret (resSchema rfl rfl (hbF.cell 0)) rfl ?_
  rw[←hPO.out]
  exact⟨_,rfl,by rw[if_neg (by decide)];exact Sch.nil _ _,hxF⟩
 | true=>
  obtain⟨r,hr⟩:∃z,Hid (parseP s=z):=⟨_,Lib.hid rfl⟩
  rw[hr.out] at l7
  simp only[hr.out] at hpar
  obtain⟨ns,at_,why⟩:=r
  replace hpar:∀W,Ext w W→Calls Tryz.prog 76 #[.string s] W fun e w'=>∃v vs,e=.returned (.tuple #[.agg #[v],.int .i64 at_,.int .i64 why])∧Nds W.heap.size w' ns vs v∧Ext W w':=hpar
  replace l7:∀d∈ns,-9223372036854775808≤d.size∧d.size≤9223372036854775807:=l7
  replace hpar:=Lib.hid hpar
  replace l7:=Lib.hid l7
  go_enter Tryz.func57,Tryz.ntmps57
  go_wp2_with fail
  rw[hw1.out,hq.out]
  refine his.mono ?_
  rintro e w2 ⟨rfl,hx2⟩
  have hx02:=hx1.trans hx2
  have hp2:=hpar.out w2 hx02
  have hb2:=hb1.ext hx2
  clear his hpar
  go_wp2_with fail
  refine hp2.mono ?_
  rintro e w3 ⟨v,vs,rfl,hnd,hx3⟩
  have hx03:=hx02.trans hx3
  obtain⟨A,c,rfl,jj1,jj2,jj3,jj4⟩:=Rd.of_own hnd.row
  clear jj1 jj2 jj3 jj4 hp2
  obtain⟨k,hk⟩:∃z,Hid (ns.length=z):=⟨_,Lib.hid rfl⟩
  rw[hk.out] at hnd ⊢
  obtain⟨w4,hw4⟩:∃z,Hid (w3.alloc (.cells #[.slice A k c] 24)=z):=⟨_,rfl⟩
  have hx4:Ext w3 w4:=by rw[←hw4.out];exact (Ext.refl w3).alloc _
  have hb4:=(hb2.ext hx3).ext hx4
  have hx04:=hx03.trans hx4
  have k0:=hb4.cell 0
  have f0:=hb4.frozen 0
  simp only[List.getElem?_toArray,List.getElem?_cons_zero] at k0
  have hbF:=hb4.set 0 (.slice A k c)
  have hch:=Chg.one w4 q 0 (.slice A k c)
  have hxF:Ext w (w4.setCell ⟨q,0,none⟩ (.slice A k c)):=Ext.chg hx04 hch (fun i hi e=>by have e:i=q:=e;have:=hq.out;omega)
  rw[←hw4.out] at k0 f0
  have hq2:q<w2.heap.size:=World.block_lt_of_cell? w2 ⟨q,0,none⟩ (hb2.cell 0)
  have hnF:=(hnd.ext hx4).low hch (fun k e=>by have e:k=q:=e;omega)
  have hSF:=Sch.ofNds hnF (Nat.le_refl _) l7.out
  have hp:PO (.returned (.tuple #[.agg #[.slice A k c],.bool true])) (w4.setCell ⟨q,0,none⟩ (.slice A k c)):=by
   rw[←hPO.out]
   refine⟨_,rfl,?_,hxF⟩
   rw[if_pos (by trivial),hr.out]
   exact hSF
  clear hnd hnF hSF hch hPO
  go_wp2_with fail
  rw[hw4.out]
  refine bodyPost_ret (resSchema rfl rfl (hbF.cell 0)) rfl ?_
  exact hp
end Cn
namespace Pf
def cls (n:Nat):Int:=if 4611686018427387904≤n then -1 else if 1073741824≤n then 3 else if 16384≤n then 2 else if 64≤n then 1 else 0
def be:Nat→Nat→List UInt8
 | 0,_=>[]
 | m+1,v=>UInt8.ofNat (v / 256 ^ m%256)::be m v
def putP (n k:Nat):List UInt8:=be (2 ^ k) (n+k*2 ^ (8*2 ^ k-2))
def encN (n:Nat):List UInt8:=putP n (cls n).toNat
def numB (a:Nat):List UInt8→Nat
 | []=>a
 | c::l=>numB (a*256+c.toNat) l
def takeP:List UInt8→Nat×List UInt8×Nat
 | []=>(0,[],3)
 | c::r=>if (c::r).length<2 ^ (c.toNat / 64) then (0,[],3)
  else if cls (numB (c.toNat%64) (r.take (2 ^ (c.toNat / 64)-1)))≠(c.toNat / 64:Nat) then (0,[],4)
  else (numB (c.toNat%64) (r.take (2 ^ (c.toNat / 64)-1)),(c::r).drop (2 ^ (c.toNat / 64)),0)
def takeTextP (l:List UInt8) (most:Nat):List UInt8×List UInt8×Nat:=
 if (takeP l).2.2≠0 then ([],[],(takeP l).2.2)
 else if most<(takeP l).1 then ([],[],2)
 else if (takeP l).2.1.length<(takeP l).1 then ([],[],3)
 else ((takeP l).2.1.take (takeP l).1,(takeP l).2.1.drop (takeP l).1,0)
def encT (s:List UInt8):List UInt8:=encN s.length++s
end Pf
namespace Ch
open Base Pf Cn Pr
structure Et where
 pol:Bool
 p:Int
 s:ByteArray
 id:Nat
 deriving DecidableEq
def e0:Et:=⟨false,0,⟨#[]⟩,0⟩
def canP (e:Et):Bool:=
 if e.pol=true then decide (0≤e.p) && decide (e.p<7) && decide (e.s=⟨#[]⟩) && decide (e.id=0)
 else decide (e.p=0) && decide (1≤e.id) && decide (e.id≤2147483647) && isP e.s
def takeE:List UInt8→Et×List UInt8×Nat
 | []=>(e0,[],3)
 | c::r=>if 7<c.toNat then (e0,[],4) else if 0<c.toNat then (⟨true,(c.toNat:Int)-1,⟨#[]⟩,0⟩,r,0)
  else if (takeP r).2.2≠0 then (e0,[],(takeP r).2.2)
  else if (takeTextP (takeP r).2.1 4096).2.2≠0 then (e0,[],(takeTextP (takeP r).2.1 4096).2.2)
  else if canP ⟨false,0,Str (takeTextP (takeP r).2.1 4096).1,(takeP r).1⟩=true then (⟨false,0,Str (takeTextP (takeP r).2.1 4096).1,(takeP r).1⟩,(takeTextP (takeP r).2.1 4096).2.1,0)
  else (e0,[],4)
end Ch
namespace Pl
open Lx Pr Rv Cn Ch
abbrev Ns:=List Ne
def polP (p:Int):Bool:=decide (0≤p) && decide (p<7)
def allP (p:Int):Bool:=decide (3<p)
def backP (p:Int):Bool:=decide (p=1∨p=3∨p=4∨p=6)
def forthP (p:Int):Bool:=decide (p=2∨p=3∨p=5∨p=6)
noncomputable def folP (p:Int) (e o:Ns):Bool:=(!backP p || canB o e) && (!forthP p || canB e o)
def lastOf (p:Int) (l:List Ns):List Ns:=if allP p=false∧1<l.length then l.drop (l.length-1) else l
noncomputable def nextP (p:Int) (l:List Ns) (o:Ns):Bool:=(lastOf p l).all fun e=>folP p e o
noncomputable def holdsA (p:Int) (l:List Ns):Nat→Bool
 | 0=>true
 | n+1=>holdsA p l n && nextP p (l.take n) (l.getD n [])
noncomputable def holdsP (p:Int) (l:List Ns):Bool:=holdsA p l l.length
noncomputable def HoldsT (p:Int) (l:List ByteArray):Bool:=l.all isP && (polP p && holdsP p (l.map schP))
noncomputable def NextT (p:Int) (l:List ByteArray) (s:ByteArray):Bool:=l.all isP && (isP s && (polP p && nextP p (l.map schP) (schP s)))
structure Adm where
 p:Int
 seen:List Ns
 vis:List Nat
 held:List Nat
end Pl
namespace Pl
open Go.ChangeShapes Go.WideShapes Go.ChangeAt Go.RowKit
open Base Lx Mi Pr Rv
def schZ (l:List (Value×List Ne)):List Value:=l.map (·.1)
theorem idxSch_any {F:FuncId} (q1 q2:Addr) (A:Option Addr) (c:Nat) (l:List (Value×List Ne)) (p:Value×List Ne→Bool) (w:World) (hr:Rd w A (schZ l)) (n:Nat) (hn:l.length=n) (hl:n≤100000)
  (hF:∀args w,(callFunc F args).run Tryz.prog w=.ok (.enter F args) w)
  (hf:∀x∈l,∀W,Ext w W→Calls Tryz.prog F #[.agg #[x.1],.pointer (some q1),.pointer (some q2)] W fun en w'=>en=.returned (.bool (p x))∧Ext W w') :
  Calls Tryz.prog 106 #[.slice A n c,.func (.func F) #[] #[.pointer (some q1),.pointer (some q2)]] w fun en w'=>en=.returned (.int .i64 (idxP p l))∧Ext w w':=by
 have Hn:=Lib.hid hn
 clear hn
 replace hf:=Lib.hid hf
 obtain⟨IX,hIX⟩:∃o,Hid (idxP p l=o):=⟨_,rfl⟩
 rw[hIX.out]
 go_enter Tryz.func106,Tryz.ntmps106
 go_wp2_with fail
 go_loopw [5,8,9,10,11,12,13,14,15,16,18] (fun v5 v8 v9 v10 v11 v12 v13 v14 v15 v16 v18 wr=>∃i:Nat,i≤n∧v8=.int .i64 i∧NoP p l i∧Ext w wr) (fun _ v8 _ _ _ _ _ _ _ _ _ _=>n-(intOf v8).toNat)
 case atStart=>exact⟨0,by omega,rfl,fun k f h=>by omega,Ext.refl w⟩
 case round=>
  obtain⟨i,hi,rfl,h1,hx⟩:=hrel
  by_cases hin:i<n
  ·have hin':(i:Int)<(n:Int):=by omega
   obtain⟨x,hme⟩:∃m,l[i]?=some m:=⟨_,List.getElem?_eq_getElem (by have:=Hn.out;omega)⟩
   obtain⟨b,off,rfl,hz,hc⟩:=(hr.ext hx).at_ (k:=i) (by simp only[schZ,List.length_map];have:=Hn.out;omega)
   clear hz
   have hck:wr.cell? ⟨b,off+i,none⟩=some (x.1):=hc i _ (by simp[schZ,hme])
   clear hc
   have hb:=hf.out x (List.mem_of_getElem? hme) wr hx
   have Hme:=Lib.hid hme
   clear hme
   obtain⟨BB,hBB⟩:∃o,Hid (p x=o):=⟨_,rfl⟩
   rw[hBB.out] at hb
   cases BB with
   | true=>
    have hat:IX=(i:Int):=by rw[←hIX.out];exact idxP_hit h1 Hme.out hBB.out
    have Hat:=Lib.hid hat
    clear hat
    go_wp2_with fail
    refine hb.mono ?_
    rintro e w1 ⟨rfl,hx2⟩
    go_wp2_with fail
    go_ret
    exact⟨by rw[Hat.out];rfl,hx.trans hx2⟩
   | false=>
    go_wp2_with fail
    refine hb.mono ?_
    rintro e w1 ⟨rfl,hx2⟩
    go_wp2_with fail
    refine⟨⟨i+1,by omega,by go_num,?_,hx.trans hx2⟩,by simp[intOf];omega⟩
    intro j y hk hy
    rcases Nat.lt_or_ge j i with h|h
    ·exact h1 j y h hy
    ·obtain rfl:j=i:=by omega
     rw[Hme.out] at hy
     injection hy with hy
     rw[←hy];exact hBB.out
  ·obtain rfl:i=n:=by omega
   have hat:IX = -1:=by
    rw[←hIX.out]
    exact idxP_none (by rw[Hn.out];exact h1)
   have Hat:=Lib.hid hat
   clear hat
   go_wp2_with fail
   go_ret
   exact⟨by rw[Hat.out];rfl,hx⟩
theorem hasSch_any {F:FuncId} (q1 q2:Addr) (A:Option Addr) (c:Nat) (l:List (Value×List Ne)) (p:Value×List Ne→Bool) (w:World) (hr:Rd w A (schZ l)) (n:Nat) (hn:l.length=n) (hl:n≤100000)
  (hF:∀args w,(callFunc F args).run Tryz.prog w=.ok (.enter F args) w)
  (hf:∀x∈l,∀W,Ext w W→Calls Tryz.prog F #[.agg #[x.1],.pointer (some q1),.pointer (some q2)] W fun en w'=>en=.returned (.bool (p x))∧Ext W w') :
  Calls Tryz.prog 77 #[.slice A n c,.func (.func F) #[] #[.pointer (some q1),.pointer (some q2)]] w fun en w'=>en=.returned (.bool (l.any p))∧Ext w w':=by
 have hi:=idxSch_any q1 q2 A c l p w hr n hn hl hF hf
 rw[←idxP_any]
 obtain⟨r,hr'⟩:∃o,Hid (idxP p l=o):=⟨_,rfl⟩
 rw[hr'.out] at hi ⊢
 clear hf hF
 go_enter Tryz.func77,Tryz.ntmps77
 go_wp2_with fail
 refine hi.mono ?_
 rintro e w1 ⟨rfl,hx⟩
 go_wp2_with fail
 go_ret
 exact⟨rfl,hx⟩
end Pl
namespace Base
open Go.ChangeShapes Go.WideShapes Go.ChangeAt Go.RowKit
def cutA (A:Option Addr) (c l:Nat):Option Addr:=if c=l then A else A.map (·.add l)
theorem Rd.cut {w:World} {A:Option Addr} {L:List Value} (h:Rd w A L) {c l k:Nat} (hl:l≤k) (hk:k≤c):Rd w (cutA A c l) ((L.take k).drop l):=by
 intro hne
 have hlen:l<(L.take k).length:=by
  rcases Nat.lt_or_ge l (L.take k).length with x|x
  ·exact x
  ·exact absurd (List.drop_eq_nil_of_le x) hne
 have hL:L≠[]:=by rintro rfl;simp at hlen
 obtain⟨b,off,rfl,hc⟩:=h hL
 have hlk:l<k:=by rw[List.length_take] at hlen;omega
 refine⟨b,off+l,?_,fun j u hj=>?_⟩
 ·unfold cutA
  rw[if_neg (by omega)]
  simp only[Option.map_some]
  congr 1
  unfold Addr.add;split<;>simp_all
 ·rw[List.getElem?_drop,List.getElem?_take] at hj
  split at hj
  ·rw[Nat.add_assoc];exact hc _ u hj
  ·cases hj
theorem Rb.cut {w:World} {A:Option Addr} {L:List UInt8} (h:Rb w A L) {c l k:Nat} (hl:l≤k) (hk:k≤c):Rb w (cutA A c l) ((L.take k).drop l):=by
 have:=Rd.cut h hl hk
 rwa [u8s,←List.map_take,←List.map_drop] at this
theorem run_cut {P:Program} {t e:TypeId} (ht:P.underlying t=some (.slice e)) (he:(P.info? e).map (·.size)=some 1) (w:World) (A:Option Addr) (n c l k:Nat) (lo hi:Option Value)
  (hlo:lo=some (.int .i64 (l:Int))∨lo=none∧l=0) (hhi:hi=some (.int .i64 (k:Int))∨hi=none∧k=n) (hl:l≤k) (hk:k≤c) (hn:hi=none→n≤c) :
  (Instr.slice t (.slice A n c) lo hi none).run P w=.ok (.slice (cutA A c l) (k-l) (c-l)) w:=by
 have h1:(0:Int)≤(l:Int)∧(l:Int)≤(k:Int):=by omega
 have h2:(0:Int)≤(k:Int)∧(k:Int)≤(c:Int):=by omega
 cases hq:P.info? e with
 | none=>simp[hq] at he
 | some i=>
  have hi1:i.size=1:=by simpa [hq] using he
  rcases hlo with rfl|⟨rfl,rfl⟩<;>rcases hhi with rfl|⟨rfl,rfl⟩ <;>
   simp[Instr.slice,Instr.sliceBounds,Instr.sliceBound,run_underlying ht,asIntOf,h1,h2,sizeOf,typeInfo,hq,hi1,cutA,go_sem] <;>
   (try rw[if_pos hk,if_pos hl])<;>(try (intro h;omega))
theorem run_cutAt {P:Program} {t e:TypeId} (ht:P.underlying t=some (.slice e)) (he:(P.info? e).map (·.size)=some 1) (w:World) (A:Option Addr) (n c l k:Nat) (lo hi:Option Value)
  (hlo:lo=some (.int .i64 (l:Int))∨lo=none∧l=0) (hhi:hi=some (.int .i64 (k:Int))∨hi=none∧k=n) (hl:l≤k) (hk:k≤c) (hn:hi=none→n≤c) :
  (Instr.sliceAt t (.slice A n c) lo hi none).run P w=.ok (.slice (cutA A c l) (k-l) (c-l)) w:=by
 rw[←run_cut ht he w A n c l k lo hi hlo hhi hl hk hn]
 simp[Instr.sliceAt,run_underlying ht]
end Base
namespace Pl
open Go.ChangeShapes Go.WideShapes Go.ChangeAt Go.RowKit
open Base Lx Mi Pr Rv Cn
theorem pol_cases {p:Int} (h:polP p=true):p=0∨p=1∨p=2∨p=3∨p=4∨p=5∨p=6:=by
 unfold polP at h
 simp at h
 omega
theorem is_any (p:Int) (w:World):Calls Tryz.prog 53 #[.int .i64 p] w fun en w'=>en=.returned (.bool (polP p))∧Ext w w':=by
 obtain⟨PO,hPO⟩:∃PO:Ending→World→Prop,Hid ((fun en w'=>en=.returned (.bool (polP p))∧Ext w w')=PO):=⟨_,Lib.hid rfl⟩
 have fin:∀b:Bool,polP p=b→PO (.returned (.bool b)) w:=fun b h=>by rw[←hPO.out,h];exact⟨rfl,Ext.refl w⟩
 rw[hPO.out]
 unfold polP at fin
 by_cases h1:0≤p
 ·by_cases h2:p<7
  ·have h3:=fin true (by simp;omega)
   clear fin
   go_enter Tryz.func53,Tryz.ntmps53
   go_wp2_with fail
   exact h3
  ·have h3:=fin false (by simp;omega)
   clear fin
   go_enter Tryz.func53,Tryz.ntmps53
   go_wp2_with fail
   exact h3
 ·have h3:=fin false (by simp;omega)
  clear fin
  go_enter Tryz.func53,Tryz.ntmps53
  go_wp2_with fail
  exact h3
def bitsP (p:Int):Int:=if 3<p then p-3 else p
noncomputable def folB (b:Int) (e o:Ns):Bool:=(decide (b=0∨b=2) || canB o e) && (decide (b<2) || canB e o)
theorem folB_eq {p:Int} (h:polP p=true) (e o:Ns):folB (bitsP p) e o=folP p e o:=by
 rcases pol_cases h with rfl|rfl|rfl|rfl|rfl|rfl|rfl<;>simp[folB,folP,bitsP,backP,forthP]
theorem asks_any (p:Int) (h:polP p=true) (w:World):Calls Tryz.prog 60 #[.int .i64 p] w fun en w'=>en=.returned (.tuple #[.int .i64 (bitsP p),.bool (allP p)])∧Ext w w':=by
 rcases pol_cases h with rfl|rfl|rfl|rfl|rfl|rfl|rfl
 all_goals
  go_enter Tryz.func60,Tryz.ntmps60
  go_wp2_with fail
  go_ret2
  exact⟨rfl,Ext.refl w⟩
theorem follows_any (b:Int) (hb:0≤b∧b≤3) (e o:Ns) (ve vo:Value) (w:World) (hSe:Sch w.heap.size w ve e) (hSo:Sch w.heap.size w vo o) (hwd:Wd w) (hpow:Pow w) (hLe:showLen e≤100000000) (hLo:showLen o≤100000000) :
  Calls Tryz.prog 79 #[.int .i64 b,.agg #[ve],.agg #[vo]] w fun en w'=>en=.returned (.bool (folB b e o))∧Ext w w':=by
 obtain⟨w1,hw1⟩:∃z,Hid (w.alloc (.cells #[ve] 24)=z):=⟨_,rfl⟩
 obtain⟨w2,hw2⟩:∃z,Hid (w1.alloc (.cells #[vo] 24)=z):=⟨_,rfl⟩
 have hx1:Ext w w1:=by rw[←hw1.out];exact (Ext.refl w).alloc _
 have hx12:Ext w1 w2:=by rw[←hw2.out];exact (Ext.refl w1).alloc _
 have hs1:w1.heap.size=w.heap.size+1:=by rw[←hw1.out];simp
 obtain⟨q4,hq4⟩:∃z,Hid (w.heap.size=z):=⟨_,rfl⟩
 obtain⟨q5,hq5⟩:∃z,Hid (w.heap.size+1=z):=⟨_,rfl⟩
 have b4:Blk w2 q4 #[ve] 24:=by rw[←hq4.out];exact (by rw[←hw1.out];exact Blk.new w _ _:Blk w1 w.heap.size #[ve] 24).ext hx12
 have b5:Blk w2 q5 #[vo] 24:=by rw[←hq5.out,←hs1,←hw2.out];exact Blk.new w1 _ _
 have hx2:=hx1.trans hx12
 have k4:∀W,Ext w2 W→W.cell? ⟨q4,0,none⟩=some ve:=fun W hW=>by have:=(b4.ext hW).cell 0;simpa using this
 have k5:∀W,Ext w2 W→W.cell? ⟨q5,0,none⟩=some vo:=fun W hW=>by have:=(b5.ext hW).cell 0;simpa using this
 have h1:=fun W (hW:Ext w W)=>Can_any o e vo ve W ((hSo.below hW).mono hW.size) ((hSe.below hW).mono hW.size) (hwd.ext hW) (hpow.ext hW) hLo hLe
 have h2:=fun W (hW:Ext w W)=>Can_any e o ve vo W ((hSe.below hW).mono hW.size) ((hSo.below hW).mono hW.size) (hwd.ext hW) (hpow.ext hW) hLe hLo
 have hf:folB b e o=((decide (b=0∨b=2) || canB o e) && (decide (b<2) || canB e o)):=rfl
 obtain⟨c1,hc1⟩:∃z,Hid (canB o e=z):=⟨_,rfl⟩
 obtain⟨c2,hc2⟩:∃z,Hid (canB e o=z):=⟨_,rfl⟩
 simp only[hc1.out] at h1 hf
 simp only[hc2.out] at h2 hf
 rw[hf]
 replace h1:=Lib.hid h1
 replace h2:=Lib.hid h2
 have l4:=k4 w2 (Ext.refl _)
 have l5:=k5 w2 (Ext.refl _)
 replace k4:=Lib.hid k4
 replace k5:=Lib.hid k5
 clear hf hSe hSo hs1 b4 b5 hx1 hx12
 obtain⟨PO,hPO⟩:∃PO:Ending→World→Prop,Hid ((fun en w'=>en=.returned (.bool ((decide (b=0∨b=2) || c1) && (decide (b<2) || c2)))∧Ext w w')=PO):=⟨_,Lib.hid rfl⟩
 have fin:∀(v:Bool) W,Ext w W→((decide (b=0∨b=2) || c1) && (decide (b<2) || c2))=v→PO (.returned (.bool v)) W:=fun v W hW h=>by rw[←hPO.out,h];exact⟨rfl,hW⟩
 rw[hPO.out]
 replace fin:=Lib.hid fin
 have hb4:b=0∨b=1∨b=2∨b=3:=by omega
 have a01:(Op.binOp .and 3 (.const (.int .i64 0)) (.const (.int .i64 1)) 3)=(Op.binOp .and 3 (.const (.int .i64 0)) (.const (.int .i64 1)) 3):=rfl
 clear a01 hb
 rcases hb4 with rfl|rfl|rfl|rfl
 ·have hg:=fin.out true w2 hx2 (by simp)
  go_enter Tryz.func79,Tryz.ntmps79
  go_wp2_with fail
  rw[hw1.out,hw2.out]
  exact hg
 ·have hc:=h1.out w2 hx2
  cases c1 with
  | true=>
   go_enter Tryz.func79,Tryz.ntmps79
   go_wp2_with fail
   rw[hw1.out,hw2.out,hq5.out,hq4.out]
   go_wp2_with fail
   refine hc.mono ?_
   rintro en w3 ⟨rfl,hx3⟩
   have hg:=fin.out true w3 (hx2.trans hx3) (by simp)
   go_wp2_with fail
   exact hg
  | false=>
   go_enter Tryz.func79,Tryz.ntmps79
   go_wp2_with fail
   rw[hw1.out,hw2.out,hq5.out,hq4.out]
   go_wp2_with fail
   refine hc.mono ?_
   rintro en w3 ⟨rfl,hx3⟩
   have hg:=fin.out false w3 (hx2.trans hx3) (by simp)
   go_wp2_with fail
   exact hg
 ·have hc:=h2.out w2 hx2
  go_enter Tryz.func79,Tryz.ntmps79
  go_wp2_with fail
  rw[hw1.out,hw2.out,hq5.out,hq4.out]
  go_wp2_with fail
  refine hc.mono ?_
  rintro en w3 ⟨rfl,hx3⟩
  have hg:=fin.out c2 w3 (hx2.trans hx3) (by simp)
  go_wp2_with fail
  exact hg
 ·have hc:=h1.out w2 hx2
  cases c1 with
  | true=>
   go_enter Tryz.func79,Tryz.ntmps79
   go_wp2_with fail
   rw[hw1.out,hw2.out,hq5.out,hq4.out]
   go_wp2_with fail
   refine hc.mono ?_
   rintro en w3 ⟨rfl,hx3⟩
   have hd:=h2.out w3 (hx2.trans hx3)
   have m4:=k4.out w3 hx3
   have m5:=k5.out w3 hx3
   clear hc
   go_wp2_with fail
   refine hd.mono ?_
   rintro en w4 ⟨rfl,hx4⟩
   have hg:=fin.out c2 w4 (hx2.trans (hx3.trans hx4)) (by simp)
   go_wp2_with fail
   exact hg
  | false=>
   go_enter Tryz.func79,Tryz.ntmps79
   go_wp2_with fail
   rw[hw1.out,hw2.out,hq5.out,hq4.out]
   go_wp2_with fail
   refine hc.mono ?_
   rintro en w3 ⟨rfl,hx3⟩
   have hg:=fin.out false w3 (hx2.trans hx3) (by simp)
   go_wp2_with fail
   exact hg
structure SchOk (w:World) (x:Value×Ns):Prop where
 sch:Sch w.heap.size w x.1 x.2
 len:showLen x.2≤100000000
theorem SchOk.ext {w w':World} {x:Value×Ns} (h:SchOk w x) (hx:Ext w w'):SchOk w' x:=⟨(h.sch.below hx).mono hx.size,h.len⟩
theorem bits_rng {p:Int} (h:polP p=true):0≤bitsP p∧bitsP p≤3:=by
 rcases pol_cases h with rfl|rfl|rfl|rfl|rfl|rfl|rfl<;>simp[bitsP]
theorem next1_any (p:Int) (hp:polP p=true) (x y:Value×Ns) (qb qo:Addr) (w:World) (hx:SchOk w x) (hy:SchOk w y) (hwd:Wd w) (hpow:Pow w) (h1:w.cell? qb=some (.int .i64 (bitsP p))) (h2:w.cell? qo=some y.1) :
  Calls Tryz.prog 78 #[.agg #[x.1],.pointer (some qb),.pointer (some qo)] w fun en w'=>en=.returned (.bool (!folP p x.2 y.2))∧Ext w w':=by
 obtain⟨vx,ex⟩:=x
 obtain⟨vy,ey⟩:=y
 obtain⟨w1,hw1⟩:∃z,Hid (w.alloc (.cells #[vx] 24)=z):=⟨_,rfl⟩
 have hx1:Ext w w1:=by rw[←hw1.out];exact (Ext.refl w).alloc _
 have hc:=follows_any (bitsP p) (bits_rng hp) ex ey vx vy w1 (hx.ext hx1).sch (hy.ext hx1).sch (hwd.ext hx1) (hpow.ext hx1) hx.len hy.len
 rw[folB_eq hp] at hc
 have g1:(w.alloc (.cells #[vx] 24)).cell? qb=some (.int .i64 (bitsP p)):=((Ext.refl w).alloc _).cell h1
 have g2:(w.alloc (.cells #[vx] 24)).cell? qo=some vy:=((Ext.refl w).alloc _).cell h2
 obtain⟨b,hb⟩:∃z,Hid (bitsP p=z):=⟨_,rfl⟩
 obtain⟨v,hv⟩:∃z,Hid (folP p ex ey=z):=⟨_,rfl⟩
 rw[hb.out] at hc g1
 simp only[hv.out] at hc ⊢
 clear h1 h2 hx hy
 go_enter Tryz.func78,Tryz.ntmps78
 go_wp2_with fail
 rw[hw1.out]
 refine hc.mono ?_
 rintro en w2 ⟨rfl,hx2⟩
 go_wp2_with fail
 go_ret
 exact⟨rfl,hx1.trans hx2⟩
theorem lastOf_map (p:Int) (l:List (Value×Ns)):lastOf p (l.map (·.2))=(if allP p=false∧1<l.length then l.drop (l.length-1) else l).map (·.2):=by
 unfold lastOf
 rw[List.length_map]
 split
 ·rw[List.map_drop]
 ·rfl
theorem next_any (p:Int) (hp:polP p=true) (A:Option Addr) (n c:Nat) (l:List (Value×Ns)) (y:Value×Ns) (w:World) (hr:Rd w A (schZ l)) (hn:l.length=n) (hnc:n≤c) (hcm:c≤maxLen) (hA:A=none→c=0) (hl:n≤100000) (hS:∀x∈l,SchOk w x) (hy:SchOk w y) (hwd:Wd w) (hpow:Pow w) :
  Calls Tryz.prog 58 #[.int .i64 p,.slice A n c,.agg #[y.1]] w fun en w'=>en=.returned (.bool (nextP p (l.map (·.2)) y.2))∧Ext w w':=by
 unfold nextP
 rw[lastOf_map]
 obtain⟨w1,hw1⟩:∃z,Hid (w.alloc (.cells #[y.1] 24)=z):=⟨_,rfl⟩
 have hx1:Ext w w1:=by rw[←hw1.out];exact (Ext.refl w).alloc _
 obtain⟨q5,hq5⟩:∃z,Hid (w.heap.size=z):=⟨_,rfl⟩
 have b5:Blk w1 q5 #[y.1] 24:=by rw[←hq5.out,←hw1.out];exact Blk.new w _ _
 have hc1:=asks_any p hp w1
 obtain⟨b,hb⟩:∃z,Hid (bitsP p=z):=⟨_,rfl⟩
 obtain⟨al,hal⟩:∃z,Hid (allP p=z):=⟨_,rfl⟩
 rw[hb.out,hal.out] at hc1
 rw[hal.out]
 have hcut:1<n→∀W,(Instr.sliceAt 77 (.slice A n c) (some (.int .i64 ((n:Int)-1))) none none).run Tryz.prog W=.ok (.slice (cutA A c (n-1)) (n-(n-1)) (c-(n-1))) W:=fun h W=>by
  have:=run_cutAt (P:=Tryz.prog) (t:=77) (e:=24) Tryz.underlying77 (by kernel_rfl) W A n c (n-1) n (some (.int .i64 ((n-1:Nat):Int))) none (.inl rfl) (.inr ⟨rfl,rfl⟩) (by omega) hnc (fun _=>hnc)
  rwa [show ((n-1:Nat):Int)=(n:Int)-1 by omega] at this
 obtain⟨l',A',n',c',hl',hr',hn',hsl⟩:∃l' A' n' c',(if al=false∧1<l.length then l.drop (l.length-1) else l)=l'∧Rd w A' (schZ l')∧l'.length=n'∧(if al=false∧1<n then A'=cutA A c (n-1)∧n'=n-(n-1)∧c'=c-(n-1) else A'=A∧n'=n∧c'=c):=by
  by_cases hcase:al=false∧1<n
  ·refine⟨_,cutA A c (n-1),n-(n-1),c-(n-1),rfl,?_,?_,?_⟩
   ·rw[hn,if_pos hcase]
    have:=Rd.cut hr (c:=c) (l:=n-1) (k:=n) (by omega) hnc
    have e:((schZ l).take n).drop (n-1)=schZ (l.drop (n-1)):=by
     rw[List.take_of_length_le (by simp[schZ,hn])]
     simp[schZ,List.map_drop]
    rwa [e] at this
   ·rw[hn,if_pos hcase,List.length_drop];omega
   ·rw[if_pos hcase];exact⟨rfl,rfl,rfl⟩
  ·exact⟨_,A,n,c,rfl,by rw[hn,if_neg hcase];exact hr,by rw[hn,if_neg hcase];exact hn,by rw[if_neg hcase];exact⟨rfl,rfl,rfl⟩⟩
 have hS':∀x∈l',SchOk w x:=fun x hx=>by
  rw[←hl'] at hx
  split at hx
  ·exact hS x (List.mem_of_mem_drop hx)
  ·exact hS x hx
 have hn5:n'≤100000:=by split at hsl<;>omega
 rw[hl']
 have hv:(l'.map (·.2)).all (fun e=>folP p e y.2) = !(l'.any fun x => !folP p x.2 y.2):=by
  rw[List.all_map,List.not_any_eq_all_not]
  congr 1
  funext x
  simp
 rw[hv]
 have hca:=fun q7 W (hW:Ext w1 W) (h7:W.cell? ⟨q7,0,none⟩=some (.int .i64 (bitsP p)))=>hasSch_any (F:=78) ⟨q7,0,none⟩ ⟨q5,0,none⟩ A' c' l' (fun x => !folP p x.2 y.2) W (hr'.ext (hx1.trans hW)) n' hn' hn5 (fun _ _=>by kernel_rfl)
  (fun x hx W' hW'=>next1_any p hp x y _ _ W' ((hS' x hx).ext (hx1.trans (hW.trans hW'))) (hy.ext (hx1.trans (hW.trans hW'))) (hwd.ext (hx1.trans (hW.trans hW'))) (hpow.ext (hx1.trans (hW.trans hW'))) (hW'.cell h7) (by have:=(b5.ext (hW.trans hW')).cell 0;simpa using this))
 obtain⟨v,hv'⟩:∃z,Hid ((l'.any fun x => !folP p x.2 y.2)=z):=⟨_,rfl⟩
 simp only[hv'.out,hb.out] at hca ⊢
 obtain⟨y1,hy1⟩:∃z,Hid (y.1=z):=⟨_,rfl⟩
 rw[hy1.out] at hw1 ⊢
 replace hca:=Lib.hid hca
 clear hr hr' hS hS' hy hl' hv hn hn' b5
 have hcl:∀W:World,(W.alloc (.cells #[.int .i64 b] 3)).cell? ⟨W.heap.size,0,none⟩=some (.int .i64 b):=fun W=>(Blk.new W #[.int .i64 b] 3).cell 0
 replace hcl:=Lib.hid hcl
 have hx8:∀W:World,Ext w1 W→Ext w1 (W.alloc (.cells #[.int .i64 b] 3)):=fun W h=>h.alloc _
 replace hx8:=Lib.hid hx8
 by_cases hcase:al=false∧1<n
 ·rw[if_pos hcase] at hsl
  obtain⟨rfl,h1n⟩:=hcase
  have hcut':=hcut h1n
  obtain⟨rfl,e2,e3⟩:=hsl
  rw[←e2,←e3] at hcut'
  have h1n':(1:Int)<(n:Int):=by omega
  have hwn:IntKind.i64.wrap ((n:Int)-1)=(n:Int)-1:=by rw[IntKind.wrap_i64];omega
  clear hcut e2 e3 h1n hnc hcm
  go_enter Tryz.func58,Tryz.ntmps58
  go_wp2_with fail
  rw[hw1.out,hq5.out]
  refine hc1.mono ?_
  rintro en w2 ⟨rfl,hx2⟩
  have hc2:=hca.out w2.heap.size (w2.alloc (.cells #[.int .i64 b] 3)) (hx8.out w2 hx2) (hcl.out w2)
  clear hc1
  go_wp2_with fail
  refine hc2.mono ?_
  rintro en w3 ⟨rfl,hx3⟩
  have hxx:=hx1.trans ((hx8.out w2 hx2).trans hx3)
  go_wp2_with fail
  go_ret
  exact⟨rfl,hxx⟩
 ·rw[if_neg hcase] at hsl
  obtain⟨rfl,rfl,rfl⟩:=hsl
  clear hcut
  cases al with
  | true=>
   go_enter Tryz.func58,Tryz.ntmps58
   go_wp2_with fail
   rw[hw1.out,hq5.out]
   refine hc1.mono ?_
   rintro en w2 ⟨rfl,hx2⟩
   have hc2:=hca.out w2.heap.size (w2.alloc (.cells #[.int .i64 b] 3)) (hx8.out w2 hx2) (hcl.out w2)
   clear hc1
   go_wp2_with fail
   refine hc2.mono ?_
   rintro en w3 ⟨rfl,hx3⟩
   have hxx:=hx1.trans ((hx8.out w2 hx2).trans hx3)
   go_wp2_with fail
   go_ret
   exact⟨rfl,hxx⟩
  | false=>
   have h1n':¬(1:Int)<(n':Int):=by have:¬1<n':=fun h=>hcase ⟨rfl,h⟩;omega
   clear hcase
   go_enter Tryz.func58,Tryz.ntmps58
   go_wp2_with fail
   rw[hw1.out,hq5.out]
   refine hc1.mono ?_
   rintro en w2 ⟨rfl,hx2⟩
   have hc2:=hca.out w2.heap.size (w2.alloc (.cells #[.int .i64 b] 3)) (hx8.out w2 hx2) (hcl.out w2)
   clear hc1
   go_wp2_with fail
   refine hc2.mono ?_
   rintro en w3 ⟨rfl,hx3⟩
   have hxx:=hx1.trans ((hx8.out w2 hx2).trans hx3)
   go_wp2_with fail
   go_ret
   exact⟨rfl,hxx⟩
theorem Schema_nds (s:ByteArray) (hs:s.size≤140737488351232) (hP:isP s=true) (w:World) (hwd:Wd w) (hpow:Pow w) :
  Calls Tryz.prog 57 #[.string s] w fun e w'=>(∃v vs,e=.returned (.tuple #[.agg #[v],.bool true])∧Nds w.heap.size w' (parseP s).1 vs v)∧Ext w w':=by
 obtain⟨q,hq⟩:∃z,Hid (w.heap.size=z):=⟨_,rfl⟩
 obtain⟨w1,hw1⟩:∃z,Hid (w.alloc (.cells #[.slice none 0 0] 24)=z):=⟨_,rfl⟩
 have hx1:Ext w w1:=by rw[←hw1.out];exact (Ext.refl w).alloc _
 have hb1:Blk w1 q #[.slice none 0 0] 24:=by rw[←hw1.out,←hq.out];exact Blk.new w _ _
 have his:=cis_any s hs w1 (hwd.ext hx1) (hpow.ext hx1)
 have hpar:=fun W (hW:Ext w W)=>parse_any s hs W (hwd.ext hW) (by have:=hpow.lt;have:=hW.size;omega)
 have l7:=parse_rng s
 rw[hP] at his
 obtain⟨PO,hPO⟩:∃PO:Ending→World→Prop,Hid ((fun e w'=>(∃v vs,e=.returned (.tuple #[.agg #[v],.bool true])∧Nds w.heap.size w' (parseP s).1 vs v)∧Ext w w')=PO):=⟨_,Lib.hid rfl⟩
 rw[hPO.out]
 clear hP
 obtain⟨r,hr⟩:∃z,Hid (parseP s=z):=⟨_,Lib.hid rfl⟩
 rw[hr.out] at l7
 simp only[hr.out] at hpar
 obtain⟨ns,at_,why⟩:=r
 replace hpar:∀W,Ext w W→Calls Tryz.prog 76 #[.string s] W fun e w'=>∃v vs,e=.returned (.tuple #[.agg #[v],.int .i64 at_,.int .i64 why])∧Nds W.heap.size w' ns vs v∧Ext W w':=hpar
 replace l7:∀d∈ns,-9223372036854775808≤d.size∧d.size≤9223372036854775807:=l7
 replace hpar:=Lib.hid hpar
 replace l7:=Lib.hid l7
 go_enter Tryz.func57,Tryz.ntmps57
 go_wp2_with fail
 rw[hw1.out,hq.out]
 refine his.mono ?_
 rintro e w2 ⟨rfl,hx2⟩
 have hx02:=hx1.trans hx2
 have hp2:=hpar.out w2 hx02
 have hb2:=hb1.ext hx2
 clear his hpar
 go_wp2_with fail
 refine hp2.mono ?_
 rintro e w3 ⟨v,vs,rfl,hnd,hx3⟩
 have hx03:=hx02.trans hx3
 obtain⟨A,c,rfl,jj1,jj2,jj3,jj4⟩:=Rd.of_own hnd.row
 clear jj1 jj2 jj3 jj4 hp2
 obtain⟨k,hk⟩:∃z,Hid (ns.length=z):=⟨_,Lib.hid rfl⟩
 rw[hk.out] at hnd ⊢
 obtain⟨w4,hw4⟩:∃z,Hid (w3.alloc (.cells #[.slice A k c] 24)=z):=⟨_,rfl⟩
 have hx4:Ext w3 w4:=by rw[←hw4.out];exact (Ext.refl w3).alloc _
 have hb4:=(hb2.ext hx3).ext hx4
 have hx04:=hx03.trans hx4
 have k0:=hb4.cell 0
 have f0:=hb4.frozen 0
 simp only[List.getElem?_toArray,List.getElem?_cons_zero] at k0
 have hbF:=hb4.set 0 (.slice A k c)
 have hch:=Chg.one w4 q 0 (.slice A k c)
 have hxF:Ext w (w4.setCell ⟨q,0,none⟩ (.slice A k c)):=Ext.chg hx04 hch (fun i hi e=>by have e:i=q:=e;have:=hq.out;omega)
 rw[←hw4.out] at k0 f0
 have hq2:q<w2.heap.size:=World.block_lt_of_cell? w2 ⟨q,0,none⟩ (hb2.cell 0)
 have hnF:=(hnd.ext hx4).low hch (fun k e=>by have e:k=q:=e;omega)
 have hSF:=hnF.mono (show w.heap.size≤w2.heap.size from hx02.size)
 have hp:PO (.returned (.tuple #[.agg #[.slice A k c],.bool true])) (w4.setCell ⟨q,0,none⟩ (.slice A k c)):=by
  rw[←hPO.out]
  refine⟨⟨_,vs,rfl,?_⟩,hxF⟩
  rw[hr.out]
  exact hSF
 clear hnd hnF hSF hch hPO
 go_wp2_with fail
 rw[hw4.out]
 refine bodyPost_ret (resSchema rfl rfl (hbF.cell 0)) rfl ?_
 exact hp
theorem el_sch:El Tryz.prog 77 24 (.agg #[.slice none 0 0]) 1 24:=⟨by kernel_rfl,by kernel_rfl,by kernel_rfl,by omega⟩
def NdOk (w:World) (x:Value×List Nd):Prop:=∃B vs,Nds B w x.2 vs x.1
theorem NdOk.ext {w w':World} {x:Value×List Nd} (h:NdOk w x) (hx:Ext w w'):NdOk w' x:=by
 obtain⟨B,vs,h⟩:=h
 exact⟨B,vs,h.ext hx⟩
theorem NdOk.grown {w w':World} {x:Value×List Nd} (h:NdOk w x) {base n:Nat} {V:Value} {xs:List Value} (ho:w.ownsRow base 24 1 V n xs) (hg:w.grownBy w' V.ownBlock):NdOk w' x:=by
 obtain⟨B,vs,h⟩:=h
 exact⟨B,vs,h.len,h.row.kept hg (own_ne_own ho h.row (by decide)),fun i d v a b=>let s:=h.sub i d v a b;⟨s.syms.kept hg (own_ne_own ho s.syms (by decide)),s.items.kept hg (own_ne_own ho s.items (by decide)),s.fields.kept hg (own_ne_own ho s.fields (by decide))⟩⟩
structure SS (q:Nat) (w0:World) (l:List ByteArray) (i:Nat) (V:Value) (L:List (Value×List Nd)) (W:World):Prop where
 own:W.ownsRow q 24 1 V i (L.map (·.1))
 ns:L.map (·.2)=(l.take i).map fun s=>(parseP s).1
 ok:∀x∈L,NdOk W x
 all:(l.take i).all isP=true
 x:Ext w0 W
theorem take_all {l:List ByteArray} {i:Nat} {s:ByteArray} (h:l[i]?=some s) (ha:(l.take i).all isP=true) (hs:isP s=true):(l.take (i+1)).all isP=true:=by
 rw[List.take_add_one,h,List.all_append,ha]
 simp[hs]
theorem SS.next {q:Nat} {w0:World} {l:List ByteArray} {i:Nat} {V V':Value} {L:List (Value×List Nd)} {W W':World} (h:SS q w0 l i V L W) (hq:w0.heap.size≤q) {s:ByteArray} {v:Value} (hs:l[i]?=some s) (hp:isP s=true) (hn:NdOk W (v,(parseP s).1))
  (ho:W'.ownsRow q 24 1 V' (i+1) (L.map (·.1)++[v])) (hg:W.grownBy W' V.ownBlock):SS q w0 l (i+1) V' (L++[(v,(parseP s).1)]) W':=by
 refine⟨by simpa using ho,?_,fun x hx=>?_,take_all hs h.all hp,h.x.then_grown hg (fun k hk=>by have:=(h.own.lt k hk).1;omega)⟩
 ·rw[List.map_append,h.ns,List.take_add_one,hs];simp
 ·rcases List.mem_append.1 hx with hx|hx
  ·exact (h.ok x hx).grown h.own hg
  ·rw[List.mem_singleton] at hx;subst hx
   exact hn.grown h.own hg
theorem SS.ext {q:Nat} {w0:World} {l:List ByteArray} {i:Nat} {V:Value} {L:List (Value×List Nd)} {W W':World} (h:SS q w0 l i V L W) (hx:Ext W W'):SS q w0 l i V L W':=⟨own_ext h.own hx,h.ns,fun x hx'=>(h.ok x hx').ext hx,h.all,h.x.trans hx⟩
def schsV (q:Nat) (l:List ByteArray) (en:Ending) (w':World):Prop:=
 (l.all isP=true∧∃(V:Value) (L:List (Value×List Nd)),en=.returned (.tuple #[V,.bool true])∧w'.ownsRow q 24 1 V l.length (L.map (·.1))∧L.map (·.2)=l.map (fun s=>(parseP s).1)∧∀x∈L,NdOk w' x)∨(l.all isP=false∧en=.returned (.tuple #[.slice none 0 0,.bool false]))
theorem schemas_any (A:Option Addr) (n c:Nat) (l:List ByteArray) (w:World) (hr:Rd w A (txs l)) (hn:l.length=n) (hl:n≤100000) (hz:∀s∈l,s.size≤140737488351232) (hwd:Wd w) (hpow:Pow w) :
  Calls Tryz.prog 52 #[.slice A n c] w fun en w'=>schsV w.heap.size l en w'∧Ext w w':=by
 obtain⟨PO,hPO⟩:∃PO:Ending→World→Prop,Hid ((fun en w'=>schsV w.heap.size l en w'∧Ext w w')=PO):=⟨_,Lib.hid rfl⟩
 rw[hPO.out]
 have hno:∀i s W,l[i]?=some s→isP s=false→Ext w W→PO (.returned (.tuple #[.slice none 0 0,.bool false])) W:=fun i s W h1 h2 h3=>by
  rw[←hPO.out]
  exact⟨.inr ⟨by rw[List.all_eq_false];exact⟨s,List.mem_of_getElem? h1,by simp[h2]⟩,rfl⟩,h3⟩
 have hyes:∀V L W,SS w.heap.size w l n V L W→PO (.returned (.tuple #[V,.bool true])) W:=fun V L W h=>by
  rw[←hPO.out]
  have e:l.take n=l:=List.take_of_length_le (by omega)
  have h2:=h.ns
  have h3:=h.all
  have h4:=h.own
  rw[e] at h2 h3
  rw[←hn] at h4
  exact⟨.inl ⟨h3,V,L,rfl,h4,h2,h.ok⟩,h.x⟩
 replace hno:=Lib.hid hno
 replace hyes:=Lib.hid hyes
 have Hn:=Lib.hid hn
 clear hn
 replace hz:=Lib.hid hz
 obtain⟨q,hq⟩:∃z,Hid (w.heap.size=z):=⟨_,rfl⟩
 rw[hq.out] at hyes
 have hS0:SS q w l 0 (.slice none 0 0) [] w:=⟨World.ownsRow_nil w q _ 1,by simp,fun x hx=>(by cases hx),by simp,Ext.refl w⟩
 go_enter Tryz.func52,Tryz.ntmps52
 go_wp2_with fail
 go_loopw [4,6,7,8,11,12,13,14,15,16,17,18,19,20,21,22,23,24,25,26] (fun v4 v6 v7 v8 v11 v12 v13 v14 v15 v16 v17 v18 v19 v20 v21 v22 v23 v24 v25 v26 wr=>∃(i:Nat) (L:List (Value×List Nd)),i≤n∧v11=.int .i64 (i:Int)∧SS q w l i v4 L wr) (fun _ _ _ _ v11 _ _ _ _ _ _ _ _ _ _ _ _ _ _ _ _=>n-(intOf v11).toNat)
 case atStart=>exact⟨0,[],Nat.zero_le _,rfl,hS0⟩
 case round=>
  obtain⟨i,L,hi,rfl,hS⟩:=hrel
  obtain⟨V,hV⟩:∃z,z=u4:=⟨_,rfl⟩
  rw[←hV] at hS ⊢
  clear hV
  by_cases hin:i<n
  ·have hin':(i:Int)<(n:Int):=by omega
   obtain⟨s,hme⟩:∃m,l[i]?=some m:=⟨_,List.getElem?_eq_getElem (by have:=Hn.out;omega)⟩
   obtain⟨b,off,rfl,hzz,hc⟩:=(hr.ext hS.x).at_ (k:=i) (by simp only[txs,List.length_map];have:=Hn.out;omega)
   clear hzz
   have hck:wr.cell? ⟨b,off+i,none⟩=some (.string s):=hc i _ (by simp[txs,hme])
   clear hc
   have hs:=hz.out s (List.mem_of_getElem? hme)
   have Hme:=Lib.hid hme
   clear hme
   cases hP:isP s with
   | false=>
    have hcc:=Schema_any s hs wr (hwd.ext hS.x) (hpow.ext hS.x)
    rw[hP] at hcc
    have HP:=Lib.hid hP
    have hxr:=hS.x
    clear hS hs hP hS0
    go_wp2_with fail
    refine hcc.mono ?_
    rintro en w2 ⟨v,rfl,hSv,hx2⟩
    obtain⟨A',n',c',rfl⟩:=Rv.Sch.slice hSv
    clear hSv
    have hf:=hno.out i s (w2.alloc (.cells #[.slice A' n' c'] 24)) Hme.out HP.out (hxr.trans (hx2.trans ((Ext.refl w2).alloc _)))
    go_wp2_with fail
    exact hf
   | true=>
    have hcc:=Schema_nds s hs hP wr (hwd.ext hS.x) (hpow.ext hS.x)
    have HP:=Lib.hid hP
    clear hs hP hS0
    replace hS:=Lib.hid hS
    go_wp2_with fail
    refine hcc.mono ?_
    rintro en w2 ⟨⟨v,vs,rfl,hnd⟩,hx2⟩
    have hnk:NdOk w2 (v,(parseP s).1):=⟨_,vs,hnd⟩
    obtain⟨A',c',rfl,jj1,jj2,jj3,jj4⟩:=Rd.of_own hnd.row
    clear jj1 jj2 jj3 jj4 hcc hnd
    obtain⟨k,hk⟩:∃z,Hid ((parseP s).1.length=z):=⟨_,Lib.hid rfl⟩
    rw[hk.out] at hnk ⊢
    have hxL:Ext w2 ((w2.alloc (.cells #[.slice A' k c'] 24)).alloc (.cells #[.slice A' k c'] 24)):=((Ext.refl w2).alloc _).alloc _
    have hS4:=hS.out.ext (hx2.trans hxL)
    have hnL:=hnk.ext hxL
    have hrv:Rd ((w2.alloc (.cells #[.slice A' k c'] 24)).alloc (.cells #[.slice A' k c'] 24)) (some ⟨w2.heap.size+1,0,none⟩) [.slice A' k c']:=by
     have:=Rd.of_block (w2.alloc (.cells #[.slice A' k c'] 24)) 24 (0,0) (cs := #[.slice A' k c']) rfl
     simpa using this
    have hq4:q≤((w2.alloc (.cells #[.slice A' k c'] 24)).alloc (.cells #[.slice A' k c'] 24)).heap.size:=by rw[←hq.out];exact hS4.x.size
    clear hnk hxL
    go_wp2_with (
     refine wpList_app el_sch _ rfl (.tmp 22) (.tmp 24) rfl q V i (L.map (·.1)) rfl hS4.own (some ⟨w2.heap.size+1,0,none⟩) 1 1 [.slice A' k c'] rfl hrv rfl (fun h=>by cases h) (by simp[Value.oneCell']) (by omega) (by omega) hq4 (fun V' W' ho' hg' hv'=>?_)
     have hnx:=hS4.next (by rw[hq.out];exact Nat.le_refl _) Hme.out HP.out hnL ho' hg'
     clear ho' hg' hv' hS4 hnL hrv hq4)
    go_roundw
    case rel=>exact⟨i+1,_,by omega,by go_num,hnx⟩
    case measure=>simp[intOf]<;>omega
  ·obtain rfl:i=n:=by omega
   have hf:=hyes.out V L wr hS
   clear hS hS0
   go_wp2_with fail
   exact hf
theorem run_cutZ {P:Program} {t e:TypeId} {s:Nat} (ht:P.underlying t=some (.slice e)) (he:(P.info? e).map (·.size)=some s) (w:World) (A:Option Addr) (n c k:Nat) (hk:k≤c) :
  (Instr.sliceAt t (.slice A n c) none (some (.int .i64 (k:Int))) none).run P w=.ok (.slice A k c) w:=by
 have h2:(0:Int)≤(k:Int)∧(k:Int)≤(c:Int):=by omega
 cases hq:P.info? e with
 | none=>simp[hq] at he
 | some i=>
  have hA:A.map (fun a=>a.add 0)=A:=by cases A<;>simp[Addr.add]
  simp[Instr.sliceAt,Instr.slice,Instr.sliceBounds,Instr.sliceBound,run_underlying ht,asIntOf,h2,sizeOf,typeInfo,hq,go_sem,hA,hk]
theorem holdsA_no {p:Int} {l:List Ns} {i:Nat} (h:holdsA p l i=false):∀m,i≤m→holdsA p l m=false
 | 0,hm=>by
  obtain rfl:i=0:=by omega
  exact h
 | m+1,hm=>by
  by_cases e:i=m+1
  ·subst e;exact h
  ·have:=holdsA_no h m (by omega)
   unfold holdsA
   rw[this];rfl
theorem holdsA_step {p:Int} {L:List (Value×Ns)} {i:Nat} {x:Value×Ns} (hx:L[i]?=some x) (h:holdsA p (L.map (·.2)) i=true):holdsA p (L.map (·.2)) (i+1)=nextP p ((L.take i).map (·.2)) x.2:=by
 have e1:(L.map (·.2)).getD i []=x.2:=by rw[List.getD,List.getElem?_map,hx];rfl
 rw[show holdsA p (L.map (·.2)) (i+1)=(holdsA p (L.map (·.2)) i && nextP p ((L.map (·.2)).take i) ((L.map (·.2)).getD i [])) from rfl,h,e1,←List.map_take]
 simp
theorem holds_any (p:Int) (hp:polP p=true) (A:Option Addr) (n c:Nat) (L:List (Value×Ns)) (w:World) (hr:Rd w A (schZ L)) (hn:L.length=n) (hnc:n≤c) (hcm:c≤maxLen) (hA:A=none→c=0) (hl:n≤100000) (hS:∀x∈L,SchOk w x) (hwd:Wd w) (hpow:Pow w) :
  Calls Tryz.prog 54 #[.int .i64 p,.slice A n c] w fun en w'=>en=.returned (.bool (holdsP p (L.map (·.2))))∧Ext w w':=by
 have hfin:∀v,holdsA p (L.map (·.2)) n=v→holdsP p (L.map (·.2))=v:=fun v h=>by unfold holdsP;rw[List.length_map,hn];exact h
 obtain⟨PO,hPO⟩:∃PO:Ending→World→Prop,Hid ((fun en w'=>en=.returned (.bool (holdsP p (L.map (·.2))))∧Ext w w')=PO):=⟨_,Lib.hid rfl⟩
 have fin:∀v W,Ext w W→holdsA p (L.map (·.2)) n=v→PO (.returned (.bool v)) W:=fun v W hW h=>by rw[←hPO.out];exact⟨by rw[hfin v h],hW⟩
 rw[hPO.out]
 clear hfin
 replace fin:=Lib.hid fin
 have hnx:=fun i x W (hi:i<n) (hx:L[i]?=some x) (hW:Ext w W)=>next_any p hp A i c (L.take i) x W ((by have:=hr.take i;rwa [show (schZ L).take i=schZ (L.take i) by simp[schZ,List.map_take]] at this:Rd w A (schZ (L.take i))).ext hW) (by rw[List.length_take];omega) (by omega) hcm hA (by omega) (fun y hy=>(hS y (List.mem_of_mem_take hy)).ext hW) ((hS x (List.mem_of_getElem? hx)).ext hW) (hwd.ext hW) (hpow.ext hW)
 replace hnx:=Lib.hid hnx
 have hcut:∀i:Nat,i<n→∀W,(Instr.sliceAt 77 (.slice A n c) none (some (.int .i64 (i:Int))) none).run Tryz.prog W=.ok (.slice A i c) W:=fun i hi W=>
  run_cutZ (P:=Tryz.prog) (t:=77) (e:=24) (s:=1) Tryz.underlying77 (by kernel_rfl) W A n c i (by omega)
 replace hcut:=Lib.hid hcut
 have hsl:∀x∈L,∃A' n' c',x.1=.slice A' n' c':=fun x hx=>Rv.Sch.slice (hS x hx).sch
 replace hsl:=Lib.hid hsl
 have Hn:=Lib.hid hn
 clear hn hnc hcm hA hS
 go_enter Tryz.func54,Tryz.ntmps54
 go_wp2_with fail
 go_loopw [5,6,9,10,11,12,13,14,15,16,17,18,19,20,21] (fun v5 v6 v9 v10 v11 v12 v13 v14 v15 v16 v17 v18 v19 v20 v21 wr=>∃i:Nat,i≤n∧v9=.int .i64 (i:Int)∧holdsA p (L.map (·.2)) i=true∧Ext w wr) (fun _ _ v9 _ _ _ _ _ _ _ _ _ _ _ _ _=>n-(intOf v9).toNat)
 case atStart=>exact⟨0,Nat.zero_le _,rfl,rfl,Ext.refl w⟩
 case round=>
  obtain⟨i,hi,rfl,h1,hx⟩:=hrel
  by_cases hin:i<n
  ·have hin':(i:Int)<(n:Int):=by omega
   obtain⟨x,hme⟩:∃m,L[i]?=some m:=⟨_,List.getElem?_eq_getElem (by have:=Hn.out;omega)⟩
   obtain⟨b,off,rfl,hzz,hc⟩:=(hr.ext hx).at_ (k:=i) (by simp only[schZ,List.length_map];have:=Hn.out;omega)
   clear hzz
   have hck:wr.cell? ⟨b,off+i,none⟩=some x.1:=hc i _ (by simp[schZ,hme])
   clear hc
   obtain⟨A',n',c',ex⟩:=hsl.out x (List.mem_of_getElem? hme)
   have hst:=holdsA_step hme h1
   have hcc:=fun W (hW:Ext w W)=>hnx.out i x W hin hme hW
   rw[ex] at hck
   simp only[ex] at hcc
   obtain⟨v,hv⟩:∃z,Hid (nextP p ((L.take i).map (·.2)) x.2=z):=⟨_,rfl⟩
   simp only[hv.out] at hcc hst
   clear ex hv hme x
   replace hcc:=Lib.hid hcc
   replace hst:=Lib.hid hst
   have hct:=hcut.out i hin
   have hxa:Ext wr (wr.alloc (.cells #[.slice A' n' c'] 24)):=(Ext.refl wr).alloc _
   have e6:∀W,Ext (wr.alloc (.cells #[.slice A' n' c'] 24)) W→W.cell? ⟨wr.heap.size,0,none⟩=some (.slice A' n' c'):=fun W hW=>by
    have:=((Blk.new wr #[.slice A' n' c'] 24).ext hW).cell 0;simpa using this
   cases v with
   | true=>
    go_wp2_with fail
    refine Reg.startE (by kernel_rfl) ?_
    iterate 5 ((first|refine Reg.tn ?_|refine Reg.sn ?_);(try simp only[Reg.nn]))
    refine Reg.onlyE 5 _ rfl (by kernel_rfl) (by decide) (by rfl) (fun W hW K hK=>?_);go_simp
    refine (hcc.out W (hx.trans (hxa.trans hW))).mono ?_
    rintro en wX ⟨rfl,hX9⟩
    have hq9:=hxa.trans (hW.trans hX9)
    refine hK.out _ _ (hX9) ?_;clear hK K;(try simp only[Reg.nn])
    iterate 1 ((first|refine Reg.tn ?_|refine Reg.sn ?_);(try simp only[Reg.nn]))
    refine Reg.fin (by kernel_rfl) (fun W hW=>?_)
    replace hW:=hq9.trans hW
    go_wp2_with fail
    go_roundw
    case rel=>exact⟨i+1,by omega,by go_num,hst.out,hx.trans hW⟩
    case measure=>simp[intOf]<;>omega
   | false=>
    go_wp2_with fail
    refine Reg.startE (by kernel_rfl) ?_
    iterate 5 ((first|refine Reg.tn ?_|refine Reg.sn ?_);(try simp only[Reg.nn]))
    refine Reg.onlyE 5 _ rfl (by kernel_rfl) (by decide) (by rfl) (fun W hW K hK=>?_);go_simp
    refine (hcc.out W (hx.trans (hxa.trans hW))).mono ?_
    rintro en wX ⟨rfl,hX9⟩
    have hq9:=hxa.trans (hW.trans hX9)
    refine hK.out _ _ (hX9) ?_;clear hK K;(try simp only[Reg.nn])
    iterate 1 ((first|refine Reg.tn ?_|refine Reg.sn ?_);(try simp only[Reg.nn]))
    refine Reg.fin (by kernel_rfl) (fun W hW=>?_)
    have hf:=fin.out false W (hx.trans (hq9.trans hW)) (holdsA_no hst.out n (by omega))
    go_wp2_with fail
    exact hf
  ·obtain rfl:i=n:=by omega
   have hf:=fin.out true wr hx h1
   clear h1
   go_wp2_with fail
   exact hf
end Pl
end Go.Proofs.YtmaoochjbpohdaaGreatDoor
