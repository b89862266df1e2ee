/- datum: two values held against each other, by the document: walked. -/
import Derived.Test.YtllhhpcabncmiaaGreatDoorDsK
set_option linter.unusedVariables false
set_option linter.unusedSimpArgs false
set_option maxRecDepth 100000
set_option maxHeartbeats 1000000
open Go.ChangeShapes Go.WideShapes Go.ChangeAt Go.RowKit
namespace Go.Proofs.YtllhhpcabncmiaaGreatDoor
namespace Dm
open Base Lx Mi Pr
theorem rsameD_any:∀(d d':Da) {lo B lo' B':Nat} {w:World} {v v':V2},DaR lo B w d v→DaR lo' B' w d' v'→B≤w.heap.size→B'≤w.heap.size→
  Calls Tryz.prog 16 #[dV d v,dV d' v'] w fun e w'=>e=.returned (.bool (eqD d d'))∧Ext w w':=by
 intro d
 induction d using Da.ind with
 | h d ih=>
 intro d' lo B lo' B' w v v' h1 h2 hB hB'
 obtain⟨R,hR⟩:∃R,Hid (eqD d d'=R):=⟨_,Lib.hid rfl⟩
 rw[hR.out]
 have hkA:Sl B w v.1 d.ks.length (txs d.ks):=by cases h1 with|mk vs hk hl hr hc hnn=>exact hk.sl
 have hkB:Sl B' w v'.1 d'.ks.length (txs d'.ks):=by cases h2 with|mk vs hk hl hr hc hnn=>exact hk.sl
 obtain⟨Ak,ck,A1,c1,rfl,jj1,jj2,jj3,hmk,jj5,jj6,hm1,jj7⟩:=h1.parts
 obtain⟨Ak',ck',A2,c2,rfl,jk1,jk2,jk3,jk4,jk5,jk6,jkm2,jk7⟩:=h2.parts
 have hnk':d.ks.length≤9223372036854775807:=by unfold maxLen at hmk;omega
 have hnl':d.l.length≤9223372036854775807:=by unfold maxLen at hm1;omega
 clear jj1 jj2 jj3 jj5 jj7 jj6 hm1 hmk jk1 jk2 jk3 jk4 jk5 jk6 jkm2 jk7
 obtain⟨_,_,e,jj1,jj2,jj3,hatA⟩:=hkA.at_
 simp only at e
 injection e with e jj4 e'
 subst e;subst e'
 clear jj1 jj2 jj3 jj4
 obtain⟨_,_,e,jj1,jj2,jj3,hatB⟩:=hkB.at_
 simp only at e
 injection e with e jj4 e'
 subst e;subst e'
 clear jj1 jj2 jj3 jj4
 simp only[dV]
 obtain⟨n,hn⟩:∃z,Hid (d.ks.length=z):=⟨_,Lib.hid rfl⟩
 obtain⟨n2,hn2⟩:∃z,Hid (d'.ks.length=z):=⟨_,Lib.hid rfl⟩
 obtain⟨m,hm⟩:∃z,Hid (d.l.length=z):=⟨_,Lib.hid rfl⟩
 obtain⟨m2,hm2⟩:∃z,Hid (d'.l.length=z):=⟨_,Lib.hid rfl⟩
 rw[hn.out] at hnk'
 rw[hm.out] at hnl'
 rw[hn.out,hn2.out,hm.out,hm2.out]
 obtain⟨w1,hw1⟩:∃z,Hid ((w.alloc (.cells #[.int .i64 d.n,.string d.s,.slice Ak n ck,.slice A1 m c1] 28)).alloc (.cells #[.int .i64 d'.n,.string d'.s,.slice Ak' n2 ck',.slice A2 m2 c2] 28)=z):=⟨_,rfl⟩
 have hx1:Ext w w1:=by rw[←hw1.out];exact ((Ext.refl w).alloc _).alloc _
 obtain⟨q,hq⟩:∃z,Hid (w.heap.size=z):=⟨_,rfl⟩
 have hbA:Blk w1 q #[.int .i64 d.n,.string d.s,.slice Ak n ck,.slice A1 m c1] 28:=by rw[←hw1.out,←hq.out];exact (Blk.new w _ _).alloc _
 have hbB:Blk w1 (q+1) #[.int .i64 d'.n,.string d'.s,.slice Ak' n2 ck',.slice A2 m2 c2] 28:=by
  rw[←hw1.out,←hq.out]
  have:=Blk.new (w.alloc (.cells #[.int .i64 d.n,.string d.s,.slice Ak n ck,.slice A1 m c1] 28)) #[.int .i64 d'.n,.string d'.s,.slice Ak' n2 ck',.slice A2 m2 c2] 28
  simpa using this
 have pA:∀W,Ext w1 W→W.cell? ⟨q,2,none⟩=some (.slice Ak n ck)∧W.cell? ⟨q,3,none⟩=some (.slice A1 m c1):=fun W hW=>⟨(hbA.ext hW).cell 2,(hbA.ext hW).cell 3⟩
 have pB:∀W,Ext w1 W→W.cell? ⟨q+1,2,none⟩=some (.slice Ak' n2 ck')∧W.cell? ⟨q+1,3,none⟩=some (.slice A2 m2 c2):=fun W hW=>⟨(hbB.ext hW).cell 2,(hbB.ext hW).cell 3⟩
 by_cases e1:¬(d.n=d'.n)
 ·have hR0:R=false:=by rw[←hR.out];exact eqD_false fun e=>e1 (by rw[e])
  have hb:(d.n != d'.n)=true:=by simpa using e1
  subst hR0
  clear ih pA pB hkA hkB
  go_enter Tryz.func16,Tryz.ntmps16
  go_wp2_with fail
  rw[hw1.out]
  go_ret
  exact⟨rfl,hx1⟩
 have e1:d.n=d'.n:=Classical.not_not.1 e1
 have hb1:(d.n != d'.n)=false:=by simpa using e1
 replace e1:=Lib.hid e1
 by_cases e2:¬(d.s=d'.s)
 ·have hR0:R=false:=by rw[←hR.out];exact eqD_false fun e=>e2 (by rw[e])
  have hb2:=str_ne e2
  subst hR0
  clear ih pA pB hkA hkB
  go_enter Tryz.func16,Tryz.ntmps16
  go_wp2_with fail
  rw[hw1.out]
  go_ret
  exact⟨rfl,hx1⟩
 have e2:d.s=d'.s:=Classical.not_not.1 e2
 have hb2:(d.s.toList == d'.s.toList)=true:=by rw[e2];simp
 replace e2:=Lib.hid e2
 by_cases e3:¬(n=n2)
 ·have hR0:R=false:=by rw[←hR.out];exact eqD_false fun e=>e3 (by rw[←hn.out,←hn2.out,e])
  have hb3:((n:Int) != (n2:Int))=true:=by simpa using (by omega:¬(n:Int)=(n2:Int))
  subst hR0
  clear ih pA pB hkA hkB
  go_enter Tryz.func16,Tryz.ntmps16
  go_wp2_with fail
  rw[hw1.out]
  go_ret
  exact⟨rfl,hx1⟩
 have e3:n=n2:=Classical.not_not.1 e3
 subst e3
 have hb3:((n:Int) != (n:Int))=false:=by simp
 by_cases e4:¬(m=m2)
 ·have hR0:R=false:=by rw[←hR.out];exact eqD_false fun e=>e4 (by rw[←hm.out,←hm2.out,e])
  have hb4:((m:Int) != (m2:Int))=true:=by simpa using (by omega:¬(m:Int)=(m2:Int))
  subst hR0
  clear ih pA pB hkA hkB
  go_enter Tryz.func16,Tryz.ntmps16
  go_wp2_with fail
  rw[hw1.out]
  go_ret
  exact⟨rfl,hx1⟩
 have e4:m=m2:=Classical.not_not.1 e4
 subst e4
 have hb4:((m:Int) != (m:Int))=false:=by simp
 replace ih:=Lib.hid ih
 go_enter Tryz.func16,Tryz.ntmps16
 go_wp2_with fail
 rw[hw1.out,hq.out]
 go_loopw [5,37,38,39,40,41,42,43,44,45,46,47,48,49,50,51,52,53,54] (fun v5 v37 v38 v39 v40 v41 v42 v43 v44 v45 v46 v47 v48 v49 v50 v51 v52 v53 v54 wr=>∃i:Nat,i≤n∧v5=.int .i64 i∧Pr.EqAt d.ks d'.ks i∧Ext w1 wr) (fun v5 _ _ _ _ _ _ _ _ _ _ _ _ _ _ _ _ _ _ _=>n-(intOf v5).toNat)
 case atStart=>exact⟨0,by omega,rfl,fun j hj=>by omega,Ext.refl w1⟩
 case round=>
  obtain⟨i,hi,rfl,heq,hx⟩:=hrel
  obtain⟨pA2,pA3⟩:=pA wr hx
  obtain⟨pB2,pB3⟩:=pB wr hx
  by_cases hin:i<n
  ·have hin':(i:Int)<(n:Int):=by omega
   obtain⟨x,hx1'⟩:∃x,d.ks[i]?=some x:=⟨_,List.getElem?_eq_getElem (by have:=hn.out;omega)⟩
   obtain⟨y,hx2⟩:∃x,d'.ks[i]?=some x:=⟨_,List.getElem?_eq_getElem (by have:=hn2.out;omega)⟩
   have hz1:(txs d.ks)[i]?=some (.string x):=by unfold txs;rw[List.getElem?_map,hx1'];rfl
   have hz2:(txs d'.ks)[i]?=some (.string y):=by unfold txs;rw[List.getElem?_map,hx2];rfl
   obtain⟨b1,o1,rfl,hbb1,hc1⟩:=hatA i _ hz1
   obtain⟨b2,o2,rfl,hbb2,hc2⟩:=hatB i _ hz2
   have d1:∀W,Ext wr W→W.cell? ⟨b1,o1+i,none⟩=some (.string x):=fun W hW=>hc1 W (Below.mono ((hx1.trans hx).trans hW) hB) i _ hz1
   have d2:∀W,Ext wr W→W.cell? ⟨b2,o2+i,none⟩=some (.string y):=fun W hW=>hc2 W (Below.mono ((hx1.trans hx).trans hW) hB') i _ hz2
   have pA':∀W,Ext wr W→W.cell? ⟨q,2,none⟩=some (.slice (some ⟨b1,o1,none⟩) n ck):=fun W hW=>(pA W (hx.trans hW)).1
   have pB':∀W,Ext wr W→W.cell? ⟨q+1,2,none⟩=some (.slice (some ⟨b2,o2,none⟩) n ck'):=fun W hW=>(pB W (hx.trans hW)).1
   clear hz1 hz2 hc1 hc2 ih hatA hatB
   by_cases he:x=y
   ·subst he
    have hE:=heq.next hx1' hx2
    clear hx1' hx2
    have hbq:(x.toList != x.toList)=false:=by simp
    go_wp2_with fail
    clear pA pB pA2 pA3 pB2 pB3
    refine Reg.startE (by kernel_rfl) ?_
    iterate 11 ((first|refine Reg.tn ?_|refine Reg.sn ?_);(try simp only[Reg.nn]))
    refine Reg.fin (by kernel_rfl) (fun W hW=>?_)
    go_wp2_with fail
    go_roundw
    case rel=>exact⟨i+1,by omega,by go_num,hE,hx.trans hW⟩
    case measure=>simp[intOf];omega
   ·have hne:=ne_at hx1' hx2 he
    have hRf:R=false:=by rw[←hR.out];exact eqD_false fun e=>hne (by rw[e])
    have hbq:=str_ne he
    have hbq2:(x.toList != y.toList)=true:=by simpa [bne] using hbq
    subst hRf
    clear hx1' hx2 hne
    go_wp2_with fail
    clear pA pB pA2 pA3 pB2 pB3
    refine Reg.startE (by kernel_rfl) ?_
    iterate 11 ((first|refine Reg.tn ?_|refine Reg.sn ?_);(try simp only[Reg.nn]))
    refine Reg.fin (by kernel_rfl) (fun W hW=>?_)
    go_wp2_with fail
    go_ret
    exact⟨rfl,(hx1.trans hx).trans hW⟩
  ·obtain rfl:i=n:=by omega
   have hkk:d.ks=d'.ks:=Pr.EqAt.all (by rw[hn.out,hn2.out]) (by rw[hn.out];exact heq)
   replace hkk:=Lib.hid hkk
   obtain⟨w2,hw2⟩:∃z,z=wr:=⟨_,rfl⟩
   rw[←hw2] at pA2 pA3 pB2 pB3 hx ⊢
   clear hw2 heq hatA hatB hkA hkB
   go_wp2_with fail
   go_loopw [6,55,56,57,58,59,60,61,62,63,64,65,66,67,68,69,70,71,72,73] (fun v6 v55 v56 v57 v58 v59 v60 v61 v62 v63 v64 v65 v66 v67 v68 v69 v70 v71 v72 v73 wr=>∃i:Nat,i≤m∧v6=.int .i64 i∧Pr.EqAt d.l d'.l i∧Ext w2 wr) (fun v6 _ _ _ _ _ _ _ _ _ _ _ _ _ _ _ _ _ _ _ _=>m-(intOf v6).toNat)
   case atStart=>exact⟨0,by omega,rfl,fun j hj=>by omega,Ext.refl w2⟩
   case round=>
    obtain⟨i,hi,rfl,heq,hxb⟩:=hrel
    have hxw:=(hx1.trans hx).trans hxb
    have pA4:=(pA wr (hx.trans hxb)).2
    have pB4:=(pB wr (hx.trans hxb)).2
    clear pA2 pA3 pB2 pB3
    by_cases hin:i<m
    ·have hin':(i:Int)<(m:Int):=by omega
     obtain⟨x,hx1'⟩:∃x,d.l[i]?=some x:=⟨_,List.getElem?_eq_getElem (by have:=hm.out;omega)⟩
     obtain⟨y,hx2⟩:∃x,d'.l[i]?=some x:=⟨_,List.getElem?_eq_getElem (by have:=hm2.out;omega)⟩
     obtain⟨b1,o1,d1,As1,cs1,Ai1,ci1,e3,hb1',hs1,hc1⟩:=h1.kid i x hx1'
     obtain⟨b2,o2,d2,As2,cs2,Ai2,ci2,e4,hb2',hs2,hc2⟩:=h2.kid i y hx2
     simp only at e3 e4
     injection e3 with e3 _ e3'
     injection e4 with e4 _ e4'
     subst e3;subst e3';subst e4;subst e4'
     have pA':∀W,Ext wr W→W.cell? ⟨q,3,none⟩=some (.slice (some ⟨b1,o1,none⟩) m c1):=fun W hW=>(pA W ((hx.trans hxb).trans hW)).2
     have pB':∀W,Ext wr W→W.cell? ⟨q+1,3,none⟩=some (.slice (some ⟨b2,o2,none⟩) m c2):=fun W hW=>(pB W ((hx.trans hxb).trans hW)).2
     have c10:∀W,Ext wr W→W.cell? ⟨b1,o1+i*4,none⟩=some (.int .i64 x.n):=fun W hW=>(hc1 W (Below.mono (hxw.trans hW) hB)).1
     have c11:∀W,Ext wr W→W.cell? ⟨b1,o1+i*4+1,none⟩=some (.string x.s):=fun W hW=>(hc1 W (Below.mono (hxw.trans hW) hB)).2.1
     have c12:∀W,Ext wr W→W.cell? ⟨b1,o1+i*4+2,none⟩=some (.slice As1 x.ks.length cs1):=fun W hW=>(hc1 W (Below.mono (hxw.trans hW) hB)).2.2.1
     have c13:∀W,Ext wr W→W.cell? ⟨b1,o1+i*4+3,none⟩=some (.slice Ai1 x.l.length ci1):=fun W hW=>(hc1 W (Below.mono (hxw.trans hW) hB)).2.2.2
     have c20:∀W,Ext wr W→W.cell? ⟨b2,o2+i*4,none⟩=some (.int .i64 y.n):=fun W hW=>(hc2 W (Below.mono (hxw.trans hW) hB')).1
     have c21:∀W,Ext wr W→W.cell? ⟨b2,o2+i*4+1,none⟩=some (.string y.s):=fun W hW=>(hc2 W (Below.mono (hxw.trans hW) hB')).2.1
     have c22:∀W,Ext wr W→W.cell? ⟨b2,o2+i*4+2,none⟩=some (.slice As2 y.ks.length cs2):=fun W hW=>(hc2 W (Below.mono (hxw.trans hW) hB')).2.2.1
     have c23:∀W,Ext wr W→W.cell? ⟨b2,o2+i*4+3,none⟩=some (.slice Ai2 y.l.length ci2):=fun W hW=>(hc2 W (Below.mono (hxw.trans hW) hB')).2.2.2
     have hcall:∀W,Ext wr W→_:=fun W hW=>ih.out x (List.mem_of_getElem? hx1') y (w:=W) (hs1.low (Below.mono (hxw.trans hW) hB)) (hs2.low (Below.mono (hxw.trans hW) hB')) (Nat.le_trans hB (hxw.trans hW).size) (Nat.le_trans hB' (hxw.trans hW).size)
     simp only[dV] at hcall
     by_cases he:x=y
     ·rw[eqD_true he] at hcall
      replace hcall:=Lib.hid hcall
      rw[←he] at hx2
      have hE:=heq.next hx1' hx2
      clear hx1' hx2 hc1 hc2 hs1 hs2 he ih
      go_wp2_with fail
      clear pA pB pA4 pB4
      refine Reg.startE (by kernel_rfl) ?_
      iterate 10 ((first|refine Reg.tn ?_|refine Reg.sn ?_);(try simp only[Reg.nn]))
      refine Reg.onlyE 10 _ rfl (by kernel_rfl) (by decide) (by rfl) (fun W hW K hK=>?_);go_simp
      refine (hcall.out _ (by repeat (first|assumption|exact Ext.refl _|refine Ext.trans (by assumption) ?_|apply Ext.drew|apply Ext.drewN|apply Ext.alloc))).mono ?_
      rintro e wX ⟨rfl,hX⟩
      refine hK.out _ _ (hX) ?_;clear hK K;(try simp only[Reg.nn])
      refine Reg.tk 11 ?_;(try simp only[Reg.nn])
      refine Reg.fin (by kernel_rfl) (fun W hW=>?_)
      go_wp2_with fail
      go_roundw
      case rel=>exact⟨i+1,by omega,by go_num,hE,hxb.trans (by repeat (first|assumption|exact Ext.refl _|refine Ext.trans (by assumption) ?_|apply Ext.drew|apply Ext.drewN|apply Ext.alloc))⟩
      case measure=>simp[intOf];omega
     ·have hne:=ne_at hx1' hx2 he
      have hRf:R=false:=by rw[←hR.out];exact eqD_false fun e=>hne (by rw[e])
      rw[eqD_false he] at hcall
      replace hcall:=Lib.hid hcall
      subst hRf
      clear hx1' hx2 hne hc1 hc2 hs1 hs2 he ih
      go_wp2_with fail
      clear pA pB pA4 pB4
      refine Reg.startE (by kernel_rfl) ?_
      iterate 10 ((first|refine Reg.tn ?_|refine Reg.sn ?_);(try simp only[Reg.nn]))
      refine Reg.onlyE 10 _ rfl (by kernel_rfl) (by decide) (by rfl) (fun W hW K hK=>?_);go_simp
      refine (hcall.out _ (by repeat (first|assumption|exact Ext.refl _|refine Ext.trans (by assumption) ?_|apply Ext.drew|apply Ext.drewN|apply Ext.alloc))).mono ?_
      rintro e wX ⟨rfl,hX⟩
      refine hK.out _ _ (hX) ?_;clear hK K;(try simp only[Reg.nn])
      refine Reg.tk 11 ?_;(try simp only[Reg.nn])
      refine Reg.fin (by kernel_rfl) (fun W hW=>?_)
      go_wp2_with fail
      go_ret
      exact⟨rfl,hxw.trans (by repeat (first|assumption|exact Ext.refl _|refine Ext.trans (by assumption) ?_|apply Ext.drew|apply Ext.drewN|apply Ext.alloc))⟩
    ·obtain rfl:i=m:=by omega
     have hll:d.l=d'.l:=Pr.EqAt.all (by rw[hm.out,hm2.out]) (by rw[hm.out];exact heq)
     have hRt:R=true:=by rw[←hR.out];exact eqD_true (Da.ext e1.out e2.out hkk.out hll)
     clear hll
     subst hRt
     go_wp2_with fail
     go_ret
     exact⟨rfl,hxw⟩
theorem cntL_drop {l:List Da} {i:Nat} {x:Da} (h:l[i]?=some x) (deep most n:Int):cntL (l.drop i) deep most n=if cntD x (deep+1) (most-n)<0 then -1 else cntL (l.drop (i+1)) deep most (n+cntD x (deep+1) (most-n)):=by
 obtain⟨hi,e⟩:=List.getElem?_eq_some_iff.1 h
 rw[List.drop_eq_getElem_cons hi,e,cntL]
theorem cntL_end {l:List Da} (deep most n:Int):cntL (l.drop l.length) deep most n=n:=by rw[List.drop_length,cntL]
theorem count_any:∀(d:Da) {lo B:Nat} {w:World} {v:V2} (deep most:Int),DaR lo B w d v→B≤w.heap.size → -100000≤deep→deep≤101 → -100000≤most→most≤100000→
  Calls Tryz.prog 20 #[dV d v,.int .i64 deep,.int .i64 most] w fun e w'=>e=.returned (.int .i64 (cntD d deep most))∧Ext w w':=by
 intro d
 induction d using Da.ind with
 | h d ih=>
 intro lo B w v deep most h hB g1 g2 g3 g4
 obtain⟨R,hR⟩:∃R,Hid (cntD d deep most=R):=⟨_,Lib.hid rfl⟩
 rw[hR.out]
 have hRd:R=if deep>100∨most<1 then -1 else cntL d.l deep most 1:=by rw[←hR.out];cases d;rw[cntD];rfl
 replace hRd:=Lib.hid hRd
 obtain⟨Ak,ck,Al,cl,rfl,jj1,jj2,jj3,jj4,jj5,hm1,hm2,jj6⟩:=h.parts
 clear jj1 jj2 jj3 jj4 jj5 jj6
 have hm:d.l.length≤9223372036854775807:=by unfold maxLen at hm2;omega
 clear hm1 hm2
 obtain⟨n,hn⟩:∃z,Hid (d.l.length=z):=⟨_,rfl⟩
 obtain⟨nk,hnk⟩:∃z,Hid (d.ks.length=z):=⟨_,rfl⟩
 rw[hn.out] at hm
 simp only[dV]
 rw[hn.out,hnk.out]
 obtain⟨w1,hw1⟩:∃z,Hid (w.alloc (.cells #[.int .i64 d.n,.string d.s,.slice Ak nk ck,.slice Al n cl] 28)=z):=⟨_,rfl⟩
 have hx1:Ext w w1:=by rw[←hw1.out];exact (Ext.refl w).alloc _
 obtain⟨q,hq⟩:∃z,Hid (w.heap.size=z):=⟨_,rfl⟩
 have hbA:Blk w1 q #[.int .i64 d.n,.string d.s,.slice Ak nk ck,.slice Al n cl] 28:=by rw[←hw1.out,←hq.out];exact Blk.new w _ _
 by_cases hd:deep>100
 ·have hRt:R = -1:=by rw[hRd.out,if_pos (.inl hd)]
  replace hRt:=Lib.hid hRt
  have hd':(100:Int)<deep:=hd
  clear hd
  go_enter Tryz.func20,Tryz.ntmps20
  go_wp2_with fail
  rw[hw1.out]
  go_ret
  exact⟨by rw[hRt.out];rfl,hx1⟩
 have hd':¬(100:Int)<deep:=by omega
 by_cases hmo:most<1
 ·have hRt:R = -1:=by rw[hRd.out,if_pos (.inr hmo)]
  replace hRt:=Lib.hid hRt
  clear hd
  go_enter Tryz.func20,Tryz.ntmps20
  go_wp2_with fail
  rw[hw1.out]
  go_ret
  exact⟨by rw[hRt.out];rfl,hx1⟩
 have hRl:R=cntL d.l deep most 1:=by rw[hRd.out,if_neg (by omega)]
 replace hRl:=Lib.hid hRl
 clear hd hRd
 go_enter Tryz.func20,Tryz.ntmps20
 go_wp2_with fail
 rw[hw1.out,hq.out]
 go_loopw [7,8,9,16,17,18,19,20,21,22,23,24,25,26,27,28,29,30,31,32,33,34,35,36,37,38] (fun v7 v8 v9 v16 v17 v18 v19 v20 v21 v22 v23 v24 v25 v26 v27 v28 v29 v30 v31 v32 v33 v34 v35 v36 v37 v38 wr=>∃(i:Nat) (c:Int),i≤n∧v8=.int .i64 i∧v7=.int .i64 c∧1≤c∧c≤most∧Hid (cntL (d.l.drop i) deep most c=R)∧Ext w1 wr) (fun _ v8 _ _ _ _ _ _ _ _ _ _ _ _ _ _ _ _ _ _ _ _ _ _ _ _ _=>n-(intOf v8).toNat)
 case atStart=>exact⟨0,1,by omega,rfl,rfl,by omega,by omega,Lib.hid hRl.out.symm,Ext.refl w1⟩
 case round=>
  obtain⟨i,c,hi,rfl,rfl,hc1,hc2,hrl,hx⟩:=hrel
  have pA:=(hbA.ext hx).cell 3
  by_cases hin:i<n
  ·have hin':(i:Int)<(n:Int):=by omega
   obtain⟨x,hx1'⟩:∃x,d.l[i]?=some x:=⟨_,List.getElem?_eq_getElem (by have:=hn.out;omega)⟩
   obtain⟨b,off,c0,Akx,ckx,Alx,clx,e1,hb1,hdx,hcc⟩:=h.kid i x hx1'
   simp only at e1
   injection e1 with e1 _ e1'
   subst e1;subst e1'
   have hstep:=cntL_drop hx1' deep most c
   rw[hrl.out] at hstep
   obtain⟨k,hk⟩:∃k,Hid (cntD x (deep+1) (most-c)=k):=⟨_,Lib.hid rfl⟩
   have hk1 : -1≤k:=by rw[←hk.out];exact cnt_ge _ _ _
   have hk2:0≤k→k≤most-c:=fun h0=>by rw[←hk.out] at h0 ⊢;exact (cnt_le _ _ _ h0).2
   have pA':∀W,Ext wr W→W.cell? ⟨q,3,none⟩=some (.slice (some ⟨b,off,none⟩) n cl):=fun W hW=>(hbA.ext (hx.trans hW)).cell 3
   have c10:∀W,Ext wr W→W.cell? ⟨b,off+i*4,none⟩=some (.int .i64 x.n):=fun W hW=>(hcc W (Below.mono ((hx1.trans hx).trans hW) hB)).1
   have c11:∀W,Ext wr W→W.cell? ⟨b,off+i*4+1,none⟩=some (.string x.s):=fun W hW=>(hcc W (Below.mono ((hx1.trans hx).trans hW) hB)).2.1
   have c12:∀W,Ext wr W→W.cell? ⟨b,off+i*4+2,none⟩=some (.slice Akx x.ks.length ckx):=fun W hW=>(hcc W (Below.mono ((hx1.trans hx).trans hW) hB)).2.2.1
   have c13:∀W,Ext wr W→W.cell? ⟨b,off+i*4+3,none⟩=some (.slice Alx x.l.length clx):=fun W hW=>(hcc W (Below.mono ((hx1.trans hx).trans hW) hB)).2.2.2
   have hcall:∀W,Ext wr W→_:=fun W hW=>ih x (List.mem_of_getElem? hx1') (w:=W) (deep+1) (most-c) (hdx.low (Below.mono ((hx1.trans hx).trans hW) hB)) (Nat.le_trans hB ((hx1.trans hx).trans hW).size) (by omega) (by omega) (by omega) (by omega)
   rw[hk.out] at hstep hcall
   simp only[dV] at hcall
   replace hcall:=Lib.hid hcall
   replace hstep:=Lib.hid hstep
   clear hx1' hcc hdx ih
   by_cases hk0:k<0
   ·have hRt:R = -1:=by rw[hstep.out,if_pos hk0]
    replace hRt:=Lib.hid hRt
    clear hstep
    replace hcall:=hcall.out wr (Ext.refl wr)
    replace c10:=c10 wr (Ext.refl wr)
    replace c11:=c11 wr (Ext.refl wr)
    replace c12:=c12 wr (Ext.refl wr)
    replace c13:=c13 wr (Ext.refl wr)
    clear pA'
    go_wp2_with fail
    refine hcall.mono ?_
    rintro e wX ⟨rfl,hX⟩
    go_wp2_with fail
    go_ret
    exact⟨by rw[hRt.out];rfl,(hx1.trans hx).trans hX⟩
   ·have hRt:R=cntL (d.l.drop (i+1)) deep most (c+k):=by rw[hstep.out,if_neg hk0]
    replace hRt:=Lib.hid hRt
    have hk3:=hk2 (by omega)
    have hk4:¬k<0:=hk0
    clear hstep hk2
    replace hcall:=hcall.out wr (Ext.refl wr)
    replace c10:=c10 wr (Ext.refl wr)
    replace c11:=c11 wr (Ext.refl wr)
    replace c12:=c12 wr (Ext.refl wr)
    replace c13:=c13 wr (Ext.refl wr)
    clear pA'
    go_wp2_with fail
    refine hcall.mono ?_
    rintro e wX ⟨rfl,hX⟩
    go_wp2_with fail
    go_roundw
    case rel=>exact⟨i+1,c+k,by omega,by go_num,by go_num,by omega,by omega,Lib.hid hRt.out.symm,hx.trans hX⟩
    case measure=>simp[intOf];omega
  ·obtain rfl:i=n:=by omega
   have hRt:R=c:=by
    have:=hrl.out
    rw[←hn.out,cntL_end] at this
    exact this.symm
   replace hRt:=Lib.hid hRt
   go_wp2_with fail
   go_ret
   exact⟨by rw[hRt.out];rfl,hx1.trans hx⟩
end Dm
end Go.Proofs.YtllhhpcabncmiaaGreatDoor
