/- parse: the document's way to hold schemas against each other. -/
import Derived.Test.YtmaoochjbpohdaaGreatDoorPbK
set_option linter.unusedVariables false
set_option linter.unusedSimpArgs false
set_option maxRecDepth 100000
set_option maxHeartbeats 1000000
namespace Go.Proofs.YtmaoochjbpohdaaGreatDoor.Pr
open Go.ChangeShapes Go.WideShapes Go.ChangeAt Go.RowKit
open Base Lx Mi
theorem rtexts_any {B:Nat} {w:World} {v1 v2:Value} {l1 l2:List ByteArray} (h1:Sl B w v1 l1.length (txs l1)) (h2:Sl B w v2 l2.length (txs l2)) (hB:B≤w.heap.size) :
  Calls Tryz.prog 93 #[v1,v2] w fun e w'=>e=.returned (.bool (decide (l1=l2)))∧Ext w w':=by
 obtain⟨R,hR⟩:∃R,Hid (decide (l1=l2)=R):=⟨_,rfl⟩
 rw[hR.out]
 obtain⟨A1,c1,rfl,hn1,hm1,_,hat1⟩:=h1.at_
 obtain⟨A2,c2,rfl,hn2,hm2,_,hat2⟩:=h2.at_
 unfold maxLen at hm1 hm2
 obtain⟨n,hn⟩:∃z,Hid (l1.length=z):=⟨_,rfl⟩
 obtain⟨n2,hn2'⟩:∃z,Hid (l2.length=z):=⟨_,rfl⟩
 rw[hn.out] at hn1 ⊢
 rw[hn2'.out] at hn2 ⊢
 by_cases hl:n=n2
 ·subst hl
  have hnb:((n:Int) != (n:Int))=false:=by simp
  go_enter Tryz.func93,Tryz.ntmps93
  go_wp2_with fail
  go_loopw [5,11,12,13,14,15,16,17,18,19,20,21,22,23,24,25] (fun v5 v11 v12 v13 v14 v15 v16 v17 v18 v19 v20 v21 v22 v23 v24 v25 wr=>∃i:Nat,i≤n∧v5=.int .i64 i∧EqAt l1 l2 i∧Ext w wr) (fun v5 _ _ _ _ _ _ _ _ _ _ _ _ _ _ _ _=>n-(intOf v5).toNat)
  case atStart=>exact⟨0,by omega,rfl,fun j hj=>by omega,Ext.refl w⟩
  case round=>
   obtain⟨i,hi,rfl,heq,hx⟩:=hrel
   by_cases hin:i<n
   ·have hin':(i:Int)<(n:Int):=by omega
    obtain⟨x,hx1⟩:∃x,l1[i]?=some x:=⟨_,List.getElem?_eq_getElem (by have:=hn.out;omega)⟩
    obtain⟨y,hx2⟩:∃x,l2[i]?=some x:=⟨_,List.getElem?_eq_getElem (by have:=hn2'.out;omega)⟩
    have hz1:(txs l1)[i]?=some (.string x):=by unfold txs;rw[List.getElem?_map,hx1];rfl
    have hz2:(txs l2)[i]?=some (.string y):=by unfold txs;rw[List.getElem?_map,hx2];rfl
    obtain⟨b1,o1,rfl,hb1,hc1⟩:=hat1 i _ hz1
    obtain⟨b2,o2,rfl,hb2,hc2⟩:=hat2 i _ hz2
    have d1:∀W,Ext wr W→W.cell? ⟨b1,o1+i,none⟩=some (.string x):=fun W hW=>hc1 W (Below.mono (hx.trans hW) hB) i _ hz1
    have d2:∀W,Ext wr W→W.cell? ⟨b2,o2+i,none⟩=some (.string y):=fun W hW=>hc2 W (Below.mono (hx.trans hW) hB) i _ hz2
    clear hz1 hz2 hc1 hc2
    by_cases he:x=y
    ·subst he
     have hE:=heq.next hx1 hx2
     clear hx1 hx2
     have hbq:(x.toList != x.toList)=false:=by simp
     go_wp2_with fail
     refine Reg.startE (by kernel_rfl) ?_
     iterate 9 ((first|refine Reg.tn ?_|refine Reg.sn ?_);(try simp only[Reg.nn]))
     refine Reg.fin (by kernel_rfl) (fun W hW=>?_)
     go_wp2_with fail
     go_roundw
     case rel=>exact⟨i+1,by omega,by go_num,hE,hx.trans hW⟩
     case measure=>simp[intOf];omega
    ·have hne:=ne_at hx1 hx2 he
     have hRf:R=false:=by rw[←hR.out];simpa using hne
     have hbq:=str_ne he
     have hbq2:(x.toList != y.toList)=true:=by simpa [bne] using hbq
     subst hRf
     clear hx1 hx2 hne
     go_wp2_with fail
     refine Reg.startE (by kernel_rfl) ?_
     iterate 9 ((first|refine Reg.tn ?_|refine Reg.sn ?_);(try simp only[Reg.nn]))
     refine Reg.fin (by kernel_rfl) (fun W hW=>?_)
     go_wp2_with fail
     go_ret
     exact⟨rfl,hx.trans hW⟩
   ·obtain rfl:i=n:=by omega
    have hRt:R=true:=by rw[←hR.out];simpa using EqAt.all (by rw[hn.out,hn2'.out]) (by rw[hn.out];exact heq)
    subst hRt
    go_wp2_with fail
    go_ret
    exact⟨rfl,hx⟩
 ·have hRf:R=false:=by rw[←hR.out];simpa using ne_len (by rw[hn.out,hn2'.out];exact hl)
  have hnb:((n:Int) != (n2:Int))=true:=by simpa using (by omega:¬(n:Int)=(n2:Int))
  subst hRf
  go_enter Tryz.func93,Tryz.ntmps93
  go_wp2_with fail
  go_ret
  exact⟨rfl,Ext.refl w⟩
theorem rints_any {B:Nat} {w:World} {v1 v2:Value} {l1 l2:List Int} (h1:Sl B w v1 l1.length (intsZ l1)) (h2:Sl B w v2 l2.length (intsZ l2)) (hB:B≤w.heap.size) :
  Calls Tryz.prog 61 #[v1,v2] w fun e w'=>e=.returned (.bool (decide (l1=l2)))∧Ext w w':=by
 obtain⟨R,hR⟩:∃R,Hid (decide (l1=l2)=R):=⟨_,rfl⟩
 rw[hR.out]
 obtain⟨A1,c1,rfl,hn1,hm1,_,hat1⟩:=h1.at_
 obtain⟨A2,c2,rfl,hn2,hm2,_,hat2⟩:=h2.at_
 unfold maxLen at hm1 hm2
 obtain⟨n,hn⟩:∃z,Hid (l1.length=z):=⟨_,rfl⟩
 obtain⟨n2,hn2'⟩:∃z,Hid (l2.length=z):=⟨_,rfl⟩
 rw[hn.out] at hn1 ⊢
 rw[hn2'.out] at hn2 ⊢
 by_cases hl:n=n2
 ·subst hl
  have hnb:((n:Int) != (n:Int))=false:=by simp
  go_enter Tryz.func61,Tryz.ntmps61
  go_wp2_with fail
  go_loopw [5,11,12,13,14,15,16,17,18,19,20,21,22,23,24,25] (fun v5 v11 v12 v13 v14 v15 v16 v17 v18 v19 v20 v21 v22 v23 v24 v25 wr=>∃i:Nat,i≤n∧v5=.int .i64 i∧EqAt l1 l2 i∧Ext w wr) (fun v5 _ _ _ _ _ _ _ _ _ _ _ _ _ _ _ _=>n-(intOf v5).toNat)
  case atStart=>exact⟨0,by omega,rfl,fun j hj=>by omega,Ext.refl w⟩
  case round=>
   obtain⟨i,hi,rfl,heq,hx⟩:=hrel
   by_cases hin:i<n
   ·have hin':(i:Int)<(n:Int):=by omega
    obtain⟨x,hx1⟩:∃x,l1[i]?=some x:=⟨_,List.getElem?_eq_getElem (by have:=hn.out;omega)⟩
    obtain⟨y,hx2⟩:∃x,l2[i]?=some x:=⟨_,List.getElem?_eq_getElem (by have:=hn2'.out;omega)⟩
    have hz1:(intsZ l1)[i]?=some (.int .i64 x):=by unfold intsZ;rw[List.getElem?_map,hx1];rfl
    have hz2:(intsZ l2)[i]?=some (.int .i64 y):=by unfold intsZ;rw[List.getElem?_map,hx2];rfl
    obtain⟨b1,o1,rfl,hb1,hc1⟩:=hat1 i _ hz1
    obtain⟨b2,o2,rfl,hb2,hc2⟩:=hat2 i _ hz2
    have d1:∀W,Ext wr W→W.cell? ⟨b1,o1+i,none⟩=some (.int .i64 x):=fun W hW=>hc1 W (Below.mono (hx.trans hW) hB) i _ hz1
    have d2:∀W,Ext wr W→W.cell? ⟨b2,o2+i,none⟩=some (.int .i64 y):=fun W hW=>hc2 W (Below.mono (hx.trans hW) hB) i _ hz2
    clear hz1 hz2 hc1 hc2
    by_cases he:x=y
    ·subst he
     have hE:=heq.next hx1 hx2
     clear hx1 hx2
     have hbq:(x != x)=false:=by simp
     go_wp2_with fail
     refine Reg.startE (by kernel_rfl) ?_
     iterate 9 ((first|refine Reg.tn ?_|refine Reg.sn ?_);(try simp only[Reg.nn]))
     refine Reg.fin (by kernel_rfl) (fun W hW=>?_)
     go_wp2_with fail
     go_roundw
     case rel=>exact⟨i+1,by omega,by go_num,hE,hx.trans hW⟩
     case measure=>simp[intOf];omega
    ·have hne:=ne_at hx1 hx2 he
     have hRf:R=false:=by rw[←hR.out];simpa using hne
     have hbq2:(x != y)=true:=by simpa using he
     subst hRf
     clear hx1 hx2 hne
     go_wp2_with fail
     refine Reg.startE (by kernel_rfl) ?_
     iterate 9 ((first|refine Reg.tn ?_|refine Reg.sn ?_);(try simp only[Reg.nn]))
     refine Reg.fin (by kernel_rfl) (fun W hW=>?_)
     go_wp2_with fail
     go_ret
     exact⟨rfl,hx.trans hW⟩
   ·obtain rfl:i=n:=by omega
    have hRt:R=true:=by rw[←hR.out];simpa using EqAt.all (by rw[hn.out,hn2'.out]) (by rw[hn.out];exact heq)
    subst hRt
    go_wp2_with fail
    go_ret
    exact⟨rfl,hx⟩
 ·have hRf:R=false:=by rw[←hR.out];simpa using ne_len (by rw[hn.out,hn2'.out];exact hl)
  have hnb:((n:Int) != (n2:Int))=true:=by simpa using (by omega:¬(n:Int)=(n2:Int))
  subst hRf
  go_enter Tryz.func61,Tryz.ntmps61
  go_wp2_with fail
  go_ret
  exact⟨rfl,Ext.refl w⟩
theorem rnode_any {B:Nat} {w:World} {d1 d2:Ne} {v1 v2:V3} (h1:SubE B w d1 v1) (h2:SubE B w d2 v2) (hB:B≤w.heap.size) :
  Calls Tryz.prog 68 #[.agg (neC d1 v1).toArray,.agg (neC d2 v2).toArray] w fun e w'=>e=.returned (.bool (decide (d1=d2)))∧Ext w w':=by
 obtain⟨k1,m1,z1,s1,i1,f1⟩:=d1
 obtain⟨k2,m2,z2,s2,i2,f2⟩:=d2
 obtain⟨a1,b1,c1⟩:=v1
 obtain⟨a2,b2,c2⟩:=v2
 have hs1:Sl B w a1 s1.length (txs s1):=h1.syms
 have hi1:Sl B w b1 i1.length (intsZ i1):=h1.items
 have hf1:Sl B w c1 f1.length (fldsZ f1):=h1.fields
 have hs2:Sl B w a2 s2.length (txs s2):=h2.syms
 have hi2:Sl B w b2 i2.length (intsZ i2):=h2.items
 have hf2:Sl B w c2 f2.length (fldsZ f2):=h2.fields
 clear h1 h2
 obtain⟨F1,cc1,rfl,hn1,hm1,_,hat1⟩:=hf1.at_
 obtain⟨F2,cc2,rfl,hn2,hm2,_,hat2⟩:=hf2.at_
 unfold maxLen at hm1 hm2
 simp only[neC]
 obtain⟨n,hn⟩:∃z,Hid (f1.length=z):=⟨_,Lib.hid rfl⟩
 obtain⟨n2,hn2'⟩:∃z,Hid (f2.length=z):=⟨_,Lib.hid rfl⟩
 rw[hn.out] at hn1 ⊢
 rw[hn2'.out] at hn2 ⊢
 obtain⟨w1,hw1⟩:∃z,Hid ((w.alloc (.cells #[.int .i64 k1,.string m1,.int .i64 z1,a1,b1,.slice F1 n cc1] 36)).alloc (.cells #[.int .i64 k2,.string m2,.int .i64 z2,a2,b2,.slice F2 n2 cc2] 36)=z):=⟨_,rfl⟩
 have hx1:Ext w w1:=by rw[←hw1.out];exact ((Ext.refl w).alloc _).alloc _
 obtain⟨q,hq⟩:∃z,Hid (w.heap.size=z):=⟨_,rfl⟩
 have hbA:Blk w1 q #[.int .i64 k1,.string m1,.int .i64 z1,a1,b1,.slice F1 n cc1] 36:=by rw[←hw1.out,←hq.out];exact (Blk.new w _ _).alloc _
 have hbB:Blk w1 (q+1) #[.int .i64 k2,.string m2,.int .i64 z2,a2,b2,.slice F2 n2 cc2] 36:=by
  rw[←hw1.out,←hq.out]
  have:=Blk.new (w.alloc (.cells #[.int .i64 k1,.string m1,.int .i64 z1,a1,b1,.slice F1 n cc1] 36)) #[.int .i64 k2,.string m2,.int .i64 z2,a2,b2,.slice F2 n2 cc2] 36
  simpa using this
 have pA:∀W,Ext w1 W→W.cell? ⟨q,5,none⟩=some (.slice F1 n cc1):=fun W hW=>(hbA.ext hW).cell 5
 have pB:∀W,Ext w1 W→W.cell? ⟨q+1,5,none⟩=some (.slice F2 n2 cc2):=fun W hW=>(hbB.ext hW).cell 5
 have hcs:=fun W (hW:Ext w W)=>rtexts_any (hs1.below (Below.mono hW hB)) (hs2.below (Below.mono hW hB)) (Nat.le_trans hB hW.size)
 have hci:=fun W (hW:Ext w W)=>rints_any (hi1.below (Below.mono hW hB)) (hi2.below (Below.mono hW hB)) (Nat.le_trans hB hW.size)
 obtain⟨R,hR⟩:∃R,Hid (decide ((⟨k1,m1,z1,s1,i1,f1⟩:Ne)=⟨k2,m2,z2,s2,i2,f2⟩)=R):=⟨_,Lib.hid rfl⟩
 rw[hR.out]
 by_cases e1:¬(k1=k2)
 ·have hR0:R=false:=by rw[←hR.out];simp[e1]
  have hb:(k1 == k2)=false:=by simpa using e1
  have hb':(k1 != k2)=true:=by simpa using e1
  subst hR0
  clear pA pB hcs hci
  go_enter Tryz.func68,Tryz.ntmps68
  go_wp2_with fail
  rw[hw1.out]
  go_ret
  exact⟨rfl,hx1⟩
 have e1:k1=k2:=Classical.not_not.1 e1
 subst e1
 have hbk:(k1 != k1)=false:=by simp
 by_cases e2:¬(m1=m2)
 ·have hR0:R=false:=by rw[←hR.out];simp[e2]
  have hb2:=str_ne e2
  have hb2':(m1.toList != m2.toList)=true:=by simpa [bne] using hb2
  subst hR0
  clear pA pB hcs hci
  go_enter Tryz.func68,Tryz.ntmps68
  go_wp2_with fail
  rw[hw1.out]
  go_ret
  exact⟨rfl,hx1⟩
 have e2:m1=m2:=Classical.not_not.1 e2
 subst e2
 have hbm:(m1.toList != m1.toList)=false:=by simp
 by_cases e3:¬(z1=z2)
 ·have hR0:R=false:=by rw[←hR.out];simp[e3]
  have hb3:(z1 == z2)=false:=by simpa using e3
  have hb3':(z1 != z2)=true:=by simpa using e3
  subst hR0
  clear pA pB hcs hci
  go_enter Tryz.func68,Tryz.ntmps68
  go_wp2_with fail
  rw[hw1.out]
  go_ret
  exact⟨rfl,hx1⟩
 have e3:z1=z2:=Classical.not_not.1 e3
 subst e3
 have hbz:(z1 != z1)=false:=by simp
 by_cases e4:¬(n=n2)
 ·have hR0:R=false:=by
   rw[←hR.out]
   have:f1≠f2:=ne_len (by rw[hn.out,hn2'.out];exact e4)
   simp[this]
  have hnb:((n:Int) != (n2:Int))=true:=by simpa using (by omega:¬(n:Int)=(n2:Int))
  subst hR0
  clear pA pB hcs hci
  go_enter Tryz.func68,Tryz.ntmps68
  go_wp2_with fail
  rw[hw1.out]
  go_ret
  exact⟨rfl,hx1⟩
 have e4:n=n2:=Classical.not_not.1 e4
 subst e4
 have hnb:((n:Int) != (n:Int))=false:=by simp
 go_enter Tryz.func68,Tryz.ntmps68
 go_wp2_with fail
 rw[hw1.out,hq.out]
 replace hcs:=Lib.hid hcs
 replace hci:=Lib.hid hci
 go_loopw [5,34,35,36,37,38,39,40,41,42,43,44,45,46,47,48,49,50,51] (fun v5 v34 v35 v36 v37 v38 v39 v40 v41 v42 v43 v44 v45 v46 v47 v48 v49 v50 v51 wr=>∃i:Nat,i≤n∧v5=.int .i64 i∧EqAt f1 f2 i∧Ext w1 wr) (fun v5 _ _ _ _ _ _ _ _ _ _ _ _ _ _ _ _ _ _ _=>n-(intOf v5).toNat)
 case atStart=>exact⟨0,by omega,rfl,fun j hj=>by omega,Ext.refl w1⟩
 case round=>
  obtain⟨i,hi,rfl,heq,hx⟩:=hrel
  have pAr:=pA wr hx
  have pBr:=pB wr hx
  by_cases hin:i<n
  ·have hin':(i:Int)<(n:Int):=by omega
   obtain⟨x,hx1'⟩:∃x,f1[i]?=some x:=⟨_,List.getElem?_eq_getElem (by have:=hn.out;omega)⟩
   obtain⟨y,hx2⟩:∃x,f2[i]?=some x:=⟨_,List.getElem?_eq_getElem (by have:=hn2'.out;omega)⟩
   have hz1:=fldsZ_at f1 i _ hx1'
   have hz2:=fldsZ_at f2 i _ hx2
   obtain⟨xn,xh,xt⟩:=x
   obtain⟨yn,yh,yt⟩:=y
   obtain⟨b1',o1,rfl,hb1,hc1⟩:=hat1 (i*3+0) (.string xn) (by rw[hz1 0 (by omega)];rfl)
   obtain⟨b2',o2,rfl,hb2,hc2⟩:=hat2 (i*3+0) (.string yn) (by rw[hz2 0 (by omega)];rfl)
   have d10:∀W,Ext wr W→W.cell? ⟨b1',o1+i*3,none⟩=some (.string xn):=fun W hW=>by have:=hc1 W (Below.mono ((hx1.trans hx).trans hW) hB) (i*3+0) _ (by rw[hz1 0 (by omega)];rfl);simpa [Nat.add_assoc] using this
   have d11:∀W,Ext wr W→W.cell? ⟨b1',o1+i*3+1,none⟩=some (.bool xh):=fun W hW=>by have:=hc1 W (Below.mono ((hx1.trans hx).trans hW) hB) (i*3+1) _ (by rw[hz1 1 (by omega)];rfl);simpa [Nat.add_assoc] using this
   have d12:∀W,Ext wr W→W.cell? ⟨b1',o1+i*3+2,none⟩=some (.int .i64 xt):=fun W hW=>by have:=hc1 W (Below.mono ((hx1.trans hx).trans hW) hB) (i*3+2) _ (by rw[hz1 2 (by omega)];rfl);simpa [Nat.add_assoc] using this
   have d20:∀W,Ext wr W→W.cell? ⟨b2',o2+i*3,none⟩=some (.string yn):=fun W hW=>by have:=hc2 W (Below.mono ((hx1.trans hx).trans hW) hB) (i*3+0) _ (by rw[hz2 0 (by omega)];rfl);simpa [Nat.add_assoc] using this
   have d21:∀W,Ext wr W→W.cell? ⟨b2',o2+i*3+1,none⟩=some (.bool yh):=fun W hW=>by have:=hc2 W (Below.mono ((hx1.trans hx).trans hW) hB) (i*3+1) _ (by rw[hz2 1 (by omega)];rfl);simpa [Nat.add_assoc] using this
   have d22:∀W,Ext wr W→W.cell? ⟨b2',o2+i*3+2,none⟩=some (.int .i64 yt):=fun W hW=>by have:=hc2 W (Below.mono ((hx1.trans hx).trans hW) hB) (i*3+2) _ (by rw[hz2 2 (by omega)];rfl);simpa [Nat.add_assoc] using this
   have pA':∀W,Ext wr W→W.cell? ⟨q,5,none⟩=some (.slice (some ⟨b1',o1,none⟩) n cc1):=fun W hW=>pA W (hx.trans hW)
   have pB':∀W,Ext wr W→W.cell? ⟨q+1,5,none⟩=some (.slice (some ⟨b2',o2,none⟩) n cc2):=fun W hW=>pB W (hx.trans hW)
   have hcmp:=fun W=>neq_fld xn yn xh yh xt yt W
   clear hz1 hz2 hc1 hc2
   by_cases he:(xn,xh,xt)=(yn,yh,yt)
   ·have hd:decide ((xn,xh,xt)=(yn,yh,yt))=true:=by simpa using he
    rw[hd] at hcmp
    rw[←he] at hx2
    have hE:=heq.next hx1' hx2
    clear hx1' hx2
    go_wp2_with fail
    clear pA pB
    refine Reg.startE (by kernel_rfl) ?_
    iterate 11 ((first|refine Reg.tn ?_|refine Reg.sn ?_);(try simp only[Reg.nn]))
    refine Reg.fin (by kernel_rfl) (fun W hW=>?_)
    go_wp2_with fail
    go_roundw
    case rel=>exact⟨i+1,by omega,by go_num,hE,hx.trans hW⟩
    case measure=>simp[intOf];omega
   ·have hne:=ne_at hx1' hx2 he
    have hRf:R=false:=by rw[←hR.out];simp[hne]
    have hd:decide ((xn,xh,xt)=(yn,yh,yt))=false:=by simpa using he
    rw[hd] at hcmp
    subst hRf
    clear hx1' hx2 hne
    go_wp2_with fail
    clear pA pB
    refine Reg.startE (by kernel_rfl) ?_
    iterate 11 ((first|refine Reg.tn ?_|refine Reg.sn ?_);(try simp only[Reg.nn]))
    refine Reg.fin (by kernel_rfl) (fun W hW=>?_)
    go_wp2_with fail
    go_ret
    exact⟨rfl,(hx1.trans hx).trans hW⟩
  ·obtain rfl:i=n:=by omega
   have hff:f1=f2:=EqAt.all (by rw[hn.out,hn2'.out]) (by rw[hn.out];exact heq)
   have hRb:R=(decide (s1=s2) && decide (i1=i2)):=by rw[←hR.out];simp[hff]
   have p3:wr.cell? ⟨q,3,none⟩=some a1:=(hbA.ext hx).cell 3
   have p3':wr.cell? ⟨q+1,3,none⟩=some a2:=(hbB.ext hx).cell 3
   have hcs1:=hcs.out wr (hx1.trans hx)
   clear pA pB
   by_cases e5:s1=s2
   ·have hci1:=hci.out
    rw[show decide (s1=s2)=true by simpa using e5] at hcs1 hRb
    rw[Bool.true_and] at hRb
    subst hRb
    replace hci1:=Lib.hid hci1
    go_wp2_with fail
    refine hcs1.mono ?_
    rintro e w2 ⟨rfl,hx2⟩
    have p4:w2.cell? ⟨q,4,none⟩=some b1:=((hbA.ext hx).ext hx2).cell 4
    have p4':w2.cell? ⟨q+1,4,none⟩=some b2:=((hbB.ext hx).ext hx2).cell 4
    have hci2:=hci1.out w2 ((hx1.trans hx).trans hx2)
    go_wp2_with fail
    refine hci2.mono ?_
    rintro e w3 ⟨rfl,hx3⟩
    go_wp2_with fail
    go_ret
    exact⟨rfl,((hx1.trans hx).trans hx2).trans hx3⟩
   ·rw[show decide (s1=s2)=false by simpa using e5] at hcs1 hRb
    rw[Bool.false_and] at hRb
    subst hRb
    go_wp2_with fail
    refine hcs1.mono ?_
    rintro e w2 ⟨rfl,hx2⟩
    go_wp2_with fail
    go_ret
    exact⟨rfl,(hx1.trans hx).trans hx2⟩
theorem rsame_any {B:Nat} {w:World} {v1 v2:Value} {l1 l2:List Ne} (h1:Sch B w v1 l1) (h2:Sch B w v2 l2) (hB:B≤w.heap.size) :
  Calls Tryz.prog 44 #[.agg #[v1],.agg #[v2]] w fun e w'=>e=.returned (.bool (decide (l1=l2)))∧Ext w w':=by
 obtain⟨R,hR⟩:∃R,Hid (decide (l1=l2)=R):=⟨_,Lib.hid rfl⟩
 rw[hR.out]
 have hm1:l1.length≤9223372036854775807:=by obtain⟨vs,_,⟨A,c,e,_,_,q1,q2,_⟩,_⟩:=h1;unfold maxLen at q2;omega
 obtain⟨A1,c1,rfl⟩:=h1.slice
 obtain⟨A2,c2,rfl⟩:=h2.slice
 obtain⟨n,hn⟩:∃z,Hid (l1.length=z):=⟨_,rfl⟩
 obtain⟨n2,hn2'⟩:∃z,Hid (l2.length=z):=⟨_,rfl⟩
 rw[hn.out] at hm1 ⊢
 rw[hn2'.out]
 obtain⟨w1,hw1⟩:∃z,Hid ((w.alloc (.cells #[.slice A1 n c1] 24)).alloc (.cells #[.slice A2 n2 c2] 24)=z):=⟨_,rfl⟩
 have hx1:Ext w w1:=by rw[←hw1.out];exact ((Ext.refl w).alloc _).alloc _
 obtain⟨q,hq⟩:∃z,Hid (w.heap.size=z):=⟨_,rfl⟩
 have hbA:Blk w1 q #[.slice A1 n c1] 24:=by rw[←hw1.out,←hq.out];exact (Blk.new w _ _).alloc _
 have hbB:Blk w1 (q+1) #[.slice A2 n2 c2] 24:=by
  rw[←hw1.out,←hq.out]
  have:=Blk.new (w.alloc (.cells #[.slice A1 n c1] 24)) #[.slice A2 n2 c2] 24
  simpa using this
 by_cases hl:n=n2
 ·subst hl
  have hnb:((n:Int) != (n:Int))=false:=by simp
  go_enter Tryz.func44,Tryz.ntmps44
  go_wp2_with fail
  rw[hw1.out,hq.out]
  go_loopw [5,13,14,15,16,17,18,19,20,21,22,23,24,25,26,27,28,29,30,31] (fun v5 v13 v14 v15 v16 v17 v18 v19 v20 v21 v22 v23 v24 v25 v26 v27 v28 v29 v30 v31 wr=>∃i:Nat,i≤n∧v5=.int .i64 i∧EqAt l1 l2 i∧Ext w1 wr) (fun v5 _ _ _ _ _ _ _ _ _ _ _ _ _ _ _ _ _ _ _ _=>n-(intOf v5).toNat)
  case atStart=>exact⟨0,by omega,rfl,fun j hj=>by omega,Ext.refl w1⟩
  case round=>
   obtain⟨i,hi,rfl,heq,hx⟩:=hrel
   have pA:=(hbA.ext hx).cell 0
   by_cases hin:i<n
   ·have hin':(i:Int)<(n:Int):=by omega
    obtain⟨x,hx1'⟩:∃x,l1[i]?=some x:=⟨_,List.getElem?_eq_getElem (by have:=hn.out;omega)⟩
    obtain⟨y,hx2⟩:∃x,l2[i]?=some x:=⟨_,List.getElem?_eq_getElem (by have:=hn2'.out;omega)⟩
    obtain⟨b1,o1,d1,As1,cs1,Ai1,ci1,Af1,cf1,e1,hb1,hs1,hc1⟩:=h1.node2 i x hx1'
    obtain⟨b2,o2,d2,As2,cs2,Ai2,ci2,Af2,cf2,e2,hb2,hs2,hc2⟩:=h2.node2 i y hx2
    injection e1 with e1 _ e1'
    injection e2 with e2 _ e2'
    subst e1;subst e1';subst e2;subst e2'
    have pA':∀W,Ext wr W→W.cell? ⟨q,0,none⟩=some (.slice (some ⟨b1,o1,none⟩) n c1):=fun W hW=>(hbA.ext (hx.trans hW)).cell 0
    have pB':∀W,Ext wr W→W.cell? ⟨q+1,0,none⟩=some (.slice (some ⟨b2,o2,none⟩) n c2):=fun W hW=>(hbB.ext (hx.trans hW)).cell 0
    have c10:∀W,Ext wr W→W.cell? ⟨b1,o1+i*6,none⟩=some (.int .i64 x.k):=fun W hW=>(hc1 W (Below.mono ((hx1.trans hx).trans hW) hB)).1
    have c11:∀W,Ext wr W→W.cell? ⟨b1,o1+i*6+1,none⟩=some (.string x.name):=fun W hW=>(hc1 W (Below.mono ((hx1.trans hx).trans hW) hB)).2.1
    have c12:∀W,Ext wr W→W.cell? ⟨b1,o1+i*6+2,none⟩=some (.int .i64 x.size):=fun W hW=>(hc1 W (Below.mono ((hx1.trans hx).trans hW) hB)).2.2.1
    have c13:∀W,Ext wr W→W.cell? ⟨b1,o1+i*6+3,none⟩=some (.slice As1 x.syms.length cs1):=fun W hW=>(hc1 W (Below.mono ((hx1.trans hx).trans hW) hB)).2.2.2.1
    have c14:∀W,Ext wr W→W.cell? ⟨b1,o1+i*6+4,none⟩=some (.slice Ai1 x.items.length ci1):=fun W hW=>(hc1 W (Below.mono ((hx1.trans hx).trans hW) hB)).2.2.2.2.1
    have c15:∀W,Ext wr W→W.cell? ⟨b1,o1+i*6+5,none⟩=some (.slice Af1 x.fields.length cf1):=fun W hW=>(hc1 W (Below.mono ((hx1.trans hx).trans hW) hB)).2.2.2.2.2
    have c20:∀W,Ext wr W→W.cell? ⟨b2,o2+i*6,none⟩=some (.int .i64 y.k):=fun W hW=>(hc2 W (Below.mono ((hx1.trans hx).trans hW) hB)).1
    have c21:∀W,Ext wr W→W.cell? ⟨b2,o2+i*6+1,none⟩=some (.string y.name):=fun W hW=>(hc2 W (Below.mono ((hx1.trans hx).trans hW) hB)).2.1
    have c22:∀W,Ext wr W→W.cell? ⟨b2,o2+i*6+2,none⟩=some (.int .i64 y.size):=fun W hW=>(hc2 W (Below.mono ((hx1.trans hx).trans hW) hB)).2.2.1
    have c23:∀W,Ext wr W→W.cell? ⟨b2,o2+i*6+3,none⟩=some (.slice As2 y.syms.length cs2):=fun W hW=>(hc2 W (Below.mono ((hx1.trans hx).trans hW) hB)).2.2.2.1
    have c24:∀W,Ext wr W→W.cell? ⟨b2,o2+i*6+4,none⟩=some (.slice Ai2 y.items.length ci2):=fun W hW=>(hc2 W (Below.mono ((hx1.trans hx).trans hW) hB)).2.2.2.2.1
    have c25:∀W,Ext wr W→W.cell? ⟨b2,o2+i*6+5,none⟩=some (.slice Af2 y.fields.length cf2):=fun W hW=>(hc2 W (Below.mono ((hx1.trans hx).trans hW) hB)).2.2.2.2.2
    have hcall:∀W,Ext wr W→_:=fun W hW=>rnode_any (w:=W) (B:=B) (d1:=x) (d2:=y) (v1:=(.slice As1 x.syms.length cs1,.slice Ai1 x.items.length ci1,.slice Af1 x.fields.length cf1)) (v2:=(.slice As2 y.syms.length cs2,.slice Ai2 y.items.length ci2,.slice Af2 y.fields.length cf2)) ⟨hs1.syms.below (Below.mono ((hx1.trans hx).trans hW) hB),hs1.items.below (Below.mono ((hx1.trans hx).trans hW) hB),hs1.fields.below (Below.mono ((hx1.trans hx).trans hW) hB),hs1.rng⟩ ⟨hs2.syms.below (Below.mono ((hx1.trans hx).trans hW) hB),hs2.items.below (Below.mono ((hx1.trans hx).trans hW) hB),hs2.fields.below (Below.mono ((hx1.trans hx).trans hW) hB),hs2.rng⟩ (Nat.le_trans hB ((hx1.trans hx).trans hW).size)
    simp only[neC] at hcall
    by_cases he:x=y
    ·rw[show decide (x=y)=true by simpa using he] at hcall
     replace hcall:=Lib.hid hcall
     rw[←he] at hx2
     have hE:=heq.next hx1' hx2
     clear hx1' hx2 hc1 hc2 hs1 hs2 he
     go_wp2_with fail
     clear pA
     refine Reg.startE (by kernel_rfl) ?_
     iterate 10 ((first|refine Reg.tn ?_|refine Reg.sn ?_);(try simp only[Reg.nn]))
     refine Reg.onlyE 10 _ rfl (by kernel_rfl) (by decide) (by rfl) (fun W hW K hK=>?_);go_simp
     refine (hcall.out _ (by repeat (first|assumption|exact Ext.refl _|refine Ext.trans (by assumption) ?_|apply Ext.drew|apply Ext.drewN|apply Ext.alloc))).mono ?_
     rintro e wX ⟨rfl,hX⟩
     refine hK.out _ _ (hX) ?_;clear hK K;(try simp only[Reg.nn])
     refine Reg.tk 11 ?_;(try simp only[Reg.nn])
     refine Reg.fin (by kernel_rfl) (fun W hW=>?_)
     go_wp2_with fail
     go_roundw
     case rel=>exact⟨i+1,by omega,by go_num,hE,hx.trans (by repeat (first|assumption|exact Ext.refl _|refine Ext.trans (by assumption) ?_|apply Ext.drew|apply Ext.drewN|apply Ext.alloc))⟩
     case measure=>simp[intOf];omega
    ·have hne:=ne_at hx1' hx2 he
     have hRf:R=false:=by rw[←hR.out];simpa using hne
     rw[show decide (x=y)=false by simpa using he] at hcall
     replace hcall:=Lib.hid hcall
     subst hRf
     clear hx1' hx2 hne hc1 hc2 hs1 hs2 he
     go_wp2_with fail
     clear pA
     refine Reg.startE (by kernel_rfl) ?_
     iterate 10 ((first|refine Reg.tn ?_|refine Reg.sn ?_);(try simp only[Reg.nn]))
     refine Reg.onlyE 10 _ rfl (by kernel_rfl) (by decide) (by rfl) (fun W hW K hK=>?_);go_simp
     refine (hcall.out _ (by repeat (first|assumption|exact Ext.refl _|refine Ext.trans (by assumption) ?_|apply Ext.drew|apply Ext.drewN|apply Ext.alloc))).mono ?_
     rintro e wX ⟨rfl,hX⟩
     refine hK.out _ _ (hX) ?_;clear hK K;(try simp only[Reg.nn])
     refine Reg.tk 11 ?_;(try simp only[Reg.nn])
     refine Reg.fin (by kernel_rfl) (fun W hW=>?_)
     go_wp2_with fail
     go_ret
     exact⟨rfl,(hx1.trans hx).trans (by repeat (first|assumption|exact Ext.refl _|refine Ext.trans (by assumption) ?_|apply Ext.drew|apply Ext.drewN|apply Ext.alloc))⟩
   ·obtain rfl:i=n:=by omega
    have hRt:R=true:=by rw[←hR.out];simpa using EqAt.all (by rw[hn.out,hn2'.out]) (by rw[hn.out];exact heq)
    subst hRt
    go_wp2_with fail
    go_ret
    exact⟨rfl,hx1.trans hx⟩
 ·have hRf:R=false:=by rw[←hR.out];simpa using ne_len (by rw[hn.out,hn2'.out];exact hl)
  have hnb:((n:Int) != (n2:Int))=true:=by simpa using (by omega:¬(n:Int)=(n2:Int))
  subst hRf
  go_enter Tryz.func44,Tryz.ntmps44
  go_wp2_with fail
  rw[hw1.out]
  go_ret
  exact⟨rfl,hx1⟩
end Go.Proofs.YtmaoochjbpohdaaGreatDoor.Pr
namespace Go.Proofs.YtmaoochjbpohdaaGreatDoor.Cn
open Go.ChangeShapes Go.WideShapes Go.ChangeAt Go.RowKit
open Base Lx Mi Pr
def schP (s:ByteArray):List Ne:=if isP s=true then (parseP s).1.map Nd.toE else []
theorem resSchema {w:World} {tmps:Array Value} {a:Nat} {u v:Value} (ha:tmps[2]?.getD undef=.pointer (some ⟨a,0,none⟩)) (hb:tmps[3]?.getD undef=v)
  (h1:w.cell? ⟨a,0,none⟩=some u):(results Tryz.f57 tmps).run Tryz.prog w=.ok (.tuple #[.agg #[u],v]) w:=by
 simp[results,Tryz.f57,go_sem,ha,hb,h1]
theorem Sch.nil (B:Nat) (w:World):Sch B w (.slice none 0 0) []:=⟨[],rfl,⟨none,0,rfl,Rd.nil _ _,fun h=>absurd rfl h,Nat.le_refl _,Nat.zero_le _,fun _=>rfl⟩,fun i d v h _=>by simp at h⟩
theorem Schema_any (s:ByteArray) (hs:s.size≤140737488351232) (w:World) (hwd:Wd w) (hpow:Pow w) :
  Calls Tryz.prog 57 #[.string s] w fun e w'=>∃v,e=.returned (.tuple #[.agg #[v],.bool (isP s)])∧Sch w'.heap.size w' v (schP s)∧Ext w w':=by
 obtain⟨q,hq⟩:∃z,Hid (w.heap.size=z):=⟨_,rfl⟩
 obtain⟨w1,hw1⟩:∃z,Hid (w.alloc (.cells #[.slice none 0 0] 24)=z):=⟨_,rfl⟩
 have hx1:Ext w w1:=by rw[←hw1.out];exact (Ext.refl w).alloc _
 have hb1:Blk w1 q #[.slice none 0 0] 24:=by rw[←hw1.out,←hq.out];exact Blk.new w _ _
 have his:=cis_any s hs w1 (hwd.ext hx1) (hpow.ext hx1)
 have hpar:=fun W (hW:Ext w W)=>parse_any s hs W (hwd.ext hW) (by have:=hpow.lt;have:=hW.size;omega)
 have l7:=parse_rng s
 have hsc:schP s=if isP s=true then (parseP s).1.map Nd.toE else []:=rfl
 obtain⟨b,hb⟩:∃z,Hid (isP s=z):=⟨_,Lib.hid rfl⟩
 rw[hb.out] at his hsc ⊢
 rw[hsc]
 obtain⟨PO,hPO⟩:∃PO:Ending→World→Prop,Hid ((fun e w'=>∃v,e=.returned (.tuple #[.agg #[v],.bool b])∧Sch w'.heap.size w' v (if b=true then (parseP s).1.map Nd.toE else [])∧Ext w w')=PO):=⟨_,Lib.hid rfl⟩
 rw[hPO.out]
 cases b with
 | false=>
  go_enter Tryz.func57,Tryz.ntmps57
  go_wp2_with fail
  rw[hw1.out,hq.out]
  refine his.mono ?_
  rintro e w2 ⟨rfl,hx2⟩
  have hb2:=hb1.ext hx2
  have k0:=hb2.cell 0
  have f0:=hb2.frozen 0
  simp only[List.getElem?_toArray,List.getElem?_cons_zero] at k0
  have hbF:=hb2.set 0 (.slice none 0 0)
  have hxF:Ext w (w2.setCell ⟨q,0,none⟩ (.slice none 0 0)):=Ext.chg (hx1.trans hx2) (Chg.one w2 q 0 _) (fun i hi e=>by have e:i=q:=e;have:=hq.out;omega)
  clear his hpar
  go_wp2_with fail
  refine bodyPost_ret (resSchema rfl rfl (hbF.cell 0)) rfl ?_
  rw[←hPO.out]
  exact⟨_,rfl,by rw[if_neg (by decide)];exact Sch.nil _ _,hxF⟩
 | true=>
  obtain⟨r,hr⟩:∃z,Hid (parseP s=z):=⟨_,Lib.hid rfl⟩
  rw[hr.out] at l7
  simp only[hr.out] at hpar
  obtain⟨ns,at_,why⟩:=r
  replace hpar:∀W,Ext w W→Calls Tryz.prog 76 #[.string s] W fun e w'=>∃v vs,e=.returned (.tuple #[.agg #[v],.int .i64 at_,.int .i64 why])∧Nds W.heap.size w' ns vs v∧Ext W w':=hpar
  replace l7:∀d∈ns,-9223372036854775808≤d.size∧d.size≤9223372036854775807:=l7
  replace hpar:=Lib.hid hpar
  replace l7:=Lib.hid l7
  go_enter Tryz.func57,Tryz.ntmps57
  go_wp2_with fail
  rw[hw1.out,hq.out]
  refine his.mono ?_
  rintro e w2 ⟨rfl,hx2⟩
  have hx02:=hx1.trans hx2
  have hp2:=hpar.out w2 hx02
  have hb2:=hb1.ext hx2
  clear his hpar
  go_wp2_with fail
  refine hp2.mono ?_
  rintro e w3 ⟨v,vs,rfl,hnd,hx3⟩
  have hx03:=hx02.trans hx3
  obtain⟨A,c,rfl,jj1,jj2,jj3,jj4⟩:=Rd.of_own hnd.row
  clear jj1 jj2 jj3 jj4 hp2
  obtain⟨k,hk⟩:∃z,Hid (ns.length=z):=⟨_,Lib.hid rfl⟩
  rw[hk.out] at hnd ⊢
  obtain⟨w4,hw4⟩:∃z,Hid (w3.alloc (.cells #[.slice A k c] 24)=z):=⟨_,rfl⟩
  have hx4:Ext w3 w4:=by rw[←hw4.out];exact (Ext.refl w3).alloc _
  have hb4:=(hb2.ext hx3).ext hx4
  have hx04:=hx03.trans hx4
  have k0:=hb4.cell 0
  have f0:=hb4.frozen 0
  simp only[List.getElem?_toArray,List.getElem?_cons_zero] at k0
  have hbF:=hb4.set 0 (.slice A k c)
  have hch:=Chg.one w4 q 0 (.slice A k c)
  have hxF:Ext w (w4.setCell ⟨q,0,none⟩ (.slice A k c)):=Ext.chg hx04 hch (fun i hi e=>by have e:i=q:=e;have:=hq.out;omega)
  rw[←hw4.out] at k0 f0
  have hq2:q<w2.heap.size:=World.block_lt_of_cell? w2 ⟨q,0,none⟩ (hb2.cell 0)
  have hnF:=(hnd.ext hx4).low hch (fun k e=>by have e:k=q:=e;omega)
  have hSF:=Sch.ofNds hnF (Nat.le_refl _) l7.out
  have hp:PO (.returned (.tuple #[.agg #[.slice A k c],.bool true])) (w4.setCell ⟨q,0,none⟩ (.slice A k c)):=by
   rw[←hPO.out]
   refine⟨_,rfl,?_,hxF⟩
   rw[if_pos (by trivial),hr.out]
   exact hSF
  clear hnd hnF hSF hch hPO
  go_wp2_with fail
  rw[hw4.out]
  refine bodyPost_ret (resSchema rfl rfl (hbF.cell 0)) rfl ?_
  exact hp
end Go.Proofs.YtmaoochjbpohdaaGreatDoor.Cn
namespace Go.Proofs.YtmaoochjbpohdaaGreatDoor.Pf
def cls (n:Nat):Int:=if 4611686018427387904≤n then -1 else if 1073741824≤n then 3 else if 16384≤n then 2 else if 64≤n then 1 else 0
def be:Nat→Nat→List UInt8
 | 0,_=>[]
 | m+1,v=>UInt8.ofNat (v / 256 ^ m%256)::be m v
def putP (n k:Nat):List UInt8:=be (2 ^ k) (n+k*2 ^ (8*2 ^ k-2))
def encN (n:Nat):List UInt8:=putP n (cls n).toNat
def numB (a:Nat):List UInt8→Nat
 | []=>a
 | c::l=>numB (a*256+c.toNat) l
def takeP:List UInt8→Nat×List UInt8×Nat
 | []=>(0,[],3)
 | c::r=>if (c::r).length<2 ^ (c.toNat / 64) then (0,[],3)
  else if cls (numB (c.toNat%64) (r.take (2 ^ (c.toNat / 64)-1)))≠(c.toNat / 64:Nat) then (0,[],4)
  else (numB (c.toNat%64) (r.take (2 ^ (c.toNat / 64)-1)),(c::r).drop (2 ^ (c.toNat / 64)),0)
def takeTextP (l:List UInt8) (most:Nat):List UInt8×List UInt8×Nat:=
 if (takeP l).2.2≠0 then ([],[],(takeP l).2.2)
 else if most<(takeP l).1 then ([],[],2)
 else if (takeP l).2.1.length<(takeP l).1 then ([],[],3)
 else ((takeP l).2.1.take (takeP l).1,(takeP l).2.1.drop (takeP l).1,0)
def encT (s:List UInt8):List UInt8:=encN s.length++s
theorem be_length:∀(m v:Nat),(be m v).length=m
 | 0,_=>rfl
 | m+1,v=>by rw[be,List.length_cons,be_length m v]
theorem numB_be:∀(m v a:Nat),numB a (be m v)=a*256 ^ m+v%256 ^ m
 | 0,v,a=>by simp[be,numB,Nat.mod_one]
 | m+1,v,a=>by
  rw[be,numB,numB_be m v,UInt8.toNat_ofNat_of_lt' (by show v / 256 ^ m%256<256;omega)]
  have h1:v%256 ^ (m+1)=v%256 ^ m+256 ^ m*(v / 256 ^ m%256):=by rw[Nat.pow_succ];exact Nat.mod_mul
  rw[h1,Nat.pow_succ,Nat.add_mul,Nat.mul_assoc a 256,Nat.mul_comm 256 (256 ^ m),Nat.mul_comm (v / 256 ^ m%256)]
  omega
theorem cls_lt {n k:Nat} (hk:k≤3) (h:cls n=k):n<64*256 ^ (2 ^ k-1):=by
 unfold cls at h
 have:k=0∨k=1∨k=2∨k=3:=by omega
 rcases this with rfl|rfl|rfl|rfl
 ·show n<64*256 ^ 0;split at h<;>(try split at h)<;>(try split at h)<;>(try split at h)<;>omega
 ·show n<64*256 ^ 1;split at h<;>(try split at h)<;>(try split at h)<;>(try split at h)<;>omega
 ·show n<64*256 ^ 3;split at h<;>(try split at h)<;>(try split at h)<;>(try split at h)<;>omega
 ·show n<64*256 ^ 7;split at h<;>(try split at h)<;>(try split at h)<;>(try split at h)<;>omega
theorem cls_k {n:Nat} (h:n<4611686018427387904):∃k:Nat,k≤3∧cls n=k:=by
 unfold cls
 rw[if_neg (by omega)]
 split
 ·exact⟨3,by omega,rfl⟩
 ·split
  ·exact⟨2,by omega,rfl⟩
  ·split
   ·exact⟨1,by omega,rfl⟩
   ·exact⟨0,by omega,rfl⟩
theorem encN_cons {n k:Nat} (hk:k≤3) (h:cls n=k):∃c r,encN n=c::r∧c.toNat / 64=k∧r.length=2 ^ k-1∧numB (c.toNat%64) r=n:=by
 have hlt:=cls_lt hk h
 have hkk:(cls n).toNat=k:=by rw[h];rfl
 obtain⟨m,hm⟩:∃m,2 ^ k=m+1:=⟨2 ^ k-1,by have:0<2 ^ k:=Nat.two_pow_pos k;omega⟩
 have hp:2 ^ (8*2 ^ k-2)=64*256 ^ m:=by
  rw[hm,show 8*(m+1)-2=8*m+6 by omega,Nat.pow_add,Nat.pow_mul]
  rw[Nat.mul_comm]
 rw[hm] at hlt
 simp only[Nat.add_sub_cancel] at hlt
 have hP:0<256 ^ m:=Nat.pos_of_ne_zero (by simp)
 obtain⟨q,hq0⟩:∃q,n / 256 ^ m=q:=⟨_,rfl⟩
 have hv:(n+k*(64*256 ^ m)) / 256 ^ m=q+k*64:=by
  rw[←Nat.mul_assoc,Nat.add_mul_div_right _ _ hP,hq0]
 have hq:q<64:=by rw[←hq0,Nat.div_lt_iff_lt_mul hP];exact hlt
 have hmod:(n+k*(64*256 ^ m))%256 ^ m=n%256 ^ m:=by rw[←Nat.mul_assoc,Nat.add_mul_mod_self_right]
 have hdm:=Nat.div_add_mod n (256 ^ m)
 rw[hq0,Nat.mul_comm] at hdm
 have hc:(UInt8.ofNat ((n+k*(64*256 ^ m)) / 256 ^ m%256)).toNat=q+k*64:=by
  rw[UInt8.toNat_ofNat_of_lt' (by show _%256<256;omega),hv]
  clear hdm hlt hmod hv hq0 hp
  omega
 refine⟨UInt8.ofNat ((n+k*(64*256 ^ m)) / 256 ^ m%256),be m (n+k*(64*256 ^ m)),?_,?_,?_,?_⟩
 ·unfold encN putP
  rw[hkk,hm,be,←hm,hp]
 ·rw[hc]
  clear hdm hlt hmod hv hq0 hp hc
  omega
 ·rw[be_length,hm];rfl
 ·rw[hc,numB_be,hmod]
  have e:(q+k*64)%64=q:=by
   clear hdm hlt hmod hv hq0 hp hc
   omega
  rw[e]
  exact hdm
theorem take_enc {n:Nat} (h:n<4611686018427387904) (rest:List UInt8):takeP (encN n++rest)=(n,rest,0):=by
 obtain⟨k,hk,hc⟩:=cls_k h
 obtain⟨c,r,e,h1,h2,h3⟩:=encN_cons hk hc
 have hp:0<2 ^ k:=Nat.two_pow_pos k
 rw[e,List.cons_append,takeP,h1,if_neg (by simp only[List.length_cons,List.length_append];omega)]
 rw[List.take_append_of_le_length (by omega),List.take_of_length_le (by omega),h3,if_neg (by rw[hc];simp)]
 congr 2
 rw[←List.cons_append,List.drop_append_of_le_length (by rw[List.length_cons];omega),List.drop_of_length_le (by rw[List.length_cons];omega)]
 rfl
theorem takeText_enc (s rest:List UInt8) (most:Nat) (h:s.length≤most) (hm:most<4611686018427387904):takeTextP (encT s++rest) most=(s,rest,0):=by
 unfold takeTextP encT
 rw[List.append_assoc,take_enc (by omega)]
 simp only[ne_eq,not_true_eq_false,if_false]
 rw[if_neg (by omega),if_neg (by rw[List.length_append];omega)]
 rw[List.take_left',List.drop_left']<;>rfl
theorem takeText_cut (s:List UInt8) (most:Nat) (h:s.length≤most) (hm:most<4611686018427387904) (hs:s≠[]):takeTextP (encN s.length++s.dropLast) most=([],[],3):=by
 unfold takeTextP
 rw[take_enc (by omega)]
 simp only[ne_eq,not_true_eq_false,if_false]
 rw[if_neg (by omega),if_pos (by rw[List.length_dropLast];have:=List.length_pos_iff.2 hs;omega)]
theorem encN_length (n:Nat):(encN n).length≤8∨4611686018427387904≤n:=by
 rcases Nat.lt_or_ge n 4611686018427387904 with h|h
 ·left
  obtain⟨k,hk,hc⟩:=cls_k h
  obtain⟨c,r,e,h1,h2,h3⟩:=encN_cons hk hc
  rw[e,List.length_cons,h2]
  have:k=0∨k=1∨k=2∨k=3:=by omega
  rcases this with rfl|rfl|rfl|rfl<;>decide
 ·exact .inr h
theorem encN_ne (n:Nat):encN n≠[]:=by
 have:(encN n).length=2 ^ (cls n).toNat:=be_length _ _
 intro e
 rw[e] at this
 have h2:0<2 ^ (cls n).toNat:=Nat.two_pow_pos _
 simp only[List.length_nil] at this
 omega
end Go.Proofs.YtmaoochjbpohdaaGreatDoor.Pf
namespace Go.Proofs.YtmaoochjbpohdaaGreatDoor.Ch
open Base Pf Cn Pr
structure Et where
 pol:Bool
 p:Int
 s:ByteArray
 id:Nat
 deriving DecidableEq
def e0:Et:=⟨false,0,⟨#[]⟩,0⟩
def entC (e:Et):List Value:=[.bool e.pol,.int .i64 e.p,.string e.s,.int .u64 (e.id:Int)]
def canP (e:Et):Bool:=
 if e.pol=true then decide (0≤e.p) && decide (e.p<7) && decide (e.s=⟨#[]⟩) && decide (e.id=0)
 else decide (e.p=0) && decide (1≤e.id) && decide (e.id≤2147483647) && isP e.s
def bytesP (e:Et):List UInt8:=if e.pol=true then [UInt8.ofNat (e.p.toNat+1)] else 0::(encN e.id++encT (bs e.s))
def takeE:List UInt8→Et×List UInt8×Nat
 | []=>(e0,[],3)
 | c::r=>if 7<c.toNat then (e0,[],4) else if 0<c.toNat then (⟨true,(c.toNat:Int)-1,⟨#[]⟩,0⟩,r,0)
  else if (takeP r).2.2≠0 then (e0,[],(takeP r).2.2)
  else if (takeTextP (takeP r).2.1 4096).2.2≠0 then (e0,[],(takeTextP (takeP r).2.1 4096).2.2)
  else if canP ⟨false,0,Str (takeTextP (takeP r).2.1 4096).1,(takeP r).1⟩=true then (⟨false,0,Str (takeTextP (takeP r).2.1 4096).1,(takeP r).1⟩,(takeTextP (takeP r).2.1 4096).2.1,0)
  else (e0,[],4)
theorem str_bs (s:ByteArray):Str (bs s)=s:=by cases s;simp[Str,bs]
theorem bs_str (l:List UInt8):bs (Str l)=l:=by simp[Str,bs]
theorem can_pol {e:Et} (hp:e.pol=true) (h:canP e=true):0≤e.p∧e.p<7∧e.s=⟨#[]⟩∧e.id=0:=by
 unfold canP at h
 rw[if_pos hp] at h
 simp only[Bool.and_eq_true,decide_eq_true_eq] at h
 exact⟨h.1.1.1,h.1.1.2,h.1.2,h.2⟩
theorem can_txt {e:Et} (hp:¬e.pol=true) (h:canP e=true):e.p=0∧1≤e.id∧e.id≤2147483647∧isP e.s=true:=by
 unfold canP at h
 rw[if_neg hp] at h
 simp only[Bool.and_eq_true,decide_eq_true_eq] at h
 exact⟨h.1.1.1,h.1.1.2,h.1.2,h.2⟩
theorem take_back (e:Et) (h:canP e=true) (behind:List UInt8):takeE (bytesP e++behind)=(e,behind,0):=by
 unfold bytesP
 by_cases hp:e.pol=true
 ·obtain⟨h1,h2,h3,h4⟩:=can_pol hp h
  rw[if_pos hp]
  have hc:(UInt8.ofNat (e.p.toNat+1)).toNat=e.p.toNat+1:=UInt8.toNat_ofNat_of_lt' (by show _<256;omega)
  rw[List.cons_append,List.nil_append,takeE,hc,if_neg (by omega),if_pos (by omega)]
  obtain⟨pol,p,s,id⟩:=e
  simp only at *
  subst hp;subst h3;subst h4
  congr 3
  omega
 ·obtain⟨h1,h2,h3,h4⟩:=can_txt hp h
  rw[if_neg hp,List.cons_append,takeE,if_neg (by decide),if_neg (by decide)]
  have hsz:=isP_size h4
  have hbl:(bs e.s).length=e.s.size:=Array.length_toList
  have hT:takeP (encN e.id++encT (bs e.s)++behind)=(e.id,encT (bs e.s)++behind,0):=by rw[List.append_assoc];exact take_enc (by omega) _
  have hX:takeTextP (encT (bs e.s)++behind) 4096=(bs e.s,behind,0):=takeText_enc _ _ _ (by omega) (by omega)
  rw[hT]
  simp only[hX,ne_eq,not_true_eq_false,if_false,str_bs]
  have he:(⟨false,0,e.s,e.id⟩:Et)=e:=by
   obtain⟨pol,p,s,id⟩:=e
   simp only at *
   subst h1
   have:pol=false:=by simpa using hp
   subst this;rfl
  rw[he,if_pos h]
theorem take_cut (e:Et) (h:canP e=true):takeE (bytesP e).dropLast=(e0,[],3):=by
 unfold bytesP
 by_cases hp:e.pol=true
 ·rw[if_pos hp];rfl
 ·obtain⟨h1,h2,h3,h4⟩:=can_txt hp h
  have hsz:=isP_size h4
  have hbl:(bs e.s).length=e.s.size:=Array.length_toList
  have hne:bs e.s≠[]:=by
   intro h0
   have:=isP_ne h4
   rw[←str_bs e.s,h0] at this
   exact this rfl
  have hdl:(0::(encN e.id++encT (bs e.s))).dropLast=0::(encN e.id++(encN (bs e.s).length++(bs e.s).dropLast)):=by
   unfold encT
   have:(0:UInt8)::(encN e.id++(encN (bs e.s).length++bs e.s))=(0::(encN e.id++encN (bs e.s).length))++bs e.s:=by simp
   rw[this,List.dropLast_append_of_ne_nil hne]
   simp
  rw[if_neg hp,hdl,takeE,if_neg (by decide),if_neg (by decide)]
  have hT:takeP (encN e.id++(encN (bs e.s).length++(bs e.s).dropLast))=(e.id,encN (bs e.s).length++(bs e.s).dropLast,0):=take_enc (by omega) _
  have hX:takeTextP (encN (bs e.s).length++(bs e.s).dropLast) 4096=([],[],3):=takeText_cut _ _ (by omega) (by omega) hne
  rw[hT]
  simp only[hX,ne_eq,not_true_eq_false,if_false]
  rw[if_pos (by decide)]
theorem bytesP_ne (e:Et):bytesP e≠[]:=by
 unfold bytesP
 split<;>simp
theorem bytesP_len (e:Et) (h:canP e=true):(bytesP e).length≤5000:=by
 unfold bytesP
 by_cases hp:e.pol=true
 ·rw[if_pos hp];simp
 ·obtain⟨h1,h2,h3,h4⟩:=can_txt hp h
  have hsz:=isP_size h4
  have hbl:(bs e.s).length=e.s.size:=Array.length_toList
  rw[if_neg hp]
  have e1:=encN_length e.id
  have e2:=encN_length (bs e.s).length
  simp only[List.length_cons,List.length_append,encT]
  omega
end Go.Proofs.YtmaoochjbpohdaaGreatDoor.Ch
namespace Go.Proofs.YtmaoochjbpohdaaGreatDoor.Pl
open Lx Pr Rv Cn Ch
abbrev Ns:=List Ne
def polP (p:Int):Bool:=decide (0≤p) && decide (p<7)
def allP (p:Int):Bool:=decide (3<p)
def backP (p:Int):Bool:=decide (p=1∨p=3∨p=4∨p=6)
def forthP (p:Int):Bool:=decide (p=2∨p=3∨p=5∨p=6)
noncomputable def folP (p:Int) (e o:Ns):Bool:=(!backP p || canB o e) && (!forthP p || canB e o)
def lastOf (p:Int) (l:List Ns):List Ns:=if allP p=false∧1<l.length then l.drop (l.length-1) else l
noncomputable def nextP (p:Int) (l:List Ns) (o:Ns):Bool:=(lastOf p l).all fun e=>folP p e o
noncomputable def holdsA (p:Int) (l:List Ns):Nat→Bool
 | 0=>true
 | n+1=>holdsA p l n && nextP p (l.take n) (l.getD n [])
noncomputable def holdsP (p:Int) (l:List Ns):Bool:=holdsA p l l.length
noncomputable def HoldsT (p:Int) (l:List ByteArray):Bool:=l.all isP && (polP p && holdsP p (l.map schP))
noncomputable def NextT (p:Int) (l:List ByteArray) (s:ByteArray):Bool:=l.all isP && (isP s && (polP p && nextP p (l.map schP) (schP s)))
structure Adm where
 p:Int
 seen:List Ns
 vis:List Nat
 held:List Nat
noncomputable def admS (s:Adm) (i:Nat) (e:Et):Adm:=
 if e.pol=true then if polP e.p=true∧holdsP e.p s.seen=true then { s with p:=e.p } else { s with held:=s.held++[i] }
 else if isP e.s=true∧nextP s.p s.seen (schP e.s)=true then { s with seen:=s.seen++[schP e.s],vis:=s.vis++[i] } else { s with held:=s.held++[i] }
noncomputable def admA (l:List Et):Nat→Adm
 | 0=>⟨1,[],[],[]⟩
 | n+1=>admS (admA l n) n (l.getD n e0)
noncomputable def admP (l:List Et):Adm:=admA l l.length
theorem holdsA_take (p:Int) (l:List Ns) (m:Nat):∀n,n≤m→holdsA p (l.take m) n=holdsA p l n
 | 0,_=>rfl
 | n+1,h=>by
  unfold holdsA
  rw[holdsA_take p l m n (by omega),List.take_take,Nat.min_eq_left (by omega)]
  have:(l.take m).getD n []=l.getD n []:=by rw[List.getD,List.getElem?_take,if_pos (show n<m by omega)];rfl
  rw[this]
noncomputable def stepsT (p:Int) (l:List ByteArray):Nat→Bool
 | 0=>polP p
 | n+1=>stepsT p l n && NextT p (l.take n) (l.getD n ⟨#[]⟩)
theorem steps_upto (p:Int) (l:List ByteArray):∀n,n≤l.length→stepsT p l n=((l.take n).all isP && (polP p && holdsA p (l.map schP) n))
 | 0,_=>by simp[stepsT,holdsA]
 | n+1,h=>by
  have ih:=steps_upto p l n (by omega)
  have hx:l[n]?=some (l.getD n ⟨#[]⟩):=by simp[List.getD,List.getElem?_eq_getElem (show n<l.length by omega)]
  have h1:l.take (n+1)=l.take n++[l.getD n ⟨#[]⟩]:=by rw[List.take_add_one,hx];rfl
  have h2:(l.map schP).getD n []=schP (l.getD n ⟨#[]⟩):=by rw[List.getD,List.getElem?_map,hx];rfl
  unfold stepsT holdsA NextT
  rw[ih,h1,List.all_append,h2,←List.map_take]
  simp only[List.all_cons,List.all_nil,Bool.and_true]
  cases (l.take n).all isP<;>cases polP p<;>cases holdsA p (l.map schP) n<;>cases isP (l.getD n ⟨#[]⟩)<;>simp
theorem steps_holds (p:Int) (l:List ByteArray):stepsT p l l.length=HoldsT p l:=by
 rw[steps_upto p l l.length (Nat.le_refl _),List.take_length]
 unfold HoldsT holdsP
 rw[List.length_map]
theorem admA_take (l:List Et) (m:Nat):∀n,n≤m→admA (l.take m) n=admA l n
 | 0,_=>rfl
 | n+1,h=>by
  unfold admA
  rw[admA_take l m n (by omega)]
  have:(l.take m).getD n e0=l.getD n e0:=by rw[List.getD,List.getElem?_take,if_pos (show n<m by omega)];rfl
  rw[this]
theorem admA_more (l:List Et) (k:Nat):∀n,k≤n→∃t u,(admA l n).vis=(admA l k).vis++t∧(admA l n).held=(admA l k).held++u∧(∀i∈t,k≤i)∧∀i∈u,k≤i
 | 0,h=>by
  obtain rfl:k=0:=by omega
  exact⟨[],[],by simp,by simp,by simp,by simp⟩
 | n+1,h=>by
  by_cases e:k=n+1
  ·subst e;exact⟨[],[],by simp,by simp,by simp,by simp⟩
  ·obtain⟨t,u,h1,h2,h3,h4⟩:=admA_more l k n (by omega)
   have a1:∀x:List Nat,(∀i∈x,k≤i)→∀i∈x++[n],k≤i:=fun x hx i hi=>by
    rcases List.mem_append.1 hi with hi|hi
    ·exact hx i hi
    ·rw[List.mem_singleton] at hi;omega
   rw[show admA l (n+1)=admS (admA l n) n (l.getD n e0) from rfl]
   unfold admS
   split
   ·split
    ·exact⟨t,u,h1,h2,h3,h4⟩
    ·exact⟨t,u++[n],h1,by simp[h2],h3,a1 u h4⟩
   ·split
    ·exact⟨t++[n],u,by simp[h1],h2,a1 t h3,h4⟩
    ·exact⟨t,u++[n],h1,by simp[h2],h3,a1 u h4⟩
theorem admA_below (l:List Et):∀n,(∀i∈(admA l n).vis,i<n)∧∀i∈(admA l n).held,i<n
 | 0=>⟨by simp[admA],by simp[admA]⟩
 | n+1=>by
  obtain⟨h1,h2⟩:=admA_below l n
  have a1:∀x:List Nat,(∀i∈x,i<n)→∀i∈x++[n],i<n+1:=fun x hx i hi=>by
   rcases List.mem_append.1 hi with hi|hi
   ·have:=hx i hi;omega
   ·rw[List.mem_singleton] at hi;omega
  have a0:∀x:List Nat,(∀i∈x,i<n)→∀i∈x,i<n+1:=fun x hx i hi=>by have:=hx i hi;omega
  unfold admA admS
  split
  ·split
   ·exact⟨a0 _ h1,a0 _ h2⟩
   ·exact⟨a0 _ h1,a1 _ h2⟩
  ·split
   ·exact⟨a1 _ h1,a0 _ h2⟩
   ·exact⟨a0 _ h1,a1 _ h2⟩
theorem filter_split {k:Nat} {x t:List Nat} (h1:∀i∈x,i<k) (h2:∀i∈t,k≤i):(x++t).filter (fun i=>decide (i<k))=x:=by
 rw[List.filter_append,List.filter_eq_self.2 (fun i hi=>decide_eq_true (h1 i hi)),List.filter_eq_nil_iff.2 (fun i hi=>by have:=h2 i hi;simp;omega),List.append_nil]
theorem begins (l:List Et) (k:Nat) (hk:k≤l.length):(admP (l.take k)).vis=(admP l).vis.filter (fun i=>decide (i<k))∧(admP (l.take k)).held=(admP l).held.filter (fun i=>decide (i<k)):=by
 obtain⟨t,u,h1,h2,h3,h4⟩:=admA_more l k l.length hk
 obtain⟨b1,b2⟩:=admA_below l k
 have e:admP (l.take k)=admA l k:=by
  unfold admP
  rw[List.length_take,Nat.min_eq_left hk,admA_take l k k (Nat.le_refl _)]
 rw[e]
 unfold admP
 rw[h1,h2]
 exact⟨(filter_split b1 h3).symm,(filter_split b2 h4).symm⟩
end Go.Proofs.YtmaoochjbpohdaaGreatDoor.Pl
namespace Go.Proofs.YtmaoochjbpohdaaGreatDoor.Rv
open Go.ChangeShapes Go.WideShapes Go.ChangeAt Go.RowKit
open Base Lx Mi Pr
def idxP {α:Type} (p:α→Bool):List α→Int
 | [] => -1
 | x::l=>if p x=true then 0 else if idxP p l<0 then -1 else idxP p l+1
def NoP {α:Type} (p:α→Bool) (l:List α) (i:Nat):Prop:=∀(j:Nat) x,j<i→l[j]?=some x→p x=false
theorem idxP_ge {α:Type} (p:α→Bool):∀l,-1≤idxP p l
 | []=>by simp[idxP]
 | x::l=>by
  have:=idxP_ge p l
  unfold idxP
  split
  ·omega
  ·split<;>omega
theorem idxP_hit {α:Type} {p:α→Bool}:∀ {l:List α} {i:Nat} {x:α},NoP p l i→l[i]?=some x→p x=true→idxP p l=i
 | [],i,x,_,h,_=>by simp at h
 | y::l,0,x,_,h,hp=>by
  simp at h;subst h
  simp[idxP,hp]
 | y::l,i+1,x,hn,h,hp=>by
  have h0:=hn 0 y (by omega) rfl
  have ih:=idxP_hit (l:=l) (i:=i) (x:=x) (fun j z hj hz=>hn (j+1) z (by omega) (by simpa using hz)) (by simpa using h) hp
  unfold idxP
  rw[if_neg (by simp[h0]),ih,if_neg (by omega)]
  omega
theorem idxP_none {α:Type} {p:α→Bool}:∀ {l:List α},NoP p l l.length→idxP p l = -1
 | [],_=>rfl
 | y::l,hn=>by
  have h0:=hn 0 y (by simp) rfl
  have ih:=idxP_none (l:=l) (p:=p) (fun j z hj hz=>hn (j+1) z (by simpa using hj) (by simpa using hz))
  unfold idxP
  rw[if_neg (by simp[h0]),ih,if_pos (by omega)]
theorem idxP_any {α:Type} (p:α→Bool):∀l:List α,decide (0≤idxP p l)=l.any p
 | []=>rfl
 | x::l=>by
  have ih:=idxP_any p l
  unfold idxP
  by_cases hx:p x=true
  ·simp[hx]
  ·rw[if_neg hx,List.any_cons,←ih]
   have hx:p x=false:=by simpa using hx
   by_cases h:idxP p l<0
   ·simp[h,hx]
   ·rw[if_neg h,hx]
    have:0≤idxP p l:=by omega
    simp[this]
    omega
theorem idxP_find {α:Type} {p:α→Bool}:∀ {l:List α} {i:Nat},idxP p l=i→∃x,l[i]?=some x∧l.find? p=some x
 | [],i,h=>by simp[idxP] at h
 | x::l,i,h=>by
  unfold idxP at h
  by_cases hx:p x=true
  ·rw[if_pos hx] at h
   obtain rfl:i=0:=by omega
   exact⟨x,rfl,by simp[hx]⟩
  ·rw[if_neg hx] at h
   split at h
   ·omega
   ·next hn=>
    obtain⟨m,rfl⟩:∃m,i=m+1:=⟨i-1,by omega⟩
    obtain⟨y,h1,h2⟩:=idxP_find (p:=p) (l:=l) (i:=m) (by omega)
    exact⟨y,by simpa using h1,by simp[hx,h2]⟩
theorem idxP_find_none {α:Type} {p:α→Bool}:∀ {l:List α},idxP p l<0→l.find? p=none
 | [],_=>rfl
 | x::l,h=>by
  unfold idxP at h
  by_cases hx:p x=true
  ·rw[if_pos hx] at h;omega
  ·rw[if_neg hx] at h
   split at h
   ·next hn=>simp[hx,idxP_find_none hn]
   ·omega
theorem fldsZ_cell {w:World} {A:Option Addr} {l:List (ByteArray×Bool×Int)} (hr:Rd w A (fldsZ l)) (j:Nat) (x:ByteArray×Bool×Int) (hx:l[j]?=some x):∃b off,A=some ⟨b,off,none⟩∧w.cell? ⟨b,off+j*3,none⟩=some (.string x.1)∧w.cell? ⟨b,off+j*3+1,none⟩=some (.bool x.2.1)∧w.cell? ⟨b,off+j*3+2,none⟩=some (.int .i64 x.2.2):=by
 have hi:=(List.getElem?_eq_some_iff.1 hx).1
 obtain⟨b,off,e,h⟩:=hr (fun e=>by have:=fldsZ_at l j x hx 0 (by omega);rw[e] at this;simp[fldZ] at this)
 refine⟨b,off,e,?_,?_,?_⟩
 ·exact h (j*3+0) _ (by rw[fldsZ_at l j x hx 0 (by omega)];rfl)
 ·rw[Nat.add_assoc];exact h (j*3+1) _ (by rw[fldsZ_at l j x hx 1 (by omega)];rfl)
 ·rw[Nat.add_assoc];exact h (j*3+2) _ (by rw[fldsZ_at l j x hx 2 (by omega)];rfl)
theorem idxInt_any {F:FuncId} (q1 q2:Addr) (A:Option Addr) (c:Nat) (l:List (Int)) (p:Int→Bool) (w:World) (hr:Rd w A (intsZ l)) (n:Nat) (hn:l.length=n) (hl:n≤100000)
  (hF:∀args w,(callFunc F args).run Tryz.prog w=.ok (.enter F args) w)
  (hf:∀x∈l,∀W,Ext w W→Calls Tryz.prog F #[.int .i64 x,.pointer (some q1),.pointer (some q2)] W fun en w'=>en=.returned (.bool (p x))∧Ext W w') :
  Calls Tryz.prog 116 #[.slice A n c,.func (.func F) #[] #[.pointer (some q1),.pointer (some q2)]] w fun en w'=>en=.returned (.int .i64 (idxP p l))∧Ext w w':=by
 have Hn:=Lib.hid hn
 clear hn
 replace hf:=Lib.hid hf
 obtain⟨IX,hIX⟩:∃o,Hid (idxP p l=o):=⟨_,rfl⟩
 rw[hIX.out]
 go_enter Tryz.func116,Tryz.ntmps116
 go_wp2_with fail
 go_loopw [5,8,9,10,11,12,13,14,15,16,18] (fun v5 v8 v9 v10 v11 v12 v13 v14 v15 v16 v18 wr=>∃i:Nat,i≤n∧v8=.int .i64 i∧NoP p l i∧Ext w wr) (fun _ v8 _ _ _ _ _ _ _ _ _ _=>n-(intOf v8).toNat)
 case atStart=>exact⟨0,by omega,rfl,fun k f h=>by omega,Ext.refl w⟩
 case round=>
  obtain⟨i,hi,rfl,h1,hx⟩:=hrel
  by_cases hin:i<n
  ·have hin':(i:Int)<(n:Int):=by omega
   obtain⟨x,hme⟩:∃m,l[i]?=some m:=⟨_,List.getElem?_eq_getElem (by have:=Hn.out;omega)⟩
   obtain⟨b,off,rfl,hz,hc⟩:=(hr.ext hx).at_ (k:=i) (by simp only[intsZ,List.length_map];have:=Hn.out;omega)
   clear hz
   have hck:wr.cell? ⟨b,off+i,none⟩=some (.int .i64 x):=hc i _ (by simp[intsZ,hme])
   clear hc
   have hb:=hf.out x (List.mem_of_getElem? hme) wr hx
   have Hme:=Lib.hid hme
   clear hme
   obtain⟨BB,hBB⟩:∃o,Hid (p x=o):=⟨_,rfl⟩
   rw[hBB.out] at hb
   cases BB with
   | true=>
    have hat:IX=(i:Int):=by rw[←hIX.out];exact idxP_hit h1 Hme.out hBB.out
    have Hat:=Lib.hid hat
    clear hat
    go_wp2_with fail
    refine hb.mono ?_
    rintro e w1 ⟨rfl,hx2⟩
    go_wp2_with fail
    go_ret
    exact⟨by rw[Hat.out];rfl,hx.trans hx2⟩
   | false=>
    go_wp2_with fail
    refine hb.mono ?_
    rintro e w1 ⟨rfl,hx2⟩
    go_wp2_with fail
    refine⟨⟨i+1,by omega,by go_num,?_,hx.trans hx2⟩,by simp[intOf];omega⟩
    intro j y hk hy
    rcases Nat.lt_or_ge j i with h|h
    ·exact h1 j y h hy
    ·obtain rfl:j=i:=by omega
     rw[Hme.out] at hy
     injection hy with hy
     rw[←hy];exact hBB.out
  ·obtain rfl:i=n:=by omega
   have hat:IX = -1:=by
    rw[←hIX.out]
    exact idxP_none (by rw[Hn.out];exact h1)
   have Hat:=Lib.hid hat
   clear hat
   go_wp2_with fail
   go_ret
   exact⟨by rw[Hat.out];rfl,hx⟩
theorem hasInt_any {F:FuncId} (q1 q2:Addr) (A:Option Addr) (c:Nat) (l:List (Int)) (p:Int→Bool) (w:World) (hr:Rd w A (intsZ l)) (n:Nat) (hn:l.length=n) (hl:n≤100000)
  (hF:∀args w,(callFunc F args).run Tryz.prog w=.ok (.enter F args) w)
  (hf:∀x∈l,∀W,Ext w W→Calls Tryz.prog F #[.int .i64 x,.pointer (some q1),.pointer (some q2)] W fun en w'=>en=.returned (.bool (p x))∧Ext W w') :
  Calls Tryz.prog 95 #[.slice A n c,.func (.func F) #[] #[.pointer (some q1),.pointer (some q2)]] w fun en w'=>en=.returned (.bool (l.any p))∧Ext w w':=by
 have hi:=idxInt_any q1 q2 A c l p w hr n hn hl hF hf
 rw[←idxP_any]
 obtain⟨r,hr'⟩:∃o,Hid (idxP p l=o):=⟨_,rfl⟩
 rw[hr'.out] at hi ⊢
 clear hf hF
 go_enter Tryz.func95,Tryz.ntmps95
 go_wp2_with fail
 refine hi.mono ?_
 rintro e w1 ⟨rfl,hx⟩
 go_wp2_with fail
 go_ret
 exact⟨rfl,hx⟩
theorem idxStr_any {F:FuncId} (q1:Addr) (A:Option Addr) (c:Nat) (l:List (ByteArray)) (p:ByteArray→Bool) (w:World) (hr:Rd w A (txs l)) (n:Nat) (hn:l.length=n) (hl:n≤100000)
  (hF:∀args w,(callFunc F args).run Tryz.prog w=.ok (.enter F args) w)
  (hf:∀x∈l,∀W,Ext w W→Calls Tryz.prog F #[.string x,.pointer (some q1)] W fun en w'=>en=.returned (.bool (p x))∧Ext W w') :
  Calls Tryz.prog 117 #[.slice A n c,.func (.func F) #[] #[.pointer (some q1)]] w fun en w'=>en=.returned (.int .i64 (idxP p l))∧Ext w w':=by
 have Hn:=Lib.hid hn
 clear hn
 replace hf:=Lib.hid hf
 obtain⟨IX,hIX⟩:∃o,Hid (idxP p l=o):=⟨_,rfl⟩
 rw[hIX.out]
 go_enter Tryz.func117,Tryz.ntmps117
 go_wp2_with fail
 go_loopw [5,8,9,10,11,12,13,14,15,16,18] (fun v5 v8 v9 v10 v11 v12 v13 v14 v15 v16 v18 wr=>∃i:Nat,i≤n∧v8=.int .i64 i∧NoP p l i∧Ext w wr) (fun _ v8 _ _ _ _ _ _ _ _ _ _=>n-(intOf v8).toNat)
 case atStart=>exact⟨0,by omega,rfl,fun k f h=>by omega,Ext.refl w⟩
 case round=>
  obtain⟨i,hi,rfl,h1,hx⟩:=hrel
  by_cases hin:i<n
  ·have hin':(i:Int)<(n:Int):=by omega
   obtain⟨x,hme⟩:∃m,l[i]?=some m:=⟨_,List.getElem?_eq_getElem (by have:=Hn.out;omega)⟩
   obtain⟨b,off,rfl,hz,hc⟩:=(hr.ext hx).at_ (k:=i) (by simp only[txs,List.length_map];have:=Hn.out;omega)
   clear hz
   have hck:wr.cell? ⟨b,off+i,none⟩=some (.string x):=hc i _ (by simp[txs,hme])
   clear hc
   have hb:=hf.out x (List.mem_of_getElem? hme) wr hx
   have Hme:=Lib.hid hme
   clear hme
   obtain⟨BB,hBB⟩:∃o,Hid (p x=o):=⟨_,rfl⟩
   rw[hBB.out] at hb
   cases BB with
   | true=>
    have hat:IX=(i:Int):=by rw[←hIX.out];exact idxP_hit h1 Hme.out hBB.out
    have Hat:=Lib.hid hat
    clear hat
    go_wp2_with fail
    refine hb.mono ?_
    rintro e w1 ⟨rfl,hx2⟩
    go_wp2_with fail
    go_ret
    exact⟨by rw[Hat.out];rfl,hx.trans hx2⟩
   | false=>
    go_wp2_with fail
    refine hb.mono ?_
    rintro e w1 ⟨rfl,hx2⟩
    go_wp2_with fail
    refine⟨⟨i+1,by omega,by go_num,?_,hx.trans hx2⟩,by simp[intOf];omega⟩
    intro j y hk hy
    rcases Nat.lt_or_ge j i with h|h
    ·exact h1 j y h hy
    ·obtain rfl:j=i:=by omega
     rw[Hme.out] at hy
     injection hy with hy
     rw[←hy];exact hBB.out
  ·obtain rfl:i=n:=by omega
   have hat:IX = -1:=by
    rw[←hIX.out]
    exact idxP_none (by rw[Hn.out];exact h1)
   have Hat:=Lib.hid hat
   clear hat
   go_wp2_with fail
   go_ret
   exact⟨by rw[Hat.out];rfl,hx⟩
theorem hasStr_any {F:FuncId} (q1:Addr) (A:Option Addr) (c:Nat) (l:List (ByteArray)) (p:ByteArray→Bool) (w:World) (hr:Rd w A (txs l)) (n:Nat) (hn:l.length=n) (hl:n≤100000)
  (hF:∀args w,(callFunc F args).run Tryz.prog w=.ok (.enter F args) w)
  (hf:∀x∈l,∀W,Ext w W→Calls Tryz.prog F #[.string x,.pointer (some q1)] W fun en w'=>en=.returned (.bool (p x))∧Ext W w') :
  Calls Tryz.prog 98 #[.slice A n c,.func (.func F) #[] #[.pointer (some q1)]] w fun en w'=>en=.returned (.bool (l.any p))∧Ext w w':=by
 have hi:=idxStr_any q1 A c l p w hr n hn hl hF hf
 rw[←idxP_any]
 obtain⟨r,hr'⟩:∃o,Hid (idxP p l=o):=⟨_,rfl⟩
 rw[hr'.out] at hi ⊢
 clear hf hF
 go_enter Tryz.func98,Tryz.ntmps98
 go_wp2_with fail
 refine hi.mono ?_
 rintro e w1 ⟨rfl,hx⟩
 go_wp2_with fail
 go_ret
 exact⟨rfl,hx⟩
theorem idxFld_any {F:FuncId} (q1:Addr) (A:Option Addr) (c:Nat) (l:List (ByteArray×Bool×Int)) (p:ByteArray×Bool×Int→Bool) (w:World) (hr:Rd w A (fldsZ l)) (n:Nat) (hn:l.length=n) (hl:n≤100000)
  (hF:∀args w,(callFunc F args).run Tryz.prog w=.ok (.enter F args) w)
  (hf:∀x∈l,∀W,Ext w W→Calls Tryz.prog F #[.agg (fldZ x).toArray,.pointer (some q1)] W fun en w'=>en=.returned (.bool (p x))∧Ext W w') :
  Calls Tryz.prog 119 #[.slice A n c,.func (.func F) #[] #[.pointer (some q1)]] w fun en w'=>en=.returned (.int .i64 (idxP p l))∧Ext w w':=by
 have Hn:=Lib.hid hn
 clear hn
 replace hf:=Lib.hid hf
 obtain⟨IX,hIX⟩:∃o,Hid (idxP p l=o):=⟨_,rfl⟩
 rw[hIX.out]
 go_enter Tryz.func119,Tryz.ntmps119
 go_wp2_with fail
 go_loopw [5,8,9,10,11,12,13,14,15,16,18] (fun v5 v8 v9 v10 v11 v12 v13 v14 v15 v16 v18 wr=>∃i:Nat,i≤n∧v8=.int .i64 i∧NoP p l i∧Ext w wr) (fun _ v8 _ _ _ _ _ _ _ _ _ _=>n-(intOf v8).toNat)
 case atStart=>exact⟨0,by omega,rfl,fun k f h=>by omega,Ext.refl w⟩
 case round=>
  obtain⟨i,hi,rfl,h1,hx⟩:=hrel
  by_cases hin:i<n
  ·have hin':(i:Int)<(n:Int):=by omega
   obtain⟨x,hme⟩:∃m,l[i]?=some m:=⟨_,List.getElem?_eq_getElem (by have:=Hn.out;omega)⟩
   obtain⟨b,off,rfl,d0,d1,d2⟩:=fldsZ_cell (hr.ext hx) i x hme
   have hb:=hf.out x (List.mem_of_getElem? hme) wr hx
   obtain⟨y,yb,yt⟩:=x
   simp only[fldZ] at hb d0 d1 d2
   have Hme:=Lib.hid hme
   clear hme
   obtain⟨BB,hBB⟩:∃o,Hid (p (y,yb,yt)=o):=⟨_,rfl⟩
   rw[hBB.out] at hb
   cases BB with
   | true=>
    have hat:IX=(i:Int):=by rw[←hIX.out];exact idxP_hit h1 Hme.out hBB.out
    have Hat:=Lib.hid hat
    clear hat
    go_wp2_with fail
    refine hb.mono ?_
    rintro e w1 ⟨rfl,hx2⟩
    go_wp2_with fail
    go_ret
    exact⟨by rw[Hat.out];rfl,hx.trans hx2⟩
   | false=>
    go_wp2_with fail
    refine hb.mono ?_
    rintro e w1 ⟨rfl,hx2⟩
    go_wp2_with fail
    refine⟨⟨i+1,by omega,by go_num,?_,hx.trans hx2⟩,by simp[intOf];omega⟩
    intro j y hk hy
    rcases Nat.lt_or_ge j i with h|h
    ·exact h1 j y h hy
    ·obtain rfl:j=i:=by omega
     rw[Hme.out] at hy
     injection hy with hy
     rw[←hy];exact hBB.out
  ·obtain rfl:i=n:=by omega
   have hat:IX = -1:=by
    rw[←hIX.out]
    exact idxP_none (by rw[Hn.out];exact h1)
   have Hat:=Lib.hid hat
   clear hat
   go_wp2_with fail
   go_ret
   exact⟨by rw[Hat.out];rfl,hx⟩
end Go.Proofs.YtmaoochjbpohdaaGreatDoor.Rv
