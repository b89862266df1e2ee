/- parse: lists held against each other. -/
import Derived.Test.YtllhhpcabncmiaaGreatDoorDsD
set_option linter.unusedVariables false
set_option linter.unusedSimpArgs false
set_option maxRecDepth 100000
set_option maxHeartbeats 1000000
namespace Go.Proofs.YtllhhpcabncmiaaGreatDoor
namespace Pr
open Go.ChangeShapes Go.WideShapes Go.ChangeAt Go.RowKit
open Base Lx Mi
def EqAt {α:Type} (l1 l2:List α) (i:Nat):Prop:=∀j,j<i→l1[j]?=l2[j]?
theorem EqAt.next {α:Type} {l1 l2:List α} {i:Nat} {x:α} (h:EqAt l1 l2 i) (h1:l1[i]?=some x) (h2:l2[i]?=some x):EqAt l1 l2 (i+1):=fun j hj=>by
 rcases Nat.lt_or_ge j i with h'|h'
 ·exact h j h'
 ·obtain rfl:j=i:=by omega
  rw[h1,h2]
theorem EqAt.all {α:Type} {l1 l2:List α} (hl:l1.length=l2.length) (h:EqAt l1 l2 l1.length):l1=l2:=by
 apply List.ext_getElem?
 intro j
 rcases Nat.lt_or_ge j l1.length with h'|h'
 ·exact h j h'
 ·rw[List.getElem?_eq_none h',List.getElem?_eq_none (by omega)]
theorem ne_at {α:Type} {l1 l2:List α} {i:Nat} {x y:α} (h1:l1[i]?=some x) (h2:l2[i]?=some y) (h:x≠y):l1≠l2:=fun e=>by
 subst e;rw[h1] at h2;injection h2 with h2;exact h h2
theorem ne_len {α:Type} {l1 l2:List α} (h:l1.length≠l2.length):l1≠l2:=fun e=>h (by rw[e])
theorem equal_str {B:Nat} {w:World} {v1 v2:Value} {l1 l2:List ByteArray} (h1:Sl B w v1 l1.length (txs l1)) (h2:Sl B w v2 l2.length (txs l2)) (hB:B≤w.heap.size) :
  Calls Tryz.prog 54 #[v1,v2] w fun e w'=>e=.returned (.bool (decide (l1=l2)))∧Ext w w':=by
 obtain⟨R,hR⟩:∃R,Hid (decide (l1=l2)=R):=⟨_,rfl⟩
 rw[hR.out]
 obtain⟨A1,c1,rfl,hn1,hm1,_,hat1⟩:=h1.at_
 obtain⟨A2,c2,rfl,hn2,hm2,_,hat2⟩:=h2.at_
 unfold maxLen at hm1 hm2
 obtain⟨n,hn⟩:∃z,Hid (l1.length=z):=⟨_,rfl⟩
 obtain⟨n2,hn2'⟩:∃z,Hid (l2.length=z):=⟨_,rfl⟩
 rw[hn.out] at hn1 ⊢
 rw[hn2'.out] at hn2 ⊢
 by_cases hl:n=n2
 ·subst hl
  have hnb:((n:Int) != (n:Int))=false:=by simp
  go_enter Tryz.func54,Tryz.ntmps54
  go_wp2_with fail
  go_loopw [5,13,14,15,16,17,18,19,20,21,22,23,24,25] (fun v5 v13 v14 v15 v16 v17 v18 v19 v20 v21 v22 v23 v24 v25 wr=>∃i:Nat,i≤n∧v13=.int .i64 i∧EqAt l1 l2 i∧Ext w wr) (fun _ v13 _ _ _ _ _ _ _ _ _ _ _ _ _=>n-(intOf v13).toNat)
  case atStart=>exact⟨0,by omega,rfl,fun j hj=>by omega,Ext.refl w⟩
  case round=>
   obtain⟨i,hi,rfl,heq,hx⟩:=hrel
   by_cases hin:i<n
   ·have hin':(i:Int)<(n:Int):=by omega
    obtain⟨x,hx1⟩:∃x,l1[i]?=some x:=⟨_,List.getElem?_eq_getElem (by have:=hn.out;omega)⟩
    obtain⟨y,hx2⟩:∃x,l2[i]?=some x:=⟨_,List.getElem?_eq_getElem (by have:=hn2'.out;omega)⟩
    have hz1:(txs l1)[i]?=some (.string x):=by unfold txs;rw[List.getElem?_map,hx1];rfl
    have hz2:(txs l2)[i]?=some (.string y):=by unfold txs;rw[List.getElem?_map,hx2];rfl
    obtain⟨b1,o1,rfl,hb1,hc1⟩:=hat1 i _ hz1
    obtain⟨b2,o2,rfl,hb2,hc2⟩:=hat2 i _ hz2
    have d1:∀W,Ext wr W→W.cell? ⟨b1,o1+i,none⟩=some (.string x):=fun W hW=>hc1 W (Below.mono (hx.trans hW) hB) i _ hz1
    have d2:∀W,Ext wr W→W.cell? ⟨b2,o2+i,none⟩=some (.string y):=fun W hW=>hc2 W (Below.mono (hx.trans hW) hB) i _ hz2
    clear hz1 hz2 hc1 hc2
    by_cases he:x=y
    ·subst he
     have hE:=heq.next hx1 hx2
     clear hx1 hx2
     have hbq:(x.toList != x.toList)=false:=by simp
     go_wp2_with fail
     refine Reg.startE (by kernel_rfl) ?_
     iterate 9 ((first|refine Reg.tn ?_|refine Reg.sn ?_);(try simp only[Reg.nn]))
     refine Reg.fin (by kernel_rfl) (fun W hW=>?_)
     go_wp2_with fail
     go_roundw
     case rel=>exact⟨i+1,by omega,by go_num,hE,hx.trans hW⟩
     case measure=>simp[intOf];omega
    ·have hne:=ne_at hx1 hx2 he
     have hRf:R=false:=by rw[←hR.out];simpa using hne
     have hbq:=str_ne he
     have hbq2:(x.toList != y.toList)=true:=by simpa [bne] using hbq
     subst hRf
     clear hx1 hx2 hne
     go_wp2_with fail
     refine Reg.startE (by kernel_rfl) ?_
     iterate 9 ((first|refine Reg.tn ?_|refine Reg.sn ?_);(try simp only[Reg.nn]))
     refine Reg.fin (by kernel_rfl) (fun W hW=>?_)
     go_wp2_with fail
     go_ret
     exact⟨rfl,hx.trans hW⟩
   ·obtain rfl:i=n:=by omega
    have hRt:R=true:=by rw[←hR.out];simpa using EqAt.all (by rw[hn.out,hn2'.out]) (by rw[hn.out];exact heq)
    subst hRt
    go_wp2_with fail
    go_ret
    exact⟨rfl,hx⟩
 ·have hRf:R=false:=by rw[←hR.out];simpa using ne_len (by rw[hn.out,hn2'.out];exact hl)
  have hnb:((n:Int) != (n2:Int))=true:=by simpa using (by omega:¬(n:Int)=(n2:Int))
  subst hRf
  go_enter Tryz.func54,Tryz.ntmps54
  go_wp2_with fail
  go_ret
  exact⟨rfl,Ext.refl w⟩
theorem equal_intZ {B:Nat} {w:World} {v1 v2:Value} {l1 l2:List Int} (h1:Sl B w v1 l1.length (intsZ l1)) (h2:Sl B w v2 l2.length (intsZ l2)) (hB:B≤w.heap.size) :
  Calls Tryz.prog 116 #[v1,v2] w fun e w'=>e=.returned (.bool (decide (l1=l2)))∧Ext w w':=by
 obtain⟨R,hR⟩:∃R,Hid (decide (l1=l2)=R):=⟨_,rfl⟩
 rw[hR.out]
 obtain⟨A1,c1,rfl,hn1,hm1,_,hat1⟩:=h1.at_
 obtain⟨A2,c2,rfl,hn2,hm2,_,hat2⟩:=h2.at_
 unfold maxLen at hm1 hm2
 obtain⟨n,hn⟩:∃z,Hid (l1.length=z):=⟨_,rfl⟩
 obtain⟨n2,hn2'⟩:∃z,Hid (l2.length=z):=⟨_,rfl⟩
 rw[hn.out] at hn1 ⊢
 rw[hn2'.out] at hn2 ⊢
 by_cases hl:n=n2
 ·subst hl
  have hnb:((n:Int) != (n:Int))=false:=by simp
  go_enter Tryz.func116,Tryz.ntmps116
  go_wp2_with fail
  go_loopw [5,13,14,15,16,17,18,19,20,21,22,23,24,25] (fun v5 v13 v14 v15 v16 v17 v18 v19 v20 v21 v22 v23 v24 v25 wr=>∃i:Nat,i≤n∧v13=.int .i64 i∧EqAt l1 l2 i∧Ext w wr) (fun _ v13 _ _ _ _ _ _ _ _ _ _ _ _ _=>n-(intOf v13).toNat)
  case atStart=>exact⟨0,by omega,rfl,fun j hj=>by omega,Ext.refl w⟩
  case round=>
   obtain⟨i,hi,rfl,heq,hx⟩:=hrel
   by_cases hin:i<n
   ·have hin':(i:Int)<(n:Int):=by omega
    obtain⟨x,hx1⟩:∃x,l1[i]?=some x:=⟨_,List.getElem?_eq_getElem (by have:=hn.out;omega)⟩
    obtain⟨y,hx2⟩:∃x,l2[i]?=some x:=⟨_,List.getElem?_eq_getElem (by have:=hn2'.out;omega)⟩
    have hz1:(intsZ l1)[i]?=some (.int .i64 x):=by unfold intsZ;rw[List.getElem?_map,hx1];rfl
    have hz2:(intsZ l2)[i]?=some (.int .i64 y):=by unfold intsZ;rw[List.getElem?_map,hx2];rfl
    obtain⟨b1,o1,rfl,hb1,hc1⟩:=hat1 i _ hz1
    obtain⟨b2,o2,rfl,hb2,hc2⟩:=hat2 i _ hz2
    have d1:∀W,Ext wr W→W.cell? ⟨b1,o1+i,none⟩=some (.int .i64 x):=fun W hW=>hc1 W (Below.mono (hx.trans hW) hB) i _ hz1
    have d2:∀W,Ext wr W→W.cell? ⟨b2,o2+i,none⟩=some (.int .i64 y):=fun W hW=>hc2 W (Below.mono (hx.trans hW) hB) i _ hz2
    clear hz1 hz2 hc1 hc2
    by_cases he:x=y
    ·subst he
     have hE:=heq.next hx1 hx2
     clear hx1 hx2
     have hbq:(x != x)=false:=by simp
     go_wp2_with fail
     refine Reg.startE (by kernel_rfl) ?_
     iterate 9 ((first|refine Reg.tn ?_|refine Reg.sn ?_);(try simp only[Reg.nn]))
     refine Reg.fin (by kernel_rfl) (fun W hW=>?_)
     go_wp2_with fail
     go_roundw
     case rel=>exact⟨i+1,by omega,by go_num,hE,hx.trans hW⟩
     case measure=>simp[intOf];omega
    ·have hne:=ne_at hx1 hx2 he
     have hRf:R=false:=by rw[←hR.out];simpa using hne
     have hbq2:(x != y)=true:=by simpa using he
     subst hRf
     clear hx1 hx2 hne
     go_wp2_with fail
     refine Reg.startE (by kernel_rfl) ?_
     iterate 9 ((first|refine Reg.tn ?_|refine Reg.sn ?_);(try simp only[Reg.nn]))
     refine Reg.fin (by kernel_rfl) (fun W hW=>?_)
     go_wp2_with fail
     go_ret
     exact⟨rfl,hx.trans hW⟩
   ·obtain rfl:i=n:=by omega
    have hRt:R=true:=by rw[←hR.out];simpa using EqAt.all (by rw[hn.out,hn2'.out]) (by rw[hn.out];exact heq)
    subst hRt
    go_wp2_with fail
    go_ret
    exact⟨rfl,hx⟩
 ·have hRf:R=false:=by rw[←hR.out];simpa using ne_len (by rw[hn.out,hn2'.out];exact hl)
  have hnb:((n:Int) != (n2:Int))=true:=by simpa using (by omega:¬(n:Int)=(n2:Int))
  subst hRf
  go_enter Tryz.func116,Tryz.ntmps116
  go_wp2_with fail
  go_ret
  exact⟨rfl,Ext.refl w⟩
theorem str_beq (a b:ByteArray):(a.toList == b.toList)=decide (a=b):=by
 by_cases h:a=b
 ·subst h;simp
 ·rw[str_ne h];simpa using h
theorem neq_fld (a b:ByteArray) (c d:Bool) (x y:Int) (w:World):(binOp .neq 69 (.agg #[.string a,.bool c,.int .i64 x]) (.agg #[.string b,.bool d,.int .i64 y])).run Tryz.prog w=.ok (.bool (!decide ((a,c,x)=(b,d,y)))) w:=by
 have hS:Tryz.prog.underlying 69=some (.struct (Tryz.prog.fieldsOf 69)):=by kernel_rfl
 have hp:Tryz.prog.stoodInHeld 69=false:=by kernel_rfl
 rw[run_neq_struct,show (10000:Nat)=9999+1 from rfl,run_equalIn_agg w 9999 69 _ _ hS hp]
 simp only[Program.fieldsOf,Tryz.underlying69]
 go_simp
 have hs:a.toList=b.toList↔a=b:=⟨fun h=>Classical.byContradiction fun hn=>by have:=str_ne hn;rw[h] at this;simp at this,fun h=>by rw[h]⟩
 by_cases h1:a=b<;>by_cases h2:c=d<;>by_cases h3:x=y<;>simp[hs,h1,h2,h3]
theorem equal_fldZ {B:Nat} {w:World} {v1 v2:Value} {l1 l2:List (ByteArray×Bool×Int)} (h1:Sl B w v1 l1.length (fldsZ l1)) (h2:Sl B w v2 l2.length (fldsZ l2)) (hB:B≤w.heap.size) :
  Calls Tryz.prog 117 #[v1,v2] w fun e w'=>e=.returned (.bool (decide (l1=l2)))∧Ext w w':=by
 obtain⟨R,hR⟩:∃R,Hid (decide (l1=l2)=R):=⟨_,rfl⟩
 rw[hR.out]
 obtain⟨A1,c1,rfl,hn1,hm1,_,hat1⟩:=h1.at_
 obtain⟨A2,c2,rfl,hn2,hm2,_,hat2⟩:=h2.at_
 unfold maxLen at hm1 hm2
 obtain⟨n,hn⟩:∃z,Hid (l1.length=z):=⟨_,rfl⟩
 obtain⟨n2,hn2'⟩:∃z,Hid (l2.length=z):=⟨_,rfl⟩
 rw[hn.out] at hn1 ⊢
 rw[hn2'.out] at hn2 ⊢
 by_cases hl:n=n2
 ·subst hl
  have hnb:((n:Int) != (n:Int))=false:=by simp
  go_enter Tryz.func117,Tryz.ntmps117
  go_wp2_with fail
  go_loopw [5,13,14,15,16,17,18,19,20,21,22,23,24,25] (fun v5 v13 v14 v15 v16 v17 v18 v19 v20 v21 v22 v23 v24 v25 wr=>∃i:Nat,i≤n∧v13=.int .i64 i∧EqAt l1 l2 i∧Ext w wr) (fun _ v13 _ _ _ _ _ _ _ _ _ _ _ _ _=>n-(intOf v13).toNat)
  case atStart=>exact⟨0,by omega,rfl,fun j hj=>by omega,Ext.refl w⟩
  case round=>
   obtain⟨i,hi,rfl,heq,hx⟩:=hrel
   by_cases hin:i<n
   ·have hin':(i:Int)<(n:Int):=by omega
    obtain⟨x,hx1⟩:∃x,l1[i]?=some x:=⟨_,List.getElem?_eq_getElem (by have:=hn.out;omega)⟩
    obtain⟨y,hx2⟩:∃x,l2[i]?=some x:=⟨_,List.getElem?_eq_getElem (by have:=hn2'.out;omega)⟩
    have hz1:=fldsZ_at l1 i _ hx1
    have hz2:=fldsZ_at l2 i _ hx2
    obtain⟨xn,xh,xt⟩:=x
    obtain⟨yn,yh,yt⟩:=y
    obtain⟨b1,o1,rfl,hb1,hc1⟩:=hat1 (i*3+0) (.string xn) (by rw[hz1 0 (by omega)];rfl)
    obtain⟨b2,o2,rfl,hb2,hc2⟩:=hat2 (i*3+0) (.string yn) (by rw[hz2 0 (by omega)];rfl)
    have d10:∀W,Ext wr W→W.cell? ⟨b1,o1+i*3,none⟩=some (.string xn):=fun W hW=>by have:=hc1 W (Below.mono (hx.trans hW) hB) (i*3+0) _ (by rw[hz1 0 (by omega)];rfl);simpa [Nat.add_assoc] using this
    have d11:∀W,Ext wr W→W.cell? ⟨b1,o1+i*3+1,none⟩=some (.bool xh):=fun W hW=>by have:=hc1 W (Below.mono (hx.trans hW) hB) (i*3+1) _ (by rw[hz1 1 (by omega)];rfl);simpa [Nat.add_assoc] using this
    have d12:∀W,Ext wr W→W.cell? ⟨b1,o1+i*3+2,none⟩=some (.int .i64 xt):=fun W hW=>by have:=hc1 W (Below.mono (hx.trans hW) hB) (i*3+2) _ (by rw[hz1 2 (by omega)];rfl);simpa [Nat.add_assoc] using this
    have d20:∀W,Ext wr W→W.cell? ⟨b2,o2+i*3,none⟩=some (.string yn):=fun W hW=>by have:=hc2 W (Below.mono (hx.trans hW) hB) (i*3+0) _ (by rw[hz2 0 (by omega)];rfl);simpa [Nat.add_assoc] using this
    have d21:∀W,Ext wr W→W.cell? ⟨b2,o2+i*3+1,none⟩=some (.bool yh):=fun W hW=>by have:=hc2 W (Below.mono (hx.trans hW) hB) (i*3+1) _ (by rw[hz2 1 (by omega)];rfl);simpa [Nat.add_assoc] using this
    have d22:∀W,Ext wr W→W.cell? ⟨b2,o2+i*3+2,none⟩=some (.int .i64 yt):=fun W hW=>by have:=hc2 W (Below.mono (hx.trans hW) hB) (i*3+2) _ (by rw[hz2 2 (by omega)];rfl);simpa [Nat.add_assoc] using this
    have hcmp:=fun W=>neq_fld xn yn xh yh xt yt W
    clear hz1 hz2 hc1 hc2
    by_cases he:(xn,xh,xt)=(yn,yh,yt)
    ·have hd:decide ((xn,xh,xt)=(yn,yh,yt))=true:=by simpa using he
     rw[hd] at hcmp
     rw[←he] at hx2
     have hE:=heq.next hx1 hx2
     clear hx1 hx2
     go_wp2_with fail
     refine Reg.startE (by kernel_rfl) ?_
     iterate 9 ((first|refine Reg.tn ?_|refine Reg.sn ?_);(try simp only[Reg.nn]))
     refine Reg.fin (by kernel_rfl) (fun W hW=>?_)
     go_wp2_with fail
     go_roundw
     case rel=>exact⟨i+1,by omega,by go_num,hE,hx.trans hW⟩
     case measure=>simp[intOf];omega
    ·have hne:=ne_at hx1 hx2 he
     have hRf:R=false:=by rw[←hR.out];simpa using hne
     have hd:decide ((xn,xh,xt)=(yn,yh,yt))=false:=by simpa using he
     rw[hd] at hcmp
     subst hRf
     clear hx1 hx2 hne
     go_wp2_with fail
     refine Reg.startE (by kernel_rfl) ?_
     iterate 9 ((first|refine Reg.tn ?_|refine Reg.sn ?_);(try simp only[Reg.nn]))
     refine Reg.fin (by kernel_rfl) (fun W hW=>?_)
     go_wp2_with fail
     go_ret
     exact⟨rfl,hx.trans hW⟩
   ·obtain rfl:i=n:=by omega
    have hRt:R=true:=by rw[←hR.out];simpa using EqAt.all (by rw[hn.out,hn2'.out]) (by rw[hn.out];exact heq)
    subst hRt
    go_wp2_with fail
    go_ret
    exact⟨rfl,hx⟩
 ·have hRf:R=false:=by rw[←hR.out];simpa using ne_len (by rw[hn.out,hn2'.out];exact hl)
  have hnb:((n:Int) != (n2:Int))=true:=by simpa using (by omega:¬(n:Int)=(n2:Int))
  subst hRf
  go_enter Tryz.func117,Tryz.ntmps117
  go_wp2_with fail
  go_ret
  exact⟨rfl,Ext.refl w⟩
theorem samen_any {B:Nat} {w:World} {d1 d2:Ne} {v1 v2:V3} (h1:SubE B w d1 v1) (h2:SubE B w d2 v2) (hB:B≤w.heap.size) :
  Calls Tryz.prog 98 #[.agg (neC d1 v1).toArray,.agg (neC d2 v2).toArray] w fun e w'=>e=.returned (.bool (decide (d1=d2)))∧Ext w w':=by
 obtain⟨k1,m1,z1,s1,i1,f1⟩:=d1
 obtain⟨k2,m2,z2,s2,i2,f2⟩:=d2
 obtain⟨a1,b1,c1⟩:=v1
 obtain⟨a2,b2,c2⟩:=v2
 have hs1:Sl B w a1 s1.length (txs s1):=h1.syms
 have hi1:Sl B w b1 i1.length (intsZ i1):=h1.items
 have hf1:Sl B w c1 f1.length (fldsZ f1):=h1.fields
 have hs2:Sl B w a2 s2.length (txs s2):=h2.syms
 have hi2:Sl B w b2 i2.length (intsZ i2):=h2.items
 have hf2:Sl B w c2 f2.length (fldsZ f2):=h2.fields
 clear h1 h2
 simp only[neC]
 obtain⟨w1,hw1⟩:∃z,Hid ((w.alloc (.cells #[.int .i64 k1,.string m1,.int .i64 z1,a1,b1,c1] 47)).alloc (.cells #[.int .i64 k2,.string m2,.int .i64 z2,a2,b2,c2] 47)=z):=⟨_,rfl⟩
 have hx1:Ext w w1:=by rw[←hw1.out];exact ((Ext.refl w).alloc _).alloc _
 obtain⟨q,hq⟩:∃z,Hid (w.heap.size=z):=⟨_,rfl⟩
 have hbA:Blk w1 q #[.int .i64 k1,.string m1,.int .i64 z1,a1,b1,c1] 47:=by rw[←hw1.out,←hq.out];exact (Blk.new w _ _).alloc _
 have hbB:Blk w1 (q+1) #[.int .i64 k2,.string m2,.int .i64 z2,a2,b2,c2] 47:=by
  rw[←hw1.out,←hq.out]
  have:=Blk.new (w.alloc (.cells #[.int .i64 k1,.string m1,.int .i64 z1,a1,b1,c1] 47)) #[.int .i64 k2,.string m2,.int .i64 z2,a2,b2,c2] 47
  simpa using this
 have hcs:=fun W (hW:Ext w W)=>equal_str (hs1.below (Below.mono hW hB)) (hs2.below (Below.mono hW hB)) (Nat.le_trans hB hW.size)
 have hci:=fun W (hW:Ext w W)=>equal_intZ (hi1.below (Below.mono hW hB)) (hi2.below (Below.mono hW hB)) (Nat.le_trans hB hW.size)
 have hcf:=fun W (hW:Ext w W)=>equal_fldZ (hf1.below (Below.mono hW hB)) (hf2.below (Below.mono hW hB)) (Nat.le_trans hB hW.size)
 obtain⟨R,hR⟩:∃R,Hid (decide ((⟨k1,m1,z1,s1,i1,f1⟩:Ne)=⟨k2,m2,z2,s2,i2,f2⟩)=R):=⟨_,Lib.hid rfl⟩
 rw[hR.out]
 by_cases e1:¬(k1=k2)
 ·have hR0:R=false:=by rw[←hR.out];simp[e1]
  have hb:(k1 == k2)=false:=by simpa using e1
  subst hR0
  go_enter Tryz.func98,Tryz.ntmps98
  go_wp2_with fail
  rw[hw1.out]
  go_ret
  exact⟨rfl,hx1⟩
 have e1:k1=k2:=Classical.not_not.1 e1
 subst e1
 by_cases e2:¬(m1=m2)
 ·have hR0:R=false:=by rw[←hR.out];simp[e2]
  have hb2:=str_ne e2
  subst hR0
  go_enter Tryz.func98,Tryz.ntmps98
  go_wp2_with fail
  rw[hw1.out]
  go_ret
  exact⟨rfl,hx1⟩
 have e2:m1=m2:=Classical.not_not.1 e2
 subst e2
 by_cases e3:¬(z1=z2)
 ·have hR0:R=false:=by rw[←hR.out];simp[e3]
  have hb3:(z1 == z2)=false:=by simpa using e3
  subst hR0
  go_enter Tryz.func98,Tryz.ntmps98
  go_wp2_with fail
  rw[hw1.out]
  go_ret
  exact⟨rfl,hx1⟩
 have e3:z1=z2:=Classical.not_not.1 e3
 subst e3
 have hcs1:=hcs w1 hx1
 by_cases e4:¬(s1=s2)
 ·have hR0:R=false:=by rw[←hR.out];simp[e4]
  rw[show decide (s1=s2)=false by simpa using e4] at hcs1
  subst hR0
  clear hcs hci hcf
  go_enter Tryz.func98,Tryz.ntmps98
  go_wp2_with fail
  rw[hw1.out]
  refine hcs1.mono ?_
  rintro e w2 ⟨rfl,hx2⟩
  go_wp2_with fail
  go_ret
  exact⟨rfl,hx1.trans hx2⟩
 have e4:s1=s2:=Classical.not_not.1 e4
 rw[show decide (s1=s2)=true by simpa using e4] at hcs1
 by_cases e5:¬(i1=i2)
 ·have hR0:R=false:=by rw[←hR.out];simp[e5]
  have hci:=fun W hW=>hci W hW
  rw[show decide (i1=i2)=false by simpa using e5] at hci
  subst hR0
  clear hcs hcf
  replace hci:=Lib.hid hci
  go_enter Tryz.func98,Tryz.ntmps98
  go_wp2_with fail
  rw[hw1.out,hq.out]
  refine hcs1.mono ?_
  rintro e w2 ⟨rfl,hx2⟩
  have p4:w2.cell? ⟨q,4,none⟩=some b1:=(hbA.ext hx2).cell 4
  have p4':w2.cell? ⟨q+1,4,none⟩=some b2:=(hbB.ext hx2).cell 4
  have hci2:=hci.out w2 (hx1.trans hx2)
  go_wp2_with fail
  refine hci2.mono ?_
  rintro e w3 ⟨rfl,hx3⟩
  go_wp2_with fail
  go_ret
  exact⟨rfl,(hx1.trans hx2).trans hx3⟩
 have e5:i1=i2:=Classical.not_not.1 e5
 have hRf:R=decide (f1=f2):=by rw[←hR.out];simp[e4,e5]
 have hci:=fun W hW=>hci W hW
 rw[show decide (i1=i2)=true by simpa using e5] at hci
 have hci:=Lib.hid hci
 have hcf:=Lib.hid hcf
 subst hRf
 ·clear hcs
  go_enter Tryz.func98,Tryz.ntmps98
  go_wp2_with fail
  rw[hw1.out,hq.out]
  refine hcs1.mono ?_
  rintro e w2 ⟨rfl,hx2⟩
  have p4:w2.cell? ⟨q,4,none⟩=some b1:=(hbA.ext hx2).cell 4
  have p4':w2.cell? ⟨q+1,4,none⟩=some b2:=(hbB.ext hx2).cell 4
  have hci2:=hci.out w2 (hx1.trans hx2)
  go_wp2_with fail
  refine hci2.mono ?_
  rintro e w3 ⟨rfl,hx3⟩
  have p5:w3.cell? ⟨q,5,none⟩=some c1:=((hbA.ext hx2).ext hx3).cell 5
  have p5':w3.cell? ⟨q+1,5,none⟩=some c2:=((hbB.ext hx2).ext hx3).cell 5
  have hcf2:=hcf.out w3 ((hx1.trans hx2).trans hx3)
  clear p4 p4' hci2
  go_wp2_with fail
  refine hcf2.mono ?_
  rintro e w4 ⟨rfl,hx4⟩
  go_wp2_with fail
  go_ret
  exact⟨rfl,((hx1.trans hx2).trans hx3).trans hx4⟩
theorem WInv.setBad {B m:Nat} {w:World} {no:Value} {st:WSt} (h:WInv B w m no st) (b:Bool):WK B w (w.setCell ⟨m,4,none⟩ (.bool b))∧WInv B (w.setCell ⟨m,4,none⟩ (.bool b)) m no { st with bad:=b }:=by
 obtain⟨p,v,hp,hb,ho⟩:=h.blk
 refine⟨(WK.refl B w).set hb h.hW _,⟨p,v,hp,?_,own_setCell ho hb (by decide) _⟩,h.hW⟩
 have:=hb.set 4 (.bool b)
 simpa using this
theorem WInv.setNext {B m:Nat} {w:World} {no:Value} {st:WSt} (h:WInv B w m no st) (n:Nat):WK B w (w.setCell ⟨m,3,none⟩ (.int .i64 (n:Int)))∧WInv B (w.setCell ⟨m,3,none⟩ (.int .i64 (n:Int))) m no { st with next:=n }:=by
 obtain⟨p,v,hp,hb,ho⟩:=h.blk
 refine⟨(WK.refl B w).set hb h.hW _,⟨p,v,hp,?_,own_setCell ho hb (by decide) _⟩,h.hW⟩
 have:=hb.set 3 (.int .i64 (n:Int))
 simpa using this
theorem WInv.cells {B m:Nat} {w:World} {no:Value} {st:WSt} (h:WInv B w m no st):w.cell? ⟨m,2,none⟩=some no∧w.cell? ⟨m,3,none⟩=some (.int .i64 (st.next:Int))∧w.cell? ⟨m,4,none⟩=some (.bool st.bad)∧w.frozen? ⟨m,3,none⟩=false∧w.frozen? ⟨m,4,none⟩=false:=by
 obtain⟨p,v,hp,hb,ho⟩:=h.blk
 exact⟨hb.cell 2,hb.cell 3,hb.cell 4,hb.frozen 3,hb.frozen 4⟩
theorem Sch.slice {B:Nat} {w:World} {vn:Value} {ns:List Ne} (h:Sch B w vn ns):∃A c,vn=.slice A ns.length c:=by
 obtain⟨vs,h1,⟨A,c,e,_⟩,_⟩:=h
 exact⟨A,c,e⟩
theorem wtyped_stop {B m f deep:Nat} {no:Value} {ns:List Ne} (hdf:deep+f=20) (n:Int) (st:WSt) (w:World) (h:WInv B w m no st) (hS:En B w no ns) (hst:wstop ns f n st) :
  Calls Tryz.prog 94 #[.pointer (some ⟨m,0,none⟩),.int .i64 n,.int .i64 (deep:Int)] w fun e w'=>e=.returned (.tuple #[])∧WK B w w'∧WInv B w' m no { st with bad:=true }:=by
 obtain⟨A,c,rfl⟩:=hS.sch.slice
 obtain⟨hk,hi⟩:=h.setBad true
 obtain⟨c2,c3,c4,f3,f4⟩:=h.cells
 have hlen:=wlen_any h
 obtain⟨ln,hln⟩:∃z,Hid (ns.length=z):=⟨_,rfl⟩
 obtain⟨sl,hsl⟩:∃z,Hid (st.s.length=z):=⟨_,rfl⟩
 obtain⟨nx,hnx⟩:∃z,Hid (st.next=z):=⟨_,rfl⟩
 obtain⟨bd,hbd⟩:∃z,Hid (st.bad=z):=⟨_,rfl⟩
 unfold wstop at hst
 rw[hln.out,hsl.out,hnx.out,hbd.out] at hst
 rw[hln.out] at c2
 rw[hsl.out] at hlen
 rw[hnx.out] at c3
 rw[hbd.out] at c4
 by_cases b1:bd=true
 ·subst b1
  go_enter Tryz.func94,Tryz.ntmps94
  go_wp2_with fail
  refine bodyPost_ret (results_none rfl _ _ _) rfl ?_
  exact⟨rfl,hk,hi⟩
 obtain rfl:bd=false:=by simpa using b1
 by_cases b2:n<0
 ·go_enter Tryz.func94,Tryz.ntmps94
  go_wp2_with fail
  refine bodyPost_ret (results_none rfl _ _ _) rfl ?_
  exact⟨rfl,hk,hi⟩
 by_cases b3:(ln:Int)≤n
 ·go_enter Tryz.func94,Tryz.ntmps94
  go_wp2_with fail
  refine bodyPost_ret (results_none rfl _ _ _) rfl ?_
  exact⟨rfl,hk,hi⟩
 by_cases b4:(nx:Int)<n
 ·go_enter Tryz.func94,Tryz.ntmps94
  go_wp2_with fail
  refine bodyPost_ret (results_none rfl _ _ _) rfl ?_
  exact⟨rfl,hk,hi⟩
 by_cases b5:f=0
 ·have b5':(20:Int)≤(deep:Int):=by omega
  go_enter Tryz.func94,Tryz.ntmps94
  go_wp2_with fail
  refine bodyPost_ret (results_none rfl _ _ _) rfl ?_
  exact⟨rfl,hk,hi⟩
 have b5':¬(20:Int)≤(deep:Int):=by omega
 have b6:4096<sl:=by
  rcases hst with e|e
  ·cases e
  ·omega
 have b6':(4096:Int)<(sl:Int):=by omega
 ·clear hst b1
  go_enter Tryz.func94,Tryz.ntmps94
  go_wp2_with fail
  refine hlen.mono ?_
  rintro e w1 ⟨rfl,rfl⟩
  go_wp2_with fail
  refine bodyPost_ret (results_none rfl _ _ _) rfl ?_
  exact⟨rfl,hk,hi⟩
end Pr
namespace Reg
open Base
section
variable {P:Program} {ops:Array Oper} {Q:Exit→Act→World→Prop} {R:World→World→Prop}
def At (P:Program) (ops:Array Oper) (Q:Exit→Act→World→Prop) (R:World→World→Prop) (done:List Nat) (a:Act) (w:World):Prop:=
 Closed ops (marked ops.size done)→wpAll P ops Q R (ops.size-done.length) (marked ops.size done) a w
theorem startX {id:Nat} {a:Act} {w:World} (hm:P.follows .mixedOrders=true) (h:At P ops Q R [] a w.drew):(Code.region id ops true).wp P Q a w:=
 wp_region_any hm (wpAny_of_wpAll _ _ _ _ (h (Closed.none ops)))
theorem takeX (hR:Rl R) (i:Nat) (oi:Oper) (v:Value) {done:List Nat} {a:Act} {w:World} (hi:ops[i]?=some oi)
  (hs:Region.noSelect ops=true) (hf:Region.free .any ops (marked ops.size done) i=true) (hr:(Region.ready .any ops (marked ops.size done)).contains i=true) (hn:done.length<ops.size)
  (hQ:∀c a w,Q (.panic c) (a.put oi.dst v) w→Q (.panic c) a w) (hw:Region.wanted oi (yielded ops a.tmps)=true)
  (hy:∀w',R w w'→(execOp a.eval oi).run P w'=.ok (.value v) w')
  (h:At P ops Q R (i::done) (a.put oi.dst v) w):At P ops Q R done a w:=by
 intro hcl
 have e:ops.size-done.length=(ops.size-(i::done).length)+1:=by simp only[List.length_cons];omega
 rw[e]
 exact wpAll_first hR.refl hR.trans hi (Region.noSelect_spec hs) hQ _ _ a w (Region.free_spec hi hf) hcl (by simpa using hr) (.inl ⟨hw,hy⟩) (hR.refl w) (h (hcl.set (i:=i) (by simpa using hr)))
theorem skipX (hR:Rl R) (i:Nat) (oi:Oper) {done:List Nat} {a:Act} {w:World} (hi:ops[i]?=some oi)
  (hs:Region.noSelect ops=true) (hf:Region.free .any ops (marked ops.size done) i=true) (hr:(Region.ready .any ops (marked ops.size done)).contains i=true) (hn:done.length<ops.size)
  (hQ:∀c a w,Q (.panic c) (a.put oi.dst undef) w→Q (.panic c) a w) (hw:Region.wanted oi (yielded ops a.tmps)=false)
  (h:At P ops Q R (i::done) (a.put oi.dst undef) w):At P ops Q R done a w:=by
 intro hcl
 have e:ops.size-done.length=(ops.size-(i::done).length)+1:=by simp only[List.length_cons];omega
 rw[e]
 exact wpAll_first hR.refl hR.trans hi (Region.noSelect_spec hs) hQ _ _ a w (Region.free_spec hi hf) hcl (by simpa using hr) (.inr ⟨hw,rfl⟩) (hR.refl w) (h (hcl.set (i:=i) (by simpa using hr)))
theorem onlyX (i:Nat) (oi:Oper) {done:List Nat} {a:Act} {w:World} (hi:ops[i]?=some oi)
  (hr:Region.ready .any ops (marked ops.size done)=[i]) (hn:done.length<ops.size) (hw:Region.wanted oi (yielded ops a.tmps)=true)
  (h:∀K:Act→World→Prop,Shut (∀a' w'',R w w''→At P ops Q R (i::done) a' w''→K a' w'')→oi.wp P a w K Q):At P ops Q R done a w:=by
 intro hcl
 have e:ops.size-done.length=(ops.size-(i::done).length)+1:=by simp only[List.length_cons];omega
 rw[e]
 refine⟨fun h0=>(by rw[h0] at hr;cases hr),fun j hj=>?_⟩
 rw[hr] at hj
 obtain rfl:j=i:=by simpa using hj
 unfold wpOp
 simp only[hi,hw,if_true]
 exact .inl (h _ (fun a' w'' hx hst=>⟨.inl hx,hst (hcl.set (by rw[hr];simp))⟩))
theorem bothX (i j:Nat) (oi oj:Oper) {done:List Nat} {a:Act} {w:World} (hi:ops[i]?=some oi) (hj:ops[j]?=some oj)
  (hr:Region.ready .any ops (marked ops.size done)=[i,j]) (hn:done.length<ops.size) (hwi:Region.wanted oi (yielded ops a.tmps)=true) (hwj:Region.wanted oj (yielded ops a.tmps)=true)
  (h1:∀K:Act→World→Prop,Shut (∀a' w'',R w w''→At P ops Q R (i::done) a' w''→K a' w'')→oi.wp P a w K Q)
  (h2:∀K:Act→World→Prop,Shut (∀a' w'',R w w''→At P ops Q R (j::done) a' w''→K a' w'')→oj.wp P a w K Q):At P ops Q R done a w:=by
 intro hcl
 have e:ops.size-done.length=(ops.size-(i::done).length)+1:=by simp only[List.length_cons];omega
 rw[e]
 refine⟨fun h0=>(by rw[h0] at hr;cases hr),fun k hk=>?_⟩
 have hk2:=hk
 rw[hr] at hk
 simp only[List.mem_cons,List.mem_nil_iff,or_false] at hk
 unfold wpOp
 rcases hk with rfl|rfl
 ·simp only[hi,hwi,if_true]
  exact .inl (h1 _ (fun a' w'' hx hst=>⟨.inl hx,hst (hcl.set hk2)⟩))
 ·simp only[hj,hwj,if_true]
  exact .inl (h2 _ (fun a' w'' hx hst=>⟨.inl hx,hst (hcl.set hk2)⟩))
theorem lastX (i:Nat) (oi:Oper) {done:List Nat} {a:Act} {w:World} (hi:ops[i]?=some oi)
  (hr:Region.ready .any ops (marked ops.size done)=[i]) (hr2:Region.ready .any ops (marked ops.size (i::done))=[]) (hs:soleB ops i=true) (hn:done.length<ops.size) (hw:Region.wanted oi (yielded ops a.tmps)=true)
  (h:∀K:Act→World→Prop,Shut (∀a' w'',Q .normal a' w''→K a' w'')→oi.wp P a w K Q):At P ops Q R done a w:=by
 intro hcl
 have e:ops.size-done.length=(ops.size-(i::done).length)+1:=by simp only[List.length_cons];omega
 rw[e]
 refine⟨fun h0=>(by rw[h0] at hr;cases hr),fun j hj=>?_⟩
 rw[hr] at hj
 obtain rfl:j=i:=by simpa using hj
 unfold wpOp
 simp only[hi,hw,if_true]
 refine .inl (h _ (fun a' w'' hq=>⟨.inr (sole_of hs),?_⟩))
 cases hk:ops.size-(j::done).length with
 | zero=>exact⟨hr2,hq⟩
 | succ k=>exact⟨fun _=>hq,by rw[←marked_cons,hr2];simp⟩
theorem finX {done:List Nat} {a:Act} {w:World} (hr:Region.ready .any ops (marked ops.size done)=[]) (h:Q .normal a w):At P ops Q R done a w:=by
 intro hcl
 cases hk:ops.size-done.length with
 | zero=>exact⟨hr,h⟩
 | succ k=>exact⟨fun _=>h,by rw[hr];simp⟩
theorem At.perm {done done':List Nat} {a:Act} {w:World} (hm:marked ops.size done=marked ops.size done') (hl:done.length=done'.length) (h:At P ops Q R done' a w):At P ops Q R done a w:=by
 unfold At at h ⊢
 rw[hm,hl];exact h
theorem put_comm (a:Act) {d e:Option Nat} (h:d≠e) (u v:Value):(a.put d u).put e v=(a.put e v).put d u:=by
 cases d with
 | none=>rfl
 | some d=>
  cases e with
  | none=>rfl
  | some e=>
   have:d≠e:=fun x=>h (by rw[x])
   simp only[Act.put,Act.mk.injEq,and_true]
   exact Array.setIfInBounds_comm _ _ this
theorem bothY {B:Nat} (i j:Nat) (oi oj:Oper) {done:List Nat} {a:Act} {w:World} (hB:B≤w.heap.size) (hi:ops[i]?=some oi) (hj:ops[j]?=some oj) (hgi:oi.guard=none) (hgj:oj.guard=none) (hd:oi.dst≠oj.dst) (hij:i≠j)
  (hr:Region.ready .any ops (marked ops.size done)=[i,j]) (hri:Region.ready .any ops (marked ops.size (i::done))=[j]) (hrj:Region.ready .any ops (marked ops.size (j::done))=[i]) (hn:done.length+1<ops.size)
  (Fi Fj:Value→World→Prop) (si:∀v w1 w2,Fi v w1→Ext w1 w2→Fi v w2) (sj:∀v w1 w2,Fj v w1→Ext w1 w2→Fj v w2)
  (h1:∀a' w1,(a'=a∨∃v,a'=a.put oj.dst v)→Ext w w1→∀K:Act→World→Prop,Shut (∀v w2,Ext w1 w2→Fi v w2→K (a'.put oi.dst v) w2)→oi.wp P a' w1 K Q)
  (h2:∀a' w1,(a'=a∨∃v,a'=a.put oi.dst v)→Ext w w1→∀K:Act→World→Prop,Shut (∀v w2,Ext w1 w2→Fj v w2→K (a'.put oj.dst v) w2)→oj.wp P a' w1 K Q)
  (h:∀vi vj X,Ext w X→Fi vi X→Fj vj X→At P ops Q (Go.RowKit.Below B) (j::i::done) ((a.put oi.dst vi).put oj.dst vj) X):At P ops Q (Go.RowKit.Below B) done a w:=by
 have wi:∀t,Region.wanted oi t=true:=fun t=>by simp[Region.wanted,hgi]
 have wj:∀t,Region.wanted oj t=true:=fun t=>by simp[Region.wanted,hgj]
 have low:∀ {x y:World},Ext w x→Ext x y→Go.RowKit.Below B x y:=fun hx hy=>Go.RowKit.Below.mono hy (Nat.le_trans hB hx.size)
 refine bothX i j oi oj hi hj hr (by omega) (wi _) (wj _) (fun K hK=>?_) (fun K hK=>?_)
 ·refine h1 a w (.inl rfl) (Ext.refl w) K (fun vi w2 hx hf=>hK _ _ (low (Ext.refl w) hx) ?_)
  refine onlyX j oj hj hri (by simp only[List.length_cons];omega) (wj _) (fun K hK=>?_)
  exact h2 _ w2 (.inr ⟨vi,rfl⟩) hx K (fun vj w3 hx3 hfj=>hK _ _ (low hx hx3) (h vi vj w3 (hx.trans hx3) (si _ _ _ hf hx3) hfj))
 ·refine h2 a w (.inl rfl) (Ext.refl w) K (fun vj w2 hx hf=>hK _ _ (low (Ext.refl w) hx) ?_)
  refine onlyX i oi hi hrj (by simp only[List.length_cons];omega) (wi _) (fun K hK=>?_)
  refine h1 _ w2 (.inr ⟨vj,rfl⟩) hx K (fun vi w3 hx3 hfi=>hK _ _ (low hx hx3) ?_)
  have hm:marked ops.size (i::j::done)=marked ops.size (j::i::done):=by
   rw[marked_cons,marked_cons,marked_cons,marked_cons]
   exact Array.setIfInBounds_comm _ _ (Ne.symm hij)
  refine At.perm hm rfl ?_
  rw[put_comm a (Ne.symm hd)]
  exact h vi vj w3 (hx.trans hx3) hfi (sj _ _ _ hf hx3)
theorem tx (hR:Rl R) (i:Nat) {oi:Oper} {v:Value} {done:List Nat} {a:Act} {w:World} (h:At P ops Q R (i::done) (a.put oi.dst v) w) (hi:ops[i]?=some oi:=by rfl)
  (hs:Region.noSelect ops=true:=by kernel_rfl) (hf:Region.free .any ops (marked ops.size done) i=true:=by kernel_rfl) (hr:(Region.ready .any ops (marked ops.size done)).contains i=true:=by kernel_rfl) (hn:done.length<ops.size:=by decide)
  (hQ:∀c a w,Q (.panic c) (a.put oi.dst v) w→Q (.panic c) a w:=by intro c a w h;first|exact h|solve_by_elim) (hw:Region.wanted oi (yielded ops a.tmps)=true:=by rfl)
  (hy:∀w',R w w'→(execOp a.eval oi).run P w'=.ok (.value v) w':=by intro W hW;go_simp;with_reducible rfl):At P ops Q R done a w:=
 takeX hR i oi v hi hs hf hr hn hQ hw hy h
theorem un (hR:Rl R) {oi:Oper} {v:Value} {done:List Nat} {a:Act} {w:World} (h:At P ops Q R (done.length::done) (a.put oi.dst v) w) (hi:ops[done.length]?=some oi:=by rfl)
  (hs:Region.noSelect ops=true:=by kernel_rfl) (hf:Region.free .any ops (marked ops.size done) done.length=true:=by kernel_rfl) (hr:(Region.ready .any ops (marked ops.size done)).contains done.length=true:=by kernel_rfl) (hn:done.length<ops.size:=by decide)
  (hQ:∀c a w,Q (.panic c) (a.put oi.dst v) w→Q (.panic c) a w:=by intro c a w h;first|exact h|solve_by_elim) (hw:Region.wanted oi (yielded ops a.tmps)=true:=by rfl)
  (hy:∀w',R w w'→(execOp a.eval oi).run P w'=.ok (.value v) w':=by intro W hW;go_simp;with_reducible rfl):At P ops Q R done a w:=
 takeX hR _ oi v hi hs hf hr hn hQ hw hy h
theorem vn (hR:Rl R) {oi:Oper} {done:List Nat} {a:Act} {w:World} (h:At P ops Q R (done.length::done) (a.put oi.dst undef) w) (hi:ops[done.length]?=some oi:=by rfl)
  (hs:Region.noSelect ops=true:=by kernel_rfl) (hf:Region.free .any ops (marked ops.size done) done.length=true:=by kernel_rfl) (hr:(Region.ready .any ops (marked ops.size done)).contains done.length=true:=by kernel_rfl) (hn:done.length<ops.size:=by decide)
  (hQ:∀c a w,Q (.panic c) (a.put oi.dst undef) w→Q (.panic c) a w:=by intro c a w h;first|exact h|solve_by_elim) (hw:Region.wanted oi (yielded ops a.tmps)=false:=by rfl):At P ops Q R done a w:=
 skipX hR _ oi hi hs hf hr hn hQ hw h
end
def ons (ops:Array Oper) (j:Nat):List Nat:=match ops[j]? with
 | none=>[]
 | some oj=>(oj.after.toList.filter fun e=>Region.binds .any e).map fun e=>e.on
def addNew (s:List Nat):List Nat→List Nat
 | []=>s
 | x::l=>if s.contains x then addNew s l else addNew (x::s) l
def reachN (ops:Array Oper):Nat→List Nat→List Nat
 | 0,s=>s
 | n+1,s=>reachN ops n (addNew s (s.flatMap (ons ops)))
def soleC (ops:Array Oper) (j:Nat):Bool:=(List.range ops.size).all fun k=>k == j || (reachN ops 14 (ons ops j)).contains k
theorem addNew_mem {p:Nat→Prop}:∀(l s:List Nat),(∀x∈s,p x)→(∀x∈l,p x)→∀x∈addNew s l,p x
 | [],s,h,_=>h
 | y::l,s,h,h2=>by
  rw[addNew]
  split
  ·exact addNew_mem l s h (fun x hx=>h2 x (List.mem_cons_of_mem _ hx))
  ·exact addNew_mem l (y::s) (fun x hx=>by
    rcases List.mem_cons.1 hx with rfl|hx
    ·exact h2 x List.mem_cons_self
    ·exact h x hx) (fun x hx=>h2 x (List.mem_cons_of_mem _ hx))
theorem ons_mem {ops:Array Oper} {j x:Nat} (h:x∈ons ops j):∃oj e,ops[j]?=some oj∧e∈oj.after∧Region.binds .any e=true∧e.on=x:=by
 unfold ons at h
 cases hj:ops[j]? with
 | none=>simp[hj] at h
 | some oj=>
  simp only[hj,List.mem_map,List.mem_filter] at h
  obtain⟨e,⟨h1,h2⟩,h3⟩:=h
  exact⟨oj,e,rfl,by simpa using h1,h2,h3⟩
theorem reachN_mem {ops:Array Oper} {listed:Array Bool} (hc:Closed ops listed):∀(n:Nat) (s:List Nat),(∀x∈s,listed.getD x false=true)→∀x∈reachN ops n s,listed.getD x false=true
 | 0,s,h=>h
 | n+1,s,h=>by
  rw[reachN]
  refine reachN_mem hc n _ (addNew_mem _ _ h (fun x hx=>?_))
  obtain⟨k,hk,hx⟩:=List.mem_flatMap.1 hx
  obtain⟨ok,e,h1,h2,h3,rfl⟩:=ons_mem hx
  exact hc k ok h1 (h k hk) e h2 h3
theorem sole_ofC {ops:Array Oper} {j:Nat} (h:soleC ops j=true):Sole ops j:=by
 intro listed i hc hj hi
 obtain⟨_,oj,hoj,hall⟩:=mem_ready.1 hj
 obtain⟨hun,oi,hoi,_⟩:=mem_ready.1 hi
 unfold soleC at h
 simp only[List.all_eq_true,List.mem_range] at h
 have h1:=h i (Array.getElem?_eq_some_iff.1 hoi).1
 simp only[Bool.or_eq_true,beq_iff_eq] at h1
 rcases h1 with h1|h1
 ·exact h1
 ·have h2:=reachN_mem hc 14 (ons ops j) (fun x hx=>by
   obtain⟨ok,e,q1,q2,q3,rfl⟩:=ons_mem hx
   rw[hoj] at q1;cases q1
   exact hall e q2 q3) i (by simpa using h1)
  rcases Nat.lt_or_ge i listed.size with h'|h'
  ·simp[h'] at h2 hun;rw[hun] at h2;cases h2
  ·simp[Array.getElem?_eq_none h'] at h2
section
variable {P:Program} {ops:Array Oper} {Q:Exit→Act→World→Prop} {R:World→World→Prop}
theorem lastD (i:Nat) (oi:Oper) {done:List Nat} {a:Act} {w:World} (hi:ops[i]?=some oi)
  (hr:Region.ready .any ops (marked ops.size done)=[i]) (hr2:Region.ready .any ops (marked ops.size (i::done))=[]) (hs:soleC ops i=true) (hn:done.length<ops.size) (hw:Region.wanted oi (yielded ops a.tmps)=true)
  (h:∀w',R w w'→∀K:Act→World→Prop,Shut (∀a' w'',Q .normal a' w''→K a' w'')→oi.wp P a w' K Q):St P ops Q R done a w:=by
 intro hcl w' hw'
 have e:ops.size-done.length=(ops.size-(i::done).length)+1:=by simp only[List.length_cons];omega
 rw[e]
 refine⟨fun h0=>(by rw[h0] at hr;cases hr),fun j hj=>?_⟩
 rw[hr] at hj
 obtain rfl:j=i:=by simpa using hj
 unfold wpOp
 simp only[hi,hw,if_true]
 refine .inl (h w' hw' _ (fun a' w'' hq=>⟨.inr (sole_ofC hs),?_⟩))
 cases hk:ops.size-(j::done).length with
 | zero=>exact⟨hr2,hq⟩
 | succ k=>exact⟨fun _=>hq,by rw[←marked_cons,hr2];simp⟩
theorem lastXD (i:Nat) (oi:Oper) {done:List Nat} {a:Act} {w:World} (hi:ops[i]?=some oi)
  (hr:Region.ready .any ops (marked ops.size done)=[i]) (hr2:Region.ready .any ops (marked ops.size (i::done))=[]) (hs:soleC ops i=true) (hn:done.length<ops.size) (hw:Region.wanted oi (yielded ops a.tmps)=true)
  (h:∀K:Act→World→Prop,Shut (∀a' w'',Q .normal a' w''→K a' w'')→oi.wp P a w K Q):At P ops Q R done a w:=by
 intro hcl
 have e:ops.size-done.length=(ops.size-(i::done).length)+1:=by simp only[List.length_cons];omega
 rw[e]
 refine⟨fun h0=>(by rw[h0] at hr;cases hr),fun j hj=>?_⟩
 rw[hr] at hj
 obtain rfl:j=i:=by simpa using hj
 unfold wpOp
 simp only[hi,hw,if_true]
 refine .inl (h _ (fun a' w'' hq=>⟨.inr (sole_ofC hs),?_⟩))
 cases hk:ops.size-(j::done).length with
 | zero=>exact⟨hr2,hq⟩
 | succ k=>exact⟨fun _=>hq,by rw[←marked_cons,hr2];simp⟩
end
end Reg
namespace Pr
open Go.ChangeShapes Go.WideShapes Go.ChangeAt Go.RowKit
open Base Lx Mi
theorem wtyp_go {ns:List Ne} {f:Nat} {n:Int} {st:WSt} (h:¬wstop ns (f+1) n st):wtyp ns (f+1) n st=if n<st.next then { (st.put (bs (ns.getD n.toNat neD).name)) with bad:=decide ((ns.getD n.toNat neD).k<9) } else wbody (wtyp ns f) (ns.getD n.toNat neD) { st with next:=st.next+1 }:=by rw[wtyp,if_neg h]
theorem wtyp_stop {ns:List Ne} {f:Nat} {n:Int} {st:WSt} (h:wstop ns f n st):wtyp ns f n st={ st with bad:=true }:=by
 cases f with
 | zero=>rfl
 | succ f=>rw[wtyp,if_pos h]
theorem getD_words (k:Nat) (hk:k<6):∃t,wordsL[k]?=some t∧wordsL.getD k ⟨#[]⟩=t∧t.size≤5:=by
 rcases k with _|_|_|_|_|_|k
 ·exact⟨_,rfl,rfl,by decide⟩
 ·exact⟨_,rfl,rfl,by decide⟩
 ·exact⟨_,rfl,rfl,by decide⟩
 ·exact⟨_,rfl,rfl,by decide⟩
 ·exact⟨_,rfl,rfl,by decide⟩
 ·exact⟨_,rfl,rfl,by decide⟩
 ·omega
theorem wtyped_ref {B m f deep j:Nat} {no:Value} {ns:List Ne} (hdf:deep+(f+1)=20) (st:WSt) (w:World) (h:WInv B w m no st) (hS:En B w no ns) (hj:j<ns.length) (hbad:st.bad=false) (h46:¬4096<st.s.length) (hjn:j<st.next)
  (hL:((st.put (bs (ns.getD j neD).name))).s.length≤100000000) :
  Calls Tryz.prog 94 #[.pointer (some ⟨m,0,none⟩),.int .i64 (j:Int),.int .i64 (deep:Int)] w fun e w'=>e=.returned (.tuple #[])∧WK B w w'∧WInv B w' m no { (st.put (bs (ns.getD j neD).name)) with bad:=decide ((ns.getD j neD).k<9) }:=by
 obtain⟨v,b,off,c,rfl,hbB,hsub,hnc,hcm,hcell⟩:=hS.sch.node j hj
 have hd20:¬(20:Int)≤(deep:Int):=by omega
 obtain⟨d,hd⟩:∃z,z=ns.getD j neD:=⟨_,rfl⟩
 rw[←hd] at hsub hcell
 obtain⟨k,name,size,syms,items,fields⟩:=d
 obtain⟨va,vb,vc⟩:=v
 have hSy:Sl B w va syms.length (txs syms):=hsub.syms
 have hSi:Sl B w vb items.length (intsZ items):=hsub.items
 have hSf:Sl B w vc fields.length (fldsZ fields):=hsub.fields
 have hrng : -9223372036854775808≤size∧size≤9223372036854775807:=hsub.rng
 obtain⟨As,cs,rfl,hs1⟩:=id hSy
 obtain⟨Ai,ci,rfl,hs2⟩:=id hSi
 obtain⟨Af,cf,rfl,hs3⟩:=id hSf
 clear hs1 hs2 hs3
 obtain⟨ny,hny⟩:∃z,Hid (syms.length=z):=⟨_,rfl⟩
 obtain⟨ni,hni⟩:∃z,Hid (items.length=z):=⟨_,rfl⟩
 obtain⟨nf,hnf⟩:∃z,Hid (fields.length=z):=⟨_,rfl⟩
 rw[hny.out] at hSy hsub hcell
 rw[hni.out] at hSi hsub hcell
 rw[hnf.out] at hSf hsub hcell
 have hlow:∀W',WK B w W'→∀i,i<6→W'.cell? ⟨b,off+(j*6+i),none⟩=(neC ⟨k,name,size,syms,items,fields⟩ (.slice As ny cs,.slice Ai ni ci,.slice Af nf cf))[i]?:=fun W' hW' i hi=>(Below.cell hW'.below (p:=⟨b,off+(j*6+i),none⟩) hbB).trans (hcell i hi)
 have k0:w.cell? ⟨b,off+j*6,none⟩=some (.int .i64 k):=by have:=hcell 0 (by omega);simpa [neC] using this
 have k1:w.cell? ⟨b,off+j*6+1,none⟩=some (.string name):=by have:=hcell 1 (by omega);simpa [neC,Nat.add_assoc] using this
 have k2:w.cell? ⟨b,off+j*6+2,none⟩=some (.int .i64 size):=by have:=hcell 2 (by omega);simpa [neC,Nat.add_assoc] using this
 have k3:w.cell? ⟨b,off+j*6+3,none⟩=some (.slice As ny cs):=by have:=hcell 3 (by omega);simpa [neC,Nat.add_assoc] using this
 have k4:w.cell? ⟨b,off+j*6+4,none⟩=some (.slice Ai ni ci):=by have:=hcell 4 (by omega);simpa [neC,Nat.add_assoc] using this
 have k5:w.cell? ⟨b,off+j*6+5,none⟩=some (.slice Af nf cf):=by have:=hcell 5 (by omega);simpa [neC,Nat.add_assoc] using this
 obtain⟨c2,c3,c4,f3,f4⟩:=h.cells
 have hlen:=wlen_any h
 have hBw:=h.size
 obtain⟨ln,hln⟩:∃z,Hid (ns.length=z):=⟨_,rfl⟩
 rw[hln.out] at c2 hj
 have hjI:(j:Int)<(ln:Int):=by omega
 have hjN:¬(ln:Int)≤(j:Int):=by omega
 have hj0:¬(j:Int)<0:=by omega
 obtain⟨sl,hsl⟩:∃z,Hid (st.s.length=z):=⟨_,rfl⟩
 rw[hsl.out] at hlen h46
 have h46I:¬(4096:Int)<(sl:Int):=by omega
 rw[hbad] at c4
 obtain⟨q,hq⟩:∃z,Hid (w.heap.size=z):=⟨_,rfl⟩
 obtain⟨w1,hw1⟩:∃z,Hid (w.alloc (.cells #[.int .i64 k,.string name,.int .i64 size,.slice As ny cs,.slice Ai ni ci,.slice Af nf cf] 47)=z):=⟨_,rfl⟩
 have hx1:Ext w w1:=by rw[←hw1.out];exact (Ext.refl w).alloc _
 have hbq1:Blk w1 q #[.int .i64 k,.string name,.int .i64 size,.slice As ny cs,.slice Ai ni ci,.slice Af nf cf] 47:=by rw[←hw1.out,←hq.out];exact Blk.new w _ _
 have hBq:B≤q:=by rw[←hq.out];exact h.size
 have h1:=h.ext hx1
 obtain⟨c2',c3',c4',f3',f4'⟩:=h1.cells
 rw[hbad] at c4'
 rw[←hd] at hL ⊢
 simp only at hL ⊢
 rw[WSt.put_len,bs_size] at hL
 obtain⟨nx,hnx⟩:∃z,Hid (st.next=z):=⟨_,rfl⟩
 rw[hnx.out] at c3 c3' hjn
 have hjnI:(j:Int)<(nx:Int):=by omega
 have hjnN:¬(nx:Int)<(j:Int):=by omega
 have q0:w1.cell? ⟨q,0,none⟩=some (.int .i64 k):=hbq1.cell 0
 obtain⟨bk,hbk⟩:∃z,Hid (decide (k<9)=z):=⟨_,rfl⟩
 have hkb:(decide (k<9))=bk:=hbk.out
 obtain⟨hk2,hi2⟩:=h1.setBad bk
 obtain⟨w2,hw2⟩:∃z,Hid (w1.setCell ⟨m,4,none⟩ (.bool bk)=z):=⟨_,rfl⟩
 rw[hw2.out] at hk2 hi2
 have hbq2:=hk2.keep q _ _ hbq1 (by decide) (by decide)
 have e1:∀W',Ext w2 W'→W'.cell? ⟨q,1,none⟩=some (.string name):=fun W' hW'=>(hbq2.ext hW').cell 1
 rw[hbk.out]
 rw[←hw1.out] at c3' c4' f3' f4'
 rw[←hw1.out,←hq.out] at q0
 clear hS hsub hcell hlow hbad hbk
 go_enter Tryz.func94,Tryz.ntmps94
 go_wp2_with fail
 refine hlen.mono ?_
 rintro e w0 ⟨rfl,rfl⟩
 go_wp2_with fail
 rw[hw1.out,hq.out,hw2.out]
 refine Reg.startE (by kernel_rfl) ?_
 iterate 5 ((first|refine Reg.tn ?_|refine Reg.sn ?_);(try simp only[Reg.nn]))
 refine Reg.last 5 _ rfl (by kernel_rfl) (by kernel_rfl) (by kernel_rfl) (by decide) (by rfl) (fun W hW K hK=>?_)
 have hwo:=wstr_any name (hi2.ext hW) hL
 go_simp
 refine hwo.mono ?_
 rintro e w3 ⟨rfl,hb3,h3⟩
 refine hK.out _ _ ?_;clear hK K;(try simp only[Reg.nn])
 have hkF:WK B w w3:=(((WK.ofExt hx1 hBw).trans hk2).trans (WK.ofExt hW (hi2.size))).trans hb3
 go_wp2_with fail
 refine bodyPost_ret (results_none rfl _ _ _) rfl ?_
 exact⟨rfl,hkF,h3⟩
set_option maxHeartbeats 2000000 in
theorem wtyped_newA {B m f deep j:Nat} {no:Value} {ns:List Ne} (hdf:deep+(f+1)=20) (H:WTypC B m no ns f (deep+1)) (st:WSt) (w:World) (h:WInv B w m no st) (hS:En B w no ns) (hj:j<ns.length) (hbad:st.bad=false) (h46:¬4096<st.s.length) (hjn:j=st.next)
  (hkk:(ns.getD j neD).k=6∨(ns.getD j neD).k=7∨(ns.getD j neD).k=8∨(ns.getD j neD).k=9)
  (hL:(wbody (wtyp ns f) (ns.getD j neD) { st with next:=st.next+1 }).s.length≤100000000) :
  Calls Tryz.prog 94 #[.pointer (some ⟨m,0,none⟩),.int .i64 (j:Int),.int .i64 (deep:Int)] w fun e w'=>e=.returned (.tuple #[])∧WK B w w'∧WInv B w' m no (wbody (wtyp ns f) (ns.getD j neD) { st with next:=st.next+1 }):=by
 obtain⟨v,b,off,c,rfl,hbB,hsub,hnc,hcm,hcell⟩:=hS.sch.node j hj
 have hd20:¬(20:Int)≤(deep:Int):=by omega
 obtain⟨d,hd⟩:∃z,z=ns.getD j neD:=⟨_,rfl⟩
 rw[←hd] at hsub hcell
 obtain⟨k,name,size,syms,items,fields⟩:=d
 obtain⟨va,vb,vc⟩:=v
 have hSy:Sl B w va syms.length (txs syms):=hsub.syms
 have hSi:Sl B w vb items.length (intsZ items):=hsub.items
 have hSf:Sl B w vc fields.length (fldsZ fields):=hsub.fields
 have hrng : -9223372036854775808≤size∧size≤9223372036854775807:=hsub.rng
 obtain⟨As,cs,rfl,hs1⟩:=id hSy
 obtain⟨Ai,ci,rfl,hs2⟩:=id hSi
 obtain⟨Af,cf,rfl,hs3⟩:=id hSf
 clear hs1 hs2 hs3
 obtain⟨ny,hny⟩:∃z,Hid (syms.length=z):=⟨_,rfl⟩
 obtain⟨ni,hni⟩:∃z,Hid (items.length=z):=⟨_,rfl⟩
 obtain⟨nf,hnf⟩:∃z,Hid (fields.length=z):=⟨_,rfl⟩
 rw[hny.out] at hSy hsub hcell
 rw[hni.out] at hSi hsub hcell
 rw[hnf.out] at hSf hsub hcell
 have hlow:∀W',WK B w W'→∀i,i<6→W'.cell? ⟨b,off+(j*6+i),none⟩=(neC ⟨k,name,size,syms,items,fields⟩ (.slice As ny cs,.slice Ai ni ci,.slice Af nf cf))[i]?:=fun W' hW' i hi=>(Below.cell hW'.below (p:=⟨b,off+(j*6+i),none⟩) hbB).trans (hcell i hi)
 have k0:w.cell? ⟨b,off+j*6,none⟩=some (.int .i64 k):=by have:=hcell 0 (by omega);simpa [neC] using this
 have k1:w.cell? ⟨b,off+j*6+1,none⟩=some (.string name):=by have:=hcell 1 (by omega);simpa [neC,Nat.add_assoc] using this
 have k2:w.cell? ⟨b,off+j*6+2,none⟩=some (.int .i64 size):=by have:=hcell 2 (by omega);simpa [neC,Nat.add_assoc] using this
 have k3:w.cell? ⟨b,off+j*6+3,none⟩=some (.slice As ny cs):=by have:=hcell 3 (by omega);simpa [neC,Nat.add_assoc] using this
 have k4:w.cell? ⟨b,off+j*6+4,none⟩=some (.slice Ai ni ci):=by have:=hcell 4 (by omega);simpa [neC,Nat.add_assoc] using this
 have k5:w.cell? ⟨b,off+j*6+5,none⟩=some (.slice Af nf cf):=by have:=hcell 5 (by omega);simpa [neC,Nat.add_assoc] using this
 obtain⟨c2,c3,c4,f3,f4⟩:=h.cells
 have hlen:=wlen_any h
 have hBw:=h.size
 obtain⟨ln,hln⟩:∃z,Hid (ns.length=z):=⟨_,rfl⟩
 rw[hln.out] at c2 hj
 have hjI:(j:Int)<(ln:Int):=by omega
 have hjN:¬(ln:Int)≤(j:Int):=by omega
 have hj0:¬(j:Int)<0:=by omega
 obtain⟨sl,hsl⟩:∃z,Hid (st.s.length=z):=⟨_,rfl⟩
 rw[hsl.out] at hlen h46
 have h46I:¬(4096:Int)<(sl:Int):=by omega
 rw[hbad] at c4
 obtain⟨q,hq⟩:∃z,Hid (w.heap.size=z):=⟨_,rfl⟩
 obtain⟨w1,hw1⟩:∃z,Hid (w.alloc (.cells #[.int .i64 k,.string name,.int .i64 size,.slice As ny cs,.slice Ai ni ci,.slice Af nf cf] 47)=z):=⟨_,rfl⟩
 have hx1:Ext w w1:=by rw[←hw1.out];exact (Ext.refl w).alloc _
 have hbq1:Blk w1 q #[.int .i64 k,.string name,.int .i64 size,.slice As ny cs,.slice Ai ni ci,.slice Af nf cf] 47:=by rw[←hw1.out,←hq.out];exact Blk.new w _ _
 have hBq:B≤q:=by rw[←hq.out];exact h.size
 have h1:=h.ext hx1
 obtain⟨c2',c3',c4',f3',f4'⟩:=h1.cells
 rw[hbad] at c4'
 rw[←hd] at hL hkk ⊢
 clear hd
 replace hkk:=Lib.hid hkk
 have hjn':st.next=j:=hjn.symm
 have hjnI:¬(j:Int)<(j:Int):=by omega
 have hwr:IntKind.i64.wrap ((j:Int)+1)=(j:Int)+1:=by rw[IntKind.wrap_i64];have:=hln.out;unfold maxLen at hcm;omega
 rw[hjn'] at c3 c3'
 have q0:w1.cell? ⟨q,0,none⟩=some (.int .i64 k):=hbq1.cell 0
 obtain⟨hk2,hi2⟩:=h1.setNext (st.next+1)
 obtain⟨w2,hw2⟩:∃z,Hid (w1.setCell ⟨m,3,none⟩ (.int .i64 ((j:Int)+1))=z):=⟨_,rfl⟩
 rw[hjn',show ((j+1:Nat):Int)=(j:Int)+1 by omega,hw2.out] at hk2
 rw[hjn',show ((j+1:Nat):Int)=(j:Int)+1 by omega,hw2.out] at hi2
 rw[hjn'] at hL ⊢
 have hbq2:=hk2.keep q _ _ hbq1 (by decide) (by decide)
 have hkA:WK B w w2:=(WK.ofExt hx1 hBw).trans hk2
 have hS2:=hS.below hkA.below
 have hSi2:=hSi.below hkA.below
 have hSy2:=hSy.below hkA.below
 have hSf2:=hSf.below hkA.below
 have qq:∀W',Ext w2 W'→∀i,W'.cell? ⟨q,i,none⟩ = #[.int .i64 k,.string name,.int .i64 size,.slice As ny cs,.slice Ai ni ci,.slice Af nf cf][i]?:=fun W' hW' i=>(hbq2.ext hW').cell i
 have r0:w2.cell? ⟨q,0,none⟩=some (.int .i64 k):=qq w2 (Ext.refl _) 0
 have r1:w2.cell? ⟨q,1,none⟩=some (.string name):=qq w2 (Ext.refl _) 1
 have r2:w2.cell? ⟨q,2,none⟩=some (.int .i64 size):=qq w2 (Ext.refl _) 2
 have r3:w2.cell? ⟨q,3,none⟩=some (.slice As ny cs):=qq w2 (Ext.refl _) 3
 have r4:w2.cell? ⟨q,4,none⟩=some (.slice Ai ni ci):=qq w2 (Ext.refl _) 4
 have r5:w2.cell? ⟨q,5,none⟩=some (.slice Af nf cf):=qq w2 (Ext.refl _) 5
 rw[←hw1.out] at c3' c4' f3' f4'
 rw[←hw2.out,←hw1.out,←hq.out] at r0 r1 r2 r3 r4 r5
 rw[←hw1.out,←hq.out] at q0
 have hb2:=hi2.size
 clear hS hSi hSy hSf hcell hlow hbad hjn hbq1 h1 hk2 c2' hj hBq
 obtain⟨PO,hPO⟩:∃PO:Ending→World→Prop,Hid ((fun e w'=>e=.returned (.tuple #[])∧WK B w w'∧WInv B w' m (.slice (some ⟨b,off,none⟩) ns.length c) (wbody (wtyp ns f) ⟨k,name,size,syms,items,fields⟩ { st with next:=j+1 }))=PO):=⟨_,rfl⟩
 rw[hPO.out]
 by_cases k6:k=6
 ·subst k6
  have hcall:=witems_any H (by omega) ⟨#[91]⟩ ⟨#[93]⟩ items _ _ w2 hi2 hS2 (by rw[hni.out];exact hSi2) hL
  go_enter Tryz.func94,Tryz.ntmps94
  go_wp2_with fail
  refine hlen.mono ?_
  rintro e w0 ⟨rfl,rfl⟩
  go_wp2_with fail
  rw[hw1.out,hw2.out]
  refine hcall.mono ?_
  rintro e w3 ⟨rfl,hk3,hi3⟩
  go_wp2_with fail
  go_end0
  rw[←hPO.out]
  exact⟨rfl,hkA.trans hk3,hi3⟩
 by_cases k7:k=7
 ·subst k7
  have hcall:=witems_any H (by omega) ⟨#[123]⟩ ⟨#[125]⟩ items _ _ w2 hi2 hS2 (by rw[hni.out];exact hSi2) hL
  go_enter Tryz.func94,Tryz.ntmps94
  go_wp2_with fail
  refine hlen.mono ?_
  rintro e w0 ⟨rfl,rfl⟩
  go_wp2_with fail
  rw[hw1.out,hw2.out]
  refine hcall.mono ?_
  rintro e w3 ⟨rfl,hk3,hi3⟩
  go_wp2_with fail
  go_end0
  rw[←hPO.out]
  exact⟨rfl,hkA.trans hk3,hi3⟩
 by_cases k8:k=8
 ·subst k8
  have hcall:=witems_any H (by omega) ⟨#[40]⟩ ⟨#[41]⟩ items _ _ w2 hi2 hS2 (by rw[hni.out];exact hSi2) hL
  go_enter Tryz.func94,Tryz.ntmps94
  go_wp2_with fail
  refine hlen.mono ?_
  rintro e w0 ⟨rfl,rfl⟩
  go_wp2_with fail
  rw[hw1.out,hw2.out]
  refine hcall.mono ?_
  rintro e w3 ⟨rfl,hk3,hi3⟩
  go_wp2_with fail
  go_end0
  rw[←hPO.out]
  exact⟨rfl,hkA.trans hk3,hi3⟩
 by_cases k9:k=9
 ·subst k9
  have hre:wbody (wtyp ns f) ⟨9,name,size,syms,items,fields⟩ { st with next:=j+1 }=({ st with next:=j+1 }:WSt).put (sEn++bs name++[60]++([44]:List UInt8).intercalate (syms.map bs)++[62]):=by
   rw[wbody,if_neg (by simp),if_neg (by simp),if_neg (by simp),if_pos rfl]
  rw[hre] at hL hPO
  rw[WSt.put_len] at hL
  obtain⟨J,hJ⟩:∃J:ByteArray,J=⟨(([44]:List UInt8).intercalate (syms.map bs)).toArray⟩:=⟨_,rfl⟩
  have hbJ:bs J=([44]:List UInt8).intercalate (syms.map bs):=by rw[hJ];rfl
  have hsJ:=bs_size J
  have hsn:=bs_size name
  rw[←hbJ] at hL hPO
  simp only[List.length_append,hsJ,hsn,List.length_cons,List.length_nil,sEn] at hL
  have hjo:=fun W' (hW':Ext w2 W')=>join_any syms (B:=B) (w:=W') (by rw[hny.out];exact hSy2.below (Below.mono hW' hb2)) (Nat.le_trans hb2 hW'.size) (by rw[←hbJ,hsJ];omega)
  rw[←hJ] at hjo
  have hz1:¬9223372036854775807<5+name.size:=by omega
  have hz2:¬9223372036854775807<5+name.size+1:=by omega
  have hz3:¬9223372036854775807<5+name.size+1+J.size:=by omega
  have hz4:¬9223372036854775807<5+name.size+1+J.size+1:=by omega
  have s1:∀W',Ext w2 W'→W'.cell? ⟨q,1,none⟩=some (.string name):=fun W' hW'=>qq W' hW' 1
  have s3:∀W',Ext w2 W'→W'.cell? ⟨q,3,none⟩=some (.slice As ny cs):=fun W' hW'=>qq W' hW' 3
  have hwo:=fun W' (hW':Ext w2 W')=>wstr_any (⟨#[101,110,117,109,32]⟩++name++⟨#[60]⟩++J++⟨#[62]⟩) (hi2.ext hW') (by
   have e1:=bs_size (⟨#[101,110,117,109,32]⟩++name++⟨#[60]⟩++J++⟨#[62]⟩)
   rw[bs_append,bs_append,bs_append,bs_append] at e1
   simp only[List.length_append,hsJ,hsn] at e1
   rw[←e1]
   show st.s.length+(5+name.size+1+J.size+1)≤_
   omega)
  rw[bs_append,bs_append,bs_append,bs_append] at hwo
  clear hJ hbJ hsJ hsn hre qq
  go_enter Tryz.func94,Tryz.ntmps94
  go_wp2_with fail
  refine hlen.mono ?_
  rintro e w0 ⟨rfl,rfl⟩
  go_wp2_with fail
  rw[hw1.out,hq.out,hw2.out]
  refine Reg.startE (by kernel_rfl) ?_
  iterate 9 ((first|refine Reg.tn ?_|refine Reg.sn ?_);(try simp only[Reg.nn]))
  refine Reg.onlyE 9 _ rfl (by kernel_rfl) (by decide) (by rfl) (fun W hW K hK=>?_);go_simp
  refine (hjo W hW).mono ?_
  rintro e wX ⟨rfl,hX⟩
  refine hK.out _ _ (hX) ?_;clear hK K;(try simp only[Reg.nn])
  iterate 2 ((first|refine Reg.tn ?_|refine Reg.sn ?_);(try simp only[Reg.nn]))
  refine Reg.lastD 12 _ rfl (by kernel_rfl) (by kernel_rfl) (by kernel_rfl) (by decide) (by rfl) (fun W hW K hK=>?_)
  have hwo:=hwo W ((by repeat (first|assumption|exact Ext.refl _|refine Ext.trans (by assumption) ?_|apply Ext.drew|apply Ext.drewN|apply Ext.alloc)))
  go_simp
  refine hwo.mono ?_
  rintro e w3 ⟨rfl,hb3,h3⟩
  have hkF:WK B w w3:=(hkA.trans (WK.ofExt ((by repeat (first|assumption|exact Ext.refl _|refine Ext.trans (by assumption) ?_|apply Ext.drew|apply Ext.drewN|apply Ext.alloc))) hb2)).trans hb3
  refine hK.out _ _ ?_;clear hK K;(try simp only[Reg.nn])
  go_wp2_with fail
  go_end0
  rw[←hPO.out]
  exact⟨rfl,hkF,h3⟩
 ·exfalso;have:=hkk.out;simp only at this;omega
end Pr
end Go.Proofs.YtllhhpcabncmiaaGreatDoor
