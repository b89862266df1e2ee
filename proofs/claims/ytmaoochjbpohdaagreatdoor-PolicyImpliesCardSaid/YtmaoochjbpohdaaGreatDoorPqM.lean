/- resolve: a relation of nodes in memory: walked. -/
import Derived.Test.YtmaoochjbpohdaaGreatDoorPqL
import Derived.Laws.IdiomCopy
import Derived.Deep.MidRow
import Derived.ChangeKeysEq
set_option linter.unusedVariables false
set_option linter.unusedSimpArgs false
set_option maxRecDepth 100000
set_option maxHeartbeats 1000000
namespace Go.Proofs.YtmaoochjbpohdaaGreatDoor
namespace Rv
open Go.ChangeShapes Go.WideShapes Go.ChangeAt Go.RowKit
open Base Lx Mi Pr Mp
theorem laidOut0:laidOutB Tryz.prog=true:=by kernel_rfl
theorem pairLaw:WideMaps.KeyLaw Tryz.prog 112:=deep_law_laid laidOut0 (m:=3) (by omega) (of_decide_eq_true (by kernel_rfl)) (by kernel_rfl) (by kernel_rfl)
theorem pair_has (i j:Int) (hi:I6 i) (hj:I6 j):∃l,keyOf Tryz.prog 112 (pv i j)=some l:=by
 have hu:=Tryz.underlying112
 have hn:=Tryz.underlying3
 have hs:Tryz.prog.types.size+1=(Tryz.prog.types.size-1)+1+1:=by
  have:0<Tryz.prog.types.size:=of_decide_eq_true (by kernel_rfl)
  omega
 have hc:Tryz.prog.cellsOf 112=2:=by kernel_rfl
 have hc1:Tryz.prog.cellsOf 3=1:=by kernel_rfl
 have w1:(Lit.int .i64 i).wf=true:=by simpa [Lit.wf,IntKind.min,IntKind.max,IntKind.signed,IntKind.bits] using (show -9223372036854775808≤i∧i≤9223372036854775807 from hi)
 have w2:(Lit.int .i64 j).wf=true:=by simpa [Lit.wf,IntKind.min,IntKind.max,IntKind.signed,IntKind.bits] using (show -9223372036854775808≤j∧j≤9223372036854775807 from hj)
 have kk:∀(m:Nat) (x:Int),(Lit.int .i64 x).wf=true→Tryz.prog.keyLits (m+1) 3 [.int .i64 x]=some [.int .i64 x]:=by
  intro m x hx
  unfold Program.keyLits
  rw[hn]
  simp[hx]
 have hl:Tryz.prog.keyLits (Tryz.prog.types.size+1) 112 [.int .i64 i,.int .i64 j]=some [.int .i64 i,.int .i64 j]:=by
  rw[hs]
  generalize Tryz.prog.types.size-1=m
  unfold Program.keyLits
  simp only[hu]
  rw[if_pos ⟨by rw[hc];rfl,by kernel_rfl⟩]
  simp only[List.mapM_cons,List.mapM_nil,hc1,List.drop_zero,List.drop_succ_cons,List.take_succ_cons,List.take_zero,kk m i w1,kk m j w2]
  rfl
 unfold keyOf
 rw[hu]
 simp only
 rw[if_pos (by rw[Bool.and_eq_true];exact⟨by kernel_rfl,by simp[pv,Value.formed,hu,hc]⟩)]
 show ∃l,Option.map (fun ls=>Lit.string (keyBytes ls)) (Tryz.prog.keyLits (Tryz.prog.types.size+1) 112 [.int .i64 i,.int .i64 j])=some l
 rw[hl]
 exact⟨_,rfl⟩
theorem bt:Bt Tryz.prog 108 112 4:=⟨Tryz.underlying108,pairLaw,Tryz.underlying4,fun w=>by kernel_rfl,pair_has⟩
structure RX (w:World) (bx bm n:Nat) (vr vw:Value) (N:Rel):Prop where
 blk:Blk w bx #[vr,vw,.map (some bm)] 110
 map:MapB Tryz.prog 112 4 w bm n N
theorem RX.ext {w w':World} {bx bm n:Nat} {vr vw:Value} {N:Rel} (h:RX w bx bm n vr vw N) (hx:Ext w w'):RX w' bx bm n vr vw N:=⟨h.blk.ext hx,h.map.ext hx⟩
theorem reads_any {w:World} {bx bm n:Nat} {vr vw:Value} {N:Rel} (h:RX w bx bm n vr vw N) {i j:Int} (hi:I6 i) (hj:I6 j) :
  Calls Tryz.prog 50 #[.pointer (some ⟨bx,0,none⟩),.int .i64 i,.int .i64 j] w fun en w'=>en=.returned (.bool (!N i j))∧Ext w w':=by
 have k2:=h.blk.cell 2
 simp only[List.getElem?_toArray,List.getElem?_cons_zero,List.getElem?_cons_succ] at k2
 have hlk:=h.map.look bt hi hj
 clear hi hj h
 go_enter Tryz.func50,Tryz.ntmps50
 go_wp2_with fail
 go_ret
 exact⟨rfl,Ext.refl w⟩
theorem prom_any (r t:Int) (w:World):Calls Tryz.prog 69 #[.int .i64 r,.int .i64 t] w fun en w'=>en=.returned (.bool (promP r t))∧Ext w w':=by
 obtain⟨PO,hPO⟩:∃PO:Ending→World→Prop,Hid ((fun en w'=>en=.returned (.bool (promP r t))∧Ext w w')=PO):=⟨_,Lib.hid rfl⟩
 have fin:∀b:Bool,promP r t=b→PO (.returned (.bool b)) w:=fun b h=>by rw[←hPO.out,h];exact⟨rfl,Ext.refl w⟩
 rw[hPO.out]
 unfold promP at fin
 by_cases h1:r<0
 ·have h2:=fin false (by simp;omega)
  clear fin
  go_enter Tryz.func69,Tryz.ntmps69
  go_wp2_with fail
  exact h2
 by_cases h2:t<0
 ·have h3:=fin false (by simp;omega)
  clear fin
  go_enter Tryz.func69,Tryz.ntmps69
  go_wp2_with fail
  exact h3
 by_cases h3:5<r
 ·have h4:=fin false (by simp;omega)
  clear fin
  go_enter Tryz.func69,Tryz.ntmps69
  go_wp2_with fail
  exact h4
 by_cases h4:5<t
 ·have h5:=fin false (by simp;omega)
  clear fin
  go_enter Tryz.func69,Tryz.ntmps69
  go_wp2_with fail
  exact h5
 by_cases h5:r=t
 ·have h6:=fin true (by simp;omega)
  clear fin
  go_enter Tryz.func69,Tryz.ntmps69
  go_wp2_with fail
  exact h6
 by_cases h6:r=3
 ·subst h6
  by_cases h7:t=2
  ·subst h7
   have h8:=fin true (by simp)
   clear fin
   go_enter Tryz.func69,Tryz.ntmps69
   go_wp2_with fail
   exact h8
  ·have h8:=fin false (by simp;omega)
   clear fin
   go_enter Tryz.func69,Tryz.ntmps69
   go_wp2_with fail
   exact h8
 by_cases h7:4≤r
 ·by_cases h8:4≤t
  ·have h9:=fin true (by simp;omega)
   clear fin
   go_enter Tryz.func69,Tryz.ntmps69
   go_wp2_with fail
   exact h9
  ·have h9:=fin false (by simp;omega)
   clear fin
   go_enter Tryz.func69,Tryz.ntmps69
   go_wp2_with fail
   exact h9
 ·have h9:=fin false (by simp;omega)
  clear fin
  go_enter Tryz.func69,Tryz.ntmps69
  go_wp2_with fail
  exact h9
section
variable {w:World} {bx bm n:Nat} {vr vw:Value} {N:Rel}
theorem hold1_any (h:RX w bx bm n vr vw N) {q1 q2:Addr} {r x:Int} (h1:w.cell? q1=some (.pointer (some ⟨bx,0,none⟩))) (h2:w.cell? q2=some (.int .i64 r)) (hr:I6 r) (hx:I6 x) :
  Calls Tryz.prog 96 #[.int .i64 x,.pointer (some q1),.pointer (some q2)] w fun en w'=>en=.returned (.bool (N r x))∧Ext w w':=by
 have hc:=reads_any h hr hx
 clear hr hx
 go_enter Tryz.func96,Tryz.ntmps96
 go_wp2_with fail
 refine hc.mono ?_
 rintro en w1 ⟨rfl,hx1⟩
 go_wp2_with fail
 go_ret
 exact⟨by simp,hx1⟩
theorem hold2_any (h:RX w bx bm n vr vw N) {q1 q2:Addr} {t x:Int} (h1:w.cell? q1=some (.pointer (some ⟨bx,0,none⟩))) (h2:w.cell? q2=some (.int .i64 t)) (hr:I6 t) (hx:I6 x) :
  Calls Tryz.prog 97 #[.int .i64 x,.pointer (some q1),.pointer (some q2)] w fun en w'=>en=.returned (.bool (!N x t))∧Ext w w':=by
 have hc:=reads_any h hx hr
 clear hr hx
 go_enter Tryz.func97,Tryz.ntmps97
 go_wp2_with fail
 refine hc.mono ?_
 rintro en w1 ⟨rfl,hx1⟩
 go_wp2_with fail
 go_ret
 exact⟨rfl,hx1⟩
end
theorem hold3_any {w:World} {q:Nat} {A:Option Addr} {m c:Nat} {l:List ByteArray} (s:ByteArray) (h3:w.cell? ⟨q,3,none⟩=some (.slice A m c)) (hr:Rd w A (txs l)) (hn:l.length=m) (hl:m≤100000) :
  Calls Tryz.prog 99 #[.string s,.pointer (some ⟨q,0,none⟩)] w fun en w'=>en=.returned (.bool (!(l.any fun y=>decide (y=s))))∧Ext w w':=by
 have hc:=contains_str A m c l s w hr hn hl
 obtain⟨b,hb⟩:∃z,Hid ((l.any fun y=>decide (y=s))=z):=⟨_,rfl⟩
 rw[hb.out] at hc ⊢
 clear hr hn hl
 go_enter Tryz.func99,Tryz.ntmps99
 go_wp2_with fail
 refine hc.mono ?_
 rintro en w1 ⟨rfl,rfl⟩
 go_wp2_with fail
 go_ret
 exact⟨rfl,Ext.refl _⟩
theorem field1_any (f:ByteArray×Bool×Int) (x:ByteArray) (q:Addr) (w:World) (hq:w.cell? q=some (.string x)) :
  Calls Tryz.prog 120 #[.agg (fldZ f).toArray,.pointer (some q)] w fun en w'=>en=.returned (.bool (decide (f.1=x)))∧Ext w w':=by
 obtain⟨y,b,t⟩:=f
 have hq2:(w.alloc (.cells #[.string y,.bool b,.int .i64 t] 38)).cell? q=some (.string x):=((Ext.refl w).alloc _).cell hq
 have hx2:Ext w (w.alloc (.cells #[.string y,.bool b,.int .i64 t] 38)):=(Ext.refl w).alloc _
 simp only[fldZ]
 by_cases he:y=x
 ·subst he
  rw[show decide (y=y)=true by simp]
  go_enter Tryz.func120,Tryz.ntmps120
  go_wp2_with fail
  go_ret
  exact⟨rfl,hx2⟩
 ·have hbq:=str_ne he
  rw[show decide (y=x)=false by simpa using he]
  go_enter Tryz.func120,Tryz.ntmps120
  go_wp2_with fail
  go_ret
  exact⟨rfl,hx2⟩
theorem all_false {α:Type} {l:List α} {p:α→Bool} {i:Nat} {x:α} (h:l[i]?=some x) (hp:p x=false):l.all p=false:=by
 rw[List.all_eq_false];exact⟨x,List.mem_of_getElem? h,by simp[hp]⟩
def FYes (R:Rel) (lb la:List Fd) (i:Nat):Prop:=∀(j:Nat) f,j<i→la[j]?=some f→fieldP R lb f=true
theorem fields_any {w:World} {bx bm n:Nat} {vr vw:Value} {N:Rel} (h:RX w bx bm n vr vw N) (k1 z1 k2 z2:Int) (n1 n2:ByteArray) (u1 u2 u3 u4:Value) (Af Bf:Option Addr) (na ca nb cb:Nat) (la lb:List Fd)
  (hra:Rd w Af (fldsZ la)) (hrb:Rd w Bf (fldsZ lb)) (hna:la.length=na) (hnb:lb.length=nb) (hla:na≤5000) (hlb:nb≤5000) (h6:∀f∈la,I6 f.2.2) (h7:∀f∈lb,I6 f.2.2) :
  Calls Tryz.prog 101 #[.pointer (some ⟨bx,0,none⟩),.agg #[.int .i64 k1,.string n1,.int .i64 z1,u1,u2,.slice Af na ca],.agg #[.int .i64 k2,.string n2,.int .i64 z2,u3,u4,.slice Bf nb cb]] w fun en w'=>en=.returned (.bool (la.all (fieldP (fun i k => !N i k) lb)))∧Ext w w':=by
 obtain⟨w1,hw1⟩:∃z,Hid (w.alloc (.cells #[.int .i64 k1,.string n1,.int .i64 z1,u1,u2,.slice Af na ca] 36)=z):=⟨_,rfl⟩
 obtain⟨w2,hw2⟩:∃z,Hid (w1.alloc (.cells #[.int .i64 k2,.string n2,.int .i64 z2,u3,u4,.slice Bf nb cb] 36)=z):=⟨_,rfl⟩
 have hx1:Ext w w1:=by rw[←hw1.out];exact (Ext.refl w).alloc _
 have hx12:Ext w1 w2:=by rw[←hw2.out];exact (Ext.refl w1).alloc _
 obtain⟨q4,hq4⟩:∃z,Hid (w.heap.size=z):=⟨_,rfl⟩
 obtain⟨q5,hq5⟩:∃z,Hid (w.heap.size+1=z):=⟨_,rfl⟩
 have hs1:w1.heap.size=w.heap.size+1:=by rw[←hw1.out];simp
 have b4:Blk w2 q4 #[.int .i64 k1,.string n1,.int .i64 z1,u1,u2,.slice Af na ca] 36:=by rw[←hq4.out];exact (by rw[←hw1.out];exact Blk.new w _ _:Blk w1 w.heap.size #[.int .i64 k1,.string n1,.int .i64 z1,u1,u2,.slice Af na ca] 36).ext hx12
 have b5:Blk w2 q5 #[.int .i64 k2,.string n2,.int .i64 z2,u3,u4,.slice Bf nb cb] 36:=by rw[←hq5.out,←hs1,←hw2.out];exact Blk.new w1 _ _
 have hx2:=hx1.trans hx12
 have Hna:=Lib.hid hna
 have Hnb:=Lib.hid hnb
 have hrx:=h.ext hx2
 replace hra:=Lib.hid (hra.ext hx2)
 replace hrb:=Lib.hid (hrb.ext hx2)
 clear hna hnb h hs1
 obtain⟨R,hR⟩:∃z,Hid ((fun i k => !N i k)=z):=⟨_,rfl⟩
 have hRN:∀i k,R i k = !N i k:=fun i k=>by rw[←hR.out]
 rw[hR.out]
 obtain⟨PO,hPO⟩:∃PO:Ending→World→Prop,Hid ((fun en w'=>en=.returned (.bool (la.all (fieldP R lb)))∧Ext w w')=PO):=⟨_,Lib.hid rfl⟩
 have fin:∀(b:Bool) W,Ext w W→la.all (fieldP R lb)=b→PO (.returned (.bool b)) W:=fun b W hW hb=>by rw[←hPO.out,hb];exact⟨rfl,hW⟩
 rw[hPO.out]
 replace fin:=Lib.hid fin
 replace h6:=Lib.hid h6
 replace h7:=Lib.hid h7
 have c4:=b4.cell 5
 simp only[List.getElem?_toArray,List.getElem?_cons_zero,List.getElem?_cons_succ] at c4
 go_enter Tryz.func101,Tryz.ntmps101
 go_wp2_with fail
 rw[hw1.out,hw2.out,hq5.out,hq4.out]
 go_loopw [8,9,13,14,15,16,17,18,19,20,21,22,23,24,25,26,27,28,29,30,31,32,33,34,35,36,37,38,39,40,41,42,43,44,45] (fun v8 v9 v13 v14 v15 v16 v17 v18 v19 v20 v21 v22 v23 v24 v25 v26 v27 v28 v29 v30 v31 v32 v33 v34 v35 v36 v37 v38 v39 v40 v41 v42 v43 v44 v45 wr=>∃i:Nat,i≤na∧v13=.int .i64 (i:Int)∧FYes R lb la i∧Ext w2 wr) (fun _ _ v13 _ _ _ _ _ _ _ _ _ _ _ _ _ _ _ _ _ _ _ _ _ _ _ _ _ _ _ _ _ _ _ _ _=>na-(intOf v13).toNat)
 case atStart=>exact⟨0,by omega,rfl,fun k f h=>by omega,Ext.refl w2⟩
 case round=>
  obtain⟨i,hi,rfl,h1,hx⟩:=hrel
  by_cases hin:i<na
  ·have hin':(i:Int)<(na:Int):=by omega
   obtain⟨f,hfe⟩:∃f,la[i]?=some f:=⟨_,List.getElem?_eq_getElem (by have:=Hna.out;omega)⟩
   obtain⟨b,off,rfl,d0,d1,d2⟩:=fldsZ_cell (hra.out.ext hx) i f hfe
   have Hfe:=Lib.hid hfe
   clear hfe
   have hf6:=h6.out f (List.mem_of_getElem? Hfe.out)
   obtain⟨fn,fh,ft⟩:=f
   simp only at d0 d1 d2 hf6
   replace hf6:=Lib.hid hf6
   have hx8:Ext wr (wr.alloc (.cells #[.string fn,.bool fh,.int .i64 ft] 38)):=(Ext.refl wr).alloc _
   have b8:Blk (wr.alloc (.cells #[.string fn,.bool fh,.int .i64 ft] 38)) wr.heap.size #[.string fn,.bool fh,.int .i64 ft] 38:=Blk.new wr _ _
   have c5:(wr.alloc (.cells #[.string fn,.bool fh,.int .i64 ft] 38)).cell? ⟨q5,5,none⟩=some (.slice Bf nb cb):=by
    have:=(b5.ext (hx.trans hx8)).cell 5
    simpa using this
   have hc:=idxFld_any (F:=120) ⟨wr.heap.size,0,none⟩ Bf cb lb (fun g=>decide (g.1=fn)) (wr.alloc (.cells #[.string fn,.bool fh,.int .i64 ft] 38)) (hrb.out.ext (hx.trans hx8)) nb Hnb.out (by omega) (fun _ _=>by kernel_rfl)
    (fun x _ W hW=>field1_any x fn _ W (hW.cell (b8.cell 0)))
   obtain⟨IX,hIX⟩:∃z,Hid (idxP (fun g:Fd=>decide (g.1=fn)) lb=z):=⟨_,rfl⟩
   rw[hIX.out] at hc
   have hge:=idxP_ge (fun g:Fd=>decide (g.1=fn)) lb
   rw[hIX.out] at hge
   replace b8:=Lib.hid b8
   replace hge:=Lib.hid hge
   go_wp2_with fail
   refine hc.mono ?_
   rintro en w9 ⟨rfl,hx9⟩
   clear hc d0 d1 d2 c5
   obtain⟨q8,hq8⟩:∃z,Hid (wr.heap.size=z):=⟨_,rfl⟩
   rw[hq8.out] at b8 ⊢
   have b9:=b8.out.ext hx9
   have hx29:Ext w2 w9:=hx.trans (hx8.trans hx9)
   clear b8 hx8 hx9
   by_cases hI:IX<0
   ·obtain rfl:IX = -1:=by have:=hge.out;omega
    have hfp:fieldP R lb (fn,fh,ft)=fh:=by unfold fieldP;rw[idxP_find_none (by rw[hIX.out];omega)]
    clear hI hge
    have e1:∀W,Ext w9 W→W.cell? ⟨q8,1,none⟩=some (.bool fh):=fun W hW=>by have:=(b9.ext hW).cell 1;simpa using this
    cases fh with
    | true=>
     go_wp2_with fail
     refine Reg.startE (by kernel_rfl) ?_
     iterate 24 ((first|refine Reg.tn ?_|refine Reg.sn ?_);(try simp only[Reg.nn]))
     refine Reg.fin (by kernel_rfl) (fun W hW=>?_)
     go_wp2_with fail
     go_roundw
     case rel=>
      refine⟨i+1,by omega,by go_num,?_,hx29.trans hW⟩
      intro j g hj hg
      rcases Nat.lt_or_ge j i with h|h
      ·exact h1 j g h hg
      ·obtain rfl:j=i:=by omega
       rw[Hfe.out] at hg
       injection hg with hg
       rw[←hg];exact hfp
     case measure=>simp[intOf]<;>omega
    | false=>
     have hno:la.all (fieldP R lb)=false:=all_false Hfe.out hfp
     go_wp2_with fail
     refine Reg.startE (by kernel_rfl) ?_
     iterate 24 ((first|refine Reg.tn ?_|refine Reg.sn ?_);(try simp only[Reg.nn]))
     refine Reg.fin (by kernel_rfl) (fun W hW=>?_)
     have hf:=fin.out false W (hx2.trans (hx29.trans hW)) hno
     go_wp2_with fail
     exact hf
   ·obtain⟨m,rfl⟩:∃m:Nat,IX=(m:Int):=⟨IX.toNat,by omega⟩
    obtain⟨g,hg1,hg2⟩:=idxP_find hIX.out
    have hfp:fieldP R lb (fn,fh,ft)=R ft g.2.2:=by unfold fieldP;rw[hg2]
    have hmb:m<nb:=by have:=(List.getElem?_eq_some_iff.1 hg1).1;have:=Hnb.out;omega
    obtain⟨bb,bo,rfl,_,_,g2⟩:=fldsZ_cell (hrb.out.ext hx29) m g hg1
    have hg6:=h7.out g (List.mem_of_getElem? hg1)
    obtain⟨gn,gh,gt⟩:=g
    simp only at g2 hfp hg6
    have hrd:=fun W (hW:Ext w9 W)=>reads_any (hrx.ext (hx29.trans hW)) hf6.out hg6
    rw[hRN] at hfp
    have hm0:¬(m:Int)<0:=hI
    have hm1:(0:Int)≤(m:Int):=by omega
    have hm2:(m:Int)<(nb:Int):=by omega
    clear hI hge hg1 hg2 hg6
    have hdm:decide ((m:Int)<0)=false:=decide_eq_false hm0
    have hdm2:decide ((m:Int)≥0)=true:=decide_eq_true hm1
    have e2:∀W,Ext w9 W→W.cell? ⟨q8,2,none⟩=some (.int .i64 ft):=fun W hW=>by have:=(b9.ext hW).cell 2;simpa using this
    have e5:∀W,Ext w9 W→W.cell? ⟨q5,5,none⟩=some (.slice (some ⟨bb,bo,none⟩) nb cb):=fun W hW=>by have:=(b5.ext (hx29.trans hW)).cell 5;simpa using this
    have eg:∀W,Ext w9 W→W.cell? ⟨bb,bo+m*3+2,none⟩=some (.int .i64 gt):=fun W hW=>hW.cell g2
    clear g2
    obtain⟨BB,hBB⟩:∃z,Hid (N ft gt=z):=⟨_,rfl⟩
    rw[hBB.out] at hfp
    simp only[hBB.out] at hrd
    replace hrd:=Lib.hid hrd
    cases BB with
    | false=>
     go_wp2_with fail
     refine Reg.startE (by kernel_rfl) ?_
     iterate 3 ((first|refine Reg.tn ?_|refine Reg.sn ?_);(try simp only[Reg.nn]))
     (try simp only[hdm])
     iterate 8 ((first|refine Reg.tn ?_|refine Reg.sn ?_);(try simp only[Reg.nn]))
     (try simp only[hdm2])
     iterate 9 ((first|refine Reg.tn ?_|refine Reg.sn ?_);(try simp only[Reg.nn]))
     refine Reg.onlyE 20 _ rfl (by kernel_rfl) (by decide) (by rfl) (fun W hW K hK=>?_);go_simp
     refine (hrd.out W hW).mono ?_
     rintro en wX ⟨rfl,hX9⟩
     have hq9:=hW.trans hX9
     refine hK.out _ _ (hX9) ?_;clear hK K;(try simp only[Reg.nn])
     iterate 3 ((first|refine Reg.tn ?_|refine Reg.sn ?_);(try simp only[Reg.nn]))
     refine Reg.fin (by kernel_rfl) (fun W hW=>?_)
     replace hW:=hq9.trans hW
     go_wp2_with fail
     go_roundw
     case rel=>
      refine⟨i+1,by omega,by go_num,?_,hx29.trans hW⟩
      intro j g hj hg
      rcases Nat.lt_or_ge j i with h|h
      ·exact h1 j g h hg
      ·obtain rfl:j=i:=by omega
       rw[Hfe.out] at hg
       injection hg with hg
       rw[←hg];exact hfp
     case measure=>simp[intOf]<;>omega
    | true=>
     have hno:la.all (fieldP R lb)=false:=all_false Hfe.out hfp
     go_wp2_with fail
     refine Reg.startE (by kernel_rfl) ?_
     iterate 3 ((first|refine Reg.tn ?_|refine Reg.sn ?_);(try simp only[Reg.nn]))
     (try simp only[hdm])
     iterate 8 ((first|refine Reg.tn ?_|refine Reg.sn ?_);(try simp only[Reg.nn]))
     (try simp only[hdm2])
     iterate 9 ((first|refine Reg.tn ?_|refine Reg.sn ?_);(try simp only[Reg.nn]))
     refine Reg.onlyE 20 _ rfl (by kernel_rfl) (by decide) (by rfl) (fun W hW K hK=>?_);go_simp
     refine (hrd.out W hW).mono ?_
     rintro en wX ⟨rfl,hX9⟩
     have hq9:=hW.trans hX9
     refine hK.out _ _ (hX9) ?_;clear hK K;(try simp only[Reg.nn])
     iterate 3 ((first|refine Reg.tn ?_|refine Reg.sn ?_);(try simp only[Reg.nn]))
     refine Reg.fin (by kernel_rfl) (fun W hW=>?_)
     replace hW:=hq9.trans hW
     have hf:=fin.out false W (hx2.trans (hx29.trans hW)) hno
     go_wp2_with fail
     exact hf
  ·obtain rfl:i=na:=by omega
   have hat:la.all (fieldP R lb)=true:=by
    rw[List.all_eq_true]
    intro f hf
    obtain⟨j,hj⟩:=List.getElem?_of_mem hf
    exact h1 j f (by have:=(List.getElem?_eq_some_iff.1 hj).1;have:=Hna.out;omega) hj
   have hf:=fin.out true wr (hx2.trans hx) hat
   clear hat
   go_wp2_with fail
   exact hf
end Rv
namespace Reg
open Base
section
variable {P:Program} {ops:Array Oper} {Q:Exit→Act→World→Prop}
theorem bothZ {B:Nat} (i j:Nat) (oi oj:Oper) {done:List Nat} {a:Act} {w:World} (hB:B≤w.heap.size) (hi:ops[i]?=some oi) (hj:ops[j]?=some oj) (hgi:oi.guard=none) (hgj:oj.guard=none) (hd:oi.dst≠oj.dst) (hij:i≠j)
  (hr:Region.ready .any ops (marked ops.size done)=[i,j]) (hri:Region.ready .any ops (marked ops.size (i::done))=[j]) (hrj:Region.ready .any ops (marked ops.size (j::done))=[i]) (hn:done.length+1<ops.size)
  (Fi Fj:Value→World→World→Prop)
  (h1:∀a' w1,(a'=a∨∃v,a'=a.put oj.dst v)→Ext w w1→∀K:Act→World→Prop,Shut (∀v w2,Ext w1 w2→Fi v w1 w2→K (a'.put oi.dst v) w2)→oi.wp P a' w1 K Q)
  (h2:∀a' w1,(a'=a∨∃v,a'=a.put oi.dst v)→Ext w w1→∀K:Act→World→Prop,Shut (∀v w2,Ext w1 w2→Fj v w1 w2→K (a'.put oj.dst v) w2)→oj.wp P a' w1 K Q)
  (h:∀vi vj x y X,Ext w X→Ext w x→Ext x y→Ext y X→(Fi vi x y∧Fj vj y X∨Fj vj x y∧Fi vi y X)→At P ops Q (Go.RowKit.Below B) (j::i::done) ((a.put oi.dst vi).put oj.dst vj) X):At P ops Q (Go.RowKit.Below B) done a w:=by
 have wi:∀t,Region.wanted oi t=true:=fun t=>by simp[Region.wanted,hgi]
 have wj:∀t,Region.wanted oj t=true:=fun t=>by simp[Region.wanted,hgj]
 have low:∀ {x y:World},Ext w x→Ext x y→Go.RowKit.Below B x y:=fun hx hy=>Go.RowKit.Below.mono hy (Nat.le_trans hB hx.size)
 refine bothX i j oi oj hi hj hr (by omega) (wi _) (wj _) (fun K hK=>?_) (fun K hK=>?_)
 ·refine h1 a w (.inl rfl) (Ext.refl w) K (fun vi w2 hx hf=>hK _ _ (low (Ext.refl w) hx) ?_)
  refine onlyX j oj hj hri (by simp only[List.length_cons];omega) (wj _) (fun K hK=>?_)
  exact h2 _ w2 (.inr ⟨vi,rfl⟩) hx K (fun vj w3 hx3 hfj=>hK _ _ (low hx hx3) (h vi vj w w2 w3 (hx.trans hx3) (Ext.refl w) hx hx3 (.inl ⟨hf,hfj⟩)))
 ·refine h2 a w (.inl rfl) (Ext.refl w) K (fun vj w2 hx hf=>hK _ _ (low (Ext.refl w) hx) ?_)
  refine onlyX i oi hi hrj (by simp only[List.length_cons];omega) (wi _) (fun K hK=>?_)
  refine h1 _ w2 (.inr ⟨vj,rfl⟩) hx K (fun vi w3 hx3 hfi=>hK _ _ (low hx hx3) ?_)
  have hm:marked ops.size (i::j::done)=marked ops.size (j::i::done):=by
   rw[marked_cons,marked_cons,marked_cons,marked_cons]
   exact Array.setIfInBounds_comm _ _ (Ne.symm hij)
  refine At.perm hm rfl ?_
  rw[put_comm a (Ne.symm hd)]
  exact h vi vj w w2 w3 (hx.trans hx3) (Ext.refl w) hx hx3 (.inr ⟨hf,hfi⟩)
end
end Reg
namespace Base
open Go.ChangeShapes Go.WideShapes Go.ChangeAt Go.RowKit
def setMany (d:Array Value):Nat→List Value→Array Value
 | _,[]=>d
 | o,v::r=>setMany (d.setIfInBounds o v) (o+1) r
theorem Blk_sets {g:Nat} {t:TypeId}:∀(vs:List Value) (o:Nat) (d:Array Value) (w:World),Blk w g d t→Blk (w.setCells g o vs) g (setMany d o vs) t
 | [],_,_,_,h=>h
 | v::r,o,d,w,h=>by
  rw[World.setCells,setMany]
  exact Blk_sets r (o+1) _ _ (h.set o v)
theorem Ext_sets {a:World} {g:Nat} (hg:a.heap.size≤g):∀(vs:List Value) (o:Nat) {w:World},Ext a w→Ext a (w.setCells g o vs)
 | [],_,_,h=>h
 | v::r,o,w,h=>by
  rw[World.setCells]
  exact Ext_sets hg r (o+1) (h.setCell hg v)
theorem Blk_far {g h:Nat} {t:TypeId} {d:Array Value} (hne:g≠h):∀(vs:List Value) (o:Nat) {w:World},Blk w g d t→Blk (w.setCells h o vs) g d t
 | [],_,_,b=>b
 | v::r,o,w,b=>by
  rw[World.setCells]
  exact Blk_far hne r (o+1) (b.far (p:=⟨h,o,none⟩) hne v)
end Base
namespace Rv
open Go.ChangeShapes Go.WideShapes Go.ChangeAt Go.RowKit
open Base Lx Mi Pr Mp
theorem below_ext' {B:Nat} {a b:World} (h:Go.RowKit.Below B a b) (hB:a.heap.size≤B):Ext a b:=h.mono hB
theorem hy_load' {P:Program} {f:Operand→Value} {oi:Oper} {w:World} (ty:TypeId) (x:Operand) (ho:oi.op=.load ty x) {p v:Value} (hx:f x=p) (h:(Instr.loadAt ty p).run P w=.ok v w):(execOp f oi).run P w=.ok (.value v) w:=by
 unfold execOp
 simp only[ho,hx,Sem.run_bind,h,Result.andThen_ok,Sem.run_pure]
def z6:Array Value := #[.int .i64 0,.string ByteArray.empty,.int .i64 0,.slice none 0 0,.slice none 0 0,.slice none 0 0]
def nc (k:Int) (nm:ByteArray) (sz:Int) (v1 v2 v3:Value):List Value:=[.int .i64 k,.string nm,.int .i64 sz,v1,v2,v3]
theorem nc_load {W:World} {b o:Nat} {cs:List Value} (hl:cs.length=6) (h:∀j,j<6→W.cell? ⟨b,o+j,none⟩=cs[j]?):(Instr.loadAt 36 (.pointer (some ⟨b,o,none⟩))).run Tryz.prog W=.ok (.agg cs.toArray) W:=
 run_loadAt_mid W b o 36 cs _ (fun j v hj=>by
  have hlt:=(List.getElem?_eq_some_iff.1 hj).1
  rw[h j (by omega),hj]) Tryz.underlying36 rfl (by rw[hl];kernel_rfl)
theorem nc_there {X:World} {q:Nat} (h:Blk X q z6 36) {cs:List Value} (hl:cs.length=6):X.there q 0 cs.toArray.size:=fun j hj=>by
 rw[List.size_toArray,hl] at hj
 rw[Nat.zero_add]
 exact⟨by rw[h.cell j,Array.getElem?_eq_getElem (by show j<6;exact hj)];rfl,h.frozen j⟩
theorem below_sets' {B:Nat} {a:World} {g:Nat} (hg:B≤g):∀(vs:List Value) (o:Nat) {w:World},Go.RowKit.Below B a w→Go.RowKit.Below B a (w.setCells g o vs)
 | [],_,_,h=>h
 | v::vs,o,w,h=>below_sets' hg vs (o+1) (Below.setCell h hg v)
theorem i6 {M:Nat} {t:Int} (h1:M≤5000) (h2:0≤t∧t<(M:Int)):I6 t:=⟨by omega,by omega⟩
set_option maxHeartbeats 3000000 in
theorem holds_any (a b:List Ne) (va vb:Value) {B:Nat} {w:World} {bx bm n:Nat} {N:Rel} (h:RX w bx bm n va vb N) (hSa:Sch B w va a) (hSb:Sch B w vb b) (hB:B≤w.heap.size) {i k:Nat} (hi:i<a.length) (hk:k<b.length) (hla:a.length≤5000) (hlb:b.length≤5000)
  (hwa:WE a.length (a.getD i neD)) (hwb:WE b.length (b.getD k neD)) :
  Calls Tryz.prog 71 #[.pointer (some ⟨bx,0,none⟩),.int .i64 (i:Int),.int .i64 (k:Int)] w fun en w'=>en=.returned (.bool (holdP (fun p q => !N p q) (a.getD i neD) (b.getD k neD) i k))∧Ext w w':=by
 obtain⟨ux,b1,o1,c1,rfl,_,hsx,hc1,hm1,hx1⟩:=hSa.node i hi
 obtain⟨uy,b2,o2,c2,rfl,_,hsy,hc2,hm2,hy1⟩:=hSb.node k hk
 obtain⟨na,hna⟩:∃z,Hid (a.length=z):=⟨_,rfl⟩
 obtain⟨nb,hnb⟩:∃z,Hid (b.length=z):=⟨_,rfl⟩
 rw[hna.out] at h hi hla hwa hc1
 rw[hnb.out] at h hk hlb hwb hc2
 generalize a.getD i neD=x at hsx hx1 hwa ⊢
 generalize b.getD k neD=y at hsy hy1 hwb ⊢
 have hi6:I6 (i:Int):=⟨by omega,by omega⟩
 have hk6:I6 (k:Int):=⟨by omega,by omega⟩
 clear hSa hSb
 obtain⟨xk,xn,xz,xs,xi,xf⟩:=x
 obtain⟨yk,yn,yz,ys,yi,yf⟩:=y
 obtain⟨u1,u2,u3⟩:=ux
 obtain⟨v1,v2,v3⟩:=uy
 obtain⟨A1,d1,e1,hr1,_,_,_,_⟩:=hsx.syms
 obtain⟨A2,d2,e2,hr2,_,_,_,_⟩:=hsx.items
 obtain⟨A3,d3,e3,hr3,_,_,_,_⟩:=hsx.fields
 obtain⟨B1,f1,g1,hq1,_,_,_,_⟩:=hsy.syms
 obtain⟨B2,f2,g2,hq2,_,_,_,_⟩:=hsy.items
 obtain⟨B3,f3,g3,hq3,_,_,_,_⟩:=hsy.fields
 simp only at e1 e2 e3 g1 g2 g3 hr1 hr2 hr3 hq1 hq2 hq3
 subst e1;subst e2;subst e3;subst g1;subst g2;subst g3
 clear hsx hsy
 obtain⟨nx1,hnx1⟩:∃z,Hid (xs.length=z):=⟨_,rfl⟩
 obtain⟨nx2,hnx2⟩:∃z,Hid (xi.length=z):=⟨_,rfl⟩
 obtain⟨nx3,hnx3⟩:∃z,Hid (xf.length=z):=⟨_,rfl⟩
 obtain⟨ny1,hny1⟩:∃z,Hid (ys.length=z):=⟨_,rfl⟩
 obtain⟨ny2,hny2⟩:∃z,Hid (yi.length=z):=⟨_,rfl⟩
 obtain⟨ny3,hny3⟩:∃z,Hid (yf.length=z):=⟨_,rfl⟩
 simp only[neC,hnx1.out,hnx2.out,hnx3.out] at hx1
 simp only[neC,hny1.out,hny2.out,hny3.out] at hy1
 have lnx:=hwa.ln
 have lny:=hwb.ln
 simp only[hnx1.out,hnx2.out,hnx3.out] at lnx
 simp only[hny1.out,hny2.out,hny3.out] at lny
 obtain⟨CX,hCX⟩:∃z:List Value,Hid ([.int .i64 xk,.string xn,.int .i64 xz,.slice A1 nx1 d1,.slice A2 nx2 d2,.slice A3 nx3 d3]=z):=⟨_,rfl⟩
 obtain⟨CY,hCY⟩:∃z:List Value,Hid ([.int .i64 yk,.string yn,.int .i64 yz,.slice B1 ny1 f1,.slice B2 ny2 f2,.slice B3 ny3 f3]=z):=⟨_,rfl⟩
 have lCX:CX.length=6:=by rw[←hCX.out];rfl
 have lCY:CY.length=6:=by rw[←hCY.out];rfl
 have oCX:∀v∈CX,v.oneCell'=true:=by rw[←hCX.out];simp[Value.oneCell']
 have oCY:∀v∈CY,v.oneCell'=true:=by rw[←hCY.out];simp[Value.oneCell']
 rw[hCX.out] at hx1
 rw[hCY.out] at hy1
 have ldx:∀W,Ext w W→(Instr.loadAt 36 (.pointer (some ⟨b1,o1+i*6,none⟩))).run Tryz.prog W=.ok (.agg CX.toArray) W:=fun W hW=>nc_load lCX (fun j hj=>by
  rw[Nat.add_assoc]
  have:=hx1 j hj
  rw[List.getElem?_eq_getElem (by omega)] at this ⊢
  exact hW.cell this)
 have ldy:∀W,Ext w W→(Instr.loadAt 36 (.pointer (some ⟨b2,o2+k*6,none⟩))).run Tryz.prog W=.ok (.agg CY.toArray) W:=fun W hW=>nc_load lCY (fun j hj=>by
  rw[Nat.add_assoc]
  have:=hy1 j hj
  rw[List.getElem?_eq_getElem (by omega)] at this ⊢
  exact hW.cell this)
 clear hx1 hy1
 obtain⟨PO,hPO⟩:∃PO:Ending→World→Prop,Hid ((fun en w'=>en=.returned (.bool (holdP (fun p q => !N p q) ⟨xk,xn,xz,xs,xi,xf⟩ ⟨yk,yn,yz,ys,yi,yf⟩ i k))∧Ext w w')=PO):=⟨_,Lib.hid rfl⟩
 have fin:∀(v:Bool) W,Ext w W→holdP (fun p q => !N p q) ⟨xk,xn,xz,xs,xi,xf⟩ ⟨yk,yn,yz,ys,yi,yf⟩ i k=v→PO (.returned (.bool v)) W:=fun v W hW hb=>by rw[←hPO.out,hb];exact⟨rfl,hW⟩
 rw[hPO.out]
 unfold holdP at fin
 simp only at fin
 replace fin:=Lib.hid fin
 replace hwa:=Lib.hid hwa
 replace hwb:=Lib.hid hwb
 replace hr1:=Lib.hid hr1
 replace hr2:=Lib.hid hr2
 replace hr3:=Lib.hid hr3
 replace hq1:=Lib.hid hq1
 replace hq2:=Lib.hid hq2
 replace hq3:=Lib.hid hq3
 replace hi6:=Lib.hid hi6
 replace hk6:=Lib.hid hk6
 replace oCX:=Lib.hid oCX
 replace oCY:=Lib.hid oCY
 have hin:(i:Int)<(na:Int):=by omega
 have hkn:(k:Int)<(nb:Int):=by omega
 go_enter Tryz.func71,Tryz.ntmps71
 go_wp2_with fail
 refine Reg.startX (R:=Go.RowKit.Below (w.heap.size+3)) (by kernel_rfl) ?_
 generalize hwd:World.drew _=wd
 have hxd:Ext w wd:=by rw[←hwd];exact ((((Ext.refl w).alloc _).alloc _).alloc _).drew
 have hsd:wd.heap.size=w.heap.size+3:=by rw[←hwd];simp[World.drew]
 have t3:Blk wd w.heap.size #[.pointer (some ⟨bx,0,none⟩)] 71:=by rw[←hwd];exact (((Blk.new w _ _).alloc _).alloc _).drew
 have t4:Blk wd (w.heap.size+1) #[.int .i64 (i:Int)] 3:=by rw[←hwd];exact ((by have:=Blk.new (w.alloc (.cells #[.pointer (some ⟨bx,0,none⟩)] 71)) #[.int .i64 (i:Int)] 3;simpa using this:Blk _ (w.heap.size+1) _ _).alloc _).drew
 have t5:Blk wd (w.heap.size+2) #[.int .i64 (k:Int)] 3:=by rw[←hwd];exact (by have:=Blk.new ((w.alloc (.cells #[.pointer (some ⟨bx,0,none⟩)] 71)).alloc (.cells #[.int .i64 (i:Int)] 3)) #[.int .i64 (k:Int)] 3;simpa using this:Blk _ (w.heap.size+2) _ _).drew
 clear hwd
 have hrx:=h.ext hxd
 obtain⟨q,hq⟩:∃z,Hid (w.heap.size=z):=⟨_,rfl⟩
 rw[hq.out] at hsd t3 t4 t5 ⊢
 have eb:∀ {W:World},Go.RowKit.Below (q+3) wd W→Ext wd W:=fun hW=>below_ext' hW (by omega)
 have p0:∀W,Ext wd W→W.cell? ⟨q,0,none⟩=some (.pointer (some ⟨bx,0,none⟩)):=fun W hW=>by have:=(t3.ext hW).cell 0;simpa using this
 have p1:∀W,Ext wd W→W.cell? ⟨q+1,0,none⟩=some (.int .i64 (i:Int)):=fun W hW=>by have:=(t4.ext hW).cell 0;simpa using this
 have p2:∀W,Ext wd W→W.cell? ⟨q+2,0,none⟩=some (.int .i64 (k:Int)):=fun W hW=>by have:=(t5.ext hW).cell 0;simpa using this
 have p3:∀W,Ext wd W→W.cell? ⟨bx,0,none⟩=some (.slice (some ⟨b1,o1,none⟩) na c1):=fun W hW=>by have:=(hrx.blk.ext hW).cell 0;simpa using this
 have p4:∀W,Ext wd W→W.cell? ⟨bx,1,none⟩=some (.slice (some ⟨b2,o2,none⟩) nb c2):=fun W hW=>by have:=(hrx.blk.ext hW).cell 1;simpa using this
 clear h
 have s0:∀W,Go.RowKit.Below (q+3) wd W→W.cell? ⟨q,0,none⟩=some (.pointer (some ⟨bx,0,none⟩)):=fun W hW=>p0 W (eb hW)
 have s1:∀W,Go.RowKit.Below (q+3) wd W→W.cell? ⟨q+1,0,none⟩=some (.int .i64 (i:Int)):=fun W hW=>p1 W (eb hW)
 have s2:∀W,Go.RowKit.Below (q+3) wd W→W.cell? ⟨q+2,0,none⟩=some (.int .i64 (k:Int)):=fun W hW=>p2 W (eb hW)
 have s4:∀W,Go.RowKit.Below (q+3) wd W→W.cell? ⟨bx,1,none⟩=some (.slice (some ⟨b2,o2,none⟩) nb c2):=fun W hW=>p4 W (eb hW)
 have s3:∀W,Go.RowKit.Below (q+3) wd W→W.cell? ⟨bx,0,none⟩=some (.slice (some ⟨b1,o1,none⟩) na c1):=fun W hW=>p3 W (eb hW)
 replace p0:=Lib.hid p0
 replace p1:=Lib.hid p1
 replace p2:=Lib.hid p2
 replace p3:=Lib.hid p3
 replace p4:=Lib.hid p4
 iterate 7 ((first|refine Reg.un (Reg.rl_below _) ?_|refine Reg.vn (Reg.rl_below _) ?_);(try simp only[Reg.nn]))
 refine Reg.tx (Reg.rl_below _) 7 (hy:=fun W hW=>hy_load' 36 (.tmp 15) rfl rfl (ldx W (hxd.trans (eb hW)))) ?_;(try simp only[Reg.nn])
 iterate 7 ((first|refine Reg.un (Reg.rl_below _) ?_|refine Reg.vn (Reg.rl_below _) ?_);(try simp only[Reg.nn]))
 refine Reg.tx (Reg.rl_below _) 15 (hy:=fun W hW=>hy_load' 36 (.tmp 23) rfl rfl (ldy W (hxd.trans (eb hW)))) ?_;(try simp only[Reg.nn])
 refine Reg.bothZ 16 17 _ _ (by omega) rfl rfl rfl rfl (by decide) (by decide) (by kernel_rfl) (by kernel_rfl) (by kernel_rfl) (by decide)
  (fun V x y=>V=.pointer (some ⟨x.heap.size,0,none⟩)∧Blk y x.heap.size z6 36) (fun V x y=>V=.pointer (some ⟨x.heap.size,0,none⟩)∧Blk y x.heap.size z6 36) ?_ ?_ ?_
 ·rintro a' w1 (rfl|⟨v,rfl⟩) hx1 K hK
  ·go_simp
   exact hK.out _ _ ((Ext.refl w1).alloc _) ⟨rfl,Blk.new w1 _ _⟩
  ·go_simp
   exact hK.out _ _ ((Ext.refl w1).alloc _) ⟨rfl,Blk.new w1 _ _⟩
 ·rintro a' w1 (rfl|⟨v,rfl⟩) hx1 K hK
  ·go_simp
   exact hK.out _ _ ((Ext.refl w1).alloc _) ⟨rfl,Blk.new w1 _ _⟩
  ·go_simp
   exact hK.out _ _ ((Ext.refl w1).alloc _) ⟨rfl,Blk.new w1 _ _⟩
 rintro V7 V8 x y X hX hx hxy hyX hor
 obtain⟨q7,q8,rfl,rfl,h78,hge7,hge8,hB7,hB8⟩:∃q7 q8,V7=.pointer (some ⟨q7,0,none⟩)∧V8=.pointer (some ⟨q8,0,none⟩)∧q7≠q8∧q+3≤q7∧q+3≤q8∧Blk X q7 z6 36∧Blk X q8 z6 36:=by
  have z1:=hx.size
  have z2:=hxy.size
  rcases hor with⟨⟨e1,m1⟩,⟨e2,m2⟩⟩|⟨⟨e1,m1⟩,⟨e2,m2⟩⟩
  ·have:=m1.lt
   exact⟨_,_,e1,e2,by omega,by omega,by omega,m1.ext hyX,m2⟩
  ·have:=m1.lt
   exact⟨_,_,e2,e1,by omega,by omega,by omega,m2,m1.ext hyX⟩
 clear hor hx hxy hyX x y s0 s1 s2 s3 s4
 (try simp only[Reg.nn])
 refine Reg.onlyX 18 _ rfl (by kernel_rfl) (by decide) (by rfl) (fun K hK=>?_)
 refine wp_store_mid 36 (.tmp 7) (.tmp 16) rfl q7 0 CX.toArray rfl rfl (nc_there hB7 lCX) (by rw[List.size_toArray,lCX];kernel_rfl) (all_oneCell_toArray oCX.out) ?_
 have hxX:Ext wd (X.setCells q7 0 CX):=Ext_sets (by omega) _ 0 hX
 have hB7':Blk (X.setCells q7 0 CX) q7 CX.toArray 36:=by
  have:=Blk_sets CX 0 _ _ hB7
  rw[←hCX.out] at this ⊢
  simpa [z6,setMany] using this
 have hB8':=Blk_far (fun e=>h78 e.symm) CX 0 hB8
 refine hK.out _ _ (below_sets' hge7 _ 0 (Go.RowKit.Below.refl _ _)) ?_
 clear hK K hB7 hB8
 generalize X.setCells q7 0 CX=X2 at hxX hB7' hB8' ⊢
 refine Reg.onlyX 19 _ rfl (by kernel_rfl) (by decide) (by rfl) (fun K hK=>?_)
 refine wp_store_mid 36 (.tmp 8) (.tmp 24) rfl q8 0 CY.toArray rfl rfl (nc_there hB8' lCY) (by rw[List.size_toArray,lCY];kernel_rfl) (all_oneCell_toArray oCY.out) ?_
 have hxY:Ext wd (X2.setCells q8 0 CY):=Ext_sets (by omega) _ 0 hxX
 have hB8:Blk (X2.setCells q8 0 CY) q8 CY.toArray 36:=by
  have:=Blk_sets CY 0 _ _ hB8'
  rw[←hCY.out] at this ⊢
  simpa [z6,setMany] using this
 have hB7:=Blk_far h78 CY 0 hB7'
 refine hK.out _ _ (below_sets' hge8 _ 0 (Go.RowKit.Below.refl _ _)) ?_
 clear hK K hB7' hB8'
 generalize X2.setCells q8 0 CY=wz at hxY hB7 hB8 ⊢
 (try simp only[Reg.nn])
 refine Reg.finX (by kernel_rfl) ?_
 rw[←hCX.out] at hB7
 rw[←hCY.out] at hB8
 have cx:∀j,wz.cell? ⟨q7,j,none⟩=_:=fun j=>hB7.cell j
 have cy:∀j,wz.cell? ⟨q8,j,none⟩=_:=fun j=>hB8.cell j
 have cx0:=cx 0
 have cx1:=cx 1
 have cx2:=cx 2
 have cx3:=cx 3
 have cx4:=cx 4
 have cx5:=cx 5
 have cy0:=cy 0
 have cy1:=cy 1
 have cy2:=cy 2
 have cy3:=cy 3
 have cy4:=cy 4
 have cy5:=cy 5
 simp only[List.getElem?_toArray,List.getElem?_cons_zero,List.getElem?_cons_succ] at cx0 cx1 cx2 cx3 cx4 cx5 cy0 cy1 cy2 cy3 cy4 cy5
 clear cx cy ldx ldy hCX hCY lCX lCY oCX oCY hin hkn
 have r0:=p0.out wz hxY
 have r1:=p1.out wz hxY
 have r2:=p2.out wz hxY
 have hrz:=hrx.ext hxY
 have hxz:Ext w wz:=hxd.trans hxY
 replace hB7:=Lib.hid hB7
 replace hB8:=Lib.hid hB8
 rw[show q+1+1=q+2 from rfl]
 replace hrx:=Lib.hid hrz
 clear hrz
 by_cases y8:yk=8
 ·subst y8
  have hc:=hasInt_any (F:=96) ⟨q,0,none⟩ ⟨q+1,0,none⟩ B2 f2 yi (fun t=>N i t) wz (hq2.out.ext hxz) ny2 hny2.out (by omega) (fun _ _=>by kernel_rfl)
   (fun t ht W hW=>hold1_any (hrx.out.ext hW) (hW.cell r0) (hW.cell r1) hi6.out (i6 hlb (hwb.out.its t ht)))
  have hv:(yi.all fun t => !N i t) = !(yi.any fun t=>N i t):=(List.not_any_eq_all_not).symm
  obtain⟨v,hv'⟩:∃z,Hid ((yi.any fun t=>N i t)=z):=⟨_,rfl⟩
  rw[hv'.out] at hc hv
  replace hv:=Lib.hid hv
  go_wp2_with fail
  refine hc.mono ?_
  rintro en wA ⟨rfl,hxA⟩
  have hf:=fin.out (!v) wA (hxz.trans hxA) (by rw[if_pos trivial];exact hv.out)
  clear hc
  go_wp2_with fail
  exact hf
 by_cases x8:xk=8
 ·subst x8
  have hc:=hasInt_any (F:=97) ⟨q,0,none⟩ ⟨q+2,0,none⟩ A2 d2 xi (fun t => !N t k) wz (hr2.out.ext hxz) nx2 hnx2.out (by omega) (fun _ _=>by kernel_rfl)
   (fun t ht W hW=>hold2_any (hrx.out.ext hW) (hW.cell r0) (hW.cell r2) hk6.out (i6 hla (hwa.out.its t ht)))
  obtain⟨v,hv'⟩:∃z,Hid ((xi.any fun t => !N t k)=z):=⟨_,rfl⟩
  rw[hv'.out] at hc
  have hy8:((yk:Int) == 8)=false:=by simpa using y8
  go_wp2_with fail
  refine hc.mono ?_
  rintro en wA ⟨rfl,hxA⟩
  have hf:=fin.out v wA (hxz.trans hxA) (by rw[if_neg y8,if_pos trivial];exact hv'.out)
  clear hc
  go_wp2_with fail
  exact hf
 have hy8:((yk:Int) == 8)=false:=by simpa using y8
 have hx8:((xk:Int) == 8)=false:=by simpa using x8
 by_cases xy:xk=yk
 case neg=>
  have hxy:((xk:Int) == yk)=false:=by simpa using xy
  have hc:=prom_any xk yk wz
  obtain⟨v,hv'⟩:∃z,Hid (promP xk yk=z):=⟨_,rfl⟩
  rw[hv'.out] at hc
  go_wp2_with fail
  refine hc.mono ?_
  rintro en wA ⟨rfl,hxA⟩
  have hf:=fin.out v wA (hxz.trans hxA) (by rw[if_neg y8,if_neg x8,if_pos xy];exact hv'.out)
  clear hc
  go_wp2_with fail
  exact hf
 subst xy
 by_cases x67:xk=6∨xk=7
 ·obtain⟨t,ht⟩:=hwa.out.one x67
  obtain⟨u,hu⟩:=hwb.out.one x67
  simp only at ht hu
  subst ht;subst hu
  obtain rfl:1=nx2:=hnx2.out
  obtain rfl:1=ny2:=hny2.out
  obtain⟨ab,ao,rfl,_,ac⟩:=(hr2.out.ext hxz).at_ (k:=0) (by simp[intsZ])
  obtain⟨bb,bo,rfl,_,bc⟩:=(hq2.out.ext hxz).at_ (k:=0) (by simp[intsZ])
  have ac0:=ac 0 (.int .i64 t) (by simp[intsZ])
  have bc0:=bc 0 (.int .i64 u) (by simp[intsZ])
  clear ac bc
  simp only[Nat.add_zero] at ac0 bc0
  have ht6:=i6 hla (hwa.out.its t (by simp))
  have hu6:=i6 hlb (hwb.out.its u (by simp))
  have hrd:=fun W (hW:Ext wz W)=>reads_any (hrx.out.ext hW) ht6 hu6
  obtain⟨v,hv'⟩:∃z,Hid ((!N t u)=z):=⟨_,rfl⟩
  simp only[hv'.out] at hrd
  replace hrd:=Lib.hid hrd
  clear ht6 hu6
  have e0:∀W,Ext wz W→W.cell? ⟨q,0,none⟩=some (.pointer (some ⟨bx,0,none⟩)):=fun W hW=>hW.cell r0
  have e1:∀W,Ext wz W→W.cell? ⟨q7,4,none⟩=some (.slice (some ⟨ab,ao,none⟩) 1 d2):=fun W hW=>hW.cell cx4
  have e2:∀W,Ext wz W→W.cell? ⟨q8,4,none⟩=some (.slice (some ⟨bb,bo,none⟩) 1 f2):=fun W hW=>hW.cell cy4
  have e3:∀W,Ext wz W→W.cell? ⟨ab,ao,none⟩=some (.int .i64 t):=fun W hW=>hW.cell ac0
  have e4:∀W,Ext wz W→W.cell? ⟨bb,bo,none⟩=some (.int .i64 u):=fun W hW=>hW.cell bc0
  have hg:∀W,Ext wz W→PO (.returned (.bool v)) W:=fun W hW=>fin.out v W (hxz.trans hW) (by rw[if_neg y8,if_neg x8,if_neg (by simp),if_pos x67];exact hv'.out)
  replace hg:=Lib.hid hg
  rcases x67 with rfl|rfl
  ·go_wp2_with fail
   refine Reg.startE (by kernel_rfl) ?_
   iterate 9 ((first|refine Reg.tn ?_|refine Reg.sn ?_);(try simp only[Reg.nn]))
   refine Reg.onlyE 9 _ rfl (by kernel_rfl) (by decide) (by rfl) (fun W hW K hK=>?_);go_simp
   refine (hrd.out W hW).mono ?_
   rintro en wX ⟨rfl,hX9⟩
   have hq9:=hW.trans hX9
   refine hK.out _ _ (hX9) ?_;clear hK K;(try simp only[Reg.nn])
   iterate 1 ((first|refine Reg.tn ?_|refine Reg.sn ?_);(try simp only[Reg.nn]))
   refine Reg.fin (by kernel_rfl) (fun W hW=>?_)
   have hf:=hg.out W (hq9.trans hW)
   go_wp2_with fail
   exact hf
  ·go_wp2_with fail
   refine Reg.startE (by kernel_rfl) ?_
   iterate 9 ((first|refine Reg.tn ?_|refine Reg.sn ?_);(try simp only[Reg.nn]))
   refine Reg.onlyE 9 _ rfl (by kernel_rfl) (by decide) (by rfl) (fun W hW K hK=>?_);go_simp
   refine (hrd.out W hW).mono ?_
   rintro en wX ⟨rfl,hX9⟩
   have hq9:=hW.trans hX9
   refine hK.out _ _ (hX9) ?_;clear hK K;(try simp only[Reg.nn])
   iterate 1 ((first|refine Reg.tn ?_|refine Reg.sn ?_);(try simp only[Reg.nn]))
   refine Reg.fin (by kernel_rfl) (fun W hW=>?_)
   have hf:=hg.out W (hq9.trans hW)
   go_wp2_with fail
   exact hf
 have h6:((xk:Int) == 6)=false:=by simp;omega
 have h7:((xk:Int) == 7)=false:=by simp;omega
 have hk12:=hwa.out.k12
 simp only at hk12
 by_cases x9:xk=9
 ·subst x9
  by_cases hn:xn=yn
  ·subst hn
   have hc:=hasStr_any (F:=99) ⟨q7,0,none⟩ B1 f1 ys (fun s => !(xs.any fun y=>decide (y=s))) wz (hq1.out.ext hxz) ny1 hny1.out (by omega) (fun _ _=>by kernel_rfl)
    (fun t ht W hW=>hold3_any t (hW.cell cx3) (hr1.out.ext (hxz.trans hW)) hnx1.out (by omega))
   have hv:(ys.all fun s=>xs.any fun t=>decide (t=s)) = !(ys.any fun s => !(xs.any fun y=>decide (y=s))):=by rw[List.not_any_eq_all_not];simp
   obtain⟨v,hv'⟩:∃z,Hid ((ys.any fun s => !(xs.any fun y=>decide (y=s)))=z):=⟨_,rfl⟩
   rw[hv'.out] at hc hv
   replace hv:=Lib.hid hv
   go_wp2_with fail
   refine hc.mono ?_
   rintro en wA ⟨rfl,hxA⟩
   have hf:=fin.out (!v) wA (hxz.trans hxA) (by rw[if_pos trivial,hv.out];simp)
   clear hc
   go_wp2_with fail
   exact hf
  ·have hbn:=str_ne hn
   have hf:=fin.out false wz hxz (by rw[if_neg y8,if_neg x8,if_neg (by simp),if_neg x67,if_pos rfl,decide_eq_false hn];rfl)
   go_wp2_with fail
   exact hf
 have h9:((xk:Int) == 9)=false:=by simpa using x9
 by_cases x10:xk=10
 ·subst x10
  by_cases hn:xn=yn
  ·subst hn
   have hf:=fin.out (decide (xz=yz)) wz hxz (by rw[if_neg y8,if_neg x8,if_neg (by simp),if_neg x67,if_neg x9,if_pos rfl];simp)
   go_wp2_with fail
   exact hf
  ·have hbn:=str_ne hn
   have hf:=fin.out false wz hxz (by rw[if_neg y8,if_neg x8,if_neg (by simp),if_neg x67,if_neg x9,if_pos rfl,decide_eq_false hn];rfl)
   go_wp2_with fail
   exact hf
 have h10:((xk:Int) == 10)=false:=by simpa using x10
 by_cases x11:xk=11
 ·subst x11
  by_cases hn:xn=yn
  ·subst hn
   have hc:=fields_any hrx.out 11 xz 11 yz xn xn (.slice A1 nx1 d1) (.slice A2 nx2 d2) (.slice B1 ny1 f1) (.slice B2 ny2 f2) A3 B3 nx3 d3 ny3 f3 xf yf (hr3.out.ext hxz) (hq3.out.ext hxz) hnx3.out hny3.out (by omega) (by omega)
    (fun f hf=>i6 hla (hwa.out.fls f hf)) (fun f hf=>i6 hlb (hwb.out.fls f hf))
   obtain⟨v,hv'⟩:∃z,Hid (xf.all (fieldP (fun i k => !N i k) yf)=z):=⟨_,rfl⟩
   rw[hv'.out] at hc
   go_wp2_with fail
   refine hc.mono ?_
   rintro en wA ⟨rfl,hxA⟩
   have hf:=fin.out v wA (hxz.trans hxA) (by rw[if_pos trivial,hv'.out];simp)
   clear hc
   go_wp2_with fail
   exact hf
  ·have hbn:=str_ne hn
   have hf:=fin.out false wz hxz (by rw[if_neg y8,if_neg x8,if_neg (by simp),if_neg x67,if_neg x9,if_neg x10,if_pos rfl,decide_eq_false hn];rfl)
   go_wp2_with fail
   exact hf
 have h11:((xk:Int) == 11)=false:=by simpa using x11
 have hf:=fin.out true wz hxz (by rw[if_neg y8,if_neg x8,if_neg (by simp),if_neg x67,if_neg x9,if_neg x10,if_neg x11])
 go_wp2_with fail
 exact hf
end Rv
namespace Rx
open Go.ChangeShapes Go.WideShapes Go.ChangeAt Go.RowKit
open Base Lx Mi Pr Rv
def prs (l:List P2):List Value:=l.flatMap fun p=>[.int .i64 p.1,.int .i64 p.2]
theorem prs_cons (p:P2) (l:List P2):prs (p::l)=.int .i64 p.1::.int .i64 p.2::prs l:=rfl
theorem prs_len (l:List P2):(prs l).length=l.length*2:=by
 induction l with
 | nil=>rfl
 | cons p l ih=>rw[prs_cons,List.length_cons,List.length_cons,ih,List.length_cons];omega
theorem prs_at:∀(l:List P2) (i:Nat) (p:P2),l[i]?=some p→(prs l)[i*2]?=some (.int .i64 p.1)∧(prs l)[i*2+1]?=some (.int .i64 p.2)
 | [],i,p,h=>by simp at h
 | q::l,0,p,h=>by
  simp at h;subst h
  exact⟨rfl,rfl⟩
 | q::l,i+1,p,h=>by
  obtain⟨h1,h2⟩:=prs_at l i p (by simpa using h)
  rw[prs_cons]
  exact⟨by rw[show (i+1)*2=i*2+1+1 by omega,List.getElem?_cons_succ,List.getElem?_cons_succ];exact h1,by rw[show (i+1)*2+1=i*2+1+1+1 by omega,List.getElem?_cons_succ,List.getElem?_cons_succ];exact h2⟩
theorem prs_one (l:List P2):∀u∈prs l,u.oneCell'=true:=by
 intro u hu
 obtain⟨p,_,hp⟩:=List.mem_flatMap.1 hu
 simp only[List.mem_cons,List.not_mem_nil,or_false] at hp
 rcases hp with rfl|rfl<;>rfl
theorem prs_app (l m:List P2):prs (l++m)=prs l++prs m:=by simp[prs]
theorem el_p2:El Tryz.prog 74 113 (.agg #[.int .i64 0,.int .i64 0]) 2 16:=⟨by kernel_rfl,by kernel_rfl,by kernel_rfl,by omega⟩
theorem eql_p2 (a b c d:Int) (w:World):(binOp .eql 113 (.agg #[.int .i64 a,.int .i64 b]) (.agg #[.int .i64 c,.int .i64 d])).run Tryz.prog w=.ok (.bool (decide (a=c∧b=d))) w:=by
 have he:Tryz.prog.plainKey 3=true:=by kernel_rfl
 obtain⟨i,hi,_⟩:=info_parts (show (Tryz.prog.info? 3).map (fun i=>(i.zero,i.size,i.bytes))=some (some (.int .i64 0),1,8) by kernel_rfl)
 rw[run_eql_struct,show (10000:Nat)=9999+1 from rfl,run_equalIn_array (P:=Tryz.prog) w 9999 _ _ (show Tryz.prog.underlying 113=some (.array 2 3) by kernel_rfl) hi]
 rw[show Tryz.prog.cellsOf 3=1 by kernel_rfl,show List.range 2=[0,1] from rfl]
 have p1:=run_part_plain (P:=Tryz.prog) w he (xs := #[.int .i64 a,.int .i64 b]) (off:=0) (v:=.int .i64 a) rfl
 have p2:=run_part_plain (P:=Tryz.prog) w he (xs := #[.int .i64 a,.int .i64 b]) (off:=1) (v:=.int .i64 b) rfl
 have p3:=run_part_plain (P:=Tryz.prog) w he (xs := #[.int .i64 c,.int .i64 d]) (off:=0) (v:=.int .i64 c) rfl
 have p4:=run_part_plain (P:=Tryz.prog) w he (xs := #[.int .i64 c,.int .i64 d]) (off:=1) (v:=.int .i64 d) rfl
 have q1:=run_equalIn_int (P:=Tryz.prog) w 9998 3 .i64 .i64 a c Tryz.underlying3
 have q2:=run_equalIn_int (P:=Tryz.prog) w 9998 3 .i64 .i64 b d Tryz.underlying3
 simp only[Op.eqItems,Nat.mul_one,Sem.run_bind,p1,p3,q1,Result.andThen_ok]
 by_cases h1:a=c
 ·subst h1
  by_cases h2:b=d
  ·subst h2;simp[p2,p4,q2]
  ·simp[h2,p2,p4,q2]
 ·simp[h1]
theorem hy_bin {P:Program} {f:Operand→Value} {oi:Oper} {w:World} (b:BinOp) (ty:TypeId) (x y:Operand) (ty2:TypeId) (ho:oi.op=.binOp b ty x y ty2) {p q v:Value} {u:Unit} (hx:f x=p) (hy:f y=q) (hg:(eqGuard b ty x y p q).run P w=.ok u w) (h:(binOp b ty p q).run P w=.ok v w):(execOp f oi).run P w=.ok (.value v) w:=by
 unfold execOp
 simp only[ho,hx,hy,Sem.run_bind,hg,h,Result.andThen_ok,Sem.run_pure]
theorem hasP_step {l:List P2} {i:Nat} {p q:P2} (h:∀j,j<i→l[j]?≠some p) (hq:l[i]?=some q) (hne:q≠p):∀j,j<i+1→l[j]?≠some p:=by
 intro j hj
 by_cases e:j=i
 ·subst e;rw[hq];exact fun e=>hne (Option.some.inj e)
 ·exact h j (by omega)
theorem hasP_end {l:List P2} {p:P2} (h:∀j,j<l.length→l[j]?≠some p):p∉l:=fun hm=>by
 obtain⟨j,hj⟩:=List.getElem?_of_mem hm
 exact h j (List.getElem?_eq_some_iff.1 hj).1 hj
theorem has_any (A:Option Addr) (n c:Nat) (l:List P2) (r k:Int) (w:World) (hr:Rd w A (prs l)) (hn:l.length=n) (hl:n≤100000000) :
  Calls Tryz.prog 72 #[.slice A n c,.agg #[.int .i64 r,.int .i64 k]] w fun en w'=>en=.returned (.bool (decide ((r,k)∈l)))∧Ext w w':=by
 obtain⟨PO,hPO⟩:∃PO:Ending→World→Prop,Hid ((fun en w'=>en=.returned (.bool (decide ((r,k)∈l)))∧Ext w w')=PO):=⟨_,Lib.hid rfl⟩
 have hy:∀i W,l[i]?=some (r,k)→Ext w W→PO (.returned (.bool true)) W:=fun i W hi hW=>by
  rw[←hPO.out];exact⟨by rw[decide_eq_true (List.mem_of_getElem? hi)],hW⟩
 have hno:∀W,(∀j,j<n→l[j]?≠some (r,k))→Ext w W→PO (.returned (.bool false)) W:=fun W h hW=>by
  rw[←hPO.out];exact⟨by rw[decide_eq_false (hasP_end (by rw[hn];exact h))],hW⟩
 rw[hPO.out]
 replace hy:=Lib.hid hy
 replace hno:=Lib.hid hno
 have Hn:=Lib.hid hn
 clear hn
 obtain⟨w1,hw1⟩:∃z,Hid (w.alloc (.cells #[.int .i64 r,.int .i64 k] 113)=z):=⟨_,rfl⟩
 obtain⟨q,hq⟩:∃z,Hid (w.heap.size=z):=⟨_,rfl⟩
 have hx1:Ext w w1:=by rw[←hw1.out];exact (Ext.refl w).alloc _
 have hb1:Blk w1 q #[.int .i64 r,.int .i64 k] 113:=by rw[←hw1.out,←hq.out];exact Blk.new w _ _
 go_enter Tryz.func72,Tryz.ntmps72
 go_wp2_with fail
 rw[hw1.out,hq.out]
 go_loopw [5,6,7,8,9,10,11,12,13,14,15,16,17] (fun v5 v6 v7 v8 v9 v10 v11 v12 v13 v14 v15 v16 v17 wr=>∃i:Nat,i≤n∧v5=.int .i64 (i:Int)∧(∀j,j<i→l[j]?≠some (r,k))∧Ext w1 wr) (fun v5 _ _ _ _ _ _ _ _ _ _ _ _ _=>n-(intOf v5).toNat)
 case atStart=>exact⟨0,Nat.zero_le _,rfl,fun j hj=>by omega,Ext.refl w1⟩
 case round=>
  obtain⟨i,hi,rfl,hno1,hx⟩:=hrel
  by_cases hin:i<n
  ·have hin':(i:Int)<(n:Int):=by omega
   obtain⟨p,hme⟩:∃z,l[i]?=some z:=⟨_,List.getElem?_eq_getElem (by have:=Hn.out;omega)⟩
   obtain⟨h0,h1⟩:=prs_at l i p hme
   obtain⟨b,off,rfl,hzz,hc⟩:=(hr.ext (hx1.trans hx)).at_ (k:=i*2) (by rw[prs_len];have:=Hn.out;omega)
   clear hzz
   have c0:∀W,Ext wr W→W.cell? ⟨b,off+i*2,none⟩=some (.int .i64 p.1):=fun W hW=>hW.cell (hc _ _ h0)
   have c1:∀W,Ext wr W→W.cell? ⟨b,off+i*2+1,none⟩=some (.int .i64 p.2):=fun W hW=>hW.cell (hc _ _ h1)
   have d0:∀W,Ext wr W→W.cell? ⟨q,0,none⟩=some (.int .i64 r):=fun W hW=>by have:=((hb1.ext hx).ext hW).cell 0;simpa using this
   have d1:∀W,Ext wr W→W.cell? ⟨q,1,none⟩=some (.int .i64 k):=fun W hW=>by have:=((hb1.ext hx).ext hW).cell 1;simpa using this
   obtain⟨p1,p2⟩:=p
   simp only at c0 c1
   have Hme:=Lib.hid hme
   replace hno1:=Lib.hid hno1
   clear hc h0 h1 hme
   by_cases he:p1=r∧p2=k
   ·obtain⟨rfl,rfl⟩:=he
    have hf:=fun W (hW:Ext wr W)=>hy.out i W Hme.out (hx1.trans (hx.trans hW))
    replace hf:=Lib.hid hf
    go_wp2_with fail
    refine Reg.startE (by kernel_rfl) ?_
    iterate 5 ((first|refine Reg.tn ?_|refine Reg.sn ?_);(try simp only[Reg.nn]))
    refine Reg.tk 5 (hy:=fun W hW=>hy_bin .eql 113 (.tmp 15) (.tmp 16) 113 rfl rfl rfl (run_eqGuard_agg W .eql 113 (.tmp 15) (.tmp 16) _ _ (by kernel_rfl)) (eql_p2 _ _ _ _ W)) ?_;(try simp only[Reg.nn])
    refine Reg.fin (by kernel_rfl) (fun W hW=>?_)
    simp only[and_self,decide_true]
    go_wp2_with fail
    exact hf.out W hW
   ·have hst:=hasP_step hno1.out Hme.out (fun e=>he (by simpa using e))
    replace hst:=Lib.hid hst
    clear hno1
    go_wp2_with fail
    refine Reg.startE (by kernel_rfl) ?_
    iterate 5 ((first|refine Reg.tn ?_|refine Reg.sn ?_);(try simp only[Reg.nn]))
    refine Reg.tk 5 (hy:=fun W hW=>hy_bin .eql 113 (.tmp 15) (.tmp 16) 113 rfl rfl rfl (run_eqGuard_agg W .eql 113 (.tmp 15) (.tmp 16) _ _ (by kernel_rfl)) (eql_p2 _ _ _ _ W)) ?_;(try simp only[Reg.nn])
    refine Reg.fin (by kernel_rfl) (fun W hW=>?_)
    rw[decide_eq_false he]
    replace hW:=hx.trans hW
    clear he
    go_wp2_with fail
    go_roundw
    case rel=>exact⟨i+1,by omega,by go_num,hst.out,hW⟩
    case measure=>simp[intOf]<;>omega
  ·obtain rfl:i=n:=by omega
   have hf:=hno.out wr hno1 (hx1.trans hx)
   clear hno1
   go_wp2_with fail
   exact hf
structure XX (w0:World) (qx:Nat) (vR vW:Value) (s:Qs) (nV aV:Value) (W:World):Prop where
 blk:Blk W qx #[vR,vW,nV,aV] 76
 no:W.ownsRow w0.heap.size 113 2 nV s.1.length (prs s.1)
 ask:W.ownsRow w0.heap.size 113 2 aV s.2.length (prs s.2)
 dis:nV.ownBlock=none∨nV.ownBlock≠aV.ownBlock
 x:Ext w0 W
 hq:w0.heap.size≤qx
def XS (qx:Nat) (nV aV:Value) (k:Nat):Prop:=k=qx∨nV.ownBlock=some k∨aV.ownBlock=some k
structure XF (qx:Nat) (nV aV:Value) (W:World) (nV' aV':Value) (W':World):Prop where
 c:Chg (XS qx nV aV) W W'
 n:nV'.ownBlock=nV.ownBlock∨∀k,nV'.ownBlock=some k→W.heap.size≤k
 a:aV'.ownBlock=aV.ownBlock∨∀k,aV'.ownBlock=some k→W.heap.size≤k
section
variable {w0:World} {qx:Nat} {vR vW:Value} {s:Qs} {nV aV nV' aV' nV2 aV2:Value} {W W' W2:World}
theorem XF.ofExt (h:Ext W W'):XF qx nV aV W nV aV W':=⟨Chg.ofExt h,.inl rfl,.inl rfl⟩
theorem XF.trans (h:XF qx nV aV W nV' aV' W') (k:XF qx nV' aV' W' nV2 aV2 W2):XF qx nV aV W nV2 aV2 W2:=by
 refine⟨h.c.trans k.c (fun i hi ht=>?_),?_,?_⟩
 ·rcases ht with ht|ht|ht
  ·exact .inl ht
  ·rcases h.n with e|e
   ·exact .inr (.inl (e ▸ ht))
   ·have:=e i ht;omega
  ·rcases h.a with e|e
   ·exact .inr (.inr (e ▸ ht))
   ·have:=e i ht;omega
 ·rcases k.n with e|e
  ·rcases h.n with e2|e2
   ·exact .inl (e.trans e2)
   ·exact .inr fun i hi=>e2 i (e ▸ hi)
  ·exact .inr fun i hi=>Nat.le_trans h.c.size (e i hi)
 ·rcases k.a with e|e
  ·rcases h.a with e2|e2
   ·exact .inl (e.trans e2)
   ·exact .inr fun i hi=>e2 i (e ▸ hi)
  ·exact .inr fun i hi=>Nat.le_trans h.c.size (e i hi)
theorem XX.ext (h:XX w0 qx vR vW s nV aV W) (hx:Ext W W'):XX w0 qx vR vW s nV aV W':=⟨h.blk.ext hx,own_ext h.no hx,own_ext h.ask hx,h.dis,h.x.trans hx,h.hq⟩
theorem XX.cells (h:XX w0 qx vR vW s nV aV W):W.cell? ⟨qx,0,none⟩=some vR∧W.cell? ⟨qx,1,none⟩=some vW∧W.cell? ⟨qx,2,none⟩=some nV∧W.cell? ⟨qx,3,none⟩=some aV:=by
 have h0:=h.blk.cell 0
 have h1:=h.blk.cell 1
 have h2:=h.blk.cell 2
 have h3:=h.blk.cell 3
 simp only[List.getElem?_toArray,List.getElem?_cons_zero,List.getElem?_cons_succ] at h0 h1 h2 h3
 exact⟨h0,h1,h2,h3⟩
theorem XF.blk (h:XF qx nV aV W nV' aV' W') (hX:XX w0 qx vR vW s nV aV W) {q:Nat} {cs:Array Value} {t:TypeId} (hb:Blk W q cs t) (h1:t≠76) (h2:nV.ownBlock≠some q) (h3:aV.ownBlock≠some q):Blk W' q cs t:=by
 refine h.c.blk hb ?_
 rintro (e|e|e)
 ·subst e
  have:=hX.blk
  unfold Blk at this hb
  rw[hb] at this
  injection this with this
  injection this with _ e
  exact h1 e
 ·exact h2 e
 ·exact h3 e
theorem XF.blk' (h:XF qx nV aV W nV' aV' W') (hX:XX w0 qx vR vW s nV aV W) {q:Nat} {cs:Array Value} {t:TypeId} (hb:Blk W q cs t) (h1:t≠76) (h2:t≠113):Blk W' q cs t:=
 h.blk hX hb h1 (fun e=>own_ne_blk hX.no hb (fun x=>h2 x.symm) e.symm) (fun e=>own_ne_blk hX.ask hb (fun x=>h2 x.symm) e.symm)
theorem XX.dis' (h:XX w0 qx vR vW s nV aV W):aV.ownBlock=none∨aV.ownBlock≠nV.ownBlock:=by
 rcases h.dis with e|e
 ·cases hv:aV.ownBlock with
  | none=>exact .inl rfl
  | some k=>exact .inr (by rw[e];simp)
 ·exact .inr fun x=>e x.symm
theorem XX.ask_push (h:XX w0 qx vR vW s nV aV W) {p:P2} (ho:W'.ownsRow w0.heap.size 113 2 aV' (s.2.length+1) (prs s.2++prs [p])) (hg:W.grownBy W' aV.ownBlock) (hv:aV'.ownBlock=aV.ownBlock∨aV'.ownBlock=some W.heap.size) (hx:Ext W' W2) :
  XX w0 qx vR vW (s.1,s.2++[p]) nV aV' (W2.setCell ⟨qx,3,none⟩ aV')∧XF qx nV aV W nV aV' (W2.setCell ⟨qx,3,none⟩ aV'):=by
 have hb:=(h.blk.grown hg (own_ne_blk h.ask h.blk (by decide))).ext hx
 refine⟨⟨by simpa using hb.set 3 aV',own_setCell (own_ext (h.no.kept hg h.dis) hx) hb (by decide) _,own_setCell (own_ext (by rw[List.length_append,prs_app];exact ho) hx) hb (by decide) _,?_,(((h.x.then_grown hg (fun k hk=>(h.ask.lt k hk).1)).trans hx).setCell h.hq _),h.hq⟩,?_⟩
 ·rcases hv with hv|hv
  ·rw[hv];exact h.dis
  ·cases hn:nV.ownBlock with
   | none=>exact .inl rfl
   | some k=>
    refine .inr fun e=>?_
    rw[hv] at e
    have:=(h.no.lt k hn).2
    injection e with e
    omega
 ·have c1:Chg (XS qx nV aV) W W2:=((Chg.ofGrown hg).mono (fun i _ e=>.inr (.inr e))).trans (Chg.ofExt (S:=fun _=>False) hx) (fun _ _ x=>x.elim)
  refine⟨c1.set (.inl (.inl rfl)) _,.inl rfl,?_⟩
  rcases hv with hv|hv
  ·exact .inl hv
  ·exact .inr fun k hk=>by rw[hv] at hk;injection hk with hk;omega
theorem XX.no_push (h:XX w0 qx vR vW s nV aV W) {p:P2} (ho:W'.ownsRow w0.heap.size 113 2 nV' (s.1.length+1) (prs s.1++prs [p])) (hg:W.grownBy W' nV.ownBlock) (hv:nV'.ownBlock=nV.ownBlock∨nV'.ownBlock=some W.heap.size) (hx:Ext W' W2) :
  XX w0 qx vR vW (s.1++[p],s.2) nV' aV (W2.setCell ⟨qx,2,none⟩ nV')∧XF qx nV aV W nV' aV (W2.setCell ⟨qx,2,none⟩ nV'):=by
 have hb:=(h.blk.grown hg (own_ne_blk h.no h.blk (by decide))).ext hx
 refine⟨⟨by simpa using hb.set 2 nV',own_setCell (own_ext (by rw[List.length_append,prs_app];exact ho) hx) hb (by decide) _,own_setCell (own_ext (h.ask.kept hg h.dis') hx) hb (by decide) _,?_,(((h.x.then_grown hg (fun k hk=>(h.no.lt k hk).1)).trans hx).setCell h.hq _),h.hq⟩,?_⟩
 ·rcases hv with hv|hv
  ·rw[hv];exact h.dis
  ·refine .inr fun e=>?_
   rw[hv] at e
   have:=(h.ask.lt _ e.symm).2
   omega
 ·have c1:Chg (XS qx nV aV) W W2:=((Chg.ofGrown hg).mono (fun i _ e=>.inr (.inl e))).trans (Chg.ofExt (S:=fun _=>False) hx) (fun _ _ x=>x.elim)
  refine⟨c1.set (.inl (.inl rfl)) _,?_,.inl rfl⟩
  rcases hv with hv|hv
  ·exact .inl hv
  ·exact .inr fun k hk=>by rw[hv] at hk;injection hk with hk;omega
end
def ReadsC (a b:List Ne) (vR vW:Value) (w0:World) (qx f:Nat):Prop:=∀(i k:Nat) (s:Qs) (nV aV:Value) (W:World),i<a.length→k<b.length→Fine a b s→a.length*b.length+1≤f+s.2.length→XX w0 qx vR vW s nV aV W→
 Calls Tryz.prog 51 #[.pointer (some ⟨qx,0,none⟩),.int .i64 (i:Int),.int .i64 (k:Int)] W fun en W'=>∃nV' aV',en=.returned (.bool (readsQ a b f i k s).1)∧XX w0 qx vR vW (readsQ a b f i k s).2 nV' aV' W'∧XF qx nV aV W nV' aV' W'
def HoldsC (a b:List Ne) (vR vW:Value) (w0:World) (qx f:Nat):Prop:=∀(i k:Nat) (s:Qs) (nV aV:Value) (W:World),i<a.length→k<b.length→Fine a b s→a.length*b.length+1≤f+s.2.length→XX w0 qx vR vW s nV aV W→
 Calls Tryz.prog 73 #[.pointer (some ⟨qx,0,none⟩),.int .i64 (i:Int),.int .i64 (k:Int)] W fun en W'=>∃nV' aV',en=.returned (.bool (holdsQ (readsQ a b f) (a.getD i neD) (b.getD k neD) i k s).1)∧XX w0 qx vR vW (holdsQ (readsQ a b f) (a.getD i neD) (b.getD k neD) i k s).2 nV' aV' W'∧XF qx nV aV W nV' aV' W'
end Rx
end Go.Proofs.YtmaoochjbpohdaaGreatDoor
