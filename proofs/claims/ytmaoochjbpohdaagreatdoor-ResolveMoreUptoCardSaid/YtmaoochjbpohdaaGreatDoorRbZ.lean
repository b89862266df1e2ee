/- resolve, the document's side: in the middle of asking; whether all fields are read: walked. -/
import Derived.Test.YtmaoochjbpohdaaGreatDoorRbY
set_option linter.unusedVariables false
set_option linter.unusedSimpArgs false
set_option maxRecDepth 100000
set_option maxHeartbeats 1000000
open Go.ChangeShapes Go.WideShapes Go.ChangeAt Go.RowKit
namespace Go.Proofs.YtmaoochjbpohdaaGreatDoor
namespace Rx
open Base Lx Mi Pr Rv
def MM (a b:List Ne) (vR vW:Value) (w0:World) (qx f:Nat) (w:World) (nV aV:Value) (s:Qs) (W:World):Prop:=
 ∃nV' aV',XX w0 qx vR vW s nV' aV' W∧XF qx nV aV w nV' aV' W∧Fine a b s∧a.length*b.length+1≤f+s.2.length
section
variable {a b:List Ne} {vR vW:Value} {w0:World} {qx f:Nat} {w:World} {nV aV:Value} {s:Qs} {W W':World}
theorem MM.x (h:MM a b vR vW w0 qx f w nV aV s W):Ext w0 W:=by obtain⟨_,_,h1,_⟩:=h;exact h1.x
theorem MM.fine (h:MM a b vR vW w0 qx f w nV aV s W):Fine a b s∧a.length*b.length+1≤f+s.2.length:=by obtain⟨_,_,_,_,h1⟩:=h;exact h1
theorem MM.ext (h:MM a b vR vW w0 qx f w nV aV s W) (hx:Ext W W'):MM a b vR vW w0 qx f w nV aV s W':=by
 obtain⟨n1,a1,h1,h2,h3⟩:=h
 exact⟨n1,a1,h1.ext hx,h2.trans (XF.ofExt hx),h3⟩
theorem MM.start (h:XX w0 qx vR vW s nV aV W) (hs:Fine a b s) (hf:a.length*b.length+1≤f+s.2.length):MM a b vR vW w0 qx f W nV aV s W:=
 ⟨nV,aV,h,XF.ofExt (Ext.refl W),hs,hf⟩
theorem MM.cells (h:MM a b vR vW w0 qx f w nV aV s W):W.cell? ⟨qx,0,none⟩=some vR∧W.cell? ⟨qx,1,none⟩=some vW:=by
 obtain⟨n1,a1,h1,_⟩:=h
 exact⟨h1.cells.1,h1.cells.2.1⟩
theorem MM.reads (hR:ReadsC a b vR vW w0 qx f) (hwa:∀d∈a,WE a.length d) (hwb:∀d∈b,WE b.length d) (h:MM a b vR vW w0 qx f w nV aV s W) {x y:Int} (hx:0≤x∧x<(a.length:Int)) (hy:0≤y∧y<(b.length:Int)) :
  Calls Tryz.prog 51 #[.pointer (some ⟨qx,0,none⟩),.int .i64 x,.int .i64 y] W fun en W'=>en=.returned (.bool (readsQ a b f x y s).1)∧MM a b vR vW w0 qx f w nV aV (readsQ a b f x y s).2 W'∧(∀q cs t,Blk W q cs t→t≠76→t≠113→Blk W' q cs t):=by
 obtain⟨n1,a1,h1,h2,h3,h4⟩:=h
 obtain⟨i,rfl⟩:∃i:Nat,x=i:=⟨x.toNat,by omega⟩
 obtain⟨k,rfl⟩:∃k:Nat,y=k:=⟨y.toNat,by omega⟩
 have hi:i<a.length:=by omega
 have hk:k<b.length:=by omega
 obtain⟨g1,g2,_,_⟩:=readsQ_ok hwa hwb f ((i:Int),(k:Int)) ⟨i,k,rfl,hi,hk⟩ s h3 h4
 refine (hR i k s n1 a1 W hi hk h3 h4 h1).mono ?_
 rintro en W' ⟨n2,a2,rfl,j1,j2⟩
 refine⟨rfl,⟨n2,a2,j1,h2.trans j2,g1,?_⟩,fun q cs t hb e1 e2=>j2.blk' h1 hb e1 e2⟩
 exact Nat.le_trans h4 (Nat.add_le_add_left g2.len f)
end
theorem lookQ_at {q:Int→Qs→Bool×Qs} {nm:ByteArray} {l:List Rv.Fd} {k:Nat} {g:Rv.Fd} (hg:l[k]?=some g) (ok:Bool) (s:Qs) :
  lookQ q nm (l.drop k) ok s=if g.1=nm then lookQ q nm (l.drop (k+1)) (q g.2.2 s).1 (q g.2.2 s).2 else lookQ q nm (l.drop (k+1)) ok s:=by
 obtain⟨hk,rfl⟩:=List.getElem?_eq_some_iff.1 hg
 rw[List.drop_eq_getElem_cons hk]
 rfl
theorem fldsQ_at {q:Int→Int→Qs→Bool×Qs} {lb l:List Rv.Fd} {i:Nat} {x:Rv.Fd} (hx:l[i]?=some x) (s:Qs) {o:Bool×Qs} (ho:lookQ (q x.2.2) x.1 lb x.2.1 s=o) :
  fldsQ q lb (l.drop i) s=if o.1=true then fldsQ q lb (l.drop (i+1)) o.2 else (false,o.2):=by
 obtain⟨hi,rfl⟩:=List.getElem?_eq_some_iff.1 hx
 rw[List.drop_eq_getElem_cons hi,←ho]
 rfl
def FieldsC (a b:List Ne) (vR vW:Value) (w0:World) (qx f:Nat):Prop:=∀(la lb:List Rv.Fd) (A B:Option Addr) (na ca nb cb:Nat) (s:Qs) (W0 W:World) (nV aV:Value),MM a b vR vW w0 qx f W0 nV aV s W→(∀W,Ext w0 W→Rd W A (fldsZ la))→(∀W,Ext w0 W→Rd W B (fldsZ lb))→la.length=na→lb.length=nb→na≤5000→nb≤5000→
 (∀x∈la,0≤x.2.2∧x.2.2<(a.length:Int))→(∀x∈lb,0≤x.2.2∧x.2.2<(b.length:Int))→
 Calls Tryz.prog 103 #[.pointer (some ⟨qx,0,none⟩),.slice A na ca,.slice B nb cb] W fun en W'=>en=.returned (.bool (fldsQ (readsQ a b f) lb la s).1)∧MM a b vR vW w0 qx f W0 nV aV (fldsQ (readsQ a b f) lb la s).2 W'
set_option maxHeartbeats 3000000 in
theorem fields_of {a b:List Ne} {vR vW:Value} {w0:World} {qx f:Nat} (hwa:∀d∈a,WE a.length d) (hwb:∀d∈b,WE b.length d) (hR:ReadsC a b vR vW w0 qx f):FieldsC a b vR vW w0 qx f:=by
 intro la lb A B na ca nb cb s0 W0 w nV aV hM hra hrb hna hnb hla hlb hta htb
 obtain⟨PO,hPO⟩:∃PO:Ending→World→Prop,Hid ((fun en W'=>en=.returned (.bool (fldsQ (readsQ a b f) lb la s0).1)∧MM a b vR vW w0 qx f W0 nV aV (fldsQ (readsQ a b f) lb la s0).2 W')=PO):=⟨_,Lib.hid rfl⟩
 have fin:∀v s W,fldsQ (readsQ a b f) lb la s0=(v,s)→MM a b vR vW w0 qx f W0 nV aV s W→PO (.returned (.bool v)) W:=fun v s W h1 h2=>by rw[←hPO.out,h1];exact⟨rfl,h2⟩
 rw[hPO.out]
 have hrd:=fun (s:Qs) (W:World) (h:MM a b vR vW w0 qx f W0 nV aV s W) (x y:Rv.Fd) (hx:x∈la) (hy:y∈lb)=>h.reads hR hwa hwb (hta x hx) (htb y hy)
 obtain⟨M,hMe⟩:∃M:Qs→World→Prop,Hid (M=MM a b vR vW w0 qx f W0 nV aV):=⟨_,rfl⟩
 have hext:∀s W W',M s W→Ext W W'→M s W':=fun s W W' h hx=>by rw[hMe.out] at h ⊢;exact h.ext hx
 have hMx:∀s W,M s W→Ext w0 W:=fun s W h=>by rw[hMe.out] at h;exact h.x
 obtain⟨Q,hQ⟩:∃z,Hid (readsQ a b f=z):=⟨_,Lib.hid rfl⟩
 rw[hQ.out] at fin hrd
 rw[←hMe.out] at fin hrd hM
 replace hrd:=Lib.hid hrd
 replace fin:=Lib.hid fin
 have Hna:=Lib.hid hna
 have Hnb:=Lib.hid hnb
 replace hra:=Lib.hid hra
 replace hrb:=Lib.hid hrb
 replace hext:=Lib.hid hext
 replace hMx:=Lib.hid hMx
 clear hna hnb hta htb hR
 have hM0:=hM
 replace hM0:=Lib.hid hM0
 clear hM
 go_enter Tryz.func103,Tryz.ntmps103
 go_wp2_with fail
 go_loopw [7,8,9,10,11,12,13,14,15,16,17,18,19,20,21,22,23,24,25,26,27,28,29,30,31,32,33,34,35,36,37,38,39,40,41,42,43,44,45,46,47,48,49,50,51] (fun v7 v8 v9 v10 v11 v12 v13 v14 v15 v16 v17 v18 v19 v20 v21 v22 v23 v24 v25 v26 v27 v28 v29 v30 v31 v32 v33 v34 v35 v36 v37 v38 v39 v40 v41 v42 v43 v44 v45 v46 v47 v48 v49 v50 v51 wr=>∃(i:Nat) (s:Qs),i≤na∧v7=.int .i64 (i:Int)∧Hid (fldsQ Q lb la s0=fldsQ Q lb (la.drop i) s∧M s wr)) (fun v7 _ _ _ _ _ _ _ _ _ _ _ _ _ _ _ _ _ _ _ _ _ _ _ _ _ _ _ _ _ _ _ _ _ _ _ _ _ _ _ _ _ _ _ _ _=>na-(intOf v7).toNat)
 case atStart=>exact⟨0,s0,Nat.zero_le _,rfl,Lib.hid ⟨rfl,hM0.out⟩⟩
 case round=>
  obtain⟨i,s,hi,rfl,hst⟩:=hrel
  by_cases hin:i<na
  ·have hin':(i:Int)<(na:Int):=by omega
   obtain⟨x,hfe⟩:∃z,la[i]?=some z:=⟨_,List.getElem?_eq_getElem (by have:=Hna.out;omega)⟩
   obtain⟨b1,o1,rfl,d0,d1,d2⟩:=fldsZ_cell (hra.out _ (hMx.out _ _ hst.out.2)) i x hfe
   have Hfe:=Lib.hid hfe
   clear hfe
   go_wp2_with fail
   obtain⟨wo,hwo⟩:∃z,z=wr:=⟨_,rfl⟩
   rw[←hwo] at hst d0 d1 d2 ⊢
   clear hwo
   go_loopw [8,9,21,22,23,24,25,26,27,28,29,30,31,32,33,34,35,36,37,38,39,40,41,42,43,44,45,46,47,48,49] (fun v8 v9 v21 v22 v23 v24 v25 v26 v27 v28 v29 v30 v31 v32 v33 v34 v35 v36 v37 v38 v39 v40 v41 v42 v43 v44 v45 v46 v47 v48 v49 wr=>∃(k:Nat) (s':Qs) (ok:Bool),k≤nb∧v9=.int .i64 (k:Int)∧v8=.bool ok∧Hid (lookQ (Q x.2.2) x.1 lb x.2.1 s=lookQ (Q x.2.2) x.1 (lb.drop k) ok s'∧M s' wr)) (fun _ v9 _ _ _ _ _ _ _ _ _ _ _ _ _ _ _ _ _ _ _ _ _ _ _ _ _ _ _ _ _ _=>nb-(intOf v9).toNat)
   case atStart=>exact⟨0,s,_,Nat.zero_le _,rfl,rfl,Lib.hid ⟨rfl,hst.out.2⟩⟩
   case round=>
    obtain⟨k,s',ok,hk,rfl,rfl,hst2⟩:=hrel
    by_cases hkn:k<nb
    ·have hkn':(k:Int)<(nb:Int):=by omega
     obtain⟨y,hye⟩:∃z,lb[k]?=some z:=⟨_,List.getElem?_eq_getElem (by have:=Hnb.out;omega)⟩
     have hxr:=hMx.out _ _ hst2.out.2
     obtain⟨b2,o2,rfl,e0,e1,e2⟩:=fldsZ_cell (hrb.out _ hxr) k y hye
     obtain⟨b3,o3,e3,h0,h1,h2⟩:=fldsZ_cell (hra.out _ hxr) i x Hfe.out
     injection e3 with e3
     injection e3 with e3 e4
     subst e3;subst e4
     have hlk:=lookQ_at (q:=Q x.2.2) (nm:=x.1) hye ok s'
     have hxm:=List.mem_of_getElem? Hfe.out
     have hym:=List.mem_of_getElem? hye
     have hrd1:=fun W (hW:Ext wr W)=>hrd.out s' W (hext.out _ _ _ hst2.out.2 hW) x y hxm hym
     clear hye hxm hym hxr
     obtain⟨x1,x2,x3⟩:=x
     obtain⟨y1,y2,y3⟩:=y
     simp only at e0 e1 e2 h0 h1 h2 hlk hrd1 d0 d1 d2
     have f0:∀W,Ext wr W→W.cell? ⟨b2,o2+k*3,none⟩=some (.string y1):=fun W hW=>hW.cell e0
     have f2:∀W,Ext wr W→W.cell? ⟨b2,o2+k*3+2,none⟩=some (.int .i64 y3):=fun W hW=>hW.cell e2
     have g0:∀W,Ext wr W→W.cell? ⟨b1,o1+i*3,none⟩=some (.string x1):=fun W hW=>hW.cell h0
     have g2:∀W,Ext wr W→W.cell? ⟨b1,o1+i*3+2,none⟩=some (.int .i64 x3):=fun W hW=>hW.cell h2
     clear e0 e1 e2 h0 h1 h2 d0 d1 d2
     replace hrd1:=Lib.hid hrd1
     by_cases hnm:y1=x1
     ·subst hnm
      rw[if_pos rfl] at hlk
      replace hlk:=Lib.hid hlk
      go_wp2_with fail
      refine Reg.startE (by kernel_rfl) ?_
      iterate 11 ((first|refine Reg.tn ?_|refine Reg.sn ?_);(try simp only[Reg.nn]))
      refine Reg.fin (by kernel_rfl) (fun W hW=>?_)
      have f2':∀W2,Ext W W2→W2.cell? ⟨b2,o2+k*3+2,none⟩=some (.int .i64 y3):=fun W2 h2=>f2 W2 (hW.trans h2)
      have g2':∀W2,Ext W W2→W2.cell? ⟨b1,o1+i*3+2,none⟩=some (.int .i64 x3):=fun W2 h2=>g2 W2 (hW.trans h2)
      clear f0 f2 g0 g2
      obtain⟨w5,hw5⟩:∃z,z=W:=⟨_,rfl⟩
      rw[←hw5] at hW f2' g2' ⊢
      clear hw5 W
      have hW5:=hW
      clear hW
      go_wp2_with fail
      refine Reg.startE (by kernel_rfl) ?_
      iterate 11 ((first|refine Reg.tn ?_|refine Reg.sn ?_);(try simp only[Reg.nn]))
      refine Reg.onlyS 11 _ rfl (by kernel_rfl) (by kernel_rfl) (by decide) (by rfl) (fun W hW K hK=>?_)
      go_simp
      refine (hrd1.out W (hW5.trans hW)).mono ?_
      rintro en wX ⟨rfl,hMX,_⟩
      refine hK.out _ _ ?_;clear hK K;(try simp only[Reg.nn])
      iterate 1 ((first|refine Reg.tn ?_|refine Reg.sn ?_);(try simp only[Reg.nn]))
      refine Reg.fin (by kernel_rfl) (fun W hW=>?_)
      have hMX2:=hext.out _ _ _ hMX hW
      have hnx:=hst2.out.1.trans hlk.out
      generalize Q x3 y3 s'=o at hMX2 hnx ⊢
      obtain⟨o1,o2⟩:=o
      replace hMX2:=Lib.hid hMX2
      replace hnx:=Lib.hid hnx
      clear hMX
      go_wp2_with fail
      go_roundw
      case rel=>exact⟨k+1,o2,o1,by omega,by go_num,rfl,Lib.hid ⟨hnx.out,hMX2.out⟩⟩
      case measure=>simp[intOf]<;>omega
     ·rw[if_neg hnm] at hlk
      replace hlk:=Lib.hid hlk
      have hne:=str_ne hnm
      go_wp2_with fail
      refine Reg.startE (by kernel_rfl) ?_
      iterate 11 ((first|refine Reg.tn ?_|refine Reg.sn ?_);(try simp only[Reg.nn]))
      refine Reg.fin (by kernel_rfl) (fun W hW=>?_)
      have hM5:=hext.out _ _ _ hst2.out.2 hW
      replace hM5:=Lib.hid hM5
      clear f0 f2 g0 g2 hnm
      go_wp2_with fail
      go_roundw
      case rel=>exact⟨k+1,s',ok,by omega,by go_num,rfl,Lib.hid ⟨hst2.out.1.trans hlk.out,hM5.out⟩⟩
      case measure=>simp[intOf]<;>omega
    ·obtain rfl:k=nb:=by omega
     have ho:lookQ (Q x.2.2) x.1 lb x.2.1 s=(ok,s'):=by
      rw[hst2.out.1,List.drop_eq_nil_of_le (by have:=Hnb.out;omega)];rfl
     have hfl:=hst.out.1.trans (fldsQ_at Hfe.out s ho)
     simp only at hfl
     cases ok with
     | true=>
      rw[if_pos rfl] at hfl
      have hnx:=Lib.hid (And.intro hfl hst2.out.2)
      clear hfl ho hst hst2 d0 d1 d2
      go_wp2_with fail
      go_roundw
      case rel=>exact⟨i+1,s',by omega,by go_num,hnx⟩
      case measure=>simp[intOf]<;>omega
     | false=>
      rw[if_neg (by simp)] at hfl
      have hf:=fin.out false s' wr hfl hst2.out.2
      clear hfl ho hst hst2 d0 d1 d2
      go_wp2_with fail
      exact hf
  ·obtain rfl:i=na:=by omega
   have hfl:fldsQ Q lb la s0=(true,s):=by
    rw[hst.out.1,List.drop_eq_nil_of_le (by have:=Hna.out;omega)];rfl
   have hf:=fin.out true s wr hfl hst.out.2
   clear hfl hst
   go_wp2_with fail
   exact hf
theorem promR_any (r t:Int) (w:World):Calls Tryz.prog 102 #[.int .i64 r,.int .i64 t] w fun en w'=>en=.returned (.bool (promP r t))∧Ext w w':=by
 obtain⟨PO,hPO⟩:∃PO:Ending→World→Prop,Hid ((fun en w'=>en=.returned (.bool (promP r t))∧Ext w w')=PO):=⟨_,Lib.hid rfl⟩
 have fin:∀b:Bool,promP r t=b→PO (.returned (.bool b)) w:=fun b h=>by rw[←hPO.out,h];exact⟨rfl,Ext.refl w⟩
 rw[hPO.out]
 unfold promP at fin
 by_cases h0:r<0
 ·have hf:=fin false (by simp;omega)
  clear fin
  go_enter Tryz.func102,Tryz.ntmps102
  go_wp2_with fail
  exact hf
 by_cases h1:5<r
 ·have hf:=fin false (by simp;omega)
  clear fin
  go_enter Tryz.func102,Tryz.ntmps102
  go_wp2_with fail
  exact hf
 by_cases h2:t<0
 ·have hf:=fin false (by simp;omega)
  clear fin
  go_enter Tryz.func102,Tryz.ntmps102
  go_wp2_with fail
  exact hf
 by_cases h3:5<t
 ·have hf:=fin false (by simp;omega)
  clear fin
  go_enter Tryz.func102,Tryz.ntmps102
  go_wp2_with fail
  exact hf
 by_cases h4:r=t
 ·have hf:=fin true (by simp;omega)
  subst h4
  clear fin
  go_enter Tryz.func102,Tryz.ntmps102
  go_wp2_with fail
  exact hf
 have e4:((r:Int) == t)=false:=by simpa using h4
 by_cases r3:r=3
 ·subst r3
  by_cases t2:t=2
  ·subst t2
   have hf:=fin true (by simp)
   clear fin
   go_enter Tryz.func102,Tryz.ntmps102
   go_wp2_with fail
   exact hf
  ·have f2:((t:Int) == 2)=false:=by simpa using t2
   have hf:=fin false (by simp;omega)
   clear fin
   go_enter Tryz.func102,Tryz.ntmps102
   go_wp2_with fail
   exact hf
 have g3:((r:Int) == 3)=false:=by simpa using r3
 by_cases r4:r=4
 ·subst r4
  by_cases t5:t=5
  ·subst t5
   have hf:=fin true (by simp)
   clear fin
   go_enter Tryz.func102,Tryz.ntmps102
   go_wp2_with fail
   exact hf
  ·have f5:((t:Int) == 5)=false:=by simpa using t5
   have hf:=fin false (by simp;omega)
   clear fin
   go_enter Tryz.func102,Tryz.ntmps102
   go_wp2_with fail
   exact hf
 have g4:((r:Int) == 4)=false:=by simpa using r4
 by_cases r5:r=5
 ·subst r5
  by_cases t4:t=4
  ·subst t4
   have hf:=fin true (by simp)
   clear fin
   go_enter Tryz.func102,Tryz.ntmps102
   go_wp2_with fail
   exact hf
  ·have f4:((t:Int) == 4)=false:=by simpa using t4
   have hf:=fin false (by simp;omega)
   clear fin
   go_enter Tryz.func102,Tryz.ntmps102
   go_wp2_with fail
   exact hf
 have g5:((r:Int) == 5)=false:=by simpa using r5
 have hf:=fin false (by simp;omega)
 clear fin
 go_enter Tryz.func102,Tryz.ntmps102
 go_wp2_with fail
 exact hf
theorem allQ_at {q:Int→Qs→Bool×Qs} {l:List Int} {j:Nat} {x:Int} (hx:l[j]?=some x) (s:Qs):Rv.allQ q (l.drop j) s=if (q x s).1=true then Rv.allQ q (l.drop (j+1)) (q x s).2 else (false,(q x s).2):=by
 obtain⟨hj,rfl⟩:=List.getElem?_eq_some_iff.1 hx
 rw[List.drop_eq_getElem_cons hj];rfl
theorem anyQ_at {q:Int→Qs→Bool×Qs} {l:List Int} {j:Nat} {x:Int} (hx:l[j]?=some x) (s:Qs):anyQ q (l.drop j) s=if (q x s).1=true then (true,(q x s).2) else anyQ q (l.drop (j+1)) (q x s).2:=by
 obtain⟨hj,rfl⟩:=List.getElem?_eq_some_iff.1 hx
 rw[List.drop_eq_getElem_cons hj];rfl
theorem symsIn_snoc {xs ys:List ByteArray} {j:Nat} {s:ByteArray} (hs:ys[j]?=some s):symsIn xs (ys.take (j+1))=(symsIn xs (ys.take j) && xs.any fun t=>decide (t=s)):=by
 unfold symsIn
 rw[List.take_add_one,hs,List.all_append]
 simp
theorem symsIn_no {xs ys:List ByteArray} {j:Nat} {s:ByteArray} (hs:ys[j]?=some s) (h:(xs.any fun t=>decide (t=s))=false):symsIn xs ys=false:=by
 unfold symsIn
 rw[List.all_eq_false]
 exact⟨s,List.mem_of_getElem? hs,by rw[h];simp⟩
theorem any_snoc {xs:List ByteArray} {m:Nat} {t s:ByteArray} (ht:xs[m]?=some t):((xs.take (m+1)).any fun t=>decide (t=s))=((xs.take m).any (fun t=>decide (t=s)) || decide (t=s)):=by
 rw[List.take_add_one,ht,List.any_append];simp
set_option maxHeartbeats 6000000 in
theorem holds_of {a b:List Ne} {vR vW:Value} {w0:World} {qx f:Nat} (hSa:Sch w0.heap.size w0 vR a) (hSb:Sch w0.heap.size w0 vW b) (hla:a.length≤5000) (hlb:b.length≤5000) (hwaA:∀d∈a,WE a.length d) (hwbA:∀d∈b,WE b.length d)
  (hR:ReadsC a b vR vW w0 qx f) (hF:FieldsC a b vR vW w0 qx f):HoldsC a b vR vW w0 qx f:=by
 intro i k s0 nV aV w hi hk hs hf hX
 have hwa:=hwaA _ (show a.getD i neD∈a by rw[List.getD,List.getElem?_eq_getElem hi];exact List.getElem_mem hi)
 have hwb:=hwbA _ (show b.getD k neD∈b by rw[List.getD,List.getElem?_eq_getElem hk];exact List.getElem_mem hk)
 have hM0:=MM.start hX hs hf
 obtain⟨PO,hPO⟩:∃PO:Ending→World→Prop,Hid ((fun en W'=>∃nV' aV',en=.returned (.bool (holdsQ (readsQ a b f) (a.getD i neD) (b.getD k neD) i k s0).1)∧XX w0 qx vR vW (holdsQ (readsQ a b f) (a.getD i neD) (b.getD k neD) i k s0).2 nV' aV' W'∧XF qx nV aV w nV' aV' W')=PO):=⟨_,Lib.hid rfl⟩
 have fin:∀v s W,holdsQ (readsQ a b f) (a.getD i neD) (b.getD k neD) i k s0=(v,s)→MM a b vR vW w0 qx f w nV aV s W→PO (.returned (.bool v)) W:=fun v s W h1 h2=>by
  rw[←hPO.out,h1]
  obtain⟨n1,a1,h3,h4,_⟩:=h2
  exact⟨n1,a1,rfl,h3,h4⟩
 rw[hPO.out]
 have hrd:=fun (s:Qs) (W:World) (h:MM a b vR vW w0 qx f w nV aV s W) (x y:Int) hx hy=>h.reads (x:=x) (y:=y) hR hwaA hwbA hx hy
 have hfl:=fun (s:Qs) (W:World) (h:MM a b vR vW w0 qx f w nV aV s W) la lb A B na ca nb cb h1 h2 h3 h4 h5 h6 h7 h8=>hF la lb A B na ca nb cb s w W nV aV h h1 h2 h3 h4 h5 h6 h7 h8
 obtain⟨M,hMe⟩:∃M:Qs→World→Prop,Hid (M=MM a b vR vW w0 qx f w nV aV):=⟨_,rfl⟩
 have hext:∀s W W',M s W→Ext W W'→M s W':=fun s W W' h hx=>by rw[hMe.out] at h ⊢;exact h.ext hx
 have hMx:∀s W,M s W→Ext w0 W:=fun s W h=>by rw[hMe.out] at h;exact h.x
 obtain⟨Q,hQ⟩:∃z,Hid (readsQ a b f=z):=⟨_,Lib.hid rfl⟩
 simp only[hQ.out] at fin hrd hfl
 simp only[←hMe.out] at fin hrd hfl hM0
 have hc4:=hX.cells
 have hXx:=hX.x
 obtain⟨ux,b1,o1,c1,rfl,_,hsx,hc1,hm1,hx1⟩:=hSa.node i hi
 obtain⟨uy,b2,o2,c2,rfl,_,hsy,hc2,hm2,hy1⟩:=hSb.node k hk
 obtain⟨na,hna⟩:∃z,Hid (a.length=z):=⟨_,rfl⟩
 obtain⟨nb,hnb⟩:∃z,Hid (b.length=z):=⟨_,rfl⟩
 rw[hna.out] at hi hla hwa hc1 hc4
 rw[hnb.out] at hk hlb hwb hc2 hc4
 simp only[hna.out,hnb.out] at hrd hfl
 generalize a.getD i neD=x at hsx hx1 hwa fin
 generalize b.getD k neD=y at hsy hy1 hwb fin
 clear hSa hSb hR hF hwaA hwbA hs hf hPO
 obtain⟨xk,xn,xz,xs,xi,xf⟩:=x
 obtain⟨yk,yn,yz,ys,yi,yf⟩:=y
 obtain⟨u1,u2,u3⟩:=ux
 obtain⟨v1,v2,v3⟩:=uy
 obtain⟨A1,d1,e1,hr1,_,_,_,_⟩:=hsx.syms
 obtain⟨A2,d2,e2,hr2,_,_,_,_⟩:=hsx.items
 obtain⟨A3,d3,e3,hr3,_,_,_,_⟩:=hsx.fields
 obtain⟨B1,f1,g1,hq1,_,_,_,_⟩:=hsy.syms
 obtain⟨B2,f2,g2,hq2,_,_,_,_⟩:=hsy.items
 obtain⟨B3,f3,g3,hq3,_,_,_,_⟩:=hsy.fields
 simp only at e1 e2 e3 g1 g2 g3 hr1 hr2 hr3 hq1 hq2 hq3
 subst e1;subst e2;subst e3;subst g1;subst g2;subst g3
 clear hsx hsy
 obtain⟨nx1,hnx1⟩:∃z,Hid (xs.length=z):=⟨_,rfl⟩
 obtain⟨nx2,hnx2⟩:∃z,Hid (xi.length=z):=⟨_,rfl⟩
 obtain⟨nx3,hnx3⟩:∃z,Hid (xf.length=z):=⟨_,rfl⟩
 obtain⟨ny1,hny1⟩:∃z,Hid (ys.length=z):=⟨_,rfl⟩
 obtain⟨ny2,hny2⟩:∃z,Hid (yi.length=z):=⟨_,rfl⟩
 obtain⟨ny3,hny3⟩:∃z,Hid (yf.length=z):=⟨_,rfl⟩
 simp only[neC,hnx1.out,hnx2.out,hnx3.out] at hx1
 simp only[neC,hny1.out,hny2.out,hny3.out] at hy1
 have lnx:=hwa.ln
 have lny:=hwb.ln
 simp only[hnx1.out,hnx2.out,hnx3.out] at lnx
 simp only[hny1.out,hny2.out,hny3.out] at lny
 obtain⟨CX,hCX⟩:∃z:List Value,Hid ([.int .i64 xk,.string xn,.int .i64 xz,.slice A1 nx1 d1,.slice A2 nx2 d2,.slice A3 nx3 d3]=z):=⟨_,rfl⟩
 obtain⟨CY,hCY⟩:∃z:List Value,Hid ([.int .i64 yk,.string yn,.int .i64 yz,.slice B1 ny1 f1,.slice B2 ny2 f2,.slice B3 ny3 f3]=z):=⟨_,rfl⟩
 have lCX:CX.length=6:=by rw[←hCX.out];rfl
 have lCY:CY.length=6:=by rw[←hCY.out];rfl
 have oCX:∀v∈CX,v.oneCell'=true:=by rw[←hCX.out];simp[Value.oneCell']
 have oCY:∀v∈CY,v.oneCell'=true:=by rw[←hCY.out];simp[Value.oneCell']
 rw[hCX.out] at hx1
 rw[hCY.out] at hy1
 have ldx:∀W,Ext w0 W→(Instr.loadAt 36 (.pointer (some ⟨b1,o1+i*6,none⟩))).run Tryz.prog W=.ok (.agg CX.toArray) W:=fun W hW=>nc_load lCX (fun j hj=>by
  rw[Nat.add_assoc]
  have:=hx1 j hj
  rw[List.getElem?_eq_getElem (by omega)] at this ⊢
  exact hW.cell this)
 have ldy:∀W,Ext w0 W→(Instr.loadAt 36 (.pointer (some ⟨b2,o2+k*6,none⟩))).run Tryz.prog W=.ok (.agg CY.toArray) W:=fun W hW=>nc_load lCY (fun j hj=>by
  rw[Nat.add_assoc]
  have:=hy1 j hj
  rw[List.getElem?_eq_getElem (by omega)] at this ⊢
  exact hW.cell this)
 clear hx1 hy1
 unfold holdsQ at fin
 simp only at fin
 replace fin:=Lib.hid fin
 replace hrd:=Lib.hid hrd
 replace hfl:=Lib.hid hfl
 replace hext:=Lib.hid hext
 replace hMx:=Lib.hid hMx
 replace hM0:=Lib.hid hM0
 replace hwa:=Lib.hid hwa
 replace hwb:=Lib.hid hwb
 replace hr1:=Lib.hid hr1
 replace hr2:=Lib.hid hr2
 replace hr3:=Lib.hid hr3
 replace hq1:=Lib.hid hq1
 replace hq2:=Lib.hid hq2
 replace hq3:=Lib.hid hq3
 replace oCX:=Lib.hid oCX
 replace oCY:=Lib.hid oCY
 have hin:(i:Int)<(na:Int):=by omega
 have hkn:(k:Int)<(nb:Int):=by omega
 obtain⟨q,hq⟩:∃z,Hid (w.heap.size=z):=⟨_,rfl⟩
 clear hX
 go_enter Tryz.func73,Tryz.ntmps73
 go_wp2_with fail
 refine Reg.startX (R:=Go.RowKit.Below q) (by kernel_rfl) ?_
 generalize hwd:World.drew w=wd
 have hxd:Ext w wd:=by rw[←hwd];exact (Ext.refl w).drew
 have hsd:wd.heap.size=q:=by rw[←hwd,←hq.out];rfl
 clear hwd
 have eb:∀ {W:World},Go.RowKit.Below q wd W→Ext wd W:=fun hW=>below_ext' hW (by omega)
 have s3:∀W,Go.RowKit.Below q wd W→W.cell? ⟨qx,0,none⟩=some (.slice (some ⟨b1,o1,none⟩) na c1):=fun W hW=>(hxd.trans (eb hW)).cell hc4.1
 have s4:∀W,Go.RowKit.Below q wd W→W.cell? ⟨qx,1,none⟩=some (.slice (some ⟨b2,o2,none⟩) nb c2):=fun W hW=>(hxd.trans (eb hW)).cell hc4.2.1
 iterate 7 ((first|refine Reg.un (Reg.rl_below _) ?_|refine Reg.vn (Reg.rl_below _) ?_);(try simp only[Reg.nn]))
 refine Reg.tx (Reg.rl_below _) 7 (hy:=fun W hW=>hy_load' 36 (.tmp 20) rfl rfl (ldx W (hXx.trans (hxd.trans (eb hW))))) ?_;(try simp only[Reg.nn])
 iterate 7 ((first|refine Reg.un (Reg.rl_below _) ?_|refine Reg.vn (Reg.rl_below _) ?_);(try simp only[Reg.nn]))
 refine Reg.tx (Reg.rl_below _) 15 (hy:=fun W hW=>hy_load' 36 (.tmp 28) rfl rfl (ldy W (hXx.trans (hxd.trans (eb hW))))) ?_;(try simp only[Reg.nn])
 refine Reg.bothZ 16 17 _ _ (by omega) rfl rfl rfl rfl (by decide) (by decide) (by kernel_rfl) (by kernel_rfl) (by kernel_rfl) (by decide)
  (fun V x y=>V=.pointer (some ⟨x.heap.size,0,none⟩)∧Blk y x.heap.size z6 36) (fun V x y=>V=.pointer (some ⟨x.heap.size,0,none⟩)∧Blk y x.heap.size z6 36) ?_ ?_ ?_
 ·rintro a' w1 (rfl|⟨v,rfl⟩) hx1 K hK
  ·go_simp
   exact hK.out _ _ ((Ext.refl w1).alloc _) ⟨rfl,Blk.new w1 _ _⟩
  ·go_simp
   exact hK.out _ _ ((Ext.refl w1).alloc _) ⟨rfl,Blk.new w1 _ _⟩
 ·rintro a' w1 (rfl|⟨v,rfl⟩) hx1 K hK
  ·go_simp
   exact hK.out _ _ ((Ext.refl w1).alloc _) ⟨rfl,Blk.new w1 _ _⟩
  ·go_simp
   exact hK.out _ _ ((Ext.refl w1).alloc _) ⟨rfl,Blk.new w1 _ _⟩
 rintro V7 V8 x y X hX hx hxy hyX hor
 obtain⟨q7,q8,rfl,rfl,h78,hge7,hge8,hB7,hB8⟩:∃q7 q8,V7=.pointer (some ⟨q7,0,none⟩)∧V8=.pointer (some ⟨q8,0,none⟩)∧q7≠q8∧q≤q7∧q≤q8∧Blk X q7 z6 36∧Blk X q8 z6 36:=by
  have z1:=hx.size
  have z2:=hxy.size
  rcases hor with⟨⟨e1,m1⟩,⟨e2,m2⟩⟩|⟨⟨e1,m1⟩,⟨e2,m2⟩⟩
  ·have:=m1.lt
   exact⟨_,_,e1,e2,by omega,by omega,by omega,m1.ext hyX,m2⟩
  ·have:=m1.lt
   exact⟨_,_,e2,e1,by omega,by omega,by omega,m2,m1.ext hyX⟩
 clear hor hx hxy hyX x y s3 s4
 (try simp only[Reg.nn])
 refine Reg.onlyX 18 _ rfl (by kernel_rfl) (by decide) (by rfl) (fun K hK=>?_)
 refine wp_store_mid 36 (.tmp 7) (.tmp 21) rfl q7 0 CX.toArray rfl rfl (nc_there hB7 lCX) (by rw[List.size_toArray,lCX];kernel_rfl) (all_oneCell_toArray oCX.out) ?_
 have hxX:Ext wd (X.setCells q7 0 CX):=Ext_sets (by omega) _ 0 hX
 have hB7':Blk (X.setCells q7 0 CX) q7 CX.toArray 36:=by
  have:=Blk_sets CX 0 _ _ hB7
  rw[←hCX.out] at this ⊢
  simpa [z6,setMany] using this
 have hB8':=Blk_far (fun e=>h78 e.symm) CX 0 hB8
 refine hK.out _ _ (below_sets' hge7 _ 0 (Go.RowKit.Below.refl _ _)) ?_
 clear hK K hB7 hB8
 generalize X.setCells q7 0 CX=X2 at hxX hB7' hB8' ⊢
 refine Reg.onlyX 19 _ rfl (by kernel_rfl) (by decide) (by rfl) (fun K hK=>?_)
 refine wp_store_mid 36 (.tmp 8) (.tmp 29) rfl q8 0 CY.toArray rfl rfl (nc_there hB8' lCY) (by rw[List.size_toArray,lCY];kernel_rfl) (all_oneCell_toArray oCY.out) ?_
 have hxY:Ext wd (X2.setCells q8 0 CY):=Ext_sets (by omega) _ 0 hxX
 have hB8:Blk (X2.setCells q8 0 CY) q8 CY.toArray 36:=by
  have:=Blk_sets CY 0 _ _ hB8'
  rw[←hCY.out] at this ⊢
  simpa [z6,setMany] using this
 have hB7:=Blk_far h78 CY 0 hB7'
 refine hK.out _ _ (below_sets' hge8 _ 0 (Go.RowKit.Below.refl _ _)) ?_
 clear hK K hB7' hB8'
 generalize X2.setCells q8 0 CY=wz at hxY hB7 hB8 ⊢
 (try simp only[Reg.nn])
 refine Reg.finX (by kernel_rfl) ?_
 rw[←hCX.out] at hB7
 rw[←hCY.out] at hB8
 have hMz:Hid (M s0 wz):=Lib.hid (hext.out _ _ _ hM0.out (hxd.trans hxY))
 clear hxX hX hxY hxd hsd hge7 hge8 eb ldx ldy hCX hCY lCX lCY oCX oCY hin hkn hM0 hXx hc4 X X2 wd
 have ca:∀W,Blk W q7 #[.int .i64 xk,.string xn,.int .i64 xz,.slice A1 nx1 d1,.slice A2 nx2 d2,.slice A3 nx3 d3] 36→W.cell? ⟨q7,0,none⟩=some (.int .i64 xk)∧W.cell? ⟨q7,1,none⟩=some (.string xn)∧W.cell? ⟨q7,2,none⟩=some (.int .i64 xz)∧W.cell? ⟨q7,3,none⟩=some (.slice A1 nx1 d1)∧W.cell? ⟨q7,4,none⟩=some (.slice A2 nx2 d2)∧W.cell? ⟨q7,5,none⟩=some (.slice A3 nx3 d3):=fun W h=>⟨h.cell 0,h.cell 1,h.cell 2,h.cell 3,h.cell 4,h.cell 5⟩
 have cb:∀W,Blk W q8 #[.int .i64 yk,.string yn,.int .i64 yz,.slice B1 ny1 f1,.slice B2 ny2 f2,.slice B3 ny3 f3] 36→W.cell? ⟨q8,0,none⟩=some (.int .i64 yk)∧W.cell? ⟨q8,1,none⟩=some (.string yn)∧W.cell? ⟨q8,2,none⟩=some (.int .i64 yz)∧W.cell? ⟨q8,3,none⟩=some (.slice B1 ny1 f1)∧W.cell? ⟨q8,4,none⟩=some (.slice B2 ny2 f2)∧W.cell? ⟨q8,5,none⟩=some (.slice B3 ny3 f3):=fun W h=>⟨h.cell 0,h.cell 1,h.cell 2,h.cell 3,h.cell 4,h.cell 5⟩
 obtain⟨KX,hKX⟩:∃z:Array Value,Hid (#[.int .i64 xk,.string xn,.int .i64 xz,.slice A1 nx1 d1,.slice A2 nx2 d2,.slice A3 nx3 d3]=z):=⟨_,rfl⟩
 obtain⟨KY,hKY⟩:∃z:Array Value,Hid (#[.int .i64 yk,.string yn,.int .i64 yz,.slice B1 ny1 f1,.slice B2 ny2 f2,.slice B3 ny3 f3]=z):=⟨_,rfl⟩
 rw[hKX.out] at ca hB7
 rw[hKY.out] at cb hB8
 replace ca:=Lib.hid ca
 replace cb:=Lib.hid cb
 replace hB7:=Lib.hid hB7
 replace hB8:=Lib.hid hB8
 have cx:=ca.out wz hB7.out
 have cy:=cb.out wz hB8.out
 obtain⟨cx0,cx1,cx2,cx3,cx4,cx5⟩:=cx
 obtain⟨cy0,cy1,cy2,cy3,cy4,cy5⟩:=cy
 have stay:∀(W W':World),(∀q cs t,Blk W q cs t→t≠76→t≠113→Blk W' q cs t)→Blk W q7 KX 36∧Blk W q8 KY 36→Blk W' q7 KX 36∧Blk W' q8 KY 36:=fun _ _ h ⟨h1,h2⟩=>⟨h _ _ _ h1 (by decide) (by decide),h _ _ _ h2 (by decide) (by decide)⟩
 replace stay:=Lib.hid stay
 by_cases y8:yk=8
 ·subst y8
  simp only[if_true] at fin
  replace fin:=Lib.hid fin.out
  have hst0:Hid (Rv.allQ (fun t=>Q i t) yi s0=Rv.allQ (fun t=>Q i t) (yi.drop 0) s0∧M s0 wz∧Blk wz q7 KX 36∧Blk wz q8 KY 36):=Lib.hid ⟨rfl,hMz.out,hB7.out,hB8.out⟩
  clear cx0 cx1 cx2 cx3 cx4 cx5 cy1 cy2 cy3 cy4 cy5
  go_wp2_with fail
  clear cy0
  go_loopw [9,33,34,35,36,37,38,39,40,41,42,43,44,45,46,47,48] (fun v9 v33 v34 v35 v36 v37 v38 v39 v40 v41 v42 v43 v44 v45 v46 v47 v48 wr=>∃(j:Nat) (s:Qs),j≤ny2∧v9=.int .i64 (j:Int)∧Hid (Rv.allQ (fun t=>Q i t) yi s0=Rv.allQ (fun t=>Q i t) (yi.drop j) s∧M s wr∧Blk wr q7 KX 36∧Blk wr q8 KY 36)) (fun v9 _ _ _ _ _ _ _ _ _ _ _ _ _ _ _ _ _=>ny2-(intOf v9).toNat)
  case atStart=>exact⟨0,s0,Nat.zero_le _,rfl,hst0⟩
  case round=>
   obtain⟨j,s,hj,rfl,hst⟩:=hrel
   clear hst0 hMz hB7 hB8
   have cy:=(cb.out wr hst.out.2.2.2).2.2.2.2.1
   by_cases hjn:j<ny2
   ·have hjn':(j:Int)<(ny2:Int):=by omega
    obtain⟨t,hte⟩:∃z,yi[j]?=some z:=⟨_,List.getElem?_eq_getElem (by have:=hny2.out;omega)⟩
    obtain⟨b3,o3,rfl,hzz,hc⟩:=(hq2.out.ext (hMx.out _ _ hst.out.2.1)).at_ (k:=j) (by simp only[intsZ,List.length_map];have:=hny2.out;omega)
    clear hzz
    have hck:wr.cell? ⟨b3,o3+j,none⟩=some (.int .i64 t):=hc j _ (by simp[intsZ,hte])
    clear hc
    have hcall:=hrd.out s wr hst.out.2.1 (i:Int) t (by omega) (hwb.out.its t (List.mem_of_getElem? hte))
    have hat:=hst.out.1.trans (allQ_at (q:=fun t=>Q i t) hte s)
    clear hte
    obtain⟨o,ho⟩:∃z,Hid (Q (i:Int) t s=z):=⟨_,rfl⟩
    simp only[ho.out] at hat hcall
    replace hat:=Lib.hid hat
    obtain⟨o1,o2⟩:=o
    go_wp2_with fail
    refine hcall.mono ?_
    rintro en w9 ⟨rfl,hM9,hk9⟩
    have hB9:=stay.out _ _ hk9 hst.out.2.2
    replace hM9:=Lib.hid hM9
    clear hcall hk9 hst ho
    cases o1 with
    | true=>
     have hnx:=Lib.hid (And.intro (hat.out.trans (if_pos rfl)) (And.intro hM9.out hB9))
     clear hB9 hat hM9
     go_wp2_with fail
     go_roundw
     case rel=>exact⟨j+1,o2,by omega,by go_num,hnx⟩
     case measure=>simp[intOf]<;>omega
    | false=>
     have hf:=fin.out false o2 w9 (hat.out.trans (if_neg (by simp))) hM9.out
     clear hB9 hat hM9
     go_wp2_with fail
     exact hf
   ·obtain rfl:j=ny2:=by omega
    have e:Rv.allQ (fun t=>Q i t) yi s0=(true,s):=by
     rw[hst.out.1,List.drop_eq_nil_of_le (by have:=hny2.out;omega)];rfl
    have hf:=fin.out true s wr e hst.out.2.1
    clear e hst
    go_wp2_with fail
    exact hf
 have hy8:((yk:Int) == 8)=false:=by simpa using y8
 by_cases x8:xk=8
 ·subst x8
  simp only[if_neg y8,if_true] at fin
  replace fin:=Lib.hid fin.out
  have hst0:Hid (anyQ (fun t=>Q t k) xi s0=anyQ (fun t=>Q t k) (xi.drop 0) s0∧M s0 wz∧Blk wz q7 KX 36∧Blk wz q8 KY 36):=Lib.hid ⟨rfl,hMz.out,hB7.out,hB8.out⟩
  clear cx1 cx2 cx3 cx4 cx5 cy1 cy2 cy3 cy4 cy5
  go_wp2_with fail
  clear cx0 cy0
  go_loopw [10,52,53,54,55,56,57,58,59,60,61,62,63,64,65,66] (fun v10 v52 v53 v54 v55 v56 v57 v58 v59 v60 v61 v62 v63 v64 v65 v66 wr=>∃(j:Nat) (s:Qs),j≤nx2∧v10=.int .i64 (j:Int)∧Hid (anyQ (fun t=>Q t k) xi s0=anyQ (fun t=>Q t k) (xi.drop j) s∧M s wr∧Blk wr q7 KX 36∧Blk wr q8 KY 36)) (fun v10 _ _ _ _ _ _ _ _ _ _ _ _ _ _ _ _=>nx2-(intOf v10).toNat)
  case atStart=>exact⟨0,s0,Nat.zero_le _,rfl,hst0⟩
  case round=>
   obtain⟨j,s,hj,rfl,hst⟩:=hrel
   clear hst0 hMz hB7 hB8
   have cy:=(ca.out wr hst.out.2.2.1).2.2.2.2.1
   by_cases hjn:j<nx2
   ·have hjn':(j:Int)<(nx2:Int):=by omega
    obtain⟨t,hte⟩:∃z,xi[j]?=some z:=⟨_,List.getElem?_eq_getElem (by have:=hnx2.out;omega)⟩
    obtain⟨b3,o3,rfl,hzz,hc⟩:=(hr2.out.ext (hMx.out _ _ hst.out.2.1)).at_ (k:=j) (by simp only[intsZ,List.length_map];have:=hnx2.out;omega)
    clear hzz
    have hck:wr.cell? ⟨b3,o3+j,none⟩=some (.int .i64 t):=hc j _ (by simp[intsZ,hte])
    clear hc
    have hcall:=hrd.out s wr hst.out.2.1 t (k:Int) (hwa.out.its t (List.mem_of_getElem? hte)) (by omega)
    have hat:=hst.out.1.trans (anyQ_at (q:=fun t=>Q t k) hte s)
    clear hte
    obtain⟨o,ho⟩:∃z,Hid (Q t (k:Int) s=z):=⟨_,rfl⟩
    simp only[ho.out] at hat hcall
    replace hat:=Lib.hid hat
    obtain⟨o1,o2⟩:=o
    go_wp2_with fail
    refine hcall.mono ?_
    rintro en w9 ⟨rfl,hM9,hk9⟩
    have hB9:=stay.out _ _ hk9 hst.out.2.2
    replace hM9:=Lib.hid hM9
    clear hcall hk9 hst ho
    cases o1 with
    | false=>
     have hnx:=Lib.hid (And.intro (hat.out.trans (if_neg (by simp))) (And.intro hM9.out hB9))
     clear hB9 hat hM9
     go_wp2_with fail
     go_roundw
     case rel=>exact⟨j+1,o2,by omega,by go_num,hnx⟩
     case measure=>simp[intOf]<;>omega
    | true=>
     have hf:=fin.out true o2 w9 (hat.out.trans (if_pos rfl)) hM9.out
     clear hB9 hat hM9
     go_wp2_with fail
     exact hf
   ·obtain rfl:j=nx2:=by omega
    have e:anyQ (fun t=>Q t k) xi s0=(false,s):=by
     rw[hst.out.1,List.drop_eq_nil_of_le (by have:=hnx2.out;omega)];rfl
    have hf:=fin.out false s wr e hst.out.2.1
    clear e hst
    go_wp2_with fail
    exact hf
 have hx8:((xk:Int) == 8)=false:=by simpa using x8
 simp only[if_neg y8,if_neg x8] at fin
 replace fin:=Lib.hid fin.out
 by_cases xy:¬xk=yk∨xk<6
 ·have hc:=promR_any xk yk wz
  have hg:=fun W (hW:Ext wz W)=>fin.out (promP xk yk) s0 W (by rw[if_pos xy]) (hext.out _ _ _ hMz.out hW)
  obtain⟨v,hv'⟩:∃z,Hid (promP xk yk=z):=⟨_,rfl⟩
  simp only[hv'.out] at hc hg
  replace hg:=Lib.hid hg
  by_cases hxy:xk=yk
  ·subst hxy
   have h6:xk<6:=by omega
   go_wp2_with fail
   refine hc.mono ?_
   rintro en wA ⟨rfl,hxA⟩
   have hf:=hg.out wA hxA
   clear hc
   go_wp2_with fail
   exact hf
  ·have hxy':((xk:Int) == yk)=false:=by simpa using hxy
   go_wp2_with fail
   refine hc.mono ?_
   rintro en wA ⟨rfl,hxA⟩
   have hf:=hg.out wA hxA
   clear hc
   go_wp2_with fail
   exact hf
 obtain rfl:xk=yk:=by
  by_cases h:xk=yk
  ·exact h
  ·exact absurd (.inl h) xy
 have hx6:¬xk<6:=fun h=>xy (.inr h)
 simp only[eq_self,not_true_eq_false,false_or,hx6,if_false] at fin
 replace fin:=Lib.hid fin.out
 clear xy
 by_cases x67:xk=6∨xk=7
 ·obtain⟨t,ht⟩:=hwa.out.one x67
  obtain⟨u,hu⟩:=hwb.out.one x67
  simp only at ht hu
  subst ht;subst hu
  obtain rfl:1=nx2:=hnx2.out
  obtain rfl:1=ny2:=hny2.out
  simp only[if_pos x67,List.getD_cons_zero] at fin
  replace fin:=Lib.hid fin.out
  have hxz:=hMx.out _ _ hMz.out
  obtain⟨ab,ao,rfl,_,ac⟩:=(hr2.out.ext hxz).at_ (k:=0) (by simp[intsZ])
  obtain⟨bb,bo,rfl,_,bc⟩:=(hq2.out.ext hxz).at_ (k:=0) (by simp[intsZ])
  have ac0:=ac 0 (.int .i64 t) (by simp[intsZ])
  have bc0:=bc 0 (.int .i64 u) (by simp[intsZ])
  clear ac bc hxz
  simp only[Nat.add_zero] at ac0 bc0
  have hcall:=fun W (hW:Ext wz W)=>hrd.out s0 W (hext.out _ _ _ hMz.out hW) t u (hwa.out.its t (by simp)) (hwb.out.its u (by simp))
  replace hcall:=Lib.hid hcall
  have e1:∀W,Ext wz W→W.cell? ⟨q7,4,none⟩=some (.slice (some ⟨ab,ao,none⟩) 1 d2):=fun W hW=>hW.cell cx4
  have e2:∀W,Ext wz W→W.cell? ⟨q8,4,none⟩=some (.slice (some ⟨bb,bo,none⟩) 1 f2):=fun W hW=>hW.cell cy4
  have e3:∀W,Ext wz W→W.cell? ⟨ab,ao,none⟩=some (.int .i64 t):=fun W hW=>hW.cell ac0
  have e4:∀W,Ext wz W→W.cell? ⟨bb,bo,none⟩=some (.int .i64 u):=fun W hW=>hW.cell bc0
  clear ac0 bc0
  rcases x67 with rfl|rfl
  all_goals
   go_wp2_with fail
   refine Reg.startE (by kernel_rfl) ?_
   iterate 9 ((first|refine Reg.tn ?_|refine Reg.sn ?_);(try simp only[Reg.nn]))
   refine Reg.onlyS 9 _ rfl (by kernel_rfl) (by kernel_rfl) (by decide) (by rfl) (fun W hW K hK=>?_)
   go_simp
   refine (hcall.out W hW).mono ?_
   rintro en wX ⟨rfl,hMX,_⟩
   refine hK.out _ _ ?_;clear hK K;(try simp only[Reg.nn])
   iterate 1 ((first|refine Reg.tn ?_|refine Reg.sn ?_);(try simp only[Reg.nn]))
   refine Reg.fin (by kernel_rfl) (fun W hW=>?_)
   have hf:=fin.out _ _ W rfl (hext.out _ _ _ hMX hW)
   clear hMX
   go_wp2_with fail
   exact hf
 have h6:((xk:Int) == 6)=false:=by simp;omega
 have h7:((xk:Int) == 7)=false:=by simp;omega
 have hk12:=hwa.out.k12
 simp only at hk12
 simp only[if_neg x67] at fin
 replace fin:=Lib.hid fin.out
 by_cases hn:xn=yn
 case neg=>
  have hbn:=str_ne hn
  have hf:=fin.out false s0 wz (by rw[if_pos (.inl hn)]) hMz.out
  go_wp2_with fail
  exact hf
 subst hn
 have hcall:=fun W (hW:Ext wz W)=>hfl.out s0 W (hext.out _ _ _ hMz.out hW) xf yf A3 B3 nx3 d3 ny3 f3 (fun W hW=>hr3.out.ext hW) (fun W hW=>hq3.out.ext hW) hnx3.out hny3.out lnx.2.2 lny.2.2 hwa.out.fls hwb.out.fls
 replace hcall:=Lib.hid hcall
 by_cases h10:xk=10
 ·subst h10
  by_cases hz:xz=yz
  ·subst hz
   simp only[not_true,false_or,and_false,if_false,show ¬((10:Int)=9) by decide,false_and] at fin
   replace fin:=Lib.hid fin.out
   go_wp2_with fail
   go_loopw [11,12,13,117,118,119,120,121,122,123,124,125,126,127,128,129,130,131,132,133,134,135,136,137,138,139,140,141,142,143,144,145,146,147,148,149,150,151] (fun v11 v12 v13 v117 v118 v119 v120 v121 v122 v123 v124 v125 v126 v127 v128 v129 v130 v131 v132 v133 v134 v135 v136 v137 v138 v139 v140 v141 v142 v143 v144 v145 v146 v147 v148 v149 v150 v151 wr=>wr=wz) (fun v11 _ _ _ _ _ _ _ _ _ _ _ _ _ _ _ _ _ _ _ _ _ _ _ _ _ _ _ _ _ _ _ _ _ _ _ _ _ _=>0)
   case atStart=>rfl
   case round=>
    obtain rfl:=hrel
    have hc2:=hcall.out _ (Ext.refl _)
    go_wp2_with fail
    refine hc2.mono ?_
    rintro en wX ⟨rfl,hMX⟩
    have hf:=fin.out _ _ wX rfl hMX
    clear hc2 hMX
    go_wp2_with fail
    exact hf
  ·have hbz:((xz:Int) == yz)=false:=by simpa using hz
   have hf:=fin.out false s0 wz (by rw[if_pos (.inr ⟨rfl,hz⟩)]) hMz.out
   go_wp2_with fail
   exact hf
 have h10':((xk:Int) == 10)=false:=by simpa using h10
 simp only[not_true,false_or,h10,false_and,if_false] at fin
 replace fin:=Lib.hid fin.out
 by_cases x9:xk=9
 case neg=>
  have h9:((xk:Int) == 9)=false:=by simpa using x9
  simp only[x9,false_and,if_false] at fin
  replace fin:=Lib.hid fin.out
  go_wp2_with fail
  go_loopw [11,12,13,117,118,119,120,121,122,123,124,125,126,127,128,129,130,131,132,133,134,135,136,137,138,139,140,141,142,143,144,145,146,147,148,149,150,151] (fun v11 v12 v13 v117 v118 v119 v120 v121 v122 v123 v124 v125 v126 v127 v128 v129 v130 v131 v132 v133 v134 v135 v136 v137 v138 v139 v140 v141 v142 v143 v144 v145 v146 v147 v148 v149 v150 v151 wr=>wr=wz) (fun v11 _ _ _ _ _ _ _ _ _ _ _ _ _ _ _ _ _ _ _ _ _ _ _ _ _ _ _ _ _ _ _ _ _ _ _ _ _ _=>0)
  case atStart=>rfl
  case round=>
   obtain rfl:=hrel
   have hc2:=hcall.out _ (Ext.refl _)
   go_wp2_with fail
   refine hc2.mono ?_
   rintro en wX ⟨rfl,hMX⟩
   have hf:=fin.out _ _ wX rfl hMX
   clear hc2 hMX
   go_wp2_with fail
   exact hf
 subst x9
 simp only[true_and] at fin
 replace fin:=Lib.hid fin.out
 have hst0:Hid (symsIn xs (ys.take 0)=true∧Ext wz wz):=Lib.hid ⟨by simp[symsIn],Ext.refl wz⟩
 go_wp2_with fail
 clear cx0 cx1 cx2 cx3 cx4 cx5 cy0 cy1 cy2 cy3 cy4 cy5
 go_loopw [11,12,13,117,118,119,120,121,122,123,124,125,126,127,128,129,130,131,132,133,134,135,136,137,138,139,140,141,142,143,144,145,146,147,148,149,150,151] (fun v11 v12 v13 v117 v118 v119 v120 v121 v122 v123 v124 v125 v126 v127 v128 v129 v130 v131 v132 v133 v134 v135 v136 v137 v138 v139 v140 v141 v142 v143 v144 v145 v146 v147 v148 v149 v150 v151 wr=>∃j:Nat,j≤ny1∧v11=.int .i64 (j:Int)∧Hid (symsIn xs (ys.take j)=true∧Ext wz wr)) (fun v11 _ _ _ _ _ _ _ _ _ _ _ _ _ _ _ _ _ _ _ _ _ _ _ _ _ _ _ _ _ _ _ _ _ _ _ _ _ _=>ny1-(intOf v11).toNat)
 case atStart=>exact⟨0,Nat.zero_le _,rfl,hst0⟩
 case round=>
  obtain⟨j,hj,rfl,hst⟩:=hrel
  clear hst0
  have hx:=hst.out.2
  obtain⟨k0,_,_,k3,_,k5⟩:=ca.out wr (hB7.out.ext hx)
  obtain⟨_,_,_,l3,_,l5⟩:=cb.out wr (hB8.out.ext hx)
  by_cases hjn:j<ny1
  ·have hjn':(j:Int)<(ny1:Int):=by omega
   obtain⟨t,hte⟩:∃z,ys[j]?=some z:=⟨_,List.getElem?_eq_getElem (by have:=hny1.out;omega)⟩
   have hw0:Ext w0 wz:=hMx.out _ _ hMz.out
   obtain⟨b3,o3,rfl,hzz,hc⟩:=(hq1.out.ext hw0).at_ (k:=j) (by simp only[txs,List.length_map];have:=hny1.out;omega)
   clear hzz
   have hck:∀W,Ext wz W→W.cell? ⟨b3,o3+j,none⟩=some (.string t):=fun W hW=>hW.cell (hc j _ (by simp[txs,hte]))
   have Hte:=Lib.hid hte
   clear hc hte
   replace hx:=Lib.hid hx
   have hst1:Hid (Value.bool false=.bool ((xs.take 0).any fun u=>decide (u=t))∧Ext wz wr):=Lib.hid ⟨rfl,hx.out⟩
   go_wp2_with fail
   clear k0 k3 k5 l3 l5
   go_loopw [12,13,129,130,131,132,133,134,135,136,137,138,139,140,141,142,143,144,145,146,147,148,149] (fun v12 v13 v129 v130 v131 v132 v133 v134 v135 v136 v137 v138 v139 v140 v141 v142 v143 v144 v145 v146 v147 v148 v149 wr=>∃m:Nat,m≤nx1∧v13=.int .i64 (m:Int)∧Hid (v12=.bool ((xs.take m).any fun u=>decide (u=t))∧Ext wz wr)) (fun _ v13 _ _ _ _ _ _ _ _ _ _ _ _ _ _ _ _ _ _ _ _ _ _=>nx1-(intOf v13).toNat)
   case atStart=>exact⟨0,Nat.zero_le _,rfl,hst1⟩
   case round=>
    obtain⟨m,hm,rfl,hst2⟩:=hrel
    clear hst1
    obtain⟨hv12,hx2⟩:=hst2.out
    subst hv12
    clear hst2
    obtain⟨k0,_,_,k3,_,k5⟩:=ca.out wr (hB7.out.ext hx2)
    obtain⟨_,_,_,l3,_,l5⟩:=cb.out wr (hB8.out.ext hx2)
    by_cases hmn:m<nx1
    ·have hmn':(m:Int)<(nx1:Int):=by omega
     obtain⟨u,hue⟩:∃z,xs[m]?=some z:=⟨_,List.getElem?_eq_getElem (by have:=hnx1.out;omega)⟩
     obtain⟨b4,o4,rfl,hzz,hc⟩:=(hr1.out.ext (hw0.trans hx2)).at_ (k:=m) (by simp only[txs,List.length_map];have:=hnx1.out;omega)
     clear hzz
     have hcu:∀W,Ext wr W→W.cell? ⟨b4,o4+m,none⟩=some (.string u):=fun W hW=>hW.cell (hc m _ (by simp[txs,hue]))
     have hct:∀W,Ext wr W→W.cell? ⟨b3,o3+j,none⟩=some (.string t):=fun W hW=>hck W (hx2.trans hW)
     have hk3:∀W,Ext wr W→W.cell? ⟨q7,3,none⟩=some (.slice (some ⟨b4,o4,none⟩) nx1 d1):=fun W hW=>hW.cell k3
     have hl3:∀W,Ext wr W→W.cell? ⟨q8,3,none⟩=some (.slice (some ⟨b3,o3,none⟩) ny1 f1):=fun W hW=>hW.cell l3
     have hsn:=any_snoc (s:=t) hue
     clear hc hue k0 k5 l3 l5
     obtain⟨v,hv⟩:∃z,Hid ((xs.take m).any (fun u=>decide (u=t))=z):=⟨_,rfl⟩
     rw[hv.out] at hsn ⊢
     cases v with
     | true=>
      rw[Bool.true_or] at hsn
      have hsn':∀W,Ext wr W→Hid (Value.bool true=.bool ((xs.take (m+1)).any fun u=>decide (u=t))∧Ext wz W):=fun W hW=>Lib.hid ⟨by rw[hsn],hx2.trans hW⟩
      replace hsn':=Lib.hid hsn'
      clear hsn
      go_wp2_with fail
      refine Reg.startE (by kernel_rfl) ?_
      iterate 15 ((first|refine Reg.tn ?_|refine Reg.sn ?_);(try simp only[Reg.nn]))
      refine Reg.fin (by kernel_rfl) (fun W hW=>?_)
      have hnx:=hsn'.out W hW
      clear hcu hct hk3 hl3
      go_wp2_with fail
      go_roundw
      case rel=>exact⟨m+1,by omega,by go_num,hnx⟩
      case measure=>simp[intOf]<;>omega
     | false=>
      rw[Bool.false_or] at hsn
      by_cases hut:u=t
      ·rw[decide_eq_true hut] at hsn
       have hsn':∀W,Ext wr W→Hid (Value.bool true=.bool ((xs.take (m+1)).any fun u=>decide (u=t))∧Ext wz W):=fun W hW=>Lib.hid ⟨by rw[hsn],hx2.trans hW⟩
       replace hsn':=Lib.hid hsn'
       clear hsn hv
       subst hut
       go_wp2_with fail
       refine Reg.startE (by kernel_rfl) ?_
       iterate 15 ((first|refine Reg.tn ?_|refine Reg.sn ?_);(try simp only[Reg.nn]))
       refine Reg.fin (by kernel_rfl) (fun W hW=>?_)
       have hnx:=hsn'.out W hW
       clear hcu hct hk3 hl3
       go_wp2_with fail
       go_roundw
       case rel=>exact⟨m+1,by omega,by go_num,hnx⟩
       case measure=>simp[intOf]<;>omega
      ·have hbu:=str_ne hut
       rw[decide_eq_false hut] at hsn
       have hsn':∀W,Ext wr W→Hid (Value.bool false=.bool ((xs.take (m+1)).any fun u=>decide (u=t))∧Ext wz W):=fun W hW=>Lib.hid ⟨by rw[hsn],hx2.trans hW⟩
       replace hsn':=Lib.hid hsn'
       clear hsn hv
       go_wp2_with fail
       refine Reg.startE (by kernel_rfl) ?_
       iterate 15 ((first|refine Reg.tn ?_|refine Reg.sn ?_);(try simp only[Reg.nn]))
       refine Reg.fin (by kernel_rfl) (fun W hW=>?_)
       have hnx:=hsn'.out W hW
       clear hcu hct hk3 hl3
       go_wp2_with fail
       go_roundw
       case rel=>exact⟨m+1,by omega,by go_num,hnx⟩
       case measure=>simp[intOf]<;>omega
    ·obtain rfl:m=nx1:=by omega
     rw[List.take_of_length_le (by have:=hnx1.out;omega)]
     cases hany:(xs.any fun u=>decide (u=t)) with
     | true=>
      have hnx:Hid (symsIn xs (ys.take (j+1))=true∧Ext wz wr):=Lib.hid ⟨by rw[symsIn_snoc Hte.out,hst.out.1,hany];rfl,hx2⟩
      clear hany
      go_wp2_with fail
      go_roundw
      case rel=>exact⟨j+1,by omega,by go_num,hnx⟩
      case measure=>simp[intOf]<;>omega
     | false=>
      have hf:=fin.out false s0 wr (by rw[symsIn_no Hte.out hany];rfl) (hext.out _ _ _ hMz.out hx2)
      clear hany
      go_wp2_with fail
      exact hf
  ·obtain rfl:j=ny1:=by omega
   have hsy:symsIn xs ys=true:=by
    have:=hst.out.1
    rwa [List.take_of_length_le (by have:=hny1.out;omega)] at this
   have hf2:=fun v s W=>fin.out v s W
   rw[hsy] at hf2
   have hc2:=hcall.out _ hx
   replace hf2:=Lib.hid hf2
   clear hsy
   go_wp2_with fail
   refine hc2.mono ?_
   rintro en wX ⟨rfl,hMX⟩
   have hf:=hf2.out _ _ wX rfl hMX
   clear hc2 hMX
   go_wp2_with fail
   exact hf
theorem readsC_all {a b:List Ne} {vR vW:Value} {w0:World} {qx:Nat} (hSa:Sch w0.heap.size w0 vR a) (hSb:Sch w0.heap.size w0 vW b) (hla:a.length≤5000) (hlb:b.length≤5000) (hwa:∀d∈a,WE a.length d) (hwb:∀d∈b,WE b.length d):∀f,ReadsC a b vR vW w0 qx f
 | 0=>by
  intro i k s nV aV W hi hk hs hf
  have:=length_rng hs.nd2 hs.r2
  omega
 | f+1=>reads_of hla hlb hwa hwb (holds_of hSa hSb hla hlb hwa hwb (readsC_all hSa hSb hla hlb hwa hwb f) (fields_of hwa hwb (readsC_all hSa hSb hla hlb hwa hwb f)))
theorem XX.reset {w0:World} {qx:Nat} {vR vW:Value} {s:Qs} {nV aV:Value} {W:World} (h:XX w0 qx vR vW s nV aV W) :
  XX w0 qx vR vW (s.1,[]) nV (.slice (some ⟨W.heap.size,0,none⟩) 0 0) ((W.alloc (.cells #[] 113)).setCell ⟨qx,3,none⟩ (.slice (some ⟨W.heap.size,0,none⟩) 0 0)):=by
 have hx:Ext W (W.alloc (.cells #[] 113)):=(Ext.refl W).alloc _
 have hb:=h.blk.ext hx
 refine⟨by simpa using hb.set 3 _,own_setCell (own_ext h.no hx) hb (by decide) _,own_setCell (World.ownsRow_lit W #[] 0 h.x.size (Nat.zero_le _) rfl) hb (by decide) _,?_,(h.x.trans hx).setCell h.hq _,h.hq⟩
 cases hn:nV.ownBlock with
 | none=>exact .inl rfl
 | some k=>
  refine .inr fun e=>?_
  have:=(h.no.lt k hn).2
  have e2:some k=some W.heap.size:=e
  injection e2 with e2
  omega
open Classical in
theorem gb_no {a b:List Ne} {i k:Int} (h:¬InR a b i k):GB a b i k=false:=by unfold GB;exact decide_eq_false h
open Classical in
theorem gb_yes {a b:List Ne} {i k:Int} (h:InR a b i k):GB a b i k=true:=by unfold GB;exact decide_eq_true h
def leftM (M qx:Nat) (W:World):Nat:=match W.cell? ⟨qx,2,none⟩ with
 | some (.slice _ n _)=>M-n
 | _=>0
set_option maxHeartbeats 3000000 in
theorem Reads_any {a b:List Ne} {vR vW:Value} (w:World) (hSa:Sch w.heap.size w vR a) (hSb:Sch w.heap.size w vW b) (hla:a.length≤5000) (hlb:b.length≤5000) (hwa:∀d∈a,WE a.length d) (hwb:∀d∈b,WE b.length d) (i k:Nat) (hi:i<a.length) (hk:k<b.length) :
  Calls Tryz.prog 24 #[.agg #[vR],.agg #[vW],.int .i64 (i:Int),.int .i64 (k:Int)] w fun en w'=>en=.returned (.bool (GB a b i k))∧Ext w w':=by
 obtain⟨PO,hPO⟩:∃PO:Ending→World→Prop,Hid ((fun en w'=>en=.returned (.bool (GB a b i k))∧Ext w w')=PO):=⟨_,Lib.hid rfl⟩
 rw[hPO.out]
 obtain⟨q,hq⟩:∃z,Hid (w.heap.size+1+1=z):=⟨_,rfl⟩
 obtain⟨M,hM⟩:∃z,Hid (a.length*b.length=z):=⟨_,rfl⟩
 obtain⟨f,hf⟩:∃z,Hid (M+1=z):=⟨_,rfl⟩
 have hC:=readsC_all (qx:=q) hSa hSb hla hlb hwa hwb f
 have hask:=fun (N:List P2) (hN:Fine a b (N,[]))=>asked (f:=f) hwa hwb hN (by rw[hM.out,←hf.out];exact Nat.le_refl _) hi hk
 have hcall:∀(N:List P2) (nV aV:Value) (W:World),Fine a b (N,[])→XX w q vR vW (N,[]) nV aV W→Calls Tryz.prog 51 #[.pointer (some ⟨q,0,none⟩),.int .i64 (i:Int),.int .i64 (k:Int)] W fun en W'=>∃nV' aV',en=.returned (.bool (readsQ a b f i k (N,[])).1)∧XX w q vR vW (readsQ a b f i k (N,[])).2 nV' aV' W':=fun N nV aV W hN hX=>
  (hC i k (N,[]) nV aV W hi hk hN (by rw[hM.out,←hf.out];simp) hX).mono (by rintro en W' ⟨n1,a1,h1,h2,_⟩;exact⟨n1,a1,h1,h2⟩)
 have hlen:∀N,Fine a b (N,[])→N.length≤M:=fun N hN=>by rw[←hM.out];exact length_rng hN.nd1 hN.r1
 have fin0:∀W,¬InR a b i k→Ext w W→PO (.returned (.bool false)) W:=fun W h1 h2=>by
  rw[←hPO.out];exact⟨by rw[gb_no h1],h2⟩
 have fin1:∀W,InR a b i k→Ext w W→PO (.returned (.bool true)) W:=fun W h1 h2=>by
  rw[←hPO.out];exact⟨by rw[gb_yes h1],h2⟩
 have hF0:Fine a b ([],[]):=⟨List.nodup_nil,List.nodup_nil,fun p hp=>(by cases hp),fun p hp=>(by cases hp),fun p hp=>(by cases hp)⟩
 obtain⟨w1,hw1⟩:∃z,Hid (((w.alloc (.cells #[vR] 24)).alloc (.cells #[vW] 24)).alloc (.cells #[vR,vW,.slice none 0 0,.slice none 0 0] 76)=z):=⟨_,rfl⟩
 have hX0:XX w q vR vW ([],[]) (.slice none 0 0) (.slice none 0 0) w1:=by
  have hb:Blk w1 q #[vR,vW,.slice none 0 0,.slice none 0 0] 76:=by
   have hn:=Blk.new ((w.alloc (.cells #[vR] 24)).alloc (.cells #[vW] 24)) #[vR,vW,.slice none 0 0,.slice none 0 0] 76
   rw[World.size_alloc,World.size_alloc,hq.out,hw1.out] at hn
   exact hn
  have hx1:Ext w w1:=by rw[←hw1.out];exact (((Ext.refl w).alloc _).alloc _).alloc _
  exact⟨hb,⟨rfl,.inl ⟨rfl,rfl⟩⟩,⟨rfl,.inl ⟨rfl,rfl⟩⟩,.inl rfl,hx1,by rw[←hq.out];omega⟩
 have hq2:((w.alloc (.cells #[vR] 24)).alloc (.cells #[vW] 24)).heap.size=q:=by rw[World.size_alloc,World.size_alloc,hq.out]
 obtain⟨A1,k1,c1,rfl⟩:=Rv.Sch.slice hSa
 obtain⟨A2,kk,c2,rfl⟩:=Rv.Sch.slice hSb
 have hst0:Hid (XX w q (.slice A1 k1 c1) (.slice A2 kk c2) ([],[]) (.slice none 0 0) (.slice none 0 0) w1∧Fine a b ([],[])):=Lib.hid ⟨hX0,hF0⟩
 clear hX0 hF0 hC hSa hSb hPO hwa hwb hla hlb
 replace hask:=Lib.hid hask
 replace hcall:=Lib.hid hcall
 replace hlen:=Lib.hid hlen
 replace fin0:=Lib.hid fin0
 replace fin1:=Lib.hid fin1
 replace hi:=Lib.hid hi
 replace hk:=Lib.hid hk
 go_enter Tryz.func24,Tryz.ntmps24
 go_wp2_with fail
 rw[hw1.out]
 try rw[hq.out]
 go_loopw [10,15,16,17,18,19,20,21,22,23,24,25,26,27,28,29,30,31,32,33,34,35] (fun v10 v15 v16 v17 v18 v19 v20 v21 v22 v23 v24 v25 v26 v27 v28 v29 v30 v31 v32 v33 v34 v35 wr=>∃(N A:List P2) (nV aV:Value),Hid (XX w q (.slice A1 k1 c1) (.slice A2 kk c2) (N,A) nV aV wr∧Fine a b (N,[]))) (fun _ _ _ _ _ _ _ _ _ _ _ _ _ _ _ _ _ _ _ _ _ _ W=>leftM M q W)
 case atStart=>exact⟨[],[],_,_,hst0⟩
 case round=>
  obtain⟨N,A,nV,aV,hst⟩:=hrel
  clear hst0
  obtain⟨An,cn,en,_,_,_,_⟩:=Rd.of_own hst.out.1.no
  obtain⟨n1,hn1⟩:∃z,Hid (N.length=z):=⟨_,rfl⟩
  replace en:nV=.slice An n1 cn:=by rw[en];show Value.slice An N.length cn=_;rw[hn1.out]
  subst en
  have cc:=hst.out.1.cells
  have hbk:=hst.out.1.blk.ext ((Ext.refl wr).alloc (.cells #[] 113))
  have k2:=cc.2.2.1
  have k3:=hbk.cell 3
  have f3:=hbk.frozen 3
  simp only[List.getElem?_toArray,List.getElem?_cons_zero,List.getElem?_cons_succ] at k3
  clear cc hbk
  have hXr:=hst.out.1.reset
  have hca:=hcall.out N _ _ _ hst.out.2 hXr
  have hM1:leftM M q wr=M-n1:=by unfold leftM;rw[k2]
  replace hXr:=Lib.hid hXr
  replace hM1:=Lib.hid hM1
  go_wp2_with fail
  refine hca.mono ?_
  rintro e w5 ⟨nV5,aV5,rfl,hX5⟩
  clear hca hXr k2 k3 f3
  have hak:=hask.out N hst.out.2
  obtain⟨o,ho⟩:∃z,Hid (readsQ a b f i k (N,[])=z):=⟨_,Lib.hid rfl⟩
  rw[ho.out] at hX5 hak ⊢
  obtain⟨ok,N5,A5⟩:=o
  simp only at hak
  obtain⟨a1,⟨t,a2⟩,a3,a4⟩:=hak
  cases ok with
  | false=>
   have hf:=fin0.out w5 (a3 rfl) hX5.x
   clear a1 a2 a3 a4 hX5
   go_wp2_with fail
   exact hf
  | true=>
   have hno5:=hX5.no
   obtain⟨Am,cm,em,_,_,_,_⟩:=Rd.of_own hno5
   obtain⟨n5,hn5⟩:∃z,Hid (N5.length=z):=⟨_,rfl⟩
   replace em:nV5=.slice Am n5 cm:=by rw[em];show Value.slice Am N5.length cm=_;rw[hn5.out]
   subst em
   have k2:=hX5.cells.2.2.1
   have ht:n5=n1+t.length:=by rw[←hn5.out,←hn1.out,a2,List.length_append]
   by_cases he:n5=n1
   ·have hN:N5=N:=by
     rw[a2];rw[he] at ht
     have:t=[]:=List.length_eq_zero_iff.1 (by omega)
     rw[this,List.append_nil]
    have hf:=fin1.out w5 (a4 rfl hN) hX5.x
    clear a1 a2 a3 a4 hX5 hno5 hN ht
    subst he
    go_wp2_with fail
    exact hf
   ·have hle:=hlen.out N5 a1
    rw[hn5.out] at hle
    have hM5:leftM M q w5=M-n5:=by unfold leftM;rw[k2]
    have hb:(((n5:Nat):Int) == ((n1:Nat):Int))=false:=by simp;omega
    have hfin5:M-n5<M-n1:=by omega
    have hst5:Hid (XX w q (.slice A1 k1 c1) (.slice A2 kk c2) (N5,A5) (.slice Am n5 cm) aV5 w5∧Fine a b (N5,[])):=Lib.hid ⟨hX5,a1⟩
    replace hfin5:=Lib.hid hfin5
    replace hM5:=Lib.hid hM5
    clear a1 a2 a3 a4 hX5 hno5 ht hle
    go_wp2_with fail
    go_roundw
    case rel=>exact⟨N5,A5,_,_,hst5⟩
    case measure=>first|(rw[hM1.out,hM5.out];exact hfin5.out)|(show leftM M q w5<leftM M q wr;rw[hM1.out,hM5.out];exact hfin5.out)
end Rx
namespace Rx
open Base Lx Mi Pr Rv
open Classical in
theorem gB_canB {a b:List Ne} {ta tb:List UInt8} (ha:showP a=some ta) (hb:showP b=some tb):GB a b ((0:Nat):Int) ((0:Nat):Int)=canB a b:=by
 by_cases hc:InR a b ((0:Nat):Int) ((0:Nat):Int)
 ·rw[gb_yes hc]
  unfold canB
  exact (decide_eq_true (show CanR a b from⟨by rw[ha];rfl,by rw[hb];rfl,hc⟩)).symm
 ·rw[gb_no hc]
  unfold canB
  exact (decide_eq_false (show ¬CanR a b from fun h=>hc h.2.2)).symm
theorem shV_parts (a:List Ne):∃S er,shV (showP a)=.tuple #[.string S,.int .i64 er]∧((er=0∧∃t,showP a=some t)∨(er=1∧showP a=none)):=by
 cases showP a with
 | none=>exact⟨_,_,rfl,.inr ⟨rfl,rfl⟩⟩
 | some s=>exact⟨_,_,rfl,.inl ⟨rfl,s,rfl⟩⟩
set_option maxHeartbeats 2000000 in
theorem rCan_any (a b:List Ne) (va vb:Value) (w:World) (hSa:Sch w.heap.size w va a) (hSb:Sch w.heap.size w vb b) (hLa:showRLen a≤100000000) (hLb:showRLen b≤100000000) :
  Calls Tryz.prog 21 #[.agg #[va],.agg #[vb]] w fun en w'=>en=.returned (.bool (canB a b))∧Ext w w':=by
 obtain⟨A1,k1,c1,rfl⟩:=Rv.Sch.slice hSa
 obtain⟨A2,k2,c2,rfl⟩:=Rv.Sch.slice hSb
 obtain⟨q,hq⟩:∃z,Hid (w.heap.size=z):=⟨_,rfl⟩
 obtain⟨w1,hw1⟩:∃z,Hid ((w.alloc (.cells #[.slice A1 k1 c1] 24)).alloc (.cells #[.slice A2 k2 c2] 24)=z):=⟨_,rfl⟩
 have hx1:Ext w w1:=by rw[←hw1.out];exact ((Ext.refl w).alloc _).alloc _
 have hbA:Blk w1 q #[.slice A1 k1 c1] 24:=by rw[←hw1.out,←hq.out];exact (Blk.new w _ _).ext ((Ext.refl _).alloc _)
 have hbB:Blk w1 (q+1) #[.slice A2 k2 c2] 24:=by
  have hn:=Blk.new (w.alloc (.cells #[.slice A1 k1 c1] 24)) #[.slice A2 k2 c2] 24
  rw[World.size_alloc,hq.out,hw1.out] at hn
  exact hn
 have S1:∀W,Ext w1 W→Sch W.heap.size W (.slice A1 k1 c1) a:=fun W hW=>(hSa.below (hx1.trans hW)).mono (hx1.trans hW).size
 have S2:∀W,Ext w1 W→Sch W.heap.size W (.slice A2 k2 c2) b:=fun W hW=>(hSb.below (hx1.trans hW)).mono (hx1.trans hW).size
 have cA:∀W,Ext w1 W→W.cell? ⟨q,0,none⟩=some (.slice A1 k1 c1):=fun W hW=>by have:=(hbA.ext hW).cell 0;simpa using this
 have cB:∀W,Ext w1 W→W.cell? ⟨q+1,0,none⟩=some (.slice A2 k2 c2):=fun W hW=>by have:=(hbB.ext hW).cell 0;simpa using this
 have hs1:=refShow_any _ _ w1 (S1 w1 (Ext.refl _)) hLa
 have hs2:=fun W hW=>refShow_any _ _ W (S2 W hW) hLb
 have g1:=cA w1 (Ext.refl _)
 obtain⟨Sa,ea,ha,hea⟩:=shV_parts a
 obtain⟨Sb,eb,hb,heb⟩:=shV_parts b
 rw[ha] at hs1
 simp only[hb] at hs2
 obtain⟨r,hr⟩:∃z,Hid (canB a b=z):=⟨_,rfl⟩
 obtain⟨PO,hPO⟩:∃PO:Ending→World→Prop,Hid ((fun en w'=>en=.returned (.bool (canB a b))∧Ext w w')=PO):=⟨_,Lib.hid rfl⟩
 have fin:∀v W,canB a b=v→Ext w W→PO (.returned (.bool v)) W:=fun v W h hW=>by rw[←hPO.out,h];exact⟨rfl,hW⟩
 rw[hPO.out]
 replace hs2:=Lib.hid hs2
 replace cA:=Lib.hid cA
 replace cB:=Lib.hid cB
 replace fin:=Lib.hid fin
 have hcan:∀ta tb,showP a=some ta→showP b=some tb→∀W,Ext w1 W→Calls Tryz.prog 24 #[.agg #[.slice A1 k1 c1],.agg #[.slice A2 k2 c2],.int .i64 0,.int .i64 0] W fun en w'=>en=.returned (.bool (canB a b))∧Ext W w':=fun ta tb h1 h2 W hW=>by
  have e1:=show_we h1
  have e2:=show_we h2
  have:=Reads_any W (S1 W hW) (S2 W hW) (by omega) (by omega) e1.2.2 e2.2.2 0 0 e1.1 e2.1
  rw[gB_canB h1 h2] at this
  exact this
 replace hcan:=Lib.hid hcan
 clear hSa hSb S1 S2 hbA hbB ha hb hLa hLb
 have pre:∀v:Bool,True:=fun _=>trivial
 clear pre
 rcases hea with⟨rfl,ta,hta⟩|⟨rfl,hta⟩
 ·rcases heb with⟨rfl,tb,htb⟩|⟨rfl,htb⟩
  ·have hca:=hcan.out ta tb hta htb
   rw[hr.out] at fin hca
   replace hca:=Lib.hid hca
   replace fin:=Lib.hid fin.out
   clear hta htb hcan
   go_enter Tryz.func21,Tryz.ntmps21
   go_wp2_with fail
   rw[hw1.out,hq.out]
   refine hs1.mono ?_
   rintro e w2 ⟨rfl,hx2⟩
   have k2:=cB.out w2 hx2
   have hs22:=hs2.out w2 hx2
   clear hs1 g1
   go_wp2_with fail
   refine hs22.mono ?_
   rintro e w3 ⟨rfl,hx3⟩
   have k3:=cA.out w3 (hx2.trans hx3)
   have k4:=cB.out w3 (hx2.trans hx3)
   have hc3:=hca.out w3 (hx2.trans hx3)
   clear hs22 k2
   go_wp2_with fail
   refine hc3.mono ?_
   rintro e w4 ⟨rfl,hx4⟩
   have hf:=fin.out r w4 rfl (hx1.trans (hx2.trans (hx3.trans hx4)))
   clear hc3 k3 k4
   go_wp2_with fail
   exact hf
  ·have hn:canB a b=false:=canB_no2 htb
   clear hta htb hcan
   go_enter Tryz.func21,Tryz.ntmps21
   go_wp2_with fail
   rw[hw1.out,hq.out]
   refine hs1.mono ?_
   rintro e w2 ⟨rfl,hx2⟩
   have k2:=cB.out w2 hx2
   have hs22:=hs2.out w2 hx2
   clear hs1 g1
   go_wp2_with fail
   refine hs22.mono ?_
   rintro e w3 ⟨rfl,hx3⟩
   have hf:=fin.out false w3 hn (hx1.trans (hx2.trans hx3))
   clear hs22 k2 hn
   go_wp2_with fail
   exact hf
 ·have hn:canB a b=false:=canB_no1 hta
  clear hta hcan
  rcases heb with⟨rfl,_⟩|⟨rfl,_⟩
  all_goals
   go_enter Tryz.func21,Tryz.ntmps21
   go_wp2_with fail
   rw[hw1.out,hq.out]
   refine hs1.mono ?_
   rintro e w2 ⟨rfl,hx2⟩
   have k2:=cB.out w2 hx2
   have hs22:=hs2.out w2 hx2
   clear hs1 g1
   go_wp2_with fail
   refine hs22.mono ?_
   rintro e w3 ⟨rfl,hx3⟩
   have hf:=fin.out false w3 hn (hx1.trans (hx2.trans hx3))
   clear hs22 k2 hn
   go_wp2_with fail
   exact hf
end Rx
end Go.Proofs.YtmaoochjbpohdaaGreatDoor
