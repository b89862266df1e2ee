/- suffragan/suffraganlaw12.PolicyImplies: the given statement, out of the contract of its walk. No condition. -/
import Derived.Test.YtmaoochjbpohdaaGreatDoorPqZA
set_option linter.unusedVariables false
set_option linter.unusedSimpArgs false
set_option maxRecDepth 100000
set_option maxHeartbeats 1000000
open Go.ChangeShapes Go.WideShapes Go.ChangeAt Go.RowKit
namespace Go.Proofs.YtmaoochjbpohdaaGreatDoor
namespace Pd
open Base Lx Mi Pr Rv Cn Rx Pl
theorem eql_bool (R:Bool) (W:World):(binOp .eql 4 (.bool R) (.bool R)).run Tryz.prog W=.ok (.bool true) W:=by cases R<;>kernel_rfl
theorem neq_bool (R:Bool) (W:World):(binOp .neq 4 (.bool R) (.bool R)).run Tryz.prog W=.ok (.bool false) W:=by cases R<;>kernel_rfl
theorem wpList_app0w {P:Program} {t e:TypeId} {z:Value} {size bytes:Nat} (E:El P t e z size bytes) (w:World) {ops:Array Oper} {rest:List Oper} {o:Oper} {a:Act} {Q:Exit→Act→World→Prop} (hw:Region.wanted o (yielded ops a.tmps)=true) (s x:Operand)
  (ho:o.op=.call { callee:=.builtin .append,args := #[s,x],argTypes := #[t,t] }) (base:Nat)
  (g:Nat) (hs:a.eval s=.slice (some ⟨g,0,none⟩) 0 0) (hown:w.ownsRow base e size (.slice (some ⟨g,0,none⟩) 0 0) 0 [])
  (A:Option Addr) (m c:Nat) (news:List Value) (hx:a.eval x=.slice A m c) (hr:Rd w A news) (hl:news.length=m*size) (hA:A=none→c=0)
  (hbytes:m*bytes≤140737488355328) (hby:0<bytes) (hbase:base≤w.heap.size)
  (h:∀v' w',w'.ownsRow base e size v' m news→Ext w w'→wpList P ops Q rest (a.put o.dst v') w'):wpList P ops Q (o::rest) a w:=
 Go.BigFrame.wpList_want hw fun _ hK=>wp_app0 E w s x ho base g hs hown A m c news hx hr hl hA hbytes hby hbase fun v' w' h2 h3=>hK _ _ (h v' w' h2 h3)
structure Cut6 (A:Option Addr) (n c:Nat) (l:List ByteArray) (w:World):Prop where
 row:Rd w A (txs l)
 len:l.length=n
 n6:n≤6
 nc:n≤c
 cm:c≤maxLen
 nil:A=none→c=0
 z:∀s∈l,s.size≤140737488351232
theorem cut6 {A:Option Addr} {n0 c:Nat} {l0:List ByteArray} {w:World} (hr0:Rd w A (txs l0)) (hn0:l0.length=n0) (hnc0:n0≤c) (hcm:c≤maxLen) (hA:A=none→c=0) (hz0:∀s∈l0,s.size≤140737488351232):Cut6 A (l0.take 6).length c (l0.take 6) w:=
 ⟨by have:=hr0.take 6;rwa [show (txs l0).take 6=txs (l0.take 6) by simp[txs,List.map_take]] at this,rfl,by rw[List.length_take];omega,by rw[List.length_take];omega,hcm,hA,fun s hs=>hz0 s (List.mem_of_mem_take hs)⟩
theorem Cut6.ext {A:Option Addr} {n c:Nat} {l:List ByteArray} {w w':World} (h:Cut6 A n c l w) (hx:Ext w w'):Cut6 A n c l w':=⟨h.row.ext hx,h.len,h.n6,h.nc,h.cm,h.nil,h.z⟩
set_option maxHeartbeats 2000000 in
theorem pholds_any (p:Int) (A:Option Addr) (n0 c:Nat) (l0:List ByteArray) (s:ByteArray) (w:World) (hr0:Rd w A (txs l0)) (hn0:l0.length=n0) (hnc0:n0≤c) (hcm:c≤maxLen) (hA:A=none→c=0) (hz0:∀s∈l0,s.size≤140737488351232) (hs:s.size≤140737488351232) (hwd:Wd w) (hpow:Pow w) (hN:Nms w) :
  Calls Tryz.prog 9 #[.int .i64 p,.slice A n0 c,.string s] w fun en w'=>en=.returned (.bool true)∧Ext w w':=by
 have hfew:=few12_any l0 n0 c A w hn0 hnc0
 have hC:=cut6 hr0 hn0 hnc0 hcm hA hz0
 generalize l0.take 6=l at hfew hC
 obtain⟨n,hn⟩:∃z,Hid (l.length=z):=⟨_,rfl⟩
 rw[hn.out] at hfew hC
 clear hr0 hn0 hnc0 hcm hA hz0
 have hH:=fun W A' c' (hW:Ext w W) (h':Rd W A' (txs l))=>Holds_any p A' n c' l W h' hn.out (by have:=hC.n6;omega) hC.z (hwd.ext hW) (hpow.ext hW)
 have hX:=fun W A' c' (hW:Ext w W) (h':Rd W A' (txs l))=>Next_any p A' n c' l s W h' hn.out (by have:=hC.n6;omega) hC.z hs (hwd.ext hW) (hpow.ext hW)
 have hH2:=fun W (hW:Ext w W)=>holds12_any p A n c l W (hC.row.ext hW) hn.out (by have:=hC.n6;omega) hC.z
 have hX2:=fun W (hW:Ext w W)=>next12_any p A n c l s W (hC.row.ext hW) hn.out (by have:=hC.n6;omega) hC.z hs
 have hli:=fun W (hW:Ext w W)=>lives12_any W (hwd.ext hW) (hpow.ext hW) (hN.ext hW)
 obtain⟨b1,hb1⟩:∃z,Hid (HoldsT p l=z):=⟨_,rfl⟩
 obtain⟨b2,hb2⟩:∃z,Hid (NextT p l s=z):=⟨_,rfl⟩
 simp only[hb1.out] at hH hH2
 simp only[hb2.out] at hX hX2
 have hbb1:=fun W=>eql_bool b1 W
 have hbb2:=fun W=>eql_bool b2 W
 obtain⟨PO,hPO⟩:∃PO:Ending→World→Prop,Hid ((fun en w'=>en=.returned (.bool true)∧Ext w w')=PO):=⟨_,Lib.hid rfl⟩
 have fin:∀W,Ext w W→PO (.returned (.bool true)) W:=fun W hW=>by rw[←hPO.out];exact⟨rfl,hW⟩
 rw[hPO.out]
 have hlen:(txs l).length=n*1:=by simp[txs];exact hn.out
 replace fin:=Lib.hid fin
 replace hH:=Lib.hid hH
 replace hX:=Lib.hid hX
 replace hH2:=Lib.hid hH2
 replace hX2:=Lib.hid hX2
 replace hli:=Lib.hid hli
 replace hC:=Lib.hid hC
 replace hlen:=Lib.hid hlen
 clear hs
 go_enter Tryz.func9,Tryz.ntmps9
 go_wp2_with fail
 refine hfew.mono ?_
 rintro en w2 ⟨rfl,hw2⟩
 obtain rfl:w=w2:=hw2.symm
 clear hfew
 go_wp2_with
  (refine wpList_app0 el_st _ rfl (.tmp 10) (.tmp 11) rfl 0 w.heap.size rfl (World.ownsRow_lit w #[] 0 (Nat.zero_le _) (Nat.zero_le _) rfl) A n c (txs l) rfl (hC.out.row.ext ((Ext.refl w).alloc _)) hlen.out hC.out.nil (by have:=hC.out.n6;omega) (by omega) (Nat.zero_le _) (fun v1 w1 ho1 hx1=>?_))
 have hx01:=((Ext.refl w).alloc _).trans hx1
 obtain⟨A1,c1,rfl,r1⟩:=Rd.of_own ho1
 have r3:Rd w1 A1 (txs l):=by obtain⟨x1,x2,x3,x4⟩:=r1;first|exact x1|exact x2|exact x3|exact x4
 clear r1 ho1
 have hc1:=hH.out w1 A1 c1 hx01 r3
 clear r3 hx1
 replace hx01:=Lib.hid hx01
 go_wp2_with fail
 refine hc1.mono ?_
 rintro en w3 ⟨rfl,hx3⟩
 have hx03:=hx01.out.trans hx3
 have hc3:=hH2.out w3 hx03
 clear hc1 hx01 hx3
 replace hx03:=Lib.hid hx03
 go_wp2_with fail
 refine hc3.mono ?_
 rintro en w4 ⟨rfl,hx4⟩
 have hx04:=hx03.out.trans hx4
 clear hc3 hx03 hx4
 replace hx04:=Lib.hid hx04
 go_wp2_with
  (refine wpList_app0w el_st _ (by rfl) (.tmp 20) (.tmp 21) rfl 0 w4.heap.size rfl (World.ownsRow_lit w4 #[] 0 (Nat.zero_le _) (Nat.zero_le _) rfl) A n c (txs l) rfl (hC.out.row.ext (hx04.out.trans ((Ext.refl w4).alloc _))) hlen.out hC.out.nil (by have:=hC.out.n6;omega) (by omega) (Nat.zero_le _) (fun v1 w1 ho1 hx1=>?_))
 have hx05:=hx04.out.trans (((Ext.refl w4).alloc _).trans hx1)
 obtain⟨A1,c1,rfl,r1⟩:=Rd.of_own ho1
 have r3:Rd w1 A1 (txs l):=by obtain⟨x1,x2,x3,x4⟩:=r1;first|exact x1|exact x2|exact x3|exact x4
 clear r1 ho1
 have hc1:=hX.out w1 A1 c1 hx05 r3
 clear r3 hx1 hx04
 replace hx05:=Lib.hid hx05
 go_wp2_with fail
 refine hc1.mono ?_
 rintro en w6 ⟨rfl,hx6⟩
 have hx06:=hx05.out.trans hx6
 have hc3:=hX2.out w6 hx06
 clear hc1 hx05 hx6
 replace hx06:=Lib.hid hx06
 go_wp2_with fail
 refine hc3.mono ?_
 rintro en w7 ⟨rfl,hx7⟩
 have hx07:=hx06.out.trans hx7
 have hc4:=hli.out w7 hx07
 clear hc3 hx06 hx7
 replace hx07:=Lib.hid hx07
 go_wp2_with fail
 refine hc4.mono ?_
 rintro en w8 ⟨rfl,hx8⟩
 have hf:=fin.out w8 (hx07.out.trans hx8)
 clear hc4
 go_wp2_with fail
 exact hf
theorem one_holds (p:Int) (s:ByteArray):HoldsT p [s]=(isP s && polP p):=by
 unfold HoldsT holdsP
 rw[show holdsA p (List.map schP [s]) (List.map schP [s]).length=(true && nextP p [] (schP s)) from rfl,show nextP p [] (schP s)=true by unfold nextP lastOf;simp]
 simp
set_option maxHeartbeats 3000000 in
theorem none_any (p:Int) (A:Option Addr) (n0 c:Nat) (l0:List ByteArray) (w:World) (hr0:Rd w A (txs l0)) (hn0:l0.length=n0) (hnc0:n0≤c) (hcm:c≤maxLen) (hA:A=none→c=0) (hz0:∀s∈l0,s.size≤140737488351232) (hwd:Wd w) (hpow:Pow w) (hN:Nms w) :
  Calls Tryz.prog 8 #[.int .i64 p,.slice A n0 c] w fun en w'=>en=.returned (.bool true)∧Ext w w':=by
 have hfew:=few12_any l0 n0 c A w hn0 hnc0
 have hC:=cut6 hr0 hn0 hnc0 hcm hA hz0
 generalize l0.take 6=l at hfew hC
 obtain⟨n,hn⟩:∃z,Hid (l.length=z):=⟨_,rfl⟩
 rw[hn.out] at hfew hC
 clear hr0 hn0 hnc0 hcm hA hz0
 have hH:=fun W A' c' (hW:Ext w W) (h':Rd W A' (txs l))=>Holds_any 0 A' n c' l W h' hn.out (by have:=hC.n6;omega) hC.z (hwd.ext hW) (hpow.ext hW)
 have hH2:=fun W (hW:Ext w W)=>holds12_any 0 A n c l W (hC.row.ext hW) hn.out (by have:=hC.n6;omega) hC.z
 have hO:=fun s (hs:s∈l) W A' c' (hW:Ext w W) (h':Rd W A' (txs [s]))=>Holds_any p A' 1 c' [s] W h' rfl (by omega) (fun t ht=>by rw[List.mem_singleton] at ht;rw[ht];exact hC.z s hs) (hwd.ext hW) (hpow.ext hW)
 have hO2:=fun s (hs:s∈l) W A' c' (hW:Ext w W) (h':Rd W A' (txs [s]))=>holds12_any 0 A' 1 c' [s] W h' rfl (by omega) (fun t ht=>by rw[List.mem_singleton] at ht;rw[ht];exact hC.z s hs)
 simp only[one_holds] at hO hO2
 have hli:=fun W (hW:Ext w W)=>lives12_any W (hwd.ext hW) (hpow.ext hW) (hN.ext hW)
 obtain⟨b1,hb1⟩:∃z,Hid (HoldsT 0 l=z):=⟨_,rfl⟩
 simp only[hb1.out] at hH hH2
 have hbb1:=fun W=>eql_bool b1 W
 obtain⟨PO,hPO⟩:∃PO:Ending→World→Prop,Hid ((fun en w'=>en=.returned (.bool true)∧Ext w w')=PO):=⟨_,Lib.hid rfl⟩
 have fin:∀W,Ext w W→PO (.returned (.bool true)) W:=fun W hW=>by rw[←hPO.out];exact⟨rfl,hW⟩
 rw[hPO.out]
 have hlen:(txs l).length=n*1:=by simp[txs];exact hn.out
 replace fin:=Lib.hid fin
 replace hH:=Lib.hid hH
 replace hH2:=Lib.hid hH2
 replace hO:=Lib.hid hO
 replace hO2:=Lib.hid hO2
 replace hli:=Lib.hid hli
 have hn6:=hC.n6
 replace hC:=Lib.hid hC
 replace hlen:=Lib.hid hlen
 have pc:=pol_cases p
 go_enter Tryz.func8,Tryz.ntmps8
 go_wp2_with fail
 refine hfew.mono ?_
 rintro en w2 ⟨rfl,hw2⟩
 obtain rfl:w=w2:=hw2.symm
 clear hfew
 go_wp2_with fail
 go_loopw [5,8,9,10,11,12,13,14,15,16,17,18,19,20,21,22,23,24,25,26,27,28,29,30,31,32,33,34,35] (fun v5 v8 v9 v10 v11 v12 v13 v14 v15 v16 v17 v18 v19 v20 v21 v22 v23 v24 v25 v26 v27 v28 v29 v30 v31 v32 v33 v34 v35 wr=>∃i:Nat,i≤n∧v5=.int .i64 (i:Int)∧Ext w wr) (fun v5 _ _ _ _ _ _ _ _ _ _ _ _ _ _ _ _ _ _ _ _ _ _ _ _ _ _ _ _ _=>n-(intOf v5).toNat)
 case atStart=>exact⟨0,Nat.zero_le _,rfl,Ext.refl w⟩
 case round=>
  obtain⟨i,hi,rfl,hx⟩:=hrel
  by_cases hin:i<n
  ·have hin':(i:Int)<(n:Int):=by omega
   obtain⟨x,hme⟩:∃m,l[i]?=some m:=⟨_,List.getElem?_eq_getElem (by have:=hn.out;omega)⟩
   obtain⟨b,off,eA,hzz,hc⟩:=(hC.out.row.ext hx).at_ (k:=i) (by simp only[txs,List.length_map];have:=hn.out;omega)
   clear hzz
   have hck:∀W,Ext wr W→W.cell? ⟨b,off+i,none⟩=some (.string x):=fun W hW=>hW.cell (hc i _ (by simp[txs,hme]))
   clear hc
   subst eA
   have hxm:=List.mem_of_getElem? hme
   clear hme
   have hr1:∀W:World,Rd (W.alloc (.cells #[.string x] 9)) (some ⟨W.heap.size,0,none⟩) (txs [x]):=fun W=>Rd.of_block W 9 (0,0) rfl
   have hc1:=hO.out x hxm _ _ 1 (hx.trans ((Ext.refl wr).alloc _)) (hr1 wr)
   have hc2:=fun W (hW:Ext wr W)=>hO2.out x hxm _ _ 1 (hx.trans (hW.trans ((Ext.refl W).alloc _))) (hr1 W)
   have hck0:=hck wr (Ext.refl _)
   replace hck:=Lib.hid hck
   obtain⟨v,hv⟩:∃z,Hid (isP x=z):=⟨_,rfl⟩
   simp only[hv.out,show polP 0=true by decide,Bool.and_true] at hc1 hc2
   have hbb2:=fun W=>neq_bool v W
   replace hc2:=Lib.hid hc2
   rcases pc with⟨p1,pp⟩|⟨p1,p2,pp⟩|⟨p1,p2,pp⟩
   ·rw[pp,Bool.and_false] at hc1
    clear pp
    go_wp2_with fail
    refine hc1.mono ?_
    rintro e w3 ⟨rfl,hx3⟩
    have hxx:=hx.trans (((Ext.refl wr).alloc _).trans hx3)
    clear hc1 hx3
    replace hxx:=Lib.hid hxx
    go_wp2_with fail
    go_roundw
    case rel=>exact⟨i+1,by omega,by go_num,hxx.out⟩
    case measure=>simp[intOf]<;>omega
   ·rw[pp,Bool.and_false] at hc1
    clear pp
    go_wp2_with fail
    refine hc1.mono ?_
    rintro e w3 ⟨rfl,hx3⟩
    have hxx:=hx.trans (((Ext.refl wr).alloc _).trans hx3)
    clear hc1 hx3
    replace hxx:=Lib.hid hxx
    go_wp2_with fail
    go_roundw
    case rel=>exact⟨i+1,by omega,by go_num,hxx.out⟩
    case measure=>simp[intOf]<;>omega
   ·rw[pp,Bool.and_true] at hc1
    clear pp
    go_wp2_with fail
    refine hc1.mono ?_
    rintro e w3 ⟨rfl,hx3⟩
    have hw3:=((Ext.refl wr).alloc _).trans hx3
    have hck3:=hck.out _ hw3
    have hc3:=hc2.out _ hw3
    have hxx:=hx.trans hw3
    clear hc1 hx3 hw3
    replace hxx:=Lib.hid hxx
    go_wp2_with fail
    refine hc3.mono ?_
    rintro e w4 ⟨rfl,hx4⟩
    have hx04:=hxx.out.trans (((Ext.refl w3).alloc _).trans hx4)
    clear hc3 hx4 hck3
    replace hx04:=Lib.hid hx04
    go_wp2_with fail
    go_roundw
    case rel=>exact⟨i+1,by omega,by go_num,hx04.out⟩
    case measure=>simp[intOf]<;>omega
  ·obtain rfl:i=n:=by omega
   replace hx:=Lib.hid hx
   go_wp2_with
    (refine wpList_app0 el_st _ rfl (.tmp 36) (.tmp 37) rfl 0 wr.heap.size rfl (World.ownsRow_lit wr #[] 0 (Nat.zero_le _) (Nat.zero_le _) rfl) A i c (txs l) rfl (hC.out.row.ext (hx.out.trans ((Ext.refl wr).alloc _))) hlen.out hC.out.nil (by have:=hC.out.n6;omega) (by omega) (Nat.zero_le _) (fun v1 w1 ho1 hx1=>?_))
   have hx01:=hx.out.trans (((Ext.refl wr).alloc _).trans hx1)
   obtain⟨A1,c1,rfl,r1⟩:=Rd.of_own ho1
   have r3:Rd w1 A1 (txs l):=by obtain⟨x1,x2,x3,x4⟩:=r1;first|exact x1|exact x2|exact x3|exact x4
   clear r1 ho1
   have hc1:=hH.out w1 A1 c1 hx01 r3
   clear r3 hx1
   replace hx01:=Lib.hid hx01
   go_wp2_with fail
   refine hc1.mono ?_
   rintro en w3 ⟨rfl,hx3⟩
   have hx03:=hx01.out.trans hx3
   have hc3:=hH2.out w3 hx03
   clear hc1 hx01 hx3
   replace hx03:=Lib.hid hx03
   go_wp2_with fail
   refine hc3.mono ?_
   rintro en w4 ⟨rfl,hx4⟩
   have hx04:=hx03.out.trans hx4
   have hc4:=hli.out w4 hx04
   clear hc3 hx03 hx4
   replace hx04:=Lib.hid hx04
   go_wp2_with fail
   refine hc4.mono ?_
   rintro en w8 ⟨rfl,hx8⟩
   have hf:=fin.out w8 (hx04.out.trans hx8)
   clear hc4
   go_wp2_with fail
   exact hf
def impP (p q:Int):Bool:=polP p && (polP q && (((backP p || !backP q) && (forthP p || !forthP q)) && (allP p || !allP q)))
theorem pol6i {p:Int} {b:Bool} (h:polP p=b):(0≤p∧p≤6∧b=true)∨(0≤p∧¬p≤6∧b=false)∨(¬0≤p∧b=false):=by
 unfold polP at h
 subst h
 by_cases h1:0≤p
 ·by_cases h2:p≤6
  ·exact .inl ⟨h1,h2,by simp;omega⟩
  ·exact .inr (.inl ⟨h1,h2,by simp;omega⟩)
 ·exact .inr (.inr ⟨h1,by simp;omega⟩)
theorem imp_fol {p q:Int} (h:impP p q=true) {e o:Ns} (hf:folP p e o=true):folP q e o=true:=by
 unfold impP at h
 unfold folP at hf ⊢
 revert h hf
 generalize backP p=a;generalize backP q=b;generalize forthP p=c;generalize forthP q=d
 generalize canB o e=x;generalize canB e o=y
 cases a<;>cases b<;>cases c<;>cases d<;>cases x<;>cases y<;>simp
theorem imp_next {p q:Int} (h:impP p q=true) {l:List Ns} {o:Ns} (hf:nextP p l o=true):nextP q l o=true:=by
 unfold nextP at hf ⊢
 rw[List.all_eq_true] at hf ⊢
 intro e he
 refine imp_fol h (hf e ?_)
 have h3:allP p=false→allP q=false:=fun e=>by
  unfold impP at h
  rw[e] at h
  cases hq:allP q with
  | false=>rfl
  | true=>rw[hq] at h;simp at h
 unfold lastOf at he ⊢
 cases hp:allP p with
 | true=>
  rw[if_neg (by simp)]
  split at he
  ·exact List.mem_of_mem_drop he
  ·exact he
 | false=>
  rw[h3 hp] at he
  exact he
theorem imp_holdsA {p q:Int} (h:impP p q=true) {l:List Ns}:∀n,holdsA p l n=true→holdsA q l n=true
 | 0,_=>rfl
 | n+1,hf=>by
  unfold holdsA at hf ⊢
  rw[Bool.and_eq_true] at hf ⊢
  exact⟨imp_holdsA h n hf.1,imp_next h hf.2⟩
theorem imp_holds {p q:Int} (h:impP p q=true) {l:List ByteArray} (hf:HoldsT p l=true):HoldsT q l=true:=by
 unfold HoldsT holdsP at hf ⊢
 simp only[Bool.and_eq_true] at hf ⊢
 refine⟨hf.1,?_,imp_holdsA h _ hf.2.2⟩
 unfold impP at h
 simp only[Bool.and_eq_true] at h
 exact h.2.1
theorem bits_cases {p:Int} (h:polP p=true):∃a,bitsP p=a∧((a=0∧backP p=false∧forthP p=false)∨(a=1∧backP p=true∧forthP p=false)∨(a=2∧backP p=false∧forthP p=true)∨(a=3∧backP p=true∧forthP p=true)):=by
 rcases Pl.pol_cases h with rfl|rfl|rfl|rfl|rfl|rfl|rfl<;>exact⟨_,rfl,by simp[bitsP,backP,forthP]⟩
set_option maxHeartbeats 6000000 in
theorem Implies_any (p q:Int) (w:World):Calls Tryz.prog 31 #[.int .i64 p,.int .i64 q] w fun en w'=>en=.returned (.bool (impP p q))∧Ext w w':=by
 obtain⟨PO,hPO⟩:∃PO:Ending→World→Prop,Hid ((fun en w'=>en=.returned (.bool (impP p q))∧Ext w w')=PO):=⟨_,Lib.hid rfl⟩
 have fin:∀b W,impP p q=b→Ext w W→PO (.returned (.bool b)) W:=fun b W h hW=>by rw[←hPO.out,h];exact⟨rfl,hW⟩
 rw[hPO.out]
 have hi:=is_any p w
 have hi2:=fun W=>is_any q W
 unfold impP at fin
 cases hp:polP p with
 | false=>
  rw[hp] at hi fin
  simp only[Bool.false_and] at fin
  replace fin:=Lib.hid fin
  go_enter Tryz.func31,Tryz.ntmps31
  go_wp2_with fail
  refine hi.mono ?_
  rintro en w1 ⟨rfl,hx1⟩
  have hf:=fin.out false w1 rfl hx1
  clear hi
  go_wp2_with fail
  exact hf
 | true=>
  rw[hp] at hi
  cases hq:polP q with
  | false=>
   simp only[hq] at hi2
   rw[hp,hq] at fin
   simp only[Bool.false_and,Bool.and_false] at fin
   replace fin:=Lib.hid fin
   replace hi2:=Lib.hid hi2
   go_enter Tryz.func31,Tryz.ntmps31
   go_wp2_with fail
   refine hi.mono ?_
   rintro en w1 ⟨rfl,hx1⟩
   have hc:=hi2.out w1
   clear hi
   go_wp2_with fail
   refine hc.mono ?_
   rintro en w2 ⟨rfl,hx2⟩
   have hf:=fin.out false w2 rfl (hx1.trans hx2)
   clear hc
   go_wp2_with fail
   exact hf
  | true=>
   simp only[hq] at hi2
   have ha:=fun W=>asks_any p hp W
   have hb:=fun W=>asks_any q hq W
   obtain⟨a,ea,ca⟩:=bits_cases hp
   obtain⟨b,eb,cb⟩:=bits_cases hq
   simp only[ea] at ha
   simp only[eb] at hb
   rw[hp,hq] at fin
   simp only[Bool.true_and] at fin
   obtain⟨c,hc⟩:∃z,Hid (allP p=z):=⟨_,rfl⟩
   obtain⟨d,hd⟩:∃z,Hid (allP q=z):=⟨_,rfl⟩
   simp only[hc.out] at ha fin
   simp only[hd.out] at hb fin
   replace fin:=Lib.hid fin
   replace hi2:=Lib.hid hi2
   replace ha:=Lib.hid ha
   replace hb:=Lib.hid hb
   have step:∀(K:World→Prop),True:=fun _=>trivial
   clear step ea eb
   go_enter Tryz.func31,Tryz.ntmps31
   go_wp2_with fail
   refine hi.mono ?_
   rintro en w1 ⟨rfl,hx1⟩
   have h2:=hi2.out w1
   clear hi
   go_wp2_with fail
   refine h2.mono ?_
   rintro en w2 ⟨rfl,hx2⟩
   have h3:=ha.out w2
   clear h2
   go_wp2_with fail
   refine h3.mono ?_
   rintro en w3 ⟨rfl,hx3⟩
   have h4:=hb.out w3
   clear h3
   go_wp2_with fail
   refine h4.mono ?_
   rintro en w4 ⟨rfl,hx4⟩
   have hf:=fun v h=>fin.out v w4 h (hx1.trans (hx2.trans (hx3.trans hx4)))
   clear h4 fin
   rcases ca with⟨rfl,ba,fa⟩|⟨rfl,ba,fa⟩|⟨rfl,ba,fa⟩|⟨rfl,ba,fa⟩<;>rcases cb with⟨rfl,bb,fb⟩|⟨rfl,bb,fb⟩|⟨rfl,bb,fb⟩|⟨rfl,bb,fb⟩<;>rw[ba,bb,fa,fb] at hf<;>clear ba bb fa fb<;>cases c<;>cases d
   all_goals
    replace hf:=hf _ rfl
    simp only[Bool.and_self,Bool.or_self,Bool.not_true,Bool.not_false,Bool.or_true,Bool.true_or,Bool.or_false,Bool.false_or,Bool.and_true,Bool.true_and,Bool.and_false,Bool.false_and] at hf
    go_wp2_with fail
    exact hf
theorem way_any (p:Int) (h:polP p=true) (w:World):Calls Tryz.prog 32 #[.int .i64 p] w fun en w'=>en=.returned (.tuple #[.bool (backP p),.bool (forthP p),.bool (allP p)])∧w'=w:=by
 rcases Pl.pol_cases h with rfl|rfl|rfl|rfl|rfl|rfl|rfl
 all_goals
  go_enter Tryz.func32,Tryz.ntmps32
  go_wp2_with fail
  refine bodyPost_ret (results_tmp3 rfl _ _ _) rfl ?_
  exact⟨rfl,rfl⟩
theorem name_q (p:Int):((Pl.nameP p).toList == [(63:UInt8)]) = !polP p:=by
 cases hp:polP p with
 | false=>unfold Pl.nameP;rw[hp,if_neg (by simp)];decide +kernel
 | true=>
  rcases Pl.pol_cases hp with rfl|rfl|rfl|rfl|rfl|rfl|rfl<;>decide +kernel
theorem neq_bools (a b:Bool) (h:a=b) (W:World):(binOp .neq 4 (.bool a) (.bool b)).run Tryz.prog W=.ok (.bool false) W:=by subst h;exact neq_bool a W
set_option maxHeartbeats 8000000 in
theorem implies_any (p q:Int) (A:Option Addr) (n0 c:Nat) (l0:List ByteArray) (w:World) (hr0:Rd w A (txs l0)) (hn0:l0.length=n0) (hnc0:n0≤c) (hcm:c≤maxLen) (hA:A=none→c=0) (hz0:∀s∈l0,s.size≤140737488351232) (hwd:Wd w) (hpow:Pow w) (hN:Nms w) :
  Calls Tryz.prog 11 #[.int .i64 p,.int .i64 q,.slice A n0 c] w fun en w'=>en=.returned (.bool true)∧Ext w w':=by
 have hfew:=few12_any l0 n0 c A w hn0 hnc0
 have hC:=cut6 hr0 hn0 hnc0 hcm hA hz0
 generalize l0.take 6=l at hfew hC
 obtain⟨n,hn⟩:∃z,Hid (l.length=z):=⟨_,rfl⟩
 rw[hn.out] at hfew hC
 clear hr0 hn0 hnc0 hcm hA hz0
 have hHp:=fun W (hW:Ext w W)=>holds12_any p A n c l W (hC.row.ext hW) hn.out (by have:=hC.n6;omega) hC.z
 have hHq:=fun W (hW:Ext w W)=>holds12_any q A n c l W (hC.row.ext hW) hn.out (by have:=hC.n6;omega) hC.z
 have hI:=fun W=>Implies_any p q W
 have hnm:=fun W (hW:Ext w W)=>Name_any p W (hN.ext hW)
 have hli:=fun W (hW:Ext w W)=>lives12_any W (hwd.ext hW) (hpow.ext hW) (hN.ext hW)
 have himp:impP p q=true→HoldsT p l=true→HoldsT q l=true:=fun h1 h2=>imp_holds h1 h2
 have hq:=name_q p
 obtain⟨NM,hNM⟩:∃z,Hid (Pl.nameP p=z):=⟨_,rfl⟩
 simp only[hNM.out] at hnm hq
 have hib:impP p q=(polP p && (polP q && (((backP p || !backP q) && (forthP p || !forthP q)) && (allP p || !allP q)))):=rfl
 obtain⟨b1,hb1⟩:∃z,Hid (HoldsT p l=z):=⟨_,rfl⟩
 obtain⟨b2,hb2⟩:∃z,Hid (HoldsT q l=z):=⟨_,rfl⟩
 obtain⟨im,him⟩:∃z,Hid (impP p q=z):=⟨_,rfl⟩
 simp only[hb1.out] at hHp himp
 simp only[hb2.out] at hHq himp
 simp only[him.out] at hI himp hib
 obtain⟨PO,hPO⟩:∃PO:Ending→World→Prop,Hid ((fun en w'=>en=.returned (.bool true)∧Ext w w')=PO):=⟨_,Lib.hid rfl⟩
 have fin:∀W,Ext w W→PO (.returned (.bool true)) W:=fun W hW=>by rw[←hPO.out];exact⟨rfl,hW⟩
 rw[hPO.out]
 replace fin:=Lib.hid fin
 replace hHp:=Lib.hid hHp
 replace hHq:=Lib.hid hHq
 replace hI:=Lib.hid hI
 replace hnm:=Lib.hid hnm
 replace hli:=Lib.hid hli
 replace himp:=Lib.hid himp
 clear hC
 have pc:=pol6i (p:=p) rfl
 have qc:=pol6i (p:=q) rfl
 have cut:∀ {X:Prop},X→X:=fun h=>h
 clear cut
 by_cases hok:polP p=true∧polP q=true
 case neg=>
  have hi0:im=false:=by
   rw[hib]
   cases hp:polP p with
   | false=>rfl
   | true=>
    cases hq2:polP q with
    | false=>rfl
    | true=>exact absurd ⟨hp,hq2⟩ hok
  subst hi0
  clear himp hib him
  obtain⟨x,hx⟩:∃z,polP p=z:=⟨_,rfl⟩
  rw[hx] at hq pc
  have pcc:(0≤p∧p≤6∧¬p<0∧¬6<p∧x=true)∨(0≤p∧¬p≤6∧¬p<0∧6<p∧x=false)∨(¬0≤p∧p<0∧x=false):=by
   rcases pc with⟨a,b,e⟩|⟨a,b,e⟩|⟨a,e⟩
   ·exact .inl ⟨a,b,by omega,by omega,e⟩
   ·exact .inr (.inl ⟨a,b,by omega,by omega,e⟩)
   ·exact .inr (.inr ⟨a,by omega,e⟩)
  have qcc:x=true→(0≤q∧¬q≤6)∨¬0≤q:=fun hx1=>by
   rcases qc with⟨a,b,e⟩|⟨a,b,e⟩|⟨a,e⟩
   ·exact absurd ⟨by rw[hx,hx1],e⟩ hok
   ·exact .inl ⟨a,b⟩
   ·exact .inr a
  clear pc qc hok hx
  have pq:(0≤p∧p≤6∧¬p<0∧¬6<p∧0≤q∧¬q≤6∧(!x)=false)∨(0≤p∧p≤6∧¬p<0∧¬6<p∧¬0≤q∧(!x)=false)∨(0≤p∧¬p≤6∧¬p<0∧6<p∧(!x)=true)∨(¬0≤p∧p<0∧(!x)=true):=by
   rcases pcc with⟨a1,a2,a3,a4,rfl⟩|⟨a1,a2,a3,a4,rfl⟩|⟨a1,a2,rfl⟩
   ·rcases qcc rfl with⟨c1,c2⟩|c1
    ·exact .inl ⟨a1,a2,a3,a4,c1,c2,rfl⟩
    ·exact .inr (.inl ⟨a1,a2,a3,a4,c1,rfl⟩)
   ·exact .inr (.inr (.inl ⟨a1,a2,a3,a4,rfl⟩))
   ·exact .inr (.inr (.inr ⟨a1,a2,rfl⟩))
  have db:((decide (p<0) || decide (6<p))=(!x)):=by
   rcases pcc with⟨a1,a2,a3,a4,rfl⟩|⟨a1,a2,a3,a4,rfl⟩|⟨a1,a2,rfl⟩<;>simp<;>omega
  clear pcc qcc
  obtain⟨y,hy⟩:∃z,Hid ((!x)=z):=⟨_,rfl⟩
  rw[hy.out] at hq pq db
  clear hy
  rcases pq with⟨a1,a2,a3,a4,c1,c2,rfl⟩|⟨a1,a2,a3,a4,c1,rfl⟩|⟨a1,a2,a3,a4,rfl⟩|⟨a1,a2,rfl⟩
  all_goals
   go_enter Tryz.func11,Tryz.ntmps11
   go_wp2_with fail
   refine hfew.mono ?_
   rintro en w2 ⟨rfl,hw2⟩
   obtain rfl:w=w2:=hw2.symm
   clear hfew
   have hI1:=hI.out w
   go_wp2_with fail
   refine hI1.mono ?_
   rintro en w3 ⟨rfl,hx3⟩
   have hn3:=hnm.out w3 hx3
   clear hI1
   go_wp2_with fail
   refine hn3.mono ?_
   rintro en w4 ⟨rfl,hx4⟩
   have hl4:=hli.out w4 (hx3.trans hx4)
   clear hn3
   go_wp2_with fail
   refine hl4.mono ?_
   rintro en w5 ⟨rfl,hx5⟩
   have hf:=fin.out w5 (hx3.trans (hx4.trans hx5))
   clear hl4
   go_wp2_with fail
   exact hf
 obtain⟨hp,hq2⟩:=hok
 have hwp:=fun W=>way_any p hp W
 have hwq:=fun W=>way_any q hq2 W
 rw[hp,hq2] at hib
 simp only[Bool.true_and] at hib
 rw[hp] at hq pc
 rw[hq2] at qc
 simp only[Bool.not_true] at hq
 obtain⟨a1,a2,_⟩:0≤p∧p≤6∧True:=by rcases pc with⟨a,b,_⟩|⟨_,_,e⟩|⟨_,e⟩<;>first|exact⟨a,b,trivial⟩|(cases e)
 obtain⟨c1,c2,_⟩:0≤q∧q≤6∧True:=by rcases qc with⟨a,b,_⟩|⟨_,_,e⟩|⟨_,e⟩<;>first|exact⟨a,b,trivial⟩|(cases e)
 have a3:¬p<0:=by omega
 have a4:¬6<p:=by omega
 have db:((decide (p<0) || decide (6<p))=false):=by simp;omega
 clear pc qc
 obtain⟨x1,hx1⟩:∃z,Hid (backP p=z):=⟨_,rfl⟩
 obtain⟨x2,hx2⟩:∃z,Hid (forthP p=z):=⟨_,rfl⟩
 obtain⟨x3,hx3⟩:∃z,Hid (allP p=z):=⟨_,rfl⟩
 obtain⟨y1,hy1⟩:∃z,Hid (backP q=z):=⟨_,rfl⟩
 obtain⟨y2,hy2⟩:∃z,Hid (forthP q=z):=⟨_,rfl⟩
 obtain⟨y3,hy3⟩:∃z,Hid (allP q=z):=⟨_,rfl⟩
 simp only[hx1.out,hx2.out,hx3.out] at hwp hib
 simp only[hy1.out,hy2.out,hy3.out] at hwq hib
 replace hib:=Lib.hid hib
 replace hwp:=Lib.hid hwp
 replace hwq:=Lib.hid hwq
 clear hx1 hx2 hx3 hy1 hy2 hy3 hp hq2 hPO him
 have rest:∀(K:Prop),True:=fun _=>trivial
 clear rest
 go_enter Tryz.func11,Tryz.ntmps11
 go_wp2_with fail
 refine hfew.mono ?_
 rintro en w2 ⟨rfl,hw2⟩
 obtain rfl:w=w2:=hw2.symm
 clear hfew
 have hI1:=hI.out w
 go_wp2_with fail
 refine hI1.mono ?_
 rintro en w3 ⟨rfl,hw3⟩
 clear hI1
 replace hw3:=Lib.hid hw3
 obtain⟨K,hK⟩:∃K:Prop,K=True:=⟨_,rfl⟩
 clear hK K
 have tail1:∀W,Ext w W→Calls Tryz.prog 33 #[.int .i64 p] W fun en w'=>en=.returned (.string NM)∧Ext W w':=fun W hW=>hnm.out W hW
 cases im with
 | false=>
  go_wp2_with fail
  have hp3:=hwp.out w3
  refine hp3.mono ?_
  rintro en w4 ⟨rfl,hw4⟩
  obtain rfl:w3=w4:=hw4.symm
  have hq3:=hwq.out w3
  clear hp3
  go_wp2_with fail
  refine hq3.mono ?_
  rintro en w5 ⟨rfl,hw5⟩
  obtain rfl:w3=w5:=hw5.symm
  have hI3:=hI.out w3
  clear hq3
  go_wp2_with fail
  refine hI3.mono ?_
  rintro en w6 ⟨rfl,hw6⟩
  have hx6:=hw3.out.trans hw6
  have hn6:=hnm.out w6 hx6
  replace hx6:=Lib.hid hx6
  clear hI3 hw6
  have hb:=hib.out
  cases x1<;>cases y1<;>cases x2<;>cases y2<;>cases x3<;>cases y3<;>first|(exfalso;revert hb;decide)|skip
  all_goals
   clear hb
   go_wp2_with fail
   refine hn6.mono ?_
   rintro en w7 ⟨rfl,hw7⟩
   have hl7:=hli.out w7 (hx6.out.trans hw7)
   clear hn6
   go_wp2_with fail
   refine hl7.mono ?_
   rintro en w8 ⟨rfl,hw8⟩
   have hf:=fin.out w8 (hx6.out.trans (hw7.trans hw8))
   clear hl7
   go_wp2_with fail
   exact hf
 | true=>
  have hc3:=hHp.out w3 hw3.out
  go_wp2_with fail
  refine hc3.mono ?_
  rintro en w4 ⟨rfl,hw4⟩
  clear hc3
  have fwd:∃b:Bool,b1=b:=⟨_,rfl⟩
  clear fwd
  have himp1:b1=true→b2=true:=by first|exact himp.out|exact himp.out rfl|exact himp.out trivial
  obtain⟨w5,hw5,hgo⟩:∃w5,Ext w w5∧True:=⟨w4,hw3.out.trans hw4,trivial⟩
  clear hgo hw5 w5
  cases b1 with
  | false=>
   have hx4:=hw3.out.trans hw4
   clear hw4
   replace hx4:=Lib.hid hx4
   go_wp2_with fail
   have hp3:=hwp.out w4
   refine hp3.mono ?_
   rintro en w5 ⟨rfl,hw5⟩
   obtain rfl:w4=w5:=hw5.symm
   have hq3:=hwq.out w4
   clear hp3
   go_wp2_with fail
   refine hq3.mono ?_
   rintro en w5 ⟨rfl,hw5⟩
   obtain rfl:w4=w5:=hw5.symm
   have hI3:=hI.out w4
   clear hq3
   go_wp2_with fail
   refine hI3.mono ?_
   rintro en w6 ⟨rfl,hw6⟩
   have hx6:=hx4.out.trans hw6
   have hn6:=hnm.out w6 hx6
   replace hx6:=Lib.hid hx6
   clear hI3 hw6
   have hb:=hib.out
   cases x1<;>cases y1<;>cases x2<;>cases y2<;>cases x3<;>cases y3<;>first|(exfalso;revert hb;decide)|skip
   all_goals
    clear hb
    go_wp2_with fail
    refine hn6.mono ?_
    rintro en w7 ⟨rfl,hw7⟩
    have hl7:=hli.out w7 (hx6.out.trans hw7)
    clear hn6
    go_wp2_with fail
    refine hl7.mono ?_
    rintro en w8 ⟨rfl,hw8⟩
    have hf:=fin.out w8 (hx6.out.trans (hw7.trans hw8))
    clear hl7
    go_wp2_with fail
    exact hf
  | true=>
   have hb2:b2=true:=by first|exact himp1|exact himp1 rfl|exact himp1 trivial|(simpa using himp1)
   subst hb2
   clear himp1
   have hx4:=hw3.out.trans hw4
   have hc4:=hHq.out w4 hx4
   clear hw4
   replace hx4:=Lib.hid hx4
   go_wp2_with fail
   refine hc4.mono ?_
   rintro en w9 ⟨rfl,hw9⟩
   have hx9:=hx4.out.trans hw9
   clear hc4 hw9
   replace hx9:=Lib.hid hx9
   go_wp2_with fail
   have hp3:=hwp.out w9
   refine hp3.mono ?_
   rintro en w5 ⟨rfl,hw5⟩
   obtain rfl:w9=w5:=hw5.symm
   have hq3:=hwq.out w9
   clear hp3
   go_wp2_with fail
   refine hq3.mono ?_
   rintro en w5 ⟨rfl,hw5⟩
   obtain rfl:w9=w5:=hw5.symm
   have hI3:=hI.out w9
   clear hq3
   go_wp2_with fail
   refine hI3.mono ?_
   rintro en w6 ⟨rfl,hw6⟩
   have hx6:=hx9.out.trans hw6
   have hn6:=hnm.out w6 hx6
   replace hx6:=Lib.hid hx6
   clear hI3 hw6
   have hb:=hib.out
   cases x1<;>cases y1<;>cases x2<;>cases y2<;>cases x3<;>cases y3<;>first|(exfalso;revert hb;decide)|skip
   all_goals
    clear hb
    go_wp2_with fail
    refine hn6.mono ?_
    rintro en w7 ⟨rfl,hw7⟩
    have hl7:=hli.out w7 (hx6.out.trans hw7)
    clear hn6
    go_wp2_with fail
    refine hl7.mono ?_
    rintro en w8 ⟨rfl,hw8⟩
    have hf:=fin.out w8 (hx6.out.trans (hw7.trans hw8))
    clear hl7
    go_wp2_with fail
    exact hf
end Pd
namespace policyImplies
open Go.ChangeMaps (open_string shut_string)
open Base Args
theorem own:ownKnob Tryz.prog.godebug=none:=by kernel_rfl
theorem laidOut:laidOutB Tryz.prog=true:=by kernel_rfl
theorem laid_met (os:Os):laidMet Tryz.prog Rows.policyImpliesRow.laid ((Pl.laidWorld os).forCall (fun _ _=>0) ⟨#[],#[.int .i64 0,.int .i64 0,.slice none 0 0],[]⟩).memory:=
 laidMet_of_run' 8 (by kernel_rfl) (by kernel_rfl)
theorem reads (os:Os) {H:Type} (enc:TypeId×Value→H):∃places,DataW.whole enc Tryz.prog ((Pl.laidWorld os).forCall (fun _ _=>0) ⟨#[],#[.int .i64 0,.int .i64 0,.slice none 0 0],[]⟩).memory Tryz.f11.params.toList Rows.policyImpliesSpec.vars false (#[.int .i64 0,.int .i64 0,.slice none 0 0]:Array Value).toList 8=some ([.lit (.int .i64 0),.lit (.int .i64 0),.nil],[],places):=
 ⟨[],by kernel_rfl⟩
theorem lifted (os:Os) (started:os.Started) (H:Type) (enc:TypeId×Value→H) (F:Stop.Interp) :
  ReturnsInHanded {} Tryz.checked os 11 .any ((OpenSpec.ofChange Rows.policyImpliesSpec).preRow enc Tryz.prog Tryz.f11 Rows.policyImpliesRow.domain false Rows.policyImpliesRow.laid) (((OpenSpec.ofChange Rows.policyImpliesSpec).at F).post enc Tryz.prog Tryz.f11 false true false false):=by
 obtain⟨places,hx⟩:=reads os enc
 refine returnsInHanded_of_row (C:=Tryz.checked) (s:=(OpenSpec.ofChange Rows.policyImpliesSpec)) own started (by kernel_rfl) Tryz.func11
  (witness_row_at (enc:=enc) (C:=Tryz.checked) false (Pl.laidWorld os) #[.int .i64 0,.int .i64 0,.slice none 0 0] rfl (by kernel_rfl) (by kernel_rfl) (by kernel_rfl)
   (OpenSpec.preRow_of_cond 8 hx (by kernel_rfl) (fun k hk=>by cases hk) (by kernel_rfl) (laid_met os))) ?_
 intro W base args ds gs before hval0 hW hcnd hk0 hsz0 hL _ _
 have hval:∀(j:Nat) t v,Tryz.f11.params[j]?=some t→args[j]?=some v→Value.okWide Tryz.prog W .any base t v:=hval0
 have hW':=hW
 obtain⟨p,q,hAz,hV,rfl,hfz,hnd⟩:=hW
 have hA:DataW.TrodAll enc Tryz.prog W 0 (fun _=>true) true Tryz.f11.params.toList args.toList ds p:=hAz
 have hsz:(DataW.weightsEach Tryz.prog (Tryz.f11.params.toList++Rows.policyImpliesSpec.plain.varTypes Tryz.prog) (ds++gs)).all (· ≤ reachBytes)=true:=hsz0
 rw[Tryz.params11] at hA hval hsz
 obtain⟨v0,vs0,d0,ds0,p0,q0,hargs,rfl,rfl,h0,r0⟩:=trodAll_cons hA
 obtain⟨v1,vs1,d1,ds1,p1,q1,rfl,rfl,rfl,h1,r1⟩:=trodAll_cons r0
 obtain⟨v2,vs2,d2,ds2,p2,q2,rfl,rfl,rfl,h2,r2⟩:=trodAll_cons r1
 obtain⟨rfl,rfl,rfl⟩:=trodAll_nil r2
 obtain rfl:args = #[v0,v1,v2]:=by cases args;simp_all
 obtain⟨rfl,rfl⟩:=trodVars_none hV
 obtain⟨a0,rfl,rfl,rfl,w0⟩:=open_int Tryz.underlying3 (hval 0 3 v0 rfl rfl) h0
 have hi0 : -9223372036854775808≤a0∧a0≤9223372036854775807:=by simpa [Lit.wf,IntKind.min,IntKind.max,IntKind.signed,IntKind.bits] using w0
 obtain⟨a1,rfl,rfl,rfl,w1⟩:=open_int Tryz.underlying3 (hval 1 3 v1 rfl rfl) h1
 have hi1 : -9223372036854775808≤a1∧a1≤9223372036854775807:=by simpa [Lit.wf,IntKind.min,IntKind.max,IntKind.signed,IntKind.bits] using w1
 have k2:=h2
 have lt2:∀x∈p2,x.block<W.heap.size:=by obtain⟨m,hm⟩:=k2;exact DataW.trod_lt m _ _ _ hm
 obtain⟨A2,n2,c2,l2,rfl,hl2,hr2,hc2,hm2,hA2,hs2,hd2⟩:=strs_arg Tryz.underlying32 Tryz.underlying9 (by kernel_rfl) (hval 2 32 v2 rfl rfl) h2
 have hz2:=strs_reach hsz (j:=2) (t:=32) rfl rfl Tryz.underlying32 hl2 hd2
 clear hAz hval0
 refine (Pd.implies_any a0 a1 A2 n2 c2 l2 W hr2 hl2 hc2 hm2 hA2 hz2 (Pl.tabs12 hL).1 (Pl.tabs12 hL).2.1 (Pl.tabs12 hL).2.2).mono fun e W' ⟨he,bel⟩=>?_
 have bel:Below W.heap.size W W':=bel
 subst he
 exact⟨_,rfl,_,_,_,[],_,[],hW',trodAll_mk1 (shut_bool Tryz.underlying4 _),(trodAll_cons_mk (shut_int Tryz.underlying3 w0) (trodAll_cons_mk (shut_int Tryz.underlying3 w1) (trodAll_cons_mk (Below.trod laidOut (by kernel_rfl) (of_decide_eq_true (by kernel_rfl)) k2 bel lt2) trodAll_mk0))),rfl,bel.frame _,fun h=>by cases h⟩
theorem and2 {a b:Bool} (h:a=true) (k:b=true):(a && b)=true:=by rw[h,k];rfl
theorem joined:joinedFacts Tryz.pinned.checked.prog 11 Tryz.f11 (OpenSpec.ofChange Rows.policyImpliesSpec).bare Rows.policyImpliesRow=true:=by
 unfold joinedFacts
 repeat' (with_reducible refine and2 ?_ ?_)
 all_goals as_aux_lemma=>kernel_rfl
theorem said:Rows.PolicyImpliesSaid:=
 OpenClaim.holds_of_cond 11 Tryz.f11 rfl rfl rfl rfl rfl rfl rfl ⟨rfl,rfl,rfl,rfl,rfl⟩ rfl rfl rfl rfl rfl (by kernel_rfl) Tryz.func11 joined
  (of_decide_eq_true (by kernel_rfl)) (by unfold Func.isWrapper;first|(rw[if_pos (by decide +kernel)];kernel_rfl)|(rw[if_neg (by decide +kernel)];exact⟨rfl,rfl⟩))
  (fun os started H enc _ F=>by rw[OpenClaim.pre_eq_preRow];exact lifted os started H enc F)
theorem plain (f:FuncId) (fn:Func) (hf:Tryz.pinned.checked.prog.funcNamed "suffragan/suffraganlaw12.PolicyImplies" = some f) (hfn:Tryz.pinned.checked.prog.funcs[f]?=some fn) :
  true=Tryz.pinned.checked.prog.looks []∧∀(j:Nat) t,fn.params[j]?=some t→Tryz.pinned.checked.prog.wantsStandIn t=false:=by
 obtain rfl:f=11:=Option.some.inj ((show Tryz.prog.funcNamed "suffragan/suffraganlaw12.PolicyImplies" = some 11 by kernel_rfl).symm.trans hf) |>.symm
 obtain rfl:fn=Tryz.f11:=(Option.some.inj (Tryz.func11.symm.trans hfn)).symm
 refine⟨by kernel_rfl,fun j t ht=>?_⟩
 rw[Tryz.params11] at ht
 have hm:=Array.mem_of_getElem? ht
 simp only[Array.mem_def,List.mem_cons,List.mem_nil_iff,or_false] at hm
 rcases hm with rfl|rfl|rfl
 ·exact (show Tryz.prog.wantsStandIn 3=false by kernel_rfl)
 ·exact (show Tryz.prog.wantsStandIn 3=false by kernel_rfl)
 ·exact (show Tryz.prog.wantsStandIn 32=false by kernel_rfl)
theorem proved:Rows.PolicyImpliesCardSaid:=
 Claim7.holds_tied_plain_at .later [] _ _ _ _ said (fun _ h=>by cases h) (by kernel_rfl) (fun _ h=>by cases h) policyImplies_row_tie rfl ⟨rfl,rfl⟩ (by kernel_rfl) rfl plain (by kernel_rfl)
#print axioms proved
end policyImplies
end Go.Proofs.YtmaoochjbpohdaaGreatDoor
