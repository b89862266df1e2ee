/- suffragan/suffraganlaw12.PolicyNone: the given statement, out of the contract of its walk. No condition. -/
import Derived.Test.YtmaoochjbpohdaaGreatDoorPqZA
set_option linter.unusedVariables false
set_option linter.unusedSimpArgs false
set_option maxRecDepth 100000
set_option maxHeartbeats 1000000
open Go.ChangeShapes Go.WideShapes Go.ChangeAt Go.RowKit
namespace Go.Proofs.YtmaoochjbpohdaaGreatDoor
namespace Pd
open Base Lx Mi Pr Rv Cn Rx Pl
theorem eql_bool (R:Bool) (W:World):(binOp .eql 4 (.bool R) (.bool R)).run Tryz.prog W=.ok (.bool true) W:=by cases R<;>kernel_rfl
theorem neq_bool (R:Bool) (W:World):(binOp .neq 4 (.bool R) (.bool R)).run Tryz.prog W=.ok (.bool false) W:=by cases R<;>kernel_rfl
theorem wpList_app0w {P:Program} {t e:TypeId} {z:Value} {size bytes:Nat} (E:El P t e z size bytes) (w:World) {ops:Array Oper} {rest:List Oper} {o:Oper} {a:Act} {Q:Exit→Act→World→Prop} (hw:Region.wanted o (yielded ops a.tmps)=true) (s x:Operand)
  (ho:o.op=.call { callee:=.builtin .append,args := #[s,x],argTypes := #[t,t] }) (base:Nat)
  (g:Nat) (hs:a.eval s=.slice (some ⟨g,0,none⟩) 0 0) (hown:w.ownsRow base e size (.slice (some ⟨g,0,none⟩) 0 0) 0 [])
  (A:Option Addr) (m c:Nat) (news:List Value) (hx:a.eval x=.slice A m c) (hr:Rd w A news) (hl:news.length=m*size) (hA:A=none→c=0)
  (hbytes:m*bytes≤140737488355328) (hby:0<bytes) (hbase:base≤w.heap.size)
  (h:∀v' w',w'.ownsRow base e size v' m news→Ext w w'→wpList P ops Q rest (a.put o.dst v') w'):wpList P ops Q (o::rest) a w:=
 Go.BigFrame.wpList_want hw fun _ hK=>wp_app0 E w s x ho base g hs hown A m c news hx hr hl hA hbytes hby hbase fun v' w' h2 h3=>hK _ _ (h v' w' h2 h3)
structure Cut6 (A:Option Addr) (n c:Nat) (l:List ByteArray) (w:World):Prop where
 row:Rd w A (txs l)
 len:l.length=n
 n6:n≤6
 nc:n≤c
 cm:c≤maxLen
 nil:A=none→c=0
 z:∀s∈l,s.size≤140737488351232
theorem cut6 {A:Option Addr} {n0 c:Nat} {l0:List ByteArray} {w:World} (hr0:Rd w A (txs l0)) (hn0:l0.length=n0) (hnc0:n0≤c) (hcm:c≤maxLen) (hA:A=none→c=0) (hz0:∀s∈l0,s.size≤140737488351232):Cut6 A (l0.take 6).length c (l0.take 6) w:=
 ⟨by have:=hr0.take 6;rwa [show (txs l0).take 6=txs (l0.take 6) by simp[txs,List.map_take]] at this,rfl,by rw[List.length_take];omega,by rw[List.length_take];omega,hcm,hA,fun s hs=>hz0 s (List.mem_of_mem_take hs)⟩
theorem Cut6.ext {A:Option Addr} {n c:Nat} {l:List ByteArray} {w w':World} (h:Cut6 A n c l w) (hx:Ext w w'):Cut6 A n c l w':=⟨h.row.ext hx,h.len,h.n6,h.nc,h.cm,h.nil,h.z⟩
set_option maxHeartbeats 2000000 in
theorem pholds_any (p:Int) (A:Option Addr) (n0 c:Nat) (l0:List ByteArray) (s:ByteArray) (w:World) (hr0:Rd w A (txs l0)) (hn0:l0.length=n0) (hnc0:n0≤c) (hcm:c≤maxLen) (hA:A=none→c=0) (hz0:∀s∈l0,s.size≤140737488351232) (hs:s.size≤140737488351232) (hwd:Wd w) (hpow:Pow w) (hN:Nms w) :
  Calls Tryz.prog 9 #[.int .i64 p,.slice A n0 c,.string s] w fun en w'=>en=.returned (.bool true)∧Ext w w':=by
 have hfew:=few12_any l0 n0 c A w hn0 hnc0
 have hC:=cut6 hr0 hn0 hnc0 hcm hA hz0
 generalize l0.take 6=l at hfew hC
 obtain⟨n,hn⟩:∃z,Hid (l.length=z):=⟨_,rfl⟩
 rw[hn.out] at hfew hC
 clear hr0 hn0 hnc0 hcm hA hz0
 have hH:=fun W A' c' (hW:Ext w W) (h':Rd W A' (txs l))=>Holds_any p A' n c' l W h' hn.out (by have:=hC.n6;omega) hC.z (hwd.ext hW) (hpow.ext hW)
 have hX:=fun W A' c' (hW:Ext w W) (h':Rd W A' (txs l))=>Next_any p A' n c' l s W h' hn.out (by have:=hC.n6;omega) hC.z hs (hwd.ext hW) (hpow.ext hW)
 have hH2:=fun W (hW:Ext w W)=>holds12_any p A n c l W (hC.row.ext hW) hn.out (by have:=hC.n6;omega) hC.z
 have hX2:=fun W (hW:Ext w W)=>next12_any p A n c l s W (hC.row.ext hW) hn.out (by have:=hC.n6;omega) hC.z hs
 have hli:=fun W (hW:Ext w W)=>lives12_any W (hwd.ext hW) (hpow.ext hW) (hN.ext hW)
 obtain⟨b1,hb1⟩:∃z,Hid (HoldsT p l=z):=⟨_,rfl⟩
 obtain⟨b2,hb2⟩:∃z,Hid (NextT p l s=z):=⟨_,rfl⟩
 simp only[hb1.out] at hH hH2
 simp only[hb2.out] at hX hX2
 have hbb1:=fun W=>eql_bool b1 W
 have hbb2:=fun W=>eql_bool b2 W
 obtain⟨PO,hPO⟩:∃PO:Ending→World→Prop,Hid ((fun en w'=>en=.returned (.bool true)∧Ext w w')=PO):=⟨_,Lib.hid rfl⟩
 have fin:∀W,Ext w W→PO (.returned (.bool true)) W:=fun W hW=>by rw[←hPO.out];exact⟨rfl,hW⟩
 rw[hPO.out]
 have hlen:(txs l).length=n*1:=by simp[txs];exact hn.out
 replace fin:=Lib.hid fin
 replace hH:=Lib.hid hH
 replace hX:=Lib.hid hX
 replace hH2:=Lib.hid hH2
 replace hX2:=Lib.hid hX2
 replace hli:=Lib.hid hli
 replace hC:=Lib.hid hC
 replace hlen:=Lib.hid hlen
 clear hs
 go_enter Tryz.func9,Tryz.ntmps9
 go_wp2_with fail
 refine hfew.mono ?_
 rintro en w2 ⟨rfl,hw2⟩
 obtain rfl:w=w2:=hw2.symm
 clear hfew
 go_wp2_with
  (refine wpList_app0 el_st _ rfl (.tmp 10) (.tmp 11) rfl 0 w.heap.size rfl (World.ownsRow_lit w #[] 0 (Nat.zero_le _) (Nat.zero_le _) rfl) A n c (txs l) rfl (hC.out.row.ext ((Ext.refl w).alloc _)) hlen.out hC.out.nil (by have:=hC.out.n6;omega) (by omega) (Nat.zero_le _) (fun v1 w1 ho1 hx1=>?_))
 have hx01:=((Ext.refl w).alloc _).trans hx1
 obtain⟨A1,c1,rfl,r1⟩:=Rd.of_own ho1
 have r3:Rd w1 A1 (txs l):=by obtain⟨x1,x2,x3,x4⟩:=r1;first|exact x1|exact x2|exact x3|exact x4
 clear r1 ho1
 have hc1:=hH.out w1 A1 c1 hx01 r3
 clear r3 hx1
 replace hx01:=Lib.hid hx01
 go_wp2_with fail
 refine hc1.mono ?_
 rintro en w3 ⟨rfl,hx3⟩
 have hx03:=hx01.out.trans hx3
 have hc3:=hH2.out w3 hx03
 clear hc1 hx01 hx3
 replace hx03:=Lib.hid hx03
 go_wp2_with fail
 refine hc3.mono ?_
 rintro en w4 ⟨rfl,hx4⟩
 have hx04:=hx03.out.trans hx4
 clear hc3 hx03 hx4
 replace hx04:=Lib.hid hx04
 go_wp2_with
  (refine wpList_app0w el_st _ (by rfl) (.tmp 20) (.tmp 21) rfl 0 w4.heap.size rfl (World.ownsRow_lit w4 #[] 0 (Nat.zero_le _) (Nat.zero_le _) rfl) A n c (txs l) rfl (hC.out.row.ext (hx04.out.trans ((Ext.refl w4).alloc _))) hlen.out hC.out.nil (by have:=hC.out.n6;omega) (by omega) (Nat.zero_le _) (fun v1 w1 ho1 hx1=>?_))
 have hx05:=hx04.out.trans (((Ext.refl w4).alloc _).trans hx1)
 obtain⟨A1,c1,rfl,r1⟩:=Rd.of_own ho1
 have r3:Rd w1 A1 (txs l):=by obtain⟨x1,x2,x3,x4⟩:=r1;first|exact x1|exact x2|exact x3|exact x4
 clear r1 ho1
 have hc1:=hX.out w1 A1 c1 hx05 r3
 clear r3 hx1 hx04
 replace hx05:=Lib.hid hx05
 go_wp2_with fail
 refine hc1.mono ?_
 rintro en w6 ⟨rfl,hx6⟩
 have hx06:=hx05.out.trans hx6
 have hc3:=hX2.out w6 hx06
 clear hc1 hx05 hx6
 replace hx06:=Lib.hid hx06
 go_wp2_with fail
 refine hc3.mono ?_
 rintro en w7 ⟨rfl,hx7⟩
 have hx07:=hx06.out.trans hx7
 have hc4:=hli.out w7 hx07
 clear hc3 hx06 hx7
 replace hx07:=Lib.hid hx07
 go_wp2_with fail
 refine hc4.mono ?_
 rintro en w8 ⟨rfl,hx8⟩
 have hf:=fin.out w8 (hx07.out.trans hx8)
 clear hc4
 go_wp2_with fail
 exact hf
theorem one_holds (p:Int) (s:ByteArray):HoldsT p [s]=(isP s && polP p):=by
 unfold HoldsT holdsP
 rw[show holdsA p (List.map schP [s]) (List.map schP [s]).length=(true && nextP p [] (schP s)) from rfl,show nextP p [] (schP s)=true by unfold nextP lastOf;simp]
 simp
set_option maxHeartbeats 3000000 in
theorem none_any (p:Int) (A:Option Addr) (n0 c:Nat) (l0:List ByteArray) (w:World) (hr0:Rd w A (txs l0)) (hn0:l0.length=n0) (hnc0:n0≤c) (hcm:c≤maxLen) (hA:A=none→c=0) (hz0:∀s∈l0,s.size≤140737488351232) (hwd:Wd w) (hpow:Pow w) (hN:Nms w) :
  Calls Tryz.prog 8 #[.int .i64 p,.slice A n0 c] w fun en w'=>en=.returned (.bool true)∧Ext w w':=by
 have hfew:=few12_any l0 n0 c A w hn0 hnc0
 have hC:=cut6 hr0 hn0 hnc0 hcm hA hz0
 generalize l0.take 6=l at hfew hC
 obtain⟨n,hn⟩:∃z,Hid (l.length=z):=⟨_,rfl⟩
 rw[hn.out] at hfew hC
 clear hr0 hn0 hnc0 hcm hA hz0
 have hH:=fun W A' c' (hW:Ext w W) (h':Rd W A' (txs l))=>Holds_any 0 A' n c' l W h' hn.out (by have:=hC.n6;omega) hC.z (hwd.ext hW) (hpow.ext hW)
 have hH2:=fun W (hW:Ext w W)=>holds12_any 0 A n c l W (hC.row.ext hW) hn.out (by have:=hC.n6;omega) hC.z
 have hO:=fun s (hs:s∈l) W A' c' (hW:Ext w W) (h':Rd W A' (txs [s]))=>Holds_any p A' 1 c' [s] W h' rfl (by omega) (fun t ht=>by rw[List.mem_singleton] at ht;rw[ht];exact hC.z s hs) (hwd.ext hW) (hpow.ext hW)
 have hO2:=fun s (hs:s∈l) W A' c' (hW:Ext w W) (h':Rd W A' (txs [s]))=>holds12_any 0 A' 1 c' [s] W h' rfl (by omega) (fun t ht=>by rw[List.mem_singleton] at ht;rw[ht];exact hC.z s hs)
 simp only[one_holds] at hO hO2
 have hli:=fun W (hW:Ext w W)=>lives12_any W (hwd.ext hW) (hpow.ext hW) (hN.ext hW)
 obtain⟨b1,hb1⟩:∃z,Hid (HoldsT 0 l=z):=⟨_,rfl⟩
 simp only[hb1.out] at hH hH2
 have hbb1:=fun W=>eql_bool b1 W
 obtain⟨PO,hPO⟩:∃PO:Ending→World→Prop,Hid ((fun en w'=>en=.returned (.bool true)∧Ext w w')=PO):=⟨_,Lib.hid rfl⟩
 have fin:∀W,Ext w W→PO (.returned (.bool true)) W:=fun W hW=>by rw[←hPO.out];exact⟨rfl,hW⟩
 rw[hPO.out]
 have hlen:(txs l).length=n*1:=by simp[txs];exact hn.out
 replace fin:=Lib.hid fin
 replace hH:=Lib.hid hH
 replace hH2:=Lib.hid hH2
 replace hO:=Lib.hid hO
 replace hO2:=Lib.hid hO2
 replace hli:=Lib.hid hli
 have hn6:=hC.n6
 replace hC:=Lib.hid hC
 replace hlen:=Lib.hid hlen
 have pc:=pol_cases p
 go_enter Tryz.func8,Tryz.ntmps8
 go_wp2_with fail
 refine hfew.mono ?_
 rintro en w2 ⟨rfl,hw2⟩
 obtain rfl:w=w2:=hw2.symm
 clear hfew
 go_wp2_with fail
 go_loopw [5,8,9,10,11,12,13,14,15,16,17,18,19,20,21,22,23,24,25,26,27,28,29,30,31,32,33,34,35] (fun v5 v8 v9 v10 v11 v12 v13 v14 v15 v16 v17 v18 v19 v20 v21 v22 v23 v24 v25 v26 v27 v28 v29 v30 v31 v32 v33 v34 v35 wr=>∃i:Nat,i≤n∧v5=.int .i64 (i:Int)∧Ext w wr) (fun v5 _ _ _ _ _ _ _ _ _ _ _ _ _ _ _ _ _ _ _ _ _ _ _ _ _ _ _ _ _=>n-(intOf v5).toNat)
 case atStart=>exact⟨0,Nat.zero_le _,rfl,Ext.refl w⟩
 case round=>
  obtain⟨i,hi,rfl,hx⟩:=hrel
  by_cases hin:i<n
  ·have hin':(i:Int)<(n:Int):=by omega
   obtain⟨x,hme⟩:∃m,l[i]?=some m:=⟨_,List.getElem?_eq_getElem (by have:=hn.out;omega)⟩
   obtain⟨b,off,eA,hzz,hc⟩:=(hC.out.row.ext hx).at_ (k:=i) (by simp only[txs,List.length_map];have:=hn.out;omega)
   clear hzz
   have hck:∀W,Ext wr W→W.cell? ⟨b,off+i,none⟩=some (.string x):=fun W hW=>hW.cell (hc i _ (by simp[txs,hme]))
   clear hc
   subst eA
   have hxm:=List.mem_of_getElem? hme
   clear hme
   have hr1:∀W:World,Rd (W.alloc (.cells #[.string x] 9)) (some ⟨W.heap.size,0,none⟩) (txs [x]):=fun W=>Rd.of_block W 9 (0,0) rfl
   have hc1:=hO.out x hxm _ _ 1 (hx.trans ((Ext.refl wr).alloc _)) (hr1 wr)
   have hc2:=fun W (hW:Ext wr W)=>hO2.out x hxm _ _ 1 (hx.trans (hW.trans ((Ext.refl W).alloc _))) (hr1 W)
   have hck0:=hck wr (Ext.refl _)
   replace hck:=Lib.hid hck
   obtain⟨v,hv⟩:∃z,Hid (isP x=z):=⟨_,rfl⟩
   simp only[hv.out,show polP 0=true by decide,Bool.and_true] at hc1 hc2
   have hbb2:=fun W=>neq_bool v W
   replace hc2:=Lib.hid hc2
   rcases pc with⟨p1,pp⟩|⟨p1,p2,pp⟩|⟨p1,p2,pp⟩
   ·rw[pp,Bool.and_false] at hc1
    clear pp
    go_wp2_with fail
    refine hc1.mono ?_
    rintro e w3 ⟨rfl,hx3⟩
    have hxx:=hx.trans (((Ext.refl wr).alloc _).trans hx3)
    clear hc1 hx3
    replace hxx:=Lib.hid hxx
    go_wp2_with fail
    go_roundw
    case rel=>exact⟨i+1,by omega,by go_num,hxx.out⟩
    case measure=>simp[intOf]<;>omega
   ·rw[pp,Bool.and_false] at hc1
    clear pp
    go_wp2_with fail
    refine hc1.mono ?_
    rintro e w3 ⟨rfl,hx3⟩
    have hxx:=hx.trans (((Ext.refl wr).alloc _).trans hx3)
    clear hc1 hx3
    replace hxx:=Lib.hid hxx
    go_wp2_with fail
    go_roundw
    case rel=>exact⟨i+1,by omega,by go_num,hxx.out⟩
    case measure=>simp[intOf]<;>omega
   ·rw[pp,Bool.and_true] at hc1
    clear pp
    go_wp2_with fail
    refine hc1.mono ?_
    rintro e w3 ⟨rfl,hx3⟩
    have hw3:=((Ext.refl wr).alloc _).trans hx3
    have hck3:=hck.out _ hw3
    have hc3:=hc2.out _ hw3
    have hxx:=hx.trans hw3
    clear hc1 hx3 hw3
    replace hxx:=Lib.hid hxx
    go_wp2_with fail
    refine hc3.mono ?_
    rintro e w4 ⟨rfl,hx4⟩
    have hx04:=hxx.out.trans (((Ext.refl w3).alloc _).trans hx4)
    clear hc3 hx4 hck3
    replace hx04:=Lib.hid hx04
    go_wp2_with fail
    go_roundw
    case rel=>exact⟨i+1,by omega,by go_num,hx04.out⟩
    case measure=>simp[intOf]<;>omega
  ·obtain rfl:i=n:=by omega
   replace hx:=Lib.hid hx
   go_wp2_with
    (refine wpList_app0 el_st _ rfl (.tmp 36) (.tmp 37) rfl 0 wr.heap.size rfl (World.ownsRow_lit wr #[] 0 (Nat.zero_le _) (Nat.zero_le _) rfl) A i c (txs l) rfl (hC.out.row.ext (hx.out.trans ((Ext.refl wr).alloc _))) hlen.out hC.out.nil (by have:=hC.out.n6;omega) (by omega) (Nat.zero_le _) (fun v1 w1 ho1 hx1=>?_))
   have hx01:=hx.out.trans (((Ext.refl wr).alloc _).trans hx1)
   obtain⟨A1,c1,rfl,r1⟩:=Rd.of_own ho1
   have r3:Rd w1 A1 (txs l):=by obtain⟨x1,x2,x3,x4⟩:=r1;first|exact x1|exact x2|exact x3|exact x4
   clear r1 ho1
   have hc1:=hH.out w1 A1 c1 hx01 r3
   clear r3 hx1
   replace hx01:=Lib.hid hx01
   go_wp2_with fail
   refine hc1.mono ?_
   rintro en w3 ⟨rfl,hx3⟩
   have hx03:=hx01.out.trans hx3
   have hc3:=hH2.out w3 hx03
   clear hc1 hx01 hx3
   replace hx03:=Lib.hid hx03
   go_wp2_with fail
   refine hc3.mono ?_
   rintro en w4 ⟨rfl,hx4⟩
   have hx04:=hx03.out.trans hx4
   have hc4:=hli.out w4 hx04
   clear hc3 hx03 hx4
   replace hx04:=Lib.hid hx04
   go_wp2_with fail
   refine hc4.mono ?_
   rintro en w8 ⟨rfl,hx8⟩
   have hf:=fin.out w8 (hx04.out.trans hx8)
   clear hc4
   go_wp2_with fail
   exact hf
end Pd
namespace policyNone
open Go.ChangeMaps (open_string shut_string)
open Base Args
theorem own:ownKnob Tryz.prog.godebug=none:=by kernel_rfl
theorem laidOut:laidOutB Tryz.prog=true:=by kernel_rfl
theorem laid_met (os:Os):laidMet Tryz.prog Rows.policyNoneRow.laid ((Pl.laidWorld os).forCall (fun _ _=>0) ⟨#[],#[.int .i64 0,.slice none 0 0],[]⟩).memory:=
 laidMet_of_run' 8 (by kernel_rfl) (by kernel_rfl)
theorem reads (os:Os) {H:Type} (enc:TypeId×Value→H):∃places,DataW.whole enc Tryz.prog ((Pl.laidWorld os).forCall (fun _ _=>0) ⟨#[],#[.int .i64 0,.slice none 0 0],[]⟩).memory Tryz.f8.params.toList Rows.policyNoneSpec.vars false (#[.int .i64 0,.slice none 0 0]:Array Value).toList 8=some ([.lit (.int .i64 0),.nil],[],places):=
 ⟨[],by kernel_rfl⟩
theorem lifted (os:Os) (started:os.Started) (H:Type) (enc:TypeId×Value→H) (F:Stop.Interp) :
  ReturnsInHanded {} Tryz.checked os 8 .any ((OpenSpec.ofChange Rows.policyNoneSpec).preRow enc Tryz.prog Tryz.f8 Rows.policyNoneRow.domain false Rows.policyNoneRow.laid) (((OpenSpec.ofChange Rows.policyNoneSpec).at F).post enc Tryz.prog Tryz.f8 false true false false):=by
 obtain⟨places,hx⟩:=reads os enc
 refine returnsInHanded_of_row (C:=Tryz.checked) (s:=(OpenSpec.ofChange Rows.policyNoneSpec)) own started (by kernel_rfl) Tryz.func8
  (witness_row_at (enc:=enc) (C:=Tryz.checked) false (Pl.laidWorld os) #[.int .i64 0,.slice none 0 0] rfl (by kernel_rfl) (by kernel_rfl) (by kernel_rfl)
   (OpenSpec.preRow_of_cond 8 hx (by kernel_rfl) (fun k hk=>by cases hk) (by kernel_rfl) (laid_met os))) ?_
 intro W base args ds gs before hval0 hW hcnd hk0 hsz0 hL _ _
 have hval:∀(j:Nat) t v,Tryz.f8.params[j]?=some t→args[j]?=some v→Value.okWide Tryz.prog W .any base t v:=hval0
 have hW':=hW
 obtain⟨p,q,hAz,hV,rfl,hfz,hnd⟩:=hW
 have hA:DataW.TrodAll enc Tryz.prog W 0 (fun _=>true) true Tryz.f8.params.toList args.toList ds p:=hAz
 have hsz:(DataW.weightsEach Tryz.prog (Tryz.f8.params.toList++Rows.policyNoneSpec.plain.varTypes Tryz.prog) (ds++gs)).all (· ≤ reachBytes)=true:=hsz0
 rw[Tryz.params8] at hA hval hsz
 obtain⟨v0,vs0,d0,ds0,p0,q0,hargs,rfl,rfl,h0,r0⟩:=trodAll_cons hA
 obtain⟨v1,vs1,d1,ds1,p1,q1,rfl,rfl,rfl,h1,r1⟩:=trodAll_cons r0
 obtain⟨rfl,rfl,rfl⟩:=trodAll_nil r1
 obtain rfl:args = #[v0,v1]:=by cases args;simp_all
 obtain⟨rfl,rfl⟩:=trodVars_none hV
 obtain⟨a0,rfl,rfl,rfl,w0⟩:=open_int Tryz.underlying3 (hval 0 3 v0 rfl rfl) h0
 have hi0 : -9223372036854775808≤a0∧a0≤9223372036854775807:=by simpa [Lit.wf,IntKind.min,IntKind.max,IntKind.signed,IntKind.bits] using w0
 have k1:=h1
 have lt1:∀x∈p1,x.block<W.heap.size:=by obtain⟨m,hm⟩:=k1;exact DataW.trod_lt m _ _ _ hm
 obtain⟨A1,n1,c1,l1,rfl,hl1,hr1,hc1,hm1,hA1,hs1,hd1⟩:=strs_arg Tryz.underlying32 Tryz.underlying9 (by kernel_rfl) (hval 1 32 v1 rfl rfl) h1
 have hz1:=strs_reach hsz (j:=1) (t:=32) rfl rfl Tryz.underlying32 hl1 hd1
 clear hAz hval0
 refine (Pd.none_any a0 A1 n1 c1 l1 W hr1 hl1 hc1 hm1 hA1 hz1 (Pl.tabs12 hL).1 (Pl.tabs12 hL).2.1 (Pl.tabs12 hL).2.2).mono fun e W' ⟨he,bel⟩=>?_
 have bel:Below W.heap.size W W':=bel
 subst he
 exact⟨_,rfl,_,_,_,[],_,[],hW',trodAll_mk1 (shut_bool Tryz.underlying4 _),(trodAll_cons_mk (shut_int Tryz.underlying3 w0) (trodAll_cons_mk (Below.trod laidOut (by kernel_rfl) (of_decide_eq_true (by kernel_rfl)) k1 bel lt1) trodAll_mk0)),rfl,bel.frame _,fun h=>by cases h⟩
theorem and2 {a b:Bool} (h:a=true) (k:b=true):(a && b)=true:=by rw[h,k];rfl
theorem joined:joinedFacts Tryz.pinned.checked.prog 8 Tryz.f8 (OpenSpec.ofChange Rows.policyNoneSpec).bare Rows.policyNoneRow=true:=by
 unfold joinedFacts
 repeat' (with_reducible refine and2 ?_ ?_)
 all_goals as_aux_lemma=>kernel_rfl
theorem said:Rows.PolicyNoneSaid:=
 OpenClaim.holds_of_cond 8 Tryz.f8 rfl rfl rfl rfl rfl rfl rfl ⟨rfl,rfl,rfl,rfl,rfl⟩ rfl rfl rfl rfl rfl (by kernel_rfl) Tryz.func8 joined
  (of_decide_eq_true (by kernel_rfl)) (by unfold Func.isWrapper;first|(rw[if_pos (by decide +kernel)];kernel_rfl)|(rw[if_neg (by decide +kernel)];exact⟨rfl,rfl⟩))
  (fun os started H enc _ F=>by rw[OpenClaim.pre_eq_preRow];exact lifted os started H enc F)
theorem plain (f:FuncId) (fn:Func) (hf:Tryz.pinned.checked.prog.funcNamed "suffragan/suffraganlaw12.PolicyNone" = some f) (hfn:Tryz.pinned.checked.prog.funcs[f]?=some fn) :
  true=Tryz.pinned.checked.prog.looks []∧∀(j:Nat) t,fn.params[j]?=some t→Tryz.pinned.checked.prog.wantsStandIn t=false:=by
 obtain rfl:f=8:=Option.some.inj ((show Tryz.prog.funcNamed "suffragan/suffraganlaw12.PolicyNone" = some 8 by kernel_rfl).symm.trans hf) |>.symm
 obtain rfl:fn=Tryz.f8:=(Option.some.inj (Tryz.func8.symm.trans hfn)).symm
 refine⟨by kernel_rfl,fun j t ht=>?_⟩
 rw[Tryz.params8] at ht
 have hm:=Array.mem_of_getElem? ht
 simp only[Array.mem_def,List.mem_cons,List.mem_nil_iff,or_false] at hm
 rcases hm with rfl|rfl
 ·exact (show Tryz.prog.wantsStandIn 3=false by kernel_rfl)
 ·exact (show Tryz.prog.wantsStandIn 32=false by kernel_rfl)
theorem proved:Rows.PolicyNoneCardSaid:=
 Claim7.holds_tied_plain_at .later [] _ _ _ _ said (fun _ h=>by cases h) (by kernel_rfl) (fun _ h=>by cases h) policyNone_row_tie rfl ⟨rfl,rfl⟩ (by kernel_rfl) rfl plain (by kernel_rfl)
#print axioms proved
end policyNone
end Go.Proofs.YtmaoochjbpohdaaGreatDoor
