/- suffragan/suffraganlaw17.ChainDigests: the given statement, out of the contract of its walk. No condition. -/
import Derived.Test.YtbpfabhlngfciaaGreatDoorCdZA
set_option linter.unusedVariables false
set_option linter.unusedSimpArgs false
set_option maxRecDepth 100000
set_option maxHeartbeats 1000000
namespace Go.Proofs.YtbpfabhlngfciaaGreatDoor.Rk
open Go.ChangeShapes Go.WideShapes Go.ChangeAt Go.RowKit
open Base Pf Cn Pr Lx Mi Ch ShaP ShaW
theorem hy_load {P:Program} {f:Operand→Value} {oi:Oper} {w:World} (ty:TypeId) (x:Operand) (ho:oi.op=.load ty x) {p v:Value} (hx:f x=p) (h:(Instr.loadAt ty p).run P w=.ok v w):(execOp f oi).run P w=.ok (.value v) w:=by
 unfold execOp
 simp only[ho,hx,Sem.run_bind,h,Result.andThen_ok,Sem.run_pure]
theorem few_any {B:Nat} {w:World} {v:Value} {l:List Et} (h:Sl B w v l.length (entsZ l)) :
  ∃A c,Sl B w (.slice A (l.take 5).length c) (l.take 5).length (entsZ (l.take 5))∧∀W,Calls Tryz.prog 33 #[v] W fun en w'=>en=.returned (.slice A (l.take 5).length c)∧Ext W w':=by
 have h0:=h
 obtain⟨A,c,rfl,hn,hm,_,_⟩:=h.at_
 unfold maxLen at hm
 by_cases h5:5<l.length
 ·have hl:(l.take 5).length=5:=by rw[List.length_take];omega
  have hs:=sl_take h0 5 (by omega)
  rw[hl] at hs ⊢
  refine⟨A,c,hs,fun W=>?_⟩
  have hcut:=fun W=>run_cutZ (P:=Tryz.prog) (t:=66) (e:=55) (s:=4) Tryz.underlying66 (by kernel_rfl) W A l.length c 5 (by omega)
  obtain⟨n,hn'⟩:∃z,Hid (l.length=z):=⟨_,rfl⟩
  simp only[hn'.out] at hcut
  rw[hn'.out] at h5 hn ⊢
  have h5':(5:Int)<(n:Int):=by omega
  clear h h0 hs
  go_enter Tryz.func33,Tryz.ntmps33
  go_wp2_with fail
  go_ret
  exact⟨rfl,Ext.refl W⟩
 ·have hl:l.take 5=l:=List.take_of_length_le (by omega)
  rw[hl]
  refine⟨A,c,h0,fun W=>?_⟩
  obtain⟨n,hn'⟩:∃z,Hid (l.length=z):=⟨_,rfl⟩
  rw[hn'.out] at h5 hn ⊢
  have h5':¬(5:Int)<(n:Int):=by omega
  clear h h0
  go_enter Tryz.func33,Tryz.ntmps33
  go_wp2_with fail
  go_ret
  exact⟨rfl,Ext.refl W⟩
set_option maxHeartbeats 1500000 in
theorem digests_any (v:Value) (l0:List Et) (S:List UInt8) (hS:S.length=32) (b:Nat) (hb:b<256) (w:World) (hwd:Wd w) (hpow:Pow w) (ht:Tabs w) (h:Sl w.heap.size w v l0.length (entsZ l0)) (hE0:∀e∈l0,EtOk e) :
  Calls Tryz.prog 10 #[v,.agg (u8s S).toArray,.int .u8 (b:Int)] w fun en w'=>en=.returned (.bool true)∧Ext w w':=by
 obtain⟨A,c,hSl,hfew⟩:=few_any h
 have hE:∀e∈l0.take 5,EtOk e:=fun e he=>hE0 e (List.mem_of_mem_take he)
 have hn5:(l0.take 5).length≤5:=by rw[List.length_take];omega
 generalize l0.take 5=l at hSl hfew hE hn5
 clear h hE0
 have hST:=fun k hk=>sl_take hSl k hk
 have hrd:=fun W (hW:Ext w W)=>rDigest_any l.length w.heap.size (.slice A l.length c) l W rfl (hSl.below hW) hW.size hE
 have hdg:=fun (l':List Et) (h':∀e∈l',EtOk e) W (hW:Ext w W) v' (hv:Sl W.heap.size W v' l'.length (entsZ l'))=>Digest_any W.heap.size v' l' W hv (Nat.le_refl _) h' (hwd.ext hW) (hpow.ext hW) (ht.ext hW)
 have hst:=fun Y hY e he W (hW:Ext w W)=>Step_any Y hY e he W (hwd.ext hW) (hpow.ext hW) (ht.ext hW)
 have hrst:=fun e he W=>rStep_any S hS e he W
 have hli:=fun W (hW:Ext w W)=>Ch.lives_any W (hwd.ext hW) (hpow.ext hW)
 have hdl:=digP_len l
 obtain⟨D,hD⟩:∃z,Hid (digP l=z):=⟨_,Lib.hid rfl⟩
 have hdg0:=hdg l hE
 simp only[hD.out] at hrd hdg0
 rw[hD.out] at hdl
 have hB:=Nat.le_refl w.heap.size
 obtain⟨A',c',ev,hn1,hm1,_,hat⟩:=hSl.at_
 obtain⟨A1,c1,ev1,hra,_,_,_,hA⟩:=hSl
 injection ev with ev evn evc
 injection ev1 with ev1 ev1n ev1c
 clear evn ev1n
 subst ev;subst evc;subst ev1;subst ev1c
 obtain⟨n,hn⟩:∃z,Hid (l.length=z):=⟨_,rfl⟩
 have el:=entsZ_length l
 have hget:∀j,j<n→∃e,l[j]?=some e∧EtOk e:=fun j hj=>⟨l[j]'(by have:=hn.out;omega),List.getElem?_eq_getElem _,hE _ (List.getElem_mem _)⟩
 rw[hn.out] at hn1 hn5 hfew hrd hdg0 el
 obtain⟨k,hk⟩:∃z,Hid (b%(n+1)=z):=⟨_,rfl⟩
 have hkn:k≤n:=by have:=hk.out;have:=Nat.mod_lt b (show 0<n+1 by omega);omega
 have hrem2:(b:Int)%((n:Int)+1)=(k:Int):=by rw[←hk.out];rfl
 have hnz:¬(n:Int)+1=0:=by omega
 have hwb:IntKind.i64.wrap (b:Int)=(b:Int):=by rw[IntKind.wrap_i64];omega
 replace hb:=Lib.hid hb
 have hSTk:=hST k (by rw[hn.out];exact hkn)
 have hkl:(l.take k).length=k:=by rw[List.length_take,hn.out];omega
 obtain⟨A2,c2,ev2,hrak,_,_,_,_⟩:=hSTk
 injection ev2 with ev2 ev2n ev2c
 clear ev2n
 subst ev2;subst ev2c
 have elk:=entsZ_length (l.take k)
 rw[hkl] at elk
 unfold maxLen at hm1
 have hcut:=fun W=>run_cutZ (P:=Tryz.prog) (t:=66) (e:=55) (s:=4) Tryz.underlying66 (by kernel_rfl) W A n c k (by omega)
 have hdgk:=hdg (l.take k) (fun e he=>hE e (List.mem_of_mem_take he))
 rw[hkl] at hdgk
 have hEq:∀w,(Op.equalIn 10000 23 (.agg (u8s D).toArray) (.agg (u8s D).toArray)).run Tryz.prog w=.ok true w:=fun w=>by rw[eq_sum D D hdl hdl];simp
 obtain⟨L,hL⟩:∃z,Hid (u8s S=z):=⟨_,Lib.hid rfl⟩
 have hLl:L.length=32:=by rw[←hL.out,u8s_length,hS]
 obtain⟨q0,hq0⟩:∃z,Hid (w.heap.size=z):=⟨_,rfl⟩
 obtain⟨w1,hw1⟩:∃z,Hid (w.alloc (.cells L.toArray 23)=z):=⟨_,rfl⟩
 have hx1:Ext w w1:=by rw[←hw1.out];exact (Ext.refl w).alloc _
 have hb1:Blk w1 q0 L.toArray 23:=by rw[←hw1.out,←hq0.out];exact Blk.new w _ _
 obtain⟨PO,hPO⟩:∃PO:Ending→World→Prop,Hid ((fun en w'=>en=.returned (.bool true)∧Ext w w')=PO):=⟨_,Lib.hid rfl⟩
 rw[hPO.out]
 have hfin:∀W,Ext w W→PO (.returned (.bool true)) W:=fun W h=>by rw[←hPO.out];exact⟨rfl,h⟩
 rw[hL.out]
 replace hfin:=Lib.hid hfin
 replace hrd:=Lib.hid hrd
 replace hdg0:=Lib.hid hdg0
 replace hdgk:=Lib.hid hdgk
 replace hst:=Lib.hid hst
 replace hrst:=Lib.hid hrst
 replace hli:=Lib.hid hli
 replace hget:=Lib.hid hget
 replace hat:=Lib.hid hat
 replace hA:=Lib.hid hA
 replace hra:=Lib.hid hra
 replace hrak:=Lib.hid hrak
 have hf1:=hfew w1
 clear hdg hST hE hfew
 go_enter Tryz.func10,Tryz.ntmps10
 go_wp2_with fail
 rw[hw1.out,hq0.out]
 refine hf1.mono ?_
 rintro en w2 ⟨rfl,hx12⟩
 have hxl2:Ext w2 (w2.alloc (.cells #[] 55)):=(Ext.refl w2).alloc _
 have hra2:=hra.out.ext ((hx1.trans hx12).trans hxl2)
 have hlit:(w2.alloc (.cells #[] 55)).ownsRow w2.heap.size 55 4 (.slice (some ⟨w2.heap.size,0,none⟩) 0 0) 0 []:=World.ownsRow_lit w2 #[] 0 (Nat.le_refl _) (Nat.zero_le _) rfl
 have hbl:=hxl2.size
 clear hf1
 go_wp2_with (
  refine Ch.wpList_app0 el_ent _ rfl (.tmp 12) (.tmp 13) rfl w2.heap.size w2.heap.size rfl hlit A n c (entsZ l) rfl hra2 el hA.out (by omega) (by omega) hbl (fun v3 w3 ho3 hx3=>?_)
  have hx13:=(hx12.trans hxl2).trans hx3
  have hd3:=hdg0.out w3 (hx1.trans hx13) v3 (Sl.ofOwn ho3 (Nat.le_refl _))
  clear ho3)
 refine hd3.mono ?_
 rintro en w4 ⟨rfl,hx4⟩
 have hx14:=hx13.trans hx4
 have hd4:=hrd.out w4 (hx1.trans hx14)
 clear hd3 hlit hra2 hbl hxl2 hx3
 go_wp2_with fail
 refine hd4.mono ?_
 rintro en w5 ⟨rfl,hx5⟩
 have hx15:=hx14.trans hx5
 clear hd4
 have hxl5:Ext w5 (w5.alloc (.cells #[] 55)):=(Ext.refl w5).alloc _
 have hra5:=hrak.out.ext ((hx1.trans hx15).trans hxl5)
 have hlit:(w5.alloc (.cells #[] 55)).ownsRow w5.heap.size 55 4 (.slice (some ⟨w5.heap.size,0,none⟩) 0 0) 0 []:=World.ownsRow_lit w5 #[] 0 (Nat.le_refl _) (Nat.zero_le _) rfl
 have hbl:=hxl5.size
 go_wp2_with (
  refine Ch.wpList_app0 el_ent _ rfl (.tmp 25) (.tmp 28) rfl w5.heap.size w5.heap.size rfl hlit A k c (entsZ (l.take k)) rfl hra5 elk hA.out (by omega) (by omega) hbl (fun v6 w6 ho6 hx6=>?_)
  have hx16:=(hx15.trans hxl5).trans hx6
  have hd6:=hdgk.out w6 (hx1.trans hx16) v6 (Sl.ofOwn ho6 (Nat.le_refl _))
  clear ho6)
 refine hd6.mono ?_
 rintro en w7 ⟨rfl,hx7⟩
 have hx17:=hx16.trans hx7
 have hYk:=digP_len (l.take k)
 obtain⟨Yk,hYk'⟩:∃z,Hid (digP (l.take k)=z):=⟨_,Lib.hid rfl⟩
 rw[hYk'.out] at hYk ⊢
 have hzN:=Blk.new w7 z32 23
 have hzF:=sumX_cells Yk hYk hzN
 have hxF:Ext w7 ((w7.alloc (.cells z32 23)).setCells w7.heap.size 0 (u8s Yk)):=Ext_sets (Nat.le_refl _) _ 0 ((Ext.refl w7).alloc _)
 clear hd6 hlit hra5 hbl hxl5 hx6 hrem2 hnz hwb
 go_wp2_with (refine wpList_store_mid rfl 23 (.tmp 8) (.tmp 30) rfl w7.heap.size 0 (u8s Yk).toArray rfl rfl (sumX_there hzN Yk hYk) (sumX_info _ hYk) (all_oneCell_toArray (u8s_one _)) ?_)
 clear hzN
 generalize hq:w7.heap.size=q at hzF hxF ⊢
 replace hq:=Lib.hid hq
 have hty:(Tryz.prog.info? 23).map (·.size)=some L.length:=by rw[hLl];kernel_rfl
 have hldS:∀W,Ext w1 W→(Instr.loadAt 23 (.pointer (some ⟨q0,0,none⟩))).run Tryz.prog W=.ok (.agg L.toArray) W:=fun W hW=>
  run_loadAt_mid W q0 0 23 L (.array 32 5) (fun j v hj=>by rw[Nat.zero_add,(hb1.ext hW).cell j,List.getElem?_toArray,hj]) (by kernel_rfl) rfl hty
 replace hldS:=Lib.hid hldS
 go_loopw [9,32,33,34,35,36,37,38,39,40,41,42,43,44,45,46,47,48,49,50,51,52,53,54,55,56] (fun v9 v32 v33 v34 v35 v36 v37 v38 v39 v40 v41 v42 v43 v44 v45 v46 v47 v48 v49 v50 v51 v52 v53 v54 v55 v56 wr=>∃i:Nat,k≤i∧i≤n∧v9=.int .i64 (i:Int)∧Blk wr q (u8s (digP (l.take i))).toArray 23∧Ext w7 wr) (fun v9 _ _ _ _ _ _ _ _ _ _ _ _ _ _ _ _ _ _ _ _ _ _ _ _ _ _=>n-(intOf v9).toNat)
 case atStart=>exact⟨k,Nat.le_refl _,hkn,rfl,by rw[hYk'.out];exact hzF,hxF⟩
 case round=>
  obtain⟨i,hki,hin,rfl,hbk,hx⟩:=hrel
  have hx1r:=hx17.trans hx
  have hYl:=digP_len (l.take i)
  obtain⟨Y,hY⟩:∃z,Hid (digP (l.take i)=z):=⟨_,Lib.hid rfl⟩
  rw[hY.out] at hbk hYl
  obtain⟨M,hM⟩:∃z,Hid (u8s Y=z):=⟨_,Lib.hid rfl⟩
  have hMl:M.length=32:=by rw[←hM.out,u8s_length,hYl]
  have htyM:(Tryz.prog.info? 23).map (·.size)=some M.length:=by rw[hMl];kernel_rfl
  have hldD:∀W,Ext wr W→(Instr.loadAt 23 (.pointer (some ⟨q,0,none⟩))).run Tryz.prog W=.ok (.agg M.toArray) W:=fun W hW=>
   run_loadAt_mid W q 0 23 M (.array 32 5) (fun j v hj=>by rw[Nat.zero_add,(hbk.ext hW).cell j,List.getElem?_toArray,hM.out,hj]) (by kernel_rfl) rfl htyM
  by_cases hi:i<n
  ·obtain⟨e,he,heo⟩:=hget.out i hi
   have hz:=entsZ_at l i _ he
   obtain⟨b1,o1,rfl,hbb,hc1⟩:=hat.out (i*4+0) (.bool e.pol) (by rw[hz 0 (by omega)];rfl)
   have hxr:Ext w wr:=hx1.trans hx1r
   have d0:∀W,Ext wr W→W.cell? ⟨b1,o1+i*4,none⟩=some (.bool e.pol):=fun W hW=>by have:=hc1 W (Below.mono (hxr.trans hW) hB) (i*4+0) _ (by rw[hz 0 (by omega)];rfl);simpa [Nat.add_assoc] using this
   have d1:∀W,Ext wr W→W.cell? ⟨b1,o1+i*4+1,none⟩=some (.int .i64 e.p):=fun W hW=>by have:=hc1 W (Below.mono (hxr.trans hW) hB) (i*4+1) _ (by rw[hz 1 (by omega)];rfl);simpa [Nat.add_assoc] using this
   have d2:∀W,Ext wr W→W.cell? ⟨b1,o1+i*4+2,none⟩=some (.string e.s):=fun W hW=>by have:=hc1 W (Below.mono (hxr.trans hW) hB) (i*4+2) _ (by rw[hz 2 (by omega)];rfl);simpa [Nat.add_assoc] using this
   have d3:∀W,Ext wr W→W.cell? ⟨b1,o1+i*4+3,none⟩=some (.int .u64 (e.id:Int)):=fun W hW=>by have:=hc1 W (Below.mono (hxr.trans hW) hB) (i*4+3) _ (by rw[hz 3 (by omega)];rfl);simpa [Nat.add_assoc] using this
   have hin':(i:Int)<(n:Int):=by omega
   have hnx:=digP_take l i e he
   have hXl:=stepP_len Y e
   have hZl:=stepP_len S e
   have hsD:=hst.out Y hYl e heo
   have hsS:=hst.out S hS e heo
   have hsR:=hrst.out e heo
   rw[hY.out] at hnx
   obtain⟨X,hX⟩:∃z,Hid (stepP Y e=z):=⟨_,Lib.hid rfl⟩
   obtain⟨Z,hZ⟩:∃z,Hid (stepP S e=z):=⟨_,Lib.hid rfl⟩
   rw[hX.out] at hnx hXl
   rw[hZ.out] at hZl
   simp only[hX.out,hM.out] at hsD
   simp only[hZ.out,hL.out] at hsS hsR
   have hEqZ:∀w,(Op.equalIn 10000 23 (.agg (u8s Z).toArray) (.agg (u8s Z).toArray)).run Tryz.prog w=.ok true w:=fun w=>by rw[eq_sum Z Z hZl hZl];simp
   have hldS':∀W,Ext wr W→(Instr.loadAt 23 (.pointer (some ⟨q0,0,none⟩))).run Tryz.prog W=.ok (.agg L.toArray) W:=fun W hW=>hldS.out W (hx1r.trans hW)
   have hwq:w7.heap.size≤q:=by have:=hq.out;omega
   obtain⟨pol,p,s,id⟩:=e
   unfold entV at hsD hsS hsR
   simp only at hsD hsS hsR d0 d1 d2 d3
   replace hsD:=Lib.hid hsD
   replace hsS:=Lib.hid hsS
   replace hsR:=Lib.hid hsR
   clear hget hat hz hc1 he hrd hdg0 hdgk hst hrst hli hra hrak hA hEq hldS el elk hcut
   go_wp2_with fail
   refine Reg.startE (by kernel_rfl) ?_
   refine Reg.tk 0 (hy:=fun W hW=>hy_load 23 (.tmp 4) rfl rfl (hldS' W hW)) ?_;(try simp only[Reg.nn])
   iterate 4 ((first|refine Reg.tn ?_|refine Reg.sn ?_);(try simp only[Reg.nn]))
   refine Reg.tk 6 (hy:=fun W hW=>hy_load 23 (.tmp 4) rfl rfl (hldS' W hW)) ?_;(try simp only[Reg.nn])
   refine Reg.tk 7 ?_;(try simp only[Reg.nn])
   refine Reg.tk 8 ?_;(try simp only[Reg.nn])
   refine Reg.tk 9 ?_;(try simp only[Reg.nn])
   refine Reg.tk 10 ?_;(try simp only[Reg.nn])
   refine Reg.onlyE 5 _ rfl (by kernel_rfl) (by decide) (by rfl) (fun W hW K hK=>?_);go_simp
   refine (hsS.out W (hxr.trans hW)).mono ?_
   rintro en wX ⟨rfl,hX9⟩
   have hq1:=hW.trans hX9
   refine hK.out _ _ (hX9) ?_;clear hK K;(try simp only[Reg.nn])
   refine Reg.onlyE 11 _ rfl (by kernel_rfl) (by decide) (by rfl) (fun W hW K hK=>?_);go_simp
   refine (hsR.out W).mono ?_
   rintro en wY ⟨rfl,hY9⟩
   have hq2:=(hq1.trans hW).trans hY9
   refine hK.out _ _ (hY9) ?_;clear hK K;(try simp only[Reg.nn])
   refine Reg.tk 12 ?_;(try simp only[Reg.nn])
   refine Reg.fin (by kernel_rfl) (fun W hW=>?_)
   replace hW:=hq2.trans hW
   obtain⟨wz,hwz⟩:∃z,z=W:=⟨W,rfl⟩
   rw[←hwz] at hW ⊢
   have hxz:Ext wr wz:=hW
   clear hwz
   have e0:∀W,Ext wz W→W.cell? ⟨b1,o1+i*4,none⟩=some (.bool pol):=fun W h=>d0 W (hxz.trans h)
   have e1:∀W,Ext wz W→W.cell? ⟨b1,o1+i*4+1,none⟩=some (.int .i64 p):=fun W h=>d1 W (hxz.trans h)
   have e2:∀W,Ext wz W→W.cell? ⟨b1,o1+i*4+2,none⟩=some (.string s):=fun W h=>d2 W (hxz.trans h)
   have e3:∀W,Ext wz W→W.cell? ⟨b1,o1+i*4+3,none⟩=some (.int .u64 (id:Int)):=fun W h=>d3 W (hxz.trans h)
   clear d0 d1 d2 d3 hldS' hsS hsR
   go_wp2_with fail
   refine Reg.startE (by kernel_rfl) ?_
   refine Reg.tk 0 (hy:=fun W hW=>hy_load 23 (.tmp 8) rfl rfl (hldD W (hxz.trans hW))) ?_;(try simp only[Reg.nn])
   iterate 4 ((first|refine Reg.tn ?_|refine Reg.sn ?_);(try simp only[Reg.nn]))
   refine Reg.onlyE 5 _ rfl (by kernel_rfl) (by decide) (by rfl) (fun W hW K hK=>?_);go_simp
   refine (hsD.out W ((hxr.trans hxz).trans hW)).mono ?_
   rintro en wX ⟨rfl,hX9⟩
   have hq1:=(hxz.trans hW).trans hX9
   refine hK.out _ _ (hX9) ?_;clear hK K;(try simp only[Reg.nn])
   refine Reg.lastD 6 _ rfl (by kernel_rfl) (by kernel_rfl) (by kernel_rfl) (by decide) (by rfl) (fun W hW K hK=>?_)
   have hq3:=hq1.trans hW
   have hbW:=hbk.ext hq3
   refine wp_store_mid 23 (.tmp 8) (.tmp 56) rfl q 0 (u8s X).toArray rfl rfl (sumY_there X Y hXl hYl hbW) (sumX_info _ hXl) (all_oneCell_toArray (u8s_one _)) ?_
   refine hK.out _ _ ?_;clear hK K;(try simp only[Reg.nn])
   have hxW:=hx.trans hq3
   go_wp2_with fail
   go_roundw
   case rel=>exact⟨i+1,by omega,by omega,by go_num,by rw[hnx];exact sumY_cells X Y hXl hYl hbW,Ext_sets hwq _ 0 hxW⟩
   case measure=>simp[intOf]<;>omega
  ·obtain rfl:i=n:=by omega
   have hYD:Y=D:=by rw[←hY.out,←hD.out,List.take_of_length_le (by have:=hn.out;omega)]
   subst hYD
   have hin':¬(i:Int)<(i:Int):=by omega
   simp only[hM.out] at hrd hEq
   have hxr:Ext w wr:=hx1.trans hx1r
   clear hget hat hdg0 hdgk hst hrst hra hrak hA hldS el elk hcut
   go_wp2_with fail
   refine Reg.startE (by kernel_rfl) ?_
   refine Reg.tk 0 (hy:=fun W hW=>hy_load 23 (.tmp 8) rfl rfl (hldD W hW)) ?_;(try simp only[Reg.nn])
   iterate 1 ((first|refine Reg.tn ?_|refine Reg.sn ?_);(try simp only[Reg.nn]))
   refine Reg.onlyE 2 _ rfl (by kernel_rfl) (by decide) (by rfl) (fun W hW K hK=>?_);go_simp
   refine (hrd.out W (hxr.trans hW)).mono ?_
   rintro en wX ⟨rfl,hX9⟩
   have hq1:=hW.trans hX9
   refine hK.out _ _ (hX9) ?_;clear hK K;(try simp only[Reg.nn])
   iterate 2 ((first|refine Reg.tn ?_|refine Reg.sn ?_);(try simp only[Reg.nn]))
   refine Reg.onlyE 5 _ rfl (by kernel_rfl) (by decide) (by rfl) (fun W hW K hK=>?_);go_simp
   refine (hli.out W (hxr.trans (hq1.trans hW))).mono ?_
   rintro en wY ⟨rfl,hY9⟩
   have hq2:=(hq1.trans hW).trans hY9
   refine hK.out _ _ (hY9) ?_;clear hK K;(try simp only[Reg.nn])
   iterate 2 ((first|refine Reg.tn ?_|refine Reg.sn ?_);(try simp only[Reg.nn]))
   refine Reg.fin (by kernel_rfl) (fun W hW=>?_)
   have hf:=hfin.out W (hxr.trans (hq2.trans hW))
   go_wp2_with fail
   first|exact hf|(go_ret;exact hf)
end Go.Proofs.YtbpfabhlngfciaaGreatDoor.Rk
namespace Go.Proofs.YtbpfabhlngfciaaGreatDoor.chainDigests
open Go.ChangeShapes Go.WideShapes Go.ChangeAt Go.RowKit
open Go.ChangeMaps (open_string shut_string)
open Base Args
theorem own:ownKnob Tryz.prog.godebug=none:=by kernel_rfl
theorem laidOut:laidOutB Tryz.prog=true:=by kernel_rfl
theorem laid_met (os:Os):laidMet Tryz.prog Rows.chainDigestsRow.laid ((Cn.laidWorld os).forCall (fun _ _=>0) ⟨#[],#[.slice none 0 0,.agg (Array.replicate 32 (.int .u8 0)),.int .u8 0],[]⟩).memory:=
 laidMet_of_run' 8 (by kernel_rfl) (by kernel_rfl)
theorem reads (os:Os) {H:Type} (enc:TypeId×Value→H):∃places,DataW.whole enc Tryz.prog ((Cn.laidWorld os).forCall (fun _ _=>0) ⟨#[],#[.slice none 0 0,.agg (Array.replicate 32 (.int .u8 0)),.int .u8 0],[]⟩).memory Tryz.f10.params.toList Rows.chainDigestsSpec.vars false (#[.slice none 0 0,.agg (Array.replicate 32 (.int .u8 0)),.int .u8 0]:Array Value).toList 8=some ([.nil,.agg (List.replicate 32 (.lit (.int .u8 0))),.lit (.int .u8 0)],[],places):=
 ⟨[],by kernel_rfl⟩
theorem lifted (os:Os) (started:os.Started) (H:Type) (enc:TypeId×Value→H) (F:Stop.Interp) :
  ReturnsInHanded {} Tryz.checked os 10 .any ((OpenSpec.ofChange Rows.chainDigestsSpec).preRow enc Tryz.prog Tryz.f10 Rows.chainDigestsRow.domain false Rows.chainDigestsRow.laid) (((OpenSpec.ofChange Rows.chainDigestsSpec).at F).post enc Tryz.prog Tryz.f10 false true false false):=by
 obtain⟨places,hx⟩:=reads os enc
 refine returnsInHanded_of_row (C:=Tryz.checked) (s:=(OpenSpec.ofChange Rows.chainDigestsSpec)) own started (by kernel_rfl) Tryz.func10
  (witness_row_at (enc:=enc) (C:=Tryz.checked) false (Cn.laidWorld os) #[.slice none 0 0,.agg (Array.replicate 32 (.int .u8 0)),.int .u8 0] rfl (by kernel_rfl) (by kernel_rfl) (by kernel_rfl)
   (OpenSpec.preRow_of_cond 8 hx (by kernel_rfl) (fun k hk=>by cases hk) (by kernel_rfl) (laid_met os))) ?_
 intro W base args ds gs before hval0 hW hcnd hk0 hsz0 hL _ _
 have hval:∀(j:Nat) t v,Tryz.f10.params[j]?=some t→args[j]?=some v→Value.okWide Tryz.prog W .any base t v:=hval0
 have hW':=hW
 obtain⟨p,q,hAz,hV,rfl,hfz,hnd⟩:=hW
 have hA:DataW.TrodAll enc Tryz.prog W 0 (fun _=>true) true Tryz.f10.params.toList args.toList ds p:=hAz
 have hsz:(DataW.weightsEach Tryz.prog (Tryz.f10.params.toList++Rows.chainDigestsSpec.plain.varTypes Tryz.prog) (ds++gs)).all (· ≤ reachBytes)=true:=hsz0
 rw[Tryz.params10] at hA hval hsz
 obtain⟨v0,vs0,d0,ds0,p0,q0,hargs,rfl,rfl,h0,r0⟩:=trodAll_cons hA
 obtain⟨v1,vs1,d1,ds1,p1,q1,rfl,rfl,rfl,h1,r1⟩:=trodAll_cons r0
 obtain⟨v2,vs2,d2,ds2,p2,q2,rfl,rfl,rfl,h2,r2⟩:=trodAll_cons r1
 obtain⟨rfl,rfl,rfl⟩:=trodAll_nil r2
 obtain rfl:args = #[v0,v1,v2]:=by cases args;simp_all
 obtain⟨rfl,rfl⟩:=trodVars_none hV
 have k0:=h0
 have lt0:∀x∈p0,x.block<W.heap.size:=by obtain⟨m,hm⟩:=k0;exact DataW.trod_lt m _ _ _ hm
 obtain⟨l0,hS0,hk0⟩:=ents_arg (hval 0 66 v0 rfl rfl) h0
 have hz0:l0.length*40≤140737488351232:=ents_reach hsz (j:=0) rfl rfl hk0
 have hE0:=ents_ok hsz (j:=0) rfl rfl hk0
 have k1:=h1
 have lt1:∀x∈p1,x.block<W.heap.size:=by obtain⟨m,hm⟩:=k1;exact DataW.trod_lt m _ _ _ hm
 obtain⟨S1,hS1,rfl⟩:=sum_arg Tryz.underlying23 Tryz.underlying5 (by kernel_rfl) (by kernel_rfl) (hval 1 23 v1 rfl rfl) h1
 obtain⟨a2,rfl,rfl,rfl,w2⟩:=open_int Tryz.underlying5 (hval 2 5 v2 rfl rfl) h2
 have hi2:0≤a2∧a2≤255:=by simpa [Lit.wf,IntKind.min,IntKind.max,IntKind.signed,IntKind.bits] using w2
 obtain⟨b,rfl⟩:∃b:Nat,a2=(b:Int):=⟨a2.toNat,by omega⟩
 have hb:b<256:=by omega
 clear hAz hval0
 refine (Rk.digests_any v0 l0 S1 hS1 b hb W (Cn.tabs8 hL).1 (Cn.tabs8 hL).2.1 (Cn.tabs8 hL).2.2 hS0 hE0).mono fun e W' ⟨he,bel⟩=>?_
 have bel:Below W.heap.size W W':=bel
 subst he
 exact⟨_,rfl,_,_,_,[],_,[],hW',trodAll_mk1 (shut_bool Tryz.underlying4 _),(trodAll_cons_mk (Below.trod laidOut (by kernel_rfl) (of_decide_eq_true (by kernel_rfl)) k0 bel lt0) (trodAll_cons_mk (Below.trod laidOut (by kernel_rfl) (of_decide_eq_true (by kernel_rfl)) k1 bel lt1) (trodAll_cons_mk (shut_int Tryz.underlying5 w2) trodAll_mk0))),rfl,bel.frame _,fun h=>by cases h⟩
theorem said:Rows.ChainDigestsSaid:=
 OpenClaim.holds_of_cond 10 Tryz.f10 rfl rfl rfl rfl rfl rfl rfl ⟨rfl,rfl,rfl,rfl,rfl⟩ rfl rfl rfl rfl rfl (by kernel_rfl) Tryz.func10 (by kernel_rfl)
  (of_decide_eq_true (by kernel_rfl)) (by unfold Func.isWrapper;first|(rw[if_pos (by decide +kernel)];kernel_rfl)|(rw[if_neg (by decide +kernel)];exact⟨rfl,rfl⟩))
  (fun os started H enc _ F=>by rw[OpenClaim.pre_eq_preRow];exact lifted os started H enc F)
theorem plain (f:FuncId) (fn:Func) (hf:Tryz.pinned.checked.prog.funcNamed "suffragan/suffraganlaw17.ChainDigests" = some f) (hfn:Tryz.pinned.checked.prog.funcs[f]?=some fn) :
  true=Tryz.pinned.checked.prog.looks []∧∀(j:Nat) t,fn.params[j]?=some t→Tryz.pinned.checked.prog.wantsStandIn t=false:=by
 obtain rfl:f=10:=Option.some.inj ((show Tryz.prog.funcNamed "suffragan/suffraganlaw17.ChainDigests" = some 10 by kernel_rfl).symm.trans hf) |>.symm
 obtain rfl:fn=Tryz.f10:=(Option.some.inj (Tryz.func10.symm.trans hfn)).symm
 refine⟨by kernel_rfl,fun j t ht=>?_⟩
 rw[Tryz.params10] at ht
 have hm:=Array.mem_of_getElem? ht
 simp only[Array.mem_def,List.mem_cons,List.mem_nil_iff,or_false] at hm
 rcases hm with rfl|rfl|rfl
 ·exact (show Tryz.prog.wantsStandIn 66=false by kernel_rfl)
 ·exact (show Tryz.prog.wantsStandIn 23=false by kernel_rfl)
 ·exact (show Tryz.prog.wantsStandIn 5=false by kernel_rfl)
theorem proved:Rows.ChainDigestsCardSaid:=
 Claim7.holds_tied_plain_at .later [] _ _ _ _ said (fun _ h=>by cases h) (by kernel_rfl) (fun _ h=>by cases h) chainDigests_row_tie rfl ⟨rfl,rfl⟩ (by kernel_rfl) rfl plain (by kernel_rfl)
#print axioms proved
end Go.Proofs.YtbpfabhlngfciaaGreatDoor.chainDigests
