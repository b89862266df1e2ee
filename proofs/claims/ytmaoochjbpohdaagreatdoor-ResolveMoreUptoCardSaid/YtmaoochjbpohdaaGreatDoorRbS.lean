/- parse: the reference's reader: an enum's symbols, walked. -/
import Derived.Test.YtmaoochjbpohdaaGreatDoorRbR
set_option linter.unusedVariables false
set_option linter.unusedSimpArgs false
set_option maxRecDepth 100000
set_option maxHeartbeats 1000000
open Go.ChangeShapes Go.WideShapes Go.ChangeAt Go.RowKit
namespace Go.Proofs.YtmaoochjbpohdaaGreatDoor
namespace Pr
open Base Lx Mi
section
variable {B R:Nat} {vl vn:Value} {vs:List V3} {L:List Tok} {q:QS}
theorem str_beq2 (a b:ByteArray):(a.toList == b.toList)=decide (a=b):=by
 by_cases h:a=b
 ·subst h;simp
 ·rw[str_ne h];simpa using h
theorem txs_one' (l:List ByteArray):∀u∈txs l,u.oneCell'=true:=by
 intro u hu
 obtain⟨x,_,rfl⟩:=List.mem_map.1 hu
 rfl
theorem any_take_succ {α:Type} (l:List α) (p:α→Bool) (i:Nat) (x:α) (h:l[i]?=some x):(l.take (i+1)).any p=((l.take i).any p || p x):=by
 rw[List.take_add_one,h,List.any_append]
 simp
set_option maxRecDepth 1000000 in
set_option maxHeartbeats 8000000 in
theorem defined9_any (hTk:TokOk L) (deep K:Nat) (hK:1≤K) (hK2:K≤200) (n:Nat) (w:World) (h:Rq B w R vl vn vs L q) (hn:n<q.ns.length) (hB:B≤w.heap.size) (hw0:q.why=0) (hW:WQ L q.at_ q) (hv0:∀v,vs[n]?=some v→v.1.ownBlock=none) :
  Calls Tryz.prog 92 #[.pointer (some ⟨R,0,none⟩),.int .i64 (n:Int),.int .i64 9,.int .i64 (deep:Int)] w fun e w'=>e=.returned (.tuple #[])∧PT B R vl vn vs L w (symsQ L n L.length (signQ L (defQ L n q) cLt)) w':=by
 have hdg:=defQ_g (k:=K) hK n hw0 (GQ.ofOk hW)
 have hnm:=nameQ_any w h
 have hnn':=nameQ_ns (L:=L) (q:=q)
 obtain⟨x,hx⟩:∃z,Hid ((tkQ L q).s=z):=⟨_,Lib.hid rfl⟩
 rw[hx.out] at hnm
 obtain⟨cv,hcv⟩:∃z,Hid (optI (calledN q.ns x)=z):=⟨_,Lib.hid rfl⟩
 have hdq:defQ L n q=onQ L ((badQ L (nameQ L q) (decide (0≤cv)) 6).setN n fun d=>{ d with name:=x }):=by unfold defQ;rw[←hcv.out,optI_some,hx.out]
 obtain⟨q1,hq1⟩:∃z,Hid (nameQ L q=z):=⟨_,Lib.hid rfl⟩
 rw[hq1.out] at hnm hdq hnn'
 obtain⟨q2,hq2⟩:∃z,Hid (badQ L q1 (decide (0≤cv)) 6=z):=⟨_,Lib.hid rfl⟩
 rw[hq2.out] at hdq
 have hn2:n<q2.ns.length:=by rw[←hq2.out,badQ_ns,hnn'];exact hn
 obtain⟨R0,hR0⟩:∃z,Hid (symsQ L n L.length (signQ L (defQ L n q) cLt)=z):=⟨_,Lib.hid rfl⟩
 rw[hR0.out]
 obtain⟨PO,hPO⟩:∃PO:Ending→World→Prop,Hid ((fun e w'=>e=.returned (.tuple #[])∧PT B R vl vn vs L w R0 w')=PO):=⟨_,rfl⟩
 have hfin:∀w',PT B R vl vn vs L w R0 w'→PO (.returned (.tuple #[])) w':=fun w' hp=>by rw[←hPO.out];exact⟨rfl,hp⟩
 rw[hPO.out]
 have htl:=h.tl
 obtain⟨M0,hM0⟩:∃z,Hid (L.length=z):=⟨_,Lib.hid rfl⟩
 rw[hM0.out] at hR0
 go_enter Tryz.func92,Tryz.ntmps92
 go_wp2_with fail
 refine hnm.mono ?_
 rintro e w1 ⟨rfl,hc1,h1⟩
 have hcl:=called_any x w1 h1
 rw[hnn',hcv.out] at hcl
 have hbd:=bad_any (decide (0≤cv)) 6 w1 h1
 rw[hq2.out,show ((6:Nat):Int)=6 from rfl] at hbd
 clear hnm
 go_wp2_with fail
 refine hcl.mono ?_
 rintro e w2 ⟨rfl,hw2⟩
 have hw2:=hw2.symm
 subst hw2
 go_wp2_with fail
 refine hbd.mono ?_
 rintro e w3 ⟨rfl,hc3,h3⟩
 obtain⟨b,c,cur,eb,hbB,hgb,hk1,hk2,hk3⟩:=h3.rowc hn2
 have h3':=h3
 rw[eb] at h3'
 obtain⟨nn,hnn⟩:∃z,Hid (q2.ns.length=z):=⟨_,Lib.hid rfl⟩
 have hfl:=h3'.fillN hn2 (i:=1) (by omega) (fun d=>{ d with name:=x }) (.string x) (fun d v=>rfl) (fun d=>⟨rfl,rfl,rfl⟩)
 rw[hnn.out] at hfl eb
 have y2:w3.cell? ⟨R,2,none⟩=some (.slice (some ⟨b,0,none⟩) nn c):=by rw[←eb];exact h3.blk.cell 2
 replace eb:=Lib.hid eb
 obtain⟨u1,hu1⟩:∃u,w3.cell? ⟨b,n*6+1,none⟩=some u:=⟨_,(hgb.cell _).trans (Array.getElem?_eq_getElem (by omega))⟩
 have fz1:=hgb.frozen (n*6+1)
 have hnI:(n:Int)<(nn:Int):=by have:=hnn.out;omega
 have hc13:Chg (fun k=>k=R) w w3:=hc1.trans hc3 (fun _ _ e=>e)
 have hchb:Chg (Wq R vn) w (w3.setCell ⟨b,n*6+1,none⟩ (.string x)):=(hc13.mono (fun k _ e=>.inl e)).set (p:=⟨b,n*6+1,none⟩) (.inl (.inr (by rw[eb.out];rfl))) _
 have hon:=on_any _ hfl
 rw[←hdq] at hon
 clear hcl hbd hfl h3' h3 hgb
 go_wp2_with fail
 refine hon.mono ?_
 rintro e w4 ⟨rfl,hc4,h4⟩
 have hch4:Chg (Wq R vn) w w4:=hchb.trans hc4 (fun k _ e=>.inl e)
 obtain⟨q4,hq4⟩:∃z,Hid (defQ L n q=z):=⟨_,Lib.hid rfl⟩
 have hdn:(defQ L n q).ns.length=q2.ns.length:=by rw[hdq,onQ_ns,setN_lenQ]
 rw[hq4.out] at h4 hR0 hdn hdg
 have hn4:n<q4.ns.length:=by rw[hdn];exact hn2
 have hsg:=sign_any cLt w4 h4
 have hGs:=hdg.1.sign hTk hK cLt
 have hsn:=signQ_ns (L:=L) (q:=q4) cLt
 rw[show cLt=(⟨#[60]⟩:ByteArray) from rfl] at hsg
 obtain⟨q6,hq6⟩:∃z,Hid (signQ L q4 cLt=z):=⟨_,Lib.hid rfl⟩
 rw[show (⟨#[60]⟩:ByteArray)=cLt from rfl,hq6.out] at hsg
 rw[show cLt=(⟨#[60]⟩:ByteArray) from rfl] at hsg
 rw[hq6.out] at hR0 hGs hsn
 have hn6:n<q6.ns.length:=by rw[hsn];exact hn4
 clear y2 hu1 fz1 hon hdq hW hdg
 go_wp2_with fail
 refine hsg.mono ?_
 rintro e w5 ⟨rfl,hc5,h5⟩
 have hch5:Chg (Wq R vn) w w5:=hch4.trans hc5 (fun k _ e=>.inl e)
 rw[←eb.out] at h5
 have hm6:q6.why=0→L.length-q6.at_≤M0:=fun _=>by have:=hM0.out;omega
 clear hsg eb hch4 hchb hc13 hnI hnn hq4 hq6 hcv hx hq1 hq2 hnn' hc1 hc3 hc4 hc5 hk1 hk2 hk3 hbB
 go_wp2_with fail
 go_loopw [11,12] (fun v11 v12 wr=>∃(m:Nat) (q1:QS) (vs1:List V3),Rq B wr R vl vn vs1 L q1∧Chg (Wq R vn) w wr∧SF w vs vs1∧Hid (symsQ L n m q1=R0)∧GQ L K q1∧n<q1.ns.length∧(q1.why=0→L.length-q1.at_≤m)) (fun _ _ wr=>qMeas R wr)
 case atStart=>exact⟨M0,q6,vs,h5,hch5,SF.refl w vs,hR0,hGs,hn6,hm6⟩
 case round=>
  obtain⟨m,q1,vs1,h1,hc1,hg1,hR1,hG1,hn1,hm1⟩:=hrel
  have hy:=h1.why_cell
  have hms:=h1.meas
  have hsz1:=hc1.size
  by_cases hw1:q1.why=0
  ·obtain⟨wo,hwo⟩:∃z,z=wr:=⟨_,rfl⟩
   subst hwo
   obtain⟨m,rfl⟩:∃k,m=k+1:=⟨m-1,by have:=hm1 hw1;have:=h1.lt;omega⟩
   have hW1:=hG1.ok hw1
   obtain⟨d,v,b,c,hd,hv,e1,hc1',hc2',hcell⟩:=h1.node n hn1
   have hdd:=nd_at hd
   have hlen:=(hW1.len d (List.mem_of_getElem? hd)).1
   have hs:=h1.nds.sub n d v hd hv
   obtain⟨A3,c3,e3,hl1,hl2,hrd3,_⟩:=Rd.of_own hs.syms
   have hgb:∃cur,Blk wo b cur 36:=by
    obtain⟨b9,c9,cur,e9,_,hg9,_⟩:=h1.rowb n hn1
    rw[e1] at e9
    injection e9 with e9 _ _
    injection e9 with e9
    injection e9 with e9 _ _
    subst e9
    exact⟨cur,hg9⟩
   obtain⟨cur,hgb⟩:=hgb
   obtain⟨nn,hnn⟩:∃z,Hid (q1.ns.length=z):=⟨_,Lib.hid rfl⟩
   rw[hnn.out] at e1
   have hnI:(n:Int)<(nn:Int):=by have:=hnn.out;omega
   obtain⟨ls,hls⟩:∃z,Hid (d.syms.length=z):=⟨_,Lib.hid rfl⟩
   have hls2':=hls.out
   have hls2:ls≤100000:=by have:=hls.out;have:=h1.lt;omega
   have hbR:¬b=R:=fun e=>h1.sep (by rw[e1,←e];rfl)
   have hSyR:∀a,A3=some a→¬a.block=R:=fun a ha e=>h1.ne hs.syms (by decide) R (by rw[e3,ha];show some a.block=_;rw[e]) rfl
   have z2:wo.cell? ⟨R,2,none⟩=some (.slice (some ⟨b,0,none⟩) nn c):=by rw[←e1];exact h1.blk.cell 2
   have z3:wo.cell? ⟨b,n*6+3,none⟩=some (.slice A3 ls c3):=by have:=hcell wo (Ext.refl _) 3 (by omega);rw[←hls.out,←e3];simpa [ndC] using this
   have hnm:=nameQ_any wo h1
   have hR1':=hR1.out
   rw[symsQ,if_neg (by rw[hw1];simp)] at hR1'
   have hgs:=symQ_g hTk hK n hw1 hG1
   have hsy:symQ L n q1=onQ L ((badQ L (nameQ L q1) (d.syms.any fun y=>decide (y=(tkQ L q1).s)) 6).setN n fun d=>{ d with syms:=d.syms++[(tkQ L q1).s] }):=by unfold symQ;rw[hdd]
   obtain⟨x1,hx1⟩:∃z,Hid ((tkQ L q1).s=z):=⟨_,Lib.hid rfl⟩
   rw[hx1.out] at hnm hsy
   have hqn:=nameQ_ns (L:=L) (q:=q1)
   obtain⟨q2',hq2'⟩:∃z,Hid (nameQ L q1=z):=⟨_,Lib.hid rfl⟩
   rw[hq2'.out] at hnm hsy hqn
   have hyb:((q1.why:Int) == 0)=true:=by rw[hw1];rfl
   replace e1:=Lib.hid e1
   replace e3:=Lib.hid e3
   clear hcell hR1 hls
   replace hls2':=Lib.hid hls2'
   go_wp2_with fail
   refine hnm.mono ?_
   rintro e w2 ⟨rfl,hc2,h2⟩
   clear hnm
   go_wp2_with fail
   go_loopw [12] (fun v12 wi=>∃i:Nat,v12=.int .i64 i∧i≤ls∧Rq B wi R vl vn vs1 L (badQ L q2' ((d.syms.take i).any fun y=>decide (y=x1)) 6)∧Chg (fun k=>k=R) wo wi) (fun v12 _=>ls-(intOf v12).toNat)
   case atStart=>exact⟨0,rfl,by omega,by rw[List.take_zero,List.any_nil,badQ_false];exact h2,hc2⟩
   case round=>
    obtain⟨i,rfl,hi,h3,hc3⟩:=hrel
    have y2:wr.cell? ⟨R,2,none⟩=some (.slice (some ⟨b,0,none⟩) nn c):=by rw[←e1.out];exact h3.blk.cell 2
    have y3:wr.cell? ⟨b,n*6+3,none⟩=some (.slice A3 ls c3):=hc3.cell z3 hbR
    by_cases hil:i<ls
    ·have hil':(i:Int)<(ls:Int):=by omega
     obtain⟨y,hyi⟩:∃y,d.syms[i]?=some y:=⟨_,List.getElem?_eq_getElem (by rw[hls2'.out];exact hil)⟩
     have hyz:(txs d.syms)[i]?=some (.string y):=by unfold txs;rw[List.getElem?_map,hyi];rfl
     have hne:txs d.syms≠[]:=by intro e;rw[e] at hyz;simp at hyz
     obtain⟨ba,oa,rfl,hca⟩:=hrd3 hne
     have y4:wr.cell? ⟨ba,oa+i,none⟩=some (.string y):=hc3.cell (hca i _ hyz) (hSyR ⟨ba,oa,none⟩ rfl)
     have hbq:=str_beq2 y x1
     have hbd:=bad_any (decide (y=x1)) 6 wr h3
     have hts:=any_take_succ d.syms (fun y=>decide (y=x1)) i y hyi
     rw[badQ_or _ _ (by decide),show ((6:Nat):Int)=6 from rfl] at hbd
     rw[←hts] at hbd
     clear hyi hyz hne hca hts
     go_wp2_with fail
     refine hbd.mono ?_
     rintro e w4 ⟨rfl,hc4,h4⟩
     go_wp2_with fail
     go_roundw
     case rel=>exact⟨i+1,by go_num,by omega,h4,hc3.trans hc4 (fun _ _ e=>e)⟩
     case measure=>simp[intOf];omega
    ·obtain rfl:i=ls:=by omega
     have hnot:¬(i:Int)<(i:Int):=by omega
     rw[List.take_of_length_le (by rw[hls2'.out];exact Nat.le_refl _)] at h3
     obtain⟨qb,hqb⟩:∃z,Hid (badQ L q2' (d.syms.any fun y=>decide (y=x1)) 6=z):=⟨_,rfl⟩
     rw[hqb.out] at h3 hsy
     have hqbn:qb.ns=q1.ns:=by rw[←hqb.out,badQ_ns,hqn]
     have hnb:n<qb.ns.length:=by rw[hqbn];exact hn1
     have hc03:Chg (Wq R vn) w wr:=hc1.trans hc3 (fun k _ e=>.inl e)
     have hszT:=hc03.size
     have hdb:qb.ns[n]?=some d:=by rw[hqbn];exact hd
     have hs2:=h3.nds.sub n d v hdb hv
     have hgb2:Blk wr b cur 36:=hc3.blk hgb hbR
     have hv2i:Hid (v.1=.slice A3 i c3):=Lib.hid (by rw[e3.out,hls2'.out])
     obtain⟨S,hSd⟩:∃S:Nat→Prop,Hid (S=fun k=>v.1.ownBlock=some k):=⟨_,Lib.hid rfl⟩
     have hSi:∀k,S k→v.1.ownBlock=some k:=fun k hk=>by rw[hSd.out] at hk;exact hk
     have hSr:∀k,v.1.ownBlock=some k→S k:=fun k hk=>by rw[hSd.out];exact hk
     have hS2R:¬S R:=fun e=>h3.ne hs2.syms (by decide) R (hSi R e) rfl
     have hS2b:¬S b:=fun e=>own_not hs2.syms h3.nds.row (by decide) b (by rw[e1.out];rfl) (hSi b e)
     have hS2w:∀k,S k→w.heap.size≤k:=fun k hk=>by
      rcases (hg1 n v hv).1 k (hSi k hk) with e|⟨v9,e4,e5⟩
      ·exact e
      ·rw[hv0 v9 e4] at e5;cases e5
     clear hrd3 hSyR hGs hm6
     go_wp2_with fail
     refine Reg.startX (R:=Chg S) (by kernel_rfl) ?_
     have hRl:=Reg.rl_chg S
     generalize hwq:World.drew _=wq
     have hxq:Ext wr wq:=by rw[←hwq];exact (Ext.refl wr).drew
     clear hwq
     have hq:=h3.ext hxq
     have hsq:=hs2.ext hxq
     have hszq:=hxq.size
     have r2:∀W,Chg S wq W→W.cell? ⟨R,2,none⟩=some (.slice (some ⟨b,0,none⟩) nn c):=fun W hW=>hW.cell (hxq.cell y2) hS2R
     have r4:∀W,Chg S wq W→W.cell? ⟨b,n*6+3,none⟩=some (.slice A3 i c3):=fun W hW=>hW.cell (hxq.cell y3) hS2b
     clear y2 y3
     iterate 3 ((first|refine Reg.un hRl ?_|refine Reg.vn hRl ?_);(try simp only[Reg.nn]))
     refine Reg.tx hRl 3 ?_;(try simp only[Reg.nn])
     iterate 4 ((first|refine Reg.un hRl ?_|refine Reg.vn hRl ?_);(try simp only[Reg.nn]))
     refine Reg.tx hRl 8 ?_;(try simp only[Reg.nn])
     iterate 3 ((first|refine Reg.un hRl ?_|refine Reg.vn hRl ?_);(try simp only[Reg.nn]))
     refine Reg.tx hRl 12 ?_;(try simp only[Reg.nn])
     refine Reg.tx hRl 13 ?_;(try simp only[Reg.nn])
     refine Reg.onlyX 14 _ rfl (by kernel_rfl) (by decide) (by rfl) (fun K hK=>?_);go_simp
     have ha:Ext wq (wq.alloc (.cells #[.string x1] 9)):=(Ext.refl wq).alloc _
     refine hK.out _ _ (Chg.ofExt ha) ?_;clear hK K;(try simp only[Reg.nn])
     refine Reg.onlyX 15 _ rfl (by kernel_rfl) (by decide) (by rfl) (fun K hK=>?_)
     refine wp_app el_str _ (.tmp 115) (.tmp 117) rfl B (.slice A3 i c3) i (txs d.syms) rfl (by rw[←hv2i.out,←hls2'.out];exact own_ext hsq.syms ha) (some ⟨wq.heap.size,0,none⟩) 1 1 (txs [x1]) rfl (Rd.of_block wq 9 (0,0) rfl) rfl (fun h=>by cases h) (txs_one' [x1]) (by omega) (by omega) (by simp;omega) ?_
     intro V2 w4 ho3 hg3 hv3
     obtain⟨A6,c6,rfl,jj1,jj2,jj3,jj4⟩:=Rd.of_own ho3
     clear jj1 jj2 jj3 jj4
     have hch3:Chg S (wq.alloc (.cells #[.string x1] 9)) w4:=(Chg.ofGrown hg3).mono fun k _ e=>hSr k (by rw[hv2i.out];exact e)
     have hch:Chg S wq w4:=(Chg.ofExt ha).trans hch3 (fun _ _ e=>e)
     refine hK.out _ _ hch3 ?_
     clear hK K
     (try simp only[Reg.nn])
     have c34:=r4 w4 hch
     have f34:=(hch.blk (hgb2.ext hxq) hS2b).frozen (n*6+3)
     iterate 2 ((first|refine Reg.un hRl ?_|refine Reg.vn hRl ?_);(try simp only[Reg.nn]))
     refine Reg.lastX 18 _ rfl (by kernel_rfl) (by kernel_rfl) (by kernel_rfl) (by decide) (by rfl) (fun K hK=>?_)
     go_simp
     refine hK.out _ _ ?_;clear hK K;(try simp only[Reg.nn])
     obtain⟨G,hG⟩:∃G:V3→V3,G=fun v=>(.slice A6 (i+1) c6,v.2.1,v.2.2):=⟨_,rfl⟩
     have hV6:∀k,(Value.slice A6 (i+1) c6).ownBlock=some k→wr.heap.size≤k∨v.1.ownBlock=some k:=fun k hk=>by
      rcases hv3 with e|e
      ·rw[e,←hv2i.out] at hk;exact .inr hk
      ·rw[e] at hk;injection hk with hk;left;simp at hk;omega
     have hGn:∀u,vs1[n]?=some u→u=v:=fun u hu=>by rw[hv] at hu;injection hu with hu;exact hu.symm
     have hap:Ap (vs1.modify n G):=ap_new (w:=wr) h3.ap h3.subLt (fun u hu=>by
      obtain rfl:=hGn u hu
      subst hG
      exact⟨fun k hk=>hV6 k hk,fun k hk=>.inr hk,fun k hk=>.inr hk⟩)
     have hqv:=hq
     rw[e1.out,←hnn.out,←hqbn] at hqv
     have hRf:=hqv.refill (S:=S) (n:=n) (i:=3) hch (fun k hk=>(hs2.syms.lt k (hSi k hk)).1) hS2R hS2b
      (fun j d' v' hj q3 q4=>by
       have hsj:=h3.nds.sub j d' v' q3 q4
       exact⟨fun k hk e=>(h3.ap j n v' v q4 hv hj).1 k hk (hSi k e),fun k hk e=>own_not hs2.syms hsj.items (by decide) k hk (hSi k e),fun k hk e=>own_not hs2.syms hsj.fields (by decide) k hk (hSi k e)⟩)
      hnb (by omega) (fun d=>{ d with syms:=d.syms++[x1] }) G (.slice A6 (i+1) c6) (fun d' v' q3 q4=>by
       obtain rfl:=hGn v' q4
       rw[hdb] at q3;injection q3 with q3;subst q3
       subst hG
       refine⟨rfl,?_,own_chg hsq.items hch (fun k hk e=>own_not hsq.syms hsq.items (by decide) k hk (hSi k e)),own_chg hsq.fields hch (fun k hk e=>own_not hsq.syms hsq.fields (by decide) k hk (hSi k e))⟩
       show w4.ownsRow B 9 1 (.slice A6 (i+1) c6) (d.syms++[x1]).length (txs (d.syms++[x1]))
       rw[List.length_append,hls2'.out,show txs (d.syms++[x1])=txs d.syms++txs [x1] by simp[txs]]
       exact ho3) hap
     rw[hqbn,hnn.out,←e1.out] at hRf
     have hchF:Chg (Wq R vn) w (w4.setCell ⟨b,n*6+3,none⟩ (.slice A6 (i+1) c6)):=
      (((hc03.trans (Chg.ofExt hxq) (fun _ _ e=>e)).trans hch (fun k hk e=>by have:=hS2w k e;omega)).set (p:=⟨b,n*6+3,none⟩) (.inl (.inr (by rw[e1.out];rfl))) _)
     have hgF:SF w vs (vs1.modify n G):=hg1.trans (sf_modify w vs1 n G (fun u hu=>by
      obtain rfl:=hGn u hu
      subst hG
      exact⟨fun k hk=>(hV6 k hk).imp (fun e=>by omega) (fun e=>e),fun k hk=>.inr hk,fun k hk=>.inr hk⟩)) (Nat.le_refl _)
     obtain⟨wf,hwf⟩:∃z,Hid (w4.setCell ⟨b,n*6+3,none⟩ (.slice A6 (i+1) c6)=z):=⟨_,rfl⟩
     rw[hwf.out] at hRf hchF ⊢
     have hon:=on_any wf hRf
     rw[←hsy] at hon
     obtain⟨q3,hq3⟩:∃z,Hid (symQ L n q1=z):=⟨_,Lib.hid rfl⟩
     rw[hq3.out] at hon hgs hR1'
     clear hap r2 r4 hq hsq hs2 hV6 hGn hRf hqv hsy
     go_wp2_with fail
     refine hon.mono ?_
     rintro e w5 ⟨rfl,hc5,h5⟩
     have hch5:Chg (Wq R vn) w w5:=hchF.trans hc5 (fun k _ e=>.inl e)
     have hhere:=here_any cGt w5 h5
     rw[show cGt=(⟨#[62]⟩:ByteArray) from rfl] at hhere hR1'
     clear hon
     go_wp2_with fail
     refine hhere.mono ?_
     rintro e w6 ⟨rfl,hx6⟩
     have h6:=h5.ext hx6
     have hch6:Chg (Wq R vn) w w6:=hch5.trans (Chg.ofExt hx6) (fun _ _ e=>e)
     rw[show (⟨#[62]⟩:ByteArray)=cGt from rfl] at hR1' ⊢
     have hn3:n<q3.ns.length:=by rw[hgs.2.2];exact hn1
     have hW3:WQ L (q3.at_+if q3.why=0 then 1 else K) q3:=by
      split
      ·next hz=>exact (hgs.1.ok hz).le (by omega)
      ·next hz=>exact hgs.1.no hz
     cases hb:hereQ L q3 cGt with
     | true=>
      rw[hb,if_pos rfl] at hR1'
      have hon:=on_any w6 h6
      rw[hR1'] at hon
      clear hhere
      go_wp2_with fail
      refine hon.mono ?_
      rintro e w7 ⟨rfl,hc7,h7⟩
      go_wp2_with fail
      refine bodyPost_ret (results_none rfl _ _ _) rfl ?_
      exact hfin _ ⟨hch6.trans hc7 (fun k _ e=>.inl e),_,_,h7,.inl rfl,hgF⟩
     | false=>
      rw[hb,if_neg (by simp)] at hR1'
      have hsg:=sign_any cCom w6 h6
      have hGs:=gq_sign hTk hK hW3 cCom
      have hsn:=signQ_ns (L:=L) (q:=q3) cCom
      have hsa:=fun e=>signQ_ok (L:=L) (q:=q3) (x:=cCom) e
      have h6lt:=h6.lt
      have hat3:=hgs.2.1
      rw[show cCom=(⟨#[44]⟩:ByteArray) from rfl] at hsg
      obtain⟨q4,hq4⟩:∃z,Hid (signQ L q3 cCom=z):=⟨_,rfl⟩
      rw[show (⟨#[44]⟩:ByteArray)=cCom from rfl,hq4.out] at hsg
      rw[show cCom=(⟨#[44]⟩:ByteArray) from rfl] at hsg
      rw[hq4.out] at hR1' hGs hsn hsa
      have hR4:=Lib.hid hR1'
      clear hhere hR1'
      go_wp2_with fail
      refine hsg.mono ?_
      rintro e w7 ⟨rfl,hc7,h7⟩
      have hms7:=h7.meas
      have hadv:q4.why=0→q1.at_<q4.at_:=fun e=>by
       obtain⟨a1,a2,a3⟩:=hsa e
       rw[a3,onQ_adv hTk h6lt (by rw[(here_k a2).1];decide) a1]
       show q1.at_<q3.at_+1
       omega
      go_wp2_with fail
      go_roundw
      case rel=>exact⟨m,q4,_,h7,hch6.trans hc7 (fun k _ e=>.inl e),hgF,hR4,hGs,by rw[hsn];omega,fun e=>by have:=hadv e;have:=hm1 hw1;omega⟩
      case measure=>
       rw[hms7,hms,if_pos hw1]
       have:=h1.lt
       split
       ·next e=>have:=hadv e;omega
       ·omega
  ·have hneb:((q1.why:Int) == 0)=false:=by simpa using (by omega:¬(q1.why:Int)=0)
   have hall:symsQ L n m q1=q1:=by
    cases m with
    | zero=>rfl
    | succ m=>rw[symsQ,if_pos hw1]
   have hne:¬(q1.why:Int)=0:=by omega
   have hRq:q1=R0:=by rw[←hall];exact hR1.out
   subst hRq
   have hpt:PT B R vl vn vs L w q1 wr:=⟨hc1,vn,vs1,h1,.inl rfl,hg1⟩
   obtain⟨y,hyy⟩:∃z,Hid (q1.why=z):=⟨_,Lib.hid rfl⟩
   rw[hyy.out] at hy hneb hne
   clear hR1 hR0 hall hms hm1 hG1 h1 hw1 hn1
   go_wp2_with fail
   go_end0
   exact hfin _ hpt
end
theorem flds_one' (l:List (ByteArray×Bool×Nat)):∀u∈flds l,u.oneCell'=true:=by
 intro u hu
 obtain⟨f,_,hf⟩:=List.mem_flatMap.1 hu
 simp only[fldC,List.mem_cons,List.not_mem_nil,or_false] at hf
 rcases hf with rfl|rfl|rfl<;>rfl
section
variable {B R:Nat} {vl vn:Value} {vs:List V3} {L:List Tok} {q:QS}
theorem Rq.aside {w w2:World} {g:Nat} {cs:Array Value} (h:Rq B w R vl vn vs L q) (hch:Chg (fun k=>k=g) w w2) (hgB:B≤g) (hgR:¬g=R) (hb:Blk w g cs 38) (hgf:∀(i:Nat) v,vs[i]?=some v→¬v.2.2.ownBlock=some g):Rq B w2 R vl vn vs L q:=
 h.renode (ns':=q.ns) (vs':=vs) (vn':=vn) hch (fun k e=>by have e:k=g:=e;omega) (hch.blk h.blk (fun e=>hgR (by have e:R=g:=e;exact e.symm))) (own_chg h.nds.row hch (fun k hk e=>own_ne_blk h.nds.row hb (by decide) (by have e:k=g:=e;rw[←e];exact hk.symm))) h.nds.len
  (fun i d v q1 q2=>by
   have hs:=h.nds.sub i d v q1 q2
   exact hs.chg hch (fun k hk e=>own_ne_blk hs.syms hb (by decide) (by have e:k=g:=e;rw[←e];exact hk.symm)) (fun k hk e=>own_ne_blk hs.items hb (by decide) (by have e:k=g:=e;rw[←e];exact hk.symm)) (fun k hk e=>hgf i v q2 (by have e:k=g:=e;rw[←e];exact hk))) h.nl h.ap
theorem gq_fld {k:Nat} {q2:QS} (hT:TokOk L) (h1:GQ L k q2) (n:Nat) (y:ByteArray×Bool×Nat):GQ L (k+1) ((signQ L q2 cSem).setN n fun d=>{ d with fields:=d.fields++[y] }):=by
 show WQ L ((signQ L q2 cSem).at_+slk (signQ L q2 cSem) (k+1)) _
 by_cases hw2:(signQ L q2 cSem).why=0
 ·obtain⟨e1,e2,e3⟩:=signQ_ok hw2
  have hb:=h1.ok e1
  have hs2:=hb.sign cSem
  unfold slk
  rw[if_pos hw2]
  refine hs2.set (by have:=signQ_at (L:=L) (q:=q2) cSem;omega) n _ (fun d hd=>?_) (fun d hd=>hd)
  have:(signQ L q2 cSem).at_=q2.at_+1:=by rw[e3,onQ_adv hT hb.lt (by rw[(here_k e2).1];decide) e1]
  exact⟨by simp only;omega,by simp only;omega,by simp only[List.length_append,List.length_cons,List.length_nil];omega⟩
 ·have hb:WQ L (q2.at_+k) q2:=h1.any
  unfold slk
  rw[if_neg hw2]
  refine (hb.sign cSem).set (by have:=signQ_at (L:=L) (q:=q2) cSem;omega) n _ (fun d hd=>?_) (fun d hd=>hd)
  have:=signQ_at (L:=L) (q:=q2) cSem
  exact⟨by simp only;omega,by simp only;omega,by simp only[List.length_append,List.length_cons,List.length_nil];omega⟩
set_option maxRecDepth 1000000 in
set_option maxHeartbeats 8000000 in
theorem fields_any' {deep fuel:Nat} (hTk:TokOk L) (H:TypQ B R L (deep+1) fuel) (hd20:deep≤100) (hfu:fuel≤100) (n:Nat) (w:World) (h:Rq B w R vl vn vs L q) (hG0:GQ L (fuel+1+1) q) (hn:n<q.ns.length) (hB:B≤w.heap.size) (hv0:∀v,vs[n]?=some v→v.2.2.ownBlock=none) :
  Calls Tryz.prog 111 #[.pointer (some ⟨R,0,none⟩),.int .i64 (n:Int),.int .i64 (deep:Int)] w fun e w'=>e=.returned (.tuple #[])∧PT B R vl vn vs L w (fieldsQ L (typedQ L fuel) n L.length (signQ L q cCuO)) w':=by
 have hG:=typedQ_g hTk fuel
 obtain⟨R0,hR0⟩:∃z,Hid (fieldsQ L (typedQ L fuel) n L.length (signQ L q cCuO)=z):=⟨_,Lib.hid rfl⟩
 rw[hR0.out]
 obtain⟨PO,hPO⟩:∃PO:Ending→World→Prop,Hid ((fun e w'=>e=.returned (.tuple #[])∧PT B R vl vn vs L w R0 w')=PO):=⟨_,rfl⟩
 have hfin:∀w',PT B R vl vn vs L w R0 w'→PO (.returned (.tuple #[])) w':=fun w' hp=>by rw[←hPO.out];exact⟨rfl,hp⟩
 rw[hPO.out]
 have hdw:IntKind.i64.wrap ((deep:Int)+1)=(deep:Int)+1:=by rw[IntKind.wrap_i64];omega
 have htl:=h.tl
 obtain⟨M0,hM0⟩:∃z,Hid (L.length=z):=⟨_,Lib.hid rfl⟩
 rw[hM0.out] at hR0
 have hsg:=sign_any cCuO w h
 have hGs:=hG0.sign hTk (by omega) cCuO
 have hsn:=signQ_ns (L:=L) (q:=q) cCuO
 rw[show cCuO=(⟨#[123]⟩:ByteArray) from rfl] at hsg
 obtain⟨q6,hq6⟩:∃z,Hid (signQ L q cCuO=z):=⟨_,Lib.hid rfl⟩
 rw[show (⟨#[123]⟩:ByteArray)=cCuO from rfl,hq6.out] at hsg
 rw[show cCuO=(⟨#[123]⟩:ByteArray) from rfl] at hsg
 rw[hq6.out] at hR0 hGs hsn
 have hn6:n<q6.ns.length:=by rw[hsn];exact hn
 have hm6:q6.why=0→L.length-q6.at_≤M0:=fun _=>by have:=hM0.out;omega
 go_enter Tryz.func111,Tryz.ntmps111
 go_wp2_with fail
 refine hsg.mono ?_
 rintro e w5 ⟨rfl,hc5,h5⟩
 have hch5:Chg (Wq R vn) w w5:=hc5.mono fun k _ e=>.inl e
 clear hsg
 go_wp2_with fail
 go_loopw [6,7] (fun v6 v7 wr=>∃(m:Nat) (q1:QS) (vn1:Value) (vs1:List V3),Rq B wr R vl vn1 vs1 L q1∧Chg (Wq R vn) w wr∧Fresh w vn vn1∧SF w vs vs1∧Hid (fieldsQ L (typedQ L fuel) n m q1=R0)∧GQ L (fuel+1+1) q1∧n<q1.ns.length∧(q1.why=0→L.length-q1.at_≤m)) (fun _ _ wr=>qMeas R wr)
 case atStart=>exact⟨M0,q6,vn,vs,h5,hch5,.inl rfl,SF.refl w vs,hR0,hGs,hn6,hm6⟩
 case round=>
  obtain⟨m,q1,vn1,vs1,h1,hc1,hf1,hg1,hR1,hG1,hn1,hm1⟩:=hrel
  obtain⟨wo,hwo⟩:∃z,z=wr:=⟨_,rfl⟩
  subst hwo
  have hy:=h1.why_cell
  have hms:=h1.meas
  have hsz1:=hc1.size
  have hhere:=here_any cCuC wo h1
  rw[show cCuC=(⟨#[125]⟩:ByteArray) from rfl] at hhere
  by_cases hw1:q1.why=0
  ·have hyb:((q1.why:Int) == 0)=true:=by rw[hw1];rfl
   have hy0:((q1.why:Nat):Int)=0:=by rw[hw1];rfl
   obtain⟨m,rfl⟩:∃k,m=k+1:=⟨m-1,by have:=hm1 hw1;have:=h1.lt;omega⟩
   have hR1':=hR1.out
   rw[fieldsQ] at hR1'
   cases hb:hereQ L q1 cCuC with
   | true=>
    rw[if_pos (.inr hb)] at hR1'
    rw[show (⟨#[125]⟩:ByteArray)=cCuC from rfl,hb,show cCuC=(⟨#[125]⟩:ByteArray) from rfl] at hhere
    clear hR1
    go_wp2_with fail
    refine hhere.mono ?_
    rintro e w2 ⟨rfl,hx2⟩
    have hsg:=sign_any cCuC w2 (h1.ext hx2)
    rw[hR1',show cCuC=(⟨#[125]⟩:ByteArray) from rfl] at hsg
    go_wp2_with fail
    refine hsg.mono ?_
    rintro e w3 ⟨rfl,hc3,h3⟩
    go_wp2_with fail
    go_end0
    exact hfin _ ⟨(hc1.trans (Chg.ofExt hx2) (fun _ _ e=>e)).trans hc3 (fun k _ e=>.inl e),_,_,h3,hf1,hg1⟩
   | false=>
    rw[if_neg (by rw[hw1,hb];simp)] at hR1'
    rw[show (⟨#[125]⟩:ByteArray)=cCuC from rfl,hb,show cCuC=(⟨#[125]⟩:ByteArray) from rfl] at hhere
    have hW1:=hG1.ok hw1
    obtain⟨d,v,b,c,hd,hv,e1,hc1',hc2',hcell⟩:=h1.node n hn1
    have hdd:=nd_at hd
    have hlen:=(hW1.len d (List.mem_of_getElem? hd)).2.2
    have hs:=h1.nds.sub n d v hd hv
    obtain⟨A3,c3,e3,hl1,hl2,hrd3,_⟩:=Rd.of_own hs.fields
    obtain⟨nn,hnn⟩:∃z,Hid (q1.ns.length=z):=⟨_,Lib.hid rfl⟩
    rw[hnn.out] at e1
    have hnI:(n:Int)<(nn:Int):=by have:=hnn.out;omega
    obtain⟨ls,hls⟩:∃z,Hid (d.fields.length=z):=⟨_,Lib.hid rfl⟩
    have hls2:ls≤100000:=by have:=hls.out;have:=h1.lt;omega
    have hbR:¬b=R:=fun e=>h1.sep (by rw[e1,←e];rfl)
    have hFR:∀a,A3=some a→¬a.block=R:=fun a ha e=>h1.ne hs.fields (by decide) R (by rw[e3,ha];show some a.block=_;rw[e]) rfl
    have z2:wo.cell? ⟨R,2,none⟩=some (.slice (some ⟨b,0,none⟩) nn c):=by rw[←e1];exact h1.blk.cell 2
    have z3:wo.cell? ⟨b,n*6+5,none⟩=some (.slice A3 ls c3):=by have:=hcell wo (Ext.refl _) 5 (by omega);rw[←hls.out,←e3];simpa [ndC] using this
    have hwfa:=fldA_g n hW1
    have hwfq:=fldQ_g n hW1
    have hfqa:=fldQ_at (L:=L) (q:=q1) n
    have hfan:=fldA_ns (L:=L) (q:=q1) n
    have hfqn:=fldQ_ns (L:=L) (q:=q1) n
    have hfa:fldA L n q1=onQ L (badQ L (nameQ L q1) (d.fields.any fun f=>decide (f.1=(tkQ L q1).s)) 6):=by unfold fldA;rw[hdd]
    obtain⟨x1,hx1⟩:∃z,Hid ((tkQ L q1).s=z):=⟨_,Lib.hid rfl⟩
    rw[hx1.out] at hfa hR1'
    have hqn:=nameQ_ns (L:=L) (q:=q1)
    obtain⟨q2',hq2'⟩:∃z,Hid (nameQ L q1=z):=⟨_,Lib.hid rfl⟩
    rw[hq2'.out] at hfa hqn
    replace e1:=Lib.hid e1
    replace e3:=Lib.hid e3
    have hls2':=hls
    clear hcell hR1 hls
    go_wp2_with fail
    refine hhere.mono ?_
    rintro e wa ⟨rfl,hxa⟩
    have ha1:=h1.ext hxa
    have hnm:=nameQ_any wa ha1
    rw[hx1.out,hq2'.out] at hnm
    clear hhere
    go_wp2_with fail
    refine hnm.mono ?_
    rintro e w2 ⟨rfl,hc2,h2⟩
    clear hnm
    go_wp2_with fail
    have hg0:Blk (w2.alloc (.cells #[.string x1,.bool false,.int .i64 0] 38)) w2.heap.size #[.string x1,.bool false,.int .i64 0] 38:=Blk.new w2 _ _
    obtain⟨g,hg⟩:∃z,Hid (w2.heap.size=z):=⟨_,rfl⟩
    obtain⟨w3,hw3⟩:∃z,Hid (w2.alloc (.cells #[.string x1,.bool false,.int .i64 0] 38)=z):=⟨_,rfl⟩
    have hx3:Ext w2 w3:=by rw[←hw3.out];exact (Ext.refl w2).alloc _
    rw[hw3.out,hg.out] at hg0
    rw[hw3.out,hg.out]
    have h3:=h2.ext hx3
    have hgR:¬g=R:=by have:=h2.blk.lt;have:=hg.out;omega
    have hcA:Chg (fun k=>k=R) wo w3:=((Chg.ofExt hxa).trans hc2 (fun _ _ e=>e)).trans (Chg.ofExt hx3) (fun _ _ e=>e)
    have hgsz:wo.heap.size≤g:=by have:=hxa.size;have:=hc2.size;have:=hg.out;omega
    go_loopw [7] (fun v7 wi=>∃i:Nat,v7=.int .i64 i∧i≤ls∧Rq B wi R vl vn1 vs1 L (badQ L q2' ((d.fields.take i).any fun f=>decide (f.1=x1)) 6)∧Chg (fun k=>k=R) w3 wi) (fun v7 _=>ls-(intOf v7).toNat)
    case atStart=>exact⟨0,rfl,by omega,by rw[List.take_zero,List.any_nil,badQ_false];exact h3,Chg.refl _ _⟩
    case round=>
     obtain⟨i,rfl,hi,h4,hc4⟩:=hrel
     have hcB:Chg (fun k=>k=R) wo wr:=hcA.trans hc4 (fun _ _ e=>e)
     have y2:wr.cell? ⟨R,2,none⟩=some (.slice (some ⟨b,0,none⟩) nn c):=by rw[←e1.out];exact h4.blk.cell 2
     have y3:wr.cell? ⟨b,n*6+5,none⟩=some (.slice A3 ls c3):=hcB.cell z3 hbR
     have hgw:Blk wr g #[.string x1,.bool false,.int .i64 0] 38:=hc4.blk hg0 hgR
     by_cases hil:i<ls
     ·have hil':(i:Int)<(ls:Int):=by omega
      obtain⟨y,hyi⟩:∃y,d.fields[i]?=some y:=⟨_,List.getElem?_eq_getElem (by rw[hls2'.out];exact hil)⟩
      obtain⟨ba,oa,rfl,hca⟩:=flds_cell hrd3 i y hyi
      have hy4:wr.cell? ⟨ba,oa+i*3,none⟩=some (.string y.1):=hcB.cell ((hca wo (Ext.refl _)).1) (hFR ⟨ba,oa,none⟩ rfl)
      have hbq:=str_beq2 y.1 x1
      have hts:=any_take_succ d.fields (fun f=>decide (f.1=x1)) i y hyi
      obtain⟨y1,hy1⟩:∃z,Hid (y.1=z):=⟨_,Lib.hid rfl⟩
      rw[hy1.out] at hbq hy4 hts
      clear hyi hca
      go_wp2_with fail
      refine Reg.startX (R:=Ext) (by kernel_rfl) ?_
      have hRl:=Reg.rl_ext
      generalize hwq:World.drew _=wq
      have hxq:Ext wr wq:=by rw[←hwq];exact (Ext.refl wr).drew
      clear hwq
      have hbd:=bad_any (decide (y1=x1)) 6 wq (h4.ext hxq)
      rw[badQ_or _ _ (by decide),show ((6:Nat):Int)=6 from rfl] at hbd
      rw[←hts] at hbd
      have r2:∀W,Ext wq W→W.cell? ⟨R,2,none⟩=some (.slice (some ⟨b,0,none⟩) nn c):=fun W hW=>(hxq.trans hW).cell y2
      have r3:∀W,Ext wq W→W.cell? ⟨b,n*6+5,none⟩=some (.slice (some ⟨ba,oa,none⟩) ls c3):=fun W hW=>(hxq.trans hW).cell y3
      have r4:∀W,Ext wq W→W.cell? ⟨ba,oa+i*3,none⟩=some (.string y1):=fun W hW=>(hxq.trans hW).cell hy4
      have r5:∀W,Ext wq W→W.cell? ⟨g,0,none⟩=some (.string x1):=fun W hW=>(hgw.ext (hxq.trans hW)).cell 0
      clear y2 y3 hy4 hts
      iterate 4 ((first|refine Reg.un hRl ?_|refine Reg.vn hRl ?_);(try simp only[Reg.nn]))
      refine Reg.tx hRl 4 ?_;(try simp only[Reg.nn])
      iterate 3 ((first|refine Reg.un hRl ?_|refine Reg.vn hRl ?_);(try simp only[Reg.nn]))
      refine Reg.tx hRl 8 ?_;(try simp only[Reg.nn])
      iterate 3 ((first|refine Reg.un hRl ?_|refine Reg.vn hRl ?_);(try simp only[Reg.nn]))
      refine Reg.tx hRl 12 ?_;(try simp only[Reg.nn])
      refine Reg.tx hRl 13 ?_;(try simp only[Reg.nn])
      refine Reg.tx hRl 14 ?_;(try simp only[Reg.nn])
      refine Reg.tx hRl 15 ?_;(try simp only[Reg.nn])
      refine Reg.lastXD 16 _ rfl (by kernel_rfl) (by kernel_rfl) (by kernel_rfl) (by decide) (by rfl) (fun K hK=>?_)
      go_simp
      refine hbd.mono ?_
      rintro e w4 ⟨rfl,hc4',h4'⟩
      refine hK.out _ _ ?_;clear hK K;(try simp only[Reg.nn])
      go_wp2_with fail
      go_roundw
      case rel=>exact⟨i+1,by go_num,by omega,h4',(hc4.trans (Chg.ofExt hxq) (fun _ _ e=>e)).trans hc4' (fun _ _ e=>e)⟩
      case measure=>simp[intOf];omega
     ·obtain rfl:i=ls:=by omega
      have hnot:¬(i:Int)<(i:Int):=by omega
      rw[List.take_of_length_le (by rw[hls2'.out];exact Nat.le_refl _)] at h4
      obtain⟨qb,hqb⟩:∃z,Hid (badQ L q2' (d.fields.any fun f=>decide (f.1=x1)) 6=z):=⟨_,rfl⟩
      rw[hqb.out] at h4 hfa
      have hon:=on_any wr h4
      rw[←hfa] at hon
      have hfq:fldQ L n q1=signQ L (if hereQ L (fldA L n q1) cQ=true then onQ L (fldA L n q1) else fldA L n q1) cCol:=rfl
      obtain⟨qa,hqa⟩:∃z,Hid (fldA L n q1=z):=⟨_,Lib.hid rfl⟩
      obtain⟨qf,hqf⟩:∃z,Hid (fldQ L n q1=z):=⟨_,Lib.hid rfl⟩
      obtain⟨bb,hbb⟩:∃z,Hid (hereQ L qa cQ=z):=⟨_,Lib.hid rfl⟩
      rw[hqf.out] at hwfq hfqa hfqn hfq
      rw[hqf.out,hqa.out,hbb.out] at hR1'
      rw[hqa.out] at hon
      rw[hqa.out,hbb.out] at hfq
      replace hfq:=hfq.symm
      have hcx0:Chg (Wq R vn) w wr:=hc1.trans hcB (fun k _ e=>.inl e)
      have hgB:B≤g:=by omega
      have hgw0:w.heap.size≤g:=by omega
      have hgf:∀(i:Nat) v,vs1[i]?=some v→¬v.2.2.ownBlock=some g:=fun i v q3 q4=>by
       have:=(h2.subLt i v q3).2.2 g q4
       have:=hg.out
       omega
      clear hfa hrd3 hFR hwfa hfan hc4 hcA hg0
      go_wp2_with fail
      refine hon.mono ?_
      rintro e w5 ⟨rfl,hc5,h5⟩
      have hg5:=hc5.blk hgw hgR
      have hhr:=here_any cQ w5 h5
      rw[hbb.out,show cQ=(⟨#[63]⟩:ByteArray) from rfl] at hhr
      clear hon
      go_wp2_with fail
      refine hhr.mono ?_
      rintro e w6 ⟨rfl,hx6⟩
      have h6:=h5.ext hx6
      have hg6:=hg5.ext hx6
      have hc06:Chg (Wq R vn) w w6:=(hcx0.trans hc5 (fun k _ e=>.inl e)).trans (Chg.ofExt hx6) (fun _ _ e=>e)
      clear hhr
      rcases Bool.eq_false_or_eq_true bb with hbt|hbt
      ·have hA6:=h6.aside (Chg.one w6 g 1 (.bool true)) hgB hgR hg6 hgf
       have hg6s:Blk (w6.setCell ⟨g,1,none⟩ (.bool true)) g #[.string x1,.bool bb,.int .i64 0] 38:=by rw[hbt];exact hg6.set 1 _
       have hon:=on_any _ hA6
       rw[if_pos hbt] at hfq
       have zg6:=hg6.cell 1
       have fg6:=hg6.frozen 1
       go_wp2_with fail
       refine hon.mono ?_
       rintro e wx ⟨rfl,hcx9,hx9⟩
       have hgx:=hcx9.blk hg6s hgR
       have hcx:Chg (Wq R vn) w wx:=(hc06.trans (Chg.one w6 g 1 (.bool true)) (fun k hk e=>by have e:k=g:=e;omega)).trans hcx9 (fun k _ e=>.inl e)
       replace hbt:=Lib.hid hbt
       clear hon zg6 fg6 hA6
       have hsg:=sign_any cCol wx hx9
       rw[hfq,show cCol=(⟨#[58]⟩:ByteArray) from rfl] at hsg
       go_wp2_with fail
       refine hsg.mono ?_
       rintro e w7 ⟨rfl,hc7,h7⟩
       clear hsg
       have hg7:=hc7.blk hgx hgR
       have hcw7:Chg (Wq R vn) w w7:=hcx.trans hc7 (fun k _ e=>.inl e)
       have hsz7:=hcw7.size
       have hy7:=h7.why_cell
       by_cases hqw:qf.why=0
       ·have hyb7:((qf.why:Int) == 0)=true:=by rw[hqw];rfl
        have hy70:((qf.why:Nat):Int)=0:=by rw[hqw];rfl
        have hw7:WQ L qf.at_ qf:=hwfq.le hfqa
        have hT:=H false [] none 0 0 qf w7 vl vn1 vs1 h7 hqw hw7 (Rd.nil _ _) rfl (by omega) (fun m hm=>by cases hm) (Nat.le_trans hB hsz7) (fun a ha=>by cases ha)
        rw[show ((deep+1:Nat):Int)=(deep:Int)+1 by omega] at hT
        obtain⟨g1,g2,g3,g4,g5⟩:=hG false [] qf hqw (GQ.ofOk hw7)
        rw[if_neg (by rw[hqw];simp)] at hR1'
        obtain⟨r,hr⟩:∃z,Hid (typedQ L fuel false [] qf=z):=⟨_,rfl⟩
        rw[hr.out] at hT g1 g2 g3 g4 g5 hR1'
        obtain⟨x,q2⟩:=r
        simp only at hT g1 g2 g3 g4 g5 hR1'
        have hn2:n<q2.ns.length:=by rw[hfqn] at g3;omega
        clear hr
        go_wp2_with fail
        refine hT.mono ?_
        rintro e w8 ⟨rfl,hc8,vn2,vs2,h8,hf2,hg2⟩
        clear hT
        have hg8:=hc8.blk hg7 (fun e=>e.elim hgR (fun e=>own_ne_blk h7.nds.row hg7 (by decide) e.symm))
        have hgf2:∀(i:Nat) v,vs2[i]?=some v→¬v.2.2.ownBlock=some g:=fun i v q3 q4=>by
         rcases (hg2 i v q3).2.2 g q4 with e|⟨v9,e4,e5⟩
         ·have:=hg7.lt;omega
         ·exact hgf i v9 e4 e5
        have hA9:=h8.aside (Chg.one w8 g 2 (.int .i64 (x:Int))) hgB hgR hg8 hgf2
        have hg9:Blk (w8.setCell ⟨g,2,none⟩ (.int .i64 (x:Int))) g #[.string x1,.bool bb,.int .i64 (x:Int)] 38:=hg8.set 2 _
        have zg8:=hg8.cell 2
        have fg8:=hg8.frozen 2
        have hsg:=sign_any cSem _ hA9
        have hsa:=fun e=>signQ_ok (L:=L) (q:=q2) (x:=cSem) e
        have hsn:=signQ_ns (L:=L) (q:=q2) cSem
        have hGf:=gq_fld hTk g1 n (x1,bb,x)
        have hWs:=g1.any.sign cSem
        have h8lt:=h8.lt
        rw[show cSem=(⟨#[59]⟩:ByteArray) from rfl] at hsg
        obtain⟨q4,hq4⟩:∃z,Hid (signQ L q2 cSem=z):=⟨_,rfl⟩
        rw[show (⟨#[59]⟩:ByteArray)=cSem from rfl,hq4.out] at hsg
        rw[show cSem=(⟨#[59]⟩:ByteArray) from rfl] at hsg
        rw[hq4.out] at hR1' hsa hsn hGf hWs
        have hn4:n<q4.ns.length:=by rw[hsn];exact hn2
        go_wp2_with fail
        refine hsg.mono ?_
        rintro e w10 ⟨rfl,hc10,h10⟩
        clear hsg zg8 fg8
        have hg10:=hc10.blk hg9 hgR
        have hcT:Chg (Wq R vn) w w10:=(((hcw7.trans hc8 (Wq.back hf1)).trans (Chg.one w8 g 2 (.int .i64 (x:Int))) (fun k hk e=>by have e:k=g:=e;omega)).trans hc10 (fun k _ e=>.inl e))
        have hfT:=hf1.trans hf2 hsz7
        have hgT:=hg1.trans hg2 hsz7
        have hszT:=hcT.size
        obtain⟨d2,v2,b2,c2,hd2,hv2,rfl,hc1'',hc2'',hcell2⟩:=h10.node n hn4
        have hgb:∃cur,Blk w10 b2 cur 36:=by
         obtain⟨b9,c9,cur,e9,_,hg9,_⟩:=h10.rowb n hn4
         injection e9 with e9 _ _
         injection e9 with e9
         injection e9 with e9 _ _
         subst e9
         exact⟨cur,hg9⟩
        obtain⟨cur,hgb⟩:=hgb
        have hs2:=h10.nds.sub n d2 v2 hd2 hv2
        obtain⟨A5,c5,e5,hl3,hl4,hrd5,_⟩:=Rd.of_own hs2.fields
        have hlen2:=(hWs.len d2 (List.mem_of_getElem? hd2)).2.2
        obtain⟨mm,hmm⟩:∃z,Hid (q4.ns.length=z):=⟨_,Lib.hid rfl⟩
        obtain⟨li2,hli2⟩:∃z,Hid (d2.fields.length=z):=⟨_,Lib.hid rfl⟩
        have hlI:(li2:Int)≤100000∧li2≤100000:=by have:=hli2.out;exact⟨by omega,by omega⟩
        have hnM:(n:Int)<(mm:Int):=by have:=hmm.out;omega
        have hv2i:Hid (v2.2.2=.slice A5 li2 c5):=Lib.hid (by rw[e5,hli2.out])
        clear e5
        obtain⟨S,hSd⟩:∃S:Nat→Prop,Hid (S=fun k=>v2.2.2.ownBlock=some k):=⟨_,Lib.hid rfl⟩
        have hSi:∀k,S k→v2.2.2.ownBlock=some k:=fun k hk=>by rw[hSd.out] at hk;exact hk
        have hSr:∀k,v2.2.2.ownBlock=some k→S k:=fun k hk=>by rw[hSd.out];exact hk
        have hS2R:¬S R:=fun e=>h10.ne hs2.fields (by decide) R (hSi R e) rfl
        have hS2b:¬S b2:=fun e=>own_not hs2.fields h10.nds.row (by decide) b2 rfl (hSi b2 e)
        have hSg:¬S g:=fun e=>hgf2 n v2 hv2 (hSi g e)
        have hS2w:∀k,S k→w.heap.size≤k:=fun k hk=>by
         rcases (hgT n v2 hv2).2.2 k (hSi k hk) with e|⟨v9,e1,e2⟩
         ·exact e
         ·rw[hv0 v9 e1] at e2;cases e2
        go_wp2_with fail
        refine Reg.startX (R:=Chg S) (by kernel_rfl) ?_
        have hRl:=Reg.rl_chg S
        generalize hwq:World.drew _=wq
        have hxq:Ext w10 wq:=by rw[←hwq];exact (Ext.refl w10).drew
        clear hwq
        have hq:=h10.ext hxq
        have hsq:=hs2.ext hxq
        have hszq:=hxq.size
        have r2:∀W,Chg S wq W→W.cell? ⟨R,2,none⟩=some (.slice (some ⟨b2,0,none⟩) mm c2):=fun W hW=>(hW.blk hq.blk hS2R).cell 2 |>.trans (by rw[←hmm.out];rfl)
        have r4:∀W,Chg S wq W→W.cell? ⟨b2,n*6+5,none⟩=some (.slice A5 li2 c5):=fun W hW=>hW.cell (by rw[←hv2i.out];have:=hcell2 wq hxq 5 (by omega);simpa [ndC] using this) hS2b
        have rg0:∀W,Chg S wq W→W.cell? ⟨g,0,none⟩=some (.string x1):=fun W hW=>(hW.blk (hg10.ext hxq) hSg).cell 0
        have rg1:∀W,Chg S wq W→W.cell? ⟨g,1,none⟩=some (.bool bb):=fun W hW=>(hW.blk (hg10.ext hxq) hSg).cell 1
        have rg2:∀W,Chg S wq W→W.cell? ⟨g,2,none⟩=some (.int .i64 (x:Int)):=fun W hW=>(hW.blk (hg10.ext hxq) hSg).cell 2
        iterate 3 ((first|refine Reg.un hRl ?_|refine Reg.vn hRl ?_);(try simp only[Reg.nn]))
        refine Reg.tx hRl 3 ?_;(try simp only[Reg.nn])
        iterate 4 ((first|refine Reg.un hRl ?_|refine Reg.vn hRl ?_);(try simp only[Reg.nn]))
        refine Reg.tx hRl 8 ?_;(try simp only[Reg.nn])
        iterate 3 ((first|refine Reg.un hRl ?_|refine Reg.vn hRl ?_);(try simp only[Reg.nn]))
        refine Reg.tx hRl 12 ?_;(try simp only[Reg.nn])
        refine Reg.tx hRl 13 ?_;(try simp only[Reg.nn])
        refine Reg.onlyX 14 _ rfl (by kernel_rfl) (by decide) (by rfl) (fun K hK=>?_);go_simp
        have ha:Ext wq (wq.alloc (.cells #[.string x1,.bool bb,.int .i64 (x:Int)] 38)):=(Ext.refl wq).alloc _
        refine hK.out _ _ (Chg.ofExt ha) ?_;clear hK K;(try simp only[Reg.nn])
        refine Reg.onlyX 15 _ rfl (by kernel_rfl) (by decide) (by rfl) (fun K hK=>?_)
        refine wp_app el_fld _ (.tmp 86) (.tmp 88) rfl B (.slice A5 li2 c5) li2 (flds d2.fields) rfl (by rw[←hv2i.out,←hli2.out];exact own_ext hsq.fields ha) (some ⟨wq.heap.size,0,none⟩) 1 1 (flds [(x1,bb,x)]) rfl (Rd.of_block wq 38 (0,0) rfl) rfl (fun h=>by cases h) (flds_one' [(x1,bb,x)]) (by omega) (by omega) (by simp;omega) ?_
        intro V2 w3' ho3 hg3 hv3
        obtain⟨A6,c6,rfl,jj1,jj2,jj3,jj4⟩:=Rd.of_own ho3
        clear jj1 jj2 jj3 jj4
        have hch3:Chg S (wq.alloc (.cells #[.string x1,.bool bb,.int .i64 (x:Int)] 38)) w3':=(Chg.ofGrown hg3).mono fun k _ e=>hSr k (by rw[hv2i.out];exact e)
        have hch:Chg S wq w3':=(Chg.ofExt ha).trans hch3 (fun _ _ e=>e)
        refine hK.out _ _ hch3 ?_
        clear hK K
        (try simp only[Reg.nn])
        have c34:=r4 w3' hch
        have f34:=(hch.blk (hgb.ext hxq) hS2b).frozen (n*6+5)
        iterate 2 ((first|refine Reg.un hRl ?_|refine Reg.vn hRl ?_);(try simp only[Reg.nn]))
        refine Reg.lastX 18 _ rfl (by kernel_rfl) (by kernel_rfl) (by kernel_rfl) (by decide) (by rfl) (fun K hK=>?_)
        go_simp
        refine hK.out _ _ ?_;clear hK K;(try simp only[Reg.nn])
        obtain⟨G,hGd⟩:∃G:V3→V3,G=fun v=>(v.1,v.2.1,.slice A6 (li2+1) c6):=⟨_,rfl⟩
        have hV6:∀k,(Value.slice A6 (li2+1) c6).ownBlock=some k→w10.heap.size≤k∨v2.2.2.ownBlock=some k:=fun k hk=>by
         rcases hv3 with e|e
         ·rw[e,←hv2i.out] at hk;exact .inr hk
         ·rw[e] at hk;injection hk with hk;left;simp at hk;omega
        have hGn:∀v,vs2[n]?=some v→v=v2:=fun v hv=>by rw[hv2] at hv;injection hv with hv;exact hv.symm
        have hap:Ap (vs2.modify n G):=ap_new (w:=w10) h10.ap h10.subLt (fun v hv=>by
         obtain rfl:=hGn v hv
         subst hGd
         exact⟨fun k hk=>.inr hk,fun k hk=>.inr hk,fun k hk=>hV6 k hk⟩)
        have hRf:=hq.refill (S:=S) (n:=n) (i:=5) hch (fun k hk=>(hs2.fields.lt k (hSi k hk)).1) hS2R hS2b
         (fun j d v hj q3 q4=>by
          have hsj:=h10.nds.sub j d v q3 q4
          exact⟨fun k hk e=>own_not hs2.fields hsj.syms (by decide) k hk (hSi k e),fun k hk e=>own_not hs2.fields hsj.items (by decide) k hk (hSi k e),fun k hk e=>(h10.ap j n v v2 q4 hv2 hj).2.2 k hk (hSi k e)⟩)
         hn4 (by omega) (fun d=>{ d with fields:=d.fields++[(x1,bb,x)] }) G (.slice A6 (li2+1) c6) (fun d v q3 q4=>by
          obtain rfl:=hGn v q4
          rw[hd2] at q3;injection q3 with q3;subst q3
          subst hGd
          refine⟨rfl,own_chg hsq.syms hch (fun k hk e=>own_not hsq.fields hsq.syms (by decide) k hk (hSi k e)),own_chg hsq.items hch (fun k hk e=>own_not hsq.fields hsq.items (by decide) k hk (hSi k e)),?_⟩
          show w3'.ownsRow B 38 3 (.slice A6 (li2+1) c6) (d2.fields++[(x1,bb,x)]).length (flds (d2.fields++[(x1,bb,x)]))
          rw[List.length_append,hli2.out,show flds (d2.fields++[(x1,bb,x)])=flds d2.fields++flds [(x1,bb,x)] by simp[flds]]
          exact ho3) hap
        have hchF:Chg (Wq R vn) w (w3'.setCell ⟨b2,n*6+5,none⟩ (.slice A6 (li2+1) c6)):=by
         refine ((hcT.trans (Chg.ofExt hxq) (fun _ _ e=>e)).trans hch (fun k hk e=>by have:=hS2w k e;omega)).trans (Chg.one w3' b2 (n*6+5) _) (fun k hk e=>?_)
         exact Wq.back hfT k hk (.inr (by rw[e];rfl))
        have hgF:SF w vs (vs2.modify n G):=hgT.trans (sf_modify w vs2 n G (fun v hv=>by
         obtain rfl:=hGn v hv
         subst hGd
         exact⟨fun k hk=>.inr hk,fun k hk=>.inr hk,fun k hk=>(hV6 k hk).imp (fun e=>by omega) (fun e=>e)⟩)) (Nat.le_refl _)
        obtain⟨q3,hq3⟩:∃z,Hid ((q4.setN n fun d=>{ d with fields:=d.fields++[(x1,bb,x)] })=z):=⟨_,rfl⟩
        have hq3w:q3.why=q4.why:=by rw[←hq3.out];rfl
        have hq3a:q3.at_=q4.at_:=by rw[←hq3.out];rfl
        have hq3n:q3.ns.length=q4.ns.length:=by rw[←hq3.out,setN_lenQ]
        rw[hq3.out] at hRf hR1' hGf
        rw[show (Value.slice (some ⟨b2,0,none⟩) q4.ns.length c2)=.slice (some ⟨b2,0,none⟩) mm c2 by rw[hmm.out]] at hRf hfT
        have hms9:=hRf.meas
        have hR4:=Lib.hid hR1'
        have hadv:q3.why=0→q1.at_<q3.at_:=fun e=>by
         obtain⟨a1,a2,a3⟩:=hsa (by rw[←hq3w];exact e)
         rw[hq3a,a3,onQ_adv hTk h8lt (by rw[(here_k a2).1];decide) a1]
         show q1.at_<q2.at_+1
         omega
        clear hap r2 r4 rg0 rg1 rg2 hcell2 hq hsq hs2 hV6 hGn hcT hR1'
        go_wp2_with fail
        go_roundw
        case rel=>exact⟨m,q3,_,_,hRf,hchF,hfT,hgF,hR4,hGf,by omega,fun e=>by have:=hadv e;have:=hm1 hw1;omega⟩
        case measure=>
         rw[hms9,hms,if_pos hw1]
         have:=h1.lt
         split
         ·next e=>have:=hadv e;omega
         ·omega
       ·have hneb:((qf.why:Int) == 0)=false:=by simpa using (by omega:¬(qf.why:Int)=0)
        have hne:¬(qf.why:Int)=0:=by omega
        rw[if_pos hqw] at hR1'
        rw[hR1'] at h7
        obtain⟨y7,hyy7⟩:∃z,Hid (qf.why=z):=⟨_,Lib.hid rfl⟩
        rw[hyy7.out] at hy7 hneb hne
        go_wp2_with fail
        refine bodyPost_ret (results_none rfl _ _ _) rfl ?_
        exact hfin _ ⟨hcw7,_,_,h7,hf1,hg1⟩
      ·rw[if_neg (by rw[hbt];simp)] at hfq
       have hgx:Blk w6 g #[.string x1,.bool bb,.int .i64 0] 38:=by rw[hbt];exact hg6
       have hx9:=h6
       have hcx:=hc06
       obtain⟨wx,hwx⟩:∃z,z=w6:=⟨_,rfl⟩
       subst hwx
       go_wp2_with fail
       replace hbt:=Lib.hid hbt
       have hsg:=sign_any cCol wx hx9
       rw[hfq,show cCol=(⟨#[58]⟩:ByteArray) from rfl] at hsg
       go_wp2_with fail
       refine hsg.mono ?_
       rintro e w7 ⟨rfl,hc7,h7⟩
       clear hsg
       have hg7:=hc7.blk hgx hgR
       have hcw7:Chg (Wq R vn) w w7:=hcx.trans hc7 (fun k _ e=>.inl e)
       have hsz7:=hcw7.size
       have hy7:=h7.why_cell
       by_cases hqw:qf.why=0
       ·have hyb7:((qf.why:Int) == 0)=true:=by rw[hqw];rfl
        have hy70:((qf.why:Nat):Int)=0:=by rw[hqw];rfl
        have hw7:WQ L qf.at_ qf:=hwfq.le hfqa
        have hT:=H false [] none 0 0 qf w7 vl vn1 vs1 h7 hqw hw7 (Rd.nil _ _) rfl (by omega) (fun m hm=>by cases hm) (Nat.le_trans hB hsz7) (fun a ha=>by cases ha)
        rw[show ((deep+1:Nat):Int)=(deep:Int)+1 by omega] at hT
        obtain⟨g1,g2,g3,g4,g5⟩:=hG false [] qf hqw (GQ.ofOk hw7)
        rw[if_neg (by rw[hqw];simp)] at hR1'
        obtain⟨r,hr⟩:∃z,Hid (typedQ L fuel false [] qf=z):=⟨_,rfl⟩
        rw[hr.out] at hT g1 g2 g3 g4 g5 hR1'
        obtain⟨x,q2⟩:=r
        simp only at hT g1 g2 g3 g4 g5 hR1'
        have hn2:n<q2.ns.length:=by rw[hfqn] at g3;omega
        clear hr
        go_wp2_with fail
        refine hT.mono ?_
        rintro e w8 ⟨rfl,hc8,vn2,vs2,h8,hf2,hg2⟩
        clear hT
        have hg8:=hc8.blk hg7 (fun e=>e.elim hgR (fun e=>own_ne_blk h7.nds.row hg7 (by decide) e.symm))
        have hgf2:∀(i:Nat) v,vs2[i]?=some v→¬v.2.2.ownBlock=some g:=fun i v q3 q4=>by
         rcases (hg2 i v q3).2.2 g q4 with e|⟨v9,e4,e5⟩
         ·have:=hg7.lt;omega
         ·exact hgf i v9 e4 e5
        have hA9:=h8.aside (Chg.one w8 g 2 (.int .i64 (x:Int))) hgB hgR hg8 hgf2
        have hg9:Blk (w8.setCell ⟨g,2,none⟩ (.int .i64 (x:Int))) g #[.string x1,.bool bb,.int .i64 (x:Int)] 38:=hg8.set 2 _
        have zg8:=hg8.cell 2
        have fg8:=hg8.frozen 2
        have hsg:=sign_any cSem _ hA9
        have hsa:=fun e=>signQ_ok (L:=L) (q:=q2) (x:=cSem) e
        have hsn:=signQ_ns (L:=L) (q:=q2) cSem
        have hGf:=gq_fld hTk g1 n (x1,bb,x)
        have hWs:=g1.any.sign cSem
        have h8lt:=h8.lt
        rw[show cSem=(⟨#[59]⟩:ByteArray) from rfl] at hsg
        obtain⟨q4,hq4⟩:∃z,Hid (signQ L q2 cSem=z):=⟨_,rfl⟩
        rw[show (⟨#[59]⟩:ByteArray)=cSem from rfl,hq4.out] at hsg
        rw[show cSem=(⟨#[59]⟩:ByteArray) from rfl] at hsg
        rw[hq4.out] at hR1' hsa hsn hGf hWs
        have hn4:n<q4.ns.length:=by rw[hsn];exact hn2
        go_wp2_with fail
        refine hsg.mono ?_
        rintro e w10 ⟨rfl,hc10,h10⟩
        clear hsg zg8 fg8
        have hg10:=hc10.blk hg9 hgR
        have hcT:Chg (Wq R vn) w w10:=(((hcw7.trans hc8 (Wq.back hf1)).trans (Chg.one w8 g 2 (.int .i64 (x:Int))) (fun k hk e=>by have e:k=g:=e;omega)).trans hc10 (fun k _ e=>.inl e))
        have hfT:=hf1.trans hf2 hsz7
        have hgT:=hg1.trans hg2 hsz7
        have hszT:=hcT.size
        obtain⟨d2,v2,b2,c2,hd2,hv2,rfl,hc1'',hc2'',hcell2⟩:=h10.node n hn4
        have hgb:∃cur,Blk w10 b2 cur 36:=by
         obtain⟨b9,c9,cur,e9,_,hg9,_⟩:=h10.rowb n hn4
         injection e9 with e9 _ _
         injection e9 with e9
         injection e9 with e9 _ _
         subst e9
         exact⟨cur,hg9⟩
        obtain⟨cur,hgb⟩:=hgb
        have hs2:=h10.nds.sub n d2 v2 hd2 hv2
        obtain⟨A5,c5,e5,hl3,hl4,hrd5,_⟩:=Rd.of_own hs2.fields
        have hlen2:=(hWs.len d2 (List.mem_of_getElem? hd2)).2.2
        obtain⟨mm,hmm⟩:∃z,Hid (q4.ns.length=z):=⟨_,Lib.hid rfl⟩
        obtain⟨li2,hli2⟩:∃z,Hid (d2.fields.length=z):=⟨_,Lib.hid rfl⟩
        have hlI:(li2:Int)≤100000∧li2≤100000:=by have:=hli2.out;exact⟨by omega,by omega⟩
        have hnM:(n:Int)<(mm:Int):=by have:=hmm.out;omega
        have hv2i:Hid (v2.2.2=.slice A5 li2 c5):=Lib.hid (by rw[e5,hli2.out])
        clear e5
        obtain⟨S,hSd⟩:∃S:Nat→Prop,Hid (S=fun k=>v2.2.2.ownBlock=some k):=⟨_,Lib.hid rfl⟩
        have hSi:∀k,S k→v2.2.2.ownBlock=some k:=fun k hk=>by rw[hSd.out] at hk;exact hk
        have hSr:∀k,v2.2.2.ownBlock=some k→S k:=fun k hk=>by rw[hSd.out];exact hk
        have hS2R:¬S R:=fun e=>h10.ne hs2.fields (by decide) R (hSi R e) rfl
        have hS2b:¬S b2:=fun e=>own_not hs2.fields h10.nds.row (by decide) b2 rfl (hSi b2 e)
        have hSg:¬S g:=fun e=>hgf2 n v2 hv2 (hSi g e)
        have hS2w:∀k,S k→w.heap.size≤k:=fun k hk=>by
         rcases (hgT n v2 hv2).2.2 k (hSi k hk) with e|⟨v9,e1,e2⟩
         ·exact e
         ·rw[hv0 v9 e1] at e2;cases e2
        go_wp2_with fail
        refine Reg.startX (R:=Chg S) (by kernel_rfl) ?_
        have hRl:=Reg.rl_chg S
        generalize hwq:World.drew _=wq
        have hxq:Ext w10 wq:=by rw[←hwq];exact (Ext.refl w10).drew
        clear hwq
        have hq:=h10.ext hxq
        have hsq:=hs2.ext hxq
        have hszq:=hxq.size
        have r2:∀W,Chg S wq W→W.cell? ⟨R,2,none⟩=some (.slice (some ⟨b2,0,none⟩) mm c2):=fun W hW=>(hW.blk hq.blk hS2R).cell 2 |>.trans (by rw[←hmm.out];rfl)
        have r4:∀W,Chg S wq W→W.cell? ⟨b2,n*6+5,none⟩=some (.slice A5 li2 c5):=fun W hW=>hW.cell (by rw[←hv2i.out];have:=hcell2 wq hxq 5 (by omega);simpa [ndC] using this) hS2b
        have rg0:∀W,Chg S wq W→W.cell? ⟨g,0,none⟩=some (.string x1):=fun W hW=>(hW.blk (hg10.ext hxq) hSg).cell 0
        have rg1:∀W,Chg S wq W→W.cell? ⟨g,1,none⟩=some (.bool bb):=fun W hW=>(hW.blk (hg10.ext hxq) hSg).cell 1
        have rg2:∀W,Chg S wq W→W.cell? ⟨g,2,none⟩=some (.int .i64 (x:Int)):=fun W hW=>(hW.blk (hg10.ext hxq) hSg).cell 2
        iterate 3 ((first|refine Reg.un hRl ?_|refine Reg.vn hRl ?_);(try simp only[Reg.nn]))
        refine Reg.tx hRl 3 ?_;(try simp only[Reg.nn])
        iterate 4 ((first|refine Reg.un hRl ?_|refine Reg.vn hRl ?_);(try simp only[Reg.nn]))
        refine Reg.tx hRl 8 ?_;(try simp only[Reg.nn])
        iterate 3 ((first|refine Reg.un hRl ?_|refine Reg.vn hRl ?_);(try simp only[Reg.nn]))
        refine Reg.tx hRl 12 ?_;(try simp only[Reg.nn])
        refine Reg.tx hRl 13 ?_;(try simp only[Reg.nn])
        refine Reg.onlyX 14 _ rfl (by kernel_rfl) (by decide) (by rfl) (fun K hK=>?_);go_simp
        have ha:Ext wq (wq.alloc (.cells #[.string x1,.bool bb,.int .i64 (x:Int)] 38)):=(Ext.refl wq).alloc _
        refine hK.out _ _ (Chg.ofExt ha) ?_;clear hK K;(try simp only[Reg.nn])
        refine Reg.onlyX 15 _ rfl (by kernel_rfl) (by decide) (by rfl) (fun K hK=>?_)
        refine wp_app el_fld _ (.tmp 86) (.tmp 88) rfl B (.slice A5 li2 c5) li2 (flds d2.fields) rfl (by rw[←hv2i.out,←hli2.out];exact own_ext hsq.fields ha) (some ⟨wq.heap.size,0,none⟩) 1 1 (flds [(x1,bb,x)]) rfl (Rd.of_block wq 38 (0,0) rfl) rfl (fun h=>by cases h) (flds_one' [(x1,bb,x)]) (by omega) (by omega) (by simp;omega) ?_
        intro V2 w3' ho3 hg3 hv3
        obtain⟨A6,c6,rfl,jj1,jj2,jj3,jj4⟩:=Rd.of_own ho3
        clear jj1 jj2 jj3 jj4
        have hch3:Chg S (wq.alloc (.cells #[.string x1,.bool bb,.int .i64 (x:Int)] 38)) w3':=(Chg.ofGrown hg3).mono fun k _ e=>hSr k (by rw[hv2i.out];exact e)
        have hch:Chg S wq w3':=(Chg.ofExt ha).trans hch3 (fun _ _ e=>e)
        refine hK.out _ _ hch3 ?_
        clear hK K
        (try simp only[Reg.nn])
        have c34:=r4 w3' hch
        have f34:=(hch.blk (hgb.ext hxq) hS2b).frozen (n*6+5)
        iterate 2 ((first|refine Reg.un hRl ?_|refine Reg.vn hRl ?_);(try simp only[Reg.nn]))
        refine Reg.lastX 18 _ rfl (by kernel_rfl) (by kernel_rfl) (by kernel_rfl) (by decide) (by rfl) (fun K hK=>?_)
        go_simp
        refine hK.out _ _ ?_;clear hK K;(try simp only[Reg.nn])
        obtain⟨G,hGd⟩:∃G:V3→V3,G=fun v=>(v.1,v.2.1,.slice A6 (li2+1) c6):=⟨_,rfl⟩
        have hV6:∀k,(Value.slice A6 (li2+1) c6).ownBlock=some k→w10.heap.size≤k∨v2.2.2.ownBlock=some k:=fun k hk=>by
         rcases hv3 with e|e
         ·rw[e,←hv2i.out] at hk;exact .inr hk
         ·rw[e] at hk;injection hk with hk;left;simp at hk;omega
        have hGn:∀v,vs2[n]?=some v→v=v2:=fun v hv=>by rw[hv2] at hv;injection hv with hv;exact hv.symm
        have hap:Ap (vs2.modify n G):=ap_new (w:=w10) h10.ap h10.subLt (fun v hv=>by
         obtain rfl:=hGn v hv
         subst hGd
         exact⟨fun k hk=>.inr hk,fun k hk=>.inr hk,fun k hk=>hV6 k hk⟩)
        have hRf:=hq.refill (S:=S) (n:=n) (i:=5) hch (fun k hk=>(hs2.fields.lt k (hSi k hk)).1) hS2R hS2b
         (fun j d v hj q3 q4=>by
          have hsj:=h10.nds.sub j d v q3 q4
          exact⟨fun k hk e=>own_not hs2.fields hsj.syms (by decide) k hk (hSi k e),fun k hk e=>own_not hs2.fields hsj.items (by decide) k hk (hSi k e),fun k hk e=>(h10.ap j n v v2 q4 hv2 hj).2.2 k hk (hSi k e)⟩)
         hn4 (by omega) (fun d=>{ d with fields:=d.fields++[(x1,bb,x)] }) G (.slice A6 (li2+1) c6) (fun d v q3 q4=>by
          obtain rfl:=hGn v q4
          rw[hd2] at q3;injection q3 with q3;subst q3
          subst hGd
          refine⟨rfl,own_chg hsq.syms hch (fun k hk e=>own_not hsq.fields hsq.syms (by decide) k hk (hSi k e)),own_chg hsq.items hch (fun k hk e=>own_not hsq.fields hsq.items (by decide) k hk (hSi k e)),?_⟩
          show w3'.ownsRow B 38 3 (.slice A6 (li2+1) c6) (d2.fields++[(x1,bb,x)]).length (flds (d2.fields++[(x1,bb,x)]))
          rw[List.length_append,hli2.out,show flds (d2.fields++[(x1,bb,x)])=flds d2.fields++flds [(x1,bb,x)] by simp[flds]]
          exact ho3) hap
        have hchF:Chg (Wq R vn) w (w3'.setCell ⟨b2,n*6+5,none⟩ (.slice A6 (li2+1) c6)):=by
         refine ((hcT.trans (Chg.ofExt hxq) (fun _ _ e=>e)).trans hch (fun k hk e=>by have:=hS2w k e;omega)).trans (Chg.one w3' b2 (n*6+5) _) (fun k hk e=>?_)
         exact Wq.back hfT k hk (.inr (by rw[e];rfl))
        have hgF:SF w vs (vs2.modify n G):=hgT.trans (sf_modify w vs2 n G (fun v hv=>by
         obtain rfl:=hGn v hv
         subst hGd
         exact⟨fun k hk=>.inr hk,fun k hk=>.inr hk,fun k hk=>(hV6 k hk).imp (fun e=>by omega) (fun e=>e)⟩)) (Nat.le_refl _)
        obtain⟨q3,hq3⟩:∃z,Hid ((q4.setN n fun d=>{ d with fields:=d.fields++[(x1,bb,x)] })=z):=⟨_,rfl⟩
        have hq3w:q3.why=q4.why:=by rw[←hq3.out];rfl
        have hq3a:q3.at_=q4.at_:=by rw[←hq3.out];rfl
        have hq3n:q3.ns.length=q4.ns.length:=by rw[←hq3.out,setN_lenQ]
        rw[hq3.out] at hRf hR1' hGf
        rw[show (Value.slice (some ⟨b2,0,none⟩) q4.ns.length c2)=.slice (some ⟨b2,0,none⟩) mm c2 by rw[hmm.out]] at hRf hfT
        have hms9:=hRf.meas
        have hR4:=Lib.hid hR1'
        have hadv:q3.why=0→q1.at_<q3.at_:=fun e=>by
         obtain⟨a1,a2,a3⟩:=hsa (by rw[←hq3w];exact e)
         rw[hq3a,a3,onQ_adv hTk h8lt (by rw[(here_k a2).1];decide) a1]
         show q1.at_<q2.at_+1
         omega
        clear hap r2 r4 rg0 rg1 rg2 hcell2 hq hsq hs2 hV6 hGn hcT hR1'
        go_wp2_with fail
        go_roundw
        case rel=>exact⟨m,q3,_,_,hRf,hchF,hfT,hgF,hR4,hGf,by omega,fun e=>by have:=hadv e;have:=hm1 hw1;omega⟩
        case measure=>
         rw[hms9,hms,if_pos hw1]
         have:=h1.lt
         split
         ·next e=>have:=hadv e;omega
         ·omega
       ·have hneb:((qf.why:Int) == 0)=false:=by simpa using (by omega:¬(qf.why:Int)=0)
        have hne:¬(qf.why:Int)=0:=by omega
        rw[if_pos hqw] at hR1'
        rw[hR1'] at h7
        obtain⟨y7,hyy7⟩:∃z,Hid (qf.why=z):=⟨_,Lib.hid rfl⟩
        rw[hyy7.out] at hy7 hneb hne
        go_wp2_with fail
        refine bodyPost_ret (results_none rfl _ _ _) rfl ?_
        exact hfin _ ⟨hcw7,_,_,h7,hf1,hg1⟩
  ·have hneb:((q1.why:Int) == 0)=false:=by simpa using (by omega:¬(q1.why:Int)=0)
   have hall:fieldsQ L (typedQ L fuel) n m q1=q1:=by
    cases m with
    | zero=>rfl
    | succ m=>rw[fieldsQ,if_pos (.inl hw1),signQ_no hw1]
   have hRq:q1=R0:=by rw[←hall];exact hR1.out
   subst hRq
   have hsg:=sign_any cCuC wo h1
   rw[signQ_no hw1,show cCuC=(⟨#[125]⟩:ByteArray) from rfl] at hsg
   obtain⟨y,hyy⟩:∃z,Hid (q1.why=z):=⟨_,Lib.hid rfl⟩
   rw[hyy.out] at hy hneb
   clear hR1 hR0 hall hms hm1 hG1 hw1 hn1 hhere
   go_wp2_with fail
   refine hsg.mono ?_
   rintro e w3 ⟨rfl,hc3,h3⟩
   go_wp2_with fail
   go_end0
   exact hfin _ ⟨hc1.trans hc3 (fun k _ e=>.inl e),_,_,h3,hf1,hg1⟩
end
end Pr
end Go.Proofs.YtmaoochjbpohdaaGreatDoor
