/- policy, the document's side: what of a log is admitted: walked. -/
import Derived.Test.YtmaoochjbpohdaaGreatDoorPxZA
set_option linter.unusedVariables false
set_option linter.unusedSimpArgs false
set_option maxRecDepth 100000
set_option maxHeartbeats 1000000
open Go.ChangeShapes Go.WideShapes Go.ChangeAt Go.RowKit
namespace Go.Proofs.YtmaoochjbpohdaaGreatDoor
namespace Pd
open Base Lx Mi Pr Rv Cn Rx Pl Ch
def ints (l:List Nat):List Int:=l.map fun (i:Nat)=>(i:Int)
theorem ints_cells (l:List Nat):(ints l).map (Value.int .i64)=intsN l:=by simp[ints,intsN,Function.comp_def]
def seenT (l:List Et) (st:Adm):List ByteArray:=txtP l (ints st.vis)
theorem txt_snoc {l:List Et} {xs:List Nat} {i:Nat} {e:Et} (h:l[i]?=some e):txtP l (ints (xs++[i]))=txtP l (ints xs)++[e.s]:=by
 unfold txtP ints
 rw[List.map_append,List.flatMap_append]
 simp[h]
structure SeenOk (l:List Et) (st:Adm):Prop where
 eq:st.seen=(seenT l st).map schP
 all:(seenT l st).all isP=true
theorem seen_ok (l:List Et):∀n,n≤l.length→SeenOk l (admA l n)
 | 0,_=>⟨rfl,rfl⟩
 | n+1,h=>by
  have ih:=seen_ok l n (by omega)
  obtain⟨e,he⟩:∃e,l[n]?=some e:=⟨_,List.getElem?_eq_getElem (by omega)⟩
  rw[admA_at he]
  generalize admA l n=st at ih
  unfold admS
  split
  ·split
   ·exact⟨ih.eq,ih.all⟩
   ·exact⟨ih.eq,ih.all⟩
  ·split
   ·next h1=>
    refine⟨?_,?_⟩
    ·show st.seen++[schP e.s]=(txtP l (ints (st.vis++[n]))).map schP
     rw[txt_snoc he,List.map_append,ih.eq];rfl
    ·show (txtP l (ints (st.vis++[n]))).all isP=true
     rw[txt_snoc he,List.all_append,show (txtP l (ints st.vis)).all isP=true from ih.all];simp[h1.1]
   ·exact⟨ih.eq,ih.all⟩
section
variable {l:List Et} {st:Adm} {i:Nat} {e:Et}
theorem holdsT_seen (h:SeenOk l st) (p:Int):HoldsT p (seenT l st)=(polP p && holdsP p st.seen):=by
 unfold HoldsT;rw[h.all,←h.eq];rfl
theorem nextT_seen (h:SeenOk l st) (p:Int) (s:ByteArray):NextT p (seenT l st) s=(isP s && (polP p && nextP p st.seen (schP s))):=by
 unfold NextT;rw[h.all,←h.eq];rfl
theorem step_a (h:SeenOk l st) (h1:e.pol=true) (h2:HoldsT e.p (seenT l st)=true):{ st with p:=e.p }=admS st i e:=by
 rw[holdsT_seen h,Bool.and_eq_true] at h2
 exact admS_pol h1 h2.1 h2.2
theorem step_b (h:SeenOk l st) (h1:e.pol=true) (h2:HoldsT e.p (seenT l st)=false):{ st with held:=st.held++[i] }=admS st i e:=by
 rw[holdsT_seen h] at h2
 cases hp:polP e.p with
 | false=>exact admS_no1 h1 hp
 | true=>rw[hp,Bool.true_and] at h2;exact admS_no2 h1 h2
theorem step_d (h:SeenOk l st) (hp:polP st.p=true) (h1:e.pol=false) (h2:NextT st.p (seenT l st) e.s=false):{ st with held:=st.held++[i] }=admS st i e:=by
 rw[nextT_seen h,hp,Bool.true_and] at h2
 cases hs:isP e.s with
 | false=>exact admS_no3 h1 hs
 | true=>rw[hs,Bool.true_and] at h2;exact admS_no4 h1 h2
end
def bare (st:Adm):Adm:={ st with seen:=[] }
structure AD (q q3:Nat) (w0:World) (st:Adm) (vV hV:Value) (W:World):Prop where
 blk:Blk W q3 #[.int .i64 st.p,vV,hV] 59
 vis:W.ownsRow q 3 1 vV st.vis.length (intsN st.vis)
 held:W.ownsRow q 3 1 hV st.held.length (intsN st.held)
 dis:hV.ownBlock=none∨hV.ownBlock≠vV.ownBlock
 x:Ext w0 W
 hq:w0.heap.size=q
 hq3:w0.heap.size≤q3
section
variable {q q3:Nat} {w0:World} {st st':Adm} {vV hV:Value} {W W':World}
theorem AD.cast (h:AD q q3 w0 st vV hV W) (e1:st'.p=st.p) (e2:st'.vis=st.vis) (e3:st'.held=st.held):AD q q3 w0 st' vV hV W:=⟨by rw[e1];exact h.blk,by rw[e2];exact h.vis,by rw[e3];exact h.held,h.dis,h.x,h.hq,h.hq3⟩
theorem AD.dis' (h:AD q q3 w0 st vV hV W):vV.ownBlock=none∨vV.ownBlock≠hV.ownBlock:=by
 rcases h.dis with e|e
 ·cases hv:vV.ownBlock with
  | none=>exact .inl rfl
  | some k=>exact .inr (by rw[e];simp)
 ·exact .inr fun x=>e x.symm
theorem AD.ext (h:AD q q3 w0 st vV hV W) (hx:Ext W W'):AD q q3 w0 st vV hV W':=
 ⟨h.blk.ext hx,own_ext h.vis hx,own_ext h.held hx,h.dis,h.x.trans hx,h.hq,h.hq3⟩
theorem AD.pol (h:AD q q3 w0 st vV hV W) (p:Int):AD q q3 w0 { st with p:=p } vV hV (W.setCell ⟨q3,0,none⟩ (.int .i64 p)):=
 ⟨by simpa using h.blk.set 0 (.int .i64 p),own_setCell h.vis h.blk (by decide) _,own_setCell h.held h.blk (by decide) _,h.dis,h.x.setCell h.hq3 _,h.hq,h.hq3⟩
theorem AD.grow_held (h:AD q q3 w0 st vV hV W) {hV':Value} {i:Nat} (ho:W'.ownsRow q 3 1 hV' (st.held.length+1) (intsN st.held++[.int .i64 (i:Int)])) (hg:W.grownBy W' hV.ownBlock) (hv':hV'.ownBlock=hV.ownBlock∨hV'.ownBlock=some W.heap.size) :
  AD q q3 w0 { st with held:=st.held++[i] } vV hV' (W'.setCell ⟨q3,2,none⟩ hV'):=by
 have hb:Blk W' q3 #[.int .i64 st.p,vV,hV] 59:=h.blk.grown hg (own_ne_blk h.held h.blk (by decide))
 refine⟨by simpa using hb.set 2 hV',own_setCell (h.vis.kept hg h.dis') hb (by decide) _,own_setCell (by rw[List.length_append,intsN_snoc];exact ho) hb (by decide) _,?_,(h.x.then_grown hg (fun k hk=>by have:=(h.held.lt k hk).1;have:=h.hq;omega)).setCell h.hq3 _,h.hq,h.hq3⟩
 rcases hv' with hv'|hv'
 ·rw[hv'];exact h.dis
 ·refine .inr fun e=>?_
  rw[hv'] at e
  have:=(h.vis.lt _ e.symm).2
  omega
theorem AD.grow_vis (h:AD q q3 w0 st vV hV W) {vV':Value} {i:Nat} (ho:W'.ownsRow q 3 1 vV' (st.vis.length+1) (intsN st.vis++[.int .i64 (i:Int)])) (hg:W.grownBy W' vV.ownBlock) (hv':vV'.ownBlock=vV.ownBlock∨vV'.ownBlock=some W.heap.size) :
  AD q q3 w0 { st with vis:=st.vis++[i] } vV' hV (W'.setCell ⟨q3,1,none⟩ vV'):=by
 have hb:Blk W' q3 #[.int .i64 st.p,vV,hV] 59:=h.blk.grown hg (own_ne_blk h.vis h.blk (by decide))
 refine⟨by simpa using hb.set 1 vV',own_setCell (by rw[List.length_append,intsN_snoc];exact ho) hb (by decide) _,own_setCell (h.held.kept hg h.dis) hb (by decide) _,?_,(h.x.then_grown hg (fun k hk=>by have:=(h.vis.lt k hk).1;have:=h.hq;omega)).setCell h.hq3 _,h.hq,h.hq3⟩
 rcases hv' with hv'|hv'
 ·rw[hv'];exact h.dis
 ·cases hh:hV.ownBlock with
  | none=>exact .inl rfl
  | some k=>
   refine .inr fun e=>?_
   rw[hv'] at e
   have:=(h.held.lt k hh).2
   injection e with e
   omega
end
theorem resAdm12 {w:World} {tmps:Array Value} {a:Nat} {x y z:Value} (ha:tmps[2]?.getD undef=.pointer (some ⟨a,0,none⟩)) (hb:Blk w a #[x,y,z] 59):(results Tryz.f40 tmps).run Tryz.prog w=.ok (.agg #[x,y,z]) w:=by
 have h0:=hb.cell 0
 have h1:=hb.cell 1
 have h2:=hb.cell 2
 simp only[List.getElem?_toArray,List.getElem?_cons_zero,List.getElem?_cons_succ] at h0 h1 h2
 simp[results,Tryz.f40,go_sem,ha,h0,h1,h2]
theorem txts_small {l:List Et} (hz:∀e∈l,EtOk e) (a:List Int):∀s∈txtP l a,s.size≤140737488351232:=by
 intro s hs
 unfold txtP at hs
 obtain⟨i,_,hi⟩:=List.mem_flatMap.1 hs
 split at hi
 ·split at hi
  ·next e he=>rw[List.mem_singleton] at hi;rw[hi];exact (hz e (List.mem_of_getElem? he)).s1
  ·cases hi
 ·cases hi
set_option maxHeartbeats 6000000 in
theorem rAdmit_any (A:Option Addr) (n c:Nat) (l:List Et) (w:World) (hr:Rd w A (entsZ l)) (hn:l.length=n) (hl:n≤100000) (hz:∀e∈l,EtOk e) :
  Calls Tryz.prog 40 #[.slice A n c] w fun en w'=>admV l en w'∧Ext w w':=by
 obtain⟨PO,hPO⟩:∃PO:Ending→World→Prop,Hid ((fun en w'=>admV l en w'∧Ext w w')=PO):=⟨_,Lib.hid rfl⟩
 rw[hPO.out]
 obtain⟨w1,hw1⟩:∃z,Hid (w.alloc (.cells #[.int .i64 0,.slice none 0 0,.slice none 0 0] 59)=z):=⟨_,rfl⟩
 have hx1:Ext w w1:=by rw[←hw1.out];exact (Ext.refl w).alloc _
 obtain⟨q0,hq0⟩:∃z,Hid (w.heap.size=z):=⟨_,rfl⟩
 obtain⟨q,hq⟩:∃z,Hid (w1.heap.size=z):=⟨_,rfl⟩
 have b1:Blk w1 q0 #[.int .i64 0,.slice none 0 0,.slice none 0 0] 59:=by rw[←hq0.out,←hw1.out];exact Blk.new w _ _
 obtain⟨w2,hw2⟩:∃z,Hid (w1.alloc (.cells #[.int .i64 1,.slice none 0 0,.slice none 0 0] 59)=z):=⟨_,rfl⟩
 have hx2:Ext w1 w2:=by rw[←hw2.out];exact (Ext.refl w1).alloc _
 have b2:Blk w2 q #[.int .i64 1,.slice none 0 0,.slice none 0 0] 59:=by rw[←hq.out,←hw2.out];exact Blk.new w1 _ _
 have hS0:AD q q w1 (admA l 0) (.slice none 0 0) (.slice none 0 0) w2:=
  ⟨b2,World.ownsRow_nil w2 q _ 1,World.ownsRow_nil w2 q _ 1,.inl rfl,hx2,hq.out,by rw[hq.out];exact Nat.le_refl _⟩
 have fin:∀vV hV W,AD q q w1 (admA l n) vV hV W→∀cs u1 u2 u3,Blk W q0 cs 59→PO (.returned (.agg #[.int .i64 (admA l n).p,vV,hV])) (((W.setCell ⟨q0,0,none⟩ u1).setCell ⟨q0,1,none⟩ u2).setCell ⟨q0,2,none⟩ u3):=fun vV hV W h cs u1 u2 u3 hb=>by
  rw[←hPO.out]
  have hb1:=hb.set 0 u1
  have hb2:=hb1.set 1 u2
  have hv:=own_setCell (own_setCell (own_setCell h.vis hb (i:=0) (by decide) u1) hb1 (i:=1) (by decide) u2) hb2 (i:=2) (by decide) u3
  have hh:=own_setCell (own_setCell (own_setCell h.held hb (i:=0) (by decide) u1) hb1 (i:=1) (by decide) u2) hb2 (i:=2) (by decide) u3
  have hge:w.heap.size≤q0:=by rw[hq0.out];exact Nat.le_refl _
  refine⟨?_,(((hx1.trans h.x).setCell hge _).setCell hge _).setCell hge _⟩
  unfold admV admP
  rw[hn]
  exact⟨_,_,rfl,Sl.ofOwn hv,Sl.ofOwn hh⟩
 replace fin:=Lib.hid fin
 have Hn:=Lib.hid hn
 have hseen:∀i,i≤n→SeenOk l (admA l i):=fun i hi=>seen_ok l i (by omega)
 have htx:∀(st:Adm) B m d W,(∀W,Ext w W→True)→Ext w W→st.vis.length=m→m≤1048576→Rd W B (intsN st.vis)→Calls Tryz.prog 36 #[.slice A n c,.slice B m d] W fun en w'=>(∃A' c',en=.returned (.slice A' (seenT l st).length c')∧Rd w' A' (txs (seenT l st)))∧Ext W w':=fun st B m d W _ hW hm hm1 hrd=>
  rTexts_any A n c l B m d (ints st.vis) W (hr.ext hW) hn (by rw[ints_cells];exact hrd) (by unfold ints;rw[List.length_map];exact hm) (by omega) hm1
 have htn:∀st:Adm,(seenT l st).length≤st.vis.length:=fun st=>by have:=txtP_len l (ints st.vis);unfold ints at this;rw[List.length_map] at this;exact this
 have hts:∀st:Adm,∀s∈seenT l st,s.size≤140737488351232:=fun st=>txts_small hz _
 clear hn
 replace hz:=Lib.hid hz
 have hlens:=adm_len l
 replace hlens:=Lib.hid hlens
 have hpols:=admA_pol l
 replace hpols:=Lib.hid hpols
 replace hseen:=Lib.hid hseen
 replace htx:=Lib.hid htx
 replace htn:=Lib.hid htn
 replace hts:=Lib.hid hts
 go_enter Tryz.func40,Tryz.ntmps40
 go_wp2_with fail
 rw[hw1.out,hw2.out,show w.heap.size+1=q by rw[←hq.out,←hw1.out,World.size_alloc],hq0.out]
 go_loopw [4,5,7,8,9,10,11,12,13,14,15,16,17,18,19,20,21,22,23,24,25,26,27,28,29,30,31,32,33,34,35,36,37,38,39,40,41,42,43,44,45,46,47,48,49,50,51,52,53,54,55,56,57,58,59,60,61,62,63,64,65] (fun v4 v5 v7 v8 v9 v10 v11 v12 v13 v14 v15 v16 v17 v18 v19 v20 v21 v22 v23 v24 v25 v26 v27 v28 v29 v30 v31 v32 v33 v34 v35 v36 v37 v38 v39 v40 v41 v42 v43 v44 v45 v46 v47 v48 v49 v50 v51 v52 v53 v54 v55 v56 v57 v58 v59 v60 v61 v62 v63 v64 v65 wr=>∃(i:Nat) (vV hV:Value),i≤n∧v4=.int .i64 (i:Int)∧AD q q w1 (admA l i) vV hV wr) (fun v4 _ _ _ _ _ _ _ _ _ _ _ _ _ _ _ _ _ _ _ _ _ _ _ _ _ _ _ _ _ _ _ _ _ _ _ _ _ _ _ _ _ _ _ _ _ _ _ _ _ _ _ _ _ _ _ _ _ _ _ _ _=>n-(intOf v4).toNat)
 case atStart=>exact⟨0,_,_,Nat.zero_le _,rfl,hS0⟩
 case round=>
  obtain⟨i,vV,hV,hi,rfl,hS⟩:=hrel
  clear hS0
  by_cases hin:i<n
  ·have hin':(i:Int)<(n:Int):=by omega
   obtain⟨e,hme⟩:∃m,l[i]?=some m:=⟨_,List.getElem?_eq_getElem (by have:=Hn.out;omega)⟩
   have hE:=hz.out e (List.mem_of_getElem? hme)
   have hx:=hx1.trans hS.x
   obtain⟨b,off,rfl,hzz,hc⟩:=(hr.ext hx).at_ (k:=i*4) (by rw[entsZ_len];have:=Hn.out;omega)
   clear hzz
   have d0:∀W,Ext wr W→W.cell? ⟨b,off+i*4,none⟩=some (.bool e.pol):=fun W hW=>hW.cell (by have:=hc (i*4+0) (.bool e.pol) (by rw[entsZ_at l i e hme 0 (by omega)];rfl);simpa using this)
   have d1:∀W,Ext wr W→W.cell? ⟨b,off+i*4+1,none⟩=some (.int .i64 e.p):=fun W hW=>hW.cell (by have:=hc (i*4+1) (.int .i64 e.p) (by rw[entsZ_at l i e hme 1 (by omega)];rfl);rw[Nat.add_assoc];exact this)
   have d2:∀W,Ext wr W→W.cell? ⟨b,off+i*4+2,none⟩=some (.string e.s):=fun W hW=>hW.cell (by have:=hc (i*4+2) (.string e.s) (by rw[entsZ_at l i e hme 2 (by omega)];rfl);rw[Nat.add_assoc];exact this)
   clear hc
   have hstep:=admA_at hme
   have hlen:=hlens.out i
   have hpol:=hpols.out i
   have hsn:=hseen.out i (by omega)
   obtain⟨st,hst⟩:∃z,Hid (admA l i=z):=⟨_,rfl⟩
   rw[hst.out] at hS hstep hlen hpol hsn
   clear hme
   replace hE:=Lib.hid hE
   replace hsn:=Lib.hid hsn
   replace hlen:=Lib.hid hlen
   replace hpol:=Lib.hid hpol
   replace hstep:=Lib.hid hstep
   have hsz:=hE.out.s1
   obtain⟨Av,cv,ev,y1,y2,y3,y4⟩:=Rd.of_own hS.vis
   have hrv0:Rd wr Av (intsN st.vis):=by first|exact y1|exact y2|exact y3|exact y4
   clear y1 y2 y3 y4
   obtain⟨m,hm⟩:∃z,Hid (st.vis.length=z):=⟨_,rfl⟩
   rw[hm.out] at ev
   subst ev
   have hmi:m≤i:=by have:=hlen.out.1;have:=hm.out;omega
   have htx1:=htx.out st Av m cv wr (fun _ _=>trivial) hx hm.out (by omega) hrv0
   obtain⟨tl,htl⟩:∃z,Hid ((seenT l st).length=z):=⟨_,rfl⟩
   have htl2:tl≤100000:=by have:=htn.out st;have:=htl.out;have:=hm.out;omega
   rw[htl.out] at htx1
   have kv:=hS.blk.cell 1
   simp only[List.getElem?_toArray,List.getElem?_cons_zero,List.getElem?_cons_succ] at kv
   have hS0:=hS
   replace hS:=Lib.hid hS0
   clear hS0 hrv0
   have d0w:=d0 wr (Ext.refl _)
   obtain⟨pol,p,s,id⟩:=e
   simp only at hsz d0 d1 d2
   clear d0w
   replace d0:=Lib.hid d0
   replace d1:=Lib.hid d1
   replace d2:=Lib.hid d2
   go_wp2_with fail
   refine htx1.mono ?_
   rintro en w5 ⟨⟨A5,c5,rfl,hr5⟩,hx5⟩
   clear htx1 kv
   have h0:=d0.out w5 hx5
   cases pol with
   | true=>
    have hh:=holds12_any p A5 tl c5 (seenT l st) w5 hr5 htl.out htl2 (hts.out st)
    have h1:=d1.out w5 hx5
    cases hv:HoldsT p (seenT l st) with
    | true=>
     rw[hv] at hh
     have hst2:Hid ({ st with p:=p }=admA l (i+1)):=Lib.hid ((step_a (i:=i) (e:=⟨true,p,s,id⟩) hsn.out rfl hv).trans hstep.out.symm)
     clear hv
     go_wp2_with fail
     refine hh.mono ?_
     rintro en w6 ⟨rfl,hx6⟩
     clear hh h0 h1
     have hS6:=hS.out.ext (hx5.trans hx6)
     have hnx:=hS6.pol p
     rw[hst2.out] at hnx
     have k6:=hS6.blk.cell 0
     have f6:=hS6.blk.frozen 0
     simp only[List.getElem?_toArray,List.getElem?_cons_zero] at k6
     have h1:=d1.out w6 (hx5.trans hx6)
     replace hnx:=Lib.hid hnx
     clear hS6
     go_wp2_with fail
     go_roundw
     case rel=>exact⟨i+1,_,_,by omega,by go_num,hnx.out⟩
     case measure=>simp[intOf]<;>omega
    | false=>
     rw[hv] at hh
     have hst2:Hid ({ st with held:=st.held++[i] }=admA l (i+1)):=Lib.hid ((step_b (i:=i) (e:=⟨true,p,s,id⟩) hsn.out rfl hv).trans hstep.out.symm)
     clear hv
     go_wp2_with fail
     refine hh.mono ?_
     rintro en w6 ⟨rfl,hx6⟩
     clear hh h0 h1
     have hx56:=hx5.trans hx6
     clear hx6
     have e0:=fun W (hW:Ext w6 W)=>d0.out W (hx56.trans hW)
     go_wp2_with fail
     refine Reg.startE (by kernel_rfl) ?_
     iterate 17 ((first|refine Reg.tn ?_|refine Reg.sn ?_);(try simp only[Reg.nn]))
     refine Reg.fin (by kernel_rfl) (fun W hW=>?_)
     have hxx:=hx56.trans hW
     clear e0 hx56
     obtain⟨w7,hw7⟩:∃z,z=W:=⟨_,rfl⟩
     rw[←hw7] at hxx ⊢
     clear hW hw7
     have hxL:Ext w7 (w7.alloc (.cells #[.int .i64 (i:Int)] 3)):=(Ext.refl _).alloc _
     have hS2:=hS.out.ext hxx
     have hSL:=hS2.ext hxL
     have k2:=hS2.blk.cell 2
     simp only[List.getElem?_toArray,List.getElem?_cons_zero,List.getElem?_cons_succ] at k2
     have hrv:Rd (w7.alloc (.cells #[.int .i64 (i:Int)] 3)) (some ⟨w7.heap.size,0,none⟩) (intsN [i]):=by have:=Rd.of_block w7 3 (0,0) (cs := #[.int .i64 (i:Int)]) rfl;simpa [intsN] using this
     have hqL:q≤(w7.alloc (.cells #[.int .i64 (i:Int)] 3)).heap.size:=by rw[←hSL.hq];exact hSL.x.size
     have hoh:=hSL.held
     obtain⟨M,hM⟩:∃z,Hid (st.held.length=z):=⟨_,rfl⟩
     obtain⟨XS,hXS⟩:∃z,Hid (intsN st.held=z):=⟨_,rfl⟩
     have hlm:=hlen.out.2
     rw[hM.out] at hlm hoh
     rw[hXS.out] at hoh
     clear hxL hS2
     replace hSL:=Lib.hid hSL
     go_wp2_with (
      refine wpList_app el_in _ rfl (.tmp 61) (.tmp 63) rfl q hV M XS rfl hoh (some ⟨w7.heap.size,0,none⟩) 1 1 (intsN [i]) rfl hrv rfl (fun h=>by cases h) (intsN_one _) (by omega) (by omega) hqL (fun nV' W' ho' hg' hv'=>?_)
      have hb':=hSL.out.blk.grown hg' (own_ne_blk hSL.out.held hSL.out.blk (by decide))
      have k2':=hb'.cell 2
      have f2':=hb'.frozen 2
      simp only[List.getElem?_toArray,List.getElem?_cons_zero,List.getElem?_cons_succ] at k2'
      have hnx:=hSL.out.grow_held (i:=i) (by rw[hM.out,hXS.out];exact ho') hg' hv'
      rw[hst2.out] at hnx
      replace hnx:=Lib.hid hnx
      obtain⟨A9,c9,e9,jj⟩:=Rd.of_own ho'
      clear jj hg' hv' hb' hrv hqL hoh ho'
      subst e9)
     go_roundw
     case rel=>exact⟨i+1,_,_,by omega,by go_num,hnx.out⟩
     case measure=>simp[intOf]<;>omega
   | false=>
    have hh:=fun W (hW:Ext w5 W)=>next12_any st.p A5 tl c5 (seenT l st) s W (hr5.ext hW) htl.out htl2 (hts.out st) hsz
    have e0:=fun W (hW:Ext w5 W)=>d0.out W (hx5.trans hW)
    have e2:=fun W (hW:Ext w5 W)=>d2.out W (hx5.trans hW)
    have kp:∀W,Ext w5 W→W.cell? ⟨q,0,none⟩=some (.int .i64 st.p):=fun W hW=>by have:=(hS.out.ext (hx5.trans hW)).blk.cell 0;simpa using this
    replace hh:=Lib.hid hh
    cases hv:NextT st.p (seenT l st) s with
    | true=>
     simp only[hv] at hh
     have hst2:Hid ({ st with seen:=st.seen++[schP s],vis:=st.vis++[i] }=admA l (i+1)):=Lib.hid (by
      have h2:=hv
      rw[nextT_seen hsn.out,Bool.and_eq_true,Bool.and_eq_true] at h2
      exact (admS_vis (i:=i) (e:=⟨false,p,s,id⟩) rfl h2.1 h2.2.2).trans hstep.out.symm)
     have hcast:∀V H W,AD q q w1 { st with vis:=st.vis++[i] } V H W→AD q q w1 (admA l (i+1)) V H W:=fun V H W h=>by rw[←hst2.out];exact⟨h.blk,h.vis,h.held,h.dis,h.x,h.hq,h.hq3⟩
     replace hcast:=Lib.hid hcast
     clear hv
     go_wp2_with fail
     refine Reg.startE (by kernel_rfl) ?_
     iterate 15 ((first|refine Reg.tn ?_|refine Reg.sn ?_);(try simp only[Reg.nn]))
     refine Reg.onlyE 15 _ rfl (by kernel_rfl) (by decide) (by rfl) (fun W hW K hK=>?_);go_simp
     refine (hh.out W hW).mono ?_
     rintro e wX ⟨rfl,hX⟩
     have hq1:=hW.trans hX
     refine hK.out _ _ (hX) ?_;clear hK K;(try simp only[Reg.nn])
     iterate 1 ((first|refine Reg.tn ?_|refine Reg.sn ?_);(try simp only[Reg.nn]))
     refine Reg.fin (by kernel_rfl) (fun W hW=>?_)
     have hxx:=hx5.trans (hq1.trans hW)
     clear e0 e2 kp hh h0 hq1
     obtain⟨w7,hw7⟩:∃z,z=W:=⟨_,rfl⟩
     rw[←hw7] at hxx ⊢
     clear hW hw7
     have hxL:Ext w7 (w7.alloc (.cells #[.int .i64 (i:Int)] 3)):=(Ext.refl _).alloc _
     have hS2:=hS.out.ext hxx
     have hSL:=hS2.ext hxL
     have k2:=hS2.blk.cell 1
     simp only[List.getElem?_toArray,List.getElem?_cons_zero,List.getElem?_cons_succ] at k2
     have hrv:Rd (w7.alloc (.cells #[.int .i64 (i:Int)] 3)) (some ⟨w7.heap.size,0,none⟩) (intsN [i]):=by have:=Rd.of_block w7 3 (0,0) (cs := #[.int .i64 (i:Int)]) rfl;simpa [intsN] using this
     have hqL:q≤(w7.alloc (.cells #[.int .i64 (i:Int)] 3)).heap.size:=by rw[←hSL.hq];exact hSL.x.size
     have hoh:=hSL.vis
     obtain⟨M,hM⟩:∃z,Hid (st.vis.length=z):=⟨_,rfl⟩
     obtain⟨XS,hXS⟩:∃z,Hid (intsN st.vis=z):=⟨_,rfl⟩
     have hlm:=hlen.out.1
     rw[hM.out] at hlm hoh
     rw[hXS.out] at hoh
     clear hxL hS2
     replace hSL:=Lib.hid hSL
     go_wp2_with (
      refine wpList_app el_in _ rfl (.tmp 55) (.tmp 57) rfl q (.slice Av m cv) M XS rfl hoh (some ⟨w7.heap.size,0,none⟩) 1 1 (intsN [i]) rfl hrv rfl (fun h=>by cases h) (intsN_one _) (by omega) (by omega) hqL (fun nV' W' ho' hg' hv'=>?_)
      have hb':=hSL.out.blk.grown hg' (own_ne_blk hSL.out.vis hSL.out.blk (by decide))
      have k2':=hb'.cell 1
      have f2':=hb'.frozen 1
      simp only[List.getElem?_toArray,List.getElem?_cons_zero,List.getElem?_cons_succ] at k2'
      have hnx:=hSL.out.grow_vis (i:=i) (by rw[hM.out,hXS.out];exact ho') hg' hv'
      replace hnx:=hcast.out _ _ _ hnx
      replace hnx:=Lib.hid hnx
      obtain⟨A9,c9,e9,jj⟩:=Rd.of_own ho'
      clear jj hg' hv' hb' hrv hqL hoh ho'
      subst e9)
     go_roundw
     case rel=>exact⟨i+1,_,_,by omega,by go_num,hnx.out⟩
     case measure=>simp[intOf]<;>omega
    | false=>
     simp only[hv] at hh
     have hst2:Hid ({ st with held:=st.held++[i] }=admA l (i+1)):=Lib.hid ((step_d (i:=i) (e:=⟨false,p,s,id⟩) hsn.out hpol.out rfl hv).trans hstep.out.symm)
     clear hv
     go_wp2_with fail
     refine Reg.startE (by kernel_rfl) ?_
     iterate 15 ((first|refine Reg.tn ?_|refine Reg.sn ?_);(try simp only[Reg.nn]))
     refine Reg.onlyE 15 _ rfl (by kernel_rfl) (by decide) (by rfl) (fun W hW K hK=>?_);go_simp
     refine (hh.out W hW).mono ?_
     rintro e wX ⟨rfl,hX⟩
     have hq1:=hW.trans hX
     refine hK.out _ _ (hX) ?_;clear hK K;(try simp only[Reg.nn])
     iterate 1 ((first|refine Reg.tn ?_|refine Reg.sn ?_);(try simp only[Reg.nn]))
     refine Reg.fin (by kernel_rfl) (fun W hW=>?_)
     have hxx:=hx5.trans (hq1.trans hW)
     clear e0 e2 kp hh h0 hq1
     obtain⟨w7,hw7⟩:∃z,z=W:=⟨_,rfl⟩
     rw[←hw7] at hxx ⊢
     clear hW hw7
     have hxL:Ext w7 (w7.alloc (.cells #[.int .i64 (i:Int)] 3)):=(Ext.refl _).alloc _
     have hS2:=hS.out.ext hxx
     have hSL:=hS2.ext hxL
     have k2:=hS2.blk.cell 2
     simp only[List.getElem?_toArray,List.getElem?_cons_zero,List.getElem?_cons_succ] at k2
     have hrv:Rd (w7.alloc (.cells #[.int .i64 (i:Int)] 3)) (some ⟨w7.heap.size,0,none⟩) (intsN [i]):=by have:=Rd.of_block w7 3 (0,0) (cs := #[.int .i64 (i:Int)]) rfl;simpa [intsN] using this
     have hqL:q≤(w7.alloc (.cells #[.int .i64 (i:Int)] 3)).heap.size:=by rw[←hSL.hq];exact hSL.x.size
     have hoh:=hSL.held
     obtain⟨M,hM⟩:∃z,Hid (st.held.length=z):=⟨_,rfl⟩
     obtain⟨XS,hXS⟩:∃z,Hid (intsN st.held=z):=⟨_,rfl⟩
     have hlm:=hlen.out.2
     rw[hM.out] at hlm hoh
     rw[hXS.out] at hoh
     clear hxL hS2
     replace hSL:=Lib.hid hSL
     go_wp2_with (
      refine wpList_app el_in _ rfl (.tmp 61) (.tmp 63) rfl q hV M XS rfl hoh (some ⟨w7.heap.size,0,none⟩) 1 1 (intsN [i]) rfl hrv rfl (fun h=>by cases h) (intsN_one _) (by omega) (by omega) hqL (fun nV' W' ho' hg' hv'=>?_)
      have hb':=hSL.out.blk.grown hg' (own_ne_blk hSL.out.held hSL.out.blk (by decide))
      have k2':=hb'.cell 2
      have f2':=hb'.frozen 2
      simp only[List.getElem?_toArray,List.getElem?_cons_zero,List.getElem?_cons_succ] at k2'
      have hnx:=hSL.out.grow_held (i:=i) (by rw[hM.out,hXS.out];exact ho') hg' hv'
      rw[hst2.out] at hnx
      replace hnx:=Lib.hid hnx
      obtain⟨A9,c9,e9,jj⟩:=Rd.of_own ho'
      clear jj hg' hv' hb' hrv hqL hoh ho'
      subst e9)
     go_roundw
     case rel=>exact⟨i+1,_,_,by omega,by go_num,hnx.out⟩
     case measure=>simp[intOf]<;>omega
  ·obtain rfl:i=n:=by omega
   obtain⟨A1,c1,rfl,jj⟩:=Rd.of_own hS.vis
   clear jj
   obtain⟨A2,c2,rfl,jj⟩:=Rd.of_own hS.held
   clear jj
   have hb0:=b1.ext hS.x
   have hf:=fin.out _ _ wr hS
   have hbq:=hS.blk
   obtain⟨P0,hP0⟩:∃z,Hid ((admA l i).p=z):=⟨_,rfl⟩
   obtain⟨N1,hN1⟩:∃z,Hid ((admA l i).vis.length=z):=⟨_,rfl⟩
   obtain⟨N2,hN2⟩:∃z,Hid ((admA l i).held.length=z):=⟨_,rfl⟩
   rw[hP0.out,hN1.out,hN2.out] at hbq hf
   have k0:=hbq.cell 0
   have k1:=hbq.cell 1
   have k2:=hbq.cell 2
   have m0:=hb0.cell 0
   have m1:=hb0.cell 1
   have m2:=hb0.cell 2
   have f0:=hb0.frozen 0
   have f1:=hb0.frozen 1
   have f2:=hb0.frozen 2
   simp only[List.getElem?_toArray,List.getElem?_cons_zero,List.getElem?_cons_succ] at k0 k1 k2 m0 m1 m2
   have hbF:=((hb0.set 0 (.int .i64 P0)).set 1 (.slice A1 N1 c1)).set 2 (.slice A2 N2 c2)
   replace hf:=hf _ (.int .i64 P0) (.slice A1 N1 c1) (.slice A2 N2 c2) hb0
   clear hbq hb0 hS
   go_wp2_with fail
   refine bodyPost_ret (resAdm12 rfl (by simpa using hbF)) rfl ?_
   exact hf
end Pd
namespace Pd
open Base Lx Mi Pr Rv Cn Rx Pl
structure Cut6 (A:Option Addr) (n c:Nat) (l:List ByteArray) (w:World):Prop where
 row:Rd w A (txs l)
 len:l.length=n
 n6:n≤6
 nc:n≤c
 cm:c≤maxLen
 nil:A=none→c=0
 z:∀s∈l,s.size≤140737488351232
theorem Cut6.ext {A:Option Addr} {n c:Nat} {l:List ByteArray} {w w':World} (h:Cut6 A n c l w) (hx:Ext w w'):Cut6 A n c l w':=⟨h.row.ext hx,h.len,h.n6,h.nc,h.cm,h.nil,h.z⟩
end Pd
namespace Pd
open Base Lx Mi Pr Rv Cn Rx Pl Ch
theorem entries_any (l:List Et) (n c:Nat) (A:Option Addr) (w:World) (hn:l.length=n) (hc:n≤c) :
  Calls Tryz.prog 37 #[.slice A n c] w fun e w'=>e=.returned (.slice A (l.take 8).length c)∧w'=w:=by
 have Hn:=Lib.hid hn
 clear hn
 obtain⟨m,hm⟩:∃m,Hid ((l.take 8).length=m):=⟨_,rfl⟩
 rw[hm.out]
 have hm2:m=min 8 n:=by rw[←hm.out,List.length_take,Hn.out]
 go_enter Tryz.func37,Tryz.ntmps37
 by_cases h:8<n
 ·have h':(8:Int)<n:=by omega
  have hc':(8:Int)≤c:=by omega
  have e:m=8:=by omega
  clear hm2 h
  subst e
  go_wp2_with fail
  go_ret
  exact⟨rfl,rfl⟩
 ·have h':¬(8:Int)<n:=by omega
  have e:m=n:=by omega
  clear hm2 h
  subst e
  go_wp2_with fail
  go_ret
  exact⟨rfl,rfl⟩
structure Cut8 (A:Option Addr) (n c:Nat) (l:List Et) (w:World):Prop where
 row:Rd w A (entsZ l)
 len:l.length=n
 n8:n≤8
 nc:n≤c
 cm:c≤maxLen
 nil:A=none→c=0
 ok:∀e∈l,EtOk e
theorem ents_take8 (l:List Et):∀n,(entsZ l).take (n*4)=entsZ (l.take n):=by
 induction l with
 | nil=>intro n;simp[entsZ]
 | cons x l ih=>
  intro n
  cases n with
  | zero=>simp[entsZ]
  | succ n=>
   have e:entsZ (x::l)=entC x++entsZ l:=rfl
   have e2:(entC x).length=4:=rfl
   rw[List.take_succ_cons,show entsZ (x::l.take n)=entC x++entsZ (l.take n) from rfl,e,show (n+1)*4=(entC x).length+n*4 by rw[e2];omega,List.take_length_add_append,ih]
theorem Cut8.take {A:Option Addr} {n c:Nat} {l:List Et} {w:World} (h:Cut8 A n c l w) (k:Nat):Rd w A (entsZ (l.take k)):=by
 have:=h.row.take (k*4);rwa [ents_take8] at this
theorem cut8 {A:Option Addr} {n0 c:Nat} {l0:List Et} {w:World} (hr0:Rd w A (entsZ l0)) (hn0:l0.length=n0) (hnc0:n0≤c) (hcm:c≤maxLen) (hA:A=none→c=0) (hz0:∀e∈l0,EtOk e):Cut8 A (l0.take 8).length c (l0.take 8) w:=
 ⟨by have:=hr0.take (8*4);rwa [ents_take8] at this,rfl,by rw[List.length_take];omega,by rw[List.length_take];omega,hcm,hA,fun s hs=>hz0 s (List.mem_of_mem_take hs)⟩
theorem intsN_Z (l:List Nat):intsN l=intsZ (ints l):=by rw[←ints_cells];rfl
set_option maxHeartbeats 2000000 in
theorem same12_any (p:Int) (l m:List Nat) (V1 V2 U1 U2:Value) (w:World) (h1:Sl w.heap.size w V1 l.length (intsN l)) (h2:Sl w.heap.size w V2 m.length (intsN m)) (g1:Sl w.heap.size w U1 l.length (intsN l)) (g2:Sl w.heap.size w U2 m.length (intsN m)) :
  Calls Tryz.prog 38 #[.agg #[.int .i64 p,V1,V2],.agg #[.int .i64 p,U1,U2]] w fun e w'=>e=.returned (.bool true)∧Ext w w':=by
 obtain⟨w1,hw1⟩:∃z,Hid ((w.alloc (.cells #[.int .i64 p,V1,V2] 59)).alloc (.cells #[.int .i64 p,U1,U2] 59)=z):=⟨_,rfl⟩
 obtain⟨q,hq⟩:∃z,Hid (w.heap.size=z):=⟨_,rfl⟩
 have hx1:Ext w w1:=by rw[←hw1.out];exact ((Ext.refl w).alloc _).alloc _
 have hb1:Blk w1 q #[.int .i64 p,V1,V2] 59:=by rw[←hw1.out,←hq.out];exact (Blk.new w _ _).ext ((Ext.refl _).alloc _)
 have hb2:Blk w1 (q+1) #[.int .i64 p,U1,U2] 59:=by
  have hn:=Blk.new (w.alloc (.cells #[.int .i64 p,V1,V2] 59)) #[.int .i64 p,U1,U2] 59
  rw[World.size_alloc,hq.out,hw1.out] at hn
  exact hn
 have hi1:=fun W (hW:Ext w1 W)=>rints_any (l1:=ints l) (l2:=ints l) (by rw[←intsN_Z,ints,List.length_map];exact Sl.below h1 (hx1.trans hW)) (by rw[←intsN_Z,ints,List.length_map];exact Sl.below g1 (hx1.trans hW)) (hx1.trans hW).size
 have hi2:=fun W (hW:Ext w1 W)=>rints_any (l1:=ints m) (l2:=ints m) (by rw[←intsN_Z,ints,List.length_map];exact Sl.below h2 (hx1.trans hW)) (by rw[←intsN_Z,ints,List.length_map];exact Sl.below g2 (hx1.trans hW)) (hx1.trans hW).size
 simp only[decide_true] at hi1 hi2
 obtain⟨A1,c1,rfl,_⟩:=h1
 obtain⟨A2,c2,rfl,_⟩:=h2
 obtain⟨B1,d1,rfl,_⟩:=g1
 obtain⟨B2,d2,rfl,_⟩:=g2
 obtain⟨n,hn⟩:∃z,Hid (l.length=z):=⟨_,rfl⟩
 obtain⟨k,hk⟩:∃z,Hid (m.length=z):=⟨_,rfl⟩
 rw[hn.out,hk.out] at hw1 hb1 hb2 ⊢
 simp only[hn.out] at hi1
 simp only[hk.out] at hi2
 have ca:=fun W (hW:Ext w1 W)=>(hb1.ext hW).cell
 have c0:=hb1.cell 0
 have c1':=hb1.cell 1
 have c2':=hb1.cell 2
 have d0:=hb2.cell 0
 have d1':=hb2.cell 1
 have d2':=hb2.cell 2
 simp only[List.getElem?_toArray,List.getElem?_cons_zero,List.getElem?_cons_succ] at c0 c1' c2' d0 d1' d2'
 have hI1:=hi1 w1 (Ext.refl _)
 replace hi1:=Lib.hid hi1
 replace hi2:=Lib.hid hi2
 clear ca
 go_enter Tryz.func38,Tryz.ntmps38
 go_wp2_with fail
 rw[hw1.out]
 try rw[hq.out]
 refine hI1.mono ?_
 rintro e w2 ⟨rfl,hx2⟩
 clear hI1
 have hI2:=hi2.out w2 hx2
 have k2:=hx2.cell c2'
 have k2':=hx2.cell d2'
 clear c0 c1' c2' d0 d1' d2'
 go_wp2_with fail
 refine hI2.mono ?_
 rintro e w3 ⟨rfl,hx3⟩
 have hxx:=hx1.trans (hx2.trans hx3)
 clear hI2 k2 k2'
 go_wp2_with fail
 go_ret
 exact⟨rfl,hxx⟩
set_option maxHeartbeats 2000000 in
theorem admits_any (A:Option Addr) (n0 c:Nat) (l0:List Et) (w:World) (hr0:Rd w A (entsZ l0)) (hn0:l0.length=n0) (hnc0:n0≤c) (hcm:c≤maxLen) (hA:A=none→c=0) (hz0:∀e∈l0,EtOk e) (hwd:Wd w) (hpow:Pow w) (hN:Nms w) :
  Calls Tryz.prog 13 #[.slice A n0 c] w fun en w'=>en=.returned (.bool true)∧Ext w w':=by
 have hfew:=entries_any l0 n0 c A w hn0 hnc0
 have hC:=cut8 hr0 hn0 hnc0 hcm hA hz0
 generalize l0.take 8=l at hfew hC
 obtain⟨n,hn⟩:∃z,Hid (l.length=z):=⟨_,rfl⟩
 rw[hn.out] at hfew hC
 clear hr0 hn0 hnc0 hcm hA hz0
 have hH:=fun W A' c' (hW:Ext w W) (h':Rd W A' (entsZ l))=>Admit_any A' n c' l W h' hn.out (by have:=hC.n8;omega) hC.ok (hwd.ext hW) (hpow.ext hW)
 have hH2:=fun W (hW:Ext w W)=>rAdmit_any A n c l W (hC.row.ext hW) hn.out (by have:=hC.n8;omega) hC.ok
 have hli:=fun W (hW:Ext w W)=>lives12_any W (hwd.ext hW) (hpow.ext hW) (hN.ext hW)
 obtain⟨PO,hPO⟩:∃PO:Ending→World→Prop,Hid ((fun en w'=>en=.returned (.bool true)∧Ext w w')=PO):=⟨_,Lib.hid rfl⟩
 have fin:∀W,Ext w W→PO (.returned (.bool true)) W:=fun W hW=>by rw[←hPO.out];exact⟨rfl,hW⟩
 rw[hPO.out]
 have hlen:(entsZ l).length=n*4:=by rw[entsZ_len,hn.out]
 replace fin:=Lib.hid fin
 replace hH:=Lib.hid hH
 replace hH2:=Lib.hid hH2
 replace hli:=Lib.hid hli
 have hn8:=hC.n8
 replace hC:=Lib.hid hC
 replace hlen:=Lib.hid hlen
 go_enter Tryz.func13,Tryz.ntmps13
 go_wp2_with fail
 refine hfew.mono ?_
 rintro en w2 ⟨rfl,hw2⟩
 obtain rfl:w=w2:=hw2.symm
 clear hfew
 go_wp2_with
  (refine wpList_app0 el_ent _ rfl (.tmp 5) (.tmp 6) rfl 0 w.heap.size rfl (World.ownsRow_lit w #[] 0 (Nat.zero_le _) (Nat.zero_le _) rfl) A n c (entsZ l) rfl (hC.out.row.ext ((Ext.refl w).alloc _)) hlen.out hC.out.nil (by omega) (by omega) (Nat.zero_le _) (fun v1 w1 ho1 hx1=>?_))
 have hx01:=((Ext.refl w).alloc _).trans hx1
 obtain⟨A1,c1,rfl,_,_,r3,_⟩:=Rd.of_own ho1
 clear ho1
 have hc1:=hH.out w1 A1 c1 hx01 r3
 clear r3 hx1
 replace hx01:=Lib.hid hx01
 go_wp2_with fail
 refine hc1.mono ?_
 rintro en w3 ⟨⟨V1,V2,rfl,s1,s2⟩,hx3⟩
 have hx03:=hx01.out.trans hx3
 have hc3:=hH2.out w3 hx03
 clear hc1 hx01 hx3
 replace hx03:=Lib.hid hx03
 replace s1:=Lib.hid s1
 replace s2:=Lib.hid s2
 obtain⟨pp,hpp⟩:∃z,Hid ((admP l).p=z):=⟨_,rfl⟩
 rw[hpp.out]
 go_wp2_with fail
 refine hc3.mono ?_
 rintro en w4 ⟨⟨U1,U2,rfl,t1,t2⟩,hx4⟩
 have hc4:=same12_any (admP l).p (admP l).vis (admP l).held V1 V2 U1 U2 w4 ((Sl.below s1.out hx4).mono hx4.size) ((Sl.below s2.out hx4).mono hx4.size) t1 t2
 have hx04:=hx03.out.trans hx4
 rw[hpp.out] at hc4 ⊢
 clear hc3 hx03 hx4 t1 t2 s1 s2
 replace hx04:=Lib.hid hx04
 go_wp2_with fail
 refine hc4.mono ?_
 rintro en w5 ⟨rfl,hx5⟩
 have hx05:=hx04.out.trans hx5
 have hc5:=hli.out w5 hx05
 clear hc4 hx04 hx5
 replace hx05:=Lib.hid hx05
 go_wp2_with fail
 refine hc5.mono ?_
 rintro en w8 ⟨rfl,hx8⟩
 have hf:=fin.out w8 (hx05.out.trans hx8)
 clear hc5
 go_wp2_with fail
 exact hf
theorem holdsP_snoc (p:Int) (xs:List Ns) (x:Ns):holdsP p (xs++[x])=(holdsP p xs && nextP p xs x):=by
 unfold holdsP
 rw[List.length_append,show [x].length=1 from rfl]
 show (holdsA p (xs++[x]) xs.length && nextP p ((xs++[x]).take xs.length) ((xs++[x]).getD xs.length []))=_
 have h1:(xs++[x]).take xs.length=xs:=by simp
 have h2:(xs++[x]).getD xs.length []=x:=by simp[List.getD]
 rw[h1,h2,←holdsA_take p (xs++[x]) xs.length xs.length (Nat.le_refl _),h1]
theorem adm_sound (l:List Et):∀n,holdsP (admA l n).p (admA l n).seen=true
 | 0=>rfl
 | n+1=>by
  have ih:=adm_sound l n
  show holdsP (admS (admA l n) n (l.getD n e0)).p (admS (admA l n) n (l.getD n e0)).seen=true
  generalize admA l n=st at ih
  generalize l.getD n e0=e
  unfold admS
  split
  ·split
   ·next h=>exact h.2
   ·exact ih
  ·split
   ·next h=>
    show holdsP st.p (st.seen++[schP e.s])=true
    rw[holdsP_snoc,ih,h.2];rfl
   ·exact ih
theorem adm_sum (l:List Et):∀n,(admA l n).vis.length+(admA l n).held.length≤n
 | 0=>Nat.le_refl _
 | n+1=>by
  have ih:=adm_sum l n
  show (admS (admA l n) n (l.getD n e0)).vis.length+(admS (admA l n) n (l.getD n e0)).held.length≤n+1
  generalize admA l n=st at ih
  generalize l.getD n e0=e
  unfold admS
  split
  ·split
   ·show st.vis.length+st.held.length≤n+1;omega
   ·show st.vis.length+(st.held++[n]).length≤n+1;simp;omega
  ·split
   ·show (st.vis++[n]).length+st.held.length≤n+1;simp;omega
   ·show st.vis.length+(st.held++[n]).length≤n+1;simp;omega
theorem sound_at (l:List Et) (n:Nat) (h:n≤l.length):HoldsT (admP (l.take n)).p (txtP l (ints (admP (l.take n)).vis))=true:=by
 have e:admP (l.take n)=admA l n:=by
  unfold admP
  rw[List.length_take,Nat.min_eq_left h]
  exact admA_take l n n (Nat.le_refl _)
 rw[e]
 have h1:=holdsT_seen (seen_ok l n h) (admA l n).p
 unfold seenT at h1
 rw[h1,admA_pol l n,adm_sound l n];rfl
theorem sum_at (l:List Et) (n:Nat) (h:n≤l.length):(admP (l.take n)).vis.length+(admP (l.take n)).held.length≤n:=by
 have e:admP (l.take n)=admA l n:=by
  unfold admP
  rw[List.length_take,Nat.min_eq_left h]
  exact admA_take l n n (Nat.le_refl _)
 rw[e];exact adm_sum l n
set_option maxHeartbeats 3000000 in
theorem sound_any (A:Option Addr) (n0 c:Nat) (l0:List Et) (w:World) (hr0:Rd w A (entsZ l0)) (hn0:l0.length=n0) (hnc0:n0≤c) (hcm:c≤maxLen) (hA:A=none→c=0) (hz0:∀e∈l0,EtOk e) (hwd:Wd w) (hpow:Pow w) (hN:Nms w) :
  Calls Tryz.prog 14 #[.slice A n0 c] w fun en w'=>en=.returned (.bool true)∧Ext w w':=by
 have hfew:=entries_any l0 n0 c A w hn0 hnc0
 have hC:=cut8 hr0 hn0 hnc0 hcm hA hz0
 generalize l0.take 8=l at hfew hC
 obtain⟨n,hn⟩:∃z,Hid (l.length=z):=⟨_,rfl⟩
 rw[hn.out] at hfew hC
 clear hr0 hn0 hnc0 hcm hA hz0
 have hH:=fun i W A' c' (hi:i≤n) (hW:Ext w W) (h':Rd W A' (entsZ (l.take i)))=>Admit_any A' i c' (l.take i) W h' (by rw[List.length_take,hn.out];omega) (by have:=hC.n8;omega) (fun e he=>hC.ok e (List.mem_of_mem_take he)) (hwd.ext hW) (hpow.ext hW)
 have htx:=fun (a:List Nat) B m d W (hW:Ext w W) (hm:a.length=m) (hm1:m≤1048576) (hrd:Rd W B (intsN a))=>rTexts_any A n c l B m d (ints a) W (hC.row.ext hW) hn.out (by rw[ints_cells];exact hrd) (by unfold ints;rw[List.length_map];exact hm) (by have:=hC.n8;omega) hm1
 have hho:=fun p (ts:List ByteArray) A' c' W (hl:ts.length≤100000) (hz:∀s∈ts,s.size≤140737488351232) (h':Rd W A' (txs ts))=>holds12_any p A' ts.length c' ts W h' rfl hl hz
 have hts:=fun a=>txts_small hC.ok a
 have htl:∀a:List Nat,(txtP l (ints a)).length≤a.length:=fun a=>by have:=txtP_len l (ints a);unfold ints at this;rw[List.length_map] at this;exact this
 have hli:=fun W (hW:Ext w W)=>lives12_any W (hwd.ext hW) (hpow.ext hW) (hN.ext hW)
 have hcut:∀i:Nat,i≤n→∀W,(Instr.sliceAt 52 (.slice A n c) none (some (.int .i64 (i:Int))) none).run Tryz.prog W=.ok (.slice A i c) W:=fun i hi W=>
  run_cutZ (P:=Tryz.prog) (t:=52) (e:=93) (s:=4) Tryz.underlying52 (by kernel_rfl) W A n c i (by have:=hC.nc;omega)
 have hsd:=fun i (hi:i≤n)=>sound_at l i (by rw[hn.out];exact hi)
 have hsm:=fun i (hi:i≤n)=>sum_at l i (by rw[hn.out];exact hi)
 obtain⟨PO,hPO⟩:∃PO:Ending→World→Prop,Hid ((fun en w'=>en=.returned (.bool true)∧Ext w w')=PO):=⟨_,Lib.hid rfl⟩
 have fin:∀W,Ext w W→PO (.returned (.bool true)) W:=fun W hW=>by rw[←hPO.out];exact⟨rfl,hW⟩
 rw[hPO.out]
 have hlen:∀i,i≤n→(entsZ (l.take i)).length=i*4:=fun i hi=>by rw[entsZ_len,List.length_take,hn.out];omega
 have hrow:∀i W,Ext w W→Rd W A (entsZ (l.take i)):=fun i W hW=>(hC.take i).ext hW
 replace fin:=Lib.hid fin
 replace hH:=Lib.hid hH
 replace htx:=Lib.hid htx
 replace hho:=Lib.hid hho
 replace hts:=Lib.hid hts
 replace htl:=Lib.hid htl
 replace hli:=Lib.hid hli
 replace hcut:=Lib.hid hcut
 replace hsd:=Lib.hid hsd
 replace hsm:=Lib.hid hsm
 replace hrow:=Lib.hid hrow
 have hn8:=hC.n8
 replace hC:=Lib.hid hC
 replace hlen:=Lib.hid hlen
 go_enter Tryz.func14,Tryz.ntmps14
 go_wp2_with fail
 refine hfew.mono ?_
 rintro en w2 ⟨rfl,hw2⟩
 obtain rfl:w=w2:=hw2.symm
 clear hfew
 go_wp2_with fail
 go_loopw [3,4,7,8,9,10,11,12,13,14,15,16,17,18,19,20,21,22,23,24,25,26,27,28,29,30,31,32,33,34,35,36,37] (fun v3 v4 v7 v8 v9 v10 v11 v12 v13 v14 v15 v16 v17 v18 v19 v20 v21 v22 v23 v24 v25 v26 v27 v28 v29 v30 v31 v32 v33 v34 v35 v36 v37 wr=>∃i:Nat,i≤n+1∧v3=.int .i64 (i:Int)∧Ext w wr) (fun v3 _ _ _ _ _ _ _ _ _ _ _ _ _ _ _ _ _ _ _ _ _ _ _ _ _ _ _ _ _ _ _ _ _=>n+1-(intOf v3).toNat)
 case atStart=>exact⟨0,Nat.zero_le _,rfl,Ext.refl w⟩
 case round=>
  obtain⟨i,hi,rfl,hx⟩:=hrel
  by_cases hin:i≤n
  ·have hin':(i:Int)≤(n:Int):=by omega
   have hct:=hcut.out i hin
   replace hx:=Lib.hid hx
   go_wp2_with
    (refine wpList_app0 el_ent _ rfl (.tmp 13) (.tmp 16) rfl 0 wr.heap.size rfl (World.ownsRow_lit wr #[] 0 (Nat.zero_le _) (Nat.zero_le _) rfl) A i c (entsZ (l.take i)) rfl (hrow.out i _ (hx.out.trans ((Ext.refl wr).alloc _))) (hlen.out i hin) hC.out.nil (by omega) (by omega) (Nat.zero_le _) (fun v1 w1 ho1 hx1=>?_))
   have hx01:=hx.out.trans (((Ext.refl wr).alloc _).trans hx1)
   obtain⟨A1,c1,rfl,_,_,r3,_⟩:=Rd.of_own ho1
   clear ho1
   have hc1:=hH.out i w1 A1 c1 hin hx01 r3
   clear r3 hx1 hct
   replace hx01:=Lib.hid hx01
   go_wp2_with fail
   refine hc1.mono ?_
   rintro en w3 ⟨⟨V1,V2,rfl,s1,s2⟩,hx3⟩
   have hx03:=hx01.out.trans hx3
   clear hc1 hx01 hx3
   have sd:=hsd.out i hin
   have sm:=hsm.out i hin
   obtain⟨st,hst⟩:∃z,Hid (admP (l.take i)=z):=⟨_,rfl⟩
   rw[hst.out] at s1 s2 sd sm
   obtain⟨B1,d1,rfl,r1,_⟩:=s1
   obtain⟨B2,d2,rfl,_⟩:=s2
   obtain⟨nv,hnv⟩:∃z,Hid (st.vis.length=z):=⟨_,rfl⟩
   obtain⟨nh,hnh⟩:∃z,Hid (st.held.length=z):=⟨_,rfl⟩
   obtain⟨pp,hpp⟩:∃z,Hid (st.p=z):=⟨_,rfl⟩
   rw[hnv.out,hnh.out] at sm
   rw[hpp.out] at sd
   rw[hst.out,hnv.out,hnh.out,hpp.out]
   obtain⟨w4,hw4⟩:∃z,Hid (w3.alloc (.cells #[.int .i64 pp,.slice B1 nv d1,.slice B2 nh d2] 59)=z):=⟨_,rfl⟩
   obtain⟨q4,hq4⟩:∃z,Hid (w3.heap.size=z):=⟨_,rfl⟩
   have hx4:Ext w3 w4:=by rw[←hw4.out];exact (Ext.refl w3).alloc _
   have b4:Blk w4 q4 #[.int .i64 pp,.slice B1 nv d1,.slice B2 nh d2] 59:=by rw[←hw4.out,←hq4.out];exact Blk.new w3 _ _
   have e0:∀W,Ext w4 W→W.cell? ⟨q4,0,none⟩=some (.int .i64 pp):=fun W hW=>by have:=(b4.ext hW).cell 0;simpa using this
   have e1:∀W,Ext w4 W→W.cell? ⟨q4,1,none⟩=some (.slice B1 nv d1):=fun W hW=>by have:=(b4.ext hW).cell 1;simpa using this
   have e2:∀W,Ext w4 W→W.cell? ⟨q4,2,none⟩=some (.slice B2 nh d2):=fun W hW=>by have:=(b4.ext hW).cell 2;simpa using this
   have hx04:=hx03.trans hx4
   have hc2:=fun W (hW:Ext w4 W)=>htx.out st.vis B1 nv d1 W (hx04.trans hW) hnv.out (by omega) (r1.ext (hx4.trans hW))
   have hc3:=fun W A' c' h'=>hho.out pp (txtP l (ints st.vis)) A' c' W (by have:=htl.out st.vis;have:=hnv.out;omega) (hts.out _) h'
   rw[sd] at hc3
   have hwr:IntKind.i64.wrap ((nv:Int)+(nh:Int))=((nv+nh:Nat):Int):=by rw[IntKind.wrap_i64];omega
   have hgt:decide (i<nv+nh)=false:=decide_eq_false (by omega)
   have hgt2:decide ((i:Int)<(nv:Int)+(nh:Int))=false:=decide_eq_false (by omega)
   obtain⟨tl,htl2⟩:∃z,Hid ((txtP l (ints st.vis)).length=z):=⟨_,rfl⟩
   rw[htl2.out] at hc3
   simp only[htl2.out] at hc2
   replace hc2:=Lib.hid hc2
   replace hc3:=Lib.hid hc3
   replace hx04:=Lib.hid hx04
   clear sd sm b4 hx4 hx03 r1
   go_wp2_with fail
   rw[hw4.out]
   try rw[hq4.out]
   refine Reg.startE (by kernel_rfl) ?_
   iterate 5 ((first|refine Reg.tn ?_|refine Reg.sn ?_);(try simp only[Reg.nn]))
   refine Reg.onlyE 5 _ rfl (by kernel_rfl) (by decide) (by rfl) (fun W hW K hK=>?_);go_simp
   refine (hc2.out W hW).mono ?_
   rintro e wX ⟨⟨A5,c5,rfl,hr5⟩,hX⟩
   have hq1:=hW.trans hX
   replace hr5:=Lib.hid hr5
   refine hK.out _ _ (hX) ?_;clear hK K;(try simp only[Reg.nn])
   refine Reg.onlyE 6 _ rfl (by kernel_rfl) (by decide) (by rfl) (fun W hW K hK=>?_);go_simp
   refine (hc3.out W A5 c5 (hr5.out.ext hW)).mono ?_
   rintro e wY ⟨rfl,hY⟩
   have hq2:=hq1.trans (hW.trans hY)
   have f1:∀W,Ext wY W→W.cell? ⟨q4,1,none⟩=some (.slice B1 nv d1):=fun W hW=>e1 W (hq2.trans hW)
   have f2:∀W,Ext wY W→W.cell? ⟨q4,2,none⟩=some (.slice B2 nh d2):=fun W hW=>e2 W (hq2.trans hW)
   clear e0 e1 e2 hr5
   refine hK.out _ _ (hY) ?_;clear hK K;(try simp only[Reg.nn])
   iterate 12 ((first|refine Reg.tn ?_|refine Reg.sn ?_);(try simp only[Reg.nn]))
   refine Reg.fin (by kernel_rfl) (fun W hW=>?_)
   try simp only[hwr,hgt,hgt2]
   have hxx:=hx04.out.trans (hq2.trans hW)
   clear f1 f2 hwr hgt hgt2 hq1 hq2 hx04
   replace hxx:=Lib.hid hxx
   go_wp2_with fail
   go_roundw
   case rel=>exact⟨i+1,by omega,by go_num,hxx.out⟩
   case measure=>simp[intOf]<;>omega
  ·obtain rfl:i=n+1:=by omega
   have hc5:=hli.out wr hx
   replace hx:=Lib.hid hx
   go_wp2_with fail
   refine hc5.mono ?_
   rintro en w8 ⟨rfl,hx8⟩
   have hf:=fin.out w8 (hx.out.trans hx8)
   clear hc5
   go_wp2_with fail
   exact hf
theorem admits_sl (v0:Value) (l0:List Et) (w:World) (h0:Sl w.heap.size w v0 l0.length (entsZ l0)) (hz0:∀e∈l0,EtOk e) (hwd:Wd w) (hpow:Pow w) (hN:Nms w) :
  Calls Tryz.prog 13 #[v0] w fun en w'=>en=.returned (.bool true)∧Ext w w':=by
 obtain⟨A,c,rfl,h1,h2,h3,h4,h5⟩:=h0
 exact admits_any A _ c l0 w h1 rfl h3 h4 h5 hz0 hwd hpow hN
theorem sound_sl (v0:Value) (l0:List Et) (w:World) (h0:Sl w.heap.size w v0 l0.length (entsZ l0)) (hz0:∀e∈l0,EtOk e) (hwd:Wd w) (hpow:Pow w) (hN:Nms w) :
  Calls Tryz.prog 14 #[v0] w fun en w'=>en=.returned (.bool true)∧Ext w w':=by
 obtain⟨A,c,rfl,h1,h2,h3,h4,h5⟩:=h0
 exact sound_any A _ c l0 w h1 rfl h3 h4 h5 hz0 hwd hpow hN
end Pd
end Go.Proofs.YtmaoochjbpohdaaGreatDoor
