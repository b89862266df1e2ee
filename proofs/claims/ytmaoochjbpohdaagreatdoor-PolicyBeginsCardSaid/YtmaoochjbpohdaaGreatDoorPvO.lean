/- policy: what of a log is admitted: walked. -/
import Derived.Test.YtmaoochjbpohdaaGreatDoorPvN
set_option linter.unusedVariables false
set_option linter.unusedSimpArgs false
set_option maxRecDepth 100000
set_option maxHeartbeats 1000000
namespace Go.Proofs.YtmaoochjbpohdaaGreatDoor
namespace Pl
open Go.ChangeShapes Go.WideShapes Go.ChangeAt Go.RowKit
open Base Lx Mi Pr Rv Cn Ch
theorem admA_at {l:List Et} {i:Nat} {e:Et} (h:l[i]?=some e):admA l (i+1)=admS (admA l i) i e:=by
 rw[show admA l (i+1)=admS (admA l i) i (l.getD i e0) from rfl,List.getD,h];rfl
theorem admS_pol {s:Adm} {i:Nat} {e:Et} (h:e.pol=true) (h1:polP e.p=true) (h2:holdsP e.p s.seen=true):{ s with p:=e.p }=admS s i e:=by
 unfold admS;rw[if_pos h,if_pos ⟨h1,h2⟩]
theorem admS_no1 {s:Adm} {i:Nat} {e:Et} (h:e.pol=true) (h1:polP e.p=false):{ s with held:=s.held++[i] }=admS s i e:=by
 unfold admS;rw[if_pos h,if_neg (by rw[h1];simp)]
theorem admS_no2 {s:Adm} {i:Nat} {e:Et} (h:e.pol=true) (h2:holdsP e.p s.seen=false):{ s with held:=s.held++[i] }=admS s i e:=by
 unfold admS;rw[if_pos h,if_neg (by rw[h2];simp)]
theorem admS_no3 {s:Adm} {i:Nat} {e:Et} (h:e.pol=false) (h1:isP e.s=false):{ s with held:=s.held++[i] }=admS s i e:=by
 unfold admS;rw[if_neg (by rw[h];simp),if_neg (by rw[h1];simp)]
theorem admS_no4 {s:Adm} {i:Nat} {e:Et} (h:e.pol=false) (h1:nextP s.p s.seen (schP e.s)=false):{ s with held:=s.held++[i] }=admS s i e:=by
 unfold admS;rw[if_neg (by rw[h];simp),if_neg (by rw[h1];simp)]
theorem admS_vis {s:Adm} {i:Nat} {e:Et} (h:e.pol=false) (h1:isP e.s=true) (h2:nextP s.p s.seen (schP e.s)=true):{ s with seen:=s.seen++[schP e.s],vis:=s.vis++[i] }=admS s i e:=by
 unfold admS;rw[if_neg (by rw[h];simp),if_pos ⟨h1,h2⟩]
theorem AS.cast {q q3:Nat} {w0:World} {st st':Adm} {vV hV sV:Value} {L:List (Value×List Nd)} {W:World} (h:AS q q3 w0 st vV hV sV L W) (e:st'=st):AS q q3 w0 st' vV hV sV L W:=e ▸ h
def admV (l:List Et) (en:Ending) (w':World):Prop:=∃V1 V2,en=.returned (.agg #[.int .i64 (admP l).p,V1,V2])∧Sl w'.heap.size w' V1 (admP l).vis.length (intsN (admP l).vis)∧Sl w'.heap.size w' V2 (admP l).held.length (intsN (admP l).held)∧(∃b,w'.ownsRow b 3 1 V1 (admP l).vis.length (intsN (admP l).vis))∧∃b,w'.ownsRow b 3 1 V2 (admP l).held.length (intsN (admP l).held)
theorem resAdm {w:World} {tmps:Array Value} {a:Nat} {x y z:Value} (ha:tmps[2]?.getD undef=.pointer (some ⟨a,0,none⟩)) (hb:Blk w a #[x,y,z] 59):(results Tryz.f39 tmps).run Tryz.prog w=.ok (.agg #[x,y,z]) w:=by
 have h0:=hb.cell 0
 have h1:=hb.cell 1
 have h2:=hb.cell 2
 simp only[List.getElem?_toArray,List.getElem?_cons_zero,List.getElem?_cons_succ] at h0 h1 h2
 simp[results,Tryz.f39,go_sem,ha,h0,h1,h2]
set_option maxHeartbeats 4000000 in
theorem Admit_any (A:Option Addr) (n c:Nat) (l:List Et) (w:World) (hr:Rd w A (entsZ l)) (hn:l.length=n) (hl:n≤100000) (hz:∀e∈l,EtOk e) (hwd:Wd w) (hpow:Pow w) :
  Calls Tryz.prog 39 #[.slice A n c] w fun en w'=>admV l en w'∧Ext w w':=by
 obtain⟨PO,hPO⟩:∃PO:Ending→World→Prop,Hid ((fun en w'=>admV l en w'∧Ext w w')=PO):=⟨_,Lib.hid rfl⟩
 rw[hPO.out]
 obtain⟨w1,hw1⟩:∃z,Hid (w.alloc (.cells #[.int .i64 0,.slice none 0 0,.slice none 0 0] 59)=z):=⟨_,rfl⟩
 have hx1:Ext w w1:=by rw[←hw1.out];exact (Ext.refl w).alloc _
 obtain⟨q0,hq0⟩:∃z,Hid (w.heap.size=z):=⟨_,rfl⟩
 obtain⟨q,hq⟩:∃z,Hid (w1.heap.size=z):=⟨_,rfl⟩
 have b1:Blk w1 q0 #[.int .i64 0,.slice none 0 0,.slice none 0 0] 59:=by rw[←hq0.out,←hw1.out];exact Blk.new w _ _
 obtain⟨w2,hw2⟩:∃z,Hid (w1.alloc (.cells #[.int .i64 1,.slice none 0 0,.slice none 0 0] 59)=z):=⟨_,rfl⟩
 have hx2:Ext w1 w2:=by rw[←hw2.out];exact (Ext.refl w1).alloc _
 have b2:Blk w2 q #[.int .i64 1,.slice none 0 0,.slice none 0 0] 59:=by rw[←hq.out,←hw2.out];exact Blk.new w1 _ _
 have hS0:AS q q w1 (admA l 0) (.slice none 0 0) (.slice none 0 0) (.slice none 0 0) [] w2:=
  ⟨b2,World.ownsRow_nil w2 q _ 1,World.ownsRow_nil w2 q _ 1,.inl rfl,World.ownsRow_nil w2 q _ 1,rfl,fun x hx=>(by cases hx),hx2,hq.out,by rw[hq.out];exact Nat.le_refl _⟩
 have fin:∀vV hV sV L W,AS q q w1 (admA l n) vV hV sV L W→∀cs u1 u2 u3,Blk W q0 cs 59→PO (.returned (.agg #[.int .i64 (admA l n).p,vV,hV])) (((W.setCell ⟨q0,0,none⟩ u1).setCell ⟨q0,1,none⟩ u2).setCell ⟨q0,2,none⟩ u3):=fun vV hV sV L W h cs u1 u2 u3 hb=>by
  rw[←hPO.out]
  have hb1:=hb.set 0 u1
  have hb2:=hb1.set 1 u2
  have hv:=own_setCell (own_setCell (own_setCell h.vis hb (i:=0) (by decide) u1) hb1 (i:=1) (by decide) u2) hb2 (i:=2) (by decide) u3
  have hh:=own_setCell (own_setCell (own_setCell h.held hb (i:=0) (by decide) u1) hb1 (i:=1) (by decide) u2) hb2 (i:=2) (by decide) u3
  have hge:w.heap.size≤q0:=by rw[hq0.out];exact Nat.le_refl _
  refine⟨?_,(((hx1.trans h.x).setCell hge _).setCell hge _).setCell hge _⟩
  unfold admV admP
  rw[hn]
  exact⟨_,_,rfl,Sl.ofOwn hv,Sl.ofOwn hh,⟨_,hv⟩,_,hh⟩
 replace fin:=Lib.hid fin
 have Hn:=Lib.hid hn
 clear hn
 replace hz:=Lib.hid hz
 have hlens:=adm_len l
 replace hlens:=Lib.hid hlens
 have hpols:=admA_pol l
 replace hpols:=Lib.hid hpols
 go_enter Tryz.func39,Tryz.ntmps39
 go_wp2_with fail
 rw[hw1.out,hw2.out,show w.heap.size+1=q by rw[←hq.out,←hw1.out,World.size_alloc],hq0.out]
 go_loopw [4,5,6,7,8,12,13,14,15,16,17,18,19,20,21,22,23,24,25,26,27,28,29,30,31,32,33,34,35,36,37,38,39,40,41,42,43,44,45,46,47,48,49,50,51,52,53,54,55,56,57,58,59,60,61] (fun v4 v5 v6 v7 v8 v12 v13 v14 v15 v16 v17 v18 v19 v20 v21 v22 v23 v24 v25 v26 v27 v28 v29 v30 v31 v32 v33 v34 v35 v36 v37 v38 v39 v40 v41 v42 v43 v44 v45 v46 v47 v48 v49 v50 v51 v52 v53 v54 v55 v56 v57 v58 v59 v60 v61 wr=>∃(i:Nat) (L:List (Value×List Nd)) (vV hV:Value),i≤n∧v12=.int .i64 (i:Int)∧AS q q w1 (admA l i) vV hV v4 L wr) (fun _ _ _ _ _ v12 _ _ _ _ _ _ _ _ _ _ _ _ _ _ _ _ _ _ _ _ _ _ _ _ _ _ _ _ _ _ _ _ _ _ _ _ _ _ _ _ _ _ _ _ _ _ _ _ _ _=>n-(intOf v12).toNat)
 case atStart=>exact⟨0,_,_,_,Nat.zero_le _,rfl,hS0⟩
 case round=>
  obtain⟨i,L,vV,hV,hi,rfl,hS⟩:=hrel
  obtain⟨sV,hsV⟩:∃z,z=u4:=⟨_,rfl⟩
  rw[←hsV] at hS ⊢
  clear hsV hS0
  by_cases hin:i<n
  ·have hin':(i:Int)<(n:Int):=by omega
   obtain⟨e,hme⟩:∃m,l[i]?=some m:=⟨_,List.getElem?_eq_getElem (by have:=Hn.out;omega)⟩
   have hE:=hz.out e (List.mem_of_getElem? hme)
   have hx:=hx1.trans hS.x
   obtain⟨b,off,rfl,hzz,hc⟩:=(hr.ext hx).at_ (k:=i*4) (by rw[entsZ_len];have:=Hn.out;omega)
   clear hzz
   have d0:wr.cell? ⟨b,off+i*4,none⟩=some (.bool e.pol):=by have:=hc (i*4+0) (.bool e.pol) (by rw[entsZ_at l i e hme 0 (by omega)];rfl);simpa using this
   have d1:wr.cell? ⟨b,off+i*4+1,none⟩=some (.int .i64 e.p):=by have:=hc (i*4+1) (.int .i64 e.p) (by rw[entsZ_at l i e hme 1 (by omega)];rfl);rw[Nat.add_assoc];exact this
   have d2:wr.cell? ⟨b,off+i*4+2,none⟩=some (.string e.s):=by have:=hc (i*4+2) (.string e.s) (by rw[entsZ_at l i e hme 2 (by omega)];rfl);rw[Nat.add_assoc];exact this
   have d3:wr.cell? ⟨b,off+i*4+3,none⟩=some (.int .u64 (e.id:Int)):=by have:=hc (i*4+3) (.int .u64 (e.id:Int)) (by rw[entsZ_at l i e hme 3 (by omega)];rfl);rw[Nat.add_assoc];exact this
   clear hc
   have hstep:=admA_at hme
   have hlen:=hlens.out i
   have hpol:=hpols.out i
   obtain⟨st,hst⟩:∃z,Hid (admA l i=z):=⟨_,rfl⟩
   rw[hst.out] at hS hstep hlen hpol
   clear hme
   replace hE:=Lib.hid hE
   obtain⟨pol,p,s,id⟩:=e
   simp only at d0 d1 d2 d3
   have hxa:Ext wr (wr.alloc (.cells #[.bool pol,.int .i64 p,.string s,.int .u64 (id:Int)] 93)):=(Ext.refl wr).alloc _
   obtain⟨wa,hwa⟩:∃z,Hid (wr.alloc (.cells #[.bool pol,.int .i64 p,.string s,.int .u64 (id:Int)] 93)=z):=⟨_,rfl⟩
   rw[hwa.out] at hxa
   obtain⟨A',c',L2,rfl,g1,g2,g3,g4,g5,g6,g7⟩:=hS.row
   obtain⟨k,hk⟩:∃z,Hid (st.seen.length=z):=⟨_,rfl⟩
   rw[hk.out] at g2 g3 hS ⊢
   obtain⟨qe,hqe⟩:∃z,Hid (wr.heap.size=z):=⟨_,rfl⟩
   have be:Blk wa qe #[.bool pol,.int .i64 p,.string s,.int .u64 (id:Int)] 93:=by rw[←hqe.out,←hwa.out];exact Blk.new wr _ _
   have hpe:∀W,Ext wa W→W.cell? ⟨qe,1,none⟩=some (.int .i64 p):=fun W hW=>by have:=(be.ext hW).cell 1;simpa using this
   replace hpe:=Lib.hid hpe
   have hrow:(∀x∈L2,SchOk wr x)∧Rd wr A' (schZ L2)∧L2.length=k∧k≤c'∧c'≤maxLen∧(A'=none→c'=0)∧L2.map (·.2)=st.seen∧k≤100000:=⟨g7,g1,g2,g3,g4,g5,g6,by have:=hlen.2.2;have:=hk.out;omega⟩
   replace hrow:=Lib.hid hrow
   clear g1 g2 g3 g4 g5 g6 g7 be
   have hS0:=hS
   replace hS:=Lib.hid hS0
   replace hstep:=Lib.hid hstep
   have kp:=hS0.blk.cell 0
   have kv:=hS0.blk.cell 1
   simp only[List.getElem?_toArray,List.getElem?_cons_zero,List.getElem?_cons_succ] at kp kv
   clear hS0
   cases pol with
   | true=>
    clear kp kv
    have hi:=is_any p wa
    cases hp:polP p with
    | false=>
     rw[hp] at hi
     have hst2:=hstep.out.trans (admS_no1 (s:=st) (i:=i) (e:=⟨true,p,s,id⟩) rfl hp).symm
     replace hst2:=Lib.hid hst2
     go_wp2_with fail
     rw[hwa.out,hqe.out]
     refine hi.mono ?_
     rintro en w2 ⟨rfl,hx2⟩
     clear hi
     have hxL:Ext (w2) ((w2).alloc (.cells #[.int .i64 (i:Int)] 3)):=(Ext.refl _).alloc _
     have hSL:=(hS.out.ext (hxa.trans hx2)).ext hxL
     have k2:=(hS.out.ext (hxa.trans hx2)).blk.cell 2
     simp only[List.getElem?_toArray,List.getElem?_cons_zero,List.getElem?_cons_succ] at k2
     have hrv:Rd ((w2).alloc (.cells #[.int .i64 (i:Int)] 3)) (some ⟨(w2).heap.size,0,none⟩) (intsN [i]):=by have:=Rd.of_block (w2) 3 (0,0) (cs := #[.int .i64 (i:Int)]) rfl;simpa [intsN] using this
     have hqL:q≤((w2).alloc (.cells #[.int .i64 (i:Int)] 3)).heap.size:=by rw[←hq.out];exact hSL.x.size
     have hoh:=hSL.held
     obtain⟨M,hM⟩:∃z,Hid (st.held.length=z):=⟨_,rfl⟩
     obtain⟨XS,hXS⟩:∃z,Hid (intsN st.held=z):=⟨_,rfl⟩
     have hlm:=hlen.2.1
     rw[hM.out] at hlm hoh
     rw[hXS.out] at hoh
     clear hxL
     replace hSL:=Lib.hid hSL
     go_wp2_with (
      refine wpList_app el_in _ rfl (.tmp 56) (.tmp 58) rfl q hV M XS rfl hoh (some ⟨(w2).heap.size,0,none⟩) 1 1 (intsN [i]) rfl hrv rfl (fun h=>by cases h) (intsN_one _) (by omega) (by omega) hqL (fun hV' W' ho' hg' hv'=>?_)
      have hb':=hSL.out.blk.grown hg' (own_ne_blk hSL.out.held hSL.out.blk (by decide))
      have k2':=hb'.cell 2
      have f2':=hb'.frozen 2
      simp only[List.getElem?_toArray,List.getElem?_cons_zero,List.getElem?_cons_succ] at k2'
      have hnx:=hSL.out.grow_held (i:=i) (by rw[hM.out,hXS.out];exact ho') hg' hv'
      rw[←hst2.out] at hnx
      replace hnx:=Lib.hid hnx
      obtain⟨A9,c9,e9,jj⟩:=Rd.of_own ho'
      clear jj hg' hv' hb' hrv hqL hoh ho'
      subst e9)
     go_roundw
     case rel=>exact⟨i+1,_,_,_,by omega,by go_num,hnx.out⟩
     case measure=>simp[intOf]<;>omega
    | true=>
     rw[hp] at hi
     have hh:=fun W (hW:Ext wr W)=>holds_any p hp A' k c' L2 W (hrow.out.2.1.ext hW) hrow.out.2.2.1 hrow.out.2.2.2.1 hrow.out.2.2.2.2.1 hrow.out.2.2.2.2.2.1 hrow.out.2.2.2.2.2.2.2 (fun x hx=>(hrow.out.1 x hx).ext hW) (hwd.ext (hx.trans hW)) (hpow.ext (hx.trans hW))
     rw[hrow.out.2.2.2.2.2.2.1] at hh
     cases hv:holdsP p st.seen with
     | true=>
      rw[hv] at hh
      have hst2:=hstep.out.trans (admS_pol (s:=st) (i:=i) (e:=⟨true,p,s,id⟩) rfl hp hv).symm
      replace hst2:=Lib.hid hst2
      replace hh:=Lib.hid hh
      clear hp hv
      go_wp2_with fail
      rw[hwa.out,hqe.out]
      refine hi.mono ?_
      rintro en w2 ⟨rfl,hx2⟩
      clear hi
      have hh2:=hh.out w2 (hxa.trans hx2)
      have hp2:=hpe.out w2 hx2
      go_wp2_with fail
      refine hh2.mono ?_
      rintro en w3 ⟨rfl,hx3⟩
      clear hh2
      have hp3:=hpe.out w3 (hx2.trans hx3)
      have hS3:=hS.out.ext (hxa.trans (hx2.trans hx3))
      have hnx:=hS3.pol p
      have hk3:=hS3.blk.cell 0
      have hf3:=hS3.blk.frozen 0
      simp only[List.getElem?_toArray,List.getElem?_cons_zero] at hk3
      rw[←hst2.out] at hnx
      replace hnx:=Lib.hid hnx
      clear hS3
      go_wp2_with fail
      go_roundw
      case rel=>exact⟨i+1,_,_,_,by omega,by go_num,hnx.out⟩
      case measure=>simp[intOf]<;>omega
     | false=>
      rw[hv] at hh
      have hst2:=hstep.out.trans (admS_no2 (s:=st) (i:=i) (e:=⟨true,p,s,id⟩) rfl hv).symm
      replace hst2:=Lib.hid hst2
      replace hh:=Lib.hid hh
      clear hp hv
      go_wp2_with fail
      rw[hwa.out,hqe.out]
      refine hi.mono ?_
      rintro en w2 ⟨rfl,hx2⟩
      clear hi
      have hh2:=hh.out w2 (hxa.trans hx2)
      have hp2:=hpe.out w2 hx2
      go_wp2_with fail
      refine hh2.mono ?_
      rintro en w3 ⟨rfl,hx3⟩
      clear hh2
      have hxL:Ext (w3) ((w3).alloc (.cells #[.int .i64 (i:Int)] 3)):=(Ext.refl _).alloc _
      have hSL:=(hS.out.ext (hxa.trans (hx2.trans hx3))).ext hxL
      have k2:=(hS.out.ext (hxa.trans (hx2.trans hx3))).blk.cell 2
      simp only[List.getElem?_toArray,List.getElem?_cons_zero,List.getElem?_cons_succ] at k2
      have hrv:Rd ((w3).alloc (.cells #[.int .i64 (i:Int)] 3)) (some ⟨(w3).heap.size,0,none⟩) (intsN [i]):=by have:=Rd.of_block (w3) 3 (0,0) (cs := #[.int .i64 (i:Int)]) rfl;simpa [intsN] using this
      have hqL:q≤((w3).alloc (.cells #[.int .i64 (i:Int)] 3)).heap.size:=by rw[←hq.out];exact hSL.x.size
      have hoh:=hSL.held
      obtain⟨M,hM⟩:∃z,Hid (st.held.length=z):=⟨_,rfl⟩
      obtain⟨XS,hXS⟩:∃z,Hid (intsN st.held=z):=⟨_,rfl⟩
      have hlm:=hlen.2.1
      rw[hM.out] at hlm hoh
      rw[hXS.out] at hoh
      clear hxL
      replace hSL:=Lib.hid hSL
      go_wp2_with (
       refine wpList_app el_in _ rfl (.tmp 56) (.tmp 58) rfl q hV M XS rfl hoh (some ⟨(w3).heap.size,0,none⟩) 1 1 (intsN [i]) rfl hrv rfl (fun h=>by cases h) (intsN_one _) (by omega) (by omega) hqL (fun hV' W' ho' hg' hv'=>?_)
       have hb':=hSL.out.blk.grown hg' (own_ne_blk hSL.out.held hSL.out.blk (by decide))
       have k2':=hb'.cell 2
       have f2':=hb'.frozen 2
       simp only[List.getElem?_toArray,List.getElem?_cons_zero,List.getElem?_cons_succ] at k2'
       have hnx:=hSL.out.grow_held (i:=i) (by rw[hM.out,hXS.out];exact ho') hg' hv'
       rw[←hst2.out] at hnx
       replace hnx:=Lib.hid hnx
       obtain⟨A9,c9,e9,jj⟩:=Rd.of_own ho'
       clear jj hg' hv' hb' hrv hqL hoh ho'
       subst e9)
      go_roundw
      case rel=>exact⟨i+1,_,_,_,by omega,by go_num,hnx.out⟩
      case measure=>simp[intOf]<;>omega
   | false=>
    cases hP:isP s with
    | false=>
     have hst2:=hstep.out.trans (admS_no3 (s:=st) (i:=i) (e:=⟨false,p,s,id⟩) rfl hP).symm
     replace hst2:=Lib.hid hst2
     have hsc:=Schema_any s hE.out.s1 wa (hwd.ext (hx.trans hxa)) (hpow.ext (hx.trans hxa))
     rw[hP] at hsc
     clear hP kp kv
     go_wp2_with fail
     rw[hwa.out,hqe.out]
     refine hsc.mono ?_
     rintro en w2 ⟨v,rfl,hSv,hx2⟩
     obtain⟨A3,n3,c3,rfl⟩:=Rv.Sch.slice hSv
     clear hSv hsc
     have hx3:Ext w2 (w2.alloc (.cells #[.slice A3 n3 c3] 24)):=(Ext.refl w2).alloc _
     have hxL:Ext (w2.alloc (.cells #[.slice A3 n3 c3] 24)) ((w2.alloc (.cells #[.slice A3 n3 c3] 24)).alloc (.cells #[.int .i64 (i:Int)] 3)):=(Ext.refl _).alloc _
     have hSL:=(hS.out.ext (hxa.trans (hx2.trans hx3))).ext hxL
     have k2:=(hS.out.ext (hxa.trans (hx2.trans hx3))).blk.cell 2
     simp only[List.getElem?_toArray,List.getElem?_cons_zero,List.getElem?_cons_succ] at k2
     have hrv:Rd ((w2.alloc (.cells #[.slice A3 n3 c3] 24)).alloc (.cells #[.int .i64 (i:Int)] 3)) (some ⟨w2.heap.size+1,0,none⟩) (intsN [i]):=by have:=Rd.of_block (w2.alloc (.cells #[.slice A3 n3 c3] 24)) 3 (0,0) (cs := #[.int .i64 (i:Int)]) rfl;simpa [intsN] using this
     have hqL:q≤((w2.alloc (.cells #[.slice A3 n3 c3] 24)).alloc (.cells #[.int .i64 (i:Int)] 3)).heap.size:=by rw[←hq.out];exact hSL.x.size
     have hoh:=hSL.held
     obtain⟨M,hM⟩:∃z,Hid (st.held.length=z):=⟨_,rfl⟩
     obtain⟨XS,hXS⟩:∃z,Hid (intsN st.held=z):=⟨_,rfl⟩
     have hlm:=hlen.2.1
     rw[hM.out] at hlm hoh
     rw[hXS.out] at hoh
     clear hxL
     replace hSL:=Lib.hid hSL
     go_wp2_with (
      refine wpList_app el_in _ rfl (.tmp 56) (.tmp 58) rfl q hV M XS rfl hoh (some ⟨w2.heap.size+1,0,none⟩) 1 1 (intsN [i]) rfl hrv rfl (fun h=>by cases h) (intsN_one _) (by omega) (by omega) hqL (fun hV' W' ho' hg' hv'=>?_)
      have hb':=hSL.out.blk.grown hg' (own_ne_blk hSL.out.held hSL.out.blk (by decide))
      have k2':=hb'.cell 2
      have f2':=hb'.frozen 2
      simp only[List.getElem?_toArray,List.getElem?_cons_zero,List.getElem?_cons_succ] at k2'
      have hnx:=hSL.out.grow_held (i:=i) (by rw[hM.out,hXS.out];exact ho') hg' hv'
      rw[←hst2.out] at hnx
      replace hnx:=Lib.hid hnx
      obtain⟨A9,c9,e9,jj⟩:=Rd.of_own ho'
      clear jj hg' hv' hb' hrv hqL hoh ho'
      subst e9)
     go_roundw
     case rel=>exact⟨i+1,_,_,_,by omega,by go_num,hnx.out⟩
     case measure=>simp[intOf]<;>omega
    | true=>
     have hsc:=Schema_nds s hE.out.s1 hP wa (hwd.ext (hx.trans hxa)) (hpow.ext (hx.trans hxa))
     have HP:=Lib.hid hP
     clear hP
     go_wp2_with fail
     rw[hwa.out,hqe.out]
     refine hsc.mono ?_
     rintro en w2 ⟨⟨v,vs,rfl,hnd⟩,hx2⟩
     clear hsc
     have hSa:=hS.out.ext hxa
     have hna:=NdA.new hnd hSa.vis hSa.held
     obtain⟨A3,c3,rfl,jj1,jj2,jj3,jj4⟩:=Rd.of_own hnd.row
     clear jj1 jj2 jj3 jj4 hnd hSa
     obtain⟨n3,hn3⟩:∃z,Hid ((parseP s).1.length=z):=⟨_,Lib.hid rfl⟩
     rw[hn3.out] at hna ⊢
     obtain⟨w3,hw3⟩:∃z,Hid (w2.alloc (.cells #[.slice A3 n3 c3] 24)=z):=⟨_,rfl⟩
     have hx3:Ext w2 w3:=by rw[←hw3.out];exact (Ext.refl w2).alloc _
     obtain⟨q7,hq7⟩:∃z,Hid (w2.heap.size=z):=⟨_,rfl⟩
     have b7:Blk w3 q7 #[.slice A3 n3 c3] 24:=by rw[←hq7.out,←hw3.out];exact Blk.new w2 _ _
     have e7:∀W,Ext w3 W→W.cell? ⟨q7,0,none⟩=some (.slice A3 n3 c3):=fun W hW=>by have:=(b7.ext hW).cell 0;simpa using this
     replace e7:=Lib.hid e7
     have hxr3:=hxa.trans (hx2.trans hx3)
     have hy:SchOk w3 (.slice A3 n3 c3,schP s):=nd_ok HP.out (hna.ok.ext hx3)
     have hna3:=hna.ext hx3
     replace hna3:=Lib.hid hna3
     have hh:=next_any st.p hpol A' k c' L2 (.slice A3 n3 c3,schP s) w3 (hrow.out.2.1.ext hxr3) hrow.out.2.2.1 hrow.out.2.2.2.1 hrow.out.2.2.2.2.1 hrow.out.2.2.2.2.2.1 hrow.out.2.2.2.2.2.2.2 (fun x hx=>(hrow.out.1 x hx).ext hxr3) hy (hwd.ext (hx.trans hxr3)) (hpow.ext (hx.trans hxr3))
     rw[hrow.out.2.2.2.2.2.2.1] at hh
     clear hna b7 hy
     have hxk:=hx2.trans hx3
     have kp3:=hxr3.cell kp
     rw[←hw3.out] at kp3
     clear kp kv
     cases hv:nextP st.p st.seen (schP s) with
     | true=>
      have hst2:=hstep.out.trans (admS_vis (s:=st) (i:=i) (e:=⟨false,p,s,id⟩) rfl HP.out hv).symm
      replace hst2:=Lib.hid hst2
      rw[hv] at hh
      clear hv
      replace hh:=Lib.hid hh
      go_wp2_with fail
      rw[hw3.out,hq7.out]
      refine hh.out.mono ?_
      rintro en w4 ⟨rfl,hx4⟩
      have e74:=e7.out w4 hx4
      have hxr4:=hxr3.trans hx4
      have hSL:=(hS.out.ext hxr4).ext ((Ext.refl w4).alloc (.cells #[.slice A3 n3 c3] 24))
      have hnL:=(hna3.out.ext hx4).ext ((Ext.refl w4).alloc (.cells #[.slice A3 n3 c3] 24))
      have hrv:Rd (w4.alloc (.cells #[.slice A3 n3 c3] 24)) (some ⟨w4.heap.size,0,none⟩) [.slice A3 n3 c3]:=Rd.of_block w4 24 (0,0) (cs := #[.slice A3 n3 c3]) rfl
      have hqL:q≤(w4.alloc (.cells #[.slice A3 n3 c3] 24)).heap.size:=by rw[←hq.out];exact hSL.x.size
      have hos:=hSL.seen
      rw[hk.out] at hos
      obtain⟨XL,hXL⟩:∃z,Hid (L.map (·.1)=z):=⟨_,rfl⟩
      rw[hXL.out] at hos
      have hk5:=hrow.out.2.2.2.2.2.2.2
      have hc5:=hrow.out.2.2.2.1
      replace hSL:=Lib.hid hSL
      replace hnL:=Lib.hid hnL
      clear hh
      obtain⟨M,hM⟩:∃z,Hid (st.vis.length=z):=⟨_,rfl⟩
      obtain⟨XS,hXS⟩:∃z,Hid (intsN st.vis=z):=⟨_,rfl⟩
      have hlm:=hlen.1
      rw[hM.out] at hlm
      go_wp2_with (first
       | (refine wpList_app el_sch _ rfl (.tmp 45) (.tmp 47) rfl q (.slice A' k c') k XL rfl hos (some ⟨w4.heap.size, 0, none⟩) 1 1 [.slice A3 n3 c3] rfl hrv rfl (fun h => by cases h) (by simp [Value.oneCell']) (by omega) (by omega) hqL (fun sV' W' ho' hg' hv' => ?_)
          have hnx:=hSL.out.grow_seen (s:=s) HP.out hnL.out (by rw[hk.out,hXL.out];exact ho') hg'
          have kv':=hnx.blk.cell 1
          simp only[List.getElem?_toArray,List.getElem?_cons_zero,List.getElem?_cons_succ] at kv'
          have hSM:=hnx.ext ((Ext.refl W').alloc (.cells #[.int .i64 (i:Int)] 3))
          have hov:=hSM.vis
          have hqM:q≤(W'.alloc (.cells #[.int .i64 (i:Int)] 3)).heap.size:=by rw[←hq.out];exact hSM.x.size
          have hrw:Rd (W'.alloc (.cells #[.int .i64 (i:Int)] 3)) (some ⟨W'.heap.size,0,none⟩) (intsN [i]):=by have:=Rd.of_block W' 3 (0,0) (cs := #[.int .i64 (i:Int)]) rfl;simpa [intsN] using this
          simp only[hM.out,hXS.out] at hov
          replace hSM:=Lib.hid hSM
          obtain⟨A8,c8,e8,jj⟩:=Rd.of_own ho'
          clear jj hg' hv' hrv hqL hos ho' hnx
          subst e8)
       | (refine wpList_app el_in _ rfl (.tmp 50) (.tmp 52) rfl q vV M XS rfl hov (some ⟨W'.heap.size, 0, none⟩) 1 1 (intsN [i]) rfl hrw rfl (fun h => by cases h) (intsN_one _) (by omega) (by omega) hqM (fun vV' W2 ho' hg' hv' => ?_)
          have hb':=hSM.out.blk.grown hg' (own_ne_blk hSM.out.vis hSM.out.blk (by decide))
          have k2':=hb'.cell 1
          have f2':=hb'.frozen 1
          simp only[List.getElem?_toArray,List.getElem?_cons_zero,List.getElem?_cons_succ] at k2'
          have hny:=(hSM.out.grow_vis (i:=i) (by simp only[hM.out,hXS.out];exact ho') hg' hv').cast hst2.out
          replace hny:=Lib.hid hny
          obtain⟨A9,c9,e9,jj⟩:=Rd.of_own ho'
          clear jj hg' hv' hb' hrw hqM hov ho'
          subst e9))
      go_roundw
      case rel=>exact⟨i+1,_,_,_,by omega,by go_num,hny.out⟩
      case measure=>simp[intOf]<;>omega
     | false=>
      have hst2:=hstep.out.trans (admS_no4 (s:=st) (i:=i) (e:=⟨false,p,s,id⟩) rfl hv).symm
      replace hst2:=Lib.hid hst2
      rw[hv] at hh
      clear hv
      replace hh:=Lib.hid hh
      go_wp2_with fail
      rw[hw3.out,hq7.out]
      refine hh.out.mono ?_
      rintro en w4 ⟨rfl,hx4⟩
      have hxr4:=hxr3.trans hx4
      clear hh
      have hxL:Ext (w4) ((w4).alloc (.cells #[.int .i64 (i:Int)] 3)):=(Ext.refl _).alloc _
      have hSL:=(hS.out.ext hxr4).ext hxL
      have k2:=(hS.out.ext hxr4).blk.cell 2
      simp only[List.getElem?_toArray,List.getElem?_cons_zero,List.getElem?_cons_succ] at k2
      have hrv:Rd ((w4).alloc (.cells #[.int .i64 (i:Int)] 3)) (some ⟨(w4).heap.size,0,none⟩) (intsN [i]):=by have:=Rd.of_block (w4) 3 (0,0) (cs := #[.int .i64 (i:Int)]) rfl;simpa [intsN] using this
      have hqL:q≤((w4).alloc (.cells #[.int .i64 (i:Int)] 3)).heap.size:=by rw[←hq.out];exact hSL.x.size
      have hoh:=hSL.held
      obtain⟨M,hM⟩:∃z,Hid (st.held.length=z):=⟨_,rfl⟩
      obtain⟨XS,hXS⟩:∃z,Hid (intsN st.held=z):=⟨_,rfl⟩
      have hlm:=hlen.2.1
      rw[hM.out] at hlm hoh
      rw[hXS.out] at hoh
      clear hxL
      replace hSL:=Lib.hid hSL
      go_wp2_with (
       refine wpList_app el_in _ rfl (.tmp 56) (.tmp 58) rfl q hV M XS rfl hoh (some ⟨(w4).heap.size,0,none⟩) 1 1 (intsN [i]) rfl hrv rfl (fun h=>by cases h) (intsN_one _) (by omega) (by omega) hqL (fun hV' W' ho' hg' hv'=>?_)
       have hb':=hSL.out.blk.grown hg' (own_ne_blk hSL.out.held hSL.out.blk (by decide))
       have k2':=hb'.cell 2
       have f2':=hb'.frozen 2
       simp only[List.getElem?_toArray,List.getElem?_cons_zero,List.getElem?_cons_succ] at k2'
       have hnx:=hSL.out.grow_held (i:=i) (by rw[hM.out,hXS.out];exact ho') hg' hv'
       rw[←hst2.out] at hnx
       replace hnx:=Lib.hid hnx
       obtain⟨A9,c9,e9,jj⟩:=Rd.of_own ho'
       clear jj hg' hv' hb' hrv hqL hoh ho'
       subst e9)
      go_roundw
      case rel=>exact⟨i+1,_,_,_,by omega,by go_num,hnx.out⟩
      case measure=>simp[intOf]<;>omega
  ·obtain rfl:i=n:=by omega
   obtain⟨A1,c1,rfl,jj⟩:=Rd.of_own hS.vis
   clear jj
   obtain⟨A2,c2,rfl,jj⟩:=Rd.of_own hS.held
   clear jj
   have hb0:=b1.ext hS.x
   have hf:=fin.out _ _ sV L wr hS
   have hbq:=hS.blk
   obtain⟨P0,hP0⟩:∃z,Hid ((admA l i).p=z):=⟨_,rfl⟩
   obtain⟨N1,hN1⟩:∃z,Hid ((admA l i).vis.length=z):=⟨_,rfl⟩
   obtain⟨N2,hN2⟩:∃z,Hid ((admA l i).held.length=z):=⟨_,rfl⟩
   rw[hP0.out,hN1.out,hN2.out] at hbq hf
   have k0:=hbq.cell 0
   have k1:=hbq.cell 1
   have k2:=hbq.cell 2
   have m0:=hb0.cell 0
   have m1:=hb0.cell 1
   have m2:=hb0.cell 2
   have f0:=hb0.frozen 0
   have f1:=hb0.frozen 1
   have f2:=hb0.frozen 2
   simp only[List.getElem?_toArray,List.getElem?_cons_zero,List.getElem?_cons_succ] at k0 k1 k2 m0 m1 m2
   have hbF:=((hb0.set 0 (.int .i64 P0)).set 1 (.slice A1 N1 c1)).set 2 (.slice A2 N2 c2)
   replace hf:=hf _ (.int .i64 P0) (.slice A1 N1 c1) (.slice A2 N2 c2) hb0
   clear hbq hb0 hS
   go_wp2_with fail
   refine bodyPost_ret (resAdm rfl (by simpa using hbF)) rfl ?_
   exact hf
end Pl
namespace Reg
open Base
def upd (x:Nat→Value) (i:Nat) (v:Value):Nat→Value:=fun j=>if j=i then v else x j
theorem upd_self (x:Nat→Value) (i:Nat) (v:Value):upd x i v i=v:=by simp[upd]
theorem upd_ne (x:Nat→Value) {i j:Nat} (v:Value) (h:j≠i):upd x i v j=x j:=by simp[upd,h]
theorem marked_size (n:Nat):∀l:List Nat,(marked n l).size=n
 | []=>by simp[marked]
 | i::l=>by rw[marked_cons,Array.size_setIfInBounds,marked_size n l]
theorem marked_get (n:Nat):∀(l:List Nat) (k:Nat),k<n→((marked n l).getD k false=true↔k∈l)
 | [],k,hk=>by simp[marked,hk]
 | i::l,k,hk=>by
  rw[marked_cons]
  by_cases e:i=k
  ·subst e
   have hs:=marked_size n l
   simp[hs,hk]
  ·rw[getD_set_ne false e,marked_get n l k hk]
   simp only[List.mem_cons]
   exact⟨fun h=>.inr h,fun h=>h.resolve_left (fun h=>e h.symm)⟩
theorem len_le:∀(n:Nat) (l:List Nat),l.Nodup→(∀j∈l,j<n)→l.length≤n
 | 0,l,_,h=>by
  cases l with
  | nil=>exact Nat.le_refl _
  | cons x l=>have:=h x (by simp);omega
 | n+1,l,hd,h=>by
  by_cases hn:n∈l
  ·have h1:=len_le n (l.erase n) (hd.erase n) (fun j hj=>by
    have h2:=(List.Nodup.mem_erase_iff hd).1 hj
    have:=h j h2.2;omega)
   rw[List.length_erase_of_mem hn] at h1
   omega
  ·have:=len_le n l hd (fun j hj=>by
    have h1:=h j hj
    have h2:j≠n:=fun e=>hn (by rw[←e];exact hj)
    omega)
   omega
theorem len_ge:∀(n:Nat) (l:List Nat),l.Nodup→(∀j,j<n→j∈l)→n≤l.length
 | 0,_,_,_=>Nat.zero_le _
 | n+1,l,hd,h=>by
  have hn:=h n (by omega)
  have h1:=len_ge n (l.erase n) (hd.erase n) (fun j hj=>(List.Nodup.mem_erase_iff hd).2 ⟨by omega,h j (by omega)⟩)
  rw[List.length_erase_of_mem hn] at h1
  have:0<l.length:=List.length_pos_of_mem hn
  omega
theorem least_out (n:Nat) (l:List Nat) (h:¬ ∀j,j<n→j∈l):∃j,j<n∧j∉l∧∀i,i<j→i∈l:=by
 have key:∀m,(∃j,j<m∧j∉l)→∃j,j<m∧j∉l∧∀i,i<j→i∈l:=by
  intro m
  induction m with
  | zero=>rintro⟨j,hj,_⟩;omega
  | succ m ih=>
   rintro⟨j,hj,hjl⟩
   by_cases h2:∃j,j<m∧j∉l
   ·obtain⟨j,h3,h4⟩:=ih h2
    exact⟨j,by omega,h4⟩
   ·have e:j=m:=by
     rcases Nat.lt_or_ge j m with h'|h'
     ·exact absurd ⟨j,h',hjl⟩ h2
     ·omega
    subst e
    exact⟨j,by omega,hjl,fun i hi=>Decidable.not_not.1 fun hc=>h2 ⟨i,hi,hc⟩⟩
 refine key n ?_
 exact Decidable.not_not.1 fun hc=>h fun j hj=>Decidable.not_not.1 fun hc2=>hc ⟨j,hj,hc2⟩
section
variable {P:Program} {ops:Array Oper} {Q:Exit→Act→World→Prop} {R:World→World→Prop}
structure Flow (P:Program) (ops:Array Oper) (Q:Exit→Act→World→Prop) (R:World→World→Prop) (n:Nat) (f:(Nat→Value)→Act) (Post:Nat→Value→World→Prop) (Rel:Nat→Nat→Value→Value→Prop) (w0:World):Prop where
 hn:n≤ops.size
 refl:∀w,R w w
 trans:∀ {a b c},R a b→R b c→R a c
 back:∀i oi,i<n→ops[i]?=some oi→oi.guard=none∧∀e∈oi.after,Region.binds .any e=true→e.on<i
 tail:∀i oi,n≤i→ops[i]?=some oi→∀j,j<n→waits ops 8 i j=true
 put:∀i oi,i<n→ops[i]?=some oi→∀x v,(f x).put oi.dst v=f (upd x i v)
 mono:∀i v w w',Post i v w→R w w'→Post i v w'
 op:∀i oi,i<n→ops[i]?=some oi→∀x w,R w0 w→(∀e∈oi.after,Region.binds .any e=true→Post e.on (x e.on) w)→∀K:Act→World→Prop,Shut (∀v w',R w w'→Post i v w'→(∀j u,j≠i→Post j u w→Rel i j v u∧Rel j i u v)→K ((f x).put oi.dst v) w')→oi.wp P (f x) w K Q
 fin:∀x w,R w0 w→(∀j,j<n→Post j (x j) w)→(∀i j,i<n→j<n→i≠j→Rel i j (x i) (x j))→∃R2,At P ops Q R2 (List.range n) (f x) w
theorem flow_run {n:Nat} {f:(Nat→Value)→Act} {Post:Nat→Value→World→Prop} {Rel:Nat→Nat→Value→Value→Prop} {w0:World} (F:Flow P ops Q R n f Post Rel w0):∀(m:Nat) (done:List Nat),n-done.length=m→done.Nodup→(∀j∈done,j<n)→Closed ops (marked ops.size done)→
  ∀(x:Nat→Value) (w:World),R w0 w→(∀j∈done,Post j (x j) w)→(∀i∈done,∀j∈done,i≠j→Rel i j (x i) (x j))→wpAny P .any ops Q (ops.size-done.length) (marked ops.size done) (f x) w:=by
 intro m
 induction m with
 | zero=>
  intro done hm hd hlt hcl x w hw hp hr
  have hall:∀j,j<n→j∈done:=Decidable.not_not.1 fun hc=>by
   obtain⟨j,hj,hjd,_⟩:=least_out n done hc
   have:=len_le n (j::done) (List.nodup_cons.2 ⟨hjd,hd⟩) (fun i hi=>by
    rcases List.mem_cons.1 hi with rfl|hi
    ·exact hj
    ·exact hlt i hi)
   rw[List.length_cons] at this
   omega
  have hlen:done.length=n:=Nat.le_antisymm (len_le n done hd hlt) (len_ge n done hd hall)
  have harr:marked ops.size done=marked ops.size (List.range n):=by
   refine Array.ext (by rw[marked_size,marked_size]) fun k h1 h2=>?_
   have hk:k<ops.size:=by rw[marked_size] at h1;exact h1
   have e1:=marked_get ops.size done k hk
   have e2:=marked_get ops.size (List.range n) k hk
   have e3:(k∈done)↔k∈List.range n:=by rw[List.mem_range];exact⟨hlt k,hall k⟩
   rw[e3,←e2] at e1
   have g1:(marked ops.size done).getD k false=(marked ops.size done)[k]:=by simp[h1]
   have g2:(marked ops.size (List.range n)).getD k false=(marked ops.size (List.range n))[k]:=by simp[h2]
   rw[←g1,←g2]
   exact Bool.eq_iff_iff.2 e1
  obtain⟨R2,hA⟩:=F.fin x w hw (fun j hj=>hp j (hall j hj)) (fun i j hi hj hij=>hr i (hall i hi) j (hall j hj) hij)
  have hcl2:=hcl
  rw[harr] at hcl2
  have:=wpAny_of_wpAll _ _ _ _ (hA hcl2)
  rw[List.length_range] at this
  rw[hlen,harr]
  exact this
 | succ m ih=>
  intro done hm hd hlt hcl x w hw hp hr
  have hnall:¬ ∀j,j<n→j∈done:=fun hc=>by
   have:=len_ge n done hd hc
   omega
  obtain⟨j0,hj0,hj0d,hj0l⟩:=least_out n done hnall
  have hn:=F.hn
  have hun:∀k,k<ops.size→((marked ops.size done).getD k true=false↔k∉done):=fun k hk=>by
   have e1:=marked_get ops.size done k hk
   have hs:=marked_size ops.size done
   have g1:(marked ops.size done).getD k true=(marked ops.size done).getD k false:=by simp[hs,hk]
   rw[g1,←e1]
   cases (marked ops.size done).getD k false<;>simp
  have e:ops.size-done.length=(ops.size-(j0::done).length)+1:=by
   have:=len_le n done hd hlt
   simp only[List.length_cons];omega
  rw[e]
  refine⟨fun h0=>?_,fun i hi=>?_⟩
  ·exfalso
   obtain⟨oj,hoj⟩:∃o,ops[j0]?=some o:=⟨_,Array.getElem?_eq_getElem (by omega)⟩
   have:j0∈Region.ready .any ops (marked ops.size done):=mem_ready.2 ⟨(hun j0 (by omega)).2 hj0d,oj,hoj,fun e he hb=>by
    have:=(F.back j0 oj hj0 hoj).2 e he hb
    exact (marked_get ops.size done e.on (by omega)).2 (hj0l e.on this)⟩
   rw[h0] at this
   cases this
  ·have hi0:=hi
   obtain⟨hiun,oi,hoi,hall⟩:=mem_ready.1 hi
   have hin:i<n:=by
    rcases Nat.lt_or_ge i n with h'|h'
    ·exact h'
    ·exfalso
     have:=waits_listed hcl 8 i (F.tail i oi h' hoi j0 hj0) (fun o ho=>by rw[hoi] at ho;cases ho;exact hall)
     exact hj0d ((marked_get ops.size done j0 (by omega)).1 this)
   have hid:i∉done:=(hun i (by omega)).1 hiun
   obtain⟨hg,hbk⟩:=F.back i oi hin hoi
   have hwt:Region.wanted oi (yielded ops (f x).tmps)=true:=by simp[Region.wanted,hg]
   unfold wpOp
   simp only[hoi,hwt,if_true]
   refine .inl (F.op i oi hin hoi x w hw (fun e he hb=>hp e.on ((marked_get ops.size done e.on (by have:=hbk e he hb;omega)).1 (hall e he hb))) _ (fun v w' hx hpv hrel=>?_))
   rw[F.put i oi hin hoi]
   refine ih (i::done) (by rw[List.length_cons];omega) (List.nodup_cons.2 ⟨hid,hd⟩) (fun j hj=>?_) (hcl.set hi0) (upd x i v) w' (F.trans hw hx) (fun j hj=>?_) (fun p hp1 j hj hne=>?_)
   ·rcases List.mem_cons.1 hj with rfl|hj
    ·exact hin
    ·exact hlt j hj
   ·rcases List.mem_cons.1 hj with e|hj2
    ·rw[e,upd_self];exact hpv
    ·have hne:j≠i:=fun e=>hid (by rw[←e];exact hj2)
     rw[upd_ne x v hne];exact F.mono _ _ _ _ (hp j hj2) hx
   ·rcases List.mem_cons.1 hp1 with e|hp2
    ·rcases List.mem_cons.1 hj with e'|hj2
     ·exact absurd (e.trans e'.symm) hne
     ·have hji:j≠i:=fun e=>hid (by rw[←e];exact hj2)
      rw[e,upd_self,upd_ne x v hji]
      exact (hrel j _ hji (hp j hj2)).1
    ·have hpi:p≠i:=fun e=>hid (by rw[←e];exact hp2)
     rcases List.mem_cons.1 hj with e'|hj2
     ·rw[e',upd_self,upd_ne x v hpi]
      exact (hrel p _ hpi (hp p hp2)).2
     ·have hji:j≠i:=fun e=>hid (by rw[←e];exact hj2)
      rw[upd_ne x v hpi,upd_ne x v hji]
      exact hr p hp2 j hj2 hne
theorem flow {n id:Nat} {f:(Nat→Value)→Act} {Post:Nat→Value→World→Prop} {Rel:Nat→Nat→Value→Value→Prop} {a:Act} {w:World} (hm:P.follows .mixedOrders=true) (x:Nat→Value) (ha:a=f x) (F:Flow P ops Q R n f Post Rel w.drew):(Code.region id ops true).wp P Q a w:=by
 subst ha
 exact wp_region_any hm (flow_run F n [] rfl List.nodup_nil (fun j hj=>by cases hj) (Closed.none ops) x w.drew (F.refl _) (fun j hj=>by cases hj) (fun i hi=>by cases hi))
def backB (ops:Array Oper) (n:Nat):Bool:=(List.range n).all fun i=>match ops[i]? with
 | none=>true
 | some o=>o.guard.isNone && o.after.all fun e => !Region.binds .any e || decide (e.on<i)
theorem back_of {n:Nat} (h:backB ops n=true):∀i oi,i<n→ops[i]?=some oi→oi.guard=none∧∀e∈oi.after,Region.binds .any e=true→e.on<i:=by
 intro i oi hi ho
 have h1:=List.all_eq_true.1 h i (List.mem_range.2 hi)
 simp only[ho,Bool.and_eq_true,Option.isNone_iff_eq_none] at h1
 refine⟨h1.1,fun e he hb=>?_⟩
 have h2:=Array.all_eq_true'.1 h1.2 e he
 rw[hb] at h2
 simpa using h2
def tailB (ops:Array Oper) (n:Nat):Bool:=(List.range ops.size).all fun i=>decide (i<n) || (List.range n).all fun j=>waits ops 8 i j
theorem tail_of {n:Nat} (h:tailB ops n=true):∀i oi,n≤i→ops[i]?=some oi→∀j,j<n→waits ops 8 i j=true:=by
 intro i oi hi ho j hj
 have hs:=(Array.getElem?_eq_some_iff.1 ho).1
 have h1:=List.all_eq_true.1 h i (List.mem_range.2 hs)
 rw[decide_eq_false (show ¬i<n by omega),Bool.false_or] at h1
 exact List.all_eq_true.1 h1 j (List.mem_range.2 hj)
theorem dep {oi:Oper} {Post:Nat→Value→World→Prop} {x:Nat→Value} {w:World} (hd:∀e∈oi.after,Region.binds .any e=true→Post e.on (x e.on) w) (k:Nat) (h:(oi.after.any fun e=>Region.binds .any e && decide (e.on=k))=true):Post k (x k) w:=by
 obtain⟨e,he,hb⟩:=Array.any_eq_true'.1 h
 simp only[Bool.and_eq_true,decide_eq_true_eq] at hb
 have:=hd e he hb.1
 rw[hb.2] at this
 exact this
end
end Reg
end Go.Proofs.YtmaoochjbpohdaaGreatDoor
