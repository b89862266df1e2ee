/- parse: a defined type. -/
import Derived.Test.YtllhhpcabncmiaaGreatDoorDsH
import Derived.Defers
import Derived.Recover
import Derived.Stop.Asserts
set_option linter.unusedVariables false
set_option linter.unusedSimpArgs false
set_option maxRecDepth 100000
set_option maxHeartbeats 1000000
namespace Go.Proofs.YtllhhpcabncmiaaGreatDoor
namespace Pr
open Go.ChangeShapes Go.WideShapes Go.ChangeAt Go.RowKit
open Base Lx Mi Piece
section
variable {B R M:Nat} {vl vn:Value} {vs:List V3} {s:PS}
theorem Rs.mapped {w w':World} {cnt n:Nat} {x:ByteArray} (h:Rs B w R M vl vn vs s) (hm:MapU Tryz.prog 9 3 w' M cnt (fun y=>if y=x then some n else s.nm y)) (hg:w.grownBy w' (some M)) (hc:cnt+s.l.length≤2000) (hn:n<s.ns.length):Rs B w' R M vl vn vs { s with nm:=fun y=>if y=x then some n else s.nm y }:=by
 have hch:Chg (fun k=>some M=some k) w w':=Chg.ofGrown hg
 obtain⟨hsub,hRM,hnR,hnM⟩:=h.sep
 obtain⟨tg,off,cap,e,h1,h2,h3,h4⟩:=h.toks
 obtain⟨cnt0,h5,h6⟩:=h.named
 have hlow:∀b,b<B→¬some M=some b:=fun b hb e=>by injection e with e;have:=h.hM;omega
 refine⟨hch.blk h.blk (fun e=>by injection e with e;exact hRM e.symm),⟨tg,off,cap,e,Rd.chg h1 hch (fun a e=>by injection e with e;subst e;exact hlow tg h4),h2,h3,h4⟩,⟨h.nds.len,own_chg h.nds.row hch (fun k hk e=>hnM (by rw[hk];exact e.symm)),fun i d v q1 q2=>?_⟩,⟨cnt,hm,hc⟩,fun y m hy=>?_,h.tok,h.tl,h.ts,h.nl,h.hR,h.hM,Rd.chg h.wd hch (fun a e=>by injection e with e;subst e;exact hlow 0 h.hw),h.hw⟩
 ·obtain⟨a1,a2,a3⟩:=hsub i d v q1 q2
  exact (h.nds.sub i d v q1 q2).chg hch (fun k hk e=>a1 k hk (.inr (.inl (by injection e with e;exact e.symm)))) (fun k hk e=>a2 k hk (.inr (.inl (by injection e with e;exact e.symm)))) (fun k hk e=>a3 k hk (.inr (.inl (by injection e with e;exact e.symm))))
 ·simp only at hy
  split at hy
  ·injection hy with hy;show m<s.ns.length;omega
  ·exact h.nmOk y m hy
theorem modify_self {α:Type} (l:List α) (n:Nat):l.modify n (fun v=>v)=l:=List.modify_id n l
set_option maxRecDepth 1000000 in
set_option maxHeartbeats 2000000 in
theorem defined_any {deep fuel:Nat} (H:TypC B R M (deep+1) fuel) (hd20:deep≤100) (n:Nat) (k:Int) (hk:k=9∨k=10∨k=11) (w:World) (h:Rs B w R M vl vn vs s) (hn:n<s.ns.length) (hB:B≤w.heap.size) :
  Calls Tryz.prog 130 #[.pointer (some ⟨R,0,none⟩),.int .i64 (n:Int),.int .i64 k,.int .i64 (deep:Int)] w fun e w'=>PW B R M w vn vs (fun _=>.tuple #[]) (definedR (typedR fuel) s n k) e w':=by
 obtain⟨q,hq⟩:∃z,Hid (w.heap.size=z):=⟨_,rfl⟩
 obtain⟨w0,hw0⟩:∃z,Hid (w.alloc (.cells #[.pointer (some ⟨R,0,none⟩)] 144)=z):=⟨_,rfl⟩
 have hx0:Ext w w0:=by rw[←hw0.out];exact (Ext.refl w).alloc _
 have hbq0:Blk w0 q #[.pointer (some ⟨R,0,none⟩)] 144:=by rw[←hw0.out,←hq.out];exact Blk.new w _ _
 have h0:=h.ext hx0
 have hqR:¬q=R:=blk_ne hbq0 h0.blk (by decide)
 have hsz:=nameR_hd h
 have e0:w0.cell? ⟨q,0,none⟩=some (.pointer (some ⟨R,0,none⟩)):=hbq0.cell 0
 have hnm:=name_defined (fun x=>(s.nm x).isSome) ⟨q,0,none⟩ w0 h0 (Nat.le_trans hsz (by omega)) (fun W hW x hx=>(defined1_any x ⟨q,0,none⟩ W (h0.ext hW) (by rw[hx];unfold maxLen;omega) (hW.cell e0)).mono fun e w' ⟨he,hw⟩=>⟨he,by subst hw;exact Ext.refl _⟩)
 obtain⟨R0,hR0⟩:∃r,Hid (definedR (typedR fuel) s n k=r):=⟨_,rfl⟩
 rw[hR0.out]
 obtain⟨PO,hPO⟩:∃PO:Ending→World→Prop,Hid ((fun e w'=>PW B R M w vn vs (fun _=>.tuple #[]) R0 e w')=PO):=⟨_,rfl⟩
 rw[hPO.out]
 go_enter Tryz.func130,Tryz.ntmps130
 go_wp2_with fail
 rw[hw0.out,hq.out]
 refine hnm.mono ?_
 intro e w1 hpl
 rcases hpl.cases with⟨x,s1,vl1,hr1,rfl,hc1,h1⟩|⟨at_,why,hr1,rfl,hc1⟩
 ·obtain⟨hk1,z1,z2,z3,z4,hs1⟩:=nameR_ok hr1.out
  subst hs1
  have hol:=on_len (k0_pos hk1)
  have hxl:x.size≤maxLen:=by rw[z4];unfold maxLen;omega
  have hxl2:x.size≤4096:=by rw[z4];omega
  have hn1:n<s.on.ns.length:=hn
  have hbq1:=hc1.blk hbq0 hqR
  have hchN:Chg (fun k=>k=R) w w1:=(Chg.ofExt hx0).trans hc1 (fun _ _ e=>e)
  obtain⟨cnt,hm,hcnt⟩:=h0.named
  have hm1:=map_chg hm hc1 (fun e=>h0.sep.2.1 e.symm)
  have hres:R0=(if k=9 then (mustR (s.on.called n x) cLt).bind fun _ s3=>symsR n s3.l.length [] s3
   else if k=10 then
    (if (hd (s.on.called n x).l).k≠1∨numO (hd (s.on.called n x).l).s.data.toList=none then failR (s.on.called n x) 4
    else .ok () ((s.on.called n x).on.setN n fun d=>{ d with size:=((numO (hd (s.on.called n x).l).s.data.toList).getD 0:Nat) }))
   else (mustR (s.on.called n x) cCuO).bind fun _ s3=>fieldsR (typedR fuel) n s3.l.length [] s3):=by rw[←hR0.out,definedR,hr1.out];rfl
  have Hres:=Lib.hid hres
  have e1:w1.cell? ⟨q,0,none⟩=some (.pointer (some ⟨R,0,none⟩)):=hbq1.cell 0
  clear hres hm hnm z1 z2 z3 z4 hk1 h0 e0
  obtain⟨b,c,cur,rfl,hbB,hgb,hk1,hk2,hk3,hk4⟩:=h1.rowb n hn1
  obtain⟨d,v,b',c',hd1,hv1,eb,_,_,hcell⟩:=h1.node n hn1
  injection eb with eb eb1 eb2
  simp only[Option.some.injEq,Addr.mk.injEq,and_true] at eb
  subst eb;subst eb2
  have q1:w1.cell? ⟨R,1,none⟩=some (.slice (some ⟨b,0,none⟩) s.on.ns.length c):=h1.cells.2.1
  have q4:w1.cell? ⟨b,n*6+1,none⟩=some (.string d.name):=hcell _ (Ext.refl _) 1 (by omega)
  have f4:=hgb.frozen (n*6+1)
  have hfill:=h1.fill hn1 (i:=1) (by omega) (fun d=>{ d with name:=x }) (fun v=>v) (.string x) (fun d0 v0 q5 q6=>⟨rfl,by
   have hs:=h1.nds.sub n d0 v0 q5 q6
   exact⟨hs.syms,hs.items,hs.fields⟩⟩)
  rw[modify_self] at hfill
  obtain⟨nn,hnn⟩:∃z,Hid (s.on.ns.length=z):=⟨_,rfl⟩
  rw[hnn.out] at q1 hfill
  have hnI:(n:Int)<(nn:Int):=by have:=hnn.out;omega
  obtain⟨w2,hw2⟩:∃z,Hid (w1.setCell ⟨b,n*6+1,none⟩ (.string x)=z):=⟨_,rfl⟩
  rw[hw2.out] at hfill
  obtain⟨_,hRM,hnR,hnM⟩:=h1.sep
  have hbM:¬M=b:=fun e=>hnM (by rw[e];rfl)
  have hbq:¬b=q:=fun e=>by have:=hgb;rw[e] at this;exact blk_ne this hbq1 (by decide) rfl
  have hbR:¬b=R:=fun e=>hnR (by rw[e];rfl)
  have hch2:Chg (fun k=>k=b) w1 w2:=by rw[←hw2.out];exact Chg.one w1 b (n*6+1) _
  have hbq2:=hch2.blk hbq1 (fun e=>hbq e.symm)
  have hm2:=map_chg hm1 hch2 hbM
  obtain⟨w3,hrun,hm3,hg3⟩:=hm2.store mt (by unfold maxLen;omega) x hxl n (by have:=hnn.out;have:=h1.nl;omega)
  have hch3:Chg (fun k=>some M=some k) w2 w3:=Chg.ofGrown hg3
  have h3:=hfill.mapped hm3 hg3 (by show cnt+1+s.on.l.length≤2000;omega) (by show n<(s.on.setN n _).ns.length;rw[setN_len];exact hn1)
  have hMq:¬M=q:=hm2.not_cells hbq2
  have hbq3:=hch3.blk hbq2 (fun e=>hMq (by injection e))
  have e2:w2.cell? ⟨q,0,none⟩=some (.pointer (some ⟨R,0,none⟩)):=hbq2.cell 0
  have e3:w3.cell? ⟨q,0,none⟩=some (.pointer (some ⟨R,0,none⟩)):=hbq3.cell 0
  have cM:w2.cell? ⟨R,2,none⟩=some (.map (some M)):=hfill.cells.2.2.1
  have hchT:Chg (Wr R M (.slice (some ⟨b,0,none⟩) nn c)) w w3:=by
   refine Chg.trans (hchN.mono (fun k _ e=>.inl e)) (Chg.trans (S:=fun k=>k=b∨k=M) (hch2.mono (fun k _ e=>.inl e)) hch3 (fun k _ e=>.inr (by injection e with e;exact e.symm))) ?_
   rintro k _ (e|e)
   ·exact .inr (.inr (by rw[e];rfl))
   ·exact .inr (.inl e)
  have hB3:B≤w3.heap.size:=by have:=hchT.size;omega
  have hn3:n<(s.on.called n x).ns.length:=by show n<(s.on.setN n _).ns.length;rw[setN_len];exact hn1
  have h3:Rs B w3 R M vl1 (.slice (some ⟨b,0,none⟩) nn c) vs (s.on.called n x):=h3
  rw[←hw2.out] at e2 cM hrun
  clear hm1 hm2 hm3 hg3 hfill hbq2 hcell
  rcases hk with rfl|rfl|rfl
  ·have hcall:=syms_any n w3 h3 hn3 hB3
   have hres:R0=(mustR (s.on.called n x) cLt).bind fun _ s3=>symsR n s3.l.length [] s3:=by rw[Hres.out,if_pos rfl]
   rw[←hres] at hcall
   clear Hres
   go_wp2_with fail
   refine hcall.mono ?_
   intro e w4 hpw
   have hfin:PW B R M w (.slice (some ⟨b,0,none⟩) s.on.ns.length c) vs (fun _=>.tuple #[]) R0 e w4:=by rw[hnn.out];exact PW.after hchT (.inl rfl) (SF.refl _ _) hpw
   rcases hpw.cases with⟨_,s5,vl5,vn5,vs5,hr5,rfl,_⟩|⟨at_,why,hr5,rfl,_⟩
   ·go_wp2_with fail
    go_end0
    rw[←hPO.out]
    exact hfin
   ·go_wp2_with fail
    rw[←hPO.out]
    exact⟨rfl,hfin⟩
  ·obtain⟨tg,off,cap,rfl,hp,hnc,hcm,hh⟩:=h3.head
   obtain⟨S2,hS2⟩:∃z,Hid (s.on.called n x=z):=⟨_,rfl⟩
   have hns2:s.on.ns.length=S2.ns.length:=by rw[←hS2.out];exact (setN_len s.on n _).symm
   have hres:R0=(if (hd S2.l).k≠1∨numO (hd S2.l).s.data.toList=none then failR S2 4
    else .ok () (S2.on.setN n fun d=>{ d with size:=((numO (hd S2.l).s.data.toList).getD 0:Nat) })):=by rw[←hS2.out,Hres.out,if_neg (by decide),if_pos rfl]
   clear Hres
   rw[hS2.out] at h3 hp hnc hh hn3
   obtain⟨t,ht⟩:∃z,Hid (hd S2.l=z):=⟨_,rfl⟩
   obtain⟨ln,hln⟩:∃z,Hid (S2.l.length=z):=⟨_,rfl⟩
   have htz:=nameR_hd h3
   rw[ht.out] at hh hres htz
   rw[hln.out] at hp hnc
   obtain⟨o,ho⟩:∃z,Hid (numO t.s.data.toList=z):=⟨_,rfl⟩
   rw[ho.out] at hres
   have Hres:=Lib.hid hres
   clear hres
   have hnum:=number_any t.s (Nat.le_trans htz (by omega)) w3
   rw[ho.out] at hnum
   have cR:∀W,Ext w3 W→W.cell? ⟨R,0,none⟩=some (.slice (some ⟨tg,off,none⟩) ln cap):=fun W hW=>by rw[←hln.out];exact (h3.ext hW).cells.1
   have cq:∀W,Ext w3 W→W.cell? ⟨q,0,none⟩=some (.pointer (some ⟨R,0,none⟩)):=fun W hW=>(hbq3.ext hW).cell 0
   have cR3:=cR w3 (Ext.refl _)
   obtain⟨a0,a1,a2⟩:=hh w3 (Ext.refl _)
   have hi1:1≤ln:=hp
   have hi2:(0:Int)<(ln:Int):=by omega
   go_wp2_with fail
   refine hnum.mono ?_
   rintro e w4 ⟨rfl,hx4⟩
   have h4:=h3.ext hx4
   have hf:=fail_any 4 w4 h4
   rw[ht.out] at hf
   have cR4:=cR w4 hx4
   have cq4:=cq w4 hx4
   obtain⟨b0,b1,b2⟩:=hh w4 hx4
   have hchT4:=hchT.trans (Chg.ofExt (S:=fun _=>False) hx4) (fun _ _ e=>e.elim)
   have hbad:R0=failR S2 4→PW B R M w (.slice (some ⟨b,0,none⟩) nn c) vs (fun _=>.tuple #[]) R0 (.panicked [{ v:=.iface 142 (.agg #[.int .i64 (t.a:Int),.int .i64 4]),recovered:=false }]) w4:=fun e=>PW.badI (by rw[e];unfold failR;rw[ht.out]) rfl hchT4
   rw[←hnn.out] at hbad
   clear a0 a1 a2 hnum e3 cR3 hrun e2 cM q1 q4 f4
   by_cases hk1:t.k=1
   ·rw[hk1] at b0
    cases o with
    | none=>
     have hr0:R0=failR S2 4:=by rw[Hres.out];simp
     rw[show numV none=Value.tuple #[.int .i64 0,.bool false] from rfl]
     go_wp2_with fail
     refine hf.mono ?_
     rintro e w5 ⟨rfl,rfl⟩
     go_wp2_with fail
     rw[←hPO.out]
     exact⟨rfl,hbad hr0⟩
    | some v2=>
     have hr0:R0=.ok () (S2.on.setN n fun d=>{ d with size:=(v2:Int) }):=by rw[Hres.out];simp[hk1]
     have hk3:(hd S2.l).k≠3:=by rw[ht.out,hk1];decide
     have hc1:¬cap=1:=by
      have:=(h4.tok.tail hk3).2;have:=(h4.tok.tail hk3).1.pos;have:=hln.out;omega
     have hcI:(1:Int)≤(ln:Int):=by omega
     have Hk3:=Lib.hid hk3
     clear Hres hk3 hbad hf
     have cR5:∀W,Ext w4 W→W.cell? ⟨R,0,none⟩=some (.slice (some ⟨tg,off,none⟩) ln cap):=fun W hW=>cR W (hx4.trans hW)
     have cq5:∀W,Ext w4 W→W.cell? ⟨q,0,none⟩=some (.pointer (some ⟨R,0,none⟩)):=fun W hW=>cq W (hx4.trans hW)
     rw[show numV (some v2)=Value.tuple #[.int .i64 (v2:Int),.bool true] from rfl]
     go_wp2_with fail
     refine Reg.startE (by kernel_rfl) ?_
     iterate 8 ((first|refine Reg.tn ?_|refine Reg.sn ?_);(try simp only[Reg.nn]))
     refine Reg.last 8 _ rfl (by kernel_rfl) (by kernel_rfl) (by kernel_rfl) (by decide) (by rfl) (fun W hW K hK=>?_)
     have fR:=((h4.ext hW).cells.2.2.2.1)
     go_simp
     refine hK.out _ _ ?_;clear hK K;(try simp only[Reg.nn])
     have hon:=(h4.ext hW).on Hk3.out
     rw[hln.out] at hon
     have hbqW:=(Chg.one W R 0 (.slice (some ⟨tg,off+3,none⟩) (ln-1) (cap-1))).blk ((hbq3.ext hx4).ext hW) hqR
     have eq5:(W.setCell ⟨R,0,none⟩ (.slice (some ⟨tg,off+3,none⟩) (ln-1) (cap-1))).cell? ⟨q,0,none⟩=some (.pointer (some ⟨R,0,none⟩)):=hbqW.cell 0
     rw[←hnn.out,hns2] at hon
     have hn5:n<S2.on.ns.length:=hn3
     obtain⟨d5,v5,b5,c5,hd5,hv5,eb5,_,_,hcell5⟩:=hon.node n hn5
     injection eb5 with eb5 eb51 eb52
     simp only[Option.some.injEq,Addr.mk.injEq,and_true] at eb5
     subst eb5;subst eb52
     obtain⟨b6,c6,cur6,e6,_,hgb6,_⟩:=hon.rowb n hn5
     injection e6 with e6 e61 e62
     simp only[Option.some.injEq,Addr.mk.injEq,and_true] at e6
     subst e6;subst e62
     have q15:=hon.cells.2.1
     have q45:=hcell5 _ (Ext.refl _) 2 (by omega)
     have f45:=hgb6.frozen (n*6+2)
     have hfill5:=hon.fill hn5 (i:=2) (by omega) (fun d=>{ d with size:=(v2:Int) }) (fun v=>v) (.int .i64 (v2:Int)) (fun d0 v0 q5 q6=>⟨rfl,by
      have hs:=hon.nds.sub n d0 v0 q5 q6
      exact⟨hs.syms,hs.items,hs.fields⟩⟩)
     rw[modify_self] at hfill5
     have hnn5:S2.ns.length=nn:=by rw[←hns2];exact hnn.out
     have q15:(W.setCell ⟨R,0,none⟩ (.slice (some ⟨tg,off+3,none⟩) (ln-1) (cap-1))).cell? ⟨R,1,none⟩=some (.slice (some ⟨b,0,none⟩) nn c):=by rw[←hnn5];exact q15
     have q45:(W.setCell ⟨R,0,none⟩ (.slice (some ⟨tg,off+3,none⟩) (ln-1) (cap-1))).cell? ⟨b,n*6+2,none⟩=some (.int .i64 d5.size):=q45
     have hchT6:Chg (Wr R M (.slice (some ⟨b,0,none⟩) nn c)) w ((W.setCell ⟨R,0,none⟩ (.slice (some ⟨tg,off+3,none⟩) (ln-1) (cap-1))).setCell ⟨b,n*6+2,none⟩ (.int .i64 (v2:Int))):=((hchT4.trans (Chg.ofExt (S:=fun _=>False) hW) (fun _ _ e=>e.elim)).set (p:=⟨R,0,none⟩) (.inl (.inl rfl)) _).set (p:=⟨b,n*6+2,none⟩) (.inl (.inr (.inr rfl))) _
     have hfin:PW B R M w (.slice (some ⟨b,0,none⟩) s.on.ns.length c) vs (fun _=>.tuple #[]) R0 (.returned (.tuple #[])) ((W.setCell ⟨R,0,none⟩ (.slice (some ⟨tg,off+3,none⟩) (ln-1) (cap-1))).setCell ⟨b,n*6+2,none⟩ (.int .i64 (v2:Int))):=by
      rw[hnn.out]
      exact PW.okI hr0 rfl hchT6 hfill5 (.inl rfl) (SF.refl _ _)
     clear hcell5 hfill5 hon hh cR cq cR5 cq5
     go_wp2_with fail
     go_end0
     rw[←hPO.out]
     exact hfin
   ·have hkb:((t.k:Int) == 1)=false:=by simpa using hk1
    have hkn:((t.k:Int) != 1)=true:=by simpa using hk1
    have hr0:R0=failR S2 4:=by rw[Hres.out];simp[hk1]
    cases o with
    | none=>
     rw[show numV none=Value.tuple #[.int .i64 0,.bool false] from rfl]
     go_wp2_with fail
     refine hf.mono ?_
     rintro e w5 ⟨rfl,rfl⟩
     go_wp2_with fail
     rw[←hPO.out]
     exact⟨rfl,hbad hr0⟩
    | some v2=>
     rw[show numV (some v2)=Value.tuple #[.int .i64 (v2:Int),.bool true] from rfl]
     go_wp2_with fail
     refine hf.mono ?_
     rintro e w5 ⟨rfl,rfl⟩
     go_wp2_with fail
     rw[←hPO.out]
     exact⟨rfl,hbad hr0⟩
  ·have hcall:=fields_any H hd20 n w3 h3 hn3 hB3
   have hres:R0=(mustR (s.on.called n x) cCuO).bind fun _ s3=>fieldsR (typedR fuel) n s3.l.length [] s3:=by rw[Hres.out,if_neg (by decide),if_neg (by decide)]
   rw[←hres] at hcall
   clear Hres
   go_wp2_with fail
   refine hcall.mono ?_
   intro e w4 hpw
   have hfin:PW B R M w (.slice (some ⟨b,0,none⟩) s.on.ns.length c) vs (fun _=>.tuple #[]) R0 e w4:=by rw[hnn.out];exact PW.after hchT (.inl rfl) (SF.refl _ _) hpw
   rcases hpw.cases with⟨_,s5,vl5,vn5,vs5,hr5,rfl,_⟩|⟨at_,why,hr5,rfl,_⟩
   ·go_wp2_with fail
    go_end0
    rw[←hPO.out]
    exact hfin
   ·go_wp2_with fail
    rw[←hPO.out]
    exact⟨rfl,hfin⟩
 ·go_wp2_with fail
  refine⟨rfl,?_⟩
  rw[←hPO.out]
  exact PW.badI (by rw[←hR0.out,definedR,hr1.out];rfl) rfl (((Chg.ofExt hx0).trans hc1 (fun _ _ e=>e)).mono fun k _ e=>.inl e)
end
def restR:Nat→PS→Int→Res Nat
 | 0,s,_=>failR s 4
 | fuel+1,s,k=>
  let n:=s.ns.length
  let s1:PS:={ s.on with ns:=s.ns++[Nd.ofKind k] }
  if k=6 then (itemR (typedR fuel) s1 n cSqC).bind fun _ s2=>.ok n s2
  else if k=7 then (itemR (typedR fuel) s1 n cCuC).bind fun _ s2=>.ok n s2
  else if k=8 then (unionR (typedR fuel) n s1.l.length [] s1).bind fun _ s2=>.ok n s2
  else if k=9∨k=10∨k=11 then (definedR (typedR fuel) s1 n k).bind fun _ s2=>.ok n s2
  else .ok n s1
theorem typedR_eq (fuel:Nat) (union:Bool) (ahead:List Nat) (s:PS):typedR fuel union ahead s=match kindR s with
  | none=>failR s 4
  | some k=>match gateR fuel union ahead s k (s.nm (hd s.l).s) with
   | some why=>failR s why
   | none=>if k<0 then .ok ((s.nm (hd s.l).s).getD 0) s.on else restR fuel s k:=by
 cases fuel with
 | zero=>
  rw[typedR]
  cases kindR s with
  | none=>rfl
  | some k=>
   simp only []
   cases gateR 0 union ahead s k (s.nm (hd s.l).s) with
   | some y=>rfl
   | none=>rfl
 | succ f=>
  rw[typedR]
  cases kindR s with
  | none=>rfl
  | some k=>
   simp only []
   cases gateR (f+1) union ahead s k (s.nm (hd s.l).s) with
   | some y=>rfl
   | none=>rfl
theorem kindR_k3 {s:PS} {k:Int} (h:kindR s=some k):(hd s.l).k≠3:=by
 unfold kindR at h
 split at h
 ·next ht=>exact isT_k ht
 ·split at h
  ·next ht=>exact isT_k ht
  ·split at h
   ·next ht=>exact isT_k ht
   ·split at h
    ·cases h
    ·next hk=>intro e;rw[e] at hk;simp at hk
def sndN:Nat→Code→Code
 | 0,c=>c
 | n+1,.seq _ b=>sndN n b
 | _,c=>c
noncomputable def tyTail:Code:=match Tryz.f114.body with
 | some c=>sndN 4 c
 | none=>.skip
set_option maxRecDepth 1000000 in
theorem lay138 {v0 v1 v2 v3 v4 v5 v6 v7 v8 v9 v10 v11 v12:Value} {a:Act} (h:Piece.Fr 138 [v0,v1,v2,v3,v4,v5,v6,v7,v8,v9,v10,v11,v12] a):∃u:Nat→Value,a=⟨(v0::v1::v2::v3::v4::v5::v6::v7::v8::v9::v10::v11::v12::u 13::u 14::u 15::u 16::u 17::u 18::u 19::u 20::u 21::u 22::u 23::u 24::u 25::u 26::u 27::u 28::u 29::u 30::u 31::u 32::u 33::u 34::u 35::u 36::u 37::u 38::u 39::u 40::u 41::u 42::u 43::u 44::u 45::u 46::u 47::u 48::u 49::u 50::u 51::u 52::u 53::u 54::u 55::u 56::u 57::u 58::u 59::u 60::u 61::u 62::u 63::u 64::u 65::u 66::u 67::u 68::u 69::u 70::u 71::u 72::u 73::u 74::u 75::u 76::u 77::u 78::u 79::u 80::u 81::u 82::u 83::u 84::u 85::u 86::u 87::u 88::u 89::u 90::u 91::u 92::u 93::u 94::u 95::u 96::u 97::u 98::u 99::u 100::u 101::u 102::u 103::u 104::u 105::u 106::u 107::u 108::u 109::u 110::u 111::u 112::u 113::u 114::u 115::u 116::u 117::u 118::u 119::u 120::u 121::u 122::u 123::u 124::u 125::u 126::u 127::u 128::u 129::u 130::u 131::u 132::u 133::u 134::u 135::u 136::u 137::[]).toArray,[]⟩:=by
 obtain⟨u,hu⟩:=h.spread
 refine⟨u,hu.trans ?_⟩
 kernel_rfl
section
variable {B R M:Nat} {vl vn:Value} {vs:List V3} {s:PS}
set_option maxRecDepth 1000000 in
set_option maxHeartbeats 2000000 in
theorem typedTail {Q:Exit→Act→World→Prop} {deep f:Nat} (H:TypC B R M (deep+1) f) (hd20:deep≤100) (a:Act) (w w4:World) (q p10 m:Nat) (k:Int) (v2 v3 v5 v6 v7 v8 v9 v12:Value) (R0:Res Nat)
  (hF:Fr 138 [.pointer (some ⟨R,0,none⟩),.int .i64 (deep:Int),v2,v3,.pointer (some ⟨q,0,none⟩),v5,v6,v7,v8,v9,.pointer (some ⟨p10,0,none⟩),.int .i64 (m:Int),v12] a)
  (h:Rs B w4 R M vl vn vs s) (hbq:Blk w4 q #[.pointer (some ⟨R,0,none⟩)] 144) (hb10:Blk w4 p10 #[.int .i64 k] 3) (hx:Ext w w4) (hB:B≤w.heap.size) (hq:w.heap.size≤q) (hp10:w.heap.size≤p10)
  (hvn:∀k,vn.ownBlock=some k→k<w.heap.size)
  (hk:kindR s=some k) (hres:R0=if k<0 then .ok m s.on else restR (f+1) s k) (hn:k<0∨s.ns.length≤199)
  (hP:∀c (a a2:Act) w,Q (.panic c) a w→∀(hd:a2.defers=a.defers:=by rfl),Q (.panic c) a2 w)
  (hRet:∀a' w',a'.defers=[]→PW B R M w vn vs (fun n:Nat=>.int .i64 (n:Int)) R0 (.returned (a'.tmps.getD 8 undef)) w'→Q .ret a' w')
  (hPan:∀c a' w',a'.defers=[]→PW B R M w vn vs (fun n:Nat=>.int .i64 (n:Int)) R0 (.panicked c) w'→Q (.panic c) a' w') :
  tyTail.wp Tryz.prog Q a w4:=by
 obtain⟨u,rfl⟩:=lay138 hF
 clear hF
 conv=>arg 2;whnf
 have hk3:=kindR_k3 hk
 obtain⟨krl,krh⟩:=kindR_rng hk
 have Hk:=Lib.hid hk
 clear hk
 obtain⟨tg,off,cap,rfl,hp,hnc,hcm,hh⟩:=h.head
 clear hh
 obtain⟨ln,hln⟩:∃z,Hid (s.l.length=z):=⟨_,rfl⟩
 have hl1:=(h.tok.tail hk3).2
 have hl2:=(h.tok.tail hk3).1.pos
 rw[hln.out] at hp hnc hl1
 have hi1:1≤ln:=hp
 have hc1:¬cap=1:=by omega
 have hcI:(1:Int)≤(ln:Int):=by omega
 have Hk3:=Lib.hid hk3
 have Hres:=Lib.hid hres
 clear hk3 hres hl1 hl2
 have hqR:¬q=R:=blk_ne hbq h.blk (by decide)
 have hpR:¬p10=R:=blk_ne hb10 h.blk (by decide)
 have cq:∀W,Ext w4 W→W.cell? ⟨q,0,none⟩=some (.pointer (some ⟨R,0,none⟩)):=fun W hW=>(hbq.ext hW).cell 0
 have cR:∀W,Ext w4 W→W.cell? ⟨R,0,none⟩=some (.slice (some ⟨tg,off,none⟩) ln cap):=fun W hW=>by rw[←hln.out];exact (h.ext hW).cells.1
 go_wp2_with fail
 refine Reg.startE (by kernel_rfl) ?_
 iterate 8 ((first|refine Reg.tn ?_|refine Reg.sn ?_);(try simp only[Reg.nn]))
 refine Reg.last 8 _ rfl (by kernel_rfl) (by kernel_rfl) (by kernel_rfl) (by decide) (by rfl) (fun W hW K hK=>?_)
 have fR:=((h.ext hW).cells.2.2.2.1)
 go_simp
 refine hK.out _ _ ?_;clear hK K;(try simp only[Reg.nn])
 have hon:=(h.ext hW).on Hk3.out
 rw[hln.out] at hon
 have hch5:Chg (Wr R M vn) w (W.setCell ⟨R,0,none⟩ (.slice (some ⟨tg,off+3,none⟩) (ln-1) (cap-1))):=(Chg.ofExt (hx.trans hW)).set (p:=⟨R,0,none⟩) (.inl (.inl rfl)) _
 have hbq5:=(Chg.one W R 0 (.slice (some ⟨tg,off+3,none⟩) (ln-1) (cap-1))).blk (hbq.ext hW) hqR
 have hb10_5:=(Chg.one W R 0 (.slice (some ⟨tg,off+3,none⟩) (ln-1) (cap-1))).blk (hb10.ext hW) hpR
 clear cq cR hbq hb10 h
 obtain⟨w5,hw5⟩:∃z,Hid (W.setCell ⟨R,0,none⟩ (.slice (some ⟨tg,off+3,none⟩) (ln-1) (cap-1))=z):=⟨_,rfl⟩
 rw[hw5.out] at hon hch5 hbq5 hb10_5
 have e10:w5.cell? ⟨p10,0,none⟩=some (.int .i64 k):=hb10_5.cell 0
 have eq:w5.cell? ⟨q,0,none⟩=some (.pointer (some ⟨R,0,none⟩)):=hbq5.cell 0
 rw[←hw5.out] at e10 eq
 by_cases hk0:k<0
 ·have hres:R0=.ok m s.on:=by rw[Hres.out,if_pos hk0]
  go_wp2_with fail
  rw[hw5.out]
  exact hRet _ _ rfl (PW.okI hres rfl hch5 hon (.inl rfl) (SF.refl _ _))
 ·have hk0':(0:Int)≤k:=by omega
  have hres:R0=restR (f+1) s k:=by rw[Hres.out,if_neg hk0]
  clear Hres
  have hn9:s.on.ns.length≤199:=by show s.ns.length≤199;omega
  have hsz5:=hch5.size
  have hbeg:=begins_any k w5 hon hn9 (by omega)
  obtain⟨n,hnn⟩:∃z,Hid (s.on.ns.length=z):=⟨_,rfl⟩
  rw[hnn.out] at hbeg
  go_wp2_with fail
  rw[hw5.out]
  refine hbeg.mono ?_
  rintro e w6 ⟨rfl,hch6',vn6,vs6,h6,hf6,hg6⟩
  have hch6:Chg (Wr R M vn) w w6:=hch5.trans hch6' (fun k _ e=>e)
  have hnW:∀z,w.heap.size≤z→¬z=R→¬z=M→¬Wr R M vn z:=fun z hz h1 h2 e=>by
   rcases e with e|e|e
   ·exact h1 e
   ·exact h2 e
   ·have:=hvn z e;omega
  obtain⟨cnt,hm5,_⟩:=hon.named
  have hbq6:=hch6'.blk hbq5 (hnW q hq hqR (fun e=>hm5.not_cells hbq5 e.symm))
  have hb10_6:=hch6'.blk hb10_5 (hnW p10 hp10 hpR (fun e=>hm5.not_cells hb10_5 e.symm))
  have e10':w6.cell? ⟨p10,0,none⟩=some (.int .i64 k):=hb10_6.cell 0
  have eq':w6.cell? ⟨q,0,none⟩=some (.pointer (some ⟨R,0,none⟩)):=hbq6.cell 0
  have hB6:B≤w6.heap.size:=by have:=hch6.size;omega
  have hf6:Fresh w vn vn6:=hf6.imp (fun e=>e) (fun ⟨k,e,hk⟩=>⟨k,e,by omega⟩)
  have hg6:SF w vs vs6:=(SF.refl w vs).trans hg6 hsz5
  clear hm5 hbq6 hb10_6 hbq5 hb10_5 e10 eq hbeg hon hch6' hch5
  obtain⟨s1,hs1⟩:∃z:PS,Hid (({ s.on with ns:=s.on.ns++[Nd.ofKind k] }:PS)=z):=⟨_,rfl⟩
  rw[hs1.out] at h6
  have hlt:n<s1.ns.length:=by rw[←hs1.out,←hnn.out];simp
  have hres:R0=(if k=6 then (itemR (typedR f) s1 n cSqC).bind fun _ s2=>.ok n s2
   else if k=7 then (itemR (typedR f) s1 n cCuC).bind fun _ s2=>.ok n s2
   else if k=8 then (unionR (typedR f) n s1.l.length [] s1).bind fun _ s2=>.ok n s2
   else if k=9∨k=10∨k=11 then (definedR (typedR f) s1 n k).bind fun _ s2=>.ok n s2
   else .ok n s1):=by rw[hres,←hs1.out,←hnn.out];rfl
  by_cases k6:k=6
  ·subst k6
   rw[if_pos rfl] at hres
   have hcall:=item_any H hd20 n cSqC w6 h6 hlt hB6
   go_wp2_with fail
   refine hcall.mono ?_
   intro e w7 hpw
   rcases hpw.cases with⟨_,s7,vl7,vn7,vs7,hr7,rfl,hc7,h7,hf7,hg7⟩|⟨at_,why,hr7,rfl,hc7⟩
   ·go_wp2_with fail
    refine hRet _ _ rfl ?_
    exact PW.after hch6 hf6 hg6 (PW.okI (by rw[hres,hr7.out];rfl) rfl hc7 h7 hf7 hg7)
   ·go_wp2_with fail
    refine hPan _ _ _ rfl ?_
    exact PW.after hch6 hf6 hg6 (PW.badI (by rw[hres,hr7.out];rfl) rfl hc7)
  by_cases k7:k=7
  ·subst k7
   rw[if_neg (by decide),if_pos rfl] at hres
   have hcall:=item_any H hd20 n cCuC w6 h6 hlt hB6
   go_wp2_with fail
   refine hcall.mono ?_
   intro e w7 hpw
   rcases hpw.cases with⟨_,s7,vl7,vn7,vs7,hr7,rfl,hc7,h7,hf7,hg7⟩|⟨at_,why,hr7,rfl,hc7⟩
   ·go_wp2_with fail
    refine hRet _ _ rfl ?_
    exact PW.after hch6 hf6 hg6 (PW.okI (by rw[hres,hr7.out];rfl) rfl hc7 h7 hf7 hg7)
   ·go_wp2_with fail
    refine hPan _ _ _ rfl ?_
    exact PW.after hch6 hf6 hg6 (PW.badI (by rw[hres,hr7.out];rfl) rfl hc7)
  by_cases k8:k=8
  ·subst k8
   rw[if_neg (by decide),if_neg (by decide),if_pos rfl] at hres
   have hcall:=union_any H hd20 n w6 h6 hlt hB6
   go_wp2_with fail
   refine hcall.mono ?_
   intro e w7 hpw
   rcases hpw.cases with⟨_,s7,vl7,vn7,vs7,hr7,rfl,hc7,h7,hf7,hg7⟩|⟨at_,why,hr7,rfl,hc7⟩
   ·go_wp2_with fail
    refine hRet _ _ rfl ?_
    exact PW.after hch6 hf6 hg6 (PW.okI (by rw[hres,hr7.out];rfl) rfl hc7 h7 hf7 hg7)
   ·go_wp2_with fail
    refine hPan _ _ _ rfl ?_
    exact PW.after hch6 hf6 hg6 (PW.badI (by rw[hres,hr7.out];rfl) rfl hc7)
  by_cases k9:k=9
  ·subst k9
   rw[if_neg (by decide),if_neg (by decide),if_neg (by decide),if_pos (by decide)] at hres
   have hcall:=defined_any H hd20 n 9 (by decide) w6 h6 hlt hB6
   go_wp2_with fail
   refine hcall.mono ?_
   intro e w7 hpw
   rcases hpw.cases with⟨_,s7,vl7,vn7,vs7,hr7,rfl,hc7,h7,hf7,hg7⟩|⟨at_,why,hr7,rfl,hc7⟩
   ·go_wp2_with fail
    refine hRet _ _ rfl ?_
    exact PW.after hch6 hf6 hg6 (PW.okI (by rw[hres,hr7.out];rfl) rfl hc7 h7 hf7 hg7)
   ·go_wp2_with fail
    refine hPan _ _ _ rfl ?_
    exact PW.after hch6 hf6 hg6 (PW.badI (by rw[hres,hr7.out];rfl) rfl hc7)
  by_cases k10:k=10
  ·subst k10
   rw[if_neg (by decide),if_neg (by decide),if_neg (by decide),if_pos (by decide)] at hres
   have hcall:=defined_any H hd20 n 10 (by decide) w6 h6 hlt hB6
   go_wp2_with fail
   refine hcall.mono ?_
   intro e w7 hpw
   rcases hpw.cases with⟨_,s7,vl7,vn7,vs7,hr7,rfl,hc7,h7,hf7,hg7⟩|⟨at_,why,hr7,rfl,hc7⟩
   ·go_wp2_with fail
    refine hRet _ _ rfl ?_
    exact PW.after hch6 hf6 hg6 (PW.okI (by rw[hres,hr7.out];rfl) rfl hc7 h7 hf7 hg7)
   ·go_wp2_with fail
    refine hPan _ _ _ rfl ?_
    exact PW.after hch6 hf6 hg6 (PW.badI (by rw[hres,hr7.out];rfl) rfl hc7)
  by_cases k11:k=11
  ·subst k11
   rw[if_neg (by decide),if_neg (by decide),if_neg (by decide),if_pos (by decide)] at hres
   have hcall:=defined_any H hd20 n 11 (by decide) w6 h6 hlt hB6
   go_wp2_with fail
   refine hcall.mono ?_
   intro e w7 hpw
   rcases hpw.cases with⟨_,s7,vl7,vn7,vs7,hr7,rfl,hc7,h7,hf7,hg7⟩|⟨at_,why,hr7,rfl,hc7⟩
   ·go_wp2_with fail
    refine hRet _ _ rfl ?_
    exact PW.after hch6 hf6 hg6 (PW.okI (by rw[hres,hr7.out];rfl) rfl hc7 h7 hf7 hg7)
   ·go_wp2_with fail
    refine hPan _ _ _ rfl ?_
    exact PW.after hch6 hf6 hg6 (PW.badI (by rw[hres,hr7.out];rfl) rfl hc7)
  have b6:(k == 6)=false:=by simpa using k6
  have b7:(k == 7)=false:=by simpa using k7
  have b8:(k == 8)=false:=by simpa using k8
  have b9:(k == 9)=false:=by simpa using k9
  have b10:(k == 10)=false:=by simpa using k10
  have b11:(k == 11)=false:=by simpa using k11
  rw[if_neg k6,if_neg k7,if_neg k8,if_neg (by rintro (e|e|e);exact k9 e;exact k10 e;exact k11 e)] at hres
  go_wp2_with fail
  exact hRet _ _ rfl (PW.okI hres rfl hch6 h6 hf6 hg6)
end
end Pr
namespace Reg
open Base
section
variable {P:Program} {ops:Array Oper} {Q:Exit→Act→World→Prop}
theorem triY {B:Nat} (i j k:Nat) (oi oj ok:Oper) {done:List Nat} {a:Act} {w:World} (hB:B≤w.heap.size) (hi:ops[i]?=some oi) (hj:ops[j]?=some oj) (hk:ops[k]?=some ok) (hgi:oi.guard=none) (hgj:oj.guard=none) (hgk:ok.guard=none) (hdij:oi.dst≠oj.dst) (hdik:oi.dst≠ok.dst) (hdjk:oj.dst≠ok.dst) (hij:i≠j) (hik:i≠k) (hjk:j≠k)
  (hui:a.put oi.dst undef=a) (huj:a.put oj.dst undef=a) (huk:a.put ok.dst undef=a)
  (hr:Region.ready .any ops (marked ops.size done)=[i,j,k]) (hri:Region.ready .any ops (marked ops.size (i::done))=[j,k]) (hrj:Region.ready .any ops (marked ops.size (j::done))=[i,k]) (hrk:Region.ready .any ops (marked ops.size (k::done))=[i,j])
  (hji:Region.ready .any ops (marked ops.size (j::i::done))=[k]) (hki:Region.ready .any ops (marked ops.size (k::i::done))=[j]) (hkj:Region.ready .any ops (marked ops.size (k::j::done))=[i]) (hn:done.length+2<ops.size)
  (Fi Fj Fk:Value→World→Prop) (si:∀v w1 w2,Fi v w1→Ext w1 w2→Fi v w2) (sj:∀v w1 w2,Fj v w1→Ext w1 w2→Fj v w2) (sk:∀v w1 w2,Fk v w1→Ext w1 w2→Fk v w2)
  (h1:∀u v w1,Ext w w1→∀K:Act→World→Prop,Shut (∀x w2,Ext w1 w2→Fi x w2→K (((a.put oj.dst u).put ok.dst v).put oi.dst x) w2)→oi.wp P ((a.put oj.dst u).put ok.dst v) w1 K Q)
  (h2:∀u v w1,Ext w w1→∀K:Act→World→Prop,Shut (∀x w2,Ext w1 w2→Fj x w2→K (((a.put oi.dst u).put ok.dst v).put oj.dst x) w2)→oj.wp P ((a.put oi.dst u).put ok.dst v) w1 K Q)
  (h3:∀u v w1,Ext w w1→∀K:Act→World→Prop,Shut (∀x w2,Ext w1 w2→Fk x w2→K (((a.put oi.dst u).put oj.dst v).put ok.dst x) w2)→ok.wp P ((a.put oi.dst u).put oj.dst v) w1 K Q)
  (h:∀x y z X,Ext w X→Fi x X→Fj y X→Fk z X→At P ops Q (Go.RowKit.Below B) (k::j::i::done) (((a.put oi.dst x).put oj.dst y).put ok.dst z) X):At P ops Q (Go.RowKit.Below B) done a w:=by
 have wi:∀t,Region.wanted oi t=true:=fun t=>by simp[Region.wanted,hgi]
 have wj:∀t,Region.wanted oj t=true:=fun t=>by simp[Region.wanted,hgj]
 have wk:∀t,Region.wanted ok t=true:=fun t=>by simp[Region.wanted,hgk]
 have low:∀ {x y:World},Ext w x→Ext x y→Go.RowKit.Below B x y:=fun hx hy=>Go.RowKit.Below.mono hy (Nat.le_trans hB hx.size)
 have mk:∀ {x y:Nat} (l l':List Nat),marked ops.size l=marked ops.size l'→marked ops.size (x::y::l)=marked ops.size (x::y::l'):=fun l l' e=>by rw[marked_cons,marked_cons,marked_cons,marked_cons,e]
 have sw:∀(x y:Nat) (l:List Nat),x≠y→marked ops.size (x::y::l)=marked ops.size (y::x::l):=fun x y l e=>by
  rw[marked_cons,marked_cons,marked_cons,marked_cons]
  exact Array.setIfInBounds_comm _ _ (Ne.symm e)
 have n1:(a.put oj.dst undef).put ok.dst undef=a:=by rw[huj,huk]
 have n2:(a.put oi.dst undef).put ok.dst undef=a:=by rw[hui,huk]
 have n3:(a.put oi.dst undef).put oj.dst undef=a:=by rw[hui,huj]
 have pj:∀u,(a.put oi.dst u).put oj.dst undef=a.put oi.dst u:=fun u=>by rw[put_comm a hdij,huj]
 have pk:∀u,(a.put oi.dst u).put ok.dst undef=a.put oi.dst u:=fun u=>by rw[put_comm a hdik,huk]
 have qk:∀u,(a.put oj.dst u).put ok.dst undef=a.put oj.dst u:=fun u=>by rw[put_comm a hdjk,huk]
 intro hcl
 have e:ops.size-done.length=(ops.size-(i::done).length)+1:=by simp only[List.length_cons];omega
 rw[e]
 refine⟨fun h0=>(by rw[h0] at hr;cases hr),fun x hx=>?_⟩
 have hx2:=hx
 rw[hr] at hx
 simp only[List.mem_cons,List.mem_nil_iff,or_false] at hx
 unfold wpOp
 rcases hx with rfl|rfl|rfl
 ·simp only[hi,wi,if_true]
  have h1':=h1 undef undef w (Ext.refl w)
  rw[n1] at h1'
  refine .inl (h1' _ (fun vi w2 hx1 hf1=>⟨.inl (low (Ext.refl w) hx1),?_⟩))
  refine (?_:At P ops Q (Go.RowKit.Below B) (x::done) (a.put oi.dst vi) w2) (hcl.set hx2)
  refine bothY j k oj ok (Nat.le_trans hB hx1.size) hj hk hgj hgk hdjk hjk hri hji hki (by simp only[List.length_cons];omega) Fj Fk sj sk ?_ ?_ ?_
  ·rintro a' w3 ha hx3 K hK
   rcases ha with rfl|⟨v,rfl⟩
   ·have:=h2 vi undef w3 (hx1.trans hx3) K
    rw[pk] at this
    exact this hK
   ·exact h2 vi v w3 (hx1.trans hx3) K hK
  ·rintro a' w3 ha hx3 K hK
   rcases ha with rfl|⟨v,rfl⟩
   ·have:=h3 vi undef w3 (hx1.trans hx3) K
    rw[pj] at this
    exact this hK
   ·exact h3 vi v w3 (hx1.trans hx3) K hK
  ·intro y z X hX hy hz
   exact h vi y z X (hx1.trans hX) (si _ _ _ hf1 hX) hy hz
 ·simp only[hj,wj,if_true]
  have h2':=h2 undef undef w (Ext.refl w)
  rw[n2] at h2'
  refine .inl (h2' _ (fun vj w2 hx1 hf1=>⟨.inl (low (Ext.refl w) hx1),?_⟩))
  refine (?_:At P ops Q (Go.RowKit.Below B) (x::done) (a.put oj.dst vj) w2) (hcl.set hx2)
  refine bothY i k oi ok (Nat.le_trans hB hx1.size) hi hk hgi hgk hdik hik hrj (by rw[sw i x done hij];exact hji) hkj (by simp only[List.length_cons];omega) Fi Fk si sk ?_ ?_ ?_
  ·rintro a' w3 ha hx3 K hK
   rcases ha with rfl|⟨v,rfl⟩
   ·have:=h1 vj undef w3 (hx1.trans hx3) K
    rw[qk] at this
    exact this hK
   ·exact h1 vj v w3 (hx1.trans hx3) K hK
  ·rintro a' w3 ha hx3 K hK
   rcases ha with rfl|⟨v,rfl⟩
   ·have:=h3 undef vj w3 (hx1.trans hx3) K
    rw[hui] at this
    exact this hK
   ·have:=h3 v vj w3 (hx1.trans hx3) K
    rw[put_comm a hdij] at this
    exact this hK
  ·intro y z X hX hy hz
   refine At.perm (show _=marked ops.size (k::x::i::done) from ?_) rfl ?_
   ·rw[marked_cons,sw i x done hij,←marked_cons]
   ·rw[put_comm a (Ne.symm hdij)]
    exact h y vj z X (hx1.trans hX) hy (sj _ _ _ hf1 hX) hz
 ·simp only[hk,wk,if_true]
  have h3':=h3 undef undef w (Ext.refl w)
  rw[n3] at h3'
  refine .inl (h3' _ (fun vk w2 hx1 hf1=>⟨.inl (low (Ext.refl w) hx1),?_⟩))
  refine (?_:At P ops Q (Go.RowKit.Below B) (x::done) (a.put ok.dst vk) w2) (hcl.set hx2)
  refine bothY i j oi oj (Nat.le_trans hB hx1.size) hi hj hgi hgj hdij hij hrk (by rw[sw i x done hik];exact hki) (by rw[sw j x done hjk];exact hkj) (by simp only[List.length_cons];omega) Fi Fj si sj ?_ ?_ ?_
  ·rintro a' w3 ha hx3 K hK
   rcases ha with rfl|⟨v,rfl⟩
   ·have:=h1 undef vk w3 (hx1.trans hx3) K
    rw[huj] at this
    exact this hK
   ·have:=h1 v vk w3 (hx1.trans hx3) K
    rw[put_comm a hdjk] at this
    exact this hK
  ·rintro a' w3 ha hx3 K hK
   rcases ha with rfl|⟨v,rfl⟩
   ·have:=h2 undef vk w3 (hx1.trans hx3) K
    rw[hui] at this
    exact this hK
   ·have:=h2 v vk w3 (hx1.trans hx3) K
    rw[put_comm a hdik] at this
    exact this hK
  ·intro y z X hX hy hz
   refine At.perm (show _=marked ops.size (x::j::i::done) from ?_) rfl ?_
   ·rw[marked_cons,sw i x done hik,←marked_cons,sw j x _ hjk]
   ·rw[put_comm a (Ne.symm hdik),put_comm _ (Ne.symm hdjk)]
    exact h y z vk X (hx1.trans hX) hy hz (sk _ _ _ hf1 hX)
end
end Reg
namespace Pr
open Go.ChangeShapes Go.WideShapes Go.ChangeAt Go.RowKit
open Base Lx Mi Piece
theorem below_ext {B:Nat} {a b:World} (h:Go.RowKit.Below B a b) (hB:a.heap.size≤B):Ext a b:=h.mono hB
theorem gate_none {fuel:Nat} {union:Bool} {ahead:List Nat} {s:PS} {k:Int} {o:Option Nat} (h:gateR fuel union ahead s k o=none):∃f,fuel=f+1∧(k<0∨s.ns.length≤199):=by
 unfold gateR at h
 split at h
 ·cases h
 ·next h1=>exact⟨fuel-1,by omega,by omega⟩
section
variable {B R M:Nat} {vl vn:Value} {vs:List V3} {s:PS}
set_option maxRecDepth 1000000 in
set_option maxHeartbeats 2000000 in
theorem typed_any {deep fuel:Nat} (hdf:deep+fuel=20) (IH:∀f',fuel=f'+1→TypC B R M (deep+1) f'):TypC B R M deep fuel:=by
 intro union ahead A na ca s w vl vn vs h hA hna hna2 hah hB
 obtain⟨q,hq⟩:∃z,Hid (w.heap.size=z):=⟨_,rfl⟩
 obtain⟨w0,hw0⟩:∃z,Hid (w.alloc (.cells #[.pointer (some ⟨R,0,none⟩)] 144)=z):=⟨_,rfl⟩
 have hx0:Ext w w0:=by rw[←hw0.out];exact (Ext.refl w).alloc _
 have hs0:w0.heap.size=q+1:=by rw[←hw0.out,←hq.out];simp
 have hbq0:Blk w0 q #[.pointer (some ⟨R,0,none⟩)] 144:=by rw[←hw0.out,←hq.out];exact Blk.new w _ _
 obtain⟨R0,hR0⟩:∃r,Hid (typedR fuel union ahead s=r):=⟨_,rfl⟩
 rw[hR0.out]
 obtain⟨PO,hPO⟩:∃PO:Ending→World→Prop,Hid ((fun e w'=>PW B R M w vn vs (fun n:Nat=>.int .i64 (n:Int)) R0 e w')=PO):=⟨_,rfl⟩
 rw[hPO.out]
 go_enter Tryz.func114,Tryz.ntmps114
 go_wp2_with fail
 rw[hw0.out,hq.out]
 refine Reg.startX (R:=Go.RowKit.Below (q+1)) (by kernel_rfl) ?_
 generalize hwd:World.drew _=wd
 have hxd:Ext w wd:=by rw[←hwd];exact hx0.drew
 have hbq:Blk wd q #[.pointer (some ⟨R,0,none⟩)] 144:=by rw[←hwd];exact hbq0
 have hsd:wd.heap.size=q+1:=by rw[←hwd];exact hs0
 clear hwd hbq0 hs0 hx0 hw0 w0
 have h1:=h.ext hxd
 obtain⟨tg,off,cap,rfl,hp,hnc,hcm,hh⟩:=h1.head
 obtain⟨t,ht⟩:∃z,Hid (hd s.l=z):=⟨_,rfl⟩
 obtain⟨ln,hln⟩:∃z,Hid (s.l.length=z):=⟨_,rfl⟩
 have htz:=nameR_hd h
 rw[ht.out] at hh htz
 rw[hln.out] at hp hnc
 have hlow:∀ {W},Go.RowKit.Below (q+1) wd W→Ext wd W:=fun hW=>below_ext hW (by omega)
 have cR:∀W,Go.RowKit.Below (q+1) wd W→W.cell? ⟨R,0,none⟩=some (.slice (some ⟨tg,off,none⟩) ln cap):=fun W hW=>by rw[←hln.out];exact (h1.ext (hlow hW)).cells.1
 have cq:∀W,Go.RowKit.Below (q+1) wd W→W.cell? ⟨q,0,none⟩=some (.pointer (some ⟨R,0,none⟩)):=fun W hW=>(hbq.ext (hlow hW)).cell 0
 have k0:∀W,Go.RowKit.Below (q+1) wd W→W.cell? ⟨tg,off,none⟩=some (.int .i64 t.k):=fun W hW=>(hh W (hlow hW)).1
 have k1:∀W,Go.RowKit.Below (q+1) wd W→W.cell? ⟨tg,off+1,none⟩=some (.string t.s):=fun W hW=>(hh W (hlow hW)).2.1
 have k2:∀W,Go.RowKit.Below (q+1) wd W→W.cell? ⟨tg,off+2,none⟩=some (.int .i64 (t.a:Int)):=fun W hW=>(hh W (hlow hW)).2.2
 have hi1:0<ln:=hp
 iterate 7 ((first|refine Reg.un (Reg.rl_below _) ?_|refine Reg.vn (Reg.rl_below _) ?_);(try simp only[Reg.nn]))
 refine Reg.triY 7 8 9 _ _ _ (by omega) rfl rfl rfl rfl rfl rfl (by decide) (by decide) (by decide) (by decide) (by decide) (by decide) rfl rfl rfl (by kernel_rfl) (by kernel_rfl) (by kernel_rfl) (by kernel_rfl) (by kernel_rfl) (by kernel_rfl) (by kernel_rfl) (by decide)
  (fun V X=>∃k:Int,Hid (kindR s=some k)∧V=.int .i64 k)
  (fun V X=>∃p,V=.pointer (some ⟨p,0,none⟩)∧q<p∧Blk X p #[.int .i64 0,.string ByteArray.empty,.int .i64 0] 102)
  (fun V X=>∃p,V=.pointer (some ⟨p,0,none⟩)∧q<p∧Blk X p #[.int .i64 0] 3)
  (fun v w1 w2 h hx=>h) (fun v w1 w2 h hx=>h.imp fun p h=>⟨h.1,h.2.1,h.2.2.ext hx⟩) (fun v w1 w2 h hx=>h.imp fun p h=>⟨h.1,h.2.1,h.2.2.ext hx⟩) ?_ ?_ ?_ ?_
 ·intro u v w1 hx1 K hK
  have hki:=kind_any w1 (h1.ext hx1) (by rw[ht.out];exact Nat.le_trans htz (by omega))
  (try simp only[Reg.nn])
  go_simp
  refine hki.mono ?_
  intro e w2 hpk
  obtain⟨hx2,hcase⟩:=hpk.cases
  rcases hcase with⟨k,hk,rfl⟩|⟨hk,rfl⟩
  ·exact hK.out _ _ hx2 ⟨k,hk,rfl⟩
  ·refine⟨rfl,?_⟩
   rw[←hPO.out]
   exact PW.badI (by rw[←hR0.out,typedR_eq,hk.out];rfl) (by rw[ht.out]) (Chg.ofExt (hxd.trans (hx1.trans hx2)))
 ·intro u v w1 hx1 K hK
  (try simp only[Reg.nn])
  go_simp
  exact hK.out _ _ ((Ext.refl w1).alloc _) ⟨w1.heap.size,rfl,by have:=hx1.size;omega,Blk.new w1 _ _⟩
 ·intro u v w1 hx1 K hK
  (try simp only[Reg.nn])
  go_simp
  exact hK.out _ _ ((Ext.refl w1).alloc _) ⟨w1.heap.size,rfl,by have:=hx1.size;omega,Blk.new w1 _ _⟩
 ·rintro x y z X hX ⟨k,hk,rfl⟩ ⟨p9,rfl,hp9,hb9⟩ ⟨p10,rfl,hp10,hb10⟩
  (try simp only[Reg.nn])
  have g0:X.cell? ⟨p9,0,none⟩=some (.int .i64 0):=hb9.cell 0
  have g1:X.cell? ⟨p9,1,none⟩=some (.string ByteArray.empty):=hb9.cell 1
  have g2:X.cell? ⟨p9,2,none⟩=some (.int .i64 0):=hb9.cell 2
  have g3:=hb9.frozen 0
  have g4:=hb9.frozen 1
  have g5:=hb9.frozen 2
  have g6_:X.cell? ⟨p10,0,none⟩=some (.int .i64 0):=hb10.cell 0
  have g7_:=hb10.frozen 0
  have hne:=blk_ne hb9 hb10 (by decide)
  refine Reg.onlyX 10 _ rfl (by kernel_rfl) (by decide) (by rfl) (fun K hK=>?_)
  go_simp
  refine hK.out _ _ (((Go.RowKit.Below.refl (q+1) X).setCell (by show q+1≤p9;omega) _).setCell (by show q+1≤p9;omega) _ |>.setCell (by show q+1≤p9;omega) _) ?_
  clear hK K
  (try simp only[Reg.nn])
  obtain⟨Y,hY⟩:∃z,Hid (((X.setCell ⟨p9,0,none⟩ (.int .i64 t.k)).setCell ⟨p9,1,none⟩ (.string t.s)).setCell ⟨p9,2,none⟩ (.int .i64 (t.a:Int))=z):=⟨_,rfl⟩
  have hxY:Ext wd Y:=by rw[←hY.out];exact ((hX.setCell (by show wd.heap.size≤p9;omega) _).setCell (by show wd.heap.size≤p9;omega) _).setCell (by show wd.heap.size≤p9;omega) _
  have hb9Y:Blk Y p9 #[.int .i64 t.k,.string t.s,.int .i64 (t.a:Int)] 102:=by rw[←hY.out];exact ((hb9.set 0 _).set 1 _).set 2 _
  have hb10Y:Blk Y p10 #[.int .i64 0] 3:=by rw[←hY.out];exact ((hb10.far (fun e=>hne e.symm) _).far (fun e=>hne e.symm) _).far (fun e=>hne e.symm) _
  rw[hY.out]
  have g6:Y.cell? ⟨p10,0,none⟩=some (.int .i64 0):=hb10Y.cell 0
  have g7:=hb10Y.frozen 0
  clear g0 g1 g2 g3 g4 g5 hb9 hb10 hY hX g6_ g7_ X
  refine Reg.onlyX 11 _ rfl (by kernel_rfl) (by decide) (by rfl) (fun K hK=>?_)
  go_simp
  refine hK.out _ _ ((Go.RowKit.Below.refl (q+1) Y).setCell (by show q+1≤p10;omega) _) ?_
  clear hK K
  (try simp only[Reg.nn])
  refine Reg.finX (by kernel_rfl) ?_
  obtain⟨w3,hw3⟩:∃z,Hid (Y.setCell ⟨p10,0,none⟩ (.int .i64 k)=z):=⟨_,rfl⟩
  have hx3:Ext wd w3:=by rw[←hw3.out];exact hxY.setCell (by show wd.heap.size≤p10;omega) _
  have hb9:Blk w3 p9 #[.int .i64 t.k,.string t.s,.int .i64 (t.a:Int)] 102:=by rw[←hw3.out];exact hb9Y.far hne _
  have hb10:Blk w3 p10 #[.int .i64 k] 3:=by rw[←hw3.out];exact hb10Y.set 0 _
  rw[hw3.out]
  have h3:=h1.ext hx3
  have hbq3:=hbq.ext hx3
  have hxw:=hxd.trans hx3
  clear g6 g7 hxY hb9Y hb10Y hw3 Y cR cq k0 k1 k2 hne hlow h1 hbq hxd hsd hx3
  have cq:∀W,Ext w3 W→W.cell? ⟨q,0,none⟩=some (.pointer (some ⟨R,0,none⟩)):=fun W hW=>(hbq3.ext hW).cell 0
  have cM:∀W,Ext w3 W→W.cell? ⟨R,2,none⟩=some (.map (some M)):=fun W hW=>(h3.ext hW).cells.2.2.1
  have c9:∀W,Ext w3 W→W.cell? ⟨p9,1,none⟩=some (.string t.s):=fun W hW=>(hb9.ext hW).cell 1
  have c10:∀W,Ext w3 W→W.cell? ⟨p10,0,none⟩=some (.int .i64 k):=fun W hW=>(hb10.ext hW).cell 0
  obtain⟨o,ho⟩:∃o,Hid (s.nm t.s=o):=⟨_,rfl⟩
  have hlook:∀W,Ext w3 W→(Instr.lookup 145 (.map (some M)) (.string t.s) true).run Tryz.prog W=.ok (.tuple #[.int .i64 (o.getD 0:Nat),.bool o.isSome]) W:=fun W hW=>by
   obtain⟨cnt,hm,_⟩:=(h3.ext hW).named
   have:=hm.look_ok mt t.s (by unfold maxLen;omega)
   rw[ho.out] at this
   exact this
  go_wp2_with fail
  refine Reg.startE (by kernel_rfl) ?_
  iterate 12 ((first|refine Reg.tn ?_|refine Reg.sn ?_);(try simp only[Reg.nn]))
  refine Reg.fin (by kernel_rfl) (fun W hW=>?_)
  have h4:=h3.ext hW
  have hb4:=hb10.ext hW
  have hbq4:=hbq3.ext hW
  have hx4:Ext w W:=hxw.trans hW
  clear hlook cq cM c9 c10 h3 hb9 hb10 hbq3 hxw
  clear hW w3
  rename World=>w4
  obtain⟨An,cn,rfl,jj1,jj2,jj3,jj4⟩:=Rd.of_own h4.nds.row
  clear jj1 jj2 jj3 jj4
  obtain⟨nn,hnn⟩:∃z,Hid (s.ns.length=z):=⟨_,rfl⟩
  have cq:∀W,Ext w4 W→W.cell? ⟨q,0,none⟩=some (.pointer (some ⟨R,0,none⟩)):=fun W hW=>(hbq4.ext hW).cell 0
  have c10:∀W,Ext w4 W→W.cell? ⟨p10,0,none⟩=some (.int .i64 k):=fun W hW=>(hb4.ext hW).cell 0
  have cN:∀W,Ext w4 W→W.cell? ⟨R,1,none⟩=some (.slice An nn cn):=fun W hW=>by rw[←hnn.out];exact (h4.ext hW).cells.2.1
  have hf:=fun why W (hW:Ext w4 W)=>fail_any why W (h4.ext hW)
  rw[ht.out] at hf
  have hres:R0=match gateR fuel union ahead s k o with
   | some why=>.bad t.a why
   | none=>if k<0 then .ok (o.getD 0) s.on else restR fuel s k:=by
   rw[←hR0.out,typedR_eq,hk.out]
   simp only[failR,ht.out,ho.out]
   all_goals rfl
  have Hres:=Lib.hid hres
  clear hres
  have hbad:∀(why:Nat) W,Ext w4 W→gateR fuel union ahead s k o=some why→PO (.panicked [{ v:=.iface 142 (.agg #[.int .i64 (t.a:Int),.int .i64 (why:Int)]),recovered:=false }]) W:=fun why W hW hg=>by
   rw[←hPO.out]
   exact PW.badI (by rw[Hres.out,hg]) rfl (Chg.ofExt (hx4.trans hW))
  have hvn:=fun k hk=>(h.nds.row.lt k hk).2
  have hqo:=hq.out
  have hcont:=fun (m:Nat)=>contains_int A na ca ahead m w4 (hA.ext hx4) hna (by omega)
  have hcontF:=containsInt_any A na ca ahead k ⟨q,0,none⟩ ⟨p10,0,none⟩ w4 h4 (hA.ext hx4) hna (by omega) hah (cq w4 (Ext.refl _)) (c10 w4 (Ext.refl _))
  have e4:=cq w4 (Ext.refl _)
  have e10:=c10 w4 (Ext.refl _)
  have eN:=cN w4 (Ext.refl _)
  obtain⟨krl,krh⟩:=kindR_rng hk.out
  rename_i K0 hK0
  refine hK0 _ _ ?_
  clear hK0 K0
  refine wp_seq_k (fun K hK=>?_)
  have hT:∀a' W,Ext w4 W→gateR fuel union ahead s k o=none→Fr 138 [.pointer (some ⟨R,0,none⟩),.int .i64 (deep:Int),.bool union,.slice A na ca,.pointer (some ⟨q,0,none⟩),undef,undef,undef,.int .i64 0,.pointer (some ⟨p9,0,none⟩),.pointer (some ⟨p10,0,none⟩),.int .i64 (o.getD 0:Nat),.bool o.isSome] a'→K a' W:=fun a' W hW hg hF=>by
   obtain⟨f,rfl,hn9⟩:=gate_none hg
   refine hK _ _ ?_
   refine typedTail (IH f rfl) (by omega) a' w W q p10 (o.getD 0) k _ _ _ _ _ _ _ _ R0 hF (h4.ext hW) (hbq4.ext hW) (hb4.ext hW) (hx4.trans hW) hB (by omega) (by omega) hvn hk.out (by rw[Hres.out,hg]) hn9 (fun c a a2 w h hd=>⟨hd.trans h.1,h.2⟩) (fun a' w' hd hp=>?_) (fun c a' w' hd hp=>?_)
   ·refine bodyPost_ret (results_tmp rfl _ _ _) hd ?_
    rw[←hPO.out]
    exact hp
   ·refine⟨hd,?_⟩
    rw[←hPO.out]
    exact hp
  clear hK hvn hb4 hbq4 cq c10 cN hqo
  by_cases hf0:fuel=0
  ·have hg:gateR fuel union ahead s k o=some 2:=by simp[gateR,hf0]
   have hdp:(20:Int)≤(deep:Int):=by omega
   go_wp2_with fail
   refine (hf 2 w4 (Ext.refl _)).mono ?_
   rintro e w5 ⟨rfl,rfl⟩
   go_wp2_with fail
   exact⟨rfl,hbad 2 _ (Ext.refl _) hg⟩
  have hdp:¬(20:Int)≤(deep:Int):=by omega
  by_cases hk0:k<0
  ·have hk0':¬(0:Int)≤k:=by omega
   have hk8:(k == 8)=false:=by simpa using (by omega:¬k=8)
   cases o with
   | none=>
    have hg:gateR fuel union ahead s k none=some 5:=by simp[gateR,hf0,hk0,hk0']
    rw[show (none:Option Nat).isSome=false from rfl]
    go_wp2_with fail
    refine (hf 5 w4 (Ext.refl _)).mono ?_
    rintro e w5 ⟨rfl,rfl⟩
    go_wp2_with fail
    exact⟨rfl,hbad 5 _ (Ext.refl _) hg⟩
   | some m=>
    rw[show (some m).isSome=true from rfl,show (some m).getD 0=m from rfl] at *
    cases union with
    | false=>
     have hg:gateR fuel false ahead s k (some m)=none:=by simp[gateR,hf0,hk0,hk0']
     go_wp2_with fail
     exact hT _ _ (Ext.refl _) hg ⟨_,rfl,rfl⟩
    | true=>
     have hcm:=hcont m
     clear hcont hcontF
     have hk08:¬k=8:=by omega
     by_cases hm:(ahead.any fun y=>decide (y=m))=true
     ·have hg:gateR fuel true ahead s k (some m)=some 6:=by
       have hm':m∈ahead:=by simpa using hm
       simp[gateR,hf0,hk0,hk0',hk08,hm']
      rw[hm] at hcm
      go_wp2_with fail
      refine hcm.mono ?_
      rintro e w5 ⟨rfl,rfl⟩
      go_wp2_with fail
      refine (hf 6 w4 (Ext.refl _)).mono ?_
      rintro e w5 ⟨rfl,rfl⟩
      go_wp2_with fail
      exact⟨rfl,hbad 6 _ (Ext.refl _) hg⟩
     ·have hg:gateR fuel true ahead s k (some m)=none:=by
       have hm':¬m∈ahead:=by simpa using hm
       simp[gateR,hf0,hk0,hk0',hk08,hm']
      rw[(Bool.not_eq_true _).mp hm] at hcm
      go_wp2_with fail
      refine hcm.mono ?_
      rintro e w5 ⟨rfl,rfl⟩
      go_wp2_with fail
      exact hT _ _ (Ext.refl _) hg ⟨_,rfl,rfl⟩
  ·have hk0':(0:Int)≤k:=by omega
   by_cases h200:200≤s.ns.length
   ·have hg:gateR fuel union ahead s k o=some 2:=by simp[gateR,h200,hk0']
    have hnI:(200:Int)≤(nn:Int):=by have:=hnn.out;omega
    go_wp2_with fail
    refine (hf 2 w4 (Ext.refl _)).mono ?_
    rintro e w5 ⟨rfl,rfl⟩
    go_wp2_with fail
    exact⟨rfl,hbad 2 _ (Ext.refl _) hg⟩
   ·have hnI:¬(200:Int)≤(nn:Int):=by have:=hnn.out;omega
    cases union with
    | false=>
     have hg:gateR fuel false ahead s k o=none:=by simp[gateR,hf0,hk0,h200]
     go_wp2_with fail
     exact hT _ _ (Ext.refl _) hg ⟨_,rfl,rfl⟩
    | true=>
     clear hcont
     by_cases hk8:k=8
     ·have hg:gateR fuel true ahead s k o=some 4:=by simp[gateR,hf0,hk8,h200]
      have hk8b:(k == 8)=true:=by simpa using hk8
      go_wp2_with fail
      refine (hf 4 w4 (Ext.refl _)).mono ?_
      rintro e w5 ⟨rfl,rfl⟩
      go_wp2_with fail
      exact⟨rfl,hbad 4 _ (Ext.refl _) hg⟩
     have hk8b:(k == 8)=false:=by simpa using hk8
     by_cases hk9:k<9
     ·obtain⟨AN,hAN⟩:∃z,Hid ((ahead.any fun m=>decide ((s.ns[m]?.map (·.k))=some k))=z):=⟨_,rfl⟩
      rw[hAN.out] at hcontF
      cases AN with
      | true=>
       have hg:gateR fuel true ahead s k o=some 6:=by
        rw[gateR,if_neg (by omega),if_neg (by omega),if_neg (by simp[hk8]),if_neg (by omega),if_pos ⟨rfl,hk0',hk9,hAN.out⟩]
       go_wp2_with fail
       refine hcontF.mono ?_
       rintro e w5 ⟨rfl,hx5⟩
       have e45:=hx5.cell e4
       have e105:=hx5.cell e10
       go_wp2_with fail
       refine (hf 6 w5 hx5).mono ?_
       rintro e w6 ⟨rfl,rfl⟩
       go_wp2_with fail
       exact⟨rfl,hbad 6 _ hx5 hg⟩
      | false=>
       have hg:gateR fuel true ahead s k o=none:=by
        rw[gateR,if_neg (by omega),if_neg (by omega),if_neg (by simp[hk8]),if_neg (by omega),if_neg (by rw[hAN.out];simp)]
       go_wp2_with fail
       refine hcontF.mono ?_
       rintro e w5 ⟨rfl,hx5⟩
       have e45:=hx5.cell e4
       have e105:=hx5.cell e10
       go_wp2_with fail
       exact hT _ _ hx5 hg ⟨_,rfl,rfl⟩
     ·have hg:gateR fuel true ahead s k o=none:=by
       rw[gateR,if_neg (by omega),if_neg (by omega),if_neg (by simp[hk8]),if_neg (by omega),if_neg (by omega)]
      go_wp2_with fail
      exact hT _ _ (Ext.refl _) hg ⟨_,rfl,rfl⟩
theorem typed_all:∀(fuel deep:Nat),deep+fuel=20→TypC B R M deep fuel
 | 0,deep,h=>typed_any h (fun f' e=>by cases e)
 | f+1,deep,h=>typed_any h (fun f' e=>by injection e with e;subst e;exact typed_all f (deep+1) (by omega))
end
theorem tokG_ok (s:ByteArray):∀(f a:Nat),a≤s.size→s.size<a+f→TokOk (tokG s f a)
 | 0,a,h,h2=>by omega
 | f+1,a,h,h2=>by
  by_cases ha:a<s.size
  ·rw[tokG_step s f a ha]
   have h1:=lenAt_pos s a ha
   have h3:=skp_ge s (a+lenAt s a)
   obtain⟨pre,e,h4,h5⟩:=tokG_ok s f (skp s (a+lenAt s a)) (skp_le s _ (lenAt_le s a ha)) (by omega)
   exact⟨tokAt s a::pre,e,by rw[h4];rfl,h5⟩
  ·rw[tokG_end s f a ha]
   exact⟨[],_,rfl,rfl⟩
theorem toks_ok (s:ByteArray):TokOk (toks s):=tokG_ok s _ _ (skp_le s 0 (Nat.zero_le _)) (by omega)
theorem tokG_ts (s:ByteArray):∀(f a:Nat),∀t∈tokG s f a,t.s.size≤s.size
 | 0,a,t,h=>by cases h
 | f+1,a,t,h=>by
  rw[tokG] at h
  split at h
  ·rcases List.mem_cons.1 h with rfl|h
   ·simp only[tokAt,ByteArray.size_extract];omega
   ·exact tokG_ts s f _ t h
  ·rw[List.mem_singleton] at h;subst h;exact Nat.zero_le _
theorem words_ok {s:ByteArray} (h:words s=none):s.size≤4096∧(toks s).length≤1500∧∀t∈toks s,t.s.size≤4096:=by
 unfold words at h
 split at h
 ·cases h
 ·next hs=>
  refine⟨by omega,by have:=wordsR_len _ _ (by omega) h;omega,fun t ht=>?_⟩
  have:=tokG_ts s _ _ t ht
  omega
theorem catch_stop (a2 a3 a4:Nat) (x2 x3 x4:Value) (at_ why:Nat) (w:World) (h2:Blk w a2 #[x2] 24) (h3:Blk w a3 #[x3] 3) (h4:Blk w a4 #[x4] 33) :
  CallsD Tryz.prog 113 #[.pointer (some ⟨a2,0,none⟩),.pointer (some ⟨a3,0,none⟩),.pointer (some ⟨a4,0,none⟩)] (.panicking [{ v:=.iface 142 (.agg #[.int .i64 (at_:Int),.int .i64 (why:Int)]),recovered:=false }]) w fun e u' w'=>
   e=.returned (.tuple #[])∧u'=.panicking [{ v:=.iface 142 (.agg #[.int .i64 (at_:Int),.int .i64 (why:Int)]),recovered:=true }]∧Chg (fun k=>k=a2∨k=a3∨k=a4) w w'∧Blk w' a2 #[.slice none 0 0] 24∧Blk w' a3 #[.int .i64 (at_:Int)] 3∧Blk w' a4 #[.int .i64 (why:Int)] 33:=by
 have hta:∀(W:World) (v:Value),(Instr.typeAssert (.iface 142 v) 20 142 true).run Tryz.prog W=.ok (.tuple #[v,.bool true]) W:=fun _ _=>by kernel_rfl
 have hrl:=Reg.rl_chg (fun k=>k=a2∨k=a3∨k=a4)
 have n23:¬a2=a3:=blk_ne h2 h3 (by decide)
 have n24:¬a2=a4:=blk_ne h2 h4 (by decide)
 have n34:¬a3=a4:=blk_ne h3 h4 (by decide)
 refine callsD_of_wpS Tryz.func113 rfl fun c₀ cs hu=>?_
 simp only[Tryz.ntmps113,List.size_toArray,List.length_cons,List.length_nil,Nat.reduceAdd,Nat.reduceSub,Array.replicate_succ,Array.replicate_zero,List.push_toArray,List.append_toArray,List.nil_append,List.cons_append]
 apply wpS_seq
 apply wpS_region
 simp[wpOpsS,go_sem,recoverD,hu,Exit.thenS]
 have l2:=h2.lt
 have l3:=h3.lt
 have l4:=h4.lt
 refine wpS_of_wp ?_
 go_wp2_with fail
 rename_i Q'
 have hP:∀(c:List PanicEntry) (a a2:Act) (w:World),Q' (.panic c) a w→∀(hd:a2.defers=a.defers:=by rfl),Q' (.panic c) a2 w:=fun c a a2 w h hd=>⟨hd.trans h.1,h.2⟩
 have hRl:=Reg.rl_chg (fun k=>k=a2∨k=a3∨k=a4)
 obtain⟨wq,hwq⟩:∃z,Hid (w.alloc (.cells #[.int .i64 (at_:Int),.int .i64 (why:Int)] 142)=z):=⟨_,rfl⟩
 obtain⟨q,hq⟩:∃z,Hid (w.heap.size=z):=⟨_,rfl⟩
 have hxq:Ext w wq:=by rw[←hwq.out];exact (Ext.refl w).alloc _
 have hbq:Blk wq q #[.int .i64 (at_:Int),.int .i64 (why:Int)] 142:=by rw[←hwq.out,←hq.out];exact Blk.new w _ _
 rw[hwq.out,hq.out]
 refine Reg.startX (R:=Chg (fun k=>k=a2∨k=a3∨k=a4)) (by kernel_rfl) ?_
 generalize hwd:World.drew _=wd
 have hxd:Ext w wd:=by rw[←hwd];exact hxq.drew
 have hbd:Blk wd q #[.int .i64 (at_:Int),.int .i64 (why:Int)] 142:=by rw[←hwd];exact hbq
 have hqn:¬(q=a2∨q=a3∨q=a4):=by have:=hq.out;omega
 have k0:∀W,Chg (fun k=>k=a2∨k=a3∨k=a4) wd W→W.cell? ⟨q,0,none⟩=some (.int .i64 (at_:Int)):=fun W hW=>(hW.blk hbd hqn).cell 0
 have k1:∀W,Chg (fun k=>k=a2∨k=a3∨k=a4) wd W→W.cell? ⟨q,1,none⟩=some (.int .i64 (why:Int)):=fun W hW=>(hW.blk hbd hqn).cell 1
 have e2:=(h2.ext hxd)
 have e3:=(h3.ext hxd)
 have e4:=(h4.ext hxd)
 have d2:Blk (wd.setCell ⟨a2,0,none⟩ (.slice none 0 0)) a2 #[.slice none 0 0] 24:=e2.set 0 _
 have d3:=e3.far (p:=⟨a2,0,none⟩) (fun e=>n23 e.symm) (.slice none 0 0)
 have d4:=e4.far (p:=⟨a2,0,none⟩) (fun e=>n24 e.symm) (.slice none 0 0)
 have d22:=d2.far (p:=⟨a3,0,none⟩) n23 (.int .i64 (at_:Int))
 have d33:Blk ((wd.setCell ⟨a2,0,none⟩ (.slice none 0 0)).setCell ⟨a3,0,none⟩ (.int .i64 (at_:Int))) a3 #[.int .i64 (at_:Int)] 3:=d3.set 0 _
 have d44:=d4.far (p:=⟨a3,0,none⟩) (fun e=>n34 e.symm) (.int .i64 (at_:Int))
 have d222:=d22.far (p:=⟨a4,0,none⟩) n24 (.int .i64 (why:Int))
 have d333:=d33.far (p:=⟨a4,0,none⟩) n34 (.int .i64 (why:Int))
 have d444:Blk (((wd.setCell ⟨a2,0,none⟩ (.slice none 0 0)).setCell ⟨a3,0,none⟩ (.int .i64 (at_:Int))).setCell ⟨a4,0,none⟩ (.int .i64 (why:Int))) a4 #[.int .i64 (why:Int)] 33:=d44.set 0 _
 have c2:=e2.cell 0
 have f2:=e2.frozen 0
 have c3:=d3.cell 0
 have f3:=d3.frozen 0
 have c4:=d44.cell 0
 have f4:=d44.frozen 0
 have hch:Chg (fun k=>k=a2∨k=a3∨k=a4) w (((wd.setCell ⟨a2,0,none⟩ (.slice none 0 0)).setCell ⟨a3,0,none⟩ (.int .i64 (at_:Int))).setCell ⟨a4,0,none⟩ (.int .i64 (why:Int))):=(((Chg.ofExt hxd).set (p:=⟨a2,0,none⟩) (.inl (.inl rfl)) _).set (p:=⟨a3,0,none⟩) (.inl (.inr (.inl rfl))) _).set (p:=⟨a4,0,none⟩) (.inl (.inr (.inr rfl))) _
 iterate 2 ((first|refine Reg.un hRl ?_|refine Reg.vn hRl ?_);(try simp only[Reg.nn]))
 refine Reg.tx hRl 2 ?_;(try simp only[Reg.nn])
 refine Reg.tx hRl 3 ?_;(try simp only[Reg.nn])
 refine Reg.tx hRl 4 ?_;(try simp only[Reg.nn])
 refine Reg.onlyX 5 _ rfl (by kernel_rfl) (by decide) (by rfl) (fun K hK=>?_);go_simp
 refine hK.out _ _ ((Chg.refl _ _).set (.inl (.inl rfl)) _) ?_;clear hK K;(try simp only[Reg.nn])
 refine Reg.onlyX 6 _ rfl (by kernel_rfl) (by decide) (by rfl) (fun K hK=>?_);go_simp
 refine hK.out _ _ ((Chg.refl _ _).set (.inl (.inr (.inl rfl))) _) ?_;clear hK K;(try simp only[Reg.nn])
 refine Reg.onlyX 7 _ rfl (by kernel_rfl) (by decide) (by rfl) (fun K hK=>?_);go_simp
 refine hK.out _ _ ((Chg.refl _ _).set (.inl (.inr (.inr rfl))) _) ?_;clear hK K;(try simp only[Reg.nn])
 refine Reg.finX (by kernel_rfl) ?_
 show bodyPostS _ _ _ _ _ _ _ _ _
 refine⟨rfl,_,rfl,_,results_none rfl _ _ _,rfl,rfl,hch,d222,d333,d444⟩
theorem catch_idle (a2 a3 a4:Nat) (w:World) :
  CallsD Tryz.prog 113 #[.pointer (some ⟨a2,0,none⟩),.pointer (some ⟨a3,0,none⟩),.pointer (some ⟨a4,0,none⟩)] .returning w fun e u' w'=>e=.returned (.tuple #[])∧u'=.returning∧w=w':=by
 refine callsD_of_wpS Tryz.func113 rfl fun c₀ cs hu=>?_
 simp only[Tryz.ntmps113,List.size_toArray,List.length_cons,List.length_nil,Nat.reduceAdd,Nat.reduceSub,Array.replicate_succ,Array.replicate_zero,List.push_toArray,List.append_toArray,List.nil_append,List.cons_append]
 apply wpS_seq
 apply wpS_region
 simp[wpOpsS,go_sem,recoverD,hu,Exit.thenS]
 refine wpS_of_wp ?_
 go_wp2_with fail
 refine⟨rfl,.returning,?_,_,results_none rfl _ _ _,rfl,rfl,rfl⟩
 cases c₀
 simp_all
end Pr
end Go.Proofs.YtllhhpcabncmiaaGreatDoor
