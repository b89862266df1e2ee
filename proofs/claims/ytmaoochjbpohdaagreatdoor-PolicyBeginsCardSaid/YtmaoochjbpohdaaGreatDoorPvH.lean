/- parse: fields. -/
import Derived.Test.YtmaoochjbpohdaaGreatDoorPvG
set_option linter.unusedVariables false
set_option linter.unusedSimpArgs false
set_option maxRecDepth 100000
set_option maxHeartbeats 1000000
namespace Go.Proofs.YtmaoochjbpohdaaGreatDoor
namespace Pr
open Go.ChangeShapes Go.WideShapes Go.ChangeAt Go.RowKit
open Base Lx Mi Piece
noncomputable def fiBody (n:Nat):Code:=loopBody n Tryz.f162.body
set_option maxRecDepth 1000000 in
theorem lay41 {v0 v1 v2 v3 v4 v5 v6:Value} {a:Act} (h:Piece.Fr 41 [v0,v1,v2,v3,v4,v5,v6] a):∃u:Nat→Value,a=⟨(v0::v1::v2::v3::v4::v5::v6::u 7::u 8::u 9::u 10::u 11::u 12::u 13::u 14::u 15::u 16::u 17::u 18::u 19::u 20::u 21::u 22::u 23::u 24::u 25::u 26::u 27::u 28::u 29::u 30::u 31::u 32::u 33::u 34::u 35::u 36::u 37::u 38::u 39::u 40::[]).toArray,[]⟩:=by
 obtain⟨u,hu⟩:=h.spread
 refine⟨u,hu.trans ?_⟩
 kernel_rfl
section
variable {B R M:Nat} {vl vn:Value} {vs:List V3} {s:PS}
theorem Rs.otherF {w w':World} {B' n:Nat} {vL:Value} {xs:List Value} (h:Rs B w R M vl vn vs s) (hL:w.ownsRow B' 38 3 vL n xs) (hBB:B≤B') (ha:Apart vL (fun v=>v.2.2) vs) (hch:Chg (fun k=>vL.ownBlock=some k) w w'):Rs B w' R M vl vn vs s:=by
 obtain⟨cnt,hm,_⟩:=h.named
 exact h.other hch (fun e=>own_ne_blk hL h.blk (by decide) e.symm) (own_ne_map hL hm) (own_not hL h.nds.row (by decide)) (fun i d v q1 q2=>⟨own_not hL (h.nds.sub i d v q1 q2).syms (by decide),own_not hL (h.nds.sub i d v q1 q2).items (by decide),ha i v q2⟩) (fun k hk=>Nat.le_trans hBB (hL.lt k hk).1)
theorem blk_ne {w:World} {a b:Nat} {cs ds:Array Value} {t u:TypeId} (ha:Blk w a cs t) (hb:Blk w b ds u) (h:t≠u):¬a=b:=fun e=>by
 rw[←e] at hb
 unfold Blk at ha hb
 rw[ha] at hb
 injection hb with hb
 injection hb with _ hb
 exact h hb
theorem Rs.setF {w:World} {q:Nat} {cs:Array Value} (h:Rs B w R M vl vn vs s) (hq:Blk w q cs 38) (ha:∀(i:Nat) v,vs[i]?=some v→∀k,v.2.2.ownBlock=some k→¬k=q) (hB:B≤q) (i:Nat) (u:Value):Rs B (w.setCell ⟨q,i,none⟩ u) R M vl vn vs s:=by
 obtain⟨cnt,hm,_⟩:=h.named
 have hne:∀ {e:TypeId} {size n:Nat} {v:Value} {xs:List Value},w.ownsRow B e size v n xs→e≠38→∀k,v.ownBlock=some k→¬k=q:=fun ho hne k hk e=>own_ne_blk ho hq hne (by rw[←e];exact hk.symm)
 exact h.other (Chg.one w q i u) (fun e=>blk_ne h.blk hq (by decide) e) (fun e=>hm.not_cells hq e) (hne h.nds.row (by decide)) (fun i d v q1 q2=>⟨hne (h.nds.sub i d v q1 q2).syms (by decide),hne (h.nds.sub i d v q1 q2).items (by decide),ha i v q2⟩) (fun k hk=>by rw[show k=q from hk];exact hB)
theorem flds_one (l:List (ByteArray×Bool×Nat)):∀u∈flds l,u.oneCell'=true:=by
 intro u hu
 obtain⟨x,_,hx⟩:=List.mem_flatMap.1 hu
 simp only[fldC,List.mem_cons,List.not_mem_nil,or_false] at hx
 rcases hx with rfl|rfl|rfl<;>rfl
def FiAt (B R M deep fuel n q:Nat) (w0:World) (vn0:Value) (vs0:List V3) (R0:Res Unit) (a:Act) (wv:World):Prop:=
 ∃(m:Nat) (l:List (ByteArray×Bool×Nat)) (s:PS) (vl vn:Value) (vs:List V3) (vL v3 v4 v5:Value),Fr 41 [.pointer (some ⟨R,0,none⟩),.int .i64 n,.int .i64 deep,v3,v4,v5,.pointer (some ⟨q,0,none⟩)] a∧Rs B wv R M vl vn vs s∧Chg (Wr R M vn0) w0 wv∧Fresh w0 vn0 vn∧SF w0 vs0 vs∧Blk wv q #[vL] 34∧wv.ownsRow w0.heap.size 38 3 vL l.length (flds l)∧Apart vL (fun v=>v.2.2) vs∧Hid (fieldsR (typedR fuel) n m l s=R0)∧s.l.length≤m∧n<s.ns.length∧l.length+s.l.length≤2000
def FiEnd (B R M deep n q:Nat) (w0:World) (vn0:Value) (vs0:List V3) (R0:Res Unit) (a:Act) (wv:World):Prop:=
 ∃(l:List (ByteArray×Bool×Nat)) (s:PS) (vl vn:Value) (vs:List V3) (vL v3 v4 v5:Value),Fr 41 [.pointer (some ⟨R,0,none⟩),.int .i64 n,.int .i64 deep,v3,v4,v5,.pointer (some ⟨q,0,none⟩)] a∧Rs B wv R M vl vn vs s∧Chg (Wr R M vn0) w0 wv∧Fresh w0 vn0 vn∧SF w0 vs0 vs∧Blk wv q #[vL] 34∧wv.ownsRow w0.heap.size 38 3 vL l.length (flds l)∧R0=.ok () (s.setN n fun d=>{ d with fields:=l })∧n<s.ns.length
set_option maxRecDepth 1000000 in
set_option maxHeartbeats 2000000 in
theorem fieldsL {Q:Exit→Act→World→Prop} {deep fuel n q:Nat} (H:TypC B R M (deep+1) fuel) (hd20:deep≤100) (a:Act) (w0 wa:World) (vn0:Value) (vs0:List V3) (R0:Res Unit) (hB:B≤w0.heap.size) (hq0:w0.heap.size≤q)
  (hU:FiAt B R M deep fuel n q w0 vn0 vs0 R0 a wa)
  (hEnd:∀a' w',FiEnd B R M deep n q w0 vn0 vs0 R0 a' w'→Q (.exit 0) a' w')
  (hPan:∀c a' w',a'.defers=[]→PW B R M w0 vn0 vs0 (fun _=>.tuple #[]) R0 (.panicked c) w'→Q (.panic c) a' w') :
  (Code.loop (fiBody 0)).wp Tryz.prog Q a wa:=by
 refine wp_loop (FiAt B R M deep fuel n q w0 vn0 vs0 R0) (fun _ w=>tokLeft R w) hU ?_
 clear hU a wa
 rintro a wr ⟨m,l,s,vl,vn,vs,vL,v3,v4,v5,hF,h,hc,hf,hg,hbq,hL,hap,hR0,hsm,hn,h2k⟩
 obtain⟨u,rfl⟩:=lay41 hF
 clear hF
 conv=>arg 2;whnf
 have hpos:=h.tok.pos
 have hleft:=h.left
 obtain⟨m,rfl⟩:∃k,m=k+1:=⟨m-1,by omega⟩
 have hcs:=hc.size
 obtain⟨A,cL,rfl,hL1,hL2,hLr,_⟩:=Rd.of_own hL
 obtain⟨nl,hnl⟩:∃z,Hid (l.length=z):=⟨_,rfl⟩
 rw[hnl.out] at hL hbq
 have hnl2:nl≤2000:=by have:=hnl.out;omega
 have hqR:¬q=R:=blk_ne hbq h.blk (by decide)
 have hgo:=goes_any cCuC wr h
 have hres:R0=if isT s cCuC then .ok () (s.on.setN n fun d=>{ d with fields:=l }) else (nameR s fun x=>l.any fun f=>decide (f.1=x)).bind fun x s1=>(mustR (goesR s1 cQ).2 cCol).bind fun _ s2=>(typedR fuel false [] s2).bind fun t s3=>(mustR s3 cSem).bind fun _ s4=>fieldsR (typedR fuel) n m (l++[(x,(goesR s1 cQ).1,t)]) s4:=by rw[←hR0.out,fieldsR]
 have Hres:=Lib.hid hres
 clear hres
 go_wp2_with fail
 refine hgo.mono ?_
 rintro e w1 ⟨rfl,hc1,vl1,h1⟩
 have hch1:Chg (Wr R M vn0) w0 w1:=hc.trans hc1 (fun k _ e=>.inl e)
 have hbq1:=hc1.blk hbq hqR
 have hL1':=own_chg hL hc1 (fun k hk e=>own_ne_blk hL h.blk (by decide) (by rw[←e];exact hk.symm))
 by_cases ht:isT s cCuC=true
 ·have hres:R0=.ok () (s.on.setN n fun d=>{ d with fields:=l }):=by rw[Hres.out,if_pos ht]
  have hs1:(goesR s cCuC).2=s.on:=by unfold goesR;rw[if_pos ht]
  rw[hs1] at h1
  rw[ht]
  have hend:∀a',Fr 41 [.pointer (some ⟨R,0,none⟩),.int .i64 n,.int .i64 deep,v3,v4,v5,.pointer (some ⟨q,0,none⟩)] a'→FiEnd B R M deep n q w0 vn0 vs0 R0 a' w1:=fun a' hF'=>⟨l,s.on,vl1,vn,vs,.slice A nl cL,v3,v4,v5,hF',h1,hch1,hf,hg,hbq1,by rw[hnl.out];exact hL1',hres,hn⟩
  clear ht Hres hgo
  go_wp2_with fail
  exact hEnd _ _ (hend _ ⟨_,rfl,rfl⟩)
 ·have ht':isT s cCuC=false:=by simpa using ht
  have hres:R0=(nameR s fun x=>l.any fun f=>decide (f.1=x)).bind fun x s1=>(mustR (goesR s1 cQ).2 cCol).bind fun _ s2=>(typedR fuel false [] s2).bind fun t s3=>(mustR s3 cSem).bind fun _ s4=>fieldsR (typedR fuel) n m (l++[(x,(goesR s1 cQ).1,t)]) s4:=by rw[Hres.out,if_neg ht]
  have hs1:(goesR s cCuC).2=s:=by unfold goesR;rw[if_neg ht]
  rw[hs1] at h1
  rw[ht']
  clear ht ht' Hres hgo
  have hnm:=name_fields (fun x=>l.any fun f=>decide (f.1=x)) ⟨q,0,none⟩ w1 h1 (Nat.le_trans (nameR_hd h1) (by omega)) (fun W hW x _=>fields1_any x ⟨q,0,none⟩ A nl cL l W ((Rd.chg hLr hc1 (fun a e=>by subst e;intro e2;exact own_ne_blk hL h.blk (by decide) (by rw[←e2];rfl))).ext hW) hnl.out (by omega) (hW.cell (hbq1.cell 0)))
  go_wp2_with fail
  refine hnm.mono ?_
  intro e w2 hpl
  rcases hpl.cases with⟨x,s2,vl2,hr2,rfl,hc2,h2⟩|⟨at_,why,hr2,rfl,hc2⟩
  ·obtain⟨hk2,z1,z2,z3,z4,hs2⟩:=nameR_ok hr2.out
   clear z1 z2 z3 z4
   have hol2:=on_len (k0_pos hk2)
   rw[←hs2] at hol2
   have hns2:s2.ns=s.ns:=by rw[hs2];rfl
   have hres2:R0=(mustR (goesR s2 cQ).2 cCol).bind fun _ s2'=>(typedR fuel false [] s2').bind fun t s3=>(mustR s3 cSem).bind fun _ s4=>fieldsR (typedR fuel) n m (l++[(x,(goesR s2 cQ).1,t)]) s4:=by rw[hres,hr2.out];rfl
   have Hres2:=Lib.hid hres2
   clear hs2 hres hres2
   have hch2:Chg (Wr R M vn0) w0 w2:=hch1.trans hc2 (fun k _ e=>.inl e)
   have hbq2:=hc2.blk hbq1 hqR
   have hL2':=own_chg hL1' hc2 (fun k hk e=>own_ne_blk hL1' h1.blk (by decide) (by rw[←e];exact hk.symm))
   obtain⟨q7,hq7⟩:∃z,Hid (w2.heap.size=z):=⟨_,rfl⟩
   obtain⟨w3,hw3⟩:∃z,Hid (w2.alloc (.cells #[.string x,.bool false,.int .i64 0] 38)=z):=⟨_,rfl⟩
   have hx3:Ext w2 w3:=by rw[←hw3.out];exact (Ext.refl w2).alloc _
   have hb7:Blk w3 q7 #[.string x,.bool false,.int .i64 0] 38:=by rw[←hw3.out,←hq7.out];exact Blk.new w2 _ _
   have h3:=h2.ext hx3
   have hbq3:=hbq2.ext hx3
   have hL3':=own_ext hL2' hx3
   have hch3:Chg (Wr R M vn0) w0 w3:=hch2.trans (Chg.ofExt (S:=fun _=>False) hx3) (fun _ _ e=>e.elim)
   have hq70:w0.heap.size≤q7:=by rw[←hq7.out];exact hch2.size
   have hq7R:¬q7=R:=blk_ne hb7 h3.blk (by decide)
   have hqq7:¬q=q7:=blk_ne hbq3 hb7 (by decide)
   have hL7:∀k,(Value.slice A nl cL).ownBlock=some k→¬k=q7:=fun k hk e=>by have:=(hL2'.lt k hk).2;have:=hq7.out;omega
   have ha7:∀(i:Nat) v,vs[i]?=some v→∀k,v.2.2.ownBlock=some k→¬k=q7:=fun i v hv k hk e=>by have:=(h2.subLt i v hv).2.2 k hk;have:=hq7.out;omega
   have hgo4:=goes_any cQ w3 h3
   go_wp2_with fail
   rw[hw3.out,hq7.out]
   refine hgo4.mono ?_
   rintro e w4 ⟨rfl,hc4,vl4,h4⟩
   obtain⟨bQ,hbQ⟩:∃z,Hid (isT s2 cQ=z):=⟨_,rfl⟩
   have hbQ1:(goesR s2 cQ).1=bQ:=by rw[←hbQ.out];unfold goesR;split<;>simp_all
   have hln4:(goesR s2 cQ).2.l.length≤s2.l.length∧(goesR s2 cQ).2.ns=s2.ns:=by
    unfold goesR
    split
    ·next hq=>exact⟨by have:=on_len (isT_pos hq);show s2.on.l.length≤_;omega,rfl⟩
    ·exact⟨Nat.le_refl _,rfl⟩
   obtain⟨s4,hs4⟩:∃z,Hid ((goesR s2 cQ).2=z):=⟨_,rfl⟩
   have hres4:=Hres2.out
   rw[hbQ1] at hres4
   rw[hs4.out] at hres4 h4 hln4
   rw[hbQ.out]
   have Hres4:=Lib.hid hres4
   clear hres4 hbQ1 Hres2 hgo4 hnm
   have hb74:=hc4.blk hb7 hq7R
   have hbq4:=hc4.blk hbq3 hqR
   have hL4':=own_chg hL3' hc4 (fun k hk e=>own_ne_blk hL3' h3.blk (by decide) (by rw[←e];exact hk.symm))
   have hch4:Chg (Wr R M vn0) w0 w4:=hch3.trans hc4 (fun k _ e=>.inl e)
   have f71:=hb74.frozen 1
   have c71:w4.cell? ⟨q7,1,none⟩=some (.bool false):=hb74.cell 1
   obtain⟨w5,hw5⟩:∃z,Hid (w4.setCell ⟨q7,1,none⟩ (.bool bQ)=z):=⟨_,rfl⟩
   have h5:Rs B w5 R M vl4 vn vs s4:=by rw[←hw5.out];exact h4.setF hb74 ha7 (Nat.le_trans hB hq70) 1 _
   have hb75:Blk w5 q7 #[.string x,.bool bQ,.int .i64 0] 38:=by rw[←hw5.out];exact hb74.set 1 _
   have hbq5:Blk w5 q #[.slice A nl cL] 34:=by rw[←hw5.out];exact (Chg.one w4 q7 1 _).blk hbq4 hqq7
   have hL5':w5.ownsRow w0.heap.size 38 3 (.slice A nl cL) nl (flds l):=by rw[←hw5.out];exact own_chg hL4' (Chg.one w4 q7 1 _) (fun k hk e=>hL7 k hk e)
   have hch5:Chg (Wr R M vn0) w0 w5:=by rw[←hw5.out];exact hch4.set (p:=⟨q7,1,none⟩) (.inr hq70) _
   have hmu5:=must_any cCol w5 h5
   go_wp2_with fail
   rw[hw5.out]
   refine hmu5.mono ?_
   intro e w6 hpl6
   rcases hpl6.cases with⟨_,s6,vl6,hr6,rfl,hc6,h6⟩|⟨at_,why,hr6,rfl,hc6⟩
   rotate_left
   ·have hres6:R0=.bad at_ why:=by rw[Hres4.out,hr6.out];rfl
    go_wp2_with fail
    exact hPan _ _ _ rfl (PW.badI hres6 rfl (hch5.trans hc6 (fun k _ e=>.inl e)))
   obtain⟨hbt6,hs6⟩:=mustR_ok hr6.out
   have hol6:=on_len (isT_pos hbt6)
   rw[←hs6] at hol6
   have hns6:s6.ns=s.ns:=by rw[hs6];show s4.ns=_;rw[hln4.2,hns2]
   have hres6:R0=(typedR fuel false [] s6).bind fun t s3=>(mustR s3 cSem).bind fun _ s4=>fieldsR (typedR fuel) n m (l++[(x,bQ,t)]) s4:=by rw[Hres4.out,hr6.out];rfl
   have Hres6:=Lib.hid hres6
   clear hres6 Hres4 hmu5 hs6
   have hb76:=hc6.blk hb75 hq7R
   have hbq6:=hc6.blk hbq5 hqR
   have hL6':=own_chg hL5' hc6 (fun k hk e=>own_ne_blk hL5' h5.blk (by decide) (by rw[←e];exact hk.symm))
   have hch6:Chg (Wr R M vn0) w0 w6:=hch5.trans hc6 (fun k _ e=>.inl e)
   have hcs6:=hch6.size
   have hT:=H false [] none 0 0 s6 w6 vl6 vn vs h6 (Rd.nil _ _) rfl (by omega) (by simp) (Nat.le_trans hB hcs6)
   have hdw:IntKind.i64.wrap ((deep:Int)+1)=(deep:Int)+1:=by rw[IntKind.wrap_i64];omega
   rw[show ((deep+1:Nat):Int)=(deep:Int)+1 by omega] at hT
   go_wp2_with fail
   refine hT.mono ?_
   intro e w7 hpw
   rcases hpw.cases with⟨ty,s7,vl7,vn7,vs7,hr7,rfl,hc7,h7,hf7,hg7⟩|⟨at_,why,hr7,rfl,hc7⟩
   rotate_left
   ·have hres7:R0=.bad at_ why:=by rw[Hres6.out,hr7.out];rfl
    go_wp2_with fail
    exact hPan _ _ _ rfl (PW.badI hres7 rfl (hch6.trans hc7 (Wr.back hf)))
   obtain⟨hln71,hln72⟩:=typedR_len fuel false [] s6 ty s7 hr7.out
   have hn7:n<s7.ns.length:=by rw[hns6] at hln71;omega
   have hres7:R0=(mustR s7 cSem).bind fun _ s4=>fieldsR (typedR fuel) n m (l++[(x,bQ,ty)]) s4:=by rw[Hres6.out,hr7.out];rfl
   have Hres7:=Lib.hid hres7
   clear hres7 Hres6 hT
   have hw6q:∀k,k=q7→¬Wr R M vn k:=by
    rintro k rfl (e|e|e)
    ·exact hq7R e
    ·obtain⟨cnt,hm,_⟩:=h6.named
     exact hm.not_cells hb76 e.symm
    ·exact own_ne_blk h6.nds.row hb76 (by decide) e.symm
   have hw6qq:¬Wr R M vn q:=by
    rintro (e|e|e)
    ·exact hqR e
    ·obtain⟨cnt,hm,_⟩:=h6.named
     exact hm.not_cells hbq6 e.symm
    ·exact own_ne_blk h6.nds.row hbq6 (by decide) e.symm
   have hb77:=hc7.blk hb76 (hw6q _ rfl)
   have hbq7:=hc7.blk hbq6 hw6qq
   have hL7':=own_chg hL6' hc7 (row_away h6 hL6' (by decide) (by decide))
   have hch7:Chg (Wr R M vn0) w0 w7:=hch6.trans hc7 (Wr.back hf)
   have hfT:=hf.trans hf7 hcs6
   have hgT:=hg.trans hg7 hcs6
   have hap7:Apart (.slice A nl cL) (fun v=>v.2.2) vs7:=Apart.old (by rw[←hnl.out];exact hap) (fun i v' hv=>(hg7 i v' hv).2.2) (fun k hk=>(hL6'.lt k hk).2)
   have ha77:∀(i:Nat) v,vs7[i]?=some v→∀k,v.2.2.ownBlock=some k→¬k=q7:=fun i v hv k hk e=>by
    rcases (hg7 i v hv).2.2 k hk with e2|⟨v2,e2,e3⟩
    ·have:=hb76.lt;omega
    ·exact ha7 i v2 e2 k e3 e
   have f72:=hb77.frozen 2
   have c72:w7.cell? ⟨q7,2,none⟩=some (.int .i64 0):=hb77.cell 2
   obtain⟨w8,hw8⟩:∃z,Hid (w7.setCell ⟨q7,2,none⟩ (.int .i64 (ty:Int))=z):=⟨_,rfl⟩
   have h8:Rs B w8 R M vl7 vn7 vs7 s7:=by rw[←hw8.out];exact h7.setF hb77 ha77 (Nat.le_trans hB hq70) 2 _
   have hb78:Blk w8 q7 #[.string x,.bool bQ,.int .i64 (ty:Int)] 38:=by rw[←hw8.out];exact hb77.set 2 _
   have hbq8:Blk w8 q #[.slice A nl cL] 34:=by rw[←hw8.out];exact (Chg.one w7 q7 2 _).blk hbq7 hqq7
   have hL8':w8.ownsRow w0.heap.size 38 3 (.slice A nl cL) nl (flds l):=by rw[←hw8.out];exact own_chg hL7' (Chg.one w7 q7 2 _) (fun k hk e=>hL7 k hk e)
   have hch8:Chg (Wr R M vn0) w0 w8:=by rw[←hw8.out];exact hch7.set (p:=⟨q7,2,none⟩) (.inr hq70) _
   have hmu8:=must_any cSem w8 h8
   go_wp2_with fail
   rw[hw8.out]
   refine hmu8.mono ?_
   intro e w9 hpl9
   rcases hpl9.cases with⟨_,s9,vl9,hr9,rfl,hc9,h9⟩|⟨at_,why,hr9,rfl,hc9⟩
   rotate_left
   ·have hres9:R0=.bad at_ why:=by rw[Hres7.out,hr9.out];rfl
    go_wp2_with fail
    exact hPan _ _ _ rfl (PW.badI hres9 rfl (hch8.trans hc9 (fun k _ e=>.inl e)))
   obtain⟨hbt9,hs9⟩:=mustR_ok hr9.out
   have hol9:=on_len (isT_pos hbt9)
   rw[←hs9] at hol9
   have hns9:s9.ns=s7.ns:=by rw[hs9];rfl
   have hres9:fieldsR (typedR fuel) n m (l++[(x,bQ,ty)]) s9=R0:=by rw[Hres7.out,hr9.out];rfl
   have Hres9:=Lib.hid hres9
   clear hres9 Hres7 hmu8 hs9
   have hb79:=hc9.blk hb78 hq7R
   have hbq9:=hc9.blk hbq8 hqR
   have hL9':=own_chg hL8' hc9 (fun k hk e=>own_ne_blk hL8' h8.blk (by decide) (by rw[←e];exact hk.symm))
   have hch9:Chg (Wr R M vn0) w0 w9:=hch8.trans hc9 (fun k _ e=>.inl e)
   have d0:w9.cell? ⟨q7,0,none⟩=some (.string x):=hb79.cell 0
   have d1:w9.cell? ⟨q7,1,none⟩=some (.bool bQ):=hb79.cell 1
   have d2:w9.cell? ⟨q7,2,none⟩=some (.int .i64 (ty:Int)):=hb79.cell 2
   have dq:w9.cell? ⟨q,0,none⟩=some (.slice A nl cL):=hbq9.cell 0
   have ha:Ext w9 (w9.alloc (.cells #[.string x,.bool bQ,.int .i64 (ty:Int)] 38)):=(Ext.refl w9).alloc _
   have hs90:=hch9.size
   go_wp2_with (
    refine wpList_app el_fld _ rfl (.tmp 29) (.tmp 31) rfl w0.heap.size (.slice A nl cL) nl (flds l) rfl (own_ext hL9' ha) (some ⟨w9.heap.size,0,none⟩) 1 1 (flds [(x,bQ,ty)]) rfl (Rd.of_block w9 38 (0,0) rfl) rfl (fun h=>by cases h) (flds_one _) (by omega) (by omega) (by simp;omega) (fun V2 w10 ho2 hg2 hv2=>?_)
    obtain⟨A2,c2,rfl,jj1,jj2,jj3,jj4⟩:=Rd.of_own ho2
    clear jj1 jj2 jj3 jj4
    have hchx:Chg (fun k=>(Value.slice A nl cL).ownBlock=some k) w9 w10:=(Chg.ofExt ha).trans (Chg.ofGrown hg2) (fun _ _ e=>e)
    have hbqx:=hchx.blk hbq9 (fun e=>own_ne_blk hL9' hbq9 (by decide) e.symm)
    have fqx:=hbqx.frozen 0
    have cqx:w10.cell? ⟨q,0,none⟩=some (.slice A nl cL):=hbqx.cell 0)
   have h10:=h9.otherF hL9' hB hap7 hchx
   have hlk:∀k,k<w0.heap.size→(Value.slice A nl cL).ownBlock=some k→Wr R M vn0 k:=fun k hk e=>by have:=(hL9'.lt k e).1;omega
   have hlen:(l++[(x,bQ,ty)]).length=nl+1:=by rw[List.length_append,hnl.out];rfl
   rw[show flds l++flds [(x,bQ,ty)]=flds (l++[(x,bQ,ty)]) by simp[flds]] at ho2
   have hap10:Apart (.slice A2 (nl+1) c2) (fun v=>v.2.2) vs7:=hap7.grown (w:=w9.alloc (.cells #[.string x,.bool bQ,.int .i64 (ty:Int)] 38)) hv2 (fun i v hv k hk=>by have:=(h9.subLt i v hv).2.2 k hk;simp;omega)
   have h11:Rs B (w10.setCell ⟨q,0,none⟩ (.slice A2 (nl+1) c2)) R M vl9 vn7 vs7 s9:=h10.setVar hbqx (by decide) (by decide) (by decide) (by decide) (by decide) (Nat.le_trans hB hq0) 0 _
   have hnlo:=hnl.out
   refine⟨⟨m,l++[(x,bQ,ty)],s9,vl9,vn7,vs7,.slice A2 (nl+1) c2,v3,v4,v5,⟨_,rfl,rfl⟩,h11,((hch9.trans hchx hlk).set (p:=⟨q,0,none⟩) (.inr hq0) _),hfT,hgT,hbqx.set 0 _,?_,hap10,Hres9,by omega,by rw[hns9];exact hn7,by rw[hlen];omega⟩,?_⟩
   ·rw[hlen];exact own_setCell (i:=0) ho2 hbqx (by decide) _
   ·rw[h11.left,hleft];omega
  ·have hres2:R0=.bad at_ why:=by rw[hres,hr2.out];rfl
   go_wp2_with fail
   exact hPan _ _ _ rfl (PW.badI hres2 rfl (hch1.trans hc2 (fun k _ e=>.inl e)))
set_option maxRecDepth 1000000 in
theorem fields_any {deep fuel:Nat} (H:TypC B R M (deep+1) fuel) (hd20:deep≤100) (n:Nat) (w:World) (h:Rs B w R M vl vn vs s) (hn:n<s.ns.length) (hB:B≤w.heap.size) :
  Calls Tryz.prog 162 #[.pointer (some ⟨R,0,none⟩),.int .i64 (n:Int),.int .i64 (deep:Int)] w fun e w'=>PW B R M w vn vs (fun _=>.tuple #[]) ((mustR s cCuO).bind fun _ s3=>fieldsR (typedR fuel) n s3.l.length [] s3) e w':=by
 have hmu:=must_any cCuO w h
 obtain⟨R0,hR0⟩:∃r,Hid (((mustR s cCuO).bind fun _ s3=>fieldsR (typedR fuel) n s3.l.length [] s3)=r):=⟨_,rfl⟩
 rw[hR0.out]
 obtain⟨PO,hPO⟩:∃PO:Ending→World→Prop,Hid ((fun e w'=>PW B R M w vn vs (fun _=>.tuple #[]) R0 e w')=PO):=⟨_,rfl⟩
 rw[hPO.out]
 go_enter Tryz.func162,Tryz.ntmps162
 go_wp2_with fail
 refine hmu.mono ?_
 intro e w1 hpl
 rcases hpl.cases with⟨_,s1,vl1,hr1,rfl,hc1,h1⟩|⟨at_,why,hr1,rfl,hc1⟩
 ·obtain⟨hb1,rfl⟩:=mustR_ok hr1.out
  have hre:fieldsR (typedR fuel) n s.on.l.length [] s.on=R0:=by rw[←hR0.out,hr1.out];rfl
  have hs1:=hc1.size
  have hx2:Ext w1 (w1.alloc (.cells #[.slice none 0 0] 34)):=(Ext.refl w1).alloc _
  have htl:=h1.tl
  go_wp2_with fail
  refine fieldsL (q:=w1.heap.size) (R0:=R0) (w0:=w1) (vn0:=vn) (vs0:=vs) H hd20 _ _ (Nat.le_trans hB hs1) (Nat.le_refl _) ⟨s.on.l.length,[],s.on,vl1,vn,vs,.slice none 0 0,_,_,_,⟨_,rfl,rfl⟩,h1.ext hx2,Chg.ofExt hx2,.inl rfl,SF.refl _ _,Blk.new w1 _ _,World.ownsRow_nil _ _ _ _,(fun i v _ k _ e=>by cases e),Lib.hid hre,Nat.le_refl _,hn,by simp;omega⟩ ?_ ?_
  ·rintro a' w4 ⟨l,s4,vl4,vn4,vs4,vL,v3,v4,v5,hF,h4,hc4,hf4,hg4,hbq4,hL4,hres,hn1⟩
   obtain⟨u,rfl⟩:=lay41 hF
   clear hF hmu
   obtain⟨A2,c2,rfl,jj1,jj2,jj3,jj4⟩:=Rd.of_own hL4
   clear jj1 jj2 jj3 jj4
   obtain⟨nl,hnl⟩:∃z,Hid (l.length=z):=⟨_,rfl⟩
   rw[hnl.out] at hL4 hbq4
   obtain⟨b,c,cur,rfl,hbB,hgb,hk1',hk2',hk3',hk4'⟩:=h4.rowb n hn1
   obtain⟨d,v,b',c',hd1,hv1,eb,_,_,hcell⟩:=h4.node n hn1
   injection eb with eb eb1 eb2
   simp only[Option.some.injEq,Addr.mk.injEq,and_true] at eb
   subst eb;subst eb2
   obtain⟨nn,hnn⟩:∃z,Hid (s4.ns.length=z):=⟨_,rfl⟩
   have q1:∀W,Ext w4 W→W.cell? ⟨R,1,none⟩=some (.slice (some ⟨b,0,none⟩) nn c):=fun W hW=>by rw[←hnn.out];exact (h4.ext hW).cells.2.1
   have qq:∀W,Ext w4 W→W.cell? ⟨w1.heap.size,0,none⟩=some (.slice A2 nl c2):=fun W hW=>(hbq4.ext hW).cell 0
   have hnI:(n:Int)<(nn:Int):=by have:=hnn.out;omega
   go_wp2_with fail
   refine Reg.startE (by kernel_rfl) ?_
   iterate 8 ((first|refine Reg.tn ?_|refine Reg.sn ?_);(try simp only[Reg.nn]))
   refine Reg.last 8 _ rfl (by kernel_rfl) (by kernel_rfl) (by kernel_rfl) (by decide) (by rfl) (fun W hW K hK=>?_)
   have q4:W.cell? ⟨b,n*6+5,none⟩=some v.2.2:=hcell W hW 5 (by omega)
   have f4:=(hgb.ext hW).frozen (n*6+5)
   go_simp
   refine hK.out _ _ ?_;clear hK K;(try simp only[Reg.nn])
   have h5:=h4.ext hW
   have hfill:=h5.fill hn1 (i:=5) (by omega) (fun d=>{ d with fields:=l }) (fun v=>(v.1,v.2.1,.slice A2 nl c2)) (.slice A2 nl c2) (fun d0 v0 q5 q6=>⟨rfl,by
    have hs:=h5.nds.sub n d0 v0 q5 q6
    exact⟨hs.syms,hs.items,by show World.ownsRow _ _ _ _ _ l.length _;rw[hnl.out];exact own_mono (own_ext hL4 hW) (Nat.le_trans hB hs1)⟩⟩)
   have hchT5:Chg (Wr R M vn) w1 (W.setCell ⟨b,n*6+5,none⟩ (.slice A2 nl c2)):=(hc4.trans (Chg.ofExt (S:=fun _=>False) hW) (fun _ _ e=>e.elim)).set (p:=⟨b,n*6+5,none⟩) (by
    rcases hf4 with e|⟨k,e,hk⟩
    ·exact .inl (.inr (.inr (by rw[←e];rfl)))
    ·have e:some b=some k:=e
     injection e with e;subst e;exact .inr hk) _
   have hgF:SF w1 vs (vs4.modify n fun v=>(v.1,v.2.1,.slice A2 nl c2)):=hg4.trans (sf_modify w1 vs4 n (fun v=>(v.1,v.2.1,.slice A2 nl c2)) (fun v hv=>⟨fun k hk=>.inr hk,fun k hk=>.inr hk,fun k hk=>.inl (hL4.lt k hk).1⟩)) (Nat.le_refl _)
   go_wp2_with fail
   go_end0
   rw[←hPO.out]
   exact PW.after (hc1.mono fun k _ e=>.inl e) (.inl rfl) (SF.refl _ _) (PW.okI hres rfl hchT5 hfill hf4 hgF)
  ·intro c a' w' hd hp
   refine⟨hd,?_⟩
   rw[←hPO.out]
   exact PW.after (hc1.mono fun k _ e=>.inl e) (.inl rfl) (SF.refl _ _) hp
 ·go_wp2_with fail
  refine⟨rfl,?_⟩
  rw[←hPO.out]
  exact PW.badI (by rw[←hR0.out,hr1.out];rfl) rfl (hc1.mono fun k _ e=>.inl e)
end
section
variable {B R M:Nat} {vl vn:Value} {vs:List V3} {s:PS}
theorem Rs.mapped {w w':World} {cnt n:Nat} {x:ByteArray} (h:Rs B w R M vl vn vs s) (hm:MapU Tryz.prog 9 3 w' M cnt (fun y=>if y=x then some n else s.nm y)) (hg:w.grownBy w' (some M)) (hc:cnt+s.l.length≤2000) (hn:n<s.ns.length):Rs B w' R M vl vn vs { s with nm:=fun y=>if y=x then some n else s.nm y }:=by
 have hch:Chg (fun k=>some M=some k) w w':=Chg.ofGrown hg
 obtain⟨hsub,hRM,hnR,hnM⟩:=h.sep
 obtain⟨tg,off,cap,e,h1,h2,h3,h4⟩:=h.toks
 obtain⟨cnt0,h5,h6⟩:=h.named
 have hlow:∀b,b<B→¬some M=some b:=fun b hb e=>by injection e with e;have:=h.hM;omega
 refine⟨hch.blk h.blk (fun e=>by injection e with e;exact hRM e.symm),⟨tg,off,cap,e,Rd.chg h1 hch (fun a e=>by injection e with e;subst e;exact hlow tg h4),h2,h3,h4⟩,⟨h.nds.len,own_chg h.nds.row hch (fun k hk e=>hnM (by rw[hk];exact e.symm)),fun i d v q1 q2=>?_⟩,⟨cnt,hm,hc⟩,fun y m hy=>?_,h.tok,h.tl,h.ts,h.nl,h.hR,h.hM,Rd.chg h.wd hch (fun a e=>by injection e with e;subst e;exact hlow 1 h.hw),h.hw⟩
 ·obtain⟨a1,a2,a3⟩:=hsub i d v q1 q2
  exact (h.nds.sub i d v q1 q2).chg hch (fun k hk e=>a1 k hk (.inr (.inl (by injection e with e;exact e.symm)))) (fun k hk e=>a2 k hk (.inr (.inl (by injection e with e;exact e.symm)))) (fun k hk e=>a3 k hk (.inr (.inl (by injection e with e;exact e.symm))))
 ·simp only at hy
  split at hy
  ·injection hy with hy;show m<s.ns.length;omega
  ·exact h.nmOk y m hy
theorem modify_self {α:Type} (l:List α) (n:Nat):l.modify n (fun v=>v)=l:=List.modify_id n l
set_option maxRecDepth 1000000 in
set_option maxHeartbeats 2000000 in
theorem defined_any {deep fuel:Nat} (H:TypC B R M (deep+1) fuel) (hd20:deep≤100) (n:Nat) (k:Int) (hk:k=9∨k=10∨k=11) (w:World) (h:Rs B w R M vl vn vs s) (hn:n<s.ns.length) (hB:B≤w.heap.size) :
  Calls Tryz.prog 141 #[.pointer (some ⟨R,0,none⟩),.int .i64 (n:Int),.int .i64 k,.int .i64 (deep:Int)] w fun e w'=>PW B R M w vn vs (fun _=>.tuple #[]) (definedR (typedR fuel) s n k) e w':=by
 obtain⟨q,hq⟩:∃z,Hid (w.heap.size=z):=⟨_,rfl⟩
 obtain⟨w0,hw0⟩:∃z,Hid (w.alloc (.cells #[.pointer (some ⟨R,0,none⟩)] 149)=z):=⟨_,rfl⟩
 have hx0:Ext w w0:=by rw[←hw0.out];exact (Ext.refl w).alloc _
 have hbq0:Blk w0 q #[.pointer (some ⟨R,0,none⟩)] 149:=by rw[←hw0.out,←hq.out];exact Blk.new w _ _
 have h0:=h.ext hx0
 have hqR:¬q=R:=blk_ne hbq0 h0.blk (by decide)
 have hsz:=nameR_hd h
 have e0:w0.cell? ⟨q,0,none⟩=some (.pointer (some ⟨R,0,none⟩)):=hbq0.cell 0
 have hnm:=name_defined (fun x=>(s.nm x).isSome) ⟨q,0,none⟩ w0 h0 (Nat.le_trans hsz (by omega)) (fun W hW x hx=>(defined1_any x ⟨q,0,none⟩ W (h0.ext hW) (by rw[hx];unfold maxLen;omega) (hW.cell e0)).mono fun e w' ⟨he,hw⟩=>⟨he,by subst hw;exact Ext.refl _⟩)
 obtain⟨R0,hR0⟩:∃r,Hid (definedR (typedR fuel) s n k=r):=⟨_,rfl⟩
 rw[hR0.out]
 obtain⟨PO,hPO⟩:∃PO:Ending→World→Prop,Hid ((fun e w'=>PW B R M w vn vs (fun _=>.tuple #[]) R0 e w')=PO):=⟨_,rfl⟩
 rw[hPO.out]
 go_enter Tryz.func141,Tryz.ntmps141
 go_wp2_with fail
 rw[hw0.out,hq.out]
 refine hnm.mono ?_
 intro e w1 hpl
 rcases hpl.cases with⟨x,s1,vl1,hr1,rfl,hc1,h1⟩|⟨at_,why,hr1,rfl,hc1⟩
 ·obtain⟨hk1,z1,z2,z3,z4,hs1⟩:=nameR_ok hr1.out
  subst hs1
  have hol:=on_len (k0_pos hk1)
  have hxl:x.size≤maxLen:=by rw[z4];unfold maxLen;omega
  have hxl2:x.size≤4096:=by rw[z4];omega
  have hn1:n<s.on.ns.length:=hn
  have hbq1:=hc1.blk hbq0 hqR
  have hchN:Chg (fun k=>k=R) w w1:=(Chg.ofExt hx0).trans hc1 (fun _ _ e=>e)
  obtain⟨cnt,hm,hcnt⟩:=h0.named
  have hm1:=map_chg hm hc1 (fun e=>h0.sep.2.1 e.symm)
  have hres:R0=(if k=9 then (mustR (s.on.called n x) cLt).bind fun _ s3=>symsR n s3.l.length [] s3
   else if k=10 then
    (if (hd (s.on.called n x).l).k≠1∨numO (hd (s.on.called n x).l).s.data.toList=none then failR (s.on.called n x) 4
    else .ok () ((s.on.called n x).on.setN n fun d=>{ d with size:=((numO (hd (s.on.called n x).l).s.data.toList).getD 0:Nat) }))
   else (mustR (s.on.called n x) cCuO).bind fun _ s3=>fieldsR (typedR fuel) n s3.l.length [] s3):=by rw[←hR0.out,definedR,hr1.out];rfl
  have Hres:=Lib.hid hres
  have e1:w1.cell? ⟨q,0,none⟩=some (.pointer (some ⟨R,0,none⟩)):=hbq1.cell 0
  clear hres hm hnm z1 z2 z3 z4 hk1 h0 e0
  obtain⟨b,c,cur,rfl,hbB,hgb,hk1,hk2,hk3,hk4⟩:=h1.rowb n hn1
  obtain⟨d,v,b',c',hd1,hv1,eb,_,_,hcell⟩:=h1.node n hn1
  injection eb with eb eb1 eb2
  simp only[Option.some.injEq,Addr.mk.injEq,and_true] at eb
  subst eb;subst eb2
  have q1:w1.cell? ⟨R,1,none⟩=some (.slice (some ⟨b,0,none⟩) s.on.ns.length c):=h1.cells.2.1
  have q4:w1.cell? ⟨b,n*6+1,none⟩=some (.string d.name):=hcell _ (Ext.refl _) 1 (by omega)
  have f4:=hgb.frozen (n*6+1)
  have hfill:=h1.fill hn1 (i:=1) (by omega) (fun d=>{ d with name:=x }) (fun v=>v) (.string x) (fun d0 v0 q5 q6=>⟨rfl,by
   have hs:=h1.nds.sub n d0 v0 q5 q6
   exact⟨hs.syms,hs.items,hs.fields⟩⟩)
  rw[modify_self] at hfill
  obtain⟨nn,hnn⟩:∃z,Hid (s.on.ns.length=z):=⟨_,rfl⟩
  rw[hnn.out] at q1 hfill
  have hnI:(n:Int)<(nn:Int):=by have:=hnn.out;omega
  obtain⟨w2,hw2⟩:∃z,Hid (w1.setCell ⟨b,n*6+1,none⟩ (.string x)=z):=⟨_,rfl⟩
  rw[hw2.out] at hfill
  obtain⟨_,hRM,hnR,hnM⟩:=h1.sep
  have hbM:¬M=b:=fun e=>hnM (by rw[e];rfl)
  have hbq:¬b=q:=fun e=>by have:=hgb;rw[e] at this;exact blk_ne this hbq1 (by decide) rfl
  have hbR:¬b=R:=fun e=>hnR (by rw[e];rfl)
  have hch2:Chg (fun k=>k=b) w1 w2:=by rw[←hw2.out];exact Chg.one w1 b (n*6+1) _
  have hbq2:=hch2.blk hbq1 (fun e=>hbq e.symm)
  have hm2:=map_chg hm1 hch2 hbM
  obtain⟨w3,hrun,hm3,hg3⟩:=hm2.store mt (by unfold maxLen;omega) x hxl n (by have:=hnn.out;have:=h1.nl;omega)
  have hch3:Chg (fun k=>some M=some k) w2 w3:=Chg.ofGrown hg3
  have h3:=hfill.mapped hm3 hg3 (by show cnt+1+s.on.l.length≤2000;omega) (by show n<(s.on.setN n _).ns.length;rw[setN_len];exact hn1)
  have hMq:¬M=q:=hm2.not_cells hbq2
  have hbq3:=hch3.blk hbq2 (fun e=>hMq (by injection e))
  have e2:w2.cell? ⟨q,0,none⟩=some (.pointer (some ⟨R,0,none⟩)):=hbq2.cell 0
  have e3:w3.cell? ⟨q,0,none⟩=some (.pointer (some ⟨R,0,none⟩)):=hbq3.cell 0
  have cM:w2.cell? ⟨R,2,none⟩=some (.map (some M)):=hfill.cells.2.2.1
  have hchT:Chg (Wr R M (.slice (some ⟨b,0,none⟩) nn c)) w w3:=by
   refine Chg.trans (hchN.mono (fun k _ e=>.inl e)) (Chg.trans (S:=fun k=>k=b∨k=M) (hch2.mono (fun k _ e=>.inl e)) hch3 (fun k _ e=>.inr (by injection e with e;exact e.symm))) ?_
   rintro k _ (e|e)
   ·exact .inr (.inr (by rw[e];rfl))
   ·exact .inr (.inl e)
  have hB3:B≤w3.heap.size:=by have:=hchT.size;omega
  have hn3:n<(s.on.called n x).ns.length:=by show n<(s.on.setN n _).ns.length;rw[setN_len];exact hn1
  have h3:Rs B w3 R M vl1 (.slice (some ⟨b,0,none⟩) nn c) vs (s.on.called n x):=h3
  rw[←hw2.out] at e2 cM hrun
  clear hm1 hm2 hm3 hg3 hfill hbq2 hcell
  rcases hk with rfl|rfl|rfl
  ·have hcall:=syms_any n w3 h3 hn3 hB3
   have hres:R0=(mustR (s.on.called n x) cLt).bind fun _ s3=>symsR n s3.l.length [] s3:=by rw[Hres.out,if_pos rfl]
   rw[←hres] at hcall
   clear Hres
   go_wp2_with fail
   refine hcall.mono ?_
   intro e w4 hpw
   have hfin:PW B R M w (.slice (some ⟨b,0,none⟩) s.on.ns.length c) vs (fun _=>.tuple #[]) R0 e w4:=by rw[hnn.out];exact PW.after hchT (.inl rfl) (SF.refl _ _) hpw
   rcases hpw.cases with⟨_,s5,vl5,vn5,vs5,hr5,rfl,_⟩|⟨at_,why,hr5,rfl,_⟩
   ·go_wp2_with fail
    go_end0
    rw[←hPO.out]
    exact hfin
   ·go_wp2_with fail
    rw[←hPO.out]
    exact⟨rfl,hfin⟩
  ·obtain⟨tg,off,cap,rfl,hp,hnc,hcm,hh⟩:=h3.head
   obtain⟨S2,hS2⟩:∃z,Hid (s.on.called n x=z):=⟨_,rfl⟩
   have hns2:s.on.ns.length=S2.ns.length:=by rw[←hS2.out];exact (setN_len s.on n _).symm
   have hres:R0=(if (hd S2.l).k≠1∨numO (hd S2.l).s.data.toList=none then failR S2 4
    else .ok () (S2.on.setN n fun d=>{ d with size:=((numO (hd S2.l).s.data.toList).getD 0:Nat) })):=by rw[←hS2.out,Hres.out,if_neg (by decide),if_pos rfl]
   clear Hres
   rw[hS2.out] at h3 hp hnc hh hn3
   obtain⟨t,ht⟩:∃z,Hid (hd S2.l=z):=⟨_,rfl⟩
   obtain⟨ln,hln⟩:∃z,Hid (S2.l.length=z):=⟨_,rfl⟩
   have htz:=nameR_hd h3
   rw[ht.out] at hh hres htz
   rw[hln.out] at hp hnc
   obtain⟨o,ho⟩:∃z,Hid (numO t.s.data.toList=z):=⟨_,rfl⟩
   rw[ho.out] at hres
   have Hres:=Lib.hid hres
   clear hres
   have hnum:=number_any t.s (Nat.le_trans htz (by omega)) w3
   rw[ho.out] at hnum
   have cR:∀W,Ext w3 W→W.cell? ⟨R,0,none⟩=some (.slice (some ⟨tg,off,none⟩) ln cap):=fun W hW=>by rw[←hln.out];exact (h3.ext hW).cells.1
   have cq:∀W,Ext w3 W→W.cell? ⟨q,0,none⟩=some (.pointer (some ⟨R,0,none⟩)):=fun W hW=>(hbq3.ext hW).cell 0
   have cR3:=cR w3 (Ext.refl _)
   obtain⟨a0,a1,a2⟩:=hh w3 (Ext.refl _)
   have hi1:1≤ln:=hp
   have hi2:(0:Int)<(ln:Int):=by omega
   go_wp2_with fail
   refine hnum.mono ?_
   rintro e w4 ⟨rfl,hx4⟩
   have h4:=h3.ext hx4
   have hf:=fail_any 4 w4 h4
   rw[ht.out] at hf
   have cR4:=cR w4 hx4
   have cq4:=cq w4 hx4
   obtain⟨b0,b1,b2⟩:=hh w4 hx4
   have hchT4:=hchT.trans (Chg.ofExt (S:=fun _=>False) hx4) (fun _ _ e=>e.elim)
   have hbad:R0=failR S2 4→PW B R M w (.slice (some ⟨b,0,none⟩) nn c) vs (fun _=>.tuple #[]) R0 (.panicked [{ v:=.iface 147 (.agg #[.int .i64 (t.a:Int),.int .i64 4]),recovered:=false }]) w4:=fun e=>PW.badI (by rw[e];unfold failR;rw[ht.out]) rfl hchT4
   rw[←hnn.out] at hbad
   clear a0 a1 a2 hnum e3 cR3 hrun e2 cM q1 q4 f4
   by_cases hk1:t.k=1
   ·rw[hk1] at b0
    cases o with
    | none=>
     have hr0:R0=failR S2 4:=by rw[Hres.out];simp
     rw[show numV none=Value.tuple #[.int .i64 0,.bool false] from rfl]
     go_wp2_with fail
     refine hf.mono ?_
     rintro e w5 ⟨rfl,rfl⟩
     go_wp2_with fail
     rw[←hPO.out]
     exact⟨rfl,hbad hr0⟩
    | some v2=>
     have hr0:R0=.ok () (S2.on.setN n fun d=>{ d with size:=(v2:Int) }):=by rw[Hres.out];simp[hk1]
     have hk3:(hd S2.l).k≠3:=by rw[ht.out,hk1];decide
     have hc1:¬cap=1:=by
      have:=(h4.tok.tail hk3).2;have:=(h4.tok.tail hk3).1.pos;have:=hln.out;omega
     have hcI:(1:Int)≤(ln:Int):=by omega
     have Hk3:=Lib.hid hk3
     clear Hres hk3 hbad hf
     have cR5:∀W,Ext w4 W→W.cell? ⟨R,0,none⟩=some (.slice (some ⟨tg,off,none⟩) ln cap):=fun W hW=>cR W (hx4.trans hW)
     have cq5:∀W,Ext w4 W→W.cell? ⟨q,0,none⟩=some (.pointer (some ⟨R,0,none⟩)):=fun W hW=>cq W (hx4.trans hW)
     rw[show numV (some v2)=Value.tuple #[.int .i64 (v2:Int),.bool true] from rfl]
     go_wp2_with fail
     refine Reg.startE (by kernel_rfl) ?_
     iterate 8 ((first|refine Reg.tn ?_|refine Reg.sn ?_);(try simp only[Reg.nn]))
     refine Reg.last 8 _ rfl (by kernel_rfl) (by kernel_rfl) (by kernel_rfl) (by decide) (by rfl) (fun W hW K hK=>?_)
     have fR:=((h4.ext hW).cells.2.2.2.1)
     go_simp
     refine hK.out _ _ ?_;clear hK K;(try simp only[Reg.nn])
     have hon:=(h4.ext hW).on Hk3.out
     rw[hln.out] at hon
     have hbqW:=(Chg.one W R 0 (.slice (some ⟨tg,off+3,none⟩) (ln-1) (cap-1))).blk ((hbq3.ext hx4).ext hW) hqR
     have eq5:(W.setCell ⟨R,0,none⟩ (.slice (some ⟨tg,off+3,none⟩) (ln-1) (cap-1))).cell? ⟨q,0,none⟩=some (.pointer (some ⟨R,0,none⟩)):=hbqW.cell 0
     rw[←hnn.out,hns2] at hon
     have hn5:n<S2.on.ns.length:=hn3
     obtain⟨d5,v5,b5,c5,hd5,hv5,eb5,_,_,hcell5⟩:=hon.node n hn5
     injection eb5 with eb5 eb51 eb52
     simp only[Option.some.injEq,Addr.mk.injEq,and_true] at eb5
     subst eb5;subst eb52
     obtain⟨b6,c6,cur6,e6,_,hgb6,_⟩:=hon.rowb n hn5
     injection e6 with e6 e61 e62
     simp only[Option.some.injEq,Addr.mk.injEq,and_true] at e6
     subst e6;subst e62
     have q15:=hon.cells.2.1
     have q45:=hcell5 _ (Ext.refl _) 2 (by omega)
     have f45:=hgb6.frozen (n*6+2)
     have hfill5:=hon.fill hn5 (i:=2) (by omega) (fun d=>{ d with size:=(v2:Int) }) (fun v=>v) (.int .i64 (v2:Int)) (fun d0 v0 q5 q6=>⟨rfl,by
      have hs:=hon.nds.sub n d0 v0 q5 q6
      exact⟨hs.syms,hs.items,hs.fields⟩⟩)
     rw[modify_self] at hfill5
     have hnn5:S2.ns.length=nn:=by rw[←hns2];exact hnn.out
     have q15:(W.setCell ⟨R,0,none⟩ (.slice (some ⟨tg,off+3,none⟩) (ln-1) (cap-1))).cell? ⟨R,1,none⟩=some (.slice (some ⟨b,0,none⟩) nn c):=by rw[←hnn5];exact q15
     have q45:(W.setCell ⟨R,0,none⟩ (.slice (some ⟨tg,off+3,none⟩) (ln-1) (cap-1))).cell? ⟨b,n*6+2,none⟩=some (.int .i64 d5.size):=q45
     have hchT6:Chg (Wr R M (.slice (some ⟨b,0,none⟩) nn c)) w ((W.setCell ⟨R,0,none⟩ (.slice (some ⟨tg,off+3,none⟩) (ln-1) (cap-1))).setCell ⟨b,n*6+2,none⟩ (.int .i64 (v2:Int))):=((hchT4.trans (Chg.ofExt (S:=fun _=>False) hW) (fun _ _ e=>e.elim)).set (p:=⟨R,0,none⟩) (.inl (.inl rfl)) _).set (p:=⟨b,n*6+2,none⟩) (.inl (.inr (.inr rfl))) _
     have hfin:PW B R M w (.slice (some ⟨b,0,none⟩) s.on.ns.length c) vs (fun _=>.tuple #[]) R0 (.returned (.tuple #[])) ((W.setCell ⟨R,0,none⟩ (.slice (some ⟨tg,off+3,none⟩) (ln-1) (cap-1))).setCell ⟨b,n*6+2,none⟩ (.int .i64 (v2:Int))):=by
      rw[hnn.out]
      exact PW.okI hr0 rfl hchT6 hfill5 (.inl rfl) (SF.refl _ _)
     clear hcell5 hfill5 hon hh cR cq cR5 cq5
     go_wp2_with fail
     go_end0
     rw[←hPO.out]
     exact hfin
   ·have hkb:((t.k:Int) == 1)=false:=by simpa using hk1
    have hkn:((t.k:Int) != 1)=true:=by simpa using hk1
    have hr0:R0=failR S2 4:=by rw[Hres.out];simp[hk1]
    cases o with
    | none=>
     rw[show numV none=Value.tuple #[.int .i64 0,.bool false] from rfl]
     go_wp2_with fail
     refine hf.mono ?_
     rintro e w5 ⟨rfl,rfl⟩
     go_wp2_with fail
     rw[←hPO.out]
     exact⟨rfl,hbad hr0⟩
    | some v2=>
     rw[show numV (some v2)=Value.tuple #[.int .i64 (v2:Int),.bool true] from rfl]
     go_wp2_with fail
     refine hf.mono ?_
     rintro e w5 ⟨rfl,rfl⟩
     go_wp2_with fail
     rw[←hPO.out]
     exact⟨rfl,hbad hr0⟩
  ·have hcall:=fields_any H hd20 n w3 h3 hn3 hB3
   have hres:R0=(mustR (s.on.called n x) cCuO).bind fun _ s3=>fieldsR (typedR fuel) n s3.l.length [] s3:=by rw[Hres.out,if_neg (by decide),if_neg (by decide)]
   rw[←hres] at hcall
   clear Hres
   go_wp2_with fail
   refine hcall.mono ?_
   intro e w4 hpw
   have hfin:PW B R M w (.slice (some ⟨b,0,none⟩) s.on.ns.length c) vs (fun _=>.tuple #[]) R0 e w4:=by rw[hnn.out];exact PW.after hchT (.inl rfl) (SF.refl _ _) hpw
   rcases hpw.cases with⟨_,s5,vl5,vn5,vs5,hr5,rfl,_⟩|⟨at_,why,hr5,rfl,_⟩
   ·go_wp2_with fail
    go_end0
    rw[←hPO.out]
    exact hfin
   ·go_wp2_with fail
    rw[←hPO.out]
    exact⟨rfl,hfin⟩
 ·go_wp2_with fail
  refine⟨rfl,?_⟩
  rw[←hPO.out]
  exact PW.badI (by rw[←hR0.out,definedR,hr1.out];rfl) rfl (((Chg.ofExt hx0).trans hc1 (fun _ _ e=>e)).mono fun k _ e=>.inl e)
end
def restR:Nat→PS→Int→Res Nat
 | 0,s,_=>failR s 4
 | fuel+1,s,k=>
  let n:=s.ns.length
  let s1:PS:={ s.on with ns:=s.ns++[Nd.ofKind k] }
  if k=6 then (itemR (typedR fuel) s1 n cSqC).bind fun _ s2=>.ok n s2
  else if k=7 then (itemR (typedR fuel) s1 n cCuC).bind fun _ s2=>.ok n s2
  else if k=8 then (unionR (typedR fuel) n s1.l.length [] s1).bind fun _ s2=>.ok n s2
  else if k=9∨k=10∨k=11 then (definedR (typedR fuel) s1 n k).bind fun _ s2=>.ok n s2
  else .ok n s1
theorem typedR_eq (fuel:Nat) (union:Bool) (ahead:List Nat) (s:PS):typedR fuel union ahead s=match kindR s with
  | none=>failR s 4
  | some k=>match gateR fuel union ahead s k (s.nm (hd s.l).s) with
   | some why=>failR s why
   | none=>if k<0 then .ok ((s.nm (hd s.l).s).getD 0) s.on else restR fuel s k:=by
 cases fuel with
 | zero=>
  rw[typedR]
  cases kindR s with
  | none=>rfl
  | some k=>
   simp only []
   cases gateR 0 union ahead s k (s.nm (hd s.l).s) with
   | some y=>rfl
   | none=>rfl
 | succ f=>
  rw[typedR]
  cases kindR s with
  | none=>rfl
  | some k=>
   simp only []
   cases gateR (f+1) union ahead s k (s.nm (hd s.l).s) with
   | some y=>rfl
   | none=>rfl
theorem kindR_k3 {s:PS} {k:Int} (h:kindR s=some k):(hd s.l).k≠3:=by
 unfold kindR at h
 split at h
 ·next ht=>exact isT_k ht
 ·split at h
  ·next ht=>exact isT_k ht
  ·split at h
   ·next ht=>exact isT_k ht
   ·split at h
    ·cases h
    ·next hk=>intro e;rw[e] at hk;simp at hk
def sndN:Nat→Code→Code
 | 0,c=>c
 | n+1,.seq _ b=>sndN n b
 | _,c=>c
noncomputable def tyTail:Code:=match Tryz.f123.body with
 | some c=>sndN 4 c
 | none=>.skip
set_option maxRecDepth 1000000 in
theorem lay138 {v0 v1 v2 v3 v4 v5 v6 v7 v8 v9 v10 v11 v12:Value} {a:Act} (h:Piece.Fr 138 [v0,v1,v2,v3,v4,v5,v6,v7,v8,v9,v10,v11,v12] a):∃u:Nat→Value,a=⟨(v0::v1::v2::v3::v4::v5::v6::v7::v8::v9::v10::v11::v12::u 13::u 14::u 15::u 16::u 17::u 18::u 19::u 20::u 21::u 22::u 23::u 24::u 25::u 26::u 27::u 28::u 29::u 30::u 31::u 32::u 33::u 34::u 35::u 36::u 37::u 38::u 39::u 40::u 41::u 42::u 43::u 44::u 45::u 46::u 47::u 48::u 49::u 50::u 51::u 52::u 53::u 54::u 55::u 56::u 57::u 58::u 59::u 60::u 61::u 62::u 63::u 64::u 65::u 66::u 67::u 68::u 69::u 70::u 71::u 72::u 73::u 74::u 75::u 76::u 77::u 78::u 79::u 80::u 81::u 82::u 83::u 84::u 85::u 86::u 87::u 88::u 89::u 90::u 91::u 92::u 93::u 94::u 95::u 96::u 97::u 98::u 99::u 100::u 101::u 102::u 103::u 104::u 105::u 106::u 107::u 108::u 109::u 110::u 111::u 112::u 113::u 114::u 115::u 116::u 117::u 118::u 119::u 120::u 121::u 122::u 123::u 124::u 125::u 126::u 127::u 128::u 129::u 130::u 131::u 132::u 133::u 134::u 135::u 136::u 137::[]).toArray,[]⟩:=by
 obtain⟨u,hu⟩:=h.spread
 refine⟨u,hu.trans ?_⟩
 kernel_rfl
section
variable {B R M:Nat} {vl vn:Value} {vs:List V3} {s:PS}
set_option maxRecDepth 1000000 in
set_option maxHeartbeats 2000000 in
theorem typedTail {Q:Exit→Act→World→Prop} {deep f:Nat} (H:TypC B R M (deep+1) f) (hd20:deep≤100) (a:Act) (w w4:World) (q p10 m:Nat) (k:Int) (v2 v3 v5 v6 v7 v8 v9 v12:Value) (R0:Res Nat)
  (hF:Fr 138 [.pointer (some ⟨R,0,none⟩),.int .i64 (deep:Int),v2,v3,.pointer (some ⟨q,0,none⟩),v5,v6,v7,v8,v9,.pointer (some ⟨p10,0,none⟩),.int .i64 (m:Int),v12] a)
  (h:Rs B w4 R M vl vn vs s) (hbq:Blk w4 q #[.pointer (some ⟨R,0,none⟩)] 149) (hb10:Blk w4 p10 #[.int .i64 k] 3) (hx:Ext w w4) (hB:B≤w.heap.size) (hq:w.heap.size≤q) (hp10:w.heap.size≤p10)
  (hvn:∀k,vn.ownBlock=some k→k<w.heap.size)
  (hk:kindR s=some k) (hres:R0=if k<0 then .ok m s.on else restR (f+1) s k) (hn:k<0∨s.ns.length≤199)
  (hP:∀c (a a2:Act) w,Q (.panic c) a w→∀(hd:a2.defers=a.defers:=by rfl),Q (.panic c) a2 w)
  (hRet:∀a' w',a'.defers=[]→PW B R M w vn vs (fun n:Nat=>.int .i64 (n:Int)) R0 (.returned (a'.tmps.getD 8 undef)) w'→Q .ret a' w')
  (hPan:∀c a' w',a'.defers=[]→PW B R M w vn vs (fun n:Nat=>.int .i64 (n:Int)) R0 (.panicked c) w'→Q (.panic c) a' w') :
  tyTail.wp Tryz.prog Q a w4:=by
 obtain⟨u,rfl⟩:=lay138 hF
 clear hF
 conv=>arg 2;whnf
 have hk3:=kindR_k3 hk
 obtain⟨krl,krh⟩:=kindR_rng hk
 have Hk:=Lib.hid hk
 clear hk
 obtain⟨tg,off,cap,rfl,hp,hnc,hcm,hh⟩:=h.head
 clear hh
 obtain⟨ln,hln⟩:∃z,Hid (s.l.length=z):=⟨_,rfl⟩
 have hl1:=(h.tok.tail hk3).2
 have hl2:=(h.tok.tail hk3).1.pos
 rw[hln.out] at hp hnc hl1
 have hi1:1≤ln:=hp
 have hc1:¬cap=1:=by omega
 have hcI:(1:Int)≤(ln:Int):=by omega
 have Hk3:=Lib.hid hk3
 have Hres:=Lib.hid hres
 clear hk3 hres hl1 hl2
 have hqR:¬q=R:=blk_ne hbq h.blk (by decide)
 have hpR:¬p10=R:=blk_ne hb10 h.blk (by decide)
 have cq:∀W,Ext w4 W→W.cell? ⟨q,0,none⟩=some (.pointer (some ⟨R,0,none⟩)):=fun W hW=>(hbq.ext hW).cell 0
 have cR:∀W,Ext w4 W→W.cell? ⟨R,0,none⟩=some (.slice (some ⟨tg,off,none⟩) ln cap):=fun W hW=>by rw[←hln.out];exact (h.ext hW).cells.1
 go_wp2_with fail
 refine Reg.startE (by kernel_rfl) ?_
 iterate 8 ((first|refine Reg.tn ?_|refine Reg.sn ?_);(try simp only[Reg.nn]))
 refine Reg.last 8 _ rfl (by kernel_rfl) (by kernel_rfl) (by kernel_rfl) (by decide) (by rfl) (fun W hW K hK=>?_)
 have fR:=((h.ext hW).cells.2.2.2.1)
 go_simp
 refine hK.out _ _ ?_;clear hK K;(try simp only[Reg.nn])
 have hon:=(h.ext hW).on Hk3.out
 rw[hln.out] at hon
 have hch5:Chg (Wr R M vn) w (W.setCell ⟨R,0,none⟩ (.slice (some ⟨tg,off+3,none⟩) (ln-1) (cap-1))):=(Chg.ofExt (hx.trans hW)).set (p:=⟨R,0,none⟩) (.inl (.inl rfl)) _
 have hbq5:=(Chg.one W R 0 (.slice (some ⟨tg,off+3,none⟩) (ln-1) (cap-1))).blk (hbq.ext hW) hqR
 have hb10_5:=(Chg.one W R 0 (.slice (some ⟨tg,off+3,none⟩) (ln-1) (cap-1))).blk (hb10.ext hW) hpR
 clear cq cR hbq hb10 h
 obtain⟨w5,hw5⟩:∃z,Hid (W.setCell ⟨R,0,none⟩ (.slice (some ⟨tg,off+3,none⟩) (ln-1) (cap-1))=z):=⟨_,rfl⟩
 rw[hw5.out] at hon hch5 hbq5 hb10_5
 have e10:w5.cell? ⟨p10,0,none⟩=some (.int .i64 k):=hb10_5.cell 0
 have eq:w5.cell? ⟨q,0,none⟩=some (.pointer (some ⟨R,0,none⟩)):=hbq5.cell 0
 rw[←hw5.out] at e10 eq
 by_cases hk0:k<0
 ·have hres:R0=.ok m s.on:=by rw[Hres.out,if_pos hk0]
  go_wp2_with fail
  rw[hw5.out]
  exact hRet _ _ rfl (PW.okI hres rfl hch5 hon (.inl rfl) (SF.refl _ _))
 ·have hk0':(0:Int)≤k:=by omega
  have hres:R0=restR (f+1) s k:=by rw[Hres.out,if_neg hk0]
  clear Hres
  have hn9:s.on.ns.length≤199:=by show s.ns.length≤199;omega
  have hsz5:=hch5.size
  have hbeg:=begins_any k w5 hon hn9 (by omega)
  obtain⟨n,hnn⟩:∃z,Hid (s.on.ns.length=z):=⟨_,rfl⟩
  rw[hnn.out] at hbeg
  go_wp2_with fail
  rw[hw5.out]
  refine hbeg.mono ?_
  rintro e w6 ⟨rfl,hch6',vn6,vs6,h6,hf6,hg6⟩
  have hch6:Chg (Wr R M vn) w w6:=hch5.trans hch6' (fun k _ e=>e)
  have hnW:∀z,w.heap.size≤z→¬z=R→¬z=M→¬Wr R M vn z:=fun z hz h1 h2 e=>by
   rcases e with e|e|e
   ·exact h1 e
   ·exact h2 e
   ·have:=hvn z e;omega
  obtain⟨cnt,hm5,_⟩:=hon.named
  have hbq6:=hch6'.blk hbq5 (hnW q hq hqR (fun e=>hm5.not_cells hbq5 e.symm))
  have hb10_6:=hch6'.blk hb10_5 (hnW p10 hp10 hpR (fun e=>hm5.not_cells hb10_5 e.symm))
  have e10':w6.cell? ⟨p10,0,none⟩=some (.int .i64 k):=hb10_6.cell 0
  have eq':w6.cell? ⟨q,0,none⟩=some (.pointer (some ⟨R,0,none⟩)):=hbq6.cell 0
  have hB6:B≤w6.heap.size:=by have:=hch6.size;omega
  have hf6:Fresh w vn vn6:=hf6.imp (fun e=>e) (fun ⟨k,e,hk⟩=>⟨k,e,by omega⟩)
  have hg6:SF w vs vs6:=(SF.refl w vs).trans hg6 hsz5
  clear hm5 hbq6 hb10_6 hbq5 hb10_5 e10 eq hbeg hon hch6' hch5
  obtain⟨s1,hs1⟩:∃z:PS,Hid (({ s.on with ns:=s.on.ns++[Nd.ofKind k] }:PS)=z):=⟨_,rfl⟩
  rw[hs1.out] at h6
  have hlt:n<s1.ns.length:=by rw[←hs1.out,←hnn.out];simp
  have hres:R0=(if k=6 then (itemR (typedR f) s1 n cSqC).bind fun _ s2=>.ok n s2
   else if k=7 then (itemR (typedR f) s1 n cCuC).bind fun _ s2=>.ok n s2
   else if k=8 then (unionR (typedR f) n s1.l.length [] s1).bind fun _ s2=>.ok n s2
   else if k=9∨k=10∨k=11 then (definedR (typedR f) s1 n k).bind fun _ s2=>.ok n s2
   else .ok n s1):=by rw[hres,←hs1.out,←hnn.out];rfl
  by_cases k6:k=6
  ·subst k6
   rw[if_pos rfl] at hres
   have hcall:=item_any H hd20 n cSqC w6 h6 hlt hB6
   go_wp2_with fail
   refine hcall.mono ?_
   intro e w7 hpw
   rcases hpw.cases with⟨_,s7,vl7,vn7,vs7,hr7,rfl,hc7,h7,hf7,hg7⟩|⟨at_,why,hr7,rfl,hc7⟩
   ·go_wp2_with fail
    refine hRet _ _ rfl ?_
    exact PW.after hch6 hf6 hg6 (PW.okI (by rw[hres,hr7.out];rfl) rfl hc7 h7 hf7 hg7)
   ·go_wp2_with fail
    refine hPan _ _ _ rfl ?_
    exact PW.after hch6 hf6 hg6 (PW.badI (by rw[hres,hr7.out];rfl) rfl hc7)
  by_cases k7:k=7
  ·subst k7
   rw[if_neg (by decide),if_pos rfl] at hres
   have hcall:=item_any H hd20 n cCuC w6 h6 hlt hB6
   go_wp2_with fail
   refine hcall.mono ?_
   intro e w7 hpw
   rcases hpw.cases with⟨_,s7,vl7,vn7,vs7,hr7,rfl,hc7,h7,hf7,hg7⟩|⟨at_,why,hr7,rfl,hc7⟩
   ·go_wp2_with fail
    refine hRet _ _ rfl ?_
    exact PW.after hch6 hf6 hg6 (PW.okI (by rw[hres,hr7.out];rfl) rfl hc7 h7 hf7 hg7)
   ·go_wp2_with fail
    refine hPan _ _ _ rfl ?_
    exact PW.after hch6 hf6 hg6 (PW.badI (by rw[hres,hr7.out];rfl) rfl hc7)
  by_cases k8:k=8
  ·subst k8
   rw[if_neg (by decide),if_neg (by decide),if_pos rfl] at hres
   have hcall:=union_any H hd20 n w6 h6 hlt hB6
   go_wp2_with fail
   refine hcall.mono ?_
   intro e w7 hpw
   rcases hpw.cases with⟨_,s7,vl7,vn7,vs7,hr7,rfl,hc7,h7,hf7,hg7⟩|⟨at_,why,hr7,rfl,hc7⟩
   ·go_wp2_with fail
    refine hRet _ _ rfl ?_
    exact PW.after hch6 hf6 hg6 (PW.okI (by rw[hres,hr7.out];rfl) rfl hc7 h7 hf7 hg7)
   ·go_wp2_with fail
    refine hPan _ _ _ rfl ?_
    exact PW.after hch6 hf6 hg6 (PW.badI (by rw[hres,hr7.out];rfl) rfl hc7)
  by_cases k9:k=9
  ·subst k9
   rw[if_neg (by decide),if_neg (by decide),if_neg (by decide),if_pos (by decide)] at hres
   have hcall:=defined_any H hd20 n 9 (by decide) w6 h6 hlt hB6
   go_wp2_with fail
   refine hcall.mono ?_
   intro e w7 hpw
   rcases hpw.cases with⟨_,s7,vl7,vn7,vs7,hr7,rfl,hc7,h7,hf7,hg7⟩|⟨at_,why,hr7,rfl,hc7⟩
   ·go_wp2_with fail
    refine hRet _ _ rfl ?_
    exact PW.after hch6 hf6 hg6 (PW.okI (by rw[hres,hr7.out];rfl) rfl hc7 h7 hf7 hg7)
   ·go_wp2_with fail
    refine hPan _ _ _ rfl ?_
    exact PW.after hch6 hf6 hg6 (PW.badI (by rw[hres,hr7.out];rfl) rfl hc7)
  by_cases k10:k=10
  ·subst k10
   rw[if_neg (by decide),if_neg (by decide),if_neg (by decide),if_pos (by decide)] at hres
   have hcall:=defined_any H hd20 n 10 (by decide) w6 h6 hlt hB6
   go_wp2_with fail
   refine hcall.mono ?_
   intro e w7 hpw
   rcases hpw.cases with⟨_,s7,vl7,vn7,vs7,hr7,rfl,hc7,h7,hf7,hg7⟩|⟨at_,why,hr7,rfl,hc7⟩
   ·go_wp2_with fail
    refine hRet _ _ rfl ?_
    exact PW.after hch6 hf6 hg6 (PW.okI (by rw[hres,hr7.out];rfl) rfl hc7 h7 hf7 hg7)
   ·go_wp2_with fail
    refine hPan _ _ _ rfl ?_
    exact PW.after hch6 hf6 hg6 (PW.badI (by rw[hres,hr7.out];rfl) rfl hc7)
  by_cases k11:k=11
  ·subst k11
   rw[if_neg (by decide),if_neg (by decide),if_neg (by decide),if_pos (by decide)] at hres
   have hcall:=defined_any H hd20 n 11 (by decide) w6 h6 hlt hB6
   go_wp2_with fail
   refine hcall.mono ?_
   intro e w7 hpw
   rcases hpw.cases with⟨_,s7,vl7,vn7,vs7,hr7,rfl,hc7,h7,hf7,hg7⟩|⟨at_,why,hr7,rfl,hc7⟩
   ·go_wp2_with fail
    refine hRet _ _ rfl ?_
    exact PW.after hch6 hf6 hg6 (PW.okI (by rw[hres,hr7.out];rfl) rfl hc7 h7 hf7 hg7)
   ·go_wp2_with fail
    refine hPan _ _ _ rfl ?_
    exact PW.after hch6 hf6 hg6 (PW.badI (by rw[hres,hr7.out];rfl) rfl hc7)
  have b6:(k == 6)=false:=by simpa using k6
  have b7:(k == 7)=false:=by simpa using k7
  have b8:(k == 8)=false:=by simpa using k8
  have b9:(k == 9)=false:=by simpa using k9
  have b10:(k == 10)=false:=by simpa using k10
  have b11:(k == 11)=false:=by simpa using k11
  rw[if_neg k6,if_neg k7,if_neg k8,if_neg (by rintro (e|e|e);exact k9 e;exact k10 e;exact k11 e)] at hres
  go_wp2_with fail
  exact hRet _ _ rfl (PW.okI hres rfl hch6 h6 hf6 hg6)
end
end Pr
namespace Reg
open Base
section
variable {P:Program} {ops:Array Oper} {Q:Exit→Act→World→Prop}
theorem triY {B:Nat} (i j k:Nat) (oi oj ok:Oper) {done:List Nat} {a:Act} {w:World} (hB:B≤w.heap.size) (hi:ops[i]?=some oi) (hj:ops[j]?=some oj) (hk:ops[k]?=some ok) (hgi:oi.guard=none) (hgj:oj.guard=none) (hgk:ok.guard=none) (hdij:oi.dst≠oj.dst) (hdik:oi.dst≠ok.dst) (hdjk:oj.dst≠ok.dst) (hij:i≠j) (hik:i≠k) (hjk:j≠k)
  (hui:a.put oi.dst undef=a) (huj:a.put oj.dst undef=a) (huk:a.put ok.dst undef=a)
  (hr:Region.ready .any ops (marked ops.size done)=[i,j,k]) (hri:Region.ready .any ops (marked ops.size (i::done))=[j,k]) (hrj:Region.ready .any ops (marked ops.size (j::done))=[i,k]) (hrk:Region.ready .any ops (marked ops.size (k::done))=[i,j])
  (hji:Region.ready .any ops (marked ops.size (j::i::done))=[k]) (hki:Region.ready .any ops (marked ops.size (k::i::done))=[j]) (hkj:Region.ready .any ops (marked ops.size (k::j::done))=[i]) (hn:done.length+2<ops.size)
  (Fi Fj Fk:Value→World→Prop) (si:∀v w1 w2,Fi v w1→Ext w1 w2→Fi v w2) (sj:∀v w1 w2,Fj v w1→Ext w1 w2→Fj v w2) (sk:∀v w1 w2,Fk v w1→Ext w1 w2→Fk v w2)
  (h1:∀u v w1,Ext w w1→∀K:Act→World→Prop,Shut (∀x w2,Ext w1 w2→Fi x w2→K (((a.put oj.dst u).put ok.dst v).put oi.dst x) w2)→oi.wp P ((a.put oj.dst u).put ok.dst v) w1 K Q)
  (h2:∀u v w1,Ext w w1→∀K:Act→World→Prop,Shut (∀x w2,Ext w1 w2→Fj x w2→K (((a.put oi.dst u).put ok.dst v).put oj.dst x) w2)→oj.wp P ((a.put oi.dst u).put ok.dst v) w1 K Q)
  (h3:∀u v w1,Ext w w1→∀K:Act→World→Prop,Shut (∀x w2,Ext w1 w2→Fk x w2→K (((a.put oi.dst u).put oj.dst v).put ok.dst x) w2)→ok.wp P ((a.put oi.dst u).put oj.dst v) w1 K Q)
  (h:∀x y z X,Ext w X→Fi x X→Fj y X→Fk z X→At P ops Q (Go.RowKit.Below B) (k::j::i::done) (((a.put oi.dst x).put oj.dst y).put ok.dst z) X):At P ops Q (Go.RowKit.Below B) done a w:=by
 have wi:∀t,Region.wanted oi t=true:=fun t=>by simp[Region.wanted,hgi]
 have wj:∀t,Region.wanted oj t=true:=fun t=>by simp[Region.wanted,hgj]
 have wk:∀t,Region.wanted ok t=true:=fun t=>by simp[Region.wanted,hgk]
 have low:∀ {x y:World},Ext w x→Ext x y→Go.RowKit.Below B x y:=fun hx hy=>Go.RowKit.Below.mono hy (Nat.le_trans hB hx.size)
 have mk:∀ {x y:Nat} (l l':List Nat),marked ops.size l=marked ops.size l'→marked ops.size (x::y::l)=marked ops.size (x::y::l'):=fun l l' e=>by rw[marked_cons,marked_cons,marked_cons,marked_cons,e]
 have sw:∀(x y:Nat) (l:List Nat),x≠y→marked ops.size (x::y::l)=marked ops.size (y::x::l):=fun x y l e=>by
  rw[marked_cons,marked_cons,marked_cons,marked_cons]
  exact Array.setIfInBounds_comm _ _ (Ne.symm e)
 have n1:(a.put oj.dst undef).put ok.dst undef=a:=by rw[huj,huk]
 have n2:(a.put oi.dst undef).put ok.dst undef=a:=by rw[hui,huk]
 have n3:(a.put oi.dst undef).put oj.dst undef=a:=by rw[hui,huj]
 have pj:∀u,(a.put oi.dst u).put oj.dst undef=a.put oi.dst u:=fun u=>by rw[put_comm a hdij,huj]
 have pk:∀u,(a.put oi.dst u).put ok.dst undef=a.put oi.dst u:=fun u=>by rw[put_comm a hdik,huk]
 have qk:∀u,(a.put oj.dst u).put ok.dst undef=a.put oj.dst u:=fun u=>by rw[put_comm a hdjk,huk]
 intro hcl
 have e:ops.size-done.length=(ops.size-(i::done).length)+1:=by simp only[List.length_cons];omega
 rw[e]
 refine⟨fun h0=>(by rw[h0] at hr;cases hr),fun x hx=>?_⟩
 have hx2:=hx
 rw[hr] at hx
 simp only[List.mem_cons,List.mem_nil_iff,or_false] at hx
 unfold wpOp
 rcases hx with rfl|rfl|rfl
 ·simp only[hi,wi,if_true]
  have h1':=h1 undef undef w (Ext.refl w)
  rw[n1] at h1'
  refine .inl (h1' _ (fun vi w2 hx1 hf1=>⟨.inl (low (Ext.refl w) hx1),?_⟩))
  refine (?_:At P ops Q (Go.RowKit.Below B) (x::done) (a.put oi.dst vi) w2) (hcl.set hx2)
  refine bothY j k oj ok (Nat.le_trans hB hx1.size) hj hk hgj hgk hdjk hjk hri hji hki (by simp only[List.length_cons];omega) Fj Fk sj sk ?_ ?_ ?_
  ·rintro a' w3 ha hx3 K hK
   rcases ha with rfl|⟨v,rfl⟩
   ·have:=h2 vi undef w3 (hx1.trans hx3) K
    rw[pk] at this
    exact this hK
   ·exact h2 vi v w3 (hx1.trans hx3) K hK
  ·rintro a' w3 ha hx3 K hK
   rcases ha with rfl|⟨v,rfl⟩
   ·have:=h3 vi undef w3 (hx1.trans hx3) K
    rw[pj] at this
    exact this hK
   ·exact h3 vi v w3 (hx1.trans hx3) K hK
  ·intro y z X hX hy hz
   exact h vi y z X (hx1.trans hX) (si _ _ _ hf1 hX) hy hz
 ·simp only[hj,wj,if_true]
  have h2':=h2 undef undef w (Ext.refl w)
  rw[n2] at h2'
  refine .inl (h2' _ (fun vj w2 hx1 hf1=>⟨.inl (low (Ext.refl w) hx1),?_⟩))
  refine (?_:At P ops Q (Go.RowKit.Below B) (x::done) (a.put oj.dst vj) w2) (hcl.set hx2)
  refine bothY i k oi ok (Nat.le_trans hB hx1.size) hi hk hgi hgk hdik hik hrj (by rw[sw i x done hij];exact hji) hkj (by simp only[List.length_cons];omega) Fi Fk si sk ?_ ?_ ?_
  ·rintro a' w3 ha hx3 K hK
   rcases ha with rfl|⟨v,rfl⟩
   ·have:=h1 vj undef w3 (hx1.trans hx3) K
    rw[qk] at this
    exact this hK
   ·exact h1 vj v w3 (hx1.trans hx3) K hK
  ·rintro a' w3 ha hx3 K hK
   rcases ha with rfl|⟨v,rfl⟩
   ·have:=h3 undef vj w3 (hx1.trans hx3) K
    rw[hui] at this
    exact this hK
   ·have:=h3 v vj w3 (hx1.trans hx3) K
    rw[put_comm a hdij] at this
    exact this hK
  ·intro y z X hX hy hz
   refine At.perm (show _=marked ops.size (k::x::i::done) from ?_) rfl ?_
   ·rw[marked_cons,sw i x done hij,←marked_cons]
   ·rw[put_comm a (Ne.symm hdij)]
    exact h y vj z X (hx1.trans hX) hy (sj _ _ _ hf1 hX) hz
 ·simp only[hk,wk,if_true]
  have h3':=h3 undef undef w (Ext.refl w)
  rw[n3] at h3'
  refine .inl (h3' _ (fun vk w2 hx1 hf1=>⟨.inl (low (Ext.refl w) hx1),?_⟩))
  refine (?_:At P ops Q (Go.RowKit.Below B) (x::done) (a.put ok.dst vk) w2) (hcl.set hx2)
  refine bothY i j oi oj (Nat.le_trans hB hx1.size) hi hj hgi hgj hdij hij hrk (by rw[sw i x done hik];exact hki) (by rw[sw j x done hjk];exact hkj) (by simp only[List.length_cons];omega) Fi Fj si sj ?_ ?_ ?_
  ·rintro a' w3 ha hx3 K hK
   rcases ha with rfl|⟨v,rfl⟩
   ·have:=h1 undef vk w3 (hx1.trans hx3) K
    rw[huj] at this
    exact this hK
   ·have:=h1 v vk w3 (hx1.trans hx3) K
    rw[put_comm a hdjk] at this
    exact this hK
  ·rintro a' w3 ha hx3 K hK
   rcases ha with rfl|⟨v,rfl⟩
   ·have:=h2 undef vk w3 (hx1.trans hx3) K
    rw[hui] at this
    exact this hK
   ·have:=h2 v vk w3 (hx1.trans hx3) K
    rw[put_comm a hdik] at this
    exact this hK
  ·intro y z X hX hy hz
   refine At.perm (show _=marked ops.size (x::j::i::done) from ?_) rfl ?_
   ·rw[marked_cons,sw i x done hik,←marked_cons,sw j x _ hjk]
   ·rw[put_comm a (Ne.symm hdik),put_comm _ (Ne.symm hdjk)]
    exact h y z vk X (hx1.trans hX) hy hz (sk _ _ _ hf1 hX)
end
end Reg
end Go.Proofs.YtmaoochjbpohdaaGreatDoor
