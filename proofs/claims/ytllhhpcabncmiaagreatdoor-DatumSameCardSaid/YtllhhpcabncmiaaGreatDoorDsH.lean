/- parse: union. -/
import Derived.Test.YtllhhpcabncmiaaGreatDoorDsG
set_option linter.unusedVariables false
set_option linter.unusedSimpArgs false
set_option maxRecDepth 100000
set_option maxHeartbeats 1000000
namespace Go.Proofs.YtllhhpcabncmiaaGreatDoor
namespace Pr
open Go.ChangeShapes Go.WideShapes Go.ChangeAt Go.RowKit
open Base Lx Mi Piece
noncomputable def unBody (n:Nat):Code:=loopBody n Tryz.f129.body
set_option maxRecDepth 1000000 in
theorem lay27 {v0 v1 v2 v3 v4 v5 v6:Value} {a:Act} (h:Piece.Fr 27 [v0,v1,v2,v3,v4,v5,v6] a):∃u:Nat→Value,a=⟨(v0::v1::v2::v3::v4::v5::v6::u 7::u 8::u 9::u 10::u 11::u 12::u 13::u 14::u 15::u 16::u 17::u 18::u 19::u 20::u 21::u 22::u 23::u 24::u 25::u 26::[]).toArray,[]⟩:=by
 obtain⟨u,hu⟩:=h.spread
 refine⟨u,hu.trans ?_⟩
 kernel_rfl
def Apart (vL:Value) (p:V3→Value) (vs:List V3):Prop:=∀(i:Nat) v,vs[i]?=some v→∀k,(p v).ownBlock=some k→¬vL.ownBlock=some k
theorem Apart.old {w:World} {vL:Value} {p:V3→Value} {vs vs':List V3} (h:Apart vL p vs) (ho:∀(i:Nat) v',vs'[i]?=some v'→Old w vs i p v') (hl:∀k,vL.ownBlock=some k→k<w.heap.size):Apart vL p vs':=fun i v' hv k hk e=>by
 rcases ho i v' hv k hk with h1|⟨v,h1,h2⟩
 ·have:=hl k e;omega
 ·exact h i v h1 k h2 e
theorem Apart.grown {w:World} {vL vL':Value} {p:V3→Value} {vs:List V3} (h:Apart vL p vs) (hv:vL'.ownBlock=vL.ownBlock∨vL'.ownBlock=some w.heap.size) (hl:∀(i:Nat) v,vs[i]?=some v→∀k,(p v).ownBlock=some k→k<w.heap.size):Apart vL' p vs:=fun i v h1 k hk e=>by
 rcases hv with e1|e1
 ·exact h i v h1 k hk (by rw[←e1];exact e)
 ·rw[e1] at e;injection e with e;have:=hl i v h1 k hk;omega
section
variable {B R M:Nat} {vl vn:Value} {vs:List V3} {s:PS}
theorem Rs.other {w w':World} {S:Nat→Prop} (h:Rs B w R M vl vn vs s) (hch:Chg S w w') (hR:¬S R) (hM:¬S M) (hn:∀k,vn.ownBlock=some k→¬S k) (hs:∀(i:Nat) d v,s.ns[i]?=some d→vs[i]?=some v→(∀k,v.1.ownBlock=some k→¬S k)∧(∀k,v.2.1.ownBlock=some k→¬S k)∧(∀k,v.2.2.ownBlock=some k→¬S k)) (hlow:∀k,S k→B≤k):Rs B w' R M vl vn vs s:=by
 obtain⟨tg,off,cap,e,h1,h2,h3,h4⟩:=h.toks
 obtain⟨cnt,h5,h6⟩:=h.named
 exact⟨hch.blk h.blk hR,⟨tg,off,cap,e,Rd.chg h1 hch (fun a e=>by injection e with e;subst e;intro hs;have:=hlow _ hs;simp only at this;omega),h2,h3,h4⟩,⟨h.nds.len,own_chg h.nds.row hch hn,fun i d v q1 q2=>(h.nds.sub i d v q1 q2).chg hch (hs i d v q1 q2).1 (hs i d v q1 q2).2.1 (hs i d v q1 q2).2.2⟩,⟨cnt,map_chg h5 hch hM,h6⟩,h.nmOk,h.tok,h.tl,h.ts,h.nl,h.hR,h.hM,Rd.chg h.wd hch (fun a e=>by injection e with e;subst e;intro hs;have:=hlow _ hs;have:=h.hw;simp only at *;omega),h.hw⟩
theorem Rs.otherI {w w':World} {B' n:Nat} {vL:Value} {xs:List Value} (h:Rs B w R M vl vn vs s) (hL:w.ownsRow B' 3 1 vL n xs) (hBB:B≤B') (ha:Apart vL (fun v=>v.2.1) vs) (hch:Chg (fun k=>vL.ownBlock=some k) w w'):Rs B w' R M vl vn vs s:=by
 obtain⟨cnt,hm,_⟩:=h.named
 exact h.other hch (fun e=>own_ne_blk hL h.blk (by decide) e.symm) (own_ne_map hL hm) (own_not hL h.nds.row (by decide)) (fun i d v q1 q2=>⟨own_not hL (h.nds.sub i d v q1 q2).syms (by decide),ha i v q2,own_not hL (h.nds.sub i d v q1 q2).fields (by decide)⟩) (fun k hk=>Nat.le_trans hBB (hL.lt k hk).1)
theorem Rs.subLt {w:World} (h:Rs B w R M vl vn vs s):∀(i:Nat) v,vs[i]?=some v→(∀k,v.1.ownBlock=some k→k<w.heap.size)∧(∀k,v.2.1.ownBlock=some k→k<w.heap.size)∧(∀k,v.2.2.ownBlock=some k→k<w.heap.size):=fun i v hv=>by
 have hi:i<s.ns.length:=by rw[←h.nds.len];exact (List.getElem?_eq_some_iff.1 hv).1
 have hs:=h.nds.sub i _ v (List.getElem?_eq_getElem hi) hv
 exact⟨fun k hk=>(hs.syms.lt k hk).2,fun k hk=>(hs.items.lt k hk).2,fun k hk=>(hs.fields.lt k hk).2⟩
theorem row_away {w:World} {B':Nat} {e:TypeId} {size n:Nat} {vL:Value} {xs:List Value} (h:Rs B w R M vl vn vs s) (hL:w.ownsRow B' e size vL n xs) (h1:e≠147) (h2:e≠47):∀k,vL.ownBlock=some k→¬Wr R M vn k:=by
 obtain⟨cnt,hm,_⟩:=h.named
 rintro k hk (rfl|rfl|e)
 ·exact own_ne_blk hL h.blk h1 hk.symm
 ·exact own_ne_map hL hm hk
 ·exact own_not hL h.nds.row h2 k e hk
def tokLeft (R:Nat) (w:World):Nat:=match w.cell? ⟨R,0,none⟩ with
 | some (.slice _ n _)=>n
 | _=>0
theorem Rs.left {w:World} (h:Rs B w R M vl vn vs s):tokLeft R w=s.l.length:=by
 obtain⟨tg,off,cap,rfl,_⟩:=h.toks
 unfold tokLeft
 rw[h.cells.1]
theorem ints_one (l:List Nat):∀u∈ints l,u.oneCell'=true:=by
 intro u hu
 obtain⟨x,_,rfl⟩:=List.mem_map.1 hu
 rfl
def UnAt (B R M deep fuel n:Nat) (w0:World) (vn0:Value) (vs0:List V3) (R0:Res Unit) (a:Act) (wv:World):Prop:=
 ∃(m:Nat) (l:List Nat) (s:PS) (vl vn:Value) (vs:List V3) (vL v3 v4 v5:Value),Fr 27 [.pointer (some ⟨R,0,none⟩),.int .i64 n,.int .i64 deep,v3,v4,v5,vL] a∧Rs B wv R M vl vn vs s∧Chg (Wr R M vn0) w0 wv∧Fresh w0 vn0 vn∧SF w0 vs0 vs∧wv.ownsRow w0.heap.size 3 1 vL l.length (ints l)∧Apart vL (fun v=>v.2.1) vs∧Hid (unionR (typedR fuel) n m l s=R0)∧s.l.length≤m∧(∀x∈l,x<s.ns.length)∧n<s.ns.length∧l.length+s.l.length≤2000
set_option maxRecDepth 1000000 in
theorem unionL {Q:Exit→Act→World→Prop} {deep fuel n:Nat} (H:TypC B R M (deep+1) fuel) (hd20:deep≤100) (a:Act) (w0 wa:World) (vn0:Value) (vs0:List V3) (R0:Res Unit) (hB:B≤w0.heap.size)
  (hU:UnAt B R M deep fuel n w0 vn0 vs0 R0 a wa)
  (hRet:∀a' w',a'.defers=[]→PW B R M w0 vn0 vs0 (fun _=>.tuple #[]) R0 (.returned (.tuple #[])) w'→Q .ret a' w')
  (hPan:∀c a' w',a'.defers=[]→PW B R M w0 vn0 vs0 (fun _=>.tuple #[]) R0 (.panicked c) w'→Q (.panic c) a' w') :
  (Code.loop (unBody 0)).wp Tryz.prog Q a wa:=by
 refine wp_loop (UnAt B R M deep fuel n w0 vn0 vs0 R0) (fun _ w=>tokLeft R w) hU ?_
 clear hU a wa
 rintro a wr ⟨m,l,s,vl,vn,vs,vL,v3,v4,v5,hF,h,hc,hf,hg,hL,hap,hR0,hsm,hlx,hn,h2k⟩
 obtain⟨u,rfl⟩:=lay27 hF
 clear hF
 conv=>arg 2;whnf
 have hpos:=h.tok.pos
 have hleft:=h.left
 obtain⟨m,rfl⟩:∃k,m=k+1:=⟨m-1,by omega⟩
 have hcs:=hc.size
 obtain⟨A,cL,rfl,hL1,hL2,hLr,_⟩:=Rd.of_own hL
 have hT:=H true l A l.length cL s wr vl vn vs h hLr rfl (by omega) hlx (Nat.le_trans hB hcs)
 have hdw:IntKind.i64.wrap ((deep:Int)+1)=(deep:Int)+1:=by rw[IntKind.wrap_i64];omega
 rw[show ((deep+1:Nat):Int)=(deep:Int)+1 by omega] at hT
 obtain⟨nl,hnl⟩:∃z,Hid (l.length=z):=⟨_,rfl⟩
 rw[hnl.out] at hT hL ⊢
 have hnl2:nl≤2000:=by have:=hnl.out;omega
 go_wp2_with fail
 refine hT.mono ?_
 intro e w1 hpw
 rcases hpw.cases with⟨x,s1,vl1,vn1,vs1,hr,rfl,hc1,h1,hf1,hg1⟩|⟨at_,why,hr,rfl,hc1⟩
 ·obtain⟨hln1,hln2⟩:=typedR_len fuel true l s x s1 hr.out
  have hxn:=typedR_in h.nmOk hr.out
  have hn1:n<s1.ns.length:=Nat.lt_of_lt_of_le hn hln1
  have hcs1:=hc1.size
  have hL1':=own_chg hL hc1 (row_away h hL (by decide) (by decide))
  have hap1:Apart (.slice A nl cL) (fun v=>v.2.1) vs1:=by rw[←hnl.out];exact hap.old (fun i v' hv=>(hg1 i v' hv).2.1) (fun k hk=>((by rw[hnl.out] at hk;exact (hL.lt k hk).2)))
  have ha:Ext w1 (w1.alloc (.cells #[.int .i64 (x:Int)] 3)):=(Ext.refl w1).alloc _
  have hres:R0=if isT s1 cPaC then .ok () (s1.on.setN n fun d=>{ d with items:=l++[x] }) else (mustR s1 cBar).bind fun _ s2=>unionR (typedR fuel) n m (l++[x]) s2:=by
   rw[←hR0.out,unionR,hr.out];rfl
  have Hres:=Lib.hid hres
  clear hres
  go_wp2_with (
   refine wpList_app el_int _ rfl (.tmp 7) (.tmp 13) rfl w0.heap.size (.slice A nl cL) nl (ints l) rfl (own_ext hL1' ha) (some ⟨w1.heap.size,0,none⟩) 1 1 (ints [x]) rfl (Rd.of_block w1 3 (0,0) rfl) rfl (fun h=>by cases h) (ints_one [x]) (by omega) (by omega) (by simp;omega) (fun V2 w2 ho2 hg2 hv2=>?_))
  obtain⟨A2,c2,rfl,jj1,jj2,jj3,jj4⟩:=Rd.of_own ho2
  clear jj1 jj2 jj3 jj4
  have hch2:Chg (fun k=>(Value.slice A nl cL).ownBlock=some k) w1 w2:=(Chg.ofExt ha).trans (Chg.ofGrown hg2) (fun _ _ e=>e)
  have h2:=h1.otherI hL1' hB hap1 hch2
  have hap2:Apart (.slice A2 (nl+1) c2) (fun v=>v.2.1) vs1:=hap1.grown (w:=w1.alloc (.cells #[.int .i64 (x:Int)] 3)) hv2 (fun i v hv k hk=>by have:=(h1.subLt i v hv).2.1 k hk;simp;omega)
  rw[show ints l++ints [x]=ints (l++[x]) by simp[ints]] at ho2
  have hcL:∀k,k<w0.heap.size→(Value.slice A nl cL).ownBlock=some k→Wr R M vn0 k:=fun k hk e=>by have:=(hL.lt k e).1;omega
  have hchT:Chg (Wr R M vn0) w0 w2:=(hc.trans hc1 (Wr.back hf)).trans hch2 hcL
  have hfT:=hf.trans hf1 hcs
  have hgT:=hg.trans hg1 hcs
  have hgo:=goes_any cPaC w2 h2
  clear hT
  refine hgo.mono ?_
  rintro e w3 ⟨rfl,hc3,vl3,h3⟩
  have hchT3:Chg (Wr R M vn0) w0 w3:=hchT.trans hc3 (fun k _ e=>.inl e)
  have ho3:=own_chg ho2 hc3 (fun k hk e=>own_ne_blk ho2 h2.blk (by decide) (by rw[←e];exact hk.symm))
  by_cases ht:isT s1 cPaC=true
  ·have hres:R0=.ok () (s1.on.setN n fun d=>{ d with items:=l++[x] }):=by rw[Hres.out,if_pos ht]
   have hs3:(goesR s1 cPaC).2=s1.on:=by unfold goesR;rw[if_pos ht]
   rw[hs3] at h3
   rw[ht]
   clear ht Hres
   obtain⟨b,c,cur,rfl,hbB,hgb,hk1,hk2,hk3,hk4⟩:=h3.rowb n hn1
   obtain⟨d,v,b',c',hd1,hv1,eb,_,_,hcell⟩:=h3.node n hn1
   injection eb with eb eb1 eb2
   simp only[Option.some.injEq,Addr.mk.injEq,and_true] at eb
   subst eb;subst eb2
   have q1:=h3.cells.2.1
   have q4:w3.cell? ⟨b,n*6+4,none⟩=some v.2.1:=hcell _ (Ext.refl _) 4 (by omega)
   have f4:=hgb.frozen (n*6+4)
   have hlen:(l++[x]).length=nl+1:=by rw[List.length_append,hnl.out];rfl
   have hfill:=h3.fill hn1 (i:=4) (by omega) (fun d=>{ d with items:=l++[x] }) (fun v=>(v.1,.slice A2 (nl+1) c2,v.2.2)) (.slice A2 (nl+1) c2) (fun d0 v0 q5 q6=>⟨rfl,by
    have hs:=h3.nds.sub n d0 v0 q5 q6
    exact⟨hs.syms,by show World.ownsRow _ _ _ _ _ (l++[x]).length _;rw[hlen];exact own_mono ho3 hB,hs.fields⟩⟩)
   have hchT4:Chg (Wr R M vn0) w0 (w3.setCell ⟨b,n*6+4,none⟩ (.slice A2 (nl+1) c2)):=hchT3.set (p:=⟨b,n*6+4,none⟩) (by
    rcases hfT with e|⟨k,e,hk⟩
    ·exact .inl (.inr (.inr (by rw[←e];rfl)))
    ·have e:some b=some k:=e
     injection e with e;subst e;exact .inr hk) _
   have hgF:SF w0 vs0 (vs1.modify n fun v=>(v.1,.slice A2 (nl+1) c2,v.2.2)):=hgT.trans (sf_modify w0 vs1 n (fun v=>(v.1,.slice A2 (nl+1) c2,v.2.2)) (fun v hv=>⟨fun k hk=>.inr hk,fun k hk=>.inl (ho3.lt k hk).1,fun k hk=>.inr hk⟩)) (Nat.le_refl _)
   obtain⟨nn,hnn⟩:∃z,Hid (s1.ns.length=z):=⟨_,rfl⟩
   have hq1:s1.on.ns.length=nn:=hnn.out
   rw[hq1] at q1 hfill
   have hnI:(n:Int)<(nn:Int):=by have:=hnn.out;omega
   have hfT2:Fresh w0 vn0 (.slice (some ⟨b,0,none⟩) nn c):=hfT
   go_wp2_with fail
   exact hRet _ _ rfl (PW.okI hres rfl hchT4 hfill hfT2 hgF)
  ·have ht':isT s1 cPaC=false:=by simpa using ht
   have hres:R0=(mustR s1 cBar).bind fun _ s2=>unionR (typedR fuel) n m (l++[x]) s2:=by rw[Hres.out,if_neg ht]
   have hs3:(goesR s1 cPaC).2=s1:=by unfold goesR;rw[if_neg ht]
   rw[hs3] at h3
   rw[ht']
   clear ht ht' Hres
   have hmu:=must_any cBar w3 h3
   go_wp2_with fail
   refine hmu.mono ?_
   intro e w4 hpl
   rcases hpl.cases with⟨_,s4,vl4,hr4,rfl,hc4,h4⟩|⟨at_,why,hr4,rfl,hc4⟩
   ·obtain⟨hb4,rfl⟩:=mustR_ok hr4.out
    have hol:=on_len (isT_pos hb4)
    have ho4:=own_chg ho3 hc4 (fun k hk e=>own_ne_blk ho3 h3.blk (by decide) (by rw[←e];exact hk.symm))
    have hchT4:Chg (Wr R M vn0) w0 w4:=hchT3.trans hc4 (fun k _ e=>.inl e)
    have hre2:unionR (typedR fuel) n m (l++[x]) s1.on=R0:=by rw[hres,hr4.out];rfl
    have hnlo:=hnl.out
    have hlen:(l++[x]).length=nl+1:=by rw[List.length_append,hnl.out];rfl
    have hun:∀a',Fr 27 [.pointer (some ⟨R,0,none⟩),.int .i64 n,.int .i64 deep,v3,v4,v5,.slice A2 (nl+1) c2] a'→UnAt B R M deep fuel n w0 vn0 vs0 R0 a' w4:=fun a' hF'=>
     ⟨m,l++[x],s1.on,vl4,vn1,vs1,.slice A2 (nl+1) c2,v3,v4,v5,hF',h4,hchT4,hfT,hgT,by rw[hlen];exact ho4,hap2,Lib.hid hre2,by omega,fun y hy=>by
      rcases List.mem_append.1 hy with hy|hy
      ·have:=hlx y hy;show y<s1.ns.length;omega
      ·rw[List.mem_singleton] at hy;subst hy;exact hxn,hn1,by rw[hlen];omega⟩
    have hms:tokLeft R w4<tokLeft R wr:=by rw[h4.left,hleft];omega
    clear hgo hmu hre2 hres
    go_wp2_with fail
    exact⟨hun _ ⟨_,rfl,rfl⟩,hms⟩
   ·have hres2:R0=.bad at_ why:=by rw[hres,hr4.out];rfl
    go_wp2_with fail
    exact hPan _ _ _ rfl (PW.badI hres2 rfl (hchT3.trans hc4 (fun k _ e=>.inl e)))
 ·have hres:R0=.bad at_ why:=by rw[←hR0.out,unionR,hr.out];rfl
  go_wp2_with fail
  exact hPan _ _ _ rfl (PW.badI hres rfl (hc.trans hc1 (Wr.back hf)))
set_option maxRecDepth 1000000 in
theorem union_any {deep fuel:Nat} (H:TypC B R M (deep+1) fuel) (hd20:deep≤100) (n:Nat) (w:World) (h:Rs B w R M vl vn vs s) (hn:n<s.ns.length) (hB:B≤w.heap.size) :
  Calls Tryz.prog 129 #[.pointer (some ⟨R,0,none⟩),.int .i64 (n:Int),.int .i64 (deep:Int)] w fun e w'=>PW B R M w vn vs (fun _=>.tuple #[]) (unionR (typedR fuel) n s.l.length [] s) e w':=by
 obtain⟨R0,hR0⟩:∃r,Hid (unionR (typedR fuel) n s.l.length [] s=r):=⟨_,rfl⟩
 rw[hR0.out]
 obtain⟨PO,hPO⟩:∃PO:Ending→World→Prop,Hid ((fun e w'=>PW B R M w vn vs (fun _=>.tuple #[]) R0 e w')=PO):=⟨_,rfl⟩
 rw[hPO.out]
 go_enter Tryz.func129,Tryz.ntmps129
 go_wp2_with fail
 refine unionL H hd20 _ w _ vn vs R0 hB ⟨s.l.length,[],s,vl,vn,vs,.slice none 0 0,_,_,_,⟨_,rfl,rfl⟩,h,Chg.refl _ _,.inl rfl,SF.refl _ _,World.ownsRow_nil _ _ _ _,(fun i v _ k _ e=>by cases e),hR0,Nat.le_refl _,by simp,hn,by have:=h.tl;simp;omega⟩ ?_ ?_
 ·intro a' w' hd hp
  refine bodyPost_ret (results_none rfl _ _ _) hd ?_
  rw[←hPO.out]
  exact hp
 ·intro c a' w' hd hp
  refine⟨hd,?_⟩
  rw[←hPO.out]
  exact hp
end
end Pr
namespace Reg
open Base
def soleB2 (ops:Array Oper) (j:Nat):Bool:=
 match ops[j]? with
 | none=>false
 | some _=>(List.range ops.size).all fun k=>k == j || waits ops 5 j k || waits ops 5 k j
theorem sole_of2 {ops:Array Oper} {j:Nat} (h:soleB2 ops j=true):Sole ops j:=by
 intro listed i hc hj hi
 obtain⟨hjun,oj,hoj,hall⟩:=mem_ready.1 hj
 obtain⟨hun,oi,hoi,hall2⟩:=mem_ready.1 hi
 unfold soleB2 at h
 simp only[hoj,List.all_eq_true,List.mem_range] at h
 have h1:=h i (Array.getElem?_eq_some_iff.1 hoi).1
 simp only[Bool.or_eq_true,beq_iff_eq] at h1
 rcases h1 with (h1|h1)|h1
 ·exact h1
 ·have h2:=waits_listed hc _ _ h1 (fun o ho=>by rw[hoj] at ho;cases ho;exact hall)
  rcases Nat.lt_or_ge i listed.size with h'|h'
  ·simp[h'] at h2 hun;rw[hun] at h2;cases h2
  ·simp[Array.getElem?_eq_none h'] at h2
 ·have h2:=waits_listed hc _ _ h1 (fun o ho=>by rw[hoi] at ho;cases ho;exact hall2)
  rcases Nat.lt_or_ge j listed.size with h'|h'
  ·simp[h'] at h2 hjun;rw[hjun] at h2;cases h2
  ·simp[Array.getElem?_eq_none h'] at h2
theorem onlyS {P:Program} {ops:Array Oper} {Q:Exit→Act→World→Prop} (i:Nat) (oi:Oper) {done:List Nat} {a:Act} {w:World} (hi:ops[i]?=some oi)
  (hr:Region.ready .any ops (marked ops.size done)=[i]) (hs:soleB2 ops i=true) (hn:done.length<ops.size) (hw:Region.wanted oi (yielded ops a.tmps)=true)
  (h:∀w',Ext w w'→∀K:Act→World→Prop,Shut (∀a' w'',St P ops Q Ext (i::done) a' w''→K a' w'')→oi.wp P a w' K Q):St P ops Q Ext done a w:=by
 intro hcl w' hw'
 have e:ops.size-done.length=(ops.size-(i::done).length)+1:=by simp only[List.length_cons];omega
 rw[e]
 refine⟨fun h0=>(by rw[h0] at hr;cases hr),fun j hj=>?_⟩
 rw[hr] at hj
 obtain rfl:j=i:=by simpa using hj
 unfold wpOp
 simp only[hi,hw,if_true]
 exact .inl (h w' hw' _ (fun a' w'' hst=>⟨.inr (sole_of2 hs),hst (hcl.set (by rw[hr];simp)) w'' (Ext.refl _)⟩))
theorem onlyXS {P:Program} {ops:Array Oper} {Q:Exit→Act→World→Prop} {R:World→World→Prop} (i:Nat) (oi:Oper) {done:List Nat} {a:Act} {w:World} (hi:ops[i]?=some oi)
  (hr:Region.ready .any ops (marked ops.size done)=[i]) (hs:soleB2 ops i=true) (hn:done.length<ops.size) (hw:Region.wanted oi (yielded ops a.tmps)=true)
  (h:∀K:Act→World→Prop,Shut (∀a' w'',At P ops Q R (i::done) a' w''→K a' w'')→oi.wp P a w K Q):At P ops Q R done a w:=by
 intro hcl
 have e:ops.size-done.length=(ops.size-(i::done).length)+1:=by simp only[List.length_cons];omega
 rw[e]
 refine⟨fun h0=>(by rw[h0] at hr;cases hr),fun j hj=>?_⟩
 rw[hr] at hj
 obtain rfl:j=i:=by simpa using hj
 unfold wpOp
 simp only[hi,hw,if_true]
 exact .inl (h _ (fun a' w'' hst=>⟨.inr (sole_of2 hs),hst (hcl.set (by rw[hr];simp))⟩))
theorem rl_chg (S:Nat→Prop):Rl (Chg S):=⟨Chg.refl S,fun h k=>h.trans k (fun _ _ x=>x),fun h=>⟨h.os,h.tape,h.output,h.size,h.block⟩⟩
end Reg
namespace Pr
open Go.ChangeShapes Go.WideShapes Go.ChangeAt Go.RowKit
open Base Lx Mi Piece
noncomputable def syBody (n:Nat):Code:=loopBody n Tryz.f150.body
set_option maxRecDepth 1000000 in
theorem lay25 {v0 v1 v2 v3 v4:Value} {a:Act} (h:Piece.Fr 25 [v0,v1,v2,v3,v4] a):∃u:Nat→Value,a=⟨(v0::v1::v2::v3::v4::u 5::u 6::u 7::u 8::u 9::u 10::u 11::u 12::u 13::u 14::u 15::u 16::u 17::u 18::u 19::u 20::u 21::u 22::u 23::u 24::[]).toArray,[]⟩:=by
 obtain⟨u,hu⟩:=h.spread
 refine⟨u,hu.trans ?_⟩
 kernel_rfl
section
variable {B R M:Nat} {vl vn:Value} {vs:List V3} {s:PS}
theorem Rs.otherS {w w':World} {B' n:Nat} {vL:Value} {xs:List Value} (h:Rs B w R M vl vn vs s) (hL:w.ownsRow B' 9 1 vL n xs) (hBB:B≤B') (ha:Apart vL (fun v=>v.1) vs) (hch:Chg (fun k=>vL.ownBlock=some k) w w'):Rs B w' R M vl vn vs s:=by
 obtain⟨cnt,hm,_⟩:=h.named
 exact h.other hch (fun e=>own_ne_blk hL h.blk (by decide) e.symm) (own_ne_map hL hm) (own_not hL h.nds.row (by decide)) (fun i d v q1 q2=>⟨ha i v q2,own_not hL (h.nds.sub i d v q1 q2).items (by decide),own_not hL (h.nds.sub i d v q1 q2).fields (by decide)⟩) (fun k hk=>Nat.le_trans hBB (hL.lt k hk).1)
theorem Rs.setVar {w:World} {q:Nat} {cs:Array Value} {t:TypeId} (h:Rs B w R M vl vn vs s) (hq:Blk w q cs t) (h1:t≠147) (h2:t≠47) (h3:t≠9) (h4:t≠3) (h5:t≠69) (hB:B≤q) (i:Nat) (u:Value):Rs B (w.setCell ⟨q,i,none⟩ u) R M vl vn vs s:=by
 obtain⟨cnt,hm,_⟩:=h.named
 have hne:∀ {e:TypeId} {size n:Nat} {v:Value} {xs:List Value},w.ownsRow B e size v n xs→e≠t→∀k,v.ownBlock=some k→¬k=q:=fun ho hne k hk e=>own_ne_blk ho hq hne (by rw[←e];exact hk.symm)
 refine h.other (Chg.one w q i u) (fun e=>?_) (fun e=>hm.not_cells hq e) (hne h.nds.row (fun e=>h2 e.symm)) (fun i d v q1 q2=>⟨hne (h.nds.sub i d v q1 q2).syms (fun e=>h3 e.symm),hne (h.nds.sub i d v q1 q2).items (fun e=>h4 e.symm),hne (h.nds.sub i d v q1 q2).fields (fun e=>h5 e.symm)⟩) (fun k hk=>by rw[show k=q from hk];exact hB)
 have e:R=q:=e
 have hb:=h.blk
 rw[e] at hb
 unfold Blk at hb hq
 rw[hb] at hq
 injection hq with hq
 injection hq with _ hq
 exact h1 hq.symm
def SyAt (B R M n q:Nat) (w0:World) (vn0:Value) (vs0:List V3) (R0:Res Unit) (a:Act) (wv:World):Prop:=
 ∃(m:Nat) (l:List ByteArray) (s:PS) (vl vL v2 v3:Value),Fr 25 [.pointer (some ⟨R,0,none⟩),.int .i64 n,v2,v3,.pointer (some ⟨q,0,none⟩)] a∧Rs B wv R M vl vn0 vs0 s∧Chg (fun k=>k=R) w0 wv∧Blk wv q #[vL] 25∧w0.heap.size≤q∧wv.ownsRow w0.heap.size 9 1 vL l.length (txs l)∧Hid (symsR n m l s=R0)∧s.l.length≤m∧n<s.ns.length∧l.length+s.l.length≤2000
theorem nameR_hd {w:World} (h:Rs B w R M vl vn vs s):(hd s.l).s.size≤4096:=by
 have hp:=h.tok.pos
 cases hl:s.l with
 | nil=>rw[hl] at hp;simp at hp
 | cons t r=>exact h.ts t (by rw[hl];simp)
set_option maxRecDepth 1000000 in
set_option maxHeartbeats 2000000 in
theorem symsL {PO:Ending→World→Prop} {n q:Nat} (a:Act) (w0 wa:World) (vn0:Value) (vs0:List V3) (R0:Res Unit) (hB:B≤w0.heap.size) (hlow:∀(i:Nat) v,vs0[i]?=some v→∀k,v.1.ownBlock=some k→k<w0.heap.size)
  (hU:SyAt B R M n q w0 vn0 vs0 R0 a wa)
  (hPO:∀e w',PW B R M w0 vn0 vs0 (fun _=>.tuple #[]) R0 e w'→PO e w') :
  (Code.loop (syBody 0)).wp Tryz.prog (Exit.inBlock 0 (bodyPost Tryz.prog Tryz.f150 PO)) a wa:=by
 refine wp_loop (SyAt B R M n q w0 vn0 vs0 R0) (fun _ w=>tokLeft R w) hU ?_
 clear hU a wa
 rintro a wr ⟨m,l,s,vl,vL,v2,v3,hF,h,hc,hbq,hq0,hL,hR0,hsm,hn,h2k⟩
 obtain⟨u,rfl⟩:=lay25 hF
 clear hF
 conv=>arg 2;whnf
 have hpos:=h.tok.pos
 have hleft:=h.left
 obtain⟨m,rfl⟩:∃k,m=k+1:=⟨m-1,by omega⟩
 have hcs:=hc.size
 obtain⟨A,cL,rfl,hL1,hL2,hLr,_⟩:=Rd.of_own hL
 obtain⟨nl,hnl⟩:∃z,Hid (l.length=z):=⟨_,rfl⟩
 rw[hnl.out] at hL hbq
 have hnl2:nl≤2000:=by have:=hnl.out;omega
 have hqc:wr.cell? ⟨q,0,none⟩=some (.slice A nl cL):=hbq.cell 0
 have hqR:¬q=R:=fun e=>by
  have hb:=h.blk
  rw[←e] at hb
  unfold Blk at hb hbq
  rw[hb] at hbq
  simp at hbq
 have hap:Apart (.slice A nl cL) (fun v=>v.1) vs0:=fun i v hv k hk e=>by have:=hlow i v hv k hk;have:=(hL.lt k e).1;omega
 go_wp2_with fail
 refine Reg.startX (R:=Chg (fun k=>k=R)) (by kernel_rfl) ?_
 have hRl:=Reg.rl_chg (fun k=>k=R)
 generalize hwq:World.drew _=wq
 have hxq:Ext wr wq:=by rw[←hwq];exact (Ext.refl wr).drew
 clear hwq
 have hq:=h.ext hxq
 have hbqq:=hbq.ext hxq
 have hLq:=own_ext hL hxq
 have hchq:Chg (fun k=>k=R) w0 wq:=hc.trans (Chg.ofExt hxq) (fun _ _ e=>e)
 have hlc:∀W,Chg (fun k=>k=R) wq W→W.cell? ⟨q,0,none⟩=some (.slice A nl cL):=fun W hW=>(hW.blk hbqq hqR).cell 0
 have hnm:=name_syms (fun x=>l.any fun y=>decide (y=x)) ⟨q,0,none⟩ wq hq (Nat.le_trans (nameR_hd hq) (by omega)) (fun W hW x _=>(syms1_any x ⟨q,0,none⟩ A nl cL l W ((hLr.ext hxq).ext hW) hnl.out (by omega) (hW.cell (hbqq.cell 0))).mono fun e w' ⟨he,hw⟩=>⟨he,by subst hw;exact Ext.refl _⟩)
 refine Reg.tx hRl 0 ?_;(try simp only[Reg.nn])
 iterate 2 ((first|refine Reg.un hRl ?_|refine Reg.vn hRl ?_);(try simp only[Reg.nn]))
 refine Reg.onlyX 3 _ rfl (by kernel_rfl) (by decide) (by rfl) (fun K hK=>?_);go_simp
 refine hnm.mono ?_
 intro e w1 hpl
 rcases hpl.cases with⟨x,s1,vl1,hr,rfl,hc1,h1⟩|⟨at_,why,hr,rfl,hc1⟩
 rotate_left
 exact⟨rfl,hPO _ _ (PW.badI (by rw[←hR0.out,symsR,hr.out];rfl) rfl ((hchq.trans hc1 (fun _ _ e=>e)).mono fun k _ e=>.inl e))⟩
 obtain⟨hk1,z1,z2,z3,z4,hs1⟩:=nameR_ok hr.out
 clear z1 z2 z3 z4
 have hol:=on_len (k0_pos hk1)
 rw[←hs1] at hol
 have hns:s1.ns=s.ns:=by rw[hs1];rfl
 have hbq1:=hc1.blk hbqq hqR
 have hL1':=own_chg hLq hc1 (fun k hk e=>own_ne_blk hLq hq.blk (by decide) (by rw[←e];exact hk.symm))
 have hres:R0=if isT s1 cGt then .ok () (s1.on.setN n fun d=>{ d with syms:=l++[x] }) else (mustR s1 cCom).bind fun _ s2=>symsR n m (l++[x]) s2:=(by rw[←hR0.out,symsR,hr.out];rfl)
 have Hres:=Lib.hid hres
 have hch1:Chg (fun k=>k=R) w0 w1:=hchq.trans hc1 (fun _ _ e=>e)
 clear hres hlc hnm hs1
 refine hK.out _ _ (hc1) ?_;clear hK K;(try simp only[Reg.nn])
 refine Reg.onlyX 4 _ rfl (by kernel_rfl) (by decide) (by rfl) (fun K hK=>?_);go_simp
 have ha:Ext w1 (w1.alloc (.cells #[.string x] 9)):=(Ext.refl w1).alloc _
 refine hK.out _ _ (Chg.ofExt ha) ?_;clear hK K;(try simp only[Reg.nn])
 refine Reg.onlyXS 5 _ rfl (by kernel_rfl) (by kernel_rfl) (by decide) (by rfl) (fun K hK=>?_)
 refine wp_app el_str _ (.tmp 7) (.tmp 11) rfl w0.heap.size (.slice A nl cL) nl (txs l) rfl (own_ext hL1' ha) (some ⟨w1.heap.size,0,none⟩) 1 1 (txs [x]) rfl (Rd.of_block w1 9 (0,0) rfl) rfl (fun h=>by cases h) (txs_one [x]) (by omega) (by omega) (by have:=hch1.size;simp;omega) ?_
 intro V2 w2 ho2 hg2 hv2
 obtain⟨A2,c2,rfl,jj1,jj2,jj3,jj4⟩:=Rd.of_own ho2
 clear jj1 jj2 jj3 jj4
 have hch2:Chg (fun k=>(Value.slice A nl cL).ownBlock=some k) w1 w2:=(Chg.ofExt ha).trans (Chg.ofGrown hg2) (fun _ _ e=>e)
 have h2:=h1.otherS hL1' hB hap hch2
 have hbq2:=hch2.blk hbq1 (fun e=>own_ne_blk hL1' hbq1 (by decide) e.symm)
 have fq2:=hbq2.frozen 0
 have cq2:w2.cell? ⟨q,0,none⟩=some (.slice A nl cL):=hbq2.cell 0
 refine hK.out _ _ ?_;clear hK K;(try simp only[Reg.nn])
 refine Reg.lastX 6 _ rfl (by kernel_rfl) (by kernel_rfl) (by kernel_rfl) (by decide) (by rfl) (fun K hK=>?_)
 go_simp
 refine hK.out _ _ ?_;clear hK K;(try simp only[Reg.nn])
 obtain⟨w3,hw3⟩:∃z,Hid (w2.setCell ⟨q,0,none⟩ (.slice A2 (nl+1) c2)=z):=⟨_,rfl⟩
 have h3:Rs B w3 R M vl1 vn0 vs0 s1:=by rw[←hw3.out];exact h2.setVar hbq2 (by decide) (by decide) (by decide) (by decide) (by decide) (Nat.le_trans hB hq0) 0 _
 have hbq3:Blk w3 q #[.slice A2 (nl+1) c2] 25:=by rw[←hw3.out];exact hbq2.set 0 _
 rw[show txs l++txs [x]=txs (l++[x]) by simp[txs]] at ho2
 have ho3:w3.ownsRow w0.heap.size 9 1 (.slice A2 (nl+1) c2) (nl+1) (txs (l++[x])):=by rw[←hw3.out];exact own_setCell (i:=0) ho2 hbq2 (by decide) _
 have hlk:∀k,k<w0.heap.size→(Value.slice A nl cL).ownBlock=some k→k=R:=fun k hk e=>by have:=(hL1'.lt k e).1;omega
 have hchT3:Chg (fun k=>k=R) w0 w3:=by rw[←hw3.out];exact (hch1.trans hch2 hlk).set (p:=⟨q,0,none⟩) (.inr hq0) _
 have hgo:=goes_any cGt w3 h3
 rw[hw3.out]
 clear hw3
 go_wp2_with fail
 refine hgo.mono ?_
 rintro e w4 ⟨rfl,hc4,vl4,h4⟩
 have hchT4:Chg (fun k=>k=R) w0 w4:=hchT3.trans hc4 (fun _ _ e=>e)
 have ho4:=own_chg ho3 hc4 (fun k hk e=>own_ne_blk ho3 h3.blk (by decide) (by rw[←e];exact hk.symm))
 have hbq4:=hc4.blk hbq3 hqR
 have hlen:(l++[x]).length=nl+1:=by rw[List.length_append,hnl.out];rfl
 by_cases ht:isT s1 cGt=true
 ·have hres:R0=.ok () (s1.on.setN n fun d=>{ d with syms:=l++[x] }):=by rw[Hres.out,if_pos ht]
  have hs4:(goesR s1 cGt).2=s1.on:=by unfold goesR;rw[if_pos ht]
  rw[hs4] at h4
  rw[ht]
  clear ht Hres
  have hn1:n<s1.on.ns.length:=by show n<s1.ns.length;rw[hns];exact hn
  obtain⟨b,c,cur,rfl,hbB,hgb,hk1',hk2',hk3',hk4'⟩:=h4.rowb n hn1
  obtain⟨d,v,b',c',hd1,hv1,eb,_,_,hcell⟩:=h4.node n hn1
  injection eb with eb eb1 eb2
  simp only[Option.some.injEq,Addr.mk.injEq,and_true] at eb
  subst eb;subst eb2
  obtain⟨nn,hnn⟩:∃z,Hid (s1.on.ns.length=z):=⟨_,rfl⟩
  have q1:∀W,Ext w4 W→W.cell? ⟨R,1,none⟩=some (.slice (some ⟨b,0,none⟩) nn c):=fun W hW=>by rw[←hnn.out];exact (h4.ext hW).cells.2.1
  have qq:∀W,Ext w4 W→W.cell? ⟨q,0,none⟩=some (.slice A2 (nl+1) c2):=fun W hW=>(hbq4.ext hW).cell 0
  have hnI:(n:Int)<(nn:Int):=by have:=hnn.out;omega
  go_wp2_with fail
  refine Reg.startE (by kernel_rfl) ?_
  iterate 8 ((first|refine Reg.tn ?_|refine Reg.sn ?_);(try simp only[Reg.nn]))
  refine Reg.last 8 _ rfl (by kernel_rfl) (by kernel_rfl) (by kernel_rfl) (by decide) (by rfl) (fun W hW K hK=>?_)
  have q4:W.cell? ⟨b,n*6+3,none⟩=some v.1:=hcell W hW 3 (by omega)
  have f4:=(hgb.ext hW).frozen (n*6+3)
  go_simp
  refine hK.out _ _ ?_;clear hK K;(try simp only[Reg.nn])
  have h5:=h4.ext hW
  have hfill:=h5.fill hn1 (i:=3) (by omega) (fun d=>{ d with syms:=l++[x] }) (fun v=>(.slice A2 (nl+1) c2,v.2.1,v.2.2)) (.slice A2 (nl+1) c2) (fun d0 v0 q5 q6=>⟨rfl,by
   have hs:=h5.nds.sub n d0 v0 q5 q6
   exact⟨by show World.ownsRow _ _ _ _ _ (l++[x]).length _;rw[hlen];exact own_mono (own_ext ho4 hW) hB,hs.items,hs.fields⟩⟩)
  have hchT5:Chg (Wr R M (.slice (some ⟨b,0,none⟩) s1.on.ns.length c)) w0 (W.setCell ⟨b,n*6+3,none⟩ (.slice A2 (nl+1) c2)):=((hchT4.trans (Chg.ofExt (S:=fun _=>False) hW) (fun _ _ e=>e.elim)).mono (fun k _ e=>.inl e)).set (p:=⟨b,n*6+3,none⟩) (.inl (.inr (.inr rfl))) _
  have hgF:SF w0 vs0 (vs0.modify n fun v=>(.slice A2 (nl+1) c2,v.2.1,v.2.2)):=sf_modify w0 vs0 n (fun v=>(.slice A2 (nl+1) c2,v.2.1,v.2.2)) (fun v hv=>⟨fun k hk=>.inl (ho4.lt k hk).1,fun k hk=>.inr hk,fun k hk=>.inr hk⟩)
  go_wp2_with fail
  refine bodyPost_ret (results_none rfl _ _ _) rfl ?_
  exact hPO _ _ (PW.okI hres rfl hchT5 hfill (.inl rfl) hgF)
 ·have ht':isT s1 cGt=false:=by simpa using ht
  have hres:R0=(mustR s1 cCom).bind fun _ s2=>symsR n m (l++[x]) s2:=by rw[Hres.out,if_neg ht]
  have hs4:(goesR s1 cGt).2=s1:=by unfold goesR;rw[if_neg ht]
  rw[hs4] at h4
  rw[ht']
  clear ht ht' Hres
  have hmu:=must_any cCom w4 h4
  go_wp2_with fail
  refine hmu.mono ?_
  intro e w5 hpl
  rcases hpl.cases with⟨_,s5,vl5,hr5,rfl,hc5,h5⟩|⟨at_,why,hr5,rfl,hc5⟩
  ·obtain⟨hb5,rfl⟩:=mustR_ok hr5.out
   have hol5:=on_len (isT_pos hb5)
   have ho5:=own_chg ho4 hc5 (fun k hk e=>own_ne_blk ho4 h4.blk (by decide) (by rw[←e];exact hk.symm))
   have hbq5:=hc5.blk hbq4 hqR
   have hchT5:Chg (fun k=>k=R) w0 w5:=hchT4.trans hc5 (fun _ _ e=>e)
   have hre2:symsR n m (l++[x]) s1.on=R0:=by rw[hres,hr5.out];rfl
   have hnlo:=hnl.out
   have hun:∀a',Fr 25 [.pointer (some ⟨R,0,none⟩),.int .i64 n,v2,v3,.pointer (some ⟨q,0,none⟩)] a'→SyAt B R M n q w0 vn0 vs0 R0 a' w5:=fun a' hF'=>
    ⟨m,l++[x],s1.on,vl5,.slice A2 (nl+1) c2,v2,v3,hF',h5,hchT5,hbq5,hq0,by rw[hlen];exact ho5,Lib.hid hre2,by omega,by show n<s1.ns.length;rw[hns];exact hn,by rw[hlen];omega⟩
   have hms:tokLeft R w5<tokLeft R wr:=by rw[h5.left,hleft];omega
   clear hgo hmu hre2 hres
   go_wp2_with fail
   exact⟨hun _ ⟨_,rfl,rfl⟩,hms⟩
  ·have hres2:R0=.bad at_ why:=by rw[hres,hr5.out];rfl
   go_wp2_with fail
   exact⟨rfl,hPO _ _ (PW.badI hres2 rfl ((hchT4.trans hc5 (fun _ _ e=>e)).mono fun k _ e=>.inl e))⟩
set_option maxRecDepth 1000000 in
theorem syms_any (n:Nat) (w:World) (h:Rs B w R M vl vn vs s) (hn:n<s.ns.length) (hB:B≤w.heap.size) :
  Calls Tryz.prog 150 #[.pointer (some ⟨R,0,none⟩),.int .i64 (n:Int)] w fun e w'=>PW B R M w vn vs (fun _=>.tuple #[]) ((mustR s cLt).bind fun _ s3=>symsR n s3.l.length [] s3) e w':=by
 have hmu:=must_any cLt w h
 obtain⟨R0,hR0⟩:∃r,Hid (((mustR s cLt).bind fun _ s3=>symsR n s3.l.length [] s3)=r):=⟨_,rfl⟩
 rw[hR0.out]
 obtain⟨PO,hPO⟩:∃PO:Ending→World→Prop,Hid ((fun e w'=>PW B R M w vn vs (fun _=>.tuple #[]) R0 e w')=PO):=⟨_,rfl⟩
 rw[hPO.out]
 go_enter Tryz.func150,Tryz.ntmps150
 go_wp2_with fail
 refine hmu.mono ?_
 intro e w1 hpl
 rcases hpl.cases with⟨_,s1,vl1,hr1,rfl,hc1,h1⟩|⟨at_,why,hr1,rfl,hc1⟩
 ·obtain⟨hb1,rfl⟩:=mustR_ok hr1.out
  have hre:symsR n s.on.l.length [] s.on=R0:=by rw[←hR0.out,hr1.out];rfl
  have hs1:=hc1.size
  have hx2:Ext w1 (w1.alloc (.cells #[.slice none 0 0] 25)):=(Ext.refl w1).alloc _
  have hsl:=h1.subLt
  have htl:=h1.tl
  go_wp2_with fail
  refine symsL (q:=w1.heap.size) (R0:=R0) (w0:=w1) (vn0:=vn) (vs0:=vs) _ _ (Nat.le_trans hB hs1) (fun i v hv k hk=>(hsl i v hv).1 k hk) ⟨s.on.l.length,[],s.on,vl1,.slice none 0 0,_,_,⟨_,rfl,rfl⟩,h1.ext hx2,Chg.ofExt hx2,Blk.new w1 _ _,Nat.le_refl _,World.ownsRow_nil _ _ _ _,Lib.hid hre,Nat.le_refl _,hn,by simp;omega⟩ ?_
  intro e w' hp
  rw[←hPO.out]
  exact PW.after (hc1.mono fun k _ e=>.inl e) (.inl rfl) (SF.refl _ _) hp
 ·go_wp2_with fail
  refine⟨rfl,?_⟩
  rw[←hPO.out]
  exact PW.badI (by rw[←hR0.out,hr1.out];rfl) rfl (hc1.mono fun k _ e=>.inl e)
end
noncomputable def fiBody (n:Nat):Code:=loopBody n Tryz.f152.body
set_option maxRecDepth 1000000 in
theorem lay41 {v0 v1 v2 v3 v4 v5 v6:Value} {a:Act} (h:Piece.Fr 41 [v0,v1,v2,v3,v4,v5,v6] a):∃u:Nat→Value,a=⟨(v0::v1::v2::v3::v4::v5::v6::u 7::u 8::u 9::u 10::u 11::u 12::u 13::u 14::u 15::u 16::u 17::u 18::u 19::u 20::u 21::u 22::u 23::u 24::u 25::u 26::u 27::u 28::u 29::u 30::u 31::u 32::u 33::u 34::u 35::u 36::u 37::u 38::u 39::u 40::[]).toArray,[]⟩:=by
 obtain⟨u,hu⟩:=h.spread
 refine⟨u,hu.trans ?_⟩
 kernel_rfl
section
variable {B R M:Nat} {vl vn:Value} {vs:List V3} {s:PS}
theorem Rs.otherF {w w':World} {B' n:Nat} {vL:Value} {xs:List Value} (h:Rs B w R M vl vn vs s) (hL:w.ownsRow B' 69 3 vL n xs) (hBB:B≤B') (ha:Apart vL (fun v=>v.2.2) vs) (hch:Chg (fun k=>vL.ownBlock=some k) w w'):Rs B w' R M vl vn vs s:=by
 obtain⟨cnt,hm,_⟩:=h.named
 exact h.other hch (fun e=>own_ne_blk hL h.blk (by decide) e.symm) (own_ne_map hL hm) (own_not hL h.nds.row (by decide)) (fun i d v q1 q2=>⟨own_not hL (h.nds.sub i d v q1 q2).syms (by decide),own_not hL (h.nds.sub i d v q1 q2).items (by decide),ha i v q2⟩) (fun k hk=>Nat.le_trans hBB (hL.lt k hk).1)
theorem blk_ne {w:World} {a b:Nat} {cs ds:Array Value} {t u:TypeId} (ha:Blk w a cs t) (hb:Blk w b ds u) (h:t≠u):¬a=b:=fun e=>by
 rw[←e] at hb
 unfold Blk at ha hb
 rw[ha] at hb
 injection hb with hb
 injection hb with _ hb
 exact h hb
theorem Rs.setF {w:World} {q:Nat} {cs:Array Value} (h:Rs B w R M vl vn vs s) (hq:Blk w q cs 69) (ha:∀(i:Nat) v,vs[i]?=some v→∀k,v.2.2.ownBlock=some k→¬k=q) (hB:B≤q) (i:Nat) (u:Value):Rs B (w.setCell ⟨q,i,none⟩ u) R M vl vn vs s:=by
 obtain⟨cnt,hm,_⟩:=h.named
 have hne:∀ {e:TypeId} {size n:Nat} {v:Value} {xs:List Value},w.ownsRow B e size v n xs→e≠69→∀k,v.ownBlock=some k→¬k=q:=fun ho hne k hk e=>own_ne_blk ho hq hne (by rw[←e];exact hk.symm)
 exact h.other (Chg.one w q i u) (fun e=>blk_ne h.blk hq (by decide) e) (fun e=>hm.not_cells hq e) (hne h.nds.row (by decide)) (fun i d v q1 q2=>⟨hne (h.nds.sub i d v q1 q2).syms (by decide),hne (h.nds.sub i d v q1 q2).items (by decide),ha i v q2⟩) (fun k hk=>by rw[show k=q from hk];exact hB)
theorem flds_one (l:List (ByteArray×Bool×Nat)):∀u∈flds l,u.oneCell'=true:=by
 intro u hu
 obtain⟨x,_,hx⟩:=List.mem_flatMap.1 hu
 simp only[fldC,List.mem_cons,List.not_mem_nil,or_false] at hx
 rcases hx with rfl|rfl|rfl<;>rfl
def FiAt (B R M deep fuel n q:Nat) (w0:World) (vn0:Value) (vs0:List V3) (R0:Res Unit) (a:Act) (wv:World):Prop:=
 ∃(m:Nat) (l:List (ByteArray×Bool×Nat)) (s:PS) (vl vn:Value) (vs:List V3) (vL v3 v4 v5:Value),Fr 41 [.pointer (some ⟨R,0,none⟩),.int .i64 n,.int .i64 deep,v3,v4,v5,.pointer (some ⟨q,0,none⟩)] a∧Rs B wv R M vl vn vs s∧Chg (Wr R M vn0) w0 wv∧Fresh w0 vn0 vn∧SF w0 vs0 vs∧Blk wv q #[vL] 45∧wv.ownsRow w0.heap.size 69 3 vL l.length (flds l)∧Apart vL (fun v=>v.2.2) vs∧Hid (fieldsR (typedR fuel) n m l s=R0)∧s.l.length≤m∧n<s.ns.length∧l.length+s.l.length≤2000
def FiEnd (B R M deep n q:Nat) (w0:World) (vn0:Value) (vs0:List V3) (R0:Res Unit) (a:Act) (wv:World):Prop:=
 ∃(l:List (ByteArray×Bool×Nat)) (s:PS) (vl vn:Value) (vs:List V3) (vL v3 v4 v5:Value),Fr 41 [.pointer (some ⟨R,0,none⟩),.int .i64 n,.int .i64 deep,v3,v4,v5,.pointer (some ⟨q,0,none⟩)] a∧Rs B wv R M vl vn vs s∧Chg (Wr R M vn0) w0 wv∧Fresh w0 vn0 vn∧SF w0 vs0 vs∧Blk wv q #[vL] 45∧wv.ownsRow w0.heap.size 69 3 vL l.length (flds l)∧R0=.ok () (s.setN n fun d=>{ d with fields:=l })∧n<s.ns.length
set_option maxRecDepth 1000000 in
set_option maxHeartbeats 2000000 in
theorem fieldsL {Q:Exit→Act→World→Prop} {deep fuel n q:Nat} (H:TypC B R M (deep+1) fuel) (hd20:deep≤100) (a:Act) (w0 wa:World) (vn0:Value) (vs0:List V3) (R0:Res Unit) (hB:B≤w0.heap.size) (hq0:w0.heap.size≤q)
  (hU:FiAt B R M deep fuel n q w0 vn0 vs0 R0 a wa)
  (hEnd:∀a' w',FiEnd B R M deep n q w0 vn0 vs0 R0 a' w'→Q (.exit 0) a' w')
  (hPan:∀c a' w',a'.defers=[]→PW B R M w0 vn0 vs0 (fun _=>.tuple #[]) R0 (.panicked c) w'→Q (.panic c) a' w') :
  (Code.loop (fiBody 0)).wp Tryz.prog Q a wa:=by
 refine wp_loop (FiAt B R M deep fuel n q w0 vn0 vs0 R0) (fun _ w=>tokLeft R w) hU ?_
 clear hU a wa
 rintro a wr ⟨m,l,s,vl,vn,vs,vL,v3,v4,v5,hF,h,hc,hf,hg,hbq,hL,hap,hR0,hsm,hn,h2k⟩
 obtain⟨u,rfl⟩:=lay41 hF
 clear hF
 conv=>arg 2;whnf
 have hpos:=h.tok.pos
 have hleft:=h.left
 obtain⟨m,rfl⟩:∃k,m=k+1:=⟨m-1,by omega⟩
 have hcs:=hc.size
 obtain⟨A,cL,rfl,hL1,hL2,hLr,_⟩:=Rd.of_own hL
 obtain⟨nl,hnl⟩:∃z,Hid (l.length=z):=⟨_,rfl⟩
 rw[hnl.out] at hL hbq
 have hnl2:nl≤2000:=by have:=hnl.out;omega
 have hqR:¬q=R:=blk_ne hbq h.blk (by decide)
 have hgo:=goes_any cCuC wr h
 have hres:R0=if isT s cCuC then .ok () (s.on.setN n fun d=>{ d with fields:=l }) else (nameR s fun x=>l.any fun f=>decide (f.1=x)).bind fun x s1=>(mustR (goesR s1 cQ).2 cCol).bind fun _ s2=>(typedR fuel false [] s2).bind fun t s3=>(mustR s3 cSem).bind fun _ s4=>fieldsR (typedR fuel) n m (l++[(x,(goesR s1 cQ).1,t)]) s4:=by rw[←hR0.out,fieldsR]
 have Hres:=Lib.hid hres
 clear hres
 go_wp2_with fail
 refine hgo.mono ?_
 rintro e w1 ⟨rfl,hc1,vl1,h1⟩
 have hch1:Chg (Wr R M vn0) w0 w1:=hc.trans hc1 (fun k _ e=>.inl e)
 have hbq1:=hc1.blk hbq hqR
 have hL1':=own_chg hL hc1 (fun k hk e=>own_ne_blk hL h.blk (by decide) (by rw[←e];exact hk.symm))
 by_cases ht:isT s cCuC=true
 ·have hres:R0=.ok () (s.on.setN n fun d=>{ d with fields:=l }):=by rw[Hres.out,if_pos ht]
  have hs1:(goesR s cCuC).2=s.on:=by unfold goesR;rw[if_pos ht]
  rw[hs1] at h1
  rw[ht]
  have hend:∀a',Fr 41 [.pointer (some ⟨R,0,none⟩),.int .i64 n,.int .i64 deep,v3,v4,v5,.pointer (some ⟨q,0,none⟩)] a'→FiEnd B R M deep n q w0 vn0 vs0 R0 a' w1:=fun a' hF'=>⟨l,s.on,vl1,vn,vs,.slice A nl cL,v3,v4,v5,hF',h1,hch1,hf,hg,hbq1,by rw[hnl.out];exact hL1',hres,hn⟩
  clear ht Hres hgo
  go_wp2_with fail
  exact hEnd _ _ (hend _ ⟨_,rfl,rfl⟩)
 ·have ht':isT s cCuC=false:=by simpa using ht
  have hres:R0=(nameR s fun x=>l.any fun f=>decide (f.1=x)).bind fun x s1=>(mustR (goesR s1 cQ).2 cCol).bind fun _ s2=>(typedR fuel false [] s2).bind fun t s3=>(mustR s3 cSem).bind fun _ s4=>fieldsR (typedR fuel) n m (l++[(x,(goesR s1 cQ).1,t)]) s4:=by rw[Hres.out,if_neg ht]
  have hs1:(goesR s cCuC).2=s:=by unfold goesR;rw[if_neg ht]
  rw[hs1] at h1
  rw[ht']
  clear ht ht' Hres hgo
  have hnm:=name_fields (fun x=>l.any fun f=>decide (f.1=x)) ⟨q,0,none⟩ w1 h1 (Nat.le_trans (nameR_hd h1) (by omega)) (fun W hW x _=>fields1_any x ⟨q,0,none⟩ A nl cL l W ((Rd.chg hLr hc1 (fun a e=>by subst e;intro e2;exact own_ne_blk hL h.blk (by decide) (by rw[←e2];rfl))).ext hW) hnl.out (by omega) (hW.cell (hbq1.cell 0)))
  go_wp2_with fail
  refine hnm.mono ?_
  intro e w2 hpl
  rcases hpl.cases with⟨x,s2,vl2,hr2,rfl,hc2,h2⟩|⟨at_,why,hr2,rfl,hc2⟩
  ·obtain⟨hk2,z1,z2,z3,z4,hs2⟩:=nameR_ok hr2.out
   clear z1 z2 z3 z4
   have hol2:=on_len (k0_pos hk2)
   rw[←hs2] at hol2
   have hns2:s2.ns=s.ns:=by rw[hs2];rfl
   have hres2:R0=(mustR (goesR s2 cQ).2 cCol).bind fun _ s2'=>(typedR fuel false [] s2').bind fun t s3=>(mustR s3 cSem).bind fun _ s4=>fieldsR (typedR fuel) n m (l++[(x,(goesR s2 cQ).1,t)]) s4:=by rw[hres,hr2.out];rfl
   have Hres2:=Lib.hid hres2
   clear hs2 hres hres2
   have hch2:Chg (Wr R M vn0) w0 w2:=hch1.trans hc2 (fun k _ e=>.inl e)
   have hbq2:=hc2.blk hbq1 hqR
   have hL2':=own_chg hL1' hc2 (fun k hk e=>own_ne_blk hL1' h1.blk (by decide) (by rw[←e];exact hk.symm))
   obtain⟨q7,hq7⟩:∃z,Hid (w2.heap.size=z):=⟨_,rfl⟩
   obtain⟨w3,hw3⟩:∃z,Hid (w2.alloc (.cells #[.string x,.bool false,.int .i64 0] 69)=z):=⟨_,rfl⟩
   have hx3:Ext w2 w3:=by rw[←hw3.out];exact (Ext.refl w2).alloc _
   have hb7:Blk w3 q7 #[.string x,.bool false,.int .i64 0] 69:=by rw[←hw3.out,←hq7.out];exact Blk.new w2 _ _
   have h3:=h2.ext hx3
   have hbq3:=hbq2.ext hx3
   have hL3':=own_ext hL2' hx3
   have hch3:Chg (Wr R M vn0) w0 w3:=hch2.trans (Chg.ofExt (S:=fun _=>False) hx3) (fun _ _ e=>e.elim)
   have hq70:w0.heap.size≤q7:=by rw[←hq7.out];exact hch2.size
   have hq7R:¬q7=R:=blk_ne hb7 h3.blk (by decide)
   have hqq7:¬q=q7:=blk_ne hbq3 hb7 (by decide)
   have hL7:∀k,(Value.slice A nl cL).ownBlock=some k→¬k=q7:=fun k hk e=>by have:=(hL2'.lt k hk).2;have:=hq7.out;omega
   have ha7:∀(i:Nat) v,vs[i]?=some v→∀k,v.2.2.ownBlock=some k→¬k=q7:=fun i v hv k hk e=>by have:=(h2.subLt i v hv).2.2 k hk;have:=hq7.out;omega
   have hgo4:=goes_any cQ w3 h3
   go_wp2_with fail
   rw[hw3.out,hq7.out]
   refine hgo4.mono ?_
   rintro e w4 ⟨rfl,hc4,vl4,h4⟩
   obtain⟨bQ,hbQ⟩:∃z,Hid (isT s2 cQ=z):=⟨_,rfl⟩
   have hbQ1:(goesR s2 cQ).1=bQ:=by rw[←hbQ.out];unfold goesR;split<;>simp_all
   have hln4:(goesR s2 cQ).2.l.length≤s2.l.length∧(goesR s2 cQ).2.ns=s2.ns:=by
    unfold goesR
    split
    ·next hq=>exact⟨by have:=on_len (isT_pos hq);show s2.on.l.length≤_;omega,rfl⟩
    ·exact⟨Nat.le_refl _,rfl⟩
   obtain⟨s4,hs4⟩:∃z,Hid ((goesR s2 cQ).2=z):=⟨_,rfl⟩
   have hres4:=Hres2.out
   rw[hbQ1] at hres4
   rw[hs4.out] at hres4 h4 hln4
   rw[hbQ.out]
   have Hres4:=Lib.hid hres4
   clear hres4 hbQ1 Hres2 hgo4 hnm
   have hb74:=hc4.blk hb7 hq7R
   have hbq4:=hc4.blk hbq3 hqR
   have hL4':=own_chg hL3' hc4 (fun k hk e=>own_ne_blk hL3' h3.blk (by decide) (by rw[←e];exact hk.symm))
   have hch4:Chg (Wr R M vn0) w0 w4:=hch3.trans hc4 (fun k _ e=>.inl e)
   have f71:=hb74.frozen 1
   have c71:w4.cell? ⟨q7,1,none⟩=some (.bool false):=hb74.cell 1
   obtain⟨w5,hw5⟩:∃z,Hid (w4.setCell ⟨q7,1,none⟩ (.bool bQ)=z):=⟨_,rfl⟩
   have h5:Rs B w5 R M vl4 vn vs s4:=by rw[←hw5.out];exact h4.setF hb74 ha7 (Nat.le_trans hB hq70) 1 _
   have hb75:Blk w5 q7 #[.string x,.bool bQ,.int .i64 0] 69:=by rw[←hw5.out];exact hb74.set 1 _
   have hbq5:Blk w5 q #[.slice A nl cL] 45:=by rw[←hw5.out];exact (Chg.one w4 q7 1 _).blk hbq4 hqq7
   have hL5':w5.ownsRow w0.heap.size 69 3 (.slice A nl cL) nl (flds l):=by rw[←hw5.out];exact own_chg hL4' (Chg.one w4 q7 1 _) (fun k hk e=>hL7 k hk e)
   have hch5:Chg (Wr R M vn0) w0 w5:=by rw[←hw5.out];exact hch4.set (p:=⟨q7,1,none⟩) (.inr hq70) _
   have hmu5:=must_any cCol w5 h5
   go_wp2_with fail
   rw[hw5.out]
   refine hmu5.mono ?_
   intro e w6 hpl6
   rcases hpl6.cases with⟨_,s6,vl6,hr6,rfl,hc6,h6⟩|⟨at_,why,hr6,rfl,hc6⟩
   rotate_left
   ·have hres6:R0=.bad at_ why:=by rw[Hres4.out,hr6.out];rfl
    go_wp2_with fail
    exact hPan _ _ _ rfl (PW.badI hres6 rfl (hch5.trans hc6 (fun k _ e=>.inl e)))
   obtain⟨hbt6,hs6⟩:=mustR_ok hr6.out
   have hol6:=on_len (isT_pos hbt6)
   rw[←hs6] at hol6
   have hns6:s6.ns=s.ns:=by rw[hs6];show s4.ns=_;rw[hln4.2,hns2]
   have hres6:R0=(typedR fuel false [] s6).bind fun t s3=>(mustR s3 cSem).bind fun _ s4=>fieldsR (typedR fuel) n m (l++[(x,bQ,t)]) s4:=by rw[Hres4.out,hr6.out];rfl
   have Hres6:=Lib.hid hres6
   clear hres6 Hres4 hmu5 hs6
   have hb76:=hc6.blk hb75 hq7R
   have hbq6:=hc6.blk hbq5 hqR
   have hL6':=own_chg hL5' hc6 (fun k hk e=>own_ne_blk hL5' h5.blk (by decide) (by rw[←e];exact hk.symm))
   have hch6:Chg (Wr R M vn0) w0 w6:=hch5.trans hc6 (fun k _ e=>.inl e)
   have hcs6:=hch6.size
   have hT:=H false [] none 0 0 s6 w6 vl6 vn vs h6 (Rd.nil _ _) rfl (by omega) (by simp) (Nat.le_trans hB hcs6)
   have hdw:IntKind.i64.wrap ((deep:Int)+1)=(deep:Int)+1:=by rw[IntKind.wrap_i64];omega
   rw[show ((deep+1:Nat):Int)=(deep:Int)+1 by omega] at hT
   go_wp2_with fail
   refine hT.mono ?_
   intro e w7 hpw
   rcases hpw.cases with⟨ty,s7,vl7,vn7,vs7,hr7,rfl,hc7,h7,hf7,hg7⟩|⟨at_,why,hr7,rfl,hc7⟩
   rotate_left
   ·have hres7:R0=.bad at_ why:=by rw[Hres6.out,hr7.out];rfl
    go_wp2_with fail
    exact hPan _ _ _ rfl (PW.badI hres7 rfl (hch6.trans hc7 (Wr.back hf)))
   obtain⟨hln71,hln72⟩:=typedR_len fuel false [] s6 ty s7 hr7.out
   have hn7:n<s7.ns.length:=by rw[hns6] at hln71;omega
   have hres7:R0=(mustR s7 cSem).bind fun _ s4=>fieldsR (typedR fuel) n m (l++[(x,bQ,ty)]) s4:=by rw[Hres6.out,hr7.out];rfl
   have Hres7:=Lib.hid hres7
   clear hres7 Hres6 hT
   have hw6q:∀k,k=q7→¬Wr R M vn k:=by
    rintro k rfl (e|e|e)
    ·exact hq7R e
    ·obtain⟨cnt,hm,_⟩:=h6.named
     exact hm.not_cells hb76 e.symm
    ·exact own_ne_blk h6.nds.row hb76 (by decide) e.symm
   have hw6qq:¬Wr R M vn q:=by
    rintro (e|e|e)
    ·exact hqR e
    ·obtain⟨cnt,hm,_⟩:=h6.named
     exact hm.not_cells hbq6 e.symm
    ·exact own_ne_blk h6.nds.row hbq6 (by decide) e.symm
   have hb77:=hc7.blk hb76 (hw6q _ rfl)
   have hbq7:=hc7.blk hbq6 hw6qq
   have hL7':=own_chg hL6' hc7 (row_away h6 hL6' (by decide) (by decide))
   have hch7:Chg (Wr R M vn0) w0 w7:=hch6.trans hc7 (Wr.back hf)
   have hfT:=hf.trans hf7 hcs6
   have hgT:=hg.trans hg7 hcs6
   have hap7:Apart (.slice A nl cL) (fun v=>v.2.2) vs7:=Apart.old (by rw[←hnl.out];exact hap) (fun i v' hv=>(hg7 i v' hv).2.2) (fun k hk=>(hL6'.lt k hk).2)
   have ha77:∀(i:Nat) v,vs7[i]?=some v→∀k,v.2.2.ownBlock=some k→¬k=q7:=fun i v hv k hk e=>by
    rcases (hg7 i v hv).2.2 k hk with e2|⟨v2,e2,e3⟩
    ·have:=hb76.lt;omega
    ·exact ha7 i v2 e2 k e3 e
   have f72:=hb77.frozen 2
   have c72:w7.cell? ⟨q7,2,none⟩=some (.int .i64 0):=hb77.cell 2
   obtain⟨w8,hw8⟩:∃z,Hid (w7.setCell ⟨q7,2,none⟩ (.int .i64 (ty:Int))=z):=⟨_,rfl⟩
   have h8:Rs B w8 R M vl7 vn7 vs7 s7:=by rw[←hw8.out];exact h7.setF hb77 ha77 (Nat.le_trans hB hq70) 2 _
   have hb78:Blk w8 q7 #[.string x,.bool bQ,.int .i64 (ty:Int)] 69:=by rw[←hw8.out];exact hb77.set 2 _
   have hbq8:Blk w8 q #[.slice A nl cL] 45:=by rw[←hw8.out];exact (Chg.one w7 q7 2 _).blk hbq7 hqq7
   have hL8':w8.ownsRow w0.heap.size 69 3 (.slice A nl cL) nl (flds l):=by rw[←hw8.out];exact own_chg hL7' (Chg.one w7 q7 2 _) (fun k hk e=>hL7 k hk e)
   have hch8:Chg (Wr R M vn0) w0 w8:=by rw[←hw8.out];exact hch7.set (p:=⟨q7,2,none⟩) (.inr hq70) _
   have hmu8:=must_any cSem w8 h8
   go_wp2_with fail
   rw[hw8.out]
   refine hmu8.mono ?_
   intro e w9 hpl9
   rcases hpl9.cases with⟨_,s9,vl9,hr9,rfl,hc9,h9⟩|⟨at_,why,hr9,rfl,hc9⟩
   rotate_left
   ·have hres9:R0=.bad at_ why:=by rw[Hres7.out,hr9.out];rfl
    go_wp2_with fail
    exact hPan _ _ _ rfl (PW.badI hres9 rfl (hch8.trans hc9 (fun k _ e=>.inl e)))
   obtain⟨hbt9,hs9⟩:=mustR_ok hr9.out
   have hol9:=on_len (isT_pos hbt9)
   rw[←hs9] at hol9
   have hns9:s9.ns=s7.ns:=by rw[hs9];rfl
   have hres9:fieldsR (typedR fuel) n m (l++[(x,bQ,ty)]) s9=R0:=by rw[Hres7.out,hr9.out];rfl
   have Hres9:=Lib.hid hres9
   clear hres9 Hres7 hmu8 hs9
   have hb79:=hc9.blk hb78 hq7R
   have hbq9:=hc9.blk hbq8 hqR
   have hL9':=own_chg hL8' hc9 (fun k hk e=>own_ne_blk hL8' h8.blk (by decide) (by rw[←e];exact hk.symm))
   have hch9:Chg (Wr R M vn0) w0 w9:=hch8.trans hc9 (fun k _ e=>.inl e)
   have d0:w9.cell? ⟨q7,0,none⟩=some (.string x):=hb79.cell 0
   have d1:w9.cell? ⟨q7,1,none⟩=some (.bool bQ):=hb79.cell 1
   have d2:w9.cell? ⟨q7,2,none⟩=some (.int .i64 (ty:Int)):=hb79.cell 2
   have dq:w9.cell? ⟨q,0,none⟩=some (.slice A nl cL):=hbq9.cell 0
   have ha:Ext w9 (w9.alloc (.cells #[.string x,.bool bQ,.int .i64 (ty:Int)] 69)):=(Ext.refl w9).alloc _
   have hs90:=hch9.size
   go_wp2_with (
    refine wpList_app el_fld _ rfl (.tmp 29) (.tmp 31) rfl w0.heap.size (.slice A nl cL) nl (flds l) rfl (own_ext hL9' ha) (some ⟨w9.heap.size,0,none⟩) 1 1 (flds [(x,bQ,ty)]) rfl (Rd.of_block w9 69 (0,0) rfl) rfl (fun h=>by cases h) (flds_one _) (by omega) (by omega) (by simp;omega) (fun V2 w10 ho2 hg2 hv2=>?_)
    obtain⟨A2,c2,rfl,jj1,jj2,jj3,jj4⟩:=Rd.of_own ho2
    clear jj1 jj2 jj3 jj4
    have hchx:Chg (fun k=>(Value.slice A nl cL).ownBlock=some k) w9 w10:=(Chg.ofExt ha).trans (Chg.ofGrown hg2) (fun _ _ e=>e)
    have hbqx:=hchx.blk hbq9 (fun e=>own_ne_blk hL9' hbq9 (by decide) e.symm)
    have fqx:=hbqx.frozen 0
    have cqx:w10.cell? ⟨q,0,none⟩=some (.slice A nl cL):=hbqx.cell 0)
   have h10:=h9.otherF hL9' hB hap7 hchx
   have hlk:∀k,k<w0.heap.size→(Value.slice A nl cL).ownBlock=some k→Wr R M vn0 k:=fun k hk e=>by have:=(hL9'.lt k e).1;omega
   have hlen:(l++[(x,bQ,ty)]).length=nl+1:=by rw[List.length_append,hnl.out];rfl
   rw[show flds l++flds [(x,bQ,ty)]=flds (l++[(x,bQ,ty)]) by simp[flds]] at ho2
   have hap10:Apart (.slice A2 (nl+1) c2) (fun v=>v.2.2) vs7:=hap7.grown (w:=w9.alloc (.cells #[.string x,.bool bQ,.int .i64 (ty:Int)] 69)) hv2 (fun i v hv k hk=>by have:=(h9.subLt i v hv).2.2 k hk;simp;omega)
   have h11:Rs B (w10.setCell ⟨q,0,none⟩ (.slice A2 (nl+1) c2)) R M vl9 vn7 vs7 s9:=h10.setVar hbqx (by decide) (by decide) (by decide) (by decide) (by decide) (Nat.le_trans hB hq0) 0 _
   have hnlo:=hnl.out
   refine⟨⟨m,l++[(x,bQ,ty)],s9,vl9,vn7,vs7,.slice A2 (nl+1) c2,v3,v4,v5,⟨_,rfl,rfl⟩,h11,((hch9.trans hchx hlk).set (p:=⟨q,0,none⟩) (.inr hq0) _),hfT,hgT,hbqx.set 0 _,?_,hap10,Hres9,by omega,by rw[hns9];exact hn7,by rw[hlen];omega⟩,?_⟩
   ·rw[hlen];exact own_setCell (i:=0) ho2 hbqx (by decide) _
   ·rw[h11.left,hleft];omega
  ·have hres2:R0=.bad at_ why:=by rw[hres,hr2.out];rfl
   go_wp2_with fail
   exact hPan _ _ _ rfl (PW.badI hres2 rfl (hch1.trans hc2 (fun k _ e=>.inl e)))
set_option maxRecDepth 1000000 in
theorem fields_any {deep fuel:Nat} (H:TypC B R M (deep+1) fuel) (hd20:deep≤100) (n:Nat) (w:World) (h:Rs B w R M vl vn vs s) (hn:n<s.ns.length) (hB:B≤w.heap.size) :
  Calls Tryz.prog 152 #[.pointer (some ⟨R,0,none⟩),.int .i64 (n:Int),.int .i64 (deep:Int)] w fun e w'=>PW B R M w vn vs (fun _=>.tuple #[]) ((mustR s cCuO).bind fun _ s3=>fieldsR (typedR fuel) n s3.l.length [] s3) e w':=by
 have hmu:=must_any cCuO w h
 obtain⟨R0,hR0⟩:∃r,Hid (((mustR s cCuO).bind fun _ s3=>fieldsR (typedR fuel) n s3.l.length [] s3)=r):=⟨_,rfl⟩
 rw[hR0.out]
 obtain⟨PO,hPO⟩:∃PO:Ending→World→Prop,Hid ((fun e w'=>PW B R M w vn vs (fun _=>.tuple #[]) R0 e w')=PO):=⟨_,rfl⟩
 rw[hPO.out]
 go_enter Tryz.func152,Tryz.ntmps152
 go_wp2_with fail
 refine hmu.mono ?_
 intro e w1 hpl
 rcases hpl.cases with⟨_,s1,vl1,hr1,rfl,hc1,h1⟩|⟨at_,why,hr1,rfl,hc1⟩
 ·obtain⟨hb1,rfl⟩:=mustR_ok hr1.out
  have hre:fieldsR (typedR fuel) n s.on.l.length [] s.on=R0:=by rw[←hR0.out,hr1.out];rfl
  have hs1:=hc1.size
  have hx2:Ext w1 (w1.alloc (.cells #[.slice none 0 0] 45)):=(Ext.refl w1).alloc _
  have htl:=h1.tl
  go_wp2_with fail
  refine fieldsL (q:=w1.heap.size) (R0:=R0) (w0:=w1) (vn0:=vn) (vs0:=vs) H hd20 _ _ (Nat.le_trans hB hs1) (Nat.le_refl _) ⟨s.on.l.length,[],s.on,vl1,vn,vs,.slice none 0 0,_,_,_,⟨_,rfl,rfl⟩,h1.ext hx2,Chg.ofExt hx2,.inl rfl,SF.refl _ _,Blk.new w1 _ _,World.ownsRow_nil _ _ _ _,(fun i v _ k _ e=>by cases e),Lib.hid hre,Nat.le_refl _,hn,by simp;omega⟩ ?_ ?_
  ·rintro a' w4 ⟨l,s4,vl4,vn4,vs4,vL,v3,v4,v5,hF,h4,hc4,hf4,hg4,hbq4,hL4,hres,hn1⟩
   obtain⟨u,rfl⟩:=lay41 hF
   clear hF hmu
   obtain⟨A2,c2,rfl,jj1,jj2,jj3,jj4⟩:=Rd.of_own hL4
   clear jj1 jj2 jj3 jj4
   obtain⟨nl,hnl⟩:∃z,Hid (l.length=z):=⟨_,rfl⟩
   rw[hnl.out] at hL4 hbq4
   obtain⟨b,c,cur,rfl,hbB,hgb,hk1',hk2',hk3',hk4'⟩:=h4.rowb n hn1
   obtain⟨d,v,b',c',hd1,hv1,eb,_,_,hcell⟩:=h4.node n hn1
   injection eb with eb eb1 eb2
   simp only[Option.some.injEq,Addr.mk.injEq,and_true] at eb
   subst eb;subst eb2
   obtain⟨nn,hnn⟩:∃z,Hid (s4.ns.length=z):=⟨_,rfl⟩
   have q1:∀W,Ext w4 W→W.cell? ⟨R,1,none⟩=some (.slice (some ⟨b,0,none⟩) nn c):=fun W hW=>by rw[←hnn.out];exact (h4.ext hW).cells.2.1
   have qq:∀W,Ext w4 W→W.cell? ⟨w1.heap.size,0,none⟩=some (.slice A2 nl c2):=fun W hW=>(hbq4.ext hW).cell 0
   have hnI:(n:Int)<(nn:Int):=by have:=hnn.out;omega
   go_wp2_with fail
   refine Reg.startE (by kernel_rfl) ?_
   iterate 8 ((first|refine Reg.tn ?_|refine Reg.sn ?_);(try simp only[Reg.nn]))
   refine Reg.last 8 _ rfl (by kernel_rfl) (by kernel_rfl) (by kernel_rfl) (by decide) (by rfl) (fun W hW K hK=>?_)
   have q4:W.cell? ⟨b,n*6+5,none⟩=some v.2.2:=hcell W hW 5 (by omega)
   have f4:=(hgb.ext hW).frozen (n*6+5)
   go_simp
   refine hK.out _ _ ?_;clear hK K;(try simp only[Reg.nn])
   have h5:=h4.ext hW
   have hfill:=h5.fill hn1 (i:=5) (by omega) (fun d=>{ d with fields:=l }) (fun v=>(v.1,v.2.1,.slice A2 nl c2)) (.slice A2 nl c2) (fun d0 v0 q5 q6=>⟨rfl,by
    have hs:=h5.nds.sub n d0 v0 q5 q6
    exact⟨hs.syms,hs.items,by show World.ownsRow _ _ _ _ _ l.length _;rw[hnl.out];exact own_mono (own_ext hL4 hW) (Nat.le_trans hB hs1)⟩⟩)
   have hchT5:Chg (Wr R M vn) w1 (W.setCell ⟨b,n*6+5,none⟩ (.slice A2 nl c2)):=(hc4.trans (Chg.ofExt (S:=fun _=>False) hW) (fun _ _ e=>e.elim)).set (p:=⟨b,n*6+5,none⟩) (by
    rcases hf4 with e|⟨k,e,hk⟩
    ·exact .inl (.inr (.inr (by rw[←e];rfl)))
    ·have e:some b=some k:=e
     injection e with e;subst e;exact .inr hk) _
   have hgF:SF w1 vs (vs4.modify n fun v=>(v.1,v.2.1,.slice A2 nl c2)):=hg4.trans (sf_modify w1 vs4 n (fun v=>(v.1,v.2.1,.slice A2 nl c2)) (fun v hv=>⟨fun k hk=>.inr hk,fun k hk=>.inr hk,fun k hk=>.inl (hL4.lt k hk).1⟩)) (Nat.le_refl _)
   go_wp2_with fail
   go_end0
   rw[←hPO.out]
   exact PW.after (hc1.mono fun k _ e=>.inl e) (.inl rfl) (SF.refl _ _) (PW.okI hres rfl hchT5 hfill hf4 hgF)
  ·intro c a' w' hd hp
   refine⟨hd,?_⟩
   rw[←hPO.out]
   exact PW.after (hc1.mono fun k _ e=>.inl e) (.inl rfl) (SF.refl _ _) hp
 ·go_wp2_with fail
  refine⟨rfl,?_⟩
  rw[←hPO.out]
  exact PW.badI (by rw[←hR0.out,hr1.out];rfl) rfl (hc1.mono fun k _ e=>.inl e)
end
end Pr
end Go.Proofs.YtllhhpcabncmiaaGreatDoor
