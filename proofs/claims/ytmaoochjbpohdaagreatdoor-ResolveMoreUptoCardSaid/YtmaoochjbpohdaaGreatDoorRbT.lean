/- parse: the reference's reader: what is defined, walked. -/
import Derived.Test.YtmaoochjbpohdaaGreatDoorRbS
set_option linter.unusedVariables false
set_option linter.unusedSimpArgs false
set_option maxRecDepth 100000
set_option maxHeartbeats 1000000
open Go.ChangeShapes Go.WideShapes Go.ChangeAt Go.RowKit
namespace Go.Proofs.YtmaoochjbpohdaaGreatDoor
namespace Pr
open Base Lx Mi
section
variable {B R:Nat} {vl vn:Value} {vs:List V3} {L:List Tok} {q:QS}
set_option maxRecDepth 1000000 in
set_option maxHeartbeats 8000000 in
theorem defined11_any {deep fuel:Nat} (hTk:TokOk L) (H:TypQ B R L (deep+1) fuel) (hd20:deep≤100) (hfu:fuel≤100) (n:Nat) (w:World) (h:Rq B w R vl vn vs L q) (hn:n<q.ns.length) (hB:B≤w.heap.size) (hw0:q.why=0) (hW:WQ L q.at_ q) (hv0:∀v,vs[n]?=some v→v.2.2.ownBlock=none) :
  Calls Tryz.prog 92 #[.pointer (some ⟨R,0,none⟩),.int .i64 (n:Int),.int .i64 11,.int .i64 (deep:Int)] w fun e w'=>e=.returned (.tuple #[])∧PT B R vl vn vs L w (fieldsQ L (typedQ L fuel) n L.length (signQ L (defQ L n q) cCuO)) w':=by
 have hdg:=defQ_g (k:=fuel+1+1) (by omega) n hw0 (GQ.ofOk hW)
 have hnm:=nameQ_any w h
 have hnn':=nameQ_ns (L:=L) (q:=q)
 obtain⟨x,hx⟩:∃z,Hid ((tkQ L q).s=z):=⟨_,Lib.hid rfl⟩
 rw[hx.out] at hnm
 obtain⟨cv,hcv⟩:∃z,Hid (optI (calledN q.ns x)=z):=⟨_,Lib.hid rfl⟩
 have hdq:defQ L n q=onQ L ((badQ L (nameQ L q) (decide (0≤cv)) 6).setN n fun d=>{ d with name:=x }):=by unfold defQ;rw[←hcv.out,optI_some,hx.out]
 obtain⟨q1,hq1⟩:∃z,Hid (nameQ L q=z):=⟨_,Lib.hid rfl⟩
 rw[hq1.out] at hnm hdq hnn'
 obtain⟨q2,hq2⟩:∃z,Hid (badQ L q1 (decide (0≤cv)) 6=z):=⟨_,Lib.hid rfl⟩
 rw[hq2.out] at hdq
 have hn2:n<q2.ns.length:=by rw[←hq2.out,badQ_ns,hnn'];exact hn
 obtain⟨q4,hq4⟩:∃z,Hid (defQ L n q=z):=⟨_,Lib.hid rfl⟩
 have hdn:(defQ L n q).ns.length=q2.ns.length:=by rw[hdq,onQ_ns,setN_lenQ]
 rw[hq4.out] at hdn hdg ⊢
 obtain⟨R0,hR0⟩:∃z,Hid (fieldsQ L (typedQ L fuel) n L.length (signQ L q4 cCuO)=z):=⟨_,Lib.hid rfl⟩
 rw[hR0.out]
 obtain⟨PO,hPO⟩:∃PO:Ending→World→Prop,Hid ((fun e w'=>e=.returned (.tuple #[])∧PT B R vl vn vs L w R0 w')=PO):=⟨_,rfl⟩
 have hfin:∀w',PT B R vl vn vs L w R0 w'→PO (.returned (.tuple #[])) w':=fun w' hp=>by rw[←hPO.out];exact⟨rfl,hp⟩
 rw[hPO.out]
 have hn4:n<q4.ns.length:=by rw[hdn];exact hn2
 go_enter Tryz.func92,Tryz.ntmps92
 go_wp2_with fail
 refine hnm.mono ?_
 rintro e w1 ⟨rfl,hc1,h1⟩
 have hcl:=called_any x w1 h1
 rw[hnn',hcv.out] at hcl
 have hbd:=bad_any (decide (0≤cv)) 6 w1 h1
 rw[hq2.out,show ((6:Nat):Int)=6 from rfl] at hbd
 clear hnm
 go_wp2_with fail
 refine hcl.mono ?_
 rintro e w2 ⟨rfl,hw2⟩
 have hw2:=hw2.symm
 subst hw2
 go_wp2_with fail
 refine hbd.mono ?_
 rintro e w3 ⟨rfl,hc3,h3⟩
 obtain⟨b,c,cur,eb,hbB,hgb,hk1,hk2,hk3⟩:=h3.rowc hn2
 have h3':=h3
 rw[eb] at h3'
 obtain⟨nn,hnn⟩:∃z,Hid (q2.ns.length=z):=⟨_,Lib.hid rfl⟩
 have hfl:=h3'.fillN hn2 (i:=1) (by omega) (fun d=>{ d with name:=x }) (.string x) (fun d v=>rfl) (fun d=>⟨rfl,rfl,rfl⟩)
 rw[hnn.out] at hfl eb
 have y2:w3.cell? ⟨R,2,none⟩=some (.slice (some ⟨b,0,none⟩) nn c):=by rw[←eb];exact h3.blk.cell 2
 replace eb:=Lib.hid eb
 obtain⟨u1,hu1⟩:∃u,w3.cell? ⟨b,n*6+1,none⟩=some u:=⟨_,(hgb.cell _).trans (Array.getElem?_eq_getElem (by omega))⟩
 have fz1:=hgb.frozen (n*6+1)
 have hnI:(n:Int)<(nn:Int):=by have:=hnn.out;omega
 have hc13:Chg (fun k=>k=R) w w3:=hc1.trans hc3 (fun _ _ e=>e)
 have hchb:Chg (Wq R vn) w (w3.setCell ⟨b,n*6+1,none⟩ (.string x)):=(hc13.mono (fun k _ e=>.inl e)).set (p:=⟨b,n*6+1,none⟩) (.inl (.inr (by rw[eb.out];rfl))) _
 have hon:=on_any _ hfl
 rw[←hdq] at hon
 clear hcl hbd hfl h3' h3 hgb
 rw[hq4.out] at hon
 go_wp2_with fail
 refine hon.mono ?_
 rintro e w4 ⟨rfl,hc4,h4⟩
 have hch4:Chg (Wq R vn) w w4:=hchb.trans hc4 (fun k _ e=>.inl e)
 rw[←eb.out] at h4
 have hfl:=fields_any' hTk H hd20 hfu n w4 h4 hdg.1 hn4 (Nat.le_trans hB hch4.size) hv0
 rw[hR0.out] at hfl
 clear y2 hu1 fz1 hon hdq hW hdg eb
 go_wp2_with fail
 refine hfl.mono ?_
 rintro e w5 ⟨rfl,hp⟩
 go_wp2_with fail
 refine bodyPost_ret (results_none rfl _ _ _) rfl ?_
 exact hfin _ (PT.after (q2:=q4) hch4 (.inl rfl) (SF.refl w vs) hp)
theorem definedQ_any {deep fuel:Nat} {k:Int} (hk:k=9∨k=10∨k=11) (hTk:TokOk L) (H:TypQ B R L (deep+1) fuel) (hd20:deep≤100) (hfu:fuel≤100) (n:Nat) (w:World) (h:Rq B w R vl vn vs L q) (hn:n<q.ns.length) (hB:B≤w.heap.size) (hw0:q.why=0) (hW:WQ L q.at_ q) (hv0:∀v,vs[n]?=some v→v.1.ownBlock=none∧v.2.2.ownBlock=none) :
  Calls Tryz.prog 92 #[.pointer (some ⟨R,0,none⟩),.int .i64 (n:Int),.int .i64 k,.int .i64 (deep:Int)] w fun e w'=>e=.returned (.tuple #[])∧PT B R vl vn vs L w (definedQ L (typedQ L fuel) n k q) w':=by
 rcases hk with rfl|rfl|rfl
 ·exact defined9_any hTk deep 1 (by omega) (by omega) n w h hn hB hw0 hW (fun v hv=>(hv0 v hv).1)
 ·exact defined10_any deep n w h hn hB
 ·exact defined11_any hTk H hd20 hfu n w h hn hB hw0 hW (fun v hv=>(hv0 v hv).2)
end
end Pr
namespace Pr
open Base Lx Mi Piece
def tl (n:Nat):Code→Option Code
 | .seq (.region m os d) b=>bif Nat.beq m n then some (.seq (.region m os d) b) else tl n b
 | .seq a b=>match tl n a with
  | some c=>some c
  | none=>tl n b
 | .cond _ a b=>match tl n a with
  | some c=>some c
  | none=>tl n b
 | .block _ c=>tl n c
 | .loop c=>tl n c
 | .scope c=>tl n c
 | _=>none
def tlC (n:Nat) (c:Option Code):Code:=match c with
 | some c=>match tl n c with
  | some c=>c
  | none=>.skip
 | none=>.skip
set_option maxRecDepth 1000000 in
theorem lay161 {v0 v1 v2 v3 v4 v5 v6 v7 v8 v9 v10 v11:Value} {a:Act} (h:Piece.Fr 161 [v0,v1,v2,v3,v4,v5,v6,v7,v8,v9,v10,v11] a):∃u:Nat→Value,a=⟨(v0::v1::v2::v3::v4::v5::v6::v7::v8::v9::v10::v11::u 12::u 13::u 14::u 15::u 16::u 17::u 18::u 19::u 20::u 21::u 22::u 23::u 24::u 25::u 26::u 27::u 28::u 29::u 30::u 31::u 32::u 33::u 34::u 35::u 36::u 37::u 38::u 39::u 40::u 41::u 42::u 43::u 44::u 45::u 46::u 47::u 48::u 49::u 50::u 51::u 52::u 53::u 54::u 55::u 56::u 57::u 58::u 59::u 60::u 61::u 62::u 63::u 64::u 65::u 66::u 67::u 68::u 69::u 70::u 71::u 72::u 73::u 74::u 75::u 76::u 77::u 78::u 79::u 80::u 81::u 82::u 83::u 84::u 85::u 86::u 87::u 88::u 89::u 90::u 91::u 92::u 93::u 94::u 95::u 96::u 97::u 98::u 99::u 100::u 101::u 102::u 103::u 104::u 105::u 106::u 107::u 108::u 109::u 110::u 111::u 112::u 113::u 114::u 115::u 116::u 117::u 118::u 119::u 120::u 121::u 122::u 123::u 124::u 125::u 126::u 127::u 128::u 129::u 130::u 131::u 132::u 133::u 134::u 135::u 136::u 137::u 138::u 139::u 140::u 141::u 142::u 143::u 144::u 145::u 146::u 147::u 148::u 149::u 150::u 151::u 152::u 153::u 154::u 155::u 156::u 157::u 158::u 159::u 160::[]).toArray,[]⟩:=by
 obtain⟨u,hu⟩:=h.spread
 refine⟨u,hu.trans ?_⟩
 kernel_rfl
section
variable {B R:Nat} {vl vn:Value} {vs:List V3} {L:List Tok} {q:QS}
theorem Rq.snoc {w w1:World} {A A1:Option Addr} {n c c1:Nat} (h:Rq B w R vl (.slice A n c) vs L q) (hn:q.ns.length=n) (h199:n<200) (k:Int) (ho1:w1.ownsRow B 36 6 (.slice A1 (n+1) c1) (n+1) (ndsC q.ns vs++ndC (Nd.ofKind k) v0)) (hch:Chg (fun k=>(Value.slice A n c).ownBlock=some k) w w1) :
  Rq B (w1.setCell ⟨R,2,none⟩ (.slice A1 (n+1) c1)) R vl (.slice A1 (n+1) c1) (vs++[v0]) L { q with ns:=q.ns++[Nd.ofKind k] }∧Chg (Wq R (.slice A n c)) w (w1.setCell ⟨R,2,none⟩ (.slice A1 (n+1) c1)):=by
 have hnR:=h.sep
 have hb1:=hch.blk h.blk hnR
 have hb2:Blk (w1.setCell ⟨R,2,none⟩ (.slice A1 (n+1) c1)) R #[vl,.int .i64 (q.at_:Int),.slice A1 (n+1) c1,.int .i64 (q.why:Int),.int .i64 (q.bad:Int)] 101:=hb1.set 2 _
 have hch2:Chg (Wq R (.slice A n c)) w (w1.setCell ⟨R,2,none⟩ (.slice A1 (n+1) c1)):=(hch.mono (fun _ _ e=>.inr e)).set (p:=⟨R,2,none⟩) (.inl (.inl rfl)) _
 rw[←ndsC_snoc _ _ _ _ h.nds.len] at ho1
 have ho2:=own_setCell (i:=2) ho1 hb1 (by decide) (.slice A1 (n+1) c1)
 have hlen:(q.ns++[Nd.ofKind k]).length=n+1:=by rw[List.length_append,hn];rfl
 refine⟨h.renode hch2 (fun k e=>h.wr_ge k e) hb2 ?_ ?_ ?_ ?_ (ap_snoc h.ap),hch2⟩
 ·rw[hlen];exact ho2
 ·rw[List.length_append,hlen,h.nds.len,hn];rfl
 ·intro i d v q1 q2
  rcases Nat.lt_or_ge i q.ns.length with hi|hi
  ·rw[List.getElem?_append_left hi] at q1
   rw[List.getElem?_append_left (by rw[h.nds.len];exact hi)] at q2
   have hs:=h.nds.sub i d v q1 q2
   exact hs.chg hch2 (fun k hk e=>e.elim (h.ne hs.syms (by decide) k hk) (own_not h.nds.row hs.syms (by decide) k hk)) (fun k hk e=>e.elim (h.ne hs.items (by decide) k hk) (own_not h.nds.row hs.items (by decide) k hk)) (fun k hk e=>e.elim (h.ne hs.fields (by decide) k hk) (own_not h.nds.row hs.fields (by decide) k hk))
  ·rw[List.getElem?_append_right hi] at q1
   rw[List.getElem?_append_right (by rw[h.nds.len];exact hi),h.nds.len] at q2
   cases hz:i-q.ns.length with
   | succ z=>rw[hz] at q1;simp at q1
   | zero=>
    rw[hz] at q1 q2
    simp at q1 q2
    subst q1;subst q2
    exact⟨World.ownsRow_nil _ _ _ _,World.ownsRow_nil _ _ _ _,World.ownsRow_nil _ _ _ _⟩
 ·rw[hlen];omega
theorem newQ_w (hT:TokOk L) (k:Int) (hq:WQ L q.at_ q) (hw:q.why=0) (hkk:(tkQ L q).k≠3):WQ L (newQ L k q).at_ (newQ L k q):=by
 have hon:=onQ_adv hT hq.lt hkk hw
 have hnq:newQ L k q=⟨q.at_+1,q.ns++[Nd.ofKind k],q.why,q.bad⟩:=by unfold newQ;rw[hon]
 rw[hnq]
 refine⟨tok_next hT hq.lt hkk,fun d hd=>?_,fun d hd m hm=>?_⟩
 ·rcases List.mem_append.1 hd with hd|hd
  ·have:=hq.len d hd;simp only;omega
  ·rw[List.mem_singleton.1 hd];simp[Nd.ofKind]
 ·rcases List.mem_append.1 hd with hd|hd
  ·have:=hq.idx d hd m hm;simp;omega
  ·rw[List.mem_singleton.1 hd] at hm;simp[Nd.ofKind] at hm
set_option maxRecDepth 1000000 in
set_option maxHeartbeats 8000000 in
theorem typed13 {deep f:Nat} (hTk:TokOk L) (H:TypQ B R L (deep+1) f) (hd20:deep≤100) (hfu:f≤100) (k nn:Int) (v2 v3 v4 v5 v6 v7 v9:Value) (a:Act) (w:World) (h:Rq B w R vl vn vs L q) (hw:q.why=0) (hW:WQ L q.at_ q) (hB:B≤w.heap.size) (hkk:(tkQ L q).k≠3) (hl:0≤k→q.ns.length<200) (PO:Ending→World→Prop)
  (hF:Fr 161 [.pointer (some ⟨R,0,none⟩),.int .i64 (deep:Int),v2,v3,v4,v5,v6,v7,.int .i64 0,v9,.int .i64 k,.int .i64 nn] a)
  (hQ:∀w',PT B R vl vn vs L w (if k<0 then onQ L q else restQ L (typedQ L f) k q.ns.length (newQ L k q)) w'→PO (.returned (.int .i64 (if k<0 then nn else (q.ns.length:Int)))) w') :
  (tlC 13 Tryz.f65.body).wp Tryz.prog (bodyPost Tryz.prog Tryz.f65 PO) a w:=by
 obtain⟨u,rfl⟩:=lay161 hF
 clear hF
 conv=>arg 2;whnf
 have hon:=on_any w h
 have hdw:IntKind.i64.wrap ((deep:Int)+1)=(deep:Int)+1:=by rw[IntKind.wrap_i64];omega
 by_cases hk0:k<0
 ·rw[if_pos hk0,if_pos hk0] at hQ
  go_wp2_with fail
  refine hon.mono ?_
  rintro e w1 ⟨rfl,hc1,h1⟩
  go_wp2_with fail
  exact PT.ofR hc1 h1
 ·rw[if_neg hk0,if_neg hk0] at hQ
  have hwN:(newQ L k q).why=0:=by show (onQ L q).why=0;rw[onQ_why];exact hw
  have hWN:WQ L (newQ L k q).at_ (newQ L k q):=newQ_w hTk k hW hw hkk
  have hnN:(newQ L k q).ns.length=q.ns.length+1:=by show (q.ns++[Nd.ofKind k]).length=_;simp
  have hnq:newQ L k q={ onQ L q with ns:=q.ns++[Nd.ofKind k] }:=rfl
  obtain⟨A,c,rfl,hnc,hcm⟩:=h.slice
  have h199:=hl (by omega)
  have hqo:=onQ_ns (L:=L) (q:=q)
  have hv0:∀v,(vs++[v0])[q.ns.length]?=some v→v=v0:=fun v hv=>by
   rw[←h.nds.len,List.getElem?_append_right (Nat.le_refl _),Nat.sub_self] at hv
   simpa using hv.symm
  have hsf:=sf_snoc w vs
  obtain⟨qN,hqN⟩:∃z,Hid (newQ L k q=z):=⟨_,Lib.hid rfl⟩
  rw[hqN.out] at hwN hWN hnN hnq hQ
  obtain⟨qo,hqo'⟩:∃z,Hid (onQ L q=z):=⟨_,Lib.hid rfl⟩
  rw[hqo'.out] at hon hnq hqo
  obtain⟨n,hn⟩:∃z,Hid (q.ns.length=z):=⟨_,Lib.hid rfl⟩
  rw[hn.out] at hon hnc h199 hv0 hnN hQ h
  have hnn0:n<qN.ns.length:=by omega
  have hg:=typedQ_g hTk f
  have hnd1:=ndC_one (Nd.ofKind k) v0 rfl rfl rfl
  obtain⟨NW,hNW⟩:∃NW,Hid (ndC (Nd.ofKind k) v0=NW):=⟨_,rfl⟩
  have hNl:NW.length=1*6:=by rw[←hNW.out];rfl
  have hrd0:∀W:World,Rd (W.alloc (.cells #[.int .i64 k,.string ⟨#[]⟩,.int .i64 0,.slice none 0 0,.slice none 0 0,.slice none 0 0] 36)) (some ⟨W.heap.size,0,none⟩) NW:=fun W=>by
   rw[←hNW.out];exact Rd.of_block W 36 (0,0) rfl
  rw[hNW.out] at hnd1
  by_cases hk6:k=6
  ·subst hk6
   go_wp2_with fail
   refine hon.mono ?_
   rintro e w1 ⟨rfl,hc1,h1⟩
   have ho:=h1.nds.row
   rw[hqo,hn.out] at ho
   have hbk:=h1.blk
   have hnR:=h1.sep
   have c2:w1.cell? ⟨R,2,none⟩=some (.slice A n c):=hbk.cell 2
   have hrd:=hrd0 w1
   have hsz1:=hc1.size
   go_wp2_with (
    refine wpList_app el_nd _ rfl (.tmp 103) (.tmp 106) rfl B (.slice A n c) n (ndsC q.ns vs) rfl (own_ext ho ((Ext.refl w1).alloc _)) (some ⟨w1.heap.size,0,none⟩) 1 1 NW rfl hrd hNl (fun h=>by cases h) hnd1 (by omega) (by omega) (by simp;omega) (fun V1 w2 ho1 hg1 hv1=>?_)
    obtain⟨A1,c1',rfl,kk1,kk2,kk3,kk4⟩:=Rd.of_own ho1
    clear kk1 kk2 kk3 kk4
    have hch1:Chg (fun k=>(Value.slice A n c).ownBlock=some k) w1 w2:=(Chg.ofExt ((Ext.refl w1).alloc _)).trans (Chg.ofGrown hg1) (fun _ _ e=>e)
    have hb1:=hch1.blk hbk hnR
    have fr1:=hb1.frozen 2
    have cl1:w2.cell? ⟨R,2,none⟩=some _:=hb1.cell 2)
   have hsn:Rq B (w2.setCell ⟨R,2,none⟩ (.slice A1 (n+1) c1')) R vl (.slice A1 (n+1) c1') (vs++[v0]) L qN∧Chg (Wq R (.slice A n c)) w1 (w2.setCell ⟨R,2,none⟩ (.slice A1 (n+1) c1')):=by
    rw[hnq,←hqo]
    exact h1.snoc (by rw[hqo];exact hn.out) h199 _ (by rw[hqo,hNW.out];exact ho1) hch1
   obtain⟨hN,hcN⟩:=hsn
   have hcN0:Chg (Wq R (.slice A n c)) w (w2.setCell ⟨R,2,none⟩ (.slice A1 (n+1) c1')):=(hc1.mono fun k _ e=>.inl e).trans hcN (fun k _ e=>e)
   have hfN:Fresh w (.slice A n c) (.slice A1 (n+1) c1'):=hv1.imp (fun e=>e) (fun e=>⟨_,e,by simp;omega⟩)
   obtain⟨wN,hwN'⟩:∃z,Hid (w2.setCell ⟨R,2,none⟩ (.slice A1 (n+1) c1')=z):=⟨_,rfl⟩
   rw[hwN'.out] at hN hcN0 ⊢
   clear hrd hcN fr1 cl1 hb1 hch1 ho1 hg1 hv1 ho hon
   have hT:=H false [] none 0 0 qN wN vl _ _ hN hwN hWN (Rd.nil _ _) rfl (by omega) (fun m hm=>by cases hm) (Nat.le_trans hB hcN0.size) (fun a ha=>by cases ha)
   rw[show ((deep+1:Nat):Int)=(deep:Int)+1 by omega] at hT
   obtain⟨g1,g2,g3,g4,g5⟩:=hg false [] qN hwN (GQ.ofOk hWN)
   rw[show restQ L (typedQ L f) 6 n qN=itemQ L (typedQ L f) n cSqC qN from rfl] at hQ
   unfold itemQ at hQ
   obtain⟨r,hr⟩:∃z,Hid (typedQ L f false [] qN=z):=⟨_,rfl⟩
   rw[hr.out] at hT g1 g2 g3 g4 g5 hQ
   obtain⟨x,q3⟩:=r
   simp only at hT g1 g2 g3 g4 g5 hQ
   clear hr
   refine hT.mono ?_
   rintro e w3 ⟨rfl,hc3,vn3,vs3,h3,hf3,hg3⟩
   clear hT
   have hn3:n<q3.ns.length:=by omega
   obtain⟨b,c4,cur,rfl,hbB,hgb,hk1,hk2,hk3⟩:=h3.rowc hn3
   have hcT:=hcN0.trans hc3 (Wq.back hfN)
   have hfT:=hfN.trans hf3 hcN0.size
   have hgT:=hsf.trans hg3 hcN0.size
   have hszT:=hcT.size
   have ha:Ext w3 (w3.alloc (.cells #[.int .i64 (x:Int)] 3)):=(Ext.refl w3).alloc _
   have h4:=h3.ext ha
   obtain⟨u1,hu1⟩:∃u,(w3.alloc (.cells #[.int .i64 (x:Int)] 3)).cell? ⟨b,n*6+4,none⟩=some u:=⟨_,((hgb.ext ha).cell _).trans (Array.getElem?_eq_getElem (by omega))⟩
   have fz1:=(hgb.ext ha).frozen (n*6+4)
   obtain⟨G,hG⟩:∃G:V3→V3,G=fun v=>(v.1,.slice (some ⟨w3.heap.size,0,none⟩) 1 1,v.2.2):=⟨_,rfl⟩
   have hiv:∀k,(Value.slice (some ⟨w3.heap.size,0,none⟩) 1 1).ownBlock=some k→w3.heap.size≤k:=fun k hk=>by
    have hk:some w3.heap.size=some k:=hk
    injection hk with hk
    omega
   have hap:Ap (vs3.modify n G):=ap_new (w:=w3) h3.ap h3.subLt (fun v hv=>by
    subst hG
    exact⟨fun k hk=>.inr hk,fun k hk=>.inl (hiv k hk),fun k hk=>.inr hk⟩)
   have hfill:=h4.fill hn3 (i:=4) (by omega) (fun d=>{ d with items:=[x] }) G (.slice (some ⟨w3.heap.size,0,none⟩) 1 1) (fun d0 u0 q5 q6=>by
    have hs:=h4.nds.sub n d0 u0 q5 q6
    subst hG
    exact⟨rfl,hs.syms,⟨rfl,.inr ⟨w3.heap.size,1,#[.int .i64 (x:Int)],rfl,by omega,Blk.new w3 _ _,Nat.le_refl _,by unfold maxLen;omega,rfl,rfl⟩⟩,hs.fields⟩) hap
   have hgF:SF w vs (vs3.modify n G):=hgT.trans (sf_modify w vs3 n G (fun v hv=>by
    subst hG
    exact⟨fun k hk=>.inr hk,fun k hk=>.inl (by have:=hiv k hk;omega),fun k hk=>.inr hk⟩)) (Nat.le_refl _)
   have hchF:Chg (Wq R (.slice A n c)) w ((w3.alloc (.cells #[.int .i64 (x:Int)] 3)).setCell ⟨b,n*6+4,none⟩ (.slice (some ⟨w3.heap.size,0,none⟩) 1 1)):=
    (hcT.trans (Chg.ofExt ha) (fun _ _ e=>e)).trans (Chg.one _ b (n*6+4) _) (fun k hk e=>Wq.back hfT k hk (.inr (by rw[e];rfl)))
   have hsg:=sign_any cSqC _ hfill
   obtain⟨mm,hmm⟩:∃z,Hid (q3.ns.length=z):=⟨_,Lib.hid rfl⟩
   have y2:w3.cell? ⟨R,2,none⟩=some (.slice (some ⟨b,0,none⟩) mm c4):=by rw[←hmm.out];exact h3.blk.cell 2
   have hnI:(n:Int)<(mm:Int):=by have:=hmm.out;omega
   rw[show cSqC=(⟨#[93]⟩:ByteArray) from rfl] at hsg
   rw[show cSqC=(⟨#[93]⟩:ByteArray) from rfl] at hQ
   obtain⟨q5,hq5⟩:∃z,Hid (signQ L (q3.setN n fun d=>{ d with items:=[x] }) (⟨#[93]⟩:ByteArray)=z):=⟨_,rfl⟩
   rw[hq5.out] at hsg hQ
   clear hap hfill h4 hgb hG
   go_wp2_with fail
   refine hsg.mono ?_
   rintro e w5 ⟨rfl,hc5,h5⟩
   go_wp2_with fail
   exact⟨hchF.trans hc5 (fun k _ e=>.inl e),_,_,h5,hfT,hgF⟩
  by_cases hk7:k=7
  ·subst hk7
   go_wp2_with fail
   refine hon.mono ?_
   rintro e w1 ⟨rfl,hc1,h1⟩
   have ho:=h1.nds.row
   rw[hqo,hn.out] at ho
   have hbk:=h1.blk
   have hnR:=h1.sep
   have c2:w1.cell? ⟨R,2,none⟩=some (.slice A n c):=hbk.cell 2
   have hrd:=hrd0 w1
   have hsz1:=hc1.size
   go_wp2_with (
    refine wpList_app el_nd _ rfl (.tmp 103) (.tmp 106) rfl B (.slice A n c) n (ndsC q.ns vs) rfl (own_ext ho ((Ext.refl w1).alloc _)) (some ⟨w1.heap.size,0,none⟩) 1 1 NW rfl hrd hNl (fun h=>by cases h) hnd1 (by omega) (by omega) (by simp;omega) (fun V1 w2 ho1 hg1 hv1=>?_)
    obtain⟨A1,c1',rfl,kk1,kk2,kk3,kk4⟩:=Rd.of_own ho1
    clear kk1 kk2 kk3 kk4
    have hch1:Chg (fun k=>(Value.slice A n c).ownBlock=some k) w1 w2:=(Chg.ofExt ((Ext.refl w1).alloc _)).trans (Chg.ofGrown hg1) (fun _ _ e=>e)
    have hb1:=hch1.blk hbk hnR
    have fr1:=hb1.frozen 2
    have cl1:w2.cell? ⟨R,2,none⟩=some _:=hb1.cell 2)
   have hsn:Rq B (w2.setCell ⟨R,2,none⟩ (.slice A1 (n+1) c1')) R vl (.slice A1 (n+1) c1') (vs++[v0]) L qN∧Chg (Wq R (.slice A n c)) w1 (w2.setCell ⟨R,2,none⟩ (.slice A1 (n+1) c1')):=by
    rw[hnq,←hqo]
    exact h1.snoc (by rw[hqo];exact hn.out) h199 _ (by rw[hqo,hNW.out];exact ho1) hch1
   obtain⟨hN,hcN⟩:=hsn
   have hcN0:Chg (Wq R (.slice A n c)) w (w2.setCell ⟨R,2,none⟩ (.slice A1 (n+1) c1')):=(hc1.mono fun k _ e=>.inl e).trans hcN (fun k _ e=>e)
   have hfN:Fresh w (.slice A n c) (.slice A1 (n+1) c1'):=hv1.imp (fun e=>e) (fun e=>⟨_,e,by simp;omega⟩)
   obtain⟨wN,hwN'⟩:∃z,Hid (w2.setCell ⟨R,2,none⟩ (.slice A1 (n+1) c1')=z):=⟨_,rfl⟩
   rw[hwN'.out] at hN hcN0 ⊢
   clear hrd hcN fr1 cl1 hb1 hch1 ho1 hg1 hv1 ho hon
   have hT:=H false [] none 0 0 qN wN vl _ _ hN hwN hWN (Rd.nil _ _) rfl (by omega) (fun m hm=>by cases hm) (Nat.le_trans hB hcN0.size) (fun a ha=>by cases ha)
   rw[show ((deep+1:Nat):Int)=(deep:Int)+1 by omega] at hT
   obtain⟨g1,g2,g3,g4,g5⟩:=hg false [] qN hwN (GQ.ofOk hWN)
   rw[show restQ L (typedQ L f) 7 n qN=itemQ L (typedQ L f) n cCuC qN from rfl] at hQ
   unfold itemQ at hQ
   obtain⟨r,hr⟩:∃z,Hid (typedQ L f false [] qN=z):=⟨_,rfl⟩
   rw[hr.out] at hT g1 g2 g3 g4 g5 hQ
   obtain⟨x,q3⟩:=r
   simp only at hT g1 g2 g3 g4 g5 hQ
   clear hr
   refine hT.mono ?_
   rintro e w3 ⟨rfl,hc3,vn3,vs3,h3,hf3,hg3⟩
   clear hT
   have hn3:n<q3.ns.length:=by omega
   obtain⟨b,c4,cur,rfl,hbB,hgb,hk1,hk2,hk3⟩:=h3.rowc hn3
   have hcT:=hcN0.trans hc3 (Wq.back hfN)
   have hfT:=hfN.trans hf3 hcN0.size
   have hgT:=hsf.trans hg3 hcN0.size
   have hszT:=hcT.size
   have ha:Ext w3 (w3.alloc (.cells #[.int .i64 (x:Int)] 3)):=(Ext.refl w3).alloc _
   have h4:=h3.ext ha
   obtain⟨u1,hu1⟩:∃u,(w3.alloc (.cells #[.int .i64 (x:Int)] 3)).cell? ⟨b,n*6+4,none⟩=some u:=⟨_,((hgb.ext ha).cell _).trans (Array.getElem?_eq_getElem (by omega))⟩
   have fz1:=(hgb.ext ha).frozen (n*6+4)
   obtain⟨G,hG⟩:∃G:V3→V3,G=fun v=>(v.1,.slice (some ⟨w3.heap.size,0,none⟩) 1 1,v.2.2):=⟨_,rfl⟩
   have hiv:∀k,(Value.slice (some ⟨w3.heap.size,0,none⟩) 1 1).ownBlock=some k→w3.heap.size≤k:=fun k hk=>by
    have hk:some w3.heap.size=some k:=hk
    injection hk with hk
    omega
   have hap:Ap (vs3.modify n G):=ap_new (w:=w3) h3.ap h3.subLt (fun v hv=>by
    subst hG
    exact⟨fun k hk=>.inr hk,fun k hk=>.inl (hiv k hk),fun k hk=>.inr hk⟩)
   have hfill:=h4.fill hn3 (i:=4) (by omega) (fun d=>{ d with items:=[x] }) G (.slice (some ⟨w3.heap.size,0,none⟩) 1 1) (fun d0 u0 q5 q6=>by
    have hs:=h4.nds.sub n d0 u0 q5 q6
    subst hG
    exact⟨rfl,hs.syms,⟨rfl,.inr ⟨w3.heap.size,1,#[.int .i64 (x:Int)],rfl,by omega,Blk.new w3 _ _,Nat.le_refl _,by unfold maxLen;omega,rfl,rfl⟩⟩,hs.fields⟩) hap
   have hgF:SF w vs (vs3.modify n G):=hgT.trans (sf_modify w vs3 n G (fun v hv=>by
    subst hG
    exact⟨fun k hk=>.inr hk,fun k hk=>.inl (by have:=hiv k hk;omega),fun k hk=>.inr hk⟩)) (Nat.le_refl _)
   have hchF:Chg (Wq R (.slice A n c)) w ((w3.alloc (.cells #[.int .i64 (x:Int)] 3)).setCell ⟨b,n*6+4,none⟩ (.slice (some ⟨w3.heap.size,0,none⟩) 1 1)):=
    (hcT.trans (Chg.ofExt ha) (fun _ _ e=>e)).trans (Chg.one _ b (n*6+4) _) (fun k hk e=>Wq.back hfT k hk (.inr (by rw[e];rfl)))
   have hsg:=sign_any cCuC _ hfill
   obtain⟨mm,hmm⟩:∃z,Hid (q3.ns.length=z):=⟨_,Lib.hid rfl⟩
   have y2:w3.cell? ⟨R,2,none⟩=some (.slice (some ⟨b,0,none⟩) mm c4):=by rw[←hmm.out];exact h3.blk.cell 2
   have hnI:(n:Int)<(mm:Int):=by have:=hmm.out;omega
   rw[show cCuC=(⟨#[125]⟩:ByteArray) from rfl] at hsg
   rw[show cCuC=(⟨#[125]⟩:ByteArray) from rfl] at hQ
   obtain⟨q5,hq5⟩:∃z,Hid (signQ L (q3.setN n fun d=>{ d with items:=[x] }) (⟨#[125]⟩:ByteArray)=z):=⟨_,rfl⟩
   rw[hq5.out] at hsg hQ
   clear hap hfill h4 hgb hG
   go_wp2_with fail
   refine hsg.mono ?_
   rintro e w5 ⟨rfl,hc5,h5⟩
   go_wp2_with fail
   exact⟨hchF.trans hc5 (fun k _ e=>.inl e),_,_,h5,hfT,hgF⟩
  by_cases hk8:k=8
  ·subst hk8
   go_wp2_with fail
   refine hon.mono ?_
   rintro e w1 ⟨rfl,hc1,h1⟩
   have ho:=h1.nds.row
   rw[hqo,hn.out] at ho
   have hbk:=h1.blk
   have hnR:=h1.sep
   have c2:w1.cell? ⟨R,2,none⟩=some (.slice A n c):=hbk.cell 2
   have hrd:=hrd0 w1
   have hsz1:=hc1.size
   go_wp2_with (
    refine wpList_app el_nd _ rfl (.tmp 103) (.tmp 106) rfl B (.slice A n c) n (ndsC q.ns vs) rfl (own_ext ho ((Ext.refl w1).alloc _)) (some ⟨w1.heap.size,0,none⟩) 1 1 NW rfl hrd hNl (fun h=>by cases h) hnd1 (by omega) (by omega) (by simp;omega) (fun V1 w2 ho1 hg1 hv1=>?_)
    obtain⟨A1,c1',rfl,kk1,kk2,kk3,kk4⟩:=Rd.of_own ho1
    clear kk1 kk2 kk3 kk4
    have hch1:Chg (fun k=>(Value.slice A n c).ownBlock=some k) w1 w2:=(Chg.ofExt ((Ext.refl w1).alloc _)).trans (Chg.ofGrown hg1) (fun _ _ e=>e)
    have hb1:=hch1.blk hbk hnR
    have fr1:=hb1.frozen 2
    have cl1:w2.cell? ⟨R,2,none⟩=some _:=hb1.cell 2)
   have hsn:Rq B (w2.setCell ⟨R,2,none⟩ (.slice A1 (n+1) c1')) R vl (.slice A1 (n+1) c1') (vs++[v0]) L qN∧Chg (Wq R (.slice A n c)) w1 (w2.setCell ⟨R,2,none⟩ (.slice A1 (n+1) c1')):=by
    rw[hnq,←hqo]
    exact h1.snoc (by rw[hqo];exact hn.out) h199 _ (by rw[hqo,hNW.out];exact ho1) hch1
   obtain⟨hN,hcN⟩:=hsn
   have hcN0:Chg (Wq R (.slice A n c)) w (w2.setCell ⟨R,2,none⟩ (.slice A1 (n+1) c1')):=(hc1.mono fun k _ e=>.inl e).trans hcN (fun k _ e=>e)
   have hfN:Fresh w (.slice A n c) (.slice A1 (n+1) c1'):=hv1.imp (fun e=>e) (fun e=>⟨_,e,by simp;omega⟩)
   obtain⟨wN,hwN'⟩:∃z,Hid (w2.setCell ⟨R,2,none⟩ (.slice A1 (n+1) c1')=z):=⟨_,rfl⟩
   rw[hwN'.out] at hN hcN0 ⊢
   clear hrd hcN fr1 cl1 hb1 hch1 ho1 hg1 hv1 ho hon
   have hT:=all_any hTk H hd20 hfu n wN hN hWN hwN hnn0 (Nat.le_trans hB hcN0.size) (fun v hv=>by rw[hv0 v hv];rfl)
   rw[show restQ L (typedQ L f) 8 n qN=allQ L (typedQ L f) n L.length qN from rfl] at hQ
   refine hT.mono ?_
   rintro e w3 ⟨rfl,hp⟩
   go_wp2_with fail
   exact PT.after (q2:=qN) hcN0 hfN hsf hp
  by_cases hk9:k=9
  ·subst hk9
   go_wp2_with fail
   refine hon.mono ?_
   rintro e w1 ⟨rfl,hc1,h1⟩
   have ho:=h1.nds.row
   rw[hqo,hn.out] at ho
   have hbk:=h1.blk
   have hnR:=h1.sep
   have c2:w1.cell? ⟨R,2,none⟩=some (.slice A n c):=hbk.cell 2
   have hrd:=hrd0 w1
   have hsz1:=hc1.size
   go_wp2_with (
    refine wpList_app el_nd _ rfl (.tmp 103) (.tmp 106) rfl B (.slice A n c) n (ndsC q.ns vs) rfl (own_ext ho ((Ext.refl w1).alloc _)) (some ⟨w1.heap.size,0,none⟩) 1 1 NW rfl hrd hNl (fun h=>by cases h) hnd1 (by omega) (by omega) (by simp;omega) (fun V1 w2 ho1 hg1 hv1=>?_)
    obtain⟨A1,c1',rfl,kk1,kk2,kk3,kk4⟩:=Rd.of_own ho1
    clear kk1 kk2 kk3 kk4
    have hch1:Chg (fun k=>(Value.slice A n c).ownBlock=some k) w1 w2:=(Chg.ofExt ((Ext.refl w1).alloc _)).trans (Chg.ofGrown hg1) (fun _ _ e=>e)
    have hb1:=hch1.blk hbk hnR
    have fr1:=hb1.frozen 2
    have cl1:w2.cell? ⟨R,2,none⟩=some _:=hb1.cell 2)
   have hsn:Rq B (w2.setCell ⟨R,2,none⟩ (.slice A1 (n+1) c1')) R vl (.slice A1 (n+1) c1') (vs++[v0]) L qN∧Chg (Wq R (.slice A n c)) w1 (w2.setCell ⟨R,2,none⟩ (.slice A1 (n+1) c1')):=by
    rw[hnq,←hqo]
    exact h1.snoc (by rw[hqo];exact hn.out) h199 _ (by rw[hqo,hNW.out];exact ho1) hch1
   obtain⟨hN,hcN⟩:=hsn
   have hcN0:Chg (Wq R (.slice A n c)) w (w2.setCell ⟨R,2,none⟩ (.slice A1 (n+1) c1')):=(hc1.mono fun k _ e=>.inl e).trans hcN (fun k _ e=>e)
   have hfN:Fresh w (.slice A n c) (.slice A1 (n+1) c1'):=hv1.imp (fun e=>e) (fun e=>⟨_,e,by simp;omega⟩)
   obtain⟨wN,hwN'⟩:∃z,Hid (w2.setCell ⟨R,2,none⟩ (.slice A1 (n+1) c1')=z):=⟨_,rfl⟩
   rw[hwN'.out] at hN hcN0 ⊢
   clear hrd hcN fr1 cl1 hb1 hch1 ho1 hg1 hv1 ho hon
   have hT:=definedQ_any (.inl rfl) hTk H hd20 hfu n wN hN hnn0 (Nat.le_trans hB hcN0.size) hwN hWN (fun v hv=>by rw[hv0 v hv];exact⟨rfl,rfl⟩)
   rw[show restQ L (typedQ L f) 9 n qN=definedQ L (typedQ L f) n 9 qN from rfl] at hQ
   refine hT.mono ?_
   rintro e w3 ⟨rfl,hp⟩
   go_wp2_with fail
   exact PT.after (q2:=qN) hcN0 hfN hsf hp
  by_cases hk10:k=10
  ·subst hk10
   go_wp2_with fail
   refine hon.mono ?_
   rintro e w1 ⟨rfl,hc1,h1⟩
   have ho:=h1.nds.row
   rw[hqo,hn.out] at ho
   have hbk:=h1.blk
   have hnR:=h1.sep
   have c2:w1.cell? ⟨R,2,none⟩=some (.slice A n c):=hbk.cell 2
   have hrd:=hrd0 w1
   have hsz1:=hc1.size
   go_wp2_with (
    refine wpList_app el_nd _ rfl (.tmp 103) (.tmp 106) rfl B (.slice A n c) n (ndsC q.ns vs) rfl (own_ext ho ((Ext.refl w1).alloc _)) (some ⟨w1.heap.size,0,none⟩) 1 1 NW rfl hrd hNl (fun h=>by cases h) hnd1 (by omega) (by omega) (by simp;omega) (fun V1 w2 ho1 hg1 hv1=>?_)
    obtain⟨A1,c1',rfl,kk1,kk2,kk3,kk4⟩:=Rd.of_own ho1
    clear kk1 kk2 kk3 kk4
    have hch1:Chg (fun k=>(Value.slice A n c).ownBlock=some k) w1 w2:=(Chg.ofExt ((Ext.refl w1).alloc _)).trans (Chg.ofGrown hg1) (fun _ _ e=>e)
    have hb1:=hch1.blk hbk hnR
    have fr1:=hb1.frozen 2
    have cl1:w2.cell? ⟨R,2,none⟩=some _:=hb1.cell 2)
   have hsn:Rq B (w2.setCell ⟨R,2,none⟩ (.slice A1 (n+1) c1')) R vl (.slice A1 (n+1) c1') (vs++[v0]) L qN∧Chg (Wq R (.slice A n c)) w1 (w2.setCell ⟨R,2,none⟩ (.slice A1 (n+1) c1')):=by
    rw[hnq,←hqo]
    exact h1.snoc (by rw[hqo];exact hn.out) h199 _ (by rw[hqo,hNW.out];exact ho1) hch1
   obtain⟨hN,hcN⟩:=hsn
   have hcN0:Chg (Wq R (.slice A n c)) w (w2.setCell ⟨R,2,none⟩ (.slice A1 (n+1) c1')):=(hc1.mono fun k _ e=>.inl e).trans hcN (fun k _ e=>e)
   have hfN:Fresh w (.slice A n c) (.slice A1 (n+1) c1'):=hv1.imp (fun e=>e) (fun e=>⟨_,e,by simp;omega⟩)
   obtain⟨wN,hwN'⟩:∃z,Hid (w2.setCell ⟨R,2,none⟩ (.slice A1 (n+1) c1')=z):=⟨_,rfl⟩
   rw[hwN'.out] at hN hcN0 ⊢
   clear hrd hcN fr1 cl1 hb1 hch1 ho1 hg1 hv1 ho hon
   have hT:=definedQ_any (.inr (.inl rfl)) hTk H hd20 hfu n wN hN hnn0 (Nat.le_trans hB hcN0.size) hwN hWN (fun v hv=>by rw[hv0 v hv];exact⟨rfl,rfl⟩)
   rw[show restQ L (typedQ L f) 10 n qN=definedQ L (typedQ L f) n 10 qN from rfl] at hQ
   refine hT.mono ?_
   rintro e w3 ⟨rfl,hp⟩
   go_wp2_with fail
   exact PT.after (q2:=qN) hcN0 hfN hsf hp
  by_cases hk11:k=11
  ·subst hk11
   go_wp2_with fail
   refine hon.mono ?_
   rintro e w1 ⟨rfl,hc1,h1⟩
   have ho:=h1.nds.row
   rw[hqo,hn.out] at ho
   have hbk:=h1.blk
   have hnR:=h1.sep
   have c2:w1.cell? ⟨R,2,none⟩=some (.slice A n c):=hbk.cell 2
   have hrd:=hrd0 w1
   have hsz1:=hc1.size
   go_wp2_with (
    refine wpList_app el_nd _ rfl (.tmp 103) (.tmp 106) rfl B (.slice A n c) n (ndsC q.ns vs) rfl (own_ext ho ((Ext.refl w1).alloc _)) (some ⟨w1.heap.size,0,none⟩) 1 1 NW rfl hrd hNl (fun h=>by cases h) hnd1 (by omega) (by omega) (by simp;omega) (fun V1 w2 ho1 hg1 hv1=>?_)
    obtain⟨A1,c1',rfl,kk1,kk2,kk3,kk4⟩:=Rd.of_own ho1
    clear kk1 kk2 kk3 kk4
    have hch1:Chg (fun k=>(Value.slice A n c).ownBlock=some k) w1 w2:=(Chg.ofExt ((Ext.refl w1).alloc _)).trans (Chg.ofGrown hg1) (fun _ _ e=>e)
    have hb1:=hch1.blk hbk hnR
    have fr1:=hb1.frozen 2
    have cl1:w2.cell? ⟨R,2,none⟩=some _:=hb1.cell 2)
   have hsn:Rq B (w2.setCell ⟨R,2,none⟩ (.slice A1 (n+1) c1')) R vl (.slice A1 (n+1) c1') (vs++[v0]) L qN∧Chg (Wq R (.slice A n c)) w1 (w2.setCell ⟨R,2,none⟩ (.slice A1 (n+1) c1')):=by
    rw[hnq,←hqo]
    exact h1.snoc (by rw[hqo];exact hn.out) h199 _ (by rw[hqo,hNW.out];exact ho1) hch1
   obtain⟨hN,hcN⟩:=hsn
   have hcN0:Chg (Wq R (.slice A n c)) w (w2.setCell ⟨R,2,none⟩ (.slice A1 (n+1) c1')):=(hc1.mono fun k _ e=>.inl e).trans hcN (fun k _ e=>e)
   have hfN:Fresh w (.slice A n c) (.slice A1 (n+1) c1'):=hv1.imp (fun e=>e) (fun e=>⟨_,e,by simp;omega⟩)
   obtain⟨wN,hwN'⟩:∃z,Hid (w2.setCell ⟨R,2,none⟩ (.slice A1 (n+1) c1')=z):=⟨_,rfl⟩
   rw[hwN'.out] at hN hcN0 ⊢
   clear hrd hcN fr1 cl1 hb1 hch1 ho1 hg1 hv1 ho hon
   have hT:=definedQ_any (.inr (.inr rfl)) hTk H hd20 hfu n wN hN hnn0 (Nat.le_trans hB hcN0.size) hwN hWN (fun v hv=>by rw[hv0 v hv];exact⟨rfl,rfl⟩)
   rw[show restQ L (typedQ L f) 11 n qN=definedQ L (typedQ L f) n 11 qN from rfl] at hQ
   refine hT.mono ?_
   rintro e w3 ⟨rfl,hp⟩
   go_wp2_with fail
   exact PT.after (q2:=qN) hcN0 hfN hsf hp
  ·have hRr:restQ L (typedQ L f) k n qN=qN:=by unfold restQ;rw[if_neg hk6,if_neg hk7,if_neg hk8,if_neg (by omega)]
   rw[hRr] at hQ
   have kb6:(k == 6)=false:=by simpa using hk6
   have kb7:(k == 7)=false:=by simpa using hk7
   have kb8:(k == 8)=false:=by simpa using hk8
   have kb9:(k == 9)=false:=by simpa using hk9
   have kb10:(k == 10)=false:=by simpa using hk10
   have kb11:(k == 11)=false:=by simpa using hk11
   go_wp2_with fail
   refine hon.mono ?_
   rintro e w1 ⟨rfl,hc1,h1⟩
   have ho:=h1.nds.row
   rw[hqo,hn.out] at ho
   have hbk:=h1.blk
   have hnR:=h1.sep
   have c2:w1.cell? ⟨R,2,none⟩=some (.slice A n c):=hbk.cell 2
   have hrd:=hrd0 w1
   have hsz1:=hc1.size
   go_wp2_with (
    refine wpList_app el_nd _ rfl (.tmp 103) (.tmp 106) rfl B (.slice A n c) n (ndsC q.ns vs) rfl (own_ext ho ((Ext.refl w1).alloc _)) (some ⟨w1.heap.size,0,none⟩) 1 1 NW rfl hrd hNl (fun h=>by cases h) hnd1 (by omega) (by omega) (by simp;omega) (fun V1 w2 ho1 hg1 hv1=>?_)
    obtain⟨A1,c1',rfl,kk1,kk2,kk3,kk4⟩:=Rd.of_own ho1
    clear kk1 kk2 kk3 kk4
    have hch1:Chg (fun k=>(Value.slice A n c).ownBlock=some k) w1 w2:=(Chg.ofExt ((Ext.refl w1).alloc _)).trans (Chg.ofGrown hg1) (fun _ _ e=>e)
    have hb1:=hch1.blk hbk hnR
    have fr1:=hb1.frozen 2
    have cl1:w2.cell? ⟨R,2,none⟩=some _:=hb1.cell 2)
   have hsn:Rq B (w2.setCell ⟨R,2,none⟩ (.slice A1 (n+1) c1')) R vl (.slice A1 (n+1) c1') (vs++[v0]) L qN∧Chg (Wq R (.slice A n c)) w1 (w2.setCell ⟨R,2,none⟩ (.slice A1 (n+1) c1')):=by
    rw[hnq,←hqo]
    exact h1.snoc (by rw[hqo];exact hn.out) h199 _ (by rw[hqo,hNW.out];exact ho1) hch1
   obtain⟨hN,hcN⟩:=hsn
   have hcN0:Chg (Wq R (.slice A n c)) w (w2.setCell ⟨R,2,none⟩ (.slice A1 (n+1) c1')):=(hc1.mono fun k _ e=>.inl e).trans hcN (fun k _ e=>e)
   have hfN:Fresh w (.slice A n c) (.slice A1 (n+1) c1'):=hv1.imp (fun e=>e) (fun e=>⟨_,e,by simp;omega⟩)
   obtain⟨wN,hwN'⟩:∃z,Hid (w2.setCell ⟨R,2,none⟩ (.slice A1 (n+1) c1')=z):=⟨_,rfl⟩
   rw[hwN'.out] at hN hcN0 ⊢
   clear hrd hcN fr1 cl1 hb1 hch1 ho1 hg1 hv1 ho hon
   exact⟨hcN0,_,_,hN,hfN,hsf⟩
end
theorem seq_mid {P:Program} {a b:Code} {Q:Exit→Act→World→Prop} {act:Act} {w:World} (M:Act→World→Prop) (h1:∀K:Act→World→Prop,(∀a w,M a w→K a w)→a.wp P (Exit.then K Q) act w) (h2:∀a w,M a w→b.wp P Q a w):(Code.seq a b).wp P Q act w:=wp_seq (h1 _ h2)
def up (n:Nat):Code→Option Code
 | .seq (.seq (.region m os d) x) b=>bif Nat.beq m n then some (.seq (.seq (.region m os d) x) b) else up n b
 | .seq a b=>match up n a with
  | some c=>some c
  | none=>up n b
 | .cond _ a b=>match up n a with
  | some c=>some c
  | none=>up n b
 | .block _ c=>up n c
 | .loop c=>up n c
 | .scope c=>up n c
 | _=>none
def upC (n:Nat) (c:Option Code):Code:=match c with
 | some c=>match up n c with
  | some c=>c
  | none=>.skip
 | none=>.skip
section
variable {B R:Nat} {vl vn:Value} {vs:List V3} {L:List Tok} {q:QS}
set_option maxRecDepth 1000000 in
set_option maxHeartbeats 8000000 in
theorem typed11 {deep fuel:Nat} (hTk:TokOk L) (hdf:deep+fuel=20) (H:∀f,fuel=f+1→TypQ B R L (deep+1) f) (union:Bool) (ahead:List Nat) (hw:q.why=0) (hW:WQ L q.at_ q) (k nn:Int) (hk:kOf (tkQ L q)=k) (hnn:k<0→calledQ L q=nn) (v2 v3 v4 v5 v6 v7 v9:Value) (a:Act) (w:World) (h:Rq B w R vl vn vs L (gateQ L fuel union ahead q)) (hB:B≤w.heap.size) (PO:Ending→World→Prop)
  (hF:Fr 161 [.pointer (some ⟨R,0,none⟩),.int .i64 (deep:Int),v2,v3,v4,v5,v6,v7,.int .i64 0,v9,.int .i64 k,.int .i64 nn] a)
  (hQ:∀w',PT B R vl vn vs L w (typedQ L fuel union ahead q).2 w'→PO (.returned (.int .i64 ((typedQ L fuel union ahead q).1:Int))) w') :
  (upC 11 Tryz.f65.body).wp Tryz.prog (bodyPost Tryz.prog Tryz.f65 PO) a w:=by
 conv=>arg 2;whnf
 refine seq_mid (fun a' w'=>Fr 161 [.pointer (some ⟨R,0,none⟩),.int .i64 (deep:Int),v2,v3,v4,v5,v6,v7,.int .i64 0,v9,.int .i64 k,.int .i64 nn] a'∧w'=w∧(gateQ L fuel union ahead q).why=0) ?_ ?_
 ·intro K hK
  obtain⟨u,rfl⟩:=lay161 hF
  clear hF
  have hy:=h.why_cell
  by_cases hz:(gateQ L fuel union ahead q).why=0
  ·have hyb:(((gateQ L fuel union ahead q).why:Int) == 0)=true:=by rw[hz];rfl
   obtain⟨y,hyy⟩:∃z,Hid ((gateQ L fuel union ahead q).why=z):=⟨_,Lib.hid rfl⟩
   rw[hyy.out] at hy hyb
   have hy0:((y:Nat):Int)=0:=by have:=hyy.out;omega
   clear hQ
   go_wp2_with fail
   first|exact⟨⟨_,rfl,rfl⟩,rfl,hz⟩|exact⟨_,rfl,rfl⟩|exact⟨⟨_,rfl,rfl⟩,hz⟩
  ·have hneb:(((gateQ L fuel union ahead q).why:Int) == 0)=false:=by simpa using (by omega:¬((gateQ L fuel union ahead q).why:Int)=0)
   have hne:¬((gateQ L fuel union ahead q).why:Int)=0:=by omega
   have hr:typedQ L fuel union ahead q=(0,gateQ L fuel union ahead q):=by
    cases fuel with
    | zero=>rw[typedQ]
    | succ f=>rw[typedQ,if_pos hz]
   rw[hr] at hQ
   have hpt:=PT.id h
   obtain⟨y,hyy⟩:∃z,Hid ((gateQ L fuel union ahead q).why=z):=⟨_,Lib.hid rfl⟩
   rw[hyy.out] at hy hneb hne
   clear hz hr
   go_wp2_with fail
   try exact hpt
 ·rintro a' w' ⟨hF',hw',hz⟩
  have hw':=hw'.symm
  subst hw'
  obtain⟨e1,e2,e3,e4,e5⟩:=gateQ_ok hz
  obtain⟨f,rfl⟩:∃f,fuel=f+1:=⟨fuel-1,by omega⟩
  rw[e1] at h
  have hkk:(tkQ L q).k≠3:=by
   by_cases hk0:kOf (tkQ L q)<0
   ·rw[(e3 hk0).1];decide
   ·exact kOf_k (by omega)
  rw[typedQ,if_neg (by rw[hz];simp),e1] at hQ
  refine typed13 hTk (H f rfl) (by omega) (by omega) k nn v2 v3 v4 v5 v6 v7 v9 a' w h hw hW hB hkk (fun e=>e5 (by rw[hk];exact e)) PO hF' (fun w2 hp=>?_)
  by_cases hk0:k<0
  ·rw[if_pos (by rw[hk];exact hk0)] at hQ
   rw[if_pos hk0] at hp ⊢
   have:=(e3 (by rw[hk];exact hk0)).2.2.2
   rw[hnn hk0] at this hQ
   have hQ2:=hQ w2 hp
   simp only at hQ2
   rwa [Int.toNat_of_nonneg this] at hQ2
  ·rw[if_neg (by rw[hk];exact hk0)] at hQ
   rw[if_neg hk0] at hp ⊢
   rw[hk] at hQ
   exact hQ w2 hp
end
structure RInv (B:Nat) (w:World) (R:Nat) (no:Value) (st:WSt):Prop where
 blk:∃S,bs S=st.s∧Blk w R #[no,.string S,.int .i64 (st.next:Int),.bool st.bad] 66
 hR:B≤R
theorem RInv.size {B:Nat} {w:World} {R:Nat} {no:Value} {st:WSt} (h:RInv B w R no st):B≤w.heap.size:=by
 obtain⟨S,_,hb⟩:=h.blk
 have:=hb.lt;have:=h.hR;omega
theorem RInv.ext {B:Nat} {w w':World} {R:Nat} {no:Value} {st:WSt} (h:RInv B w R no st) (hx:Ext w w'):RInv B w' R no st:=by
 obtain⟨S,h1,h2⟩:=h.blk
 exact⟨⟨S,h1,h2.ext hx⟩,h.hR⟩
theorem RInv.off {B:Nat} {w w':World} {R:Nat} {no:Value} {st:WSt} {S:Nat→Prop} (h:RInv B w R no st) (hx:Chg S w w') (hn:¬S R):RInv B w' R no st:=by
 obtain⟨S,h1,h2⟩:=h.blk
 exact⟨⟨S,h1,hx.blk h2 hn⟩,h.hR⟩
theorem RInv.putS {B:Nat} {w:World} {R:Nat} {no:Value} {st:WSt} {S:ByteArray} (hR:B≤R) (hS:bs S=st.s) (hb:Blk w R #[no,.string S,.int .i64 (st.next:Int),.bool st.bad] 66) (t:ByteArray) :
  RInv B (w.setCell ⟨R,1,none⟩ (.string (S++t))) R no (st.put (bs t)):=by
 refine⟨⟨S++t,?_,hb.set 1 _⟩,hR⟩
 rw[bs_append,hS];rfl
theorem RInv.setBad {B:Nat} {w:World} {R:Nat} {no:Value} {st:WSt} (h:RInv B w R no st) (b:Bool):RInv B (w.setCell ⟨R,3,none⟩ (.bool b)) R no { st with bad:=b }:=by
 obtain⟨S,h1,h2⟩:=h.blk
 exact⟨⟨S,h1,h2.set 3 _⟩,h.hR⟩
theorem RInv.setNext {B:Nat} {w:World} {R:Nat} {no:Value} {st:WSt} (h:RInv B w R no st) (n:Nat):RInv B (w.setCell ⟨R,2,none⟩ (.int .i64 (n:Int))) R no { st with next:=n }:=by
 obtain⟨S,h1,h2⟩:=h.blk
 exact⟨⟨S,h1,h2.set 2 _⟩,h.hR⟩
def RsP (B R:Nat) (no:Value) (w:World) (st:WSt) (e:Ending) (w':World):Prop:=e=.returned (.tuple #[])∧Chg (fun k=>k=R) w w'∧RInv B w' R no st
def RTypC (B R:Nat) (no:Value) (ns:List Ne) (f deep:Nat):Prop:=∀(n:Int) (st:WSt) (w:World),RInv B w R no st→Sch B w no ns→(rtyp ns f n st).s.length≤100000000→
 Calls Tryz.prog 42 #[.pointer (some ⟨R,0,none⟩),.int .i64 n,.int .i64 (deep:Int)] w fun e w'=>RsP B R no w (rtyp ns f n st) e w'
theorem digR_small (n:Nat) (h:n<10):digR n=[UInt8.ofNat (48+n)]:=by
 unfold digR
 rw[if_neg (by omega)]
 unfold Lib.itoa
 rw[if_neg (by omega),Int.toNat_natCast,Lib.decDigits_one h]
theorem digR_big (n:Nat) (h:10≤n) (h2:n≤4096):digR n=digR ((n / 10:Nat):Int)++digR ((n%10:Nat):Int):=by
 rw[digR_small (n%10) (by omega)]
 unfold digR
 rw[if_neg (by omega),if_neg (by omega)]
 unfold Lib.itoa
 rw[if_neg (by omega),if_neg (by omega),Int.toNat_natCast,Int.toNat_natCast]
 conv=>lhs;rw[Lib.decDigits,dif_neg (by omega)]
theorem u8_of (n:Nat) (h:n<10):u8s [UInt8.ofNat (48+n)]=[.int .u8 (48+(n:Int))]:=by
 simp only[u8s,List.map_cons,List.map_nil,List.cons.injEq,and_true,Value.int.injEq,true_and]
 rw[UInt8.toNat_ofNat_of_lt' (by show 48+n<256;omega)]
 omega
theorem digits_small (n:Nat) (h:n<10) (w:World):Calls Tryz.prog 62 #[.int .i64 (n:Int)] w fun e w'=>e=.returned (.string ⟨(digR n).toArray⟩)∧Ext w w':=by
 have hb:Rb (w.alloc (.cells #[.int .u8 (48+(n:Int))] 5)) (some ⟨w.heap.size,0,none⟩) [UInt8.ofNat (48+n)]:=by
  show Rd _ _ (u8s _)
  rw[u8_of n h]
  exact Rd.of_block w 5 (0,0) rfl
 have hcv:=conv_rd (P:=Tryz.prog) (src:=120) (dst:=9) Tryz.underlying120 Tryz.underlying5 Tryz.underlying9 (n:=1) 1 rfl hb
 have hx:=(Ext.refl w).alloc (.cells #[.int .u8 (48+(n:Int))] 5)
 rw[digR_small n h]
 have h0:¬(n:Int)<0:=by omega
 have h1:¬(4096:Int)<(n:Int):=by omega
 have h2:(n:Int)<10:=by omega
 have hw8:IntKind.u8.wrap (n:Int)=(n:Int):=by
  have:IntKind.u8.wrap (n:Int)=(n:Int)%256:=by rfl
  rw[this];omega
 have hw9:IntKind.u8.wrap (48+(n:Int))=48+(n:Int):=by
  have:IntKind.u8.wrap (48+(n:Int))=(48+(n:Int))%256:=by rfl
  rw[this];omega
 obtain⟨S,hS⟩:∃S:ByteArray,S=Str [UInt8.ofNat (48+n)]:=⟨_,rfl⟩
 rw[←hS] at hcv
 rw[show (⟨[UInt8.ofNat (48+n)].toArray⟩:ByteArray)=S from hS.symm]
 clear hb hS
 go_enter Tryz.func62,Tryz.ntmps62
 go_wp2_with fail
 go_ret
 exact⟨rfl,hx⟩
theorem digits_bad (n:Int) (h:n<0∨4096<n) (w:World):Calls Tryz.prog 62 #[.int .i64 n] w fun e w'=>e=.returned (.string ⟨(digR n).toArray⟩)∧Ext w w':=by
 have e:digR n=[120]:=by unfold digR;rw[if_pos h]
 rw[e]
 rcases h with h|h
 ·go_enter Tryz.func62,Tryz.ntmps62
  go_wp2_with fail
  go_ret
  exact⟨rfl,Ext.refl w⟩
 ·have h0:¬n<0:=by omega
  go_enter Tryz.func62,Tryz.ntmps62
  go_wp2_with fail
  go_ret
  exact⟨rfl,Ext.refl w⟩
theorem digits_nat:∀(k n:Nat),n≤k→n≤4096→∀w:World,Calls Tryz.prog 62 #[.int .i64 (n:Int)] w fun e w'=>e=.returned (.string ⟨(digR n).toArray⟩)∧Ext w w'
 | k,n,hk,h4,w=>by
  by_cases h:n<10
  ·exact digits_small n h w
  ·obtain⟨k,rfl⟩:∃j,k=j+1:=⟨k-1,by omega⟩
   have hA:=digits_nat k (n / 10) (by omega) (by omega) w
   have hB:=fun W=>digits_small (n%10) (by omega) W
   rw[digR_big n (by omega) h4]
   have hlA:(digR ((n / 10:Nat):Int)).length≤21:=digR_len _ (by omega)
   have hlB:(digR ((n%10:Nat):Int)).length≤21:=digR_len _ (by omega)
   obtain⟨SA,hSA⟩:∃S:ByteArray,S=⟨(digR ((n / 10:Nat):Int)).toArray⟩:=⟨_,rfl⟩
   obtain⟨SB,hSB⟩:∃S:ByteArray,S=⟨(digR ((n%10:Nat):Int)).toArray⟩:=⟨_,rfl⟩
   have e:(⟨(digR ((n / 10:Nat):Int)++digR ((n%10:Nat):Int)).toArray⟩:ByteArray)=SA++SB:=by
    rw[hSA,hSB]
    apply ByteArray.ext
    simp
   have hz:¬9223372036854775807<SA.size+SB.size:=by
    have h1:SA.size=(digR ((n / 10:Nat):Int)).length:=by rw[hSA];simp[ByteArray.size]
    have h2:SB.size=(digR ((n%10:Nat):Int)).length:=by rw[hSB];simp[ByteArray.size]
    omega
   rw[e]
   rw[←hSA] at hA
   simp only[←hSB] at hB
   have h0:¬(n:Int)<0:=by omega
   have h1:¬(4096:Int)<(n:Int):=by omega
   have h2:¬(n:Int)<10:=by omega
   have hq:(n:Int) / 10=((n / 10:Nat):Int):=by omega
   have hr:(n:Int)%10=((n%10:Nat):Int):=by omega
   have hq2:(n:Int).tdiv 10=((n / 10:Nat):Int):=by rw[Int.tdiv_eq_ediv_of_nonneg (by omega)];omega
   have hr2:(n:Int).tmod 10=((n%10:Nat):Int):=by rw[Int.tmod_eq_emod_of_nonneg (by omega)];omega
   clear hlA hlB hSA hSB e
   obtain⟨a,ha⟩:∃a:Int,a=((n / 10:Nat):Int):=⟨_,rfl⟩
   obtain⟨b,hb⟩:∃b:Int,b=((n%10:Nat):Int):=⟨_,rfl⟩
   rw[←ha] at hA hq hq2
   rw[←hb] at hr hr2
   simp only[←hb] at hB
   clear ha hb
   go_enter Tryz.func62,Tryz.ntmps62
   go_wp2_with fail
   refine hA.mono ?_
   rintro e w1 ⟨rfl,hx1⟩
   have hB1:=hB w1
   go_wp2_with fail
   refine hB1.mono ?_
   rintro e w2 ⟨rfl,hx2⟩
   go_wp2_with fail
   go_ret
   exact⟨rfl,hx1.trans hx2⟩
theorem digits_any (n:Int) (w:World):Calls Tryz.prog 62 #[.int .i64 n] w fun e w'=>e=.returned (.string ⟨(digR n).toArray⟩)∧Ext w w':=by
 by_cases h:n<0∨4096<n
 ·exact digits_bad n h w
 ·obtain⟨m,rfl⟩:∃m:Nat,n=m:=⟨n.toNat,by omega⟩
  exact digits_nat m m (Nat.le_refl _) (by omega) w
def RfAt (B R:Nat) (no:Value) (w0:World) (T:WT) (l:List (ByteArray×Bool×Int)) (fin:WSt) (i:Nat) (wr:World):Prop:=Chg (fun k=>k=R) w0 wr∧∃st,RInv B wr R no st∧Hid (rflds T (l.drop i) st=fin)
theorem chgR_below {B R:Nat} {w w':World} (h:Chg (fun k=>k=R) w w') (hR:B≤R) (hB:B≤w.heap.size):Below B w w':=⟨h.os,h.tape,h.output,h.size,fun k hk=>h.block k (by omega) (fun e=>by have e:k=R:=e;omega)⟩
set_option maxHeartbeats 2000000 in
theorem rfields_any {B R f deep:Nat} {no:Value} {ns:List Ne} (H:RTypC B R no ns f (deep+1)) (hd:deep≤100) (l:List (ByteArray×Bool×Int)) (vl:Value) (st:WSt) (w:World) (h:RInv B w R no st) (hS:Sch B w no ns) (hl:Sl B w vl l.length (fldsZ l)) (hL:(rflds (rtyp ns f) l st).s.length≤100000000) :
  Calls Tryz.prog 63 #[.pointer (some ⟨R,0,none⟩),vl,.int .i64 (deep:Int)] w fun e w'=>RsP B R no w (rflds (rtyp ns f) l st) e w':=by
 obtain⟨T,hT⟩:∃T,T=rtyp ns f:=⟨_,rfl⟩
 have hG:WG T:=by rw[hT];exact rtyp_len ns f
 have H:∀(n:Int) (st:WSt) (w:World),RInv B w R no st→Sch B w no ns→(T n st).s.length≤100000000→Calls Tryz.prog 42 #[.pointer (some ⟨R,0,none⟩),.int .i64 n,.int .i64 ((deep:Int)+1)] w fun e w'=>RsP B R no w (T n st) e w':=by
  rw[hT];intro n st w;have:=H n st w;rw[show ((deep+1:Nat):Int)=(deep:Int)+1 by omega] at this;exact this
 rw[←hT] at hL ⊢
 clear hT
 obtain⟨fin,hfin⟩:∃z,Hid (rflds T l st=z):=⟨_,Lib.hid rfl⟩
 rw[hfin.out] at hL ⊢
 have hR:=h.hR
 have hBw:=h.size
 obtain⟨A,c,rfl,hnc,hcm,hA,hat⟩:=hl.at_
 obtain⟨n,hn⟩:∃z,Hid (l.length=z):=⟨_,rfl⟩
 rw[hn.out] at hnc ⊢
 unfold maxLen at hcm
 have hdw:IntKind.i64.wrap ((deep:Int)+1)=(deep:Int)+1:=by rw[IntKind.wrap_i64];omega
 have hstart:RfAt B R no w T l fin 0 w:=⟨Chg.refl _ w,_,h,by rw[List.drop_zero];exact hfin⟩
 obtain⟨PO,hPO⟩:∃PO:Ending→World→Prop,Hid ((fun e w'=>RsP B R no w fin e w')=PO):=⟨_,Lib.hid rfl⟩
 rw[hPO.out]
 have hend:∀w',Chg (fun k=>k=R) w w'→RInv B w' R no fin→PO (.returned (.tuple #[])) w':=fun w' h1 h2=>by rw[←hPO.out];exact⟨rfl,h1,h2⟩
 clear hfin h
 go_enter Tryz.func63,Tryz.ntmps63
 go_wp2_with fail
 go_loopw [6] (fun v6 wr=>∃i:Nat,i≤n∧v6=.int .i64 i∧RfAt B R no w T l fin i wr) (fun v6 _=>n-(intOf v6).toNat)
 case atStart=>exact⟨0,by omega,rfl,hstart⟩
 case round=>
  obtain⟨i,hi,rfl,hbw,st1,hw1,hf1⟩:=hrel
  clear hstart
  obtain⟨S1,hS1,hb1⟩:=hw1.blk
  have c1:wr.cell? ⟨R,1,none⟩=some (.string S1):=hb1.cell 1
  have c3:wr.cell? ⟨R,3,none⟩=some (.bool st1.bad):=hb1.cell 3
  by_cases hin:i<n
  ·have hin':(i:Int)<(n:Int):=by omega
   by_cases hbad:st1.bad=true
   ·rw[hbad] at c3
    have hf2:st1=fin:=by
     rw[←hf1.out]
     cases hdl:l.drop i with
     | nil=>rfl
     | cons f r=>rw[rflds,if_pos hbad]
    subst hf2
    have hfin:=hend wr hbw hw1
    clear hend hbad
    go_wp2_with fail
    refine bodyPost_ret (results_none rfl _ _ _) rfl ?_
    exact hfin
   ·have hbad':st1.bad=false:=by simpa using hbad
    rw[hbad'] at c3
    obtain⟨⟨fn,fh,ft⟩,hxe⟩:∃x,l[i]?=some x:=⟨_,List.getElem?_eq_getElem (by have:=hn.out;omega)⟩
    have hxz:=fldsZ_at l i _ hxe
    obtain⟨b,off,rfl,hbB,hc⟩:=hat (i*3+0) (.string fn) (by rw[hxz 0 (by omega)];rfl)
    have hbR:¬b=R:=by omega
    have hlow:=chgR_below hbw hR hBw
    have d0:∀W,Ext wr W→W.cell? ⟨b,off+i*3,none⟩=some (.string fn):=fun W hW=>hW.cell (by have:=hc wr hlow (i*3+0) (.string fn) (by rw[hxz 0 (by omega)];rfl);simpa [Nat.add_assoc] using this)
    have d1:∀W,Ext wr W→W.cell? ⟨b,off+i*3+1,none⟩=some (.bool fh):=fun W hW=>hW.cell (by have:=hc wr hlow (i*3+1) (.bool fh) (by rw[hxz 1 (by omega)];rfl);simpa [Nat.add_assoc] using this)
    have d2:∀W,Ext wr W→W.cell? ⟨b,off+i*3+2,none⟩=some (.int .i64 ft):=fun W hW=>hW.cell (by have:=hc wr hlow (i*3+2) (.int .i64 ft) (by rw[hxz 2 (by omega)];rfl);simpa [Nat.add_assoc] using this)
    have hdrop:l.drop i=(fn,fh,ft)::l.drop (i+1):=List.drop_eq_getElem?_toList_append .. |>.trans (by rw[hxe];rfl)
    obtain⟨stb,hstb⟩:∃z,Hid ((if fh then (st1.put (bs fn)).put [63] else st1.put (bs fn))=z):=⟨_,Lib.hid rfl⟩
    have hf2:rflds T (l.drop (i+1)) ((T ft (stb.put [58])).put [59])=fin:=by rw[←hf1.out,hdrop,rflds,if_neg hbad,wfield,hstb.out]
    have hl2:=rflds_len hG (l.drop (i+1)) ((T ft (stb.put [58])).put [59])
    rw[hf2,WSt.put_len] at hl2
    have hl3:=hG ft (stb.put [58])
    have hl3b:=WSt.put_len stb [58]
    simp only[List.length_cons,List.length_nil] at hl2 hl3b hL
    have hl4:st1.s.length+fn.size≤stb.s.length:=by
     have e1:=WSt.put_len st1 (bs fn)
     have e2:=WSt.put_len (st1.put (bs fn)) [63]
     rw[bs_size] at e1
     rw[←hstb.out]
     split
     ·omega
     ·omega
    have hsz1:S1.size≤st1.s.length:=by rw[←bs_size,hS1];exact Nat.le_refl _
    have Hf3:=Lib.hid hf2
    have hz1:¬9223372036854775807<S1.size+fn.size:=by omega
    have hz2:¬9223372036854775807<S1.size+fn.size+1:=by omega
    have hz3:¬9223372036854775807<S1.size+fn.size+1+1:=by omega
    have r1:∀W,Ext wr W→W.cell? ⟨R,1,none⟩=some (.string S1):=fun W hW=>hW.cell c1
    have hBr:B≤wr.heap.size:=hw1.size
    have hSw:=hS.below hlow
    clear hf2 hxe hxz hc hdrop hf1 hbad hend
    go_wp2_with fail
    refine Reg.startE (by kernel_rfl) ?_
    iterate 13 ((first|refine Reg.tn ?_|refine Reg.sn ?_);(try simp only[Reg.nn]))
    refine Reg.last 13 _ rfl (by kernel_rfl) (by kernel_rfl) (by kernel_rfl) (by decide) (by rfl) (fun W hW K hK=>?_)
    have bW:=hb1.ext hW
    have fW:=bW.frozen 1
    have cW:=bW.cell 1
    go_simp
    refine hK.out _ _ ?_;clear hK K;(try simp only[Reg.nn])
    have bW:=hb1.ext hW
    have x1:=d1 W hW
    have x2:=d2 W hW
    have fW:=bW.frozen 1
    have cW:=bW.cell 1
    have p1:=RInv.putS hR hS1 bW fn
    have b1:Blk (W.setCell ⟨R,1,none⟩ (.string (S1++fn))) R #[no,.string (S1++fn),.int .i64 (st1.next:Int),.bool st1.bad] 66:=bW.set 1 _
    have e1:bs (S1++fn)=(st1.put (bs fn)).s:=by rw[bs_append,hS1];rfl
    have hch1:Chg (fun k=>k=R) wr (W.setCell ⟨R,1,none⟩ (.string (S1++fn))):=(Chg.ofExt hW).trans (Chg.one W R 1 _) (fun _ _ e=>e)
    obtain⟨w2,hw2⟩:∃z,Hid (W.setCell ⟨R,1,none⟩ (.string (S1++fn))=z):=⟨_,rfl⟩
    have y1:w2.cell? ⟨b,off+i*3+1,none⟩=some (.bool fh):=by rw[←hw2.out];exact (Chg.one W R 1 _).cell x1 hbR
    have y2:w2.cell? ⟨b,off+i*3+2,none⟩=some (.int .i64 ft):=by rw[←hw2.out];exact (Chg.one W R 1 _).cell x2 hbR
    rw[hw2.out] at p1 b1 hch1 ⊢
    have k1:=b1.cell 1
    have g1:=b1.frozen 1
    obtain⟨S2,hS2⟩:∃S2,Hid (S1++fn=S2):=⟨_,rfl⟩
    have hz12:S2.size=S1.size+fn.size:=by rw[←hS2.out,ByteArray.size_append]
    rw[hS2.out] at b1 k1 e1
    rw[←hz12] at hz1 hz2 hz3
    clear hz12 d0 d1 d2 r1 cW fW x1 x2 bW c1 hb1 hS1 hS2
    have hbR':¬R=b:=fun e=>hbR e.symm
    cases fh with
    | true=>
     have hstb':(st1.put (bs fn)).put [63]=stb:=hstb.out
     have p2:=RInv.putS hR e1 b1 ⟨#[63]⟩
     have b2:Blk (w2.setCell ⟨R,1,none⟩ (.string (S2++⟨#[63]⟩))) R #[no,.string (S2++⟨#[63]⟩),.int .i64 (st1.next:Int),.bool st1.bad] 66:=b1.set 1 _
     have e2:bs (S2++⟨#[63]⟩)=stb.s:=by rw[bs_append,e1,←hstb'];rfl
     have p3:=RInv.putS (st:=stb) (no:=no) hR e2 (by rw[←hstb'];exact b2) ⟨#[58]⟩
     have hch3:=((hbw.trans hch1 (fun _ _ e=>e)).trans (Chg.one w2 R 1 (.string (S2++⟨#[63]⟩))) (fun _ _ e=>e)).trans (Chg.one _ R 1 (.string (S2++⟨#[63]⟩++⟨#[58]⟩))) (fun _ _ e=>e)
     obtain⟨w3,hw3⟩:∃z,Hid ((w2.setCell ⟨R,1,none⟩ (.string (S2++⟨#[63]⟩))).setCell ⟨R,1,none⟩ (.string (S2++⟨#[63]⟩++⟨#[58]⟩))=z):=⟨_,rfl⟩
     rw[hw3.out] at p3 hch3
     have p3:RInv B w3 R no (stb.put [58]):=p3
     have hcall:=H ft (stb.put [58]) w3 p3 (hS.below (chgR_below hch3 hR hBw)) (by omega)
     clear p1 p2 b2 e2 hstb'
     go_wp2_with fail
     rw[hw3.out]
     refine hcall.mono ?_
     rintro e w4 ⟨rfl,hc4,h4⟩
     obtain⟨S4,hS4,b4⟩:=h4.blk
     have k4:=b4.cell 1
     have g4:=b4.frozen 1
     have hsz4:S4.size≤(T ft (stb.put [58])).s.length:=by rw[←bs_size,hS4];exact Nat.le_refl _
     have hz4:¬9223372036854775807<S4.size+1:=by omega
     have p5:=RInv.putS hR hS4 b4 ⟨#[59]⟩
     have p5:RInv B (w4.setCell ⟨R,1,none⟩ (.string (S4++⟨#[59]⟩))) R no ((T ft (stb.put [58])).put [59]):=p5
     have hch5:=(hch3.trans hc4 (fun _ _ e=>e)).trans (Chg.one w4 R 1 (.string (S4++⟨#[59]⟩))) (fun _ _ e=>e)
     clear hcall hw3 k1 g1
     go_wp2_with fail
     go_roundw
     case rel=>exact⟨i+1,by omega,by go_num,hch5,_,p5,Hf3⟩
     case measure=>simp[intOf];omega
    | false=>
     have hstb':st1.put (bs fn)=stb:=hstb.out
     have p3:=RInv.putS (st:=stb) (no:=no) hR (by rw[e1,hstb']) (by rw[←hstb'];exact b1) ⟨#[58]⟩
     have hch3:=(hbw.trans hch1 (fun _ _ e=>e)).trans (Chg.one w2 R 1 (.string (S2++⟨#[58]⟩))) (fun _ _ e=>e)
     obtain⟨w3,hw3⟩:∃z,Hid (w2.setCell ⟨R,1,none⟩ (.string (S2++⟨#[58]⟩))=z):=⟨_,rfl⟩
     rw[hw3.out] at p3 hch3
     have p3:RInv B w3 R no (stb.put [58]):=p3
     have hcall:=H ft (stb.put [58]) w3 p3 (hS.below (chgR_below hch3 hR hBw)) (by omega)
     clear p1 hstb'
     go_wp2_with fail
     rw[hw3.out]
     refine hcall.mono ?_
     rintro e w4 ⟨rfl,hc4,h4⟩
     obtain⟨S4,hS4,b4⟩:=h4.blk
     have k4:=b4.cell 1
     have g4:=b4.frozen 1
     have hsz4:S4.size≤(T ft (stb.put [58])).s.length:=by rw[←bs_size,hS4];exact Nat.le_refl _
     have hz4:¬9223372036854775807<S4.size+1:=by omega
     have p5:=RInv.putS hR hS4 b4 ⟨#[59]⟩
     have p5:RInv B (w4.setCell ⟨R,1,none⟩ (.string (S4++⟨#[59]⟩))) R no ((T ft (stb.put [58])).put [59]):=p5
     have hch5:=(hch3.trans hc4 (fun _ _ e=>e)).trans (Chg.one w4 R 1 (.string (S4++⟨#[59]⟩))) (fun _ _ e=>e)
     clear hcall hw3 k1 g1
     go_wp2_with fail
     go_roundw
     case rel=>exact⟨i+1,by omega,by go_num,hch5,_,p5,Hf3⟩
     case measure=>simp[intOf];omega
  ·obtain rfl:i=n:=by omega
   have hf2:st1=fin:=by rw[←hf1.out,←hn.out,List.drop_length,rflds]
   subst hf2
   have hfin:=hend wr hbw hw1
   clear hend
   go_wp2_with fail
   refine bodyPost_ret (results_none rfl _ _ _) rfl ?_
   exact hfin
end Pr
end Go.Proofs.YtmaoochjbpohdaaGreatDoor
