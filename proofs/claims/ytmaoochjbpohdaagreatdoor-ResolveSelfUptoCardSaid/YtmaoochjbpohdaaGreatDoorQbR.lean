/- parse: the reference's reader: the gates ahead of a type, walked. -/
import Derived.Test.YtmaoochjbpohdaaGreatDoorQbQ
set_option linter.unusedVariables false
set_option linter.unusedSimpArgs false
set_option maxRecDepth 100000
set_option maxHeartbeats 1000000
namespace Go.Proofs.YtmaoochjbpohdaaGreatDoor.Pr
open Go.ChangeShapes Go.WideShapes Go.ChangeAt Go.RowKit
open Base Lx Mi Piece
def GM (B R:Nat) (vl vn:Value) (vs:List V3) (L:List Tok) (sl:List Value) (w:World) (q:QS) (a:Act) (w':World):Prop:=Fr 161 sl a∧Chg (fun k=>k=R) w w'∧Rq B w' R vl vn vs L q
section
variable {B R:Nat} {vl vn:Value} {vs:List V3} {L:List Tok} {q:QS}
theorem bad_n (b:Bool) (er:Nat) (i:Int) (hi:(er:Int)=i) (w:World) (h:Rq B w R vl vn vs L q):Calls Tryz.prog 66 #[.pointer (some ⟨R,0,none⟩),.bool b,.int .i64 i] w fun e w'=>PQ B R vl vn vs L w (badQ L q b er) e w':=by
 subst hi;exact bad_any b er w h
theorem Rq.castB {w:World} {b b':Bool} {e:Nat} (h:Rq B w R vl vn vs L (badQ L q b e)) (hb:b=b'):Rq B w R vl vn vs L (badQ L q b' e):=by rw[←hb];exact h
set_option maxRecDepth 1000000 in
set_option maxHeartbeats 8000000 in
theorem gate7 {deep fuel:Nat} (hdf:deep+fuel=20) (k nn:Int) (v2 v3 v4 v5 v6 v7 v9:Value) (w0:World) (Q:Exit→Act→World→Prop) (a:Act) (w:World)
  (hM:GM B R vl vn vs L [.pointer (some ⟨R,0,none⟩),.int .i64 (deep:Int),v2,v3,v4,v5,v6,v7,.int .i64 0,v9,.int .i64 k,.int .i64 nn] w0 q a w)
  (hQ:∀a' w',GM B R vl vn vs L [.pointer (some ⟨R,0,none⟩),.int .i64 (deep:Int),v2,v3,v4,v5,v6,v7,.int .i64 0,v9,.int .i64 k,.int .i64 nn] w0 (badQ L q (decide (fuel=0) || (decide (0≤k) && decide (200≤q.ns.length))) 2) a' w'→(tlC 8 Tryz.f65.body).wp Tryz.prog Q a' w') :
  (tlC 7 Tryz.f65.body).wp Tryz.prog Q a w:=by
 conv=>arg 2;whnf
 refine seq_mid _ ?_ hQ
 intro K hK
 clear hQ
 obtain⟨hF,hc,h⟩:=hM
 obtain⟨u,rfl⟩:=lay161 hF
 clear hF
 obtain⟨A,c,rfl,hnc,hcm⟩:=h.slice
 have c2:w.cell? ⟨R,2,none⟩=some (.slice A q.ns.length c):=h.blk.cell 2
 obtain⟨n,hn⟩:∃z,Hid (q.ns.length=z):=⟨_,Lib.hid rfl⟩
 rw[hn.out] at c2 hK h
 have hbd:=fun b=>bad_n b 2 2 rfl w h
 by_cases hf:fuel=0
 ·have hd:(20:Int)≤(deep:Int):=by omega
  go_wp2_with fail
  refine (hbd _).mono ?_
  rintro e w2 ⟨rfl,hc2,h2⟩
  have hc02:=hc.trans hc2 (fun _ _ e=>e)
  have h2:=h2.castB (b':=decide (fuel=0) || (decide (0≤k) && decide (200≤n))) (by simp[hf,hd])
  go_wp2_with fail
  exact⟨⟨_,rfl,rfl⟩,hc02,h2⟩
 ·have hd:¬(20:Int)≤(deep:Int):=by omega
  by_cases hk:0≤k
  ·have hn2:((200:Int)≤(n:Int))=(200≤n):=by simp only[eq_iff_iff];omega
   go_wp2_with fail
   refine (hbd _).mono ?_
   rintro e w2 ⟨rfl,hc2,h2⟩
   have hc02:=hc.trans hc2 (fun _ _ e=>e)
   have h2:=h2.castB (b':=decide (fuel=0) || (decide (0≤k) && decide (200≤n))) (by first|(simp[hf,hk];done)|(simp[hf];omega))
   go_wp2_with fail
   exact⟨⟨_,rfl,rfl⟩,hc02,h2⟩
  ·have hk':k<0:=by omega
   go_wp2_with fail
   refine (hbd _).mono ?_
   rintro e w2 ⟨rfl,hc2,h2⟩
   have hc02:=hc.trans hc2 (fun _ _ e=>e)
   have h2:=h2.castB (b':=decide (fuel=0) || (decide (0≤k) && decide (200≤n))) (by first|(simp[hf,hk];done)|(simp[hf];omega))
   go_wp2_with fail
   exact⟨⟨_,rfl,rfl⟩,hc02,h2⟩
set_option maxRecDepth 1000000 in
set_option maxHeartbeats 8000000 in
theorem gate8 {deep:Nat} (k nn:Int) (v2 v3 v4 v5 v6 v7 v9:Value) (w0:World) (Q:Exit→Act→World→Prop) (a:Act) (w:World)
  (hM:GM B R vl vn vs L [.pointer (some ⟨R,0,none⟩),.int .i64 (deep:Int),v2,v3,v4,v5,v6,v7,.int .i64 0,v9,.int .i64 k,.int .i64 nn] w0 q a w)
  (hQ:∀a' w',GM B R vl vn vs L [.pointer (some ⟨R,0,none⟩),.int .i64 (deep:Int),v2,v3,v4,v5,v6,v7,.int .i64 0,v9,.int .i64 k,.int .i64 nn] w0 (badQ L q (decide (k<0) && decide (nn<0)) 5) a' w'→(tlC 9 Tryz.f65.body).wp Tryz.prog Q a' w') :
  (tlC 8 Tryz.f65.body).wp Tryz.prog Q a w:=by
 conv=>arg 2;whnf
 refine seq_mid _ ?_ hQ
 intro K hK
 clear hQ
 obtain⟨hF,hc,h⟩:=hM
 obtain⟨u,rfl⟩:=lay161 hF
 clear hF
 have hbd:=fun b=>bad_n b 5 5 rfl w h
 by_cases hk:k<0
 ·go_wp2_with fail
  refine (hbd _).mono ?_
  rintro e w2 ⟨rfl,hc2,h2⟩
  have hc02:=hc.trans hc2 (fun _ _ e=>e)
  have h2:=h2.castB (b':=decide (k<0) && decide (nn<0)) (by first|(simp[hk];done)|(simp;omega))
  go_wp2_with fail
  exact⟨⟨_,rfl,rfl⟩,hc02,h2⟩
 ·go_wp2_with fail
  refine (hbd _).mono ?_
  rintro e w2 ⟨rfl,hc2,h2⟩
  have hc02:=hc.trans hc2 (fun _ _ e=>e)
  have h2:=h2.castB (b':=decide (k<0) && decide (nn<0)) (by first|(simp[hk];done)|(simp;omega))
  go_wp2_with fail
  exact⟨⟨_,rfl,rfl⟩,hc02,h2⟩
set_option maxRecDepth 1000000 in
set_option maxHeartbeats 8000000 in
theorem gate9 {deep:Nat} (k nn:Int) (union:Bool) (v3 v4 v5 v6 v7 v9:Value) (w0:World) (Q:Exit→Act→World→Prop) (a:Act) (w:World)
  (hM:GM B R vl vn vs L [.pointer (some ⟨R,0,none⟩),.int .i64 (deep:Int),.bool union,v3,v4,v5,v6,v7,.int .i64 0,v9,.int .i64 k,.int .i64 nn] w0 q a w)
  (hQ:∀a' w',GM B R vl vn vs L [.pointer (some ⟨R,0,none⟩),.int .i64 (deep:Int),.bool union,v3,v4,v5,v6,v7,.int .i64 0,v9,.int .i64 k,.int .i64 nn] w0 (badQ L q (union && decide (k=8)) 4) a' w'→(tlC 10 Tryz.f65.body).wp Tryz.prog Q a' w') :
  (tlC 9 Tryz.f65.body).wp Tryz.prog Q a w:=by
 conv=>arg 2;whnf
 refine seq_mid _ ?_ hQ
 intro K hK
 clear hQ
 obtain⟨hF,hc,h⟩:=hM
 obtain⟨u,rfl⟩:=lay161 hF
 clear hF
 have hbd:=fun b=>bad_n b 4 4 rfl w h
 cases union with
 | true=>
  go_wp2_with fail
  refine (hbd _).mono ?_
  rintro e w2 ⟨rfl,hc2,h2⟩
  have hc02:=hc.trans hc2 (fun _ _ e=>e)
  have h2:=h2.castB (b':=true && decide (k=8)) (by first|rfl|simp)
  go_wp2_with fail
  exact⟨⟨_,rfl,rfl⟩,hc02,h2⟩
 | false=>
  go_wp2_with fail
  refine (hbd _).mono ?_
  rintro e w2 ⟨rfl,hc2,h2⟩
  have hc02:=hc.trans hc2 (fun _ _ e=>e)
  have h2:=h2.castB (b':=false && decide (k=8)) (by rfl)
  go_wp2_with fail
  exact⟨⟨_,rfl,rfl⟩,hc02,h2⟩
set_option maxRecDepth 1000000 in
set_option maxHeartbeats 8000000 in
theorem gate10 {deep:Nat} (k nn:Int) (union:Bool) (ahead:List Nat) (A:Option Addr) (na ca:Nat) (v4 v5 v6 v7 v9:Value) (w0:World) (Q:Exit→Act→World→Prop) (a:Act) (w:World)
  (hM:GM B R vl vn vs L [.pointer (some ⟨R,0,none⟩),.int .i64 (deep:Int),.bool union,.slice A na ca,v4,v5,v6,v7,.int .i64 0,v9,.int .i64 k,.int .i64 nn] w0 q a w) (hA:Rd w A (ints ahead)) (hna:ahead.length=na) (hna2:na≤100000) (hm:∀m∈ahead,m<q.ns.length)
  (hQ:∀a' w',GM B R vl vn vs L [.pointer (some ⟨R,0,none⟩),.int .i64 (deep:Int),.bool union,.slice A na ca,v4,v5,v6,v7,.int .i64 0,v9,.int .i64 k,.int .i64 nn] w0 (badQ L q (union && sameQ q.ns ahead k nn && (decide (0≤k) || decide (0≤nn))) 6) a' w'→(upC 11 Tryz.f65.body).wp Tryz.prog Q a' w') :
  (tlC 10 Tryz.f65.body).wp Tryz.prog Q a w:=by
 conv=>arg 2;whnf
 refine seq_mid _ ?_ hQ
 intro K hK
 clear hQ
 obtain⟨hF,hc,h⟩:=hM
 obtain⟨u,rfl⟩:=lay161 hF
 clear hF
 have hbd:=fun b=>bad_n b 6 6 rfl w h
 have hsm:=same_any A na ca ahead k nn w h hA hna hna2 hm
 cases union with
 | true=>
  obtain⟨sm,hsm'⟩:∃z,Hid (sameQ q.ns ahead k nn=z):=⟨_,Lib.hid rfl⟩
  rw[hsm'.out] at hsm hK
  go_wp2_with fail
  refine hsm.mono ?_
  rintro e w1 ⟨rfl,hx1⟩
  have hbd1:=fun b=>bad_n b 6 6 rfl w1 (h.ext hx1)
  have hc1:=hc.trans (Chg.ofExt hx1) (fun _ _ e=>e)
  clear hbd hsm
  cases sm with
  | false=>
   go_wp2_with fail
   refine (hbd1 _).mono ?_
   rintro e w2 ⟨rfl,hc2,h2⟩
   have hc02:=hc1.trans hc2 (fun _ _ e=>e)
   have h2:=h2.castB (b':=true && false && (decide (0≤k) || decide (0≤nn))) (by simp)
   go_wp2_with fail
   exact⟨⟨_,rfl,rfl⟩,hc02,h2⟩
  | true=>
   by_cases hk:0≤k
   ·go_wp2_with fail
    refine (hbd1 _).mono ?_
    rintro e w2 ⟨rfl,hc2,h2⟩
    have hc02:=hc1.trans hc2 (fun _ _ e=>e)
    have h2:=h2.castB (b':=true && true && (decide (0≤k) || decide (0≤nn))) (by first|(simp[hk];done)|(simp;omega))
    go_wp2_with fail
    exact⟨⟨_,rfl,rfl⟩,hc02,h2⟩
   ·go_wp2_with fail
    refine (hbd1 _).mono ?_
    rintro e w2 ⟨rfl,hc2,h2⟩
    have hc02:=hc1.trans hc2 (fun _ _ e=>e)
    have h2:=h2.castB (b':=true && true && (decide (0≤k) || decide (0≤nn))) (by first|(simp[hk];done)|(simp;omega))
    go_wp2_with fail
    exact⟨⟨_,rfl,rfl⟩,hc02,h2⟩
 | false=>
  go_wp2_with fail
  refine (hbd _).mono ?_
  rintro e w2 ⟨rfl,hc2,h2⟩
  have hc02:=hc.trans hc2 (fun _ _ e=>e)
  have h2:=h2.castB (b':=false && sameQ q.ns ahead k nn && (decide (0≤k) || decide (0≤nn))) (by rfl)
  go_wp2_with fail
  exact⟨⟨_,rfl,rfl⟩,hc02,h2⟩
end
set_option maxRecDepth 1000000 in
theorem lay161b {v0 v1 v2 v3 v4 v5 v6 v7 v8:Value} {a:Act} (h:Piece.Fr 161 [v0,v1,v2,v3,v4,v5,v6,v7,v8] a):∃u:Nat→Value,a=⟨(v0::v1::v2::v3::v4::v5::v6::v7::v8::u 9::u 10::u 11::u 12::u 13::u 14::u 15::u 16::u 17::u 18::u 19::u 20::u 21::u 22::u 23::u 24::u 25::u 26::u 27::u 28::u 29::u 30::u 31::u 32::u 33::u 34::u 35::u 36::u 37::u 38::u 39::u 40::u 41::u 42::u 43::u 44::u 45::u 46::u 47::u 48::u 49::u 50::u 51::u 52::u 53::u 54::u 55::u 56::u 57::u 58::u 59::u 60::u 61::u 62::u 63::u 64::u 65::u 66::u 67::u 68::u 69::u 70::u 71::u 72::u 73::u 74::u 75::u 76::u 77::u 78::u 79::u 80::u 81::u 82::u 83::u 84::u 85::u 86::u 87::u 88::u 89::u 90::u 91::u 92::u 93::u 94::u 95::u 96::u 97::u 98::u 99::u 100::u 101::u 102::u 103::u 104::u 105::u 106::u 107::u 108::u 109::u 110::u 111::u 112::u 113::u 114::u 115::u 116::u 117::u 118::u 119::u 120::u 121::u 122::u 123::u 124::u 125::u 126::u 127::u 128::u 129::u 130::u 131::u 132::u 133::u 134::u 135::u 136::u 137::u 138::u 139::u 140::u 141::u 142::u 143::u 144::u 145::u 146::u 147::u 148::u 149::u 150::u 151::u 152::u 153::u 154::u 155::u 156::u 157::u 158::u 159::u 160::[]).toArray,[]⟩:=by
 obtain⟨u,hu⟩:=h.spread
 refine⟨u,hu.trans ?_⟩
 kernel_rfl
def M1 (sl:List Value) (w:World) (g:Nat) (t:Tok) (R:Nat) (a:Act) (w':World):Prop:=Fr 161 sl a∧Ext w w'∧Blk w' g #[.int .i64 t.k,.string t.s,.int .i64 (t.a:Int)] 105∧¬g=R
section
variable {B R:Nat} {vl vn:Value} {vs:List V3} {L:List Tok} {q:QS}
set_option maxRecDepth 1000000 in
set_option maxHeartbeats 8000000 in
theorem typed7 {deep fuel:Nat} (hTk:TokOk L) (hdf:deep+fuel=20) (H:∀f,fuel=f+1→TypQ B R L (deep+1) f) (union:Bool) (ahead:List Nat) (A:Option Addr) (na ca:Nat) (v4 v5 v6 v7 v9:Value) (w:World) (h:Rq B w R vl vn vs L q) (hw:q.why=0) (hW:WQ L q.at_ q) (hA:Rd w A (ints ahead)) (hna:ahead.length=na) (hna2:na≤100000) (hm:∀m∈ahead,m<q.ns.length) (hB:B≤w.heap.size) (hAR:∀a,A=some a→¬a.block=R) (PO:Ending→World→Prop)
  (hQ:∀w',PT B R vl vn vs L w (typedQ L fuel union ahead q).2 w'→PO (.returned (.int .i64 ((typedQ L fuel union ahead q).1:Int))) w') (a:Act) (w':World)
  (hM:GM B R vl vn vs L [.pointer (some ⟨R,0,none⟩),.int .i64 (deep:Int),.bool union,.slice A na ca,v4,v5,v6,v7,.int .i64 0,v9,.int .i64 (kOf (tkQ L q)),.int .i64 (calledQ L q)] w (gate1 L q) a w') :
  (tlC 7 Tryz.f65.body).wp Tryz.prog (bodyPost Tryz.prog Tryz.f65 PO) a w':=by
 refine gate7 hdf _ _ _ _ _ _ _ _ _ w _ a w' hM (fun a1 w1 hM=>?_)
 refine gate8 _ _ _ _ _ _ _ _ _ w _ a1 w1 hM (fun a2 w2 hM=>?_)
 refine gate9 _ _ _ _ _ _ _ _ _ w _ a2 w2 hM (fun a3 w3 hM=>?_)
 have hn3:∀(x y z:Bool),(badQ L (badQ L (badQ L (gate1 L q) x 2) y 5) z 4).ns=q.ns:=fun x y z=>by rw[badQ_ns,badQ_ns,badQ_ns,gate1_ns]
 refine gate10 _ _ _ ahead _ _ _ _ _ _ _ _ w _ a3 w3 hM (hA.chg hM.2.1 (fun a ha e=>hAR a ha e)) hna hna2 (fun m h=>by rw[hn3];exact hm m h) (fun a4 w4 hM=>?_)
 rw[hn3] at hM
 have hg:gateQ L fuel union ahead q=badQ L (badQ L (badQ L (badQ L (gate1 L q) (decide (fuel=0) || (decide (0≤kOf (tkQ L q)) && decide (200≤(gate1 L q).ns.length))) 2) (decide (kOf (tkQ L q)<0) && decide (calledQ L q<0)) 5) (union && decide (kOf (tkQ L q)=8)) 4) (union && sameQ q.ns ahead (kOf (tkQ L q)) (calledQ L q) && (decide (0≤kOf (tkQ L q)) || decide (0≤calledQ L q))) 6:=by rw[gate1_ns];rfl
 rw[←hg] at hM
 obtain⟨hF,hc,h4⟩:=hM
 exact typed11 hTk hdf H union ahead hw hW _ _ rfl (fun _=>rfl) _ _ _ _ _ _ _ a4 w4 h4 (Nat.le_trans hB hc.size) PO hF (fun w5 hp=>hQ w5 (PT.after (q2:=gateQ L fuel union ahead q) (hc.mono fun k _ e=>.inl e) (.inl rfl) (SF.refl w vs) hp))
set_option maxRecDepth 1000000 in
set_option maxHeartbeats 8000000 in
theorem typed_step {deep fuel:Nat} (hTk:TokOk L) (hdf:deep+fuel=20) (H:∀f,fuel=f+1→TypQ B R L (deep+1) f):TypQ B R L deep fuel:=by
 intro union ahead A na ca q w vl vn vs h hw hW hA hna hna2 hm hB hAR
 obtain⟨PO,hPO⟩:∃PO:Ending→World→Prop,Hid ((fun e w'=>e=.returned (.int .i64 ((typedQ L fuel union ahead q).1:Int))∧PT B R vl vn vs L w (typedQ L fuel union ahead q).2 w')=PO):=⟨_,rfl⟩
 have hfin:∀w',PT B R vl vn vs L w (typedQ L fuel union ahead q).2 w'→PO (.returned (.int .i64 ((typedQ L fuel union ahead q).1:Int))) w':=fun w' hp=>by rw[←hPO.out];exact⟨rfl,hp⟩
 rw[hPO.out]
 have h7:=fun v4 v5 v6 v7 v9=>typed7 hTk hdf H union ahead A na ca v4 v5 v6 v7 v9 w h hw hW hA hna hna2 hm hB hAR PO hfin
 clear hPO H hfin
 have htk:=tok_any w h
 have hnm:=fun W hW=>nameQ_any W (h.ext (w':=W) hW)
 have hg1:gate1 L q=if kOf (tkQ L q)<0 then nameQ L q else q:=rfl
 have hcl:calledQ L q=if kOf (tkQ L q)<0 then optI (calledN q.ns (tkQ L q).s) else -1:=rfl
 have hko:kOf (tkQ L q)=if (tkQ L q).k=0∨(tkQ L q).k=2 then idxOf refL (tkQ L q).s else -1:=rfl
 obtain⟨t,ht⟩:∃z,Hid (tkQ L q=z):=⟨_,Lib.hid rfl⟩
 rw[ht.out] at htk hg1 hcl hko h7
 simp only[ht.out] at hnm
 unfold tokV at htk
 obtain⟨k,hk⟩:∃z,Hid (kOf t=z):=⟨_,Lib.hid rfl⟩
 rw[hk.out] at hg1 hcl hko h7
 obtain⟨nn,hnn⟩:∃z,Hid (calledQ L q=z):=⟨_,Lib.hid rfl⟩
 rw[hnn.out] at hcl h7
 go_enter Tryz.func65,Tryz.ntmps65
 refine seq_mid (fun a' w'=>Fr 161 [.pointer (some ⟨R,0,none⟩),.int .i64 (deep:Int),.bool union,.slice A na ca,undef,undef,undef,undef,.int .i64 0] a'∧w'=w) ?_ ?_
 ·intro K hK
  clear htk hnm h7 hg1 hcl hko
  go_wp2_with fail
  first|exact⟨⟨_,rfl,rfl⟩,rfl⟩|exact⟨_,rfl,rfl⟩
 rintro a1 w' ⟨hF,hw'⟩
 subst hw'
 refine seq_mid (fun a' w1=>∃g,M1 [.pointer (some ⟨R,0,none⟩),.int .i64 (deep:Int),.bool union,.slice A na ca,undef,undef,undef,undef,.int .i64 0,.pointer (some ⟨g,0,none⟩),.int .i64 (-1),.int .i64 (-1)] w' g t R a' w1) ?_ ?_
 ·intro K hK
  clear hnm h7 hg1 hcl hko
  obtain⟨u,rfl⟩:=lay161b hF
  clear hF
  go_wp2_with fail
  refine htk.mono ?_
  rintro e w1 ⟨rfl,hx1⟩
  have hb:Blk (w1.alloc (.cells #[.int .i64 t.k,.string t.s,.int .i64 (t.a:Int)] 105)) w1.heap.size #[.int .i64 t.k,.string t.s,.int .i64 (t.a:Int)] 105:=Blk.new w1 _ _
  have hxa:=hx1.alloc (.cells #[.int .i64 t.k,.string t.s,.int .i64 (t.a:Int)] 105)
  have hgR:¬w1.heap.size=R:=by have:=hx1.size;have:=h.blk.lt;omega
  clear htk
  go_wp2_with fail
  exact⟨w1.heap.size,⟨_,rfl,rfl⟩,hxa,hb,hgR⟩
 rintro a1 w1 ⟨g,hF1,hx1,hb1,hgR⟩
 clear htk
 refine seq_mid (fun a' w2=>M1 [.pointer (some ⟨R,0,none⟩),.int .i64 (deep:Int),.bool union,.slice A na ca,undef,undef,undef,undef,.int .i64 0,.pointer (some ⟨g,0,none⟩),.int .i64 k,.int .i64 (-1)] w' g t R a' w2) ?_ ?_
 ·intro K hK
  clear hnm h7 hg1 hcl
  obtain⟨u,rfl⟩:=lay161 hF1
  clear hF1
  have z0:=hb1.cell 0
  have z1:=hb1.cell 1
  have hwd:=word_any t.s w1
  by_cases h0:t.k=0
  ·rw[if_pos (.inl h0)] at hko
   rw[←hko] at hwd
   have e0:(t.k == 0)=true:=by simpa using h0
   clear hko
   go_wp2_with fail
   refine hwd.mono ?_
   rintro e w2 ⟨rfl,hx2⟩
   go_wp2_with fail
   exact⟨⟨_,rfl,rfl⟩,hx1.trans hx2,hb1.ext hx2,hgR⟩
  ·have e0:(t.k == 0)=false:=by simpa using h0
   by_cases h2:t.k=2
   ·rw[if_pos (.inr h2)] at hko
    rw[←hko] at hwd
    have e2:(t.k == 2)=true:=by simpa using h2
    clear hko
    go_wp2_with fail
    refine hwd.mono ?_
    rintro e w2 ⟨rfl,hx2⟩
    go_wp2_with fail
    exact⟨⟨_,rfl,rfl⟩,hx1.trans hx2,hb1.ext hx2,hgR⟩
   ·have e2:(t.k == 2)=false:=by simpa using h2
    rw[if_neg (by omega)] at hko
    subst hko
    go_wp2_with fail
    exact⟨⟨_,rfl,rfl⟩,hx1,hb1,hgR⟩
 rintro a2 w2 ⟨hF2,hx2,hb2,_⟩
 refine seq_mid (fun a' w3=>GM B R vl vn vs L [.pointer (some ⟨R,0,none⟩),.int .i64 (deep:Int),.bool union,.slice A na ca,undef,undef,undef,undef,.int .i64 0,.pointer (some ⟨g,0,none⟩),.int .i64 k,.int .i64 nn] w' (gate1 L q) a' w3) ?_ (fun a3 w3 hM=>h7 _ _ _ _ _ a3 w3 hM)
 intro K hK
 clear h7 hko
 obtain⟨u,rfl⟩:=lay161 hF2
 clear hF2
 by_cases hk0:k<0
 ·rw[if_pos hk0] at hg1 hcl
  have hnm2:=hnm w2 hx2
  clear hnm
  rw[hg1] at hK
  clear hg1
  go_wp2_with fail
  refine hnm2.mono ?_
  rintro e w3 ⟨rfl,hc3,h3⟩
  have hb3:=hc3.blk hb2 hgR
  have z1:=hb3.cell 1
  have hcd:=called_any t.s w3 h3
  rw[nameQ_ns,←hcl] at hcd
  clear hcl
  go_wp2_with fail
  refine hcd.mono ?_
  rintro e w4 ⟨rfl,hw4⟩
  have hw4:=hw4.symm
  subst hw4
  go_wp2_with fail
  exact⟨⟨_,rfl,rfl⟩,(Chg.ofExt hx2).trans hc3 (fun _ _ e=>e),h3⟩
 ·rw[if_neg hk0] at hg1 hcl
  subst hcl
  rw[hg1] at hK
  clear hg1
  have h2:=h.ext hx2
  have hcx:=Chg.ofExt (S:=fun k=>k=R) hx2
  go_wp2_with fail
  exact⟨⟨_,rfl,rfl⟩,hcx,h2⟩
theorem typedQ_any (hTk:TokOk L):∀(fuel deep:Nat),deep+fuel=20→TypQ B R L deep fuel
 | 0,deep,hdf=>typed_step hTk hdf (fun f e=>by omega)
 | fuel+1,deep,hdf=>typed_step hTk hdf (fun f e=>by
  obtain rfl:f=fuel:=by omega
  exact typedQ_any hTk f (deep+1) (by omega))
end
theorem resRef {w:World} {tmps:Array Value} {a:Nat} {u v x:Value} (ha:tmps[2]?.getD undef=.pointer (some ⟨a,0,none⟩)) (hb:tmps[3]?.getD undef=v) (hc:tmps[4]?.getD undef=x) (h0:w.cell? ⟨a,0,none⟩=some u):(results Tryz.f43 tmps).run Tryz.prog w=.ok (.tuple #[.agg #[u],v,x]) w:=by
 simp[results,Tryz.f43,go_sem,ha,hb,hc,h0]
set_option maxRecDepth 1000000 in
set_option maxHeartbeats 4000000 in
theorem refParse_any (s:ByteArray) (hs:s.size≤140737488351232) (w:World):Calls Tryz.prog 43 #[.string s] w fun e w'=>PP (parseQ s) w e w':=by
 obtain⟨w1,hw1⟩:∃z,Hid (w.alloc (.cells #[.slice none 0 0] 24)=z):=⟨_,rfl⟩
 obtain⟨q,hq⟩:∃z,Hid (w.heap.size=z):=⟨_,rfl⟩
 have hx1:Ext w w1:=by rw[←hw1.out];exact (Ext.refl w).alloc _
 have hb1:Blk w1 q #[.slice none 0 0] 24:=by rw[←hw1.out,←hq.out];exact Blk.new w _ _
 have hc:=refWords_any s hs w1
 obtain⟨r,hr⟩:∃z,Hid (parseQ s=z):=⟨_,Lib.hid rfl⟩
 rw[hr.out]
 obtain⟨PO,hPO⟩:∃PO:Ending→World→Prop,Hid ((fun e w'=>PP r w e w')=PO):=⟨_,Lib.hid rfl⟩
 rw[hPO.out]
 have hfin:∀e w',PP r w e w'→PO e w':=fun e w' h=>by rw[←hPO.out];exact h
 go_enter Tryz.func43,Tryz.ntmps43
 go_wp2_with fail
 rw[hw1.out,hq.out]
 refine hc.mono ?_
 rintro e w2 ⟨v,p,er,rfl,hv,hx2⟩
 have hb2:=hb1.ext hx2
 have c2:w2.cell? ⟨q,0,none⟩=some (.slice none 0 0):=hb2.cell 0
 have f2:=hb2.frozen 0
 rcases hv with⟨hwd,rfl⟩|⟨hwd,rfl,rfl,hRt⟩
 ·have hne:(er != 0)=true:=by rcases words_er hwd with rfl|rfl<;>rfl
  have hrr:r=([],p,er):=by rw[←hr.out];unfold parseQ;rw[hwd]
  clear hc hwd
  go_wp2_with fail
  have hb3:Blk (w2.setCell ⟨q,0,none⟩ (.slice none 0 0)) q #[.slice none 0 0] 24:=hb2.set 0 _
  refine bodyPost_ret (resRef rfl rfl rfl (hb3.cell 0)) rfl ?_
  refine hfin _ _ ?_
  rw[hrr]
  exact⟨.slice none 0 0,[],rfl,nds_nil _ _,(hx1.trans hx2).setCell (by show w.heap.size≤q;have:=hq.out;omega) _⟩
 ·obtain⟨g,cap,rfl,hcl,h1,h2⟩:=hRt
  obtain⟨hs4,hlen,hts⟩:=words_ok hwd
  have hTk:=toks_ok s
  have hlt:0<(toks s).length:=by
   obtain⟨pre,e,h,_⟩:=hTk
   rw[h];simp
  have hg:g<w2.heap.size:=by
   obtain⟨t,l,e⟩:∃t l,toks s=t::l:=by
    cases h:toks s with
    | nil=>rw[h] at hlt;simp at hlt
    | cons t l=>exact⟨t,l,rfl⟩
   have:=hcl 0 (.int .i64 t.k) (by rw[e];rfl)
   exact World.block_lt_of_cell? w2 ⟨g,0,none⟩ this
  have hrr:=hr.out
  unfold parseQ at hrr
  rw[hwd] at hrr
  simp only at hrr
  obtain⟨L,hL⟩:∃z,Hid (toks s=z):=⟨_,Lib.hid rfl⟩
  rw[hL.out] at hcl h1 hlen hts hTk hlt hrr ⊢
  have hx3:Ext w2 (w2.alloc (.cells #[.slice (some ⟨g,0,none⟩) L.length cap,.int .i64 0,.slice none 0 0,.int .i64 0,.int .i64 0] 101)):=(Ext.refl w2).alloc _
  have hb:=Blk.new w2 #[.slice (some ⟨g,0,none⟩) L.length cap,.int .i64 0,.slice none 0 0,.int .i64 0,.int .i64 0] 101
  obtain⟨w3,hw3⟩:∃z,Hid (w2.alloc (.cells #[.slice (some ⟨g,0,none⟩) L.length cap,.int .i64 0,.slice none 0 0,.int .i64 0,.int .i64 0] 101)=z):=⟨_,rfl⟩
  rw[hw3.out] at hx3 hb
  obtain⟨R,hR⟩:∃z,Hid (w2.heap.size=z):=⟨_,rfl⟩
  rw[hR.out] at hb hg
  have hsz3:=hx3.size
  have hq0:Rq R w3 R (.slice (some ⟨g,0,none⟩) L.length cap) (.slice none 0 0) [] L ⟨0,[],0,0⟩:=⟨hb,⟨g,0,cap,rfl,Rd.ext (fun _=>⟨g,0,rfl,fun j u hj=>by rw[Nat.zero_add];exact hcl j u hj⟩) hx3,h1,h2,hg⟩,nds_nil _ _,hlt,by omega,hts,Nat.zero_le _,Nat.le_refl _,fun i j a b h=>by simp at h⟩
  have hT:=typedQ_any hTk 20 0 rfl false [] none 0 0 ⟨0,[],0,0⟩ w3 _ _ [] hq0 rfl ⟨hlt,(fun d h=>by simp at h),(fun d h=>by simp at h)⟩ (Rd.nil _ _) rfl (by omega) (fun m h=>by cases h) (by have:=hR.out;omega) (fun a ha=>by cases ha)
  rw[show ((0:Nat):Int)=0 from rfl] at hT
  obtain⟨x,hx⟩:∃z,Hid (typedQ L 20 false [] ⟨0,[],0,0⟩=z):=⟨_,rfl⟩
  rw[hx.out] at hT hrr
  obtain⟨x,q1⟩:=x
  simp only at hT hrr
  clear hc hwd hx
  go_wp2_with fail
  rw[hw3.out,hR.out]
  refine hT.mono ?_
  rintro e w4 ⟨rfl,hc4,vn4,vs4,h4,hf4,hg4⟩
  have htk:=tok_any w4 h4
  unfold tokV at htk
  have htt:=tok_k
  obtain⟨t,ht⟩:∃z,Hid (tkQ L q1=z):=⟨_,Lib.hid rfl⟩
  rw[ht.out] at htk hrr
  clear hT
  go_wp2_with fail
  refine htk.mono ?_
  rintro e w5 ⟨rfl,hx5⟩
  have hbd:=fun b=>bad_n b 4 4 rfl w5 (h4.ext hx5)
  clear htk
  go_wp2_with fail
  refine (hbd _).mono ?_
  rintro e w6 ⟨rfl,hc6,h6⟩
  have h6:=h6.castB (b':=decide (t.k≠3)) (by by_cases e3:t.k=3<;>simp[e3])
  obtain⟨q2,hq2⟩:∃z,Hid (badQ L q1 (decide (t.k≠3)) 4=z):=⟨_,rfl⟩
  rw[hq2.out] at h6 hrr
  have hs2:=hx2.size
  have hRo:=hR.out
  have hxF:Ext w1 w6:=(((hx2.trans hx3).chg hc4 (fun i hi e=>by rcases e with e|e;omega;cases e)).trans hx5).chg hc6 (fun i hi e=>by have e:i=R:=e;omega)
  have hqR:¬q=R:=by have:=hb2.lt;omega
  have hw06:Ext w w6:=hx1.trans hxF
  have hbq6:Blk w6 q #[.slice none 0 0] 24:=hb1.ext hxF
  have cq6:=hbq6.cell 0
  have fq6:=hbq6.frozen 0
  have hy6:=h6.why_cell
  have hbad6:w6.cell? ⟨R,4,none⟩=some (.int .i64 (q2.bad:Int)):=h6.blk.cell 4
  obtain⟨A,c,rfl,hnc,hcm⟩:=h6.slice
  have hns6:w6.cell? ⟨R,2,none⟩=some (.slice A q2.ns.length c):=h6.blk.cell 2
  have hnd:=h6.nds
  by_cases hz:q2.why=0
  ·rw[if_neg (by rw[hz];simp)] at hrr
   have hyb:((q2.why:Int) == 0)=true:=by rw[hz];rfl
   obtain⟨y,hyy⟩:∃z,Hid (q2.why=z):=⟨_,Lib.hid rfl⟩
   obtain⟨n,hn⟩:∃z,Hid (q2.ns.length=z):=⟨_,Lib.hid rfl⟩
   rw[hyy.out] at hy6 hyb
   rw[hn.out] at hns6 hnd
   have hy0:((y:Nat):Int)=0:=by have:=hyy.out;omega
   have hlow:∀k,k=q→k<R:=fun k e=>by have:=hb2.lt;omega
   have hnF:=(hnd.low (Chg.one w6 q 0 (.slice A n c)) hlow).mono (B':=w.heap.size) (by have:=hx1.size;omega)
   have hxG:Ext w (w6.setCell ⟨q,0,none⟩ (.slice A n c)):=hw06.setCell (by show w.heap.size≤q;have:=hq.out;omega) _
   have hbG:Blk (w6.setCell ⟨q,0,none⟩ (.slice A n c)) q #[.slice A n c] 24:=hbq6.set 0 _
   clear hz hyy hnd h6 hbd
   go_wp2_with fail
   refine bodyPost_ret (resRef rfl rfl rfl (hbG.cell 0)) rfl ?_
   refine hfin _ _ ?_
   rw[←hrr]
   exact⟨_,_,rfl,hnF,hxG⟩
  ·rw[if_pos hz] at hrr
   have hneb:((q2.why:Int) == 0)=false:=by simpa using (by omega:¬(q2.why:Int)=0)
   have hne:¬(q2.why:Int)=0:=by omega
   obtain⟨y,hyy⟩:∃z,Hid (q2.why=z):=⟨_,Lib.hid rfl⟩
   rw[hyy.out] at hy6 hneb hne hrr
   obtain⟨yb,hyb⟩:∃z,Hid (q2.bad=z):=⟨_,Lib.hid rfl⟩
   rw[hyb.out] at hbad6 hrr
   clear hnd h6 hbd hns6
   go_wp2_with fail
   refine Reg.startX (R:=Chg (fun k=>k=q)) (by kernel_rfl) ?_
   have hRl:=Reg.rl_chg (fun k=>k=q)
   generalize hwq:World.drew _=wq
   have hxq:Ext w6 wq:=by rw[←hwq];exact (Ext.refl w6).drew
   clear hwq
   have hRq:¬R=q:=fun e=>hqR e.symm
   have r3:∀W,Chg (fun k=>k=q) wq W→W.cell? ⟨R,3,none⟩=some (.int .i64 (y:Int)):=fun W hW=>hW.cell (hxq.cell hy6) hRq
   have r4:∀W,Chg (fun k=>k=q) wq W→W.cell? ⟨R,4,none⟩=some (.int .i64 (yb:Int)):=fun W hW=>hW.cell (hxq.cell hbad6) hRq
   have hbqq:=hbq6.ext hxq
   have cqq:=hbqq.cell 0
   have fqq:=hbqq.frozen 0
   have hch:Chg (fun k=>k=q) wq (wq.setCell ⟨q,0,none⟩ (.slice none 0 0)):=Chg.one wq q 0 _
   clear cq6 fq6 hy6 hbad6
   iterate 4 ((first|refine Reg.un hRl ?_|refine Reg.vn hRl ?_);(try simp only[Reg.nn]))
   refine Reg.tx hRl 4 ?_;(try simp only[Reg.nn])
   iterate 3 ((first|refine Reg.un hRl ?_|refine Reg.vn hRl ?_);(try simp only[Reg.nn]))
   refine Reg.tx hRl 8 ?_;(try simp only[Reg.nn])
   refine Reg.onlyX 9 _ rfl (by kernel_rfl) (by decide) (by rfl) (fun K hK=>?_);go_simp
   go_simp
   refine hK.out _ _ (hch) ?_;clear hK K;(try simp only[Reg.nn])
   iterate 2 ((first|refine Reg.un hRl ?_|refine Reg.vn hRl ?_);(try simp only[Reg.nn]))
   refine Reg.finX (by kernel_rfl) ?_
   have hbG:Blk (wq.setCell ⟨q,0,none⟩ (.slice none 0 0)) q #[.slice none 0 0] 24:=hbqq.set 0 _
   have hxG:Ext w (wq.setCell ⟨q,0,none⟩ (.slice none 0 0)):=(hw06.trans hxq).setCell (by show w.heap.size≤q;have:=hq.out;omega) _
   clear hch r3 r4
   go_wp2_with fail
   refine bodyPost_ret (resRef rfl rfl rfl (hbG.cell 0)) rfl ?_
   refine hfin _ _ ?_
   rw[←hrr]
   exact⟨_,[],rfl,nds_nil _ _,hxG⟩
end Go.Proofs.YtmaoochjbpohdaaGreatDoor.Pr
namespace Go.Proofs.YtmaoochjbpohdaaGreatDoor.Pr
open Lx
def er (t:Tok):Tok:=⟨t.k,t.s,0⟩
def PS.er (s:PS):PS:={ s with l:=s.l.map Pr.er }
def Res.er {α:Type}:Res α→Res α
 | .ok a s=>.ok a s.er
 | .bad _ w=>.bad 0 w
theorem hd_er (l:List Tok):hd (l.map er)=er (hd l):=by cases l<;>rfl
theorem isT_er (s:PS) (x:ByteArray):isT s.er x=isT s x:=by
 unfold isT
 rw[show s.er.l=s.l.map Pr.er from rfl,hd_er]
 rfl
theorem on_er (s:PS):s.er.on=s.on.er:=by
 unfold PS.on PS.er
 simp[List.map_tail]
theorem failR_er {α:Type} (s:PS) (w:Nat):(failR s.er w:Res α)=(failR s w).er:=by
 unfold failR
 rw[show s.er.l=s.l.map Pr.er from rfl,hd_er]
 rfl
theorem bind_er {α β:Type} {r r':Res α} {f f':α→PS→Res β} (h:r'=r.er) (hf:∀a s,f' a s.er=(f a s).er):r'.bind f'=(r.bind f).er:=by
 subst h
 cases r with
 | ok a s=>exact hf a s
 | bad a w=>rfl
theorem mustR_er (s:PS) (x:ByteArray):mustR s.er x=(mustR s x).er:=by
 unfold mustR
 rw[isT_er,on_er,failR_er]
 split<;>rfl
theorem goesR_er (s:PS) (x:ByteArray):goesR s.er x=((goesR s x).1,(goesR s x).2.er):=by
 unfold goesR
 rw[isT_er,on_er]
 split<;>rfl
theorem nameR_er (s:PS) (th:ByteArray→Bool):nameR s.er th=(nameR s th).er:=by
 unfold nameR
 rw[failR_er,failR_er,on_er,show s.er.l=s.l.map Pr.er from rfl,hd_er,show (Pr.er (hd s.l)).k=(hd s.l).k from rfl,show (Pr.er (hd s.l)).s=(hd s.l).s from rfl]
 split
 ·rfl
 ·split<;>rfl
theorem kindR_er (s:PS):kindR s.er=kindR s:=by
 unfold kindR
 rw[isT_er,isT_er,isT_er,show s.er.l=s.l.map Pr.er from rfl,hd_er]
 rfl
theorem setN_er (s:PS) (n:Nat) (f:Nd→Nd):s.er.setN n f=(s.setN n f).er:=rfl
def TE (T:Bool→List Nat→PS→Res Nat):Prop:=∀u a s,T u a s.er=(T u a s).er
section
variable {T:Bool→List Nat→PS→Res Nat}
theorem itemR_er (hT:TE T) (s:PS) (n:Nat) (x:ByteArray):itemR T s.er n x=(itemR T s n x).er:=by
 unfold itemR
 refine bind_er (hT _ _ _) fun a s1=>?_
 rw[setN_er,mustR_er]
theorem unionR_er (hT:TE T) (n:Nat):∀(m:Nat) (l:List Nat) (s:PS),unionR T n m l s.er=(unionR T n m l s).er
 | 0,l,s=>by rw[unionR,unionR,failR_er]
 | m+1,l,s=>by
  rw[unionR,unionR]
  refine bind_er (hT _ _ _) fun a s1=>?_
  rw[isT_er,on_er,setN_er]
  split
  ·rfl
  ·exact bind_er (mustR_er _ _) fun _ s2=>unionR_er hT n m _ s2
theorem symsR_er (n:Nat):∀(m:Nat) (l:List ByteArray) (s:PS),symsR n m l s.er=(symsR n m l s).er
 | 0,l,s=>by rw[symsR,symsR,failR_er]
 | m+1,l,s=>by
  rw[symsR,symsR]
  refine bind_er (nameR_er _ _) fun a s1=>?_
  rw[isT_er,on_er,setN_er]
  split
  ·rfl
  ·exact bind_er (mustR_er _ _) fun _ s2=>symsR_er n m _ s2
theorem fieldsR_er (hT:TE T) (n:Nat):∀(m:Nat) (l:List (ByteArray×Bool×Nat)) (s:PS),fieldsR T n m l s.er=(fieldsR T n m l s).er
 | 0,l,s=>by rw[fieldsR,fieldsR,failR_er]
 | m+1,l,s=>by
  rw[fieldsR,fieldsR,isT_er,on_er,setN_er]
  split
  ·rfl
  ·refine bind_er (nameR_er _ _) fun x s1=>?_
   rw[goesR_er]
   refine bind_er (mustR_er _ _) fun _ s2=>?_
   refine bind_er (hT _ _ _) fun t s3=>?_
   exact bind_er (mustR_er _ _) fun _ s4=>fieldsR_er hT n m _ s4
theorem er_len (s:PS):s.er.l.length=s.l.length:=by show (s.l.map Pr.er).length=_;rw[List.length_map]
theorem definedR_er (hT:TE T) (s:PS) (n:Nat) (k:Int):definedR T s.er n k=(definedR T s n k).er:=by
 unfold definedR
 refine bind_er (nameR_er _ _) fun x s1=>?_
 rw[show s1.er.called n x=(s1.called n x).er from rfl]
 generalize s1.called n x=s2
 simp only
 split
 ·refine bind_er (mustR_er _ _) fun _ s3=>?_
  rw[er_len,symsR_er]
 ·split
  ·rw[failR_er,on_er,setN_er,show s2.er.l=s2.l.map Pr.er from rfl,hd_er,show (Pr.er (hd s2.l)).k=(hd s2.l).k from rfl,show (Pr.er (hd s2.l)).s=(hd s2.l).s from rfl]
   split<;>rfl
  ·refine bind_er (mustR_er _ _) fun _ s3=>?_
   rw[er_len,fieldsR_er hT]
end
theorem typedR_er:∀(fuel:Nat),TE (typedR fuel)
 | fuel,u,a,s=>by
  rw[typedR.eq_def,typedR.eq_def fuel u a s]
  simp only
  rw[kindR_er]
  split
  ·exact failR_er _ _
  ·next k hk=>
   rw[show s.er.l=s.l.map Pr.er from rfl,hd_er,show (Pr.er (hd s.l)).s=(hd s.l).s from rfl,show s.er.nm=s.nm from rfl,show gateR fuel u a s.er k (s.nm (hd s.l).s)=gateR fuel u a s k (s.nm (hd s.l).s) from rfl]
   split
   ·exact failR_er _ _
   ·split
    ·show Res.ok _ s.er.on=_
     rw[on_er];rfl
    ·rw[on_er,show s.er.ns=s.ns from rfl,show ({ s.on.er with ns:=s.ns++[Nd.ofKind k] }:PS)=({ s.on with ns:=s.ns++[Nd.ofKind k] }:PS).er from rfl]
     generalize ({ s.on with ns:=s.ns++[Nd.ofKind k] }:PS)=s1
     cases fuel with
     | zero=>exact failR_er _ _
     | succ fuel=>
      have ih:=typedR_er fuel
      simp only
      split
      ·exact bind_er (itemR_er ih _ _ _) fun _ s2=>rfl
      ·split
       ·exact bind_er (itemR_er ih _ _ _) fun _ s2=>rfl
       ·split
        ·rw[er_len]
         exact bind_er (unionR_er ih _ _ _ _) fun _ s2=>rfl
        ·split
         ·exact bind_er (definedR_er ih _ _ _) fun _ s2=>rfl
         ·rfl
theorem typedR_same {l l':List Tok} (h:l.map er=l'.map er) {fuel:Nat} {u:Bool} {a:List Nat} {ns:List Nd} {nm:ByteArray→Option Nat} {n:Nat} {s':PS} (e:typedR fuel u a ⟨l,ns,nm⟩=.ok n s') :
  ∃s'',typedR fuel u a ⟨l',ns,nm⟩=.ok n s''∧s''.ns=s'.ns∧s''.l.map er=s'.l.map er:=by
 have h1:=typedR_er fuel u a ⟨l,ns,nm⟩
 have h2:=typedR_er fuel u a ⟨l',ns,nm⟩
 rw[show PS.er ⟨l,ns,nm⟩=PS.er ⟨l',ns,nm⟩ by unfold PS.er;rw[h],h2,e] at h1
 cases hr:typedR fuel u a ⟨l',ns,nm⟩ with
 | bad x y=>rw[hr] at h1;cases h1
 | ok m s''=>
  rw[hr] at h1
  injection h1 with h3 h4
  subst h3
  have a:s''.er.ns=s'.er.ns:=by rw[h4]
  have b:s''.er.l=s'.er.l:=by rw[h4]
  exact⟨s'',rfl,a,b⟩
theorem all_bytes {P:UInt8→Prop} (h:∀n:Fin 256,P (UInt8.ofNat n.val)) (c:UInt8):P c:=by
 have:=h ⟨c.toNat,UInt8.toNat_lt c⟩
 rwa [UInt8.ofNat_toNat] at this
theorem byte_sorts (c:UInt8):(letterP c=true→kindOf c=0∧innerP c=true∧digitP c=false∧Lx.blank c=false∧c.toNat≠35)∧(digitP c=true→kindOf c=1∧innerP c=true∧letterP c=false∧Lx.blank c=false∧c.toNat≠35)
  ∧ (kindOf c=2→innerP c=false∧letterP c=false∧digitP c=false∧Lx.blank c=false∧c.toNat≠35)∧(letterP c=false→digitP c=false→kindOf c=2∨kindOf c = -1)∧(innerP c=false→letterP c=false∧digitP c=false)∧(Lx.blank c=true→kindOf c = -1∧innerP c=false)∧(c.toNat=35→kindOf c = -1∧innerP c=false):=
 all_bytes (P:=fun c=>(letterP c=true→kindOf c=0∧innerP c=true∧digitP c=false∧Lx.blank c=false∧c.toNat≠35)∧(digitP c=true→kindOf c=1∧innerP c=true∧letterP c=false∧Lx.blank c=false∧c.toNat≠35)
  ∧ (kindOf c=2→innerP c=false∧letterP c=false∧digitP c=false∧Lx.blank c=false∧c.toNat≠35)∧(letterP c=false→digitP c=false→kindOf c=2∨kindOf c = -1)∧(innerP c=false→letterP c=false∧digitP c=false)∧(Lx.blank c=true→kindOf c = -1∧innerP c=false)∧(c.toNat=35→kindOf c = -1∧innerP c=false)) (by decide +kernel) c
abbrev TkL:=Int×List UInt8
def tk (t:Tok):TkL:=(t.k,bs t.s)
def lenL:List UInt8→Nat
 | []=>1
 | c::r=>if letterP c then runP innerP (c::r) else if digitP c then runP digitP (c::r) else 1
def lexL:Nat→List UInt8→List TkL
 | 0,_=>[]
 | f+1,l=>match l.drop (skipN false l) with
  | []=>[(3,[])]
  | c::r=>(kindOf c,(c::r).take (lenL (c::r)))::lexL f ((c::r).drop (lenL (c::r)))
theorem byteAt_drop (s:ByteArray) (a:Nat) (c:UInt8) (r:List UInt8) (h:s.data.toList.drop a=c::r):byteAt s a=c:=by
 unfold byteAt
 have:s.data.toList[a]?=some c:=by
  have:=congrArg (fun l=>l[0]?) h
  simpa [List.getElem?_drop] using this
 rw[List.getD,this];rfl
theorem lenAt_drop (s:ByteArray) (a:Nat) (c:UInt8) (r:List UInt8) (h:s.data.toList.drop a=c::r):lenAt s a=lenL (c::r):=by
 unfold lenAt lenL
 rw[byteAt_drop s a c r h,h]
theorem bs_extract (s:ByteArray) (a n:Nat):bs (s.extract a (a+n))=(s.data.toList.drop a).take n:=by
 unfold bs
 rw[ByteArray.data_extract,Array.toList_extract]
 simp[List.extract]
theorem tokG_lex (s:ByteArray):∀(f a:Nat),a≤s.size→(tokG s f (skp s a)).map tk=lexL f (s.data.toList.drop a)
 | 0,a,_=>rfl
 | f+1,a,ha=>by
  rw[lexL]
  have hd:(s.data.toList.drop a).drop (skipN false (s.data.toList.drop a))=s.data.toList.drop (skp s a):=by rw[List.drop_drop];rfl
  rw[hd]
  by_cases h:skp s a<s.size
  ·rw[tokG_step s f _ h]
   have hc:=drop_byteAt s (skp s a) h
   have hl:=lenAt_drop s (skp s a) _ _ hc
   rw[←hc] at hl
   rw[hc]
   simp only[List.map_cons]
   rw[←hc,←hl,List.drop_drop,tokG_lex s f _ (lenAt_le s _ h)]
   congr 1
   show (kindOf (byteAt s (skp s a)),bs (s.extract (skp s a) (skp s a+lenAt s (skp s a))))=_
   rw[bs_extract]
  ·rw[tokG_end s f _ h,List.drop_eq_nil_of_le (by rw[size_list];omega)]
   rfl
theorem toks_lex (s:ByteArray):(toks s).map tk=lexL (s.size+1) (bs s):=tokG_lex s (s.size+1) 0 (Nat.zero_le _)
def gapB (x y:TkL):Bool:=decide (x.1=0) && (decide (y.1=0) || decide (y.1=1)) || decide (x.1=1) && decide (y.1=1)
def gapT (x y:TkL):List UInt8:=if gapB x y then [32] else []
def ser:List TkL→List UInt8
 | []=>[]
 | [x]=>x.2
 | x::y::l=>x.2++(gapT x y++ser (y::l))
def WTk (x:TkL):Prop:=(x.1=0∧∃c r,x.2=c::r∧letterP c=true∧∀b∈r,innerP b=true)∨(x.1=1∧∃c r,x.2=c::r∧digitP c=true∧∀b∈r,digitP b=true)∨(x.1=2∧∃c,x.2=[c]∧kindOf c=2)
inductive WTs:List TkL→Prop
 | last:WTs [(3,[])]
 | cons {x:TkL} {l:List TkL}:WTk x→WTs l→WTs (x::l)
theorem run_all (p:UInt8→Bool):∀(l r:List UInt8),(∀b∈l,p b=true)→(∀c t,r=c::t→p c=false)→runP p (l++r)=l.length
 | [],r,_,h=>by
  cases r with
  | nil=>rfl
  | cons c t=>unfold runP;rw[List.nil_append,List.takeWhile_cons,h c t rfl];rfl
 | c::l,r,h1,h2=>by
  have:=run_all p l r (fun b hb=>h1 b (.tail _ hb)) h2
  unfold runP at this ⊢
  rw[List.cons_append,List.takeWhile_cons,if_pos (h1 c (.head _)),List.length_cons,this,List.length_cons]
theorem skip_no {c:UInt8} (l:List UInt8) (h1:Lx.blank c=false) (h2:c.toNat≠35):skipN false (c::l)=0:=by
 rw[skipN,if_neg h2,h1];rfl
theorem lexL_gap (f:Nat) (l:List UInt8):lexL f (32::l)=lexL f l:=by
 cases f with
 | zero=>rfl
 | succ f=>
  rw[lexL,lexL]
  have:skipN false (32::l)=1+skipN false l:=by rw[skipN,if_neg (by decide),if_pos (by decide)]
  rw[this,Nat.add_comm,List.drop_succ_cons]
theorem lexL_gapT (f:Nat) (x y:TkL) (l:List UInt8):lexL f (gapT x y++l)=lexL f l:=by
 unfold gapT
 split
 ·exact lexL_gap f l
 ·rfl
theorem WTs.head {y:TkL} {l:List TkL} (h:WTs (y::l)):(y.1=3∧ser (y::l)=[])∨(WTk y∧∃c t,y.2=c::t∧∃u,ser (y::l)=c::u):=by
 cases h with
 | last=>exact .inl ⟨rfl,rfl⟩
 | cons hx hl=>
  refine .inr ⟨hx,?_⟩
  have:∃c t,y.2=c::t:=by
   rcases hx with⟨_,c,r,e,_⟩|⟨_,c,r,e,_⟩|⟨_,c,e,_⟩
   ·exact⟨c,r,e⟩
   ·exact⟨c,r,e⟩
   ·exact⟨c,[],e⟩
  obtain⟨c,t,e⟩:=this
  refine⟨c,t,e,?_⟩
  cases hl with
  | last=>exact⟨_,by rw[ser,e];rfl⟩
  | cons hy hm=>exact⟨_,by rw[ser,e];rfl⟩
theorem after_word {x y:TkL} {l:List TkL} (hx:x.1=0) (h:WTs (y::l)):∀c t,gapT x y++ser (y::l)=c::t→innerP c=false:=by
 intro c t e
 unfold gapT at e
 split at e
 ·injection e with e1 _;subst e1;decide
 ·next hg=>
  rw[List.nil_append] at e
  rcases h.head with⟨_,e0⟩|⟨hy,c',t',e1,u,e2⟩
  ·rw[e0] at e;cases e
  ·rw[e2] at e;injection e with e3 _;subst e3
   rcases hy with⟨k,_⟩|⟨k,_⟩|⟨_,c2,e4,k2⟩
   ·exact absurd (by simp[gapB,hx,k]) hg
   ·exact absurd (by simp[gapB,hx,k]) hg
   ·rw[e1] at e4;injection e4 with e5 _;subst e5
    exact ((byte_sorts c').2.2.1 k2).1
theorem after_num {x y:TkL} {l:List TkL} (hx:x.1=1) (h:WTs (y::l)):∀c t,gapT x y++ser (y::l)=c::t→digitP c=false:=by
 intro c t e
 unfold gapT at e
 split at e
 ·injection e with e1 _;subst e1;decide
 ·next hg=>
  rw[List.nil_append] at e
  rcases h.head with⟨_,e0⟩|⟨hy,c',t',e1,u,e2⟩
  ·rw[e0] at e;cases e
  ·rw[e2] at e;injection e with e3 _;subst e3
   rcases hy with⟨k,c2,r2,e4,k2,_⟩|⟨k,_⟩|⟨_,c2,e4,k2⟩
   ·rw[e1] at e4;injection e4 with e5 _;subst e5
    exact ((byte_sorts c').1 k2).2.2.1
   ·exact absurd (by simp[gapB,hx,k]) hg
   ·rw[e1] at e4;injection e4 with e5 _;subst e5
    exact ((byte_sorts c').2.2.1 k2).2.2.1
theorem lex_ser:∀ {l:List TkL},WTs l→∀f,l.length≤f→lexL f (ser l)=l
 | _,.last,f,hf=>by
  cases f with
  | zero=>simp at hf
  | succ f=>rfl
 | _,.cons (x:=x) (l:=l) hx hl,f,hf=>by
  cases l with
  | nil=>cases hl
  | cons y r=>
   cases f with
   | zero=>simp at hf
   | succ f=>
    have ih:=lex_ser hl f (by simpa using hf)
    have key:∀c t,x.2=c::t→kindOf c=x.1→Lx.blank c=false→c.toNat≠35→lenL (x.2++(gapT x y++ser (y::r)))=x.2.length→lexL (f+1) (ser (x::y::r))=x::y::r:=by
     intro c t e hk hb h35 hlen
     rw[ser,lexL]
     rw[e] at hlen ⊢
     rw[List.cons_append,skip_no _ hb h35,List.drop_zero]
     rw[List.cons_append] at hlen
     simp only
     rw[hlen,←List.cons_append,List.take_left',List.drop_left',lexL_gapT,ih,hk,←e]
     ·rfl
     ·rfl
    rcases hx with⟨k,c,t,e,hc,ht⟩|⟨k,c,t,e,hc,ht⟩|⟨k,c,e,hc⟩
    ·have hs:=(byte_sorts c).1 hc
     refine key c t e (by rw[hs.1,k]) hs.2.2.2.1 hs.2.2.2.2 ?_
     have hr:=run_all innerP x.2 (gapT x y++ser (y::r)) (by rw[e];intro b hb;exact (List.mem_cons.1 hb).elim (fun e=>e ▸ hs.2.1) (ht b)) (after_word k hl)
     rw[←hr]
     rw[e,List.cons_append,lenL,if_pos hc]
    ·have hs:=(byte_sorts c).2.1 hc
     refine key c t e (by rw[hs.1,k]) hs.2.2.2.1 hs.2.2.2.2 ?_
     have hr:=run_all digitP x.2 (gapT x y++ser (y::r)) (by rw[e];intro b hb;exact (List.mem_cons.1 hb).elim (fun e=>e ▸ hc) (ht b)) (after_num k hl)
     rw[←hr]
     rw[e,List.cons_append,lenL,if_neg (by rw[hs.2.2.1];decide),if_pos hc]
    ·have hs:=(byte_sorts c).2.2.1 hc
     refine key c [] e (by rw[hc,k]) hs.2.2.2.1 hs.2.2.2.2 ?_
     rw[e,List.cons_append,lenL,if_neg (by rw[hs.2.1];decide),if_neg (by rw[hs.2.2.1];decide)]
     rfl
/-! ### A text's tokens -/
theorem take_run (p:UInt8→Bool):∀(l:List UInt8),∀b∈l.take (runP p l),p b=true
 | [],b,hb=>by simp at hb
 | c::l,b,hb=>by
  have ih:=take_run p l b
  unfold runP at hb ih
  rw[List.takeWhile_cons] at hb
  split at hb
  ·next hc=>
   rw[List.length_cons,List.take_succ_cons] at hb
   rcases List.mem_cons.1 hb with rfl|hb
   ·exact hc
   ·exact ih hb
  ·simp at hb
theorem run_pos {p:UInt8→Bool} {c:UInt8} {l:List UInt8} (h:p c=true):runP p (c::l)=runP p l+1:=by unfold runP;rw[List.takeWhile_cons,if_pos h];rfl
theorem lenL_pos (c:UInt8) (r:List UInt8):1≤lenL (c::r):=by
 rw[lenL]
 split
 ·next h=>rw[run_pos ((byte_sorts c).1 h).2.1];omega
 ·split
  ·next h=>rw[run_pos h];omega
  ·exact Nat.le_refl _
theorem wtk_of {c:UInt8} {r:List UInt8} (h:0≤kindOf c):WTk (kindOf c,(c::r).take (lenL (c::r))):=by
 by_cases hc:letterP c=true
 ·have hs:=(byte_sorts c).1 hc
  refine .inl ⟨hs.1,c,r.take (runP innerP r),?_,hc,take_run innerP r⟩
  rw[lenL,if_pos hc,run_pos hs.2.1,List.take_succ_cons]
 ·by_cases hd:digitP c=true
  ·have hs:=(byte_sorts c).2.1 hd
   refine .inr (.inl ⟨hs.1,c,r.take (runP digitP r),?_,hd,take_run digitP r⟩)
   rw[lenL,if_neg hc,if_pos hd,run_pos hd,List.take_succ_cons]
  ·have hk:kindOf c=2:=by
    rcases (byte_sorts c).2.2.2.1 (by simpa using hc) (by simpa using hd) with e|e
    ·exact e
    ·omega
   exact .inr (.inr ⟨hk,c,by rw[lenL,if_neg hc,if_neg hd];rfl,hk⟩)
theorem lexL_wf:∀(f:Nat) (l:List UInt8),l.length<f→(∀x∈lexL f l,0≤x.1)→WTs (lexL f l)
 | 0,l,h,_=>by omega
 | f+1,l,h,hk=>by
  rw[lexL] at hk ⊢
  cases hd:l.drop (skipN false l) with
  | nil=>exact .last
  | cons c r=>
   rw[hd] at hk
   simp only at hk ⊢
   have hl:(c::r).length≤l.length:=by rw[←hd,List.length_drop];omega
   refine .cons (wtk_of (hk _ (.head _))) (lexL_wf f _ ?_ fun x hx=>hk x (.tail _ hx))
   have:=lenL_pos c r
   have h1:1≤(c::r).length:=by simp
   rw[List.length_drop]
   omega
theorem run_end (p:UInt8→Bool):∀(l:List UInt8) (c:UInt8) (t:List UInt8),l.drop (runP p l)=c::t→p c=false
 | [],c,t,h=>by simp[runP] at h
 | a::l,c,t,h=>by
  by_cases ha:p a=true
  ·rw[run_pos ha,List.drop_succ_cons] at h
   exact run_end p l c t h
  ·unfold runP at h
   rw[List.takeWhile_cons,if_neg ha] at h
   injection h with h1 _
   rw[←h1];simpa using ha
theorem ser_len:∀(f:Nat) (l:List UInt8),l.length<f→(ser (lexL f l)).length+skipN false l≤l.length
 | 0,l,h=>by omega
 | f+1,l,h=>by
  have hsk:=skipN_le false l
  rw[lexL]
  cases hd:l.drop (skipN false l) with
  | nil=>simpa [ser] using hsk
  | cons c r=>
   simp only
   have hl:(c::r).length=l.length-skipN false l:=by rw[←hd,List.length_drop]
   have hp:=lenL_pos c r
   generalize hn:lenL (c::r)=n at hp ⊢
   have hr:((c::r).drop n).length<f:=by
    rw[List.length_drop]
    have:1≤(c::r).length:=by simp
    omega
   have ih:=ser_len f ((c::r).drop n) hr
   have hnl:n≤(c::r).length:=by
    rw[←hn,lenL]
    split
    ·exact runP_le _ _
    ·split
     ·exact runP_le _ _
     ·simp
   have ht:((c::r).take n).length=n:=by rw[List.length_take];omega
   rw[List.length_drop] at ih
   cases hx:lexL f ((c::r).drop n) with
   | nil=>rw[ser];simp only;omega
   | cons y m=>
    rw[hx] at ih
    rw[ser,List.length_append,List.length_append]
    simp only
    rw[ht]
    have hg:(gapT (kindOf c,(c::r).take n) y).length≤skipN false ((c::r).drop n):=by
     unfold gapT
     split
     ·next hg=>
      show 1≤_
      rcases Nat.eq_zero_or_pos (skipN false ((c::r).drop n)) with h0|h0
      ·exfalso
       cases f with
       | zero=>omega
       | succ f=>
        rw[lexL,h0,List.drop_zero] at hx
        cases hd2:(c::r).drop n with
        | nil=>
         rw[hd2] at hx
         injection hx with e _
         subst e
         simp[gapB] at hg
        | cons c2 r2=>
         rw[hd2] at hx
         injection hx with e _
         subst e
         simp only[gapB,Bool.or_eq_true,Bool.and_eq_true,decide_eq_true_eq] at hg
         have hs2:=byte_sorts c2
         by_cases hc:letterP c=true
         ·rw[lenL,if_pos hc] at hn
          subst hn
          have:=run_end innerP (c::r) c2 r2 hd2
          obtain⟨q1,q2⟩:=hs2.2.2.2.2.1 this
          have:=hs2.2.2.2.1 q1 q2
          omega
         ·by_cases hdc:digitP c=true
          ·have hk:=(byte_sorts c).2.1 hdc
           rw[lenL,if_neg hc,if_pos hdc] at hn
           subst hn
           have hq:=run_end digitP (c::r) c2 r2 hd2
           rcases Bool.eq_false_or_eq_true (letterP c2) with q1|q1
           ·have:=hs2.1 q1;omega
           ·have:=hs2.2.2.2.1 q1 hq;omega
          ·have:=(byte_sorts c).2.2.2.1 (by simpa using hc) (by simpa using hdc)
           omega
      ·exact h0
     ·simp
    omega
theorem relex (s:ByteArray) (h:∀t∈toks s,0≤t.k):WTs ((toks s).map tk)∧(ser ((toks s).map tk)).length≤s.size∧(toks ⟨(ser ((toks s).map tk)).toArray⟩).map tk=(toks s).map tk:=by
 have e:=toks_lex s
 have hsz:(bs s).length=s.size:=size_list s
 have hw:WTs ((toks s).map tk):=by
  rw[e]
  refine lexL_wf _ _ (by rw[hsz];omega) fun x hx=>?_
  rw[←e] at hx
  obtain⟨t,ht,rfl⟩:=List.mem_map.1 hx
  exact h t ht
 have hlen:(ser ((toks s).map tk)).length≤s.size:=by
  have:=ser_len (s.size+1) (bs s) (by rw[hsz];omega)
  rw[e];omega
 refine⟨hw,hlen,?_⟩
 rw[toks_lex]
 have hb:bs ⟨(ser ((toks s).map tk)).toArray⟩=ser ((toks s).map tk):=by simp[bs]
 rw[hb]
 refine lex_ser hw _ ?_
 have:∀ {l:List TkL},WTs l→l.length≤(ser l).length+1:=by
  intro l hl
  induction hl with
  | last=>simp
  | @cons x l hx hl ih=>
   have h1:1≤x.2.length:=by
    rcases hx with⟨_,c,r,e,_⟩|⟨_,c,r,e,_⟩|⟨_,c,e,_⟩<;>rw[e]<;>simp
   cases l with
   | nil=>cases hl
   | cons y m=>
    rw[ser,List.length_append,List.length_append,List.length_cons]
    omega
 have h2:=this hw
 rw[show (ByteArray.mk (ser ((toks s).map tk)).toArray).size=(ser ((toks s).map tk)).length by simp[ByteArray.size]]
 exact h2
theorem valP_snoc:∀(l:List UInt8) (c:UInt8) (n:Nat),valP (l++[c]) n=10*valP l n+(c.toNat-48)
 | [],c,n=>rfl
 | a::l,c,n=>by rw[List.cons_append,valP,valP,valP_snoc l c]
theorem valP_ge:∀(l:List UInt8) (n:Nat),n≤valP l n
 | [],n=>Nat.le_refl _
 | a::l,n=>by rw[valP];exact Nat.le_trans (by omega) (valP_ge l _)
theorem digit_byte (c:UInt8):digitP c=true→UInt8.ofNat (48+(c.toNat-48))=c∧c.toNat-48<10∧(c.toNat≠48→1≤c.toNat-48):=
 all_bytes (P:=fun c=>digitP c=true→UInt8.ofNat (48+(c.toNat-48))=c∧c.toNat-48<10∧(c.toNat≠48→1≤c.toNat-48)) (by decide +kernel) c
theorem dec_one (c:UInt8) (h:digitP c=true):Lib.decDigits (valP [c] 0)=[c]:=by
 obtain⟨h1,h2,_⟩:=digit_byte c h
 rw[show valP [c] 0=c.toNat-48 by simp[valP],Lib.decDigits_one h2,h1]
theorem dec_more {l:List UInt8} {c:UInt8} (hc:digitP c=true) (hv:1≤valP l 0):Lib.decDigits (valP (l++[c]) 0)=Lib.decDigits (valP l 0)++[c]:=by
 obtain⟨h1,h2,_⟩:=digit_byte c hc
 rw[valP_snoc,Lib.decDigits,dif_neg (by omega)]
 have e1:(10*valP l 0+(c.toNat-48)) / 10=valP l 0:=by omega
 have e2:(10*valP l 0+(c.toNat-48))%10=c.toNat-48:=by omega
 rw[e1,e2,h1]
theorem run_full:∀ {p:UInt8→Bool} {l:List UInt8},runP p l=l.length→∀b∈l,p b=true
 | p,[],_,b,hb=>by cases hb
 | p,c::l,h,b,hb=>by
  unfold runP at h
  rw[List.takeWhile_cons] at h
  split at h
  ·next hc=>
   rcases List.mem_cons.1 hb with rfl|hb
   ·exact hc
   ·exact run_full (p:=p) (l:=l) (by unfold runP;simpa using h) b hb
  ·simp at h
theorem num_dec {l:List UInt8} {v:Nat} (h:numO l=some v):Lib.itoa (v:Int)=l:=by
 unfold numO at h
 split at h
 ·cases h
 ·next h0=>
  split at h
  ·cases h
  ·next h1=>
   split at h
   ·cases h
   ·next h2=>
    split at h
    ·cases h
    ·next h3=>
     split at h
     ·cases h
     ·injection h with h
      subst h
      have hd:∀b∈l,digitP b=true:=run_full (by simpa using h2)
      have e:Lib.itoa ((valP l 0:Nat):Int)=Lib.decDigits (valP l 0):=by
       unfold Lib.itoa;rw[if_neg (by omega)];rfl
      rw[e]
      match l,h0,h1,h3,hd with
      | [a],_,_,_,hd=>exact dec_one a (hd a (by simp))
      | [a,b],_,h1,_,hd=>
       have ha:1≤valP [a] 0:=by
        have:=(digit_byte a (hd a (by simp))).2.2 (fun e=>h1 ⟨by simp,e⟩)
        simpa [valP] using this
       rw[show [a,b]=[a]++[b] from rfl,dec_more (hd b (by simp)) ha,dec_one a (hd a (by simp))]
      | [a,b,c],_,h1,_,hd=>
       have ha:1≤valP [a] 0:=by
        have:=(digit_byte a (hd a (by simp))).2.2 (fun e=>h1 ⟨by simp,e⟩)
        simpa [valP] using this
       have hb:1≤valP ([a]++[b]) 0:=by rw[valP_snoc];omega
       rw[show [a,b,c]=([a]++[b])++[c] from rfl,dec_more (hd c (by simp)) hb,dec_more (hd b (by simp)) ha,dec_one a (hd a (by simp))]
      | [a,b,c,d],_,h1,_,hd=>
       have ha:1≤valP [a] 0:=by
        have:=(digit_byte a (hd a (by simp))).2.2 (fun e=>h1 ⟨by simp,e⟩)
        simpa [valP] using this
       have hb:1≤valP ([a]++[b]) 0:=by rw[valP_snoc];omega
       have hc:1≤valP (([a]++[b])++[c]) 0:=by rw[valP_snoc];omega
       rw[show [a,b,c,d]=(([a]++[b])++[c])++[d] from rfl,dec_more (hd d (by simp)) hc,dec_more (hd c (by simp)) hb,dec_more (hd b (by simp)) ha,dec_one a (hd a (by simp))]
      | a::b::c::d::e::r,_,_,h3,_=>simp at h3
end Go.Proofs.YtmaoochjbpohdaaGreatDoor.Pr
