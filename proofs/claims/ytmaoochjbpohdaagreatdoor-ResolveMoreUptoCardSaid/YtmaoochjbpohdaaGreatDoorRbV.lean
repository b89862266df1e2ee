/- parse: the reference's reader: the gates ahead of a type, walked. -/
import Derived.Test.YtmaoochjbpohdaaGreatDoorRbU
set_option linter.unusedVariables false
set_option linter.unusedSimpArgs false
set_option maxRecDepth 100000
set_option maxHeartbeats 1000000
namespace Go.Proofs.YtmaoochjbpohdaaGreatDoor
namespace Pr
open Go.ChangeShapes Go.WideShapes Go.ChangeAt Go.RowKit
open Base Lx Mi Piece
def GM (B R:Nat) (vl vn:Value) (vs:List V3) (L:List Tok) (sl:List Value) (w:World) (q:QS) (a:Act) (w':World):Prop:=Fr 161 sl a∧Chg (fun k=>k=R) w w'∧Rq B w' R vl vn vs L q
section
variable {B R:Nat} {vl vn:Value} {vs:List V3} {L:List Tok} {q:QS}
theorem bad_n (b:Bool) (er:Nat) (i:Int) (hi:(er:Int)=i) (w:World) (h:Rq B w R vl vn vs L q):Calls Tryz.prog 66 #[.pointer (some ⟨R,0,none⟩),.bool b,.int .i64 i] w fun e w'=>PQ B R vl vn vs L w (badQ L q b er) e w':=by
 subst hi;exact bad_any b er w h
theorem Rq.castB {w:World} {b b':Bool} {e:Nat} (h:Rq B w R vl vn vs L (badQ L q b e)) (hb:b=b'):Rq B w R vl vn vs L (badQ L q b' e):=by rw[←hb];exact h
set_option maxRecDepth 1000000 in
set_option maxHeartbeats 8000000 in
theorem gate7 {deep fuel:Nat} (hdf:deep+fuel=20) (k nn:Int) (v2 v3 v4 v5 v6 v7 v9:Value) (w0:World) (Q:Exit→Act→World→Prop) (a:Act) (w:World)
  (hM:GM B R vl vn vs L [.pointer (some ⟨R,0,none⟩),.int .i64 (deep:Int),v2,v3,v4,v5,v6,v7,.int .i64 0,v9,.int .i64 k,.int .i64 nn] w0 q a w)
  (hQ:∀a' w',GM B R vl vn vs L [.pointer (some ⟨R,0,none⟩),.int .i64 (deep:Int),v2,v3,v4,v5,v6,v7,.int .i64 0,v9,.int .i64 k,.int .i64 nn] w0 (badQ L q (decide (fuel=0) || (decide (0≤k) && decide (200≤q.ns.length))) 2) a' w'→(tlC 8 Tryz.f65.body).wp Tryz.prog Q a' w') :
  (tlC 7 Tryz.f65.body).wp Tryz.prog Q a w:=by
 conv=>arg 2;whnf
 refine seq_mid _ ?_ hQ
 intro K hK
 clear hQ
 obtain⟨hF,hc,h⟩:=hM
 obtain⟨u,rfl⟩:=lay161 hF
 clear hF
 obtain⟨A,c,rfl,hnc,hcm⟩:=h.slice
 have c2:w.cell? ⟨R,2,none⟩=some (.slice A q.ns.length c):=h.blk.cell 2
 obtain⟨n,hn⟩:∃z,Hid (q.ns.length=z):=⟨_,Lib.hid rfl⟩
 rw[hn.out] at c2 hK h
 have hbd:=fun b=>bad_n b 2 2 rfl w h
 by_cases hf:fuel=0
 ·have hd:(20:Int)≤(deep:Int):=by omega
  go_wp2_with fail
  refine (hbd _).mono ?_
  rintro e w2 ⟨rfl,hc2,h2⟩
  have hc02:=hc.trans hc2 (fun _ _ e=>e)
  have h2:=h2.castB (b':=decide (fuel=0) || (decide (0≤k) && decide (200≤n))) (by simp[hf,hd])
  go_wp2_with fail
  exact⟨⟨_,rfl,rfl⟩,hc02,h2⟩
 ·have hd:¬(20:Int)≤(deep:Int):=by omega
  by_cases hk:0≤k
  ·have hn2:((200:Int)≤(n:Int))=(200≤n):=by simp only[eq_iff_iff];omega
   go_wp2_with fail
   refine (hbd _).mono ?_
   rintro e w2 ⟨rfl,hc2,h2⟩
   have hc02:=hc.trans hc2 (fun _ _ e=>e)
   have h2:=h2.castB (b':=decide (fuel=0) || (decide (0≤k) && decide (200≤n))) (by first|(simp[hf,hk];done)|(simp[hf];omega))
   go_wp2_with fail
   exact⟨⟨_,rfl,rfl⟩,hc02,h2⟩
  ·have hk':k<0:=by omega
   go_wp2_with fail
   refine (hbd _).mono ?_
   rintro e w2 ⟨rfl,hc2,h2⟩
   have hc02:=hc.trans hc2 (fun _ _ e=>e)
   have h2:=h2.castB (b':=decide (fuel=0) || (decide (0≤k) && decide (200≤n))) (by first|(simp[hf,hk];done)|(simp[hf];omega))
   go_wp2_with fail
   exact⟨⟨_,rfl,rfl⟩,hc02,h2⟩
set_option maxRecDepth 1000000 in
set_option maxHeartbeats 8000000 in
theorem gate8 {deep:Nat} (k nn:Int) (v2 v3 v4 v5 v6 v7 v9:Value) (w0:World) (Q:Exit→Act→World→Prop) (a:Act) (w:World)
  (hM:GM B R vl vn vs L [.pointer (some ⟨R,0,none⟩),.int .i64 (deep:Int),v2,v3,v4,v5,v6,v7,.int .i64 0,v9,.int .i64 k,.int .i64 nn] w0 q a w)
  (hQ:∀a' w',GM B R vl vn vs L [.pointer (some ⟨R,0,none⟩),.int .i64 (deep:Int),v2,v3,v4,v5,v6,v7,.int .i64 0,v9,.int .i64 k,.int .i64 nn] w0 (badQ L q (decide (k<0) && decide (nn<0)) 5) a' w'→(tlC 9 Tryz.f65.body).wp Tryz.prog Q a' w') :
  (tlC 8 Tryz.f65.body).wp Tryz.prog Q a w:=by
 conv=>arg 2;whnf
 refine seq_mid _ ?_ hQ
 intro K hK
 clear hQ
 obtain⟨hF,hc,h⟩:=hM
 obtain⟨u,rfl⟩:=lay161 hF
 clear hF
 have hbd:=fun b=>bad_n b 5 5 rfl w h
 by_cases hk:k<0
 ·go_wp2_with fail
  refine (hbd _).mono ?_
  rintro e w2 ⟨rfl,hc2,h2⟩
  have hc02:=hc.trans hc2 (fun _ _ e=>e)
  have h2:=h2.castB (b':=decide (k<0) && decide (nn<0)) (by first|(simp[hk];done)|(simp;omega))
  go_wp2_with fail
  exact⟨⟨_,rfl,rfl⟩,hc02,h2⟩
 ·go_wp2_with fail
  refine (hbd _).mono ?_
  rintro e w2 ⟨rfl,hc2,h2⟩
  have hc02:=hc.trans hc2 (fun _ _ e=>e)
  have h2:=h2.castB (b':=decide (k<0) && decide (nn<0)) (by first|(simp[hk];done)|(simp;omega))
  go_wp2_with fail
  exact⟨⟨_,rfl,rfl⟩,hc02,h2⟩
set_option maxRecDepth 1000000 in
set_option maxHeartbeats 8000000 in
theorem gate9 {deep:Nat} (k nn:Int) (union:Bool) (v3 v4 v5 v6 v7 v9:Value) (w0:World) (Q:Exit→Act→World→Prop) (a:Act) (w:World)
  (hM:GM B R vl vn vs L [.pointer (some ⟨R,0,none⟩),.int .i64 (deep:Int),.bool union,v3,v4,v5,v6,v7,.int .i64 0,v9,.int .i64 k,.int .i64 nn] w0 q a w)
  (hQ:∀a' w',GM B R vl vn vs L [.pointer (some ⟨R,0,none⟩),.int .i64 (deep:Int),.bool union,v3,v4,v5,v6,v7,.int .i64 0,v9,.int .i64 k,.int .i64 nn] w0 (badQ L q (union && decide (k=8)) 4) a' w'→(tlC 10 Tryz.f65.body).wp Tryz.prog Q a' w') :
  (tlC 9 Tryz.f65.body).wp Tryz.prog Q a w:=by
 conv=>arg 2;whnf
 refine seq_mid _ ?_ hQ
 intro K hK
 clear hQ
 obtain⟨hF,hc,h⟩:=hM
 obtain⟨u,rfl⟩:=lay161 hF
 clear hF
 have hbd:=fun b=>bad_n b 4 4 rfl w h
 cases union with
 | true=>
  go_wp2_with fail
  refine (hbd _).mono ?_
  rintro e w2 ⟨rfl,hc2,h2⟩
  have hc02:=hc.trans hc2 (fun _ _ e=>e)
  have h2:=h2.castB (b':=true && decide (k=8)) (by first|rfl|simp)
  go_wp2_with fail
  exact⟨⟨_,rfl,rfl⟩,hc02,h2⟩
 | false=>
  go_wp2_with fail
  refine (hbd _).mono ?_
  rintro e w2 ⟨rfl,hc2,h2⟩
  have hc02:=hc.trans hc2 (fun _ _ e=>e)
  have h2:=h2.castB (b':=false && decide (k=8)) (by rfl)
  go_wp2_with fail
  exact⟨⟨_,rfl,rfl⟩,hc02,h2⟩
set_option maxRecDepth 1000000 in
set_option maxHeartbeats 8000000 in
theorem gate10 {deep:Nat} (k nn:Int) (union:Bool) (ahead:List Nat) (A:Option Addr) (na ca:Nat) (v4 v5 v6 v7 v9:Value) (w0:World) (Q:Exit→Act→World→Prop) (a:Act) (w:World)
  (hM:GM B R vl vn vs L [.pointer (some ⟨R,0,none⟩),.int .i64 (deep:Int),.bool union,.slice A na ca,v4,v5,v6,v7,.int .i64 0,v9,.int .i64 k,.int .i64 nn] w0 q a w) (hA:Rd w A (ints ahead)) (hna:ahead.length=na) (hna2:na≤100000) (hm:∀m∈ahead,m<q.ns.length)
  (hQ:∀a' w',GM B R vl vn vs L [.pointer (some ⟨R,0,none⟩),.int .i64 (deep:Int),.bool union,.slice A na ca,v4,v5,v6,v7,.int .i64 0,v9,.int .i64 k,.int .i64 nn] w0 (badQ L q (union && sameQ q.ns ahead k nn && (decide (0≤k) || decide (0≤nn))) 6) a' w'→(upC 11 Tryz.f65.body).wp Tryz.prog Q a' w') :
  (tlC 10 Tryz.f65.body).wp Tryz.prog Q a w:=by
 conv=>arg 2;whnf
 refine seq_mid _ ?_ hQ
 intro K hK
 clear hQ
 obtain⟨hF,hc,h⟩:=hM
 obtain⟨u,rfl⟩:=lay161 hF
 clear hF
 have hbd:=fun b=>bad_n b 6 6 rfl w h
 have hsm:=same_any A na ca ahead k nn w h hA hna hna2 hm
 cases union with
 | true=>
  obtain⟨sm,hsm'⟩:∃z,Hid (sameQ q.ns ahead k nn=z):=⟨_,Lib.hid rfl⟩
  rw[hsm'.out] at hsm hK
  go_wp2_with fail
  refine hsm.mono ?_
  rintro e w1 ⟨rfl,hx1⟩
  have hbd1:=fun b=>bad_n b 6 6 rfl w1 (h.ext hx1)
  have hc1:=hc.trans (Chg.ofExt hx1) (fun _ _ e=>e)
  clear hbd hsm
  cases sm with
  | false=>
   go_wp2_with fail
   refine (hbd1 _).mono ?_
   rintro e w2 ⟨rfl,hc2,h2⟩
   have hc02:=hc1.trans hc2 (fun _ _ e=>e)
   have h2:=h2.castB (b':=true && false && (decide (0≤k) || decide (0≤nn))) (by simp)
   go_wp2_with fail
   exact⟨⟨_,rfl,rfl⟩,hc02,h2⟩
  | true=>
   by_cases hk:0≤k
   ·go_wp2_with fail
    refine (hbd1 _).mono ?_
    rintro e w2 ⟨rfl,hc2,h2⟩
    have hc02:=hc1.trans hc2 (fun _ _ e=>e)
    have h2:=h2.castB (b':=true && true && (decide (0≤k) || decide (0≤nn))) (by first|(simp[hk];done)|(simp;omega))
    go_wp2_with fail
    exact⟨⟨_,rfl,rfl⟩,hc02,h2⟩
   ·go_wp2_with fail
    refine (hbd1 _).mono ?_
    rintro e w2 ⟨rfl,hc2,h2⟩
    have hc02:=hc1.trans hc2 (fun _ _ e=>e)
    have h2:=h2.castB (b':=true && true && (decide (0≤k) || decide (0≤nn))) (by first|(simp[hk];done)|(simp;omega))
    go_wp2_with fail
    exact⟨⟨_,rfl,rfl⟩,hc02,h2⟩
 | false=>
  go_wp2_with fail
  refine (hbd _).mono ?_
  rintro e w2 ⟨rfl,hc2,h2⟩
  have hc02:=hc.trans hc2 (fun _ _ e=>e)
  have h2:=h2.castB (b':=false && sameQ q.ns ahead k nn && (decide (0≤k) || decide (0≤nn))) (by rfl)
  go_wp2_with fail
  exact⟨⟨_,rfl,rfl⟩,hc02,h2⟩
end
set_option maxRecDepth 1000000 in
theorem lay161b {v0 v1 v2 v3 v4 v5 v6 v7 v8:Value} {a:Act} (h:Piece.Fr 161 [v0,v1,v2,v3,v4,v5,v6,v7,v8] a):∃u:Nat→Value,a=⟨(v0::v1::v2::v3::v4::v5::v6::v7::v8::u 9::u 10::u 11::u 12::u 13::u 14::u 15::u 16::u 17::u 18::u 19::u 20::u 21::u 22::u 23::u 24::u 25::u 26::u 27::u 28::u 29::u 30::u 31::u 32::u 33::u 34::u 35::u 36::u 37::u 38::u 39::u 40::u 41::u 42::u 43::u 44::u 45::u 46::u 47::u 48::u 49::u 50::u 51::u 52::u 53::u 54::u 55::u 56::u 57::u 58::u 59::u 60::u 61::u 62::u 63::u 64::u 65::u 66::u 67::u 68::u 69::u 70::u 71::u 72::u 73::u 74::u 75::u 76::u 77::u 78::u 79::u 80::u 81::u 82::u 83::u 84::u 85::u 86::u 87::u 88::u 89::u 90::u 91::u 92::u 93::u 94::u 95::u 96::u 97::u 98::u 99::u 100::u 101::u 102::u 103::u 104::u 105::u 106::u 107::u 108::u 109::u 110::u 111::u 112::u 113::u 114::u 115::u 116::u 117::u 118::u 119::u 120::u 121::u 122::u 123::u 124::u 125::u 126::u 127::u 128::u 129::u 130::u 131::u 132::u 133::u 134::u 135::u 136::u 137::u 138::u 139::u 140::u 141::u 142::u 143::u 144::u 145::u 146::u 147::u 148::u 149::u 150::u 151::u 152::u 153::u 154::u 155::u 156::u 157::u 158::u 159::u 160::[]).toArray,[]⟩:=by
 obtain⟨u,hu⟩:=h.spread
 refine⟨u,hu.trans ?_⟩
 kernel_rfl
def M1 (sl:List Value) (w:World) (g:Nat) (t:Tok) (R:Nat) (a:Act) (w':World):Prop:=Fr 161 sl a∧Ext w w'∧Blk w' g #[.int .i64 t.k,.string t.s,.int .i64 (t.a:Int)] 105∧¬g=R
section
variable {B R:Nat} {vl vn:Value} {vs:List V3} {L:List Tok} {q:QS}
set_option maxRecDepth 1000000 in
set_option maxHeartbeats 8000000 in
theorem typed7 {deep fuel:Nat} (hTk:TokOk L) (hdf:deep+fuel=20) (H:∀f,fuel=f+1→TypQ B R L (deep+1) f) (union:Bool) (ahead:List Nat) (A:Option Addr) (na ca:Nat) (v4 v5 v6 v7 v9:Value) (w:World) (h:Rq B w R vl vn vs L q) (hw:q.why=0) (hW:WQ L q.at_ q) (hA:Rd w A (ints ahead)) (hna:ahead.length=na) (hna2:na≤100000) (hm:∀m∈ahead,m<q.ns.length) (hB:B≤w.heap.size) (hAR:∀a,A=some a→¬a.block=R) (PO:Ending→World→Prop)
  (hQ:∀w',PT B R vl vn vs L w (typedQ L fuel union ahead q).2 w'→PO (.returned (.int .i64 ((typedQ L fuel union ahead q).1:Int))) w') (a:Act) (w':World)
  (hM:GM B R vl vn vs L [.pointer (some ⟨R,0,none⟩),.int .i64 (deep:Int),.bool union,.slice A na ca,v4,v5,v6,v7,.int .i64 0,v9,.int .i64 (kOf (tkQ L q)),.int .i64 (calledQ L q)] w (gate1 L q) a w') :
  (tlC 7 Tryz.f65.body).wp Tryz.prog (bodyPost Tryz.prog Tryz.f65 PO) a w':=by
 refine gate7 hdf _ _ _ _ _ _ _ _ _ w _ a w' hM (fun a1 w1 hM=>?_)
 refine gate8 _ _ _ _ _ _ _ _ _ w _ a1 w1 hM (fun a2 w2 hM=>?_)
 refine gate9 _ _ _ _ _ _ _ _ _ w _ a2 w2 hM (fun a3 w3 hM=>?_)
 have hn3:∀(x y z:Bool),(badQ L (badQ L (badQ L (gate1 L q) x 2) y 5) z 4).ns=q.ns:=fun x y z=>by rw[badQ_ns,badQ_ns,badQ_ns,gate1_ns]
 refine gate10 _ _ _ ahead _ _ _ _ _ _ _ _ w _ a3 w3 hM (hA.chg hM.2.1 (fun a ha e=>hAR a ha e)) hna hna2 (fun m h=>by rw[hn3];exact hm m h) (fun a4 w4 hM=>?_)
 rw[hn3] at hM
 have hg:gateQ L fuel union ahead q=badQ L (badQ L (badQ L (badQ L (gate1 L q) (decide (fuel=0) || (decide (0≤kOf (tkQ L q)) && decide (200≤(gate1 L q).ns.length))) 2) (decide (kOf (tkQ L q)<0) && decide (calledQ L q<0)) 5) (union && decide (kOf (tkQ L q)=8)) 4) (union && sameQ q.ns ahead (kOf (tkQ L q)) (calledQ L q) && (decide (0≤kOf (tkQ L q)) || decide (0≤calledQ L q))) 6:=by rw[gate1_ns];rfl
 rw[←hg] at hM
 obtain⟨hF,hc,h4⟩:=hM
 exact typed11 hTk hdf H union ahead hw hW _ _ rfl (fun _=>rfl) _ _ _ _ _ _ _ a4 w4 h4 (Nat.le_trans hB hc.size) PO hF (fun w5 hp=>hQ w5 (PT.after (q2:=gateQ L fuel union ahead q) (hc.mono fun k _ e=>.inl e) (.inl rfl) (SF.refl w vs) hp))
set_option maxRecDepth 1000000 in
set_option maxHeartbeats 8000000 in
theorem typed_step {deep fuel:Nat} (hTk:TokOk L) (hdf:deep+fuel=20) (H:∀f,fuel=f+1→TypQ B R L (deep+1) f):TypQ B R L deep fuel:=by
 intro union ahead A na ca q w vl vn vs h hw hW hA hna hna2 hm hB hAR
 obtain⟨PO,hPO⟩:∃PO:Ending→World→Prop,Hid ((fun e w'=>e=.returned (.int .i64 ((typedQ L fuel union ahead q).1:Int))∧PT B R vl vn vs L w (typedQ L fuel union ahead q).2 w')=PO):=⟨_,rfl⟩
 have hfin:∀w',PT B R vl vn vs L w (typedQ L fuel union ahead q).2 w'→PO (.returned (.int .i64 ((typedQ L fuel union ahead q).1:Int))) w':=fun w' hp=>by rw[←hPO.out];exact⟨rfl,hp⟩
 rw[hPO.out]
 have h7:=fun v4 v5 v6 v7 v9=>typed7 hTk hdf H union ahead A na ca v4 v5 v6 v7 v9 w h hw hW hA hna hna2 hm hB hAR PO hfin
 clear hPO H hfin
 have htk:=tok_any w h
 have hnm:=fun W hW=>nameQ_any W (h.ext (w':=W) hW)
 have hg1:gate1 L q=if kOf (tkQ L q)<0 then nameQ L q else q:=rfl
 have hcl:calledQ L q=if kOf (tkQ L q)<0 then optI (calledN q.ns (tkQ L q).s) else -1:=rfl
 have hko:kOf (tkQ L q)=if (tkQ L q).k=0∨(tkQ L q).k=2 then idxOf refL (tkQ L q).s else -1:=rfl
 obtain⟨t,ht⟩:∃z,Hid (tkQ L q=z):=⟨_,Lib.hid rfl⟩
 rw[ht.out] at htk hg1 hcl hko h7
 simp only[ht.out] at hnm
 unfold tokV at htk
 obtain⟨k,hk⟩:∃z,Hid (kOf t=z):=⟨_,Lib.hid rfl⟩
 rw[hk.out] at hg1 hcl hko h7
 obtain⟨nn,hnn⟩:∃z,Hid (calledQ L q=z):=⟨_,Lib.hid rfl⟩
 rw[hnn.out] at hcl h7
 go_enter Tryz.func65,Tryz.ntmps65
 refine seq_mid (fun a' w'=>Fr 161 [.pointer (some ⟨R,0,none⟩),.int .i64 (deep:Int),.bool union,.slice A na ca,undef,undef,undef,undef,.int .i64 0] a'∧w'=w) ?_ ?_
 ·intro K hK
  clear htk hnm h7 hg1 hcl hko
  go_wp2_with fail
  first|exact⟨⟨_,rfl,rfl⟩,rfl⟩|exact⟨_,rfl,rfl⟩
 rintro a1 w' ⟨hF,hw'⟩
 subst hw'
 refine seq_mid (fun a' w1=>∃g,M1 [.pointer (some ⟨R,0,none⟩),.int .i64 (deep:Int),.bool union,.slice A na ca,undef,undef,undef,undef,.int .i64 0,.pointer (some ⟨g,0,none⟩),.int .i64 (-1),.int .i64 (-1)] w' g t R a' w1) ?_ ?_
 ·intro K hK
  clear hnm h7 hg1 hcl hko
  obtain⟨u,rfl⟩:=lay161b hF
  clear hF
  go_wp2_with fail
  refine htk.mono ?_
  rintro e w1 ⟨rfl,hx1⟩
  have hb:Blk (w1.alloc (.cells #[.int .i64 t.k,.string t.s,.int .i64 (t.a:Int)] 105)) w1.heap.size #[.int .i64 t.k,.string t.s,.int .i64 (t.a:Int)] 105:=Blk.new w1 _ _
  have hxa:=hx1.alloc (.cells #[.int .i64 t.k,.string t.s,.int .i64 (t.a:Int)] 105)
  have hgR:¬w1.heap.size=R:=by have:=hx1.size;have:=h.blk.lt;omega
  clear htk
  go_wp2_with fail
  exact⟨w1.heap.size,⟨_,rfl,rfl⟩,hxa,hb,hgR⟩
 rintro a1 w1 ⟨g,hF1,hx1,hb1,hgR⟩
 clear htk
 refine seq_mid (fun a' w2=>M1 [.pointer (some ⟨R,0,none⟩),.int .i64 (deep:Int),.bool union,.slice A na ca,undef,undef,undef,undef,.int .i64 0,.pointer (some ⟨g,0,none⟩),.int .i64 k,.int .i64 (-1)] w' g t R a' w2) ?_ ?_
 ·intro K hK
  clear hnm h7 hg1 hcl
  obtain⟨u,rfl⟩:=lay161 hF1
  clear hF1
  have z0:=hb1.cell 0
  have z1:=hb1.cell 1
  have hwd:=word_any t.s w1
  by_cases h0:t.k=0
  ·rw[if_pos (.inl h0)] at hko
   rw[←hko] at hwd
   have e0:(t.k == 0)=true:=by simpa using h0
   clear hko
   go_wp2_with fail
   refine hwd.mono ?_
   rintro e w2 ⟨rfl,hx2⟩
   go_wp2_with fail
   exact⟨⟨_,rfl,rfl⟩,hx1.trans hx2,hb1.ext hx2,hgR⟩
  ·have e0:(t.k == 0)=false:=by simpa using h0
   by_cases h2:t.k=2
   ·rw[if_pos (.inr h2)] at hko
    rw[←hko] at hwd
    have e2:(t.k == 2)=true:=by simpa using h2
    clear hko
    go_wp2_with fail
    refine hwd.mono ?_
    rintro e w2 ⟨rfl,hx2⟩
    go_wp2_with fail
    exact⟨⟨_,rfl,rfl⟩,hx1.trans hx2,hb1.ext hx2,hgR⟩
   ·have e2:(t.k == 2)=false:=by simpa using h2
    rw[if_neg (by omega)] at hko
    subst hko
    go_wp2_with fail
    exact⟨⟨_,rfl,rfl⟩,hx1,hb1,hgR⟩
 rintro a2 w2 ⟨hF2,hx2,hb2,_⟩
 refine seq_mid (fun a' w3=>GM B R vl vn vs L [.pointer (some ⟨R,0,none⟩),.int .i64 (deep:Int),.bool union,.slice A na ca,undef,undef,undef,undef,.int .i64 0,.pointer (some ⟨g,0,none⟩),.int .i64 k,.int .i64 nn] w' (gate1 L q) a' w3) ?_ (fun a3 w3 hM=>h7 _ _ _ _ _ a3 w3 hM)
 intro K hK
 clear h7 hko
 obtain⟨u,rfl⟩:=lay161 hF2
 clear hF2
 by_cases hk0:k<0
 ·rw[if_pos hk0] at hg1 hcl
  have hnm2:=hnm w2 hx2
  clear hnm
  rw[hg1] at hK
  clear hg1
  go_wp2_with fail
  refine hnm2.mono ?_
  rintro e w3 ⟨rfl,hc3,h3⟩
  have hb3:=hc3.blk hb2 hgR
  have z1:=hb3.cell 1
  have hcd:=called_any t.s w3 h3
  rw[nameQ_ns,←hcl] at hcd
  clear hcl
  go_wp2_with fail
  refine hcd.mono ?_
  rintro e w4 ⟨rfl,hw4⟩
  have hw4:=hw4.symm
  subst hw4
  go_wp2_with fail
  exact⟨⟨_,rfl,rfl⟩,(Chg.ofExt hx2).trans hc3 (fun _ _ e=>e),h3⟩
 ·rw[if_neg hk0] at hg1 hcl
  subst hcl
  rw[hg1] at hK
  clear hg1
  have h2:=h.ext hx2
  have hcx:=Chg.ofExt (S:=fun k=>k=R) hx2
  go_wp2_with fail
  exact⟨⟨_,rfl,rfl⟩,hcx,h2⟩
theorem typedQ_any (hTk:TokOk L):∀(fuel deep:Nat),deep+fuel=20→TypQ B R L deep fuel
 | 0,deep,hdf=>typed_step hTk hdf (fun f e=>by omega)
 | fuel+1,deep,hdf=>typed_step hTk hdf (fun f e=>by
  obtain rfl:f=fuel:=by omega
  exact typedQ_any hTk f (deep+1) (by omega))
end
theorem resRef {w:World} {tmps:Array Value} {a:Nat} {u v x:Value} (ha:tmps[2]?.getD undef=.pointer (some ⟨a,0,none⟩)) (hb:tmps[3]?.getD undef=v) (hc:tmps[4]?.getD undef=x) (h0:w.cell? ⟨a,0,none⟩=some u):(results Tryz.f43 tmps).run Tryz.prog w=.ok (.tuple #[.agg #[u],v,x]) w:=by
 simp[results,Tryz.f43,go_sem,ha,hb,hc,h0]
set_option maxRecDepth 1000000 in
set_option maxHeartbeats 4000000 in
theorem refParse_any (s:ByteArray) (hs:s.size≤140737488351232) (w:World):Calls Tryz.prog 43 #[.string s] w fun e w'=>PP (parseQ s) w e w':=by
 obtain⟨w1,hw1⟩:∃z,Hid (w.alloc (.cells #[.slice none 0 0] 24)=z):=⟨_,rfl⟩
 obtain⟨q,hq⟩:∃z,Hid (w.heap.size=z):=⟨_,rfl⟩
 have hx1:Ext w w1:=by rw[←hw1.out];exact (Ext.refl w).alloc _
 have hb1:Blk w1 q #[.slice none 0 0] 24:=by rw[←hw1.out,←hq.out];exact Blk.new w _ _
 have hc:=refWords_any s hs w1
 obtain⟨r,hr⟩:∃z,Hid (parseQ s=z):=⟨_,Lib.hid rfl⟩
 rw[hr.out]
 obtain⟨PO,hPO⟩:∃PO:Ending→World→Prop,Hid ((fun e w'=>PP r w e w')=PO):=⟨_,Lib.hid rfl⟩
 rw[hPO.out]
 have hfin:∀e w',PP r w e w'→PO e w':=fun e w' h=>by rw[←hPO.out];exact h
 go_enter Tryz.func43,Tryz.ntmps43
 go_wp2_with fail
 rw[hw1.out,hq.out]
 refine hc.mono ?_
 rintro e w2 ⟨v,p,er,rfl,hv,hx2⟩
 have hb2:=hb1.ext hx2
 have c2:w2.cell? ⟨q,0,none⟩=some (.slice none 0 0):=hb2.cell 0
 have f2:=hb2.frozen 0
 rcases hv with⟨hwd,rfl⟩|⟨hwd,rfl,rfl,hRt⟩
 ·have hne:(er != 0)=true:=by rcases words_er hwd with rfl|rfl<;>rfl
  have hrr:r=([],p,er):=by rw[←hr.out];unfold parseQ;rw[hwd]
  clear hc hwd
  go_wp2_with fail
  have hb3:Blk (w2.setCell ⟨q,0,none⟩ (.slice none 0 0)) q #[.slice none 0 0] 24:=hb2.set 0 _
  refine bodyPost_ret (resRef rfl rfl rfl (hb3.cell 0)) rfl ?_
  refine hfin _ _ ?_
  rw[hrr]
  exact⟨.slice none 0 0,[],rfl,nds_nil _ _,(hx1.trans hx2).setCell (by show w.heap.size≤q;have:=hq.out;omega) _⟩
 ·obtain⟨g,cap,rfl,hcl,h1,h2⟩:=hRt
  obtain⟨hs4,hlen,hts⟩:=words_ok hwd
  have hTk:=toks_ok s
  have hlt:0<(toks s).length:=by
   obtain⟨pre,e,h,_⟩:=hTk
   rw[h];simp
  have hg:g<w2.heap.size:=by
   obtain⟨t,l,e⟩:∃t l,toks s=t::l:=by
    cases h:toks s with
    | nil=>rw[h] at hlt;simp at hlt
    | cons t l=>exact⟨t,l,rfl⟩
   have:=hcl 0 (.int .i64 t.k) (by rw[e];rfl)
   exact World.block_lt_of_cell? w2 ⟨g,0,none⟩ this
  have hrr:=hr.out
  unfold parseQ at hrr
  rw[hwd] at hrr
  simp only at hrr
  obtain⟨L,hL⟩:∃z,Hid (toks s=z):=⟨_,Lib.hid rfl⟩
  rw[hL.out] at hcl h1 hlen hts hTk hlt hrr ⊢
  have hx3:Ext w2 (w2.alloc (.cells #[.slice (some ⟨g,0,none⟩) L.length cap,.int .i64 0,.slice none 0 0,.int .i64 0,.int .i64 0] 101)):=(Ext.refl w2).alloc _
  have hb:=Blk.new w2 #[.slice (some ⟨g,0,none⟩) L.length cap,.int .i64 0,.slice none 0 0,.int .i64 0,.int .i64 0] 101
  obtain⟨w3,hw3⟩:∃z,Hid (w2.alloc (.cells #[.slice (some ⟨g,0,none⟩) L.length cap,.int .i64 0,.slice none 0 0,.int .i64 0,.int .i64 0] 101)=z):=⟨_,rfl⟩
  rw[hw3.out] at hx3 hb
  obtain⟨R,hR⟩:∃z,Hid (w2.heap.size=z):=⟨_,rfl⟩
  rw[hR.out] at hb hg
  have hsz3:=hx3.size
  have hq0:Rq R w3 R (.slice (some ⟨g,0,none⟩) L.length cap) (.slice none 0 0) [] L ⟨0,[],0,0⟩:=⟨hb,⟨g,0,cap,rfl,Rd.ext (fun _=>⟨g,0,rfl,fun j u hj=>by rw[Nat.zero_add];exact hcl j u hj⟩) hx3,h1,h2,hg⟩,nds_nil _ _,hlt,by omega,hts,Nat.zero_le _,Nat.le_refl _,fun i j a b h=>by simp at h⟩
  have hT:=typedQ_any hTk 20 0 rfl false [] none 0 0 ⟨0,[],0,0⟩ w3 _ _ [] hq0 rfl ⟨hlt,(fun d h=>by simp at h),(fun d h=>by simp at h)⟩ (Rd.nil _ _) rfl (by omega) (fun m h=>by cases h) (by have:=hR.out;omega) (fun a ha=>by cases ha)
  rw[show ((0:Nat):Int)=0 from rfl] at hT
  obtain⟨x,hx⟩:∃z,Hid (typedQ L 20 false [] ⟨0,[],0,0⟩=z):=⟨_,rfl⟩
  rw[hx.out] at hT hrr
  obtain⟨x,q1⟩:=x
  simp only at hT hrr
  clear hc hwd hx
  go_wp2_with fail
  rw[hw3.out,hR.out]
  refine hT.mono ?_
  rintro e w4 ⟨rfl,hc4,vn4,vs4,h4,hf4,hg4⟩
  have htk:=tok_any w4 h4
  unfold tokV at htk
  have htt:=tok_k
  obtain⟨t,ht⟩:∃z,Hid (tkQ L q1=z):=⟨_,Lib.hid rfl⟩
  rw[ht.out] at htk hrr
  clear hT
  go_wp2_with fail
  refine htk.mono ?_
  rintro e w5 ⟨rfl,hx5⟩
  have hbd:=fun b=>bad_n b 4 4 rfl w5 (h4.ext hx5)
  clear htk
  go_wp2_with fail
  refine (hbd _).mono ?_
  rintro e w6 ⟨rfl,hc6,h6⟩
  have h6:=h6.castB (b':=decide (t.k≠3)) (by by_cases e3:t.k=3<;>simp[e3])
  obtain⟨q2,hq2⟩:∃z,Hid (badQ L q1 (decide (t.k≠3)) 4=z):=⟨_,rfl⟩
  rw[hq2.out] at h6 hrr
  have hs2:=hx2.size
  have hRo:=hR.out
  have hxF:Ext w1 w6:=(((hx2.trans hx3).chg hc4 (fun i hi e=>by rcases e with e|e;omega;cases e)).trans hx5).chg hc6 (fun i hi e=>by have e:i=R:=e;omega)
  have hqR:¬q=R:=by have:=hb2.lt;omega
  have hw06:Ext w w6:=hx1.trans hxF
  have hbq6:Blk w6 q #[.slice none 0 0] 24:=hb1.ext hxF
  have cq6:=hbq6.cell 0
  have fq6:=hbq6.frozen 0
  have hy6:=h6.why_cell
  have hbad6:w6.cell? ⟨R,4,none⟩=some (.int .i64 (q2.bad:Int)):=h6.blk.cell 4
  obtain⟨A,c,rfl,hnc,hcm⟩:=h6.slice
  have hns6:w6.cell? ⟨R,2,none⟩=some (.slice A q2.ns.length c):=h6.blk.cell 2
  have hnd:=h6.nds
  by_cases hz:q2.why=0
  ·rw[if_neg (by rw[hz];simp)] at hrr
   have hyb:((q2.why:Int) == 0)=true:=by rw[hz];rfl
   obtain⟨y,hyy⟩:∃z,Hid (q2.why=z):=⟨_,Lib.hid rfl⟩
   obtain⟨n,hn⟩:∃z,Hid (q2.ns.length=z):=⟨_,Lib.hid rfl⟩
   rw[hyy.out] at hy6 hyb
   rw[hn.out] at hns6 hnd
   have hy0:((y:Nat):Int)=0:=by have:=hyy.out;omega
   have hlow:∀k,k=q→k<R:=fun k e=>by have:=hb2.lt;omega
   have hnF:=(hnd.low (Chg.one w6 q 0 (.slice A n c)) hlow).mono (B':=w.heap.size) (by have:=hx1.size;omega)
   have hxG:Ext w (w6.setCell ⟨q,0,none⟩ (.slice A n c)):=hw06.setCell (by show w.heap.size≤q;have:=hq.out;omega) _
   have hbG:Blk (w6.setCell ⟨q,0,none⟩ (.slice A n c)) q #[.slice A n c] 24:=hbq6.set 0 _
   clear hz hyy hnd h6 hbd
   go_wp2_with fail
   refine bodyPost_ret (resRef rfl rfl rfl (hbG.cell 0)) rfl ?_
   refine hfin _ _ ?_
   rw[←hrr]
   exact⟨_,_,rfl,hnF,hxG⟩
  ·rw[if_pos hz] at hrr
   have hneb:((q2.why:Int) == 0)=false:=by simpa using (by omega:¬(q2.why:Int)=0)
   have hne:¬(q2.why:Int)=0:=by omega
   obtain⟨y,hyy⟩:∃z,Hid (q2.why=z):=⟨_,Lib.hid rfl⟩
   rw[hyy.out] at hy6 hneb hne hrr
   obtain⟨yb,hyb⟩:∃z,Hid (q2.bad=z):=⟨_,Lib.hid rfl⟩
   rw[hyb.out] at hbad6 hrr
   clear hnd h6 hbd hns6
   go_wp2_with fail
   refine Reg.startX (R:=Chg (fun k=>k=q)) (by kernel_rfl) ?_
   have hRl:=Reg.rl_chg (fun k=>k=q)
   generalize hwq:World.drew _=wq
   have hxq:Ext w6 wq:=by rw[←hwq];exact (Ext.refl w6).drew
   clear hwq
   have hRq:¬R=q:=fun e=>hqR e.symm
   have r3:∀W,Chg (fun k=>k=q) wq W→W.cell? ⟨R,3,none⟩=some (.int .i64 (y:Int)):=fun W hW=>hW.cell (hxq.cell hy6) hRq
   have r4:∀W,Chg (fun k=>k=q) wq W→W.cell? ⟨R,4,none⟩=some (.int .i64 (yb:Int)):=fun W hW=>hW.cell (hxq.cell hbad6) hRq
   have hbqq:=hbq6.ext hxq
   have cqq:=hbqq.cell 0
   have fqq:=hbqq.frozen 0
   have hch:Chg (fun k=>k=q) wq (wq.setCell ⟨q,0,none⟩ (.slice none 0 0)):=Chg.one wq q 0 _
   clear cq6 fq6 hy6 hbad6
   iterate 4 ((first|refine Reg.un hRl ?_|refine Reg.vn hRl ?_);(try simp only[Reg.nn]))
   refine Reg.tx hRl 4 ?_;(try simp only[Reg.nn])
   iterate 3 ((first|refine Reg.un hRl ?_|refine Reg.vn hRl ?_);(try simp only[Reg.nn]))
   refine Reg.tx hRl 8 ?_;(try simp only[Reg.nn])
   refine Reg.onlyX 9 _ rfl (by kernel_rfl) (by decide) (by rfl) (fun K hK=>?_);go_simp
   go_simp
   refine hK.out _ _ (hch) ?_;clear hK K;(try simp only[Reg.nn])
   iterate 2 ((first|refine Reg.un hRl ?_|refine Reg.vn hRl ?_);(try simp only[Reg.nn]))
   refine Reg.finX (by kernel_rfl) ?_
   have hbG:Blk (wq.setCell ⟨q,0,none⟩ (.slice none 0 0)) q #[.slice none 0 0] 24:=hbqq.set 0 _
   have hxG:Ext w (wq.setCell ⟨q,0,none⟩ (.slice none 0 0)):=(hw06.trans hxq).setCell (by show w.heap.size≤q;have:=hq.out;omega) _
   clear hch r3 r4
   go_wp2_with fail
   refine bodyPost_ret (resRef rfl rfl rfl (hbG.cell 0)) rfl ?_
   refine hfin _ _ ?_
   rw[←hrr]
   exact⟨_,[],rfl,nds_nil _ _,hxG⟩
end Pr
namespace Pr
open Lx
def TF (L:List Tok):Prop:=∀t∈L,(t.k=3∧bs t.s=[])∨WTk (tk t)
def PtK (pt:Nat→Nd→Nd):Prop:=∀i d,(pt i d).k=d.k∧(pt i d).name=d.name
structure RQ (L:List Tok) (pt:Nat→Nd→Nd) (s:PS) (q:QS):Prop where
 l:s.l=L.drop q.at_
 lt:q.at_<L.length
 ns:∀i:Nat,q.ns[i]?=(s.ns[i]?).map (pt i)
 why:q.why=0
 nm:∀x,nameP x=true→s.nm x=calledN q.ns x
 kn:PtK pt
 new:∀i,s.ns.length≤i→pt i=id
section
variable {L:List Tok} {pt:Nat→Nd→Nd} {s:PS} {q:QS}
theorem RQ.len (h:RQ L pt s q):q.ns.length=s.ns.length:=by
 have h1:=h.ns q.ns.length
 have h2:=h.ns s.ns.length
 rcases Nat.lt_trichotomy q.ns.length s.ns.length with e|e|e
 ·rw[List.getElem?_eq_none (Nat.le_refl _),List.getElem?_eq_getElem e] at h1;cases h1
 ·exact e
 ·rw[List.getElem?_eq_getElem e,List.getElem?_eq_none (Nat.le_refl _)] at h2;cases h2
theorem drop_hd (L:List Tok) (i:Nat):hd (L.drop i)=L.getD i ⟨3,⟨#[]⟩,0⟩:=by
 unfold hd
 rw[List.headD_eq_head?_getD,List.head?_drop,List.getD]
theorem RQ.hd_ (h:RQ L pt s q):hd s.l=tkQ L q:=by rw[h.l,drop_hd];rfl
theorem RQ.on (h:RQ L pt s q) (hT:TokOk L) (hk:(tkQ L q).k≠3):RQ L pt s.on (onQ L q):=by
 rw[onQ_adv hT h.lt hk h.why]
 exact⟨by show s.l.tail=_;rw[h.l,List.tail_drop],tok_next hT h.lt hk,h.ns,h.why,h.nm,h.kn,h.new⟩
theorem RQ.bad {e:Nat} (h:RQ L pt s q):badQ L q true e={ q with why:=e,bad:=(hd s.l).a }:=by rw[badQ_true h.why,h.hd_]
theorem RQ.tf (h:RQ L pt s q) (hF:TF L):((tkQ L q).k=3∧bs (tkQ L q).s=[])∨WTk (tk (tkQ L q)):=by
 refine hF _ ?_
 unfold tkQ
 rw[List.getD,List.getElem?_eq_getElem h.lt]
 exact List.getElem_mem h.lt
theorem bs_inj {a b:ByteArray} (h:bs a=bs b):a=b:=by
 have:a.data=b.data:=Array.toList_inj.1 h
 cases a;cases b
 simp only at this
 rw[this]
theorem sign_tok {t:Tok} {c:UInt8} (hc:kindOf c=2) (hF:(t.k=3∧bs t.s=[])∨WTk (tk t)) (hs:t.s=⟨#[c]⟩):t.k=2:=by
 have hb:bs t.s=[c]:=by rw[hs];rfl
 rcases hF with⟨_,h⟩|h
 ·rw[hb] at h;cases h
 ·rcases h with⟨hk,d,r,e,hl,_⟩|⟨hk,d,r,e,hl,_⟩|⟨hk,_⟩
  ·have e:bs t.s=d::r:=e
   rw[hb] at e;injection e with e _;subst e
   have:=((byte_sorts c).1 hl).1;omega
  ·have e:bs t.s=d::r:=e
   rw[hb] at e;injection e with e _;subst e
   have:=((byte_sorts c).2.1 hl).1;omega
  ·exact hk
theorem RQ.here (h:RQ L pt s q) (hF:TF L) {c:UInt8} (hc:kindOf c=2):isT s ⟨#[c]⟩=hereQ L q ⟨#[c]⟩:=by
 unfold isT hereQ
 rw[h.hd_]
 by_cases hs:(tkQ L q).s=⟨#[c]⟩
 ·have:=sign_tok hc (h.tf hF) hs
  rw[this];simp[hs]
 ·simp[hs]
def OQ {α:Type} (L:List Tok) (pt:Nat→Nd→Nd) (r:Res α) (q':QS):Prop:=match r with
 | .ok _ s'=>RQ L pt s' q'
 | .bad a w=>q'.why=w∧q'.bad=a∧w≠0
theorem RQ.must (h:RQ L pt s q) (hT:TokOk L) (hF:TF L) {c:UInt8} (hc:kindOf c=2):OQ L pt (mustR s ⟨#[c]⟩) (signQ L q ⟨#[c]⟩):=by
 have he:=h.here hF hc
 unfold mustR
 by_cases ht:isT s ⟨#[c]⟩=true
 ·rw[if_pos ht]
  rw[he] at ht
  rw[signQ_good ht]
  exact h.on hT (by rw[(here_k ht).1];decide)
 ·rw[if_neg ht]
  have hf:hereQ L q ⟨#[c]⟩=false:=by rw[←he];simpa using ht
  rw[signQ_bad h.why hf,←h.hd_]
  exact⟨rfl,rfl,by decide⟩
theorem RQ.goes (h:RQ L pt s q) (hT:TokOk L) (hF:TF L) {c:UInt8} (hc:kindOf c=2):(goesR s ⟨#[c]⟩).1=hereQ L q ⟨#[c]⟩∧RQ L pt (goesR s ⟨#[c]⟩).2 (if hereQ L q ⟨#[c]⟩=true then onQ L q else q):=by
 have he:=h.here hF hc
 unfold goesR
 by_cases ht:isT s ⟨#[c]⟩=true
 ·rw[if_pos ht]
  rw[he] at ht
  rw[if_pos ht]
  exact⟨ht.symm,h.on hT (by rw[(here_k ht).1];decide)⟩
 ·rw[if_neg ht]
  have hf:hereQ L q ⟨#[c]⟩=false:=by rw[←he];simpa using ht
  rw[hf]
  exact⟨rfl,h⟩
theorem RQ.name (h:RQ L pt s q) (th:ByteArray→Bool) (b:Bool) (hb:nameP (tkQ L q).s=true→b=th (tkQ L q).s) :
  (∃x,nameR s th=.ok x s.on∧x=(tkQ L q).s∧(tkQ L q).k=0∧nameP x=true∧th x=false∧badQ L (nameQ L q) b 6=q)∨(∃w,nameR s th=.bad (hd s.l).a w∧w≠0∧badQ L (nameQ L q) b 6={ q with why:=w,bad:=(hd s.l).a }):=by
 unfold nameR
 rw[h.hd_]
 have hkw:=kw_eq (tkQ L q).s
 by_cases h1:(tkQ L q).k≠0∨kwP (tkQ L q).s=true∨nameP (tkQ L q).s=false
 ·rw[if_pos h1]
  refine .inr ⟨4,by unfold failR;rw[h.hd_],by decide,?_⟩
  have hbt:(decide ((tkQ L q).k≠0) || !nameP (tkQ L q).s || refKw (tkQ L q).s)=true:=by
   rw[←hkw]
   rcases h1 with h1|h1|h1<;>simp[h1]
  unfold nameQ
  rw[hbt,badQ_true h.why,badQ_why (by simp)]
 ·rw[if_neg h1]
  simp only[not_or,ne_eq,Decidable.not_not,Bool.not_eq_true,Bool.not_eq_false] at h1
  obtain⟨a1,a2,a3⟩:=h1
  have hbt:(decide ((tkQ L q).k≠0) || !nameP (tkQ L q).s || refKw (tkQ L q).s)=false:=by
   rw[←hkw]
   simp[a1,a2,a3]
  have hnq:nameQ L q=q:=by unfold nameQ;rw[hbt,badQ_false]
  rw[hnq,hb a3]
  by_cases h2:th (tkQ L q).s=true
  ·rw[if_pos h2,h2]
   exact .inr ⟨6,by unfold failR;rw[h.hd_],by decide,by rw[badQ_true h.why]⟩
  ·rw[if_neg h2]
   have h2:th (tkQ L q).s=false:=by simpa using h2
   rw[h2,badQ_false]
   exact .inl ⟨_,rfl,rfl,a1,a3,h2,rfl⟩
def upd (pt:Nat→Nd→Nd) (n:Nat) (f:Nd→Nd):Nat→Nd→Nd:=fun i=>if i=n then f else pt i
theorem upd_k (h:PtK pt) (n:Nat) {f:Nd→Nd} (hf:∀d,(f d).k=d.k∧(f d).name=d.name):PtK (upd pt n f):=fun i d=>by
 unfold upd
 split
 ·exact hf d
 ·exact h i d
theorem calledN_congr {a b:List Nd} (h:∀i:Nat,(a[i]?).map (fun d=>(d.k,d.name))=(b[i]?).map fun d=>(d.k,d.name)) (x:ByteArray):calledN a x=calledN b x:=by
 have e:a.map (fun d=>(d.k,d.name))=b.map fun d=>(d.k,d.name):=by
  apply List.ext_getElem?
  intro i
  rw[List.getElem?_map,List.getElem?_map]
  exact h i
 have key:∀l:List Nd,calledN l x=(l.map fun d=>(d.k,d.name)).findIdx? fun p=>decide (9≤p.1) && decide (p.2=x):=by
  intro l
  unfold calledN
  rw[List.findIdx?_map]
  rfl
 rw[key,key,e]
theorem RQ.openN (h:RQ L pt s q) (n:Nat) (hn:n<s.ns.length) (g f:Nd→Nd) (hf:∀d,(f d).k=d.k∧(f d).name=d.name) (hg:∀d,g (pt n d)=f d):RQ L (upd pt n f) s (q.setN n g):=by
 have hns:∀i:Nat,(q.setN n g).ns[i]?=(s.ns[i]?).map (upd pt n f i):=fun i=>by
  show (q.ns.modify n g)[i]?=_
  rw[List.getElem?_modify,h.ns i]
  unfold upd
  by_cases hi:n=i
  ·subst hi
   simp only[if_true]
   cases s.ns[n]? with
   | none=>rfl
   | some d=>simp[hg d]
  ·rw[if_neg (fun e=>hi e.symm)]
   cases s.ns[i]?<;>simp[hi]
 refine⟨h.l,h.lt,hns,h.why,fun x hx=>?_,upd_k h.kn n hf,fun i hi=>?_⟩
 ·rw[h.nm x hx]
  refine calledN_congr (fun i=>?_) x
  rw[hns i,h.ns i]
  cases s.ns[i]? with
  | none=>rfl
  | some d=>
   simp only[Option.map_some,Option.some.injEq,Prod.mk.injEq]
   have h1:=h.kn i d
   have h2:=upd_k h.kn n hf i d
   exact⟨h1.1.trans h2.1.symm,h1.2.trans h2.2.symm⟩
 ·unfold upd
  rw[if_neg (by omega)]
  exact h.new i hi
theorem RQ.shutN {n:Nat} {f:Nd→Nd} (h:RQ L (upd pt n f) s q) (hp:PtK pt) (hn:n<s.ns.length) (hid:pt n=id) (hnew:∀i,s.ns.length≤i→pt i=id) (hf:∀d,(f d).k=d.k∧(f d).name=d.name):RQ L pt (s.setN n f) q:=by
 refine⟨h.l,h.lt,fun i=>?_,h.why,h.nm,hp,fun i hi=>hnew i (by rw[setN_len] at hi;exact hi)⟩
 rw[h.ns i]
 show _=((s.ns.modify n f)[i]?).map (pt i)
 rw[List.getElem?_modify]
 unfold upd
 by_cases hi:n=i
 ·subst hi
  simp only[if_true,hid]
  cases s.ns[n]?<;>rfl
 ·rw[if_neg (fun e=>hi e.symm)]
  cases s.ns[i]?<;>simp[hi]
theorem RQ.nd (h:RQ L pt s q) {n:Nat} (hn:n<s.ns.length):q.nd n=pt n (s.ns.getD n (Nd.ofKind 0)):=by
 unfold QS.nd
 rw[List.getD,h.ns n,List.getD,List.getElem?_eq_getElem hn]
 rfl
def HTQ (L:List Tok) (T:Bool→List Nat→PS→Res Nat) (TQ:QT):Prop:=∀u l pt s q,RQ L pt s q→(∀n s',T u l s=.ok n s'→(TQ u l q).1=n∧s.ns.length≤s'.ns.length)∧OQ L pt (T u l s) (TQ u l q).2
section
variable {T:Bool→List Nat→PS→Res Nat} {TQ:QT}
theorem oq_bad {α:Type} {a w:Nat} {q':QS} (h1:q'.why=w) (h2:q'.bad=a) (h3:w≠0):OQ L pt (.bad a w:Res α) q':=⟨h1,h2,h3⟩
theorem item_q (hT:TokOk L) (hF:TF L) (H:HTQ L T TQ) {n:Nat} {c:UInt8} (hc:kindOf c=2) (h:RQ L pt s q) (hn:n<s.ns.length) (hid:pt n=id):OQ L pt (itemR T s n ⟨#[c]⟩) (itemQ L TQ n ⟨#[c]⟩ q):=by
 obtain⟨h1,h2⟩:=H false [] pt s q h
 unfold itemR itemQ
 cases hr:T false [] s with
 | bad a w=>
  rw[hr] at h2
  obtain⟨e1,e2,e3⟩:=h2
  rw[signQ_no (by show (TQ false [] q).2.why≠0;rw[e1];exact e3)]
  exact⟨e1,e2,e3⟩
 | ok x s1=>
  rw[hr] at h2
  obtain⟨e1,e2⟩:=h1 x s1 hr
  rw[e1]
  have h2:RQ L pt s1 (TQ false [] q).2:=h2
  have ho:=h2.openN n (by omega) (fun d=>{ d with items:=[x] }) (fun d=>{ d with items:=[x] }) (fun d=>⟨rfl,rfl⟩) (fun d=>by rw[hid];rfl)
  have hs:=ho.shutN h2.kn (by omega) hid h2.new (fun d=>⟨rfl,rfl⟩)
  exact hs.must hT hF hc
theorem union_q (hT:TokOk L) (hF:TF L) (H:HTQ L T TQ) {n:Nat}:∀(m:Nat) (l:List Nat) (s:PS) (q:QS) (m2:Nat),RQ L (upd pt n fun d=>{ d with items:=l }) s q→n<s.ns.length→PtK pt→pt n=id→(∀i,s.ns.length≤i→pt i=id)→s.l.length≤m→s.l.length≤m2→(∀u a s n s',T u a s=.ok n s'→s'.l.length<s.l.length)→OQ L pt (unionR T n m l s) (allQ L TQ n m2 q)
 | 0,l,s,q,m2,h,_,_,_,_,hm,_,_=>by
  have:=h.lt
  rw[h.l,List.length_drop] at hm
  omega
 | m+1,l,s,q,0,h,_,_,_,_,_,hm2,_=>by
  have:=h.lt
  rw[h.l,List.length_drop] at hm2
  omega
 | m+1,l,s,q,m2+1,h,hn,hp,hid,hnew,hm,hm2,hlen=>by
  rw[unionR,allQ,if_neg (by rw[h.why];simp)]
  have hit:(q.nd n).items=l:=by rw[h.nd hn];unfold upd;rw[if_pos rfl]
  rw[hit]
  obtain⟨h1,h2⟩:=H true l _ s q h
  cases hr:T true l s with
  | bad a w=>
   rw[hr] at h2
   obtain⟨e1,e2,e3⟩:=h2
   have hw:((TQ true l q).2.setN n fun d=>{ d with items:=d.items++[(TQ true l q).1] }).why≠0:=by show (TQ true l q).2.why≠0;rw[e1];exact e3
   have hfin:∀q':QS,q'=((TQ true l q).2.setN n fun d=>{ d with items:=d.items++[(TQ true l q).1] })→OQ L pt ((Res.bad a w:Res Nat).bind fun x s1=>if isT s1 cPaC then .ok () (s1.on.setN n fun d=>{ d with items:=l++[x] }) else (mustR s1 cBar).bind fun _ s2=>unionR T n m (l++[x]) s2) q':=fun q' e=>by rw[e];exact⟨e1,e2,e3⟩
   split
   ·exact hfin _ (onQ_no hw)
   ·refine hfin _ ?_
    rw[signQ_no hw]
    cases m2 with
    | zero=>rfl
    | succ m2=>rw[allQ,if_pos hw]
  | ok x s1=>
   rw[hr] at h2
   obtain⟨e1,e2⟩:=h1 x s1 hr
   have hl1:=hlen _ _ _ _ _ hr
   rw[e1]
   have h2:RQ L (upd pt n fun d=>{ d with items:=l }) s1 (TQ true l q).2:=h2
   have ho:RQ L (upd pt n fun d=>{ d with items:=l++[x] }) s1 ((TQ true l q).2.setN n fun d=>{ d with items:=d.items++[x] }):=by
    have:=h2.openN n (by omega) (fun d=>{ d with items:=d.items++[x] }) (fun d=>{ d with items:=l++[x] }) (fun d=>⟨rfl,rfl⟩) (fun d=>by unfold upd;rw[if_pos rfl])
    have e:upd (upd pt n fun d=>{ d with items:=l }) n (fun d=>{ d with items:=l++[x] })=upd pt n fun d=>{ d with items:=l++[x] }:=by
     funext i;unfold upd;split<;>rfl
    rwa [e] at this
   generalize ((TQ true l q).2.setN n fun d=>{ d with items:=d.items++[x] })=q1 at ho ⊢
   show OQ L pt (if isT s1 cPaC then .ok () (s1.on.setN n fun d=>{ d with items:=l++[x] }) else (mustR s1 cBar).bind fun _ s2=>unionR T n m (l++[x]) s2) _
   have hh:=ho.here hF (c:=41) (by decide)
   rw[show (⟨#[41]⟩:ByteArray)=cPaC from rfl] at hh
   by_cases ht:isT s1 cPaC=true
   ·rw[if_pos ht,if_pos (by rw[←hh];exact ht)]
    rw[hh] at ht
    have hon:=ho.on hT (by rw[(here_k ht).1];decide)
    exact hon.shutN hp (by show n<s1.ns.length;omega) hid (fun i hi=>hnew i (by have hi:s1.ns.length≤i:=hi;omega)) (fun d=>⟨rfl,rfl⟩)
   ·rw[if_neg ht,if_neg (by rw[←hh];exact ht)]
    have hmu:=ho.must hT hF (c:=124) (by decide)
    rw[show (⟨#[124]⟩:ByteArray)=cBar from rfl] at hmu
    cases hm1:mustR s1 cBar with
    | bad a w=>
     rw[hm1] at hmu
     obtain⟨e1,e2,e3⟩:=hmu
     have hw:(signQ L q1 cBar).why≠0:=by rw[e1];exact e3
     have:allQ L TQ n m2 (signQ L q1 cBar)=signQ L q1 cBar:=by
      cases m2 with
      | zero=>rfl
      | succ m2=>rw[allQ,if_pos hw]
     rw[this]
     exact⟨e1,e2,e3⟩
    | ok u s2=>
     rw[hm1] at hmu
     obtain⟨a1,a2⟩:=mustR_ok hm1
     have hon:=on_le s1
     exact union_q hT hF H m (l++[x]) s2 _ m2 hmu (by rw[a2];show n<s1.ns.length;omega) hp hid (fun i hi=>hnew i (by rw[a2] at hi;have hi:s1.ns.length≤i:=hi;omega)) (by rw[a2];omega) (by rw[a2];omega) hlen
end
end
section
variable {L:List Tok} {pt:Nat→Nd→Nd} {s:PS} {q:QS}
theorem upd_upd (pt:Nat→Nd→Nd) (n:Nat) (f g:Nd→Nd):upd (upd pt n f) n g=upd pt n g:=by funext i;unfold upd;split<;>rfl
theorem RQ.openId (h:RQ L pt s q) {n:Nat} {f:Nd→Nd} (hn:n<s.ns.length) (hid:pt n=id) (hf:∀d,(f d).k=d.k∧(f d).name=d.name) (hd:∀d,s.ns[n]?=some d→f d=d):RQ L (upd pt n f) s q:=by
 refine⟨h.l,h.lt,fun i=>?_,h.why,h.nm,upd_k h.kn n hf,fun i hi=>by unfold upd;rw[if_neg (by omega)];exact h.new i hi⟩
 rw[h.ns i]
 unfold upd
 by_cases hi:i=n
 ·subst hi
  simp only[if_true,hid]
  cases hx:s.ns[i]? with
  | none=>rfl
  | some d=>simp[hd d hx]
 ·rw[if_neg hi]
theorem tk_set (L:List Tok) (q:QS) (n:Nat) (f:Nd→Nd):tkQ L (q.setN n f)=tkQ L q:=rfl
theorem syms_q (hT:TokOk L) (hF:TF L) {n:Nat}:∀(m:Nat) (l:List ByteArray) (s:PS) (q:QS) (m2:Nat),RQ L (upd pt n fun d=>{ d with syms:=l }) s q→n<s.ns.length→PtK pt→pt n=id→(∀i,s.ns.length≤i→pt i=id)→s.l.length≤m→s.l.length≤m2→OQ L pt (symsR n m l s) (symsQ L n m2 q)
 | 0,l,s,q,m2,h,_,_,_,_,hm,_=>by
  have:=h.lt
  rw[h.l,List.length_drop] at hm
  omega
 | m+1,l,s,q,0,h,_,_,_,_,_,hm2=>by
  have:=h.lt
  rw[h.l,List.length_drop] at hm2
  omega
 | m+1,l,s,q,m2+1,h,hn,hp,hid,hnew,hm,hm2=>by
  rw[symsR,symsQ,if_neg (by rw[h.why];simp)]
  have hit:(q.nd n).syms=l:=by rw[h.nd hn];unfold upd;rw[if_pos rfl]
  unfold symQ
  rw[hit]
  rcases h.name (fun x=>l.any fun y=>decide (y=x)) (l.any fun y=>decide (y=(tkQ L q).s)) (fun _=>rfl) with⟨x,h1,h2,h3,h4,h5,h6⟩|⟨w,h1,h2,h3⟩
  ·rw[h1,h6,←h2]
   have ho:RQ L (upd pt n fun d=>{ d with syms:=l++[x] }) s (q.setN n fun d=>{ d with syms:=d.syms++[x] }):=by
    have:=h.openN n hn (fun d=>{ d with syms:=d.syms++[x] }) (fun d=>{ d with syms:=l++[x] }) (fun d=>⟨rfl,rfl⟩) (fun d=>by unfold upd;rw[if_pos rfl])
    rwa [upd_upd] at this
   have ho:=ho.on hT (by rw[tk_set,h3];decide)
   generalize onQ L (q.setN n fun d=>{ d with syms:=d.syms++[x] })=q1 at ho ⊢
   have hpos:s.l≠[]:=by
    intro e
    have:=h.lt
    have h9:=h.l
    rw[e] at h9
    have:(L.drop q.at_).length=0:=by rw[←h9];rfl
    rw[List.length_drop] at this
    omega
   have hol:=on_len hpos
   show OQ L pt (if isT s.on cGt then .ok () (s.on.on.setN n fun d=>{ d with syms:=l++[x] }) else (mustR s.on cCom).bind fun _ s2=>symsR n m (l++[x]) s2) _
   have hh:=ho.here hF (c:=62) (by decide)
   rw[show (⟨#[62]⟩:ByteArray)=cGt from rfl] at hh
   by_cases ht:isT s.on cGt=true
   ·rw[if_pos ht,if_pos (by rw[←hh];exact ht)]
    rw[hh] at ht
    have hon:=ho.on hT (by rw[(here_k ht).1];decide)
    exact hon.shutN hp (by show n<s.ns.length;omega) hid (fun i hi=>hnew i hi) (fun d=>⟨rfl,rfl⟩)
   ·rw[if_neg ht,if_neg (by rw[←hh];exact ht)]
    have hmu:=ho.must hT hF (c:=44) (by decide)
    rw[show (⟨#[44]⟩:ByteArray)=cCom from rfl] at hmu
    cases hm1:mustR s.on cCom with
    | bad a w=>
     rw[hm1] at hmu
     obtain⟨e1,e2,e3⟩:=hmu
     have hw:(signQ L q1 cCom).why≠0:=by rw[e1];exact e3
     have:symsQ L n m2 (signQ L q1 cCom)=signQ L q1 cCom:=by
      cases m2 with
      | zero=>rfl
      | succ m2=>rw[symsQ,if_pos hw]
     rw[this]
     exact⟨e1,e2,e3⟩
    | ok u s2=>
     rw[hm1] at hmu
     obtain⟨a1,a2⟩:=mustR_ok hm1
     have hon:=on_le s.on
     exact syms_q hT hF m (l++[x]) s2 _ m2 hmu (by rw[a2];show n<s.ns.length;omega) hp hid (fun i hi=>hnew i (by rw[a2] at hi;exact hi)) (by rw[a2];omega) (by rw[a2];omega)
  ·rw[h1,h3]
   have hfin:∀q':QS,q'=(({ q with why:=w,bad:=(hd s.l).a }:QS).setN n fun d=>{ d with syms:=d.syms++[(tkQ L q).s] })→OQ L pt ((Res.bad (hd s.l).a w:Res ByteArray).bind fun x s1=>if isT s1 cGt then .ok () (s1.on.setN n fun d=>{ d with syms:=l++[x] }) else (mustR s1 cCom).bind fun _ s2=>symsR n m (l++[x]) s2) q':=fun q' e=>by rw[e];exact⟨rfl,rfl,h2⟩
   have hw:(({ q with why:=w,bad:=(hd s.l).a }:QS).setN n fun d=>{ d with syms:=d.syms++[(tkQ L q).s] }).why≠0:=h2
   rw[onQ_no hw]
   split
   ·exact hfin _ (onQ_no hw)
   ·refine hfin _ ?_
    rw[signQ_no hw]
    cases m2 with
    | zero=>rfl
    | succ m2=>rw[symsQ,if_pos hw]
variable {T:Bool→List Nat→PS→Res Nat} {TQ:QT}
theorem fields_q (hT:TokOk L) (hF:TF L) (H:HTQ L T TQ) {n:Nat}:∀(m:Nat) (l:List (ByteArray×Bool×Nat)) (s:PS) (q:QS) (m2:Nat),RQ L (upd pt n fun d=>{ d with fields:=l }) s q→n<s.ns.length→PtK pt→pt n=id→(∀i,s.ns.length≤i→pt i=id)→s.l.length≤m→s.l.length≤m2→(∀u a s n s',T u a s=.ok n s'→s'.l.length<s.l.length)→OQ L pt (fieldsR T n m l s) (fieldsQ L TQ n m2 q)
 | 0,l,s,q,m2,h,_,_,_,_,hm,_,_=>by
  have:=h.lt
  rw[h.l,List.length_drop] at hm
  omega
 | m+1,l,s,q,0,h,_,_,_,_,_,hm2,_=>by
  have:=h.lt
  rw[h.l,List.length_drop] at hm2
  omega
 | m+1,l,s,q,m2+1,h,hn,hp,hid,hnew,hm,hm2,hlen=>by
  rw[fieldsR,fieldsQ]
  have hh:=h.here hF (c:=125) (by decide)
  rw[show (⟨#[125]⟩:ByteArray)=cCuC from rfl] at hh
  by_cases ht:isT s cCuC=true
  ·rw[if_pos ht,if_pos (.inr (by rw[←hh];exact ht))]
   rw[hh] at ht
   rw[signQ_good ht]
   have hon:=h.on hT (by rw[(here_k ht).1];decide)
   exact hon.shutN hp (by show n<s.ns.length;omega) hid (fun i hi=>hnew i hi) (fun d=>⟨rfl,rfl⟩)
  ·rw[if_neg ht,if_neg (by rw[←hh,h.why];simp[ht])]
   have hit:(q.nd n).fields=l:=by rw[h.nd hn];unfold upd;rw[if_pos rfl]
   have hfa:fldA L n q=onQ L (badQ L (nameQ L q) (l.any fun f=>decide (f.1=(tkQ L q).s)) 6):=by unfold fldA;rw[hit]
   rcases h.name (fun x=>l.any fun f=>decide (f.1=x)) (l.any fun f=>decide (f.1=(tkQ L q).s)) (fun _=>rfl) with⟨x,h1,h2,h3,h4,h5,h6⟩|⟨w,h1,h2,h3⟩
   ·rw[h6] at hfa
    rw[h1,←h2]
    have h1s:=h.on hT (by rw[h3];decide)
    rw[←hfa] at h1s
    obtain⟨g1,g2⟩:=h1s.goes hT hF (c:=63) (by decide)
    rw[show (⟨#[63]⟩:ByteArray)=cQ from rfl] at g1 g2
    have hmu:=g2.must hT hF (c:=58) (by decide)
    rw[show (⟨#[58]⟩:ByteArray)=cCol from rfl] at hmu
    have hfq:signQ L (if hereQ L (fldA L n q) cQ=true then onQ L (fldA L n q) else fldA L n q) cCol=fldQ L n q:=rfl
    rw[hfq] at hmu
    rw[←g1]
    have hpos:s.l≠[]:=by
     intro e
     have:=h.lt
     have h9:=h.l
     rw[e] at h9
     have:(L.drop q.at_).length=0:=by rw[←h9];rfl
     rw[List.length_drop] at this
     omega
    have hol:=on_len hpos
    show OQ L pt ((mustR (goesR s.on cQ).2 cCol).bind fun _ s2=>(T false [] s2).bind fun t s3=>(mustR s3 cSem).bind fun _ s4=>fieldsR T n m (l++[(x,(goesR s.on cQ).1,t)]) s4) _
    have hgl:(goesR s.on cQ).2.l.length≤s.on.l.length∧(goesR s.on cQ).2.ns.length=s.ns.length:=by
     unfold goesR
     split
     ·exact⟨on_le _,rfl⟩
     ·exact⟨Nat.le_refl _,rfl⟩
    cases hm1:mustR (goesR s.on cQ).2 cCol with
    | bad a w=>
     rw[hm1] at hmu
     obtain⟨e1,e2,e3⟩:=hmu
     rw[if_pos (by rw[e1];exact e3)]
     exact⟨e1,e2,e3⟩
    | ok u s2=>
     rw[hm1] at hmu
     obtain⟨a1,a2⟩:=mustR_ok hm1
     have hmu:RQ L _ s2 (fldQ L n q):=hmu
     rw[if_neg (by rw[hmu.why];simp)]
     obtain⟨t1,t2⟩:=H false [] _ s2 (fldQ L n q) hmu
     show OQ L pt ((T false [] s2).bind fun t s3=>(mustR s3 cSem).bind fun _ s4=>fieldsR T n m (l++[(x,(goesR s.on cQ).1,t)]) s4) _
     have hon2:=on_le (goesR s.on cQ).2
     have hs2l:s2.l.length<s.l.length:=by rw[a2];omega
     have hs2n:s2.ns.length=s.ns.length:=by rw[a2];exact hgl.2
     cases hr:T false [] s2 with
     | bad a w=>
      rw[hr] at t2
      obtain⟨e1,e2,e3⟩:=t2
      rw[signQ_no (by rw[e1];exact e3)]
      have hw:((TQ false [] (fldQ L n q)).2.setN n fun d=>{ d with fields:=d.fields++[(x,(goesR s.on cQ).1,(TQ false [] (fldQ L n q)).1)] }).why≠0:=by show (TQ false [] (fldQ L n q)).2.why≠0;rw[e1];exact e3
      have:fieldsQ L TQ n m2 ((TQ false [] (fldQ L n q)).2.setN n fun d=>{ d with fields:=d.fields++[(x,(goesR s.on cQ).1,(TQ false [] (fldQ L n q)).1)] })=((TQ false [] (fldQ L n q)).2.setN n fun d=>{ d with fields:=d.fields++[(x,(goesR s.on cQ).1,(TQ false [] (fldQ L n q)).1)] }):=by
       cases m2 with
       | zero=>rfl
       | succ m2=>rw[fieldsQ,if_pos (.inl hw),signQ_no hw]
      rw[this]
      exact⟨e1,e2,e3⟩
     | ok t s3=>
      rw[hr] at t2
      obtain⟨e1,e2⟩:=t1 t s3 hr
      have hl3:=hlen _ _ _ _ _ hr
      have t2:RQ L _ s3 (TQ false [] (fldQ L n q)).2:=t2
      rw[e1]
      have hmu3:=t2.must hT hF (c:=59) (by decide)
      rw[show (⟨#[59]⟩:ByteArray)=cSem from rfl] at hmu3
      show OQ L pt ((mustR s3 cSem).bind fun _ s4=>fieldsR T n m (l++[(x,(goesR s.on cQ).1,t)]) s4) _
      cases hm4:mustR s3 cSem with
      | bad a w=>
       rw[hm4] at hmu3
       obtain⟨f1,f2,f3⟩:=hmu3
       have hw:((signQ L (TQ false [] (fldQ L n q)).2 cSem).setN n fun d=>{ d with fields:=d.fields++[(x,(goesR s.on cQ).1,t)] }).why≠0:=by show (signQ L (TQ false [] (fldQ L n q)).2 cSem).why≠0;rw[f1];exact f3
       have:fieldsQ L TQ n m2 ((signQ L (TQ false [] (fldQ L n q)).2 cSem).setN n fun d=>{ d with fields:=d.fields++[(x,(goesR s.on cQ).1,t)] })=((signQ L (TQ false [] (fldQ L n q)).2 cSem).setN n fun d=>{ d with fields:=d.fields++[(x,(goesR s.on cQ).1,t)] }):=by
        cases m2 with
        | zero=>rfl
        | succ m2=>rw[fieldsQ,if_pos (.inl hw),signQ_no hw]
       rw[this]
       exact⟨f1,f2,f3⟩
      | ok u s4=>
       rw[hm4] at hmu3
       obtain⟨b1,b2⟩:=mustR_ok hm4
       have hmu3:RQ L _ s4 (signQ L (TQ false [] (fldQ L n q)).2 cSem):=hmu3
       have hon4:=on_le s3
       have hs4:s4.ns.length=s3.ns.length:=by rw[b2];rfl
       have ho:RQ L (upd pt n fun d=>{ d with fields:=l++[(x,(goesR s.on cQ).1,t)] }) s4 ((signQ L (TQ false [] (fldQ L n q)).2 cSem).setN n fun d=>{ d with fields:=d.fields++[(x,(goesR s.on cQ).1,t)] }):=by
        have:=hmu3.openN n (by omega) (fun d=>{ d with fields:=d.fields++[(x,(goesR s.on cQ).1,t)] }) (fun d=>{ d with fields:=l++[(x,(goesR s.on cQ).1,t)] }) (fun d=>⟨rfl,rfl⟩) (fun d=>by unfold upd;rw[if_pos rfl])
        rwa [upd_upd] at this
       exact fields_q hT hF H m _ s4 _ m2 ho (by omega) hp hid (fun i hi=>hnew i (by omega)) (by rw[b2];omega) (by rw[b2];omega) hlen
   ·rw[h1]
    rw[h3] at hfa
    have hwa:(fldA L n q)={ q with why:=w,bad:=(hd s.l).a }:=by rw[hfa];exact onQ_no h2
    have hwf:fldQ L n q={ q with why:=w,bad:=(hd s.l).a }:=by
     unfold fldQ
     rw[hwa]
     have e:∀b:Bool,(if b=true then onQ L { q with why:=w,bad:=(hd s.l).a } else { q with why:=w,bad:=(hd s.l).a })={ q with why:=w,bad:=(hd s.l).a }:=fun b=>by
      split
      ·exact onQ_no h2
      ·rfl
     rw[e]
     exact signQ_no h2 _
    rw[hwf,if_pos h2]
    exact⟨rfl,rfl,h2⟩
theorem calledN_at' {ns:List Nd} {x:ByteArray} {i:Nat} {d:Nd} (h:ns[i]?=some d) (hp:(decide (9≤d.k) && decide (d.name=x))=true) (hn:∀(j:Nat),j<i→∀d,ns[j]?=some d→(decide (9≤d.k) && decide (d.name=x))=false):calledN ns x=some i:=by
 unfold calledN
 rw[List.findIdx?_eq_some_iff_getElem]
 obtain⟨hi,he⟩:=List.getElem?_eq_some_iff.1 h
 refine⟨hi,by rw[he];exact hp,fun j hj=>?_⟩
 have:=hn j hj _ (List.getElem?_eq_getElem (by omega))
 rw[this];simp
theorem RQ.called (h:RQ L pt s q) {n:Nat} {k:Int} {x:ByteArray} (hid:pt n=id) (hd:s.ns[n]?=some (Nd.ofKind k)) (hk:9≤k) (hx:nameP x=true) (hno:s.nm x=none):RQ L pt (s.called n x) (q.setN n fun d=>{ d with name:=x }):=by
 have hq:q.ns[n]?=some (Nd.ofKind k):=by rw[h.ns n,hd,hid];rfl
 have hn:n<q.ns.length:=(List.getElem?_eq_some_iff.1 hq).1
 have hns:∀i:Nat,(q.setN n fun d=>{ d with name:=x }).ns[i]?=((s.called n x).ns[i]?).map (pt i):=fun i=>by
  show (q.ns.modify n _)[i]?=((s.ns.modify n _)[i]?).map _
  rw[List.getElem?_modify,List.getElem?_modify,h.ns i]
  by_cases hi:n=i
  ·subst hi
   simp only[if_true,hid]
   cases s.ns[n]?<;>rfl
  ·cases s.ns[i]?<;>simp[hi]
 refine⟨h.l,h.lt,hns,h.why,fun y hy=>?_,h.kn,fun i hi=>h.new i (by have e:(s.called n x).ns.length=s.ns.length:=setN_len _ _ _;omega)⟩
 have hxe:x≠⟨#[]⟩:=by rintro rfl;revert hx;decide
 have hye:y≠⟨#[]⟩:=by rintro rfl;revert hy;decide
 have hcx:calledN q.ns x=none:=by rw[←h.nm x hx];exact hno
 have hcn:∀d∈q.ns,(decide (9≤d.k) && decide (d.name=x))=false:=by
  unfold calledN at hcx
  rw[List.findIdx?_eq_none_iff] at hcx
  exact hcx
 show (if y=x then some n else s.nm y)=_
 by_cases hyx:y=x
 ·rw[if_pos hyx,hyx]
  refine (calledN_at' (d:={ Nd.ofKind k with name:=x }) ?_ ?_ ?_).symm
  ·show (q.ns.modify n _)[n]?=_
   rw[List.getElem?_modify,hq];simp
  ·have:decide (9≤(Nd.ofKind k).k)=true:=decide_eq_true hk
   show (decide (9≤k) && decide (x=x))=true
   simp[hk]
  ·intro j hj d hdj
   have hdj:(q.ns.modify n _)[j]?=some d:=hdj
   rw[List.getElem?_modify] at hdj
   have hne:¬n=j:=by omega
   simp[hne] at hdj
   exact hcn d (List.mem_of_getElem? hdj)
 ·rw[if_neg hyx,h.nm y hy]
  have key:∀l:List Nd,l[n]?=some (Nd.ofKind k)→calledN (l.modify n fun d=>{ d with name:=x }) y=calledN l y:=by
   intro l hl
   have hp:∀i:Nat,((l.modify n fun d=>{ d with name:=x })[i]?).map (fun d=>decide (9≤d.k) && decide (d.name=y))=(l[i]?).map fun d=>decide (9≤d.k) && decide (d.name=y):=fun i=>by
    rw[List.getElem?_modify]
    by_cases hi:n=i
    ·subst hi
     rw[hl]
     simp only[if_true,Option.map_some,Nd.ofKind]
     have e1:decide (x=y)=false:=decide_eq_false (fun e=>hyx e.symm)
     have e2:decide ((⟨#[]⟩:ByteArray)=y)=false:=decide_eq_false (fun e=>hye e.symm)
     show some (decide (9≤k) && decide (x=y))=some (decide (9≤k) && decide ((⟨#[]⟩:ByteArray)=y))
     rw[e1,e2]
    ·cases l[i]?<;>simp[hi]
   have e:(l.modify n fun d=>{ d with name:=x }).map (fun d=>decide (9≤d.k) && decide (d.name=y))=l.map fun d=>decide (9≤d.k) && decide (d.name=y):=by
    apply List.ext_getElem?
    intro i
    rw[List.getElem?_map,List.getElem?_map]
    exact hp i
   have k2:∀l:List Nd,calledN l y=(l.map fun d=>decide (9≤d.k) && decide (d.name=y)).findIdx? id:=by
    intro l
    unfold calledN
    rw[List.findIdx?_map]
    rfl
   rw[k2,k2,e]
  exact (key q.ns hq).symm
end
end Pr
end Go.Proofs.YtmaoochjbpohdaaGreatDoor
