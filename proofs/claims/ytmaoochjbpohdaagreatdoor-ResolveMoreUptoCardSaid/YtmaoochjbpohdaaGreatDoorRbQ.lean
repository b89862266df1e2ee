/- parse: the reference's reader: what is noted, gone past, asked. -/
import Derived.Test.YtmaoochjbpohdaaGreatDoorRbP
set_option linter.unusedVariables false
set_option linter.unusedSimpArgs false
set_option maxRecDepth 100000
set_option maxHeartbeats 1000000
open Go.ChangeShapes Go.WideShapes Go.ChangeAt Go.RowKit
namespace Go.Proofs.YtmaoochjbpohdaaGreatDoor
namespace Pr
open Base Lx Mi
section
variable {B R:Nat} {vl vn:Value} {vs:List V3} {L:List Tok} {q:QS}
def RB (R:Nat) (a b:World):Prop:=Chg (fun k=>k=R) a b∧∀i,i<3→b.cell? ⟨R,i,none⟩=a.cell? ⟨R,i,none⟩
theorem rl_rb (R:Nat):Reg.Rl (RB R):=⟨fun w=>⟨Chg.refl _ w,fun i hi=>rfl⟩,fun h k=>⟨h.1.trans k.1 (fun _ _ e=>e),fun i hi=>(k.2 i hi).trans (h.2 i hi)⟩,fun h=>⟨(Reg.rl_chg _).drew h.1,h.2⟩⟩
theorem RB.set {w:World} {R i:Nat} {cs:Array Value} {t:TypeId} (hb:Blk w R cs t) (hi:3≤i) (u:Value):RB R w (w.setCell ⟨R,i,none⟩ u):=⟨Chg.one w R i u,fun j hj=>by
 rw[(hb.set i u).cell j,hb.cell j,Array.getElem?_setIfInBounds_ne (by omega)]⟩
def PQ (B R:Nat) (vl vn:Value) (vs:List V3) (L:List Tok) (w:World) (q':QS) (e:Ending) (w':World):Prop:=e=.returned (.tuple #[])∧Chg (fun k=>k=R) w w'∧Rq B w' R vl vn vs L q'
theorem bad_any (b:Bool) (er:Nat) (w:World) (h:Rq B w R vl vn vs L q):Calls Tryz.prog 66 #[.pointer (some ⟨R,0,none⟩),.bool b,.int .i64 (er:Int)] w fun e w'=>PQ B R vl vn vs L w (badQ L q b er) e w':=by
 by_cases hb:b=true∧q.why=0
 ·have hq':badQ L q b er=⟨q.at_,q.ns,er,(tkQ L q).a⟩:=by unfold badQ;rw[if_pos hb]
  rw[hq']
  obtain⟨hb1,hw0⟩:=hb
  subst hb1
  have hfin:∀(w':World),Chg (fun k=>k=R) w w'→Blk w' R #[vl,.int .i64 (q.at_:Int),vn,.int .i64 (er:Int),.int .i64 ((tkQ L q).a:Int)] 101→Rq B w' R vl vn vs L ⟨q.at_,q.ns,er,(tkQ L q).a⟩:=fun w' hch hbl=>Rq.cells h hch hbl h.lt
  have hbk:=h.blk
  obtain⟨tg,off,cap,rfl,hnc,hcm,hh⟩:=h.head
  have hlt:=h.lt
  obtain⟨n,hn⟩:∃z,Hid (L.length=z):=⟨_,rfl⟩
  obtain⟨t,ht⟩:∃z,Hid (tkQ L q=z):=⟨_,rfl⟩
  obtain⟨i,hi⟩:∃z,Hid (q.at_=z):=⟨_,rfl⟩
  obtain⟨bd,hbd⟩:∃z,Hid (q.bad=z):=⟨_,rfl⟩
  rw[hn.out] at hnc hlt
  rw[ht.out] at hh hfin
  rw[hi.out] at hlt hfin hh
  rw[hw0,hn.out,hi.out,hbd.out] at hbk
  rw[hn.out] at hfin
  have f3:=hbk.frozen 3
  have f4:=hbk.frozen 4
  have z3:w.cell? ⟨R,3,none⟩=some (.int .i64 0):=hbk.cell 3
  have z4:w.cell? ⟨R,4,none⟩=some (.int .i64 (bd:Int)):=hbk.cell 4
  have hlt':(i:Int)<(n:Int):=by omega
  have hin:(0:Int)≤(i:Int):=by omega
  obtain⟨PO,hPO⟩:∃PO:Ending→World→Prop,Hid ((fun e w'=>PQ B R (.slice (some ⟨tg,off,none⟩) L.length cap) vn vs L w ⟨q.at_,q.ns,er,(tkQ L q).a⟩ e w')=PO):=⟨_,rfl⟩
  rw[hPO.out]
  go_enter Tryz.func66,Tryz.ntmps66
  go_wp2_with fail
  refine Reg.startX (R:=RB R) (by kernel_rfl) ?_
  have hRl:=rl_rb R
  generalize hwq:World.drew _=wq
  have hxq:Ext w wq:=by rw[←hwq];exact (Ext.refl w).drew
  clear hwq
  have c0:∀W,RB R wq W→W.cell? ⟨R,0,none⟩=some (.slice (some ⟨tg,off,none⟩) n cap):=fun W hW=>(hW.2 0 (by omega)).trans ((hbk.ext hxq).cell 0)
  have c1:∀W,RB R wq W→W.cell? ⟨R,1,none⟩=some (.int .i64 (i:Int)):=fun W hW=>(hW.2 1 (by omega)).trans ((hbk.ext hxq).cell 1)
  have htgR:¬tg=R:=by obtain⟨_,_,_,e,_,_,_,h4⟩:=h.toks;injection e with e;injection e with e;injection e with e;subst e;have:=h.hR;omega
  have k2:∀W,RB R wq W→W.cell? ⟨tg,off+i*3+2,none⟩=some (.int .i64 (t.a:Int)):=fun W hW=>hW.1.cell ((hh wq hxq).2.2) htgR
  have hbq:=hbk.ext hxq
  have y3:wq.cell? ⟨R,3,none⟩=some (.int .i64 0):=hbq.cell 3
  have y4:wq.cell? ⟨R,4,none⟩=some (.int .i64 (bd:Int)):=hbq.cell 4
  have g3:=hbq.frozen 3
  have g4:=hbq.frozen 4
  clear hh z3 z4 f3 f4 hbk
  iterate 16 ((first|refine Reg.un hRl ?_|refine Reg.vn hRl ?_);(try simp only[Reg.nn]))
  refine Reg.onlyX 16 _ rfl (by kernel_rfl) (by decide) (by rfl) (fun K hK=>?_);go_simp
  refine hK.out _ _ (RB.set hbq (by omega) _) ?_;clear hK K;(try simp only[Reg.nn])
  have hb2:=hbq.set 3 (.int .i64 (er:Int))
  have x4:(wq.setCell ⟨R,3,none⟩ (.int .i64 (er:Int))).cell? ⟨R,4,none⟩=some (.int .i64 (bd:Int)):=hb2.cell 4
  have e4:=hb2.frozen 4
  iterate 2 ((first|refine Reg.un hRl ?_|refine Reg.vn hRl ?_);(try simp only[Reg.nn]))
  refine Reg.onlyX 19 _ rfl (by kernel_rfl) (by decide) (by rfl) (fun K hK=>?_);go_simp
  refine hK.out _ _ (RB.set hb2 (by omega) _) ?_;clear hK K;(try simp only[Reg.nn])
  refine Reg.finX (by kernel_rfl) ?_
  refine bodyPost_ret (results_none rfl _ _ _) rfl ?_
  rw[←hPO.out]
  have hch0:Chg (fun k=>k=R) w wq:=Chg.ofExt hxq
  have hch:=(hch0.set (p:=⟨R,3,none⟩) (.inl rfl) (.int .i64 (er:Int))).set (p:=⟨R,4,none⟩) (.inl rfl) (.int .i64 (t.a:Int))
  have hF:=hfin _ hch (hb2.set 4 _)
  refine⟨rfl,hch,?_⟩
  rw[hi.out,ht.out,hn.out]
  exact hF
 ·have hq':badQ L q b er=q:=by unfold badQ;rw[if_neg hb]
  rw[hq']
  obtain⟨wy,hwy⟩:∃z,Hid (q.why=z):=⟨_,rfl⟩
  have c3:w.cell? ⟨R,3,none⟩=some (.int .i64 (wy:Int)):=by rw[←hwy.out];exact h.blk.cell 3
  cases b with
  | false=>
   go_enter Tryz.func66,Tryz.ntmps66
   go_wp2_with fail
   refine bodyPost_ret (results_none rfl _ _ _) rfl ?_
   exact⟨rfl,Chg.refl _ _,h⟩
  | true=>
   have hne:¬(wy:Int)=0:=by
    have h0:¬q.why=0:=fun e=>hb ⟨rfl,e⟩
    have:=hwy.out;omega
   have hne2:((wy:Int) == 0)=false:=by simpa using hne
   go_enter Tryz.func66,Tryz.ntmps66
   go_wp2_with fail
   refine bodyPost_ret (results_none rfl _ _ _) rfl ?_
   exact⟨rfl,Chg.refl _ _,h⟩
theorem PQ.of {w w':World} {q':QS} {e:Ending} (h:PQ B R vl vn vs L w q' e w'):e=.returned (.tuple #[])∧Chg (fun k=>k=R) w w'∧Rq B w' R vl vn vs L q':=h
theorem on_any (w:World) (h:Rq B w R vl vn vs L q):Calls Tryz.prog 89 #[.pointer (some ⟨R,0,none⟩)] w fun e w'=>PQ B R vl vn vs L w (onQ L q) e w':=by
 have hbk:=h.blk
 obtain⟨tg,off,cap,rfl,hnc,hcm,_⟩:=h.head
 have hlt:=h.lt
 have htl:=h.tl
 obtain⟨n,hn⟩:∃z,Hid (L.length=z):=⟨_,rfl⟩
 obtain⟨i,hi⟩:∃z,Hid (q.at_=z):=⟨_,rfl⟩
 obtain⟨y,hy⟩:∃z,Hid (q.why=z):=⟨_,rfl⟩
 rw[hn.out,hi.out,hy.out] at hbk
 rw[hn.out] at hnc hlt htl
 rw[hi.out] at hlt
 obtain⟨PO,hPO⟩:∃PO:Ending→World→Prop,Hid ((fun e w'=>PQ B R (.slice (some ⟨tg,off,none⟩) L.length cap) vn vs L w (onQ L q) e w')=PO):=⟨_,rfl⟩
 rw[hPO.out]
 have c0:∀W,Ext w W→W.cell? ⟨R,0,none⟩=some (.slice (some ⟨tg,off,none⟩) n cap):=fun W hW=>(hbk.ext hW).cell 0
 have c1:∀W,Ext w W→W.cell? ⟨R,1,none⟩=some (.int .i64 (i:Int)):=fun W hW=>(hbk.ext hW).cell 1
 have c3:∀W,Ext w W→W.cell? ⟨R,3,none⟩=some (.int .i64 (y:Int)):=fun W hW=>(hbk.ext hW).cell 3
 have hidle:¬(q.why=0∧q.at_+1<L.length)→∀W,Ext w W→PO (.returned (.tuple #[])) W:=fun hno W hW=>by
  rw[←hPO.out]
  refine⟨rfl,Chg.ofExt hW,?_⟩
  unfold onQ
  rw[if_neg hno]
  exact h.ext hW
 by_cases hy0:y=0
 ·subst hy0
  have hw1:IntKind.i64.wrap ((i:Int)+1)=(i:Int)+1:=by rw[IntKind.wrap_i64];omega
  by_cases hin:i+1<n
  ·have hin':(i:Int)+1<(n:Int):=by omega
   go_enter Tryz.func89,Tryz.ntmps89
   go_wp2_with fail
   refine Reg.startE (by kernel_rfl) ?_
   iterate 18 ((first|refine Reg.tn ?_|refine Reg.sn ?_);(try simp only[Reg.nn]))
   refine Reg.fin (by kernel_rfl) (fun W hW=>?_)
   have d1:=c1 W hW
   have f1:=(hbk.ext hW).frozen 1
   have hbW:=hbk.ext hW
   have hrW:=h.ext hW
   clear c0 c1 c3
   go_wp2_with fail
   refine bodyPost_ret (results_none rfl _ _ _) rfl ?_
   rw[←hPO.out]
   have hch:=Chg.one W R 1 (.int .i64 ((i:Int)+1))
   have hq':onQ L q=⟨q.at_+1,q.ns,q.why,q.bad⟩:=by unfold onQ;rw[if_pos ⟨hy.out,by rw[hi.out,hn.out];exact hin⟩]
   rw[hq']
   refine⟨rfl,(Chg.ofExt hW).trans hch (fun _ _ e=>e),Rq.cells hrW hch ?_ (by rw[hi.out,hn.out];exact hin)⟩
   have hb9:=hbW.set 1 (.int .i64 ((i:Int)+1))
   rw[hi.out,hn.out,hy.out,show ((i+1:Nat):Int)=(i:Int)+1 by omega]
   exact hb9
  ·have hin':¬(i:Int)+1<(n:Int):=by omega
   have hid:=hidle (fun e=>hin (by rw[←hi.out,←hn.out];exact e.2))
   go_enter Tryz.func89,Tryz.ntmps89
   go_wp2_with fail
   refine Reg.startE (by kernel_rfl) ?_
   iterate 18 ((first|refine Reg.tn ?_|refine Reg.sn ?_);(try simp only[Reg.nn]))
   refine Reg.fin (by kernel_rfl) (fun W hW=>?_)
   go_wp2_with fail
   refine bodyPost_ret (results_none rfl _ _ _) rfl ?_
   exact hid _ hW
 ·have hne:((y:Int) == 0)=false:=by simpa using (by omega:¬(y:Int)=0)
  have hid:=hidle (fun e=>hy0 (by rw[←hy.out];exact e.1))
  go_enter Tryz.func89,Tryz.ntmps89
  go_wp2_with fail
  refine Reg.startE (by kernel_rfl) ?_
  iterate 18 ((first|refine Reg.tn ?_|refine Reg.sn ?_);(try simp only[Reg.nn]))
  refine Reg.fin (by kernel_rfl) (fun W hW=>?_)
  go_wp2_with fail
  refine bodyPost_ret (results_none rfl _ _ _) rfl ?_
  exact hid _ hW
theorem tok_k (k a:Int) (x:ByteArray) (w:World):(Instr.field 105 (.agg #[.int .i64 k,.string x,.int .i64 a]) 0).run Tryz.prog w=.ok (.int .i64 k) w:=by kernel_rfl
theorem tok_s (k a:Int) (x:ByteArray) (w:World):(Instr.field 105 (.agg #[.int .i64 k,.string x,.int .i64 a]) 1).run Tryz.prog w=.ok (.string x) w:=by kernel_rfl
theorem bne_str (a b:ByteArray):(a.toList != b.toList) = !decide (a=b):=by
 unfold bne
 by_cases h:a=b
 ·subst h;simp
 ·rw[str_ne h];simp[h]
theorem here_any (x:ByteArray) (w:World) (h:Rq B w R vl vn vs L q):Calls Tryz.prog 109 #[.pointer (some ⟨R,0,none⟩),.string x] w fun e w'=>e=.returned (.bool (hereQ L q x))∧Ext w w':=by
 have ht:=fun W hW=>tok_any W (h.ext hW)
 have htw:=ht w (Ext.refl _)
 have hr:hereQ L q x=(decide ((tkQ L q).k=2) && decide ((tkQ L q).s=x)):=rfl
 obtain⟨t,hte⟩:∃z,Hid (tkQ L q=z):=⟨_,rfl⟩
 rw[hte.out] at hr htw
 simp only[hte.out] at ht
 rw[hr]
 unfold tokV at ht htw
 have htk:=tok_k
 have hts:=tok_s
 by_cases hk:t.k=2
 ·have hkb:((t.k:Int) == 2)=true:=by simpa using hk
  by_cases hx:t.s=x
  ·have hbq:(t.s.toList == x.toList)=true:=by rw[hx];simp
   rw[decide_eq_true hk,decide_eq_true hx]
   go_enter Tryz.func109,Tryz.ntmps109
   go_wp2_with fail
   refine htw.mono ?_
   rintro e w1 ⟨rfl,hx1⟩
   have ht1:=ht w1 hx1
   go_wp2_with fail
   refine ht1.mono ?_
   rintro e w2 ⟨rfl,hx2⟩
   go_wp2_with fail
   go_ret
   exact⟨rfl,hx1.trans hx2⟩
  ·have hbq:=str_ne hx
   rw[decide_eq_true hk,decide_eq_false hx]
   go_enter Tryz.func109,Tryz.ntmps109
   go_wp2_with fail
   refine htw.mono ?_
   rintro e w1 ⟨rfl,hx1⟩
   have ht1:=ht w1 hx1
   go_wp2_with fail
   refine ht1.mono ?_
   rintro e w2 ⟨rfl,hx2⟩
   go_wp2_with fail
   go_ret
   exact⟨rfl,hx1.trans hx2⟩
 ·have hkb:((t.k:Int) == 2)=false:=by simpa using hk
  rw[decide_eq_false hk]
  go_enter Tryz.func109,Tryz.ntmps109
  go_wp2_with fail
  refine htw.mono ?_
  rintro e w1 ⟨rfl,hx1⟩
  go_wp2_with fail
  go_ret
  exact⟨rfl,hx1⟩
end
section
variable {B R:Nat} {vl vn:Value} {vs:List V3} {L:List Tok} {q:QS}
theorem sign_any (x:ByteArray) (w:World) (h:Rq B w R vl vn vs L q):Calls Tryz.prog 90 #[.pointer (some ⟨R,0,none⟩),.string x] w fun e w'=>PQ B R vl vn vs L w (signQ L q x) e w':=by
 have ht:=fun W hW=>tok_any W (h.ext hW)
 have htw:=ht w (Ext.refl _)
 have hr:(!hereQ L q x)=(!(decide ((tkQ L q).k=2) && decide ((tkQ L q).s=x))):=rfl
 have hbad:=fun W (hW:Ext w W)=>bad_any (!hereQ L q x) 4 W (h.ext hW)
 obtain⟨t,hte⟩:∃z,Hid (tkQ L q=z):=⟨_,rfl⟩
 rw[hte.out] at hr htw
 simp only[hte.out] at ht
 rw[show ((4:Nat):Int)=4 from rfl] at hbad
 obtain⟨q1,hq1⟩:∃z,Hid (badQ L q (!hereQ L q x) 4=z):=⟨_,rfl⟩
 have hsq:signQ L q x=onQ L q1:=by rw[←hq1.out];rfl
 rw[hsq]
 rw[hq1.out] at hbad
 rw[hr] at hbad
 clear hr hsq
 unfold tokV at ht htw
 have htk:=tok_k
 have hts:=tok_s
 by_cases hk:t.k=2
 ·have hkb:((t.k:Int) != 2)=false:=by simpa using hk
  by_cases hx:t.s=x
  ·have hbq:(t.s.toList == x.toList)=true:=by rw[hx];simp
   rw[decide_eq_true hk,decide_eq_true hx,show (!(true && true))=false from rfl] at hbad
   go_enter Tryz.func90,Tryz.ntmps90
   go_wp2_with fail
   refine htw.mono ?_
   rintro e w1 ⟨rfl,hx1⟩
   have ht1:=ht w1 hx1
   go_wp2_with fail
   refine ht1.mono ?_
   rintro e w2 ⟨rfl,hx2⟩
   have hxx:=hx1.trans hx2
   have hb2:=hbad w2 hxx
   go_wp2_with fail
   refine hb2.mono ?_
   rintro e w3 ⟨rfl,hc3,h3⟩
   have hon:=on_any w3 h3
   go_wp2_with fail
   refine hon.mono ?_
   rintro e w4 ⟨rfl,hc4,h4⟩
   go_wp2_with fail
   refine bodyPost_ret (results_none rfl _ _ _) rfl ?_
   exact⟨rfl,((Chg.ofExt hxx).trans hc3 (fun _ _ e=>e)).trans hc4 (fun _ _ e=>e),h4⟩
  ·have hbq:=str_ne hx
   rw[decide_eq_true hk,decide_eq_false hx,show (!(true && false))=true from rfl] at hbad
   go_enter Tryz.func90,Tryz.ntmps90
   go_wp2_with fail
   refine htw.mono ?_
   rintro e w1 ⟨rfl,hx1⟩
   have ht1:=ht w1 hx1
   go_wp2_with fail
   refine ht1.mono ?_
   rintro e w2 ⟨rfl,hx2⟩
   have hxx:=hx1.trans hx2
   have hb2:=hbad w2 hxx
   go_wp2_with fail
   refine hb2.mono ?_
   rintro e w3 ⟨rfl,hc3,h3⟩
   have hon:=on_any w3 h3
   go_wp2_with fail
   refine hon.mono ?_
   rintro e w4 ⟨rfl,hc4,h4⟩
   go_wp2_with fail
   refine bodyPost_ret (results_none rfl _ _ _) rfl ?_
   exact⟨rfl,((Chg.ofExt hxx).trans hc3 (fun _ _ e=>e)).trans hc4 (fun _ _ e=>e),h4⟩
 ·have hkb:((t.k:Int) != 2)=true:=by simpa using hk
  rw[decide_eq_false hk,show (!(false && decide (t.s=x)))=true from rfl] at hbad
  go_enter Tryz.func90,Tryz.ntmps90
  go_wp2_with fail
  refine htw.mono ?_
  rintro e w1 ⟨rfl,hxx⟩
  have hb2:=hbad w1 hxx
  go_wp2_with fail
  refine hb2.mono ?_
  rintro e w3 ⟨rfl,hc3,h3⟩
  have hon:=on_any w3 h3
  go_wp2_with fail
  refine hon.mono ?_
  rintro e w4 ⟨rfl,hc4,h4⟩
  go_wp2_with fail
  refine bodyPost_ret (results_none rfl _ _ _) rfl ?_
  exact⟨rfl,((Chg.ofExt hxx).trans hc3 (fun _ _ e=>e)).trans hc4 (fun _ _ e=>e),h4⟩
theorem nameQ_any (w:World) (h:Rq B w R vl vn vs L q):Calls Tryz.prog 86 #[.pointer (some ⟨R,0,none⟩)] w fun e w'=>e=.returned (.string (tkQ L q).s)∧Chg (fun k=>k=R) w w'∧Rq B w' R vl vn vs L (nameQ L q):=by
 have htw:=tok_any w h
 have hsz:=h.size
 have hbad:=fun W (hW:Ext w W)=>bad_any (decide ((tkQ L q).k≠0) || !nameP (tkQ L q).s || refKw (tkQ L q).s) 4 W (h.ext hW)
 obtain⟨q1,hq1⟩:∃z,Hid (nameQ L q=z):=⟨_,rfl⟩
 rw[show badQ L q (decide ((tkQ L q).k≠0) || !nameP (tkQ L q).s || refKw (tkQ L q).s) 4=q1 from hq1.out,show ((4:Nat):Int)=4 from rfl] at hbad
 rw[hq1.out]
 obtain⟨t,hte⟩:∃z,Hid (tkQ L q=z):=⟨_,rfl⟩
 rw[hte.out] at hbad htw hsz ⊢
 have hnm:=fun W=>refName_any t.s (by omega) W
 have hkw:=fun W=>refKeyword_any t.s W
 have hg:=h.blk.lt
 obtain⟨NP,hNP⟩:∃z,Hid (nameP t.s=z):=⟨_,Lib.hid rfl⟩
 obtain⟨KW,hKW⟩:∃z,Hid (refKw t.s=z):=⟨_,Lib.hid rfl⟩
 simp only[hNP.out] at hnm
 simp only[hKW.out] at hkw
 rw[hNP.out,hKW.out] at hbad
 unfold tokV at htw
 by_cases hk:t.k=0
 ·have hkb:((t.k:Int) != 0)=false:=by simpa using hk
  rw[show decide (t.k≠0)=false by simp[hk]] at hbad
  rw[hk] at htw
  cases NP with
  | false=>
   rw[show (false || !false || KW)=true by simp] at hbad
   go_enter Tryz.func86,Tryz.ntmps86
   go_wp2_with fail
   refine htw.mono ?_
   rintro e w1 ⟨rfl,hx1⟩
   obtain⟨g,hg'⟩:∃z,Hid (w1.heap.size=z):=⟨_,rfl⟩
   obtain⟨w3,hw3⟩:∃z,Hid (w1.alloc (.cells #[.int .i64 0,.string t.s,.int .i64 (t.a:Int)] 105)=z):=⟨_,rfl⟩
   have hb3:Blk w3 g #[.int .i64 0,.string t.s,.int .i64 (t.a:Int)] 105:=by rw[←hw3.out,←hg'.out];exact Blk.new w1 _ _
   have hx3:Ext w w3:=by rw[←hw3.out];exact hx1.alloc _
   have c13:w3.cell? ⟨g,1,none⟩=some (.string t.s):=hb3.cell 1
   have hgR:¬g=R:=by have:=hx1.size;have:=hg'.out;omega
   have hn3:=hnm w3
   go_wp2_with fail
   rw[hw3.out,hg'.out]
   refine hn3.mono ?_
   rintro e w4 ⟨rfl,hw4⟩
   have hw4:=hw4.symm
   subst hw4
   have hb4:=hbad w3 hx3
   go_wp2_with fail
   refine hb4.mono ?_
   rintro e w6 ⟨rfl,hc6,h6⟩
   have c1:w6.cell? ⟨g,1,none⟩=some (.string t.s):=(hc6.blk hb3 hgR).cell 1
   go_wp2_with fail
   go_ret
   exact⟨rfl,(Chg.ofExt hx3).trans hc6 (fun _ _ e=>e),h6⟩
  | true=>
   cases KW with
   | false=>
    rw[show (false || !true || false)=false by simp] at hbad
    go_enter Tryz.func86,Tryz.ntmps86
    go_wp2_with fail
    refine htw.mono ?_
    rintro e w1 ⟨rfl,hx1⟩
    obtain⟨g,hg'⟩:∃z,Hid (w1.heap.size=z):=⟨_,rfl⟩
    obtain⟨w3,hw3⟩:∃z,Hid (w1.alloc (.cells #[.int .i64 0,.string t.s,.int .i64 (t.a:Int)] 105)=z):=⟨_,rfl⟩
    have hb3:Blk w3 g #[.int .i64 0,.string t.s,.int .i64 (t.a:Int)] 105:=by rw[←hw3.out,←hg'.out];exact Blk.new w1 _ _
    have hx3:Ext w w3:=by rw[←hw3.out];exact hx1.alloc _
    have c13:w3.cell? ⟨g,1,none⟩=some (.string t.s):=hb3.cell 1
    have hgR:¬g=R:=by have:=hx1.size;have:=hg'.out;omega
    have hn3:=hnm w3
    go_wp2_with fail
    rw[hw3.out,hg'.out]
    refine hn3.mono ?_
    rintro e w4 ⟨rfl,hw4⟩
    have hw4:=hw4.symm
    subst hw4
    have hk4:=hkw w3
    go_wp2_with fail
    refine hk4.mono ?_
    rintro e w5 ⟨rfl,hx5⟩
    have hb5:=hbad w5 (hx3.trans hx5)
    have hb3:=hb3.ext hx5
    replace hx3:=hx3.trans hx5
    go_wp2_with fail
    refine hb5.mono ?_
    rintro e w6 ⟨rfl,hc6,h6⟩
    have c1:w6.cell? ⟨g,1,none⟩=some (.string t.s):=(hc6.blk hb3 hgR).cell 1
    go_wp2_with fail
    go_ret
    exact⟨rfl,(Chg.ofExt hx3).trans hc6 (fun _ _ e=>e),h6⟩
   | true=>
    rw[show (false || !true || true)=true by simp] at hbad
    go_enter Tryz.func86,Tryz.ntmps86
    go_wp2_with fail
    refine htw.mono ?_
    rintro e w1 ⟨rfl,hx1⟩
    obtain⟨g,hg'⟩:∃z,Hid (w1.heap.size=z):=⟨_,rfl⟩
    obtain⟨w3,hw3⟩:∃z,Hid (w1.alloc (.cells #[.int .i64 0,.string t.s,.int .i64 (t.a:Int)] 105)=z):=⟨_,rfl⟩
    have hb3:Blk w3 g #[.int .i64 0,.string t.s,.int .i64 (t.a:Int)] 105:=by rw[←hw3.out,←hg'.out];exact Blk.new w1 _ _
    have hx3:Ext w w3:=by rw[←hw3.out];exact hx1.alloc _
    have c13:w3.cell? ⟨g,1,none⟩=some (.string t.s):=hb3.cell 1
    have hgR:¬g=R:=by have:=hx1.size;have:=hg'.out;omega
    have hn3:=hnm w3
    go_wp2_with fail
    rw[hw3.out,hg'.out]
    refine hn3.mono ?_
    rintro e w4 ⟨rfl,hw4⟩
    have hw4:=hw4.symm
    subst hw4
    have hk4:=hkw w3
    go_wp2_with fail
    refine hk4.mono ?_
    rintro e w5 ⟨rfl,hx5⟩
    have hb5:=hbad w5 (hx3.trans hx5)
    have hb3:=hb3.ext hx5
    replace hx3:=hx3.trans hx5
    go_wp2_with fail
    refine hb5.mono ?_
    rintro e w6 ⟨rfl,hc6,h6⟩
    have c1:w6.cell? ⟨g,1,none⟩=some (.string t.s):=(hc6.blk hb3 hgR).cell 1
    go_wp2_with fail
    go_ret
    exact⟨rfl,(Chg.ofExt hx3).trans hc6 (fun _ _ e=>e),h6⟩
 ·have hkb:((t.k:Int) != 0)=true:=by simpa using hk
  rw[show decide (t.k≠0)=true by simp[hk],show (true || !NP || KW)=true by simp] at hbad
  go_enter Tryz.func86,Tryz.ntmps86
  go_wp2_with fail
  refine htw.mono ?_
  rintro e w1 ⟨rfl,hx1⟩
  obtain⟨g,hg'⟩:∃z,Hid (w1.heap.size=z):=⟨_,rfl⟩
  obtain⟨w3,hw3⟩:∃z,Hid (w1.alloc (.cells #[.int .i64 t.k,.string t.s,.int .i64 (t.a:Int)] 105)=z):=⟨_,rfl⟩
  have hb3:Blk w3 g #[.int .i64 t.k,.string t.s,.int .i64 (t.a:Int)] 105:=by rw[←hw3.out,←hg'.out];exact Blk.new w1 _ _
  have hx3:Ext w w3:=by rw[←hw3.out];exact hx1.alloc _
  have c13:w3.cell? ⟨g,1,none⟩=some (.string t.s):=hb3.cell 1
  have hgR:¬g=R:=by have:=hx1.size;have:=hg'.out;omega
  have hb3':=hbad w3 hx3
  go_wp2_with fail
  rw[hw3.out,hg'.out]
  refine hb3'.mono ?_
  rintro e w6 ⟨rfl,hc6,h6⟩
  have c1:w6.cell? ⟨g,1,none⟩=some (.string t.s):=(hc6.blk hb3 hgR).cell 1
  go_wp2_with fail
  go_ret
  exact⟨rfl,(Chg.ofExt hx3).trans hc6 (fun _ _ e=>e),h6⟩
end
def isCalled (x:ByteArray) (d:Nd):Bool:=decide (9≤d.k) && decide (d.name=x)
theorem calledN_at {ns:List Nd} {x:ByteArray} {i:Nat} {d:Nd} (h:ns[i]?=some d) (hp:isCalled x d=true) (hn:∀(j:Nat),j<i→∀d,ns[j]?=some d→isCalled x d=false):calledN ns x=some i:=by
 unfold calledN
 rw[List.findIdx?_eq_some_iff_getElem]
 obtain⟨hi,he⟩:=List.getElem?_eq_some_iff.1 h
 refine⟨hi,by rw[he];exact hp,fun j hj=>?_⟩
 have:=hn j hj _ (List.getElem?_eq_getElem (by omega))
 unfold isCalled at this
 rw[this];simp
theorem calledN_none {ns:List Nd} {x:ByteArray} (hn:∀(j:Nat) d,ns[j]?=some d→isCalled x d=false):calledN ns x=none:=by
 unfold calledN
 rw[List.findIdx?_eq_none_iff]
 intro d hd
 obtain⟨j,hj⟩:=List.mem_iff_getElem?.1 hd
 exact hn j d hj
section
variable {B R:Nat} {vl vn:Value} {vs:List V3} {L:List Tok} {q:QS}
theorem Rq.node {w:World} (h:Rq B w R vl vn vs L q) (j:Nat) (hj:j<q.ns.length):∃d v b c,q.ns[j]?=some d∧vs[j]?=some v∧vn=.slice (some ⟨b,0,none⟩) q.ns.length c∧q.ns.length≤c∧c≤maxLen∧∀W,Ext w W→∀i,i<6→W.cell? ⟨b,j*6+i,none⟩=(ndC d v)[i]?:=by
 obtain⟨d,hd⟩:∃d,q.ns[j]?=some d:=⟨_,List.getElem?_eq_getElem hj⟩
 obtain⟨v,hv⟩:∃v,vs[j]?=some v:=⟨_,List.getElem?_eq_getElem (by rw[h.nds.len];exact hj)⟩
 rcases h.nds.row.2 with⟨_,h0⟩|⟨b,c,cur,e,hb,hg,h1,h2,h3,h4⟩
 ·omega
 ·refine⟨d,v,b,c,hd,hv,e,h1,h2,fun W hW i hi=>?_⟩
  have hbk:Blk w b cur 36:=hg
  rw[(hbk.ext hW).cell]
  have h5:=ndsC_at q.ns vs j d v hd hv i hi
  rw[←h4,List.getElem?_take,if_pos (by omega)] at h5
  rw[←h5]
  simp
theorem Rq.slice {w:World} (h:Rq B w R vl vn vs L q):∃A c,vn=.slice A q.ns.length c∧q.ns.length≤c∧c≤maxLen:=by
 obtain⟨A,c,e,h1,h2,_⟩:=Rd.of_own h.nds.row
 exact⟨A,c,e,h1,h2⟩
theorem called_any (x:ByteArray) (w:World) (h:Rq B w R vl vn vs L q):Calls Tryz.prog 87 #[.pointer (some ⟨R,0,none⟩),.string x] w fun e w'=>e=.returned (.int .i64 (optI (calledN q.ns x)))∧w'=w:=by
 have hnd:=h.node
 have hbk:=h.blk
 obtain⟨A,cc,rfl,hnc,hcm⟩:=h.slice
 obtain⟨n,hn⟩:∃z,Hid (q.ns.length=z):=⟨_,Lib.hid rfl⟩
 obtain⟨Rr,hRr⟩:∃z,Hid (calledN q.ns x=z):=⟨_,Lib.hid rfl⟩
 rw[hRr.out]
 have c2:w.cell? ⟨R,2,none⟩=some (.slice A n cc):=by rw[←hn.out];exact hbk.cell 2
 rw[hn.out] at hnc
 have hn200:n≤200:=by have:=h.nl;have:=hn.out;omega
 go_enter Tryz.func87,Tryz.ntmps87
 go_wp2_with fail
 go_loopw [5] (fun v5 wr=>∃i:Nat,i≤n∧v5=.int .i64 i∧(∀(j:Nat),j<i→∀d,q.ns[j]?=some d→isCalled x d=false)∧wr=w) (fun v5 _=>n-(intOf v5).toNat)
 case atStart=>exact⟨0,by omega,rfl,fun j hj=>by omega,rfl⟩
 case round=>
  obtain⟨i,hi,rfl,hno,hw⟩:=hrel
  have hw:=hw.symm
  subst hw
  by_cases hin:i<n
  ·have hin':(i:Int)<(n:Int):=by omega
   obtain⟨d,v,b,c,hd,hv,e1,hc1,hc2,hc⟩:=hnd i (by rw[hn.out];exact hin)
   injection e1 with e1 _ e2
   subst e1;subst e2
   have k0:w.cell? ⟨b,i*6,none⟩=some (.int .i64 d.k):=by have:=hc w (Ext.refl _) 0 (by omega);simpa [ndC] using this
   have k1:w.cell? ⟨b,i*6+1,none⟩=some (.string d.name):=by have:=hc w (Ext.refl _) 1 (by omega);simpa [ndC] using this
   have hat:=calledN_at (x:=x) hd
   have hnx:isCalled x d=false→∀(j:Nat),j<i+1→∀d,q.ns[j]?=some d→isCalled x d=false:=fun hf j hj d' hd'=>by
    rcases Nat.lt_or_ge j i with h1|h1
    ·exact hno j h1 d' hd'
    ·obtain rfl:j=i:=by omega
     rw[hd] at hd';injection hd' with hd';subst hd';exact hf
   clear hc hd hv
   by_cases hk:9≤d.k
   ·have hk':(d.k:Int)≥9:=hk
    by_cases hx:d.name=x
    ·have hr:=hat (by simp[isCalled,hk,hx]) hno
     rw[hRr.out] at hr
     subst hr
     have hbq:(d.name.toList == x.toList)=true:=by rw[hx];simp
     rw[hx] at k1
     clear hat hnx hno
     go_wp2_with fail
     go_ret
     exact⟨rfl,rfl⟩
    ·have hbq:=str_ne hx
     have hnx':=hnx (by simp[isCalled,hx])
     clear hat hnx hno
     go_wp2_with fail
     go_roundw
     case rel=>exact⟨i+1,by omega,by go_num,hnx',by first|rfl|trivial⟩
     case measure=>simp[intOf];omega
   ·have hk':¬(d.k:Int)≥9:=hk
    have hnx':=hnx (by simp[isCalled,hk])
    clear hat hnx hno
    go_wp2_with fail
    go_roundw
    case rel=>exact⟨i+1,by omega,by go_num,hnx',by first|rfl|trivial⟩
    case measure=>simp[intOf];omega
  ·obtain rfl:i=n:=by omega
   have hr:=calledN_none (ns:=q.ns) (x:=x) (fun j d hd=>hno j (by have:=(List.getElem?_eq_some_iff.1 hd).1;rw[hn.out] at this;exact this) d hd)
   rw[hRr.out] at hr
   subst hr
   have hnot:¬(i:Int)<(i:Int):=by omega
   clear hno
   go_wp2_with fail
   go_ret
   exact⟨rfl,rfl⟩
def sameB (ns:List Nd) (k n:Int) (m:Nat):Bool:=decide ((m:Int)=n) || (decide (0≤k) && decide (k<9) && decide (ns[m]?.map (·.k)=some k))
theorem sameQ_eq (ns:List Nd) (l:List Nat) (k n:Int):sameQ ns l k n=l.any (sameB ns k n):=rfl
theorem any_at {α:Type} {p:α→Bool}:∀ {l:List α} {i:Nat} {x:α},l[i]?=some x→p x=true→l.any p=true:=by
 intro l i x h hp
 rw[List.any_eq_true]
 exact⟨x,List.mem_of_getElem? h,hp⟩
theorem any_none {α:Type} {p:α→Bool} {l:List α} (h:∀(i:Nat) x,l[i]?=some x→p x=false):l.any p=false:=by
 rw[List.any_eq_false]
 intro x hx
 obtain⟨i,hi⟩:=List.mem_iff_getElem?.1 hx
 rw[h i x hi];simp
set_option maxHeartbeats 2000000 in
theorem same_any (A:Option Addr) (na ca:Nat) (l:List Nat) (k nn:Int) (w:World) (h:Rq B w R vl vn vs L q) (hA:Rd w A (ints l)) (hla:l.length=na) (hl2:na≤100000) (hm:∀m∈l,m<q.ns.length) :
  Calls Tryz.prog 88 #[.pointer (some ⟨R,0,none⟩),.slice A na ca,.int .i64 k,.int .i64 nn] w fun e w'=>e=.returned (.bool (sameQ q.ns l k nn))∧Ext w w':=by
 have hnd:=h.node
 have hbk:=h.blk
 obtain⟨An,cc,rfl,hnc,hcm⟩:=h.slice
 obtain⟨n,hn⟩:∃z,Hid (q.ns.length=z):=⟨_,Lib.hid rfl⟩
 obtain⟨Rr,hRr⟩:∃z,Hid (sameQ q.ns l k nn=z):=⟨_,Lib.hid rfl⟩
 rw[hRr.out]
 have c2:∀W,Ext w W→W.cell? ⟨R,2,none⟩=some (.slice An n cc):=fun W hW=>by rw[←hn.out];exact (hbk.ext hW).cell 2
 rw[hn.out] at hnc hm
 rw[sameQ_eq] at hRr
 go_enter Tryz.func88,Tryz.ntmps88
 go_wp2_with fail
 go_loopw [9] (fun v9 wr=>∃i:Nat,i≤na∧v9=.int .i64 i∧(∀(j:Nat),j<i→∀m,l[j]?=some m→sameB q.ns k nn m=false)∧Ext w wr) (fun v9 _=>na-(intOf v9).toNat)
 case atStart=>exact⟨0,by omega,rfl,fun j hj=>by omega,Ext.refl w⟩
 case round=>
  obtain⟨i,hi,rfl,hno,hx⟩:=hrel
  by_cases hin:i<na
  ·have hin':(i:Int)<(na:Int):=by omega
   obtain⟨m,hmi⟩:∃m,l[i]?=some m:=⟨_,List.getElem?_eq_getElem (by omega)⟩
   have hmn:m<n:=hm m (List.mem_of_getElem? hmi)
   have hmn':(m:Int)<(n:Int):=by omega
   have hiz:(ints l)[i]?=some (.int .i64 (m:Int)):=by unfold ints;rw[List.getElem?_map,hmi];rfl
   have hne:ints l≠[]:=by intro e;rw[e] at hiz;simp at hiz
   obtain⟨ba,oa,rfl,hca⟩:=hA hne
   have ka:∀W,Ext wr W→W.cell? ⟨ba,oa+i,none⟩=some (.int .i64 (m:Int)):=fun W hW=>(hx.trans hW).cell (hca i _ hiz)
   obtain⟨d,v,b,c,hd,hv,e1,hc1,hc2,hc⟩:=hnd m (by rw[hn.out];exact hmn)
   injection e1 with e1 _ e2
   subst e1;subst e2
   have k0:∀W,Ext wr W→W.cell? ⟨b,m*6,none⟩=some (.int .i64 d.k):=fun W hW=>by have:=hc W (hx.trans hW) 0 (by omega);simpa [ndC] using this
   have c2r:∀W,Ext wr W→W.cell? ⟨R,2,none⟩=some (.slice (some ⟨b,0,none⟩) n cc):=fun W hW=>c2 W (hx.trans hW)
   have hsb:sameB q.ns k nn m=(decide ((m:Int)=nn) || (decide (0≤k) && decide (k<9) && decide (d.k=k))):=by unfold sameB;rw[hd];simp
   have hat:=any_at (p:=sameB q.ns k nn) hmi
   rw[hRr.out] at hat
   have hnx:sameB q.ns k nn m=false→∀(j:Nat),j<i+1→∀m,l[j]?=some m→sameB q.ns k nn m=false:=fun hf j hj m' hm'=>by
    rcases Nat.lt_or_ge j i with h1|h1
    ·exact hno j h1 m' hm'
    ·obtain rfl:j=i:=by omega
     rw[hmi] at hm';injection hm' with hm';subst hm';exact hf
   rw[hsb] at hat hnx
   clear hc hd hv hsb hca hiz hne hmi hno c2
   by_cases h1:(m:Int)=nn
   ·have hb1:((m:Int) == nn)=true:=by simpa using h1
    have hr:=hat (by simp[h1])
    subst hr
    subst h1
    clear hat hnx
    go_wp2_with fail
    refine Reg.startE (by kernel_rfl) ?_
    iterate 29 ((first|refine Reg.tn ?_|refine Reg.sn ?_);(try simp only[Reg.nn]))
    refine Reg.fin (by kernel_rfl) (fun W hW=>?_)
    go_wp2_with fail
    go_ret
    exact⟨rfl,hx.trans hW⟩
   ·have hb1:((m:Int) == nn)=false:=by simpa using h1
    by_cases h2:0≤k
    ·have h2':(k:Int)≥0:=h2
     by_cases h3:k<9
     ·by_cases h4:d.k=k
      ·have hb4:(d.k == k)=true:=by simpa using h4
       have hr:=hat (by simp[h2,h3,h4])
       subst hr
       clear hat hnx
       go_wp2_with fail
       refine Reg.startE (by kernel_rfl) ?_
       iterate 29 ((first|refine Reg.tn ?_|refine Reg.sn ?_);(try simp only[Reg.nn]))
       refine Reg.fin (by kernel_rfl) (fun W hW=>?_)
       go_wp2_with fail
       go_ret
       exact⟨rfl,hx.trans hW⟩
      ·have hb4:(d.k == k)=false:=by simpa using h4
       have hnx':=hnx (by simp[h1,h4])
       clear hat hnx
       go_wp2_with fail
       refine Reg.startE (by kernel_rfl) ?_
       iterate 29 ((first|refine Reg.tn ?_|refine Reg.sn ?_);(try simp only[Reg.nn]))
       refine Reg.fin (by kernel_rfl) (fun W hW=>?_)
       go_wp2_with fail
       go_roundw
       case rel=>exact⟨i+1,by omega,by go_num,hnx',hx.trans hW⟩
       case measure=>simp[intOf];omega
     ·have hd9:decide (k<9)=false:=decide_eq_false h3
      have hnx':=hnx (by simp[h1,h3])
      clear hat hnx
      go_wp2_with fail
      refine Reg.startE (by kernel_rfl) ?_
      iterate 29 ((first|refine Reg.tn ?_|refine Reg.sn ?_);(try simp only[Reg.nn]))
      refine Reg.fin (by kernel_rfl) (fun W hW=>?_)
      go_wp2_with fail
      go_roundw
      case rel=>exact⟨i+1,by omega,by go_num,hnx',hx.trans hW⟩
      case measure=>simp[intOf];omega
    ·have h2':¬(k:Int)≥0:=h2
     have hd0:decide (0≤k)=false:=decide_eq_false h2
     have hd1:decide (k≥0)=false:=decide_eq_false h2
     have hnx':=hnx (by simp[h1,h2])
     clear hat hnx
     go_wp2_with fail
     refine Reg.startE (by kernel_rfl) ?_
     iterate 29 ((first|refine Reg.tn ?_|refine Reg.sn ?_);(try simp only[Reg.nn]))
     refine Reg.fin (by kernel_rfl) (fun W hW=>?_)
     go_wp2_with fail
     go_roundw
     case rel=>exact⟨i+1,by omega,by go_num,hnx',hx.trans hW⟩
     case measure=>simp[intOf];omega
  ·obtain rfl:i=na:=by omega
   have hr:=any_none (p:=sameB q.ns k nn) (l:=l) (fun j m hm=>hno j (by have:=(List.getElem?_eq_some_iff.1 hm).1;omega) m hm)
   rw[hRr.out] at hr
   subst hr
   have hnot:¬(i:Int)<(i:Int):=by omega
   clear hno
   go_wp2_with fail
   go_ret
   exact⟨rfl,hx⟩
end
section
variable {B R:Nat} {vl vn:Value} {vs:List V3} {L:List Tok} {q:QS}
theorem Rq.wr_ge {w:World} (h:Rq B w R vl vn vs L q):∀k,Wq R vn k→B≤k:=by
 rintro k (rfl|e)
 ·exact h.hR
 ·exact (h.nds.row.lt k e).1
theorem Rq.renode {w w2:World} {S:Nat→Prop} {ns':List Nd} {vs':List V3} {vn':Value} (h:Rq B w R vl vn vs L q) (hch:Chg S w w2) (hS:∀k,S k→B≤k) (hblk:Blk w2 R #[vl,.int .i64 (q.at_:Int),vn',.int .i64 (q.why:Int),.int .i64 (q.bad:Int)] 101) (hrow:w2.ownsRow B 36 6 vn' ns'.length (ndsC ns' vs')) (hlen:vs'.length=ns'.length) (hsub:∀(i:Nat) d v,ns'[i]?=some d→vs'[i]?=some v→Sub B w2 d v) (h200:ns'.length≤200) (hap:Ap vs') :
  Rq B w2 R vl vn' vs' L { q with ns:=ns' }:=by
 obtain⟨tg,off,cap,e,h1,h2,h3,h4⟩:=h.toks
 exact⟨hblk,⟨tg,off,cap,e,Rd.chg h1 hch (fun a e=>by injection e with e;subst e;intro hs;have:=hS _ hs;simp only at this;omega),h2,h3,h4⟩,⟨hlen,hrow,hsub⟩,h.lt,h.tl,h.ts,h200,h.hR,hap⟩
theorem Rq.rowb {w:World} (h:Rq B w R vl vn vs L q) (n:Nat) (hn:n<q.ns.length):∃b c cur,vn=.slice (some ⟨b,0,none⟩) q.ns.length c∧B≤b∧Blk w b cur 36∧q.ns.length≤c∧c≤maxLen∧cur.size=c*6∧cur.toList.take (q.ns.length*6)=ndsC q.ns vs:=by
 rcases h.nds.row.2 with⟨_,h0⟩|⟨b,c,cur,e,hb,hg,h1,h2,h3,h4⟩
 ·omega
 ·exact⟨b,c,cur,e,hb,hg,h1,h2,h3,h4⟩
theorem Rq.refill {w w2:World} {S:Nat→Prop} {b c n i:Nat} (h:Rq B w R vl (.slice (some ⟨b,0,none⟩) q.ns.length c) vs L q) (hch:Chg S w w2) (hSB:∀k,S k→B≤k) (hSR:¬S R) (hSb:¬S b)
  (hSo:∀(j:Nat) d v,j≠n→q.ns[j]?=some d→vs[j]?=some v→(∀k,v.1.ownBlock=some k→¬S k)∧(∀k,v.2.1.ownBlock=some k→¬S k)∧(∀k,v.2.2.ownBlock=some k→¬S k))
  (hn:n<q.ns.length) (hi:i<6) (f:Nd→Nd) (g:V3→V3) (u:Value) (hq:∀d v,q.ns[n]?=some d→vs[n]?=some v→ndC (f d) (g v)=(ndC d v).set i u∧Sub B w2 (f d) (g v)) (hap:Ap (vs.modify n g)) :
  Rq B (w2.setCell ⟨b,n*6+i,none⟩ u) R vl (.slice (some ⟨b,0,none⟩) q.ns.length c) (vs.modify n g) L (q.setN n f):=by
 obtain⟨b',c',cur,e,hb,hg,h1,h2,h3,h4⟩:=h.rowb n hn
 injection e with e e1 e2
 simp only[Option.some.injEq,Addr.mk.injEq,and_true] at e
 subst e;subst e2
 have hg2:Blk w2 b cur 36:=hch.blk hg hSb
 have hc1:=Chg.one w2 b (n*6+i) u
 have hbR:¬b=R:=fun e=>h.sep (by rw[←e];rfl)
 have hb2:Blk (w2.setCell ⟨b,n*6+i,none⟩ u) b (cur.setIfInBounds (n*6+i) u) 36:=hg2.set _ _
 have hl:(q.ns.modify n f).length=q.ns.length:=by simp
 have hchT:Chg (fun k=>S k∨k=b) w (w2.setCell ⟨b,n*6+i,none⟩ u):=(hch.mono fun k _ h=>.inl h).trans (hc1.mono fun k _ h=>.inr h) (fun k hk e=>e)
 have hsubT:∀d v,Sub B w2 d v→Sub B (w2.setCell ⟨b,n*6+i,none⟩ u) d v:=fun d v hs=>hs.chg hc1 (fun k hk e=>own_ne_blk hs.syms hg2 (by decide) (by rw[←e];exact hk.symm)) (fun k hk e=>own_ne_blk hs.items hg2 (by decide) (by rw[←e];exact hk.symm)) (fun k hk e=>own_ne_blk hs.fields hg2 (by decide) (by rw[←e];exact hk.symm))
 refine h.renode hchT (fun k e=>e.elim (hSB k) (fun e=>e ▸ hb)) (hc1.blk (hch.blk h.blk hSR) (fun e=>hbR e.symm)) ?_ ?_ ?_ ?_ hap
 ·rw[hl]
  refine⟨by rw[ndsC_length _ _ (by simp[h.nds.len]),hl],.inr ⟨b,c,_,rfl,hb,hb2,h1,h2,by rw[Array.size_setIfInBounds];exact h3,?_⟩⟩
  rw[Array.toList_setIfInBounds,List.take_set,h4]
  exact (ndsC_modify q.ns vs n i f g u h.nds.len hi (fun d v a1 a2=>(hq d v a1 a2).1) hn).symm
 ·simp[h.nds.len]
 ·intro j d v q1 q2
  rw[List.getElem?_modify] at q1 q2
  by_cases hj:n=j
  ·subst hj
   simp only[if_true] at q1 q2
   obtain⟨d0,h5,rfl⟩:=Option.map_eq_some_iff.1 q1
   obtain⟨w0,h6,rfl⟩:=Option.map_eq_some_iff.1 q2
   exact hsubT _ _ (hq d0 w0 h5 h6).2
  ·simp[hj] at q1 q2
   have hs:=h.nds.sub j d v q1 q2
   obtain⟨a1,a2,a3⟩:=hSo j d v (fun e=>hj e.symm) q1 q2
   exact hsubT _ _ (hs.chg hch a1 a2 a3)
 ·rw[hl];exact h.nl
theorem Rq.fill {w:World} {b c n i:Nat} (h:Rq B w R vl (.slice (some ⟨b,0,none⟩) q.ns.length c) vs L q) (hn:n<q.ns.length) (hi:i<6) (f:Nd→Nd) (g:V3→V3) (u:Value) (hq:∀d v,q.ns[n]?=some d→vs[n]?=some v→ndC (f d) (g v)=(ndC d v).set i u∧Sub B w (f d) (g v)) (hap:Ap (vs.modify n g)) :
  Rq B (w.setCell ⟨b,n*6+i,none⟩ u) R vl (.slice (some ⟨b,0,none⟩) q.ns.length c) (vs.modify n g) L (q.setN n f):=
 h.refill (S:=fun _=>False) (Chg.refl _ w) (fun k e=>e.elim) (fun e=>e) (fun e=>e) (fun j d v _ _ _=>⟨fun _ _ e=>e,fun _ _ e=>e,fun _ _ e=>e⟩) hn hi f g u hq hap
theorem ap_id {n:Nat} (h:Ap vs) {g:V3→V3} (hg:∀v,vs[n]?=some v→g v=v):Ap (vs.modify n g):=by
 have e:vs.modify n g=vs:=by
  apply List.ext_getElem?
  intro i
  rw[List.getElem?_modify]
  by_cases hi:n=i
  ·subst hi
   cases hv:vs[n]? with
   | none=>simp
   | some v=>simp[hg v hv]
  ·simp[hi]
 rw[e];exact h
theorem ap_new {w:World} {n:Nat} (h:Ap vs) (hlt:∀(i:Nat) v,vs[i]?=some v→(∀k,v.1.ownBlock=some k→k<w.heap.size)∧(∀k,v.2.1.ownBlock=some k→k<w.heap.size)∧(∀k,v.2.2.ownBlock=some k→k<w.heap.size)) {g:V3→V3}
  (hg:∀v,vs[n]?=some v→(∀k,(g v).1.ownBlock=some k→w.heap.size≤k∨v.1.ownBlock=some k)∧(∀k,(g v).2.1.ownBlock=some k→w.heap.size≤k∨v.2.1.ownBlock=some k)∧(∀k,(g v).2.2.ownBlock=some k→w.heap.size≤k∨v.2.2.ownBlock=some k)):Ap (vs.modify n g):=by
 have key:∀(p:V3→Value),(∀(i j:Nat) (a b:V3),vs[i]?=some a→vs[j]?=some b→i≠j→∀k,(p a).ownBlock=some k→¬(p b).ownBlock=some k)→(∀(i:Nat) v,vs[i]?=some v→∀k,(p v).ownBlock=some k→k<w.heap.size)→(∀v,vs[n]?=some v→∀k,(p (g v)).ownBlock=some k→w.heap.size≤k∨(p v).ownBlock=some k)→
   ∀(i j:Nat) (a b:V3),(vs.modify n g)[i]?=some a→(vs.modify n g)[j]?=some b→i≠j→∀k,(p a).ownBlock=some k→¬(p b).ownBlock=some k:=by
  intro p h1 h2 h3 i j a b ha hb hij k hk hk2
  rw[List.getElem?_modify] at ha hb
  by_cases hi:n=i
  ·subst hi
   have hj:¬n=j:=fun e=>hij e
   simp only[if_true] at ha
   simp[hj] at hb
   obtain⟨v,h5,rfl⟩:=Option.map_eq_some_iff.1 ha
   rcases h3 v h5 k hk with e|e
   ·have:=h2 j b hb k hk2;omega
   ·exact h1 n j v b h5 hb hij k e hk2
  ·simp[hi] at ha
   by_cases hj:n=j
   ·subst hj
    simp only[if_true] at hb
    obtain⟨v,h5,rfl⟩:=Option.map_eq_some_iff.1 hb
    rcases h3 v h5 k hk2 with e|e
    ·have:=h2 i a ha k hk;omega
    ·exact h1 i n a v ha h5 hij k hk e
   ·simp[hj] at hb
    exact h1 i j a b ha hb hij k hk hk2
 intro i j a b ha hb hij
 exact⟨key (fun v=>v.1) (fun i j a b x y z=>(h i j a b x y z).1) (fun i v x=>(hlt i v x).1) (fun v x=>(hg v x).1) i j a b ha hb hij,
  key (fun v=>v.2.1) (fun i j a b x y z=>(h i j a b x y z).2.1) (fun i v x=>(hlt i v x).2.1) (fun v x=>(hg v x).2.1) i j a b ha hb hij,
  key (fun v=>v.2.2) (fun i j a b x y z=>(h i j a b x y z).2.2) (fun i v x=>(hlt i v x).2.2) (fun v x=>(hg v x).2.2) i j a b ha hb hij⟩
theorem Rq.subLt {w:World} (h:Rq B w R vl vn vs L q):∀(i:Nat) v,vs[i]?=some v→(∀k,v.1.ownBlock=some k→k<w.heap.size)∧(∀k,v.2.1.ownBlock=some k→k<w.heap.size)∧(∀k,v.2.2.ownBlock=some k→k<w.heap.size):=fun i v hv=>by
 have hi:i<q.ns.length:=by rw[←h.nds.len];exact (List.getElem?_eq_some_iff.1 hv).1
 have hs:=h.nds.sub i _ v (List.getElem?_eq_getElem hi) hv
 exact⟨fun k hk=>(hs.syms.lt k hk).2,fun k hk=>(hs.items.lt k hk).2,fun k hk=>(hs.fields.lt k hk).2⟩
theorem ap_snoc (h:Ap vs):Ap (vs++[v0]):=by
 have hv0:∀(i:Nat) (a:V3),(vs++[v0])[i]?=some a→vs[i]?=some a∨a=v0:=fun i a ha=>by
  rcases Nat.lt_or_ge i vs.length with hi|hi
  ·rw[List.getElem?_append_left hi] at ha;exact .inl ha
  ·rw[List.getElem?_append_right hi] at ha
   right
   cases hz:i-vs.length with
   | succ z=>rw[hz] at ha;simp at ha
   | zero=>rw[hz] at ha;simp at ha;exact ha.symm
 intro i j a b ha hb hij
 rcases hv0 i a ha with h1|rfl
 ·rcases hv0 j b hb with h2|rfl
  ·exact h i j a b h1 h2 hij
  ·exact⟨fun k _ e=>(by cases e),fun k _ e=>(by cases e),fun k _ e=>(by cases e)⟩
 ·exact⟨fun k e=>(by cases e),fun k e=>(by cases e),fun k e=>(by cases e)⟩
theorem Wq.back {w:World} {vn':Value} (hf:Fresh w vn vn'):∀i,i<w.heap.size→Wq R vn' i→Wq R vn i:=by
 rintro i hi (e|e)
 ·exact .inl e
 ·rcases hf with h|⟨k,h,hk⟩
  ·exact .inr (by rw[←h];exact e)
  ·rw[h] at e;injection e with e;omega
def PT (B R:Nat) (vl vn:Value) (vs:List V3) (L:List Tok) (w:World) (q':QS) (w':World):Prop:=Chg (Wq R vn) w w'∧∃vn' vs',Rq B w' R vl vn' vs' L q'∧Fresh w vn vn'∧SF w vs vs'
theorem PT.id {w:World} (h:Rq B w R vl vn vs L q):PT B R vl vn vs L w q w:=⟨Chg.refl _ w,vn,vs,h,.inl rfl,SF.refl w vs⟩
theorem PT.after {w w2 w':World} {q2 q':QS} (h:Chg (Wq R vn) w w2) {vn2:Value} {vs2:List V3} (hf:Fresh w vn vn2) (hg:SF w vs vs2) (k:PT B R vl vn2 vs2 L w2 q' w'):PT B R vl vn vs L w q' w':=by
 obtain⟨hc,vn',vs',h1,h2,h3⟩:=k
 exact⟨h.trans hc (Wq.back hf),vn',vs',h1,hf.trans h2 h.size,hg.trans h3 h.size⟩
theorem PT.ofR {w w':World} {q':QS} (hc:Chg (fun k=>k=R) w w') (h:Rq B w' R vl vn vs L q'):PT B R vl vn vs L w q' w':=⟨hc.mono fun k _ e=>.inl e,vn,vs,h,.inl rfl,SF.refl w vs⟩
theorem PT.ext {w w' w2:World} {q':QS} (h:PT B R vl vn vs L w q' w') (hx:Ext w' w2):PT B R vl vn vs L w q' w2:=by
 obtain⟨hc,vn',vs',h1,h2,h3⟩:=h
 exact⟨hc.trans (Chg.ofExt hx) (fun _ _ e=>e),vn',vs',h1.ext hx,h2,h3⟩
theorem PT.ofExt {w w':World} (hx:Ext w w') (h:Rq B w R vl vn vs L q):PT B R vl vn vs L w q w':=(PT.id h).ext hx
end
end Pr
end Go.Proofs.YtmaoochjbpohdaaGreatDoor
