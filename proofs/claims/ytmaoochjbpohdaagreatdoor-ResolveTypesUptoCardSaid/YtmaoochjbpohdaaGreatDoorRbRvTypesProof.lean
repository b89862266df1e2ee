/- suffragan/suffraganlaw10.ResolveTypes: the given statement, out of the contract of its walk. Of what reads up to the bound. -/
import Derived.Test.YtmaoochjbpohdaaGreatDoorRbZA
set_option linter.unusedVariables false
set_option linter.unusedSimpArgs false
set_option maxRecDepth 100000
set_option maxHeartbeats 1000000
namespace Go.Proofs.YtmaoochjbpohdaaGreatDoor
namespace Rv
open Go.ChangeShapes Go.WideShapes Go.ChangeAt Go.RowKit
open Base Lx Mi Pr Mp Rx
def bools (N:Rel) (i n:Nat):List Value:=(List.range n).map fun (k:Nat)=>.bool (!N (i:Int) (k:Int))
theorem bools_len (N:Rel) (i n:Nat):(bools N i n).length=n:=by simp[bools]
theorem bools_snoc (N:Rel) (i n:Nat):bools N i (n+1)=bools N i n++[.bool (!N (i:Int) (n:Int))]:=by simp[bools,List.range_succ]
theorem el_bool:El Tryz.prog 41 4 (.bool false) 1 1:=⟨by kernel_rfl,by kernel_rfl,rfl,by omega⟩
def nilsA (n:Nat):Array Value:=madeCells #[.slice none 0 0] n
theorem nils_eq (n:Nat):(nilsA n)=(List.replicate n (.slice none 0 0)).toArray:=by
 have h:(nilsA n).toList=List.replicate n (.slice none 0 0):=by unfold nilsA;rw[toList_madeCells_one]
 rw[←h]
structure PT (w0:World) (q na nb:Nat) (N:Rel) (i:Nat) (Vs:List Value) (W:World):Prop where
 blk:Blk W q Vs.toArray 41
 len:Vs.length=na
 done:∀j Vj,j<i→Vs[j]?=some Vj→W.ownsRow w0.heap.size 4 1 Vj nb (bools N j nb)
 rest:∀j,i≤j→j<na→Vs[j]?=some (.slice none 0 0)
 x:Ext w0 W
 hq:w0.heap.size≤q
structure PS (w0:World) (q na nb:Nat) (N:Rel) (i k:Nat) (Vs:List Value) (V:Value) (W:World):Prop where
 blk:Blk W q Vs.toArray 41
 len:Vs.length=na
 done:∀j Vj,j<i→Vs[j]?=some Vj→W.ownsRow w0.heap.size 4 1 Vj nb (bools N j nb)∧(Vj.ownBlock=none∨Vj.ownBlock≠V.ownBlock)
 at_:Vs[i]?=some V
 cur:W.ownsRow w0.heap.size 4 1 V k (bools N i k)
 rest:∀j,i<j→j<na→Vs[j]?=some (.slice none 0 0)
 x:Ext w0 W
 hq:w0.heap.size≤q
section
variable {w0:World} {q na nb i k:Nat} {N:Rel} {Vs:List Value} {V:Value} {W W':World}
theorem PT.row (h:PT w0 q na nb N i Vs W) (hi:i<na):PS w0 q na nb N i 0 Vs (.slice none 0 0) W:=
 ⟨h.blk,h.len,fun j Vj hj hV=>⟨h.done j Vj hj hV,by cases Vj.ownBlock with
  | none=>exact .inl rfl
  | some m=>exact .inr (fun e=>by cases e)⟩,h.rest i (Nat.le_refl _) hi,World.ownsRow_nil W _ _ 1,fun j hj hn=>h.rest j (by omega) hn,h.x,h.hq⟩
theorem PS.full (h:PS w0 q na nb N i nb Vs V W):PT w0 q na nb N (i+1) Vs W:=
 ⟨h.blk,h.len,fun j Vj hj hV=>by
  by_cases e:j=i
  ·subst e
   rw[h.at_] at hV
   injection hV with hV
   rw[←hV];exact h.cur
  ·exact (h.done j Vj (by omega) hV).1,fun j hj hn=>h.rest j (by omega) hn,h.x,h.hq⟩
theorem PS.ext (h:PS w0 q na nb N i k Vs V W) (hx:Ext W W'):PS w0 q na nb N i k Vs V W':=
 ⟨h.blk.ext hx,h.len,fun j Vj hj hV=>⟨own_ext (h.done j Vj hj hV).1 hx,(h.done j Vj hj hV).2⟩,h.at_,own_ext h.cur hx,h.rest,h.x.trans hx,h.hq⟩
theorem PT.ext (h:PT w0 q na nb N i Vs W) (hx:Ext W W'):PT w0 q na nb N i Vs W':=
 ⟨h.blk.ext hx,h.len,fun j Vj hj hV=>own_ext (h.done j Vj hj hV) hx,h.rest,h.x.trans hx,h.hq⟩
theorem PS.push (h:PS w0 q na nb N i k Vs V W) {V':Value} (ho:W'.ownsRow w0.heap.size 4 1 V' (k+1) (bools N i k++[.bool (!N (i:Int) (k:Int))])) (hg:W.grownBy W' V.ownBlock) (hv':V'.ownBlock=V.ownBlock∨V'.ownBlock=some W.heap.size) :
  PS w0 q na nb N i (k+1) (Vs.set i V') V' (W'.setCell ⟨q,i,none⟩ V'):=by
 have hb:Blk W' q Vs.toArray 41:=h.blk.grown hg (own_ne_blk h.cur h.blk (by decide))
 have hi:i<Vs.length:=(List.getElem?_eq_some_iff.1 h.at_).1
 refine⟨by simpa using hb.set i V',by rw[List.length_set];exact h.len,fun j Vj hj hV=>?_,?_,own_setCell (by rw[bools_snoc];exact ho) hb (by decide) _,fun j hj hn=>?_,(h.x.then_grown hg (fun m hm=>(h.cur.lt m hm).1)).setCell h.hq _,h.hq⟩
 ·rw[List.getElem?_set_ne (by omega)] at hV
  obtain⟨o,d⟩:=h.done j Vj hj hV
  refine⟨own_setCell (o.kept hg d) hb (by decide) _,?_⟩
  rcases hv' with hv'|hv'
  ·rw[hv'];exact d
  ·cases hj':Vj.ownBlock with
   | none=>exact .inl rfl
   | some m=>
    refine .inr fun e=>?_
    rw[hv'] at e
    injection e with e
    have:=(o.lt m hj').2
    omega
 ·rw[List.getElem?_set_self hi]
 ·rw[List.getElem?_set_ne (by omega)];exact h.rest j hj hn
end
def pairsV (a b:List Ne) (en:Ending) (w':World):Prop:=((showP a=none∨showP b=none)∧en=.returned (.slice none 0 0))∨
 ((∃ta,showP a=some ta)∧(∃tb,showP b=some tb)∧∃(q:Nat) (Vs:List Value),en=.returned (.slice (some ⟨q,0,none⟩) a.length a.length)∧Blk w' q Vs.toArray 41∧Vs.length=a.length∧∀j Vj,j<a.length→Vs[j]?=some Vj→∃A c,Vj=.slice A b.length c∧Rd w' A ((List.range b.length).map fun (k:Nat)=>.bool (GB a b (j:Int) (k:Int))))
theorem gb_eq {a b:List Ne} {N:Rel} (h1:Stays a b (notR N)) (h2:AllIn a b N) {i k:Nat} (hi:i<a.length) (hk:k<b.length):(!N (i:Int) (k:Int))=GB a b (i:Int) (k:Int):=by
 have h:=inR_not h1 h2 hi hk
 cases hN:N (i:Int) (k:Int) with
 | true=>rw[gb_no (fun hh=>by have:=h.1 hh;rw[hN] at this;cases this)];rfl
 | false=>rw[gb_yes (h.2 hN)];rfl
set_option maxHeartbeats 6000000 in
theorem Pairs_any (a b:List Ne) (va vb:Value) (w:World) (hSa:Sch w.heap.size w va a) (hSb:Sch w.heap.size w vb b) (hwd:Wd w) (hpow:Pow w) (hLa:showLen a≤100000000) (hLb:showLen b≤100000000) :
  Calls Tryz.prog 23 #[.agg #[va],.agg #[vb]] w fun en w'=>pairsV a b en w'∧Ext w w':=by
 obtain⟨Aa,na,ca,eva,hna⟩:∃A n c,va=.slice A n c∧Hid (a.length=n):=by
  obtain⟨vs,_,⟨A,c,e,_⟩,_⟩:=hSa
  exact⟨A,_,c,e,Lib.hid rfl⟩
 obtain⟨Ab,nb,cb,evb,hnb⟩:∃A n c,vb=.slice A n c∧Hid (b.length=n):=by
  obtain⟨vs,_,⟨A,c,e,_⟩,_⟩:=hSb
  exact⟨A,_,c,e,Lib.hid rfl⟩
 subst eva;subst evb
 obtain⟨q0,hq0⟩:∃z,Hid (w.heap.size=z):=⟨_,rfl⟩
 obtain⟨w1,hw1⟩:∃z,Hid ((w.alloc (.cells #[.slice Aa na ca] 24)).alloc (.cells #[.slice Ab nb cb] 24)=z):=⟨_,rfl⟩
 have hx1:Ext w w1:=by rw[←hw1.out];exact ((Ext.refl w).alloc _).alloc _
 have hbA:Blk w1 q0 #[.slice Aa na ca] 24:=by rw[←hw1.out,←hq0.out];exact (Blk.new w _ _).ext ((Ext.refl _).alloc _)
 have hbB:Blk w1 (q0+1) #[.slice Ab nb cb] 24:=by
  have hn:=Blk.new (w.alloc (.cells #[.slice Aa na ca] 24)) #[.slice Ab nb cb] 24
  rw[World.size_alloc,hq0.out,hw1.out] at hn
  exact hn
 have S1:=(hSa.below hx1).mono hx1.size
 have S2:=(hSb.below hx1).mono hx1.size
 have cA:∀W,Ext w1 W→W.cell? ⟨q0,0,none⟩=some (.slice Aa na ca):=fun W hW=>by have:=(hbA.ext hW).cell 0;simpa using this
 have cB:∀W,Ext w1 W→W.cell? ⟨q0+1,0,none⟩=some (.slice Ab nb cb):=fun W hW=>by have:=(hbB.ext hW).cell 0;simpa using this
 have g1:=cA w1 (Ext.refl _)
 have g2:=cB w1 (Ext.refl _)
 obtain⟨PO,hPO⟩:∃PO:Ending→World→Prop,Hid ((fun en w'=>pairsV a b en w'∧Ext w w')=PO):=⟨_,Lib.hid rfl⟩
 rw[hPO.out]
 have hno:(showP a=none∨showP b=none)→∀W,Ext w W→PO (.returned (.slice none 0 0)) W:=fun h W hW=>by rw[←hPO.out];exact⟨.inl ⟨h,rfl⟩,hW⟩
 by_cases hsh:∃ta tb,showP a=some ta∧showP b=some tb
 case neg=>
  have hnn:showP a=none∨showP b=none:=by
   cases h1:showP a with
   | none=>exact .inl rfl
   | some ta=>
    cases h2:showP b with
    | none=>exact .inr rfl
    | some tb=>exact absurd ⟨ta,tb,h1,h2⟩ hsh
  have hrel:Calls Tryz.prog 49 #[.agg #[.slice Aa na ca],.agg #[.slice Ab nb cb]] w1 fun en w'=>en=.returned (.pointer none)∧Ext w1 w':=by
   cases h1:showP a with
   | none=>exact related_no1 a _ _ w1 S1 (hwd.ext hx1) (hpow.ext hx1) hLa h1
   | some ta=>
    cases h2:showP b with
    | none=>exact related_no2 a b _ _ w1 S1 S2 (hwd.ext hx1) (hpow.ext hx1) hLa hLb ta h1 h2
    | some tb=>exact absurd ⟨ta,tb,h1,h2⟩ hsh
  have hf0:=hno hnn
  clear hno hsh hnn hSa hSb S1 S2 hPO
  replace hf0:=Lib.hid hf0
  go_enter Tryz.func23,Tryz.ntmps23
  go_wp2_with fail
  rw[hw1.out]
  try rw[hq0.out]
  refine hrel.mono ?_
  rintro e w2 ⟨rfl,hx2⟩
  have hf:=hf0.out w2 (hx1.trans hx2)
  clear hrel g1 g2
  go_wp2_with fail
  exact hf
 obtain⟨ta,tb,hta,htb⟩:=hsh
 have e1:=show_we hta
 have e2:=show_we htb
 have hrel:=related_some a b _ _ w1 S1 S2 (hwd.ext hx1) (hpow.ext hx1) hLa hLb ta tb hta htb e1.2.1 e2.2.1 e1.2.2 e2.2.2
 have hna1:na≤1500:=by have:=hna.out;have:=e1.2.1;omega
 have hnb1:nb≤1500:=by have:=hnb.out;have:=e2.2.1;omega
 have hyes:∀w0 q N Vs W,Stays a b (notR N)→AllIn a b N→PT w0 q na nb N na Vs W→Ext w W→PO (.returned (.slice (some ⟨q,0,none⟩) na na)) W:=fun w0 q N Vs W h1 h2 h3 h4=>by
  rw[←hPO.out]
  refine⟨.inr ⟨⟨ta,hta⟩,⟨tb,htb⟩,q,Vs,by rw[hna.out],h3.blk,by rw[hna.out];exact h3.len,fun j Vj hj hV=>?_⟩,h4⟩
  rw[hna.out] at hj
  obtain⟨A,c,e,_,_,r,_⟩:=Rd.of_own (h3.done j Vj hj hV)
  refine⟨A,c,by rw[hnb.out];exact e,?_⟩
  have hl:(List.range b.length).map (fun (k:Nat)=>Value.bool (GB a b (j:Int) (k:Int)))=bools N j nb:=by
   unfold bools
   rw[hnb.out]
   refine List.map_congr_left fun k hk=>?_
   rw[gb_eq h1 h2 (by rw[hna.out];exact hj) (by rw[hnb.out];exact List.mem_range.1 hk)]
  rw[hl];exact r
 clear hno hSa hSb S1 S2 e1 e2 hta htb
 replace hyes:=Lib.hid hyes
 replace cA:=Lib.hid cA
 replace cB:=Lib.hid cB
 obtain⟨is,his,hzs,hss,hbs⟩:=info_parts (show (Tryz.prog.info? 41).map (fun i=>(i.zero,i.size,i.bytes))=some (some (.slice none 0 0),1,24) by kernel_rfl)
 have hmk:∀W:World,(Instr.makeSlice 39 (.int .i64 (na:Int)) (.int .i64 (na:Int))).run Tryz.prog W=.ok (.slice (some ⟨W.heap.size,0,none⟩) na na) (W.alloc (.cells (nilsA na) 41)):=fun W=>by
  have:=run_make (P:=Tryz.prog) W 39 41 is (.slice none 0 0) (by kernel_rfl) his hzs .i64 .i64 (na:Int) (na:Int) (by omega) (by omega) (by rw[hbs];omega) (by omega)
  rw[hss] at this
  simpa [nilsA,Value.cells] using this
 clear his hzs hss hbs is
 go_enter Tryz.func23,Tryz.ntmps23
 go_wp2_with fail
 rw[hw1.out]
 try rw[hq0.out]
 refine hrel.mono ?_
 rintro e w2 ⟨⟨bx,bm,nM,N,rfl,hRX,hst,hal⟩,hx2⟩
 clear hrel g1 g2
 have hxw2:=hx1.trans hx2
 have g1:=cA.out w2 hx2
 obtain⟨w3,hw3⟩:∃z,Hid (w2.alloc (.cells (nilsA na) 41)=z):=⟨_,rfl⟩
 obtain⟨q,hq⟩:∃z,Hid (w2.heap.size=z):=⟨_,rfl⟩
 have hx3:Ext w2 w3:=by rw[←hw3.out];exact (Ext.refl w2).alloc _
 have hT0:PT w2 q na nb N 0 (List.replicate na (.slice none 0 0)) w3:=by
  refine⟨?_,by simp,fun j Vj hj=>by omega,fun j _ hj=>by rw[List.getElem?_replicate,if_pos hj],hx3,by rw[←hq.out];exact Nat.le_refl _⟩
  have hb:=Blk.new w2 (nilsA na) 41
  rw[hw3.out,hq.out,nils_eq] at hb
  exact hb
 replace hT0:=Lib.hid hT0
 have hfin:=fun Vs W (h:PT w2 q na nb N na Vs W)=>hyes.out w2 q N Vs W hst hal h (hxw2.trans h.x)
 replace hfin:=Lib.hid hfin
 replace hRX:=Lib.hid hRX
 clear hst hal hyes
 go_wp2_with fail
 clear hmk g1
 rw[hw3.out,hq.out]
 have hcB:∀W,Ext w2 W→W.cell? ⟨q0+1,0,none⟩=some (.slice Ab nb cb):=fun W hW=>cB.out W (hx2.trans hW)
 replace hcB:=Lib.hid hcB
 go_loopw [7,8,20,21,22,23,24,25,26,27,28,29,30,31,32,33,34,35,36,37,38,39,40,41,42,43] (fun v7 v8 v20 v21 v22 v23 v24 v25 v26 v27 v28 v29 v30 v31 v32 v33 v34 v35 v36 v37 v38 v39 v40 v41 v42 v43 wr=>∃(i:Nat) (Vs:List Value),i≤na∧v20=.int .i64 (i:Int)∧PT w2 q na nb N i Vs wr) (fun _ _ v20 _ _ _ _ _ _ _ _ _ _ _ _ _ _ _ _ _ _ _ _ _ _ _ _=>na-(intOf v20).toNat)
 case atStart=>exact⟨0,_,Nat.zero_le _,rfl,hT0.out⟩
 case round=>
  obtain⟨i,Vs,hi,rfl,hT⟩:=hrel
  clear hT0
  by_cases hin:i<na
  ·have hin':(i:Int)<(na:Int):=by omega
   have hS0:=hT.row hin
   have gB:=hcB.out wr hT.x
   replace hS0:=Lib.hid hS0
   clear hT
   obtain⟨wo,hwo⟩:∃z,z=wr:=⟨_,rfl⟩
   rw[←hwo] at hS0 gB ⊢
   clear hwo
   go_wp2_with fail
   clear gB
   go_loopw [8,26,27,28,29,30,31,32,33,34,35,36,37,38,39,40,41,42] (fun v8 v26 v27 v28 v29 v30 v31 v32 v33 v34 v35 v36 v37 v38 v39 v40 v41 v42 wr=>∃(k:Nat) (Vs:List Value) (V:Value),k≤nb∧v26=.int .i64 (k:Int)∧PS w2 q na nb N i k Vs V wr) (fun _ v26 _ _ _ _ _ _ _ _ _ _ _ _ _ _ _ _ _=>nb-(intOf v26).toNat)
   case atStart=>exact⟨0,_,_,Nat.zero_le _,rfl,hS0.out⟩
   case round=>
    obtain⟨k,Vs2,V,hk,rfl,hS⟩:=hrel
    clear hS0
    by_cases hkn:k<nb
    ·have hkn':(k:Int)<(nb:Int):=by omega
     obtain⟨A9,c9,e9,_,_,_,_⟩:=Rd.of_own hS.cur
     subst e9
     have hqn:¬(Value.slice A9 k c9).ownBlock=some q:=fun e=>own_ne_blk hS.cur hS.blk (by decide) e.symm
     have hS1:=hS
     replace hS:=Lib.hid hS
     go_wp2_with fail
     obtain⟨S,hSS⟩:∃z:Nat→Prop,Hid (z=fun m=>(Value.slice A9 k c9).ownBlock=some m):=⟨_,rfl⟩
     have hRl:=Reg.rl_chg S
     refine Reg.startX (R:=Chg S) (by kernel_rfl) ?_
     generalize hwd:World.drew wr=wd
     have hxd:Ext wr wd:=by rw[←hwd];exact (Ext.refl _).drew
     clear hwd
     have hSd:=hS1.ext hxd
     clear hS1
     have z3:∀W,Chg S wd W→W.cell? ⟨q,i,none⟩=some (.slice A9 k c9):=fun W hW2=>hW2.cell (by have:=hSd.blk.cell i;rw[List.getElem?_toArray,hSd.at_] at this;exact this) (by rw[hSS.out];exact hqn)
     iterate 9 ((first|refine Reg.un hRl ?_|refine Reg.vn hRl ?_);(try simp only[Reg.nn]))
     clear z3
     refine Reg.onlyX 9 _ rfl (by kernel_rfl) (by decide) (by rfl) (fun K hK=>?_);go_simp
     refine (reads_any (hRX.out.ext hSd.x) (i:=(i:Int)) (j:=(k:Int)) ⟨by omega,by omega⟩ ⟨by omega,by omega⟩).mono ?_
     rintro e wX ⟨rfl,hX⟩
     obtain⟨v,hv⟩:∃z,Hid ((!N (i:Int) (k:Int))=z):=⟨_,rfl⟩
     rw[hv.out]
     refine hK.out _ _ (Chg.ofExt hX) ?_;clear hK K;(try simp only[Reg.nn])
     have hSX:=hSd.ext hX
     replace hSd:=Lib.hid hSd
     refine Reg.onlyX 10 _ rfl (by kernel_rfl) (by decide) (by rfl) (fun K hK=>?_);go_simp
     obtain⟨g,hg⟩:∃z,Hid (wX.heap.size=z):=⟨_,rfl⟩
     obtain⟨wa,hwa⟩:∃z,Hid (wX.alloc (.cells #[.bool v] 4)=z):=⟨_,rfl⟩
     have hrv:Rd wa (some ⟨g,0,none⟩) [.bool v]:=by rw[←hwa.out,←hg.out];exact Rd.of_block wX 4 (0,0) rfl
     have hxa:Ext wX wa:=by rw[←hwa.out];exact (Ext.refl _).alloc _
     rw[hg.out,hwa.out]
     refine hK.out _ _ (Chg.ofExt hxa) ?_;clear hK K;(try simp only[Reg.nn])
     have hSa:=hSX.ext hxa
     obtain⟨XS,hXS⟩:∃z,Hid (bools N i k=z):=⟨_,rfl⟩
     have hoc:=hSa.cur
     rw[hXS.out] at hoc
     refine Reg.onlyX 11 _ rfl (by kernel_rfl) (by decide) (by rfl) (fun K hK=>?_)
     refine wp_app el_bool wa (.tmp 34) (.tmp 39) rfl w2.heap.size (.slice A9 k c9) k XS rfl hoc (some ⟨g,0,none⟩) 1 1 [.bool v] rfl hrv rfl (fun h=>by cases h) (by simp[Value.oneCell']) (by omega) (by omega) hSa.x.size (fun V' W' ho' hg' hv'=>?_)
     have hnx:=hSa.push (V':=V') (by rw[hXS.out,hv.out];exact ho') hg' hv'
     have hbk:=hSa.blk.grown hg' (own_ne_blk hSa.cur hSa.blk (by decide))
     have k3:=hbk.cell i
     have f3:=hbk.frozen i
     rw[List.getElem?_toArray,hSa.at_] at k3
     obtain⟨A8,c8,e8,jj⟩:=Rd.of_own ho'
     clear jj
     subst e8
     refine hK.out _ _ (by rw[hSS.out];exact Chg.ofGrown hg') ?_;clear hK K;(try simp only[Reg.nn])
     replace hnx:=Lib.hid hnx
     clear ho' hg' hv' hbk hrv hoc hSX
     replace hSa:=Lib.hid hSa
     iterate 1 ((first|refine Reg.un hRl ?_|refine Reg.vn hRl ?_);(try simp only[Reg.nn]))
     refine Reg.lastX 13 _ rfl (by kernel_rfl) (by kernel_rfl) (by kernel_rfl) (by decide) (by rfl) (fun K hK=>?_)
     go_simp
     refine hK.out _ _ ?_;clear hK K;(try simp only[Reg.nn])
     clear hSS hRl k3 f3
     go_wp2_with fail
     go_roundw
     case rel=>exact⟨k+1,_,_,by omega,by go_num,hnx.out⟩
     case measure=>simp[intOf]<;>omega
    ·obtain rfl:k=nb:=by omega
     have hT2:=hS.full
     replace hT2:=Lib.hid hT2
     clear hS
     go_wp2_with fail
     go_roundw
     case rel=>exact⟨i+1,_,by omega,by go_num,hT2.out⟩
     case measure=>simp[intOf]<;>omega
  ·obtain rfl:i=na:=by omega
   have hf:=hfin.out Vs wr hT
   clear hT
   go_wp2_with fail
   exact hf
end Rv
namespace Pr
open Lx
def QN (d:Nd):Prop:=(d.k=8→d.items≠[])∧(d.k=9→d.syms≠[])
def Nw (s s':PS):Prop:=∀i d,s.ns.length≤i→s'.ns[i]?=some d→QN d
def TQ (T:Bool→List Nat→PS→Res Nat):Prop:=∀u a s n s',T u a s=.ok n s'→NmOk s→Nw s s'
theorem Nw.trans {b:Nat} {s s1 s':PS} (h:Nw s s1) (g:Gd b s s1) (k:Nw s1 s') (g2:Gd b s1 s') (hb:b<s.ns.length):Nw s s':=fun i d hi hd=>by
 by_cases hs:i<s1.ns.length
 ·rw[g2.old i hs (by omega)] at hd
  exact h i d hi hd
 ·exact k i d (by omega) hd
theorem Nw.same {s s':PS} (e:s'.ns=s.ns):Nw s s':=fun i d hi hd=>by
 rw[e,List.getElem?_eq_none hi] at hd;cases hd
theorem Nw.setN (s:PS) (n:Nat) (f:Nd→Nd):Nw s (s.setN n f):=fun i d hi hd=>by
 have:(s.setN n f).ns[i]?=none:=List.getElem?_eq_none (by rw[setN_len];exact hi)
 rw[this] at hd;cases hd
theorem Nw.on (s:PS):Nw s s.on:=Nw.same rfl
theorem NmOk.on {s:PS} (h:NmOk s):NmOk s.on:=(Gd.on (b:=0) h).nm
section
variable {T:Bool→List Nat→PS→Res Nat}
theorem itemR_n (hT:TW T) (hQ:TQ T) {s s':PS} {n:Nat} {x:ByteArray} {u:Unit} (h:itemR T s n x=.ok u s') (hn:NmOk s) (hb:n<s.ns.length):Nw s s':=by
 obtain⟨a,s1,h1,h2⟩:=Res.bind_ok h
 obtain⟨h5,rfl⟩:=mustR_ok h2
 obtain⟨g,ha⟩:=hT _ _ _ _ _ h1 hn
 have q:=hQ _ _ _ _ _ h1 hn
 have g2:=Gd.setN g.nm n fun d=>{ d with items:=[a] }
 exact (q.trans (g.to n) (Nw.setN _ _ _) g2 hb).trans ((g.to n).trans g2 hb) (Nw.on _) (Gd.on g2.nm) hb
theorem unionR_n (hT:TW T) (hQ:TQ T) (n:Nat):∀(m:Nat) (l:List Nat) {s s':PS} {u:Unit},unionR T n m l s=.ok u s'→NmOk s→n<s.ns.length→(∀x∈l,x<s.ns.length)→
  Nw s s'∧∃l',l'≠[]∧∀d,s.ns[n]?=some d→s'.ns[n]?=some { d with items:=l' }
 | 0,l,s,s',u,h,_,_,_=>by cases h
 | m+1,l,s,s',u,h,hn,hb,hl=>by
  rw[unionR] at h
  obtain⟨a,s1,h1,h2⟩:=Res.bind_ok h
  obtain⟨g,ha⟩:=hT _ _ _ _ _ h1 hn
  have hl':∀x∈l++[a],x<s1.ns.length:=fun x hx=>by
   have:=g.le
   rcases List.mem_append.1 hx with hx|hx
   ·have:=hl x hx;omega
   ·rw[List.mem_singleton] at hx;subst hx;exact ha
  have q:=hQ _ _ _ _ _ h1 hn
  have g1:=Gd.on (b:=n) g.nm
  have q1:=q.trans (g.to n) (Nw.on _) g1 hb
  have g01:=(g.to n).trans g1 hb
  split at h2
  ·injection h2 with _ h2
   subst h2
   have g2:=Gd.setN g1.nm n fun d=>{ d with items:=l++[a] }
   refine⟨q1.trans g01 (Nw.setN _ _ _) g2 hb,l++[a],by simp,fun d hd=>?_⟩
   have:=g.old n hb (by omega)
   rw[hd] at this
   exact setN_get s1.on n _ d this
  ·obtain⟨v,s2,h5,h6⟩:=Res.bind_ok h2
   obtain⟨h7,rfl⟩:=mustR_ok h5
   have hb2:n<s1.on.ns.length:=Nat.lt_of_lt_of_le hb g.le
   obtain⟨g3,_⟩:=unionR_w hT n m _ h6 g1.nm hb2 hl'
   obtain⟨q3,l',k1,k2⟩:=unionR_n hT hQ n m _ h6 g1.nm hb2 hl'
   refine⟨q1.trans g01 q3 g3 hb,l',k1,fun d hd=>k2 d ?_⟩
   have:=g.old n hb (by omega)
   rw[hd] at this
   exact this
theorem symsR_n (n:Nat):∀(m:Nat) (l:List ByteArray) {s s':PS} {u:Unit},symsR n m l s=.ok u s'→NmOk s→n<s.ns.length→
  Nw s s'∧∃l',l'≠[]∧∀d,s.ns[n]?=some d→s'.ns[n]?=some { d with syms:=l' }
 | 0,l,s,s',u,h,_,_=>by cases h
 | m+1,l,s,s',u,h,hn,hb=>by
  rw[symsR] at h
  obtain⟨x,s1,h1,h2⟩:=Res.bind_ok h
  obtain⟨_,_,_,_,_,rfl⟩:=nameR_ok h1
  split at h2
  ·injection h2 with _ h2
   subst h2
   exact⟨Nw.setN _ _ _,l++[x],by simp,fun d hd=>setN_get s.on.on n _ d hd⟩
  ·obtain⟨v,s2,h5,h6⟩:=Res.bind_ok h2
   obtain⟨h7,rfl⟩:=mustR_ok h5
   obtain⟨q3,l',k3,k2⟩:=symsR_n n m _ h6 hn.on.on hb
   exact⟨q3,l',k3,fun d hd=>k2 d hd⟩
theorem fieldsR_n (hT:TW T) (hQ:TQ T) (n:Nat):∀(m:Nat) (l:List (ByteArray×Bool×Nat)) {s s':PS} {u:Unit},fieldsR T n m l s=.ok u s'→NmOk s→n<s.ns.length→(∀f∈l,f.2.2<s.ns.length)→(l.map (·.1)).Nodup→Nw s s'
 | 0,l,s,s',u,h,_,_,_,_=>by cases h
 | m+1,l,s,s',u,h,hn,hb,hl,hd=>by
  rw[fieldsR] at h
  split at h
  ·injection h with _ h
   subst h
   exact Nw.setN _ _ _
  ·obtain⟨x,s1,h1,h2⟩:=Res.bind_ok h
   obtain⟨_,_,_,hx,_,rfl⟩:=nameR_ok h1
   obtain⟨v,s2,h3,h4⟩:=Res.bind_ok h2
   obtain⟨h5,rfl⟩:=mustR_ok h3
   obtain⟨t,s3,h6,h7⟩:=Res.bind_ok h4
   obtain⟨v2,s4,h10,h11⟩:=Res.bind_ok h7
   obtain⟨h12,rfl⟩:=mustR_ok h10
   have g1:=Gd.on (b:=n) hn
   have g2:=Gd.goes (b:=n) g1.nm cQ
   have g3:=Gd.on (b:=n) g2.nm
   have e3:(goesR s.on cQ).2.on.ns=s.ns:=goes_ns s.on cQ
   have g123:=(g1.trans g2 hb).trans g3 hb
   obtain⟨g4,ht⟩:=hT _ _ _ _ _ h6 g3.nm
   have q4:=hQ _ _ _ _ _ h6 g3.nm
   have g5:=Gd.on (b:=n) g4.nm
   have hle:=g4.le
   have hb3:n<(goesR s.on cQ).2.on.ns.length:=by rw[e3];exact hb
   have q45:=q4.trans (g4.to n) (Nw.on _) g5 hb3
   have g45:=(g4.to n).trans g5 hb3
   rw[e3] at hle
   have hb5:=Nat.lt_of_lt_of_le hb hle
   have hf:∀f∈l++[(x,(goesR s.on cQ).1,t)],f.2.2<s3.ns.length:=fun f hf=>by
    rcases List.mem_append.1 hf with hf|hf
    ·exact Nat.lt_of_lt_of_le (hl f hf) hle
    ·rw[List.mem_singleton] at hf;subst hf;exact ht
   have hnd:((l++[(x,(goesR s.on cQ).1,t)]).map (·.1)).Nodup:=by
    rw[List.map_append,List.nodup_append]
    refine⟨hd,by simp,fun y hy z hz e=>?_⟩
    simp only[List.map_cons,List.map_nil,List.mem_singleton] at hz
    subst hz
    subst e
    obtain⟨f,hf,e⟩:=List.mem_map.1 hy
    have:=List.any_eq_false.1 hx f hf
    simp[e] at this
   obtain⟨g6,_⟩:=fieldsR_w hT n m _ h11 g5.nm hb5 hf hnd
   have q6:=fieldsR_n hT hQ n m _ h11 g5.nm hb5 hf hnd
   have q456:=q45.trans g45 q6 g6 hb3
   exact (Nw.same e3:Nw s (goesR s.on cQ).2.on).trans g123 q456 (g45.trans g6 hb3) hb
theorem definedR_n (hT:TW T) (hQ:TQ T) {s s':PS} {n:Nat} {k:Int} {u:Unit} (h:definedR T s n k=.ok u s') (hn:NmOk s) (hb:n<s.ns.length) (d:Nd) (hd:s.ns[n]?=some d) (hf:d.fields=[]) (hy:d.syms=[]) :
  Nw s s'∧∀d',s'.ns[n]?=some d'→k=9→d'.syms≠[]:=by
 unfold definedR at h
 obtain⟨x,s1,h1,h2⟩:=Res.bind_ok h
 obtain⟨_,_,_,_,_,rfl⟩:=nameR_ok h1
 simp only at h2
 have g1:=Gd.on (b:=n) hn
 have g2:=Gd.setN g1.nm n fun d=>{ d with name:=x }
 have g3:Gd n s (s.on.called n x):=by
  refine⟨by show _≤(s.on.setN n _).ns.length;rw[setN_len];exact Nat.le_refl _,⟨fun y m hy=>?_,g1.nm.2⟩,fun i hi hne=>(g1.trans g2 hb).old i hi hne,fun i d hi hd=>(g1.trans g2 hb).new i d hi hd⟩
  show m<(s.on.setN n _).ns.length
  rw[setN_len]
  have hy:(if y=x then some n else s.nm y)=some m:=hy
  split at hy
  ·injection hy with hy;subst hy;exact hb
  ·exact hn.1 y m hy
 have q3:Nw s (s.on.called n x):=Nw.setN s.on n _
 have hd2:(s.on.called n x).ns[n]?=some { d with name:=x }:=setN_get s.on n _ d hd
 have hb2:n<(s.on.called n x).ns.length:=Nat.lt_of_lt_of_le hb g3.le
 generalize s.on.called n x=s2 at h2 g3 hd2 hb2 q3
 split at h2
 ·obtain⟨v,s3,h5,h6⟩:=Res.bind_ok h2
  obtain⟨h7,rfl⟩:=mustR_ok h5
  have g4:=Gd.on (b:=n) g3.nm
  obtain⟨g5,_⟩:=symsR_w n _ _ h6 g4.nm hb2
  obtain⟨q5,l',k1,k2⟩:=symsR_n n _ _ h6 g4.nm hb2
  refine⟨q3.trans g3 q5 (g4.trans g5 hb2) hb,fun d' hd' _=>?_⟩
  rw[k2 _ hd2] at hd'
  injection hd' with hd'
  rw[←hd'];exact k1
 ·next h9=>
  split at h2
  ·split at h2
   ·cases h2
   ·injection h2 with _ h2
    subst h2
    have g4:=Gd.on (b:=n) g3.nm
    exact⟨q3.trans g3 (Nw.setN s2.on n _) (g4.trans (Gd.setN g4.nm n _) hb2) hb,fun _ _ e=>absurd e h9⟩
  ·obtain⟨v,s3,h5,h6⟩:=Res.bind_ok h2
   obtain⟨h7,rfl⟩:=mustR_ok h5
   have g4:=Gd.on (b:=n) g3.nm
   obtain⟨g5,_⟩:=fieldsR_w hT n _ _ h6 g4.nm hb2 (fun f h=>by cases h) List.nodup_nil
   have q5:=fieldsR_n hT hQ n _ _ h6 g4.nm hb2 (fun f h=>by cases h) List.nodup_nil
   exact⟨q3.trans g3 q5 (g4.trans g5 hb2) hb,fun _ _ e=>absurd e h9⟩
end
theorem typedR_n:∀(fuel:Nat),TQ (typedR fuel)
 | fuel,u,a,s,n,s',h,hn=>by
  rw[typedR.eq_def] at h
  simp only at h
  split at h
  ·cases h
  ·next k hk=>
   split at h
   ·cases h
   ·split at h
    ·injection h with _ h
     subst h
     exact Nw.same rfl
    ·next hk0=>
     have hn1:NmOk ({ s.on with ns:=s.ns++[Nd.ofKind k] }:PS):=⟨fun x m hm=>by
      have:=hn.1 x m hm
      simp only[List.length_append,List.length_cons,List.length_nil];omega,(Gd.on (b:=0) hn).nm.2⟩
     have hd1:({ s.on with ns:=s.ns++[Nd.ofKind k] }:PS).ns[s.ns.length]?=some (Nd.ofKind k):=by simp
     have hl1:({ s.on with ns:=s.ns++[Nd.ofKind k] }:PS).ns.length=s.ns.length+1:=by simp
     generalize ({ s.on with ns:=s.ns++[Nd.ofKind k] }:PS)=s1 at h hn1 hd1 hl1
     have hb:s.ns.length<s1.ns.length:=by omega
     have fin:∀s2,Nw s1 s2→(∀d,s2.ns[s.ns.length]?=some d→QN d)→Nw s s2:=fun s2 q hq i d hi hd=>by
      by_cases e:i=s.ns.length
      ·subst e;exact hq d hd
      ·exact q i d (by omega) hd
     cases fuel with
     | zero=>cases h
     | succ fuel=>
      have ih:=typedR_w fuel
      have iq:=typedR_n fuel
      simp only at h
      split at h
      ·next e6=>
       obtain⟨_,s2,h1,h2⟩:=Res.bind_ok h
       injection h2 with _ h2;subst h2
       obtain⟨g,x,hx,hh⟩:=itemR_w ih h1 hn1 hb
       refine fin _ (itemR_n ih iq h1 hn1 hb) fun d hd=>?_
       rw[hh _ hd1] at hd
       injection hd with hd;subst hd
       exact⟨fun _=>by simp,fun e=>(by have e:k=9:=e;omega)⟩
      ·split at h
       ·next e7=>
        obtain⟨_,s2,h1,h2⟩:=Res.bind_ok h
        injection h2 with _ h2;subst h2
        obtain⟨g,x,hx,hh⟩:=itemR_w ih h1 hn1 hb
        refine fin _ (itemR_n ih iq h1 hn1 hb) fun d hd=>?_
        rw[hh _ hd1] at hd
        injection hd with hd;subst hd
        exact⟨fun _=>by simp,fun e=>(by have e:k=9:=e;omega)⟩
       ·split at h
        ·next e8=>
         obtain⟨_,s2,h1,h2⟩:=Res.bind_ok h
         injection h2 with _ h2;subst h2
         obtain⟨q,l',k1,hh⟩:=unionR_n ih iq _ _ _ h1 hn1 hb (fun x hx=>(by cases hx))
         refine fin _ q fun d hd=>?_
         rw[hh _ hd1] at hd
         injection hd with hd;subst hd
         exact⟨fun _=>k1,fun e=>(by have e:k=9:=e;omega)⟩
        ·next e8=>
         split at h
         ·obtain⟨_,s2,h1,h2⟩:=Res.bind_ok h
          injection h2 with _ h2;subst h2
          obtain⟨g,d',hd',e1,_⟩:=definedR_w ih h1 hn1 hb _ hd1 rfl rfl
          obtain⟨q,k1⟩:=definedR_n ih iq h1 hn1 hb _ hd1 rfl rfl
          refine fin _ q fun d hd=>?_
          have hk1:=k1 d hd
          rw[hd'] at hd
          injection hd with hd;subst hd
          have e1:d'.k=k:=e1
          exact⟨fun e=>(by omega),fun e=>hk1 (by omega)⟩
         ·next e9=>
          injection h with _ h
          subst h
          refine fin _ (Nw.same rfl) fun d hd=>?_
          rw[hd1] at hd
          injection hd with hd;subst hd
          exact⟨fun e=>(by have e:k=8:=e;omega),fun e=>(by have e:k=9:=e;omega)⟩
theorem parse_qn (s:ByteArray):∀d∈(parseP s).1,QN d:=by
 rcases parse_cases s with⟨h1,_⟩|⟨hw,n,s',ht,_,hp⟩
 ·rw[h1];exact fun d hd=>(by cases hd)
 ·obtain⟨_,_,_,hz,_⟩:=Cn.back_plain' s (by rw[hp])
  rw[hp]
  intro d hd
  obtain⟨i,hi⟩:=List.getElem?_of_mem hd
  exact typedR_n 20 _ _ _ _ _ ht ⟨fun x m h=>(by cases h),by
   have:=tokG_len s (s.size+1) (skp s 0)
   show (tokG s (s.size+1) (skp s 0)).length≤5000
   omega⟩ i d (Nat.zero_le _) hi
theorem show_qn {ns:List Ne} {t:List UInt8} (h:showP ns=some t):∀d∈ns,(d.k=8→d.items≠[])∧(d.k=9→d.syms≠[]):=by
 unfold showP at h
 simp only at h
 split at h
 ·cases h
 ·next h1=>
  split at h
  ·cases h
  ·next h2=>
   have e:=Decidable.not_not.1 fun hc=>h2 (.inr hc)
   have hw:=parse_qn ⟨(wtyp ns 20 0 ⟨[],0,false⟩).s.toArray⟩
   generalize (parseP ⟨(wtyp ns 20 0 ⟨[],0,false⟩).s.toArray⟩).1=q at hw e
   intro d hd
   rw[←e] at hd
   obtain⟨y,hy,rfl⟩:=List.mem_map.1 hd
   refine⟨fun e=>?_,(hw y hy).2⟩
   have:=(hw y hy).1 e
   show y.items.map _≠[]
   simpa using this
end Pr
namespace Rv
open Go.ChangeShapes Go.WideShapes Go.ChangeAt Go.RowKit
open Base Lx Mi Pr Mp Rx
theorem gb_part {a:List Ne} (ha:∀d∈a,WE a.length d) {d:Ne} (h0:a[0]?=some d) (h8:d.k=8) {n:Int} (hn:n∈d.items):GB a a ((0:Nat):Int) n=true:=
 gb_yes ⟨subB a,stays_sub ha,subB_iff.2 (.step h0 h8 hn (.refl n))⟩
theorem gb_each {a b:List Ne} {d:Ne} (h0:b[0]?=some d) (h8:d.k=8) {x:Ne} (hx:a[0]?=some x) {n:Int} (hn:n∈d.items) (h:GB a b ((0:Nat):Int) ((0:Nat):Int)=true):GB a b ((0:Nat):Int) n=true:=by
 have:=GB_stays a b 0 0 x d hx h0 h
 unfold holdP at this
 rw[if_pos h8,List.all_eq_true] at this
 exact this n hn
set_option maxHeartbeats 9000000 in
theorem typesLaw_any (u1 u2:Value) (n1 n2:List Ne) (kk:Int) (hkk:0≤kk∧kk≤255) (w:World) (h1:Sch w.heap.size w u1 n1) (h2:Sch w.heap.size w u2 n2) (hb1:Args.schB n1≤1048576) (hb2:Args.schB n2≤1048576) (hwd:Wd w) (hpow:Pow w) :
  Calls Tryz.prog 7 #[.agg #[u1],.agg #[u2],.int .u8 kk] w fun e w'=>e=.returned (.bool true)∧Ext w w':=by
 have F:=fine1 h1 hb1
 have G:=fine1 h2 hb2
 have hnode:=fun d (hd:n1[0]?=some d)=>h1.node2 0 d hd
 obtain⟨A1,na,c1,eva,hna⟩:∃A n c,u1=.slice A n c∧Hid (n1.length=n):=by
  obtain⟨vs,_,⟨A,c,e,_⟩,_⟩:=h1
  exact⟨A,_,c,e,Lib.hid rfl⟩
 obtain⟨A2,nb,c2,evb,hnb⟩:∃A n c,u2=.slice A n c∧Hid (n2.length=n):=by
  obtain⟨vs,_,⟨A,c,e,_⟩,_⟩:=h2
  exact⟨A,_,c,e,Lib.hid rfl⟩
 subst eva;subst evb
 obtain⟨q,hq⟩:∃z,Hid (w.heap.size=z):=⟨_,rfl⟩
 obtain⟨w1,hw1⟩:∃z,Hid ((w.alloc (.cells #[.slice A1 na c1] 24)).alloc (.cells #[.slice A2 nb c2] 24)=z):=⟨_,rfl⟩
 have hx1:Ext w w1:=by rw[←hw1.out];exact ((Ext.refl w).alloc _).alloc _
 have hbA:Blk w1 q #[.slice A1 na c1] 24:=by rw[←hw1.out,←hq.out];exact (Blk.new w _ _).ext ((Ext.refl _).alloc _)
 have hbB:Blk w1 (q+1) #[.slice A2 nb c2] 24:=by
  have hn:=Blk.new (w.alloc (.cells #[.slice A1 na c1] 24)) #[.slice A2 nb c2] 24
  rw[World.size_alloc,hq.out,hw1.out] at hn
  exact hn
 have S1:∀W,Ext w1 W→Sch W.heap.size W (.slice A1 na c1) n1:=fun W hW=>(h1.below (hx1.trans hW)).mono (hx1.trans hW).size
 have S2:∀W,Ext w1 W→Sch W.heap.size W (.slice A2 nb c2) n2:=fun W hW=>(h2.below (hx1.trans hW)).mono (hx1.trans hW).size
 have cA:∀W,Ext w1 W→W.cell? ⟨q,0,none⟩=some (.slice A1 na c1):=fun W hW=>by have:=(hbA.ext hW).cell 0;simpa using this
 have cB:∀W,Ext w1 W→W.cell? ⟨q+1,0,none⟩=some (.slice A2 nb c2):=fun W hW=>by have:=(hbB.ext hW).cell 0;simpa using this
 have hli:=fun W (hW:Ext w1 W)=>lives10_any W (hwd.ext (hx1.trans hW)) (hpow.ext (hx1.trans hW))
 have hownA:=fun W hW=>own_any (S1 W hW) (Nat.le_refl _) F.l1
 have hownB:=fun W hW=>own_any (S2 W hW) (Nat.le_refl _) G.l1
 have hsh1:=refShow_any _ _ w1 (S1 w1 (Ext.refl _)) F.shR
 have hsh2:=fun W hW=>refShow_any _ _ W (S2 W hW) G.shR
 have hpp:=fun W v v' (hW:Ext w1 W) hS hS'=>Pairs_any n1 n1 v v' W hS hS' (hwd.ext (hx1.trans hW)) (hpow.ext (hx1.trans hW)) F.sh F.sh
 have hpq:=fun W v v' (hW:Ext w1 W) hS hS'=>Pairs_any n2 n1 v v' W hS hS' (hwd.ext (hx1.trans hW)) (hpow.ext (hx1.trans hW)) G.sh F.sh
 have hfew:=fun W hW=>few10_any n1 n2 _ _ W (S1 W hW) (S2 W hW) F.bnd G.bnd
 have hl6:fewP n1 n2=true→(∀d∈n1,Len6 d)∧∀d∈n2,Len6 d:=few_len6
 have hnb2:na≤1000000∧nb≤1000000:=⟨by rw[←hna.out];exact F.l1,by rw[←hnb.out];exact G.l1⟩
 obtain⟨Sa,ea,ha,hea⟩:=shV_parts n1
 obtain⟨Sb,eb,hb,heb⟩:=shV_parts n2
 rw[ha] at hsh1
 simp only[hb] at hsh2
 obtain⟨m1,hm1⟩:∃z,Hid (fewP n1 n2=z):=⟨_,Lib.hid rfl⟩
 simp only[hm1.out] at hfew hl6
 have g1:=cA w1 (Ext.refl _)
 have g2:=cB w1 (Ext.refl _)
 clear F G hb1 hb2 hbA hbB h1 h2 ha hb
 replace hl6:=Lib.hid hl6
 replace hownA:=Lib.hid hownA
 replace hownB:=Lib.hid hownB
 replace hsh2:=Lib.hid hsh2
 replace hfew:=Lib.hid hfew
 replace hpp:=Lib.hid hpp
 replace hpq:=Lib.hid hpq
 replace hnode:=Lib.hid hnode
 replace hli:=Lib.hid hli
 replace cA:=Lib.hid cA
 replace cB:=Lib.hid cB
 clear S1 S2
 obtain⟨PO,hPO⟩:∃PO:Ending→World→Prop,Hid ((fun e w'=>e=.returned (.bool true)∧Ext w w')=PO):=⟨_,Lib.hid rfl⟩
 have fin:∀W,Ext w W→PO (.returned (.bool true)) W:=fun W hW=>by rw[←hPO.out];exact⟨rfl,hW⟩
 rw[hPO.out]
 replace fin:=Lib.hid fin
 go_enter Tryz.func7,Tryz.ntmps7
 go_wp2_with fail
 rw[hw1.out]
 try rw[hq.out]
 refine hsh1.mono ?_
 rintro e w2 ⟨rfl,hx2⟩
 clear hsh1 g1 g2
 have g2:=cB.out w2 hx2
 have hc:=hsh2.out w2 hx2
 go_wp2_with fail
 refine hc.mono ?_
 rintro e w3 ⟨rfl,hx3⟩
 have hx23:=hx2.trans hx3
 clear hc g2 hx2 hx3
 have g1:=cA.out w3 hx23
 have g2:=cB.out w3 hx23
 have hc:=hfew.out w3 hx23
 go_wp2_with fail
 refine hc.mono ?_
 rintro e w4 ⟨rfl,hx4⟩
 have hx24:=hx23.trans hx4
 clear hc g1 g2 hx23 hx4
 cases m1 with
 | false=>
  clear hea heb
  have hc:=hli.out w4 hx24
  go_wp2_with fail
  refine hc.mono ?_
  rintro e wL ⟨rfl,hxL⟩
  have hf:=fin.out wL (hx1.trans ((hx24).trans hxL))
  clear hc
  go_wp2_with fail
  exact hf
 | true=>
  rcases hea with⟨rfl,ta,hta⟩|⟨rfl,hta⟩
  case inr=>
   clear heb
   have hc:=hli.out w4 hx24
   go_wp2_with fail
   refine hc.mono ?_
   rintro e wL ⟨rfl,hxL⟩
   have hf:=fin.out wL (hx1.trans ((hx24).trans hxL))
   clear hc
   go_wp2_with fail
   exact hf
  rcases heb with⟨rfl,tb,htb⟩|⟨rfl,htb⟩
  case inr=>
   clear hta
   have hc:=hli.out w4 hx24
   go_wp2_with fail
   refine hc.mono ?_
   rintro e wL ⟨rfl,hxL⟩
   have hf:=fin.out wL (hx1.trans ((hx24).trans hxL))
   clear hc
   go_wp2_with fail
   exact hf
  obtain⟨l1,l2⟩:=hl6.out rfl
  replace l1:=Lib.hid l1
  replace l2:=Lib.hid l2
  have we1:=show_we hta
  have we2:=show_we htb
  have qn:=show_qn hta
  obtain⟨d0,hd0⟩:∃d,n1[0]?=some d:=⟨_,List.getElem?_eq_getElem we1.1⟩
  obtain⟨y0,hy0⟩:∃d,n2[0]?=some d:=⟨_,List.getElem?_eq_getElem we2.1⟩
  have hdm:=List.mem_of_getElem? hd0
  have qn0:=(qn d0 hdm).1
  have its:=(we1.2.2 d0 hdm).its
  have hna0:0<na:=by rw[←hna.out];exact we1.1
  have hnb0:0<nb:=by rw[←hnb.out];exact we2.1
  have hna0':(0:Int)<(na:Int):=by omega
  have hnb0':(0:Int)<(nb:Int):=by omega
  have hgp:d0.k=8→∀n∈d0.items,GB n1 n1 ((0:Nat):Int) n=true:=fun h8 n hn=>gb_part we1.2.2 hd0 h8 hn
  have hge:d0.k=8→∀n∈d0.items,GB n2 n1 ((0:Nat):Int) ((0:Nat):Int)=true→GB n2 n1 ((0:Nat):Int) n=true:=fun h8 n hn h=>gb_each hd0 h8 hy0 hn h
  obtain⟨b0,o0,cc,As,cs,Ai,ci,Af,cf,eA,hlt,hsub,hcells⟩:=hnode.out d0 hd0
  injection eA with eA1 eA2 eA3
  subst eA1
  have hk0:∀W,Ext w1 W→W.cell? ⟨b0,o0,none⟩=some (.int .i64 d0.k):=fun W hW=>by have:=(hcells W (hx1.trans hW)).1;simpa using this
  have hi0:∀W,Ext w1 W→W.cell? ⟨b0,o0+4,none⟩=some (.slice Ai d0.items.length ci):=fun W hW=>by have:=(hcells W (hx1.trans hW)).2.2.2.2.1;simpa using this
  obtain⟨Ai',ci',eAi,hri,_,_,_,_⟩:=hsub.items
  simp only at eAi
  injection eAi with eAi1 eAi2 eAi3
  subst eAi1
  clear eAi2 eAi3 eA2 eA3 hcells hsub hlt hnode we1 we2 qn hdm
  obtain⟨m,hm⟩:∃z,Hid (d0.items.length=z):=⟨_,rfl⟩
  rw[hna.out] at its
  simp only[hm.out] at hi0
  obtain⟨k0,hk0e⟩:∃z,Hid (d0.k=z):=⟨_,rfl⟩
  simp only[hk0e.out] at hk0 qn0 hgp hge
  have g1:=cA.out w4 hx24
  have g3:=hk0 w4 hx24
  replace hk0:=Lib.hid hk0
  replace hi0:=Lib.hid hi0
  by_cases h8:k0=8
  case neg=>
   have hb8:((k0:Int) != 8)=true:=by simpa using h8
   have hc:=hli.out w4 hx24
   go_wp2_with fail
   refine hc.mono ?_
   rintro e wL ⟨rfl,hxL⟩
   have hf:=fin.out wL (hx1.trans ((hx24).trans hxL))
   clear hc
   go_wp2_with fail
   exact hf
  subst h8
  have hm0:0<m:=by
   have:=qn0 rfl
   rw[←hm.out]
   exact List.length_pos_iff.2 this
  replace hgp:=hgp rfl
  replace hge:=hge rfl
  have g4:=hi0.out w4 hx24
  clear qn0
  replace hgp:=Lib.hid hgp
  replace hge:=Lib.hid hge
  have cA4:∀W,Ext w4 W→W.cell? ⟨q,0,none⟩=some (.slice (some ⟨b0,o0,none⟩) na c1):=fun W hW=>cA.out W (hx24.trans hW)
  go_wp2_with fail
  clear g1 g3 g4
  refine Reg.startE (by kernel_rfl) ?_
  refine Reg.tk 0 ?_;(try simp only[Reg.nn])
  refine Reg.tk 2 ?_;(try simp only[Reg.nn])
  refine Reg.onlyE 1 _ rfl (by kernel_rfl) (by decide) (by rfl) (fun W hW K hK=>?_);go_simp
  refine (hownA.out W (hx24.trans hW) l1.out).mono ?_
  rintro e wX ⟨v6,vs6,rfl,hO6,hX⟩
  have hq1:=hW.trans hX
  have hS6:=hO6.sch (Nat.le_refl _)
  replace hS6:=Lib.hid hS6
  clear hO6
  refine hK.out _ _ (hX) ?_;clear hK K;(try simp only[Reg.nn])
  refine Reg.onlyE 3 _ rfl (by kernel_rfl) (by decide) (by rfl) (fun W hW K hK=>?_);go_simp
  refine (hownA.out W (hx24.trans (hq1.trans hW)) l1.out).mono ?_
  rintro e wY ⟨v7,vs7,rfl,hO7,hY⟩
  have hq2:=hq1.trans (hW.trans hY)
  have hS6':=Lib.hid ((hS6.out.below (hW.trans hY)).mono (hW.trans hY).size)
  have hS7:=hO7.sch (Nat.le_refl _)
  replace hS7:=Lib.hid hS7
  clear hO7 hS6
  refine hK.out _ _ (hY) ?_;clear hK K;(try simp only[Reg.nn])
  refine Reg.onlyS 4 _ rfl (by kernel_rfl) (by kernel_rfl) (by decide) (by rfl) (fun W hW K hK=>?_);go_simp
  refine (hpp.out W v6 v7 (hx24.trans (hq2.trans hW)) ((hS6'.out.below hW).mono hW.size) ((hS7.out.below hW).mono hW.size)).mono ?_
  rintro e wZ ⟨hpv,hZ⟩
  have hq3:=hq2.trans (hW.trans hZ)
  clear hS6' hS7 hq1 hq2
  rcases hpv with⟨hn,rfl⟩|⟨_,_,pq,Vs,rfl,hbq,hvl,hrow⟩
  ·exfalso
   rcases hn with hn|hn
   ·rw[hta] at hn;cases hn
   ·rw[hta] at hn;cases hn
  refine hK.out _ _ ?_;clear hK K;(try simp only[Reg.nn])
  iterate 1 ((first|refine Reg.tn ?_|refine Reg.sn ?_);(try simp only[Reg.nn]))
  refine Reg.fin (by kernel_rfl) (fun W hW=>?_)
  obtain⟨w5,hw5⟩:∃z,z=W:=⟨_,rfl⟩
  rw[←hw5] at hW ⊢
  have hx25:=hx24.trans (hq3.trans hW)
  rw[hna.out] at hrow hvl ⊢
  obtain⟨P0,cp,hP0,hPr⟩:∃A c,(∀W,Ext w5 W→W.cell? ⟨pq,0,none⟩=some (.slice A na c))∧Rd w5 A ((List.range na).map fun (k:Nat)=>.bool (GB n1 n1 ((0:Nat):Int) (k:Int))):=by
   have hVi:Vs[0]?=some (Vs[0]'(by omega)):=List.getElem?_eq_getElem (by omega)
   obtain⟨A,c,e,r⟩:=hrow 0 _ hna0 hVi
   refine⟨A,c,fun W2 hW2=>?_,r.ext hW⟩
   have:=(hbq.ext (hW.trans hW2)).cell 0
   rw[List.getElem?_toArray,hVi,e] at this
   exact this
  clear hw5 hW hq3 hrow hvl hbq cA4
  have cA5:∀W,Ext w5 W→W.cell? ⟨q,0,none⟩=some (.slice (some ⟨b0,o0,none⟩) na c1):=fun W hW=>cA.out W (hx25.trans hW)
  have cB5:∀W,Ext w5 W→W.cell? ⟨q+1,0,none⟩=some (.slice A2 nb c2):=fun W hW=>cB.out W (hx25.trans hW)
  go_wp2_with fail
  refine Reg.startE (by kernel_rfl) ?_
  refine Reg.tk 0 ?_;(try simp only[Reg.nn])
  refine Reg.tk 2 ?_;(try simp only[Reg.nn])
  refine Reg.onlyE 1 _ rfl (by kernel_rfl) (by decide) (by rfl) (fun W hW K hK=>?_);go_simp
  refine (hownB.out W (hx25.trans hW) l2.out).mono ?_
  rintro e wX ⟨v6,vs6,rfl,hO6,hX⟩
  have hq1:=hW.trans hX
  have hS6:=hO6.sch (Nat.le_refl _)
  replace hS6:=Lib.hid hS6
  clear hO6
  refine hK.out _ _ (hX) ?_;clear hK K;(try simp only[Reg.nn])
  refine Reg.onlyE 3 _ rfl (by kernel_rfl) (by decide) (by rfl) (fun W hW K hK=>?_);go_simp
  refine (hownA.out W (hx25.trans (hq1.trans hW)) l1.out).mono ?_
  rintro e wY ⟨v7,vs7,rfl,hO7,hY⟩
  have hq2:=hq1.trans (hW.trans hY)
  have hS6':=Lib.hid ((hS6.out.below (hW.trans hY)).mono (hW.trans hY).size)
  have hS7:=hO7.sch (Nat.le_refl _)
  replace hS7:=Lib.hid hS7
  clear hO7 hS6
  refine hK.out _ _ (hY) ?_;clear hK K;(try simp only[Reg.nn])
  refine Reg.onlyS 4 _ rfl (by kernel_rfl) (by kernel_rfl) (by decide) (by rfl) (fun W hW K hK=>?_);go_simp
  refine (hpq.out W v6 v7 (hx25.trans (hq2.trans hW)) ((hS6'.out.below hW).mono hW.size) ((hS7.out.below hW).mono hW.size)).mono ?_
  rintro e wZ ⟨hpv,hZ⟩
  have hq3:=hq2.trans (hW.trans hZ)
  clear hS6' hS7 hq1 hq2
  rcases hpv with⟨hn,rfl⟩|⟨_,_,rq,Vs,rfl,hbq,hvl,hrow⟩
  ·exfalso
   rcases hn with hn|hn
   ·rw[htb] at hn;cases hn
   ·rw[hta] at hn;cases hn
  refine hK.out _ _ ?_;clear hK K;(try simp only[Reg.nn])
  iterate 1 ((first|refine Reg.tn ?_|refine Reg.sn ?_);(try simp only[Reg.nn]))
  refine Reg.fin (by kernel_rfl) (fun W hW=>?_)
  obtain⟨w6,hw6⟩:∃z,z=W:=⟨_,rfl⟩
  rw[←hw6] at hW ⊢
  have hx56:=hq3.trans hW
  rw[hnb.out] at hrow hvl ⊢
  rw[hna.out] at hrow
  obtain⟨Q0,cq,hQ0,hQr⟩:∃A c,(∀W,Ext w6 W→W.cell? ⟨rq,0,none⟩=some (.slice A na c))∧Rd w6 A ((List.range na).map fun (k:Nat)=>.bool (GB n2 n1 ((0:Nat):Int) (k:Int))):=by
   have hVi:Vs[0]?=some (Vs[0]'(by omega)):=List.getElem?_eq_getElem (by omega)
   obtain⟨A,c,e,r⟩:=hrow 0 _ hnb0 hVi
   refine⟨A,c,fun W2 hW2=>?_,r.ext hW⟩
   have:=(hbq.ext (hW.trans hW2)).cell 0
   rw[List.getElem?_toArray,hVi,e] at this
   exact this
  clear hw6 hW hq3 hrow hvl hbq cA5 cB5
  have hx26:=hx25.trans hx56
  have cA6:∀W,Ext w6 W→W.cell? ⟨q,0,none⟩=some (.slice (some ⟨b0,o0,none⟩) na c1):=fun W hW=>cA.out W (hx26.trans hW)
  have cB6:∀W,Ext w6 W→W.cell? ⟨q+1,0,none⟩=some (.slice A2 nb c2):=fun W hW=>cB.out W (hx26.trans hW)
  have hP6:∀W,Ext w6 W→W.cell? ⟨pq,0,none⟩=some (.slice P0 na cp):=fun W hW=>hP0 W (hx56.trans hW)
  clear hP0
  have hne1:((na:Int) != (na:Int))=false:=by simp
  have hne2:((nb:Int) != (nb:Int))=false:=by simp
  go_wp2_with fail
  refine Reg.startE (by kernel_rfl) ?_
  iterate 34 ((first|refine Reg.tn ?_|refine Reg.sn ?_);(try simp only[Reg.nn,hne1,hne2]))
  refine Reg.fin (by kernel_rfl) (fun W hW=>?_)
  clear hne1 hne2
  obtain⟨w7,hw7⟩:∃z,z=W:=⟨_,rfl⟩
  rw[←hw7] at hW ⊢
  have hx67:=hW
  have hx27:=hx26.trans hW
  clear hw7 hW cA6 cB6
  obtain⟨j,hjm,hj⟩:∃j:Nat,j<m∧kk.tmod (m:Int)=(j:Int):=by
   refine⟨(kk.tmod (m:Int)).toNat,?_,?_⟩
   ·have:=Int.tmod_lt_of_pos kk (show (0:Int)<m by omega)
    have:=Int.tmod_nonneg (m:Int) hkk.1
    omega
   ·have:=Int.tmod_nonneg (m:Int) hkk.1
    omega
  obtain⟨t,ht⟩:∃z,d0.items[j]?=some z:=⟨_,List.getElem?_eq_getElem (by have:=hm.out;omega)⟩
  have htm:=List.mem_of_getElem? ht
  obtain⟨tn,rfl⟩:∃n:Nat,t=(n:Int):=⟨t.toNat,by have:=its t htm;omega⟩
  have htn:tn<na:=by have:=(its _ htm).2;omega
  have htn':(tn:Int)<(na:Int):=by omega
  obtain⟨ib,io,eib,-,hic⟩:=(hri.ext (hx1.trans hx27)).at_ (k:=j) (by simp only[intsZ,List.length_map];have:=hm.out;omega)
  have hic0:=hic j (.int .i64 (tn:Int)) (by simp[intsZ,ht])
  subst eib
  obtain⟨pb,po,epb,-,hpc⟩:=(hPr.ext (hx56.trans hx67)).at_ (k:=tn) (by simp;exact htn)
  have hpc0:=hpc tn (.bool (GB n1 n1 ((0:Nat):Int) (tn:Int))) (by simp[htn])
  have hgpt:GB n1 n1 ((0:Nat):Int) (tn:Int)=true:=by first|exact hgp.out _ htm|exact hgp _ htm
  rw[hgpt] at hpc0
  subst epb
  obtain⟨rb,ro,erb,-,hrc⟩:=(hQr.ext hx67).at_ (k:=tn) (by simp;exact htn)
  have hrc0:=hrc tn (.bool (GB n2 n1 ((0:Nat):Int) (tn:Int))) (by simp[htn])
  have hrc1:=hrc 0 (.bool (GB n2 n1 ((0:Nat):Int) ((0:Nat):Int))) (by simp[hna0])
  subst erb
  have hge2:GB n2 n1 ((0:Nat):Int) ((0:Nat):Int)=true→GB n2 n1 ((0:Nat):Int) (tn:Int)=true:=by first|exact hge.out _ htm|exact hge _ htm
  clear hic hpc hrc hri hPr hQr htm ht its
  obtain⟨x,hx⟩:∃z,Hid (GB n2 n1 ((0:Nat):Int) ((0:Nat):Int)=z):=⟨_,rfl⟩
  obtain⟨y,hy⟩:∃z,Hid (GB n2 n1 ((0:Nat):Int) (tn:Int)=z):=⟨_,rfl⟩
  rw[hx.out] at hrc1 hge2
  rw[hy.out] at hrc0 hge2
  have p7:=hP6 w7 hx67
  have q7:=hQ0 w7 hx67
  clear hP6 hQ0 hx hy hgp hge
  have hm0':(0:Int)<(m:Int):=by omega
  have hmb:((m:Int) == 0)=false:=by simp;omega
  have hjm':(j:Int)<(m:Int):=by omega
  have hc7:=hli.out w7 hx27
  simp only[Nat.add_zero] at hrc1
  cases x with
  | false=>
   clear hge2
   go_wp2_with fail
   refine hc7.mono ?_
   rintro e wL ⟨rfl,hxL⟩
   have hf:=fin.out wL (hx1.trans (hx27.trans hxL))
   clear hc7
   go_wp2_with fail
   exact hf
  | true=>
   obtain rfl:=hge2 rfl
   clear hge2
   go_wp2_with fail
   refine hc7.mono ?_
   rintro e wL ⟨rfl,hxL⟩
   have hf:=fin.out wL (hx1.trans (hx27.trans hxL))
   clear hc7
   go_wp2_with fail
   exact hf
end Rv
namespace resolveTypesUpto
open Go.ChangeShapes Go.WideShapes Go.ChangeAt Go.RowKit
open Go.ChangeMaps (open_string shut_string)
open Base Args
theorem own:ownKnob Tryz.prog.godebug=none:=by kernel_rfl
theorem laidOut:laidOutB Tryz.prog=true:=by kernel_rfl
theorem laid_met (os:Os):laidMet Tryz.prog Rows.resolveTypesUptoRow.laid ((Pr.laidWorld os).forCall (fun _ _=>0) ⟨#[],#[.agg #[.slice none 0 0],.agg #[.slice none 0 0],.int .u8 0],[]⟩).memory:=
 laidMet_of_run' 8 (by kernel_rfl) (by kernel_rfl)
theorem reads (os:Os) {H:Type} (enc:TypeId×Value→H):∃places,DataW.whole enc Tryz.prog ((Pr.laidWorld os).forCall (fun _ _=>0) ⟨#[],#[.agg #[.slice none 0 0],.agg #[.slice none 0 0],.int .u8 0],[]⟩).memory Tryz.f7.params.toList Rows.resolveTypesSpec.vars false (#[.agg #[.slice none 0 0],.agg #[.slice none 0 0],.int .u8 0]:Array Value).toList 8=some ([.agg [.nil],.agg [.nil],.lit (.int .u8 0)],[],places):=
 ⟨[],by kernel_rfl⟩
theorem lifted (os:Os) (started:os.Started) (H:Type) (enc:TypeId×Value→H) (F:Stop.Interp) :
  ReturnsInHanded {} Tryz.checked os 7 .any ((Rows.OpenSpec.upto Rows.resolveTypesSpec).preRow enc Tryz.prog Tryz.f7 Rows.resolveTypesUptoRow.domain false Rows.resolveTypesUptoRow.laid) (((Rows.OpenSpec.upto Rows.resolveTypesSpec).at F).post enc Tryz.prog Tryz.f7 false true false false):=by
 obtain⟨places,hx⟩:=reads os enc
 refine returnsInHanded_of_row (C:=Tryz.checked) (s:=(Rows.OpenSpec.upto Rows.resolveTypesSpec)) own started (by kernel_rfl) Tryz.func7
  (witness_row_at (enc:=enc) (C:=Tryz.checked) false (Pr.laidWorld os) #[.agg #[.slice none 0 0],.agg #[.slice none 0 0],.int .u8 0] rfl (by kernel_rfl) (by kernel_rfl) (by kernel_rfl)
   (OpenSpec.preRow_of_cond 8 hx (by kernel_rfl) (fun k hk=>by cases hk;kernel_rfl) (by kernel_rfl) (laid_met os))) ?_
 intro W base args ds gs before hval0 hW hcnd hk0 hsz0 hL _ _
 have hk:=hk0 _ rfl
 have hval:∀(j:Nat) t v,Tryz.f7.params[j]?=some t→args[j]?=some v→Value.okWide Tryz.prog W .any base t v:=hval0
 have hW':=hW
 obtain⟨p,q,hAz,hV,rfl,hfz,hnd⟩:=hW
 have hA:DataW.TrodAll enc Tryz.prog W 0 (fun _=>true) true Tryz.f7.params.toList args.toList ds p:=hAz
 rw[Tryz.params7] at hA hval
 obtain⟨v0,vs0,d0,ds0,p0,q0,hargs,rfl,rfl,h0,r0⟩:=trodAll_cons hA
 obtain⟨v1,vs1,d1,ds1,p1,q1,rfl,rfl,rfl,h1,r1⟩:=trodAll_cons r0
 obtain⟨v2,vs2,d2,ds2,p2,q2,rfl,rfl,rfl,h2,r2⟩:=trodAll_cons r1
 obtain⟨rfl,rfl,rfl⟩:=trodAll_nil r2
 obtain rfl:args = #[v0,v1,v2]:=by cases args;simp_all
 obtain⟨rfl,rfl⟩:=trodVars_none hV
 have hbulk:=bulk_le hk
 have k0:=h0
 have lt0:∀x∈p0,x.block<W.heap.size:=by obtain⟨m,hm⟩:=k0;exact DataW.trod_lt m _ _ _ hm
 obtain⟨u0,n0,rfl,hS0,hB0⟩:=sch_arg (hval 0 24 v0 rfl rfl) h0
 have hz0:schB n0≤1048576:=Nat.le_trans hB0 (bulk_at hbulk (j:=0) rfl)
 have k1:=h1
 have lt1:∀x∈p1,x.block<W.heap.size:=by obtain⟨m,hm⟩:=k1;exact DataW.trod_lt m _ _ _ hm
 obtain⟨u1,n1,rfl,hS1,hB1⟩:=sch_arg (hval 1 24 v1 rfl rfl) h1
 have hz1:schB n1≤1048576:=Nat.le_trans hB1 (bulk_at hbulk (j:=1) rfl)
 obtain⟨a2,rfl,rfl,rfl,w2⟩:=open_int Tryz.underlying5 (hval 2 5 v2 rfl rfl) h2
 have hi2:0≤a2∧a2≤255:=by simpa [Lit.wf,IntKind.min,IntKind.max,IntKind.signed,IntKind.bits] using w2
 clear hAz hval0
 refine (Rv.typesLaw_any u0 u1 n0 n1 a2 hi2 W hS0 hS1 hz0 hz1 (Pr.tabs hL).1 (Pr.tabs hL).2).mono fun e W' ⟨he,bel⟩=>?_
 have bel:Below W.heap.size W W':=bel
 subst he
 exact⟨_,rfl,_,_,_,[],_,[],hW',trodAll_mk1 (shut_bool Tryz.underlying4 _),(trodAll_cons_mk (Below.trod laidOut (by kernel_rfl) (of_decide_eq_true (by kernel_rfl)) k0 bel lt0) (trodAll_cons_mk (Below.trod laidOut (by kernel_rfl) (of_decide_eq_true (by kernel_rfl)) k1 bel lt1) (trodAll_cons_mk (shut_int Tryz.underlying5 w2) trodAll_mk0))),rfl,bel.frame _,fun h=>by cases h⟩
theorem and2 {a b:Bool} (h:a=true) (k:b=true):(a && b)=true:=by rw[h,k];rfl
theorem joined:joinedFacts Tryz.pinned.checked.prog 7 Tryz.f7 (Rows.OpenSpec.upto Rows.resolveTypesSpec).bare Rows.resolveTypesUptoRow=true:=by
 unfold joinedFacts
 repeat' (with_reducible refine and2 ?_ ?_)
 all_goals as_aux_lemma=>kernel_rfl
theorem said:Rows.ResolveTypesUptoSaid:=
 OpenClaim.holds_of_cond 7 Tryz.f7 rfl rfl rfl rfl rfl rfl rfl ⟨rfl,rfl,rfl,rfl,rfl⟩ rfl rfl rfl rfl rfl (by kernel_rfl) Tryz.func7 joined
  (of_decide_eq_true (by kernel_rfl)) (by unfold Func.isWrapper;first|(rw[if_pos (by decide +kernel)];kernel_rfl)|(rw[if_neg (by decide +kernel)];exact⟨rfl,rfl⟩))
  (fun os started H enc _ F=>by rw[OpenClaim.pre_eq_preRow];exact lifted os started H enc F)
theorem plain (f:FuncId) (fn:Func) (hf:Tryz.pinned.checked.prog.funcNamed "suffragan/suffraganlaw10.ResolveTypes" = some f) (hfn:Tryz.pinned.checked.prog.funcs[f]?=some fn) :
  true=Tryz.pinned.checked.prog.looks []∧∀(j:Nat) t,fn.params[j]?=some t→Tryz.pinned.checked.prog.wantsStandIn t=false:=by
 obtain rfl:f=7:=Option.some.inj ((show Tryz.prog.funcNamed "suffragan/suffraganlaw10.ResolveTypes" = some 7 by kernel_rfl).symm.trans hf) |>.symm
 obtain rfl:fn=Tryz.f7:=(Option.some.inj (Tryz.func7.symm.trans hfn)).symm
 refine⟨by kernel_rfl,fun j t ht=>?_⟩
 rw[Tryz.params7] at ht
 have hm:=Array.mem_of_getElem? ht
 simp only[Array.mem_def,List.mem_cons,List.mem_nil_iff,or_false] at hm
 rcases hm with rfl|rfl|rfl
 ·exact (show Tryz.prog.wantsStandIn 24=false by kernel_rfl)
 ·exact (show Tryz.prog.wantsStandIn 24=false by kernel_rfl)
 ·exact (show Tryz.prog.wantsStandIn 5=false by kernel_rfl)
theorem proved:Rows.ResolveTypesUptoCardSaid:=
 Claim7.holds_tied_plain_at .later [] _ _ _ _ said (fun _ h=>by cases h) (by kernel_rfl) (fun _ h=>by cases h) resolveTypesUpto_row_tie rfl ⟨rfl,rfl⟩ (by kernel_rfl) rfl plain (by kernel_rfl)
#print axioms proved
end resolveTypesUpto
end Go.Proofs.YtmaoochjbpohdaaGreatDoor
