/- suffragan/suffraganlaw10.ResolvePairs: the given statement, out of the contract of its walk. Of what reads up to the bound. -/
import Derived.Test.YtmaoochjbpohdaaGreatDoorRbZA
set_option linter.unusedVariables false
set_option linter.unusedSimpArgs false
set_option maxRecDepth 100000
set_option maxHeartbeats 1000000
open Go.ChangeShapes Go.WideShapes Go.ChangeAt Go.RowKit
namespace Go.Proofs.YtmaoochjbpohdaaGreatDoor
namespace Rv
open Base Lx Mi Pr Mp Rx
def bools (N:Rel) (i n:Nat):List Value:=(List.range n).map fun (k:Nat)=>.bool (!N (i:Int) (k:Int))
theorem bools_len (N:Rel) (i n:Nat):(bools N i n).length=n:=by simp[bools]
theorem bools_snoc (N:Rel) (i n:Nat):bools N i (n+1)=bools N i n++[.bool (!N (i:Int) (n:Int))]:=by simp[bools,List.range_succ]
theorem el_bool:El Tryz.prog 41 4 (.bool false) 1 1:=⟨by kernel_rfl,by kernel_rfl,rfl,by omega⟩
def nilsA (n:Nat):Array Value:=madeCells #[.slice none 0 0] n
theorem nils_eq (n:Nat):(nilsA n)=(List.replicate n (.slice none 0 0)).toArray:=by
 have h:(nilsA n).toList=List.replicate n (.slice none 0 0):=by unfold nilsA;rw[toList_madeCells_one]
 rw[←h]
structure PT (w0:World) (q na nb:Nat) (N:Rel) (i:Nat) (Vs:List Value) (W:World):Prop where
 blk:Blk W q Vs.toArray 41
 len:Vs.length=na
 done:∀j Vj,j<i→Vs[j]?=some Vj→W.ownsRow w0.heap.size 4 1 Vj nb (bools N j nb)
 rest:∀j,i≤j→j<na→Vs[j]?=some (.slice none 0 0)
 x:Ext w0 W
 hq:w0.heap.size≤q
structure PS (w0:World) (q na nb:Nat) (N:Rel) (i k:Nat) (Vs:List Value) (V:Value) (W:World):Prop where
 blk:Blk W q Vs.toArray 41
 len:Vs.length=na
 done:∀j Vj,j<i→Vs[j]?=some Vj→W.ownsRow w0.heap.size 4 1 Vj nb (bools N j nb)∧(Vj.ownBlock=none∨Vj.ownBlock≠V.ownBlock)
 at_:Vs[i]?=some V
 cur:W.ownsRow w0.heap.size 4 1 V k (bools N i k)
 rest:∀j,i<j→j<na→Vs[j]?=some (.slice none 0 0)
 x:Ext w0 W
 hq:w0.heap.size≤q
section
variable {w0:World} {q na nb i k:Nat} {N:Rel} {Vs:List Value} {V:Value} {W W':World}
theorem PT.row (h:PT w0 q na nb N i Vs W) (hi:i<na):PS w0 q na nb N i 0 Vs (.slice none 0 0) W:=
 ⟨h.blk,h.len,fun j Vj hj hV=>⟨h.done j Vj hj hV,by cases Vj.ownBlock with
  | none=>exact .inl rfl
  | some m=>exact .inr (fun e=>by cases e)⟩,h.rest i (Nat.le_refl _) hi,World.ownsRow_nil W _ _ 1,fun j hj hn=>h.rest j (by omega) hn,h.x,h.hq⟩
theorem PS.full (h:PS w0 q na nb N i nb Vs V W):PT w0 q na nb N (i+1) Vs W:=
 ⟨h.blk,h.len,fun j Vj hj hV=>by
  by_cases e:j=i
  ·subst e
   rw[h.at_] at hV
   injection hV with hV
   rw[←hV];exact h.cur
  ·exact (h.done j Vj (by omega) hV).1,fun j hj hn=>h.rest j (by omega) hn,h.x,h.hq⟩
theorem PS.ext (h:PS w0 q na nb N i k Vs V W) (hx:Ext W W'):PS w0 q na nb N i k Vs V W':=
 ⟨h.blk.ext hx,h.len,fun j Vj hj hV=>⟨own_ext (h.done j Vj hj hV).1 hx,(h.done j Vj hj hV).2⟩,h.at_,own_ext h.cur hx,h.rest,h.x.trans hx,h.hq⟩
theorem PT.ext (h:PT w0 q na nb N i Vs W) (hx:Ext W W'):PT w0 q na nb N i Vs W':=
 ⟨h.blk.ext hx,h.len,fun j Vj hj hV=>own_ext (h.done j Vj hj hV) hx,h.rest,h.x.trans hx,h.hq⟩
theorem PS.push (h:PS w0 q na nb N i k Vs V W) {V':Value} (ho:W'.ownsRow w0.heap.size 4 1 V' (k+1) (bools N i k++[.bool (!N (i:Int) (k:Int))])) (hg:W.grownBy W' V.ownBlock) (hv':V'.ownBlock=V.ownBlock∨V'.ownBlock=some W.heap.size) :
  PS w0 q na nb N i (k+1) (Vs.set i V') V' (W'.setCell ⟨q,i,none⟩ V'):=by
 have hb:Blk W' q Vs.toArray 41:=h.blk.grown hg (own_ne_blk h.cur h.blk (by decide))
 have hi:i<Vs.length:=(List.getElem?_eq_some_iff.1 h.at_).1
 refine⟨by simpa using hb.set i V',by rw[List.length_set];exact h.len,fun j Vj hj hV=>?_,?_,own_setCell (by rw[bools_snoc];exact ho) hb (by decide) _,fun j hj hn=>?_,(h.x.then_grown hg (fun m hm=>(h.cur.lt m hm).1)).setCell h.hq _,h.hq⟩
 ·rw[List.getElem?_set_ne (by omega)] at hV
  obtain⟨o,d⟩:=h.done j Vj hj hV
  refine⟨own_setCell (o.kept hg d) hb (by decide) _,?_⟩
  rcases hv' with hv'|hv'
  ·rw[hv'];exact d
  ·cases hj':Vj.ownBlock with
   | none=>exact .inl rfl
   | some m=>
    refine .inr fun e=>?_
    rw[hv'] at e
    injection e with e
    have:=(o.lt m hj').2
    omega
 ·rw[List.getElem?_set_self hi]
 ·rw[List.getElem?_set_ne (by omega)];exact h.rest j hj hn
end
def pairsV (a b:List Ne) (en:Ending) (w':World):Prop:=((showP a=none∨showP b=none)∧en=.returned (.slice none 0 0))∨
 ((∃ta,showP a=some ta)∧(∃tb,showP b=some tb)∧∃(q:Nat) (Vs:List Value),en=.returned (.slice (some ⟨q,0,none⟩) a.length a.length)∧Blk w' q Vs.toArray 41∧Vs.length=a.length∧∀j Vj,j<a.length→Vs[j]?=some Vj→∃A c,Vj=.slice A b.length c∧Rd w' A ((List.range b.length).map fun (k:Nat)=>.bool (GB a b (j:Int) (k:Int))))
theorem gb_eq {a b:List Ne} {N:Rel} (h1:Stays a b (notR N)) (h2:AllIn a b N) {i k:Nat} (hi:i<a.length) (hk:k<b.length):(!N (i:Int) (k:Int))=GB a b (i:Int) (k:Int):=by
 have h:=inR_not h1 h2 hi hk
 cases hN:N (i:Int) (k:Int) with
 | true=>rw[gb_no (fun hh=>by have:=h.1 hh;rw[hN] at this;cases this)];rfl
 | false=>rw[gb_yes (h.2 hN)];rfl
set_option maxHeartbeats 6000000 in
theorem Pairs_any (a b:List Ne) (va vb:Value) (w:World) (hSa:Sch w.heap.size w va a) (hSb:Sch w.heap.size w vb b) (hwd:Wd w) (hpow:Pow w) (hLa:showLen a≤100000000) (hLb:showLen b≤100000000) :
  Calls Tryz.prog 23 #[.agg #[va],.agg #[vb]] w fun en w'=>pairsV a b en w'∧Ext w w':=by
 obtain⟨Aa,na,ca,eva,hna⟩:∃A n c,va=.slice A n c∧Hid (a.length=n):=by
  obtain⟨vs,_,⟨A,c,e,_⟩,_⟩:=hSa
  exact⟨A,_,c,e,Lib.hid rfl⟩
 obtain⟨Ab,nb,cb,evb,hnb⟩:∃A n c,vb=.slice A n c∧Hid (b.length=n):=by
  obtain⟨vs,_,⟨A,c,e,_⟩,_⟩:=hSb
  exact⟨A,_,c,e,Lib.hid rfl⟩
 subst eva;subst evb
 obtain⟨q0,hq0⟩:∃z,Hid (w.heap.size=z):=⟨_,rfl⟩
 obtain⟨w1,hw1⟩:∃z,Hid ((w.alloc (.cells #[.slice Aa na ca] 24)).alloc (.cells #[.slice Ab nb cb] 24)=z):=⟨_,rfl⟩
 have hx1:Ext w w1:=by rw[←hw1.out];exact ((Ext.refl w).alloc _).alloc _
 have hbA:Blk w1 q0 #[.slice Aa na ca] 24:=by rw[←hw1.out,←hq0.out];exact (Blk.new w _ _).ext ((Ext.refl _).alloc _)
 have hbB:Blk w1 (q0+1) #[.slice Ab nb cb] 24:=by
  have hn:=Blk.new (w.alloc (.cells #[.slice Aa na ca] 24)) #[.slice Ab nb cb] 24
  rw[World.size_alloc,hq0.out,hw1.out] at hn
  exact hn
 have S1:=(hSa.below hx1).mono hx1.size
 have S2:=(hSb.below hx1).mono hx1.size
 have cA:∀W,Ext w1 W→W.cell? ⟨q0,0,none⟩=some (.slice Aa na ca):=fun W hW=>by have:=(hbA.ext hW).cell 0;simpa using this
 have cB:∀W,Ext w1 W→W.cell? ⟨q0+1,0,none⟩=some (.slice Ab nb cb):=fun W hW=>by have:=(hbB.ext hW).cell 0;simpa using this
 have g1:=cA w1 (Ext.refl _)
 have g2:=cB w1 (Ext.refl _)
 obtain⟨PO,hPO⟩:∃PO:Ending→World→Prop,Hid ((fun en w'=>pairsV a b en w'∧Ext w w')=PO):=⟨_,Lib.hid rfl⟩
 rw[hPO.out]
 have hno:(showP a=none∨showP b=none)→∀W,Ext w W→PO (.returned (.slice none 0 0)) W:=fun h W hW=>by rw[←hPO.out];exact⟨.inl ⟨h,rfl⟩,hW⟩
 by_cases hsh:∃ta tb,showP a=some ta∧showP b=some tb
 case neg=>
  have hnn:showP a=none∨showP b=none:=by
   cases h1:showP a with
   | none=>exact .inl rfl
   | some ta=>
    cases h2:showP b with
    | none=>exact .inr rfl
    | some tb=>exact absurd ⟨ta,tb,h1,h2⟩ hsh
  have hrel:Calls Tryz.prog 49 #[.agg #[.slice Aa na ca],.agg #[.slice Ab nb cb]] w1 fun en w'=>en=.returned (.pointer none)∧Ext w1 w':=by
   cases h1:showP a with
   | none=>exact related_no1 a _ _ w1 S1 (hwd.ext hx1) (hpow.ext hx1) hLa h1
   | some ta=>
    cases h2:showP b with
    | none=>exact related_no2 a b _ _ w1 S1 S2 (hwd.ext hx1) (hpow.ext hx1) hLa hLb ta h1 h2
    | some tb=>exact absurd ⟨ta,tb,h1,h2⟩ hsh
  have hf0:=hno hnn
  clear hno hsh hnn hSa hSb S1 S2 hPO
  replace hf0:=Lib.hid hf0
  go_enter Tryz.func23,Tryz.ntmps23
  go_wp2_with fail
  rw[hw1.out]
  try rw[hq0.out]
  refine hrel.mono ?_
  rintro e w2 ⟨rfl,hx2⟩
  have hf:=hf0.out w2 (hx1.trans hx2)
  clear hrel g1 g2
  go_wp2_with fail
  exact hf
 obtain⟨ta,tb,hta,htb⟩:=hsh
 have e1:=show_we hta
 have e2:=show_we htb
 have hrel:=related_some a b _ _ w1 S1 S2 (hwd.ext hx1) (hpow.ext hx1) hLa hLb ta tb hta htb e1.2.1 e2.2.1 e1.2.2 e2.2.2
 have hna1:na≤1500:=by have:=hna.out;have:=e1.2.1;omega
 have hnb1:nb≤1500:=by have:=hnb.out;have:=e2.2.1;omega
 have hyes:∀w0 q N Vs W,Stays a b (notR N)→AllIn a b N→PT w0 q na nb N na Vs W→Ext w W→PO (.returned (.slice (some ⟨q,0,none⟩) na na)) W:=fun w0 q N Vs W h1 h2 h3 h4=>by
  rw[←hPO.out]
  refine⟨.inr ⟨⟨ta,hta⟩,⟨tb,htb⟩,q,Vs,by rw[hna.out],h3.blk,by rw[hna.out];exact h3.len,fun j Vj hj hV=>?_⟩,h4⟩
  rw[hna.out] at hj
  obtain⟨A,c,e,_,_,r,_⟩:=Rd.of_own (h3.done j Vj hj hV)
  refine⟨A,c,by rw[hnb.out];exact e,?_⟩
  have hl:(List.range b.length).map (fun (k:Nat)=>Value.bool (GB a b (j:Int) (k:Int)))=bools N j nb:=by
   unfold bools
   rw[hnb.out]
   refine List.map_congr_left fun k hk=>?_
   rw[gb_eq h1 h2 (by rw[hna.out];exact hj) (by rw[hnb.out];exact List.mem_range.1 hk)]
  rw[hl];exact r
 clear hno hSa hSb S1 S2 e1 e2 hta htb
 replace hyes:=Lib.hid hyes
 replace cA:=Lib.hid cA
 replace cB:=Lib.hid cB
 obtain⟨is,his,hzs,hss,hbs⟩:=info_parts (show (Tryz.prog.info? 41).map (fun i=>(i.zero,i.size,i.bytes))=some (some (.slice none 0 0),1,24) by kernel_rfl)
 have hmk:∀W:World,(Instr.makeSlice 39 (.int .i64 (na:Int)) (.int .i64 (na:Int))).run Tryz.prog W=.ok (.slice (some ⟨W.heap.size,0,none⟩) na na) (W.alloc (.cells (nilsA na) 41)):=fun W=>by
  have:=run_make (P:=Tryz.prog) W 39 41 is (.slice none 0 0) (by kernel_rfl) his hzs .i64 .i64 (na:Int) (na:Int) (by omega) (by omega) (by rw[hbs];omega) (by omega)
  rw[hss] at this
  simpa [nilsA,Value.cells] using this
 clear his hzs hss hbs is
 go_enter Tryz.func23,Tryz.ntmps23
 go_wp2_with fail
 rw[hw1.out]
 try rw[hq0.out]
 refine hrel.mono ?_
 rintro e w2 ⟨⟨bx,bm,nM,N,rfl,hRX,hst,hal⟩,hx2⟩
 clear hrel g1 g2
 have hxw2:=hx1.trans hx2
 have g1:=cA.out w2 hx2
 obtain⟨w3,hw3⟩:∃z,Hid (w2.alloc (.cells (nilsA na) 41)=z):=⟨_,rfl⟩
 obtain⟨q,hq⟩:∃z,Hid (w2.heap.size=z):=⟨_,rfl⟩
 have hx3:Ext w2 w3:=by rw[←hw3.out];exact (Ext.refl w2).alloc _
 have hT0:PT w2 q na nb N 0 (List.replicate na (.slice none 0 0)) w3:=by
  refine⟨?_,by simp,fun j Vj hj=>by omega,fun j _ hj=>by rw[List.getElem?_replicate,if_pos hj],hx3,by rw[←hq.out];exact Nat.le_refl _⟩
  have hb:=Blk.new w2 (nilsA na) 41
  rw[hw3.out,hq.out,nils_eq] at hb
  exact hb
 replace hT0:=Lib.hid hT0
 have hfin:=fun Vs W (h:PT w2 q na nb N na Vs W)=>hyes.out w2 q N Vs W hst hal h (hxw2.trans h.x)
 replace hfin:=Lib.hid hfin
 replace hRX:=Lib.hid hRX
 clear hst hal hyes
 go_wp2_with fail
 clear hmk g1
 rw[hw3.out,hq.out]
 have hcB:∀W,Ext w2 W→W.cell? ⟨q0+1,0,none⟩=some (.slice Ab nb cb):=fun W hW=>cB.out W (hx2.trans hW)
 replace hcB:=Lib.hid hcB
 go_loopw [7,8,20,21,22,23,24,25,26,27,28,29,30,31,32,33,34,35,36,37,38,39,40,41,42,43] (fun v7 v8 v20 v21 v22 v23 v24 v25 v26 v27 v28 v29 v30 v31 v32 v33 v34 v35 v36 v37 v38 v39 v40 v41 v42 v43 wr=>∃(i:Nat) (Vs:List Value),i≤na∧v20=.int .i64 (i:Int)∧PT w2 q na nb N i Vs wr) (fun _ _ v20 _ _ _ _ _ _ _ _ _ _ _ _ _ _ _ _ _ _ _ _ _ _ _ _=>na-(intOf v20).toNat)
 case atStart=>exact⟨0,_,Nat.zero_le _,rfl,hT0.out⟩
 case round=>
  obtain⟨i,Vs,hi,rfl,hT⟩:=hrel
  clear hT0
  by_cases hin:i<na
  ·have hin':(i:Int)<(na:Int):=by omega
   have hS0:=hT.row hin
   have gB:=hcB.out wr hT.x
   replace hS0:=Lib.hid hS0
   clear hT
   obtain⟨wo,hwo⟩:∃z,z=wr:=⟨_,rfl⟩
   rw[←hwo] at hS0 gB ⊢
   clear hwo
   go_wp2_with fail
   clear gB
   go_loopw [8,26,27,28,29,30,31,32,33,34,35,36,37,38,39,40,41,42] (fun v8 v26 v27 v28 v29 v30 v31 v32 v33 v34 v35 v36 v37 v38 v39 v40 v41 v42 wr=>∃(k:Nat) (Vs:List Value) (V:Value),k≤nb∧v26=.int .i64 (k:Int)∧PS w2 q na nb N i k Vs V wr) (fun _ v26 _ _ _ _ _ _ _ _ _ _ _ _ _ _ _ _ _=>nb-(intOf v26).toNat)
   case atStart=>exact⟨0,_,_,Nat.zero_le _,rfl,hS0.out⟩
   case round=>
    obtain⟨k,Vs2,V,hk,rfl,hS⟩:=hrel
    clear hS0
    by_cases hkn:k<nb
    ·have hkn':(k:Int)<(nb:Int):=by omega
     obtain⟨A9,c9,e9,_,_,_,_⟩:=Rd.of_own hS.cur
     subst e9
     have hqn:¬(Value.slice A9 k c9).ownBlock=some q:=fun e=>own_ne_blk hS.cur hS.blk (by decide) e.symm
     have hS1:=hS
     replace hS:=Lib.hid hS
     go_wp2_with fail
     obtain⟨S,hSS⟩:∃z:Nat→Prop,Hid (z=fun m=>(Value.slice A9 k c9).ownBlock=some m):=⟨_,rfl⟩
     have hRl:=Reg.rl_chg S
     refine Reg.startX (R:=Chg S) (by kernel_rfl) ?_
     generalize hwd:World.drew wr=wd
     have hxd:Ext wr wd:=by rw[←hwd];exact (Ext.refl _).drew
     clear hwd
     have hSd:=hS1.ext hxd
     clear hS1
     have z3:∀W,Chg S wd W→W.cell? ⟨q,i,none⟩=some (.slice A9 k c9):=fun W hW2=>hW2.cell (by have:=hSd.blk.cell i;rw[List.getElem?_toArray,hSd.at_] at this;exact this) (by rw[hSS.out];exact hqn)
     iterate 9 ((first|refine Reg.un hRl ?_|refine Reg.vn hRl ?_);(try simp only[Reg.nn]))
     clear z3
     refine Reg.onlyX 9 _ rfl (by kernel_rfl) (by decide) (by rfl) (fun K hK=>?_);go_simp
     refine (reads_any (hRX.out.ext hSd.x) (i:=(i:Int)) (j:=(k:Int)) ⟨by omega,by omega⟩ ⟨by omega,by omega⟩).mono ?_
     rintro e wX ⟨rfl,hX⟩
     obtain⟨v,hv⟩:∃z,Hid ((!N (i:Int) (k:Int))=z):=⟨_,rfl⟩
     rw[hv.out]
     refine hK.out _ _ (Chg.ofExt hX) ?_;clear hK K;(try simp only[Reg.nn])
     have hSX:=hSd.ext hX
     replace hSd:=Lib.hid hSd
     refine Reg.onlyX 10 _ rfl (by kernel_rfl) (by decide) (by rfl) (fun K hK=>?_);go_simp
     obtain⟨g,hg⟩:∃z,Hid (wX.heap.size=z):=⟨_,rfl⟩
     obtain⟨wa,hwa⟩:∃z,Hid (wX.alloc (.cells #[.bool v] 4)=z):=⟨_,rfl⟩
     have hrv:Rd wa (some ⟨g,0,none⟩) [.bool v]:=by rw[←hwa.out,←hg.out];exact Rd.of_block wX 4 (0,0) rfl
     have hxa:Ext wX wa:=by rw[←hwa.out];exact (Ext.refl _).alloc _
     rw[hg.out,hwa.out]
     refine hK.out _ _ (Chg.ofExt hxa) ?_;clear hK K;(try simp only[Reg.nn])
     have hSa:=hSX.ext hxa
     obtain⟨XS,hXS⟩:∃z,Hid (bools N i k=z):=⟨_,rfl⟩
     have hoc:=hSa.cur
     rw[hXS.out] at hoc
     refine Reg.onlyX 11 _ rfl (by kernel_rfl) (by decide) (by rfl) (fun K hK=>?_)
     refine wp_app el_bool wa (.tmp 34) (.tmp 39) rfl w2.heap.size (.slice A9 k c9) k XS rfl hoc (some ⟨g,0,none⟩) 1 1 [.bool v] rfl hrv rfl (fun h=>by cases h) (by simp[Value.oneCell']) (by omega) (by omega) hSa.x.size (fun V' W' ho' hg' hv'=>?_)
     have hnx:=hSa.push (V':=V') (by rw[hXS.out,hv.out];exact ho') hg' hv'
     have hbk:=hSa.blk.grown hg' (own_ne_blk hSa.cur hSa.blk (by decide))
     have k3:=hbk.cell i
     have f3:=hbk.frozen i
     rw[List.getElem?_toArray,hSa.at_] at k3
     obtain⟨A8,c8,e8,jj⟩:=Rd.of_own ho'
     clear jj
     subst e8
     refine hK.out _ _ (by rw[hSS.out];exact Chg.ofGrown hg') ?_;clear hK K;(try simp only[Reg.nn])
     replace hnx:=Lib.hid hnx
     clear ho' hg' hv' hbk hrv hoc hSX
     replace hSa:=Lib.hid hSa
     iterate 1 ((first|refine Reg.un hRl ?_|refine Reg.vn hRl ?_);(try simp only[Reg.nn]))
     refine Reg.lastX 13 _ rfl (by kernel_rfl) (by kernel_rfl) (by kernel_rfl) (by decide) (by rfl) (fun K hK=>?_)
     go_simp
     refine hK.out _ _ ?_;clear hK K;(try simp only[Reg.nn])
     clear hSS hRl k3 f3
     go_wp2_with fail
     go_roundw
     case rel=>exact⟨k+1,_,_,by omega,by go_num,hnx.out⟩
     case measure=>simp[intOf]<;>omega
    ·obtain rfl:k=nb:=by omega
     have hT2:=hS.full
     replace hT2:=Lib.hid hT2
     clear hS
     go_wp2_with fail
     go_roundw
     case rel=>exact⟨i+1,_,by omega,by go_num,hT2.out⟩
     case measure=>simp[intOf]<;>omega
  ·obtain rfl:i=na:=by omega
   have hf:=hfin.out Vs wr hT
   clear hT
   go_wp2_with fail
   exact hf
set_option maxHeartbeats 8000000 in
theorem pairsLaw_any (u1 u2:Value) (n1 n2:List Ne) (w:World) (h1:Sch w.heap.size w u1 n1) (h2:Sch w.heap.size w u2 n2) (hb1:Args.schB n1≤1048576) (hb2:Args.schB n2≤1048576) (hwd:Wd w) (hpow:Pow w) :
  Calls Tryz.prog 6 #[.agg #[u1],.agg #[u2]] w fun e w'=>e=.returned (.bool true)∧Ext w w':=by
 have F:=fine1 h1 hb1
 have G:=fine1 h2 hb2
 obtain⟨A1,na,c1,eva,hna⟩:∃A n c,u1=.slice A n c∧Hid (n1.length=n):=by
  obtain⟨vs,_,⟨A,c,e,_⟩,_⟩:=h1
  exact⟨A,_,c,e,Lib.hid rfl⟩
 obtain⟨A2,nb,c2,evb,hnb⟩:∃A n c,u2=.slice A n c∧Hid (n2.length=n):=by
  obtain⟨vs,_,⟨A,c,e,_⟩,_⟩:=h2
  exact⟨A,_,c,e,Lib.hid rfl⟩
 subst eva;subst evb
 obtain⟨q,hq⟩:∃z,Hid (w.heap.size=z):=⟨_,rfl⟩
 obtain⟨w1,hw1⟩:∃z,Hid ((w.alloc (.cells #[.slice A1 na c1] 24)).alloc (.cells #[.slice A2 nb c2] 24)=z):=⟨_,rfl⟩
 have hx1:Ext w w1:=by rw[←hw1.out];exact ((Ext.refl w).alloc _).alloc _
 have hbA:Blk w1 q #[.slice A1 na c1] 24:=by rw[←hw1.out,←hq.out];exact (Blk.new w _ _).ext ((Ext.refl _).alloc _)
 have hbB:Blk w1 (q+1) #[.slice A2 nb c2] 24:=by
  have hn:=Blk.new (w.alloc (.cells #[.slice A1 na c1] 24)) #[.slice A2 nb c2] 24
  rw[World.size_alloc,hq.out,hw1.out] at hn
  exact hn
 have S1:∀W,Ext w1 W→Sch W.heap.size W (.slice A1 na c1) n1:=fun W hW=>(h1.below (hx1.trans hW)).mono (hx1.trans hW).size
 have S2:∀W,Ext w1 W→Sch W.heap.size W (.slice A2 nb c2) n2:=fun W hW=>(h2.below (hx1.trans hW)).mono (hx1.trans hW).size
 have cA:∀W,Ext w1 W→W.cell? ⟨q,0,none⟩=some (.slice A1 na c1):=fun W hW=>by have:=(hbA.ext hW).cell 0;simpa using this
 have cB:∀W,Ext w1 W→W.cell? ⟨q+1,0,none⟩=some (.slice A2 nb c2):=fun W hW=>by have:=(hbB.ext hW).cell 0;simpa using this
 have hli:=fun W (hW:Ext w1 W)=>lives10_any W (hwd.ext (hx1.trans hW)) (hpow.ext (hx1.trans hW))
 have hownA:=fun W hW=>own_any (S1 W hW) (Nat.le_refl _) F.l1
 have hownB:=fun W hW=>own_any (S2 W hW) (Nat.le_refl _) G.l1
 have hsh1:=fun W hW=>refShow_any _ _ W (S1 W hW) F.shR
 have hsh2:=fun W hW=>refShow_any _ _ W (S2 W hW) G.shR
 have hprs:=fun W v v' (hW:Ext w1 W) hS hS'=>Pairs_any n1 n2 v v' W hS hS' (hwd.ext (hx1.trans hW)) (hpow.ext (hx1.trans hW)) F.sh G.sh
 have hrds:∀ta tb,showP n1=some ta→showP n2=some tb→∀(i k:Nat),i<na→k<nb→∀W,Ext w1 W→Calls Tryz.prog 24 #[.agg #[.slice A1 na c1],.agg #[.slice A2 nb c2],.int .i64 (i:Int),.int .i64 (k:Int)] W fun en w'=>en=.returned (.bool (GB n1 n2 (i:Int) (k:Int)))∧Ext W w':=fun ta tb e1 e2 i k hi hk W hW=>by
  have f1:=show_we e1
  have f2:=show_we e2
  exact Reads_any W (S1 W hW) (S2 W hW) (by omega) (by omega) f1.2.2 f2.2.2 i k (by rw[hna.out];exact hi) (by rw[hnb.out];exact hk)
 have hfew:=few10_any n1 n2 _ _ w1 (S1 w1 (Ext.refl _)) (S2 w1 (Ext.refl _)) F.bnd G.bnd
 have hl6:fewP n1 n2=true→(∀d∈n1,Len6 d)∧∀d∈n2,Len6 d:=few_len6
 have hnb2:na≤1000000∧nb≤1000000:=⟨by rw[←hna.out];exact F.l1,by rw[←hnb.out];exact G.l1⟩
 obtain⟨Sa,ea,ha,hea⟩:=shV_parts n1
 obtain⟨Sb,eb,hb,heb⟩:=shV_parts n2
 simp only[ha] at hsh1
 simp only[hb] at hsh2
 obtain⟨m1,hm1⟩:∃z,Hid (fewP n1 n2=z):=⟨_,Lib.hid rfl⟩
 simp only[hm1.out] at hfew hl6
 have g1:=cA w1 (Ext.refl _)
 have g2:=cB w1 (Ext.refl _)
 clear F G hb1 hb2 hbA hbB h1 h2 ha hb
 replace hl6:=Lib.hid hl6
 replace hownA:=Lib.hid hownA
 replace hownB:=Lib.hid hownB
 replace hsh1:=Lib.hid hsh1
 replace hsh2:=Lib.hid hsh2
 replace hprs:=Lib.hid hprs
 replace hrds:=Lib.hid hrds
 replace hli:=Lib.hid hli
 replace cA:=Lib.hid cA
 replace cB:=Lib.hid cB
 clear S1 S2
 obtain⟨PO,hPO⟩:∃PO:Ending→World→Prop,Hid ((fun e w'=>e=.returned (.bool true)∧Ext w w')=PO):=⟨_,Lib.hid rfl⟩
 have fin:∀W,Ext w W→PO (.returned (.bool true)) W:=fun W hW=>by rw[←hPO.out];exact⟨rfl,hW⟩
 rw[hPO.out]
 replace fin:=Lib.hid fin
 go_enter Tryz.func6,Tryz.ntmps6
 go_wp2_with fail
 rw[hw1.out]
 try rw[hq.out]
 refine hfew.mono ?_
 rintro e w2 ⟨rfl,hx2⟩
 clear hfew g1 g2
 cases m1 with
 | false=>
  have hc:=hli.out w2 hx2
  go_wp2_with fail
  refine hc.mono ?_
  rintro e w3 ⟨rfl,hx3⟩
  have hf:=fin.out w3 (hx1.trans (hx2.trans hx3))
  clear hc
  go_wp2_with fail
  exact hf
 | true=>
  obtain⟨l1,l2⟩:=hl6.out rfl
  replace l1:=Lib.hid l1
  replace l2:=Lib.hid l2
  have cA2:∀W,Ext w2 W→W.cell? ⟨q,0,none⟩=some (.slice A1 na c1):=fun W hW=>cA.out W (hx2.trans hW)
  have cB2:∀W,Ext w2 W→W.cell? ⟨q+1,0,none⟩=some (.slice A2 nb c2):=fun W hW=>cB.out W (hx2.trans hW)
  go_wp2_with fail
  refine Reg.startE (by kernel_rfl) ?_
  refine Reg.tk 0 ?_;(try simp only[Reg.nn])
  refine Reg.tk 2 ?_;(try simp only[Reg.nn])
  clear cA2 cB2
  refine Reg.onlyE 1 _ rfl (by kernel_rfl) (by decide) (by rfl) (fun W hW K hK=>?_);go_simp
  refine (hownA.out W (hx2.trans hW) l1.out).mono ?_
  rintro e wX ⟨v6,vs6,rfl,hO6,hX⟩
  have hq1:=hW.trans hX
  have hS6:=hO6.sch (Nat.le_refl _)
  replace hS6:=Lib.hid hS6
  clear hO6
  refine hK.out _ _ (hX) ?_;clear hK K;(try simp only[Reg.nn])
  refine Reg.onlyE 3 _ rfl (by kernel_rfl) (by decide) (by rfl) (fun W hW K hK=>?_);go_simp
  refine (hownB.out W (hx2.trans (hq1.trans hW)) l2.out).mono ?_
  rintro e wY ⟨v7,vs7,rfl,hO7,hY⟩
  have hq2:=hq1.trans (hW.trans hY)
  have hS6':=Lib.hid ((hS6.out.below (hW.trans hY)).mono (hW.trans hY).size)
  have hS7:=hO7.sch (Nat.le_refl _)
  replace hS7:=Lib.hid hS7
  clear hO7 hS6
  refine hK.out _ _ (hY) ?_;clear hK K;(try simp only[Reg.nn])
  refine Reg.onlyS 4 _ rfl (by kernel_rfl) (by kernel_rfl) (by decide) (by rfl) (fun W hW K hK=>?_);go_simp
  refine (hprs.out W v6 v7 (hx2.trans (hq2.trans hW)) ((hS6'.out.below hW).mono hW.size) ((hS7.out.below hW).mono hW.size)).mono ?_
  rintro e wZ ⟨hpv,hZ⟩
  have hq3:=hx2.trans (hq2.trans (hW.trans hZ))
  clear hS6' hS7 hq1 hq2
  have hs1:=hsh1.out
  rcases hpv with⟨hn,rfl⟩|⟨⟨ta,hta⟩,⟨tb,htb⟩,qp,Vs,rfl,hbq,hvl,hrow⟩
  ·have hee:(ea=1)∨(ea=0∧eb=1):=by
    rcases hea with⟨h,t,ht⟩|⟨h,ht⟩
    ·rcases heb with⟨h',t',ht'⟩|⟨h',ht'⟩
     ·rcases hn with hn|hn
      ·rw[hn] at ht;cases ht
      ·rw[hn] at ht';cases ht'
     ·exact .inr ⟨h,h'⟩
    ·exact .inl h
   clear hea heb hn hs1
   refine hK.out _ _ ?_;clear hK K;(try simp only[Reg.nn])
   iterate 1 ((first|refine Reg.tn ?_|refine Reg.sn ?_);(try simp only[Reg.nn]))
   refine Reg.fin (by kernel_rfl) (fun W hW=>?_)
   obtain⟨w5,hw5⟩:∃z,z=W:=⟨_,rfl⟩
   rw[←hw5] at hW ⊢
   have hx5:=hq3.trans hW
   clear hw5 hW hq3
   have k1:=cA.out w5 hx5
   have hc1:=hsh1.out w5 hx5
   go_wp2_with fail
   refine hc1.mono ?_
   rintro e w6 ⟨rfl,hx6⟩
   have hx56:=hx5.trans hx6
   have k2:=cB.out w6 hx56
   have hc2:=hsh2.out w6 hx56
   clear hc1 k1 hx6
   go_wp2_with fail
   refine hc2.mono ?_
   rintro e w7 ⟨rfl,hx7⟩
   have hx57:=hx56.trans hx7
   have hc3:=hli.out w7 hx57
   clear hc2 k2 hx7 hx56
   replace hx57:=Lib.hid hx57
   rcases hee with rfl|⟨rfl,rfl⟩
   ·go_wp2_with fail
    refine hc3.mono ?_
    rintro e w8 ⟨rfl,hx8⟩
    have hf:=fin.out w8 (hx1.trans (hx57.out.trans hx8))
    clear hc3
    go_wp2_with fail
    exact hf
   ·go_wp2_with fail
    refine hc3.mono ?_
    rintro e w8 ⟨rfl,hx8⟩
    have hf:=fin.out w8 (hx1.trans (hx57.out.trans hx8))
    clear hc3
    go_wp2_with fail
    exact hf
  ·obtain rfl:ea=0:=by
    rcases hea with⟨h,t,ht⟩|⟨h,ht⟩
    ·exact h
    ·rw[ht] at hta;cases hta
   obtain rfl:eb=0:=by
    rcases heb with⟨h,t,ht⟩|⟨h,ht⟩
    ·exact h
    ·rw[ht] at htb;cases htb
   have hrd:=hrds.out ta tb hta htb
   rw[hna.out] at hvl hrow ⊢
   have hcq:∀i,i<na→∃A c,(∀W,Ext wZ W→W.cell? ⟨qp,i,none⟩=some (.slice A nb c))∧Rd wZ A ((List.range nb).map fun (k:Nat)=>.bool (GB n1 n2 (i:Int) (k:Int))):=fun i hi=>by
    have hVi:Vs[i]?=some (Vs[i]'(by omega)):=List.getElem?_eq_getElem (by omega)
    obtain⟨A,c,e,r⟩:=hrow i _ hi hVi
    rw[hnb.out] at e r
    refine⟨A,c,fun W hW=>?_,r⟩
    have:=(hbq.ext hW).cell i
    rw[List.getElem?_toArray,hVi,e] at this
    exact this
   clear hea heb hta htb hs1 hrow hbq hvl hrds
   replace hrd:=Lib.hid hrd
   replace hcq:=Lib.hid hcq
   refine hK.out _ _ ?_;clear hK K;(try simp only[Reg.nn])
   iterate 1 ((first|refine Reg.tn ?_|refine Reg.sn ?_);(try simp only[Reg.nn]))
   refine Reg.fin (by kernel_rfl) (fun W hW=>?_)
   obtain⟨w5,hw5⟩:∃z,z=W:=⟨_,rfl⟩
   rw[←hw5] at hW ⊢
   have hx5:=hq3.trans hW
   have hzx:=hW
   clear hw5 hW
   have k1:=cA.out w5 hx5
   have hc1:=hsh1.out w5 hx5
   go_wp2_with fail
   refine hc1.mono ?_
   rintro e w6 ⟨rfl,hx6⟩
   have hx56:=hx5.trans hx6
   have hz6:=hzx.trans hx6
   have k2:=cB.out w6 hx56
   have hc2:=hsh2.out w6 hx56
   clear hc1 k1 hx6
   go_wp2_with fail
   refine hc2.mono ?_
   rintro e w7 ⟨rfl,hx7⟩
   have hx57:=hx56.trans hx7
   have hz7:=hz6.trans hx7
   have k3:=cA.out w7 hx57
   clear hc2 k2 hx7 hx56 hz6
   obtain⟨b1,b2⟩:=hnb2
   go_wp2_with fail
   clear k3
   go_loopw [10,11,50,51,52,53,54,55,56,57,58,59,60,61,62,63,64,65,66,67,68,69,70,71,72,73,74,75,76,77,78,79,80,81,82,83,84,85,86] (fun v10 v11 v50 v51 v52 v53 v54 v55 v56 v57 v58 v59 v60 v61 v62 v63 v64 v65 v66 v67 v68 v69 v70 v71 v72 v73 v74 v75 v76 v77 v78 v79 v80 v81 v82 v83 v84 v85 v86 wr=>∃i:Nat,i≤na∧v10=.int .i64 (i:Int)∧Ext w7 wr) (fun v10 _ _ _ _ _ _ _ _ _ _ _ _ _ _ _ _ _ _ _ _ _ _ _ _ _ _ _ _ _ _ _ _ _ _ _ _ _ _ _=>na-(intOf v10).toNat)
   case atStart=>exact⟨0,Nat.zero_le _,rfl,Ext.refl w7⟩
   case round=>
    obtain⟨i,hi,rfl,hxr⟩:=hrel
    by_cases hin:i<na
    ·have hin':(i:Int)<(na:Int):=by omega
     obtain⟨Ai,ci,hci,hri⟩:=hcq.out i hin
     have d1:∀W,Ext wr W→W.cell? ⟨qp,i,none⟩=some (.slice Ai nb ci):=fun W hW=>hci W (hz7.trans (hxr.trans hW))
     have d2:∀W,Ext wr W→W.cell? ⟨q+1,0,none⟩=some (.slice A2 nb c2):=fun W hW=>cB.out W (hx57.trans (hxr.trans hW))
     replace hci:=Lib.hid hci
     go_wp2_with fail
     refine Reg.startE (by kernel_rfl) ?_
     iterate 9 ((first|refine Reg.tn ?_|refine Reg.sn ?_);(try simp only[Reg.nn]))
     refine Reg.fin (by kernel_rfl) (fun W hW=>?_)
     replace hxr:=hxr.trans hW
     clear d1 d2 hW
     obtain⟨wo,hwo⟩:∃z,z=W:=⟨_,rfl⟩
     rw[←hwo] at hxr ⊢
     clear hwo
     go_wp2_with fail
     go_loopw [11,65,66,67,68,69,70,71,72,73,74,75,76,77,78,79,80,81,82,83,84,85,86] (fun v11 v65 v66 v67 v68 v69 v70 v71 v72 v73 v74 v75 v76 v77 v78 v79 v80 v81 v82 v83 v84 v85 v86 wr=>∃k:Nat,k≤nb∧v11=.int .i64 (k:Int)∧Ext w7 wr) (fun v11 _ _ _ _ _ _ _ _ _ _ _ _ _ _ _ _ _ _ _ _ _ _ _=>nb-(intOf v11).toNat)
     case atStart=>exact⟨0,Nat.zero_le _,rfl,hxr⟩
     case round=>
      obtain⟨k,hk,rfl,hxk⟩:=hrel
      by_cases hkn:k<nb
      ·have hkn':(k:Int)<(nb:Int):=by omega
       have e1:∀W,Ext wr W→W.cell? ⟨qp,i,none⟩=some (.slice Ai nb ci):=fun W hW=>hci.out W (hz7.trans (hxk.trans hW))
       have e1r:=e1 wr (Ext.refl _)
       obtain⟨bb,bo,rfl,_,hcc⟩:=hri.at_ (k:=k) (by simp;exact hkn)
       have e2:∀W,Ext wr W→W.cell? ⟨bb,bo+k,none⟩=some (.bool (GB n1 n2 (i:Int) (k:Int))):=fun W hW=>(hz7.trans (hxk.trans hW)).cell (hcc k _ (by simp[hkn]))
       have e3:∀W,Ext wr W→W.cell? ⟨q,0,none⟩=some (.slice A1 na c1):=fun W hW=>cA.out W (hx57.trans (hxk.trans hW))
       have e4:∀W,Ext wr W→W.cell? ⟨q+1,0,none⟩=some (.slice A2 nb c2):=fun W hW=>cB.out W (hx57.trans (hxk.trans hW))
       have hcl:=fun W (hW:Ext wr W)=>hrd.out i k hin hkn W (hx57.trans (hxk.trans hW))
       clear hcc
       obtain⟨g,hg⟩:∃z,Hid (GB n1 n2 (i:Int) (k:Int)=z):=⟨_,rfl⟩
       simp only[hg.out] at e2 hcl
       replace hcl:=Lib.hid hcl
       clear hg
       cases g
       all_goals
        go_wp2_with fail
        refine Reg.startE (by kernel_rfl) ?_
        iterate 11 ((first|refine Reg.tn ?_|refine Reg.sn ?_);(try simp only[Reg.nn]))
        refine Reg.onlyE 11 _ rfl (by kernel_rfl) (by decide) (by rfl) (fun W hW K hK=>?_);go_simp
        refine (hcl.out W hW).mono ?_
        rintro e wX ⟨rfl,hX⟩
        have hq9:=hW.trans hX
        refine hK.out _ _ (hX) ?_;clear hK K;(try simp only[Reg.nn])
        iterate 1 ((first|refine Reg.tn ?_|refine Reg.sn ?_);(try simp only[Reg.nn]))
        refine Reg.fin (by kernel_rfl) (fun W hW=>?_)
        have hxx:=hxk.trans (hq9.trans hW)
        clear e1 e2 e3 e4 e1r hcl hq9
        replace hxx:=Lib.hid hxx
        go_wp2_with fail
        go_roundw
        case rel=>exact⟨k+1,by omega,by go_num,hxx.out⟩
        case measure=>simp[intOf]<;>omega
      ·obtain rfl:k=nb:=by omega
       have e1r:=hci.out wr (hz7.trans hxk)
       go_wp2_with fail
       go_roundw
       case rel=>exact⟨i+1,by omega,by go_num,hxk⟩
       case measure=>simp[intOf]<;>omega
    ·obtain rfl:i=na:=by omega
     have hc3:=hli.out wr (hx57.trans hxr)
     have hxx:=hx57.trans hxr
     replace hxx:=Lib.hid hxx
     go_wp2_with fail
     refine hc3.mono ?_
     rintro e w8 ⟨rfl,hx8⟩
     have hf:=fin.out w8 (hx1.trans (hxx.out.trans hx8))
     clear hc3
     go_wp2_with fail
     exact hf
end Rv
namespace resolvePairsUpto
open Go.ChangeMaps (open_string shut_string)
open Base Args
theorem own:ownKnob Tryz.prog.godebug=none:=by kernel_rfl
theorem laidOut:laidOutB Tryz.prog=true:=by kernel_rfl
theorem laid_met (os:Os):laidMet Tryz.prog Rows.resolvePairsUptoRow.laid ((Pr.laidWorld os).forCall (fun _ _=>0) ⟨#[],#[.agg #[.slice none 0 0],.agg #[.slice none 0 0]],[]⟩).memory:=
 laidMet_of_run' 8 (by kernel_rfl) (by kernel_rfl)
theorem reads (os:Os) {H:Type} (enc:TypeId×Value→H):∃places,DataW.whole enc Tryz.prog ((Pr.laidWorld os).forCall (fun _ _=>0) ⟨#[],#[.agg #[.slice none 0 0],.agg #[.slice none 0 0]],[]⟩).memory Tryz.f6.params.toList Rows.resolvePairsSpec.vars false (#[.agg #[.slice none 0 0],.agg #[.slice none 0 0]]:Array Value).toList 8=some ([.agg [.nil],.agg [.nil]],[],places):=
 ⟨[],by kernel_rfl⟩
theorem lifted (os:Os) (started:os.Started) (H:Type) (enc:TypeId×Value→H) (F:Stop.Interp) :
  ReturnsInHanded {} Tryz.checked os 6 .any ((Rows.OpenSpec.upto Rows.resolvePairsSpec).preRow enc Tryz.prog Tryz.f6 Rows.resolvePairsUptoRow.domain false Rows.resolvePairsUptoRow.laid) (((Rows.OpenSpec.upto Rows.resolvePairsSpec).at F).post enc Tryz.prog Tryz.f6 false true false false):=by
 obtain⟨places,hx⟩:=reads os enc
 refine returnsInHanded_of_row (C:=Tryz.checked) (s:=(Rows.OpenSpec.upto Rows.resolvePairsSpec)) own started (by kernel_rfl) Tryz.func6
  (witness_row_at (enc:=enc) (C:=Tryz.checked) false (Pr.laidWorld os) #[.agg #[.slice none 0 0],.agg #[.slice none 0 0]] rfl (by kernel_rfl) (by kernel_rfl) (by kernel_rfl)
   (OpenSpec.preRow_of_cond 8 hx (by kernel_rfl) (fun k hk=>by cases hk;kernel_rfl) (by kernel_rfl) (laid_met os))) ?_
 intro W base args ds gs before hval0 hW hcnd hk0 hsz0 hL _ _
 have hk:=hk0 _ rfl
 have hval:∀(j:Nat) t v,Tryz.f6.params[j]?=some t→args[j]?=some v→Value.okWide Tryz.prog W .any base t v:=hval0
 have hW':=hW
 obtain⟨p,q,hAz,hV,rfl,hfz,hnd⟩:=hW
 have hA:DataW.TrodAll enc Tryz.prog W 0 (fun _=>true) true Tryz.f6.params.toList args.toList ds p:=hAz
 rw[Tryz.params6] at hA hval
 obtain⟨v0,vs0,d0,ds0,p0,q0,hargs,rfl,rfl,h0,r0⟩:=trodAll_cons hA
 obtain⟨v1,vs1,d1,ds1,p1,q1,rfl,rfl,rfl,h1,r1⟩:=trodAll_cons r0
 obtain⟨rfl,rfl,rfl⟩:=trodAll_nil r1
 obtain rfl:args = #[v0,v1]:=by cases args;simp_all
 obtain⟨rfl,rfl⟩:=trodVars_none hV
 have hbulk:=bulk_le hk
 have k0:=h0
 have lt0:∀x∈p0,x.block<W.heap.size:=by obtain⟨m,hm⟩:=k0;exact DataW.trod_lt m _ _ _ hm
 obtain⟨u0,n0,rfl,hS0,hB0⟩:=sch_arg (hval 0 24 v0 rfl rfl) h0
 have hz0:schB n0≤1048576:=Nat.le_trans hB0 (bulk_at hbulk (j:=0) rfl)
 have k1:=h1
 have lt1:∀x∈p1,x.block<W.heap.size:=by obtain⟨m,hm⟩:=k1;exact DataW.trod_lt m _ _ _ hm
 obtain⟨u1,n1,rfl,hS1,hB1⟩:=sch_arg (hval 1 24 v1 rfl rfl) h1
 have hz1:schB n1≤1048576:=Nat.le_trans hB1 (bulk_at hbulk (j:=1) rfl)
 clear hAz hval0
 refine (Rv.pairsLaw_any u0 u1 n0 n1 W hS0 hS1 hz0 hz1 (Pr.tabs hL).1 (Pr.tabs hL).2).mono fun e W' ⟨he,bel⟩=>?_
 have bel:Below W.heap.size W W':=bel
 subst he
 exact⟨_,rfl,_,_,_,[],_,[],hW',trodAll_mk1 (shut_bool Tryz.underlying4 _),(trodAll_cons_mk (Below.trod laidOut (by kernel_rfl) (of_decide_eq_true (by kernel_rfl)) k0 bel lt0) (trodAll_cons_mk (Below.trod laidOut (by kernel_rfl) (of_decide_eq_true (by kernel_rfl)) k1 bel lt1) trodAll_mk0)),rfl,bel.frame _,fun h=>by cases h⟩
theorem and2 {a b:Bool} (h:a=true) (k:b=true):(a && b)=true:=by rw[h,k];rfl
theorem joined:joinedFacts Tryz.pinned.checked.prog 6 Tryz.f6 (Rows.OpenSpec.upto Rows.resolvePairsSpec).bare Rows.resolvePairsUptoRow=true:=by
 unfold joinedFacts
 repeat' (with_reducible refine and2 ?_ ?_)
 all_goals as_aux_lemma=>kernel_rfl
theorem said:Rows.ResolvePairsUptoSaid:=
 OpenClaim.holds_of_cond 6 Tryz.f6 rfl rfl rfl rfl rfl rfl rfl ⟨rfl,rfl,rfl,rfl,rfl⟩ rfl rfl rfl rfl rfl (by kernel_rfl) Tryz.func6 joined
  (of_decide_eq_true (by kernel_rfl)) (by unfold Func.isWrapper;first|(rw[if_pos (by decide +kernel)];kernel_rfl)|(rw[if_neg (by decide +kernel)];exact⟨rfl,rfl⟩))
  (fun os started H enc _ F=>by rw[OpenClaim.pre_eq_preRow];exact lifted os started H enc F)
theorem plain (f:FuncId) (fn:Func) (hf:Tryz.pinned.checked.prog.funcNamed "suffragan/suffraganlaw10.ResolvePairs" = some f) (hfn:Tryz.pinned.checked.prog.funcs[f]?=some fn) :
  true=Tryz.pinned.checked.prog.looks []∧∀(j:Nat) t,fn.params[j]?=some t→Tryz.pinned.checked.prog.wantsStandIn t=false:=by
 obtain rfl:f=6:=Option.some.inj ((show Tryz.prog.funcNamed "suffragan/suffraganlaw10.ResolvePairs" = some 6 by kernel_rfl).symm.trans hf) |>.symm
 obtain rfl:fn=Tryz.f6:=(Option.some.inj (Tryz.func6.symm.trans hfn)).symm
 refine⟨by kernel_rfl,fun j t ht=>?_⟩
 rw[Tryz.params6] at ht
 have hm:=Array.mem_of_getElem? ht
 simp only[Array.mem_def,List.mem_cons,List.mem_nil_iff,or_false,or_self] at hm
 subst hm
 exact (show Tryz.prog.wantsStandIn 24=false by kernel_rfl)
theorem proved:Rows.ResolvePairsUptoCardSaid:=
 Claim7.holds_tied_plain_at .later [] _ _ _ _ said (fun _ h=>by cases h) (by kernel_rfl) (fun _ h=>by cases h) resolvePairsUpto_row_tie rfl ⟨rfl,rfl⟩ (by kernel_rfl) rfl plain (by kernel_rfl)
#print axioms proved
end resolvePairsUpto
end Go.Proofs.YtmaoochjbpohdaaGreatDoor
