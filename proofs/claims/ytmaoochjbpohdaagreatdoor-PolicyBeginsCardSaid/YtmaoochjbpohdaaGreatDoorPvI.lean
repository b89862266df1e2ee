/- parse: a type. -/
import Derived.Test.YtmaoochjbpohdaaGreatDoorPvH
import Derived.Defers
import Derived.Recover
import Derived.Stop.Asserts
set_option linter.unusedVariables false
set_option linter.unusedSimpArgs false
set_option maxRecDepth 100000
set_option maxHeartbeats 1000000
namespace Go.Proofs.YtmaoochjbpohdaaGreatDoor
namespace Pr
open Go.ChangeShapes Go.WideShapes Go.ChangeAt Go.RowKit
open Base Lx Mi Piece
theorem below_ext {B:Nat} {a b:World} (h:Go.RowKit.Below B a b) (hB:a.heap.size≤B):Ext a b:=h.mono hB
theorem gate_none {fuel:Nat} {union:Bool} {ahead:List Nat} {s:PS} {k:Int} {o:Option Nat} (h:gateR fuel union ahead s k o=none):∃f,fuel=f+1∧(k<0∨s.ns.length≤199):=by
 unfold gateR at h
 split at h
 ·cases h
 ·next h1=>exact⟨fuel-1,by omega,by omega⟩
section
variable {B R M:Nat} {vl vn:Value} {vs:List V3} {s:PS}
set_option maxRecDepth 1000000 in
set_option maxHeartbeats 2000000 in
theorem typed_any {deep fuel:Nat} (hdf:deep+fuel=20) (IH:∀f',fuel=f'+1→TypC B R M (deep+1) f'):TypC B R M deep fuel:=by
 intro union ahead A na ca s w vl vn vs h hA hna hna2 hah hB
 obtain⟨q,hq⟩:∃z,Hid (w.heap.size=z):=⟨_,rfl⟩
 obtain⟨w0,hw0⟩:∃z,Hid (w.alloc (.cells #[.pointer (some ⟨R,0,none⟩)] 149)=z):=⟨_,rfl⟩
 have hx0:Ext w w0:=by rw[←hw0.out];exact (Ext.refl w).alloc _
 have hs0:w0.heap.size=q+1:=by rw[←hw0.out,←hq.out];simp
 have hbq0:Blk w0 q #[.pointer (some ⟨R,0,none⟩)] 149:=by rw[←hw0.out,←hq.out];exact Blk.new w _ _
 obtain⟨R0,hR0⟩:∃r,Hid (typedR fuel union ahead s=r):=⟨_,rfl⟩
 rw[hR0.out]
 obtain⟨PO,hPO⟩:∃PO:Ending→World→Prop,Hid ((fun e w'=>PW B R M w vn vs (fun n:Nat=>.int .i64 (n:Int)) R0 e w')=PO):=⟨_,rfl⟩
 rw[hPO.out]
 go_enter Tryz.func123,Tryz.ntmps123
 go_wp2_with fail
 rw[hw0.out,hq.out]
 refine Reg.startX (R:=Go.RowKit.Below (q+1)) (by kernel_rfl) ?_
 generalize hwd:World.drew _=wd
 have hxd:Ext w wd:=by rw[←hwd];exact hx0.drew
 have hbq:Blk wd q #[.pointer (some ⟨R,0,none⟩)] 149:=by rw[←hwd];exact hbq0
 have hsd:wd.heap.size=q+1:=by rw[←hwd];exact hs0
 clear hwd hbq0 hs0 hx0 hw0 w0
 have h1:=h.ext hxd
 obtain⟨tg,off,cap,rfl,hp,hnc,hcm,hh⟩:=h1.head
 obtain⟨t,ht⟩:∃z,Hid (hd s.l=z):=⟨_,rfl⟩
 obtain⟨ln,hln⟩:∃z,Hid (s.l.length=z):=⟨_,rfl⟩
 have htz:=nameR_hd h
 rw[ht.out] at hh htz
 rw[hln.out] at hp hnc
 have hlow:∀ {W},Go.RowKit.Below (q+1) wd W→Ext wd W:=fun hW=>below_ext hW (by omega)
 have cR:∀W,Go.RowKit.Below (q+1) wd W→W.cell? ⟨R,0,none⟩=some (.slice (some ⟨tg,off,none⟩) ln cap):=fun W hW=>by rw[←hln.out];exact (h1.ext (hlow hW)).cells.1
 have cq:∀W,Go.RowKit.Below (q+1) wd W→W.cell? ⟨q,0,none⟩=some (.pointer (some ⟨R,0,none⟩)):=fun W hW=>(hbq.ext (hlow hW)).cell 0
 have k0:∀W,Go.RowKit.Below (q+1) wd W→W.cell? ⟨tg,off,none⟩=some (.int .i64 t.k):=fun W hW=>(hh W (hlow hW)).1
 have k1:∀W,Go.RowKit.Below (q+1) wd W→W.cell? ⟨tg,off+1,none⟩=some (.string t.s):=fun W hW=>(hh W (hlow hW)).2.1
 have k2:∀W,Go.RowKit.Below (q+1) wd W→W.cell? ⟨tg,off+2,none⟩=some (.int .i64 (t.a:Int)):=fun W hW=>(hh W (hlow hW)).2.2
 have hi1:0<ln:=hp
 iterate 7 ((first|refine Reg.un (Reg.rl_below _) ?_|refine Reg.vn (Reg.rl_below _) ?_);(try simp only[Reg.nn]))
 refine Reg.triY 7 8 9 _ _ _ (by omega) rfl rfl rfl rfl rfl rfl (by decide) (by decide) (by decide) (by decide) (by decide) (by decide) rfl rfl rfl (by kernel_rfl) (by kernel_rfl) (by kernel_rfl) (by kernel_rfl) (by kernel_rfl) (by kernel_rfl) (by kernel_rfl) (by decide)
  (fun V X=>∃k:Int,Hid (kindR s=some k)∧V=.int .i64 k)
  (fun V X=>∃p,V=.pointer (some ⟨p,0,none⟩)∧q<p∧Blk X p #[.int .i64 0,.string ByteArray.empty,.int .i64 0] 105)
  (fun V X=>∃p,V=.pointer (some ⟨p,0,none⟩)∧q<p∧Blk X p #[.int .i64 0] 3)
  (fun v w1 w2 h hx=>h) (fun v w1 w2 h hx=>h.imp fun p h=>⟨h.1,h.2.1,h.2.2.ext hx⟩) (fun v w1 w2 h hx=>h.imp fun p h=>⟨h.1,h.2.1,h.2.2.ext hx⟩) ?_ ?_ ?_ ?_
 ·intro u v w1 hx1 K hK
  have hki:=kind_any w1 (h1.ext hx1) (by rw[ht.out];exact Nat.le_trans htz (by omega))
  (try simp only[Reg.nn])
  go_simp
  refine hki.mono ?_
  intro e w2 hpk
  obtain⟨hx2,hcase⟩:=hpk.cases
  rcases hcase with⟨k,hk,rfl⟩|⟨hk,rfl⟩
  ·exact hK.out _ _ hx2 ⟨k,hk,rfl⟩
  ·refine⟨rfl,?_⟩
   rw[←hPO.out]
   exact PW.badI (by rw[←hR0.out,typedR_eq,hk.out];rfl) (by rw[ht.out]) (Chg.ofExt (hxd.trans (hx1.trans hx2)))
 ·intro u v w1 hx1 K hK
  (try simp only[Reg.nn])
  go_simp
  exact hK.out _ _ ((Ext.refl w1).alloc _) ⟨w1.heap.size,rfl,by have:=hx1.size;omega,Blk.new w1 _ _⟩
 ·intro u v w1 hx1 K hK
  (try simp only[Reg.nn])
  go_simp
  exact hK.out _ _ ((Ext.refl w1).alloc _) ⟨w1.heap.size,rfl,by have:=hx1.size;omega,Blk.new w1 _ _⟩
 ·rintro x y z X hX ⟨k,hk,rfl⟩ ⟨p9,rfl,hp9,hb9⟩ ⟨p10,rfl,hp10,hb10⟩
  (try simp only[Reg.nn])
  have g0:X.cell? ⟨p9,0,none⟩=some (.int .i64 0):=hb9.cell 0
  have g1:X.cell? ⟨p9,1,none⟩=some (.string ByteArray.empty):=hb9.cell 1
  have g2:X.cell? ⟨p9,2,none⟩=some (.int .i64 0):=hb9.cell 2
  have g3:=hb9.frozen 0
  have g4:=hb9.frozen 1
  have g5:=hb9.frozen 2
  have g6_:X.cell? ⟨p10,0,none⟩=some (.int .i64 0):=hb10.cell 0
  have g7_:=hb10.frozen 0
  have hne:=blk_ne hb9 hb10 (by decide)
  refine Reg.onlyX 10 _ rfl (by kernel_rfl) (by decide) (by rfl) (fun K hK=>?_)
  go_simp
  refine hK.out _ _ (((Go.RowKit.Below.refl (q+1) X).setCell (by show q+1≤p9;omega) _).setCell (by show q+1≤p9;omega) _ |>.setCell (by show q+1≤p9;omega) _) ?_
  clear hK K
  (try simp only[Reg.nn])
  obtain⟨Y,hY⟩:∃z,Hid (((X.setCell ⟨p9,0,none⟩ (.int .i64 t.k)).setCell ⟨p9,1,none⟩ (.string t.s)).setCell ⟨p9,2,none⟩ (.int .i64 (t.a:Int))=z):=⟨_,rfl⟩
  have hxY:Ext wd Y:=by rw[←hY.out];exact ((hX.setCell (by show wd.heap.size≤p9;omega) _).setCell (by show wd.heap.size≤p9;omega) _).setCell (by show wd.heap.size≤p9;omega) _
  have hb9Y:Blk Y p9 #[.int .i64 t.k,.string t.s,.int .i64 (t.a:Int)] 105:=by rw[←hY.out];exact ((hb9.set 0 _).set 1 _).set 2 _
  have hb10Y:Blk Y p10 #[.int .i64 0] 3:=by rw[←hY.out];exact ((hb10.far (fun e=>hne e.symm) _).far (fun e=>hne e.symm) _).far (fun e=>hne e.symm) _
  rw[hY.out]
  have g6:Y.cell? ⟨p10,0,none⟩=some (.int .i64 0):=hb10Y.cell 0
  have g7:=hb10Y.frozen 0
  clear g0 g1 g2 g3 g4 g5 hb9 hb10 hY hX g6_ g7_ X
  refine Reg.onlyX 11 _ rfl (by kernel_rfl) (by decide) (by rfl) (fun K hK=>?_)
  go_simp
  refine hK.out _ _ ((Go.RowKit.Below.refl (q+1) Y).setCell (by show q+1≤p10;omega) _) ?_
  clear hK K
  (try simp only[Reg.nn])
  refine Reg.finX (by kernel_rfl) ?_
  obtain⟨w3,hw3⟩:∃z,Hid (Y.setCell ⟨p10,0,none⟩ (.int .i64 k)=z):=⟨_,rfl⟩
  have hx3:Ext wd w3:=by rw[←hw3.out];exact hxY.setCell (by show wd.heap.size≤p10;omega) _
  have hb9:Blk w3 p9 #[.int .i64 t.k,.string t.s,.int .i64 (t.a:Int)] 105:=by rw[←hw3.out];exact hb9Y.far hne _
  have hb10:Blk w3 p10 #[.int .i64 k] 3:=by rw[←hw3.out];exact hb10Y.set 0 _
  rw[hw3.out]
  have h3:=h1.ext hx3
  have hbq3:=hbq.ext hx3
  have hxw:=hxd.trans hx3
  clear g6 g7 hxY hb9Y hb10Y hw3 Y cR cq k0 k1 k2 hne hlow h1 hbq hxd hsd hx3
  have cq:∀W,Ext w3 W→W.cell? ⟨q,0,none⟩=some (.pointer (some ⟨R,0,none⟩)):=fun W hW=>(hbq3.ext hW).cell 0
  have cM:∀W,Ext w3 W→W.cell? ⟨R,2,none⟩=some (.map (some M)):=fun W hW=>(h3.ext hW).cells.2.2.1
  have c9:∀W,Ext w3 W→W.cell? ⟨p9,1,none⟩=some (.string t.s):=fun W hW=>(hb9.ext hW).cell 1
  have c10:∀W,Ext w3 W→W.cell? ⟨p10,0,none⟩=some (.int .i64 k):=fun W hW=>(hb10.ext hW).cell 0
  obtain⟨o,ho⟩:∃o,Hid (s.nm t.s=o):=⟨_,rfl⟩
  have hlook:∀W,Ext w3 W→(Instr.lookup 150 (.map (some M)) (.string t.s) true).run Tryz.prog W=.ok (.tuple #[.int .i64 (o.getD 0:Nat),.bool o.isSome]) W:=fun W hW=>by
   obtain⟨cnt,hm,_⟩:=(h3.ext hW).named
   have:=hm.look_ok mt t.s (by unfold maxLen;omega)
   rw[ho.out] at this
   exact this
  go_wp2_with fail
  refine Reg.startE (by kernel_rfl) ?_
  iterate 12 ((first|refine Reg.tn ?_|refine Reg.sn ?_);(try simp only[Reg.nn]))
  refine Reg.fin (by kernel_rfl) (fun W hW=>?_)
  have h4:=h3.ext hW
  have hb4:=hb10.ext hW
  have hbq4:=hbq3.ext hW
  have hx4:Ext w W:=hxw.trans hW
  clear hlook cq cM c9 c10 h3 hb9 hb10 hbq3 hxw
  clear hW w3
  rename World=>w4
  obtain⟨An,cn,rfl,jj1,jj2,jj3,jj4⟩:=Rd.of_own h4.nds.row
  clear jj1 jj2 jj3 jj4
  obtain⟨nn,hnn⟩:∃z,Hid (s.ns.length=z):=⟨_,rfl⟩
  have cq:∀W,Ext w4 W→W.cell? ⟨q,0,none⟩=some (.pointer (some ⟨R,0,none⟩)):=fun W hW=>(hbq4.ext hW).cell 0
  have c10:∀W,Ext w4 W→W.cell? ⟨p10,0,none⟩=some (.int .i64 k):=fun W hW=>(hb4.ext hW).cell 0
  have cN:∀W,Ext w4 W→W.cell? ⟨R,1,none⟩=some (.slice An nn cn):=fun W hW=>by rw[←hnn.out];exact (h4.ext hW).cells.2.1
  have hf:=fun why W (hW:Ext w4 W)=>fail_any why W (h4.ext hW)
  rw[ht.out] at hf
  have hres:R0=match gateR fuel union ahead s k o with
   | some why=>.bad t.a why
   | none=>if k<0 then .ok (o.getD 0) s.on else restR fuel s k:=by
   rw[←hR0.out,typedR_eq,hk.out]
   simp only[failR,ht.out,ho.out]
   all_goals rfl
  have Hres:=Lib.hid hres
  clear hres
  have hbad:∀(why:Nat) W,Ext w4 W→gateR fuel union ahead s k o=some why→PO (.panicked [{ v:=.iface 147 (.agg #[.int .i64 (t.a:Int),.int .i64 (why:Int)]),recovered:=false }]) W:=fun why W hW hg=>by
   rw[←hPO.out]
   exact PW.badI (by rw[Hres.out,hg]) rfl (Chg.ofExt (hx4.trans hW))
  have hvn:=fun k hk=>(h.nds.row.lt k hk).2
  have hqo:=hq.out
  have hcont:=fun (m:Nat)=>contains_int A na ca ahead m w4 (hA.ext hx4) hna (by omega)
  have hcontF:=containsInt_any A na ca ahead k ⟨q,0,none⟩ ⟨p10,0,none⟩ w4 h4 (hA.ext hx4) hna (by omega) hah (cq w4 (Ext.refl _)) (c10 w4 (Ext.refl _))
  have e4:=cq w4 (Ext.refl _)
  have e10:=c10 w4 (Ext.refl _)
  have eN:=cN w4 (Ext.refl _)
  obtain⟨krl,krh⟩:=kindR_rng hk.out
  rename_i K0 hK0
  refine hK0 _ _ ?_
  clear hK0 K0
  refine wp_seq_k (fun K hK=>?_)
  have hT:∀a' W,Ext w4 W→gateR fuel union ahead s k o=none→Fr 138 [.pointer (some ⟨R,0,none⟩),.int .i64 (deep:Int),.bool union,.slice A na ca,.pointer (some ⟨q,0,none⟩),undef,undef,undef,.int .i64 0,.pointer (some ⟨p9,0,none⟩),.pointer (some ⟨p10,0,none⟩),.int .i64 (o.getD 0:Nat),.bool o.isSome] a'→K a' W:=fun a' W hW hg hF=>by
   obtain⟨f,rfl,hn9⟩:=gate_none hg
   refine hK _ _ ?_
   refine typedTail (IH f rfl) (by omega) a' w W q p10 (o.getD 0) k _ _ _ _ _ _ _ _ R0 hF (h4.ext hW) (hbq4.ext hW) (hb4.ext hW) (hx4.trans hW) hB (by omega) (by omega) hvn hk.out (by rw[Hres.out,hg]) hn9 (fun c a a2 w h hd=>⟨hd.trans h.1,h.2⟩) (fun a' w' hd hp=>?_) (fun c a' w' hd hp=>?_)
   ·refine bodyPost_ret (results_tmp rfl _ _ _) hd ?_
    rw[←hPO.out]
    exact hp
   ·refine⟨hd,?_⟩
    rw[←hPO.out]
    exact hp
  clear hK hvn hb4 hbq4 cq c10 cN hqo
  by_cases hf0:fuel=0
  ·have hg:gateR fuel union ahead s k o=some 2:=by simp[gateR,hf0]
   have hdp:(20:Int)≤(deep:Int):=by omega
   go_wp2_with fail
   refine (hf 2 w4 (Ext.refl _)).mono ?_
   rintro e w5 ⟨rfl,rfl⟩
   go_wp2_with fail
   exact⟨rfl,hbad 2 _ (Ext.refl _) hg⟩
  have hdp:¬(20:Int)≤(deep:Int):=by omega
  by_cases hk0:k<0
  ·have hk0':¬(0:Int)≤k:=by omega
   have hk8:(k == 8)=false:=by simpa using (by omega:¬k=8)
   cases o with
   | none=>
    have hg:gateR fuel union ahead s k none=some 5:=by simp[gateR,hf0,hk0,hk0']
    rw[show (none:Option Nat).isSome=false from rfl]
    go_wp2_with fail
    refine (hf 5 w4 (Ext.refl _)).mono ?_
    rintro e w5 ⟨rfl,rfl⟩
    go_wp2_with fail
    exact⟨rfl,hbad 5 _ (Ext.refl _) hg⟩
   | some m=>
    rw[show (some m).isSome=true from rfl,show (some m).getD 0=m from rfl] at *
    cases union with
    | false=>
     have hg:gateR fuel false ahead s k (some m)=none:=by simp[gateR,hf0,hk0,hk0']
     go_wp2_with fail
     exact hT _ _ (Ext.refl _) hg ⟨_,rfl,rfl⟩
    | true=>
     have hcm:=hcont m
     clear hcont hcontF
     have hk08:¬k=8:=by omega
     by_cases hm:(ahead.any fun y=>decide (y=m))=true
     ·have hg:gateR fuel true ahead s k (some m)=some 6:=by
       have hm':m∈ahead:=by simpa using hm
       simp[gateR,hf0,hk0,hk0',hk08,hm']
      rw[hm] at hcm
      go_wp2_with fail
      refine hcm.mono ?_
      rintro e w5 ⟨rfl,rfl⟩
      go_wp2_with fail
      refine (hf 6 w4 (Ext.refl _)).mono ?_
      rintro e w5 ⟨rfl,rfl⟩
      go_wp2_with fail
      exact⟨rfl,hbad 6 _ (Ext.refl _) hg⟩
     ·have hg:gateR fuel true ahead s k (some m)=none:=by
       have hm':¬m∈ahead:=by simpa using hm
       simp[gateR,hf0,hk0,hk0',hk08,hm']
      rw[(Bool.not_eq_true _).mp hm] at hcm
      go_wp2_with fail
      refine hcm.mono ?_
      rintro e w5 ⟨rfl,rfl⟩
      go_wp2_with fail
      exact hT _ _ (Ext.refl _) hg ⟨_,rfl,rfl⟩
  ·have hk0':(0:Int)≤k:=by omega
   by_cases h200:200≤s.ns.length
   ·have hg:gateR fuel union ahead s k o=some 2:=by simp[gateR,h200,hk0']
    have hnI:(200:Int)≤(nn:Int):=by have:=hnn.out;omega
    go_wp2_with fail
    refine (hf 2 w4 (Ext.refl _)).mono ?_
    rintro e w5 ⟨rfl,rfl⟩
    go_wp2_with fail
    exact⟨rfl,hbad 2 _ (Ext.refl _) hg⟩
   ·have hnI:¬(200:Int)≤(nn:Int):=by have:=hnn.out;omega
    cases union with
    | false=>
     have hg:gateR fuel false ahead s k o=none:=by simp[gateR,hf0,hk0,h200]
     go_wp2_with fail
     exact hT _ _ (Ext.refl _) hg ⟨_,rfl,rfl⟩
    | true=>
     clear hcont
     by_cases hk8:k=8
     ·have hg:gateR fuel true ahead s k o=some 4:=by simp[gateR,hf0,hk8,h200]
      have hk8b:(k == 8)=true:=by simpa using hk8
      go_wp2_with fail
      refine (hf 4 w4 (Ext.refl _)).mono ?_
      rintro e w5 ⟨rfl,rfl⟩
      go_wp2_with fail
      exact⟨rfl,hbad 4 _ (Ext.refl _) hg⟩
     have hk8b:(k == 8)=false:=by simpa using hk8
     by_cases hk9:k<9
     ·obtain⟨AN,hAN⟩:∃z,Hid ((ahead.any fun m=>decide ((s.ns[m]?.map (·.k))=some k))=z):=⟨_,rfl⟩
      rw[hAN.out] at hcontF
      cases AN with
      | true=>
       have hg:gateR fuel true ahead s k o=some 6:=by
        rw[gateR,if_neg (by omega),if_neg (by omega),if_neg (by simp[hk8]),if_neg (by omega),if_pos ⟨rfl,hk0',hk9,hAN.out⟩]
       go_wp2_with fail
       refine hcontF.mono ?_
       rintro e w5 ⟨rfl,hx5⟩
       have e45:=hx5.cell e4
       have e105:=hx5.cell e10
       go_wp2_with fail
       refine (hf 6 w5 hx5).mono ?_
       rintro e w6 ⟨rfl,rfl⟩
       go_wp2_with fail
       exact⟨rfl,hbad 6 _ hx5 hg⟩
      | false=>
       have hg:gateR fuel true ahead s k o=none:=by
        rw[gateR,if_neg (by omega),if_neg (by omega),if_neg (by simp[hk8]),if_neg (by omega),if_neg (by rw[hAN.out];simp)]
       go_wp2_with fail
       refine hcontF.mono ?_
       rintro e w5 ⟨rfl,hx5⟩
       have e45:=hx5.cell e4
       have e105:=hx5.cell e10
       go_wp2_with fail
       exact hT _ _ hx5 hg ⟨_,rfl,rfl⟩
     ·have hg:gateR fuel true ahead s k o=none:=by
       rw[gateR,if_neg (by omega),if_neg (by omega),if_neg (by simp[hk8]),if_neg (by omega),if_neg (by omega)]
      go_wp2_with fail
      exact hT _ _ (Ext.refl _) hg ⟨_,rfl,rfl⟩
theorem typed_all:∀(fuel deep:Nat),deep+fuel=20→TypC B R M deep fuel
 | 0,deep,h=>typed_any h (fun f' e=>by cases e)
 | f+1,deep,h=>typed_any h (fun f' e=>by injection e with e;subst e;exact typed_all f (deep+1) (by omega))
end
theorem tokG_ok (s:ByteArray):∀(f a:Nat),a≤s.size→s.size<a+f→TokOk (tokG s f a)
 | 0,a,h,h2=>by omega
 | f+1,a,h,h2=>by
  by_cases ha:a<s.size
  ·rw[tokG_step s f a ha]
   have h1:=lenAt_pos s a ha
   have h3:=skp_ge s (a+lenAt s a)
   obtain⟨pre,e,h4,h5⟩:=tokG_ok s f (skp s (a+lenAt s a)) (skp_le s _ (lenAt_le s a ha)) (by omega)
   exact⟨tokAt s a::pre,e,by rw[h4];rfl,h5⟩
  ·rw[tokG_end s f a ha]
   exact⟨[],_,rfl,rfl⟩
theorem toks_ok (s:ByteArray):TokOk (toks s):=tokG_ok s _ _ (skp_le s 0 (Nat.zero_le _)) (by omega)
theorem tokG_ts (s:ByteArray):∀(f a:Nat),∀t∈tokG s f a,t.s.size≤s.size
 | 0,a,t,h=>by cases h
 | f+1,a,t,h=>by
  rw[tokG] at h
  split at h
  ·rcases List.mem_cons.1 h with rfl|h
   ·simp only[tokAt,ByteArray.size_extract];omega
   ·exact tokG_ts s f _ t h
  ·rw[List.mem_singleton] at h;subst h;exact Nat.zero_le _
theorem words_ok {s:ByteArray} (h:words s=none):s.size≤4096∧(toks s).length≤1500∧∀t∈toks s,t.s.size≤4096:=by
 unfold words at h
 split at h
 ·cases h
 ·next hs=>
  refine⟨by omega,by have:=wordsR_len _ _ (by omega) h;omega,fun t ht=>?_⟩
  have:=tokG_ts s _ _ t ht
  omega
theorem catch_stop (a2 a3 a4:Nat) (x2 x3 x4:Value) (at_ why:Nat) (w:World) (h2:Blk w a2 #[x2] 24) (h3:Blk w a3 #[x3] 3) (h4:Blk w a4 #[x4] 25) :
  CallsD Tryz.prog 122 #[.pointer (some ⟨a2,0,none⟩),.pointer (some ⟨a3,0,none⟩),.pointer (some ⟨a4,0,none⟩)] (.panicking [{ v:=.iface 147 (.agg #[.int .i64 (at_:Int),.int .i64 (why:Int)]),recovered:=false }]) w fun e u' w'=>
   e=.returned (.tuple #[])∧u'=.panicking [{ v:=.iface 147 (.agg #[.int .i64 (at_:Int),.int .i64 (why:Int)]),recovered:=true }]∧Chg (fun k=>k=a2∨k=a3∨k=a4) w w'∧Blk w' a2 #[.slice none 0 0] 24∧Blk w' a3 #[.int .i64 (at_:Int)] 3∧Blk w' a4 #[.int .i64 (why:Int)] 25:=by
 have hta:∀(W:World) (v:Value),(Instr.typeAssert (.iface 147 v) 20 147 true).run Tryz.prog W=.ok (.tuple #[v,.bool true]) W:=fun _ _=>by kernel_rfl
 have hrl:=Reg.rl_chg (fun k=>k=a2∨k=a3∨k=a4)
 have n23:¬a2=a3:=blk_ne h2 h3 (by decide)
 have n24:¬a2=a4:=blk_ne h2 h4 (by decide)
 have n34:¬a3=a4:=blk_ne h3 h4 (by decide)
 refine callsD_of_wpS Tryz.func122 rfl fun c₀ cs hu=>?_
 simp only[Tryz.ntmps122,List.size_toArray,List.length_cons,List.length_nil,Nat.reduceAdd,Nat.reduceSub,Array.replicate_succ,Array.replicate_zero,List.push_toArray,List.append_toArray,List.nil_append,List.cons_append]
 apply wpS_seq
 apply wpS_region
 simp[wpOpsS,go_sem,recoverD,hu,Exit.thenS]
 have l2:=h2.lt
 have l3:=h3.lt
 have l4:=h4.lt
 refine wpS_of_wp ?_
 go_wp2_with fail
 rename_i Q'
 have hP:∀(c:List PanicEntry) (a a2:Act) (w:World),Q' (.panic c) a w→∀(hd:a2.defers=a.defers:=by rfl),Q' (.panic c) a2 w:=fun c a a2 w h hd=>⟨hd.trans h.1,h.2⟩
 have hRl:=Reg.rl_chg (fun k=>k=a2∨k=a3∨k=a4)
 obtain⟨wq,hwq⟩:∃z,Hid (w.alloc (.cells #[.int .i64 (at_:Int),.int .i64 (why:Int)] 147)=z):=⟨_,rfl⟩
 obtain⟨q,hq⟩:∃z,Hid (w.heap.size=z):=⟨_,rfl⟩
 have hxq:Ext w wq:=by rw[←hwq.out];exact (Ext.refl w).alloc _
 have hbq:Blk wq q #[.int .i64 (at_:Int),.int .i64 (why:Int)] 147:=by rw[←hwq.out,←hq.out];exact Blk.new w _ _
 rw[hwq.out,hq.out]
 refine Reg.startX (R:=Chg (fun k=>k=a2∨k=a3∨k=a4)) (by kernel_rfl) ?_
 generalize hwd:World.drew _=wd
 have hxd:Ext w wd:=by rw[←hwd];exact hxq.drew
 have hbd:Blk wd q #[.int .i64 (at_:Int),.int .i64 (why:Int)] 147:=by rw[←hwd];exact hbq
 have hqn:¬(q=a2∨q=a3∨q=a4):=by have:=hq.out;omega
 have k0:∀W,Chg (fun k=>k=a2∨k=a3∨k=a4) wd W→W.cell? ⟨q,0,none⟩=some (.int .i64 (at_:Int)):=fun W hW=>(hW.blk hbd hqn).cell 0
 have k1:∀W,Chg (fun k=>k=a2∨k=a3∨k=a4) wd W→W.cell? ⟨q,1,none⟩=some (.int .i64 (why:Int)):=fun W hW=>(hW.blk hbd hqn).cell 1
 have e2:=(h2.ext hxd)
 have e3:=(h3.ext hxd)
 have e4:=(h4.ext hxd)
 have d2:Blk (wd.setCell ⟨a2,0,none⟩ (.slice none 0 0)) a2 #[.slice none 0 0] 24:=e2.set 0 _
 have d3:=e3.far (p:=⟨a2,0,none⟩) (fun e=>n23 e.symm) (.slice none 0 0)
 have d4:=e4.far (p:=⟨a2,0,none⟩) (fun e=>n24 e.symm) (.slice none 0 0)
 have d22:=d2.far (p:=⟨a3,0,none⟩) n23 (.int .i64 (at_:Int))
 have d33:Blk ((wd.setCell ⟨a2,0,none⟩ (.slice none 0 0)).setCell ⟨a3,0,none⟩ (.int .i64 (at_:Int))) a3 #[.int .i64 (at_:Int)] 3:=d3.set 0 _
 have d44:=d4.far (p:=⟨a3,0,none⟩) (fun e=>n34 e.symm) (.int .i64 (at_:Int))
 have d222:=d22.far (p:=⟨a4,0,none⟩) n24 (.int .i64 (why:Int))
 have d333:=d33.far (p:=⟨a4,0,none⟩) n34 (.int .i64 (why:Int))
 have d444:Blk (((wd.setCell ⟨a2,0,none⟩ (.slice none 0 0)).setCell ⟨a3,0,none⟩ (.int .i64 (at_:Int))).setCell ⟨a4,0,none⟩ (.int .i64 (why:Int))) a4 #[.int .i64 (why:Int)] 25:=d44.set 0 _
 have c2:=e2.cell 0
 have f2:=e2.frozen 0
 have c3:=d3.cell 0
 have f3:=d3.frozen 0
 have c4:=d44.cell 0
 have f4:=d44.frozen 0
 have hch:Chg (fun k=>k=a2∨k=a3∨k=a4) w (((wd.setCell ⟨a2,0,none⟩ (.slice none 0 0)).setCell ⟨a3,0,none⟩ (.int .i64 (at_:Int))).setCell ⟨a4,0,none⟩ (.int .i64 (why:Int))):=(((Chg.ofExt hxd).set (p:=⟨a2,0,none⟩) (.inl (.inl rfl)) _).set (p:=⟨a3,0,none⟩) (.inl (.inr (.inl rfl))) _).set (p:=⟨a4,0,none⟩) (.inl (.inr (.inr rfl))) _
 iterate 2 ((first|refine Reg.un hRl ?_|refine Reg.vn hRl ?_);(try simp only[Reg.nn]))
 refine Reg.tx hRl 2 ?_;(try simp only[Reg.nn])
 refine Reg.tx hRl 3 ?_;(try simp only[Reg.nn])
 refine Reg.tx hRl 4 ?_;(try simp only[Reg.nn])
 refine Reg.onlyX 5 _ rfl (by kernel_rfl) (by decide) (by rfl) (fun K hK=>?_);go_simp
 refine hK.out _ _ ((Chg.refl _ _).set (.inl (.inl rfl)) _) ?_;clear hK K;(try simp only[Reg.nn])
 refine Reg.onlyX 6 _ rfl (by kernel_rfl) (by decide) (by rfl) (fun K hK=>?_);go_simp
 refine hK.out _ _ ((Chg.refl _ _).set (.inl (.inr (.inl rfl))) _) ?_;clear hK K;(try simp only[Reg.nn])
 refine Reg.onlyX 7 _ rfl (by kernel_rfl) (by decide) (by rfl) (fun K hK=>?_);go_simp
 refine hK.out _ _ ((Chg.refl _ _).set (.inl (.inr (.inr rfl))) _) ?_;clear hK K;(try simp only[Reg.nn])
 refine Reg.finX (by kernel_rfl) ?_
 show bodyPostS _ _ _ _ _ _ _ _ _
 refine⟨rfl,_,rfl,_,results_none rfl _ _ _,rfl,rfl,hch,d222,d333,d444⟩
theorem catch_idle (a2 a3 a4:Nat) (w:World) :
  CallsD Tryz.prog 122 #[.pointer (some ⟨a2,0,none⟩),.pointer (some ⟨a3,0,none⟩),.pointer (some ⟨a4,0,none⟩)] .returning w fun e u' w'=>e=.returned (.tuple #[])∧u'=.returning∧w=w':=by
 refine callsD_of_wpS Tryz.func122 rfl fun c₀ cs hu=>?_
 simp only[Tryz.ntmps122,List.size_toArray,List.length_cons,List.length_nil,Nat.reduceAdd,Nat.reduceSub,Array.replicate_succ,Array.replicate_zero,List.push_toArray,List.append_toArray,List.nil_append,List.cons_append]
 apply wpS_seq
 apply wpS_region
 simp[wpOpsS,go_sem,recoverD,hu,Exit.thenS]
 refine wpS_of_wp ?_
 go_wp2_with fail
 refine⟨rfl,.returning,?_,_,results_none rfl _ _ _,rfl,rfl,rfl⟩
 cases c₀
 simp_all
theorem wordsR_er:∀(l:List Tok) (n:Nat) {p er:Int},wordsR l n=some (p,er)→er=4∨er=2
 | [],n,p,er,h=>by cases h
 | x::l,n,p,er,h=>by
  rw[wordsR] at h
  split at h
  ·injection h with h;injection h with h1 h2;exact .inl h2.symm
  ·split at h
   ·injection h with h;injection h with h1 h2;exact .inr h2.symm
   ·exact wordsR_er l _ h
theorem words_er {s:ByteArray} {p er:Int} (h:words s=some (p,er)):er=4∨er=2:=by
 unfold words at h
 split at h
 ·injection h with h;injection h with h1 h2;exact .inr h2.symm
 ·exact wordsR_er _ _ h
def PP (r:List Nd×Int×Int) (w:World) (e:Ending) (w':World):Prop:=∃v vs,e=.returned (.tuple #[.agg #[v],.int .i64 r.2.1,.int .i64 r.2.2])∧Nds w.heap.size w' r.1 vs v∧Ext w w'
theorem nds_nil (B:Nat) (w:World):Nds B w [] [] (.slice none 0 0):=⟨rfl,World.ownsRow_nil _ _ _ _,fun i d v h=>by simp at h⟩
theorem Sub.mono {B B':Nat} {w:World} {d:Nd} {v:V3} (h:Sub B w d v) (hB:B'≤B):Sub B' w d v:=⟨own_mono h.syms hB,own_mono h.items hB,own_mono h.fields hB⟩
theorem Nds.mono {B B':Nat} {w:World} {ns:List Nd} {vs:List V3} {vn:Value} (h:Nds B w ns vs vn) (hB:B'≤B):Nds B' w ns vs vn:=⟨h.len,own_mono h.row hB,fun i d v h1 h2=>(h.sub i d v h1 h2).mono hB⟩
theorem Nds.low {B:Nat} {w w':World} {ns:List Nd} {vs:List V3} {vn:Value} {S:Nat→Prop} (h:Nds B w ns vs vn) (hc:Chg S w w') (hS:∀k,S k→k<B):Nds B w' ns vs vn:=by
 have q:∀ {e:TypeId} {size n:Nat} {v:Value} {xs:List Value},w.ownsRow B e size v n xs→∀k,v.ownBlock=some k→¬S k:=fun ho k hk e=>by
  have:=(ho.lt k hk).1;have:=hS k e;omega
 exact⟨h.len,own_chg h.row hc (q h.row),fun i d v h1 h2=>by
  have hs:=h.sub i d v h1 h2
  exact hs.chg hc (q hs.syms) (q hs.items) (q hs.fields)⟩
theorem resP {w:World} {tmps:Array Value} {a b c:Nat} {u v x:Value} (ha:tmps[2]?.getD undef=.pointer (some ⟨a,0,none⟩)) (hb:tmps[3]?.getD undef=.pointer (some ⟨b,0,none⟩)) (hc:tmps[4]?.getD undef=.pointer (some ⟨c,0,none⟩))
  (h1:w.cell? ⟨a,0,none⟩=some u) (h2:w.cell? ⟨b,0,none⟩=some v) (h3:w.cell? ⟨c,0,none⟩=some x):(results Tryz.f105 tmps).run Tryz.prog w=.ok (.tuple #[.agg #[u],v,x]) w:=by
 simp[results,Tryz.f105,go_sem,ha,hb,hc,h1,h2,h3]
theorem hne3 {w:World} {v:Value} {s:ByteArray} {g:Nat} {u:Value} {t:TypeId} (h:Rt w v (toks s)) (hb:Blk w g #[u] t):∀u2,Rt (w.setCell ⟨g,0,none⟩ u2) v (toks s):=fun u2=>by
 obtain⟨g',cap,rfl,hc,h1,h2⟩:=h
 refine⟨g',cap,rfl,fun j x hj=>?_,h1,h2⟩
 have hne:¬g'=g:=fun e=>by
  subst e
  have hp:=(toks_ok s).pos
  obtain⟨t,l,e⟩:∃t l,toks s=t::l:=by
   cases h:toks s with
   | nil=>rw[h] at hp;simp at hp
   | cons t l=>exact⟨t,l,rfl⟩
  have:=hc 1 (.string t.s) (by rw[e];rfl)
  rw[hb.cell 1] at this
  simp at this
 exact (Chg.one w g 0 u2).cell (hc j x hj) hne
theorem rs_new {w3:World} {v:Value} {s:ByteArray} (hrt:Rt w3 v (toks s)) (hw:words s=none) (hwd:Wd w3) (h0:1<w3.heap.size) :
  Rs w3.heap.size ((w3.alloc (.map #[] 0)).alloc (.cells #[v,.slice none 0 0,.map (some w3.heap.size)] 152)) (w3.heap.size+1) w3.heap.size v (.slice none 0 0) [] ⟨toks s,[],fun _=>none⟩:=by
 obtain⟨hs,hl,hts⟩:=words_ok hw
 obtain⟨g,cap,rfl,hc,h1,h2⟩:=hrt
 have hx:Ext w3 ((w3.alloc (.map #[] 0)).alloc (.cells #[.slice (some ⟨g,0,none⟩) (toks s).length cap,.slice none 0 0,.map (some w3.heap.size)] 152)):=((Ext.refl w3).alloc _).alloc _
 have hp:=(toks_ok s).pos
 have hg:g<w3.heap.size:=by
  obtain⟨t,l,e⟩:∃t l,toks s=t::l:=by
   cases h:toks s with
   | nil=>rw[h] at hp;simp at hp
   | cons t l=>exact⟨t,l,rfl⟩
  have:=hc 0 (.int .i64 t.k) (by rw[e];rfl)
  exact World.block_lt_of_cell? w3 ⟨g,0,none⟩ this
 have hb:=Blk.new (w3.alloc (.map #[] 0)) #[.slice (some ⟨g,0,none⟩) (toks s).length cap,.slice none 0 0,.map (some w3.heap.size)] 152
 rw[show (w3.alloc (.map #[] 0)).heap.size=w3.heap.size+1 by simp] at hb
 refine⟨hb,⟨g,0,cap,rfl,Rd.ext (fun _=>⟨g,0,rfl,fun j u hj=>by rw[Nat.zero_add];exact hc j u hj⟩) hx,h1,h2,hg⟩,nds_nil _ _,⟨0,(MapU.made _ _ _ w3).alloc _,by show 0+(toks s).length≤_;omega⟩,(fun x n h=>(by cases h)),toks_ok s,(show (toks s).length≤2000 by omega),hts,Nat.zero_le _,(by omega),Nat.le_refl _,hwd.ext hx,h0⟩
theorem parsed_any (s:ByteArray) (hs:s.size≤140737488351232) (w:World) (hwd:Wd w) (h0:1<w.heap.size):Calls Tryz.prog 105 #[.string s] w fun e w'=>PP (parseP s) w e w':=by
 have hmf:∀(fn:Fn) (first cap:Array Value) (w:World),(Instr.makeFunc fn first cap).run Tryz.prog w=.ok (.func fn first cap) w:=fun _ _ _ _=>rfl
 obtain⟨r,hr⟩:∃z,Hid (parseP s=z):=⟨_,rfl⟩
 rw[hr.out]
 obtain⟨PO,hPO⟩:∃PO:Ending→World→Prop,Hid ((fun e w'=>PP r w e w')=PO):=⟨_,rfl⟩
 rw[hPO.out]
 obtain⟨a,ha⟩:∃z,Hid (w.heap.size=z):=⟨_,rfl⟩
 obtain⟨w1,hw1⟩:∃z,Hid (((w.alloc (.cells #[.slice none 0 0] 24)).alloc (.cells #[.int .i64 0] 3)).alloc (.cells #[.int .i64 0] 25)=z):=⟨_,rfl⟩
 have hx1:Ext w w1:=by rw[←hw1.out];exact (((Ext.refl w).alloc _).alloc _).alloc _
 have hs1:w1.heap.size=a+3:=by rw[←hw1.out,←ha.out];simp
 have h2:Blk w1 a #[.slice none 0 0] 24:=by rw[←hw1.out,←ha.out];exact ((Blk.new w _ _).alloc _).alloc _
 have h3:Blk w1 (a+1) #[.int .i64 0] 3:=by rw[←hw1.out,←ha.out];have:=(Blk.new (w.alloc (.cells #[.slice none 0 0] 24)) #[.int .i64 0] 3).alloc (.cells #[.int .i64 0] 25);simpa using this
 have h4:Blk w1 (a+1+1) #[.int .i64 0] 25:=by rw[←hw1.out,←ha.out];have:=Blk.new ((w.alloc (.cells #[.slice none 0 0] 24)).alloc (.cells #[.int .i64 0] 3)) #[.int .i64 0] 25;simpa using this
 have hwo:=words_any s hs w1
 go_enter_defers Tryz.func105,Tryz.ntmps105
 go_wp2_with fail
 rw[hw1.out,ha.out]
 refine hwo.mono ?_
 rintro e w2 ⟨v,p,er,rfl,hcase,hx2⟩
 have g2:=h2.ext hx2
 have g3:=h3.ext hx2
 have g4:=h4.ext hx2
 have c3:=g3.cell 0
 have f3:=g3.frozen 0
 rcases hcase with⟨hw,rfl⟩|⟨hw,rfl,rfl,hrt⟩
 ·have hrr:r=([],p,er):=by rw[←hr.out,parseP,hw]
  have hne:(er != 0)=true:=by rcases words_er hw with rfl|rfl<;>rfl
  have Hw:=Lib.hid hw
  clear hw
  go_wp2_with fail
  have n23:¬a=a+1:=by omega
  have n24:¬a=a+1+1:=by omega
  have n34:¬a+1=a+1+1:=by omega
  obtain⟨wd,hwd2⟩:∃z,Hid (w2.setCell ⟨a+1,0,none⟩ (.int .i64 p)=z):=⟨_,rfl⟩
  have hxd:Ext w wd:=by rw[←hwd2.out];exact (hx1.trans hx2).setCell (by show w.heap.size≤a+1;have:=ha.out;omega) _
  have e2:Blk wd a #[.slice none 0 0] 24:=by rw[←hwd2.out];exact g2.far (p:=⟨a+1,0,none⟩) n23 _
  have e3:Blk wd (a+1) #[.int .i64 p] 3:=by rw[←hwd2.out];exact g3.set 0 _
  have e4:Blk wd (a+1+1) #[.int .i64 0] 25:=by rw[←hwd2.out];exact g4.far (p:=⟨a+1,0,none⟩) (fun e=>n34 e.symm) _
  rw[hwd2.out]
  clear g2 g3 g4 c3 f3
  have d2:Blk (wd.setCell ⟨a,0,none⟩ (.slice none 0 0)) a #[.slice none 0 0] 24:=e2.set 0 _
  have d3:=e3.far (p:=⟨a,0,none⟩) (fun e=>n23 e.symm) (.slice none 0 0)
  have d4:=e4.far (p:=⟨a,0,none⟩) (fun e=>n24 e.symm) (.slice none 0 0)
  have d22:=d2.far (p:=⟨a+1,0,none⟩) n23 (.int .i64 p)
  have d33:Blk ((wd.setCell ⟨a,0,none⟩ (.slice none 0 0)).setCell ⟨a+1,0,none⟩ (.int .i64 p)) (a+1) #[.int .i64 p] 3:=d3.set 0 _
  have d44:=d4.far (p:=⟨a+1,0,none⟩) (fun e=>n34 e.symm) (.int .i64 p)
  have d222:=d22.far (p:=⟨a+1+1,0,none⟩) n24 (.int .i64 er)
  have d333:=d33.far (p:=⟨a+1+1,0,none⟩) n34 (.int .i64 er)
  have d444:Blk (((wd.setCell ⟨a,0,none⟩ (.slice none 0 0)).setCell ⟨a+1,0,none⟩ (.int .i64 p)).setCell ⟨a+1+1,0,none⟩ (.int .i64 er)) (a+1+1) #[.int .i64 er] 25:=d44.set 0 _
  have c2:wd.cell? ⟨a,0,none⟩=some (.slice none 0 0):=e2.cell 0
  have f2:=e2.frozen 0
  have c33:wd.cell? ⟨a+1,0,none⟩=some (.int .i64 p):=e3.cell 0
  have c3:(wd.setCell ⟨a,0,none⟩ (.slice none 0 0)).cell? ⟨a+1,0,none⟩=some (.int .i64 p):=d3.cell 0
  have f3:=d3.frozen 0
  have c4:((wd.setCell ⟨a,0,none⟩ (.slice none 0 0)).setCell ⟨a+1,0,none⟩ (.int .i64 p)).cell? ⟨a+1+1,0,none⟩=some (.int .i64 0):=d44.cell 0
  have f4:=d44.frozen 0
  have hxF:Ext w (((wd.setCell ⟨a,0,none⟩ (.slice none 0 0)).setCell ⟨a+1,0,none⟩ (.int .i64 p)).setCell ⟨a+1+1,0,none⟩ (.int .i64 er)):=((hxd.setCell (by show w.heap.size≤a;have:=ha.out;omega) _).setCell (by show w.heap.size≤a+1;have:=ha.out;omega) _).setCell (by show w.heap.size≤a+1+1;have:=ha.out;omega) _
  go_region
  all_goals
   go_wp2_with fail
   refine⟨_,resP rfl rfl rfl (d222.drew.cell 0) (d333.drew.cell 0) (d444.drew.cell 0),?_⟩
   rw[←hPO.out,hrr]
   exact⟨_,_,rfl,nds_nil _ _,hxF.drew⟩
 ·have n1:=hne3 hrt g3 (.int .i64 0)
  obtain⟨w3,hw3⟩:∃z,Hid (w2.setCell ⟨a+1,0,none⟩ (.int .i64 0)=z):=⟨_,rfl⟩
  rw[hw3.out] at n1
  have hs2:=hx2.size
  have hs3:w3.heap.size=w2.heap.size:=by rw[←hw3.out];simp
  have hch3:Chg (fun k=>k=a+1) w2 w3:=by rw[←hw3.out];exact Chg.one w2 (a+1) 0 _
  have hx3:Ext w w3:=by rw[←hw3.out];exact (hx1.trans hx2).setCell (by show w.heap.size≤a+1;have:=ha.out;omega) _
  have e2:Blk w3 a #[.slice none 0 0] 24:=hch3.blk g2 (by omega)
  have e3:Blk w3 (a+1) #[.int .i64 0] 3:=by rw[←hw3.out];exact g3.set 0 _
  have e4:Blk w3 (a+1+1) #[.int .i64 0] 25:=hch3.blk g4 (by omega)
  have hrs:=rs_new n1 hw (hwd.ext hx3) (by omega)
  obtain⟨tg,cap,rfl,hrt1,hrt2,hrt3⟩:=hrt
  clear hrt1 hrt2 hrt3 n1
  have hT:=typed_all (B:=w3.heap.size) (R:=w3.heap.size+1) (M:=w3.heap.size) 20 0 rfl false [] none 0 0 _ _ _ _ _ hrs (Rd.nil _ _) rfl (by omega) (by simp) (by simp;omega)
  rw[show ((0:Nat):Int)=0 from rfl] at hT
  obtain⟨ln,hln⟩:∃z,Hid ((toks s).length=z):=⟨_,rfl⟩
  rw[hln.out,hs3] at hT hrs
  rw[hln.out]
  have hmm:=@run_makeMap Tryz.prog
  have hrr:r=match typedR 20 false [] ⟨toks s,[],fun _=>none⟩ with
   | .bad a w=>([],(a:Int),(w:Int))
   | .ok _ s'=>if (hd s'.l).k≠3 then ([],((hd s'.l).a:Int),4) else (s'.ns,0,0):=by rw[←hr.out,parseP,hw];rfl
  have Hrr:=Lib.hid hrr
  clear hrr hw
  go_wp2_with fail
  rw[hw3.out]
  refine hT.mono ?_
  intro e w6 hpw
  have hnil:∀k,Wr (w2.heap.size+1) w2.heap.size (.slice none 0 0) k→w2.heap.size≤k:=by
   rintro k (e|e|e)
   ·omega
   ·omega
   ·cases e
  have hx5:Ext w3 ((w3.alloc (.map #[] 0)).alloc (.cells #[.slice (some ⟨tg,0,none⟩) ln cap,.slice none 0 0,.map (some w2.heap.size)] 152)):=((Ext.refl w3).alloc _).alloc _
  obtain⟨S3,hS3⟩:∃S:Nat→Prop,S=fun k=>k=a∨k=a+1∨k=a+1+1:=⟨_,rfl⟩
  have hfin:∀(w6:World),Chg (Wr (w2.heap.size+1) w2.heap.size (.slice none 0 0)) ((w3.alloc (.map #[] 0)).alloc (.cells #[.slice (some ⟨tg,0,none⟩) ln cap,.slice none 0 0,.map (some w2.heap.size)] 152)) w6→Ext w3 w6:=fun w6 hc=>by
   have:=(Chg.ofExt (S:=fun _=>False) hx5).trans hc (fun i hi e=>by have:=hnil i e;omega)
   exact this.toExt (fun _ _ e=>e)
  rcases hpw.cases with⟨n,s6,vl6,vn6,vs6,hr6,rfl,hc6,h6,hf6,hg6⟩|⟨at_,why,hr6,rfl,hc6⟩
  ·have hx6:=hfin _ hc6
   obtain⟨An,cn,rfl,jj1,jj2,jj3,jj4⟩:=Rd.of_own h6.nds.row
   clear jj1 jj2 jj3 jj4
   have hrr:r=if (hd s6.l).k≠3 then ([],((hd s6.l).a:Int),4) else (s6.ns,0,0):=by rw[Hrr.out,hr6.out]
   clear Hrr
   have Hrr:=Lib.hid hrr
   clear hrr hT hpw
   have i2:=e2.ext hx6
   have i3:=e3.ext hx6
   have i4:=e4.ext hx6
   have hfail:=fail_any 4 w6 h6
   obtain⟨tg6,off6,cap6,rfl,hp6,hnc6,hcm6,hh6⟩:=h6.head
   obtain⟨c60,c61,c62,f60,f61⟩:=h6.cells
   obtain⟨k60,k61,k62⟩:=hh6 w6 (Ext.refl _)
   obtain⟨t,ht⟩:∃z,Hid (hd s6.l=z):=⟨_,rfl⟩
   rw[ht.out] at k60 k61 k62 hfail
   obtain⟨l6,hl6⟩:∃z,Hid (s6.l.length=z):=⟨_,rfl⟩
   rw[hl6.out] at c60 hp6 hnc6
   obtain⟨nn,hnn⟩:∃z,Hid (s6.ns.length=z):=⟨_,rfl⟩
   have hnds:=h6.nds
   rw[hnn.out] at c61 hnds
   have hp6':(0:Int)<(l6:Int):=by omega
   by_cases hk:t.k=3
   ·have hk1:((t.k:Int) != 3)=false:=by simpa using hk
    have hrr:r=(s6.ns,0,0):=by rw[Hrr.out,ht.out,if_neg (by simp[hk])]
    have j2:w6.cell? ⟨a,0,none⟩=some (.slice none 0 0):=i2.cell 0
    have g2':=i2.frozen 0
    have m2:Blk (w6.setCell ⟨a,0,none⟩ (.slice An nn cn)) a #[(.slice An nn cn)] 24:=i2.set 0 _
    have m3:=i3.far (p:=⟨a,0,none⟩) (by show ¬a+1=a;omega) (.slice An nn cn)
    have m4:=i4.far (p:=⟨a,0,none⟩) (by show ¬a+1+1=a;omega) (.slice An nn cn)
    have j3:(w6.setCell ⟨a,0,none⟩ (.slice An nn cn)).cell? ⟨a+1,0,none⟩=some (.int .i64 0):=m3.cell 0
    have g3':=m3.frozen 0
    have n2:=m2.far (p:=⟨a+1,0,none⟩) (by show ¬a=a+1;omega) (.int .i64 0)
    have n3:Blk ((w6.setCell ⟨a,0,none⟩ (.slice An nn cn)).setCell ⟨a+1,0,none⟩ (.int .i64 0)) (a+1) #[.int .i64 0] 3:=m3.set 0 _
    have n4:=m4.far (p:=⟨a+1,0,none⟩) (by show ¬a+1+1=a+1;omega) (.int .i64 0)
    have j4:((w6.setCell ⟨a,0,none⟩ (.slice An nn cn)).setCell ⟨a+1,0,none⟩ (.int .i64 0)).cell? ⟨a+1+1,0,none⟩=some (.int .i64 0):=n4.cell 0
    have g4':=n4.frozen 0
    have o2:=n2.far (p:=⟨a+1+1,0,none⟩) (by show ¬a=a+1+1;omega) (.int .i64 0)
    have o3:=n3.far (p:=⟨a+1+1,0,none⟩) (by show ¬a+1=a+1+1;omega) (.int .i64 0)
    have o4:Blk (((w6.setCell ⟨a,0,none⟩ (.slice An nn cn)).setCell ⟨a+1,0,none⟩ (.int .i64 0)).setCell ⟨a+1+1,0,none⟩ (.int .i64 0)) (a+1+1) #[.int .i64 0] 25:=n4.set 0 _
    have hch:Chg S3 w6 (((w6.setCell ⟨a,0,none⟩ (.slice An nn cn)).setCell ⟨a+1,0,none⟩ (.int .i64 0)).setCell ⟨a+1+1,0,none⟩ (.int .i64 0)):=(((Chg.refl S3 w6).set (p:=⟨a,0,none⟩) (.inl (by rw[hS3];exact .inl rfl)) _).set (p:=⟨a+1,0,none⟩) (.inl (by rw[hS3];exact .inr (.inl rfl))) _).set (p:=⟨a+1+1,0,none⟩) (.inl (by rw[hS3];exact .inr (.inr rfl))) _
    have hB6:∀k,S3 k→k<w2.heap.size:=fun k hk=>by rw[hS3] at hk;omega
    have hnF:=(hnds.low hch hB6).mono (B':=w.heap.size) (by have:=ha.out;omega)
    have hxF:Ext w _:=(((Chg.ofExt (S:=fun _=>False) (hx3.trans hx6)).trans hch (fun i hi e=>by rw[hS3] at e;have:=ha.out;omega)).toExt (fun _ _ e=>e))
    go_wp2_with fail
    refine leaves_cons (f:=122) (args := #[.pointer (some ⟨a,0,none⟩),.pointer (some ⟨a+1,0,none⟩),.pointer (some ⟨a+1+1,0,none⟩)]) (by simp) (by simp[go_sem]) ?_
    refine (catch_idle a (a+1) (a+1+1) _).mono ?_
    rintro e u' w8 ⟨rfl,rfl,rfl⟩
    refine⟨_,resP rfl rfl rfl (o2.cell 0) (o3.cell 0) (o4.cell 0),?_⟩
    rw[←hPO.out,hrr]
    exact⟨_,_,rfl,hnF,hxF⟩
   ·have hk1:((t.k:Int) != 3)=true:=by simpa using hk
    have hrr:r=([],(t.a:Int),4):=by rw[Hrr.out,ht.out,if_pos hk]
    go_wp2_with fail
    refine hfail.mono ?_
    rintro e w7 ⟨rfl,rfl⟩
    go_wp2_with fail
    refine leaves_cons (f:=122) (args := #[.pointer (some ⟨a,0,none⟩),.pointer (some ⟨a+1,0,none⟩),.pointer (some ⟨a+1+1,0,none⟩)]) (by simp) (by simp[go_sem]) ?_
    refine (catch_stop a (a+1) (a+1+1) _ _ _ t.a 4 w6 i2 i3 i4).mono ?_
    rintro e u' w8 ⟨rfl,rfl,hc8,b2,b3,b4⟩
    refine⟨_,resP rfl rfl rfl (b2.cell 0) (b3.cell 0) (b4.cell 0),?_⟩
    rw[←hPO.out,hrr]
    exact⟨_,_,rfl,nds_nil _ _,((Chg.ofExt (S:=fun _=>False) (hx3.trans hx6)).trans hc8 (fun i hi e=>by have:=ha.out;omega)).toExt (fun _ _ e=>e)⟩
  ·have hx6:=hfin _ hc6
   have hrr:r=([],(at_:Int),(why:Int)):=by rw[Hrr.out,hr6.out]
   clear Hrr hT hpw
   have i2:=e2.ext hx6
   have i3:=e3.ext hx6
   have i4:=e4.ext hx6
   go_wp2_with fail
   refine leaves_cons (f:=122) (args := #[.pointer (some ⟨a,0,none⟩),.pointer (some ⟨a+1,0,none⟩),.pointer (some ⟨a+1+1,0,none⟩)]) (by simp) (by simp[go_sem]) ?_
   refine (catch_stop a (a+1) (a+1+1) _ _ _ at_ why w6 i2 i3 i4).mono ?_
   rintro e u' w8 ⟨rfl,rfl,hc8,b2,b3,b4⟩
   refine⟨_,resP rfl rfl rfl (b2.cell 0) (b3.cell 0) (b4.cell 0),?_⟩
   rw[←hPO.out,hrr]
   exact⟨_,_,rfl,nds_nil _ _,((Chg.ofExt (S:=fun _=>False) (hx3.trans hx6)).trans hc8 (fun i hi e=>by have:=ha.out;omega)).toExt (fun _ _ e=>e)⟩
end Pr
namespace Pr
open Go.ChangeShapes Go.WideShapes Go.ChangeAt Go.RowKit
open Base Lx Mi
def shV:Option (List UInt8)→Value
 | some s=>.tuple #[.string ⟨s.toArray⟩,.int .i64 0]
 | none=>.tuple #[.string ⟨#[]⟩,.int .i64 1]
def showLen (ns:List Ne):Nat:=(wtyp ns 20 0 ⟨[],0,false⟩).s.length
set_option maxHeartbeats 2000000 in
theorem shown_any (v:Value) (ns:List Ne) (w:World) (hS:Sch w.heap.size w v ns) (hwd:Wd w) (hpow:Pow w) (hL:showLen ns≤100000000) :
  Calls Tryz.prog 94 #[.agg #[v]] w fun e w'=>e=.returned (shV (showP ns))∧Ext w w':=by
 have h5:=hpow.lt
 obtain⟨A,c,rfl⟩:=hS.slice
 obtain⟨n,hn⟩:∃z,Hid (ns.length=z):=⟨_,rfl⟩
 obtain⟨q,hq⟩:∃z,Hid (w.heap.size=z):=⟨_,rfl⟩
 obtain⟨w1,hw1⟩:∃z,Hid (w.alloc (.cells #[.slice A n c] 24)=z):=⟨_,rfl⟩
 obtain⟨w2,hw2⟩:∃z,Hid (w1.alloc (.cells #[.pointer none,.slice none 0 0,.slice A n c,.int .i64 0,.bool false] 139)=z):=⟨_,rfl⟩
 have hx1:Ext w w1:=by rw[←hw1.out];exact (Ext.refl w).alloc _
 have hs1:w1.heap.size=q+1:=by rw[←hw1.out,←hq.out];simp
 have hb1:Blk w1 q #[.slice A n c] 24:=by rw[←hw1.out,←hq.out];exact Blk.new w _ _
 have hx2:Ext w1 w2:=by rw[←hw2.out];exact (Ext.refl w1).alloc _
 have hb2:Blk w2 (q+1) #[.pointer none,.slice none 0 0,.slice A n c,.int .i64 0,.bool false] 139:=by rw[←hw2.out,←hs1];exact Blk.new w1 _ _
 have hbq2:=hb1.ext hx2
 have hI:WInv q w2 (q+1) (.slice A n c) ⟨[],0,false⟩:=⟨⟨none,.slice none 0 0,.inl rfl,hb2,World.ownsRow_nil _ _ _ _⟩,by omega⟩
 have hxw2:=hx1.trans hx2
 rw[hq.out] at hS h5
 rw[hn.out] at hS
 have hbe2:Below q w w2:=by rw[←hq.out];exact hxw2
 have hE:En q w2 (.slice A n c) ns:=⟨hS.below hbe2,hwd.ext hxw2,hpow.ext hxw2,h5⟩
 have hT:=wtyped_all 20 0 rfl 0 ⟨[],0,false⟩ w2 hI hE hL
 rw[show ((0:Nat):Int)=0 from rfl] at hT
 obtain⟨st,hst⟩:∃z,Hid (wtyp ns 20 0 ⟨[],0,false⟩=z):=⟨_,Lib.hid rfl⟩
 have hne:=show_ne ns
 have hsh:showP ns=if st.bad=true∨st.next≠ns.length then none else if (parseP ⟨st.s.toArray⟩).2.2≠0∨(parseP ⟨st.s.toArray⟩).1.map Nd.toE≠ns then none else some st.s:=by rw[←hst.out];rfl
 rw[hst.out] at hT hne
 have hL : st.s.length ≤ 100000000 := by have : showLen ns = st.s.length := by rw [← hst.out]; rfl
                                         omega
 replace hne:=Lib.hid hne
 obtain⟨o,ho⟩:∃z,Hid (showP ns=z):=⟨_,Lib.hid rfl⟩
 rw[ho.out] at hsh ⊢
 replace hsh:=Lib.hid hsh
 obtain⟨PO,hPO⟩:∃PO:Ending→World→Prop,Hid ((fun e w'=>e=.returned (shV o)∧Ext w w')=PO):=⟨_,Lib.hid rfl⟩
 rw[hPO.out,hn.out]
 clear hb2
 go_enter Tryz.func94,Tryz.ntmps94
 go_wp2_with fail
 rw[hw1.out,hq.out,hw2.out]
 refine hT.mono ?_
 rintro e w3 ⟨rfl,hk3,h3⟩
 have hx3:Ext w w3:=Below.trans (B:=w.heap.size) hxw2 (by rw[hq.out];exact hk3.below)
 have hbq3:=hk3.keep q _ _ hbq2 (by decide) (by decide)
 obtain⟨c2,c3,c4,f3,f4⟩:=h3.cells
 have e1:∀W,Ext w3 W→W.cell? ⟨q,0,none⟩=some (.slice A n c):=fun W hW=>(hbq3.ext hW).cell 0
 obtain⟨nx,hnx⟩:∃z,Hid (st.next=z):=⟨_,rfl⟩
 have e3:∀W,Ext w3 W→W.cell? ⟨q+1,3,none⟩=some (.int .i64 (nx:Int)):=fun W hW=>by rw[←hnx.out];exact hW.cell c3
 by_cases hbad:st.bad=true
 ·have ho0:o=none:=by rw[hsh.out,if_pos (.inl hbad)]
  have e4:∀W,Ext w3 W→W.cell? ⟨q+1,4,none⟩=some (.bool true):=fun W hW=>by rw[←hbad];exact hW.cell c4
  clear c2 c3 c4 f3 f4 hbad
  go_wp2_with fail
  refine Reg.startE (by kernel_rfl) ?_
  iterate 14 ((first|refine Reg.tn ?_|refine Reg.sn ?_);(try simp only[Reg.nn]))
  refine Reg.fin (by kernel_rfl) (fun W hW=>?_)
  go_wp2_with fail
  rw[←hPO.out,ho0]
  exact⟨rfl,hx3.trans hW⟩
 ·have hbad':st.bad=false:=by simpa using hbad
  have e4:∀W,Ext w3 W→W.cell? ⟨q+1,4,none⟩=some (.bool false):=fun W hW=>by rw[←hbad'];exact hW.cell c4
  have hsne:=hne.out hbad'
  clear c2 c3 c4 f3 f4 hne
  by_cases hnn:nx=n
  ·have hnb:((nx:Int) != (n:Int))=false:=by simp[hnn]
   have hstr:=fun W (hW:Ext w3 W)=>wstring_any (h3.ext hW) hL hsne
   obtain⟨r,hr⟩:∃z,Hid (parseP ⟨st.s.toArray⟩=z):=⟨_,Lib.hid rfl⟩
   have hsz:(⟨st.s.toArray⟩:ByteArray).size=st.s.length:=by simp[ByteArray.size]
   have hpar:=fun W (hW:Ext w W)=>parsed_any ⟨st.s.toArray⟩ (by rw[hsz];omega) W (hwd.ext hW) (by have:=hW.size;have:=hq.out;omega)
   have hres:o=if r.2.2≠0∨r.1.map Nd.toE≠ns then none else some st.s:=by
    rw[hsh.out,if_neg (by rintro (e|e);exact hbad e;exact e (by rw[hnx.out,hnn,hn.out])),hr.out]
   rw[hr.out] at hpar
   have hrg:∀d∈r.1,-9223372036854775808≤d.size∧d.size≤9223372036854775807:=by rw[←hr.out];exact parse_rng _
   obtain⟨S,hS'⟩:∃S:ByteArray,S=⟨st.s.toArray⟩:=⟨_,rfl⟩
   rw[←hS'] at hpar hstr
   replace hS':=Lib.hid hS'
   clear hsz
   have Hres:=Lib.hid hres
   clear hres hsh
   go_wp2_with fail
   refine Reg.startE (by kernel_rfl) ?_
   iterate 14 ((first|refine Reg.tn ?_|refine Reg.sn ?_);(try simp only[Reg.nn]))
   refine Reg.fin (by kernel_rfl) (fun W hW=>?_)
   have hstr:=hstr W hW
   clear e1 e3 e4
   have hxW:=hx3.trans hW
   go_wp2_with fail
   refine hstr.mono ?_
   rintro e w4 ⟨rfl,hb4⟩
   have hx4:Ext w w4:=Below.trans (B:=w.heap.size) hxW (by rw[hq.out];exact hb4.below)
   have hp:=hpar w4 hx4
   clear hpar hstr
   go_wp2_with fail
   go_fit hp
   rintro e w5 ⟨v5,vs5,rfl,hnd,hx5⟩
   obtain⟨A5,c5,rfl,jj1,jj2,jj3,jj4⟩:=Rd.of_own hnd.row
   clear jj1 jj2 jj3 jj4 hp
   obtain⟨n5,hn5⟩:∃z,Hid (r.1.length=z):=⟨_,Lib.hid rfl⟩
   rw[hn5.out] at hnd ⊢
   obtain⟨w6,hw6⟩:∃z,Hid (w5.alloc (.cells #[.slice A5 n5 c5] 24)=z):=⟨_,rfl⟩
   have hx6:Ext w5 w6:=by rw[←hw6.out];exact (Ext.refl w5).alloc _
   obtain⟨q6,hq6⟩:∃z,Hid (w5.heap.size=z):=⟨_,rfl⟩
   have hb6:Blk w6 q6 #[.slice A5 n5 c5] 24:=by rw[←hw6.out,←hq6.out];exact Blk.new w5 _ _
   have hbq6:w6.cell? ⟨q,0,none⟩=some (.slice A n c):=(((hb4.keep q _ _ (hbq3.ext hW) (by decide) (by decide)).ext hx5).ext hx6).cell 0
   have hc6:w6.cell? ⟨q6,0,none⟩=some (.slice A5 n5 c5):=hb6.cell 0
   rw[←hw6.out] at hbq6
   have hx06:Ext w w6:=(hx4.trans hx5).trans hx6
   have hSo:Sch w5.heap.size w6 (.slice A n c) ns:=(hS.below (by rw[←hq.out];exact hx06)).mono (by have:=(hx4.trans hx5).size;have:=hq.out;omega)
   have hSp:Sch w5.heap.size w6 (.slice A5 n5 c5) (r.1.map Nd.toE):=(Sch.ofNds hnd (Nat.le_refl _) hrg).below hx6
   have hcmp:=equalF_any (w:=w6) hSp hSo hx6.size
   by_cases her:r.2.2=0
   ·have hrb:(r.2.2 != 0)=false:=by simpa using her
    by_cases hqq:r.1.map Nd.toE=ns
    ·have ho0:o=some st.s:=by rw[Hres.out,if_neg (by rintro (e|e);exact e her;exact e hqq)]
     rw[show decide (r.1.map Nd.toE=ns)=true by simpa using hqq] at hcmp
     clear hSo hSp hqq
     go_wp2_with fail
     rw[hw6.out]
     refine hcmp.mono ?_
     rintro e w7 ⟨rfl,hx7⟩
     go_wp2_with fail
     rw[←hPO.out,ho0,hS'.out]
     exact⟨rfl,hx06.trans hx7⟩
    ·have ho0:o=none:=by rw[Hres.out,if_pos (.inr hqq)]
     rw[show decide (r.1.map Nd.toE=ns)=false by simpa using hqq] at hcmp
     clear hSo hSp hqq
     go_wp2_with fail
     rw[hw6.out]
     refine hcmp.mono ?_
     rintro e w7 ⟨rfl,hx7⟩
     go_wp2_with fail
     rw[←hPO.out,ho0]
     exact⟨rfl,hx06.trans hx7⟩
   ·have hrb:(r.2.2 != 0)=true:=by simpa using her
    have ho0:o=none:=by rw[Hres.out,if_pos (.inl her)]
    clear hcmp hSo hSp
    go_wp2_with fail
    rw[hw6.out]
    rw[←hPO.out,ho0]
    exact⟨rfl,hx06⟩
  ·have hnb:((nx:Int) != (n:Int))=true:=by simpa using (by omega:¬(nx:Int)=(n:Int))
   have ho0:o=none:=by rw[hsh.out,if_pos (.inr (by rw[hnx.out,hn.out];exact hnn))]
   go_wp2_with fail
   refine Reg.startE (by kernel_rfl) ?_
   iterate 14 ((first|refine Reg.tn ?_|refine Reg.sn ?_);(try simp only[Reg.nn]))
   refine Reg.fin (by kernel_rfl) (fun W hW=>?_)
   go_wp2_with fail
   rw[←hPO.out,ho0]
   exact⟨rfl,hx3.trans hW⟩
theorem resParse {w:World} {tmps:Array Value} {a:Nat} {u v x:Value} (ha:tmps[2]?.getD undef=.pointer (some ⟨a,0,none⟩)) (hb:tmps[3]?.getD undef=v) (hc:tmps[4]?.getD undef=x)
  (h1:w.cell? ⟨a,0,none⟩=some u):(results Tryz.f76 tmps).run Tryz.prog w=.ok (.tuple #[.agg #[u],v,x]) w:=by
 simp[results,Tryz.f76,go_sem,ha,hb,hc,h1]
theorem parse_any (s:ByteArray) (hs:s.size≤140737488351232) (w:World) (hwd:Wd w) (h0:1<w.heap.size):Calls Tryz.prog 76 #[.string s] w fun e w'=>PP (parseP s) w e w':=by
 obtain⟨r,hr⟩:∃z,Hid (parseP s=z):=⟨_,Lib.hid rfl⟩
 obtain⟨w1,hw1⟩:∃z,Hid (w.alloc (.cells #[.slice none 0 0] 24)=z):=⟨_,rfl⟩
 obtain⟨q,hq⟩:∃z,Hid (w.heap.size=z):=⟨_,rfl⟩
 have hx1:Ext w w1:=by rw[←hw1.out];exact (Ext.refl w).alloc _
 have hb1:Blk w1 q #[.slice none 0 0] 24:=by rw[←hw1.out,←hq.out];exact Blk.new w _ _
 have hc:=parsed_any s hs w1 (hwd.ext hx1) (by have:=hx1.size;omega)
 rw[hr.out] at hc ⊢
 obtain⟨PO,hPO⟩:∃PO:Ending→World→Prop,Hid ((fun e w'=>PP r w e w')=PO):=⟨_,Lib.hid rfl⟩
 rw[hPO.out]
 go_enter Tryz.func76,Tryz.ntmps76
 go_wp2_with fail
 rw[hw1.out,hq.out]
 refine hc.mono ?_
 rintro e w2 ⟨v,vs,rfl,hnd,hx2⟩
 obtain⟨A,c,rfl,jj1,jj2,jj3,jj4⟩:=Rd.of_own hnd.row
 clear jj1 jj2 jj3 jj4 hc
 obtain⟨n,hn⟩:∃z,Hid (r.1.length=z):=⟨_,Lib.hid rfl⟩
 rw[hn.out] at hnd ⊢
 have hb2:=hb1.ext hx2
 have c2:w2.cell? ⟨q,0,none⟩=some (.slice none 0 0):=hb2.cell 0
 have f2:=hb2.frozen 0
 have hb3:Blk (w2.setCell ⟨q,0,none⟩ (.slice A n c)) q #[.slice A n c] 24:=hb2.set 0 _
 have hsz:=hx1.size
 have hqs:=hq.out
 have hs1:w1.heap.size=w.heap.size+1:=by rw[←hw1.out];simp
 have hlow:∀k,k=q→k<w1.heap.size:=fun k e=>by omega
 have hnF:=(hnd.low (Chg.one w2 q 0 (.slice A n c)) hlow).mono hsz
 have hxF:Ext w (w2.setCell ⟨q,0,none⟩ (.slice A n c)):=(hx1.trans hx2).setCell (by show w.heap.size≤q;omega) _
 clear hsz hqs hs1 hlow
 go_wp2_with fail
 refine bodyPost_ret (resParse rfl rfl rfl (hb3.cell 0)) rfl ?_
 rw[←hPO.out]
 exact⟨_,_,rfl,hnF,hxF⟩
theorem show_any (v:Value) (ns:List Ne) (w:World) (hS:Sch w.heap.size w v ns) (hwd:Wd w) (hpow:Pow w) (hL:showLen ns≤100000000) :
  Calls Tryz.prog 70 #[.agg #[v]] w fun e w'=>e=.returned (shV (showP ns))∧Ext w w':=by
 obtain⟨w1,hw1⟩:∃z,Hid (w.alloc (.cells #[v] 24)=z):=⟨_,rfl⟩
 have hx1:Ext w w1:=by rw[←hw1.out];exact (Ext.refl w).alloc _
 have hc:=shown_any v ns w1 ((hS.below hx1).mono hx1.size) (hwd.ext hx1) (hpow.ext hx1) hL
 obtain⟨o,ho⟩:∃z,Hid (showP ns=z):=⟨_,Lib.hid rfl⟩
 rw[ho.out] at hc ⊢
 obtain⟨A,c,rfl⟩:=hS.slice
 go_enter Tryz.func70,Tryz.ntmps70
 go_wp2_with fail
 rw[hw1.out]
 refine hc.mono ?_
 rintro e w2 ⟨rfl,hx2⟩
 cases o with
 | none=>
  rw[show shV none=Value.tuple #[.string ⟨#[]⟩,.int .i64 1] from rfl]
  go_wp2_with fail
  go_ret2
  exact⟨rfl,hx1.trans hx2⟩
 | some s=>
  rw[show shV (some s)=Value.tuple #[.string ⟨s.toArray⟩,.int .i64 0] from rfl]
  go_wp2_with fail
  go_ret2
  exact⟨rfl,hx1.trans hx2⟩
end Pr
namespace Pr
open Lx
def er (t:Tok):Tok:=⟨t.k,t.s,0⟩
def PS.er (s:PS):PS:={ s with l:=s.l.map Pr.er }
def Res.er {α:Type}:Res α→Res α
 | .ok a s=>.ok a s.er
 | .bad _ w=>.bad 0 w
theorem hd_er (l:List Tok):hd (l.map er)=er (hd l):=by cases l<;>rfl
theorem isT_er (s:PS) (x:ByteArray):isT s.er x=isT s x:=by
 unfold isT
 rw[show s.er.l=s.l.map Pr.er from rfl,hd_er]
 rfl
theorem on_er (s:PS):s.er.on=s.on.er:=by
 unfold PS.on PS.er
 simp[List.map_tail]
theorem failR_er {α:Type} (s:PS) (w:Nat):(failR s.er w:Res α)=(failR s w).er:=by
 unfold failR
 rw[show s.er.l=s.l.map Pr.er from rfl,hd_er]
 rfl
theorem bind_er {α β:Type} {r r':Res α} {f f':α→PS→Res β} (h:r'=r.er) (hf:∀a s,f' a s.er=(f a s).er):r'.bind f'=(r.bind f).er:=by
 subst h
 cases r with
 | ok a s=>exact hf a s
 | bad a w=>rfl
theorem mustR_er (s:PS) (x:ByteArray):mustR s.er x=(mustR s x).er:=by
 unfold mustR
 rw[isT_er,on_er,failR_er]
 split<;>rfl
theorem goesR_er (s:PS) (x:ByteArray):goesR s.er x=((goesR s x).1,(goesR s x).2.er):=by
 unfold goesR
 rw[isT_er,on_er]
 split<;>rfl
theorem nameR_er (s:PS) (th:ByteArray→Bool):nameR s.er th=(nameR s th).er:=by
 unfold nameR
 rw[failR_er,failR_er,on_er,show s.er.l=s.l.map Pr.er from rfl,hd_er,show (Pr.er (hd s.l)).k=(hd s.l).k from rfl,show (Pr.er (hd s.l)).s=(hd s.l).s from rfl]
 split
 ·rfl
 ·split<;>rfl
theorem kindR_er (s:PS):kindR s.er=kindR s:=by
 unfold kindR
 rw[isT_er,isT_er,isT_er,show s.er.l=s.l.map Pr.er from rfl,hd_er]
 rfl
theorem setN_er (s:PS) (n:Nat) (f:Nd→Nd):s.er.setN n f=(s.setN n f).er:=rfl
def TE (T:Bool→List Nat→PS→Res Nat):Prop:=∀u a s,T u a s.er=(T u a s).er
section
variable {T:Bool→List Nat→PS→Res Nat}
theorem itemR_er (hT:TE T) (s:PS) (n:Nat) (x:ByteArray):itemR T s.er n x=(itemR T s n x).er:=by
 unfold itemR
 refine bind_er (hT _ _ _) fun a s1=>?_
 rw[setN_er,mustR_er]
theorem unionR_er (hT:TE T) (n:Nat):∀(m:Nat) (l:List Nat) (s:PS),unionR T n m l s.er=(unionR T n m l s).er
 | 0,l,s=>by rw[unionR,unionR,failR_er]
 | m+1,l,s=>by
  rw[unionR,unionR]
  refine bind_er (hT _ _ _) fun a s1=>?_
  rw[isT_er,on_er,setN_er]
  split
  ·rfl
  ·exact bind_er (mustR_er _ _) fun _ s2=>unionR_er hT n m _ s2
theorem symsR_er (n:Nat):∀(m:Nat) (l:List ByteArray) (s:PS),symsR n m l s.er=(symsR n m l s).er
 | 0,l,s=>by rw[symsR,symsR,failR_er]
 | m+1,l,s=>by
  rw[symsR,symsR]
  refine bind_er (nameR_er _ _) fun a s1=>?_
  rw[isT_er,on_er,setN_er]
  split
  ·rfl
  ·exact bind_er (mustR_er _ _) fun _ s2=>symsR_er n m _ s2
theorem fieldsR_er (hT:TE T) (n:Nat):∀(m:Nat) (l:List (ByteArray×Bool×Nat)) (s:PS),fieldsR T n m l s.er=(fieldsR T n m l s).er
 | 0,l,s=>by rw[fieldsR,fieldsR,failR_er]
 | m+1,l,s=>by
  rw[fieldsR,fieldsR,isT_er,on_er,setN_er]
  split
  ·rfl
  ·refine bind_er (nameR_er _ _) fun x s1=>?_
   rw[goesR_er]
   refine bind_er (mustR_er _ _) fun _ s2=>?_
   refine bind_er (hT _ _ _) fun t s3=>?_
   exact bind_er (mustR_er _ _) fun _ s4=>fieldsR_er hT n m _ s4
theorem er_len (s:PS):s.er.l.length=s.l.length:=by show (s.l.map Pr.er).length=_;rw[List.length_map]
theorem definedR_er (hT:TE T) (s:PS) (n:Nat) (k:Int):definedR T s.er n k=(definedR T s n k).er:=by
 unfold definedR
 refine bind_er (nameR_er _ _) fun x s1=>?_
 rw[show s1.er.called n x=(s1.called n x).er from rfl]
 generalize s1.called n x=s2
 simp only
 split
 ·refine bind_er (mustR_er _ _) fun _ s3=>?_
  rw[er_len,symsR_er]
 ·split
  ·rw[failR_er,on_er,setN_er,show s2.er.l=s2.l.map Pr.er from rfl,hd_er,show (Pr.er (hd s2.l)).k=(hd s2.l).k from rfl,show (Pr.er (hd s2.l)).s=(hd s2.l).s from rfl]
   split<;>rfl
  ·refine bind_er (mustR_er _ _) fun _ s3=>?_
   rw[er_len,fieldsR_er hT]
end
theorem typedR_er:∀(fuel:Nat),TE (typedR fuel)
 | fuel,u,a,s=>by
  rw[typedR.eq_def,typedR.eq_def fuel u a s]
  simp only
  rw[kindR_er]
  split
  ·exact failR_er _ _
  ·next k hk=>
   rw[show s.er.l=s.l.map Pr.er from rfl,hd_er,show (Pr.er (hd s.l)).s=(hd s.l).s from rfl,show s.er.nm=s.nm from rfl,show gateR fuel u a s.er k (s.nm (hd s.l).s)=gateR fuel u a s k (s.nm (hd s.l).s) from rfl]
   split
   ·exact failR_er _ _
   ·split
    ·show Res.ok _ s.er.on=_
     rw[on_er];rfl
    ·rw[on_er,show s.er.ns=s.ns from rfl,show ({ s.on.er with ns:=s.ns++[Nd.ofKind k] }:PS)=({ s.on with ns:=s.ns++[Nd.ofKind k] }:PS).er from rfl]
     generalize ({ s.on with ns:=s.ns++[Nd.ofKind k] }:PS)=s1
     cases fuel with
     | zero=>exact failR_er _ _
     | succ fuel=>
      have ih:=typedR_er fuel
      simp only
      split
      ·exact bind_er (itemR_er ih _ _ _) fun _ s2=>rfl
      ·split
       ·exact bind_er (itemR_er ih _ _ _) fun _ s2=>rfl
       ·split
        ·rw[er_len]
         exact bind_er (unionR_er ih _ _ _ _) fun _ s2=>rfl
        ·split
         ·exact bind_er (definedR_er ih _ _ _) fun _ s2=>rfl
         ·rfl
theorem typedR_same {l l':List Tok} (h:l.map er=l'.map er) {fuel:Nat} {u:Bool} {a:List Nat} {ns:List Nd} {nm:ByteArray→Option Nat} {n:Nat} {s':PS} (e:typedR fuel u a ⟨l,ns,nm⟩=.ok n s') :
  ∃s'',typedR fuel u a ⟨l',ns,nm⟩=.ok n s''∧s''.ns=s'.ns∧s''.l.map er=s'.l.map er:=by
 have h1:=typedR_er fuel u a ⟨l,ns,nm⟩
 have h2:=typedR_er fuel u a ⟨l',ns,nm⟩
 rw[show PS.er ⟨l,ns,nm⟩=PS.er ⟨l',ns,nm⟩ by unfold PS.er;rw[h],h2,e] at h1
 cases hr:typedR fuel u a ⟨l',ns,nm⟩ with
 | bad x y=>rw[hr] at h1;cases h1
 | ok m s''=>
  rw[hr] at h1
  injection h1 with h3 h4
  subst h3
  have a:s''.er.ns=s'.er.ns:=by rw[h4]
  have b:s''.er.l=s'.er.l:=by rw[h4]
  exact⟨s'',rfl,a,b⟩
end Pr
end Go.Proofs.YtmaoochjbpohdaaGreatDoor
