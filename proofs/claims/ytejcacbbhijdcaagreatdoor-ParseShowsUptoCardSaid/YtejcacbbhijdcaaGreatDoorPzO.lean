/- parse: the reference's reader: an enum's symbols, walked. -/
import Derived.Test.YtejcacbbhijdcaaGreatDoorPzN
namespace Go.Proofs.YtejcacbbhijdcaaGreatDoor.Pr
open Go.ChangeShapes Go.WideShapes Go.ChangeAt Go.RowKit
open Base Lx Mi
set_option linter.unusedVariables false
set_option linter.unusedSimpArgs false

section
variable {B R : Nat} {vl vn : Value} {vs : List V3} {L : List Tok} {q : QS}
theorem str_beq2 (a b : ByteArray) : (a.toList == b.toList) = decide (a = b) := by
  by_cases h : a = b
  · subst h; simp
  · rw [str_ne h]; simpa using h
theorem txs_one' (l : List ByteArray) : ∀ u ∈ txs l, u.oneCell' = true := by
  intro u hu
  obtain ⟨x, _, rfl⟩ := List.mem_map.1 hu
  rfl
theorem any_take_succ {α : Type} (l : List α) (p : α → Bool) (i : Nat) (x : α) (h : l[i]? = some x) : (l.take (i + 1)).any p = ((l.take i).any p || p x) := by
  rw [List.take_add_one, h, List.any_append]
  simp
set_option maxRecDepth 1000000 in
set_option maxHeartbeats 8000000 in
theorem defined9_any (hTk : TokOk L) (deep K : Nat) (hK : 1 ≤ K) (hK2 : K ≤ 200) (n : Nat) (w : World) (h : Rq B w R vl vn vs L q) (hn : n < q.ns.length) (hB : B ≤ w.heap.size) (hw0 : q.why = 0) (hW : WQ L q.at_ q) (hv0 : ∀ v, vs[n]? = some v → v.1.ownBlock = none) :
    Calls Tryz.prog 54 #[.pointer (some ⟨R, 0, none⟩), .int .i64 (n : Int), .int .i64 9, .int .i64 (deep : Int)] w fun e w' => e = .returned (.tuple #[]) ∧ PT B R vl vn vs L w (symsQ L n L.length (signQ L (defQ L n q) cLt)) w' := by
  have hdg := defQ_g (k := K) hK n hw0 (GQ.ofOk hW)
  have hnm := nameQ_any w h
  have hnn' := nameQ_ns (L := L) (q := q)
  obtain ⟨x, hx⟩ : ∃ z, Hid ((tkQ L q).s = z) := ⟨_, Lib.hid rfl⟩
  rw [hx.out] at hnm
  obtain ⟨cv, hcv⟩ : ∃ z, Hid (optI (calledN q.ns x) = z) := ⟨_, Lib.hid rfl⟩
  have hdq : defQ L n q = onQ L ((badQ L (nameQ L q) (decide (0 ≤ cv)) 6).setN n fun d => { d with name := x }) := by unfold defQ; rw [← hcv.out, optI_some, hx.out]
  obtain ⟨q1, hq1⟩ : ∃ z, Hid (nameQ L q = z) := ⟨_, Lib.hid rfl⟩
  rw [hq1.out] at hnm hdq hnn'
  obtain ⟨q2, hq2⟩ : ∃ z, Hid (badQ L q1 (decide (0 ≤ cv)) 6 = z) := ⟨_, Lib.hid rfl⟩
  rw [hq2.out] at hdq
  have hn2 : n < q2.ns.length := by rw [← hq2.out, badQ_ns, hnn']; exact hn
  obtain ⟨R0, hR0⟩ : ∃ z, Hid (symsQ L n L.length (signQ L (defQ L n q) cLt) = z) := ⟨_, Lib.hid rfl⟩
  rw [hR0.out]
  obtain ⟨PO, hPO⟩ : ∃ PO : Ending → World → Prop, Hid ((fun e w' => e = .returned (.tuple #[]) ∧ PT B R vl vn vs L w R0 w') = PO) := ⟨_, rfl⟩
  have hfin : ∀ w', PT B R vl vn vs L w R0 w' → PO (.returned (.tuple #[])) w' := fun w' hp => by rw [← hPO.out]; exact ⟨rfl, hp⟩
  rw [hPO.out]
  have htl := h.tl
  obtain ⟨M0, hM0⟩ : ∃ z, Hid (L.length = z) := ⟨_, Lib.hid rfl⟩
  rw [hM0.out] at hR0
  go_enter Tryz.func54, Tryz.ntmps54
  go_wp2_with fail
  refine hnm.mono ?_
  rintro e w1 ⟨rfl, hc1, h1⟩
  have hcl := called_any x w1 h1
  rw [hnn', hcv.out] at hcl
  have hbd := bad_any (decide (0 ≤ cv)) 6 w1 h1
  rw [hq2.out, show ((6 : Nat) : Int) = 6 from rfl] at hbd
  clear hnm
  go_wp2_with fail
  refine hcl.mono ?_
  rintro e w2 ⟨rfl, hw2⟩
  have hw2 := hw2.symm
  subst hw2
  go_wp2_with fail
  refine hbd.mono ?_
  rintro e w3 ⟨rfl, hc3, h3⟩
  obtain ⟨b, c, cur, eb, hbB, hgb, hk1, hk2, hk3⟩ := h3.rowc hn2
  have h3' := h3
  rw [eb] at h3'
  obtain ⟨nn, hnn⟩ : ∃ z, Hid (q2.ns.length = z) := ⟨_, Lib.hid rfl⟩
  have hfl := h3'.fillN hn2 (i := 1) (by omega) (fun d => { d with name := x }) (.string x) (fun d v => rfl) (fun d => ⟨rfl, rfl, rfl⟩)
  rw [hnn.out] at hfl eb
  have y2 : w3.cell? ⟨R, 2, none⟩ = some (.slice (some ⟨b, 0, none⟩) nn c) := by rw [← eb]; exact h3.blk.cell 2
  replace eb := Lib.hid eb
  obtain ⟨u1, hu1⟩ : ∃ u, w3.cell? ⟨b, n * 6 + 1, none⟩ = some u := ⟨_, (hgb.cell _).trans (Array.getElem?_eq_getElem (by omega))⟩
  have fz1 := hgb.frozen (n * 6 + 1)
  have hnI : (n : Int) < (nn : Int) := by have := hnn.out; omega
  have hc13 : Chg (fun k => k = R) w w3 := hc1.trans hc3 (fun _ _ e => e)
  have hchb : Chg (Wq R vn) w (w3.setCell ⟨b, n * 6 + 1, none⟩ (.string x)) := (hc13.mono (fun k _ e => .inl e)).set (p := ⟨b, n * 6 + 1, none⟩) (.inl (.inr (by rw [eb.out]; rfl))) _
  have hon := on_any _ hfl
  rw [← hdq] at hon
  clear hcl hbd hfl h3' h3 hgb
  go_wp2_with fail
  refine hon.mono ?_
  rintro e w4 ⟨rfl, hc4, h4⟩
  have hch4 : Chg (Wq R vn) w w4 := hchb.trans hc4 (fun k _ e => .inl e)
  obtain ⟨q4, hq4⟩ : ∃ z, Hid (defQ L n q = z) := ⟨_, Lib.hid rfl⟩
  have hdn : (defQ L n q).ns.length = q2.ns.length := by rw [hdq, onQ_ns, setN_lenQ]
  rw [hq4.out] at h4 hR0 hdn hdg
  have hn4 : n < q4.ns.length := by rw [hdn]; exact hn2
  have hsg := sign_any cLt w4 h4
  have hGs := hdg.1.sign hTk hK cLt
  have hsn := signQ_ns (L := L) (q := q4) cLt
  rw [show cLt = (⟨#[60]⟩ : ByteArray) from rfl] at hsg
  obtain ⟨q6, hq6⟩ : ∃ z, Hid (signQ L q4 cLt = z) := ⟨_, Lib.hid rfl⟩
  rw [show (⟨#[60]⟩ : ByteArray) = cLt from rfl, hq6.out] at hsg
  rw [show cLt = (⟨#[60]⟩ : ByteArray) from rfl] at hsg
  rw [hq6.out] at hR0 hGs hsn
  have hn6 : n < q6.ns.length := by rw [hsn]; exact hn4
  clear y2 hu1 fz1 hon hdq hW hdg
  go_wp2_with fail
  refine hsg.mono ?_
  rintro e w5 ⟨rfl, hc5, h5⟩
  have hch5 : Chg (Wq R vn) w w5 := hch4.trans hc5 (fun k _ e => .inl e)
  rw [← eb.out] at h5
  have hm6 : q6.why = 0 → L.length - q6.at_ ≤ M0 := fun _ => by have := hM0.out; omega
  clear hsg eb hch4 hchb hc13 hnI hnn hq4 hq6 hcv hx hq1 hq2 hnn' hc1 hc3 hc4 hc5 hk1 hk2 hk3 hbB
  go_wp2_with fail
  go_loopw [11, 12] (fun v11 v12 wr => ∃ (m : Nat) (q1 : QS) (vs1 : List V3), Rq B wr R vl vn vs1 L q1 ∧ Chg (Wq R vn) w wr ∧ SF w vs vs1 ∧ Hid (symsQ L n m q1 = R0) ∧ GQ L K q1 ∧ n < q1.ns.length ∧ (q1.why = 0 → L.length - q1.at_ ≤ m)) (fun _ _ wr => qMeas R wr)
  case atStart => exact ⟨M0, q6, vs, h5, hch5, SF.refl w vs, hR0, hGs, hn6, hm6⟩
  case round =>
    obtain ⟨m, q1, vs1, h1, hc1, hg1, hR1, hG1, hn1, hm1⟩ := hrel
    have hy := h1.why_cell
    have hms := h1.meas
    have hsz1 := hc1.size
    by_cases hw1 : q1.why = 0
    · obtain ⟨wo, hwo⟩ : ∃ z, z = wr := ⟨_, rfl⟩
      subst hwo
      obtain ⟨m, rfl⟩ : ∃ k, m = k + 1 := ⟨m - 1, by have := hm1 hw1; have := h1.lt; omega⟩
      have hW1 := hG1.ok hw1
      obtain ⟨d, v, b, c, hd, hv, e1, hc1', hc2', hcell⟩ := h1.node n hn1
      have hdd := nd_at hd
      have hlen := (hW1.len d (List.mem_of_getElem? hd)).1
      have hs := h1.nds.sub n d v hd hv
      obtain ⟨A3, c3, e3, hl1, hl2, hrd3, _⟩ := Rd.of_own hs.syms
      have hgb : ∃ cur, Blk wo b cur 36 := by
        obtain ⟨b9, c9, cur, e9, _, hg9, _⟩ := h1.rowb n hn1
        rw [e1] at e9
        injection e9 with e9 _ _
        injection e9 with e9
        injection e9 with e9 _ _
        subst e9
        exact ⟨cur, hg9⟩
      obtain ⟨cur, hgb⟩ := hgb
      obtain ⟨nn, hnn⟩ : ∃ z, Hid (q1.ns.length = z) := ⟨_, Lib.hid rfl⟩
      rw [hnn.out] at e1
      have hnI : (n : Int) < (nn : Int) := by have := hnn.out; omega
      obtain ⟨ls, hls⟩ : ∃ z, Hid (d.syms.length = z) := ⟨_, Lib.hid rfl⟩
      have hls2' := hls.out
      have hls2 : ls ≤ 100000 := by have := hls.out; have := h1.lt; omega
      have hbR : ¬ b = R := fun e => h1.sep (by rw [e1, ← e]; rfl)
      have hSyR : ∀ a, A3 = some a → ¬ a.block = R := fun a ha e => h1.ne hs.syms (by decide) R (by rw [e3, ha]; show some a.block = _; rw [e]) rfl
      have z2 : wo.cell? ⟨R, 2, none⟩ = some (.slice (some ⟨b, 0, none⟩) nn c) := by rw [← e1]; exact h1.blk.cell 2
      have z3 : wo.cell? ⟨b, n * 6 + 3, none⟩ = some (.slice A3 ls c3) := by have := hcell wo (Ext.refl _) 3 (by omega); rw [← hls.out, ← e3]; simpa [ndC] using this
      have hnm := nameQ_any wo h1
      have hR1' := hR1.out
      rw [symsQ, if_neg (by rw [hw1]; simp)] at hR1'
      have hgs := symQ_g hTk hK n hw1 hG1
      have hsy : symQ L n q1 = onQ L ((badQ L (nameQ L q1) (d.syms.any fun y => decide (y = (tkQ L q1).s)) 6).setN n fun d => { d with syms := d.syms ++ [(tkQ L q1).s] }) := by unfold symQ; rw [hdd]
      obtain ⟨x1, hx1⟩ : ∃ z, Hid ((tkQ L q1).s = z) := ⟨_, Lib.hid rfl⟩
      rw [hx1.out] at hnm hsy
      have hqn := nameQ_ns (L := L) (q := q1)
      obtain ⟨q2', hq2'⟩ : ∃ z, Hid (nameQ L q1 = z) := ⟨_, Lib.hid rfl⟩
      rw [hq2'.out] at hnm hsy hqn
      have hyb : ((q1.why : Int) == 0) = true := by rw [hw1]; rfl
      replace e1 := Lib.hid e1
      replace e3 := Lib.hid e3
      clear hcell hR1 hls
      replace hls2' := Lib.hid hls2'
      go_wp2_with fail
      refine hnm.mono ?_
      rintro e w2 ⟨rfl, hc2, h2⟩
      clear hnm
      go_wp2_with fail
      go_loopw [12] (fun v12 wi => ∃ i : Nat, v12 = .int .i64 i ∧ i ≤ ls ∧ Rq B wi R vl vn vs1 L (badQ L q2' ((d.syms.take i).any fun y => decide (y = x1)) 6) ∧ Chg (fun k => k = R) wo wi) (fun v12 _ => ls - (intOf v12).toNat)
      case atStart => exact ⟨0, rfl, by omega, by rw [List.take_zero, List.any_nil, badQ_false]; exact h2, hc2⟩
      case round =>
        obtain ⟨i, rfl, hi, h3, hc3⟩ := hrel
        have y2 : wr.cell? ⟨R, 2, none⟩ = some (.slice (some ⟨b, 0, none⟩) nn c) := by rw [← e1.out]; exact h3.blk.cell 2
        have y3 : wr.cell? ⟨b, n * 6 + 3, none⟩ = some (.slice A3 ls c3) := hc3.cell z3 hbR
        by_cases hil : i < ls
        · have hil' : (i : Int) < (ls : Int) := by omega
          obtain ⟨y, hyi⟩ : ∃ y, d.syms[i]? = some y := ⟨_, List.getElem?_eq_getElem (by rw [hls2'.out]; exact hil)⟩
          have hyz : (txs d.syms)[i]? = some (.string y) := by unfold txs; rw [List.getElem?_map, hyi]; rfl
          have hne : txs d.syms ≠ [] := by intro e; rw [e] at hyz; simp at hyz
          obtain ⟨ba, oa, rfl, hca⟩ := hrd3 hne
          have y4 : wr.cell? ⟨ba, oa + i, none⟩ = some (.string y) := hc3.cell (hca i _ hyz) (hSyR ⟨ba, oa, none⟩ rfl)
          have hbq := str_beq2 y x1
          have hbd := bad_any (decide (y = x1)) 6 wr h3
          have hts := any_take_succ d.syms (fun y => decide (y = x1)) i y hyi
          rw [badQ_or _ _ (by decide), show ((6 : Nat) : Int) = 6 from rfl] at hbd
          rw [← hts] at hbd
          clear hyi hyz hne hca hts
          go_wp2_with fail
          refine hbd.mono ?_
          rintro e w4 ⟨rfl, hc4, h4⟩
          go_wp2_with fail
          go_roundw
          case rel => exact ⟨i + 1, by go_num, by omega, h4, hc3.trans hc4 (fun _ _ e => e)⟩
          case measure => simp [intOf]; omega
        · obtain rfl : i = ls := by omega
          have hnot : ¬ (i : Int) < (i : Int) := by omega
          rw [List.take_of_length_le (by rw [hls2'.out]; exact Nat.le_refl _)] at h3
          obtain ⟨qb, hqb⟩ : ∃ z, Hid (badQ L q2' (d.syms.any fun y => decide (y = x1)) 6 = z) := ⟨_, rfl⟩
          rw [hqb.out] at h3 hsy
          have hqbn : qb.ns = q1.ns := by rw [← hqb.out, badQ_ns, hqn]
          have hnb : n < qb.ns.length := by rw [hqbn]; exact hn1
          have hc03 : Chg (Wq R vn) w wr := hc1.trans hc3 (fun k _ e => .inl e)
          have hszT := hc03.size
          have hdb : qb.ns[n]? = some d := by rw [hqbn]; exact hd
          have hs2 := h3.nds.sub n d v hdb hv
          have hgb2 : Blk wr b cur 36 := hc3.blk hgb hbR
          have hv2i : Hid (v.1 = .slice A3 i c3) := Lib.hid (by rw [e3.out, hls2'.out])
          obtain ⟨S, hSd⟩ : ∃ S : Nat → Prop, Hid (S = fun k => v.1.ownBlock = some k) := ⟨_, Lib.hid rfl⟩
          have hSi : ∀ k, S k → v.1.ownBlock = some k := fun k hk => by rw [hSd.out] at hk; exact hk
          have hSr : ∀ k, v.1.ownBlock = some k → S k := fun k hk => by rw [hSd.out]; exact hk
          have hS2R : ¬ S R := fun e => h3.ne hs2.syms (by decide) R (hSi R e) rfl
          have hS2b : ¬ S b := fun e => own_not hs2.syms h3.nds.row (by decide) b (by rw [e1.out]; rfl) (hSi b e)
          have hS2w : ∀ k, S k → w.heap.size ≤ k := fun k hk => by
            rcases (hg1 n v hv).1 k (hSi k hk) with e | ⟨v9, e4, e5⟩
            · exact e
            · rw [hv0 v9 e4] at e5; cases e5
          clear hrd3 hSyR hGs hm6
          go_wp2_with fail
          refine Reg.startX (R := Chg S) (by kernel_rfl) ?_
          have hRl := Reg.rl_chg S
          generalize hwq : World.drew _ = wq
          have hxq : Ext wr wq := by rw [← hwq]; exact (Ext.refl wr).drew
          clear hwq
          have hq := h3.ext hxq
          have hsq := hs2.ext hxq
          have hszq := hxq.size
          have r2 : ∀ W, Chg S wq W → W.cell? ⟨R, 2, none⟩ = some (.slice (some ⟨b, 0, none⟩) nn c) := fun W hW => hW.cell (hxq.cell y2) hS2R
          have r4 : ∀ W, Chg S wq W → W.cell? ⟨b, n * 6 + 3, none⟩ = some (.slice A3 i c3) := fun W hW => hW.cell (hxq.cell y3) hS2b
          clear y2 y3
          refine Reg.tx hRl 0 ?_; (try simp only [Reg.n1, Reg.n2, Reg.n3, Reg.n4, Reg.n5, Reg.n6, Reg.n7])
          refine Reg.tx hRl 1 ?_; (try simp only [Reg.n1, Reg.n2, Reg.n3, Reg.n4, Reg.n5, Reg.n6, Reg.n7])
          refine Reg.tx hRl 2 ?_; (try simp only [Reg.n1, Reg.n2, Reg.n3, Reg.n4, Reg.n5, Reg.n6, Reg.n7])
          refine Reg.tx hRl 3 ?_; (try simp only [Reg.n1, Reg.n2, Reg.n3, Reg.n4, Reg.n5, Reg.n6, Reg.n7])
          refine Reg.tx hRl 4 ?_; (try simp only [Reg.n1, Reg.n2, Reg.n3, Reg.n4, Reg.n5, Reg.n6, Reg.n7])
          refine Reg.tx hRl 5 ?_; (try simp only [Reg.n1, Reg.n2, Reg.n3, Reg.n4, Reg.n5, Reg.n6, Reg.n7])
          refine Reg.tx hRl 6 ?_; (try simp only [Reg.n1, Reg.n2, Reg.n3, Reg.n4, Reg.n5, Reg.n6, Reg.n7])
          refine Reg.tx hRl 7 ?_; (try simp only [Reg.n1, Reg.n2, Reg.n3, Reg.n4, Reg.n5, Reg.n6, Reg.n7])
          refine Reg.tx hRl 8 ?_; (try simp only [Reg.n1, Reg.n2, Reg.n3, Reg.n4, Reg.n5, Reg.n6, Reg.n7])
          refine Reg.tx hRl 9 ?_; (try simp only [Reg.n1, Reg.n2, Reg.n3, Reg.n4, Reg.n5, Reg.n6, Reg.n7])
          refine Reg.tx hRl 10 ?_; (try simp only [Reg.n1, Reg.n2, Reg.n3, Reg.n4, Reg.n5, Reg.n6, Reg.n7])
          refine Reg.tx hRl 11 ?_; (try simp only [Reg.n1, Reg.n2, Reg.n3, Reg.n4, Reg.n5, Reg.n6, Reg.n7])
          refine Reg.tx hRl 12 ?_; (try simp only [Reg.n1, Reg.n2, Reg.n3, Reg.n4, Reg.n5, Reg.n6, Reg.n7])
          refine Reg.tx hRl 13 ?_; (try simp only [Reg.n1, Reg.n2, Reg.n3, Reg.n4, Reg.n5, Reg.n6, Reg.n7])
          refine Reg.onlyX 14 _ rfl (by kernel_rfl) (by decide) (by rfl) (fun K hK => ?_); go_simp
          have ha : Ext wq (wq.alloc (.cells #[.string x1] 9)) := (Ext.refl wq).alloc _
          refine hK.out _ _ (Chg.ofExt ha) ?_; clear hK K; (try simp only [Reg.n1, Reg.n2, Reg.n3, Reg.n4, Reg.n5, Reg.n6, Reg.n7])
          refine Reg.onlyX 15 _ rfl (by kernel_rfl) (by decide) (by rfl) (fun K hK => ?_)
          refine wp_app el_str _ (.tmp 115) (.tmp 117) rfl B (.slice A3 i c3) i (txs d.syms) rfl (by rw [← hv2i.out, ← hls2'.out]; exact own_ext hsq.syms ha) (some ⟨wq.heap.size, 0, none⟩) 1 1 (txs [x1]) rfl (Rd.of_block wq 9 (0, 0) rfl) rfl (fun h => by cases h) (txs_one' [x1]) (by omega) (by omega) (by simp; omega) ?_
          intro V2 w4 ho3 hg3 hv3
          obtain ⟨A6, c6, rfl, jj1, jj2, jj3, jj4⟩ := Rd.of_own ho3
          clear jj1 jj2 jj3 jj4
          have hch3 : Chg S (wq.alloc (.cells #[.string x1] 9)) w4 := (Chg.ofGrown hg3).mono fun k _ e => hSr k (by rw [hv2i.out]; exact e)
          have hch : Chg S wq w4 := (Chg.ofExt ha).trans hch3 (fun _ _ e => e)
          refine hK.out _ _ hch3 ?_
          clear hK K
          (try simp only [Reg.n1, Reg.n2, Reg.n3, Reg.n4, Reg.n5, Reg.n6, Reg.n7])
          have c34 := r4 w4 hch
          have f34 := (hch.blk (hgb2.ext hxq) hS2b).frozen (n * 6 + 3)
          refine Reg.tx hRl 16 ?_; (try simp only [Reg.n1, Reg.n2, Reg.n3, Reg.n4, Reg.n5, Reg.n6, Reg.n7])
          refine Reg.tx hRl 17 ?_; (try simp only [Reg.n1, Reg.n2, Reg.n3, Reg.n4, Reg.n5, Reg.n6, Reg.n7])
          refine Reg.lastX 18 _ rfl (by kernel_rfl) (by kernel_rfl) (by kernel_rfl) (by decide) (by rfl) (fun K hK => ?_)
          go_simp
          refine hK.out _ _ ?_; clear hK K; (try simp only [Reg.n1, Reg.n2, Reg.n3, Reg.n4, Reg.n5, Reg.n6, Reg.n7])
          obtain ⟨G, hG⟩ : ∃ G : V3 → V3, G = fun v => (.slice A6 (i + 1) c6, v.2.1, v.2.2) := ⟨_, rfl⟩
          have hV6 : ∀ k, (Value.slice A6 (i + 1) c6).ownBlock = some k → wr.heap.size ≤ k ∨ v.1.ownBlock = some k := fun k hk => by
            rcases hv3 with e | e
            · rw [e, ← hv2i.out] at hk; exact .inr hk
            · rw [e] at hk; injection hk with hk; left; simp at hk; omega
          have hGn : ∀ u, vs1[n]? = some u → u = v := fun u hu => by rw [hv] at hu; injection hu with hu; exact hu.symm
          have hap : Ap (vs1.modify n G) := ap_new (w := wr) h3.ap h3.subLt (fun u hu => by
            obtain rfl := hGn u hu
            subst hG
            exact ⟨fun k hk => hV6 k hk, fun k hk => .inr hk, fun k hk => .inr hk⟩)
          have hqv := hq
          rw [e1.out, ← hnn.out, ← hqbn] at hqv
          have hRf := hqv.refill (S := S) (n := n) (i := 3) hch (fun k hk => (hs2.syms.lt k (hSi k hk)).1) hS2R hS2b
            (fun j d' v' hj q3 q4 => by
              have hsj := h3.nds.sub j d' v' q3 q4
              exact ⟨fun k hk e => (h3.ap j n v' v q4 hv hj).1 k hk (hSi k e), fun k hk e => own_not hs2.syms hsj.items (by decide) k hk (hSi k e), fun k hk e => own_not hs2.syms hsj.fields (by decide) k hk (hSi k e)⟩)
            hnb (by omega) (fun d => { d with syms := d.syms ++ [x1] }) G (.slice A6 (i + 1) c6) (fun d' v' q3 q4 => by
              obtain rfl := hGn v' q4
              rw [hdb] at q3; injection q3 with q3; subst q3
              subst hG
              refine ⟨rfl, ?_, own_chg hsq.items hch (fun k hk e => own_not hsq.syms hsq.items (by decide) k hk (hSi k e)), own_chg hsq.fields hch (fun k hk e => own_not hsq.syms hsq.fields (by decide) k hk (hSi k e))⟩
              show w4.ownsRow B 9 1 (.slice A6 (i + 1) c6) (d.syms ++ [x1]).length (txs (d.syms ++ [x1]))
              rw [List.length_append, hls2'.out, show txs (d.syms ++ [x1]) = txs d.syms ++ txs [x1] by simp [txs]]
              exact ho3) hap
          rw [hqbn, hnn.out, ← e1.out] at hRf
          have hchF : Chg (Wq R vn) w (w4.setCell ⟨b, n * 6 + 3, none⟩ (.slice A6 (i + 1) c6)) :=
            (((hc03.trans (Chg.ofExt hxq) (fun _ _ e => e)).trans hch (fun k hk e => by have := hS2w k e; omega)).set (p := ⟨b, n * 6 + 3, none⟩) (.inl (.inr (by rw [e1.out]; rfl))) _)
          have hgF : SF w vs (vs1.modify n G) := hg1.trans (sf_modify w vs1 n G (fun u hu => by
            obtain rfl := hGn u hu
            subst hG
            exact ⟨fun k hk => (hV6 k hk).imp (fun e => by omega) (fun e => e), fun k hk => .inr hk, fun k hk => .inr hk⟩)) (Nat.le_refl _)
          obtain ⟨wf, hwf⟩ : ∃ z, Hid (w4.setCell ⟨b, n * 6 + 3, none⟩ (.slice A6 (i + 1) c6) = z) := ⟨_, rfl⟩
          rw [hwf.out] at hRf hchF ⊢
          have hon := on_any wf hRf
          rw [← hsy] at hon
          obtain ⟨q3, hq3⟩ : ∃ z, Hid (symQ L n q1 = z) := ⟨_, Lib.hid rfl⟩
          rw [hq3.out] at hon hgs hR1'
          clear hap r2 r4 hq hsq hs2 hV6 hGn hRf hqv hsy
          go_wp2_with fail
          refine hon.mono ?_
          rintro e w5 ⟨rfl, hc5, h5⟩
          have hch5 : Chg (Wq R vn) w w5 := hchF.trans hc5 (fun k _ e => .inl e)
          have hhere := here_any cGt w5 h5
          rw [show cGt = (⟨#[62]⟩ : ByteArray) from rfl] at hhere hR1'
          clear hon
          go_wp2_with fail
          refine hhere.mono ?_
          rintro e w6 ⟨rfl, hx6⟩
          have h6 := h5.ext hx6
          have hch6 : Chg (Wq R vn) w w6 := hch5.trans (Chg.ofExt hx6) (fun _ _ e => e)
          rw [show (⟨#[62]⟩ : ByteArray) = cGt from rfl] at hR1' ⊢
          have hn3 : n < q3.ns.length := by rw [hgs.2.2]; exact hn1
          have hW3 : WQ L (q3.at_ + if q3.why = 0 then 1 else K) q3 := by
            split
            · next hz => exact (hgs.1.ok hz).le (by omega)
            · next hz => exact hgs.1.no hz
          cases hb : hereQ L q3 cGt with
          | true =>
            rw [hb, if_pos rfl] at hR1'
            have hon := on_any w6 h6
            rw [hR1'] at hon
            clear hhere
            go_wp2_with fail
            refine hon.mono ?_
            rintro e w7 ⟨rfl, hc7, h7⟩
            go_wp2_with fail
            refine bodyPost_ret (results_none rfl _ _ _) rfl ?_
            exact hfin _ ⟨hch6.trans hc7 (fun k _ e => .inl e), _, _, h7, .inl rfl, hgF⟩
          | false =>
            rw [hb, if_neg (by simp)] at hR1'
            have hsg := sign_any cCom w6 h6
            have hGs := gq_sign hTk hK hW3 cCom
            have hsn := signQ_ns (L := L) (q := q3) cCom
            have hsa := fun e => signQ_ok (L := L) (q := q3) (x := cCom) e
            have h6lt := h6.lt
            have hat3 := hgs.2.1
            rw [show cCom = (⟨#[44]⟩ : ByteArray) from rfl] at hsg
            obtain ⟨q4, hq4⟩ : ∃ z, Hid (signQ L q3 cCom = z) := ⟨_, rfl⟩
            rw [show (⟨#[44]⟩ : ByteArray) = cCom from rfl, hq4.out] at hsg
            rw [show cCom = (⟨#[44]⟩ : ByteArray) from rfl] at hsg
            rw [hq4.out] at hR1' hGs hsn hsa
            have hR4 := Lib.hid hR1'
            clear hhere hR1'
            go_wp2_with fail
            refine hsg.mono ?_
            rintro e w7 ⟨rfl, hc7, h7⟩
            have hms7 := h7.meas
            have hadv : q4.why = 0 → q1.at_ < q4.at_ := fun e => by
              obtain ⟨a1, a2, a3⟩ := hsa e
              rw [a3, onQ_adv hTk h6lt (by rw [(here_k a2).1]; decide) a1]
              show q1.at_ < q3.at_ + 1
              omega
            go_wp2_with fail
            go_roundw
            case rel => exact ⟨m, q4, _, h7, hch6.trans hc7 (fun k _ e => .inl e), hgF, hR4, hGs, by rw [hsn]; omega, fun e => by have := hadv e; have := hm1 hw1; omega⟩
            case measure =>
              rw [hms7, hms, if_pos hw1]
              have := h1.lt
              split
              · next e => have := hadv e; omega
              · omega
    · have hneb : ((q1.why : Int) == 0) = false := by simpa using (by omega : ¬ (q1.why : Int) = 0)
      have hall : symsQ L n m q1 = q1 := by
        cases m with
        | zero => rfl
        | succ m => rw [symsQ, if_pos hw1]
      have hne : ¬ (q1.why : Int) = 0 := by omega
      have hRq : q1 = R0 := by rw [← hall]; exact hR1.out
      subst hRq
      have hpt : PT B R vl vn vs L w q1 wr := ⟨hc1, vn, vs1, h1, .inl rfl, hg1⟩
      obtain ⟨y, hyy⟩ : ∃ z, Hid (q1.why = z) := ⟨_, Lib.hid rfl⟩
      rw [hyy.out] at hy hneb hne
      clear hR1 hR0 hall hms hm1 hG1 h1 hw1 hn1
      go_wp2_with fail
      go_end0
      exact hfin _ hpt
end
end Go.Proofs.YtejcacbbhijdcaaGreatDoor.Pr
