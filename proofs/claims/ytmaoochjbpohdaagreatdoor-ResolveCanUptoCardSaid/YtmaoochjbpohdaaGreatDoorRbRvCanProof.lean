/- suffragan/suffraganlaw10.ResolveCan: the given statement, out of the contract of its walk. Of what reads up to the bound. -/
import Derived.Test.YtmaoochjbpohdaaGreatDoorRbZA
set_option linter.unusedVariables false
set_option linter.unusedSimpArgs false
set_option maxRecDepth 100000
set_option maxHeartbeats 1000000
open Go.ChangeShapes Go.WideShapes Go.ChangeAt Go.RowKit
namespace Go.Proofs.YtmaoochjbpohdaaGreatDoor
namespace Rv
open Base Lx Mi Pr Mp Rx
set_option maxHeartbeats 2000000 in
theorem Alike_any (a b : List Ne) (va vb : Value) (w : World) (hSa : Sch w.heap.size w va a) (hSb : Sch w.heap.size w vb b) (hwd : Wd w) (hpow : Pow w) (hLa : showLen a ≤ 100000000) (hLb : showLen b ≤ 100000000) :
  Calls Tryz.prog 22 #[.agg #[va], .agg #[vb]] w fun en w' => en = .returned (.bool (canB a b && canB b a)) ∧ Ext w w' := by
 obtain ⟨A1, k1, c1, rfl⟩ := Rv.Sch.slice hSa
 obtain ⟨A2, k2, c2, rfl⟩ := Rv.Sch.slice hSb
 obtain ⟨q, hq⟩ : ∃ z, Hid (w.heap.size = z) := ⟨_, rfl⟩
 obtain ⟨w1, hw1⟩ : ∃ z, Hid ((w.alloc (.cells #[.slice A1 k1 c1] 24)).alloc (.cells #[.slice A2 k2 c2] 24) = z) := ⟨_, rfl⟩
 have hx1 : Ext w w1 := by rw [← hw1.out]; exact ((Ext.refl w).alloc _).alloc _
 have hbA : Blk w1 q #[.slice A1 k1 c1] 24 := by rw [← hw1.out, ← hq.out]; exact (Blk.new w _ _).ext ((Ext.refl _).alloc _)
 have hbB : Blk w1 (q + 1) #[.slice A2 k2 c2] 24 := by
  have hn := Blk.new (w.alloc (.cells #[.slice A1 k1 c1] 24)) #[.slice A2 k2 c2] 24
  rw [World.size_alloc, hq.out, hw1.out] at hn
  exact hn
 have S1 : ∀ W, Ext w1 W → Sch W.heap.size W (.slice A1 k1 c1) a := fun W hW => (hSa.below (hx1.trans hW)).mono (hx1.trans hW).size
 have S2 : ∀ W, Ext w1 W → Sch W.heap.size W (.slice A2 k2 c2) b := fun W hW => (hSb.below (hx1.trans hW)).mono (hx1.trans hW).size
 have cA : ∀ W, Ext w1 W → W.cell? ⟨q, 0, none⟩ = some (.slice A1 k1 c1) := fun W hW => by have := (hbA.ext hW).cell 0; simpa using this
 have cB : ∀ W, Ext w1 W → W.cell? ⟨q + 1, 0, none⟩ = some (.slice A2 k2 c2) := fun W hW => by have := (hbB.ext hW).cell 0; simpa using this
 have h12 := can_any a b _ _ w1 (S1 w1 (Ext.refl _)) (S2 w1 (Ext.refl _)) (hwd.ext hx1) (hpow.ext hx1) hLa hLb
 have h21 := fun W hW => can_any b a _ _ W (S2 W hW) (S1 W hW) (hwd.ext (hx1.trans hW)) (hpow.ext (hx1.trans hW)) hLb hLa
 have g1 := cA w1 (Ext.refl _)
 have g2 := cB w1 (Ext.refl _)
 obtain ⟨x, hx⟩ : ∃ z, Hid (canB a b = z) := ⟨_, rfl⟩
 obtain ⟨y, hy⟩ : ∃ z, Hid (canB b a = z) := ⟨_, rfl⟩
 rw [hx.out] at h12
 simp only [hy.out] at h21
 rw [hx.out, hy.out]
 obtain ⟨PO, hPO⟩ : ∃ PO : Ending → World → Prop, Hid ((fun en w' => en = .returned (.bool (x && y)) ∧ Ext w w') = PO) := ⟨_, Lib.hid rfl⟩
 have fin : ∀ v W, (x && y) = v → Ext w W → PO (.returned (.bool v)) W := fun v W h hW => by rw [← hPO.out, h]; exact ⟨rfl, hW⟩
 rw [hPO.out]
 replace h21 := Lib.hid h21
 replace cA := Lib.hid cA
 replace cB := Lib.hid cB
 replace fin := Lib.hid fin
 clear S1 S2 hSa hSb hLa hLb
 go_enter Tryz.func22, Tryz.ntmps22
 go_wp2_with fail
 rw [hw1.out]
 try rw [hq.out]
 refine h12.mono ?_
 rintro e w2 ⟨rfl, hx2⟩
 clear h12 g1 g2
 cases x with
 | false =>
  have hf := fin.out false w2 rfl (hx1.trans hx2)
  go_wp2_with fail
  exact hf
 | true =>
  have g1 := cA.out w2 hx2
  have g2 := cB.out w2 hx2
  have hc := h21.out w2 hx2
  go_wp2_with fail
  refine hc.mono ?_
  rintro e w3 ⟨rfl, hx3⟩
  have hf := fin.out y w3 (Bool.true_and y) (hx1.trans (hx2.trans hx3))
  clear hc g1 g2
  go_wp2_with fail
  exact hf
set_option maxHeartbeats 6000000 in
theorem canLaw_any (u1 u2 : Value) (n1 n2 : List Ne) (w : World) (h1 : Sch w.heap.size w u1 n1) (h2 : Sch w.heap.size w u2 n2) (hb1 : Args.schB n1 ≤ 1048576) (hb2 : Args.schB n2 ≤ 1048576) (hwd : Wd w) (hpow : Pow w) :
  Calls Tryz.prog 5 #[.agg #[u1], .agg #[u2]] w fun e w' => e = .returned (.bool true) ∧ Ext w w' := by
 have F := fine1 h1 hb1
 have G := fine1 h2 hb2
 obtain ⟨A1, k1, c1, rfl⟩ := Rv.Sch.slice h1
 obtain ⟨A2, k2, c2, rfl⟩ := Rv.Sch.slice h2
 obtain ⟨q, hq⟩ : ∃ z, Hid (w.heap.size = z) := ⟨_, rfl⟩
 obtain ⟨w1, hw1⟩ : ∃ z, Hid ((w.alloc (.cells #[.slice A1 k1 c1] 24)).alloc (.cells #[.slice A2 k2 c2] 24) = z) := ⟨_, rfl⟩
 have hx1 : Ext w w1 := by rw [← hw1.out]; exact ((Ext.refl w).alloc _).alloc _
 have hbA : Blk w1 q #[.slice A1 k1 c1] 24 := by rw [← hw1.out, ← hq.out]; exact (Blk.new w _ _).ext ((Ext.refl _).alloc _)
 have hbB : Blk w1 (q + 1) #[.slice A2 k2 c2] 24 := by
  have hn := Blk.new (w.alloc (.cells #[.slice A1 k1 c1] 24)) #[.slice A2 k2 c2] 24
  rw [World.size_alloc, hq.out, hw1.out] at hn
  exact hn
 have S1 : ∀ W, Ext w1 W → Sch W.heap.size W (.slice A1 k1 c1) n1 := fun W hW => (h1.below (hx1.trans hW)).mono (hx1.trans hW).size
 have S2 : ∀ W, Ext w1 W → Sch W.heap.size W (.slice A2 k2 c2) n2 := fun W hW => (h2.below (hx1.trans hW)).mono (hx1.trans hW).size
 have cA : ∀ W, Ext w1 W → W.cell? ⟨q, 0, none⟩ = some (.slice A1 k1 c1) := fun W hW => by have := (hbA.ext hW).cell 0; simpa using this
 have cB : ∀ W, Ext w1 W → W.cell? ⟨q + 1, 0, none⟩ = some (.slice A2 k2 c2) := fun W hW => by have := (hbB.ext hW).cell 0; simpa using this
 have hli := fun W (hW : Ext w1 W) => lives10_any W (hwd.ext (hx1.trans hW)) (hpow.ext (hx1.trans hW))
 have hownA := fun W hW => own_any (S1 W hW) (Nat.le_refl _) F.l1
 have hownB := fun W hW => own_any (S2 W hW) (Nat.le_refl _) G.l1
 have hr12 := fun W hW => rCan_any n1 n2 _ _ W (S1 W hW) (S2 W hW) F.shR G.shR
 have hr21 := fun W hW => rCan_any n2 n1 _ _ W (S2 W hW) (S1 W hW) G.shR F.shR
 have hcan := fun W v v' (hW : Ext w1 W) hS hS' => Can_any n1 n2 v v' W hS hS' (hwd.ext (hx1.trans hW)) (hpow.ext (hx1.trans hW)) F.sh G.sh
 have hali := fun W v v' (hW : Ext w1 W) hS hS' => Alike_any n1 n2 v v' W hS hS' (hwd.ext (hx1.trans hW)) (hpow.ext (hx1.trans hW)) F.sh G.sh
 have hfew := few10_any n1 n2 _ _ w1 (S1 w1 (Ext.refl _)) (S2 w1 (Ext.refl _)) F.bnd G.bnd
 have hl6 : fewP n1 n2 = true → (∀ d ∈ n1, Len6 d) ∧ ∀ d ∈ n2, Len6 d := few_len6
 obtain ⟨x, hx⟩ : ∃ z, Hid (canB n1 n2 = z) := ⟨_, rfl⟩
 obtain ⟨y, hy⟩ : ∃ z, Hid (canB n2 n1 = z) := ⟨_, rfl⟩
 simp only [hx.out] at hr12 hcan
 simp only [hy.out] at hr21
 simp only [hx.out, hy.out] at hali
 obtain ⟨m1, hm1⟩ : ∃ z, Hid (fewP n1 n2 = z) := ⟨_, Lib.hid rfl⟩
 simp only [hm1.out] at hfew hl6
 have g1 := cA w1 (Ext.refl _)
 have g2 := cB w1 (Ext.refl _)
 clear F G hb1 hb2 hbA hbB h1 h2
 replace hl6 := Lib.hid hl6
 replace hownA := Lib.hid hownA
 replace hownB := Lib.hid hownB
 replace hr12 := Lib.hid hr12
 replace hr21 := Lib.hid hr21
 replace hcan := Lib.hid hcan
 replace hali := Lib.hid hali
 replace hli := Lib.hid hli
 replace S1 := Lib.hid S1
 replace S2 := Lib.hid S2
 replace cA := Lib.hid cA
 replace cB := Lib.hid cB
 obtain ⟨PO, hPO⟩ : ∃ PO : Ending → World → Prop, Hid ((fun e w' => e = .returned (.bool true) ∧ Ext w w') = PO) := ⟨_, Lib.hid rfl⟩
 have fin : ∀ W, Ext w W → PO (.returned (.bool true)) W := fun W hW => by rw [← hPO.out]; exact ⟨rfl, hW⟩
 rw [hPO.out]
 replace fin := Lib.hid fin
 go_enter Tryz.func5, Tryz.ntmps5
 go_wp2_with fail
 rw [hw1.out]
 try rw [hq.out]
 refine hfew.mono ?_
 rintro e w2 ⟨rfl, hx2⟩
 clear hfew g1 g2
 cases m1 with
 | false =>
  have hc := hli.out w2 hx2
  go_wp2_with fail
  refine hc.mono ?_
  rintro e w3 ⟨rfl, hx3⟩
  have hf := fin.out w3 (hx1.trans (hx2.trans hx3))
  clear hc
  go_wp2_with fail
  exact hf
 | true =>
  obtain ⟨l1, l2⟩ := hl6.out rfl
  replace l1 := Lib.hid l1
  replace l2 := Lib.hid l2
  have cA2 : ∀ W, Ext w2 W → W.cell? ⟨q, 0, none⟩ = some (.slice A1 k1 c1) := fun W hW => cA.out W (hx2.trans hW)
  have cB2 : ∀ W, Ext w2 W → W.cell? ⟨q + 1, 0, none⟩ = some (.slice A2 k2 c2) := fun W hW => cB.out W (hx2.trans hW)
  go_wp2_with fail
  refine Reg.startE (by kernel_rfl) ?_
  iterate 2 ((first | refine Reg.tn ?_ | refine Reg.sn ?_); (try simp only [Reg.nn]))
  refine Reg.tk 3 ?_; (try simp only [Reg.nn])
  refine Reg.tk 4 ?_; (try simp only [Reg.nn])
  clear cA2 cB2
  refine Reg.onlyE 2 _ rfl (by kernel_rfl) (by decide) (by rfl) (fun W hW K hK => ?_); go_simp
  refine (hr12.out W (hx2.trans hW)).mono ?_
  rintro e wX ⟨rfl, hX⟩
  have hq1 := hx2.trans (hW.trans hX)
  refine hK.out _ _ (hX) ?_; clear hK K; (try simp only [Reg.nn])
  refine Reg.onlyE 5 _ rfl (by kernel_rfl) (by decide) (by rfl) (fun W hW K hK => ?_); go_simp
  refine (hr21.out W (hq1.trans hW)).mono ?_
  rintro e wY ⟨rfl, hY⟩
  have hq2 := hq1.trans (hW.trans hY)
  refine hK.out _ _ (hY) ?_; clear hK K; (try simp only [Reg.nn])
  iterate 2 ((first | refine Reg.tn ?_ | refine Reg.sn ?_); (try simp only [Reg.nn]))
  refine Reg.fin (by kernel_rfl) (fun W hW => ?_)
  obtain ⟨w5, hw5⟩ : ∃ z, z = W := ⟨_, rfl⟩
  rw [← hw5] at hW ⊢
  have hx5 := hq2.trans hW
  clear hw5 hW hq1 hq2
  have cA5 : ∀ W, Ext w5 W → W.cell? ⟨q, 0, none⟩ = some (.slice A1 k1 c1) := fun W hW => cA.out W (hx5.trans hW)
  have cB5 : ∀ W, Ext w5 W → W.cell? ⟨q + 1, 0, none⟩ = some (.slice A2 k2 c2) := fun W hW => cB.out W (hx5.trans hW)
  cases x <;> cases y
  all_goals
   go_wp2_with fail
   refine Reg.startE (by kernel_rfl) ?_
   refine Reg.tk 0 ?_; (try simp only [Reg.nn])
   refine Reg.tk 2 ?_; (try simp only [Reg.nn])
   refine Reg.tk 5 ?_; (try simp only [Reg.nn])
   refine Reg.onlyE 1 _ rfl (by kernel_rfl) (by decide) (by rfl) (fun W hW K hK => ?_); go_simp
   refine (hownA.out W (hx5.trans hW) l1.out).mono ?_
   rintro e wX ⟨v6, vs6, rfl, hO6, hX⟩
   have hq1 := hW.trans hX
   have hS6 := hO6.sch (Nat.le_refl _)
   replace hS6 := Lib.hid hS6
   clear hO6
   refine hK.out _ _ (hX) ?_; clear hK K; (try simp only [Reg.nn])
   refine Reg.onlyE 3 _ rfl (by kernel_rfl) (by decide) (by rfl) (fun W hW K hK => ?_); go_simp
   refine (hownB.out W (hx5.trans (hq1.trans hW)) l2.out).mono ?_
   rintro e wY ⟨v7, vs7, rfl, hO7, hY⟩
   have hq2 := hq1.trans (hW.trans hY)
   have hS6' := Lib.hid ((hS6.out.below (hW.trans hY)).mono (hW.trans hY).size)
   have hS7 := hO7.sch (Nat.le_refl _)
   replace hS7 := Lib.hid hS7
   clear hO7 hS6
   refine hK.out _ _ (hY) ?_; clear hK K; (try simp only [Reg.nn])
   refine Reg.onlyE 4 _ rfl (by kernel_rfl) (by decide) (by rfl) (fun W hW K hK => ?_); go_simp
   refine (hcan.out W v6 v7 (hx5.trans (hq2.trans hW)) ((hS6'.out.below hW).mono hW.size) ((hS7.out.below hW).mono hW.size)).mono ?_
   rintro e wZ ⟨rfl, hZ⟩
   have hq3 := hq2.trans (hW.trans hZ)
   have cA6 : ∀ W, Ext wZ W → W.cell? ⟨q, 0, none⟩ = some (.slice A1 k1 c1) := fun W hW => cA5 W (hq3.trans hW)
   have cB6 : ∀ W, Ext wZ W → W.cell? ⟨q + 1, 0, none⟩ = some (.slice A2 k2 c2) := fun W hW => cB5 W (hq3.trans hW)
   clear hS6' hS7
   refine hK.out _ _ (hZ) ?_; clear hK K; (try simp only [Reg.nn])
   iterate 3 ((first | refine Reg.tn ?_ | refine Reg.sn ?_); (try simp only [Reg.nn]))
   refine Reg.tk 10 ?_; (try simp only [Reg.nn])
   refine Reg.tk 13 ?_; (try simp only [Reg.nn])
   refine Reg.onlyE 9 _ rfl (by kernel_rfl) (by decide) (by rfl) (fun W hW K hK => ?_); go_simp
   refine (hownA.out W (hx5.trans (hq3.trans hW)) l1.out).mono ?_
   rintro e wX2 ⟨v8, vs8, rfl, hO8, hX2⟩
   have hq4 := hq3.trans (hW.trans hX2)
   have hS8 := hO8.sch (Nat.le_refl _)
   replace hS8 := Lib.hid hS8
   clear hO8
   refine hK.out _ _ (hX2) ?_; clear hK K; (try simp only [Reg.nn])
   refine Reg.onlyE 11 _ rfl (by kernel_rfl) (by decide) (by rfl) (fun W hW K hK => ?_); go_simp
   refine (hownB.out W (hx5.trans (hq4.trans hW)) l2.out).mono ?_
   rintro e wY2 ⟨v9, vs9, rfl, hO9, hY2⟩
   have hq5 := hq4.trans (hW.trans hY2)
   have hS8' := Lib.hid ((hS8.out.below (hW.trans hY2)).mono (hW.trans hY2).size)
   have hS9 := hO9.sch (Nat.le_refl _)
   replace hS9 := Lib.hid hS9
   clear hO9 hS8
   refine hK.out _ _ (hY2) ?_; clear hK K; (try simp only [Reg.nn])
   refine Reg.onlyE 12 _ rfl (by kernel_rfl) (by decide) (by rfl) (fun W hW K hK => ?_); go_simp
   refine (hali.out W v8 v9 (hx5.trans (hq5.trans hW)) ((hS8'.out.below hW).mono hW.size) ((hS9.out.below hW).mono hW.size)).mono ?_
   rintro e wZ2 ⟨rfl, hZ2⟩
   have hq6 := hq5.trans (hW.trans hZ2)
   clear hS8' hS9
   refine hK.out _ _ (hZ2) ?_; clear hK K; (try simp only [Reg.nn])
   iterate 6 ((first | refine Reg.tn ?_ | refine Reg.sn ?_); (try simp only [Reg.nn]))
   refine Reg.onlyE 20 _ rfl (by kernel_rfl) (by decide) (by rfl) (fun W hW K hK => ?_); go_simp
   refine (hli.out W (hx5.trans (hq6.trans hW))).mono ?_
   rintro e wV ⟨rfl, hV⟩
   have hq7 := hq6.trans (hW.trans hV)
   refine hK.out _ _ (hV) ?_; clear hK K; (try simp only [Reg.nn])
   iterate 2 ((first | refine Reg.tn ?_ | refine Reg.sn ?_); (try simp only [Reg.nn]))
   refine Reg.fin (by kernel_rfl) (fun W hW => ?_)
   have hf := fin.out W (hx1.trans (hx5.trans (hq7.trans hW)))
   go_wp2_with fail
   exact hf
end Rv
namespace resolveCanUpto
open Go.ChangeMaps (open_string shut_string)
open Base Args
theorem own : ownKnob Tryz.prog.godebug = none := by kernel_rfl
theorem laidOut : laidOutB Tryz.prog = true := by kernel_rfl
theorem laid_met (os : Os) : laidMet Tryz.prog Rows.resolveCanUptoRow.laid ((Pr.laidWorld os).forCall (fun _ _ => 0) ⟨#[], #[.agg #[.slice none 0 0], .agg #[.slice none 0 0]], []⟩).memory :=
 laidMet_of_run' 8 (by kernel_rfl) (by kernel_rfl)
theorem reads (os : Os) {H : Type} (enc : TypeId × Value → H) : ∃ places, DataW.whole enc Tryz.prog ((Pr.laidWorld os).forCall (fun _ _ => 0) ⟨#[], #[.agg #[.slice none 0 0], .agg #[.slice none 0 0]], []⟩).memory Tryz.f5.params.toList Rows.resolveCanSpec.vars false (#[.agg #[.slice none 0 0], .agg #[.slice none 0 0]] : Array Value).toList 8 = some ([.agg [.nil], .agg [.nil]], [], places) :=
 ⟨[], by kernel_rfl⟩
theorem lifted (os : Os) (started : os.Started) (H : Type) (enc : TypeId × Value → H) (F : Stop.Interp) :
  ReturnsInHanded {} Tryz.checked os 5 .any ((Rows.OpenSpec.upto Rows.resolveCanSpec).preRow enc Tryz.prog Tryz.f5 Rows.resolveCanUptoRow.domain false Rows.resolveCanUptoRow.laid) (((Rows.OpenSpec.upto Rows.resolveCanSpec).at F).post enc Tryz.prog Tryz.f5 false true false false) := by
 obtain ⟨places, hx⟩ := reads os enc
 refine returnsInHanded_of_row (C := Tryz.checked) (s := (Rows.OpenSpec.upto Rows.resolveCanSpec)) own started (by kernel_rfl) Tryz.func5
  (witness_row_at (enc := enc) (C := Tryz.checked) false (Pr.laidWorld os) #[.agg #[.slice none 0 0], .agg #[.slice none 0 0]] rfl (by kernel_rfl) (by kernel_rfl) (by kernel_rfl)
   (OpenSpec.preRow_of_cond 8 hx (by kernel_rfl) (fun k hk => by cases hk; kernel_rfl) (by kernel_rfl) (laid_met os))) ?_
 intro W base args ds gs before hval0 hW hcnd hk0 hsz0 hL _ _
 have hk := hk0 _ rfl
 have hval : ∀ (j : Nat) t v, Tryz.f5.params[j]? = some t → args[j]? = some v → Value.okWide Tryz.prog W .any base t v := hval0
 have hW' := hW
 obtain ⟨p, q, hAz, hV, rfl, hfz, hnd⟩ := hW
 have hA : DataW.TrodAll enc Tryz.prog W 0 (fun _ => true) true Tryz.f5.params.toList args.toList ds p := hAz
 rw [Tryz.params5] at hA hval
 obtain ⟨v0, vs0, d0, ds0, p0, q0, hargs, rfl, rfl, h0, r0⟩ := trodAll_cons hA
 obtain ⟨v1, vs1, d1, ds1, p1, q1, rfl, rfl, rfl, h1, r1⟩ := trodAll_cons r0
 obtain ⟨rfl, rfl, rfl⟩ := trodAll_nil r1
 obtain rfl : args = #[v0, v1] := by cases args; simp_all
 obtain ⟨rfl, rfl⟩ := trodVars_none hV
 have hbulk := bulk_le hk
 have k0 := h0
 have lt0 : ∀ x ∈ p0, x.block < W.heap.size := by obtain ⟨m, hm⟩ := k0; exact DataW.trod_lt m _ _ _ hm
 obtain ⟨u0, n0, rfl, hS0, hB0⟩ := sch_arg (hval 0 24 v0 rfl rfl) h0
 have hz0 : schB n0 ≤ 1048576 := Nat.le_trans hB0 (bulk_at hbulk (j := 0) rfl)
 have k1 := h1
 have lt1 : ∀ x ∈ p1, x.block < W.heap.size := by obtain ⟨m, hm⟩ := k1; exact DataW.trod_lt m _ _ _ hm
 obtain ⟨u1, n1, rfl, hS1, hB1⟩ := sch_arg (hval 1 24 v1 rfl rfl) h1
 have hz1 : schB n1 ≤ 1048576 := Nat.le_trans hB1 (bulk_at hbulk (j := 1) rfl)
 clear hAz hval0
 refine (Rv.canLaw_any u0 u1 n0 n1 W hS0 hS1 hz0 hz1 (Pr.tabs hL).1 (Pr.tabs hL).2).mono fun e W' ⟨he, bel⟩ => ?_
 have bel : Below W.heap.size W W' := bel
 subst he
 exact ⟨_, rfl, _, _, _, [], _, [], hW', trodAll_mk1 (shut_bool Tryz.underlying4 _), (trodAll_cons_mk (Below.trod laidOut (by kernel_rfl) (of_decide_eq_true (by kernel_rfl)) k0 bel lt0) (trodAll_cons_mk (Below.trod laidOut (by kernel_rfl) (of_decide_eq_true (by kernel_rfl)) k1 bel lt1) trodAll_mk0)), rfl, bel.frame _, fun h => by cases h⟩
theorem and2 {a b : Bool} (h : a = true) (k : b = true) : (a && b) = true := by rw [h, k]; rfl
theorem joined : joinedFacts Tryz.pinned.checked.prog 5 Tryz.f5 (Rows.OpenSpec.upto Rows.resolveCanSpec).bare Rows.resolveCanUptoRow = true := by
 unfold joinedFacts
 repeat' (with_reducible refine and2 ?_ ?_)
 all_goals as_aux_lemma => kernel_rfl
theorem said : Rows.ResolveCanUptoSaid :=
 OpenClaim.holds_of_cond 5 Tryz.f5 rfl rfl rfl rfl rfl rfl rfl ⟨rfl, rfl, rfl, rfl, rfl⟩ rfl rfl rfl rfl rfl (by kernel_rfl) Tryz.func5 joined
  (of_decide_eq_true (by kernel_rfl)) (by unfold Func.isWrapper; first | (rw [if_pos (by decide +kernel)]; kernel_rfl) | (rw [if_neg (by decide +kernel)]; exact ⟨rfl, rfl⟩))
  (fun os started H enc _ F => by rw [OpenClaim.pre_eq_preRow]; exact lifted os started H enc F)
theorem plain (f : FuncId) (fn : Func) (hf : Tryz.pinned.checked.prog.funcNamed "suffragan/suffraganlaw10.ResolveCan" = some f) (hfn : Tryz.pinned.checked.prog.funcs[f]? = some fn) :
  true = Tryz.pinned.checked.prog.looks [] ∧ ∀ (j : Nat) t, fn.params[j]? = some t → Tryz.pinned.checked.prog.wantsStandIn t = false := by
 obtain rfl : f = 5 := Option.some.inj ((show Tryz.prog.funcNamed "suffragan/suffraganlaw10.ResolveCan" = some 5 by kernel_rfl).symm.trans hf) |>.symm
 obtain rfl : fn = Tryz.f5 := (Option.some.inj (Tryz.func5.symm.trans hfn)).symm
 refine ⟨by kernel_rfl, fun j t ht => ?_⟩
 rw [Tryz.params5] at ht
 have hm := Array.mem_of_getElem? ht
 simp only [Array.mem_def, List.mem_cons, List.mem_nil_iff, or_false, or_self] at hm
 subst hm
 exact (show Tryz.prog.wantsStandIn 24 = false by kernel_rfl)
theorem proved : Rows.ResolveCanUptoCardSaid :=
 Claim7.holds_tied_plain_at .later [] _ _ _ _ said (fun _ h => by cases h) (by kernel_rfl) (fun _ h => by cases h) resolveCanUpto_row_tie rfl ⟨rfl, rfl⟩ (by kernel_rfl) rfl plain (by kernel_rfl)
#print axioms proved
end resolveCanUpto
end Go.Proofs.YtmaoochjbpohdaaGreatDoor
