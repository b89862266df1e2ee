/- fault: the law FaultFinds, walked. -/
import Derived.Test.YtfdillopdfihfaaDoorFltLaws
namespace Go.Proofs.YtfdillopdfihfaaDoor.Flt
open Go.ChangeShapes Go.WideShapes Go.ChangeAt Go.RowKit Go.Extern.Stop Go.Stop Go.Extern
open Base
set_option linter.unusedVariables false
set_option linter.unusedSimpArgs false

set_option maxHeartbeats 2000000 in
theorem finds_any (n : Int) (l : List ByteArray) (m c : Nat) (A : Option Addr) (s : ByteArray) (w : World) (hg : Tab w) (hm : l.length = m) (hc : m ≤ c) (hr : Rd w A (txs l)) :
    Calls Tryd.prog 3 #[.int .i64 n, .slice A m c, .string s] w fun e w' => e = .returned (.bool true) ∧ Ext w w' := by
  have hfew := few_any l m c A w hm hc
  obtain ⟨k, hk⟩ : ∃ k, Hid ((l.take 60).length = k) := ⟨_, rfl⟩
  have hk60 : Hid (k ≤ 60) := by show _ ≤ _; rw [← hk.out, List.length_take]; omega
  rw [hk.out] at hfew
  have hwr := wrapFew_any n l c A w hg hr
  rw [hk.out] at hwr
  go_enter Tryd.func3, Tryd.ntmps3
  go_wp2_with fail
  refine hfew.mono ?_
  rintro e w2 ⟨rfl, hw⟩
  have hw := hw.symm
  subst hw
  go_wp2_with fail
  refine hwr.mono ?_
  clear hwr hfew
  rintro e w2 ⟨rfl, hx2⟩
  have hg2 := hg.ext hx2
  have hat := at_st s n (l.take 60) w2 hg2
  obtain ⟨u, hu⟩ : ∃ u, Hid (stV n (l.take 60) = u) := ⟨_, rfl⟩
  rw [hu.out] at hat ⊢
  go_wp2_with fail
  refine hat.mono ?_
  clear hat
  rintro e w3 ⟨rfl, hx3⟩
  have hg3 := hg2.ext hx3
  by_cases h0 : n = 0
  · subst h0
    rw [stV_zero _ (by simp)]
    go_wp2_with fail
    refine (lives_any w3 hg3).mono ?_
    rintro e w5 ⟨rfl, hx5⟩
    go_wp2_with fail
    go_ret
    exact ⟨rfl, (hx2.trans hx3).trans hx5⟩
  · rw [stV_pos h0, List.reverse_append, show ([s] : List ByteArray).reverse = [s] from rfl, show [s] ++ (l.take 60).reverse = s :: (l.take 60).reverse from rfl]
    obtain ⟨r, hrr⟩ : ∃ r, Hid ((l.take 60).reverse = r) := ⟨_, rfl⟩
    have hrl : Hid (r.length = k) := by show _ = _; rw [← hrr.out, List.length_reverse, hk.out]
    rw [hrr.out]
    have hz := Blk.new w3 #[.string ByteArray.empty, .nilIface] 31
    have hxa := (Ext.refl w3).alloc (.cells #[.string ByteArray.empty, .nilIface] 31)
    have has := asF_top (s :: r) (.e n) w3.heap.size _ _ _ (hg3.ext hxa) hz
    obtain ⟨T, V, hV⟩ := wrapV_iface (s :: r) (.e n)
    rw [hV] at has ⊢
    clear hV
    go_wp2_with fail
    refine has.mono ?_
    clear has
    rintro e w4 ⟨rfl, W, hW, rfl⟩
    have hz4 := ((hz.ext hW).set 0 (.string s)).set 1 (wrapV r (Bs.e n).v)
    have hx4 : Ext w3 ((W.setCell ⟨w3.heap.size, 0, none⟩ (.string s)).setCell ⟨w3.heap.size, 1, none⟩ (wrapV r (Bs.e n).v)) := ((hxa.trans hW).setCell (Nat.le_refl _) _).setCell (Nat.le_refl _) _
    have hwhy := fun w => Why_any r (.e n) w
    have hway := fun w hg => way_any r (.e n) w hg (by have := hrl.out; have := hk60.out; omega)
    obtain ⟨T', V', hV'⟩ := wrapV_iface r (.e n)
    rw [hV'] at hz4 hx4 hwhy hway ⊢
    clear hV'
    obtain ⟨w4, hw4⟩ : ∃ x, (W.setCell ⟨w3.heap.size, 0, none⟩ (.string s)).setCell ⟨w3.heap.size, 1, none⟩ (.iface T' V') = x := ⟨_, rfl⟩
    rw [hw4] at hz4 hx4 ⊢
    clear hw4 hW hz hxa
    have e0 : w4.cell? ⟨w3.heap.size, 0, none⟩ = some (.string s) := hz4.cell 0
    have e1 : w4.cell? ⟨w3.heap.size, 1, none⟩ = some (.iface T' V') := hz4.cell 1
    have hg4 := hg3.ext hx4
    go_wp2_with fail
    refine (hwhy w4 hg4).mono ?_
    rintro e w5 ⟨rfl, hx5⟩
    rw [show (Bs.e n).why = n from rfl]
    have e1 : w5.cell? ⟨w3.heap.size, 1, none⟩ = some (.iface T' V') := hx5.cell e1
    have hg5 := hg4.ext hx5
    go_wp2_with fail
    refine (hway w5 hg5).mono ?_
    rintro e w6 ⟨A', c', rfl, ho, hA, hx6⟩
    rw [hrl.out]
    go_wp2_with fail
    refine (lives_any w6 (hg5.ext hx6)).mono ?_
    rintro e w7 ⟨rfl, hx7⟩
    go_wp2_with fail
    go_ret
    exact ⟨rfl, ((((hx2.trans hx3).trans hx4).trans hx5).trans hx6).trans hx7⟩
end Go.Proofs.YtfdillopdfihfaaDoor.Flt
