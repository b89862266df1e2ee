/- fault: the law FaultOthers, walked. -/
import Derived.Test.YtfdillopdfihfaaDoorFltIs
namespace Go.Proofs.YtfdillopdfihfaaDoor.Flt
open Go.ChangeShapes Go.WideShapes Go.ChangeAt Go.RowKit Go.Extern.Stop Go.Stop Go.Extern
open Base
set_option linter.unusedVariables false
set_option linter.unusedSimpArgs false

set_option maxHeartbeats 4000000 in
theorem others_any (s : ByteArray) (l : List ByteArray) (m c : Nat) (A : Option Addr) (w : World) (hg : Tab w) (hm : l.length = m) (hc : m ≤ c) (hr : Rd w A (txs l)) :
    Calls Tryd.prog 8 #[.string s, .slice A m c] w fun e w' => e = .returned (.bool true) ∧ Ext w w' := by
  have hfew := few_any l m c A w hm hc
  obtain ⟨L, hL⟩ : ∃ L, Hid (l.take 60 = L) := ⟨_, rfl⟩
  have hrL : Rd w A (txs L) := by rw [← hL.out, ← txs_take]; exact hr.take 60
  rw [hL.out] at hfew
  obtain ⟨k, hk⟩ : ∃ k, Hid (L.length = k) := ⟨_, rfl⟩
  have hk60 : Hid (k ≤ 60) := by show _ ≤ _; rw [← hk.out, ← hL.out, List.length_take]; omega
  rw [hk.out] at hfew
  go_enter Tryd.func8, Tryd.ntmps8
  go_wp2_with fail
  refine hfew.mono ?_
  rintro e w2 ⟨rfl, hw⟩
  have hw := hw.symm
  subst hw
  clear hfew
  go_wp2_with fail
  refine (new_any s w).mono ?_
  rintro e w2 ⟨rfl, hx2⟩
  have hse := isEnd_s ⟨w.heap.size, 0, none⟩
  have hsn := isEnd_se (some ⟨w.heap.size, 0, none⟩) 7
  have hwhy : (Bs.s (some ⟨w.heap.size, 0, none⟩)).why = 7 := rfl
  obtain ⟨b, hb⟩ : ∃ b, Hid (Bs.s (some ⟨w.heap.size, 0, none⟩) = b) := ⟨_, rfl⟩
  rw [hb.out] at hse hsn hwhy ⊢
  replace hwhy := Lib.hid hwhy
  replace hse := Lib.hid hse
  replace hsn := Lib.hid hsn
  clear hb
  go_wp2_with fail
  go_loopw [6, 7, 13, 14, 15, 16, 17, 18, 19, 20, 21, 22, 23, 24] (fun v6 v7 v13 v14 v15 v16 v17 v18 v19 v20 v21 v22 v23 v24 wv => ∃ i : Nat, i ≤ k ∧ v7 = .int .i64 i ∧ v6 = wrapV (L.take i).reverse b.v ∧ Ext w wv) (fun _ v7 _ _ _ _ _ _ _ _ _ _ _ _ _ => k - (intOf v7).toNat)
  case atStart => exact ⟨0, Nat.zero_le _, rfl, rfl, hx2⟩
  case round =>
    clear hx2
    obtain ⟨i, hi, rfl, rfl, hx⟩ := hrel
    have hg1 := hg.ext hx
    have hk6 : k ≤ 60 := hk60.out
    by_cases hin : i < k
    · have hin' : (i : Int) < k := by omega
      obtain ⟨b1, o1, rfl, e1, _⟩ := (hrL.ext hx).at_ (k := i) (by rw [txs_length, hk.out]; exact hin)
      obtain ⟨t, ht⟩ : ∃ s, Hid (L[i]'(by rw [hk.out]; exact hin) = s) := ⟨L[i]'(by rw [hk.out]; exact hin), rfl⟩
      rw [show (txs L)[i]'(by rw [txs_length, hk.out]; exact hin) = .string t by rw [← ht.out]; simp [txs]] at e1
      have hat := at_any t (L.take i).reverse b wr hg1
      rw [hwhy.out, if_neg (by decide)] at hat
      have htk : t :: (L.take i).reverse = (L.take (i + 1)).reverse := by rw [List.take_add_one, List.getElem?_eq_getElem (by rw [hk.out]; exact hin), ht.out]; simp
      rw [htk] at hat
      clear htk
      obtain ⟨u, hu⟩ : ∃ u, Hid (wrapV (L.take i).reverse b.v = u) := ⟨_, rfl⟩
      rw [hu.out] at hat ⊢
      obtain ⟨v, hv⟩ : ∃ u, Hid (wrapV (L.take (i + 1)).reverse b.v = u) := ⟨_, rfl⟩
      rw [hv.out] at hat
      go_wp2_with fail
      refine hat.mono ?_
      rintro e w3 ⟨rfl, hx3⟩
      go_wp2_with fail
      exact ⟨⟨i + 1, by omega, by go_num, hv.out.symm, hx.trans hx3⟩, by simp [intOf]; omega⟩
    · have hin' : ¬ (i : Int) < k := by omega
      obtain ⟨r, hrr⟩ : ∃ r, Hid ((L.take i).reverse = r) := ⟨_, rfl⟩
      have hrl : Hid (r.length = k) := by show _ = _; rw [← hrr.out, List.length_reverse, List.length_take, hk.out]; omega
      rw [hrr.out]
      have hWhy := Why_any r b wr hg1
      have hIs := fun W => is_any r b b true hse.out W
      have hfi := fun W => fis_any r b 7 false (by decide) hsn.out W
      have hWay := fun W hg => way_any r b W hg (by have := hrl.out; have := hk60.out; omega)
      obtain ⟨T, V, hV⟩ := wrapV_iface r b
      rw [hV] at hWhy hIs hfi hWay ⊢
      rw [hwhy.out] at hWhy
      clear hV
      go_wp2_with fail
      refine hWhy.mono ?_
      rintro e w3 ⟨rfl, hx3⟩
      go_wp2_with fail
      refine (hIs w3).mono ?_
      rintro e w4 ⟨rfl, hx4⟩
      have hg4 := (hg1.ext hx3).ext hx4
      go_wp2_with fail
      refine (hWay w4 hg4).mono ?_
      rintro e w5 ⟨A', c', rfl, ho, hA, hx5⟩
      rw [hrl.out]
      go_wp2_with fail
      refine (hfi w5).mono ?_
      rintro e w6 ⟨rfl, hx6⟩
      go_wp2_with fail
      refine (lives_any w6 ((hg4.ext hx5).ext hx6)).mono ?_
      rintro e w7 ⟨rfl, hx7⟩
      go_wp2_with fail
      go_ret
      exact ⟨rfl, ((((hx.trans hx3).trans hx4).trans hx5).trans hx6).trans hx7⟩
end Go.Proofs.YtfdillopdfihfaaDoor.Flt
