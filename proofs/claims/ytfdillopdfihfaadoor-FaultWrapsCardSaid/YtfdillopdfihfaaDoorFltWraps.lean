/- fault: the law FaultWraps, walked. -/
import Derived.Test.YtfdillopdfihfaaDoorFltIs
namespace Go.Proofs.YtfdillopdfihfaaDoor.Flt
open Go.ChangeShapes Go.WideShapes Go.ChangeAt Go.RowKit Go.Extern.Stop Go.Stop Go.Extern
open Base
set_option linter.unusedVariables false
set_option linter.unusedSimpArgs false

theorem way_nil (w : World) : Calls Tryd.prog 15 #[.nilIface] w fun e w' => e = .returned (.slice none 0 0) ∧ Ext w w' := by
  have hxa := (Ext.refl w).alloc (.cells #[.string ByteArray.empty, .nilIface] 31)
  have has := as_nil (.iface 33 (.pointer (some ⟨w.heap.size, 0, none⟩))) (w.alloc (.cells #[.string ByteArray.empty, .nilIface] 31))
  go_enter Tryd.func15, Tryd.ntmps15
  go_wp2_with fail
  go_loopw [0, 3, 5, 6, 8, 9, 10, 11, 12, 13, 14] (fun v0 v3 v5 v6 v8 v9 v10 v11 v12 v13 v14 wv => v0 = .nilIface ∧ v3 = .slice none 0 0 ∧ wv = w.alloc (.cells #[.string ByteArray.empty, .nilIface] 31)) (fun _ _ _ _ _ _ _ _ _ _ _ _ => 0)
  case atStart => exact ⟨rfl, rfl, rfl⟩
  case round =>
    obtain ⟨rfl, rfl, rfl⟩ := hrel
    go_wp2_with fail
    refine has.mono ?_
    rintro e w2 ⟨rfl, hw2⟩
    go_wp2_with fail
    go_ret
    exact ⟨rfl, hxa⟩

set_option maxHeartbeats 1000000 in
theorem wraps_any (n : Int) (l : List ByteArray) (m c : Nat) (A : Option Addr) (w : World) (hg : Tab w) (hm : l.length = m) (hc : m ≤ c) (hr : Rd w A (txs l)) :
    Calls Tryd.prog 7 #[.int .i64 n, .slice A m c] w fun e w' => e = .returned (.bool true) ∧ Ext w w' := by
  have hfew := few_any l m c A w hm hc
  have hwr := wrapFew_any n l c A w hg hr
  obtain ⟨L, hL⟩ : ∃ L, Hid (l.take 60 = L) := ⟨_, rfl⟩
  have hrL : Rd w A (txs L) := by rw [← hL.out, ← txs_take]; exact hr.take 60
  rw [hL.out] at hfew hwr
  obtain ⟨k, hk⟩ : ∃ k, Hid (L.length = k) := ⟨_, rfl⟩
  have hk60 : Hid (k ≤ 60) := by show _ ≤ _; rw [← hk.out, ← hL.out, List.length_take]; omega
  rw [hk.out] at hfew hwr
  clear hm hr
  go_enter Tryd.func7, Tryd.ntmps7
  go_wp2_with fail
  refine hfew.mono ?_
  rintro e w2 ⟨rfl, hw⟩
  have hw := hw.symm
  subst hw
  clear hfew
  go_wp2_with fail
  refine hwr.mono ?_
  clear hwr
  rintro e w2 ⟨rfl, hx2⟩
  have hg2 := hg.ext hx2
  by_cases h0 : n = 0
  · subst h0
    by_cases hL0 : L = []
    · subst hL0
      have hk0 : 0 = k := hk.out
      subst hk0
      have hWhy := Why_any [] (.e 0) w2 hg2
      have hWay := fun W hg => way_any [] (.e 0) W hg (Nat.zero_le _)
      rw [show stV 0 [] = wrapV [] (Bs.e 0).v from rfl]
      rw [show (Bs.e 0).why = 0 from rfl] at hWhy
      obtain ⟨T, V, hV⟩ := wrapV_iface [] (.e 0)
      rw [hV] at hWhy hWay ⊢
      clear hV
      go_wp2_with fail
      refine hWhy.mono ?_
      rintro e w3 ⟨rfl, hx3⟩
      go_wp2_with fail
      refine (hWay w3 (hg2.ext hx3)).mono ?_
      rintro e w4 ⟨A', c', rfl, ho, hA, hx4⟩
      rw [show ([] : List ByteArray).length = 0 from rfl]
      go_wp2_with fail
      refine (lives_any w4 ((hg2.ext hx3).ext hx4)).mono ?_
      rintro e w5 ⟨rfl, hx5⟩
      go_wp2_with fail
      go_ret
      exact ⟨rfl, ((hx2.trans hx3).trans hx4).trans hx5⟩
    · rw [stV_zero _ hL0]
      have hWhy := Why_nil w2
      have hkp : ¬ k = 0 := fun e => hL0 (List.eq_nil_of_length_eq_zero (hk.out.trans e))
      have hkb : ((k : Int) == 0) = false := by simp; exact hkp
      go_wp2_with fail
      refine hWhy.mono ?_
      rintro e w3 ⟨rfl, hx3⟩
      go_wp2_with fail
      refine (way_nil w3).mono ?_
      rintro e w4 ⟨rfl, hx4⟩
      go_wp2_with fail
      refine (lives_any w4 ((hg2.ext hx3).ext hx4)).mono ?_
      rintro e w5 ⟨rfl, hx5⟩
      go_wp2_with fail
      go_ret
      exact ⟨rfl, ((hx2.trans hx3).trans hx4).trans hx5⟩
  · rw [stV_pos h0]
    obtain ⟨r, hrr⟩ : ∃ r, Hid (L.reverse = r) := ⟨_, rfl⟩
    have hrl : Hid (r.length = k) := by show _ = _; rw [← hrr.out, List.length_reverse, hk.out]
    rw [hrr.out]
    have hnb : (n == 0) = false := by simpa using h0
    have hWhy := fun W hg => Why_any r (.e n) W hg
    have hIs := fun W => is_any r (.e n) (.e n) true (isEnd_e n) W
    have hfi := fun W => fis_any r (.e n) n true h0 (isEnd_e n) W
    have hfz := fun W hg => fis_zero r (.e n) h0 W hg
    have hWay := fun W hg => way_any r (.e n) W hg (by have := hrl.out; have := hk60.out; omega)
    rw [show (Bs.e n).why = n from rfl] at hWhy
    rw [show (Bs.e n).v = .iface 24 (.int .i64 n) from rfl] at hWhy hIs hfi hfz hWay ⊢
    obtain ⟨T, V, hV⟩ := wrapV_iface r (.e n)
    rw [show (Bs.e n).v = .iface 24 (.int .i64 n) from rfl] at hV
    rw [hV] at hWhy hIs hfi hWay hfz ⊢
    rw [hrl.out] at hWay
    clear hV
    have hk6 : k ≤ 60 := hk60.out
    have hrL2 := hrL.ext hx2
    go_wp2_with fail
    go_loopw [7, 8, 42, 43, 44, 45, 46, 47, 48, 49, 50, 51, 52] (fun v7 v8 v42 v43 v44 v45 v46 v47 v48 v49 v50 v51 v52 wv => ∃ (q : Nat) (z : Int) (A' : Option Addr) (c' : Nat), q ≤ k ∧ v8 = .int .i64 z ∧ Hid (z = q - 1) ∧ v7 = .slice A' (k - q) c' ∧ OwnS wv (.slice A' (k - q) c') (txs (L.drop q).reverse) ∧ (∀ a, A' = some a → w2.heap.size ≤ a.block) ∧ Ext w2 wv) (fun _ v8 _ _ _ _ _ _ _ _ _ _ _ _ => (intOf v8 + 1).toNat)
    case atStart =>
      refine ⟨k, (k : Int) - 1, some ⟨w2.heap.size, 0, none⟩, 0, Nat.le_refl _, rfl, rfl, by rw [Nat.sub_self], ?_, fun a ha => by injection ha with ha; rw [← ha]; exact Nat.le_refl _, (Ext.refl w2).alloc _⟩
      rw [Nat.sub_self, List.drop_of_length_le (Nat.le_of_eq hk.out)]
      exact OwnS.zero _ _
    case round =>
      obtain ⟨q, z, A', c', hq, rfl, hz, rfl, ho, hA, hx⟩ := hrel
      have hgr := hg2.ext hx
      cases q with
      | zero =>
        have hz2 : z = -1 := by have := hz.out; omega
        clear hz
        subst hz2
        rw [Nat.sub_zero] at ho ⊢
        rw [List.drop_zero, hrr.out] at ho
        obtain ⟨A1, c1, e1, hrd, _⟩ := ho.rd
        have e1 := e1.symm
        injection e1 with e1 e2 e3
        subst e1; subst e3
        clear e2
        have hI := hIs wr
        go_wp2_with fail
        refine hI.mono ?_
        rintro e w3 ⟨rfl, hx3⟩
        have hg3 := hgr.ext hx3
        go_wp2_with fail
        refine (hWhy w3 hg3).mono ?_
        rintro e w4 ⟨rfl, hx4⟩
        have hg4 := hg3.ext hx4
        have hnn : (n == n) = true := beq_self_eq_true n
        go_wp2_with fail
        refine (hfi w4).mono ?_
        rintro e w5 ⟨rfl, hx5⟩
        have hg5 := hg4.ext hx5
        go_wp2_with fail
        refine (hfz w5 hg5).mono ?_
        rintro e w6 ⟨rfl, hx6⟩
        have hg6 := hg5.ext hx6
        go_wp2_with fail
        refine (hWay w6 hg6).mono ?_
        rintro e w7 ⟨A2, c2, rfl, ho2, hA2, hx7⟩
        have hg7 := hg6.ext hx7
        obtain ⟨A3, c3, e1, hrd2, _⟩ := ho2.rd
        have e1 := e1.symm
        injection e1 with e1 e2 e3
        subst e1; subst e3
        clear e2
        have hx37 := (((hx3.trans hx4).trans hx5).trans hx6).trans hx7
        go_wp2_with fail
        refine (same_any r (txs r).length A3 A1 c3 c1 w7 hrl.out (by omega) hrd2 (hrd.ext hx37)).mono ?_
        rintro e w8 ⟨rfl, hx8⟩
        go_wp2_with fail
        refine (lives_any w8 (hg7.ext hx8)).mono ?_
        rintro e w9 ⟨rfl, hx9⟩
        go_wp2_with fail
        go_ret
        exact ⟨rfl, (((hx2.trans hx).trans hx37).trans hx8).trans hx9⟩
      | succ q =>
        have hz2 : z = (q : Int) := by have := hz.out; omega
        clear hz hWhy hIs hfi hfz hWay
        subst hz2
        have hin : q < k := by omega
        have hin' : (q : Int) < k := by omega
        have hq0 : (q : Int) ≥ 0 := by omega
        obtain ⟨b1, o1, rfl, e1, _⟩ := (hrL2.ext hx).at_ (k := q) (by rw [txs_length, hk.out]; exact hin)
        obtain ⟨t, ht⟩ : ∃ s, Hid (L[q]'(by rw [hk.out]; exact hin) = s) := ⟨L[q]'(by rw [hk.out]; exact hin), rfl⟩
        rw [show (txs L)[q]'(by rw [txs_length, hk.out]; exact hin) = .string t by rw [← ht.out]; simp [txs]] at e1
        have hdr : (L.drop (q + 1)).reverse ++ [t] = (L.drop q).reverse := by
          rw [List.drop_eq_getElem_cons (i := q) (by rw [hk.out]; exact hin), ht.out, List.reverse_cons]
        obtain ⟨D, hD⟩ : ∃ D, Hid ((L.drop (q + 1)).reverse = D) := ⟨_, rfl⟩
        have hDl : Hid (D.length = k - (q + 1)) := by show _ = _; rw [← hD.out, List.length_reverse, List.length_drop, hk.out]
        rw [hD.out] at ho hdr
        obtain ⟨nd, hnd⟩ : ∃ x, Hid (k - (q + 1) = x) := ⟨_, rfl⟩
        rw [hnd.out] at ho ⊢
        have hnd60 : nd ≤ 60 := by have := hnd.out; omega
        go_wp2_with (
          refine wpList_oapp el_str _ rfl (.tmp 46) (.tmp 51) rfl (.slice A' nd c') (txs D) rfl (ho.ext ((Ext.refl wr).alloc _)) (txs_one _) (some ⟨wr.heap.size, 0, none⟩) 1 1 (txs [t]) rfl (Rd.of_block wr 9 (0, 0) rfl) rfl (fun h => by cases h) (txs_one _) (by rw [txs_length, hDl.out, hnd.out]; omega) (by omega) (fun v1 w4 ho4 hg4 hv4 => ?_)
          have hsz : w2.heap.size ≤ wr.heap.size := hx.size
          have hOld : ∀ a, (Value.slice A' nd c').ownBlock = some a → w2.heap.size ≤ a := fun a ha => by
            cases A' with
            | none => cases ha
            | some p =>
              have := hA p rfl
              simp only [Value.ownBlock, Option.some.injEq] at ha
              omega
          have hA4 : ∀ a, v1.ownBlock = some a → w2.heap.size ≤ a := fun a ha => by
            rcases hv4 with e | ⟨e, _⟩
            · rw [e] at ha; exact hOld a ha
            · rw [e] at ha; injection ha with ha; simp at ha; omega
          have hx4 : Ext w2 w4 := (hx.alloc _).then_grown hg4 hOld
          obtain ⟨A1, c1, rfl, _⟩ := ho4.rd
          clear hg4 hv4 hOld)
        have htx : txs D ++ txs [t] = txs (D ++ [t]) := by simp [txs]
        rw [htx, hdr, txs_length, List.length_reverse, List.length_drop, hk.out] at ho4
        refine ⟨⟨q, (q : Int) - 1, A1, c1, by omega, rfl, rfl, ?_, ho4, fun a ha => hA4 a.block (by rw [ha]; rfl), hx4⟩, ?_⟩
        · rw [txs_length, hDl.out, show (txs [t]).length = 1 from rfl, show k - (q + 1) + 1 = k - q by omega]
        · show ((q : Int) - 1 + 1).toNat < ((q : Int) + 1).toNat
          omega
end Go.Proofs.YtfdillopdfihfaaDoor.Flt
