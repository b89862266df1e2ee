/- fault: the law FaultMax, walked. -/
import Derived.Test.YtfdillopdfihfaaDoorFltLaws
namespace Go.Proofs.YtfdillopdfihfaaDoor.Flt
open Go.ChangeShapes Go.WideShapes Go.ChangeAt Go.RowKit Go.Extern.Stop Go.Stop Go.Extern
open Base
set_option linter.unusedVariables false
set_option linter.unusedSimpArgs false

theorem grI_nonneg (n : Int) : 0 ≤ grI n := by unfold grI; repeat' split; all_goals omega
/-- the gravest -/
def gmax : List Int → Int
  | [] => 0
  | x :: r => max (grI x) (gmax r)
theorem gmax_nonneg : ∀ l, 0 ≤ gmax l
  | [] => Int.le_refl _
  | x :: r => by rw [gmax]; have := grI_nonneg x; omega
theorem gmax_snoc : ∀ (l : List Int) (x : Int), gmax (l ++ [x]) = max (gmax l) (grI x)
  | [], x => by simp only [List.nil_append, gmax]; exact Int.max_comm _ _
  | y :: r, x => by rw [List.cons_append, gmax, gmax_snoc r x, gmax]; omega
theorem at_err (s : ByteArray) (v : Int) (w : World) (hg : Tab w) : Calls Tryd.prog 10 #[.string s, .iface 24 (.int .i64 v)] w fun e w' => ∃ u, e = .returned u ∧ IsErr u v ∧ Ext w w' := by
  refine (at_any s [] (.e v) w hg).mono ?_
  rintro e w2 ⟨rfl, hx⟩
  refine ⟨_, rfl, ?_, hx⟩
  split
  · next h => exact .inl ⟨rfl, h⟩
  · exact .inr ⟨_, .e v, rfl, rfl⟩
theorem worse_gr {a b : Value} {x y : Int} (ha : IsErr a x) (hb : IsErr b y) (w : World) (hg : Tab w) :
    Calls Tryd.prog 19 #[a, b] w fun e w' => ∃ u z, e = .returned u ∧ IsErr u z ∧ grI z = max (grI x) (grI y) ∧ Ext w w' := by
  refine (worse_any ha hb w hg).mono ?_
  rintro e w2 ⟨rfl, hx⟩
  refine ⟨_, _, rfl, ite_why (p := grI y > grI x) ha hb, ?_, hx⟩
  split <;> omega
def vi (l : List Int) : List Value := l.map (Value.int .i64)

set_option maxHeartbeats 4000000 in
theorem max_any (l : List Int) (m c : Nat) (A : Option Addr) (s : ByteArray) (w : World) (hg : Tab w) (hm : l.length = m) (hc : m ≤ c) (hr : Rd w A (l.map (Value.int .i64))) :
    Calls Tryd.prog 6 #[.slice A m c, .string s] w fun e w' => e = .returned (.bool true) ∧ Ext w w' := by
  have Hm := Lib.hid hm
  clear hm
  obtain ⟨L, hL⟩ : ∃ L, Hid (l.take 60 = L) := ⟨_, rfl⟩
  obtain ⟨n, hn⟩ : ∃ n, Hid (L.length = n) := ⟨_, rfl⟩
  have hn60 : n = min 60 m := by rw [← hn.out, ← hL.out, List.length_take, Hm.out]
  have hrL : Rd w A (vi L) := by rw [vi, ← hL.out, List.map_take]; exact hr.take 60
  have hn6 : n ≤ 60 := by omega
  go_enter Tryd.func6, Tryd.ntmps6
  by_cases h60 : 60 < m
  · have e : n = 60 := by omega
    have h60' : (60 : Int) < m := by omega
    have hc' : (60 : Int) ≤ c := by omega
    clear hn60
    subst e
    go_wp2_with fail
    go_loopw [5, 6, 7, 8, 9, 15, 16, 17, 19, 20, 21, 22, 23, 24, 25, 26, 27, 28, 29, 30, 31, 32, 33, 34, 35, 36, 37, 38, 39, 40, 41, 42, 43, 44, 45, 46, 47, 48, 49, 50, 51] (fun v5 v6 v7 v8 v9 v15 v16 v17 v19 v20 v21 v22 v23 v24 v25 v26 v27 v28 v29 v30 v31 v32 v33 v34 v35 v36 v37 v38 v39 v40 v41 v42 v43 v44 v45 v46 v47 v48 v49 v50 v51 wv => ∃ (i : Nat) (a b : Value) (x y : Int), i ≤ 60 ∧ v8 = .int .i64 i ∧ v5 = a ∧ v6 = b ∧ v7 = .int .i64 (gmax (L.take i)) ∧ IsErr a x ∧ grI x = gmax (L.take i) ∧ IsErr b y ∧ grI y = gmax (L.drop (60 - i)) ∧ Ext w wv) (fun _ _ _ v8 _ _ _ _ _ _ _ _ _ _ _ _ _ _ _ _ _ _ _ _ _ _ _ _ _ _ _ _ _ _ _ _ _ _ _ _ _ _ => 60 - (intOf v8).toNat)
    case atStart => exact ⟨0, .nilIface, .nilIface, 0, 0, Nat.zero_le _, rfl, rfl, rfl, rfl, .inl ⟨rfl, rfl⟩, rfl, .inl ⟨rfl, rfl⟩, by rw [Nat.sub_zero, List.drop_of_length_le (by rw [hn.out]; omega)]; rfl, Ext.refl w⟩
    case round =>
      obtain ⟨i, a, b, x, y, hi, rfl, rfl, rfl, rfl, ha, hgx, hb, hgy, hx⟩ := hrel
      obtain ⟨M, hM⟩ : ∃ M, Hid (gmax (L.take i) = M) := ⟨_, rfl⟩
      rw [hM.out] at hgx ⊢
      replace hgx := Lib.hid hgx
      replace hgy := Lib.hid hgy
      by_cases hin : i < 60
      · have hin' : (i : Int) < 60 := by omega
        obtain ⟨j, hj⟩ : ∃ j : Nat, Hid (60 - 1 - i = j) := ⟨_, rfl⟩
        have hj' : (59 : Int) - (i : Int) = (j : Int) := by have := hj.out; omega
        have hjn : (j : Int) < 60 := by have := hj.out; omega
        have hjN : j < 60 := by have := hj.out; omega
        obtain ⟨b1, o1, rfl, -, eall⟩ := (hrL.ext hx).at_ (k := i) (by rw [vi, List.length_map, hn.out]; exact hin)
        obtain ⟨va, hva⟩ : ∃ s, Hid (L[i]'(by rw [hn.out]; exact hin) = s) := ⟨L[i]'(by rw [hn.out]; exact hin), rfl⟩
        obtain ⟨vb, hvb⟩ : ∃ s, Hid (L[j]'(by rw [hn.out]; exact hjN) = s) := ⟨L[j]'(by rw [hn.out]; exact hjN), rfl⟩
        have e1 : ∀ W, Ext wr W → W.cell? ⟨b1, o1 + i, none⟩ = some (.int .i64 va) := fun W hW => hW.cell (eall i _ (by rw [vi, List.getElem?_map, List.getElem?_eq_getElem (by rw [hn.out]; exact hin), hva.out]; rfl))
        have e2 : ∀ W, Ext wr W → W.cell? ⟨b1, o1 + j, none⟩ = some (.int .i64 vb) := fun W hW => hW.cell (eall j _ (by rw [vi, List.getElem?_map, List.getElem?_eq_getElem (by rw [hn.out]; exact hjN), hvb.out]; rfl))
        clear eall
        have ea := e1 wr (Ext.refl _)
        have hg0 := hg.ext hx
        go_wp2_with fail
        refine (at_err s va wr hg0).mono ?_
        rintro e w2 ⟨u, rfl, hu, hx2⟩
        go_wp2_with fail
        refine (worse_gr ha hu w2 (hg0.ext hx2)).mono ?_
        rintro e w3 ⟨a', x', rfl, ha', hgx', hx3⟩
        have eb := e2 w3 (hx2.trans hx3)
        have hg3 := (hg0.ext hx2).ext hx3
        clear ea
        go_wp2_with fail
        refine (at_err s vb w3 hg3).mono ?_
        rintro e w4 ⟨u', rfl, hu', hx4⟩
        go_wp2_with fail
        refine (worse_gr hu' hb w4 (hg3.ext hx4)).mono ?_
        rintro e w5 ⟨b', y', rfl, hb', hgy', hx5⟩
        have hx25 := ((hx2.trans hx3).trans hx4).trans hx5
        have ec := e1 w5 hx25
        clear eb
        have hwt := weight_any va w5
        obtain ⟨gv, hgv⟩ : ∃ g, Hid (grI va = g) := ⟨_, rfl⟩
        rw [hgv.out] at hwt
        replace hgx' := Lib.hid hgx'
        replace hgy' := Lib.hid hgy'
        go_wp2_with fail
        refine hwt.mono ?_
        rintro e w6 ⟨rfl, hw⟩
        have hw := hw.symm
        subst hw
        have ht1 : gmax (L.take (i + 1)) = max M gv := by
          rw [List.take_add_one, List.getElem?_eq_getElem (by rw [hn.out]; exact hin), hva.out]
          show gmax (L.take i ++ [va]) = _
          rw [gmax_snoc, hM.out, hgv.out]
        have hd1 : L.drop (60 - (i + 1)) = vb :: L.drop (60 - i) := by
          have e3 : 60 - (i + 1) = j := by have := hj.out; omega
          have e4 : 60 - i = j + 1 := by have := hj.out; omega
          rw [e3, e4, List.drop_eq_getElem_cons (by rw [hn.out]; exact hjN), hvb.out]
        have hA : grI x' = gmax (L.take (i + 1)) := by rw [hgx'.out, hgx.out, ht1, hgv.out]
        have hB : grI y' = gmax (L.drop (60 - (i + 1))) := by rw [hgy'.out, hgy.out, hd1, gmax]
        have hxx := hx.trans hx25
        clear e1 e2 ec hx25 hx hx2 hx3 hx4 hx5 hgx' hgy' hgx hgy hd1
        by_cases hgt : M < gv
        · have ht1 : gmax (L.take (i + 1)) = gv := by rw [ht1]; omega
          go_wp2_with fail
          exact ⟨⟨i + 1, a', b', x', y', by omega, by go_num, rfl, rfl, by rw [ht1], ha', hA, hb', hB, hxx⟩, by simp [intOf]; omega⟩
        · have ht1 : gmax (L.take (i + 1)) = M := by rw [ht1]; omega
          go_wp2_with fail
          exact ⟨⟨i + 1, a', b', x', y', by omega, by go_num, rfl, rfl, by rw [ht1], ha', hA, hb', hB, hxx⟩, by simp [intOf]; omega⟩
      · have hin' : ¬ (i : Int) < 60 := by omega
        have hiN : i = 60 := by omega
        have hB : Hid (grI y = M) := by
          show _ = _
          rw [hgy.out, ← hM.out, hiN, Nat.sub_self, List.drop_zero, List.take_of_length_le (by rw [hn.out]; omega)]
        have hg0 := hg.ext hx
        have hya := Why_err ha wr hg0
        have hyb := fun w => Why_err hb w
        obtain ⟨gx, hgx2⟩ : ∃ g, Hid (grI x = g) := ⟨_, rfl⟩
        clear ha hb
        go_wp2_with fail
        refine hya.mono ?_
        rintro e w2 ⟨rfl, hx2⟩
        have hgr := Grave_any x w2
        rw [hgx.out] at hgr
        go_wp2_with fail
        refine hgr.mono ?_
        rintro e w3 ⟨rfl, hw⟩
        have hw := hw.symm
        subst hw
        go_wp2_with fail
        refine (hyb w2 (hg0.ext hx2)).mono ?_
        rintro e w4 ⟨rfl, hx4⟩
        have hgr := Grave_any y w4
        rw [hB.out] at hgr
        go_wp2_with fail
        refine hgr.mono ?_
        rintro e w5 ⟨rfl, hw⟩
        have hw := hw.symm
        subst hw
        go_wp2_with fail
        refine (lives_any w4 ((hg0.ext hx2).ext hx4)).mono ?_
        rintro e w6 ⟨rfl, hx6⟩
        go_wp2_with fail
        go_ret
        exact ⟨rfl, ((hx.trans hx2).trans hx4).trans hx6⟩
  · have e : n = m := by omega
    have h60' : ¬ (60 : Int) < m := by omega
    clear hn60
    subst e
    go_wp2_with fail
    go_loopw [5, 6, 7, 8, 9, 15, 16, 17, 19, 20, 21, 22, 23, 24, 25, 26, 27, 28, 29, 30, 31, 32, 33, 34, 35, 36, 37, 38, 39, 40, 41, 42, 43, 44, 45, 46, 47, 48, 49, 50, 51] (fun v5 v6 v7 v8 v9 v15 v16 v17 v19 v20 v21 v22 v23 v24 v25 v26 v27 v28 v29 v30 v31 v32 v33 v34 v35 v36 v37 v38 v39 v40 v41 v42 v43 v44 v45 v46 v47 v48 v49 v50 v51 wv => ∃ (i : Nat) (a b : Value) (x y : Int), i ≤ n ∧ v8 = .int .i64 i ∧ v5 = a ∧ v6 = b ∧ v7 = .int .i64 (gmax (L.take i)) ∧ IsErr a x ∧ grI x = gmax (L.take i) ∧ IsErr b y ∧ grI y = gmax (L.drop (n - i)) ∧ Ext w wv) (fun _ _ _ v8 _ _ _ _ _ _ _ _ _ _ _ _ _ _ _ _ _ _ _ _ _ _ _ _ _ _ _ _ _ _ _ _ _ _ _ _ _ _ => n - (intOf v8).toNat)
    case atStart => exact ⟨0, .nilIface, .nilIface, 0, 0, Nat.zero_le _, rfl, rfl, rfl, rfl, .inl ⟨rfl, rfl⟩, rfl, .inl ⟨rfl, rfl⟩, by rw [Nat.sub_zero, List.drop_of_length_le (by rw [hn.out]; omega)]; rfl, Ext.refl w⟩
    case round =>
      obtain ⟨i, a, b, x, y, hi, rfl, rfl, rfl, rfl, ha, hgx, hb, hgy, hx⟩ := hrel
      obtain ⟨M, hM⟩ : ∃ M, Hid (gmax (L.take i) = M) := ⟨_, rfl⟩
      rw [hM.out] at hgx ⊢
      replace hgx := Lib.hid hgx
      replace hgy := Lib.hid hgy
      by_cases hin : i < n
      · have hin' : (i : Int) < n := by omega
        obtain ⟨j, hj⟩ : ∃ j : Nat, Hid (n - 1 - i = j) := ⟨_, rfl⟩
        have hj' : (n : Int) - 1 - (i : Int) = (j : Int) := by have := hj.out; omega
        have hjn : (j : Int) < n := by have := hj.out; omega
        have hjN : j < n := by have := hj.out; omega
        obtain ⟨b1, o1, rfl, -, eall⟩ := (hrL.ext hx).at_ (k := i) (by rw [vi, List.length_map, hn.out]; exact hin)
        obtain ⟨va, hva⟩ : ∃ s, Hid (L[i]'(by rw [hn.out]; exact hin) = s) := ⟨L[i]'(by rw [hn.out]; exact hin), rfl⟩
        obtain ⟨vb, hvb⟩ : ∃ s, Hid (L[j]'(by rw [hn.out]; exact hjN) = s) := ⟨L[j]'(by rw [hn.out]; exact hjN), rfl⟩
        have e1 : ∀ W, Ext wr W → W.cell? ⟨b1, o1 + i, none⟩ = some (.int .i64 va) := fun W hW => hW.cell (eall i _ (by rw [vi, List.getElem?_map, List.getElem?_eq_getElem (by rw [hn.out]; exact hin), hva.out]; rfl))
        have e2 : ∀ W, Ext wr W → W.cell? ⟨b1, o1 + j, none⟩ = some (.int .i64 vb) := fun W hW => hW.cell (eall j _ (by rw [vi, List.getElem?_map, List.getElem?_eq_getElem (by rw [hn.out]; exact hjN), hvb.out]; rfl))
        clear eall
        have ea := e1 wr (Ext.refl _)
        have hg0 := hg.ext hx
        go_wp2_with fail
        refine (at_err s va wr hg0).mono ?_
        rintro e w2 ⟨u, rfl, hu, hx2⟩
        go_wp2_with fail
        refine (worse_gr ha hu w2 (hg0.ext hx2)).mono ?_
        rintro e w3 ⟨a', x', rfl, ha', hgx', hx3⟩
        have eb := e2 w3 (hx2.trans hx3)
        have hg3 := (hg0.ext hx2).ext hx3
        clear ea
        go_wp2_with fail
        refine (at_err s vb w3 hg3).mono ?_
        rintro e w4 ⟨u', rfl, hu', hx4⟩
        go_wp2_with fail
        refine (worse_gr hu' hb w4 (hg3.ext hx4)).mono ?_
        rintro e w5 ⟨b', y', rfl, hb', hgy', hx5⟩
        have hx25 := ((hx2.trans hx3).trans hx4).trans hx5
        have ec := e1 w5 hx25
        clear eb
        have hwt := weight_any va w5
        obtain ⟨gv, hgv⟩ : ∃ g, Hid (grI va = g) := ⟨_, rfl⟩
        rw [hgv.out] at hwt
        replace hgx' := Lib.hid hgx'
        replace hgy' := Lib.hid hgy'
        go_wp2_with fail
        refine hwt.mono ?_
        rintro e w6 ⟨rfl, hw⟩
        have hw := hw.symm
        subst hw
        have ht1 : gmax (L.take (i + 1)) = max M gv := by
          rw [List.take_add_one, List.getElem?_eq_getElem (by rw [hn.out]; exact hin), hva.out]
          show gmax (L.take i ++ [va]) = _
          rw [gmax_snoc, hM.out, hgv.out]
        have hd1 : L.drop (n - (i + 1)) = vb :: L.drop (n - i) := by
          have e3 : n - (i + 1) = j := by have := hj.out; omega
          have e4 : n - i = j + 1 := by have := hj.out; omega
          rw [e3, e4, List.drop_eq_getElem_cons (by rw [hn.out]; exact hjN), hvb.out]
        have hA : grI x' = gmax (L.take (i + 1)) := by rw [hgx'.out, hgx.out, ht1, hgv.out]
        have hB : grI y' = gmax (L.drop (n - (i + 1))) := by rw [hgy'.out, hgy.out, hd1, gmax]
        have hxx := hx.trans hx25
        clear e1 e2 ec hx25 hx hx2 hx3 hx4 hx5 hgx' hgy' hgx hgy hd1
        by_cases hgt : M < gv
        · have ht1 : gmax (L.take (i + 1)) = gv := by rw [ht1]; omega
          go_wp2_with fail
          exact ⟨⟨i + 1, a', b', x', y', by omega, by go_num, rfl, rfl, by rw [ht1], ha', hA, hb', hB, hxx⟩, by simp [intOf]; omega⟩
        · have ht1 : gmax (L.take (i + 1)) = M := by rw [ht1]; omega
          go_wp2_with fail
          exact ⟨⟨i + 1, a', b', x', y', by omega, by go_num, rfl, rfl, by rw [ht1], ha', hA, hb', hB, hxx⟩, by simp [intOf]; omega⟩
      · have hin' : ¬ (i : Int) < n := by omega
        have hiN : i = n := by omega
        have hB : Hid (grI y = M) := by
          show _ = _
          rw [hgy.out, ← hM.out, hiN, Nat.sub_self, List.drop_zero, List.take_of_length_le (by rw [hn.out]; omega)]
        have hg0 := hg.ext hx
        have hya := Why_err ha wr hg0
        have hyb := fun w => Why_err hb w
        obtain ⟨gx, hgx2⟩ : ∃ g, Hid (grI x = g) := ⟨_, rfl⟩
        clear ha hb
        go_wp2_with fail
        refine hya.mono ?_
        rintro e w2 ⟨rfl, hx2⟩
        have hgr := Grave_any x w2
        rw [hgx.out] at hgr
        go_wp2_with fail
        refine hgr.mono ?_
        rintro e w3 ⟨rfl, hw⟩
        have hw := hw.symm
        subst hw
        go_wp2_with fail
        refine (hyb w2 (hg0.ext hx2)).mono ?_
        rintro e w4 ⟨rfl, hx4⟩
        have hgr := Grave_any y w4
        rw [hB.out] at hgr
        go_wp2_with fail
        refine hgr.mono ?_
        rintro e w5 ⟨rfl, hw⟩
        have hw := hw.symm
        subst hw
        go_wp2_with fail
        refine (lives_any w4 ((hg0.ext hx2).ext hx4)).mono ?_
        rintro e w6 ⟨rfl, hx6⟩
        go_wp2_with fail
        go_ret
        exact ⟨rfl, ((hx.trans hx2).trans hx4).trans hx6⟩
end Go.Proofs.YtfdillopdfihfaaDoor.Flt
