/- fault: how grave a reason is; texts compared; wrapping; what lives. -/
import Derived.Test.YtfdillopdfihfaaDoorFltAt
import Derived.Test.YtfdillopdfihfaaDoorArgs
import Derived.Test.YtfdillopdfihfaaDoorCut
import Derived.BigQuiet
namespace Go.Proofs.YtfdillopdfihfaaDoor.Flt
open Go.ChangeShapes Go.WideShapes Go.ChangeAt Go.RowKit Go.Extern.Stop Go.Stop Go.Extern
open Base
set_option linter.unusedVariables false
set_option linter.unusedSimpArgs false

/-- how grave a reason is -/
def grI (n : Int) : Int := if n = 0 then 0 else if n = 6 then 1 else if n = 5 ∨ n = 7 then 2 else if n = 1 ∨ n = 3 ∨ n = 4 then 3 else if n = 2 ∨ n = 8 then 4 else 5
theorem grave_any (n : Int) (w : World) : Calls Tryd.prog 29 #[.int .i64 n] w fun e w' => e = .returned (.int .i64 (grI n)) ∧ w' = w := by
  go_enter Tryd.func29, Tryd.ntmps29
  by_cases h0 : n = 0
  · subst h0
    go_wp2_with fail
    go_ret
    exact ⟨rfl, rfl⟩
  by_cases h1 : n = 1
  · subst h1
    go_wp2_with fail
    go_ret
    exact ⟨rfl, rfl⟩
  by_cases h2 : n = 2
  · subst h2
    go_wp2_with fail
    go_ret
    exact ⟨rfl, rfl⟩
  by_cases h3 : n = 3
  · subst h3
    go_wp2_with fail
    go_ret
    exact ⟨rfl, rfl⟩
  by_cases h4 : n = 4
  · subst h4
    go_wp2_with fail
    go_ret
    exact ⟨rfl, rfl⟩
  by_cases h5 : n = 5
  · subst h5
    go_wp2_with fail
    go_ret
    exact ⟨rfl, rfl⟩
  by_cases h6 : n = 6
  · subst h6
    go_wp2_with fail
    go_ret
    exact ⟨rfl, rfl⟩
  by_cases h7 : n = 7
  · subst h7
    go_wp2_with fail
    go_ret
    exact ⟨rfl, rfl⟩
  by_cases h8 : n = 8
  · subst h8
    go_wp2_with fail
    go_ret
    exact ⟨rfl, rfl⟩
  rw [grI, if_neg h0, if_neg h6, if_neg (by omega), if_neg (by omega), if_neg (by omega)]
  go_wp2_with fail
  go_ret
  exact ⟨rfl, rfl⟩
theorem weight_any (n : Int) (w : World) : Calls Tryd.prog 18 #[.int .i64 n] w fun e w' => e = .returned (.int .i64 (grI n)) ∧ w' = w := by
  go_enter Tryd.func18, Tryd.ntmps18
  by_cases h0 : n = 0
  · subst h0
    go_wp2_with fail
    go_ret
    exact ⟨rfl, rfl⟩
  by_cases h1 : n = 1
  · subst h1
    go_wp2_with fail
    go_ret
    exact ⟨rfl, rfl⟩
  by_cases h2 : n = 2
  · subst h2
    go_wp2_with fail
    go_ret
    exact ⟨rfl, rfl⟩
  by_cases h3 : n = 3
  · subst h3
    go_wp2_with fail
    go_ret
    exact ⟨rfl, rfl⟩
  by_cases h4 : n = 4
  · subst h4
    go_wp2_with fail
    go_ret
    exact ⟨rfl, rfl⟩
  by_cases h5 : n = 5
  · subst h5
    go_wp2_with fail
    go_ret
    exact ⟨rfl, rfl⟩
  by_cases h6 : n = 6
  · subst h6
    go_wp2_with fail
    go_ret
    exact ⟨rfl, rfl⟩
  by_cases h7 : n = 7
  · subst h7
    go_wp2_with fail
    go_ret
    exact ⟨rfl, rfl⟩
  by_cases h8 : n = 8
  · subst h8
    go_wp2_with fail
    go_ret
    exact ⟨rfl, rfl⟩
  rw [grI, if_neg h0, if_neg h6, if_neg (by omega), if_neg (by omega), if_neg (by omega)]
  go_wp2_with fail
  go_ret
  exact ⟨rfl, rfl⟩
theorem Grave_any (n : Int) (w : World) : Calls Tryd.prog 17 #[.int .i64 n] w fun e w' => e = .returned (.int .i64 (grI n)) ∧ w' = w := by
  obtain ⟨m, hm⟩ : ∃ m, Hid (grI n = m) := ⟨_, rfl⟩
  have h := grave_any n w
  rw [hm.out] at h ⊢
  go_enter Tryd.func17, Tryd.ntmps17
  go_wp2_with fail
  refine h.mono ?_
  rintro e w2 ⟨rfl, hw⟩
  go_wp2_with fail
  go_ret
  exact ⟨rfl, rfl⟩

theorem same_any (l : List ByteArray) (n : Nat) (A B : Option Addr) (ca cb : Nat) (w : World) (hn : l.length = n) (hs : n ≤ 1000) (hA : Rd w A (txs l)) (hB : Rd w B (txs l)) :
    Calls Tryd.prog 22 #[.slice A n ca, .slice B n cb] w fun e w' => e = .returned (.bool true) ∧ Ext w w' := by
  have Hn := Lib.hid hn
  clear hn
  go_enter Tryd.func22, Tryd.ntmps22
  go_wp2_with fail
  go_loopw [5, 11, 12, 13, 15, 16, 17, 18, 19, 20, 21, 22, 23, 24, 25] (fun v5 v11 v12 v13 v15 v16 v17 v18 v19 v20 v21 v22 v23 v24 v25 wv => ∃ i : Nat, i ≤ n ∧ v5 = .int .i64 i ∧ Ext w wv) (fun v5 _ _ _ _ _ _ _ _ _ _ _ _ _ _ _ => n - (intOf v5).toNat)
  case atStart => exact ⟨0, Nat.zero_le _, rfl, Ext.refl w⟩
  case round =>
    obtain ⟨i, hi, rfl, hx⟩ := hrel
    by_cases hin : i < n
    · have hin' : (i : Int) < n := by omega
      obtain ⟨b1, o1, rfl, e1, _⟩ := (hA.ext hx).at_ (k := i) (by rw [txs_length, Hn.out]; exact hin)
      obtain ⟨b2, o2, rfl, e2, _⟩ := (hB.ext hx).at_ (k := i) (by rw [txs_length, Hn.out]; exact hin)
      obtain ⟨s, hs'⟩ : ∃ s, (txs l)[i]'(by rw [txs_length, Hn.out]; exact hin) = .string s := ⟨l[i]'(by rw [Hn.out]; exact hin), by simp [txs]⟩
      rw [hs'] at e1 e2
      clear hs'
      go_wp2_with fail
      go_quiet (fail)
      go_wp2_with fail
      exact ⟨⟨i + 1, by omega, by go_num, hx.drewN nq⟩, by simp [intOf]; omega⟩
    · have hin' : ¬ (i : Int) < n := by omega
      go_wp2_with fail
      go_ret
      exact ⟨rfl, hx⟩

theorem few_any (l : List ByteArray) (n c : Nat) (A : Option Addr) (w : World) (hn : l.length = n) (hc : n ≤ c) :
    Calls Tryd.prog 9 #[.slice A n c] w fun e w' => e = .returned (.slice A (l.take 60).length c) ∧ w' = w := by
  have Hn := Lib.hid hn
  clear hn
  obtain ⟨m, hm⟩ : ∃ m, Hid ((l.take 60).length = m) := ⟨_, rfl⟩
  rw [hm.out]
  have hm2 : m = min 60 n := by rw [← hm.out, List.length_take, Hn.out]
  go_enter Tryd.func9, Tryd.ntmps9
  by_cases h : 60 < n
  · have h' : (60 : Int) < n := by omega
    have hc' : (60 : Int) ≤ c := by omega
    have e : m = 60 := by omega
    clear hm2 h
    subst e
    go_wp2_with fail
    go_ret
    exact ⟨rfl, rfl⟩
  · have h' : ¬ (60 : Int) < n := by omega
    have e : m = n := by omega
    clear hm2 h
    subst e
    go_wp2_with fail
    go_ret
    exact ⟨rfl, rfl⟩

/-- an error at places, from the innermost on -/
def stV (n : Int) (d : List ByteArray) : Value := if n = 0 then (if d = [] then (Bs.e 0).v else .nilIface) else wrapV d.reverse (Bs.e n).v
theorem stV_zero (d : List ByteArray) (h : d ≠ []) : stV 0 d = .nilIface := by rw [stV, if_pos rfl, if_neg h]
theorem stV_pos {n : Int} (h : n ≠ 0) (d : List ByteArray) : stV n d = wrapV d.reverse (Bs.e n).v := by rw [stV, if_neg h]
theorem stV_shape (n : Int) (d : List ByteArray) : stV n d = .nilIface ∨ ∃ T V, stV n d = .iface T V := by
  unfold stV
  split
  · split
    · exact .inr ⟨_, _, rfl⟩
    · exact .inl rfl
  · exact .inr (wrapV_iface _ _)
theorem at_st (s : ByteArray) (n : Int) (d : List ByteArray) (w : World) (hg : Tab w) : Calls Tryd.prog 10 #[.string s, stV n d] w fun e w' => e = .returned (stV n (d ++ [s])) ∧ Ext w w' := by
  by_cases h0 : n = 0
  · subst h0
    rw [stV_zero (d ++ [s]) (by simp)]
    by_cases hd : d = []
    · subst hd
      refine (at_any s [] (.e 0) w hg).mono ?_
      rintro e w2 ⟨rfl, hx⟩
      exact ⟨by rw [if_pos (show (Bs.e 0).why = 0 from rfl)], hx⟩
    · rw [stV_zero d hd]
      exact at_nil s w
  · rw [stV_pos h0, stV_pos h0, List.reverse_append]
    refine (at_any s d.reverse (.e n) w hg).mono ?_
    rintro e w2 ⟨rfl, hx⟩
    exact ⟨by rw [if_neg (show (Bs.e n).why ≠ 0 from h0)]; rfl, hx⟩

theorem wrap_any (n : Int) (l : List ByteArray) (m c : Nat) (A : Option Addr) (w : World) (hg : Tab w) (hm : l.length = m) (hr : Rd w A (txs l)) :
    Calls Tryd.prog 11 #[.int .i64 n, .slice A m c] w fun e w' => e = .returned (stV n (l.take 60)) ∧ Ext w w' := by
  have Hm := Lib.hid hm
  clear hm
  obtain ⟨R, hR⟩ : ∃ R, Hid (stV n (l.take 60) = R) := ⟨_, rfl⟩
  rw [hR.out]
  go_enter Tryd.func11, Tryd.ntmps11
  go_wp2_with fail
  go_loopw [5, 6, 9, 10, 11, 12, 13, 14, 15, 17, 18, 19, 20, 21, 22, 23, 24] (fun v5 v6 v9 v10 v11 v12 v13 v14 v15 v17 v18 v19 v20 v21 v22 v23 v24 wv => ∃ i : Nat, i ≤ m ∧ i ≤ 60 ∧ v6 = .int .i64 i ∧ v5 = stV n (l.take i) ∧ Ext w wv) (fun _ v6 _ _ _ _ _ _ _ _ _ _ _ _ _ _ _ _ => 60 - (intOf v6).toNat)
  case atStart => exact ⟨0, Nat.zero_le _, Nat.zero_le _, rfl, by rw [List.take_zero, stV]; split <;> simp_all [Bs.v, wrapV], Ext.refl w⟩
  case round =>
    obtain ⟨i, hi, h60, rfl, rfl, hx⟩ := hrel
    by_cases hc : i < m ∧ i < 60
    · obtain ⟨hin, h6⟩ := hc
      have hin' : (i : Int) < m := by omega
      have h6' : (i : Int) < 60 := by omega
      obtain ⟨b1, o1, rfl, e1, _⟩ := (hr.ext hx).at_ (k := i) (by rw [txs_length, Hm.out]; exact hin)
      obtain ⟨s, hs'⟩ : ∃ s, Hid (l[i]'(by rw [Hm.out]; exact hin) = s) := ⟨l[i]'(by rw [Hm.out]; exact hin), rfl⟩
      rw [show (txs l)[i]'(by rw [txs_length, Hm.out]; exact hin) = .string s by rw [← hs'.out]; simp [txs]] at e1
      have hat := at_st s n (l.take i) wr (hg.ext hx)
      have htk : l.take i ++ [s] = l.take (i + 1) := by rw [List.take_add_one, List.getElem?_eq_getElem (by rw [Hm.out]; exact hin), hs'.out]; rfl
      rw [htk] at hat
      obtain ⟨u, hu⟩ : ∃ u, Hid (stV n (l.take i) = u) := ⟨_, rfl⟩
      rw [hu.out] at hat ⊢
      go_wp2_with fail
      refine hat.mono ?_
      rintro e w2 ⟨rfl, hx2⟩
      obtain ⟨v, hv⟩ : ∃ v, Hid (stV n (l.take (i + 1)) = v) := ⟨_, rfl⟩
      rw [hv.out]
      go_wp2_with fail
      exact ⟨⟨i + 1, by omega, by omega, by go_num, hv.out.symm, hx.trans hx2⟩, by simp [intOf]; omega⟩
    · have htk : l.take i = l.take 60 := by
        by_cases h : i < m
        · rw [show i = 60 by omega]
        · rw [List.take_of_length_le (by rw [Hm.out]; omega), List.take_of_length_le (by rw [Hm.out]; omega)]
      rw [htk, hR.out]
      by_cases h : i < m
      · have hin' : (i : Int) < m := by omega
        have h6' : ¬ (i : Int) < 60 := by omega
        go_wp2_with fail
        go_ret
        exact ⟨rfl, hx⟩
      · have hin' : ¬ (i : Int) < m := by omega
        go_wp2_with fail
        go_ret
        exact ⟨rfl, hx⟩
end Go.Proofs.YtfdillopdfihfaaDoor.Flt
