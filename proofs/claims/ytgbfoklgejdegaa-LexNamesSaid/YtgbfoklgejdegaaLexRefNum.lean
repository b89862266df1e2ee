/- lex: the reference's Number, and the law LexNames, walked. -/
import Derived.Test.YtgbfoklgejdegaaLexNumb
namespace Go.Proofs.Ytgbfoklgejdegaa.Lx
open Go.ChangeShapes Go.WideShapes Go.ChangeAt Go.RowKit Go.Shelf
open Base
set_option linter.unusedVariables false
set_option linter.unusedSimpArgs false

set_option maxHeartbeats 1000000 in
theorem refNumber_any (s : ByteArray) (hs : s.size ≤ 140737488351232) (w : World) : Calls Try.prog 9 #[.string s] w fun e w' => e = .returned (numV (refO s.data.toList)) ∧ w' = w := by
  obtain ⟨o, ho⟩ : ∃ o, Hid (refO s.data.toList = o) := ⟨_, rfl⟩
  obtain ⟨X, hX⟩ : ∃ X, Hid (refN s.data.toList 0 0 = X) := ⟨_, rfl⟩
  have hno : X = none → none = o := fun h => by rw [← ho.out, refO, hX.out, h]
  rw [ho.out]
  go_enter Try.func9, Try.ntmps9
  go_wp2_with fail
  go_loopw [4, 5] (fun v4 v5 wr => ∃ i v : Nat, i ≤ s.size ∧ v5 = .int .i64 i ∧ v4 = .int .i64 v ∧ v ≤ 40969 ∧ Hid (refN (s.data.toList.drop i) i v = X) ∧ wr = w) (fun _ v5 _ => s.size - (intOf v5).toNat)
  case atStart => exact ⟨0, 0, by omega, rfl, rfl, by omega, hX, rfl⟩
  case round =>
    obtain ⟨i, v, hi, rfl, rfl, hv, hXi, hw⟩ := hrel
    have hw := hw.symm
    subst hw
    by_cases hin : i < s.size
    · have hin' : (i : Int) < (s.size : Int) := by omega
      have hXi := hXi.out
      rw [drop_byteAt s i hin] at hXi
      have hnu := num_any (byteAt s i) w
      have hb := byteAt_get s i hin
      cases hd : digitP (byteAt s i)
      · have hn : X = none := by rw [← hXi, refN, if_pos (.inl hd)]
        have ho2 := hno hn
        subst ho2
        rw [hd] at hnu
        clear hXi
        go_wp2_with fail
        refine hnu.mono ?_
        rintro e w1 ⟨rfl, hw⟩
        subst hw
        go_wp2_with fail
        go_ret2
        exact ⟨rfl, rfl⟩
      · have hbd := digit_bounds hd
        rw [hd] at hnu
        by_cases hbig : 4096 < v
        · have hn : X = none := by rw [← hXi, refN, if_pos (.inr (.inl hbig))]
          have ho2 := hno hn
          subst ho2
          have hb4 : (v : Int) > 4096 := by omega
          clear hXi
          go_wp2_with fail
          refine hnu.mono ?_
          rintro e w1 ⟨rfl, hw⟩
          subst hw
          go_wp2_with fail
          go_ret2
          exact ⟨rfl, rfl⟩
        · have hb4 : ¬ (v : Int) > 4096 := by omega
          by_cases h1 : i = 1
          · subst h1
            by_cases h0 : v = 0
            · subst h0
              have hn : X = none := by rw [← hXi, refN, if_pos (.inr (.inr ⟨rfl, rfl⟩))]
              have ho2 := hno hn
              subst ho2
              clear hXi
              go_wp2_with fail
              refine hnu.mono ?_
              rintro e w1 ⟨rfl, hw⟩
              subst hw
              go_wp2_with fail
              go_ret2
              exact ⟨rfl, rfl⟩
            · have z1 : ((v : Int) == 0) = false := by simp; omega
              have hX2 : Hid (refN (s.data.toList.drop (1 + 1)) (1 + 1) (v * 10 + ((byteAt s 1).toNat - 48)) = X) := by show _ = _; rw [← hXi, refN_go hd (by omega) (by omega)]
              clear hXi
              go_wp2_with fail
              refine hnu.mono ?_
              rintro e w1 ⟨rfl, hw⟩
              subst hw
              go_wp2_with fail
              refine ⟨⟨1 + 1, v * 10 + ((byteAt s 1).toNat - 48), by omega, rfl, congrArg (Value.int .i64) (by omega), by omega, hX2, trivial⟩, ?_⟩
              simp [intOf]
              omega
          · have z0 : ((i : Int) == 1) = false := by simp; omega
            have hX2 : Hid (refN (s.data.toList.drop (i + 1)) (i + 1) (v * 10 + ((byteAt s i).toNat - 48)) = X) := by show _ = _; rw [← hXi, refN_go hd (by omega) (by omega)]
            clear hXi
            go_wp2_with fail
            refine hnu.mono ?_
            rintro e w1 ⟨rfl, hw⟩
            subst hw
            go_wp2_with fail
            refine ⟨⟨i + 1, v * 10 + ((byteAt s i).toNat - 48), by omega, rfl, congrArg (Value.int .i64) (by omega), by omega, hX2, trivial⟩, ?_⟩
            simp [intOf]
            omega
    · obtain rfl : i = s.size := by omega
      have hin' : ¬ (s.size : Int) < (s.size : Int) := by omega
      have hXv : some v = X := by have h := hXi.out; rw [List.drop_of_length_le (by rw [size_list]; omega)] at h; exact h
      clear hXi
      by_cases h0 : s.size = 0
      · have hn : s.data.toList = [] := List.eq_nil_of_length_eq_zero (by rw [size_list]; exact h0)
        have ho2 : none = o := by rw [← ho.out, refO, hX.out, ← hXv]; simp [hn]
        subst ho2
        have q : s.toList.isEmpty = true := by rw [ByteArray.toList_eq, hn]; rfl
        clear hn
        go_wp2_with fail
        go_ret2
        exact ⟨rfl, rfl⟩
      · obtain ⟨q1, q2⟩ := ne_empty h0
        have hne : ¬ s.data.toList = [] := fun e => by have := size_list s; rw [e] at this; simp at this; omega
        by_cases hbig : 4096 < v
        · have ho2 : none = o := by rw [← ho.out, refO, hX.out, ← hXv]; simp [hbig]
          subst ho2
          have hb4 : (v : Int) > 4096 := by omega
          go_wp2_with fail
          go_ret2
          exact ⟨rfl, rfl⟩
        · have ho2 : some v = o := by rw [← ho.out, refO, hX.out, ← hXv]; simp [hbig, hne]
          subst ho2
          have hb4 : ¬ (v : Int) > 4096 := by omega
          go_wp2_with fail
          go_ret2
          exact ⟨by first | rfl | (rw [← hXv]; rfl), rfl⟩

set_option maxHeartbeats 1000000 in
theorem names_any (s : ByteArray) (hs : s.size ≤ 140737488351232) (w : World) : Calls Try.prog 5 #[.string s] w fun e w' => e = .returned (.bool true) ∧ Ext w w' := by
  have h1 := number_any s hs w
  have h2 := refNumber_any s hs
  have h3 := name_any s hs
  have h4 := refName_any s hs
  rw [ref_eq] at h2
  obtain ⟨p, hp⟩ : ∃ p, Hid (nameP s = p) := ⟨_, rfl⟩
  rw [hp.out] at h3 h4
  have hpp : (p == p) = true := beq_self_eq_true p
  cases ho : numO s.data.toList with
  | none =>
    rw [ho] at h1 h2
    simp only [numV] at h1 h2
    go_enter Try.func5, Try.ntmps5
    go_wp2_with fail
    refine h1.mono ?_
    rintro e w1 ⟨rfl, hx⟩
    go_wp2_with fail
    refine (h2 w1).mono ?_
    rintro e w2 ⟨rfl, hw⟩
    subst hw
    go_wp2_with fail
    refine (h3 w2).mono ?_
    rintro e w3 ⟨rfl, hw⟩
    subst hw
    go_wp2_with fail
    refine (h4 w3).mono ?_
    rintro e w4 ⟨rfl, hw⟩
    subst hw
    go_wp2_with fail
    refine (lives_any w4).mono ?_
    rintro e w5 ⟨rfl, hx5⟩
    go_wp2_with fail
    go_ret
    exact ⟨rfl, hx.trans hx5⟩
  | some n =>
    rw [ho] at h1 h2
    simp only [numV] at h1 h2
    have hnn : ((n : Int) == (n : Int)) = true := beq_self_eq_true _
    go_enter Try.func5, Try.ntmps5
    go_wp2_with fail
    refine h1.mono ?_
    rintro e w1 ⟨rfl, hx⟩
    go_wp2_with fail
    refine (h2 w1).mono ?_
    rintro e w2 ⟨rfl, hw⟩
    subst hw
    go_wp2_with fail
    refine (h3 w2).mono ?_
    rintro e w3 ⟨rfl, hw⟩
    subst hw
    go_wp2_with fail
    refine (h4 w3).mono ?_
    rintro e w4 ⟨rfl, hw⟩
    subst hw
    go_wp2_with fail
    refine (lives_any w4).mono ?_
    rintro e w5 ⟨rfl, hx5⟩
    go_wp2_with fail
    go_ret
    exact ⟨rfl, hx.trans hx5⟩
end Go.Proofs.Ytgbfoklgejdegaa.Lx
