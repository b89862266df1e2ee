/- lex: the law LexNames, walked. -/
import Derived.Test.YtgbfoklgejdegaaLexNum
import Derived.Test.YtgbfoklgejdegaaLexName
namespace Go.Proofs.Ytgbfoklgejdegaa.Lx
open Go.ChangeShapes Go.WideShapes Go.ChangeAt Go.RowKit Go.Shelf
open Base
set_option linter.unusedVariables false
set_option linter.unusedSimpArgs false

theorem lower_any (c : UInt8) (w : World) : Calls Try.prog 18 #[.int .u8 (c.toNat : Int)] w fun e w' => e = .returned (.bool (letterP c)) ∧ w' = w := by
  go_enter Try.func18, Try.ntmps18
  by_cases h1 : (c.toNat : Int) ≥ 97
  · by_cases h2 : (c.toNat : Int) ≤ 122
    · go_wp2_with fail
      go_ret
      have : letterP c = true := by simp [letterP]; omega
      rw [this]; exact ⟨rfl, rfl⟩
    · go_wp2_with fail
      go_ret
      have : letterP c = false := by simp [letterP]; omega
      rw [this]; exact ⟨rfl, rfl⟩
  · go_wp2_with fail
    go_ret
    have : letterP c = false := by simp [letterP]; omega
    rw [this]; exact ⟨rfl, rfl⟩
theorem num_any (c : UInt8) (w : World) : Calls Try.prog 15 #[.int .u8 (c.toNat : Int)] w fun e w' => e = .returned (.bool (digitP c)) ∧ w' = w := by
  go_enter Try.func15, Try.ntmps15
  by_cases h1 : (c.toNat : Int) ≥ 48
  · by_cases h2 : (c.toNat : Int) ≤ 57
    · go_wp2_with fail
      go_ret
      have : digitP c = true := by simp [digitP]; omega
      rw [this]; exact ⟨rfl, rfl⟩
    · go_wp2_with fail
      go_ret
      have : digitP c = false := by simp [digitP]; omega
      rw [this]; exact ⟨rfl, rfl⟩
  · go_wp2_with fail
    go_ret
    have : digitP c = false := by simp [digitP]; omega
    rw [this]; exact ⟨rfl, rfl⟩

set_option maxHeartbeats 1000000 in
theorem refName_any (s : ByteArray) (hs : s.size ≤ 140737488351232) (w : World) : Calls Try.prog 11 #[.string s] w fun e w' => e = .returned (.bool (nameP s)) ∧ w' = w := by
  by_cases h0 : s.size = 0
  · obtain rfl := size_zero h0
    go_enter Try.func11, Try.ntmps11
    go_wp2_with fail
    go_ret
    exact ⟨rfl, rfl⟩
  · obtain ⟨q1, q2⟩ := ne_empty h0
    have hin : 0 < s.size := by omega
    have hin' : (0 : Int) < (s.size : Int) := by omega
    have hlet := lower_any (byteAt s 0)
    obtain ⟨R, hR⟩ : ∃ R, Hid (runP innerP s.data.toList = R) := ⟨_, rfl⟩
    have hRl : R ≤ s.size := by have h := runP_le innerP s.data.toList; rw [hR.out, size_list] at h; exact h
    have hb := byteAt_get s 0 hin
    go_enter Try.func11, Try.ntmps11
    by_cases h40 : s.size ≤ 40
    · have h40' : (s.size : Int) ≤ 40 := by omega
      go_wp2_with fail
      refine (hlet w).mono ?_
      rintro e w1 ⟨rfl, hw⟩
      subst hw
      clear hb
      cases hl : letterP (byteAt s 0)
      · go_wp2_with fail
        go_ret
        have : nameP s = false := by simp [nameP, hl]
        rw [this]; exact ⟨rfl, rfl⟩
      · go_wp2_with fail
        go_loopw [3] (fun v3 wr => ∃ i : Nat, i ≤ R ∧ v3 = .int .i64 i ∧ wr = w1) (fun v3 _ => R - (intOf v3).toNat)
        case atStart => exact ⟨0, by omega, rfl, rfl⟩
        case round =>
          obtain ⟨i, hi, rfl, hw⟩ := hrel
          have hw := hw.symm
          subst hw
          by_cases hiR : i < R
          · obtain ⟨h1, h2⟩ := runP_lt (p := innerP) (l := s.data.toList) (n := i) (by rw [hR.out]; exact hiR)
            have his : i < s.size := by omega
            have hil : (i : Int) < (s.size : Int) := by omega
            have hp : innerP (s[i]'his) = true := h2
            have hlo := lower_any (s[i]'his) w1
            have hnu := num_any (s[i]'his) w1
            cases k1 : letterP (s[i]'his)
            · rw [k1] at hlo
              cases k2 : digitP (s[i]'his)
              · rw [k2] at hnu
                have k3 : (s[i]'his).toNat = 95 := by simpa [innerP, k1, k2] using hp
                have k4 : (((s[i]'his).toNat : Int) != 95) = false := by rw [k3]; rfl
                clear hp h2 k3
                go_wp2_with fail
                refine hlo.mono ?_
                rintro e w2 ⟨rfl, hw⟩
                subst hw
                go_wp2_with fail
                refine hnu.mono ?_
                rintro e w3 ⟨rfl, hw⟩
                subst hw
                go_wp2_with fail
                refine ⟨⟨i + 1, by omega, rfl, trivial⟩, ?_⟩
                simp [intOf]
                omega
              · rw [k2] at hnu
                clear hp h2
                go_wp2_with fail
                refine hlo.mono ?_
                rintro e w2 ⟨rfl, hw⟩
                subst hw
                go_wp2_with fail
                refine hnu.mono ?_
                rintro e w3 ⟨rfl, hw⟩
                subst hw
                go_wp2_with fail
                refine ⟨⟨i + 1, by omega, rfl, trivial⟩, ?_⟩
                simp [intOf]
                omega
            · rw [k1] at hlo
              clear hp h2
              go_wp2_with fail
              refine hlo.mono ?_
              rintro e w2 ⟨rfl, hw⟩
              subst hw
              go_wp2_with fail
              refine ⟨⟨i + 1, by omega, rfl, trivial⟩, ?_⟩
              simp [intOf]
              omega
          · obtain rfl : i = R := by omega
            by_cases his : i < s.size
            · have hil : (i : Int) < (s.size : Int) := by omega
              have hp : innerP (s[i]'his) = false := by
                rcases runP_end innerP s.data.toList with h | ⟨h1, h2⟩
                · rw [hR.out, size_list] at h; omega
                · simp only [hR.out] at h2; exact h2
              have hnm : nameP s = false := by simp [nameP, hR.out]; intro _ _ _; omega
              have k1 : letterP (s[i]'his) = false := by cases k : letterP (s[i]'his) <;> simp_all [innerP]
              have k2 : digitP (s[i]'his) = false := by cases k : digitP (s[i]'his) <;> simp_all [innerP]
              have k3 : ¬ (s[i]'his).toNat = 95 := by intro k; simp [innerP, k] at hp
              have k4 : (((s[i]'his).toNat : Int) != 95) = true := by simp; omega
              have hlo := lower_any (s[i]'his) w1
              have hnu := num_any (s[i]'his) w1
              rw [k1] at hlo
              rw [k2] at hnu
              clear hp k3
              go_wp2_with fail
              refine hlo.mono ?_
              rintro e w2 ⟨rfl, hw⟩
              subst hw
              go_wp2_with fail
              refine hnu.mono ?_
              rintro e w3 ⟨rfl, hw⟩
              subst hw
              go_wp2_with fail
              go_ret
              first | exact ⟨rfl, rfl⟩ | (rw [hnm]; exact ⟨rfl, rfl⟩)
            · have hil : ¬ (i : Int) < (s.size : Int) := by omega
              have hnm : nameP s = true := by simp [nameP, hR.out, hl]; omega
              go_wp2_with fail
              go_ret
              first | exact ⟨rfl, rfl⟩ | (rw [hnm]; exact ⟨rfl, rfl⟩)
    · have h40' : ¬ (s.size : Int) ≤ 40 := by omega
      go_wp2_with fail
      go_ret
      have : nameP s = false := by simp [nameP, h40]
      rw [this]; exact ⟨rfl, rfl⟩
end Go.Proofs.Ytgbfoklgejdegaa.Lx
