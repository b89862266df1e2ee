/- lex: the small functions, walked. -/
import Derived.Test.YtgbfoklgejdegaaBase
import Derived.Test.YtgbfoklgejdegaaLexPlain
import Derived.Stop.Asserts
import Derived.Lib.Hide
import Derived.Shelf.Abstract
namespace Go.Proofs.Ytgbfoklgejdegaa.Lx
open Go.ChangeShapes Go.WideShapes Go.ChangeAt Go.RowKit Go.Shelf
open Base
set_option linter.unusedVariables false
set_option linter.unusedSimpArgs false

theorem letter_any (c : UInt8) (w : World) : Calls Try.prog 16 #[.int .u8 (c.toNat : Int)] w fun e w' => e = .returned (.bool (letterP c)) ∧ w' = w := by
  go_enter Try.func16, Try.ntmps16
  by_cases h1 : 97 ≤ (c.toNat : Int)
  · by_cases h2 : (c.toNat : Int) ≤ 122
    · go_wp2_with fail
      go_ret
      have : letterP c = true := by simp [letterP]; omega
      rw [this]; exact ⟨rfl, rfl⟩
    · go_wp2_with fail
      go_ret
      have : letterP c = false := by simp [letterP]; omega
      rw [this]; exact ⟨rfl, rfl⟩
  · go_wp2_with fail
    go_ret
    have : letterP c = false := by simp [letterP]; omega
    rw [this]; exact ⟨rfl, rfl⟩
theorem digit_any (c : UInt8) (w : World) : Calls Try.prog 14 #[.int .u8 (c.toNat : Int)] w fun e w' => e = .returned (.bool (digitP c)) ∧ w' = w := by
  go_enter Try.func14, Try.ntmps14
  by_cases h1 : 48 ≤ (c.toNat : Int)
  · by_cases h2 : (c.toNat : Int) ≤ 57
    · go_wp2_with fail
      go_ret
      have : digitP c = true := by simp [digitP]; omega
      rw [this]; exact ⟨rfl, rfl⟩
    · go_wp2_with fail
      go_ret
      have : digitP c = false := by simp [digitP]; omega
      rw [this]; exact ⟨rfl, rfl⟩
  · go_wp2_with fail
    go_ret
    have : digitP c = false := by simp [digitP]; omega
    rw [this]; exact ⟨rfl, rfl⟩
theorem notNl_any (c : UInt8) (w : World) : Calls Try.prog 22 #[.int .u8 (c.toNat : Int)] w fun e w' => e = .returned (.bool (notNl c)) ∧ w' = w := by
  go_enter Try.func22, Try.ntmps22
  by_cases h1 : (c.toNat : Int) = 10
  · have hb : ((c.toNat : Int) != 10) = false := by simpa using h1
    go_wp2_with fail
    go_ret
    have : notNl c = false := by simp [notNl]; omega
    rw [this]; exact ⟨rfl, rfl⟩
  · have hb : ((c.toNat : Int) != 10) = true := by simpa using h1
    go_wp2_with fail
    go_ret
    have : notNl c = true := by simp [notNl]; omega
    rw [this]; exact ⟨rfl, rfl⟩
theorem inner_any (c : UInt8) (w : World) : Calls Try.prog 17 #[.int .u8 (c.toNat : Int)] w fun e w' => e = .returned (.bool (innerP c)) ∧ w' = w := by
  have hl := letter_any c
  have hd := digit_any c
  go_enter Try.func17, Try.ntmps17
  go_wp2_with fail
  refine (hl w).mono ?_
  rintro e w1 ⟨rfl, hw⟩
  subst hw
  cases h1 : letterP c
  · go_wp2_with fail
    refine (hd w1).mono ?_
    rintro e w2 ⟨rfl, hw⟩
    subst hw
    cases h2 : digitP c
    · by_cases h3 : (c.toNat : Int) = 95
      · have hb : ((c.toNat : Int) == 95) = true := by simpa using h3
        go_wp2_with fail
        go_ret
        have : innerP c = true := by simp [innerP, h1, h2]; omega
        rw [this]; exact ⟨rfl, rfl⟩
      · have hb : ((c.toNat : Int) == 95) = false := by simpa using h3
        go_wp2_with fail
        go_ret
        have : innerP c = false := by simp [innerP, h1, h2]; omega
        rw [this]; exact ⟨rfl, rfl⟩
    · go_wp2_with fail
      go_ret
      have : innerP c = true := by simp [innerP, h1, h2]
      rw [this]; exact ⟨rfl, rfl⟩
  · go_wp2_with fail
    go_ret
    have : innerP c = true := by simp [innerP, h1]
    rw [this]; exact ⟨rfl, rfl⟩

theorem run_any (s : ByteArray) (at_ fid : Nat) (p : UInt8 → Bool) (hs : s.size ≤ 140737488351232) (ha : at_ ≤ s.size) (hen : ∀ args w, (callFunc fid args).run Try.prog w = .ok (.enter fid args) w) (his : ∀ (c : UInt8) w, Calls Try.prog fid #[.int .u8 (c.toNat : Int)] w fun e w' => e = .returned (.bool (p c)) ∧ w' = w) (w : World) :
    Calls Try.prog 13 #[.string s, .int .i64 at_, .func (.func fid) #[] #[]] w fun e w' => e = .returned (.int .i64 (runP p (s.data.toList.drop at_))) ∧ w' = w := by
  obtain ⟨R, hR⟩ : ∃ R, Hid (runP p (s.data.toList.drop at_) = R) := ⟨_, rfl⟩
  have hRl : at_ + R ≤ s.size := by have h := runP_le p (s.data.toList.drop at_); rw [hR.out, List.length_drop] at h; have : s.data.toList.length = s.size := Array.length_toList; omega
  rw [hR.out]
  go_enter Try.func13, Try.ntmps13
  go_wp2_with fail
  go_loopw [7] (fun v7 wv => ∃ n : Nat, n ≤ R ∧ v7 = .int .i64 n ∧ wv = w) (fun v7 _ => R - (intOf v7).toNat)
  case atStart => exact ⟨0, by omega, rfl, rfl⟩
  case round =>
    obtain ⟨n, hn, rfl, hw⟩ := hrel
    have hw := hw.symm
    subst hw
    by_cases hlt : n < R
    · obtain ⟨h1, h2⟩ := runP_lt (p := p) (l := s.data.toList.drop at_) (n := n) (by rw [hR.out]; exact hlt)
      have hl : s.data.toList.length = s.size := Array.length_toList
      have hin : at_ + n < s.size := by rw [List.length_drop] at h1; omega
      have hp : p (s[at_ + n]'hin) = true := by rw [List.getElem_drop] at h2; exact h2
      have hil : (at_ : Int) + (n : Int) < (s.size : Int) := by omega
      have hcall := his (s[at_ + n]'hin) w
      rw [hp] at hcall
      go_wp2_with fail
      refine hcall.mono ?_
      rintro e w1 ⟨rfl, hw⟩
      subst hw
      go_wp2_with fail
      refine ⟨⟨n + 1, by omega, rfl, trivial⟩, ?_⟩
      simp [intOf]
      omega
    · obtain rfl : n = R := by omega
      by_cases hin : at_ + n < s.size
      · have hl : s.data.toList.length = s.size := Array.length_toList
        have hp : p (s[at_ + n]'hin) = false := by
          rcases runP_end p (s.data.toList.drop at_) with h | ⟨h1, h2⟩
          · rw [hR.out, List.length_drop] at h; omega
          · simp only [hR.out, List.getElem_drop] at h2; exact h2
        have hil : (at_ : Int) + (n : Int) < (s.size : Int) := by omega
        have hcall := his (s[at_ + n]'hin) w
        rw [hp] at hcall
        go_wp2_with fail
        refine hcall.mono ?_
        rintro e w1 ⟨rfl, hw⟩
        subst hw
        go_wp2_with fail
        go_ret
        exact ⟨rfl, rfl⟩
      · have hil : ¬ (at_ : Int) + (n : Int) < (s.size : Int) := by omega
        go_wp2_with fail
        go_ret
        exact ⟨rfl, rfl⟩

theorem enters_notNl : ∀ args w, (callFunc 22 args).run Try.prog w = .ok (.enter 22 args) w := enters_of Try.func22 (by kernel_rfl) rfl
theorem enters_inner : ∀ args w, (callFunc 17 args).run Try.prog w = .ok (.enter 17 args) w := enters_of Try.func17 (by kernel_rfl) rfl
theorem enters_digit : ∀ args w, (callFunc 14 args).run Try.prog w = .ok (.enter 14 args) w := enters_of Try.func14 (by kernel_rfl) rfl

set_option maxHeartbeats 1000000 in
theorem skip_any (s : ByteArray) (at_ : Nat) (hs : s.size ≤ 140737488351232) (ha : at_ ≤ s.size) (w : World) :
    Calls Try.prog 20 #[.string s, .int .i64 at_] w fun e w' => e = .returned (.int .i64 ((at_ + skipN false (s.data.toList.drop at_) : Nat) : Int)) ∧ w' = w := by
  obtain ⟨E, hE⟩ : ∃ E, Hid (at_ + skipN false (s.data.toList.drop at_) = E) := ⟨_, rfl⟩
  have hl : s.data.toList.length = s.size := Array.length_toList
  rw [hE.out]
  go_enter Try.func20, Try.ntmps20
  go_wp2_with fail
  go_loopw [1] (fun v1 wv => ∃ k : Nat, k ≤ s.size ∧ v1 = .int .i64 k ∧ wv = w ∧ Hid (k + skipN false (s.data.toList.drop k) = E)) (fun v1 _ => s.size - (intOf v1).toNat)
  case atStart => exact ⟨at_, ha, rfl, rfl, hE⟩
  case round =>
    clear hE ha
    obtain ⟨k, hk, rfl, hw, hE⟩ := hrel
    have hw := hw.symm
    subst hw
    by_cases hin : k < s.size
    · have hil : (k : Int) < (s.size : Int) := by omega
      have hdr : s.data.toList.drop k = s[k]'hin :: s.data.toList.drop (k + 1) := List.drop_eq_getElem_cons (by rw [hl]; exact hin)
      obtain ⟨c, hc⟩ : ∃ c, Hid (s[k]'hin = c) := ⟨_, rfl⟩
      have hrun := run_any s k 22 notNl hs hk enters_notNl notNl_any w
      rw [hdr, hc.out] at hE hrun
      by_cases hv : c.toNat = 35
      · obtain ⟨r, hr⟩ : ∃ r, Hid (runP notNl (c :: s.data.toList.drop (k + 1)) = r) := ⟨_, rfl⟩
        have hr1 : 1 ≤ r := by rw [← hr.out]; simp [runP, List.takeWhile_cons, notNl, hv]
        have hr2 : k + r ≤ s.size := by
          have h := runP_le notNl (c :: s.data.toList.drop (k + 1))
          rw [hr.out] at h
          simp at h
          omega
        have hE2 : Hid (k + r + skipN false (s.data.toList.drop (k + r)) = E) := by
          have h1 := skip_run (c :: s.data.toList.drop (k + 1))
          show _ = _
          rw [← hE.out, skip_hash c _ hv, h1, hr.out, ← hc.out, ← hdr, List.drop_drop]
          omega
        rw [hr.out] at hrun
        clear hE
        have b35 : (((s[k]'hin).toNat : Int) == 35) = true := by rw [hc.out, hv]; rfl
        go_wp2_with fail
        refine hrun.mono ?_
        rintro e w1 ⟨rfl, hw⟩
        subst hw
        go_wp2_with fail
        refine ⟨⟨k + r, by omega, rfl, trivial, hE2⟩, ?_⟩
        simp [intOf]
        omega
      by_cases hbl : blank c = true
      · have hbl : c.toNat = 32 ∨ c.toNat = 9 ∨ c.toNat = 10 ∨ c.toNat = 13 := by simpa [blank, or_assoc] using hbl
        rcases hbl with hv | hv | hv | hv
        · have hv : c.toNat = 32 := hv
          have b35 : (((s[k]'hin).toNat : Int) == 35) = false := by rw [hc.out, hv]; rfl
          have b32 : (((s[k]'hin).toNat : Int) == 32) = true := by rw [hc.out, hv]; rfl
          have b9 : (((s[k]'hin).toNat : Int) == 9) = false := by rw [hc.out, hv]; rfl
          have b10 : (((s[k]'hin).toNat : Int) == 10) = false := by rw [hc.out, hv]; rfl
          have b13 : (((s[k]'hin).toNat : Int) == 13) = false := by rw [hc.out, hv]; rfl
          have hE2 : Hid (k + 1 + skipN false (s.data.toList.drop (k + 1)) = E) := by show _ = _; rw [← hE.out]; simp [skipN, blank, hv]; omega
          clear hE
          go_wp2_with fail
          refine ⟨⟨k + 1, by omega, rfl, trivial, hE2⟩, ?_⟩
          simp [intOf]
          omega
        · have hv : c.toNat = 9 := hv
          have b35 : (((s[k]'hin).toNat : Int) == 35) = false := by rw [hc.out, hv]; rfl
          have b32 : (((s[k]'hin).toNat : Int) == 32) = false := by rw [hc.out, hv]; rfl
          have b9 : (((s[k]'hin).toNat : Int) == 9) = true := by rw [hc.out, hv]; rfl
          have b10 : (((s[k]'hin).toNat : Int) == 10) = false := by rw [hc.out, hv]; rfl
          have b13 : (((s[k]'hin).toNat : Int) == 13) = false := by rw [hc.out, hv]; rfl
          have hE2 : Hid (k + 1 + skipN false (s.data.toList.drop (k + 1)) = E) := by show _ = _; rw [← hE.out]; simp [skipN, blank, hv]; omega
          clear hE
          go_wp2_with fail
          refine ⟨⟨k + 1, by omega, rfl, trivial, hE2⟩, ?_⟩
          simp [intOf]
          omega
        · have hv : c.toNat = 10 := hv
          have b35 : (((s[k]'hin).toNat : Int) == 35) = false := by rw [hc.out, hv]; rfl
          have b32 : (((s[k]'hin).toNat : Int) == 32) = false := by rw [hc.out, hv]; rfl
          have b9 : (((s[k]'hin).toNat : Int) == 9) = false := by rw [hc.out, hv]; rfl
          have b10 : (((s[k]'hin).toNat : Int) == 10) = true := by rw [hc.out, hv]; rfl
          have b13 : (((s[k]'hin).toNat : Int) == 13) = false := by rw [hc.out, hv]; rfl
          have hE2 : Hid (k + 1 + skipN false (s.data.toList.drop (k + 1)) = E) := by show _ = _; rw [← hE.out]; simp [skipN, blank, hv]; omega
          clear hE
          go_wp2_with fail
          refine ⟨⟨k + 1, by omega, rfl, trivial, hE2⟩, ?_⟩
          simp [intOf]
          omega
        · have hv : c.toNat = 13 := hv
          have b35 : (((s[k]'hin).toNat : Int) == 35) = false := by rw [hc.out, hv]; rfl
          have b32 : (((s[k]'hin).toNat : Int) == 32) = false := by rw [hc.out, hv]; rfl
          have b9 : (((s[k]'hin).toNat : Int) == 9) = false := by rw [hc.out, hv]; rfl
          have b10 : (((s[k]'hin).toNat : Int) == 10) = false := by rw [hc.out, hv]; rfl
          have b13 : (((s[k]'hin).toNat : Int) == 13) = true := by rw [hc.out, hv]; rfl
          have hE2 : Hid (k + 1 + skipN false (s.data.toList.drop (k + 1)) = E) := by show _ = _; rw [← hE.out]; simp [skipN, blank, hv]; omega
          clear hE
          go_wp2_with fail
          refine ⟨⟨k + 1, by omega, rfl, trivial, hE2⟩, ?_⟩
          simp [intOf]
          omega
      · have hnb := hbl
        have hE0 : k = E := by rw [← hE.out]; simp [skipN, hv, hbl]
        subst hE0
        have b35 : (((s[k]'hin).toNat : Int) == 35) = false := by rw [hc.out]; simp; omega
        simp [blank] at hnb
        have b32 : (((s[k]'hin).toNat : Int) == 32) = false := by rw [hc.out]; simp; omega
        have b9 : (((s[k]'hin).toNat : Int) == 9) = false := by rw [hc.out]; simp; omega
        have b10 : (((s[k]'hin).toNat : Int) == 10) = false := by rw [hc.out]; simp; omega
        have b13 : (((s[k]'hin).toNat : Int) == 13) = false := by rw [hc.out]; simp; omega
        clear hnb hbl hv
        go_wp2_with fail
        go_ret
        exact ⟨rfl, rfl⟩
    · have hil : ¬ (k : Int) < (s.size : Int) := by omega
      obtain rfl : k = s.size := by omega
      have hE0 := hE.out
      rw [List.drop_of_length_le (by omega)] at hE0
      have hE0 : s.size = E := hE0
      subst hE0
      clear hE
      go_wp2_with fail
      go_ret
      exact ⟨rfl, rfl⟩
end Go.Proofs.Ytgbfoklgejdegaa.Lx
