/- lex: Name, and lives, walked. -/
import Derived.Test.YtgbfoklgejdegaaLexWords
namespace Go.Proofs.Ytgbfoklgejdegaa.Lx
open Go.ChangeShapes Go.WideShapes Go.ChangeAt Go.RowKit Go.Shelf
open Base
set_option linter.unusedVariables false
set_option linter.unusedSimpArgs false

def nameP (s : ByteArray) : Bool := decide (1 ≤ s.size) && decide (s.size ≤ 40) && letterP (byteAt s 0) && decide (runP innerP s.data.toList = s.size)
theorem size_zero {s : ByteArray} (h : s.size = 0) : s = ⟨#[]⟩ := by
  cases s with
  | mk d => congr 1; exact Array.eq_empty_of_size_eq_zero h
theorem ne_empty {s : ByteArray} (h : s.size ≠ 0) : s.toList.isEmpty = false ∧ ¬ s.toList = [] := by
  have e : s.toList.length = s.size := by rw [ByteArray.toList_eq]; exact Array.length_toList
  have hne : ¬ s.toList = [] := fun e2 => h (by rw [← e, e2]; rfl)
  exact ⟨by simpa using hne, hne⟩

theorem name_any (s : ByteArray) (hs : s.size ≤ 140737488351232) (w : World) : Calls Try.prog 10 #[.string s] w fun e w' => e = .returned (.bool (nameP s)) ∧ w' = w := by
  by_cases h0 : s.size = 0
  · obtain rfl := size_zero h0
    go_enter Try.func10, Try.ntmps10
    go_wp2_with fail
    go_ret
    exact ⟨rfl, rfl⟩
  · obtain ⟨q1, q2⟩ := ne_empty h0
    have hin : 0 < s.size := by omega
    have hin' : (0 : Int) < (s.size : Int) := by omega
    have hlet := letter_any (byteAt s 0)
    have hrun := run_any s 0 17 innerP hs (by omega) enters_inner inner_any w
    rw [List.drop_zero] at hrun
    obtain ⟨r, hr⟩ : ∃ r, Hid (runP innerP s.data.toList = r) := ⟨_, rfl⟩
    rw [hr.out] at hrun
    have hb := byteAt_get s 0 hin
    go_enter Try.func10, Try.ntmps10
    by_cases h40 : s.size ≤ 40
    · have h40' : (s.size : Int) ≤ 40 := by omega
      go_wp2_with fail
      refine (hlet w).mono ?_
      rintro e w1 ⟨rfl, hw⟩
      subst hw
      cases hl : letterP (byteAt s 0)
      · go_wp2_with fail
        go_ret
        have : nameP s = false := by simp [nameP, hl]
        rw [this]; exact ⟨rfl, rfl⟩
      · go_wp2_with fail
        refine hrun.mono ?_
        rintro e w2 ⟨rfl, hw⟩
        subst hw
        by_cases hrs : r = s.size
        · have hrb : ((r : Int) == (s.size : Int)) = true := by rw [hrs]; exact beq_self_eq_true _
          go_wp2_with fail
          go_ret
          have : nameP s = true := by simp [nameP, hl, hr.out, hrs, h40]; omega
          rw [this]; exact ⟨rfl, rfl⟩
        · have hrb : ((r : Int) == (s.size : Int)) = false := by simp; omega
          go_wp2_with fail
          go_ret
          have : nameP s = false := by simp [nameP, hr.out, hrs]
          rw [this]; exact ⟨rfl, rfl⟩
    · have h40' : ¬ (s.size : Int) ≤ 40 := by omega
      go_wp2_with fail
      go_ret
      have : nameP s = false := by simp [nameP, h40]
      rw [this]; exact ⟨rfl, rfl⟩

def a_int : ByteArray := ⟨#[97, 58, 105, 110, 116, 59]⟩
theorem lives_words : words a_int = none := by kernel_rfl
theorem lives_rows : (rows (toks a_int)).length = 15 ∧ (rows (toks a_int))[7]? = some (.string ⟨#[105, 110, 116]⟩) ∧ (rows (toks a_int))[14]? = some (.int .i64 6) ∧ (toks a_int).length = 5 := ⟨by kernel_rfl, by kernel_rfl, by kernel_rfl, by kernel_rfl⟩
theorem lives_any (w : World) : Calls Try.prog 7 #[] w fun e w' => e = .returned (.bool true) ∧ Ext w w' := by
  have hwd := words_any a_int (by decide) w
  have hn1 := name_any ⟨#[97, 49, 95]⟩ (by decide)
  have hn2 := name_any ⟨#[49, 97]⟩ (by decide)
  rw [show nameP ⟨#[97, 49, 95]⟩ = true by kernel_rfl] at hn1
  rw [show nameP ⟨#[49, 97]⟩ = false by kernel_rfl] at hn2
  go_enter Try.func7, Try.ntmps7
  go_wp2_with fail
  refine hwd.mono ?_
  rintro e w1 ⟨v, p, er, rfl, h, hx⟩
  rcases h with ⟨h, _⟩ | ⟨_, rfl, rfl, g, cap, rfl, hc⟩
  · rw [lives_words] at h; cases h
  have c7 := hc 7 _ lives_rows.2.1
  have c14 := hc 14 _ lives_rows.2.2.1
  rw [lives_rows.2.2.2]
  clear hc
  go_wp2_with fail
  refine (hn1 w1).mono ?_
  rintro e w2 ⟨rfl, hw⟩
  subst hw
  go_wp2_with fail
  refine (hn2 w2).mono ?_
  rintro e w3 ⟨rfl, hw⟩
  subst hw
  go_wp2_with fail
  go_ret
  exact ⟨rfl, hx⟩
end Go.Proofs.Ytgbfoklgejdegaa.Lx
