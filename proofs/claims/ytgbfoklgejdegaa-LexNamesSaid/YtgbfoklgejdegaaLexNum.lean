/- lex: numbers, in plain Lean. -/
import Derived.Test.YtgbfoklgejdegaaLexPlain
namespace Go.Proofs.Ytgbfoklgejdegaa.Lx
set_option linter.unusedVariables false
set_option linter.unusedSimpArgs false

def valP : List UInt8 → Nat → Nat
  | [], n => n
  | c :: l, n => valP l (10 * n + (c.toNat - 48))
/-- the number that digits are: as the program reckons -/
def numO (l : List UInt8) : Option Nat :=
  if l = [] then none else if 1 < l.length ∧ (l.getD 0 0).toNat = 48 then none else if ¬ runP digitP l = l.length then none else if 4 < l.length then none else if 4096 < valP l 0 then none else some (valP l 0)
/-- and as the document does -/
def refN : List UInt8 → Nat → Nat → Option Nat
  | [], _, n => some n
  | c :: l, i, n => if digitP c = false ∨ 4096 < n ∨ i = 1 ∧ n = 0 then none else refN l (i + 1) (n * 10 + (c.toNat - 48))
def refO (l : List UInt8) : Option Nat := match refN l 0 0 with
  | some n => if l = [] ∨ 4096 < n then none else some n
  | none => none

theorem run_cons (p : UInt8 → Bool) (c : UInt8) (l : List UInt8) : runP p (c :: l) = if p c = true then runP p l + 1 else 0 := by
  unfold runP; rw [List.takeWhile_cons]; split <;> rfl
theorem refN_big : ∀ (l : List UInt8) (i n : Nat), 4096 < n → refN l i n = none ∨ ∃ m, refN l i n = some m ∧ 4096 < m
  | [], i, n, h => .inr ⟨n, rfl, h⟩
  | c :: l, i, n, h => by left; rw [refN, if_pos (.inr (.inl h))]
theorem digit_bounds {c : UInt8} (h : digitP c = true) : 48 ≤ c.toNat ∧ c.toNat ≤ 57 := by simpa [digitP] using h
theorem refN_no (l : List UInt8) : ∀ (i n : Nat), ¬ runP digitP l = l.length → refN l i n = none := by
  induction l with
  | nil => intro i n h; exact absurd rfl h
  | cons c l ih =>
    intro i n h
    rw [refN]
    split
    · rfl
    · rename_i hc
      have hd : digitP c = true := by cases hq : digitP c <;> simp_all
      rw [run_cons, if_pos hd, List.length_cons] at h
      exact ih _ _ (by omega)
theorem all_digit {c : UInt8} {l : List UInt8} (h : runP digitP (c :: l) = (c :: l).length) : digitP c = true ∧ runP digitP l = l.length := by
  rw [run_cons] at h
  split at h
  · rename_i hd
    rw [List.length_cons] at h
    exact ⟨hd, by omega⟩
  · simp at h
theorem refN_go {c : UInt8} {l : List UInt8} {i n : Nat} (hd : digitP c = true) (hn : n ≤ 4096) (hi : ¬ (i = 1 ∧ n = 0)) : refN (c :: l) i n = refN l (i + 1) (n * 10 + (c.toNat - 48)) := by
  rw [refN, if_neg]
  rintro (h | h | h)
  · rw [hd] at h; cases h
  · omega
  · exact hi h
theorem ref_eq (l : List UInt8) : refO l = numO l := by
  unfold refO
  by_cases hr : runP digitP l = l.length
  case neg =>
    rw [refN_no l 0 0 hr]
    unfold numO
    by_cases h0 : l = []
    · subst h0; exact absurd rfl hr
    · simp only [h0, if_false, hr, not_false_eq_true, if_true]
      split <;> rfl
  case pos =>
    match l, hr with
    | [], _ => simp [numO, refN]
    | [a], hr =>
      obtain ⟨da, _⟩ := all_digit hr
      have ba := digit_bounds da
      rw [refN_go da (by omega) (by omega), refN]
      simp only [numO, hr, valP, List.length_cons, List.length_nil]
      simp
    | [a, b], hr =>
      obtain ⟨da, h1⟩ := all_digit hr
      obtain ⟨db, _⟩ := all_digit h1
      have ba := digit_bounds da; have bb := digit_bounds db
      rw [refN_go da (by omega) (by omega)]
      by_cases hz : a.toNat = 48
      · rw [refN, if_pos (by omega)]
        simp [numO, hz]
      · rw [refN_go db (by omega) (by omega), refN]
        have e : valP [a, b] 0 = (0 * 10 + (a.toNat - 48)) * 10 + (b.toNat - 48) := by simp [valP]; omega
        simp only [numO, hr, e, List.length_cons, List.length_nil]
        simp [hz]
    | [a, b, c], hr =>
      obtain ⟨da, h1⟩ := all_digit hr
      obtain ⟨db, h2⟩ := all_digit h1
      obtain ⟨dc, _⟩ := all_digit h2
      have ba := digit_bounds da; have bb := digit_bounds db; have bc := digit_bounds dc
      rw [refN_go da (by omega) (by omega)]
      by_cases hz : a.toNat = 48
      · rw [refN, if_pos (by omega)]
        simp [numO, hz]
      · rw [refN_go db (by omega) (by omega), refN_go dc (by omega) (by omega), refN]
        have e : valP [a, b, c] 0 = ((0 * 10 + (a.toNat - 48)) * 10 + (b.toNat - 48)) * 10 + (c.toNat - 48) := by simp [valP]; omega
        simp only [numO, hr, e, List.length_cons, List.length_nil]
        simp [hz]
    | [a, b, c, d], hr =>
      obtain ⟨da, h1⟩ := all_digit hr
      obtain ⟨db, h2⟩ := all_digit h1
      obtain ⟨dc, h3⟩ := all_digit h2
      obtain ⟨dd, _⟩ := all_digit h3
      have ba := digit_bounds da; have bb := digit_bounds db; have bc := digit_bounds dc; have bd := digit_bounds dd
      rw [refN_go da (by omega) (by omega)]
      by_cases hz : a.toNat = 48
      · rw [refN, if_pos (by omega)]
        simp [numO, hz]
      · rw [refN_go db (by omega) (by omega), refN_go dc (by omega) (by omega), refN_go dd (by omega) (by omega), refN]
        have e : valP [a, b, c, d] 0 = (((0 * 10 + (a.toNat - 48)) * 10 + (b.toNat - 48)) * 10 + (c.toNat - 48)) * 10 + (d.toNat - 48) := by simp [valP]; omega
        simp only [numO, hr, e, List.length_cons, List.length_nil]
        simp [hz]
    | a :: b :: c :: d :: x :: r, hr =>
      obtain ⟨da, h1⟩ := all_digit hr
      obtain ⟨db, h2⟩ := all_digit h1
      obtain ⟨dc, h3⟩ := all_digit h2
      obtain ⟨dd, h4⟩ := all_digit h3
      obtain ⟨dx, _⟩ := all_digit h4
      have ba := digit_bounds da; have bb := digit_bounds db; have bc := digit_bounds dc; have bd := digit_bounds dd; have bx := digit_bounds dx
      have hno : numO (a :: b :: c :: d :: x :: r) = none := by simp [numO]
      rw [hno, refN_go da (by omega) (by omega)]
      by_cases hz : a.toNat = 48
      · rw [refN, if_pos (by omega)]
      · rw [refN_go db (by omega) (by omega), refN_go dc (by omega) (by omega), refN_go dd (by omega) (by omega)]
        by_cases hb : 4096 < (((0 * 10 + (a.toNat - 48)) * 10 + (b.toNat - 48)) * 10 + (c.toNat - 48)) * 10 + (d.toNat - 48)
        · rw [refN, if_pos (.inr (.inl hb))]
        · rw [refN_go dx (by omega) (by omega)]
          rcases refN_big r (0 + 1 + 1 + 1 + 1 + 1) (((((0 * 10 + (a.toNat - 48)) * 10 + (b.toNat - 48)) * 10 + (c.toNat - 48)) * 10 + (d.toNat - 48)) * 10 + (x.toNat - 48)) (by omega) with h | ⟨m, h, hm⟩
          · rw [h]
          · rw [h]; simp [hm]
theorem valP_ge : ∀ (l : List UInt8) (n : Nat), n ≤ valP l n
  | [], n => Nat.le_refl _
  | c :: l, n => by have := valP_ge l (10 * n + (c.toNat - 48)); rw [valP]; omega
theorem valP_le : ∀ (l : List UInt8) (n : Nat), runP digitP l = l.length → valP l n + 1 ≤ (n + 1) * 10 ^ l.length
  | [], n, h => by simp [valP]
  | c :: l, n, h => by
    obtain ⟨h1, h2⟩ := all_digit h
    have hb := digit_bounds h1
    have ih := valP_le l (10 * n + (c.toNat - 48)) h2
    rw [valP, List.length_cons, Nat.pow_succ]
    have h3 : (10 * n + (c.toNat - 48) + 1) ≤ (n + 1) * 10 := by omega
    calc valP l (10 * n + (c.toNat - 48)) + 1 ≤ (10 * n + (c.toNat - 48) + 1) * 10 ^ l.length := ih
      _ ≤ ((n + 1) * 10) * 10 ^ l.length := Nat.mul_le_mul_right _ h3
      _ = (n + 1) * (10 ^ l.length * 10) := by rw [Nat.mul_assoc, Nat.mul_comm 10]
theorem valP_small (l : List UInt8) (h : runP digitP l = l.length) (h4 : l.length ≤ 4) : valP l 0 ≤ 9999 := by
  have h1 := valP_le l 0 h
  have h2 : 10 ^ l.length ≤ 10 ^ 4 := Nat.pow_le_pow_right (by omega) h4
  omega
end Go.Proofs.Ytgbfoklgejdegaa.Lx
