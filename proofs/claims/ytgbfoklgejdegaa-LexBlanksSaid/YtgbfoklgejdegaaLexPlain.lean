/- lex: bytes' sorts, runs of them; in plain Lean. -/
import Derived.Lib.Bytealg
namespace Go.Proofs.Ytgbfoklgejdegaa.Lx
set_option linter.unusedVariables false
set_option linter.unusedSimpArgs false

def letterP (c : UInt8) : Bool := decide (97 ≤ c.toNat) && decide (c.toNat ≤ 122)
def digitP (c : UInt8) : Bool := decide (48 ≤ c.toNat) && decide (c.toNat ≤ 57)
def innerP (c : UInt8) : Bool := letterP c || digitP c || decide (c.toNat = 95)
def notNl (c : UInt8) : Bool := !decide (c.toNat = 10)
/-- how many bytes ahead are of a sort -/
def runP (p : UInt8 → Bool) (l : List UInt8) : Nat := (l.takeWhile p).length
theorem runP_le (p : UInt8 → Bool) (l : List UInt8) : runP p l ≤ l.length := by
  unfold runP
  induction l with
  | nil => simp
  | cons a l ih => rw [List.takeWhile_cons]; split <;> simp <;> omega
theorem runP_lt {p : UInt8 → Bool} : ∀ {l : List UInt8} {n : Nat}, n < runP p l → ∃ h : n < l.length, p l[n] = true
  | [], n, h => by simp [runP] at h
  | a :: l, n, h => by
    unfold runP at h
    rw [List.takeWhile_cons] at h
    split at h
    · rename_i ha
      cases n with
      | zero => exact ⟨by simp, ha⟩
      | succ n =>
        obtain ⟨h1, h2⟩ := runP_lt (p := p) (l := l) (n := n) (by unfold runP; simpa using h)
        exact ⟨by simpa using h1, by simpa using h2⟩
    · simp at h
theorem runP_end (p : UInt8 → Bool) : ∀ (l : List UInt8), runP p l = l.length ∨ ∃ h : runP p l < l.length, p l[runP p l] = false
  | [] => by simp [runP]
  | a :: l => by
    by_cases ha : p a = true
    · have e : runP p (a :: l) = runP p l + 1 := by unfold runP; rw [List.takeWhile_cons, if_pos ha]; rfl
      rcases runP_end p l with h | ⟨h1, h2⟩
      · left; rw [e, h]; rfl
      · right; exact ⟨by rw [e]; simpa using h1, by simp only [e, List.getElem_cons_succ]; exact h2⟩
    · have e : runP p (a :: l) = 0 := by unfold runP; rw [List.takeWhile_cons, if_neg ha]; rfl
      right; exact ⟨by rw [e]; simp, by simp only [e, List.getElem_cons_zero]; simpa using ha⟩
/-- blanks -/
def blank (c : UInt8) : Bool := decide (c.toNat = 32) || decide (c.toNat = 9) || decide (c.toNat = 10) || decide (c.toNat = 13)
/-- how many bytes ahead are no part of a token; true: in a remark -/
def skipN : Bool → List UInt8 → Nat
  | _, [] => 0
  | false, c :: l => if c.toNat = 35 then 1 + skipN true l else if blank c then 1 + skipN false l else 0
  | true, c :: l => if c.toNat = 10 then 1 + skipN false l else 1 + skipN true l
theorem skipN_le : ∀ (b : Bool) (l : List UInt8), skipN b l ≤ l.length
  | _, [] => by cases ‹Bool› <;> simp [skipN]
  | false, c :: l => by
    have h1 := skipN_le true l
    have h2 := skipN_le false l
    unfold skipN
    simp only [List.length_cons]
    split
    · omega
    · split <;> omega
  | true, c :: l => by
    have h1 := skipN_le true l
    have h2 := skipN_le false l
    unfold skipN
    simp only [List.length_cons]
    split <;> omega
theorem skip_run : ∀ (l : List UInt8), skipN true l = runP notNl l + skipN false (l.drop (runP notNl l))
  | [] => by simp [skipN, runP]
  | c :: l => by
    by_cases h : c.toNat = 10
    · have e : runP notNl (c :: l) = 0 := by simp [runP, List.takeWhile_cons, notNl, h]
      rw [e]
      simp [skipN, h, blank]
    · have e : runP notNl (c :: l) = runP notNl l + 1 := by simp [runP, List.takeWhile_cons, notNl, h]
      rw [e, List.drop_succ_cons, skipN, if_neg h, skip_run l]
      omega
theorem skip_hash (c : UInt8) (l : List UInt8) (h : c.toNat = 35) : skipN false (c :: l) = skipN true (c :: l) := by
  simp [skipN, h]
end Go.Proofs.Ytgbfoklgejdegaa.Lx
