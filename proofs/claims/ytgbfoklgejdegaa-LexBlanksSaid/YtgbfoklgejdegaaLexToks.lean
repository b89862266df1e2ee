/- lex: the tokens of a text, in plain Lean. -/
import Derived.Test.YtgbfoklgejdegaaLexPlain
namespace Go.Proofs.Ytgbfoklgejdegaa.Lx
set_option linter.unusedVariables false
set_option linter.unusedSimpArgs false

structure Tok where
  k : Int
  s : ByteArray
  a : Nat
def signs : ByteArray := ⟨#[40, 41, 91, 93, 123, 125, 60, 62, 124, 58, 59, 44, 63]⟩
def kindOf (c : UInt8) : Int := if letterP c then 0 else if digitP c then 1 else if 0 ≤ Lib.indexByte signs.data.toList c then 2 else -1
def byteAt (s : ByteArray) (a : Nat) : UInt8 := s.data.toList.getD a 0
def lenAt (s : ByteArray) (a : Nat) : Nat := if letterP (byteAt s a) then runP innerP (s.data.toList.drop a) else if digitP (byteAt s a) then runP digitP (s.data.toList.drop a) else 1
/-- the token that begins at a place -/
def tokAt (s : ByteArray) (a : Nat) : Tok := ⟨kindOf (byteAt s a), s.extract a (a + lenAt s a), a⟩
/-- the next place that counts -/
def skp (s : ByteArray) (a : Nat) : Nat := a + skipN false (s.data.toList.drop a)
def tokG (s : ByteArray) : Nat → Nat → List Tok
  | 0, _ => []
  | f + 1, a => if a < s.size then tokAt s a :: tokG s f (skp s (a + lenAt s a)) else [⟨3, ByteArray.empty, s.size⟩]
def toks (s : ByteArray) : List Tok := tokG s (s.size + 1) (skp s 0)

theorem size_list (s : ByteArray) : s.data.toList.length = s.size := Array.length_toList
theorem skp_le (s : ByteArray) (a : Nat) (h : a ≤ s.size) : skp s a ≤ s.size := by
  have := skipN_le false (s.data.toList.drop a)
  rw [List.length_drop, size_list] at this
  unfold skp; omega
theorem skp_ge (s : ByteArray) (a : Nat) : a ≤ skp s a := by unfold skp; omega
theorem byteAt_get (s : ByteArray) (a : Nat) (h : a < s.size) : s[a] = byteAt s a := by
  unfold byteAt
  rw [List.getD, List.getElem?_eq_getElem (by rw [size_list]; exact h)]
  rfl
theorem drop_byteAt (s : ByteArray) (a : Nat) (h : a < s.size) : s.data.toList.drop a = byteAt s a :: s.data.toList.drop (a + 1) := by
  rw [List.drop_eq_getElem_cons (by rw [size_list]; exact h), ← byteAt_get s a h]
  rfl
theorem lenAt_pos (s : ByteArray) (a : Nat) (h : a < s.size) : 1 ≤ lenAt s a := by
  unfold lenAt
  split
  · rename_i hl
    rw [drop_byteAt s a h]; simp [runP, List.takeWhile_cons, innerP, hl]
  · split
    · rename_i hl
      rw [drop_byteAt s a h]; simp [runP, List.takeWhile_cons, hl]
    · exact Nat.le_refl _
theorem lenAt_le (s : ByteArray) (a : Nat) (h : a < s.size) : a + lenAt s a ≤ s.size := by
  have h1 := runP_le innerP (s.data.toList.drop a)
  have h2 := runP_le digitP (s.data.toList.drop a)
  rw [List.length_drop, size_list] at h1 h2
  unfold lenAt
  split
  · omega
  · split <;> omega
theorem tokG_step (s : ByteArray) (f a : Nat) (h : a < s.size) : tokG s (f + 1) a = tokAt s a :: tokG s f (skp s (a + lenAt s a)) := by rw [tokG, if_pos h]
theorem tokG_end (s : ByteArray) (f a : Nat) (h : ¬ a < s.size) : tokG s (f + 1) a = [⟨3, ByteArray.empty, s.size⟩] := by rw [tokG, if_neg h]
end Go.Proofs.Ytgbfoklgejdegaa.Lx
