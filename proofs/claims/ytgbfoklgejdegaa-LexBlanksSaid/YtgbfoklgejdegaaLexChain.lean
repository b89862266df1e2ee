/- lex: how tokens follow one another, in plain Lean. -/
import Derived.Test.YtgbfoklgejdegaaLexWords
namespace Go.Proofs.Ytgbfoklgejdegaa.Lx
set_option linter.unusedVariables false
set_option linter.unusedSimpArgs false

def endT (s : ByteArray) : Tok := ⟨3, ByteArray.empty, s.size⟩
/-- from a place on: tokens one behind the other, the last one the end -/
def Ch (s : ByteArray) : Nat → List Tok → Prop
  | lo, [] => False
  | lo, [t] => lo ≤ s.size ∧ t = endT s
  | lo, t :: u :: l => lo ≤ t.a ∧ t.a + t.s.size ≤ s.size ∧ 1 ≤ t.s.size ∧ s.extract t.a (t.a + t.s.size) = t.s ∧ t.k ≠ 3 ∧ Ch s (t.a + t.s.size) (u :: l)

theorem kindOf_ne (c : UInt8) : kindOf c ≠ 3 := by
  unfold kindOf
  split
  · decide
  · split
    · decide
    · split <;> decide
theorem size_cut (s : ByteArray) (a n : Nat) (h : a + n ≤ s.size) : (s.extract a (a + n)).size = n := by
  rw [ByteArray.size_extract]; omega
theorem tokG_cons (s : ByteArray) : ∀ (f a : Nat), 1 ≤ f → ∃ t l, tokG s f a = t :: l
  | f + 1, a, _ => by
    rw [tokG]
    split
    · exact ⟨_, _, rfl⟩
    · exact ⟨_, _, rfl⟩
theorem tokG_chain (s : ByteArray) : ∀ (f lo a : Nat), lo ≤ a → a ≤ s.size → s.size + 1 ≤ a + f → Ch s lo (tokG s f a)
  | 0, lo, a, h0, h1, h2 => by omega
  | f + 1, lo, a, h0, h1, h2 => by
    by_cases h : a < s.size
    · have hp := lenAt_pos s a h
      have hl := lenAt_le s a h
      have hsz := size_cut s a (lenAt s a) hl
      have ih := tokG_chain s f (a + lenAt s a) (skp s (a + lenAt s a)) (skp_ge s _) (skp_le s _ hl) (by have := skp_ge s (a + lenAt s a); omega)
      rw [tokG_step s f a h]
      obtain ⟨t, l, e⟩ := tokG_cons s f (skp s (a + lenAt s a)) (by have := skp_le s (a + lenAt s a) hl; omega)
      rw [e] at ih ⊢
      refine ⟨h0, ?_, ?_, ?_, kindOf_ne _, ?_⟩
      · show a + (s.extract a (a + lenAt s a)).size ≤ s.size
        omega
      · show 1 ≤ (s.extract a (a + lenAt s a)).size
        omega
      · show s.extract a (a + (s.extract a (a + lenAt s a)).size) = s.extract a (a + lenAt s a)
        rw [hsz]
      · show Ch s (a + (s.extract a (a + lenAt s a)).size) (t :: l)
        rw [hsz]; exact ih
    · rw [tokG_end s f a h]
      exact ⟨by omega, rfl⟩
theorem toks_chain (s : ByteArray) : Ch s 0 (toks s) := tokG_chain s _ 0 _ (Nat.zero_le _) (skp_le s 0 (Nat.zero_le _)) (by omega)

/-- what holds of the token at a place of the list -/
structure Fine (s : ByteArray) (n i : Nat) (t : Tok) : Prop where
  place : t.a + t.s.size ≤ s.size
  text : s.extract t.a (t.a + t.s.size) = t.s
  last : t.k = 3 ↔ i + 1 = n
  none_ : t.s.size = 0 ↔ t.k = 3
theorem chain_fine (s : ByteArray) : ∀ (l : List Tok) (lo : Nat), Ch s lo l → ∀ (i : Nat) (t : Tok), l[i]? = some t → Fine s l.length i t ∧ lo ≤ t.a
  | [], lo, h, i, t, e => by cases h
  | [u], lo, h, i, t, e => by
    obtain ⟨h1, rfl⟩ := h
    have hi : i = 0 := by have := (List.getElem?_eq_some_iff.1 e).1; simpa using this
    subst hi
    have e : endT s = t := by simpa using e
    subst e
    refine ⟨⟨Nat.le_refl _, ?_, by simp [endT], by simp [endT]⟩, h1⟩
    show s.extract s.size (s.size + 0) = ByteArray.empty
    rw [Nat.add_zero, ByteArray.extract_same]
  | u :: v :: l, lo, h, i, t, e => by
    obtain ⟨h1, h2, h3, h4, h5, h6⟩ := h
    cases i with
    | zero =>
      have e : u = t := by simpa using e
      subst e
      refine ⟨⟨h2, h4, ⟨fun x => absurd x h5, fun x => by simp at x⟩, ⟨fun x => by omega, fun x => absurd x h5⟩⟩, h1⟩
    | succ i =>
      obtain ⟨q, hq⟩ := chain_fine s (v :: l) _ h6 i t (by simpa using e)
      refine ⟨⟨q.place, q.text, ?_, q.none_⟩, by omega⟩
      rw [q.last]; simp
theorem chain_next (s : ByteArray) : ∀ (l : List Tok) (lo : Nat), Ch s lo l → ∀ (i : Nat) (t u : Tok), l[i]? = some t → l[i + 1]? = some u → t.a + t.s.size ≤ u.a
  | [], lo, h, i, t, u, e, e2 => by cases h
  | [x], lo, h, i, t, u, e, e2 => by simp at e2
  | x :: y :: l, lo, h, i, t, u, e, e2 => by
    obtain ⟨h1, h2, h3, h4, h5, h6⟩ := h
    cases i with
    | zero =>
      have e : x = t := by simpa using e
      subst e
      have e2 : y = u := by simpa using e2
      exact (chain_fine s (y :: l) _ h6 0 u (by rw [e2]; rfl)).2
    | succ i => exact chain_next s (y :: l) _ h6 i t u (by simpa using e) (by simpa using e2)
theorem words_err (s : ByteArray) {p e : Int} (h : words s = some (p, e)) : e = 2 ∨ e = 4 := by
  have key : ∀ (l : List Tok) (n : Nat), wordsR l n = some (p, e) → e = 2 ∨ e = 4 := by
    intro l
    induction l with
    | nil => intro n h; cases h
    | cons x l ih =>
      intro n h
      rw [wordsR] at h
      split at h
      · injection h with h; injection h with h1 h2; right; exact h2.symm
      · split at h
        · injection h with h; injection h with h1 h2; left; exact h2.symm
        · exact ih _ h
  unfold words at h
  split at h
  · injection h with h; injection h with h1 h2; left; exact h2.symm
  · exact key _ _ h
end Go.Proofs.Ytgbfoklgejdegaa.Lx
