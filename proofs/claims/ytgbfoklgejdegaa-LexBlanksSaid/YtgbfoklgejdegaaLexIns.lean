/- lex: a line feed ahead of a token, in plain Lean. -/
import Derived.Test.YtgbfoklgejdegaaLexChain
namespace Go.Proofs.Ytgbfoklgejdegaa.Lx
set_option linter.unusedVariables false
set_option linter.unusedSimpArgs false

theorem skip_ins : ∀ (u : List UInt8) (b : Bool) (v : List UInt8), (skipN b (u ++ v) < u.length → skipN b (u ++ 10 :: v) = skipN b (u ++ v)) ∧ (skipN b (u ++ v) = u.length → skipN b (u ++ 10 :: v) = u.length + 1)
  | [], b, v => by
    refine ⟨fun h => by simp at h, fun h => ?_⟩
    rw [List.nil_append] at h ⊢
    have hf : skipN false v = 0 := by
      cases b with
      | false => exact h
      | true =>
        cases v with
        | nil => rfl
        | cons c v =>
          exfalso
          rw [skipN] at h
          simp only [List.length_nil] at h
          split at h <;> omega
    cases b with
    | false => simp [skipN, blank, hf]
    | true => simp [skipN, hf]
  | c :: u, b, v => by
    have i1 := skip_ins u true v
    have i2 := skip_ins u false v
    cases b with
    | false =>
      simp only [List.cons_append, skipN, List.length_cons]
      by_cases h1 : c.toNat = 35
      · simp only [h1, if_true]
        exact ⟨fun h => by have := i1.1 (by omega); omega, fun h => by have := i1.2 (by omega); omega⟩
      · by_cases h2 : blank c = true
        · simp only [h1, if_false, h2, if_true]
          exact ⟨fun h => by have := i2.1 (by omega); omega, fun h => by have := i2.2 (by omega); omega⟩
        · have h2' : blank c = false := by simpa using h2
          simp only [h1, if_false, h2', Bool.false_eq_true, if_false]
          exact ⟨fun h => trivial, fun h => by omega⟩
    | true =>
      simp only [List.cons_append, skipN, List.length_cons]
      by_cases h1 : c.toNat = 10
      · simp only [h1, if_true]
        exact ⟨fun h => by have := i2.1 (by omega); omega, fun h => by have := i2.2 (by omega); omega⟩
      · simp only [h1, if_false]
        exact ⟨fun h => by have := i1.1 (by omega); omega, fun h => by have := i1.2 (by omega); omega⟩
theorem run_cons' (p : UInt8 → Bool) (c : UInt8) (l : List UInt8) : runP p (c :: l) = if p c = true then runP p l + 1 else 0 := by
  unfold runP; rw [List.takeWhile_cons]; split <;> rfl
theorem run_ins (p : UInt8 → Bool) (hp : p 10 = false) : ∀ (u v : List UInt8), runP p (u ++ v) ≤ u.length → runP p (u ++ 10 :: v) = runP p (u ++ v)
  | [], v, h => by
    have h : runP p v = 0 := Nat.le_zero.1 h
    rw [List.nil_append, List.nil_append, run_cons', hp, h]; rfl
  | c :: u, v, h => by
    rw [List.cons_append, run_cons'] at h
    rw [List.cons_append, List.cons_append, run_cons', run_cons']
    by_cases hc : p c = true
    · rw [if_pos hc] at h
      rw [if_pos hc, if_pos hc, run_ins p hp u v (by rw [List.length_cons] at h; omega)]
    · rw [if_neg hc, if_neg hc]

theorem drop_old (s : ByteArray) (a y : Nat) (hy : y ≤ a) : s.data.toList.drop y = (s.data.toList.drop y).take (a - y) ++ s.data.toList.drop a := by
  have e := (List.take_append_drop (a - y) (s.data.toList.drop y)).symm
  rwa [List.drop_drop, show y + (a - y) = a by omega] at e
theorem cut_eq {t t' : ByteArray} (e : t.data.toList = t'.data.toList) : t = t' := by
  cases t; cases t'; congr 1; exact Array.toList_inj.1 e
theorem ext_list (t : ByteArray) (b c : Nat) : (t.extract b c).data.toList = (t.data.toList.drop b).take (c - b) := by
  rw [ByteArray.data_extract, Array.toList_extract, List.extract_eq_take_drop]
/-- s with a line feed at place a -/
structure Ins (s s' : ByteArray) (a : Nat) : Prop where
  le : a ≤ s.size
  eq : s'.data.toList = s.data.toList.take a ++ 10 :: s.data.toList.drop a
namespace Ins
variable {s s' : ByteArray} {a : Nat} (h : Ins s s' a)
include h
theorem size : s'.size = s.size + 1 := by
  have e := congrArg List.length h.eq
  rw [size_list, List.length_append, List.length_take, List.length_cons, List.length_drop, size_list] at e
  have := h.le
  omega
theorem drop_hi (x : Nat) (hx : a ≤ x) : s'.data.toList.drop (x + 1) = s.data.toList.drop x := by
  rw [h.eq, List.drop_append, List.length_take, size_list, List.drop_of_length_le (by rw [List.length_take, size_list]; omega), List.nil_append, show x + 1 - min a s.size = (x - a) + 1 by have := h.le; omega, List.drop_succ_cons, List.drop_drop, show a + (x - a) = x by omega]
theorem drop_lo (y : Nat) (hy : y ≤ a) : s'.data.toList.drop y = (s.data.toList.drop y).take (a - y) ++ 10 :: s.data.toList.drop a := by
  rw [h.eq, List.drop_append_of_le_length (by rw [List.length_take, size_list]; have := h.le; omega), List.drop_take]
theorem take_len (y : Nat) (hy : y ≤ a) : ((s.data.toList.drop y).take (a - y)).length = a - y := by
  rw [List.length_take, List.length_drop, size_list]; have := h.le; omega
theorem skp_hi (x : Nat) (hx : a ≤ x) : skp s' (x + 1) = skp s x + 1 := by unfold skp; rw [h.drop_hi x hx]; omega
theorem skp_same (y : Nat) (hy : y ≤ a) (hl : skp s y < a) : skp s' y = skp s y := by
  have hi := (skip_ins ((s.data.toList.drop y).take (a - y)) false (s.data.toList.drop a)).1
  rw [← h.drop_lo y hy, ← drop_old s a y hy, h.take_len y hy] at hi
  unfold skp at *
  rw [hi (by omega)]
theorem skp_at (y : Nat) (hy : y ≤ a) (hl : skp s y = a) : skp s' y = a + 1 := by
  have hi := (skip_ins ((s.data.toList.drop y).take (a - y)) false (s.data.toList.drop a)).2
  rw [← h.drop_lo y hy, ← drop_old s a y hy, h.take_len y hy] at hi
  unfold skp at *
  rw [hi (by omega)]
  omega
theorem byte_hi (x : Nat) (hx : a ≤ x) : byteAt s' (x + 1) = byteAt s x := by
  have e := congrArg (fun l => l.getD 0 0) (h.drop_hi x hx)
  simpa [List.getD, byteAt] using e
theorem byte_lo (x : Nat) (hx : x < a) : byteAt s' x = byteAt s x := by
  unfold byteAt
  rw [h.eq, List.getD, List.getElem?_append_left (by rw [List.length_take, size_list]; have := h.le; omega), List.getElem?_take, if_pos hx]
  rfl
theorem len_hi (x : Nat) (hx : a ≤ x) : lenAt s' (x + 1) = lenAt s x := by unfold lenAt; rw [h.byte_hi x hx, h.drop_hi x hx]
theorem len_lo (x : Nat) (hx : x < a) (hl : x + lenAt s x ≤ a) : lenAt s' x = lenAt s x := by
  have r1 := run_ins innerP (by decide) ((s.data.toList.drop x).take (a - x)) (s.data.toList.drop a)
  have r2 := run_ins digitP (by decide) ((s.data.toList.drop x).take (a - x)) (s.data.toList.drop a)
  rw [← h.drop_lo x (by omega), ← drop_old s a x (by omega), h.take_len x (by omega)] at r1 r2
  unfold lenAt at *
  rw [h.byte_lo x hx]
  split at hl
  · rename_i h1; rw [if_pos h1, if_pos h1, r1 (by omega)]
  · rename_i h1
    rw [if_neg h1, if_neg h1]
    split at hl
    · rename_i h2; rw [if_pos h2, if_pos h2, r2 (by omega)]
    · rename_i h2; rw [if_neg h2, if_neg h2]
theorem ext_hi (x n : Nat) (hx : a ≤ x) : s'.extract (x + 1) (x + 1 + n) = s.extract x (x + n) := by
  apply cut_eq
  rw [ext_list, ext_list, h.drop_hi x hx, show x + 1 + n - (x + 1) = n by omega, show x + n - x = n by omega]
theorem ext_lo (x n : Nat) (hx : x + n ≤ a) : s'.extract x (x + n) = s.extract x (x + n) := by
  apply cut_eq
  rw [ext_list, ext_list, h.drop_lo x (by omega), show x + n - x = n by omega, List.take_append_of_le_length (by rw [h.take_len x (by omega)]; omega), List.take_take, Nat.min_eq_left (by omega)]
end Ins
def sh (t : Tok) : Tok := ⟨t.k, t.s, t.a + 1⟩
theorem Ins.shift {s s' : ByteArray} {a : Nat} (h : Ins s s' a) : ∀ (f x : Nat), a ≤ x → tokG s' f (x + 1) = (tokG s f x).map sh
  | 0, x, hx => rfl
  | f + 1, x, hx => by
    by_cases hin : x < s.size
    · rw [tokG_step s f x hin, tokG_step s' f (x + 1) (by rw [h.size]; omega), List.map_cons]
      have hl := h.len_hi x hx
      have e : tokAt s' (x + 1) = sh (tokAt s x) := by
        unfold tokAt sh
        rw [h.byte_hi x hx, hl, h.ext_hi x _ hx]
      rw [e, hl, show x + 1 + lenAt s x = (x + lenAt s x) + 1 by omega, h.skp_hi _ (by omega), Ins.shift h f _ (by have := skp_ge s (x + lenAt s x); omega)]
    · rw [tokG_end s f x hin, tokG_end s' f (x + 1) (by rw [h.size]; omega), h.size]; rfl
theorem tokG_fuel (s : ByteArray) : ∀ (f x : Nat), x ≤ s.size → s.size + 1 ≤ x + f → tokG s (f + 1) x = tokG s f x
  | 0, x, hx, h => by omega
  | f + 1, x, hx, h => by
    by_cases hin : x < s.size
    · have hp := lenAt_pos s x hin
      have hl := lenAt_le s x hin
      rw [tokG_step s (f + 1) x hin, tokG_step s f x hin, tokG_fuel s f _ (skp_le s _ hl) (by have := skp_ge s (x + lenAt s x); omega)]
    · rw [tokG_end s (f + 1) x hin, tokG_end s f x hin]
theorem Ins.before {s s' : ByteArray} {a : Nat} (h : Ins s s' a) : ∀ (k f y : Nat) (t : Tok), y ≤ a → s.size + 1 ≤ skp s y + f → (tokG s f (skp s y))[k]? = some t → t.a = a →
    tokG s' f (skp s' y) = (tokG s f (skp s y)).take k ++ ((tokG s f (skp s y)).drop k).map sh
  | k, 0, y, t, hy, hf, hk, ht => by simp [tokG] at hk
  | 0, f + 1, y, t, hy, hf, hk, ht => by
    have hsy := skp_le s y (Nat.le_trans hy h.le)
    have hat : skp s y = a := by
      by_cases hin : skp s y < s.size
      · rw [tokG_step s f _ hin] at hk
        have e : tokAt s (skp s y) = t := by simpa using hk
        rw [← ht, ← e]; rfl
      · rw [tokG_end s f _ hin] at hk
        have e : (⟨3, ByteArray.empty, s.size⟩ : Tok) = t := by simpa using hk
        rw [← ht, ← e]
        show skp s y = s.size
        omega
    rw [h.skp_at y hy hat, h.shift (f + 1) a (Nat.le_refl _), hat]
    rfl
  | k + 1, f + 1, y, t, hy, hf, hk, ht => by
    by_cases hin : skp s y < s.size
    · have hl := lenAt_le s _ hin
      have hp := lenAt_pos s _ hin
      rw [tokG_step s f _ hin] at hk ⊢
      have hk2 : (tokG s f (skp s (skp s y + lenAt s (skp s y))))[k]? = some t := by simpa using hk
      have hch := tokG_chain s f (skp s y + lenAt s (skp s y)) _ (skp_ge s _) (skp_le s _ hl) (by have := skp_ge s (skp s y + lenAt s (skp s y)); omega)
      have hlo := (chain_fine s _ _ hch k t hk2).2
      rw [ht] at hlo
      have hxa : skp s y < a := by omega
      have hsame := h.skp_same y hy hxa
      have hlen := h.len_lo (skp s y) hxa hlo
      have htok : tokAt s' (skp s y) = tokAt s (skp s y) := by
        unfold tokAt
        rw [h.byte_lo _ hxa, hlen, h.ext_lo _ _ hlo]
      rw [hsame, tokG_step s' f _ (by rw [h.size]; omega), htok, hlen, Ins.before h k f _ t hlo (by have := skp_ge s (skp s y + lenAt s (skp s y)); omega) hk2 ht]
      rfl
    · rw [tokG_end s f _ hin] at hk
      simp at hk
theorem Ins.toks {s s' : ByteArray} {a : Nat} (h : Ins s s' a) (k : Nat) (t : Tok) (hk : (toks s)[k]? = some t) (ht : t.a = a) : Lx.toks s' = (Lx.toks s).take k ++ ((Lx.toks s).drop k).map sh := by
  have e : Lx.toks s = tokG s (s.size + 2) (skp s 0) := by unfold Lx.toks; rw [tokG_fuel s (s.size + 1) _ (skp_le s 0 (Nat.zero_le _)) (by omega)]
  have e' : Lx.toks s' = tokG s' (s.size + 2) (skp s' 0) := by unfold Lx.toks; rw [h.size]
  rw [e] at hk ⊢
  rw [e']
  exact h.before k _ 0 t (Nat.zero_le _) (by omega) hk ht
theorem wordsR_kinds : ∀ (l m : List Tok) (n : Nat), l.map (·.k) = m.map (·.k) → wordsR l n = none → wordsR m n = none
  | [], [], n, h, e => rfl
  | [], y :: m, n, h, e => by simp at h
  | x :: l, [], n, h, e => by simp at h
  | x :: l, y :: m, n, h, e => by
    simp only [List.map_cons, List.cons.injEq] at h
    rw [wordsR] at e ⊢
    rw [← h.1]
    split at e
    · cases e
    · rename_i h1
      rw [if_neg h1]
      split at e
      · cases e
      · rename_i h2
        rw [if_neg h2]
        exact wordsR_kinds l m (n + 1) h.2 e
theorem Ins.words {s s' : ByteArray} {a : Nat} (h : Ins s s' a) (k : Nat) (t : Tok) (hk : (Lx.toks s)[k]? = some t) (ht : t.a = a) (hw : words s = none) (hs : s.size < 4096) : words s' = none := by
  unfold Lx.words at *
  rw [if_neg (by omega)] at hw
  rw [if_neg (by rw [h.size]; omega), h.toks k t hk ht]
  refine wordsR_kinds _ _ 0 ?_ hw
  rw [List.map_append, List.map_map, show (fun x : Tok => x.k) ∘ sh = (fun x : Tok => x.k) from rfl, ← List.map_append, List.take_append_drop]
end Go.Proofs.Ytgbfoklgejdegaa.Lx
