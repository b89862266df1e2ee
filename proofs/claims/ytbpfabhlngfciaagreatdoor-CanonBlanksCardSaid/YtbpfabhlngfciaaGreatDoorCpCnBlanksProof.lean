/- suffragan/suffraganlaw08.CanonBlanks: the given statement, out of the contract of its walk. No condition. -/
import Derived.Test.YtbpfabhlngfciaaGreatDoorCpO
import Derived.Lib.IndexLaws
import Derived.BigFrame
import Derived.SizedLaws
import Derived.ShutString
import Derived.ChangeOld
import Derived.SliceStrings
set_option linter.unusedVariables false
set_option linter.unusedSimpArgs false
set_option maxRecDepth 100000
set_option maxHeartbeats 1000000
namespace Go.Proofs.YtbpfabhlngfciaaGreatDoor.Lx
def endT (s : ByteArray) : Tok := ⟨3, ByteArray.empty, s.size⟩
def Ch (s : ByteArray) : Nat → List Tok → Prop
 | lo, [] => False
 | lo, [t] => lo ≤ s.size ∧ t = endT s
 | lo, t :: u :: l => lo ≤ t.a ∧ t.a + t.s.size ≤ s.size ∧ 1 ≤ t.s.size ∧ s.extract t.a (t.a + t.s.size) = t.s ∧ t.k ≠ 3 ∧ Ch s (t.a + t.s.size) (u :: l)
theorem kindOf_ne (c : UInt8) : kindOf c ≠ 3 := by
 unfold kindOf
 split
 ·decide
 ·split
  ·decide
  ·split <;> decide
theorem size_cut (s : ByteArray) (a n : Nat) (h : a + n ≤ s.size) : (s.extract a (a + n)).size = n := by
 rw [ByteArray.size_extract]; omega
theorem tokG_cons (s : ByteArray) : ∀ (f a : Nat), 1 ≤ f → ∃ t l, tokG s f a = t :: l
 | f + 1, a, _ => by
  rw [tokG]
  split
  ·exact ⟨_, _, rfl⟩
  ·exact ⟨_, _, rfl⟩
theorem tokG_chain (s : ByteArray) : ∀ (f lo a : Nat), lo ≤ a → a ≤ s.size → s.size + 1 ≤ a + f → Ch s lo (tokG s f a)
 | 0, lo, a, h0, h1, h2 => by omega
 | f + 1, lo, a, h0, h1, h2 => by
  by_cases h : a < s.size
  ·have hp := lenAt_pos s a h
   have hl := lenAt_le s a h
   have hsz := size_cut s a (lenAt s a) hl
   have ih := tokG_chain s f (a + lenAt s a) (skp s (a + lenAt s a)) (skp_ge s _) (skp_le s _ hl) (by have := skp_ge s (a + lenAt s a); omega)
   rw [tokG_step s f a h]
   obtain ⟨t, l, e⟩ := tokG_cons s f (skp s (a + lenAt s a)) (by have := skp_le s (a + lenAt s a) hl; omega)
   rw [e] at ih ⊢
   refine ⟨h0, ?_, ?_, ?_, kindOf_ne _, ?_⟩
   ·show a + (s.extract a (a + lenAt s a)).size ≤ s.size
    omega
   ·show 1 ≤ (s.extract a (a + lenAt s a)).size
    omega
   ·show s.extract a (a + (s.extract a (a + lenAt s a)).size) = s.extract a (a + lenAt s a)
    rw [hsz]
   ·show Ch s (a + (s.extract a (a + lenAt s a)).size) (t :: l)
    rw [hsz]; exact ih
  ·rw [tokG_end s f a h]
   exact ⟨by omega, rfl⟩
theorem toks_chain (s : ByteArray) : Ch s 0 (toks s) := tokG_chain s _ 0 _ (Nat.zero_le _) (skp_le s 0 (Nat.zero_le _)) (by omega)
structure Fine (s : ByteArray) (n i : Nat) (t : Tok) : Prop where
 place : t.a + t.s.size ≤ s.size
 text : s.extract t.a (t.a + t.s.size) = t.s
 last : t.k = 3 ↔ i + 1 = n
 none_ : t.s.size = 0 ↔ t.k = 3
theorem chain_fine (s : ByteArray) : ∀ (l : List Tok) (lo : Nat), Ch s lo l → ∀ (i : Nat) (t : Tok), l[i]? = some t → Fine s l.length i t ∧ lo ≤ t.a
 | [], lo, h, i, t, e => by cases h
 | [u], lo, h, i, t, e => by
  obtain ⟨h1, rfl⟩ := h
  have hi : i = 0 := by have := (List.getElem?_eq_some_iff.1 e).1; simpa using this
  subst hi
  have e : endT s = t := by simpa using e
  subst e
  refine ⟨⟨Nat.le_refl _, ?_, by simp [endT], by simp [endT]⟩, h1⟩
  show s.extract s.size (s.size + 0) = ByteArray.empty
  rw [Nat.add_zero, ByteArray.extract_same]
 | u :: v :: l, lo, h, i, t, e => by
  obtain ⟨h1, h2, h3, h4, h5, h6⟩ := h
  cases i with
  | zero =>
   have e : u = t := by simpa using e
   subst e
   refine ⟨⟨h2, h4, ⟨fun x => absurd x h5, fun x => by simp at x⟩, ⟨fun x => by omega, fun x => absurd x h5⟩⟩, h1⟩
  | succ i =>
   obtain ⟨q, hq⟩ := chain_fine s (v :: l) _ h6 i t (by simpa using e)
   refine ⟨⟨q.place, q.text, ?_, q.none_⟩, by omega⟩
   rw [q.last]; simp
theorem chain_next (s : ByteArray) : ∀ (l : List Tok) (lo : Nat), Ch s lo l → ∀ (i : Nat) (t u : Tok), l[i]? = some t → l[i + 1]? = some u → t.a + t.s.size ≤ u.a
 | [], lo, h, i, t, u, e, e2 => by cases h
 | [x], lo, h, i, t, u, e, e2 => by simp at e2
 | x :: y :: l, lo, h, i, t, u, e, e2 => by
  obtain ⟨h1, h2, h3, h4, h5, h6⟩ := h
  cases i with
  | zero =>
   have e : x = t := by simpa using e
   subst e
   have e2 : y = u := by simpa using e2
   exact (chain_fine s (y :: l) _ h6 0 u (by rw [e2]; rfl)).2
  | succ i => exact chain_next s (y :: l) _ h6 i t u (by simpa using e) (by simpa using e2)
theorem words_err (s : ByteArray) {p e : Int} (h : words s = some (p, e)) : e = 2 ∨ e = 4 := by
 have key : ∀ (l : List Tok) (n : Nat), wordsR l n = some (p, e) → e = 2 ∨ e = 4 := by
  intro l
  induction l with
  | nil => intro n h; cases h
  | cons x l ih =>
   intro n h
   rw [wordsR] at h
   split at h
   ·injection h with h; injection h with h1 h2; right; exact h2.symm
   ·split at h
    ·injection h with h; injection h with h1 h2; left; exact h2.symm
    ·exact ih _ h
 unfold words at h
 split at h
 ·injection h with h; injection h with h1 h2; left; exact h2.symm
 ·exact key _ _ h
end Go.Proofs.YtbpfabhlngfciaaGreatDoor.Lx
namespace Go.Proofs.YtbpfabhlngfciaaGreatDoor.Lx
structure Bln (B : List UInt8) : Prop where
 out : ∀ v, skipN false (B ++ v) = B.length + skipN false v
 rem : skipN true B = B.length
 first : ∃ r, B = 32 :: r
theorem skip_ins {B : List UInt8} (hB : Bln B) : ∀ (u : List UInt8) (b : Bool) (v : List UInt8), (skipN b (u ++ v) < u.length → skipN b (u ++ (B ++ v)) = skipN b (u ++ v)) ∧ (skipN b (u ++ v) = u.length → skipN b (u ++ (B ++ v)) = u.length + B.length)
 | [], b, v => by
  refine ⟨fun h => by simp at h, fun h => ?_⟩
  rw [List.nil_append] at h ⊢
  simp only [List.length_nil, Nat.zero_add]
  cases b with
  | false =>
   have h : skipN false v = 0 := h
   rw [hB.out, h]; rfl
  | true =>
   cases v with
   | nil => rw [List.append_nil]; exact hB.rem
   | cons c v =>
    exfalso
    rw [skipN] at h
    simp only [List.length_nil] at h
    split at h <;> omega
 | c :: u, b, v => by
  have i1 := skip_ins hB u true v
  have i2 := skip_ins hB u false v
  cases b with
  | false =>
   simp only [List.cons_append, skipN, List.length_cons]
   by_cases h1 : c.toNat = 35
   ·simp only [h1, if_true]
    exact ⟨fun h => by have := i1.1 (by omega); omega, fun h => by have := i1.2 (by omega); omega⟩
   ·by_cases h2 : blank c = true
    ·simp only [h1, if_false, h2, if_true]
     exact ⟨fun h => by have := i2.1 (by omega); omega, fun h => by have := i2.2 (by omega); omega⟩
    ·have h2' : blank c = false := by simpa using h2
     simp only [h1, if_false, h2', Bool.false_eq_true, if_false]
     exact ⟨fun h => trivial, fun h => by omega⟩
  | true =>
   simp only [List.cons_append, skipN, List.length_cons]
   by_cases h1 : c.toNat = 10
   ·simp only [h1, if_true]
    exact ⟨fun h => by have := i2.1 (by omega); omega, fun h => by have := i2.2 (by omega); omega⟩
   ·simp only [h1, if_false]
    exact ⟨fun h => by have := i1.1 (by omega); omega, fun h => by have := i1.2 (by omega); omega⟩
theorem run_cons' (p : UInt8 → Bool) (c : UInt8) (l : List UInt8) : runP p (c :: l) = if p c = true then runP p l + 1 else 0 := by
 unfold runP; rw [List.takeWhile_cons]; split <;> rfl
theorem run_ins {B : List UInt8} (hB : Bln B) (p : UInt8 → Bool) (hp : p 32 = false) : ∀ (u v : List UInt8), runP p (u ++ v) ≤ u.length → runP p (u ++ (B ++ v)) = runP p (u ++ v)
 | [], v, h => by
  have h : runP p v = 0 := Nat.le_zero.1 h
  obtain ⟨r, rfl⟩ := hB.first
  rw [List.nil_append, List.nil_append, List.cons_append, run_cons', hp, h]; rfl
 | c :: u, v, h => by
  rw [List.cons_append, run_cons'] at h
  rw [List.cons_append, List.cons_append, run_cons', run_cons']
  by_cases hc : p c = true
  ·rw [if_pos hc] at h
   rw [if_pos hc, if_pos hc, run_ins hB p hp u v (by rw [List.length_cons] at h; omega)]
  ·rw [if_neg hc, if_neg hc]
theorem drop_old (s : ByteArray) (a y : Nat) (hy : y ≤ a) : s.data.toList.drop y = (s.data.toList.drop y).take (a - y) ++ s.data.toList.drop a := by
 have e := (List.take_append_drop (a - y) (s.data.toList.drop y)).symm
 rwa [List.drop_drop, show y + (a - y) = a by omega] at e
theorem cut_eq {t t' : ByteArray} (e : t.data.toList = t'.data.toList) : t = t' := by
 cases t; cases t'; congr 1; exact Array.toList_inj.1 e
theorem ext_list (t : ByteArray) (b c : Nat) : (t.extract b c).data.toList = (t.data.toList.drop b).take (c - b) := by
 rw [ByteArray.data_extract, Array.toList_extract, List.extract_eq_take_drop]
structure Ins (B : List UInt8) (s s' : ByteArray) (a : Nat) : Prop where
 bl : Bln B
 le : a ≤ s.size
 eq : s'.data.toList = s.data.toList.take a ++ (B ++ s.data.toList.drop a)
namespace Ins
variable {B : List UInt8} {s s' : ByteArray} {a : Nat} (h : Ins B s s' a)
include h
theorem size : s'.size = s.size + B.length := by
 have e := congrArg List.length h.eq
 rw [size_list, List.length_append, List.length_take, List.length_append, List.length_drop, size_list] at e
 have := h.le
 omega
theorem drop_hi (x : Nat) (hx : a ≤ x) : s'.data.toList.drop (x + B.length) = s.data.toList.drop x := by
 rw [h.eq, List.drop_append, List.length_take, size_list, List.drop_of_length_le (by rw [List.length_take, size_list]; omega), List.nil_append, show x + B.length - min a s.size = B.length + (x - a) by have := h.le; omega, List.drop_append, List.drop_of_length_le (by omega), List.nil_append, Nat.add_sub_cancel_left, List.drop_drop, show a + (x - a) = x by omega]
theorem drop_lo (y : Nat) (hy : y ≤ a) : s'.data.toList.drop y = (s.data.toList.drop y).take (a - y) ++ (B ++ s.data.toList.drop a) := by
 rw [h.eq, List.drop_append_of_le_length (by rw [List.length_take, size_list]; have := h.le; omega), List.drop_take]
theorem take_len (y : Nat) (hy : y ≤ a) : ((s.data.toList.drop y).take (a - y)).length = a - y := by
 rw [List.length_take, List.length_drop, size_list]; have := h.le; omega
theorem skp_hi (x : Nat) (hx : a ≤ x) : skp s' (x + B.length) = skp s x + B.length := by unfold skp; rw [h.drop_hi x hx]; omega
theorem skp_same (y : Nat) (hy : y ≤ a) (hl : skp s y < a) : skp s' y = skp s y := by
 have hi := (skip_ins h.bl ((s.data.toList.drop y).take (a - y)) false (s.data.toList.drop a)).1
 rw [← h.drop_lo y hy, ← drop_old s a y hy, h.take_len y hy] at hi
 unfold skp at *
 rw [hi (by omega)]
theorem skp_at (y : Nat) (hy : y ≤ a) (hl : skp s y = a) : skp s' y = a + B.length := by
 have hi := (skip_ins h.bl ((s.data.toList.drop y).take (a - y)) false (s.data.toList.drop a)).2
 rw [← h.drop_lo y hy, ← drop_old s a y hy, h.take_len y hy] at hi
 unfold skp at *
 rw [hi (by omega)]
 omega
theorem byte_hi (x : Nat) (hx : a ≤ x) : byteAt s' (x + B.length) = byteAt s x := by
 have e := congrArg (fun l => l.getD 0 0) (h.drop_hi x hx)
 simpa [List.getD, byteAt] using e
theorem byte_lo (x : Nat) (hx : x < a) : byteAt s' x = byteAt s x := by
 unfold byteAt
 rw [h.eq, List.getD, List.getElem?_append_left (by rw [List.length_take, size_list]; have := h.le; omega), List.getElem?_take, if_pos hx]
 rfl
theorem len_hi (x : Nat) (hx : a ≤ x) : lenAt s' (x + B.length) = lenAt s x := by unfold lenAt; rw [h.byte_hi x hx, h.drop_hi x hx]
theorem len_lo (x : Nat) (hx : x < a) (hl : x + lenAt s x ≤ a) : lenAt s' x = lenAt s x := by
 have r1 := run_ins h.bl innerP (by decide) ((s.data.toList.drop x).take (a - x)) (s.data.toList.drop a)
 have r2 := run_ins h.bl digitP (by decide) ((s.data.toList.drop x).take (a - x)) (s.data.toList.drop a)
 rw [← h.drop_lo x (by omega), ← drop_old s a x (by omega), h.take_len x (by omega)] at r1 r2
 unfold lenAt at *
 rw [h.byte_lo x hx]
 split at hl
 ·rename_i h1; rw [if_pos h1, if_pos h1, r1 (by omega)]
 ·rename_i h1
  rw [if_neg h1, if_neg h1]
  split at hl
  ·rename_i h2; rw [if_pos h2, if_pos h2, r2 (by omega)]
  ·rename_i h2; rw [if_neg h2, if_neg h2]
theorem ext_hi (x n : Nat) (hx : a ≤ x) : s'.extract (x + B.length) (x + B.length + n) = s.extract x (x + n) := by
 apply cut_eq
 rw [ext_list, ext_list, h.drop_hi x hx, show x + B.length + n - (x + B.length) = n by omega, show x + n - x = n by omega]
theorem ext_lo (x n : Nat) (hx : x + n ≤ a) : s'.extract x (x + n) = s.extract x (x + n) := by
 apply cut_eq
 rw [ext_list, ext_list, h.drop_lo x (by omega), show x + n - x = n by omega, List.take_append_of_le_length (by rw [h.take_len x (by omega)]; omega), List.take_take, Nat.min_eq_left (by omega)]
end Ins
def sh (n : Nat) (t : Tok) : Tok := ⟨t.k, t.s, t.a + n⟩
theorem Ins.shift {B : List UInt8} {s s' : ByteArray} {a : Nat} (h : Ins B s s' a) : ∀ (f x : Nat), a ≤ x → tokG s' f (x + B.length) = (tokG s f x).map (sh B.length)
 | 0, x, hx => rfl
 | f + 1, x, hx => by
  by_cases hin : x < s.size
  ·rw [tokG_step s f x hin, tokG_step s' f (x + B.length) (by rw [h.size]; omega), List.map_cons]
   have hl := h.len_hi x hx
   have e : tokAt s' (x + B.length) = sh B.length (tokAt s x) := by
    unfold tokAt sh
    rw [h.byte_hi x hx, hl, h.ext_hi x _ hx]
   rw [e, hl, show x + B.length + lenAt s x = (x + lenAt s x) + B.length by omega, h.skp_hi _ (by omega), Ins.shift h f _ (by have := skp_ge s (x + lenAt s x); omega)]
  ·rw [tokG_end s f x hin, tokG_end s' f (x + B.length) (by rw [h.size]; omega), h.size]; rfl
theorem tokG_fuel (s : ByteArray) : ∀ (f x : Nat), x ≤ s.size → s.size + 1 ≤ x + f → tokG s (f + 1) x = tokG s f x
 | 0, x, hx, h => by omega
 | f + 1, x, hx, h => by
  by_cases hin : x < s.size
  ·have hp := lenAt_pos s x hin
   have hl := lenAt_le s x hin
   rw [tokG_step s (f + 1) x hin, tokG_step s f x hin, tokG_fuel s f _ (skp_le s _ hl) (by have := skp_ge s (x + lenAt s x); omega)]
  ·rw [tokG_end s (f + 1) x hin, tokG_end s f x hin]
theorem Ins.before {B : List UInt8} {s s' : ByteArray} {a : Nat} (h : Ins B s s' a) : ∀ (k f y : Nat) (t : Tok), y ≤ a → s.size + 1 ≤ skp s y + f → (tokG s f (skp s y))[k]? = some t → t.a = a →
  tokG s' f (skp s' y) = (tokG s f (skp s y)).take k ++ ((tokG s f (skp s y)).drop k).map (sh B.length)
 | k, 0, y, t, hy, hf, hk, ht => by simp [tokG] at hk
 | 0, f + 1, y, t, hy, hf, hk, ht => by
  have hsy := skp_le s y (Nat.le_trans hy h.le)
  have hat : skp s y = a := by
   by_cases hin : skp s y < s.size
   ·rw [tokG_step s f _ hin] at hk
    have e : tokAt s (skp s y) = t := by simpa using hk
    rw [← ht, ← e]; rfl
   ·rw [tokG_end s f _ hin] at hk
    have e : (⟨3, ByteArray.empty, s.size⟩ : Tok) = t := by simpa using hk
    rw [← ht, ← e]
    show skp s y = s.size
    omega
  rw [h.skp_at y hy hat, h.shift (f + 1) a (Nat.le_refl _), hat]
  rfl
 | k + 1, f + 1, y, t, hy, hf, hk, ht => by
  by_cases hin : skp s y < s.size
  ·have hl := lenAt_le s _ hin
   have hp := lenAt_pos s _ hin
   rw [tokG_step s f _ hin] at hk ⊢
   have hk2 : (tokG s f (skp s (skp s y + lenAt s (skp s y))))[k]? = some t := by simpa using hk
   have hch := tokG_chain s f (skp s y + lenAt s (skp s y)) _ (skp_ge s _) (skp_le s _ hl) (by have := skp_ge s (skp s y + lenAt s (skp s y)); omega)
   have hlo := (chain_fine s _ _ hch k t hk2).2
   rw [ht] at hlo
   have hxa : skp s y < a := by omega
   have hsame := h.skp_same y hy hxa
   have hlen := h.len_lo (skp s y) hxa hlo
   have htok : tokAt s' (skp s y) = tokAt s (skp s y) := by
    unfold tokAt
    rw [h.byte_lo _ hxa, hlen, h.ext_lo _ _ hlo]
   rw [hsame, tokG_step s' f _ (by rw [h.size]; omega), htok, hlen, Ins.before h k f _ t hlo (by have := skp_ge s (skp s y + lenAt s (skp s y)); omega) hk2 ht]
   rfl
  ·rw [tokG_end s f _ hin] at hk
   simp at hk
theorem tokG_fuels (s : ByteArray) (x : Nat) (hx : x ≤ s.size) : ∀ (n f : Nat), s.size + 1 ≤ x + f → tokG s (f + n) x = tokG s f x
 | 0, f, h => rfl
 | n + 1, f, h => by rw [← Nat.add_assoc, tokG_fuel s (f + n) x hx (by omega), tokG_fuels s x hx n f h]
theorem Ins.toks {B : List UInt8} {s s' : ByteArray} {a : Nat} (h : Ins B s s' a) (k : Nat) (t : Tok) (hk : (toks s)[k]? = some t) (ht : t.a = a) : Lx.toks s' = (Lx.toks s).take k ++ ((Lx.toks s).drop k).map (sh B.length) := by
 have e : Lx.toks s = tokG s (s.size + 1 + B.length) (skp s 0) := by unfold Lx.toks; rw [tokG_fuels s _ (skp_le s 0 (Nat.zero_le _)) B.length _ (by omega)]
 have e' : Lx.toks s' = tokG s' (s.size + 1 + B.length) (skp s' 0) := by unfold Lx.toks; rw [h.size, show s.size + B.length + 1 = s.size + 1 + B.length by omega]
 rw [e] at hk ⊢
 rw [e']
 exact h.before k _ 0 t (Nat.zero_le _) (by omega) hk ht
theorem wordsR_kinds : ∀ (l m : List Tok) (n : Nat), l.map (·.k) = m.map (·.k) → wordsR l n = none → wordsR m n = none
 | [], [], n, h, e => rfl
 | [], y :: m, n, h, e => by simp at h
 | x :: l, [], n, h, e => by simp at h
 | x :: l, y :: m, n, h, e => by
  simp only [List.map_cons, List.cons.injEq] at h
  rw [wordsR] at e ⊢
  rw [← h.1]
  split at e
  ·cases e
  ·rename_i h1
   rw [if_neg h1]
   split at e
   ·cases e
   ·rename_i h2
    rw [if_neg h2]
    exact wordsR_kinds l m (n + 1) h.2 e
theorem Ins.words {B : List UInt8} {s s' : ByteArray} {a : Nat} (h : Ins B s s' a) (k : Nat) (t : Tok) (hk : (Lx.toks s)[k]? = some t) (ht : t.a = a) (hw : words s = none) (hs : s.size + B.length ≤ 4096) : words s' = none := by
 unfold Lx.words at *
 rw [if_neg (by omega)] at hw
 rw [if_neg (by rw [h.size]; omega), h.toks k t hk ht]
 refine wordsR_kinds _ _ 0 ?_ hw
 rw [List.map_append, List.map_map, show (fun x : Tok => x.k) ∘ sh B.length = (fun x : Tok => x.k) from rfl, ← List.map_append, List.take_append_drop]
theorem blk_remark (r : List UInt8) (hr : ∀ c ∈ r, c.toNat ≠ 10) : Bln (32 :: 35 :: (r ++ [10, 9])) := by
 have key : ∀ (l : List UInt8) (v : List UInt8), (∀ c ∈ l, c.toNat ≠ 10) → skipN true (l ++ 10 :: 9 :: v) = l.length + 2 + skipN false v := by
  intro l
  induction l with
  | nil => intro v _; simp [skipN, blank]; omega
  | cons c l ih =>
   intro v hl
   have := ih v (fun x hx => hl x (by simp [hx]))
   rw [List.cons_append, skipN, if_neg (hl c (by simp)), this, List.length_cons]
   omega
 refine ⟨fun v => ?_, ?_, ⟨_, rfl⟩⟩
 ·have e : (32 :: 35 :: (r ++ [10, 9])) ++ v = 32 :: 35 :: (r ++ 10 :: 9 :: v) := by simp
  rw [e]
  have h1 : skipN false (32 :: 35 :: (r ++ 10 :: 9 :: v)) = 1 + (1 + skipN true (r ++ 10 :: 9 :: v)) := by simp [skipN, blank]
  rw [h1, key r v hr]
  simp only [List.length_cons, List.length_append, List.length_nil]
  omega
 ·have h1 : skipN true (32 :: 35 :: (r ++ [10, 9])) = 1 + (1 + skipN true (r ++ 10 :: 9 :: [])) := by simp [skipN]
  rw [h1, key r [] hr]
  simp [skipN]
  omega
end Go.Proofs.YtbpfabhlngfciaaGreatDoor.Lx
namespace Go.Proofs.YtbpfabhlngfciaaGreatDoor.Cn
open Base Lx Mi Pr
theorem ins_parse {B : List UInt8} {s s' : ByteArray} {a : Nat} (h : Lx.Ins B s s' a) (k : Nat) (t : Lx.Tok) (hk : (toks s)[k]? = some t) (ht : t.a = a) (hs : s.size + B.length ≤ 4096) (hp : (parseP s).2.2 = 0) : parseP s' = parseP s := by
 rcases parse_cases s with ⟨_, h1⟩ | ⟨hw, n, s2, h2, h3, h4⟩
 ·exact absurd hp h1
 have hw' := h.words k t hk ht hw hs
 have htk : (toks s).map er = (toks s').map er := by
  rw [h.toks k t hk ht, List.map_append, List.map_map, show er ∘ Lx.sh B.length = er from rfl, ← List.map_append, List.take_append_drop]
 obtain ⟨s3, e1, e2, e3⟩ := typedR_same htk h2
 rw [h4]
 unfold parseP
 rw [hw']
 simp only [e1]
 have hk3 : (hd s3.l).k = 3 := by
  have e4 := hd_er s3.l
  have e5 := hd_er s2.l
  rw [e3] at e4
  have : er (hd s3.l) = er (hd s2.l) := by rw [← e4, ← e5]
  have e6 := congrArg Lx.Tok.k this
  exact e6.trans h3
 rw [if_neg (by simp [hk3]), e2]
theorem ins_form {B : List UInt8} {s s' : ByteArray} {a : Nat} (h : Lx.Ins B s s' a) (k : Nat) (t : Lx.Tok) (hk : (toks s)[k]? = some t) (ht : t.a = a) (hs : s.size + B.length ≤ 4096) (hp : (formP s).2.2 = 0) : formP s' = formP s := by
 have hp2 : (parseP s).2.2 = 0 := by
  apply Classical.byContradiction
  intro hne
  unfold formP at hp
  rw [if_neg hne] at hp
  exact hne hp
 unfold formP
 rw [ins_parse h k t hk ht hs hp2]
theorem form_again {s : ByteArray} (hp : (formP s).2.2 = 0) : formP (formP s).1 = ((formP s).1, 0, 0) := by
 have hp2 : (parseP s).2.2 = 0 := by
  apply Classical.byContradiction
  intro hne
  unfold formP at hp
  rw [if_neg hne] at hp
  exact hne hp
 obtain ⟨t, h1, h2, h3, h4, h5⟩ := back_plain' s hp2
 have e : formP s = (⟨t.toArray⟩, 0, 0) := by unfold formP; rw [if_pos hp2, h1]; rfl
 rw [e]
 unfold formP
 rw [h4, if_pos hp2, h1]
 rfl
end Go.Proofs.YtbpfabhlngfciaaGreatDoor.Cn
namespace Go.Proofs.YtbpfabhlngfciaaGreatDoor.Lx
open Go.ChangeShapes Go.WideShapes Go.ChangeAt Go.RowKit Go.Shelf
open Base
theorem lower_any (c : UInt8) (w : World) : Calls Tryz.prog 43 #[.int .u8 (c.toNat : Int)] w fun e w' => e = .returned (.bool (letterP c)) ∧ w' = w := by
 go_enter Tryz.func43, Tryz.ntmps43
 by_cases h1 : (c.toNat : Int) ≥ 97
 ·by_cases h2 : (c.toNat : Int) ≤ 122
  ·go_wp2_with fail
   go_ret
   have : letterP c = true := by simp [letterP]; omega
   rw [this]; exact ⟨rfl, rfl⟩
  ·go_wp2_with fail
   go_ret
   have : letterP c = false := by simp [letterP]; omega
   rw [this]; exact ⟨rfl, rfl⟩
 ·go_wp2_with fail
  go_ret
  have : letterP c = false := by simp [letterP]; omega
  rw [this]; exact ⟨rfl, rfl⟩
theorem num_any (c : UInt8) (w : World) : Calls Tryz.prog 44 #[.int .u8 (c.toNat : Int)] w fun e w' => e = .returned (.bool (digitP c)) ∧ w' = w := by
 go_enter Tryz.func44, Tryz.ntmps44
 by_cases h1 : (c.toNat : Int) ≥ 48
 ·by_cases h2 : (c.toNat : Int) ≤ 57
  ·go_wp2_with fail
   go_ret
   have : digitP c = true := by simp [digitP]; omega
   rw [this]; exact ⟨rfl, rfl⟩
  ·go_wp2_with fail
   go_ret
   have : digitP c = false := by simp [digitP]; omega
   rw [this]; exact ⟨rfl, rfl⟩
 ·go_wp2_with fail
  go_ret
  have : digitP c = false := by simp [digitP]; omega
  rw [this]; exact ⟨rfl, rfl⟩
theorem refName_any (s : ByteArray) (hs : s.size ≤ 140737488351232) (w : World) : Calls Tryz.prog 102 #[.string s] w fun e w' => e = .returned (.bool (nameP s)) ∧ w' = w := by
 by_cases h0 : s.size = 0
 ·obtain rfl := size_zero h0
  go_enter Tryz.func102, Tryz.ntmps102
  go_wp2_with fail
  go_ret
  exact ⟨rfl, rfl⟩
 ·obtain ⟨q1, q2⟩ := ne_empty h0
  have hin : 0 < s.size := by omega
  have hin' : (0 : Int) < (s.size : Int) := by omega
  have hlet := lower_any (byteAt s 0)
  obtain ⟨R, hR⟩ : ∃ R, Hid (runP innerP s.data.toList = R) := ⟨_, rfl⟩
  have hRl : R ≤ s.size := by have h := runP_le innerP s.data.toList; rw [hR.out, size_list] at h; exact h
  have hb := byteAt_get s 0 hin
  go_enter Tryz.func102, Tryz.ntmps102
  by_cases h40 : s.size ≤ 40
  ·have h40' : (s.size : Int) ≤ 40 := by omega
   go_wp2_with fail
   refine (hlet w).mono ?_
   rintro e w1 ⟨rfl, hw⟩
   subst hw
   clear hb
   cases hl : letterP (byteAt s 0)
   ·go_wp2_with fail
    go_ret
    have : nameP s = false := by simp [nameP, hl]
    rw [this]; exact ⟨rfl, rfl⟩
   ·go_wp2_with fail
    go_loopw [3] (fun v3 wr => ∃ i : Nat, i ≤ R ∧ v3 = .int .i64 i ∧ wr = w1) (fun v3 _ => R - (intOf v3).toNat)
    case atStart => exact ⟨0, by omega, rfl, rfl⟩
    case round =>
     obtain ⟨i, hi, rfl, hw⟩ := hrel
     have hw := hw.symm
     subst hw
     by_cases hiR : i < R
     ·obtain ⟨h1, h2⟩ := runP_lt (p := innerP) (l := s.data.toList) (n := i) (by rw [hR.out]; exact hiR)
      have his : i < s.size := by omega
      have hil : (i : Int) < (s.size : Int) := by omega
      have hp : innerP (s[i]'his) = true := h2
      have hlo := lower_any (s[i]'his) w1
      have hnu := num_any (s[i]'his) w1
      cases k1 : letterP (s[i]'his)
      ·rw [k1] at hlo
       cases k2 : digitP (s[i]'his)
       ·rw [k2] at hnu
        have k3 : (s[i]'his).toNat = 95 := by simpa [innerP, k1, k2] using hp
        have k4 : (((s[i]'his).toNat : Int) != 95) = false := by rw [k3]; rfl
        clear hp h2 k3
        go_wp2_with fail
        refine hlo.mono ?_
        rintro e w2 ⟨rfl, hw⟩
        subst hw
        go_wp2_with fail
        refine hnu.mono ?_
        rintro e w3 ⟨rfl, hw⟩
        subst hw
        go_wp2_with fail
        refine ⟨⟨i + 1, by omega, rfl, trivial⟩, ?_⟩
        simp [intOf]
        omega
       ·rw [k2] at hnu
        clear hp h2
        go_wp2_with fail
        refine hlo.mono ?_
        rintro e w2 ⟨rfl, hw⟩
        subst hw
        go_wp2_with fail
        refine hnu.mono ?_
        rintro e w3 ⟨rfl, hw⟩
        subst hw
        go_wp2_with fail
        refine ⟨⟨i + 1, by omega, rfl, trivial⟩, ?_⟩
        simp [intOf]
        omega
      ·rw [k1] at hlo
       clear hp h2
       go_wp2_with fail
       refine hlo.mono ?_
       rintro e w2 ⟨rfl, hw⟩
       subst hw
       go_wp2_with fail
       refine ⟨⟨i + 1, by omega, rfl, trivial⟩, ?_⟩
       simp [intOf]
       omega
     ·obtain rfl : i = R := by omega
      by_cases his : i < s.size
      ·have hil : (i : Int) < (s.size : Int) := by omega
       have hp : innerP (s[i]'his) = false := by
        rcases runP_end innerP s.data.toList with h | ⟨h1, h2⟩
        ·rw [hR.out, size_list] at h; omega
        ·simp only [hR.out] at h2; exact h2
       have hnm : nameP s = false := by simp [nameP, hR.out]; intro _ _ _; omega
       have k1 : letterP (s[i]'his) = false := by cases k : letterP (s[i]'his) <;> simp_all [innerP]
       have k2 : digitP (s[i]'his) = false := by cases k : digitP (s[i]'his) <;> simp_all [innerP]
       have k3 : ¬ (s[i]'his).toNat = 95 := by intro k; simp [innerP, k] at hp
       have k4 : (((s[i]'his).toNat : Int) != 95) = true := by simp; omega
       have hlo := lower_any (s[i]'his) w1
       have hnu := num_any (s[i]'his) w1
       rw [k1] at hlo
       rw [k2] at hnu
       clear hp k3
       go_wp2_with fail
       refine hlo.mono ?_
       rintro e w2 ⟨rfl, hw⟩
       subst hw
       go_wp2_with fail
       refine hnu.mono ?_
       rintro e w3 ⟨rfl, hw⟩
       subst hw
       go_wp2_with fail
       go_ret
       first | exact ⟨rfl, rfl⟩ | (rw [hnm]; exact ⟨rfl, rfl⟩)
      ·have hil : ¬ (i : Int) < (s.size : Int) := by omega
       have hnm : nameP s = true := by simp [nameP, hR.out, hl]; omega
       go_wp2_with fail
       go_ret
       first | exact ⟨rfl, rfl⟩ | (rw [hnm]; exact ⟨rfl, rfl⟩)
  ·have h40' : ¬ (s.size : Int) ≤ 40 := by omega
   go_wp2_with fail
   go_ret
   have : nameP s = false := by simp [nameP, h40]
   rw [this]; exact ⟨rfl, rfl⟩
theorem refNumber_any (s : ByteArray) (hs : s.size ≤ 140737488351232) (w : World) : Calls Tryz.prog 105 #[.string s] w fun e w' => e = .returned (numV (refO s.data.toList)) ∧ w' = w := by
 obtain ⟨o, ho⟩ : ∃ o, Hid (refO s.data.toList = o) := ⟨_, rfl⟩
 obtain ⟨X, hX⟩ : ∃ X, Hid (refN s.data.toList 0 0 = X) := ⟨_, rfl⟩
 have hno : X = none → none = o := fun h => by rw [← ho.out, refO, hX.out, h]
 rw [ho.out]
 go_enter Tryz.func105, Tryz.ntmps105
 go_wp2_with fail
 go_loopw [4, 5] (fun v4 v5 wr => ∃ i v : Nat, i ≤ s.size ∧ v5 = .int .i64 i ∧ v4 = .int .i64 v ∧ v ≤ 40969 ∧ Hid (refN (s.data.toList.drop i) i v = X) ∧ wr = w) (fun _ v5 _ => s.size - (intOf v5).toNat)
 case atStart => exact ⟨0, 0, by omega, rfl, rfl, by omega, hX, rfl⟩
 case round =>
  obtain ⟨i, v, hi, rfl, rfl, hv, hXi, hw⟩ := hrel
  have hw := hw.symm
  subst hw
  by_cases hin : i < s.size
  ·have hin' : (i : Int) < (s.size : Int) := by omega
   have hXi := hXi.out
   rw [drop_byteAt s i hin] at hXi
   have hnu := num_any (byteAt s i) w
   have hb := byteAt_get s i hin
   cases hd : digitP (byteAt s i)
   ·have hn : X = none := by rw [← hXi, refN, if_pos (.inl hd)]
    have ho2 := hno hn
    subst ho2
    rw [hd] at hnu
    clear hXi
    go_wp2_with fail
    refine hnu.mono ?_
    rintro e w1 ⟨rfl, hw⟩
    subst hw
    go_wp2_with fail
    go_ret2
    exact ⟨rfl, rfl⟩
   ·have hbd := digit_bounds hd
    rw [hd] at hnu
    by_cases hbig : 4096 < v
    ·have hn : X = none := by rw [← hXi, refN, if_pos (.inr (.inl hbig))]
     have ho2 := hno hn
     subst ho2
     have hb4 : (v : Int) > 4096 := by omega
     clear hXi
     go_wp2_with fail
     refine hnu.mono ?_
     rintro e w1 ⟨rfl, hw⟩
     subst hw
     go_wp2_with fail
     go_ret2
     exact ⟨rfl, rfl⟩
    ·have hb4 : ¬ (v : Int) > 4096 := by omega
     by_cases h1 : i = 1
     ·subst h1
      by_cases h0 : v = 0
      ·subst h0
       have hn : X = none := by rw [← hXi, refN, if_pos (.inr (.inr ⟨rfl, rfl⟩))]
       have ho2 := hno hn
       subst ho2
       clear hXi
       go_wp2_with fail
       refine hnu.mono ?_
       rintro e w1 ⟨rfl, hw⟩
       subst hw
       go_wp2_with fail
       go_ret2
       exact ⟨rfl, rfl⟩
      ·have z1 : ((v : Int) == 0) = false := by simp; omega
       have hX2 : Hid (refN (s.data.toList.drop (1 + 1)) (1 + 1) (v * 10 + ((byteAt s 1).toNat - 48)) = X) := by show _ = _; rw [← hXi, refN_go hd (by omega) (by omega)]
       clear hXi
       go_wp2_with fail
       refine hnu.mono ?_
       rintro e w1 ⟨rfl, hw⟩
       subst hw
       go_wp2_with fail
       refine ⟨⟨1 + 1, v * 10 + ((byteAt s 1).toNat - 48), by omega, rfl, congrArg (Value.int .i64) (by omega), by omega, hX2, trivial⟩, ?_⟩
       simp [intOf]
       omega
     ·have z0 : ((i : Int) == 1) = false := by simp; omega
      have hX2 : Hid (refN (s.data.toList.drop (i + 1)) (i + 1) (v * 10 + ((byteAt s i).toNat - 48)) = X) := by show _ = _; rw [← hXi, refN_go hd (by omega) (by omega)]
      clear hXi
      go_wp2_with fail
      refine hnu.mono ?_
      rintro e w1 ⟨rfl, hw⟩
      subst hw
      go_wp2_with fail
      refine ⟨⟨i + 1, v * 10 + ((byteAt s i).toNat - 48), by omega, rfl, congrArg (Value.int .i64) (by omega), by omega, hX2, trivial⟩, ?_⟩
      simp [intOf]
      omega
  ·obtain rfl : i = s.size := by omega
   have hin' : ¬ (s.size : Int) < (s.size : Int) := by omega
   have hXv : some v = X := by have h := hXi.out; rw [List.drop_of_length_le (by rw [size_list]; omega)] at h; exact h
   clear hXi
   by_cases h0 : s.size = 0
   ·have hn : s.data.toList = [] := List.eq_nil_of_length_eq_zero (by rw [size_list]; exact h0)
    have ho2 : none = o := by rw [← ho.out, refO, hX.out, ← hXv]; simp [hn]
    subst ho2
    have q : s.toList.isEmpty = true := by rw [ByteArray.toList_eq, hn]; rfl
    clear hn
    go_wp2_with fail
    go_ret2
    exact ⟨rfl, rfl⟩
   ·obtain ⟨q1, q2⟩ := ne_empty h0
    have hne : ¬ s.data.toList = [] := fun e => by have := size_list s; rw [e] at this; simp at this; omega
    by_cases hbig : 4096 < v
    ·have ho2 : none = o := by rw [← ho.out, refO, hX.out, ← hXv]; simp [hbig]
     subst ho2
     have hb4 : (v : Int) > 4096 := by omega
     go_wp2_with fail
     go_ret2
     exact ⟨rfl, rfl⟩
    ·have ho2 : some v = o := by rw [← ho.out, refO, hX.out, ← hXv]; simp [hbig, hne]
     subst ho2
     have hb4 : ¬ (v : Int) > 4096 := by omega
     go_wp2_with fail
     go_ret2
     exact ⟨by first | rfl | (rw [← hXv]; rfl), rfl⟩
def signP (c : UInt8) : Bool := decide (0 ≤ Lib.indexByte signs.data.toList c)
theorem signP_at {c : UInt8} {i : Nat} (h : byteAt signs i = c) (hi : i < 13) : signP c = true := by
 unfold signP
 apply decide_eq_true
 rcases Int.lt_or_le (Lib.indexByte signs.data.toList c) 0 with h1 | h1
 ·have h2 := Lib.indexByte_ge signs.data.toList c
  have h3 := Lib.indexByte_none (l := signs.data.toList) (c := c) (by omega) i
  exfalso
  apply h3
  have hl : i < signs.data.toList.length := hi
  rw [List.getElem?_eq_getElem hl, ← h]
  unfold byteAt
  rw [List.getD, List.getElem?_eq_getElem hl]
  rfl
 ·exact h1
theorem signP_none {c : UInt8} (h : ∀ i, i < 13 → byteAt signs i ≠ c) : signP c = false := by
 unfold signP
 apply decide_eq_false
 intro h1
 obtain ⟨o, ho⟩ : ∃ o : Nat, Lib.indexByte signs.data.toList c = o := ⟨(Lib.indexByte signs.data.toList c).toNat, by omega⟩
 have h2 := (Lib.indexByte_some ho).1
 have hl : o < signs.data.toList.length := (List.getElem?_eq_some_iff.1 h2).1
 refine h o hl ?_
 unfold byteAt
 rw [List.getD, h2]
 rfl
theorem signs_size : signs.size = 13 := rfl
theorem sign_any (c : UInt8) (w : World) : Calls Tryz.prog 45 #[.int .u8 (c.toNat : Int)] w fun e w' => e = .returned (.bool (signP c)) ∧ w' = w := by
 obtain ⟨R, hR⟩ : ∃ R, Hid (signP c = R) := ⟨_, Lib.hid rfl⟩
 rw [hR.out]
 have hsz := signs_size
 have hsg : ∀ i, i < 13 → byteAt signs i = c → R = true := fun i hi h => by rw [← hR.out]; exact signP_at h hi
 have hno : (∀ i, i < 13 → byteAt signs i ≠ c) → R = false := fun h => by rw [← hR.out]; exact signP_none h
 go_enter Tryz.func45, Tryz.ntmps45
 go_wp2_with fail
 rw [show (⟨#[40, 41, 91, 93, 123, 125, 60, 62, 124, 58, 59, 44, 63]⟩ : ByteArray) = signs from rfl]
 have hby := byteAt_get signs
 obtain ⟨S, hS⟩ : ∃ S, Hid (signs = S) := ⟨_, Lib.hid rfl⟩
 rw [hS.out] at hsz hsg hno hby ⊢
 go_loopw [4] (fun v4 wr => ∃ i : Nat, i ≤ 13 ∧ v4 = .int .i64 i ∧ (∀ j, j < i → byteAt S j ≠ c) ∧ wr = w) (fun v4 _ => 13 - (intOf v4).toNat)
 case atStart => exact ⟨0, by omega, rfl, fun j hj => by omega, rfl⟩
 case round =>
  obtain ⟨i, hi, rfl, hne, hw⟩ := hrel
  have hw := hw.symm
  subst hw
  by_cases hin : i < 13
  ·have hiS : i < S.size := by omega
   have hin' : (i : Int) < (S.size : Int) := by omega
   have hb := hby i hiS
   by_cases he : byteAt S i = c
   ·have hRt := hsg i hin he
    subst hRt
    rw [he] at hb
    clear hsg hno hne hby he
    have hcc : (((c.toNat : Nat) : Int) == (c.toNat : Int)) = true := by simp
    go_wp2_with fail
    go_ret
    exact ⟨rfl, rfl⟩
   ·have hcc : (((byteAt S i).toNat : Int) == (c.toNat : Int)) = false := by
     apply beq_eq_false_iff_ne.2
     intro h
     exact he (UInt8.toNat_inj.1 (by omega))
    clear hsg hno hby
    go_wp2_with fail
    go_roundw
    case rel => exact ⟨i + 1, by omega, by go_num, fun j hj => by rcases Nat.lt_or_ge j i with h | h; exact hne j h; (obtain rfl : j = i := by omega); exact he, by first | rfl | trivial⟩
    case measure => simp [intOf]; omega
  ·obtain rfl : i = 13 := by omega
   have hRf := hno hne
   subst hRf
   have hnot : ¬ ((13 : Nat) : Int) < (S.size : Int) := by omega
   clear hsg hno hby hne
   go_wp2_with fail
   go_ret
   exact ⟨rfl, rfl⟩
set_option maxHeartbeats 2000000 in
theorem skipR_any (s : ByteArray) (a : Nat) (hs : s.size ≤ 140737488351232) (ha : a ≤ s.size) (w : World) : Calls Tryz.prog 42 #[.string s, .int .i64 (a : Int)] w fun e w' => e = .returned (.int .i64 (skp s a : Int)) ∧ w' = w := by
 obtain ⟨R, hR⟩ : ∃ R, Hid (skp s a = R) := ⟨_, Lib.hid rfl⟩
 rw [hR.out]
 go_enter Tryz.func42, Tryz.ntmps42
 go_wp2_with fail
 go_loopw [1, 5, 6] (fun v1 v5 v6 wr => ∃ (i : Nat) (b : Bool), i ≤ s.size ∧ v1 = .int .i64 i ∧ v5 = .bool b ∧ Hid (i + skipN b (s.data.toList.drop i) = R) ∧ wr = w) (fun v1 _ _ _ => s.size - (intOf v1).toNat)
 case atStart => exact ⟨a, false, ha, rfl, rfl, hR, rfl⟩
 case round =>
  obtain ⟨i, b, hi, rfl, rfl, hRi, hw⟩ := hrel
  have hw := hw.symm
  subst hw
  by_cases hin : i < s.size
  ·have hin' : (i : Int) < (s.size : Int) := by omega
   have hRi := hRi.out
   rw [drop_byteAt s i hin] at hRi
   have hb := byteAt_get s i hin
   obtain ⟨c, hc⟩ : ∃ c, Hid (byteAt s i = c) := ⟨_, Lib.hid rfl⟩
   rw [hc.out] at hRi hb
   by_cases h10 : (c.toNat : Int) = 10
   ·have h35 : ¬ (c.toNat : Int) = 35 := by omega
    have hn : Hid (i + 1 + skipN false (s.data.toList.drop (i + 1)) = R) := Lib.hid (by
     rw [← hRi]
     have e1 : ¬ c.toNat = 35 := by omega
     have e2 : blank c = true := by simp [blank]; omega
     have e3 : c.toNat = 10 := by omega
     cases b
     ·rw [skipN, if_neg e1, if_pos e2]; omega
     ·rw [skipN, if_pos e3]; omega)
    clear hRi
    cases b <;>
    (go_wp2_with fail
     go_roundw
     case rel => exact ⟨i + 1, false, by omega, by go_num, rfl, hn, by first | rfl | trivial⟩
     case measure => simp [intOf]; omega)
   ·by_cases h35 : (c.toNat : Int) = 35
    ·have hn : Hid (i + 1 + skipN true (s.data.toList.drop (i + 1)) = R) := Lib.hid (by
      rw [← hRi]
      have e1 : c.toNat = 35 := by omega
      have e3 : ¬ c.toNat = 10 := by omega
      cases b
      ·rw [skipN, if_pos e1]; omega
      ·rw [skipN, if_neg e3]; omega)
     clear hRi
     cases b <;>
     (go_wp2_with fail
      go_roundw
      case rel => exact ⟨i + 1, true, by omega, by go_num, rfl, hn, by first | rfl | trivial⟩
      case measure => simp [intOf]; omega)
    ·cases b with
     | true =>
      have hn : Hid (i + 1 + skipN true (s.data.toList.drop (i + 1)) = R) := Lib.hid (by
       rw [← hRi]
       have e3 : ¬ c.toNat = 10 := by omega
       rw [skipN, if_neg e3]; omega)
      clear hRi
      go_wp2_with fail
      go_roundw
      case rel => exact ⟨i + 1, true, by omega, by go_num, rfl, hn, by first | rfl | trivial⟩
      case measure => simp [intOf]; omega
     | false =>
      by_cases hbl : blank c = true
      ·have hn : Hid (i + 1 + skipN false (s.data.toList.drop (i + 1)) = R) := Lib.hid (by
        rw [← hRi]
        have e1 : ¬ c.toNat = 35 := by omega
        rw [skipN, if_neg e1, if_pos hbl]; omega)
       have hor : (c.toNat : Int) = 32 ∨ (c.toNat : Int) = 9 ∨ (c.toNat : Int) = 13 := by simp [blank] at hbl; omega
       clear hRi hbl
       by_cases h32 : (c.toNat : Int) = 32
       ·clear hor
        go_wp2_with fail
        go_roundw
        case rel => exact ⟨i + 1, false, by omega, by go_num, rfl, hn, by first | rfl | trivial⟩
        case measure => simp [intOf]; omega
       ·by_cases h9 : (c.toNat : Int) = 9
        ·clear hor
         go_wp2_with fail
         go_roundw
         case rel => exact ⟨i + 1, false, by omega, by go_num, rfl, hn, by first | rfl | trivial⟩
         case measure => simp [intOf]; omega
        ·have h13 : (c.toNat : Int) = 13 := by omega
         clear hor
         go_wp2_with fail
         go_roundw
         case rel => exact ⟨i + 1, false, by omega, by go_num, rfl, hn, by first | rfl | trivial⟩
         case measure => simp [intOf]; omega
      ·have hRe : R = i := by
        rw [← hRi]
        have e1 : ¬ c.toNat = 35 := by omega
        rw [skipN, if_neg e1, if_neg hbl]; omega
       have hor : ¬ (c.toNat : Int) = 32 ∧ ¬ (c.toNat : Int) = 9 ∧ ¬ (c.toNat : Int) = 13 := by simp [blank] at hbl; omega
       obtain ⟨h32, h9, h13⟩ := hor
       have k32 : ((c.toNat : Int) != 32) = true := by simpa using h32
       have k9 : ((c.toNat : Int) != 9) = true := by simpa using h9
       have k10 : ((c.toNat : Int) != 10) = true := by simpa using h10
       have k13 : ((c.toNat : Int) != 13) = true := by simpa using h13
       subst hRe
       clear hRi hbl
       go_wp2_with fail
       go_ret
       exact ⟨rfl, rfl⟩
  ·obtain rfl : i = s.size := by omega
   have hRe : R = s.size := by
    rw [← hRi.out, List.drop_eq_nil_of_le (by rw [size_list]; omega)]
    cases b <;> simp [skipN]
   subst hRe
   clear hRi
   go_wp2_with fail
   go_ret
   exact ⟨rfl, rfl⟩
theorem el_tok : El Tryz.prog 33 37 (.agg #[.int .i64 0, .string ByteArray.empty, .int .i64 0]) 3 32 := ⟨by kernel_rfl, by kernel_rfl, by kernel_rfl, by omega⟩
theorem kindOf_sign (c : UInt8) : kindOf c = if letterP c then 0 else if digitP c then 1 else if signP c then 2 else -1 := by
 unfold kindOf signP
 simp
theorem runs_within {p : UInt8 → Bool} {s : ByteArray} {a R i : Nat} (hR : runP p (s.data.toList.drop a) = R) (h1 : a ≤ i) (h2 : i < a + R) : i < s.size ∧ p (byteAt s i) = true := by
 obtain ⟨h3, h4⟩ := runP_lt (p := p) (l := s.data.toList.drop a) (n := i - a) (by omega)
 rw [List.length_drop, size_list] at h3
 refine ⟨by omega, ?_⟩
 rw [List.getElem_drop] at h4
 have hi : i < s.size := by omega
 rw [← byteAt_get s i hi]
 have e : a + (i - a) = i := by omega
 simp only [e] at h4
 exact h4
theorem run_out {p : UInt8 → Bool} {s : ByteArray} {a R : Nat} (hR : runP p (s.data.toList.drop a) = R) (ha : a ≤ s.size) : a + R = s.size ∨ ∃ h : a + R < s.size, p (byteAt s (a + R)) = false := by
 rcases runP_end p (s.data.toList.drop a) with h | ⟨h1, h2⟩
 ·rw [List.length_drop, size_list] at h; left; omega
 ·rw [hR] at h1
  rw [List.length_drop, size_list] at h1
  right
  refine ⟨by omega, ?_⟩
  rw [List.getElem_drop] at h2
  have hi : a + R < s.size := by omega
  rw [← byteAt_get s _ hi]
  simp only [hR] at h2
  exact h2
theorem run_one {p : UInt8 → Bool} {s : ByteArray} {a R : Nat} (hR : runP p (s.data.toList.drop a) = R) (ha : a < s.size) (hp : p (byteAt s a) = true) : 1 ≤ R := by
 rw [← hR, drop_byteAt s a ha]
 simp [runP, List.takeWhile_cons, hp]
theorem own_away {S : Nat → Prop} {w w' : World} {base : Nat} {e : TypeId} {size n : Nat} {v : Value} {xs : List Value} (h : w.ownsRow base e size v n xs) (hx : Chg S w w') (hS : ∀ k, v.ownBlock = some k → ¬ S k) : w'.ownsRow base e size v n xs := by
 refine ⟨h.1, ?_⟩
 rcases h.2 with h2 | ⟨g, cap, cur, rfl, hb, hg, r⟩
 ·exact .inl h2
 ·exact .inr ⟨g, cap, cur, rfl, hb, hx.heap hg (hS g rfl), r⟩
def PWd (s : ByteArray) (w : World) (e : Ending) (w' : World) : Prop := ∃ v p er, e = .returned (.tuple #[v, .int .i64 p, .int .i64 er]) ∧ (words s = some (p, er) ∧ v = .slice none 0 0 ∨ words s = none ∧ p = 0 ∧ er = 0 ∧ Rt w' v (toks s)) ∧ Ext w w'
set_option maxHeartbeats 4000000 in
theorem refWords_any (s : ByteArray) (hs : s.size ≤ 140737488351232) (w : World) : Calls Tryz.prog 16 #[.string s] w fun e w' => PWd s w e w' := by
 obtain ⟨PO, hPO⟩ : ∃ PO : Ending → World → Prop, Hid ((fun e w' => PWd s w e w') = PO) := ⟨_, Lib.hid rfl⟩
 rw [hPO.out]
 have hq : ∀ e w', PWd s w e w' → PO e w' := fun e w' h => by rw [← hPO.out]; exact h
 by_cases hlong : 4096 < s.size
 ·have hl : (s.size : Int) > 4096 := by omega
  have hw : words s = some (0, 2) := by rw [words, if_pos hlong]
  have hpz := hq _ _ (⟨.slice none 0 0, _, _, rfl, .inl ⟨hw, rfl⟩, Ext.refl w⟩)
  go_enter Tryz.func16, Tryz.ntmps16
  go_wp2_with fail
  refine bodyPost_ret (results_tmp3 rfl _ _ _) rfl ?_
  exact hpz
 ·have hl : ¬ (s.size : Int) > 4096 := by omega
  have hz : s.size ≤ 4096 := by omega
  have hwd : words s = wordsR (toks s) 0 := by rw [words, if_neg hlong]
  have hsk := fun a ha => skipR_any s a hs ha
  go_enter Tryz.func16, Tryz.ntmps16
  go_wp2_with fail
  have hin0 : w.heap.size < (w.alloc (.cells #[] 37)).heap.size := by simp
  have hx0 : Ext w (w.alloc (.cells #[] 37)) := (Ext.refl w).alloc _
  have ho0 : (w.alloc (.cells #[] 37)).ownsRow w.heap.size 37 3 (.slice (some ⟨w.heap.size, 0, none⟩) 0 0) 0 (rows []) := World.ownsRow_lit w #[] 0 (Nat.le_refl _) (Nat.zero_le _) rfl
  obtain ⟨w1, hw1⟩ : ∃ z, Hid (w.alloc (.cells #[] 37) = z) := ⟨_, rfl⟩
  rw [hw1.out] at hin0 hx0 ho0 ⊢
  obtain ⟨B, hB⟩ : ∃ z, Hid (w.heap.size = z) := ⟨_, rfl⟩
  rw [hB.out] at ho0 hin0 ⊢
  have hsk0 := hsk 0 (by omega) w1
  refine hsk0.mono ?_
  rintro e w2 ⟨rfl, hw2⟩
  have hw2 := hw2.symm
  subst hw2
  have ha0 := skp_le s 0 (by omega)
  have ht0 : Hid (toks s = [] ++ tokG s (s.size + 1) (skp s 0)) := Lib.hid rfl
  obtain ⟨a0, hA0⟩ : ∃ z, Hid (skp s 0 = z) := ⟨_, Lib.hid rfl⟩
  rw [hA0.out] at ha0 ht0 ⊢
  clear hsk0
  go_wp2_with fail
  go_loopw [5, 6] (fun v5 v6 wr => ∃ (pre : List Tok) (a f : Nat), v6 = .int .i64 a ∧ a ≤ s.size ∧ s.size < f + a ∧ Hid (toks s = pre ++ tokG s f a) ∧ Hid (wordsR pre 0 = none) ∧ wr.ownsRow B 37 3 v5 pre.length (rows pre) ∧ Ext w wr ∧ B < wr.heap.size) (fun _ v6 _ => s.size - (intOf v6).toNat)
  case atStart => exact ⟨[], a0, s.size + 1, rfl, ha0, by omega, ht0, Lib.hid rfl, ho0, hx0, hin0⟩
  case round =>
   obtain ⟨pre, a, f, rfl, ha, hf, hts, hwr, ho, hx, hin⟩ := hrel
   obtain ⟨A5, c5, rfl, jj1, jj2, jj3, jj4⟩ := Rd.of_own ho
   clear jj1 jj2 jj3 jj4
   have hp15 := wordsR_len pre 0 (by omega) hwr.out
   rw [Nat.zero_add] at hp15
   by_cases hal : a < s.size
   ·obtain ⟨f, rfl⟩ : ∃ g, f = g + 1 := ⟨f - 1, by omega⟩
    have hal' : (a : Int) < (s.size : Int) := by omega
    have hts' := hts.out
    rw [tokG_step s f a hal] at hts'
    have hle := lenAt_le s a hal
    have hge := lenAt_pos s a hal
    obtain ⟨ln, hln⟩ : ∃ z, Hid (lenAt s a = z) := ⟨_, Lib.hid rfl⟩
    rw [hln.out] at hle hge
    obtain ⟨E, hE⟩ : ∃ z, Hid (a + ln = z) := ⟨_, Lib.hid rfl⟩
    rw [hE.out] at hle
    have hEa : a + 1 ≤ E := by have := hE.out; omega
    have hb := byteAt_get s a hal
    have hlow := lower_any
    have hnum := num_any
    have hlo := lower_any (byteAt s a)
    have hnu := num_any (byteAt s a)
    have hsi := sign_any (byteAt s a)
    obtain ⟨q, hqs⟩ : ∃ z, Hid (wr.heap.size = z) := ⟨_, rfl⟩
    obtain ⟨np, hnp⟩ : ∃ z, Hid (pre.length = z) := ⟨_, Lib.hid rfl⟩
    have hkz := kindOf_sign (byteAt s a)
    cases h1 : letterP (byteAt s a) with
    | true =>
     rw [h1] at hlo hkz
     have hkk : kindOf (byteAt s a) = 0 := hkz
     obtain ⟨R, hR⟩ : ∃ z, Hid (runP innerP (s.data.toList.drop a) = z) := ⟨_, Lib.hid rfl⟩
     have hRl : Hid (ln = R) := Lib.hid (by rw [← hln.out, lenAt, h1, if_pos rfl]; exact hR.out)
     have KK0 : (0 : Int) = 0 := rfl
     clear hnu hsi hkz
     rw [hnp.out] at ho ⊢
     go_wp2_with fail
     have hbq : Blk (wr.alloc (.cells #[.int .i64 0, .string ⟨#[]⟩, .int .i64 (a : Int)] 37)) q #[.int .i64 0, .string ⟨#[]⟩, .int .i64 (a : Int)] 37 := by rw [← hqs.out]; exact Blk.new wr _ _
     have hxq : Ext w (wr.alloc (.cells #[.int .i64 0, .string ⟨#[]⟩, .int .i64 (a : Int)] 37)) := hx.alloc _
     obtain ⟨w3, hw3⟩ : ∃ z, Hid (wr.alloc (.cells #[.int .i64 0, .string ⟨#[]⟩, .int .i64 (a : Int)] 37) = z) := ⟨_, rfl⟩
     have hx3 : Ext wr w3 := by rw [← hw3.out]; exact (Ext.refl wr).alloc _
     rw [hw3.out, hqs.out]
     rw [hw3.out] at hbq hxq
     have ho3 := own_ext ho hx3
     refine (hlo w3).mono ?_
     rintro e w4 ⟨rfl, hw4⟩
     have hw4 := hw4.symm
     subst hw4
     have g0 : w3.cell? ⟨q, 0, none⟩ = some (.int .i64 0) := hbq.cell 0
     have g1 := hbq.frozen 0
     clear hlo
     go_wp2_with fail
     have hbw : Blk (w3.setCell ⟨q, 0, none⟩ (.int .i64 0)) q #[.int .i64 0, .string ⟨#[]⟩, .int .i64 (a : Int)] 37 := hbq.set 0 (.int .i64 0)
     have hqB : B ≤ q := by have := hqs.out; omega
     have hxw : Ext w (w3.setCell ⟨q, 0, none⟩ (.int .i64 0)) := hxq.setCell (by show w.heap.size ≤ q; have := hB.out; omega) _
     have how := own_away ho3 (Chg.one w3 q 0 (.int .i64 0)) (fun k hk e => by have := (ho.lt k hk).2; have := hqs.out; omega)
     have hqn : ∀ k, (Value.slice A5 np c5).ownBlock = some k → ¬ k = q := fun k hk e => by have := (ho.lt k hk).2; have := hqs.out; omega
     obtain ⟨wq, hwq⟩ : ∃ z, Hid (w3.setCell ⟨q, 0, none⟩ (.int .i64 0) = z) := ⟨_, rfl⟩
     rw [hwq.out] at hbw hxw how ⊢
     have p0 : wq.cell? ⟨q, 0, none⟩ = some (.int .i64 0) := hbw.cell 0
     have p1 : wq.cell? ⟨q, 1, none⟩ = some (.string ⟨#[]⟩) := hbw.cell 1
     have p2 : wq.cell? ⟨q, 2, none⟩ = some (.int .i64 (a : Int)) := hbw.cell 2
     have f1 := hbw.frozen 1
     have hqq : q < wq.heap.size := hbw.lt
     clear hbq g0 g1 hxq ho3 ho hx3 hx hwq hw3
     have hxq := hxw
     go_loopw [8] (fun v8 wv => ∃ to : Nat, a + 1 ≤ to ∧ to ≤ E ∧ v8 = .int .i64 to ∧ wv = wq) (fun v8 _ => E - (intOf v8).toNat)
     case atStart => exact ⟨a + 1, by omega, by omega, by go_num, rfl⟩
     case round =>
      obtain ⟨to, hto1, hto2, rfl, hwv⟩ := hrel
      have hwv := hwv.symm
      subst hwv
      by_cases hlt : to < E
      ·obtain ⟨hts1, htp⟩ := runs_within hR.out (i := to) (by omega) (by have := hE.out; have := hRl.out; omega)
       have hts1' : (to : Int) < (s.size : Int) := by omega
       have hbt := byteAt_get s to hts1
       have hl2 := hlow (byteAt s to) wq
       have hn2 := hnum (byteAt s to) wq
       cases k1 : letterP (byteAt s to) with
       | true =>
        rw [k1] at hl2
        clear htp hn2
        go_wp2_with fail
        refine hl2.mono ?_
        rintro e w5 ⟨rfl, hw5⟩
        have hw5 := hw5.symm
        subst hw5
        go_wp2_with fail
        go_roundw
        case rel => exact ⟨to + 1, by omega, by omega, by go_num, by first | rfl | trivial⟩
        case measure => simp [intOf]; omega
       | false =>
        rw [k1] at hl2
        cases k2 : digitP (byteAt s to) with
        | true =>
         rw [k2] at hn2
         clear htp
         go_wp2_with fail
         refine hl2.mono ?_
         rintro e w5 ⟨rfl, hw5⟩
         have hw5 := hw5.symm
         subst hw5
         go_wp2_with fail
         refine hn2.mono ?_
         rintro e w5 ⟨rfl, hw5⟩
         have hw5 := hw5.symm
         subst hw5
         go_wp2_with fail
         go_roundw
         case rel => exact ⟨to + 1, by omega, by omega, by go_num, by first | rfl | trivial⟩
         case measure => simp [intOf]; omega
        | false =>
         rw [k2] at hn2
         have k3 : (byteAt s to).toNat = 95 := by simpa [innerP, k1, k2] using htp
         have k4 : (((byteAt s to).toNat : Int) == 95) = true := by rw [k3]; rfl
         clear htp k3
         go_wp2_with fail
         refine hl2.mono ?_
         rintro e w5 ⟨rfl, hw5⟩
         have hw5 := hw5.symm
         subst hw5
         go_wp2_with fail
         refine hn2.mono ?_
         rintro e w5 ⟨rfl, hw5⟩
         have hw5 := hw5.symm
         subst hw5
         go_wp2_with fail
         go_roundw
         case rel => exact ⟨to + 1, by omega, by omega, by go_num, by first | rfl | trivial⟩
         case measure => simp [intOf]; omega
      ·obtain rfl : E = to := by omega
       have hRE : a + R = E := by have := hE.out; have := hRl.out; omega
       have hro := run_out hR.out ha
       rw [hRE] at hro
       clear hRE
       rcases hro with he | ⟨he, hpf⟩
       ·have hnot : ¬ (E : Int) < (s.size : Int) := by omega
        clear hR he
        by_cases hfull : np = 1500
        ·have hwe : words s = some (4096, 2) := by
          rw [hwd, hts', wordsR_append, hwr.out]
          simp only
          rw [wordsR, if_neg (by show ¬ (tokAt s a).k < 0; rw [show (tokAt s a).k = kindOf (byteAt s a) from rfl, hkk]; decide), if_pos (by rw [Nat.zero_add, hnp.out]; exact hfull)]
         have hpz := hq _ _ (⟨.slice none 0 0, _, _, rfl, .inl ⟨hwe, rfl⟩, hxq⟩)
         subst hfull
         clear hwe hts hts' hsk hlow hnum
         go_wp2_with fail
         refine bodyPost_ret (results_tmp3 rfl _ _ _) rfl ?_
         exact hpz
        ·have hfi : ¬ (np : Int) = 1500 := by omega
         have hsa : s.extract a E = (tokAt s a).s := by rw [← hE.out, ← hln.out]; rfl
         have hwr' : Hid (wordsR (pre ++ [tokAt s a]) 0 = none) := Lib.hid (by rw [wordsR_append, hwr.out]; simp only; rw [wordsR, if_neg (by show ¬ (tokAt s a).k < 0; rw [show (tokAt s a).k = kindOf (byteAt s a) from rfl, hkk]; decide), if_neg (by rw [Nat.zero_add, hnp.out]; exact hfull)]; rfl)
         have hskn := hsk E hle
         obtain ⟨tx, htx⟩ : ∃ z, Hid (s.extract a E = z) := ⟨_, Lib.hid rfl⟩
         rw [htx.out] at hsa
         obtain ⟨an, han⟩ : ∃ z, Hid (skp s E = z) := ⟨_, Lib.hid rfl⟩
         have hts2 : Hid (toks s = (pre ++ [tokAt s a]) ++ tokG s f an) := Lib.hid (by rw [hts', ← han.out, ← hE.out, ← hln.out, List.append_assoc]; rfl)
         rw [han.out] at hskn
         have hage : E ≤ an := by rw [← han.out]; exact skp_ge s _
         have hale : an ≤ s.size := by rw [← han.out]; exact skp_le s _ hle
         have hrw : Hid (rows (pre ++ [tokAt s a]) = rows pre ++ [.int .i64 0, .string tx, .int .i64 (a : Int)]) := Lib.hid (by rw [rows_snoc, hsa]; unfold tcells; rw [show (tokAt s a).k = 0 from hkk, show (tokAt s a).a = a from rfl])
         have hpl : (pre ++ [tokAt s a]).length = np + 1 := by rw [List.length_append, hnp.out]; rfl
         have hsl1 : (a : Int) ≤ (E : Int) := by omega
         have hsl2 : (E : Int) ≤ (s.size : Int) := by omega
         clear hts hts' hsa hfull hwr hsk hlow hnum hkk hwd
         have howt := own_away how (Chg.one wq q 1 (.string tx)) (fun k hk e => hqn k hk e)
         have hxwt : Ext w (wq.setCell ⟨q, 1, none⟩ (.string tx)) := hxq.setCell (by show w.heap.size ≤ q; have := hB.out; omega) _
         have hbt3 : Blk (wq.setCell ⟨q, 1, none⟩ (.string tx)) q #[.int .i64 0, .string tx, .int .i64 (a : Int)] 37 := hbw.set 1 _
         obtain ⟨wt, hwt⟩ : ∃ z, Hid (wq.setCell ⟨q, 1, none⟩ (.string tx) = z) := ⟨_, rfl⟩
         rw [hwt.out] at howt hxwt hbt3
         have hxt : Ext wt (wt.alloc (.cells #[.int .i64 0, .string tx, .int .i64 (a : Int)] 37)) := (Ext.refl wt).alloc _
         have h1c : ∀ u ∈ ([.int .i64 0, .string tx, .int .i64 (a : Int)] : List Value), u.oneCell' = true := by
          intro u hu
          simp only [List.mem_cons, List.not_mem_nil, or_false] at hu
          rcases hu with rfl | rfl | rfl <;> rfl
         have c0 : wt.cell? ⟨q, 0, none⟩ = some (.int .i64 0) := hbt3.cell 0
         have c1 : wt.cell? ⟨q, 1, none⟩ = some (.string tx) := hbt3.cell 1
         have c2 : wt.cell? ⟨q, 2, none⟩ = some (.int .i64 (a : Int)) := hbt3.cell 2
         have hset := hwt.out
         rw [← htx.out] at hset
         have hqt := hbt3.lt
         have hnp2 : np ≤ 1500 := by have := hnp.out; omega
         go_wp2_with (
          refine wpList_app el_tok _ rfl (.tmp 86) (.tmp 88) rfl B (.slice A5 np c5) np (rows pre) rfl (own_ext howt hxt) (some ⟨wt.heap.size, 0, none⟩) 1 1 [.int .i64 0, .string tx, .int .i64 (a : Int)] rfl (Rd.of_block wt 37 (0, 0) rfl) rfl (fun h => by cases h) h1c (by omega) (by omega) (by simp; omega) (fun V2 w5 ho5 hg5 hv5 => ?_))
         have hx5 : Ext w w5 := Ext.then_grown (hxwt.trans hxt) hg5 (fun k hk => by have := (howt.lt k hk).1; have := hB.out; omega)
         have hB5 : B < w5.heap.size := by have h9 := hg5.size; simp only [World.size_alloc] at h9; omega
         refine (hskn w5).mono ?_
         rintro e w6 ⟨rfl, hw6⟩
         have hw6 := hw6.symm
         subst hw6
         go_wp2_with fail
         go_roundw
         case rel =>
          refine ⟨pre ++ [tokAt s a], an, f, by go_num, hale, by omega, hts2, hwr', ?_, hx5, ?_⟩
          ·rw [hpl, hrw.out]; exact ho5
          ·exact hB5
         case measure => simp [intOf]; omega
       ·have hbt := byteAt_get s E (by omega)
        have hlt2 : (E : Int) < (s.size : Int) := by omega
        have k0 : letterP (byteAt s E) = false := by revert hpf; unfold innerP; cases letterP (byteAt s E) <;> simp
        have k1 : digitP (byteAt s E) = false := by revert hpf; unfold innerP; cases digitP (byteAt s E) <;> simp
        have k2 : (((byteAt s E).toNat : Int) == 95) = false := by revert hpf; unfold innerP; simp; omega
        have hl2 := hlow (byteAt s E) wq
        have hn2 := hnum (byteAt s E) wq
        rw [k0] at hl2
        rw [k1] at hn2
        clear hpf hR
        go_wp2_with fail
        refine hl2.mono ?_
        rintro e w5 ⟨rfl, hw5⟩
        have hw5 := hw5.symm
        subst hw5
        go_wp2_with fail
        refine hn2.mono ?_
        rintro e w5 ⟨rfl, hw5⟩
        have hw5 := hw5.symm
        subst hw5
        clear hl2 hn2
        by_cases hfull : np = 1500
        ·have hwe : words s = some (4096, 2) := by
          rw [hwd, hts', wordsR_append, hwr.out]
          simp only
          rw [wordsR, if_neg (by show ¬ (tokAt s a).k < 0; rw [show (tokAt s a).k = kindOf (byteAt s a) from rfl, hkk]; decide), if_pos (by rw [Nat.zero_add, hnp.out]; exact hfull)]
         have hpz := hq _ _ (⟨.slice none 0 0, _, _, rfl, .inl ⟨hwe, rfl⟩, hxq⟩)
         subst hfull
         clear hwe hts hts' hsk hlow hnum
         go_wp2_with fail
         refine bodyPost_ret (results_tmp3 rfl _ _ _) rfl ?_
         exact hpz
        ·have hfi : ¬ (np : Int) = 1500 := by omega
         have hsa : s.extract a E = (tokAt s a).s := by rw [← hE.out, ← hln.out]; rfl
         have hwr' : Hid (wordsR (pre ++ [tokAt s a]) 0 = none) := Lib.hid (by rw [wordsR_append, hwr.out]; simp only; rw [wordsR, if_neg (by show ¬ (tokAt s a).k < 0; rw [show (tokAt s a).k = kindOf (byteAt s a) from rfl, hkk]; decide), if_neg (by rw [Nat.zero_add, hnp.out]; exact hfull)]; rfl)
         have hskn := hsk E hle
         obtain ⟨tx, htx⟩ : ∃ z, Hid (s.extract a E = z) := ⟨_, Lib.hid rfl⟩
         rw [htx.out] at hsa
         obtain ⟨an, han⟩ : ∃ z, Hid (skp s E = z) := ⟨_, Lib.hid rfl⟩
         have hts2 : Hid (toks s = (pre ++ [tokAt s a]) ++ tokG s f an) := Lib.hid (by rw [hts', ← han.out, ← hE.out, ← hln.out, List.append_assoc]; rfl)
         rw [han.out] at hskn
         have hage : E ≤ an := by rw [← han.out]; exact skp_ge s _
         have hale : an ≤ s.size := by rw [← han.out]; exact skp_le s _ hle
         have hrw : Hid (rows (pre ++ [tokAt s a]) = rows pre ++ [.int .i64 0, .string tx, .int .i64 (a : Int)]) := Lib.hid (by rw [rows_snoc, hsa]; unfold tcells; rw [show (tokAt s a).k = 0 from hkk, show (tokAt s a).a = a from rfl])
         have hpl : (pre ++ [tokAt s a]).length = np + 1 := by rw [List.length_append, hnp.out]; rfl
         have hsl1 : (a : Int) ≤ (E : Int) := by omega
         have hsl2 : (E : Int) ≤ (s.size : Int) := by omega
         clear hts hts' hsa hfull hwr hsk hlow hnum hkk hwd
         have howt := own_away how (Chg.one wq q 1 (.string tx)) (fun k hk e => hqn k hk e)
         have hxwt : Ext w (wq.setCell ⟨q, 1, none⟩ (.string tx)) := hxq.setCell (by show w.heap.size ≤ q; have := hB.out; omega) _
         have hbt3 : Blk (wq.setCell ⟨q, 1, none⟩ (.string tx)) q #[.int .i64 0, .string tx, .int .i64 (a : Int)] 37 := hbw.set 1 _
         obtain ⟨wt, hwt⟩ : ∃ z, Hid (wq.setCell ⟨q, 1, none⟩ (.string tx) = z) := ⟨_, rfl⟩
         rw [hwt.out] at howt hxwt hbt3
         have hxt : Ext wt (wt.alloc (.cells #[.int .i64 0, .string tx, .int .i64 (a : Int)] 37)) := (Ext.refl wt).alloc _
         have h1c : ∀ u ∈ ([.int .i64 0, .string tx, .int .i64 (a : Int)] : List Value), u.oneCell' = true := by
          intro u hu
          simp only [List.mem_cons, List.not_mem_nil, or_false] at hu
          rcases hu with rfl | rfl | rfl <;> rfl
         have c0 : wt.cell? ⟨q, 0, none⟩ = some (.int .i64 0) := hbt3.cell 0
         have c1 : wt.cell? ⟨q, 1, none⟩ = some (.string tx) := hbt3.cell 1
         have c2 : wt.cell? ⟨q, 2, none⟩ = some (.int .i64 (a : Int)) := hbt3.cell 2
         have hset := hwt.out
         rw [← htx.out] at hset
         have hqt := hbt3.lt
         have hnp2 : np ≤ 1500 := by have := hnp.out; omega
         go_wp2_with (
          refine wpList_app el_tok _ rfl (.tmp 86) (.tmp 88) rfl B (.slice A5 np c5) np (rows pre) rfl (own_ext howt hxt) (some ⟨wt.heap.size, 0, none⟩) 1 1 [.int .i64 0, .string tx, .int .i64 (a : Int)] rfl (Rd.of_block wt 37 (0, 0) rfl) rfl (fun h => by cases h) h1c (by omega) (by omega) (by simp; omega) (fun V2 w5 ho5 hg5 hv5 => ?_))
         have hx5 : Ext w w5 := Ext.then_grown (hxwt.trans hxt) hg5 (fun k hk => by have := (howt.lt k hk).1; have := hB.out; omega)
         have hB5 : B < w5.heap.size := by have h9 := hg5.size; simp only [World.size_alloc] at h9; omega
         refine (hskn w5).mono ?_
         rintro e w6 ⟨rfl, hw6⟩
         have hw6 := hw6.symm
         subst hw6
         go_wp2_with fail
         go_roundw
         case rel =>
          refine ⟨pre ++ [tokAt s a], an, f, by go_num, hale, by omega, hts2, hwr', ?_, hx5, ?_⟩
          ·rw [hpl, hrw.out]; exact ho5
          ·exact hB5
         case measure => simp [intOf]; omega
    | false =>
     cases h2 : digitP (byteAt s a) with
     | true =>
      rw [h1] at hlo hkz
      rw [h2] at hnu hkz
      have hkk : kindOf (byteAt s a) = 1 := hkz
      obtain ⟨R, hR⟩ : ∃ z, Hid (runP digitP (s.data.toList.drop a) = z) := ⟨_, Lib.hid rfl⟩
      have hRl : Hid (ln = R) := Lib.hid (by rw [← hln.out, lenAt, h1, h2, if_neg (by decide), if_pos rfl]; exact hR.out)
      have KK0 : (0 : Int) = 0 := rfl
      clear hsi hkz
      rw [hnp.out] at ho ⊢
      go_wp2_with fail
      have hbq : Blk (wr.alloc (.cells #[.int .i64 0, .string ⟨#[]⟩, .int .i64 (a : Int)] 37)) q #[.int .i64 0, .string ⟨#[]⟩, .int .i64 (a : Int)] 37 := by rw [← hqs.out]; exact Blk.new wr _ _
      have hxq : Ext w (wr.alloc (.cells #[.int .i64 0, .string ⟨#[]⟩, .int .i64 (a : Int)] 37)) := hx.alloc _
      obtain ⟨w3, hw3⟩ : ∃ z, Hid (wr.alloc (.cells #[.int .i64 0, .string ⟨#[]⟩, .int .i64 (a : Int)] 37) = z) := ⟨_, rfl⟩
      have hx3 : Ext wr w3 := by rw [← hw3.out]; exact (Ext.refl wr).alloc _
      rw [hw3.out, hqs.out]
      rw [hw3.out] at hbq hxq
      have ho3 := own_ext ho hx3
      refine (hlo w3).mono ?_
      rintro e w4 ⟨rfl, hw4⟩
      have hw4 := hw4.symm
      subst hw4
      have g0 : w3.cell? ⟨q, 0, none⟩ = some (.int .i64 0) := hbq.cell 0
      have g1 := hbq.frozen 0
      clear hlo
      go_wp2_with fail
      refine (hnu w3).mono ?_
      rintro e w4 ⟨rfl, hw4⟩
      have hw4 := hw4.symm
      subst hw4
      clear hnu
      go_wp2_with fail
      have hbw : Blk (w3.setCell ⟨q, 0, none⟩ (.int .i64 1)) q #[.int .i64 1, .string ⟨#[]⟩, .int .i64 (a : Int)] 37 := hbq.set 0 (.int .i64 1)
      have hqB : B ≤ q := by have := hqs.out; omega
      have hxw : Ext w (w3.setCell ⟨q, 0, none⟩ (.int .i64 1)) := hxq.setCell (by show w.heap.size ≤ q; have := hB.out; omega) _
      have how := own_away ho3 (Chg.one w3 q 0 (.int .i64 1)) (fun k hk e => by have := (ho.lt k hk).2; have := hqs.out; omega)
      have hqn : ∀ k, (Value.slice A5 np c5).ownBlock = some k → ¬ k = q := fun k hk e => by have := (ho.lt k hk).2; have := hqs.out; omega
      obtain ⟨wq, hwq⟩ : ∃ z, Hid (w3.setCell ⟨q, 0, none⟩ (.int .i64 1) = z) := ⟨_, rfl⟩
      rw [hwq.out] at hbw hxw how ⊢
      have p0 : wq.cell? ⟨q, 0, none⟩ = some (.int .i64 1) := hbw.cell 0
      have p1 : wq.cell? ⟨q, 1, none⟩ = some (.string ⟨#[]⟩) := hbw.cell 1
      have p2 : wq.cell? ⟨q, 2, none⟩ = some (.int .i64 (a : Int)) := hbw.cell 2
      have f1 := hbw.frozen 1
      have hqq : q < wq.heap.size := hbw.lt
      clear hbq g0 g1 hxq ho3 ho hx3 hx hwq hw3
      have hxq := hxw
      go_loopw [8] (fun v8 wv => ∃ to : Nat, a + 1 ≤ to ∧ to ≤ E ∧ v8 = .int .i64 to ∧ wv = wq) (fun v8 _ => E - (intOf v8).toNat)
      case atStart => exact ⟨a + 1, by omega, by omega, by go_num, rfl⟩
      case round =>
       obtain ⟨to, hto1, hto2, rfl, hwv⟩ := hrel
       have hwv := hwv.symm
       subst hwv
       by_cases hlt : to < E
       ·obtain ⟨hts1, htp⟩ := runs_within hR.out (i := to) (by omega) (by have := hE.out; have := hRl.out; omega)
        have hts1' : (to : Int) < (s.size : Int) := by omega
        have hbt := byteAt_get s to hts1
        have hn2 := hnum (byteAt s to) wq
        rw [htp] at hn2
        clear htp
        go_wp2_with fail
        refine hn2.mono ?_
        rintro e w5 ⟨rfl, hw5⟩
        have hw5 := hw5.symm
        subst hw5
        go_wp2_with fail
        go_roundw
        case rel => exact ⟨to + 1, by omega, by omega, by go_num, by first | rfl | trivial⟩
        case measure => simp [intOf]; omega
       ·obtain rfl : E = to := by omega
        have hRE : a + R = E := by have := hE.out; have := hRl.out; omega
        have hro := run_out hR.out ha
        rw [hRE] at hro
        clear hRE
        rcases hro with he | ⟨he, hpf⟩
        ·have hnot : ¬ (E : Int) < (s.size : Int) := by omega
         clear hR he
         by_cases hfull : np = 1500
         ·have hwe : words s = some (4096, 2) := by
           rw [hwd, hts', wordsR_append, hwr.out]
           simp only
           rw [wordsR, if_neg (by show ¬ (tokAt s a).k < 0; rw [show (tokAt s a).k = kindOf (byteAt s a) from rfl, hkk]; decide), if_pos (by rw [Nat.zero_add, hnp.out]; exact hfull)]
          have hpz := hq _ _ (⟨.slice none 0 0, _, _, rfl, .inl ⟨hwe, rfl⟩, hxq⟩)
          subst hfull
          clear hwe hts hts' hsk hlow hnum
          go_wp2_with fail
          refine bodyPost_ret (results_tmp3 rfl _ _ _) rfl ?_
          exact hpz
         ·have hfi : ¬ (np : Int) = 1500 := by omega
          have hsa : s.extract a E = (tokAt s a).s := by rw [← hE.out, ← hln.out]; rfl
          have hwr' : Hid (wordsR (pre ++ [tokAt s a]) 0 = none) := Lib.hid (by rw [wordsR_append, hwr.out]; simp only; rw [wordsR, if_neg (by show ¬ (tokAt s a).k < 0; rw [show (tokAt s a).k = kindOf (byteAt s a) from rfl, hkk]; decide), if_neg (by rw [Nat.zero_add, hnp.out]; exact hfull)]; rfl)
          have hskn := hsk E hle
          obtain ⟨tx, htx⟩ : ∃ z, Hid (s.extract a E = z) := ⟨_, Lib.hid rfl⟩
          rw [htx.out] at hsa
          obtain ⟨an, han⟩ : ∃ z, Hid (skp s E = z) := ⟨_, Lib.hid rfl⟩
          have hts2 : Hid (toks s = (pre ++ [tokAt s a]) ++ tokG s f an) := Lib.hid (by rw [hts', ← han.out, ← hE.out, ← hln.out, List.append_assoc]; rfl)
          rw [han.out] at hskn
          have hage : E ≤ an := by rw [← han.out]; exact skp_ge s _
          have hale : an ≤ s.size := by rw [← han.out]; exact skp_le s _ hle
          have hrw : Hid (rows (pre ++ [tokAt s a]) = rows pre ++ [.int .i64 1, .string tx, .int .i64 (a : Int)]) := Lib.hid (by rw [rows_snoc, hsa]; unfold tcells; rw [show (tokAt s a).k = 1 from hkk, show (tokAt s a).a = a from rfl])
          have hpl : (pre ++ [tokAt s a]).length = np + 1 := by rw [List.length_append, hnp.out]; rfl
          have hsl1 : (a : Int) ≤ (E : Int) := by omega
          have hsl2 : (E : Int) ≤ (s.size : Int) := by omega
          clear hts hts' hsa hfull hwr hsk hlow hnum hkk hwd
          have howt := own_away how (Chg.one wq q 1 (.string tx)) (fun k hk e => hqn k hk e)
          have hxwt : Ext w (wq.setCell ⟨q, 1, none⟩ (.string tx)) := hxq.setCell (by show w.heap.size ≤ q; have := hB.out; omega) _
          have hbt3 : Blk (wq.setCell ⟨q, 1, none⟩ (.string tx)) q #[.int .i64 1, .string tx, .int .i64 (a : Int)] 37 := hbw.set 1 _
          obtain ⟨wt, hwt⟩ : ∃ z, Hid (wq.setCell ⟨q, 1, none⟩ (.string tx) = z) := ⟨_, rfl⟩
          rw [hwt.out] at howt hxwt hbt3
          have hxt : Ext wt (wt.alloc (.cells #[.int .i64 1, .string tx, .int .i64 (a : Int)] 37)) := (Ext.refl wt).alloc _
          have h1c : ∀ u ∈ ([.int .i64 1, .string tx, .int .i64 (a : Int)] : List Value), u.oneCell' = true := by
           intro u hu
           simp only [List.mem_cons, List.not_mem_nil, or_false] at hu
           rcases hu with rfl | rfl | rfl <;> rfl
          have c0 : wt.cell? ⟨q, 0, none⟩ = some (.int .i64 1) := hbt3.cell 0
          have c1 : wt.cell? ⟨q, 1, none⟩ = some (.string tx) := hbt3.cell 1
          have c2 : wt.cell? ⟨q, 2, none⟩ = some (.int .i64 (a : Int)) := hbt3.cell 2
          have hset := hwt.out
          rw [← htx.out] at hset
          have hqt := hbt3.lt
          have hnp2 : np ≤ 1500 := by have := hnp.out; omega
          go_wp2_with (
           refine wpList_app el_tok _ rfl (.tmp 86) (.tmp 88) rfl B (.slice A5 np c5) np (rows pre) rfl (own_ext howt hxt) (some ⟨wt.heap.size, 0, none⟩) 1 1 [.int .i64 1, .string tx, .int .i64 (a : Int)] rfl (Rd.of_block wt 37 (0, 0) rfl) rfl (fun h => by cases h) h1c (by omega) (by omega) (by simp; omega) (fun V2 w5 ho5 hg5 hv5 => ?_))
          have hx5 : Ext w w5 := Ext.then_grown (hxwt.trans hxt) hg5 (fun k hk => by have := (howt.lt k hk).1; have := hB.out; omega)
          have hB5 : B < w5.heap.size := by have h9 := hg5.size; simp only [World.size_alloc] at h9; omega
          refine (hskn w5).mono ?_
          rintro e w6 ⟨rfl, hw6⟩
          have hw6 := hw6.symm
          subst hw6
          go_wp2_with fail
          go_roundw
          case rel =>
           refine ⟨pre ++ [tokAt s a], an, f, by go_num, hale, by omega, hts2, hwr', ?_, hx5, ?_⟩
           ·rw [hpl, hrw.out]; exact ho5
           ·exact hB5
          case measure => simp [intOf]; omega
        ·have hbt := byteAt_get s E (by omega)
         have hlt2 : (E : Int) < (s.size : Int) := by omega
         have hn2 := hnum (byteAt s E) wq
         rw [hpf] at hn2
         clear hpf hR
         go_wp2_with fail
         refine hn2.mono ?_
         rintro e w5 ⟨rfl, hw5⟩
         have hw5 := hw5.symm
         subst hw5
         clear hn2
         by_cases hfull : np = 1500
         ·have hwe : words s = some (4096, 2) := by
           rw [hwd, hts', wordsR_append, hwr.out]
           simp only
           rw [wordsR, if_neg (by show ¬ (tokAt s a).k < 0; rw [show (tokAt s a).k = kindOf (byteAt s a) from rfl, hkk]; decide), if_pos (by rw [Nat.zero_add, hnp.out]; exact hfull)]
          have hpz := hq _ _ (⟨.slice none 0 0, _, _, rfl, .inl ⟨hwe, rfl⟩, hxq⟩)
          subst hfull
          clear hwe hts hts' hsk hlow hnum
          go_wp2_with fail
          refine bodyPost_ret (results_tmp3 rfl _ _ _) rfl ?_
          exact hpz
         ·have hfi : ¬ (np : Int) = 1500 := by omega
          have hsa : s.extract a E = (tokAt s a).s := by rw [← hE.out, ← hln.out]; rfl
          have hwr' : Hid (wordsR (pre ++ [tokAt s a]) 0 = none) := Lib.hid (by rw [wordsR_append, hwr.out]; simp only; rw [wordsR, if_neg (by show ¬ (tokAt s a).k < 0; rw [show (tokAt s a).k = kindOf (byteAt s a) from rfl, hkk]; decide), if_neg (by rw [Nat.zero_add, hnp.out]; exact hfull)]; rfl)
          have hskn := hsk E hle
          obtain ⟨tx, htx⟩ : ∃ z, Hid (s.extract a E = z) := ⟨_, Lib.hid rfl⟩
          rw [htx.out] at hsa
          obtain ⟨an, han⟩ : ∃ z, Hid (skp s E = z) := ⟨_, Lib.hid rfl⟩
          have hts2 : Hid (toks s = (pre ++ [tokAt s a]) ++ tokG s f an) := Lib.hid (by rw [hts', ← han.out, ← hE.out, ← hln.out, List.append_assoc]; rfl)
          rw [han.out] at hskn
          have hage : E ≤ an := by rw [← han.out]; exact skp_ge s _
          have hale : an ≤ s.size := by rw [← han.out]; exact skp_le s _ hle
          have hrw : Hid (rows (pre ++ [tokAt s a]) = rows pre ++ [.int .i64 1, .string tx, .int .i64 (a : Int)]) := Lib.hid (by rw [rows_snoc, hsa]; unfold tcells; rw [show (tokAt s a).k = 1 from hkk, show (tokAt s a).a = a from rfl])
          have hpl : (pre ++ [tokAt s a]).length = np + 1 := by rw [List.length_append, hnp.out]; rfl
          have hsl1 : (a : Int) ≤ (E : Int) := by omega
          have hsl2 : (E : Int) ≤ (s.size : Int) := by omega
          clear hts hts' hsa hfull hwr hsk hlow hnum hkk hwd
          have howt := own_away how (Chg.one wq q 1 (.string tx)) (fun k hk e => hqn k hk e)
          have hxwt : Ext w (wq.setCell ⟨q, 1, none⟩ (.string tx)) := hxq.setCell (by show w.heap.size ≤ q; have := hB.out; omega) _
          have hbt3 : Blk (wq.setCell ⟨q, 1, none⟩ (.string tx)) q #[.int .i64 1, .string tx, .int .i64 (a : Int)] 37 := hbw.set 1 _
          obtain ⟨wt, hwt⟩ : ∃ z, Hid (wq.setCell ⟨q, 1, none⟩ (.string tx) = z) := ⟨_, rfl⟩
          rw [hwt.out] at howt hxwt hbt3
          have hxt : Ext wt (wt.alloc (.cells #[.int .i64 1, .string tx, .int .i64 (a : Int)] 37)) := (Ext.refl wt).alloc _
          have h1c : ∀ u ∈ ([.int .i64 1, .string tx, .int .i64 (a : Int)] : List Value), u.oneCell' = true := by
           intro u hu
           simp only [List.mem_cons, List.not_mem_nil, or_false] at hu
           rcases hu with rfl | rfl | rfl <;> rfl
          have c0 : wt.cell? ⟨q, 0, none⟩ = some (.int .i64 1) := hbt3.cell 0
          have c1 : wt.cell? ⟨q, 1, none⟩ = some (.string tx) := hbt3.cell 1
          have c2 : wt.cell? ⟨q, 2, none⟩ = some (.int .i64 (a : Int)) := hbt3.cell 2
          have hset := hwt.out
          rw [← htx.out] at hset
          have hqt := hbt3.lt
          have hnp2 : np ≤ 1500 := by have := hnp.out; omega
          go_wp2_with (
           refine wpList_app el_tok _ rfl (.tmp 86) (.tmp 88) rfl B (.slice A5 np c5) np (rows pre) rfl (own_ext howt hxt) (some ⟨wt.heap.size, 0, none⟩) 1 1 [.int .i64 1, .string tx, .int .i64 (a : Int)] rfl (Rd.of_block wt 37 (0, 0) rfl) rfl (fun h => by cases h) h1c (by omega) (by omega) (by simp; omega) (fun V2 w5 ho5 hg5 hv5 => ?_))
          have hx5 : Ext w w5 := Ext.then_grown (hxwt.trans hxt) hg5 (fun k hk => by have := (howt.lt k hk).1; have := hB.out; omega)
          have hB5 : B < w5.heap.size := by have h9 := hg5.size; simp only [World.size_alloc] at h9; omega
          refine (hskn w5).mono ?_
          rintro e w6 ⟨rfl, hw6⟩
          have hw6 := hw6.symm
          subst hw6
          go_wp2_with fail
          go_roundw
          case rel =>
           refine ⟨pre ++ [tokAt s a], an, f, by go_num, hale, by omega, hts2, hwr', ?_, hx5, ?_⟩
           ·rw [hpl, hrw.out]; exact ho5
           ·exact hB5
          case measure => simp [intOf]; omega
     | false =>
      cases h3 : signP (byteAt s a) with
      | true =>
       rw [h1] at hlo hkz
       rw [h2] at hnu hkz
       have hsi := hsi
       rw [h3] at hsi hkz
       have hkk : kindOf (byteAt s a) = 2 := hkz
       have hl1 : ln = 1 := by rw [← hln.out, lenAt, h1, h2]; rfl
       obtain rfl : E = a + 1 := by have := hE.out; omega
       clear hl1
       have KK0 : (0 : Int) = 0 := rfl
       clear hkz
       rw [hnp.out] at ho ⊢
       go_wp2_with fail
       have hbq : Blk (wr.alloc (.cells #[.int .i64 0, .string ⟨#[]⟩, .int .i64 (a : Int)] 37)) q #[.int .i64 0, .string ⟨#[]⟩, .int .i64 (a : Int)] 37 := by rw [← hqs.out]; exact Blk.new wr _ _
       have hxq : Ext w (wr.alloc (.cells #[.int .i64 0, .string ⟨#[]⟩, .int .i64 (a : Int)] 37)) := hx.alloc _
       obtain ⟨w3, hw3⟩ : ∃ z, Hid (wr.alloc (.cells #[.int .i64 0, .string ⟨#[]⟩, .int .i64 (a : Int)] 37) = z) := ⟨_, rfl⟩
       have hx3 : Ext wr w3 := by rw [← hw3.out]; exact (Ext.refl wr).alloc _
       rw [hw3.out, hqs.out]
       rw [hw3.out] at hbq hxq
       have ho3 := own_ext ho hx3
       refine (hlo w3).mono ?_
       rintro e w4 ⟨rfl, hw4⟩
       have hw4 := hw4.symm
       subst hw4
       have g0 : w3.cell? ⟨q, 0, none⟩ = some (.int .i64 0) := hbq.cell 0
       have g1 := hbq.frozen 0
       clear hlo
       go_wp2_with fail
       refine (hnu w3).mono ?_
       rintro e w4 ⟨rfl, hw4⟩
       have hw4 := hw4.symm
       subst hw4
       clear hnu
       go_wp2_with fail
       refine (hsi w3).mono ?_
       rintro e w4 ⟨rfl, hw4⟩
       have hw4 := hw4.symm
       subst hw4
       clear hsi
       have hbw : Blk (w3.setCell ⟨q, 0, none⟩ (.int .i64 2)) q #[.int .i64 2, .string ⟨#[]⟩, .int .i64 (a : Int)] 37 := hbq.set 0 (.int .i64 2)
       have hqB : B ≤ q := by have := hqs.out; omega
       have hxw : Ext w (w3.setCell ⟨q, 0, none⟩ (.int .i64 2)) := hxq.setCell (by show w.heap.size ≤ q; have := hB.out; omega) _
       have how := own_away ho3 (Chg.one w3 q 0 (.int .i64 2)) (fun k hk e => by have := (ho.lt k hk).2; have := hqs.out; omega)
       have hqn : ∀ k, (Value.slice A5 np c5).ownBlock = some k → ¬ k = q := fun k hk e => by have := (ho.lt k hk).2; have := hqs.out; omega
       have p0 : (w3.setCell ⟨q, 0, none⟩ (.int .i64 2)).cell? ⟨q, 0, none⟩ = some (.int .i64 2) := hbw.cell 0
       have p1 : (w3.setCell ⟨q, 0, none⟩ (.int .i64 2)).cell? ⟨q, 1, none⟩ = some (.string ⟨#[]⟩) := hbw.cell 1
       have p2 : (w3.setCell ⟨q, 0, none⟩ (.int .i64 2)).cell? ⟨q, 2, none⟩ = some (.int .i64 (a : Int)) := hbw.cell 2
       have f1 := hbw.frozen 1
       have hqq : q < (w3.setCell ⟨q, 0, none⟩ (.int .i64 2)).heap.size := hbw.lt
       clear hbq hxq ho3 ho hx3 hx hw3
       have hxq := hxw
       by_cases hfull : np = 1500
       ·have hwe : words s = some (4096, 2) := by
         rw [hwd, hts', wordsR_append, hwr.out]
         simp only
         rw [wordsR, if_neg (by show ¬ (tokAt s a).k < 0; rw [show (tokAt s a).k = kindOf (byteAt s a) from rfl, hkk]; decide), if_pos (by rw [Nat.zero_add, hnp.out]; exact hfull)]
        have hpz := hq _ _ (⟨.slice none 0 0, _, _, rfl, .inl ⟨hwe, rfl⟩, hxq⟩)
        subst hfull
        clear hwe hts hts' hsk hlow hnum
        go_wp2_with fail
        refine bodyPost_ret (results_tmp3 rfl _ _ _) rfl ?_
        exact hpz
       ·have hfi : ¬ (np : Int) = 1500 := by omega
        have hsa : s.extract a (a + 1) = (tokAt s a).s := by rw [← hE.out, ← hln.out]; rfl
        have hwr' : Hid (wordsR (pre ++ [tokAt s a]) 0 = none) := Lib.hid (by rw [wordsR_append, hwr.out]; simp only; rw [wordsR, if_neg (by show ¬ (tokAt s a).k < 0; rw [show (tokAt s a).k = kindOf (byteAt s a) from rfl, hkk]; decide), if_neg (by rw [Nat.zero_add, hnp.out]; exact hfull)]; rfl)
        have hskn := hsk (a + 1) hle
        obtain ⟨tx, htx⟩ : ∃ z, Hid (s.extract a (a + 1) = z) := ⟨_, Lib.hid rfl⟩
        rw [htx.out] at hsa
        obtain ⟨an, han⟩ : ∃ z, Hid (skp s (a + 1) = z) := ⟨_, Lib.hid rfl⟩
        have hts2 : Hid (toks s = (pre ++ [tokAt s a]) ++ tokG s f an) := Lib.hid (by rw [hts', ← han.out, ← hE.out, ← hln.out, List.append_assoc]; rfl)
        rw [han.out, show ((a + 1 : Nat) : Int) = (a : Int) + 1 by omega] at hskn
        have hage : a + 1 ≤ an := by rw [← han.out]; exact skp_ge s _
        have hale : an ≤ s.size := by rw [← han.out]; exact skp_le s _ hle
        have hrw : Hid (rows (pre ++ [tokAt s a]) = rows pre ++ [.int .i64 2, .string tx, .int .i64 (a : Int)]) := Lib.hid (by rw [rows_snoc, hsa]; unfold tcells; rw [show (tokAt s a).k = 2 from hkk, show (tokAt s a).a = a from rfl])
        have hpl : (pre ++ [tokAt s a]).length = np + 1 := by rw [List.length_append, hnp.out]; rfl
        have hsl1 : (a : Int) ≤ ((a : Int) + 1) := by omega
        have hsl2 : ((a : Int) + 1) ≤ (s.size : Int) := by omega
        clear hts hts' hsa hfull hwr hsk hlow hnum hkk hwd
        have howt := own_away how (Chg.one (w3.setCell ⟨q, 0, none⟩ (.int .i64 2)) q 1 (.string tx)) (fun k hk e => hqn k hk e)
        have hxwt : Ext w ((w3.setCell ⟨q, 0, none⟩ (.int .i64 2)).setCell ⟨q, 1, none⟩ (.string tx)) := hxq.setCell (by show w.heap.size ≤ q; have := hB.out; omega) _
        have hbt3 : Blk ((w3.setCell ⟨q, 0, none⟩ (.int .i64 2)).setCell ⟨q, 1, none⟩ (.string tx)) q #[.int .i64 2, .string tx, .int .i64 (a : Int)] 37 := hbw.set 1 _
        obtain ⟨wt, hwt⟩ : ∃ z, Hid ((w3.setCell ⟨q, 0, none⟩ (.int .i64 2)).setCell ⟨q, 1, none⟩ (.string tx) = z) := ⟨_, rfl⟩
        rw [hwt.out] at howt hxwt hbt3
        have hxt : Ext wt (wt.alloc (.cells #[.int .i64 2, .string tx, .int .i64 (a : Int)] 37)) := (Ext.refl wt).alloc _
        have h1c : ∀ u ∈ ([.int .i64 2, .string tx, .int .i64 (a : Int)] : List Value), u.oneCell' = true := by
         intro u hu
         simp only [List.mem_cons, List.not_mem_nil, or_false] at hu
         rcases hu with rfl | rfl | rfl <;> rfl
        have c0 : wt.cell? ⟨q, 0, none⟩ = some (.int .i64 2) := hbt3.cell 0
        have c1 : wt.cell? ⟨q, 1, none⟩ = some (.string tx) := hbt3.cell 1
        have c2 : wt.cell? ⟨q, 2, none⟩ = some (.int .i64 (a : Int)) := hbt3.cell 2
        have hset := hwt.out
        rw [← htx.out] at hset
        have hqt := hbt3.lt
        have hnp2 : np ≤ 1500 := by have := hnp.out; omega
        go_wp2_with (
         refine wpList_app el_tok _ rfl (.tmp 86) (.tmp 88) rfl B (.slice A5 np c5) np (rows pre) rfl (own_ext howt hxt) (some ⟨wt.heap.size, 0, none⟩) 1 1 [.int .i64 2, .string tx, .int .i64 (a : Int)] rfl (Rd.of_block wt 37 (0, 0) rfl) rfl (fun h => by cases h) h1c (by omega) (by omega) (by simp; omega) (fun V2 w5 ho5 hg5 hv5 => ?_))
        have hx5 : Ext w w5 := Ext.then_grown (hxwt.trans hxt) hg5 (fun k hk => by have := (howt.lt k hk).1; have := hB.out; omega)
        have hB5 : B < w5.heap.size := by have h9 := hg5.size; simp only [World.size_alloc] at h9; omega
        refine (hskn w5).mono ?_
        rintro e w6 ⟨rfl, hw6⟩
        have hw6 := hw6.symm
        subst hw6
        go_wp2_with fail
        go_roundw
        case rel =>
         refine ⟨pre ++ [tokAt s a], an, f, by go_num, hale, by omega, hts2, hwr', ?_, hx5, ?_⟩
         ·rw [hpl, hrw.out]; exact ho5
         ·exact hB5
        case measure => simp [intOf]; omega
      | false =>
       rw [h1] at hlo hkz
       rw [h2] at hnu hkz
       rw [h3] at hsi hkz
       have hkk : kindOf (byteAt s a) = -1 := hkz
       have hwe : words s = some ((a : Int), 4) := by
        rw [hwd, hts', wordsR_append, hwr.out]
        simp only
        rw [wordsR, if_pos (by show (tokAt s a).k < 0; rw [show (tokAt s a).k = kindOf (byteAt s a) from rfl, hkk]; decide)]
        rfl
       have hxq : Ext w (wr.alloc (.cells #[.int .i64 0, .string ⟨#[]⟩, .int .i64 (a : Int)] 37)) := hx.alloc _
       have hpz := hq _ _ (⟨.slice none 0 0, _, _, rfl, .inl ⟨hwe, rfl⟩, hxq⟩)
       clear hwe hts hts' hsk hlow hnum hkk hkz hwd hwr
       go_wp2_with fail
       refine (hlo _).mono ?_
       rintro e w4 ⟨rfl, hw4⟩
       have hw4 := hw4.symm
       subst hw4
       go_wp2_with fail
       refine (hnu _).mono ?_
       rintro e w4 ⟨rfl, hw4⟩
       have hw4 := hw4.symm
       subst hw4
       go_wp2_with fail
       refine (hsi _).mono ?_
       rintro e w4 ⟨rfl, hw4⟩
       have hw4 := hw4.symm
       subst hw4
       go_wp2_with fail
       refine bodyPost_ret (results_tmp3 rfl _ _ _) rfl ?_
       exact hpz
   ·have hnot : ¬ (a : Int) < (s.size : Int) := by omega
    have hae : a = s.size := by omega
    obtain ⟨f, rfl⟩ : ∃ g, f = g + 1 := ⟨f - 1, by omega⟩
    have hts' := hts.out
    rw [tokG_end s f a hal] at hts'
    obtain ⟨np, hnp⟩ : ∃ z, Hid (pre.length = z) := ⟨_, Lib.hid rfl⟩
    rw [hnp.out] at ho ⊢
    by_cases hfull : np = 1500
    ·have hwe : words s = some (4096, 2) := by
      rw [hwd, hts', wordsR_append, hwr.out]
      simp only
      rw [wordsR, if_neg (show ¬ (3 : Int) < 0 by decide), if_pos (by rw [Nat.zero_add, hnp.out]; exact hfull)]
     have hpz := hq _ _ (⟨.slice none 0 0, _, _, rfl, .inl ⟨hwe, rfl⟩, hx⟩)
     subst hfull
     clear hwe hts hts' hsk hae
     go_wp2_with fail
     refine bodyPost_ret (results_tmp3 rfl _ _ _) rfl ?_
     exact hpz
    ·have hfi : ¬ (np : Int) = 1500 := by omega
     have hwe : words s = none := by
      rw [hwd, hts', wordsR_append, hwr.out]
      simp only
      rw [wordsR, if_neg (show ¬ (3 : Int) < 0 by decide), if_neg (by rw [Nat.zero_add, hnp.out]; exact hfull)]
      rfl
     have hnp2 : np ≤ 1500 := by have := hnp.out; omega
     have hrw : Hid (rows (toks s) = rows pre ++ [.int .i64 3, .string ⟨#[]⟩, .int .i64 (s.size : Int)]) := Lib.hid (by rw [hts', rows_snoc]; rfl)
     have hpl : (toks s).length = np + 1 := by rw [hts', List.length_append, hnp.out]; rfl
     have h1c : ∀ u ∈ ([.int .i64 3, .string ⟨#[]⟩, .int .i64 (s.size : Int)] : List Value), u.oneCell' = true := by
      intro u hu
      simp only [List.mem_cons, List.not_mem_nil, or_false] at hu
      rcases hu with rfl | rfl | rfl <;> rfl
     have hxt : Ext wr (wr.alloc (.cells #[.int .i64 3, .string ⟨#[]⟩, .int .i64 (s.size : Int)] 37)) := (Ext.refl wr).alloc _
     clear hts hts' hsk hae hwr hwd hfull
     go_wp2_with (
      refine wpList_app el_tok _ rfl (.tmp 94) (.tmp 98) rfl B (.slice A5 np c5) np (rows pre) rfl (own_ext ho hxt) (some ⟨wr.heap.size, 0, none⟩) 1 1 [.int .i64 3, .string ⟨#[]⟩, .int .i64 (s.size : Int)] rfl (Rd.of_block wr 37 (0, 0) rfl) rfl (fun h => by cases h) h1c (by omega) (by omega) (by simp; omega) (fun V2 w5 ho5 hg5 hv5 => ?_))
     have hx5 : Ext w w5 := Ext.then_grown (hx.trans hxt) hg5 (fun k hk => by have := (ho.lt k hk).1; have := hB.out; omega)
     refine bodyPost_ret (results_tmp3 rfl _ _ _) rfl ?_
     rw [← hrw.out, ← hpl] at ho5
     exact hq _ _ ⟨_, _, _, rfl, .inr ⟨hwe, rfl, rfl, rt_of_own ho5 (toks_ne s)⟩, hx5⟩
end Go.Proofs.YtbpfabhlngfciaaGreatDoor.Lx
namespace Go.Proofs.YtbpfabhlngfciaaGreatDoor.Cn
open Go.ChangeShapes Go.WideShapes Go.ChangeAt Go.RowKit
open Base Lx Mi Pr ShaP ShaW
theorem loadG {P : Program} {ops : Array Oper} {rest : List Oper} {op : Oper} {a : Act} {w : World} {Q : Exit → Act → World → Prop} (hw : Region.wanted op (yielded ops a.tmps) = true) (ty : TypeId) (x : Operand) (ho : op.op = .load ty x)
  (b o : Nat) (hx : a.eval x = .pointer (some ⟨b, o, none⟩)) (cs : List Value) (d : TypeDesc) (hc : w.rangeAt b o cs)
  (hu : P.underlying ty = some d) (hd : d.isRow = true) (hi : (P.info? ty).map (·.size) = some cs.length)
  (h : wpList P ops Q rest (a.put op.dst (.agg cs.toArray)) w) : wpList P ops Q (op :: rest) a w :=
 BigFrame.wpList_want hw fun K hK => wp_load_mid ty x ho b o hx cs d hc hu hd hi (hK _ _ h)
theorem ixB (x : ByteArray) (k : Nat) (hk : k < x.size) (W : World) : (Instr.index 9 (.string x) (.int .i64 (k : Int))).run Tryz.prog W = .ok (.int .u8 ((byteAt x k).toNat : Int)) W := by
 rw [run_index_string (h := Tryz.underlying9), dif_pos ⟨by omega, by omega⟩]
 rw [← byteAt_get x k hk]
 rfl
theorem addS (a b : ByteArray) (h : a.size + b.size ≤ 1000000) (W : World) : (Op.stringOp .add a b).run Tryz.prog W = .ok (.string (a ++ b)) W := by
 have h2 : ¬ ((a.size + b.size : Nat) : Int) > IntKind.i64.max := by
  have : IntKind.i64.max = 9223372036854775807 := by rfl
  rw [this]; omega
 unfold Op.stringOp
 simp only [if_neg h2]
 rfl
theorem words_none {s : ByteArray} (h : (formP s).2.2 = 0) : words s = none ∧ s.size ≤ 4096 := by
 have hp2 : (parseP s).2.2 = 0 := by
  apply Classical.byContradiction
  intro hne
  unfold formP at h
  rw [if_neg hne] at h
  exact hne h
 rcases parse_cases s with ⟨_, h1⟩ | ⟨hw, _⟩
 ·exact absurd hp2 h1
 ·exact ⟨hw, parse_small' hp2⟩
def longP (s rm : ByteArray) (a : Nat) : ByteArray := (((s.extract 0 a ++ ⟨#[32, 35]⟩) ++ rm) ++ ⟨#[10, 9]⟩) ++ s.extract a s.size
theorem long_ins (s rm : ByteArray) (a : Nat) (ha : a ≤ s.size) (hr : ∀ k, k < rm.size → (byteAt rm k).toNat ≠ 10) : Lx.Ins (32 :: 35 :: (rm.data.toList ++ [10, 9])) s (longP s rm a) a := by
 refine ⟨blk_remark _ fun c hc => ?_, ha, ?_⟩
 ·obtain ⟨k, hk, rfl⟩ := List.mem_iff_getElem.1 hc
  have hk2 : k < rm.size := by rw [← size_list rm]; exact hk
  have := hr k hk2
  unfold byteAt at this
  rw [List.getD, List.getElem?_eq_getElem hk] at this
  exact this
 ·unfold longP
  have h1 := ext_list s 0 a
  have h2 := ext_list s a s.size
  rw [List.drop_zero, Nat.sub_zero] at h1
  rw [List.take_of_length_le (by rw [List.length_drop, size_list]; exact Nat.le_refl _)] at h2
  simp only [ByteArray.data_append, Array.toList_append, h1, h2]
  simp
theorem cellsN : ∀ (l : List Lx.Tok) (j : Nat) (t : Lx.Tok), l[j]? = some t → (rows l)[j * 3 + 2]? = some (.int .i64 (t.a : Int))
 | [], j, t, h => by simp at h
 | x :: l, 0, t, h => by
  have e : x = t := by simpa using h
  subst e
  rfl
 | x :: l, j + 1, t, h => by
  have := cellsN l j t (by simpa using h)
  have e : rows (x :: l) = tcells x ++ rows l := by simp [rows]
  rw [e, List.getElem?_append_right (by simp [tcells]; omega)]
  rw [show (j + 1) * 3 + 2 - (tcells x).length = j * 3 + 2 by simp [tcells]; omega]
  exact this
theorem tok_le (s : ByteArray) (j : Nat) (t : Lx.Tok) (h : (toks s)[j]? = some t) : t.a ≤ s.size := by
 have key : ∀ (f x j : Nat), (tokG s f x)[j]? = some t → x ≤ s.size → t.a ≤ s.size := by
  intro f
  induction f with
  | zero => intro x j h _; simp [tokG] at h
  | succ f ih =>
   intro x j h hx
   by_cases hin : x < s.size
   ·rw [tokG_step s f x hin] at h
    cases j with
    | zero =>
     have e : tokAt s x = t := by simpa using h
     rw [← e]
     exact hx
    | succ j => exact ih _ j (by simpa using h) (skp_le s _ (lenAt_le s x hin))
   ·rw [tokG_end s f x hin] at h
    cases j with
    | zero =>
     have e : (⟨3, ByteArray.empty, s.size⟩ : Lx.Tok) = t := by simpa using h
     rw [← e]
     exact Nat.le_refl _
    | succ j => simp at h
 exact key _ _ j h (skp_le s 0 (Nat.zero_le _))
set_option maxHeartbeats 4000000 in
theorem blanks_any (s rm : ByteArray) (k0 : Nat) (hk0 : k0 ≤ 65535) (hs : s.size ≤ 140737488351232) (hrs : rm.size ≤ 140737488351232) (w : World) (hwd : Wd w) (hpow : Pow w) (htb : Tabs w) :
  Calls Tryz.prog 4 #[.string s, .int .u16 (k0 : Int), .string rm] w fun e w' => e = .returned (.bool true) ∧ Ext w w' := by
 have h1 := cText_any s hs w hwd hpow
 have h2 := fun W => refWords_any s hs W
 have hli := fun W (hW : Ext w W) => lives8_any W (hwd.ext hW) (hpow.ext hW) (htb.ext hW)
 have hyw := words_none (s := s)
 have hfa := form_again (s := s)
 have hfi := fun a (ha : a ≤ s.size) (hr : ∀ k, k < rm.size → (byteAt rm k).toNat ≠ 10) k t (hk : (toks s)[k]? = some t) (ht : t.a = a) hz hp => ins_form (long_ins s rm a ha hr) k t hk ht hz hp
 obtain ⟨F, hF⟩ : ∃ z, Hid (formP s = z) := ⟨_, Lib.hid rfl⟩
 rw [hF.out] at h1 hyw hfa
 simp only [hF.out] at hfi
 obtain ⟨t, a, y⟩ := F
 simp only at h1 hyw hfa hfi
 replace h2 := Lib.hid h2
 replace hli := Lib.hid hli
 replace hyw := Lib.hid hyw
 replace hfa := Lib.hid hfa
 replace hfi := Lib.hid hfi
 go_enter Tryz.func4, Tryz.ntmps4
 go_wp2_with fail
 refine h1.mono ?_
 rintro e w1 ⟨rfl, hx1⟩
 have h2' := h2.out w1
 clear h1
 go_wp2_with fail
 refine h2'.mono ?_
 rintro e w2 ⟨v, p, er, rfl, hcase, hx2⟩
 have hx02 := hx1.trans hx2
 have hl2 := hli.out w2 hx02
 clear h2'
 by_cases hy : y = 0
 ·subst hy
  obtain ⟨hw0, hsz⟩ := hyw.out rfl
  rcases hcase with ⟨e1, _⟩ | ⟨_, rfl, rfl, hrt⟩
  ·rw [hw0] at e1; cases e1
  obtain ⟨g, cap, rfl, hrow, hcp, hcm⟩ := hrt
  have hne := toks_ne s
  obtain ⟨n, hn⟩ : ∃ z, Hid ((toks s).length = z) := ⟨_, Lib.hid rfl⟩
  have hn0 : 0 < n := by rw [← hn.out]; exact List.length_pos_iff.2 hne
  have hn0b : ((n : Int) == 0) = false := by simp; omega
  rw [hn.out]
  by_cases hbig : 3000 < s.size + rm.size
  ·have hbi : (3000 : Int) < (s.size : Int) + (rm.size : Int) := by omega
   clear hrow
   go_wp2_with fail
   refine hl2.mono ?_
   rintro e w3 ⟨rfl, hx3⟩
   go_wp2_with fail
   go_ret
   exact ⟨rfl, hx02.trans hx3⟩
  have hbi : ¬ (3000 : Int) < (s.size : Int) + (rm.size : Int) := by omega
  replace hrow := Lib.hid hrow
  go_wp2_with fail
  go_loopw [13] (fun v13 wr => ∃ i : Nat, i ≤ rm.size ∧ v13 = .int .i64 (i : Int) ∧ wr = w2 ∧ Hid (∀ k, k < i → (byteAt rm k).toNat ≠ 10)) (fun v13 _ => rm.size - (intOf v13).toNat)
  case atStart => exact ⟨0, by omega, rfl, rfl, Lib.hid (fun k h => by omega)⟩
  case round =>
   obtain ⟨i, hi, rfl, hw, hall⟩ := hrel
   replace hw := hw.symm
   subst hw
   by_cases hir : i < rm.size
   ·have hii : (i : Int) < (rm.size : Int) := by omega
    have hix := fun W => ixB rm i hir W
    obtain ⟨c, hc⟩ : ∃ z, Hid ((byteAt rm i).toNat = z) := ⟨_, Lib.hid rfl⟩
    simp only [hc.out] at hix
    by_cases hc10 : c = 10
    ·subst hc10
     clear hrow hall hc
     go_wp2_with fail
     refine hl2.mono ?_
     rintro e w3 ⟨rfl, hx3⟩
     go_wp2_with fail
     go_ret
     exact ⟨rfl, hx02.trans hx3⟩
    ·have hcb : ((c : Int) == 10) = false := by simp; omega
     have hall' : Hid (∀ k, k < i + 1 → (byteAt rm k).toNat ≠ 10) := Lib.hid (fun k hk => by
      rcases Nat.lt_or_ge k i with h | h
      ·exact hall.out k h
      ·obtain rfl : k = i := by omega
       rw [hc.out]; exact hc10)
     clear hrow hall hc
     go_wp2_with fail
     go_roundw
     case rel => exact ⟨i + 1, by omega, by go_num, trivial, hall'⟩
     case measure => simp [intOf] <;> omega
   ·obtain rfl : i = rm.size := by omega
    have hii : ¬ (rm.size : Int) < (rm.size : Int) := by omega
    obtain ⟨j, hj⟩ : ∃ z, Hid (k0 % n = z) := ⟨_, Lib.hid rfl⟩
    have hjn : j < n := by rw [← hj.out]; exact Nat.mod_lt _ hn0
    have hrem1 : Int.tmod (k0 : Int) (n : Int) = (j : Int) := by rw [← hj.out]; rfl
    have hrem2 : (k0 : Int) % (n : Int) = (j : Int) := by rw [← hj.out]; rfl
    have hjnI : (j : Int) < (n : Int) := by omega
    have hjl : j < (toks s).length := by rw [hn.out]; exact hjn
    obtain ⟨tt, htt⟩ : ∃ z, Hid ((toks s)[j]'hjl = z) := ⟨_, Lib.hid rfl⟩
    have hget : (toks s)[j]? = some tt := by rw [List.getElem?_eq_getElem hjl, htt.out]
    have hcell : w2.cell? ⟨g, j * 3 + 2, none⟩ = some (.int .i64 (tt.a : Int)) := by
     refine hrow.out _ _ ?_
     have h3 := cellsN (toks s) j tt hget
     exact h3
    have hal : tt.a ≤ s.size := tok_le s j tt hget
    have hform := hfi.out tt.a hal hall.out j tt hget rfl (by simp only [List.length_cons, List.length_append, size_list, List.length_nil]; omega) (by trivial)
    obtain ⟨at_, hat⟩ : ∃ z, Hid (tt.a = z) := ⟨_, Lib.hid rfl⟩
    rw [hat.out] at hcell hal hform
    have hlz : (longP s rm at_).size ≤ 140737488351232 := by
     rw [← hat.out, (long_ins s rm tt.a (by rw [hat.out]; exact hal) hall.out).size]
     simp only [List.length_cons, List.length_append, size_list, List.length_nil]
     omega
    have htz : t.size ≤ 140737488351232 := by
     have h3 := form_len s
     rw [hF.out] at h3
     have h4 : t.data.toList.length = t.size := size_list t
     simp only at h3
     omega
    have hok1 : okP s = true := by unfold okP; rw [hF.out]; rfl
    have hX1 := hashP_len s
    have hXe : hashP (longP s rm at_) = hashP s := by unfold hashP; rw [hform, hF.out]
    have hok2 : okP (longP s rm at_) = true := by unfold okP; rw [hform]; rfl
    have hft : formP t = (t, 0, 0) := hfa.out (by trivial)
    obtain ⟨LG, hLG⟩ : ∃ z, Hid (longP s rm at_ = z) := ⟨_, Lib.hid rfl⟩
    have hlg := hLG.out
    unfold longP at hlg
    rw [hLG.out] at hform hlz hXe hok2
    obtain ⟨X, hX⟩ : ∃ z, Hid (hashP s = z) := ⟨_, Lib.hid rfl⟩
    rw [hX.out] at hX1 hXe
    have hc1 := fun W (hW : Ext w W) => cText_any LG hlz W (hwd.ext hW) (hpow.ext hW)
    have hc2 := fun W (hW : Ext w W) => Print_any s hs W (hwd.ext hW) (hpow.ext hW) (htb.ext hW)
    have hc3 := fun W (hW : Ext w W) => Print_any LG hlz W (hwd.ext hW) (hpow.ext hW) (htb.ext hW)
    have hc4 := fun W (hW : Ext w W) => cText_any t htz W (hwd.ext hW) (hpow.ext hW)
    simp only [hform] at hc1
    simp only [hX.out, hok1] at hc2
    simp only [hXe, hok2] at hc3
    simp only [hft] at hc4
    have hEq : ∀ w, (Op.equalIn 10000 23 (.agg (u8s X).toArray) (.agg (u8s X).toArray)).run Tryz.prog w = .ok true w := fun w => by rw [eq_sum X X hX1 hX1]; simp
    have htt2 : (t.toList == t.toList) = true := by simp
    replace hc1 := Lib.hid hc1
    replace hc2 := Lib.hid hc2
    replace hc3 := Lib.hid hc3
    replace hc4 := Lib.hid hc4
    replace hEq := Lib.hid hEq
    clear hrow hall hfi hform hft hXe hok1 hok2 hfa hyw hw0 hget
    have halI : (at_ : Int) ≤ (s.size : Int) := by omega
    have z1 : (s.extract 0 at_).size ≤ 4096 := by rw [ByteArray.size_extract]; omega
    have z2 : (s.extract at_ s.size).size ≤ 4096 := by rw [ByteArray.size_extract]; omega
    have z3 : (⟨#[32, 35]⟩ : ByteArray).size = 2 := rfl
    have z4 : (⟨#[10, 9]⟩ : ByteArray).size = 2 := rfl
    have ad1 := fun W => addS (s.extract 0 at_) ⟨#[32, 35]⟩ (by omega) W
    have ad2 := fun W => addS (s.extract 0 at_ ++ ⟨#[32, 35]⟩) rm (by rw [ByteArray.size_append]; omega) W
    have ad3 := fun W => addS ((s.extract 0 at_ ++ ⟨#[32, 35]⟩) ++ rm) ⟨#[10, 9]⟩ (by rw [ByteArray.size_append, ByteArray.size_append]; omega) W
    have ad4 := fun W => addS (((s.extract 0 at_ ++ ⟨#[32, 35]⟩) ++ rm) ++ ⟨#[10, 9]⟩) (s.extract at_ s.size) (by rw [ByteArray.size_append, ByteArray.size_append, ByteArray.size_append]; omega) W
    clear z1 z2 z3 z4
    go_wp2_with fail
    refine Reg.startE (by kernel_rfl) ?_
    iterate 12 ((first | refine Reg.tn ?_ | refine Reg.sn ?_); (try simp only [Reg.nn]))
    refine Reg.fin (by kernel_rfl) (fun W hW => ?_)
    have hxW := hx02.trans hW
    have hd1 := hc1.out W hxW
    clear hlg hcell
    go_wp2_with fail
    refine hd1.mono ?_
    rintro e w3 ⟨rfl, hx3⟩
    have hx03 := hxW.trans hx3
    have hd2 := hc2.out w3 hx03
    clear hd1
    go_wp2_with fail
    refine hd2.mono ?_
    rintro e w4 ⟨rfl, hx4⟩
    have hx04 := hx03.trans hx4
    have hzN := Blk.new w4 z32 23
    have hzF := sumX_cells X hX1 hzN
    have hxF : Ext w4 ((w4.alloc (.cells z32 23)).setCells w4.heap.size 0 (u8s X)) := Ext_sets (Nat.le_refl _) _ 0 ((Ext.refl w4).alloc _)
    have hd3 := hc3.out _ (hx04.trans hxF)
    clear hd2
    go_wp2_with (refine wpList_store_mid rfl 23 (.tmp 19) (.tmp 98) rfl w4.heap.size 0 (u8s X).toArray rfl rfl (sumX_there hzN X hX1) (sumX_info _ hX1) (all_oneCell_toArray (u8s_one _)) ?_)
    refine hd3.mono ?_
    rintro e w5 ⟨rfl, hx5⟩
    have hz5 := hzF.ext hx5
    have hx05 := (hx04.trans hxF).trans hx5
    clear hzN hzF hxF hx5 hd3
    have hzN := Blk.new w5 z32 23
    have hzG := sumX_cells X hX1 hzN
    have hxG : Ext w5 ((w5.alloc (.cells z32 23)).setCells w5.heap.size 0 (u8s X)) := Ext_sets (Nat.le_refl _) _ 0 ((Ext.refl w5).alloc _)
    have hd4 := hc4.out _ (hx05.trans hxG)
    go_wp2_with (refine wpList_store_mid rfl 23 (.tmp 21) (.tmp 103) rfl w5.heap.size 0 (u8s X).toArray rfl rfl (sumX_there hzN X hX1) (sumX_info _ hX1) (all_oneCell_toArray (u8s_one _)) ?_)
    refine hd4.mono ?_
    rintro e w6 ⟨rfl, hx6⟩
    have hx06 := (hx05.trans hxG).trans hx6
    have hzX := (hz5.ext hxG).ext hx6
    have hzY := hzG.ext hx6
    clear hzN hzG hxG hx6 hz5 hd4
    obtain ⟨p1, hp1⟩ : ∃ z, Hid (w4.heap.size = z) := ⟨_, rfl⟩
    obtain ⟨p2, hp2⟩ : ∃ z, Hid (w5.heap.size = z) := ⟨_, rfl⟩
    rw [hp1.out] at hzX
    rw [hp2.out] at hzY
    rw [hp1.out, hp2.out]
    have hld1 : ∀ j v, (u8s X)[j]? = some v → w6.cell? ⟨p1, 0 + j, none⟩ = some v := fun j v hj => by rw [Nat.zero_add, hzX.cell j, List.getElem?_toArray, hj]
    have hld2 : ∀ j v, (u8s X)[j]? = some v → w6.cell? ⟨p2, 0 + j, none⟩ = some v := fun j v hj => by rw [Nat.zero_add, hzY.cell j, List.getElem?_toArray, hj]
    have hty : (Tryz.prog.info? 23).map (·.size) = some (u8s X).length := by rw [u8s_length, hX1]; kernel_rfl
    have hl6 := hli.out w6 hx06
    have hq6 := hEq.out w6
    go_wp2_with (first
     | refine loadG rfl 23 (.tmp 19) rfl p1 0 rfl (u8s X) (.array 32 5) hld1 (by kernel_rfl) rfl hty ?_
     | refine loadG rfl 23 (.tmp 21) rfl p2 0 rfl (u8s X) (.array 32 5) hld2 (by kernel_rfl) rfl hty ?_)
    refine hl6.mono ?_
    rintro e w7 ⟨rfl, hx7⟩
    go_wp2_with fail
    go_ret
    exact ⟨rfl, hx06.trans hx7⟩
 ·have hyb : ((y : Int) != 0) = true := by simpa using hy
  have hsl : ∃ A m c, v = .slice A m c := by
   rcases hcase with ⟨_, rfl⟩ | ⟨_, _, _, g, cap, rfl, _⟩
   ·exact ⟨_, _, _, rfl⟩
   ·exact ⟨_, _, _, rfl⟩
  obtain ⟨A, m, c, rfl⟩ := hsl
  clear hcase
  go_wp2_with fail
  refine hl2.mono ?_
  rintro e w3 ⟨rfl, hx3⟩
  go_wp2_with fail
  go_ret
  exact ⟨rfl, hx02.trans hx3⟩
theorem blanksI_any (s rm : ByteArray) (a : Int) (ha : 0 ≤ a ∧ a ≤ 65535) (hs : s.size ≤ 140737488351232) (hrs : rm.size ≤ 140737488351232) (w : World) (hwd : Wd w) (hpow : Pow w) (htb : Tabs w) :
  Calls Tryz.prog 4 #[.string s, .int .u16 a, .string rm] w fun e w' => e = .returned (.bool true) ∧ Ext w w' := by
 obtain ⟨k, rfl⟩ : ∃ k : Nat, a = k := ⟨a.toNat, by omega⟩
 exact blanks_any s rm k (by omega) hs hrs w hwd hpow htb
end Go.Proofs.YtbpfabhlngfciaaGreatDoor.Cn
namespace Go.Proofs.YtbpfabhlngfciaaGreatDoor.Args
open Go.ChangeShapes Go.WideShapes Go.ChangeAt Go.RowKit
open Go.ChangeMaps (open_string shut_string)
open Base
theorem bytes_arg {H : Type} {enc : TypeId × Value → H} {P : Program} {W : World} {base t e : Nat} (hu : P.underlying t = some (.slice e)) (he : P.underlying e = some (.int .u8)) (hc : P.cellsOf e = 1)
  {v : Value} {d : DataW H} {p : List MemPlace} (hv : Value.okWide P W .any base t v) (h : DataW.Trod enc P W 0 (fun _ => true) true t v d p) :
  ∃ A n c l, v = .slice A n c ∧ l.length = n ∧ Rb W A l ∧ n ≤ c ∧ c ≤ maxLen ∧ (A = none → c = 0) ∧ ((d = .nil ∧ n = 0) ∨ ∃ el sp, d = .slice el sp ∧ el.length = n ∧ sp.length = c - n) := by
 obtain ⟨A, n, c, rfl⟩ := okWide_slice hu hv
 obtain ⟨fuel, hf⟩ := h
 rcases open_ints hu he hc hf with ⟨hcs, hx⟩ | ⟨x, l, c', zs, hcs, _, hl, hm, hz, hx, hcell, hwz⟩
 ·simp [Value.cells] at hcs
  obtain ⟨rfl, rfl, rfl⟩ := hcs
  exact ⟨none, 0, 0, [], rfl, rfl, Rd.nil _ _, Nat.le_refl _, Nat.zero_le _, fun _ => rfl, .inl ⟨by simpa using congrArg Prod.fst hx, rfl⟩⟩
 ·simp [Value.cells] at hcs
  obtain ⟨rfl, rfl, rfl⟩ := hcs
  simp at hz
  have hd := congrArg Prod.fst hx
  simp only at hd
  have hb : ∀ z ∈ zs, 0 ≤ z ∧ z ≤ 255 := fun z hz => by simpa [Lit.wf, IntKind.min, IntKind.max, IntKind.signed, IntKind.bits] using hwz z hz
  refine ⟨some x, n, c, (zs.take n).map fun z => UInt8.ofNat z.toNat, rfl, by simp; omega, ?_, hl, hm, (fun e => by cases e), .inr ⟨_, _, hd, by simp [lits]; omega, by simp [lits]; omega⟩⟩
  intro hne
  have hpos : 0 < n := by
   rcases Nat.eq_zero_or_pos n with h | h
   ·subst h; simp [u8s] at hne
   ·exact h
  obtain ⟨b, off, rfl, hc'⟩ := ints_at hcell (by omega)
  refine ⟨b, off, rfl, fun j u hj => ?_⟩
  have hjl : j < n := by
   rcases Nat.lt_or_ge j n with h | h
   ·exact h
   ·rw [List.getElem?_eq_none (by simp [u8s]; omega)] at hj; cases hj
  have h1 := hc' j (by omega)
  rw [h1]
  have h2 : zs[j]? = some zs[j] := List.getElem?_eq_getElem (by omega)
  have h3 := hb zs[j] (List.getElem_mem _)
  simp only [u8s, List.getElem?_map, List.getElem?_take, hjl, if_true, h2, Option.map_some, Option.some.injEq] at hj
  rw [← hj]
  simp only [List.getD, h2, Option.getD_some, UInt8.toNat_ofNat']
  congr 1
  congr 1
  omega
theorem bytes_reach {H : Type} {P : Program} {ts : List TypeId} {ds : List (DataW H)} (h : (DataW.weightsEach P ts ds).all (· ≤ reachBytes) = true) {j t e : Nat} {d : DataW H} {n c : Nat}
  (ht : ts[j]? = some t) (hd : ds[j]? = some d) (hu : P.underlying t = some (.slice e)) (hb : P.bytesOf e = 1) (hw : (d = .nil ∧ n = 0) ∨ ∃ el sp, d = .slice el sp ∧ el.length = n ∧ sp.length = c - n) : n ≤ 140737488351232 := by
 rcases hw with ⟨_, rfl⟩ | ⟨el, sp, rfl, h1, h2⟩
 ·omega
 ·have := sized_slice h ht hd hu
  rw [hb] at this
  simp only [reachBytes] at this
  omega
theorem string_reach {H : Type} {P : Program} {ts : List TypeId} {ds : List (DataW H)} (h : (DataW.weightsEach P ts ds).all (· ≤ reachBytes) = true) {j t : Nat} {s : ByteArray}
  (ht : ts[j]? = some t) (hd : ds[j]? = some (.lit (.string s.data.toList))) : s.size ≤ 140737488351232 := by
 have := sized_string h ht hd
 simp only [reachBytes] at this
 have e : s.data.toList.length = s.size := Array.length_toList
 omega
theorem bulk_le {H : Type} {l : List (DataW H)} (hk : Rows.uptoSmall H l = true) : Rows.uptoBulkAll l ≤ 1048576 := of_decide_eq_true hk
theorem bulk_one {H : Type} (d : DataW H) : 1 ≤ Rows.uptoBulk d := by
 cases d with
 | lit l => cases l <;> simp [Rows.uptoBulk]
 | nil => simp [Rows.uptoBulk]
 | ptr d => simp [Rows.uptoBulk]
 | slice elems spare => simp [Rows.uptoBulk]
 | agg parts => simp [Rows.uptoBulk]
 | iface t d => simp [Rows.uptoBulk]
 | map entries => simp [Rows.uptoBulk]
 | held h => simp [Rows.uptoBulk]
theorem bulk_at {H : Type} {l : List (DataW H)} {b : Nat} (h : Rows.uptoBulkAll l ≤ b) {j : Nat} {d : DataW H} (hd : l[j]? = some d) : Rows.uptoBulk d ≤ b := by
 induction l generalizing j b with
 | nil => simp at hd
 | cons x r ih =>
  simp only [Rows.uptoBulkAll] at h
  cases j with
  | zero => simp only [List.getElem?_cons_zero, Option.some.injEq] at hd; subst hd; omega
  | succ j => simp only [List.getElem?_cons_succ] at hd; have := ih (b := b - Rows.uptoBulk x) (by omega) hd; omega
theorem bulk_length {H : Type} (l : List (DataW H)) : l.length ≤ Rows.uptoBulkAll l := by
 induction l with
 | nil => simp [Rows.uptoBulkAll]
 | cons x r ih => have := bulk_one x; simp only [Rows.uptoBulkAll, List.length_cons]; omega
theorem bytes_bulk {H : Type} {ds : List (DataW H)} {b : Nat} (h : Rows.uptoBulkAll ds ≤ b) {j : Nat} {d : DataW H} {n c : Nat} (hd : ds[j]? = some d)
  (hw : (d = .nil ∧ n = 0) ∨ ∃ el sp, d = .slice el sp ∧ el.length = n ∧ sp.length = c - n) : n ≤ b := by
 have h1 := bulk_at h hd
 rcases hw with ⟨_, rfl⟩ | ⟨el, sp, rfl, h2, h3⟩
 ·omega
 ·have := bulk_length el
  simp only [Rows.uptoBulk] at h1
  omega
theorem string_bulk {H : Type} {ds : List (DataW H)} {b : Nat} (h : Rows.uptoBulkAll ds ≤ b) {j : Nat} {s : ByteArray} (hd : ds[j]? = some (.lit (.string s.data.toList))) : s.size ≤ b := by
 have h1 := bulk_at h hd
 simp only [Rows.uptoBulk] at h1
 have e : s.data.toList.length = s.size := Array.length_toList
 omega
theorem plain_addr {w : World} {a : Addr} {v : Value} (h : w.cell? a = some v) : a = ⟨a.block, a.off, none⟩ := by
 unfold World.cell? at h
 cases hs : a.spot with
 | none => cases a; simp at hs; subst hs; rfl
 | some k => simp [hs] at h; split at h <;> simp at h
theorem Addr.add_zero' (a : Addr) : a.add 0 = a := by simp [Addr.add]
theorem strs_arg {H : Type} {enc : TypeId × Value → H} {P : Program} {W : World} {base t e : Nat} (hu : P.underlying t = some (.slice e)) (he : P.underlying e = some .string) (hc : P.cellsOf e = 1)
  {v : Value} {d : DataW H} {p : List MemPlace} (hv : Value.okWide P W .any base t v) (h : DataW.Trod enc P W 0 (fun _ => true) true t v d p) :
  ∃ A n c l, v = .slice A n c ∧ l.length = n ∧ Rd W A (txs l) ∧ n ≤ c ∧ c ≤ maxLen ∧ (A = none → c = 0) ∧ (∀ s ∈ l, s.size ≤ maxLen) ∧ ((d = .nil ∧ n = 0) ∨ ∃ sp, d = .slice (l.map fun s => .lit (.string s.data.toList)) sp ∧ sp.length = c - n) := by
 obtain ⟨A, n, c, rfl⟩ := okWide_slice hu hv
 obtain ⟨fuel, hf⟩ := h
 rcases open_strings hu he hc hf with ⟨hcs, hx⟩ | ⟨x, l, c', ss, hcs, _, hl, hm, hz, hx, hcell, hws⟩
 ·simp [Value.cells] at hcs
  obtain ⟨rfl, rfl, rfl⟩ := hcs
  exact ⟨none, 0, 0, [], rfl, rfl, Rd.nil _ _, Nat.le_refl _, Nat.zero_le _, fun _ => rfl, by simp, .inl ⟨by simpa using congrArg Prod.fst hx, rfl⟩⟩
 ·simp [Value.cells] at hcs
  obtain ⟨rfl, rfl, rfl⟩ := hcs
  simp at hz
  have hd := congrArg Prod.fst hx
  simp only at hd
  refine ⟨some x, n, c, ss.take n, rfl, by simp; omega, ?_, hl, hm, (fun e => by cases e), (fun s hs => hws s (List.mem_of_mem_take hs)), .inr ⟨_, by rw [hd]; rfl, by rw [← hz]; simp [ChangeShapes.strs]⟩⟩
  intro hne
  have hpos : 0 < ss.length := by
   rcases Nat.eq_zero_or_pos ss.length with h | h
   ·have : ss = [] := List.eq_nil_of_length_eq_zero h
    subst this; simp [txs] at hne
   ·exact h
  obtain ⟨b, o, sp⟩ := x
  have hx0 := plain_addr (hcell 0 hpos)
  rw [Addr.add_zero'] at hx0
  simp only [Addr.mk.injEq, true_and] at hx0
  subst hx0
  refine ⟨b, o, rfl, fun j u hj => ?_⟩
  have hjl : j < n ∧ j < ss.length := by
   have := (List.getElem?_eq_some_iff.1 hj).1
   simp [txs] at this
   omega
  have h1 := hcell j hjl.2
  have h2 : (⟨b, o, none⟩ : Addr).add j = ⟨b, o + j, none⟩ := by
   unfold Addr.add; split <;> simp_all
  rw [← h2, h1]
  simp only [txs, List.getElem?_map, List.getElem?_take, hjl.1, if_true, List.getElem?_eq_getElem hjl.2, Option.map_some, Option.some.injEq] at hj
  rw [← hj]
  simp [List.getD, List.getElem?_eq_getElem hjl.2]
theorem arr2_arg {H : Type} {enc : TypeId × Value → H} {P : Program} {W : World} {base t e : Nat} (hu : P.underlying t = some (.array 2 e)) (he : P.underlying e = some (.int .u32)) (hc : P.cellsOf e = 1) (hc2 : P.cellsOf t = 2)
  {v : Value} {d : DataW H} {p : List MemPlace} (hv : Value.okWide P W .any base t v) (h : DataW.Trod enc P W 0 (fun _ => true) true t v d p) :
  ∃ x y, v = .agg #[.int .u32 x, .int .u32 y] ∧ (0 ≤ x ∧ x ≤ 4294967295) ∧ (0 ≤ y ∧ y ≤ 4294967295) := by
 obtain ⟨cs, rfl, hsz, _⟩ : ∃ cs, v = .agg cs ∧ cs.size = P.cellsOf t ∧ True := by
  unfold Value.okWide at hv
  rw [hu] at hv
  obtain ⟨cs, h1, h2, _⟩ := hv
  exact ⟨cs, h1, h2, trivial⟩
 obtain ⟨c0, c1, rfl⟩ : ∃ c0 c1, cs = #[c0, c1] := by
  rw [hc2] at hsz
  match cs, hsz with
  | ⟨[a, b]⟩, _ => exact ⟨a, b, rfl⟩
 obtain ⟨fuel, hf⟩ := h
 obtain ⟨xs, m, _, _, _, hxl, hx⟩ := DataW.trod_array hu hf
 have h0 := hx 0 (by omega)
 have h1 := hx 1 (by omega)
 rw [hc] at h0 h1
 simp only [Value.cells, Nat.zero_mul, Nat.one_mul, List.drop_zero, List.drop_succ_cons, List.take_succ_cons, List.take_zero] at h0 h1
 match xs, hxl with
 | [y0, y1], _ =>
  obtain ⟨a, e0, _, wa⟩ := DataW.trod_int he h0
  obtain ⟨b, e1, _, wb⟩ := DataW.trod_int he h1
  simp only [List.cons.injEq, and_true] at e0 e1
  subst e0 e1
  exact ⟨a, b, rfl, by simpa [Lit.wf, IntKind.min, IntKind.max, IntKind.signed, IntKind.bits] using wa, by simpa [Lit.wf, IntKind.min, IntKind.max, IntKind.signed, IntKind.bits] using wb⟩
end Go.Proofs.YtbpfabhlngfciaaGreatDoor.Args
namespace Go.Proofs.YtbpfabhlngfciaaGreatDoor.canonBlanks
open Go.ChangeShapes Go.WideShapes Go.ChangeAt Go.RowKit
open Go.ChangeMaps (open_string shut_string)
open Base Args
theorem own : ownKnob Tryz.prog.godebug = none := by kernel_rfl
theorem laidOut : laidOutB Tryz.prog = true := by kernel_rfl
theorem laid_met (os : Os) : laidMet Tryz.prog Rows.canonBlanksRow.laid ((Cn.laidWorld os).forCall (fun _ _ => 0) ⟨#[], #[.string ByteArray.empty, .int .u16 0, .string ByteArray.empty], []⟩).memory :=
 laidMet_of_run' 8 (by kernel_rfl) (by kernel_rfl)
theorem reads (os : Os) {H : Type} (enc : TypeId × Value → H) : ∃ places, DataW.whole enc Tryz.prog ((Cn.laidWorld os).forCall (fun _ _ => 0) ⟨#[], #[.string ByteArray.empty, .int .u16 0, .string ByteArray.empty], []⟩).memory Tryz.f4.params.toList Rows.canonBlanksSpec.vars false (#[.string ByteArray.empty, .int .u16 0, .string ByteArray.empty] : Array Value).toList 8 = some ([.lit (.string []), .lit (.int .u16 0), .lit (.string [])], [], places) :=
 ⟨[], by kernel_rfl⟩
theorem lifted (os : Os) (started : os.Started) (H : Type) (enc : TypeId × Value → H) (F : Stop.Interp) :
  ReturnsInHanded {} Tryz.checked os 4 .any ((OpenSpec.ofChange Rows.canonBlanksSpec).preRow enc Tryz.prog Tryz.f4 Rows.canonBlanksRow.domain false Rows.canonBlanksRow.laid) (((OpenSpec.ofChange Rows.canonBlanksSpec).at F).post enc Tryz.prog Tryz.f4 false true false false) := by
 obtain ⟨places, hx⟩ := reads os enc
 refine returnsInHanded_of_row (C := Tryz.checked) (s := (OpenSpec.ofChange Rows.canonBlanksSpec)) own started (by kernel_rfl) Tryz.func4
  (witness_row_at (enc := enc) (C := Tryz.checked) false (Cn.laidWorld os) #[.string ByteArray.empty, .int .u16 0, .string ByteArray.empty] rfl (by kernel_rfl) (by kernel_rfl) (by kernel_rfl)
   (OpenSpec.preRow_of_cond 8 hx (by kernel_rfl) (fun k hk => by cases hk) (by kernel_rfl) (laid_met os))) ?_
 intro W base args ds gs before hval0 hW hcnd hk0 hsz0 hL _ _
 have hval : ∀ (j : Nat) t v, Tryz.f4.params[j]? = some t → args[j]? = some v → Value.okWide Tryz.prog W .any base t v := hval0
 have hW' := hW
 obtain ⟨p, q, hAz, hV, rfl, hfz, hnd⟩ := hW
 have hA : DataW.TrodAll enc Tryz.prog W 0 (fun _ => true) true Tryz.f4.params.toList args.toList ds p := hAz
 have hsz : (DataW.weightsEach Tryz.prog (Tryz.f4.params.toList ++ Rows.canonBlanksSpec.plain.varTypes Tryz.prog) (ds ++ gs)).all (· ≤ reachBytes) = true := hsz0
 rw [Tryz.params4] at hA hval hsz
 obtain ⟨v0, vs0, d0, ds0, p0, q0, hargs, rfl, rfl, h0, r0⟩ := trodAll_cons hA
 obtain ⟨v1, vs1, d1, ds1, p1, q1, rfl, rfl, rfl, h1, r1⟩ := trodAll_cons r0
 obtain ⟨v2, vs2, d2, ds2, p2, q2, rfl, rfl, rfl, h2, r2⟩ := trodAll_cons r1
 obtain ⟨rfl, rfl, rfl⟩ := trodAll_nil r2
 obtain rfl : args = #[v0, v1, v2] := by cases args; simp_all
 obtain ⟨rfl, rfl⟩ := trodVars_none hV
 have k0 := h0
 have lt0 : ∀ x ∈ p0, x.block < W.heap.size := by obtain ⟨m, hm⟩ := k0; exact DataW.trod_lt m _ _ _ hm
 obtain ⟨s0, rfl, rfl, rfl, hs0⟩ := open_string Tryz.underlying9 (hval 0 9 v0 rfl rfl) h0
 have hz0 : s0.size ≤ 140737488351232 := string_reach hsz (j := 0) (t := 9) rfl rfl
 obtain ⟨a1, rfl, rfl, rfl, w1⟩ := open_int Tryz.underlying29 (hval 1 29 v1 rfl rfl) h1
 have hi1 : 0 ≤ a1 ∧ a1 ≤ 65535 := by simpa [Lit.wf, IntKind.min, IntKind.max, IntKind.signed, IntKind.bits] using w1
 have k2 := h2
 have lt2 : ∀ x ∈ p2, x.block < W.heap.size := by obtain ⟨m, hm⟩ := k2; exact DataW.trod_lt m _ _ _ hm
 obtain ⟨s2, rfl, rfl, rfl, hs2⟩ := open_string Tryz.underlying9 (hval 2 9 v2 rfl rfl) h2
 have hz2 : s2.size ≤ 140737488351232 := string_reach hsz (j := 2) (t := 9) rfl rfl
 clear hAz hval0
 refine (Cn.blanksI_any s0 s2 a1 hi1 hz0 hz2 W (Cn.tabs8 hL).1 (Cn.tabs8 hL).2.1 (Cn.tabs8 hL).2.2).mono fun e W' ⟨he, bel⟩ => ?_
 have bel : Below W.heap.size W W' := bel
 subst he
 exact ⟨_, rfl, _, _, _, [], _, [], hW', trodAll_mk1 (shut_bool Tryz.underlying4 _), (trodAll_cons_mk (Below.trod laidOut (by kernel_rfl) (of_decide_eq_true (by kernel_rfl)) k0 bel lt0) (trodAll_cons_mk (shut_int Tryz.underlying29 w1) (trodAll_cons_mk (Below.trod laidOut (by kernel_rfl) (of_decide_eq_true (by kernel_rfl)) k2 bel lt2) trodAll_mk0))), rfl, bel.frame _, fun h => by cases h⟩
theorem said : Rows.CanonBlanksSaid :=
 OpenClaim.holds_of_cond 4 Tryz.f4 rfl rfl rfl rfl rfl rfl rfl ⟨rfl, rfl, rfl, rfl, rfl⟩ rfl rfl rfl rfl rfl (by kernel_rfl) Tryz.func4 (by kernel_rfl)
  (of_decide_eq_true (by kernel_rfl)) (by unfold Func.isWrapper; first | (rw [if_pos (by decide +kernel)]; kernel_rfl) | (rw [if_neg (by decide +kernel)]; exact ⟨rfl, rfl⟩))
  (fun os started H enc _ F => by rw [OpenClaim.pre_eq_preRow]; exact lifted os started H enc F)
theorem plain (f : FuncId) (fn : Func) (hf : Tryz.pinned.checked.prog.funcNamed "suffragan/suffraganlaw08.CanonBlanks" = some f) (hfn : Tryz.pinned.checked.prog.funcs[f]? = some fn) :
  true = Tryz.pinned.checked.prog.looks [] ∧ ∀ (j : Nat) t, fn.params[j]? = some t → Tryz.pinned.checked.prog.wantsStandIn t = false := by
 obtain rfl : f = 4 := Option.some.inj ((show Tryz.prog.funcNamed "suffragan/suffraganlaw08.CanonBlanks" = some 4 by kernel_rfl).symm.trans hf) |>.symm
 obtain rfl : fn = Tryz.f4 := (Option.some.inj (Tryz.func4.symm.trans hfn)).symm
 refine ⟨by kernel_rfl, fun j t ht => ?_⟩
 rw [Tryz.params4] at ht
 have hm := Array.mem_of_getElem? ht
 simp only [Array.mem_def, List.mem_cons, List.mem_nil_iff, or_false] at hm
 rcases hm with rfl | rfl | rfl
 ·exact (show Tryz.prog.wantsStandIn 9 = false by kernel_rfl)
 ·exact (show Tryz.prog.wantsStandIn 29 = false by kernel_rfl)
 ·exact (show Tryz.prog.wantsStandIn 9 = false by kernel_rfl)
theorem proved : Rows.CanonBlanksCardSaid :=
 Claim7.holds_tied_plain_at .later [] _ _ _ _ said (fun _ h => by cases h) (by kernel_rfl) (fun _ h => by cases h) canonBlanks_row_tie rfl ⟨rfl, rfl⟩ (by kernel_rfl) rfl plain (by kernel_rfl)
#print axioms proved
end Go.Proofs.YtbpfabhlngfciaaGreatDoor.canonBlanks
