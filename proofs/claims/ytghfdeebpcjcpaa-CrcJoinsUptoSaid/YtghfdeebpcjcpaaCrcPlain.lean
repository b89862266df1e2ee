/- Plain law: a CRC of 32 bits by half bytes is the one by bits; it is linear. No program in sight. -/
import Derived.Below
namespace Go.Proofs.Ytghfdeebpcjcpaa.CrcP

def half1 (s : BitVec 32) : BitVec 32 := if s.msb then (s <<< 1) ^^^ 0x04c11db7#32 else s <<< 1
def halfN : Nat → BitVec 32 → BitVec 32
  | 0, s => s
  | n + 1, s => half1 (halfN n s)

theorem half1_zero : half1 0#32 = 0#32 := by decide
theorem halfN_zero (n : Nat) : halfN n 0#32 = 0#32 := by
  induction n with
  | zero => rfl
  | succ n ih => rw [halfN, ih, half1_zero]

theorem half1_xor (a b : BitVec 32) : half1 (a ^^^ b) = half1 a ^^^ half1 b := by
  unfold half1
  rw [BitVec.msb_xor, BitVec.shiftLeft_xor_distrib]
  generalize a <<< 1 = x
  generalize b <<< 1 = y
  generalize (79764919#32 : BitVec 32) = p
  have h1 : x ^^^ p ^^^ (y ^^^ p) = x ^^^ y := by
    rw [BitVec.xor_assoc, ← BitVec.xor_assoc p y p, BitVec.xor_comm p y, BitVec.xor_assoc y p p]; simp
  have h2 : x ^^^ p ^^^ y = x ^^^ y ^^^ p := by rw [BitVec.xor_assoc, BitVec.xor_comm p y, ← BitVec.xor_assoc]
  cases a.msb <;> cases b.msb <;> simp [h1, h2, BitVec.xor_assoc]

theorem halfN_xor (n : Nat) (a b : BitVec 32) : halfN n (a ^^^ b) = halfN n a ^^^ halfN n b := by
  induction n with
  | zero => rfl
  | succ n ih => rw [halfN, ih, half1_xor]; rfl

theorem halfN_add (m n : Nat) (s : BitVec 32) : halfN (m + n) s = halfN m (halfN n s) := by
  induction m with
  | zero => simp [halfN]
  | succ m ih => rw [Nat.succ_add, halfN, ih]; rfl

/-- a word whose top n bits are not set is shifted -/
theorem half1_small (s : BitVec 32) (h : s.toNat < 2 ^ 31) : half1 s = s <<< 1 := by
  unfold half1
  rw [if_neg]
  rw [BitVec.msb_eq_decide]
  simp
  omega

theorem halfN_small (n : Nat) (hn : n ≤ 32) (s : BitVec 32) (h : s.toNat < 2 ^ (32 - n)) : halfN n s = s <<< n := by
  induction n with
  | zero => simp [halfN]
  | succ n ih =>
    have e : 32 - n = (32 - (n + 1)) + 1 := by omega
    have h2 : s.toNat < 2 ^ (32 - n) := by rw [e, Nat.pow_succ]; omega
    rw [halfN, ih (by omega) h2, half1_small, ← BitVec.shiftLeft_add]
    have h3 : s.toNat * 2 ^ n < 2 ^ 31 := by
      have e2 : (2 : Nat) ^ 31 = 2 ^ (32 - (n + 1)) * 2 ^ n := by rw [← Nat.pow_add]; congr 1; omega
      rw [e2]
      exact Nat.mul_lt_mul_of_pos_right h (Nat.two_pow_pos n)
    rw [BitVec.toNat_shiftLeft, Nat.shiftLeft_eq, Nat.mod_eq_of_lt (by omega)]
    exact h3

/-- a word's top n bits, and the others -/
theorem parted (n : Nat) (s : BitVec 32) : s = ((s >>> (32 - n)) <<< (32 - n)) ^^^ (s &&& BitVec.ofNat 32 (2 ^ (32 - n) - 1)) := by
  apply BitVec.eq_of_getLsbD_eq
  intro i hi
  have hm : (BitVec.ofNat 32 (2 ^ (32 - n) - 1)).getLsbD i = decide (i < 32 - n) := by
    rw [BitVec.getLsbD_ofNat, Nat.testBit_two_pow_sub_one]; simp [hi]
  simp only [BitVec.getLsbD_xor, BitVec.getLsbD_shiftLeft, BitVec.getLsbD_ushiftRight, BitVec.getLsbD_and, hm, hi]
  by_cases h : i < 32 - n
  · simp [h]
  · have e : 32 - n + (i - (32 - n)) = i := by omega
    simp [h, e]

theorem low_lt (n : Nat) (s : BitVec 32) : (s &&& BitVec.ofNat 32 (2 ^ (32 - n) - 1)).toNat < 2 ^ (32 - n) := by
  rw [BitVec.toNat_and, BitVec.toNat_ofNat]
  have h1 := Nat.mod_le (2 ^ (32 - n) - 1) (2 ^ 32)
  have h2 : s.toNat &&& (2 ^ (32 - n) - 1) % 2 ^ 32 ≤ (2 ^ (32 - n) - 1) % 2 ^ 32 := Nat.and_le_right
  have h3 := Nat.two_pow_pos (32 - n)
  omega

theorem low_shift (n : Nat) (s : BitVec 32) : (s &&& BitVec.ofNat 32 (2 ^ (32 - n) - 1)) <<< n = s <<< n := by
  apply BitVec.eq_of_getLsbD_eq
  intro i hi
  have hm : (BitVec.ofNat 32 (2 ^ (32 - n) - 1)).getLsbD (i - n) = decide (i - n < 32 - n) := by
    rw [BitVec.getLsbD_ofNat, Nat.testBit_two_pow_sub_one]
    have : i - n < 32 := by omega
    simp [this]
  simp only [BitVec.getLsbD_shiftLeft, BitVec.getLsbD_and, hm, hi]
  by_cases h : i < n
  · simp [h]
  · have e : i - n < 32 - n := by omega
    simp [h, e]

/-- n bits at a time: by what the top n bits come to, shifted out -/
theorem halfN_eq (n : Nat) (hn : n ≤ 32) (s : BitVec 32) : halfN n s = halfN n ((s >>> (32 - n)) <<< (32 - n)) ^^^ (s <<< n) := by
  have h1 := congrArg (halfN n) (parted n s)
  rw [halfN_xor, halfN_small n hn _ (low_lt n s), low_shift n] at h1
  exact h1

theorem xor_comm3 (a b c : BitVec 32) : a ^^^ b ^^^ c = a ^^^ c ^^^ b := by rw [BitVec.xor_assoc, BitVec.xor_comm b c, ← BitVec.xor_assoc]

/-- the table's step -/
theorem nib (s x : BitVec 32) : (s <<< 4) ^^^ halfN 4 (((s >>> 28) ^^^ x) <<< 28) = halfN 4 (s ^^^ (x <<< 28)) := by
  rw [BitVec.shiftLeft_xor_distrib, halfN_xor, halfN_xor 4 s, halfN_eq 4 (by omega) s, ← BitVec.xor_assoc, BitVec.xor_comm (s <<< 4)]

theorem or_of (i x y : Nat) (h : y < 2 ^ i) : 2 ^ i * x ^^^ y = 2 ^ i * x + y := by
  rw [Nat.two_pow_add_eq_or_of_lt h x]
  apply Nat.eq_of_testBit_eq
  intro k
  rw [Nat.testBit_xor, Nat.testBit_or, Nat.testBit_two_pow_mul]
  by_cases hi : i ≤ k
  · have : y.testBit k = false := Nat.testBit_lt_two_pow (Nat.lt_of_lt_of_le h (Nat.pow_le_pow_right (by omega) hi))
    simp [this]
  · simp [hi]

/-- a byte, by bits -/
def byte1 (s : BitVec 32) (c : UInt8) : BitVec 32 := halfN 8 (s ^^^ (BitVec.ofNat 32 c.toNat <<< 24))
def bytes (s : BitVec 32) : List UInt8 → BitVec 32
  | [] => s
  | c :: l => bytes (byte1 s c) l

/-- a byte, by half bytes -/
def two (s : BitVec 32) (c : UInt8) : BitVec 32 :=
  let t := (s <<< 4) ^^^ halfN 4 (((s >>> 28) ^^^ BitVec.ofNat 32 (c.toNat / 16)) <<< 28)
  (t <<< 4) ^^^ halfN 4 (((t >>> 28) ^^^ BitVec.ofNat 32 (c.toNat % 16)) <<< 28)

theorem halfN_8 (x : BitVec 32) : halfN 8 x = halfN 4 (halfN 4 x) := halfN_add 4 4 x

theorem lowNib (c : Nat) : halfN 4 (BitVec.ofNat 32 (c % 16) <<< 24) = BitVec.ofNat 32 (c % 16) <<< 28 := by
  rw [halfN_small 4 (by omega), ← BitVec.shiftLeft_add]
  rw [BitVec.toNat_shiftLeft, BitVec.toNat_ofNat, Nat.shiftLeft_eq]
  omega

theorem nibs1 (c : Nat) (hc : c < 256) : c / 16 % 2 ^ 32 * 2 ^ 28 % 2 ^ 32 = 2 ^ 28 * (c / 16) := by simp only [Nat.reducePow]; omega
theorem nibs2 (c : Nat) (_hc : c < 256) : c % 16 % 2 ^ 32 * 2 ^ 24 % 2 ^ 32 = c % 16 * 2 ^ 24 := by simp only [Nat.reducePow]; omega
theorem nibs3 (c : Nat) (hc : c < 256) : c % 2 ^ 32 * 2 ^ 24 % 2 ^ 32 = 2 ^ 28 * (c / 16) + c % 16 * 2 ^ 24 := by simp only [Nat.reducePow]; omega
theorem nibs0 (c : Nat) (_hc : c < 256) : c % 16 * 2 ^ 24 < 2 ^ 28 := by simp only [Nat.reducePow]; omega
theorem nibs (c : Nat) (hc : c < 256) : BitVec.ofNat 32 (c / 16) <<< 28 ^^^ BitVec.ofNat 32 (c % 16) <<< 24 = BitVec.ofNat 32 c <<< 24 := by
  apply BitVec.eq_of_toNat_eq
  rw [BitVec.toNat_xor]
  simp only [BitVec.toNat_shiftLeft, BitVec.toNat_ofNat, Nat.shiftLeft_eq]
  rw [nibs1 c hc, nibs2 c hc, nibs3 c hc]
  exact or_of 28 _ _ (nibs0 c hc)

theorem two_eq (s : BitVec 32) (c : UInt8) : two s c = byte1 s c := by
  unfold two byte1
  rw [halfN_8]
  simp only [nib]
  refine congrArg (halfN 4) ?_
  rw [← lowNib, ← halfN_xor]
  refine congrArg (halfN 4) ?_
  rw [BitVec.xor_assoc, nibs _ c.toNat_lt]

theorem bytes_append (s : BitVec 32) (a b : List UInt8) : bytes s (a ++ b) = bytes (bytes s a) b := by
  induction a generalizing s with
  | nil => rfl
  | cons c l ih => exact ih _

theorem byte1_xor (s t : BitVec 32) (c : UInt8) : byte1 (s ^^^ t) c = byte1 s 0 ^^^ byte1 t c := by
  unfold byte1
  rw [← halfN_xor]
  congr 1
  simp [BitVec.xor_assoc]

theorem bytes_xor (s t : BitVec 32) (l : List UInt8) : bytes (s ^^^ t) l = bytes s (List.replicate l.length 0) ^^^ bytes t l := by
  induction l generalizing s t with
  | nil => rfl
  | cons c l ih => simp only [bytes, List.length_cons, List.replicate_succ, byte1_xor, ih]

/-- a sum's four bytes -/
def put (s : BitVec 32) : List UInt8 :=
  [UInt8.ofNat (s.toNat / 2 ^ 24), UInt8.ofNat (s.toNat / 2 ^ 16), UInt8.ofNat (s.toNat / 2 ^ 8), UInt8.ofNat s.toNat]

def take (a b c d : UInt8) : BitVec 32 := BitVec.ofNat 32 (a.toNat * 2 ^ 24 + b.toNat * 2 ^ 16 + c.toNat * 2 ^ 8 + d.toNat)

theorem take_toNat (a b c d : UInt8) : (take a b c d).toNat = a.toNat * 2 ^ 24 + b.toNat * 2 ^ 16 + c.toNat * 2 ^ 8 + d.toNat := by
  have := a.toNat_lt; have := b.toNat_lt; have := c.toNat_lt; have := d.toNat_lt
  rw [take, BitVec.toNat_ofNat]; omega

theorem ofNat_of {n : Nat} {c : UInt8} (h : n % 256 = c.toNat) : UInt8.ofNat n = c := by
  apply UInt8.toNat_inj.1
  rw [UInt8.toNat_ofNat']
  simpa using h

theorem put_take (a b c d : UInt8) : put (take a b c d) = [a, b, c, d] := by
  have := a.toNat_lt; have := b.toNat_lt; have := c.toNat_lt; have := d.toNat_lt
  unfold put
  rw [take_toNat, ofNat_of (c := a) (by omega), ofNat_of (c := b) (by omega), ofNat_of (c := c) (by omega), ofNat_of (c := d) (by omega)]

theorem take_put (s : BitVec 32) : take (UInt8.ofNat (s.toNat / 2 ^ 24)) (UInt8.ofNat (s.toNat / 2 ^ 16)) (UInt8.ofNat (s.toNat / 2 ^ 8)) (UInt8.ofNat s.toNat) = s := by
  apply BitVec.eq_of_toNat_eq
  rw [take_toNat]
  simp only [UInt8.toNat_ofNat']
  have := s.isLt
  omega

theorem put_inj {s t : BitVec 32} (h : put s = put t) : s = t := by
  simp only [put, List.cons.injEq, and_true] at h
  rw [← take_put s, ← take_put t, h.1, h.2.1, h.2.2.1, h.2.2.2]

/-- one byte of a sum, fed to it, goes out -/
theorem byte1_top (s : BitVec 32) : byte1 s (UInt8.ofNat (s.toNat / 2 ^ 24)) = s <<< 8 := by
  unfold byte1
  have e : BitVec.ofNat 32 (UInt8.ofNat (s.toNat / 2 ^ 24)).toNat <<< 24 = (s >>> (32 - 8)) <<< (32 - 8) := by
    apply BitVec.eq_of_toNat_eq
    simp only [UInt8.toNat_ofNat', BitVec.toNat_shiftLeft, BitVec.toNat_ofNat, BitVec.toNat_ushiftRight, Nat.shiftLeft_eq, Nat.shiftRight_eq_div_pow]
    have := s.isLt
    omega
  rw [e]
  have h := parted 8 s
  have h2 : s ^^^ ((s >>> (32 - 8)) <<< (32 - 8)) = s &&& BitVec.ofNat 32 (2 ^ (32 - 8) - 1) := by
    conv => lhs; arg 1; rw [h]
    rw [xor_comm3]; simp
  rw [h2, halfN_small 8 (by omega) _ (low_lt 8 s), low_shift 8]

/-- what ends with its sum has the sum nought -/
theorem bytes_put (s : BitVec 32) : bytes s (put s) = 0#32 := by
  have hs := s.isLt
  have step : ∀ (t : BitVec 32) (c : UInt8), t.toNat / 2 ^ 24 % 256 = c.toNat → byte1 t c = t <<< 8 := by
    intro t c h
    rw [← ofNat_of h]; exact byte1_top t
  simp only [put, bytes]
  have n1 : (s <<< 8).toNat = s.toNat * 2 ^ 8 % 2 ^ 32 := by rw [BitVec.toNat_shiftLeft, Nat.shiftLeft_eq]
  have n2 : (s <<< 8 <<< 8).toNat = s.toNat * 2 ^ 16 % 2 ^ 32 := by rw [BitVec.toNat_shiftLeft, Nat.shiftLeft_eq, n1]; omega
  have n3 : (s <<< 8 <<< 8 <<< 8).toNat = s.toNat * 2 ^ 24 % 2 ^ 32 := by rw [BitVec.toNat_shiftLeft, Nat.shiftLeft_eq, n2]; omega
  rw [step s _ (by rw [UInt8.toNat_ofNat']), step (s <<< 8) _ (by rw [UInt8.toNat_ofNat', n1]; omega), step (s <<< 8 <<< 8) _ (by rw [UInt8.toNat_ofNat', n2]; omega),
    step (s <<< 8 <<< 8 <<< 8) _ (by rw [UInt8.toNat_ofNat', n3]; omega)]
  apply BitVec.eq_of_toNat_eq
  rw [BitVec.toNat_shiftLeft, Nat.shiftLeft_eq, n3]
  simp
  omega

def all1 : BitVec 32 := 0xffffffff#32
/-- the sum of "123456789" -/
theorem lives : bytes all1 [49, 50, 51, 52, 53, 54, 55, 56, 57] = 0x0376e6e7#32 := by decide +kernel

end Go.Proofs.Ytghfdeebpcjcpaa.CrcP
