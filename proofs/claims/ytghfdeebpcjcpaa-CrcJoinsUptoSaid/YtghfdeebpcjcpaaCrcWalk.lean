import Derived.Test.YtghfdeebpcjcpaaBase
import Derived.Test.YtghfdeebpcjcpaaCrcPlain
namespace Go.Proofs.Ytghfdeebpcjcpaa.CrcW
open Go.ChangeShapes Go.WideShapes Go.ChangeAt Go.RowKit
open CrcP Base
set_option linter.unusedVariables false

/-- a number as a word -/
def W32 (x : Int) : BitVec 32 := BitVec.ofInt 32 x
theorem W32_toNat (s : BitVec 32) : W32 (s.toNat : Int) = s := by simp [W32]
theorem toNat_W32 {x : Int} (h0 : 0 ≤ x) (h1 : x ≤ 4294967295) : ((W32 x).toNat : Int) = x := by
  obtain ⟨n, rfl⟩ := Int.eq_ofNat_of_zero_le h0
  simp [W32]; omega

theorem xor_u8 (a b : Nat) (ha : a < 256) (hb : b < 256) : bits BinOp.xor IntKind.u8 (a : Int) (b : Int) = ((a ^^^ b : Nat) : Int) := u8_xor_nat a b ha hb
theorem xor_u32 (a b : BitVec 32) : bits BinOp.xor IntKind.u32 (a.toNat : Int) (b.toNat : Int) = ((a ^^^ b).toNat : Int) := by
  rw [u32_xor_nat _ _ a.isLt b.isLt, BitVec.toNat_xor]

theorem xor_lt16 {a b : Nat} (ha : a < 16) (hb : b < 16) : a ^^^ b < 16 := Nat.xor_lt_two_pow (n := 4) ha hb

theorem top_bit (x : BitVec 32) : bits BinOp.and IntKind.u32 (x.toNat : Int) 2147483648 = if x.msb then 2147483648 else 0 := by
  have h := u32_and_nat x.toNat 2147483648 x.isLt (by omega)
  have e : x.toNat &&& 2147483648 = if x.msb then 2147483648 else 0 := by
    rw [BitVec.msb_eq_getLsbD_last, BitVec.getLsbD]
    apply Nat.eq_of_testBit_eq
    intro i
    have ht : Nat.testBit 2147483648 i = decide (31 = i) := by rw [show (2147483648 : Nat) = 2 ^ 31 from rfl, Nat.testBit_two_pow]
    rw [Nat.testBit_and, ht]
    by_cases hi : 31 = i
    · subst hi
      cases hx : x.toNat.testBit 31 <;> rfl
    · cases hx : x.toNat.testBit (32 - 1)
      · simp [hi]
      · simp [hi, ht]
  rw [e] at h
  rw [show ((2147483648 : Int)) = ((2147483648 : Nat) : Int) from rfl, h]
  cases x.msb <;> rfl

/-- the walk's spelling of one bit's step -/
theorem bit_yes (x : BitVec 32) (h : (bits BinOp.and IntKind.u32 (x.toNat : Int) 2147483648 != 0) = true) :
    bits BinOp.xor IntKind.u32 ((x.toNat : Int) * 2 % 4294967296) 79764919 = ((half1 x).toNat : Int) := by
  have e1 : ((x <<< 1).toNat : Int) = (x.toNat : Int) * 2 % 4294967296 := by
    rw [BitVec.toNat_shiftLeft, Nat.shiftLeft_eq]; simp only [Nat.reducePow]; omega
  have hm : x.msb = true := by
    rw [top_bit] at h
    cases hx : x.msb
    · rw [hx] at h; simp at h
    · rfl
  unfold half1
  rw [if_pos hm, ← e1]
  exact xor_u32 (x <<< 1) 0x04c11db7#32
theorem bit_no (x : BitVec 32) (h : (bits BinOp.and IntKind.u32 (x.toNat : Int) 2147483648 != 0) = false) :
    ((x.toNat : Int) * 2 % 4294967296) = ((half1 x).toNat : Int) := by
  have e1 : ((x <<< 1).toNat : Int) = (x.toNat : Int) * 2 % 4294967296 := by
    rw [BitVec.toNat_shiftLeft, Nat.shiftLeft_eq]; simp only [Nat.reducePow]; omega
  have hm : x.msb = false := by
    rw [top_bit] at h
    cases hx : x.msb
    · rfl
    · rw [hx] at h; simp at h
  unfold half1
  rw [hm, ← e1]
  rfl

set_option maxHeartbeats 400000 in
theorem half_any (x : Int) (h0 : 0 ≤ x) (h1 : x ≤ 4294967295) (w : World) :
    Calls Try.prog 19 #[.int .u32 x] w fun e w' => e = .returned (.int .u32 ((halfN 4 (W32 x)).toNat : Int)) ∧ w = w' := by
  have HX := Lib.hid (toNat_W32 h0 h1)
  go_enter Try.func19, Try.ntmps19
  go_wp2
  go_loop [0, 3] (fun s' k => ∃ n : Nat, n ≤ 4 ∧ k = .int .i64 n ∧ s' = .int .u32 ((halfN n (W32 x)).toNat : Int)) (fun _ k => 4 - (intOf k).toNat)
  case atStart => exact ⟨0, by omega, rfl, by rw [show halfN 0 (W32 x) = W32 x from rfl, HX.out]⟩
  case round =>
    obtain ⟨n, hn, rfl, rfl⟩ := hrel
    by_cases hlt : n < 4
    · go_wp2
      all_goals
        go_round
        case rel => exact ⟨n + 1, by omega, by go_num, by first | rw [bit_yes _ (by assumption)]; rfl | rw [bit_no _ (by assumption)]; rfl⟩
        case measure => simp [intOf]; omega
    · obtain rfl : n = 4 := by omega
      go_wp2
      go_ret
      exact ⟨rfl, rfl⟩

/-- the table, filled so far -/
def tabv (n : Nat) : Array Value := Array.ofFn (n := 16) fun i => .int .u32 (if i.val < n then ((halfN 4 (BitVec.ofNat 32 i <<< 28)).toNat : Int) else 0)
theorem tabv_at (n i : Nat) (h : i < 16) : (tabv n)[i]? = some (.int .u32 (if i < n then ((halfN 4 (BitVec.ofNat 32 i <<< 28)).toNat : Int) else 0)) := by
  simp [tabv, h]
theorem tabv_set (n : Nat) (h : n < 16) : (tabv n).setIfInBounds n (.int .u32 ((halfN 4 (BitVec.ofNat 32 n <<< 28)).toNat : Int)) = tabv (n + 1) := by
  apply Array.ext_getElem?
  intro i
  rw [Array.getElem?_setIfInBounds]
  by_cases hi : i < 16
  · by_cases e : n = i
    · subst e; simp [h, tabv]
    · rw [if_neg e, tabv_at _ _ hi, tabv_at _ _ hi]
      by_cases h1 : i < n
      · simp [h1, Nat.lt_succ_of_lt h1]
      · have h2 : ¬ i < n + 1 := by omega
        simp [h1, h2]
  · have h1 : n ≠ i := by omega
    simp [h1, tabv, hi]

theorem tab_idx (n : Nat) (h : n < 16) : W32 ((n : Int) * 268435456) = BitVec.ofNat 32 n <<< 28 := by
  apply BitVec.eq_of_toNat_eq
  simp only [W32, BitVec.toNat_ofInt, BitVec.toNat_shiftLeft, BitVec.toNat_ofNat, Nat.shiftLeft_eq]
  simp only [Nat.reducePow]
  omega

/-- one table step in the walk's spelling -/
theorem nib_forms (S : BitVec 32) (n : Nat) (hn : n < 16) : ∃ i : Nat, i < 16 ∧ bits BinOp.xor IntKind.u8 ((S.toNat : Int) / 268435456) (n : Int) = (i : Int) ∧
    bits BinOp.xor IntKind.u32 ((S.toNat : Int) * 16 % 4294967296) ((halfN 4 (BitVec.ofNat 32 i <<< 28)).toNat : Int) = (((S <<< 4) ^^^ halfN 4 (((S >>> 28) ^^^ BitVec.ofNat 32 n) <<< 28)).toNat : Int) := by
  have hS := S.isLt
  have h1 : S.toNat / 268435456 < 16 := by omega
  refine ⟨S.toNat / 268435456 ^^^ n, xor_lt16 h1 hn, ?_, ?_⟩
  · rw [← xor_u8 _ _ (by omega) (by omega)]; rfl
  · have e1 : ((S <<< 4).toNat : Int) = (S.toNat : Int) * 16 % 4294967296 := by
      rw [BitVec.toNat_shiftLeft, Nat.shiftLeft_eq]; simp only [Nat.reducePow]; omega
    have e2 : BitVec.ofNat 32 (S.toNat / 268435456 ^^^ n) = (S >>> 28) ^^^ BitVec.ofNat 32 n := by
      apply BitVec.eq_of_toNat_eq
      rw [BitVec.toNat_xor, BitVec.toNat_ushiftRight, Nat.shiftRight_eq_div_pow, BitVec.toNat_ofNat, BitVec.toNat_ofNat, Nat.mod_eq_of_lt (by omega : n < 2 ^ 32)]
      have := xor_lt16 h1 hn
      exact Nat.mod_eq_of_lt (by omega)
    rw [← e1, e2, xor_u32]

theorem and15 (c : UInt8) : bits BinOp.and IntKind.u8 (c.toNat : Int) 15 = ((c.toNat % 16 : Nat) : Int) := by
  have h := u8_and_nat c.toNat 15 c.toNat_lt (by omega)
  have e : c.toNat &&& 15 = c.toNat % 16 := Nat.and_two_pow_sub_one_eq_mod c.toNat 4
  rw [e] at h
  exact h

theorem two_forms (S : BitVec 32) (c : UInt8) : ∃ i : Nat, i < 16 ∧ bits BinOp.xor IntKind.u8 ((S.toNat : Int) / 268435456) ((c.toNat : Int) / 16) = (i : Int) ∧ ∃ T : BitVec 32,
    bits BinOp.xor IntKind.u32 ((S.toNat : Int) * 16 % 4294967296) ((halfN 4 (BitVec.ofNat 32 i <<< 28)).toNat : Int) = (T.toNat : Int) ∧ ∃ j : Nat, j < 16 ∧
    bits BinOp.xor IntKind.u8 ((T.toNat : Int) / 268435456) (bits BinOp.and IntKind.u8 (c.toNat : Int) 15) = (j : Int) ∧ ∃ U : BitVec 32,
    bits BinOp.xor IntKind.u32 ((T.toNat : Int) * 16 % 4294967296) ((halfN 4 (BitVec.ofNat 32 j <<< 28)).toNat : Int) = (U.toNat : Int) ∧ Hid (U = byte1 S c) := by
  have hc := c.toNat_lt
  obtain ⟨i, hi, e1, e2⟩ := nib_forms S (c.toNat / 16) (by omega)
  obtain ⟨j, hj, e3, e4⟩ := nib_forms ((S <<< 4) ^^^ halfN 4 (((S >>> 28) ^^^ BitVec.ofNat 32 (c.toNat / 16)) <<< 28)) (c.toNat % 16) (by omega)
  exact ⟨i, hi, by rw [← e1]; rfl, _, e2, j, hj, by rw [← e3, and15 c], _, e4, two_eq S c⟩

theorem bytes_snoc (s : BitVec 32) (l : List UInt8) (k : Nat) (h : k < l.length) : CrcP.bytes s (l.take (k + 1)) = byte1 (CrcP.bytes s (l.take k)) l[k] := by
  rw [List.take_succ_eq_append_getElem h, bytes_append]; rfl

set_option maxHeartbeats 400000 in
theorem on_any (x : Int) (h0 : 0 ≤ x) (h1 : x ≤ 4294967295) (A : Option Addr) (n c : Nat) (l : List UInt8) (w : World) (hn : l.length = n) (hm : n ≤ maxLen) (hr : Rb w A l) :
    Calls Try.prog 17 #[.int .u32 x, .slice A n c] w fun e w' => e = .returned (.int .u32 ((CrcP.bytes (W32 x) l).toNat : Int)) ∧ Ext w w' := by
  unfold maxLen at hm
  have Hn := Lib.hid hn
  clear hn
  go_enter Try.func17, Try.ntmps17
  go_wp2_with fail
  go_loopw [6, 9, 11, 12, 13, 14, 15, 16, 17, 18] (fun i6 k v1 v2 v3 v4 v5 v6 v7 v8 wr => ∃ n : Nat, n ≤ 16 ∧ k = .int .i64 n ∧ Blk wr w.heap.size (tabv n) 36 ∧ Ext w wr) (fun _ k _ _ _ _ _ _ _ _ _ => 16 - (intOf k).toNat)
  case atStart => exact ⟨0, by omega, rfl, Blk.new _ _ _, (Ext.refl w).alloc _⟩
  case round =>
    obtain ⟨n, hn, rfl, hb, hx⟩ := hrel
    by_cases hlt : n < 16
    · have hcell := (hb.cell n).trans (tabv_at n n hlt)
      have hfr := hb.frozen n
      go_wp2_with (first | (go_at_call 19; refine (half_any _ ?_ ?_ _).mono ?_; (omega); (omega); rintro e w' ⟨rfl, rfl⟩))
      go_roundw
      case rel =>
        refine ⟨n + 1, by omega, by go_num, ?_, hx.setCell (Nat.le_refl _) _⟩
        rw [tab_idx n hlt, ← tabv_set n hlt]
        exact hb.set _ _
      case measure => simp [intOf]; omega
    · obtain rfl : n = 16 := by omega
      go_wp2_with fail
      go_loopw [0, 8, 21, 23, 24, 25, 26, 27, 28, 29, 30, 31, 32, 33, 34, 35, 36, 37, 38, 39, 40, 41, 42, 43, 44, 45, 46, 47] (fun s c k v1 v2 v3 v4 v5 v6 v7 v8 v9 v10 v11 v12 v13 v14 v15 v16 v17 v18 v19 v20 v21 v22 v23 v24 v25 wr' => ∃ k' : Nat, k' ≤ l.length ∧ k = .int .i64 k' ∧ s = .int .u32 ((CrcP.bytes (W32 x) (l.take k')).toNat : Int) ∧ wr' = wr) (fun s c k v1 v2 v3 v4 v5 v6 v7 v8 v9 v10 v11 v12 v13 v14 v15 v16 v17 v18 v19 v20 v21 v22 v23 v24 v25 wr' => l.length - (intOf k).toNat)
      case atStart => exact ⟨0, by omega, rfl, by simp [CrcP.bytes, toNat_W32 h0 h1]⟩
      case round =>
        obtain ⟨k, hk, rfl, rfl, rfl⟩ := hrel
        by_cases hlt : k < l.length
        · obtain ⟨b, off, rfl, hc⟩ := hr.ext hx |>.at_ hlt
          have hlt' := hlt
          rw [Hn.out] at hlt'
          have hsn := Lib.hid (bytes_snoc (W32 x) l k hlt)
          generalize CrcP.bytes (W32 x) (l.take k) = S at *
          generalize l[k] = ch at *
          obtain ⟨i1, hi1, e1, T, e2, i2, hi2, e3, U, e4, hU⟩ := two_forms S ch
          have c1 := (hb.cell i1).trans (tabv_at 16 i1 hi1)
          have c2 := (hb.cell i2).trans (tabv_at 16 i2 hi2)
          rw [if_pos hi1] at c1
          rw [if_pos hi2] at c2
          go_wp2
          go_roundw
          case rel => exact ⟨k + 1, by omega, by go_num, by rw [hsn.out, hU.out], trivial⟩
          case measure => simp [intOf]; omega
        · have hlt' : ¬ k < n := by have := Hn.out; omega
          go_wp2
          go_ret
          exact ⟨by rw [show k = l.length by omega, List.take_length]; rfl, hx⟩
end Go.Proofs.Ytghfdeebpcjcpaa.CrcW
