import Derived.Test.YtghfdeebpcjcpaaCrcMore
namespace Go.Proofs.Ytghfdeebpcjcpaa.CrcW
open Go.ChangeShapes Go.WideShapes Go.ChangeAt Go.RowKit
open CrcP Base
set_option linter.unusedVariables false

theorem halves_yes (x : BitVec 32) (h : (2147483648 : Int) ≤ (x.toNat : Int)) : bits BinOp.xor IntKind.u32 ((x.toNat : Int) * 2 % 4294967296) 79764919 = ((half1 x).toNat : Int) := by
  have hm : x.msb = true := by rw [BitVec.msb_eq_decide]; simp; omega
  refine bit_yes x ?_
  rw [top_bit, hm]; rfl
theorem halves_no (x : BitVec 32) (h : ¬ (2147483648 : Int) ≤ (x.toNat : Int)) : (x.toNat : Int) * 2 = ((half1 x).toNat : Int) := by
  have hm : x.msb = false := by rw [BitVec.msb_eq_decide]; simp; omega
  rw [← bit_no x (by rw [top_bit, hm]; rfl)]
  omega

/-- a byte put at the top, in the walk's spelling -/
theorem at_top (S : BitVec 32) (c : UInt8) : bits BinOp.xor IntKind.u32 (S.toNat : Int) ((c.toNat : Int) * 16777216) = ((S ^^^ (BitVec.ofNat 32 c.toNat <<< 24)).toNat : Int) := by
  have hc := c.toNat_lt
  have e : (((BitVec.ofNat 32 c.toNat <<< 24)).toNat : Int) = (c.toNat : Int) * 16777216 := by
    rw [BitVec.toNat_shiftLeft, Nat.shiftLeft_eq, BitVec.toNat_ofNat]; simp only [Nat.reducePow]; omega
  rw [← e, xor_u32]

set_option maxRecDepth 100000 in
set_option maxHeartbeats 400000 in
theorem refGo_any (x : Int) (h0 : 0 ≤ x) (h1 : x ≤ 4294967295) (A : Option Addr) (n c : Nat) (l : List UInt8) (w : World) (hn : l.length = n) (hm : n ≤ maxLen) (hr : Rb w A l) :
    Calls Try.prog 8 #[.int .u32 x, .slice A n c] w fun e w' => e = .returned (.int .u32 ((CrcP.bytes (W32 x) l).toNat : Int)) ∧ w = w' := by
  unfold maxLen at hm
  have Hn := Lib.hid hn
  clear hn
  go_enter Try.func8, Try.ntmps8
  go_wp2_with fail
  go_loop [0, 5, 6, 7, 8, 9, 10, 11, 12, 13, 14, 15, 16, 17, 18, 19, 20, 21, 22, 23, 24, 25, 26, 27, 28, 29, 30, 31, 32] (fun s i v1 v2 v3 v4 v5 v6 v7 v8 v9 v10 v11 v12 v13 v14 v15 v16 v17 v18 v19 v20 v21 v22 v23 v24 v25 v26 v27 => ∃ k' : Nat, k' ≤ l.length ∧ i = .int .i64 k' ∧ s = .int .u32 ((CrcP.bytes (W32 x) (l.take k')).toNat : Int)) (fun s i v1 v2 v3 v4 v5 v6 v7 v8 v9 v10 v11 v12 v13 v14 v15 v16 v17 v18 v19 v20 v21 v22 v23 v24 v25 v26 v27 => l.length - (intOf i).toNat)
  case atStart => exact ⟨0, by omega, rfl, by simp [CrcP.bytes, toNat_W32 h0 h1]⟩
  case round =>
    obtain ⟨k, hk, rfl, rfl⟩ := hrel
    by_cases hlt : k < l.length
    · obtain ⟨b, off, rfl, hc⟩ := hr.at_ hlt
      have hlt' := hlt
      rw [Hn.out] at hlt'
      have hsn := Lib.hid (bytes_snoc (W32 x) l k hlt)
      generalize CrcP.bytes (W32 x) (l.take k) = S at *
      generalize l[k] = ch at *
      obtain ⟨T, Hat, hT⟩ : ∃ T : BitVec 32, bits BinOp.xor IntKind.u32 (S.toNat : Int) ((ch.toNat : Int) * 16777216) = (T.toNat : Int) ∧ Hid (T = S ^^^ (BitVec.ofNat 32 ch.toNat <<< 24)) := ⟨_, at_top S ch, rfl⟩
      have hch : (ch.toNat : Int) < 256 := by have := ch.toNat_lt; omega
      go_wp2_with fail
      clear Hat hc hch
      go_loop [0, 6, 7, 22, 23, 24, 25, 26, 27, 28, 29, 30, 31, 32] (fun s i v1 v2 v3 v4 v5 v6 v7 v8 v9 v10 v11 v12 => ∃ j : Nat, j ≤ 8 ∧ i = .int .i64 j ∧ s = .int .u32 ((halfN j T).toNat : Int)) (fun s i v1 v2 v3 v4 v5 v6 v7 v8 v9 v10 v11 v12 => 8 - (intOf i).toNat)
      case atStart => exact ⟨0, by omega, rfl, rfl⟩
      case round =>
        obtain ⟨j, hj, rfl, rfl⟩ := hrel
        by_cases hlt2 : j < 8
        · have hnext : Hid (halfN (j + 1) T = half1 (halfN j T)) := rfl
          generalize halfN j T = R at *
          by_cases ht : (2147483648 : Int) ≤ (R.toNat : Int)
          · obtain ⟨R', h2, hR⟩ : ∃ R' : BitVec 32, bits BinOp.xor IntKind.u32 ((R.toNat : Int) * 2 % 4294967296) 79764919 = (R'.toNat : Int) ∧ Hid (R' = half1 R) := ⟨_, halves_yes _ ht, rfl⟩
            go_wp2_with fail
            go_round
            case rel => exact ⟨j + 1, by omega, by go_num, by rw [hnext.out, ← hR.out]⟩
            case measure => simp [intOf]; omega
          · obtain ⟨R', h2, hR⟩ : ∃ R' : BitVec 32, (R.toNat : Int) * 2 = (R'.toNat : Int) ∧ Hid (R' = half1 R) := ⟨_, halves_no _ ht, rfl⟩
            go_wp2_with fail
            go_round
            case rel => exact ⟨j + 1, by omega, by go_num, by rw [hnext.out, ← hR.out]⟩
            case measure => simp [intOf]; omega
        · obtain rfl : j = 8 := by omega
          go_wp2_with fail
          go_round
          case rel => exact ⟨k + 1, by omega, by go_num, by rw [hsn.out, byte1, ← hT.out]⟩
          case measure => simp [intOf]; omega
    · have hlt' : ¬ k < n := by have := Hn.out; omega
      go_wp2_with fail
      go_ret
      exact ⟨by rw [show k = l.length by omega, List.take_length]; rfl, rfl⟩

set_option maxHeartbeats 400000 in
theorem refSum_any (A : Option Addr) (n c : Nat) (l : List UInt8) (w : World) (hn : l.length = n) (hm : n ≤ maxLen) (hr : Rb w A l) :
    Calls Try.prog 10 #[.slice A n c] w fun e w' => e = .returned (.int .u32 ((CrcP.bytes all1 l).toNat : Int)) ∧ w = w' := by
  have Hn := Lib.hid hn
  clear hn
  go_enter Try.func10, Try.ntmps10
  go_wp2_with (go_at_call 8; refine (refGo_any _ ?_ ?_ _ _ _ l _ Hn.out hm hr).mono ?_; (omega); (omega); rintro e w' ⟨rfl, rfl⟩)
  go_ret
  exact ⟨by rw [show W32 4294967295 = all1 from rfl]; rfl, rfl⟩
end Go.Proofs.Ytghfdeebpcjcpaa.CrcW
