/- Words of 32 bits in a walk; turned, turn. -/
import Derived.Test.YtdfgjmmdpbgodaaDoorBase
import Derived.Test.YtdfgjmmdpbgodaaDoorShaPlain
import Derived.BigQuiet
namespace Go.Proofs.YtdfgjmmdpbgodaaDoor.ShaW
open Go.ChangeShapes Go.WideShapes Go.ChangeAt Go.RowKit
open ShaP Base
set_option linter.unusedVariables false
set_option linter.unusedSimpArgs false

/-- a word as a number: closed to the walk -/
def U (x : BitVec 32) : Int := (x.toNat : Int)
theorem U_ge (x : BitVec 32) : 0 ≤ U x := by unfold U; omega
theorem U_lt (x : BitVec 32) : U x < 4294967296 := by unfold U; have := x.isLt; omega
theorem U_inj {x y : BitVec 32} (h : U x = U y) : x = y := BitVec.eq_of_toNat_eq (by unfold U at h; omega)
theorem U_xor (a b : BitVec 32) : bits BinOp.xor IntKind.u32 (U a) (U b) = U (a ^^^ b) := by
  unfold U; rw [u32_xor_nat _ _ a.isLt b.isLt, BitVec.toNat_xor]
theorem U_and (a b : BitVec 32) : bits BinOp.and IntKind.u32 (U a) (U b) = U (a &&& b) := by
  unfold U; rw [u32_and_nat _ _ a.isLt b.isLt, BitVec.toNat_and]
theorem U_or (a b : BitVec 32) : bits BinOp.or IntKind.u32 (U a) (U b) = U (a ||| b) := by
  unfold U; rw [u32_or_nat _ _ a.isLt b.isLt, BitVec.toNat_or]
theorem U_add (a b : BitVec 32) : (U a + U b) % 4294967296 = U (a + b) := by
  unfold U; rw [BitVec.toNat_add]; simp only [Nat.reducePow]; omega
theorem U_add' (a b : BitVec 32) : IntKind.u32.wrap (U a + U b) = U (a + b) := by
  rw [IntKind.wrap_u32', ← U_add]
theorem U_not (a : BitVec 32) : bits BinOp.xor IntKind.u32 4294967295 (U a) = U (~~~a) := by
  have h := U_xor (BitVec.allOnes 32) a
  rw [BitVec.allOnes_xor] at h
  exact h
theorem U_shr (a : BitVec 32) (k : Nat) : U a / ((2 ^ k : Nat) : Int) = U (a >>> k) := by
  unfold U; rw [BitVec.toNat_ushiftRight, Nat.shiftRight_eq_div_pow]; rfl
theorem U_shr3 (a : BitVec 32) : U a / 8 = U (a >>> 3) := U_shr a 3
theorem U_shr10 (a : BitVec 32) : U a / 1024 = U (a >>> 10) := U_shr a 10
theorem U_shl (a : BitVec 32) (k : Nat) : U a * ((2 ^ k : Nat) : Int) % 4294967296 = U (a <<< k) := by
  unfold U; rw [BitVec.toNat_shiftLeft, Nat.shiftLeft_eq]; simp only [Nat.reducePow]; omega

theorem tr_forms (x : BitVec 32) (k : Nat) (hk : k ≤ 32) : bits BinOp.or IntKind.u32 (U x * ((2 ^ (32 - k) : Nat) : Int) % 4294967296) (U x / ((2 ^ k : Nat) : Int)) = U (tr x k) := by
  rw [U_shl, U_shr, U_or]; rfl
theorem tr_forms' (x : BitVec 32) (k : Nat) (hk : k ≤ 32) : bits BinOp.or IntKind.u32 (U x / ((2 ^ k : Nat) : Int)) (U x * ((2 ^ (32 - k) : Nat) : Int) % 4294967296) = U (tr x k) := by
  rw [U_shl, U_shr, U_or, BitVec.or_comm]; rfl

theorem a31_2 : bits BinOp.and IntKind.u64 (IntKind.u64.wrap (-2)) 31 = 30 := by decide +kernel
theorem a31_6 : bits BinOp.and IntKind.u64 (IntKind.u64.wrap (-6)) 31 = 26 := by decide +kernel
theorem a31_7 : bits BinOp.and IntKind.u64 (IntKind.u64.wrap (-7)) 31 = 25 := by decide +kernel
theorem a31_11 : bits BinOp.and IntKind.u64 (IntKind.u64.wrap (-11)) 31 = 21 := by decide +kernel
theorem a31_13 : bits BinOp.and IntKind.u64 (IntKind.u64.wrap (-13)) 31 = 19 := by decide +kernel
theorem a31_17 : bits BinOp.and IntKind.u64 (IntKind.u64.wrap (-17)) 31 = 15 := by decide +kernel
theorem a31_18 : bits BinOp.and IntKind.u64 (IntKind.u64.wrap (-18)) 31 = 14 := by decide +kernel
theorem a31_19 : bits BinOp.and IntKind.u64 (IntKind.u64.wrap (-19)) 31 = 13 := by decide +kernel
theorem a31_22 : bits BinOp.and IntKind.u64 (IntKind.u64.wrap (-22)) 31 = 10 := by decide +kernel
theorem a31_25 : bits BinOp.and IntKind.u64 (IntKind.u64.wrap (-25)) 31 = 7 := by decide +kernel

theorem turned_2 (x : BitVec 32) (w : World) :
    Calls Tryd.prog 24 #[.int .u32 (U x), .int .i64 2] w fun e w' => e = .returned (.int .u32 (U (tr x 2))) ∧ w = w' := by
  have h0 := U_ge x
  have h1 := U_lt x
  have E := a31_2
  go_enter Tryd.func24, Tryd.ntmps24
  go_wp2_with go_in
  go_ret
  exact ⟨congrArg (fun n => Ending.returned (.int .u32 n)) (tr_forms x 2 (by omega)), rfl⟩
theorem turned_6 (x : BitVec 32) (w : World) :
    Calls Tryd.prog 24 #[.int .u32 (U x), .int .i64 6] w fun e w' => e = .returned (.int .u32 (U (tr x 6))) ∧ w = w' := by
  have h0 := U_ge x
  have h1 := U_lt x
  have E := a31_6
  go_enter Tryd.func24, Tryd.ntmps24
  go_wp2_with go_in
  go_ret
  exact ⟨congrArg (fun n => Ending.returned (.int .u32 n)) (tr_forms x 6 (by omega)), rfl⟩
theorem turned_7 (x : BitVec 32) (w : World) :
    Calls Tryd.prog 24 #[.int .u32 (U x), .int .i64 7] w fun e w' => e = .returned (.int .u32 (U (tr x 7))) ∧ w = w' := by
  have h0 := U_ge x
  have h1 := U_lt x
  have E := a31_7
  go_enter Tryd.func24, Tryd.ntmps24
  go_wp2_with go_in
  go_ret
  exact ⟨congrArg (fun n => Ending.returned (.int .u32 n)) (tr_forms x 7 (by omega)), rfl⟩
theorem turned_11 (x : BitVec 32) (w : World) :
    Calls Tryd.prog 24 #[.int .u32 (U x), .int .i64 11] w fun e w' => e = .returned (.int .u32 (U (tr x 11))) ∧ w = w' := by
  have h0 := U_ge x
  have h1 := U_lt x
  have E := a31_11
  go_enter Tryd.func24, Tryd.ntmps24
  go_wp2_with go_in
  go_ret
  exact ⟨congrArg (fun n => Ending.returned (.int .u32 n)) (tr_forms x 11 (by omega)), rfl⟩
theorem turned_13 (x : BitVec 32) (w : World) :
    Calls Tryd.prog 24 #[.int .u32 (U x), .int .i64 13] w fun e w' => e = .returned (.int .u32 (U (tr x 13))) ∧ w = w' := by
  have h0 := U_ge x
  have h1 := U_lt x
  have E := a31_13
  go_enter Tryd.func24, Tryd.ntmps24
  go_wp2_with go_in
  go_ret
  exact ⟨congrArg (fun n => Ending.returned (.int .u32 n)) (tr_forms x 13 (by omega)), rfl⟩
theorem turned_17 (x : BitVec 32) (w : World) :
    Calls Tryd.prog 24 #[.int .u32 (U x), .int .i64 17] w fun e w' => e = .returned (.int .u32 (U (tr x 17))) ∧ w = w' := by
  have h0 := U_ge x
  have h1 := U_lt x
  have E := a31_17
  go_enter Tryd.func24, Tryd.ntmps24
  go_wp2_with go_in
  go_ret
  exact ⟨congrArg (fun n => Ending.returned (.int .u32 n)) (tr_forms x 17 (by omega)), rfl⟩
theorem turned_18 (x : BitVec 32) (w : World) :
    Calls Tryd.prog 24 #[.int .u32 (U x), .int .i64 18] w fun e w' => e = .returned (.int .u32 (U (tr x 18))) ∧ w = w' := by
  have h0 := U_ge x
  have h1 := U_lt x
  have E := a31_18
  go_enter Tryd.func24, Tryd.ntmps24
  go_wp2_with go_in
  go_ret
  exact ⟨congrArg (fun n => Ending.returned (.int .u32 n)) (tr_forms x 18 (by omega)), rfl⟩
theorem turned_19 (x : BitVec 32) (w : World) :
    Calls Tryd.prog 24 #[.int .u32 (U x), .int .i64 19] w fun e w' => e = .returned (.int .u32 (U (tr x 19))) ∧ w = w' := by
  have h0 := U_ge x
  have h1 := U_lt x
  have E := a31_19
  go_enter Tryd.func24, Tryd.ntmps24
  go_wp2_with go_in
  go_ret
  exact ⟨congrArg (fun n => Ending.returned (.int .u32 n)) (tr_forms x 19 (by omega)), rfl⟩
theorem turned_22 (x : BitVec 32) (w : World) :
    Calls Tryd.prog 24 #[.int .u32 (U x), .int .i64 22] w fun e w' => e = .returned (.int .u32 (U (tr x 22))) ∧ w = w' := by
  have h0 := U_ge x
  have h1 := U_lt x
  have E := a31_22
  go_enter Tryd.func24, Tryd.ntmps24
  go_wp2_with go_in
  go_ret
  exact ⟨congrArg (fun n => Ending.returned (.int .u32 n)) (tr_forms x 22 (by omega)), rfl⟩
theorem turned_25 (x : BitVec 32) (w : World) :
    Calls Tryd.prog 24 #[.int .u32 (U x), .int .i64 25] w fun e w' => e = .returned (.int .u32 (U (tr x 25))) ∧ w = w' := by
  have h0 := U_ge x
  have h1 := U_lt x
  have E := a31_25
  go_enter Tryd.func24, Tryd.ntmps24
  go_wp2_with go_in
  go_ret
  exact ⟨congrArg (fun n => Ending.returned (.int .u32 n)) (tr_forms x 25 (by omega)), rfl⟩
theorem turn_2 (x : BitVec 32) (w : World) :
    Calls Tryd.prog 20 #[.int .u32 (U x), .int .u64 2] w fun e w' => e = .returned (.int .u32 (U (tr x 2))) ∧ w = w' := by
  have h0 := U_ge x
  have h1 := U_lt x
  go_enter Tryd.func20, Tryd.ntmps20
  go_wp2
  go_ret
  exact ⟨congrArg (fun n => Ending.returned (.int .u32 n)) (tr_forms' x 2 (by omega)), rfl⟩
theorem turn_6 (x : BitVec 32) (w : World) :
    Calls Tryd.prog 20 #[.int .u32 (U x), .int .u64 6] w fun e w' => e = .returned (.int .u32 (U (tr x 6))) ∧ w = w' := by
  have h0 := U_ge x
  have h1 := U_lt x
  go_enter Tryd.func20, Tryd.ntmps20
  go_wp2
  go_ret
  exact ⟨congrArg (fun n => Ending.returned (.int .u32 n)) (tr_forms' x 6 (by omega)), rfl⟩
theorem turn_7 (x : BitVec 32) (w : World) :
    Calls Tryd.prog 20 #[.int .u32 (U x), .int .u64 7] w fun e w' => e = .returned (.int .u32 (U (tr x 7))) ∧ w = w' := by
  have h0 := U_ge x
  have h1 := U_lt x
  go_enter Tryd.func20, Tryd.ntmps20
  go_wp2
  go_ret
  exact ⟨congrArg (fun n => Ending.returned (.int .u32 n)) (tr_forms' x 7 (by omega)), rfl⟩
theorem turn_11 (x : BitVec 32) (w : World) :
    Calls Tryd.prog 20 #[.int .u32 (U x), .int .u64 11] w fun e w' => e = .returned (.int .u32 (U (tr x 11))) ∧ w = w' := by
  have h0 := U_ge x
  have h1 := U_lt x
  go_enter Tryd.func20, Tryd.ntmps20
  go_wp2
  go_ret
  exact ⟨congrArg (fun n => Ending.returned (.int .u32 n)) (tr_forms' x 11 (by omega)), rfl⟩
theorem turn_13 (x : BitVec 32) (w : World) :
    Calls Tryd.prog 20 #[.int .u32 (U x), .int .u64 13] w fun e w' => e = .returned (.int .u32 (U (tr x 13))) ∧ w = w' := by
  have h0 := U_ge x
  have h1 := U_lt x
  go_enter Tryd.func20, Tryd.ntmps20
  go_wp2
  go_ret
  exact ⟨congrArg (fun n => Ending.returned (.int .u32 n)) (tr_forms' x 13 (by omega)), rfl⟩
theorem turn_17 (x : BitVec 32) (w : World) :
    Calls Tryd.prog 20 #[.int .u32 (U x), .int .u64 17] w fun e w' => e = .returned (.int .u32 (U (tr x 17))) ∧ w = w' := by
  have h0 := U_ge x
  have h1 := U_lt x
  go_enter Tryd.func20, Tryd.ntmps20
  go_wp2
  go_ret
  exact ⟨congrArg (fun n => Ending.returned (.int .u32 n)) (tr_forms' x 17 (by omega)), rfl⟩
theorem turn_18 (x : BitVec 32) (w : World) :
    Calls Tryd.prog 20 #[.int .u32 (U x), .int .u64 18] w fun e w' => e = .returned (.int .u32 (U (tr x 18))) ∧ w = w' := by
  have h0 := U_ge x
  have h1 := U_lt x
  go_enter Tryd.func20, Tryd.ntmps20
  go_wp2
  go_ret
  exact ⟨congrArg (fun n => Ending.returned (.int .u32 n)) (tr_forms' x 18 (by omega)), rfl⟩
theorem turn_19 (x : BitVec 32) (w : World) :
    Calls Tryd.prog 20 #[.int .u32 (U x), .int .u64 19] w fun e w' => e = .returned (.int .u32 (U (tr x 19))) ∧ w = w' := by
  have h0 := U_ge x
  have h1 := U_lt x
  go_enter Tryd.func20, Tryd.ntmps20
  go_wp2
  go_ret
  exact ⟨congrArg (fun n => Ending.returned (.int .u32 n)) (tr_forms' x 19 (by omega)), rfl⟩
theorem turn_22 (x : BitVec 32) (w : World) :
    Calls Tryd.prog 20 #[.int .u32 (U x), .int .u64 22] w fun e w' => e = .returned (.int .u32 (U (tr x 22))) ∧ w = w' := by
  have h0 := U_ge x
  have h1 := U_lt x
  go_enter Tryd.func20, Tryd.ntmps20
  go_wp2
  go_ret
  exact ⟨congrArg (fun n => Ending.returned (.int .u32 n)) (tr_forms' x 22 (by omega)), rfl⟩
theorem turn_25 (x : BitVec 32) (w : World) :
    Calls Tryd.prog 20 #[.int .u32 (U x), .int .u64 25] w fun e w' => e = .returned (.int .u32 (U (tr x 25))) ∧ w = w' := by
  have h0 := U_ge x
  have h1 := U_lt x
  go_enter Tryd.func20, Tryd.ntmps20
  go_wp2
  go_ret
  exact ⟨congrArg (fun n => Ending.returned (.int .u32 n)) (tr_forms' x 25 (by omega)), rfl⟩
end Go.Proofs.YtdfgjmmdpbgodaaDoor.ShaW
