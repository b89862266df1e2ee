/- suffragan/suffraganlaw08.CanonPrints: the given statement, out of the contract of its walk. No condition. -/
import Derived.Test.YtbpfabhlngfciaaGreatDoorCbW
import Derived.Below
import Derived.BigQuiet
import Derived.Deep.MidRow
import Derived.Laws.IdiomCopy
import Derived.Lib.Builder
import Derived.Lib.UnsafeStr
import Derived.Laws.ResultCell
import Derived.ChangeKeysEq
set_option linter.unusedVariables false
set_option linter.unusedSimpArgs false
set_option maxRecDepth 100000
set_option maxHeartbeats 1000000
namespace Go.Proofs.YtbpfabhlngfciaaGreatDoor.ShaP
def W := BitVec 32
def tr (w : BitVec 32) (k : Nat) : BitVec 32 := (w <<< (32 - k)) ||| (w >>> k)
def first : List (BitVec 32) := [0x6a09e667#32, 0xbb67ae85#32, 0x3c6ef372#32, 0xa54ff53a#32, 0x510e527f#32, 0x9b05688c#32, 0x1f83d9ab#32, 0x5be0cd19#32]
def roots : List (BitVec 32) := [
 0x428a2f98#32, 0x71374491#32, 0xb5c0fbcf#32, 0xe9b5dba5#32, 0x3956c25b#32, 0x59f111f1#32, 0x923f82a4#32, 0xab1c5ed5#32,
 0xd807aa98#32, 0x12835b01#32, 0x243185be#32, 0x550c7dc3#32, 0x72be5d74#32, 0x80deb1fe#32, 0x9bdc06a7#32, 0xc19bf174#32,
 0xe49b69c1#32, 0xefbe4786#32, 0x0fc19dc6#32, 0x240ca1cc#32, 0x2de92c6f#32, 0x4a7484aa#32, 0x5cb0a9dc#32, 0x76f988da#32,
 0x983e5152#32, 0xa831c66d#32, 0xb00327c8#32, 0xbf597fc7#32, 0xc6e00bf3#32, 0xd5a79147#32, 0x06ca6351#32, 0x14292967#32,
 0x27b70a85#32, 0x2e1b2138#32, 0x4d2c6dfc#32, 0x53380d13#32, 0x650a7354#32, 0x766a0abb#32, 0x81c2c92e#32, 0x92722c85#32,
 0xa2bfe8a1#32, 0xa81a664b#32, 0xc24b8b70#32, 0xc76c51a3#32, 0xd192e819#32, 0xd6990624#32, 0xf40e3585#32, 0x106aa070#32,
 0x19a4c116#32, 0x1e376c08#32, 0x2748774c#32, 0x34b0bcb5#32, 0x391c0cb3#32, 0x4ed8aa4a#32, 0x5b9cca4f#32, 0x682e6ff3#32,
 0x748f82ee#32, 0x78a5636f#32, 0x84c87814#32, 0x8cc70208#32, 0x90befffa#32, 0xa4506ceb#32, 0xbef9a3f7#32, 0xc67178f2#32]
def be (a b c d : UInt8) : BitVec 32 := BitVec.ofNat 32 (a.toNat * 2 ^ 24 + b.toNat * 2 ^ 16 + c.toNat * 2 ^ 8 + d.toNat)
def at8 (l : List UInt8) (i : Nat) : UInt8 := l.getD i 0
def word (l : List UInt8) (i : Nat) : BitVec 32 := be (at8 l (4 * i)) (at8 l (4 * i + 1)) (at8 l (4 * i + 2)) (at8 l (4 * i + 3))
def at32 (l : List (BitVec 32)) (i : Nat) : BitVec 32 := l.getD i 0#32
def s0 (x : BitVec 32) : BitVec 32 := tr x 7 ^^^ tr x 18 ^^^ x >>> 3
def s1 (y : BitVec 32) : BitVec 32 := tr y 17 ^^^ tr y 19 ^^^ y >>> 10
def nextW (l : List (BitVec 32)) : BitVec 32 := at32 l (l.length - 16) + s0 (at32 l (l.length - 15)) + at32 l (l.length - 7) + s1 (at32 l (l.length - 2))
def sch (b : List UInt8) : Nat → List (BitVec 32)
 | 0 => []
 | n + 1 => sch b n ++ [if n < 16 then word b n else nextW (sch b n)]
theorem sch_length (b : List UInt8) (n : Nat) : (sch b n).length = n := by
 induction n with
 | zero => rfl
 | succ n ih => simp [sch, ih]
structure St where
 a : BitVec 32
 b : BitVec 32
 c : BitVec 32
 d : BitVec 32
 e : BitVec 32
 f : BitVec 32
 g : BitVec 32
 h : BitVec 32
def t1 (s : St) (k w : BitVec 32) : BitVec 32 := s.h + (tr s.e 6 ^^^ tr s.e 11 ^^^ tr s.e 25) + ((s.e &&& s.f) ^^^ (~~~s.e &&& s.g)) + k + w
def t2 (s : St) : BitVec 32 := (tr s.a 2 ^^^ tr s.a 13 ^^^ tr s.a 22) + ((s.a &&& s.b) ^^^ (s.a &&& s.c) ^^^ (s.b &&& s.c))
def round (s : St) (k w : BitVec 32) : St := ⟨t1 s k w + t2 s, s.a, s.b, s.c, s.d + t1 s k w, s.e, s.f, s.g⟩
def rounds (s : St) (ws : List (BitVec 32)) : Nat → St
 | 0 => s
 | n + 1 => round (rounds s ws n) (at32 roots n) (at32 ws n)
def St.list (s : St) : List (BitVec 32) := [s.a, s.b, s.c, s.d, s.e, s.f, s.g, s.h]
def St.plus (s t : St) : St := ⟨s.a + t.a, s.b + t.b, s.c + t.c, s.d + t.d, s.e + t.e, s.f + t.f, s.g + t.g, s.h + t.h⟩
def block (s : St) (b : List UInt8) : St := s.plus (rounds s (sch b 64) 64)
def begin_ : St := ⟨0x6a09e667#32, 0xbb67ae85#32, 0x3c6ef372#32, 0xa54ff53a#32, 0x510e527f#32, 0x9b05688c#32, 0x1f83d9ab#32, 0x5be0cd19#32⟩
def blocks (s : St) (l : List UInt8) : Nat → St
 | 0 => s
 | n + 1 => blocks (block s (l.take 64)) (l.drop 64) n
def be8 (n : Nat) : List UInt8 := [UInt8.ofNat (n / 2 ^ 56), UInt8.ofNat (n / 2 ^ 48), UInt8.ofNat (n / 2 ^ 40), UInt8.ofNat (n / 2 ^ 32), UInt8.ofNat (n / 2 ^ 24), UInt8.ofNat (n / 2 ^ 16), UInt8.ofNat (n / 2 ^ 8), UInt8.ofNat n]
def noughts (n : Nat) : Nat := (119 - n % 64) % 64
def padded (l : List UInt8) (count : Nat) : List UInt8 := l ++ [128] ++ List.replicate (noughts l.length) 0 ++ be8 (count * 8)
def out (s : St) : List UInt8 := s.list.flatMap fun x => [UInt8.ofNat (x.toNat / 2 ^ 24), UInt8.ofNat (x.toNat / 2 ^ 16), UInt8.ofNat (x.toNat / 2 ^ 8), UInt8.ofNat x.toNat]
def sha (l : List UInt8) : List UInt8 := out (blocks begin_ (padded l l.length) ((padded l l.length).length / 64))
theorem lives : (sha [97, 98, 99]).take 2 = [0xba, 0x78] ∧ (sha [97, 98, 99]).getD 31 0 = 0xad := by decide +kernel
end Go.Proofs.YtbpfabhlngfciaaGreatDoor.ShaP
namespace Go.Proofs.YtbpfabhlngfciaaGreatDoor.ShaW
open Go.ChangeShapes Go.WideShapes Go.ChangeAt Go.RowKit
open ShaP Base
def U (x : BitVec 32) : Int := (x.toNat : Int)
theorem U_ge (x : BitVec 32) : 0 ≤ U x := by unfold U; omega
theorem U_lt (x : BitVec 32) : U x < 4294967296 := by unfold U; have := x.isLt; omega
theorem U_inj {x y : BitVec 32} (h : U x = U y) : x = y := BitVec.eq_of_toNat_eq (by unfold U at h; omega)
theorem U_xor (a b : BitVec 32) : bits BinOp.xor IntKind.u32 (U a) (U b) = U (a ^^^ b) := by
 unfold U; rw [u32_xor_nat _ _ a.isLt b.isLt, BitVec.toNat_xor]
theorem U_and (a b : BitVec 32) : bits BinOp.and IntKind.u32 (U a) (U b) = U (a &&& b) := by
 unfold U; rw [u32_and_nat _ _ a.isLt b.isLt, BitVec.toNat_and]
theorem U_or (a b : BitVec 32) : bits BinOp.or IntKind.u32 (U a) (U b) = U (a ||| b) := by
 unfold U; rw [u32_or_nat _ _ a.isLt b.isLt, BitVec.toNat_or]
theorem U_add (a b : BitVec 32) : (U a + U b) % 4294967296 = U (a + b) := by
 unfold U; rw [BitVec.toNat_add]; simp only [Nat.reducePow]; omega
theorem U_add' (a b : BitVec 32) : IntKind.u32.wrap (U a + U b) = U (a + b) := by
 rw [IntKind.wrap_u32', ← U_add]
theorem U_not (a : BitVec 32) : bits BinOp.xor IntKind.u32 4294967295 (U a) = U (~~~a) := by
 have h := U_xor (BitVec.allOnes 32) a
 rw [BitVec.allOnes_xor] at h
 exact h
theorem U_shr (a : BitVec 32) (k : Nat) : U a / ((2 ^ k : Nat) : Int) = U (a >>> k) := by
 unfold U; rw [BitVec.toNat_ushiftRight, Nat.shiftRight_eq_div_pow]; rfl
theorem U_shr3 (a : BitVec 32) : U a / 8 = U (a >>> 3) := U_shr a 3
theorem U_shr10 (a : BitVec 32) : U a / 1024 = U (a >>> 10) := U_shr a 10
theorem U_shl (a : BitVec 32) (k : Nat) : U a * ((2 ^ k : Nat) : Int) % 4294967296 = U (a <<< k) := by
 unfold U; rw [BitVec.toNat_shiftLeft, Nat.shiftLeft_eq]; simp only [Nat.reducePow]; omega
theorem tr_forms (x : BitVec 32) (k : Nat) (hk : k ≤ 32) : bits BinOp.or IntKind.u32 (U x * ((2 ^ (32 - k) : Nat) : Int) % 4294967296) (U x / ((2 ^ k : Nat) : Int)) = U (tr x k) := by
 rw [U_shl, U_shr, U_or]; rfl
theorem tr_forms' (x : BitVec 32) (k : Nat) (hk : k ≤ 32) : bits BinOp.or IntKind.u32 (U x / ((2 ^ k : Nat) : Int)) (U x * ((2 ^ (32 - k) : Nat) : Int) % 4294967296) = U (tr x k) := by
 rw [U_shl, U_shr, U_or, BitVec.or_comm]; rfl
theorem a31_2 : bits BinOp.and IntKind.u64 (IntKind.u64.wrap (-2)) 31 = 30 := by decide +kernel
theorem a31_6 : bits BinOp.and IntKind.u64 (IntKind.u64.wrap (-6)) 31 = 26 := by decide +kernel
theorem a31_7 : bits BinOp.and IntKind.u64 (IntKind.u64.wrap (-7)) 31 = 25 := by decide +kernel
theorem a31_11 : bits BinOp.and IntKind.u64 (IntKind.u64.wrap (-11)) 31 = 21 := by decide +kernel
theorem a31_13 : bits BinOp.and IntKind.u64 (IntKind.u64.wrap (-13)) 31 = 19 := by decide +kernel
theorem a31_17 : bits BinOp.and IntKind.u64 (IntKind.u64.wrap (-17)) 31 = 15 := by decide +kernel
theorem a31_18 : bits BinOp.and IntKind.u64 (IntKind.u64.wrap (-18)) 31 = 14 := by decide +kernel
theorem a31_19 : bits BinOp.and IntKind.u64 (IntKind.u64.wrap (-19)) 31 = 13 := by decide +kernel
theorem a31_22 : bits BinOp.and IntKind.u64 (IntKind.u64.wrap (-22)) 31 = 10 := by decide +kernel
theorem a31_25 : bits BinOp.and IntKind.u64 (IntKind.u64.wrap (-25)) 31 = 7 := by decide +kernel
theorem turned_2 (x : BitVec 32) (w : World) :
  Calls Tryz.prog 121 #[.int .u32 (U x), .int .i64 2] w fun e w' => e = .returned (.int .u32 (U (tr x 2))) ∧ w = w' := by
 have h0 := U_ge x
 have h1 := U_lt x
 have E := a31_2
 go_enter Tryz.func121, Tryz.ntmps121
 go_wp2_with go_in
 go_ret
 exact ⟨congrArg (fun n => Ending.returned (.int .u32 n)) (tr_forms x 2 (by omega)), rfl⟩
theorem turned_6 (x : BitVec 32) (w : World) :
  Calls Tryz.prog 121 #[.int .u32 (U x), .int .i64 6] w fun e w' => e = .returned (.int .u32 (U (tr x 6))) ∧ w = w' := by
 have h0 := U_ge x
 have h1 := U_lt x
 have E := a31_6
 go_enter Tryz.func121, Tryz.ntmps121
 go_wp2_with go_in
 go_ret
 exact ⟨congrArg (fun n => Ending.returned (.int .u32 n)) (tr_forms x 6 (by omega)), rfl⟩
theorem turned_7 (x : BitVec 32) (w : World) :
  Calls Tryz.prog 121 #[.int .u32 (U x), .int .i64 7] w fun e w' => e = .returned (.int .u32 (U (tr x 7))) ∧ w = w' := by
 have h0 := U_ge x
 have h1 := U_lt x
 have E := a31_7
 go_enter Tryz.func121, Tryz.ntmps121
 go_wp2_with go_in
 go_ret
 exact ⟨congrArg (fun n => Ending.returned (.int .u32 n)) (tr_forms x 7 (by omega)), rfl⟩
theorem turned_11 (x : BitVec 32) (w : World) :
  Calls Tryz.prog 121 #[.int .u32 (U x), .int .i64 11] w fun e w' => e = .returned (.int .u32 (U (tr x 11))) ∧ w = w' := by
 have h0 := U_ge x
 have h1 := U_lt x
 have E := a31_11
 go_enter Tryz.func121, Tryz.ntmps121
 go_wp2_with go_in
 go_ret
 exact ⟨congrArg (fun n => Ending.returned (.int .u32 n)) (tr_forms x 11 (by omega)), rfl⟩
theorem turned_13 (x : BitVec 32) (w : World) :
  Calls Tryz.prog 121 #[.int .u32 (U x), .int .i64 13] w fun e w' => e = .returned (.int .u32 (U (tr x 13))) ∧ w = w' := by
 have h0 := U_ge x
 have h1 := U_lt x
 have E := a31_13
 go_enter Tryz.func121, Tryz.ntmps121
 go_wp2_with go_in
 go_ret
 exact ⟨congrArg (fun n => Ending.returned (.int .u32 n)) (tr_forms x 13 (by omega)), rfl⟩
theorem turned_17 (x : BitVec 32) (w : World) :
  Calls Tryz.prog 121 #[.int .u32 (U x), .int .i64 17] w fun e w' => e = .returned (.int .u32 (U (tr x 17))) ∧ w = w' := by
 have h0 := U_ge x
 have h1 := U_lt x
 have E := a31_17
 go_enter Tryz.func121, Tryz.ntmps121
 go_wp2_with go_in
 go_ret
 exact ⟨congrArg (fun n => Ending.returned (.int .u32 n)) (tr_forms x 17 (by omega)), rfl⟩
theorem turned_18 (x : BitVec 32) (w : World) :
  Calls Tryz.prog 121 #[.int .u32 (U x), .int .i64 18] w fun e w' => e = .returned (.int .u32 (U (tr x 18))) ∧ w = w' := by
 have h0 := U_ge x
 have h1 := U_lt x
 have E := a31_18
 go_enter Tryz.func121, Tryz.ntmps121
 go_wp2_with go_in
 go_ret
 exact ⟨congrArg (fun n => Ending.returned (.int .u32 n)) (tr_forms x 18 (by omega)), rfl⟩
theorem turned_19 (x : BitVec 32) (w : World) :
  Calls Tryz.prog 121 #[.int .u32 (U x), .int .i64 19] w fun e w' => e = .returned (.int .u32 (U (tr x 19))) ∧ w = w' := by
 have h0 := U_ge x
 have h1 := U_lt x
 have E := a31_19
 go_enter Tryz.func121, Tryz.ntmps121
 go_wp2_with go_in
 go_ret
 exact ⟨congrArg (fun n => Ending.returned (.int .u32 n)) (tr_forms x 19 (by omega)), rfl⟩
theorem turned_22 (x : BitVec 32) (w : World) :
  Calls Tryz.prog 121 #[.int .u32 (U x), .int .i64 22] w fun e w' => e = .returned (.int .u32 (U (tr x 22))) ∧ w = w' := by
 have h0 := U_ge x
 have h1 := U_lt x
 have E := a31_22
 go_enter Tryz.func121, Tryz.ntmps121
 go_wp2_with go_in
 go_ret
 exact ⟨congrArg (fun n => Ending.returned (.int .u32 n)) (tr_forms x 22 (by omega)), rfl⟩
theorem turned_25 (x : BitVec 32) (w : World) :
  Calls Tryz.prog 121 #[.int .u32 (U x), .int .i64 25] w fun e w' => e = .returned (.int .u32 (U (tr x 25))) ∧ w = w' := by
 have h0 := U_ge x
 have h1 := U_lt x
 have E := a31_25
 go_enter Tryz.func121, Tryz.ntmps121
 go_wp2_with go_in
 go_ret
 exact ⟨congrArg (fun n => Ending.returned (.int .u32 n)) (tr_forms x 25 (by omega)), rfl⟩
theorem turn_2 (x : BitVec 32) (w : World) :
  Calls Tryz.prog 67 #[.int .u32 (U x), .int .u64 2] w fun e w' => e = .returned (.int .u32 (U (tr x 2))) ∧ w = w' := by
 have h0 := U_ge x
 have h1 := U_lt x
 go_enter Tryz.func67, Tryz.ntmps67
 go_wp2
 go_ret
 exact ⟨congrArg (fun n => Ending.returned (.int .u32 n)) (tr_forms' x 2 (by omega)), rfl⟩
theorem turn_6 (x : BitVec 32) (w : World) :
  Calls Tryz.prog 67 #[.int .u32 (U x), .int .u64 6] w fun e w' => e = .returned (.int .u32 (U (tr x 6))) ∧ w = w' := by
 have h0 := U_ge x
 have h1 := U_lt x
 go_enter Tryz.func67, Tryz.ntmps67
 go_wp2
 go_ret
 exact ⟨congrArg (fun n => Ending.returned (.int .u32 n)) (tr_forms' x 6 (by omega)), rfl⟩
theorem turn_7 (x : BitVec 32) (w : World) :
  Calls Tryz.prog 67 #[.int .u32 (U x), .int .u64 7] w fun e w' => e = .returned (.int .u32 (U (tr x 7))) ∧ w = w' := by
 have h0 := U_ge x
 have h1 := U_lt x
 go_enter Tryz.func67, Tryz.ntmps67
 go_wp2
 go_ret
 exact ⟨congrArg (fun n => Ending.returned (.int .u32 n)) (tr_forms' x 7 (by omega)), rfl⟩
theorem turn_11 (x : BitVec 32) (w : World) :
  Calls Tryz.prog 67 #[.int .u32 (U x), .int .u64 11] w fun e w' => e = .returned (.int .u32 (U (tr x 11))) ∧ w = w' := by
 have h0 := U_ge x
 have h1 := U_lt x
 go_enter Tryz.func67, Tryz.ntmps67
 go_wp2
 go_ret
 exact ⟨congrArg (fun n => Ending.returned (.int .u32 n)) (tr_forms' x 11 (by omega)), rfl⟩
theorem turn_13 (x : BitVec 32) (w : World) :
  Calls Tryz.prog 67 #[.int .u32 (U x), .int .u64 13] w fun e w' => e = .returned (.int .u32 (U (tr x 13))) ∧ w = w' := by
 have h0 := U_ge x
 have h1 := U_lt x
 go_enter Tryz.func67, Tryz.ntmps67
 go_wp2
 go_ret
 exact ⟨congrArg (fun n => Ending.returned (.int .u32 n)) (tr_forms' x 13 (by omega)), rfl⟩
theorem turn_17 (x : BitVec 32) (w : World) :
  Calls Tryz.prog 67 #[.int .u32 (U x), .int .u64 17] w fun e w' => e = .returned (.int .u32 (U (tr x 17))) ∧ w = w' := by
 have h0 := U_ge x
 have h1 := U_lt x
 go_enter Tryz.func67, Tryz.ntmps67
 go_wp2
 go_ret
 exact ⟨congrArg (fun n => Ending.returned (.int .u32 n)) (tr_forms' x 17 (by omega)), rfl⟩
theorem turn_18 (x : BitVec 32) (w : World) :
  Calls Tryz.prog 67 #[.int .u32 (U x), .int .u64 18] w fun e w' => e = .returned (.int .u32 (U (tr x 18))) ∧ w = w' := by
 have h0 := U_ge x
 have h1 := U_lt x
 go_enter Tryz.func67, Tryz.ntmps67
 go_wp2
 go_ret
 exact ⟨congrArg (fun n => Ending.returned (.int .u32 n)) (tr_forms' x 18 (by omega)), rfl⟩
theorem turn_19 (x : BitVec 32) (w : World) :
  Calls Tryz.prog 67 #[.int .u32 (U x), .int .u64 19] w fun e w' => e = .returned (.int .u32 (U (tr x 19))) ∧ w = w' := by
 have h0 := U_ge x
 have h1 := U_lt x
 go_enter Tryz.func67, Tryz.ntmps67
 go_wp2
 go_ret
 exact ⟨congrArg (fun n => Ending.returned (.int .u32 n)) (tr_forms' x 19 (by omega)), rfl⟩
theorem turn_22 (x : BitVec 32) (w : World) :
  Calls Tryz.prog 67 #[.int .u32 (U x), .int .u64 22] w fun e w' => e = .returned (.int .u32 (U (tr x 22))) ∧ w = w' := by
 have h0 := U_ge x
 have h1 := U_lt x
 go_enter Tryz.func67, Tryz.ntmps67
 go_wp2
 go_ret
 exact ⟨congrArg (fun n => Ending.returned (.int .u32 n)) (tr_forms' x 22 (by omega)), rfl⟩
theorem turn_25 (x : BitVec 32) (w : World) :
  Calls Tryz.prog 67 #[.int .u32 (U x), .int .u64 25] w fun e w' => e = .returned (.int .u32 (U (tr x 25))) ∧ w = w' := by
 have h0 := U_ge x
 have h1 := U_lt x
 go_enter Tryz.func67, Tryz.ntmps67
 go_wp2
 go_ret
 exact ⟨congrArg (fun n => Ending.returned (.int .u32 n)) (tr_forms' x 25 (by omega)), rfl⟩
structure Held (p : Prop) : Prop where
 out : p
theorem run_index_row {P : Program} (w : World) (t e : TypeId) (N : Nat) (R : Array Value) (n : Nat) (k : IntKind) (he : P.underlying e = some (.int k)) (hs : (P.info? e).map (·.size) = some 1) (ht : P.underlying t = some (.array N e)) (hn : n < N) (u : Value) (h : R[n]? = some u) :
  (Instr.index t (.agg R) (.int .i64 (n : Int))).run P w = .ok u w := by
 have h1 : (0 : Int) ≤ (n : Int) ∧ (n : Int) < (N : Int) := by omega
 cases hq : P.info? e with
 | none => simp [hq] at hs
 | some i =>
  have hi : i.size = 1 := by simpa [hq] using hs
  simp [Instr.index, run_underlying ht, asIntOf, h1, sizeOf, typeInfo, hq, hi, part, isAgg, run_underlying he, h, go_sem]
  omega
theorem wpList_index {P : Program} {ops : Array Oper} {rest : List Oper} {op : Oper} {a : Act} {w : World} {Q : Exit → Act → World → Prop} (hgd : op.guard = none) (t : TypeId) (x ix : Operand) (ho : op.op = .index t x ix) (vx vi : Value) (hx : a.eval x = vx) (hi : a.eval ix = vi) (v : Value)
  (hrun : (Instr.index t vx vi).run P w = .ok v w) (h : wpList P ops Q rest (a.put op.dst v) w) : wpList P ops Q (op :: rest) a w :=
 wpList_plain hgd fun _ hK => by
  unfold Oper.wp execOp
  simp only [ho, hx, hi, Sem.run_bind, Sem.run_pure, Result.andThen_ok, hrun]
  exact hK _ _ h
theorem idx8 (w : World) (R : Array Value) (n : Nat) (hn : n < 8) (u : Value) (h : R[n]? = some u) : (Instr.index 142 (.agg R) (.int .i64 (n : Int))).run Tryz.prog w = .ok u w :=
 run_index_row w _ 102 8 R n .u32 (by kernel_rfl) (by kernel_rfl) (by kernel_rfl) hn u h
theorem idx64 (w : World) (R : Array Value) (n : Nat) (hn : n < 64) (u : Value) (h : R[n]? = some u) : (Instr.index 160 (.agg R) (.int .i64 (n : Int))).run Tryz.prog w = .ok u w :=
 run_index_row w _ 102 64 R n .u32 (by kernel_rfl) (by kernel_rfl) (by kernel_rfl) hn u h
def trI (x : BitVec 32) (k : Int) : BitVec 32 := tr x k.toNat
theorem turned_any (x : BitVec 32) (k : Int) (hk : k ∈ ([2, 6, 7, 11, 13, 17, 18, 19, 22, 25] : List Int)) (w : World) :
  Calls Tryz.prog 121 #[.int .u32 (U x), .int .i64 k] w fun e w' => e = .returned (.int .u32 (U (trI x k))) ∧ w = w' := by
 simp only [List.mem_cons, List.mem_nil_iff, or_false] at hk
 rcases hk with rfl | rfl | rfl | rfl | rfl | rfl | rfl | rfl | rfl | rfl
 ·exact turned_2 x w
 ·exact turned_6 x w
 ·exact turned_7 x w
 ·exact turned_11 x w
 ·exact turned_13 x w
 ·exact turned_17 x w
 ·exact turned_18 x w
 ·exact turned_19 x w
 ·exact turned_22 x w
 ·exact turned_25 x w
attribute [local go_sem] U_xor U_and U_or U_add U_add' U_not U_shr3 U_shr10
def us (l : List (BitVec 32)) : List Value := l.map fun x => Value.int .u32 (U x)
theorem us_length (l : List (BitVec 32)) : (us l).length = l.length := by simp [us]
def wtab (l : List (BitVec 32)) : Array Value := (us l ++ List.replicate (64 - l.length) (Value.int .u32 0)).toArray
theorem wtab_at (l : List (BitVec 32)) (i : Nat) (h : i < l.length) : (wtab l)[i]? = some (.int .u32 (U (at32 l i))) := by
 simp [wtab, us, at32, List.getElem?_append, h, List.getD, List.getElem?_eq_getElem h]
theorem wtab_next (l : List (BitVec 32)) (h : l.length < 64) : (wtab l)[l.length]? = some (.int .u32 0) := by
 simp only [wtab, us, List.getElem?_toArray, List.getElem?_append, List.length_map, Nat.lt_irrefl, if_false, Nat.sub_self]
 rw [List.getElem?_replicate]; simp; omega
theorem wtab_set (l : List (BitVec 32)) (x : BitVec 32) (h : l.length < 64) : (wtab l).setIfInBounds l.length (.int .u32 (U x)) = wtab (l ++ [x]) := by
 unfold wtab
 rw [List.setIfInBounds_toArray]
 congr 1
 have e : 64 - l.length = (64 - (l ++ [x]).length) + 1 := by simp; omega
 rw [List.set_append_right _ _ (by simp [us]), e, List.replicate_succ]
 simp [us]
theorem be_forms (a b c d : UInt8) : bits BinOp.or IntKind.u32 (bits BinOp.or IntKind.u32 (bits BinOp.or IntKind.u32 ((a.toNat : Int) * 16777216) ((b.toNat : Int) * 65536)) ((c.toNat : Int) * 256)) (d.toNat : Int) = U (be a b c d) := by
 have ha := a.toNat_lt; have hb := b.toNat_lt; have hc := c.toNat_lt; have hd := d.toNat_lt
 have o1 : a.toNat * 16777216 ||| b.toNat * 65536 = a.toNat * 16777216 + b.toNat * 65536 := by
  have := Nat.two_pow_add_eq_or_of_lt (i := 24) (b := b.toNat * 65536) (by simp only [Nat.reducePow]; omega) a.toNat
  simp only [Nat.reducePow] at this
  rw [Nat.mul_comm a.toNat]; exact this.symm
 have o2 : (a.toNat * 256 + b.toNat) * 65536 ||| c.toNat * 256 = (a.toNat * 256 + b.toNat) * 65536 + c.toNat * 256 := by
  have := Nat.two_pow_add_eq_or_of_lt (i := 16) (b := c.toNat * 256) (by simp only [Nat.reducePow]; omega) (a.toNat * 256 + b.toNat)
  simp only [Nat.reducePow] at this
  rw [Nat.mul_comm _ 65536]; exact this.symm
 have o3 : ((a.toNat * 256 + b.toNat) * 256 + c.toNat) * 256 ||| d.toNat = ((a.toNat * 256 + b.toNat) * 256 + c.toNat) * 256 + d.toNat := by
  have := Nat.two_pow_add_eq_or_of_lt (i := 8) (b := d.toNat) (by simp only [Nat.reducePow]; omega) ((a.toNat * 256 + b.toNat) * 256 + c.toNat)
  simp only [Nat.reducePow] at this
  rw [Nat.mul_comm _ 256]; exact this.symm
 have e1 : bits BinOp.or IntKind.u32 ((a.toNat : Int) * 16777216) ((b.toNat : Int) * 65536) = (((a.toNat * 256 + b.toNat) * 65536 : Nat) : Int) := by
  have h := u32_or_nat (a.toNat * 16777216) (b.toNat * 65536) (by omega) (by omega)
  rw [o1] at h
  rw [show a.toNat * 16777216 + b.toNat * 65536 = (a.toNat * 256 + b.toNat) * 65536 by omega] at h
  exact h
 have e2 : bits BinOp.or IntKind.u32 (((a.toNat * 256 + b.toNat) * 65536 : Nat) : Int) ((c.toNat : Int) * 256) = ((((a.toNat * 256 + b.toNat) * 256 + c.toNat) * 256 : Nat) : Int) := by
  have h := u32_or_nat ((a.toNat * 256 + b.toNat) * 65536) (c.toNat * 256) (by omega) (by omega)
  rw [o2] at h
  rw [show (a.toNat * 256 + b.toNat) * 65536 + c.toNat * 256 = ((a.toNat * 256 + b.toNat) * 256 + c.toNat) * 256 by omega] at h
  exact h
 have h := u32_or_nat (((a.toNat * 256 + b.toNat) * 256 + c.toNat) * 256) d.toNat (by omega) (by omega)
 rw [o3] at h
 rw [e1, e2, h]
 unfold U be
 rw [BitVec.toNat_ofNat]
 simp only [Nat.reducePow]
 omega
def setMany (d : Array Value) : Nat → List Value → Array Value
 | _, [] => d
 | o, v :: r => setMany (d.setIfInBounds o v) (o + 1) r
theorem Blk_sets {g : Nat} {t : TypeId} : ∀ (vs : List Value) (o : Nat) (d : Array Value) (w : World), Blk w g d t → Blk (w.setCells g o vs) g (setMany d o vs) t
 | [], _, _, _, h => h
 | v :: r, o, d, w, h => by
  rw [World.setCells, setMany]
  exact Blk_sets r (o + 1) _ _ (h.set o v)
theorem Ext_sets {a : World} {g : Nat} (hg : a.heap.size ≤ g) : ∀ (vs : List Value) (o : Nat) {w : World}, Ext a w → Ext a (w.setCells g o vs)
 | [], _, _, h => h
 | v :: r, o, w, h => by
  rw [World.setCells]
  exact Ext_sets hg r (o + 1) (h.setCell hg v)
theorem Blk_far {g h : Nat} {t : TypeId} {d : Array Value} (hne : g ≠ h) : ∀ (vs : List Value) (o : Nat) {w : World}, Blk w g d t → Blk (w.setCells h o vs) g d t
 | [], _, _, b => b
 | v :: r, o, w, b => by
  rw [World.setCells]
  exact Blk_far hne r (o + 1) (b.far (p := ⟨h, o, none⟩) hne v)
theorem us_one (l : List (BitVec 32)) : ∀ u ∈ us l, u.oneCell' = true := by
 intro u hu
 simp only [us, List.mem_map] at hu
 obtain ⟨c, _, rfl⟩ := hu
 rfl
theorem us_at (l : List (BitVec 32)) (i : Nat) (h : i < l.length) : (us l)[i]? = some (.int .u32 (U (at32 l i))) := by
 simp [us, at32, h, List.getD, List.getElem?_eq_getElem h]
theorem wp_copy {P : Program} (w : World) {o : Oper} {a : Act} {K : Act → World → Prop} {Q : Exit → Act → World → Prop} (d s : Operand) (dT sT : TypeId)
  (ho : o.op = .call { callee := .builtin .copy, args := #[d, s], argTypes := #[dT, sT] }) (vd vs : Value) (hd : a.eval d = vd) (hs : a.eval s = vs) (v : Value) (w' : World)
  (hrun : (Builtin.copy_ #[dT, sT] o.type #[vd, vs]).run P w = .ok v w') (h : K (a.put o.dst v) w') : o.wp P a w K Q := by
 unfold Oper.wp execOp
 simp only [ho, resolve, invoke, builtin, Sem.run_bind, Sem.run_pure, Result.andThen_ok, List.map_toArray, List.map_cons, List.map_nil, hd, hs, hrun]
 exact h
theorem U_s3 (a : BitVec 32) : U a / (8 : Int) = U (a >>> 3) := U_shr a 3
theorem U_s10 (a : BitVec 32) : U a / (1024 : Int) = U (a >>> 10) := U_shr a 10
theorem next_form (a b c d : BitVec 32) : (((U a + bits BinOp.xor IntKind.u32 (U (tr b 7 ^^^ tr b 18)) (U b / 8)) % 4294967296 + U c) % 4294967296 + bits BinOp.xor IntKind.u32 (U (tr d 17 ^^^ tr d 19)) (U d / 1024)) % 4294967296 = U (a + s0 b + c + s1 d) := by
 simp only [U_s3, U_s10, U_xor, U_add]; rfl
theorem U_not' (a : BitVec 32) : bits BinOp.xor IntKind.u32 IntKind.u32.max (U a) = U (~~~a) := U_not a
theorem t1_form (A B e g K X : BitVec 32) : (U A + bits BinOp.xor IntKind.u32 (U B) (bits BinOp.and IntKind.u32 (bits BinOp.xor IntKind.u32 IntKind.u32.max (U e)) (U g)) + U K + U X) % 4294967296 = U (A + (B ^^^ (~~~e &&& g)) + K + X) := by
 rw [U_not', U_and, U_xor]
 unfold U
 simp only [BitVec.toNat_add, Nat.reducePow]
 omega
theorem copy_src {W : World} {m : Nat} {t : TypeId} {st : ShaP.St} (hb : Blk W m (us st.list).toArray t) : ∀ j v, (us [st.a, st.b, st.c, st.d, st.e, st.f, st.g])[j]? = some v → W.cell? ((⟨m, 0, none⟩ : Addr).add j) = some v := by
 intro j v hj
 rw [Addr.add_mid, Nat.zero_add, hb.cell j]
 have h7 : j < 7 := by have := (List.getElem?_eq_some_iff.1 hj).1; simpa [us] using this
 rw [← hj]
 simp only [List.getElem?_toArray]
 show (us ([st.a, st.b, st.c, st.d, st.e, st.f, st.g] ++ [st.h]))[j]? = _
 rw [us, List.map_append, List.getElem?_append_left (by simpa using h7)]; rfl
theorem copied (st : ShaP.St) : setMany (us st.list).toArray 1 (us [st.a, st.b, st.c, st.d, st.e, st.f, st.g]) = (us [st.a, st.a, st.b, st.c, st.d, st.e, st.f, st.g]).toArray := by
 simp [setMany, us, St.list]
theorem copy_there {W : World} {m : Nat} {t : TypeId} {st : ShaP.St} (hb : Blk W m (us st.list).toArray t) : ∀ j, j < (us [st.a, st.b, st.c, st.d, st.e, st.f, st.g]).length → (W.cell? ⟨m, 1 + j, none⟩).isSome = true := by
 intro j hj
 rw [hb.cell, List.getElem?_toArray, List.getElem?_eq_getElem (by simp [us, St.list] at hj ⊢; omega)]; rfl
def mix (a b : List (BitVec 32)) (k : Nat) : List (BitVec 32) := (List.range 8).map fun i => if i < k then at32 a i + at32 b i else at32 a i
theorem mix_length (a b : List (BitVec 32)) (k : Nat) : (mix a b k).length = 8 := by simp [mix]
theorem mix_zero (s : ShaP.St) (b : List (BitVec 32)) : mix s.list b 0 = s.list := by simp [mix, List.range, List.range.loop, St.list, at32]
theorem mix_all (s t : ShaP.St) : mix s.list t.list 8 = (s.plus t).list := by simp [mix, List.range, List.range.loop, St.list, at32, St.plus]
theorem mix_at (a b : List (BitVec 32)) (k : Nat) (h : k < 8) : at32 (mix a b k) k = at32 a k := by
 simp [at32, mix, List.getD, h]
theorem mix_set (a b : List (BitVec 32)) (k : Nat) (h : k < 8) (r : List Value) : (((us (mix a b k)).toArray ++ r.toArray).setIfInBounds k (.int .u32 (U (at32 a k + at32 b k)))) = (us (mix a b (k + 1))).toArray ++ r.toArray := by
 have e : ∀ j, j < 8 → ((us (mix a b k)).set k (.int .u32 (U (at32 a k + at32 b k))))[j]? = (us (mix a b (k + 1)))[j]? := fun j hj => by
  simp only [us, mix, List.getElem?_set, List.map_map, List.getElem?_map, List.getElem?_range hj, List.length_map, List.length_range, Option.map_some, Function.comp]
  by_cases hkj : k = j
  ·subst hkj; simp [h]
  ·have h1 : (j < k) = (j < k + 1) := by rw [eq_iff_iff]; omega
   simp [hkj, h1]
 have e2 : (us (mix a b k)).set k (.int .u32 (U (at32 a k + at32 b k))) = us (mix a b (k + 1)) := by
  apply List.ext_getElem?
  intro j
  by_cases hj : j < 8
  ·exact e j hj
  ·rw [List.getElem?_eq_none (by simp [us, mix]; omega), List.getElem?_eq_none (by simp [us, mix]; omega)]
 simp only [List.append_toArray, List.setIfInBounds_toArray]
 rw [List.set_append_left _ _ (by simp [us, mix]; omega), e2]
theorem grown_ext {a b c : World} {r : Option Nat} (h : a.grownBy b r) (k : Ext b c) : a.grownBy c r :=
 ⟨k.os.trans h.os, k.tape.trans h.tape, k.output.trans h.output, Nat.le_trans h.size k.size, fun i hi hr => (k.block i (Nat.lt_of_lt_of_le hi h.size)).trans (h.block i hi hr)⟩
theorem ext_grown {a b : World} (r : Option Nat) (h : Ext a b) : a.grownBy b r := ⟨h.os, h.tape, h.output, h.size, fun i hi _ => h.block i hi⟩
theorem grown_set {a b : World} {g : Nat} (h : a.grownBy b (some g)) (o : Nat) (v : Value) : a.grownBy (b.setCell ⟨g, o, none⟩ v) (some g) :=
 ⟨h.os, h.tape, h.output, by simpa using h.size, fun i hi hr => (heap_setCell_other b ⟨g, o, none⟩ i v (fun e => hr (by rw [e]))).trans (h.block i hi hr)⟩
theorem us_list_at (s : ShaP.St) (k : Nat) (h : k < 8) : (#[Value.int .u32 (U s.a), .int .u32 (U s.b), .int .u32 (U s.c), .int .u32 (U s.d), .int .u32 (U s.e), .int .u32 (U s.f), .int .u32 (U s.g), .int .u32 (U s.h)] : Array Value)[k]? = some (.int .u32 (U (at32 s.list k))) := by
 have := us_at s.list k h
 rw [List.getElem?_toArray]; exact this
theorem head_at (a b : List (BitVec 32)) (k : Nat) (h : k < 8) (r : List Value) : ((us (mix a b k)).toArray ++ r.toArray)[k]? = some (.int .u32 (U (at32 a k))) := by
 rw [List.append_toArray, List.getElem?_toArray, List.getElem?_append_left (by simp [us, mix]; omega), us_at _ _ (by rw [mix_length]; exact h), mix_at a b k h]
set_option maxHeartbeats 4000000 in
theorem takes_any (g : Nat) (s : ShaP.St) (vl vc : Value) (A : Option Addr) (c : Nat) (l : List UInt8) (w : World) (hl : l.length = 64) (hr : Rb w A l)
  (hg : Blk w g ((us s.list).toArray ++ #[vl, vc]) 144) (hroots : ∀ j v, (us roots)[j]? = some v → w.cell? ⟨1, j, none⟩ = some v) :
  Calls Tryz.prog 107 #[.pointer (some ⟨g, 0, none⟩), .slice A 64 c] w fun e w' => e = .returned (.tuple #[]) ∧ Blk w' g ((us (ShaP.block s l).list).toArray ++ #[vl, vc]) 144 ∧ w.grownBy w' (some g) := by
 obtain ⟨b, off, rfl⟩ := hr.some_ (by omega)
 have Hl := Lib.hid hl
 clear hl
 have hgw : g < w.heap.size := hg.lt
 have hx0 : Ext w (w.alloc (.cells (wtab []) 160)) := (Ext.refl w).alloc _
 go_enter Tryz.func107, Tryz.ntmps107
 go_wp2_with fail
 go_loopw [5, 18, 20, 21, 22, 23, 24, 25, 26, 27, 28, 29, 30, 31, 32, 33, 34, 35, 36, 37, 38, 39, 40, 41, 42, 43, 44, 45, 46, 47, 48, 49, 50, 51, 52, 53, 54, 55, 56] (fun i5 k v20 v21 v22 v23 v24 v25 v26 v27 v28 v29 v30 v31 v32 v33 v34 v35 v36 v37 v38 v39 v40 v41 v42 v43 v44 v45 v46 v47 v48 v49 v50 v51 v52 v53 v54 v55 v56 wr => ∃ n : Nat, n ≤ 16 ∧ k = .int .i64 n ∧ Blk wr w.heap.size (wtab (sch l n)) 160 ∧ Ext w wr) (fun _ k _ _ _ _ _ _ _ _ _ _ _ _ _ _ _ _ _ _ _ _ _ _ _ _ _ _ _ _ _ _ _ _ _ _ _ _ _ _ => 16 - (intOf k).toNat)
 case atStart => exact ⟨0, by omega, rfl, Blk.new _ _ _, (Ext.refl w).alloc _⟩
 case round =>
  obtain ⟨n, hn, rfl, hb, hx⟩ := hrel
  by_cases hlt : n < 16
  ·go_wp2_with fail
   have hbytes : ∀ j, j < 4 → ∀ W, Ext w W → W.cell? ⟨b, off + (4 * n + j), none⟩ = some (.int .u8 ((at8 l (4 * n + j)).toNat : Int)) := fun j hj W hW => by
    obtain ⟨b', off', e, hc⟩ := (hr.ext hW).at_ (k := 4 * n + j) (by have := Hl.out; omega)
    simp only [Option.some.injEq, Addr.mk.injEq, and_true] at e
    obtain ⟨rfl, rfl⟩ := e
    rw [hc]; simp [at8, List.getD, List.getElem?_eq_getElem (show 4 * n + j < l.length by have := Hl.out; omega)]
   have c0 := hbytes 0 (by omega)
   have c1 := hbytes 1 (by omega)
   have c2 := hbytes 2 (by omega)
   have c3 := hbytes 3 (by omega)
   clear hbytes
   obtain ⟨x0, hx0'⟩ : ∃ x, Hid (at8 l (4 * n + 0) = x) := ⟨_, rfl⟩
   obtain ⟨x1, hx1'⟩ : ∃ x, Hid (at8 l (4 * n + 1) = x) := ⟨_, rfl⟩
   obtain ⟨x2, hx2'⟩ : ∃ x, Hid (at8 l (4 * n + 2) = x) := ⟨_, rfl⟩
   obtain ⟨x3, hx3'⟩ : ∃ x, Hid (at8 l (4 * n + 3) = x) := ⟨_, rfl⟩
   rw [hx0'.out] at c0; rw [hx1'.out] at c1; rw [hx2'.out] at c2; rw [hx3'.out] at c3
   have hform := be_forms x0 x1 x2 x3
   obtain ⟨m0, hm0⟩ : ∃ m, Hid (4 * n + 0 = m) := ⟨_, rfl⟩
   obtain ⟨m1, hm1⟩ : ∃ m, Hid (4 * n + 1 = m) := ⟨_, rfl⟩
   obtain ⟨m2, hm2⟩ : ∃ m, Hid (4 * n + 2 = m) := ⟨_, rfl⟩
   obtain ⟨m3, hm3⟩ : ∃ m, Hid (4 * n + 3 = m) := ⟨_, rfl⟩
   have q0 : IntKind.i64.wrap (4 * (n : Int)) = (m0 : Int) := by rw [IntKind.wrap_i64, ← hm0.out]; omega
   have q1 : IntKind.i64.wrap ((m0 : Int) + 1) = (m1 : Int) := by rw [IntKind.wrap_i64, ← hm0.out, ← hm1.out]; omega
   have q2 : IntKind.i64.wrap ((m0 : Int) + 2) = (m2 : Int) := by rw [IntKind.wrap_i64, ← hm0.out, ← hm2.out]; omega
   have q3 : IntKind.i64.wrap ((m0 : Int) + 3) = (m3 : Int) := by rw [IntKind.wrap_i64, ← hm0.out, ← hm3.out]; omega
   have b0 : (m0 : Int) < 64 := by have := hm0.out; omega
   have b1 : (m1 : Int) < 64 := by have := hm1.out; omega
   have b2 : (m2 : Int) < 64 := by have := hm2.out; omega
   have b3 : (m3 : Int) < 64 := by have := hm3.out; omega
   rw [hm0.out] at c0 hx0'; rw [hm1.out] at c1 hx1'; rw [hm2.out] at c2 hx2'; rw [hm3.out] at c3 hx3'
   have bn : (n : Int) < 64 := by omega
   have y0 := x0.toNat_lt; have y1 := x1.toNat_lt; have y2 := x2.toNat_lt; have y3 := x3.toNat_lt
   obtain ⟨X, hX⟩ : ∃ X : BitVec 32, Hid (be x0 x1 x2 x3 = X) := ⟨_, rfl⟩
   rw [hX.out] at hform
   have hfr : ∀ W, Ext wr W → W.frozen? ⟨w.heap.size, n, none⟩ = false := fun W hW => (hb.ext hW).frozen n
   have hce : ∀ W, Ext wr W → W.cell? ⟨w.heap.size, n, none⟩ = some (.int .u32 0) := fun W hW => ((hb.ext hW).cell n).trans (by have := wtab_next (sch l n) (by rw [sch_length]; omega); rwa [sch_length] at this)
   refine Reg.startE (by kernel_rfl) ?_
   iterate 5 ((first | refine Reg.tn ?_ | refine Reg.sn ?_); (try simp only [Reg.nn]))
   refine Reg.rk 5 w ?_; (try simp only [Reg.nn])
   refine Reg.rk 6 w ?_; (try simp only [Reg.nn])
   iterate 6 ((first | refine Reg.tn ?_ | refine Reg.sn ?_); (try simp only [Reg.nn]))
   refine Reg.rk 13 w ?_; (try simp only [Reg.nn])
   refine Reg.rk 14 w ?_; (try simp only [Reg.nn])
   iterate 7 ((first | refine Reg.tn ?_ | refine Reg.sn ?_); (try simp only [Reg.nn]))
   refine Reg.rk 22 w ?_; (try simp only [Reg.nn])
   refine Reg.rk 23 w ?_; (try simp only [Reg.nn])
   iterate 7 ((first | refine Reg.tn ?_ | refine Reg.sn ?_); (try simp only [Reg.nn]))
   refine Reg.rk 31 w ?_; (try simp only [Reg.nn])
   refine Reg.rk 32 w ?_; (try simp only [Reg.nn])
   iterate 2 ((first | refine Reg.tn ?_ | refine Reg.sn ?_); (try simp only [Reg.nn]))
   refine Reg.last 35 _ rfl (by kernel_rfl) (by kernel_rfl) (by kernel_rfl) (by decide) (by rfl) (fun W hW K hK => ?_)
   have hf1 := hfr W hW
   have hc1 := hce W hW
   go_simp
   refine hK.out _ _ ?_; clear hK K; (try simp only [Reg.nn])
   go_wp2_with fail
   go_roundw
   case rel =>
    refine ⟨n + 1, by omega, by go_num, ?_, (hx.trans hW).setCell (Nat.le_refl _) _⟩
    have hq := (hb.ext hW).set n (.int .u32 (U X))
    have hs := wtab_set (sch l n) X (by rw [sch_length]; omega)
    rw [sch_length] at hs
    rw [hs] at hq
    rw [show sch l (n + 1) = sch l n ++ [X] by rw [sch, if_pos hlt, word, ← hX.out, ← hx0'.out, ← hx1'.out, ← hx2'.out, ← hx3'.out, ← hm0.out, ← hm1.out, ← hm2.out, ← hm3.out]; rfl]
    rw [hform]
    exact hq
   case measure => simp [intOf]; omega
  ·obtain rfl : n = 16 := by omega
   go_wp2_with fail
   go_loopw [6, 7, 8, 57, 59, 60, 61, 62, 63, 64, 65, 66, 67, 68, 69, 70, 71, 72, 73, 74, 75, 76, 77, 78, 79, 80, 81, 82, 83, 84, 85, 86, 87, 88, 89, 90, 91, 92, 93, 94, 95, 96, 97] (fun k v7 v8 v57 v59 v60 v61 v62 v63 v64 v65 v66 v67 v68 v69 v70 v71 v72 v73 v74 v75 v76 v77 v78 v79 v80 v81 v82 v83 v84 v85 v86 v87 v88 v89 v90 v91 v92 v93 v94 v95 v96 v97 wv => ∃ n : Nat, n ≤ 64 ∧ 16 ≤ n ∧ k = .int .i64 n ∧ Blk wv w.heap.size (wtab (sch l n)) 160 ∧ Ext w wv) (fun k _ _ _ _ _ _ _ _ _ _ _ _ _ _ _ _ _ _ _ _ _ _ _ _ _ _ _ _ _ _ _ _ _ _ _ _ _ _ _ _ _ _ _ => 64 - (intOf k).toNat)
   case atStart => exact ⟨16, by omega, by omega, rfl, hb, hx⟩
   case round =>
    clear hb hx hx0 hlt hn
    obtain ⟨n, hn, h16, rfl, hb, hx⟩ := hrel
    by_cases hlt : n < 64
    ·have hlen := Lib.hid (sch_length l n)
     obtain ⟨m15, hm15⟩ : ∃ m, Hid (n - 15 = m) := ⟨_, rfl⟩
     obtain ⟨m2, hm2⟩ : ∃ m, Hid (n - 2 = m) := ⟨_, rfl⟩
     obtain ⟨m16, hm16⟩ : ∃ m, Hid (n - 16 = m) := ⟨_, rfl⟩
     obtain ⟨m7, hm7⟩ : ∃ m, Hid (n - 7 = m) := ⟨_, rfl⟩
     have q15 : IntKind.i64.wrap ((n : Int) - 15) = (m15 : Int) := by rw [IntKind.wrap_i64, ← hm15.out]; omega
     have q2 : IntKind.i64.wrap ((n : Int) - 2) = (m2 : Int) := by rw [IntKind.wrap_i64, ← hm2.out]; omega
     have q16 : IntKind.i64.wrap ((n : Int) - 16) = (m16 : Int) := by rw [IntKind.wrap_i64, ← hm16.out]; omega
     have q7 : IntKind.i64.wrap ((n : Int) - 7) = (m7 : Int) := by rw [IntKind.wrap_i64, ← hm7.out]; omega
     have b15 : (m15 : Int) < 64 := by have := hm15.out; omega
     have b2 : (m2 : Int) < 64 := by have := hm2.out; omega
     have b16 : (m16 : Int) < 64 := by have := hm16.out; omega
     have b7 : (m7 : Int) < 64 := by have := hm7.out; omega
     have bn : (n : Int) < 64 := by omega
     have hcs : ∀ m, m < n → ∀ W, Ext wr W → W.cell? ⟨w.heap.size, m, none⟩ = some (.int .u32 (U (at32 (sch l n) m))) := fun m hm W hW => ((hb.ext hW).cell m).trans (wtab_at (sch l n) m (by rw [hlen.out]; exact hm))
     have c15 := hcs m15 (by have := hm15.out; omega)
     have c2 := hcs m2 (by have := hm2.out; omega)
     have c16 := hcs m16 (by have := hm16.out; omega)
     have c7 := hcs m7 (by have := hm7.out; omega)
     clear hcs
     obtain ⟨X15, hX15⟩ : ∃ X, Hid (at32 (sch l n) m15 = X) := ⟨_, rfl⟩
     obtain ⟨X2, hX2⟩ : ∃ X, Hid (at32 (sch l n) m2 = X) := ⟨_, rfl⟩
     obtain ⟨X16, hX16⟩ : ∃ X, Hid (at32 (sch l n) m16 = X) := ⟨_, rfl⟩
     obtain ⟨X7, hX7⟩ : ∃ X, Hid (at32 (sch l n) m7 = X) := ⟨_, rfl⟩
     rw [hX15.out] at c15; rw [hX2.out] at c2; rw [hX16.out] at c16; rw [hX7.out] at c7
     have d15 := c15 wr (Ext.refl _)
     have d2 := c2 wr (Ext.refl _)
     go_wp2_with fail
     go_quiet (fail)
     go_wp2_with fail
     clear d15 d2 c15 c2
     have c16 : ∀ W, Ext (wr.drewN nq) W → _ := fun W hW => c16 W (Ext.undrewN hW)
     have c7 : ∀ W, Ext (wr.drewN nq) W → _ := fun W hW => c7 W (Ext.undrewN hW)
     have hbq : Blk (wr.drewN nq) w.heap.size (wtab (sch l n)) 160 := hb
     have hxq : Ext w (wr.drewN nq) := hx.drewN nq
     refine Reg.startE (by kernel_rfl) ?_
     refine Reg.tk 0 ?_; (try simp only [Reg.nn])
     refine Reg.tk 1 ?_; (try simp only [Reg.nn])
     refine Reg.tk 2 ?_; (try simp only [Reg.nn])
     refine Reg.tk 3 ?_; (try simp only [Reg.nn])
     refine Reg.rk 4 w ?_; (try simp only [Reg.nn])
     refine Reg.tk 5 ?_; (try simp only [Reg.nn])
     refine Reg.tk 7 ?_; (try simp only [Reg.nn])
     refine Reg.tk 10 ?_; (try simp only [Reg.nn])
     refine Reg.tk 11 ?_; (try simp only [Reg.nn])
     refine Reg.tk 14 ?_; (try simp only [Reg.nn])
     refine Reg.tk 15 ?_; (try simp only [Reg.nn])
     refine Reg.tk 16 ?_; (try simp only [Reg.nn])
     refine Reg.rk 17 w ?_; (try simp only [Reg.nn])
     refine Reg.tk 19 ?_; (try simp only [Reg.nn])
     refine Reg.tk 21 ?_; (try simp only [Reg.nn])
     refine Reg.tk 24 ?_; (try simp only [Reg.nn])
     refine Reg.tk 25 ?_; (try simp only [Reg.nn])
     refine Reg.onlyE 6 _ rfl (by kernel_rfl) (by decide) (by rfl) (fun W hW K hK => ?_); go_simp
     go_at_call 121
     refine (turned_7 X15 _).mono ?_
     rintro e wX ⟨rfl, rfl⟩
     refine hK.out _ _ (Ext.refl _) ?_; clear hK K; (try simp only [Reg.nn])
     refine Reg.onlyE 8 _ rfl (by kernel_rfl) (by decide) (by rfl) (fun W hW K hK => ?_); go_simp
     go_at_call 121
     refine (turned_18 X15 _).mono ?_
     rintro e wX ⟨rfl, rfl⟩
     refine hK.out _ _ (Ext.refl _) ?_; clear hK K; (try simp only [Reg.nn])
     refine Reg.tk 9 ?_; (try simp only [Reg.nn])
     refine Reg.tk 12 ?_; (try simp only [Reg.nn])
     refine Reg.tk 13 ?_; (try simp only [Reg.nn])
     refine Reg.tk 18 ?_; (try simp only [Reg.nn])
     refine Reg.onlyE 20 _ rfl (by kernel_rfl) (by decide) (by rfl) (fun W hW K hK => ?_); go_simp
     go_at_call 121
     refine (turned_17 X2 _).mono ?_
     rintro e wX ⟨rfl, rfl⟩
     refine hK.out _ _ (Ext.refl _) ?_; clear hK K; (try simp only [Reg.nn])
     refine Reg.onlyE 22 _ rfl (by kernel_rfl) (by decide) (by rfl) (fun W hW K hK => ?_); go_simp
     go_at_call 121
     refine (turned_19 X2 _).mono ?_
     rintro e wX ⟨rfl, rfl⟩
     refine hK.out _ _ (Ext.refl _) ?_; clear hK K; (try simp only [Reg.nn])
     refine Reg.tk 23 ?_; (try simp only [Reg.nn])
     refine Reg.tk 26 ?_; (try simp only [Reg.nn])
     refine Reg.tk 27 ?_; (try simp only [Reg.nn])
     refine Reg.tk 28 ?_; (try simp only [Reg.nn])
     refine Reg.last 29 _ rfl (by kernel_rfl) (by kernel_rfl) (by kernel_rfl) (by decide) (by rfl) (fun W hW K hK => ?_)
     have hxW : Ext (wr.drewN nq) W := (by repeat (first | assumption | exact Ext.refl _ | refine Ext.trans (by assumption) ?_ | apply Ext.drew | apply Ext.drewN | apply Ext.alloc))
     have hf1 := (hbq.ext hxW).frozen n
     have hc1 : W.cell? ⟨w.heap.size, n, none⟩ = some (.int .u32 0) := ((hbq.ext hxW).cell n).trans (by have := wtab_next (sch l n) (by rw [sch_length]; omega); rwa [sch_length] at this)
     go_simp
     refine hK.out _ _ ?_; clear hK K; (try simp only [Reg.nn])
     go_wp2_with fail
     refine ⟨?_, ?measure⟩
     refine ⟨_, _, _, _, _, _, _, _, _, _, _, _, _, _, _, _, _, _, _, _, _, _, _, _, _, _, _, _, _, _, _, _, _, _, _, _, _, _, _, _, _, _, _, _, ?rel, rfl⟩
     case rel =>
      refine ⟨n + 1, by omega, by omega, by go_num, ?_, (hxq.trans hxW).setCell (Nat.le_refl _) _⟩
      have hq := (hbq.ext hxW).set n (.int .u32 (U (nextW (sch l n))))
      have hs := wtab_set (sch l n) (nextW (sch l n)) (by rw [sch_length]; omega)
      rw [sch_length] at hs
      rw [hs] at hq
      rw [show sch l (n + 1) = sch l n ++ [nextW (sch l n)] by rw [sch, if_neg (by omega)]]
      rw [next_form]
      rw [show nextW (sch l n) = X16 + s0 X15 + X7 + s1 X2 by rw [nextW, sch_length, hm16.out, hm15.out, hm7.out, hm2.out, hX16.out, hX15.out, hX7.out, hX2.out]] at hq ⊢
      exact hq
     case measure => simp [intOf]; omega
    ·obtain rfl : n = 64 := by omega
     have hgb := hg.ext hx
     have e0 : wr.cell? ⟨g, 0, none⟩ = some (.int .u32 (U s.a)) := hgb.cell 0
     have e1 : wr.cell? ⟨g, 1, none⟩ = some (.int .u32 (U s.b)) := hgb.cell 1
     have e2 : wr.cell? ⟨g, 2, none⟩ = some (.int .u32 (U s.c)) := hgb.cell 2
     have e3 : wr.cell? ⟨g, 3, none⟩ = some (.int .u32 (U s.d)) := hgb.cell 3
     have e4 : wr.cell? ⟨g, 4, none⟩ = some (.int .u32 (U s.e)) := hgb.cell 4
     have e5 : wr.cell? ⟨g, 5, none⟩ = some (.int .u32 (U s.f)) := hgb.cell 5
     have e6 : wr.cell? ⟨g, 6, none⟩ = some (.int .u32 (U s.g)) := hgb.cell 6
     have e7 : wr.cell? ⟨g, 7, none⟩ = some (.int .u32 (U s.h)) := hgb.cell 7
     go_wp2_with (refine wpList_load_mid rfl 160 (.global 1) rfl 1 0 rfl (us roots) (.array 64 102) (fun j v hj => by rw [Nat.zero_add]; exact (hx.alloc _).cell (hroots j v hj)) (by kernel_rfl) rfl (by kernel_rfl) ?_)
     obtain ⟨N, hN⟩ : ∃ N : Nat, Hid (N = 64) := ⟨64, rfl⟩
     obtain ⟨Ws, hWs⟩ : ∃ x, Held (sch l 64 = x) := ⟨_, ⟨rfl⟩⟩
     have hWN : Held (sch l N = Ws) := ⟨by rw [hN.out, hWs.out]⟩
     have hWl : Hid (Ws.length = 64) := by show _ = _; rw [← hWs.out, sch_length]
     rw [hWs.out] at hb
     have hmw : w.heap.size < wr.heap.size := hb.lt
     obtain ⟨m, hm⟩ : ∃ m, wr.heap.size = m := ⟨_, rfl⟩
     have hbn : Blk (wr.alloc (.cells (us s.list).toArray 142)) m (us s.list).toArray 142 := by rw [← hm]; exact Blk.new _ _ _
     have hbt := hb.alloc (.cells (us s.list).toArray 142)
     have hxt := hx.alloc (.cells (us s.list).toArray 142)
     rw [hm] at hmw ⊢
     obtain ⟨R, hR⟩ : ∃ R, (us roots).toArray = R := ⟨_, rfl⟩
     have hRs : R.size = 64 := by rw [← hR]; rfl
     have hRat : Hid (∀ k, k < 64 → R[k]? = some (.int .u32 (U (at32 roots k)))) := fun k hk => by rw [← hR, List.getElem?_toArray]; exact us_at roots k hk
     rw [hR]
     clear hR hm e0 e1 e2 e3 e4 e5 e6 e7 hlt hn h16 hroots
     go_loopw [10, 11, 12, 13, 14, 15, 103, 105, 106, 107, 108, 109, 110, 111, 112, 113, 114, 115, 116, 117, 118, 119, 120, 121, 122, 123, 124, 125, 126, 127, 128, 129, 130, 131, 132, 133, 134, 135, 136, 137, 138, 139, 140, 141, 142, 143, 144, 145, 146, 147, 148, 149, 150, 151, 152, 153, 154, 155, 156, 157, 158, 159, 160, 161, 162, 163, 164, 165, 166, 167, 168, 169, 170, 171, 172, 173, 174, 175] (fun v10 v11 v12 v13 v14 v15 k v105 v106 v107 v108 v109 v110 v111 v112 v113 v114 v115 v116 v117 v118 v119 v120 v121 v122 v123 v124 v125 v126 v127 v128 v129 v130 v131 v132 v133 v134 v135 v136 v137 v138 v139 v140 v141 v142 v143 v144 v145 v146 v147 v148 v149 v150 v151 v152 v153 v154 v155 v156 v157 v158 v159 v160 v161 v162 v163 v164 v165 v166 v167 v168 v169 v170 v171 v172 v173 v174 v175 wv => ∃ n : Nat, n ≤ 64 ∧ k = .int .i64 n ∧ Blk wv m (us (rounds s Ws n).list).toArray 142 ∧ Blk wv w.heap.size (wtab Ws) 160 ∧ Ext w wv) (fun _ _ _ _ _ _ k _ _ _ _ _ _ _ _ _ _ _ _ _ _ _ _ _ _ _ _ _ _ _ _ _ _ _ _ _ _ _ _ _ _ _ _ _ _ _ _ _ _ _ _ _ _ _ _ _ _ _ _ _ _ _ _ _ _ _ _ _ _ _ _ _ _ _ _ _ _ _ _ => 64 - (intOf k).toNat)
     case atStart => exact ⟨0, by omega, rfl, hbn, hbt, hxt⟩
     case round =>
      clear hbn hbt hxt hb hx hgb hWs
      obtain ⟨n, hn, rfl, hb, hbt, hx⟩ := hrel
      by_cases hlt : n < 64
      ·obtain ⟨st, hst⟩ : ∃ x, Held (rounds s Ws n = x) := ⟨_, ⟨rfl⟩⟩
       rw [hst.out] at hb
       obtain ⟨K, hK⟩ : ∃ x, Held (at32 roots n = x) := ⟨_, ⟨rfl⟩⟩
       have hRn := hRat.out n hlt
       rw [hK.out] at hRn
       obtain ⟨X, hX⟩ : ∃ x, Held (at32 Ws n = x) := ⟨_, ⟨rfl⟩⟩
       have cn : wr.cell? ⟨w.heap.size, n, none⟩ = some (.int .u32 (U X)) := by rw [hbt.cell n, wtab_at _ _ (by rw [hWl.out]; exact hlt), hX.out]
       have e0 : wr.cell? ⟨m, 0, none⟩ = some (.int .u32 (U st.a)) := hb.cell 0
       have e1 : wr.cell? ⟨m, 1, none⟩ = some (.int .u32 (U st.b)) := hb.cell 1
       have e2 : wr.cell? ⟨m, 2, none⟩ = some (.int .u32 (U st.c)) := hb.cell 2
       have e4 : wr.cell? ⟨m, 4, none⟩ = some (.int .u32 (U st.e)) := hb.cell 4
       have e5 : wr.cell? ⟨m, 5, none⟩ = some (.int .u32 (U st.f)) := hb.cell 5
       have e6 : wr.cell? ⟨m, 6, none⟩ = some (.int .u32 (U st.g)) := hb.cell 6
       have e7 : wr.cell? ⟨m, 7, none⟩ = some (.int .u32 (U st.h)) := hb.cell 7
       have hlt8 : n < 64 := hlt
       go_wp2_with (refine wpList_index rfl 160 (.tmp 102) (.tmp 103) rfl _ _ rfl rfl _ (idx64 _ _ _ hlt8 _ hRn) ?_)
       go_quiet (fail)
       go_wp2_with fail
       go_quiet (first | (go_at_call 121; exact (turned_any _ _ (by decide) _).mono fun _ _ h => ⟨h.1, _, h.2.symm⟩))
       go_wp2_with fail
       go_quiet (first | (go_at_call 121; exact (turned_any _ _ (by decide) _).mono fun _ _ h => ⟨h.1, _, h.2.symm⟩))
       go_wp2_with fail
       rw [t1_form]
       obtain ⟨T1, hT1⟩ : ∃ T, Held (st.h + (trI st.e 6 ^^^ trI st.e 11 ^^^ trI st.e 25) + ((st.e &&& st.f) ^^^ (~~~st.e &&& st.g)) + K + X = T) := ⟨_, ⟨rfl⟩⟩
       obtain ⟨T2, hT2⟩ : ∃ T, Held ((trI st.a 2 ^^^ trI st.a 13 ^^^ trI st.a 22) + (st.a &&& st.b ^^^ st.a &&& st.c ^^^ st.b &&& st.c) = T) := ⟨_, ⟨rfl⟩⟩
       rw [hT1.out, hT2.out]
       clear e0 e1 e2 e4 e5 e6 e7 cn hRn hRat hRs hWl hWN hN Hl hr hg hlt8
       refine Reg.startE (by kernel_rfl) ?_
       iterate 2 ((first | refine Reg.tn ?_ | refine Reg.sn ?_); (try simp only [Reg.nn]))
       refine Reg.last 2 _ rfl (by kernel_rfl) (by kernel_rfl) (by kernel_rfl) (by decide) (by rfl) (fun W hW K hK => ?_)
       have hW' : Ext wr W := Ext.undrewN (Ext.undrewN hW)
       have hbW := hb.ext hW'
       refine wp_copy W (.tmp 163) (.tmp 164) 99 99 rfl _ _ rfl rfl _ _ (run_copy_cells W 99 99 _ 102 m 1 7 7 ⟨m, 0, none⟩ 7 8 (us [st.a, st.b, st.c, st.d, st.e, st.f, st.g]) (by kernel_rfl) (by kernel_rfl) rfl (copy_src hbW) (copy_there hbW) (fun j _ => hbW.frozen _) (us_one _)) ?_
       refine hK.out _ _ ?_; clear hK K; (try simp only [Reg.nn])
       have hb6 := Blk_sets (us [st.a, st.b, st.c, st.d, st.e, st.f, st.g]) 1 _ _ hbW
       rw [copied] at hb6
       have hx6 : Ext w (W.setCells m 1 (us [st.a, st.b, st.c, st.d, st.e, st.f, st.g])) := Ext_sets (Nat.le_of_lt hmw) _ 1 (hx.trans hW')
       have hbt6 := Blk_far (Nat.ne_of_lt hmw) (us [st.a, st.b, st.c, st.d, st.e, st.f, st.g]) 1 (hbt.ext hW')
       obtain ⟨w6, hw6⟩ : ∃ x, W.setCells m 1 (us [st.a, st.b, st.c, st.d, st.e, st.f, st.g]) = x := ⟨_, rfl⟩
       rw [hw6] at hb6 hx6 hbt6 ⊢
       clear hw6 hbW hW' hW
       have e4 : w6.cell? ⟨m, 4, none⟩ = some (.int .u32 (U st.d)) := hb6.cell 4
       have e0 : w6.cell? ⟨m, 0, none⟩ = some (.int .u32 (U st.a)) := hb6.cell 0
       have f4 := hb6.frozen 4
       have f0 := hb6.frozen 0
       go_wp2_with fail
       have hrd : rounds s Ws (n + 1) = ⟨T1 + T2, st.a, st.b, st.c, st.d + T1, st.e, st.f, st.g⟩ := by
        rw [rounds, hst.out, hK.out, hX.out, ← hT1.out, ← hT2.out]; rfl
       have hb7 := (hb6.set 4 (.int .u32 (U (st.d + T1)))).set 0 (.int .u32 (U (T1 + T2)))
       refine ⟨⟨n + 1, by omega, by go_num, ?_, ?_, ?_⟩, by simp [intOf]; omega⟩
       ·rw [hrd]; exact hb7
       ·exact (hbt6.far (p := ⟨m, 4, none⟩) (Nat.ne_of_lt hmw) _).far (p := ⟨m, 0, none⟩) (Nat.ne_of_lt hmw) _
       ·exact (hx6.setCell (p := ⟨m, 4, none⟩) (Nat.le_of_lt hmw) _).setCell (p := ⟨m, 0, none⟩) (Nat.le_of_lt hmw) _
      ·obtain ⟨st, hst⟩ : ∃ x, Held (rounds s Ws n = x) := ⟨_, ⟨rfl⟩⟩
       rw [hst.out] at hb
       have e0 : wr.cell? ⟨m, 0, none⟩ = some (.int .u32 (U st.a)) := hb.cell 0
       have e1 : wr.cell? ⟨m, 1, none⟩ = some (.int .u32 (U st.b)) := hb.cell 1
       have e2 : wr.cell? ⟨m, 2, none⟩ = some (.int .u32 (U st.c)) := hb.cell 2
       have e3 : wr.cell? ⟨m, 3, none⟩ = some (.int .u32 (U st.d)) := hb.cell 3
       have e4 : wr.cell? ⟨m, 4, none⟩ = some (.int .u32 (U st.e)) := hb.cell 4
       have e5 : wr.cell? ⟨m, 5, none⟩ = some (.int .u32 (U st.f)) := hb.cell 5
       have e6 : wr.cell? ⟨m, 6, none⟩ = some (.int .u32 (U st.g)) := hb.cell 6
       have e7 : wr.cell? ⟨m, 7, none⟩ = some (.int .u32 (U st.h)) := hb.cell 7
       go_wp2_with fail
       obtain ⟨R8, hR8⟩ : ∃ R : Array Value, #[.int .u32 (U st.a), .int .u32 (U st.b), .int .u32 (U st.c), .int .u32 (U st.d), .int .u32 (U st.e), .int .u32 (U st.f), .int .u32 (U st.g), .int .u32 (U st.h)] = R := ⟨_, rfl⟩
       have hR8at : Hid (∀ k, k < 8 → R8[k]? = some (.int .u32 (U (at32 st.list k)))) := fun k hk => by rw [← hR8]; exact us_list_at st k hk
       rw [hR8]
       have hg0 := hg.ext hx
       have hxw := ext_grown (some g) hx
       clear hR8 e0 e1 e2 e3 e4 e5 e6 e7 hb hbt hRat hRs hWl hr
       go_loopw [16, 17, 177, 179, 180, 181, 182, 183, 184, 185, 186, 187, 188, 189, 190, 191, 192] (fun v16 v17 k v179 v180 v181 v182 v183 v184 v185 v186 v187 v188 v189 v190 v191 v192 wv => ∃ n : Nat, n ≤ 8 ∧ k = .int .i64 n ∧ Blk wv g ((us (mix s.list st.list n)).toArray ++ #[vl, vc]) 144 ∧ w.grownBy wv (some g)) (fun _ _ k _ _ _ _ _ _ _ _ _ _ _ _ _ _ _ => 8 - (intOf k).toNat)
       case atStart => exact ⟨0, by omega, rfl, by rw [mix_zero]; exact hg0, hxw⟩
       case round =>
        obtain ⟨k, hk, rfl, hb, hgr⟩ := hrel
        by_cases hlk : k < 8
        ·have hRk := hR8at.out k hlk
         go_wp2_with (refine wpList_index rfl 142 (.tmp 176) (.tmp 177) rfl _ _ rfl rfl _ (idx8 _ _ _ hlk _ hRk) ?_)
         have hlk' : (k : Int) < 8 := by omega
         have hcell : ∀ W, Ext wr W → W.cell? ⟨g, k, none⟩ = some (.int .u32 (U (at32 s.list k))) := fun W hW => ((hb.ext hW).cell k).trans (head_at _ _ k hlk [vl, vc])
         refine Reg.startE (by kernel_rfl) ?_
         iterate 11 ((first | refine Reg.tn ?_ | refine Reg.sn ?_); (try simp only [Reg.nn]))
         refine Reg.last 11 _ rfl (by kernel_rfl) (by kernel_rfl) (by kernel_rfl) (by decide) (by rfl) (fun W hW K hK => ?_)
         have hf1 := (hb.ext hW).frozen k
         have hc1 := hcell W hW
         go_simp
         refine hK.out _ _ ?_; clear hK K; (try simp only [Reg.nn])
         go_wp2_with fail
         have hst1 := (hb.ext hW).set k (.int .u32 (U (at32 s.list k + at32 st.list k)))
         have hms : ((us (mix s.list st.list k)).toArray ++ #[vl, vc]).setIfInBounds k (.int .u32 (U (at32 s.list k + at32 st.list k))) = (us (mix s.list st.list (k + 1))).toArray ++ #[vl, vc] := mix_set s.list st.list k hlk [vl, vc]
         rw [hms] at hst1
         refine ⟨⟨k + 1, by omega, by go_num, hst1, grown_set (grown_ext hgr hW) _ _⟩, by simp [intOf]; omega⟩
        ·go_wp2_with fail
         have hk8 : k = 8 := by omega
         have hn64 : n = N := by rw [hN.out]; omega
         have hblk : block s l = s.plus st := by rw [← hst.out, ← hWN.out, hn64, hN.out]; rfl
         rw [hk8, mix_all, ← hblk] at hb
         go_end0
         refine ⟨rfl, ?_, hgr⟩
         simpa using hb
theorem blocks_succ (l : List UInt8) : ∀ (k : Nat) (s : ShaP.St) (l : List UInt8), blocks s l (k + 1) = block (blocks s l k) ((l.drop (64 * k)).take 64)
 | 0, s, l => by simp [blocks]
 | k + 1, s, l => by
  rw [blocks, blocks_succ l k, blocks]
  congr 2
  rw [List.drop_drop]; congr 1; omega
theorem blocks_append (l r : List UInt8) : ∀ (k : Nat) (s : ShaP.St) (l : List UInt8), 64 * k ≤ l.length → blocks s (l ++ r) k = blocks s l k
 | 0, s, l, _ => rfl
 | k + 1, s, l, h => by
  rw [blocks, blocks, List.take_append_of_le_length (by omega), List.drop_append_of_le_length (by omega)]
  exact blocks_append l r k _ _ (by rw [List.length_drop]; omega)
theorem blocks_add (l : List UInt8) : ∀ (j k : Nat) (s : ShaP.St) (l : List UInt8), blocks s l (j + k) = blocks (blocks s l j) (l.drop (64 * j)) k
 | 0, k, s, l => by simp [blocks]
 | j + 1, k, s, l => by
  rw [show j + 1 + k = (j + k) + 1 by omega, blocks, blocks_add l j k, blocks, List.drop_drop]
  congr 2; omega
def cnt (m : List UInt8) : Int := ((m.length % 18446744073709551616 : Nat) : Int)
theorem cnt_nil : cnt [] = 0 := rfl
def HInv (w : World) (g : Nat) (lb : Option Nat) (m : List UInt8) : Prop :=
 ∃ v, Blk w g ((us (blocks begin_ m (m.length / 64)).list).toArray ++ #[v, .int .u64 (cnt m)]) 144 ∧ OwnS w v (u8s (m.drop (64 * (m.length / 64)))) ∧ v.ownBlock = lb ∧ lb ≠ some g ∧ ∀ k, lb = some k → k < w.heap.size
theorem HInv.keep {S : Nat → Prop} {w w' : World} {g : Nat} {lb : Option Nat} {m : List UInt8} (h : HInv w g lb m) (hx : Chg S w w') (hg : ¬ S g) (hn : ∀ k, lb = some k → ¬ S k) : HInv w' g lb m := by
 obtain ⟨v, hb, ho, rfl, hne, hlt⟩ := h
 exact ⟨v, hx.blk hb hg, ho.keep hx hn, rfl, hne, fun k hk => Nat.lt_of_lt_of_le (hlt k hk) hx.size⟩
theorem HInv.lt {w : World} {g : Nat} {lb : Option Nat} {m : List UInt8} (h : HInv w g lb m) : g < w.heap.size := by
 obtain ⟨v, hb, _⟩ := h; exact hb.lt
theorem new_any (w : World) (hfirst : ∀ j v, (us first)[j]? = some v → w.cell? ⟨0, j, none⟩ = some v) :
  Calls Tryz.prog 83 #[] w fun e w' => e = .returned (.pointer (some ⟨w.heap.size, 0, none⟩)) ∧ HInv w' w.heap.size none [] ∧ Ext w w' := by
 go_enter Tryz.func83, Tryz.ntmps83
 go_wp2_with (refine wpList_load_mid rfl 142 (.global 0) rfl 0 0 rfl (us first) (.array 8 102) (fun j v hj => by rw [Nat.zero_add]; exact hfirst j v hj) (by kernel_rfl) rfl (by kernel_rfl) ?_)
 go_ret
 refine ⟨rfl, ⟨.slice none 0 0, ?_, OwnS.nil _, rfl, by simp, by simp⟩, (Ext.refl w).alloc _⟩
 have e : List.foldl (fun cs x => cs.setIfInBounds x.snd x.fst) #[Value.int IntKind.u32 0, Value.int IntKind.u32 0, Value.int IntKind.u32 0, Value.int IntKind.u32 0, Value.int IntKind.u32 0, Value.int IntKind.u32 0, Value.int IntKind.u32 0, Value.int IntKind.u32 0, Value.slice none 0 0, Value.int IntKind.u64 0] (us first).zipIdx
  = (us (blocks begin_ [] (([] : List UInt8).length / 64)).list).toArray ++ #[.slice none 0 0, .int .u64 (cnt [])] := by
  simp [us, first, blocks, begin_, St.list, cnt, List.zipIdx]
 rw [e]
 exact Blk.new w _ _
theorem el_u8 : El Tryz.prog 50 5 (.int .u8 0) 1 1 := ⟨by kernel_rfl, by kernel_rfl, rfl, by omega⟩
theorem cnt_add (m l : List UInt8) : IntKind.u64.wrap (cnt m + (l.length : Int)) = cnt (m ++ l) := by
 rw [IntKind.wrap_u64]
 simp only [cnt, List.length_append]
 omega
theorem cnt_add2 (m l : List UInt8) (N : Nat) (h : l.length = N) : IntKind.u64.wrap (cnt m + IntKind.u64.wrap (N : Int)) = cnt (m ++ l) := by
 rw [IntKind.wrap_u64, IntKind.wrap_u64]
 simp only [cnt, List.length_append, h]
 omega
def lenAt (w : World) (g i : Nat) : Nat := match w.cell? ⟨g, i, none⟩ with
 | some (.slice _ n _) => n
 | _ => 0
theorem lenAt_of {w : World} {g i n c : Nat} {A : Option Addr} (h : w.cell? ⟨g, i, none⟩ = some (.slice A n c)) : lenAt w g i = n := by rw [lenAt, h]
theorem words8 (s : ShaP.St) (x y z : Value) : ((us s.list).toArray ++ #[x, y]).setIfInBounds 8 z = (us s.list).toArray ++ #[z, y] := by
 simp [us, St.list]
theorem words9 (s : ShaP.St) (x y z : Value) : ((us s.list).toArray ++ #[x, y]).setIfInBounds 9 z = (us s.list).toArray ++ #[x, z] := by
 simp [us, St.list]
theorem hash_step (m l Lf T : List UInt8) (h1 : m.drop (64 * (m.length / 64)) = Lf) (h2 : Lf ++ l = T) (k : Nat) (hk : 64 * k ≤ T.length) (hlt : T.length - 64 * k < 64) :
  blocks begin_ (m ++ l) ((m ++ l).length / 64) = blocks (blocks begin_ m (m.length / 64)) T k ∧ (m ++ l).drop (64 * ((m ++ l).length / 64)) = T.drop (64 * k) := by
 have hT : T.length = m.length - 64 * (m.length / 64) + l.length := by rw [← h2, ← h1]; simp
 have hq : (m ++ l).length / 64 = m.length / 64 + k := by rw [List.length_append]; omega
 have hd : (m ++ l).drop (64 * (m.length / 64)) = T := by rw [List.drop_append_of_le_length (by omega), h1, h2]
 rw [hq, blocks_add m, blocks_append m l _ _ m (by omega), hd]
 refine ⟨rfl, ?_⟩
 rw [Nat.mul_add, ← List.drop_drop, hd]
theorem write_any (w : World) (g : Nat) (lb : Option Nat) (m l : List UInt8) (A : Option Addr) (c : Nat) (hroots : ∀ j v, (us roots)[j]? = some v → w.cell? ⟨1, j, none⟩ = some v)
  (h : HInv w g lb m) (hr : Rb w A l) (hA : A = none → c = 0) (hAg : ∀ a, A = some a → a.block ≠ g) (hl : l.length ≤ 140737488351232) (hg1 : g ≠ 1) (hl1 : lb ≠ some 1) :
  Calls Tryz.prog 84 #[.pointer (some ⟨g, 0, none⟩), .slice A l.length c] w fun e w' => e = .returned (.tuple #[]) ∧ ∃ lb', HInv w' g lb' (m ++ l) ∧ (lb' = lb ∨ ∃ k, lb' = some k ∧ w.heap.size ≤ k) ∧ Chg (fun k => k = g ∨ lb = some k) w w' := by
 obtain ⟨v, hb, ho, hv, hne, hlb⟩ := h
 obtain ⟨Lf, hLf⟩ : ∃ x, Held (m.drop (64 * (m.length / 64)) = x) := ⟨_, ⟨rfl⟩⟩
 rw [hLf.out] at ho
 have hLl : Lf.length < 64 := by rw [← hLf.out, List.length_drop]; omega
 obtain ⟨N, hN⟩ : ∃ x, Held (l.length = x) := ⟨_, ⟨rfl⟩⟩
 rw [hN.out]
 have Hl := Lib.hid hl
 clear hl
 have c8 : w.cell? ⟨g, 8, none⟩ = some v := hb.cell 8
 have c9 : w.cell? ⟨g, 9, none⟩ = some (.int .u64 (cnt m)) := hb.cell 9
 have f8 := hb.frozen 8
 have f9 := hb.frozen 9
 have hrn : Rd w A (u8s l) := hr
 have hoW : ∀ u, OwnS (w.setCell ⟨g, 9, none⟩ u) v (u8s Lf) := fun u => ho.keep (Chg.one w g 9 u) (fun k hk e => hne (by rw [← hv, hk, e]))
 have hrW : ∀ u, Rd (w.setCell ⟨g, 9, none⟩ u) A (u8s l) := fun u => hrn.chg (Chg.one w g 9 u) (fun a ha e => hAg a ha e)
 go_enter Tryz.func84, Tryz.ntmps84
 obtain ⟨T, hT⟩ : ∃ x, Held (Lf ++ l = x) := ⟨_, ⟨rfl⟩⟩
 obtain ⟨s0, hs0⟩ : ∃ x, Held (blocks begin_ m (m.length / 64) = x) := ⟨_, ⟨rfl⟩⟩
 rw [hs0.out] at hb
 obtain ⟨H, hH⟩ : ∃ x, Held (w.heap.size = x) := ⟨_, ⟨rfl⟩⟩
 go_wp2_with (
  refine wpList_oapp el_u8 _ rfl (.tmp 18) (.tmp 19) rfl v (u8s Lf) rfl (hoW _) (u8s_one _) A N c (u8s l) rfl (hrW _) (by rw [u8s_length, hN.out]) hA (u8s_one _) (by have := Hl.out; rw [u8s_length, ← hN.out]; omega) (by omega) (fun v1 w1 ho1 hgr1 hv1 => ?_)
  rw [cnt_add2 m l N hN.out] at hgr1
  have hb0 := hb.set 9 (.int .u64 (cnt (m ++ l)))
  rw [words9] at hb0
  have hb1 := hb0.grown hgr1 (by rw [hv]; exact fun e => hne e.symm)
  have hx1 : Chg (fun k => k = g ∨ lb = some k) w w1 := Chg.trans (S := fun k => k = g ∨ lb = some k) ((Chg.one w g 9 _).mono (fun _ _ e => .inl e)) (Chg.ofGrown hgr1) (fun i _ e => .inr (by rw [← hv]; exact e))
  have hf1 : v1.ownBlock = lb ∨ v1.ownBlock = some H := (hv1.imp (fun e => e.trans hv) (fun e => by rw [e.1, ← hH.out]; simp))
  have hz1 : ∀ k, v1.ownBlock = some k → k < w1.heap.size := by
   rcases hv1 with e | ⟨e, e2⟩
   ·intro k hk
    exact Nat.lt_of_lt_of_le (hlb k (by rw [← hv, ← e, hk])) hx1.size
   ·intro k hk
    rw [e] at hk
    injection hk with hk
    omega
  rw [← u8s_append, hT.out] at ho1
  obtain ⟨A1, cp1, rfl, hrd1, hle1, hmx1, hA1⟩ := ho1.rd
  have f8 := hb1.frozen 8
  have e8 : w1.cell? ⟨g, 8, none⟩ = some v := hb1.cell 8
  clear hgr1 hv1 hb0)
 have hb2 := hb1.set 8 (.slice A1 (u8s T).length cp1)
 rw [words8] at hb2
 have hne1 : (Value.slice A1 (u8s T).length cp1).ownBlock ≠ some g := by
  rcases hf1 with e | e
  ·rw [e]; exact hne
  ·rw [e, ← hH.out]; intro e; have := hb.lt; injection e with e; omega
 have ho2 : OwnS (w1.setCell ⟨g, 8, none⟩ (.slice A1 (u8s T).length cp1)) (.slice A1 (u8s T).length cp1) (u8s T) := ho1.keep (Chg.one w1 g 8 _) (fun k hk e => hne1 (by rw [hk, e]))
 have hx2 : Chg (fun k => k = g ∨ lb = some k) w (w1.setCell ⟨g, 8, none⟩ (.slice A1 (u8s T).length cp1)) := hx1.set (p := ⟨g, 8, none⟩) (.inl (.inl rfl)) _
 have hz2 : ∀ k, (Value.slice A1 (u8s T).length cp1).ownBlock = some k → k < (w1.setCell ⟨g, 8, none⟩ (.slice A1 (u8s T).length cp1)).heap.size := fun k hk => by simpa using hz1 k hk
 rw [u8s_length] at hf1 hne1 ho2 hb2 hx2 hz2 ⊢
 clear hb1 e8 f8 hz1 ho1 hrd1 hle1 hmx1 hA1 hx1 hoW hrW hrn hr c8 c9 f9 ho hb
 go_loopw [23, 24, 25, 26, 27, 29, 30, 31, 32, 33, 34, 35, 36, 37, 38, 39, 40, 41, 42, 43] (fun v23 v24 v25 v26 v27 v29 v30 v31 v32 v33 v34 v35 v36 v37 v38 v39 v40 v41 v42 v43 wv => ∃ k A2 c2, 64 * k ≤ T.length ∧ Blk wv g ((us (blocks s0 T k).list).toArray ++ #[.slice A2 (T.length - 64 * k) c2, .int .u64 (cnt (m ++ l))]) 144 ∧ OwnS wv (.slice A2 (T.length - 64 * k) c2) (u8s (T.drop (64 * k))) ∧ ((Value.slice A2 (T.length - 64 * k) c2).ownBlock = lb ∨ (Value.slice A2 (T.length - 64 * k) c2).ownBlock = some H) ∧ (Value.slice A2 (T.length - 64 * k) c2).ownBlock ≠ some g ∧ (∀ j, (Value.slice A2 (T.length - 64 * k) c2).ownBlock = some j → j < wv.heap.size) ∧ Chg (fun k => k = g ∨ lb = some k) w wv) (fun _ _ _ _ _ _ _ _ _ _ _ _ _ _ _ _ _ _ _ _ wv => lenAt wv g 8)
 case atStart => exact ⟨0, A1, cp1, by omega, hb2, ho2, hf1, hne1, hz2, hx2⟩
 case round =>
  clear hb2 ho2 hf1 hne1 hz2 hx2
  obtain ⟨k, A2, c2, hk, hb, ho, hf, hne2, hz, hx⟩ := hrel
  obtain ⟨s1, hs1⟩ : ∃ x, Held (blocks s0 T k = x) := ⟨_, ⟨rfl⟩⟩
  obtain ⟨U, hU⟩ : ∃ x, Held (T.drop (64 * k) = x) := ⟨_, ⟨rfl⟩⟩
  obtain ⟨n, hn⟩ : ∃ x, Held (T.length - 64 * k = x) := ⟨_, ⟨rfl⟩⟩
  have hUn : U.length = n := by rw [← hU.out, List.length_drop, hn.out]
  rw [hs1.out, hn.out] at hb
  rw [hU.out, hn.out] at ho
  rw [hn.out] at hf hne2 hz
  have e8 : wr.cell? ⟨g, 8, none⟩ = some (.slice A2 n c2) := hb.cell 8
  by_cases hlt : 64 ≤ n
  ·obtain ⟨A', c', e, hrd, hle, hmx, _⟩ := ho.rd
   injection e with e1 e2 e3
   subst e1; subst e3
   clear e2
   rw [u8s_length, hUn] at hle
   obtain ⟨b2, o2, rfl⟩ := Rb.some_ (l := U) hrd (by omega)
   have hc64 : (64 : Int) ≤ c2 := by omega
   have hlt' : (64 : Int) ≤ n := by omega
   have hrT : Rb wr (some ⟨b2, o2, none⟩) (U.take 64) := Rb.take hrd 64
   have hrts : ∀ j v, (us roots)[j]? = some v → wr.cell? ⟨1, j, none⟩ = some v := fun j v h => hx.cell (hroots j v h) (fun e => by rcases e with e | e; exact hg1 e.symm; exact hl1 e)
   have hcall := takes_any g s1 (.slice (some ⟨b2, o2, none⟩) n c2) (.int .u64 (cnt (m ++ l))) (some ⟨b2, o2, none⟩) c2 (U.take 64) wr (by rw [List.length_take]; omega) hrT hb hrts
   go_wp2_with fail
   refine hcall.mono ?_
   rintro e w2 ⟨rfl, hb3, hg3⟩
   have ho3 := ho.keep (Chg.ofGrown hg3) (fun k hk e => hne2 (by rw [hk, e]))
   have e8 : w2.cell? ⟨g, 8, none⟩ = some (.slice (some ⟨b2, o2, none⟩) n c2) := hb3.cell 8
   have f8 := hb3.frozen 8
   go_wp2_with fail
   have hcut := ho3.cut 64 hlt
   have hblk := block_cut (c2 = 64) b2 o2 (o2 + 64) (n - 64) (c2 - 64)
   obtain ⟨A3, hA3⟩ : ∃ x, (if c2 = 64 then some (⟨b2, o2, none⟩ : Addr) else some ⟨b2, o2 + 64, none⟩) = x := ⟨_, rfl⟩
   rw [hA3] at hcut hblk ⊢
   have hn2 : T.length - 64 * (k + 1) = n - 64 := by rw [← hn.out]; omega
   have hd2 : T.drop (64 * (k + 1)) = U.drop 64 := by rw [← hU.out, List.drop_drop]; congr 1
   have hs2 : blocks s0 T (k + 1) = block s1 (U.take 64) := by rw [blocks_succ T k s0 T, hs1.out, hU.out]
   have hb4 := hb3.set 8 (.slice A3 (n - 64) (c2 - 64))
   have hw8 := words8 (block s1 (U.take 64)) (.slice (some ⟨b2, o2, none⟩) n c2) (.int .u64 (cnt (m ++ l))) (.slice A3 (n - 64) (c2 - 64))
   rw [hw8] at hb4
   have hneb : b2 ≠ g := fun e => hne2 (by rw [e]; rfl)
   refine ⟨⟨k + 1, A3, c2 - 64, by have := hn.out; omega, ?_, ?_, ?_, ?_, ?_, ?_⟩, ?_⟩
   ·rw [hn2, hs2]; exact hb4
   ·rw [hn2, hd2]
    rw [show u8s (U.drop 64) = (u8s U).drop 64 by simp [u8s]]
    exact hcut.keep (Chg.one w2 g 8 _) (fun j hj e => by rw [hblk] at hj; injection hj with hj; omega)
   ·rw [hn2, hblk]; exact hf
   ·rw [hn2, hblk]; exact hne2
   ·rw [hn2, hblk]
    intro j hj
    have h1 := hz j hj
    have h2 := hg3.size
    simp; omega
   ·exact ((hx.trans (Chg.ofGrown hg3) (fun i _ e => .inl (by injection e with e; exact e.symm))).set (p := ⟨g, 8, none⟩) (.inl (.inl rfl)) _)
   ·have e9 : (w2.setCell ⟨g, 8, none⟩ (.slice A3 (n - 64) (c2 - 64))).cell? ⟨g, 8, none⟩ = some (.slice A3 (n - 64) (c2 - 64)) := hb4.cell 8
    have e10 : wr.cell? ⟨g, 8, none⟩ = some (.slice (some ⟨b2, o2, none⟩) n c2) := hb.cell 8
    rw [lenAt_of e9, lenAt_of e10]; omega
  ·go_wp2_with fail
   obtain ⟨hq1, hq2⟩ := hash_step m l Lf T hLf.out hT.out k hk (by rw [hn.out]; omega)
   go_end0
   refine ⟨rfl, _, ⟨_, ?_, ?_, rfl, hne2, hz⟩, ?_, hx⟩
   ·rw [hq1, hs0.out, hs1.out]; exact hb
   ·rw [hq2, hU.out]; exact ho
   ·rcases hf with e | e
    ·exact .inl e
    ·exact .inr ⟨H, e, by rw [hH.out]; omega⟩
def z32 : Array Value := (u8s (List.replicate 32 0)).toArray
theorem below_ext {B : Nat} {a b : World} (h : Go.RowKit.Below B a b) (hB : a.heap.size ≤ B) : Ext a b := h.mono hB
theorem one_rd {X : World} {q : Nat} {b : UInt8} (h : X.cell? ⟨q, 0, none⟩ = some (.int .u8 (b.toNat : Int))) : Rd X (some ⟨q, 0, none⟩) (u8s [b]) := fun _ =>
 ⟨q, 0, rfl, fun j u hj => by
  have : j = 0 := by
   have := (List.getElem?_eq_some_iff.1 hj).1
   simp [u8s] at this; omega
  subst this
  simp only [u8s, List.map_cons, List.getElem?_cons_zero, Option.some.injEq] at hj
  rw [← hj]; exact h⟩
def SInv (w W : World) (s : ShaP.St) (c : Int) (V : Value) (l : List UInt8) : Prop :=
 Ext w W ∧ Blk W w.heap.size z32 23 ∧ Blk W (w.heap.size + 1) ((us s.list).toArray ++ #[V, .int .u64 c]) 144 ∧ OwnS W V (u8s l) ∧ ∀ k, V.ownBlock = some k → w.heap.size + 2 ≤ k
theorem SInv.put {w W : World} {s : ShaP.St} {c : Int} {V0 V : Value} {l : List UInt8} (hx : Ext w W) (hz : Blk W w.heap.size z32 23) (hg : Blk W (w.heap.size + 1) ((us s.list).toArray ++ #[V0, .int .u64 c]) 144) (ho : OwnS W V (u8s l)) (hb : ∀ k, V.ownBlock = some k → w.heap.size + 2 ≤ k) :
  SInv w (W.setCell ⟨w.heap.size + 1, 8, none⟩ V) s c V l := by
 have h := hg.set 8 V
 rw [words8] at h
 exact ⟨hx.setCell (by show _ ≤ w.heap.size + 1; omega) _, hz.far (by show w.heap.size ≠ w.heap.size + 1; omega) _, h, ho.keep (Chg.one W _ 8 V) (fun k hk e => by have := hb k hk; omega), hb⟩
theorem SInv.drew {w W : World} {s : ShaP.St} {c : Int} {V : Value} {l : List UInt8} (h : SInv w W s c V l) : SInv w W.drew s c V l :=
 ⟨h.1.drew, h.2.1, h.2.2.1, h.2.2.2.1.ext ((Ext.refl W).drew), h.2.2.2.2⟩
theorem SInv.app {w W X w1 : World} {s : ShaP.St} {c : Int} {V V1 : Value} {l : List UInt8} {b : UInt8} (h : SInv w W s c V l) (hX : Ext W X) (ho : OwnS w1 V1 (u8s l ++ u8s [b])) (hg : X.grownBy w1 V.ownBlock) (hv : V1.ownBlock = V.ownBlock ∨ V1.ownBlock = some X.heap.size ∧ X.heap.size < w1.heap.size) :
  Ext w w1 ∧ Blk w1 w.heap.size z32 23 ∧ Blk w1 (w.heap.size + 1) ((us s.list).toArray ++ #[V, .int .u64 c]) 144 ∧ OwnS w1 V1 (u8s (l ++ [b])) ∧ ∀ k, V1.ownBlock = some k → w.heap.size + 2 ≤ k := by
 obtain ⟨hx, hz, hgb, _, hb⟩ := h
 have hs := hgb.lt
 have hsX := hX.size
 refine ⟨(hx.trans hX).then_grown hg (fun k hk => by have := hb k hk; omega), (hz.ext hX).grown hg (fun e => by have := hb _ e.symm; omega), (hgb.ext hX).grown hg (fun e => by have := hb _ e.symm; omega), by rw [u8s_append]; exact ho, fun k hk => ?_⟩
 rcases hv with e | e
 ·exact hb k (by rw [← e, hk])
 ·rw [e.1] at hk; injection hk with hk; omega
theorem byte_at (N j : Nat) (hj : j < 8) (S : Nat) (hS : S + 8 * j = 56) : IntKind.u8.wrap (IntKind.u64.wrap (((N % 18446744073709551616 : Nat) : Int) * 8) / 2 ^ S) = ((UInt8.ofNat (N * 8 / 2 ^ S)).toNat : Int) := by
 rw [IntKind.wrap_u64, IntKind.wrap_u8, UInt8.toNat_ofNat']
 have : j = 0 ∨ j = 1 ∨ j = 2 ∨ j = 3 ∨ j = 4 ∨ j = 5 ∨ j = 6 ∨ j = 7 := by omega
 rcases this with rfl | rfl | rfl | rfl | rfl | rfl | rfl | rfl
 ·obtain rfl : S = 56 := by omega
  simp only [Nat.reducePow, Int.reducePow]; omega
 ·obtain rfl : S = 48 := by omega
  simp only [Nat.reducePow, Int.reducePow]; omega
 ·obtain rfl : S = 40 := by omega
  simp only [Nat.reducePow, Int.reducePow]; omega
 ·obtain rfl : S = 32 := by omega
  simp only [Nat.reducePow, Int.reducePow]; omega
 ·obtain rfl : S = 24 := by omega
  simp only [Nat.reducePow, Int.reducePow]; omega
 ·obtain rfl : S = 16 := by omega
  simp only [Nat.reducePow, Int.reducePow]; omega
 ·obtain rfl : S = 8 := by omega
  simp only [Nat.reducePow, Int.reducePow]; omega
 ·obtain rfl : S = 0 := by omega
  simp only [Nat.reducePow, Int.reducePow]; omega
theorem be8_take (X j : Nat) (hj : j < 8) (S : Nat) (hS : S + 8 * j = 56) : (be8 X).take (j + 1) = (be8 X).take j ++ [UInt8.ofNat (X / 2 ^ S)] := by
 have : j = 0 ∨ j = 1 ∨ j = 2 ∨ j = 3 ∨ j = 4 ∨ j = 5 ∨ j = 6 ∨ j = 7 := by omega
 rcases this with rfl | rfl | rfl | rfl | rfl | rfl | rfl | rfl
 ·obtain rfl : S = 56 := by omega
  rfl
 ·obtain rfl : S = 48 := by omega
  rfl
 ·obtain rfl : S = 40 := by omega
  rfl
 ·obtain rfl : S = 32 := by omega
  rfl
 ·obtain rfl : S = 24 := by omega
  rfl
 ·obtain rfl : S = 16 := by omega
  rfl
 ·obtain rfl : S = 8 := by omega
  rfl
 ·obtain rfl : S = 0 := by omega
  simp [be8]
theorem sha_tail (m Lf : List UInt8) (h : m.drop (64 * (m.length / 64)) = Lf) : sha m = out (blocks (blocks begin_ m (m.length / 64)) (Lf ++ [128] ++ List.replicate (noughts m.length) 0 ++ be8 (m.length * 8)) ((Lf ++ [128] ++ List.replicate (noughts m.length) 0 ++ be8 (m.length * 8)).length / 64)) := by
 have hp : padded m m.length = m ++ ([128] ++ List.replicate (noughts m.length) 0 ++ be8 (m.length * 8)) := by simp [padded]
 have hP : Lf ++ [128] ++ List.replicate (noughts m.length) 0 ++ be8 (m.length * 8) = Lf ++ ([128] ++ List.replicate (noughts m.length) 0 ++ be8 (m.length * 8)) := by simp
 rw [sha, hp, hP]
 generalize [128] ++ List.replicate (noughts m.length) 0 ++ be8 (m.length * 8) = R
 have hl : Lf.length = m.length - 64 * (m.length / 64) := by rw [← h]; simp
 have hq : (m ++ R).length / 64 = m.length / 64 + (Lf ++ R).length / 64 := by rw [List.length_append, List.length_append, hl]; omega
 rw [hq, blocks_add m, blocks_append m R _ _ m (by omega), List.drop_append_of_le_length (by omega), h]
def lenOf : Value → Nat
 | .slice _ n _ => n
 | _ => 0
theorem out_length (s : ShaP.St) : (out s).length = 32 := by simp [out, St.list]
def otab (s : ShaP.St) (i : Nat) : Array Value := (u8s ((out s).take i ++ List.replicate (32 - i) 0)).toArray
theorem otab_zero (s : ShaP.St) : otab s 0 = z32 := by simp [otab, z32]
theorem otab_full (s : ShaP.St) : otab s 32 = (u8s (out s)).toArray := by
 rw [otab, List.take_of_length_le (by rw [out_length]; omega)]; simp
theorem otab_size (s : ShaP.St) (i : Nat) (h : i ≤ 32) : (otab s i).size = 32 := by simp [otab, u8s_length, out_length]; omega
theorem otab_set (s : ShaP.St) (i : Nat) (h : i < 32) : (otab s i).setIfInBounds i (.int .u8 ((at8 (out s) i).toNat : Int)) = otab s (i + 1) := by
 have hl := out_length s
 have e : 32 - i = (32 - (i + 1)) + 1 := by omega
 have ht : (out s).take (i + 1) = (out s).take i ++ [at8 (out s) i] := by
  rw [List.take_add_one, at8, List.getD, List.getElem?_eq_getElem (by omega)]; rfl
 unfold otab
 rw [List.setIfInBounds_toArray, ht, e, List.replicate_succ]
 congr 1
 rw [u8s_append, u8s_append, u8s_append, List.set_append_right _ _ (by rw [u8s_length, List.length_take]; omega)]
 rw [u8s_length, List.length_take, Nat.min_eq_left (by omega), Nat.sub_self]
 simp [u8s]
theorem head8 (s : ShaP.St) (r : Array Value) (k : Nat) (h : k < 8) : ((us s.list).toArray ++ r)[k]? = some (.int .u32 (U (at32 s.list k))) := by
 rw [Array.getElem?_append_left (by simp [us, St.list]; omega), List.getElem?_toArray, us_at _ _ (by simp [St.list]; omega)]
theorem out_at (s : ShaP.St) (i q r S : Nat) (hi : i < 32) (hq : i / 4 = q) (hr : i % 4 = r) (hS : S + 8 * r = 24) : IntKind.u8.wrap (U (at32 s.list q) / 2 ^ S) = ((at8 (out s) i).toNat : Int) := by
 have h4 : ∀ x : BitVec 32, (x.toNat : Int) = ((x.toNat : Nat) : Int) := fun _ => rfl
 have hb : at8 (out s) i = UInt8.ofNat ((at32 s.list q).toNat / 2 ^ S) := by
  subst hq; subst hr
  have : i = 0 ∨ i = 1 ∨ i = 2 ∨ i = 3 ∨ i = 4 ∨ i = 5 ∨ i = 6 ∨ i = 7 ∨ i = 8 ∨ i = 9 ∨ i = 10 ∨ i = 11 ∨ i = 12 ∨ i = 13 ∨ i = 14 ∨ i = 15 ∨ i = 16 ∨ i = 17 ∨ i = 18 ∨ i = 19 ∨ i = 20 ∨ i = 21 ∨ i = 22 ∨ i = 23 ∨ i = 24 ∨ i = 25 ∨ i = 26 ∨ i = 27 ∨ i = 28 ∨ i = 29 ∨ i = 30 ∨ i = 31 := by omega
  rcases this with rfl | rfl | rfl | rfl | rfl | rfl | rfl | rfl | rfl | rfl | rfl | rfl | rfl | rfl | rfl | rfl | rfl | rfl | rfl | rfl | rfl | rfl | rfl | rfl | rfl | rfl | rfl | rfl | rfl | rfl | rfl | rfl <;>
   first
    | (obtain rfl : S = 24 := by omega
       rfl)
    | (obtain rfl : S = 16 := by omega
       rfl)
    | (obtain rfl : S = 8 := by omega
       rfl)
    | (obtain rfl : S = 0 := by omega
       simp [out, at8, at32, St.list])
 rw [hb, IntKind.wrap_u8, UInt8.toNat_ofNat', U]
 have h2 : S = 24 ∨ S = 16 ∨ S = 8 ∨ S = 0 := by omega
 generalize (at32 s.list q).toNat = X
 rcases h2 with rfl | rfl | rfl | rfl <;> (simp only [Nat.reducePow, Int.reducePow]; omega)
theorem setMany_full : ∀ (vs pre old : List Value), old.length = vs.length → setMany (pre ++ old).toArray pre.length vs = (pre ++ vs).toArray
 | [], pre, old, h => by
  have : old = [] := List.eq_nil_of_length_eq_zero h
  rw [this]; rfl
 | v :: r, pre, [], h => by cases h
 | v :: r, pre, o :: old, h => by
  rw [setMany, List.setIfInBounds_toArray, List.set_append_right _ _ (Nat.le_refl _), Nat.sub_self, List.set_cons_zero]
  have := setMany_full r (pre ++ [v]) old (by simpa using h)
  simpa using this
set_option maxRecDepth 20000 in
theorem sum_any (w : World) (g : Nat) (lb : Option Nat) (m : List UInt8) (hroots : ∀ j v, (us roots)[j]? = some v → w.cell? ⟨1, j, none⟩ = some v)
  (h : HInv w g lb m) (h1 : 1 < w.heap.size) :
  Calls Tryz.prog 85 #[.pointer (some ⟨g, 0, none⟩)] w fun e w' => e = .returned (.agg (u8s (sha m)).toArray) ∧ Ext w w' := by
 obtain ⟨v, hb, ho, hv, hne, hlb⟩ := h
 obtain ⟨Lf, hLf⟩ : ∃ x, Held (m.drop (64 * (m.length / 64)) = x) := ⟨_, ⟨rfl⟩⟩
 rw [hLf.out] at ho
 obtain ⟨lv, cv, rfl, hrv, hlev, hmxv, hAv⟩ := ho.rd
 have hLl : Lf.length < 64 := by rw [← hLf.out, List.length_drop]; omega
 obtain ⟨s0, hs0⟩ : ∃ x, Held (blocks begin_ m (m.length / 64) = x) := ⟨_, ⟨rfl⟩⟩
 rw [hs0.out] at hb
 go_enter Tryz.func85, Tryz.ntmps85
 go_wp2_with fail
 refine Reg.startX (R := Go.RowKit.Below (w.heap.size + 1)) (by kernel_rfl) ?_
 generalize hwd : World.drew _ = wd
 have hxd : Ext w wd := by rw [← hwd]; exact ((Ext.refl w).alloc _).drew
 have hsd : wd.heap.size = w.heap.size + 1 := by rw [← hwd]; simp
 have hHd : Blk wd w.heap.size z32 23 := by rw [← hwd]; exact Blk.new w z32 _
 clear hwd
 have hbd := hb.ext hxd
 have hgc : ∀ W, Go.RowKit.Below (w.heap.size + 1) wd W → ∀ i, W.cell? ⟨g, i, none⟩ = ((us s0.list).toArray ++ #[.slice lv (u8s Lf).length cv, .int .u64 (cnt m)])[i]? := fun W hW i => by
  exact (hbd.ext (below_ext hW (by omega))).cell i
 have e0 : ∀ W, Go.RowKit.Below (w.heap.size + 1) wd W → W.cell? ⟨g, 0, none⟩ = some (.int .u32 (U s0.a)) := fun W hW => hgc W hW 0
 have e1 : ∀ W, Go.RowKit.Below (w.heap.size + 1) wd W → W.cell? ⟨g, 1, none⟩ = some (.int .u32 (U s0.b)) := fun W hW => hgc W hW 1
 have e2 : ∀ W, Go.RowKit.Below (w.heap.size + 1) wd W → W.cell? ⟨g, 2, none⟩ = some (.int .u32 (U s0.c)) := fun W hW => hgc W hW 2
 have e3 : ∀ W, Go.RowKit.Below (w.heap.size + 1) wd W → W.cell? ⟨g, 3, none⟩ = some (.int .u32 (U s0.d)) := fun W hW => hgc W hW 3
 have e4 : ∀ W, Go.RowKit.Below (w.heap.size + 1) wd W → W.cell? ⟨g, 4, none⟩ = some (.int .u32 (U s0.e)) := fun W hW => hgc W hW 4
 have e5 : ∀ W, Go.RowKit.Below (w.heap.size + 1) wd W → W.cell? ⟨g, 5, none⟩ = some (.int .u32 (U s0.f)) := fun W hW => hgc W hW 5
 have e6 : ∀ W, Go.RowKit.Below (w.heap.size + 1) wd W → W.cell? ⟨g, 6, none⟩ = some (.int .u32 (U s0.g)) := fun W hW => hgc W hW 6
 have e7 : ∀ W, Go.RowKit.Below (w.heap.size + 1) wd W → W.cell? ⟨g, 7, none⟩ = some (.int .u32 (U s0.h)) := fun W hW => hgc W hW 7
 have e9 : ∀ W, Go.RowKit.Below (w.heap.size + 1) wd W → W.cell? ⟨g, 9, none⟩ = some (.int .u64 (cnt m)) := fun W hW => hgc W hW 9
 clear hgc
 iterate 3 ((first | refine Reg.un (Reg.rl_below _) ?_ | refine Reg.vn (Reg.rl_below _) ?_); (try simp only [Reg.nn]))
 refine Reg.tx (Reg.rl_below _) 3 ?_; (try simp only [Reg.nn])
 iterate 3 ((first | refine Reg.un (Reg.rl_below _) ?_ | refine Reg.vn (Reg.rl_below _) ?_); (try simp only [Reg.nn]))
 refine Reg.tx (Reg.rl_below _) 7 ?_; (try simp only [Reg.nn])
 refine Reg.tx (Reg.rl_below _) 8 ?_; (try simp only [Reg.nn])
 refine Reg.onlyX 9 _ rfl (by kernel_rfl) (by decide) (by rfl) (fun K hK => ?_); go_simp
 refine hK.out _ _ (Go.RowKit.Below.alloc (Go.RowKit.Below.refl _ _) (by omega) _) ?_; clear hK K; (try simp only [Reg.nn])
 refine Reg.tx (Reg.rl_below _) 10 ?_; (try simp only [Reg.nn])
 refine Reg.finX (by kernel_rfl) ?_
 have hg0 : Blk (wd.alloc (.cells #[.int .u32 (U s0.a), .int .u32 (U s0.b), .int .u32 (U s0.c), .int .u32 (U s0.d), .int .u32 (U s0.e), .int .u32 (U s0.f), .int .u32 (U s0.g), .int .u32 (U s0.h), .slice none 0 0, .int .u64 (cnt m)] 144)) (w.heap.size + 1) ((us s0.list).toArray ++ #[.slice none 0 0, .int .u64 (cnt m)]) 144 := by
  rw [← hsd]; exact Blk.new wd _ _
 generalize hW1 : World.alloc wd _ = W1 at hg0 ⊢
 have hx1 : Ext w W1 := by rw [← hW1]; exact hxd.alloc _
 have hH1 : Blk W1 w.heap.size z32 23 := by rw [← hW1]; exact hHd.alloc _
 have hs1 : W1.heap.size = w.heap.size + 2 := by rw [← hW1]; simp [hsd]
 clear hW1 hHd hxd hsd hbd e0 e1 e2 e3 e4 e5 e6 e7 e9 wd
 go_wp2_with fail
 refine Reg.startX (R := Go.RowKit.Below (w.heap.size + 2)) (by kernel_rfl) ?_
 generalize hwd : World.drew _ = wd
 have hxd : Ext w wd := by rw [← hwd]; exact hx1.drew
 have hsd : wd.heap.size = w.heap.size + 2 := by rw [← hwd]; exact hs1
 have hHd : Blk wd w.heap.size z32 23 := by rw [← hwd]; exact hH1
 have hgd : Blk wd (w.heap.size + 1) ((us s0.list).toArray ++ #[.slice none 0 0, .int .u64 (cnt m)]) 144 := by rw [← hwd]; exact hg0
 have hbd := hb.ext hxd
 clear hwd hx1 hs1 hH1 hg0
 have hrd := hrv.ext hxd
 have e8 : ∀ W, Go.RowKit.Below (w.heap.size + 2) wd W → W.cell? ⟨g, 8, none⟩ = some (.slice lv (u8s Lf).length cv) := fun W hW => (hbd.ext (below_ext hW (by omega))).cell 8
 have f8 : ∀ W, Go.RowKit.Below (w.heap.size + 2) wd W → W.cell? ⟨w.heap.size + 1, 8, none⟩ = some (.slice none 0 0) := fun W hW => (hgd.ext (below_ext hW (by omega))).cell 8
 iterate 9 ((first | refine Reg.un (Reg.rl_below _) ?_ | refine Reg.vn (Reg.rl_below _) ?_); (try simp only [Reg.nn]))
 refine Reg.bothY 9 10 _ _ (by omega) rfl rfl rfl rfl (by decide) (by decide) (by kernel_rfl) (by kernel_rfl) (by kernel_rfl) (by decide)
  (fun V X => OwnS X V (u8s Lf) ∧ ∀ k, V.ownBlock = some k → w.heap.size + 2 ≤ k) (fun V X => ∃ q, V = .slice (some ⟨q, 0, none⟩) 1 1 ∧ X.cell? ⟨q, 0, none⟩ = some (.int .u8 128))
  (fun v w1 w2 h hx => ⟨h.1.ext hx, h.2⟩) (fun v w1 w2 h hx => h.imp fun q h => ⟨h.1, hx.cell h.2⟩) ?_ ?_ ?_
 ·rintro a' w1 (rfl | ⟨v, rfl⟩) hx1 K hK
  ·refine wp_oapp el_u8 w1 (.tmp 23) (.tmp 27) rfl (.slice none 0 0) [] rfl (OwnS.nil w1) (fun _ h => by cases h) lv (u8s Lf).length cv (u8s Lf) rfl (hrd.ext hx1) rfl hAv (u8s_one _) (by rw [u8s_length]; simp; omega) (by omega) ?_
   intro v' w' h1 h2 h3
   exact hK.out v' w' (Ext.grown h2 (fun k hk => by cases hk)) ⟨by simpa using h1, fun k hk => by rcases h3 with h3 | h3; rw [h3] at hk; cases hk; rw [h3.1] at hk; injection hk with hk; have := hx1.size; omega⟩
  ·refine wp_oapp el_u8 w1 (.tmp 23) (.tmp 27) rfl (.slice none 0 0) [] rfl (OwnS.nil w1) (fun _ h => by cases h) lv (u8s Lf).length cv (u8s Lf) rfl (hrd.ext hx1) rfl hAv (u8s_one _) (by rw [u8s_length]; simp; omega) (by omega) ?_
   intro v' w' h1 h2 h3
   exact hK.out v' w' (Ext.grown h2 (fun k hk => by cases hk)) ⟨by simpa using h1, fun k hk => by rcases h3 with h3 | h3; rw [h3] at hk; cases hk; rw [h3.1] at hk; injection hk with hk; have := hx1.size; omega⟩
 ·rintro a' w1 (rfl | ⟨v, rfl⟩) hx1 K hK
  ·go_simp
   exact hK.out _ _ ((Ext.refl w1).alloc _) ⟨w1.heap.size, rfl, (Blk.new w1 #[.int .u8 128] 5).cell 0⟩
  ·go_simp
   exact hK.out _ _ ((Ext.refl w1).alloc _) ⟨w1.heap.size, rfl, (Blk.new w1 #[.int .u8 128] 5).cell 0⟩
 ·rintro V28 V29 X hX ⟨ho28, hb28⟩ ⟨q, rfl, hq⟩
  (try simp only [Reg.nn])
  have hsX := hX.size
  have hbX : Go.RowKit.Below (w.heap.size + 2) wd X := Go.RowKit.Below.mono hX (by omega)
  refine Reg.onlyX 11 _ rfl (by kernel_rfl) (by decide) (by rfl) (fun K hK => ?_)
  refine wp_oapp el_u8 X (.tmp 28) (.tmp 29) rfl V28 (u8s Lf) rfl ho28 (u8s_one _) (some ⟨q, 0, none⟩) 1 1 (u8s [128]) rfl (one_rd hq) rfl (fun h => by cases h) (u8s_one _) (by rw [u8s_length]; omega) (by omega) ?_
  intro V30 X3 ho30 hgr hv30
  have hb30 : ∀ k, V30.ownBlock = some k → w.heap.size + 2 ≤ k := fun k hk => by
   rcases hv30 with e | e
   ·exact hb28 k (by rw [← e, hk])
   ·rw [e.1] at hk; injection hk with hk; omega
  have hbel : Go.RowKit.Below (w.heap.size + 2) X X3 := Go.RowKit.Below.grown (Go.RowKit.Below.refl _ _) hgr (by omega) hb28
  refine hK.out _ _ hbel ?_
  clear hK K
  (try simp only [Reg.nn])
  have hx3 : Ext wd X3 := below_ext (hbX.trans hbel) (by omega)
  rw [← u8s_append] at ho30
  have hS : SInv w (X3.setCell ⟨w.heap.size + 1, 8, none⟩ V30) s0 (cnt m) V30 (Lf ++ [128]) :=
   SInv.put (hxd.trans hx3) (hHd.ext hx3) (hgd.ext hx3) ho30 hb30
  have hf8 := (hgd.ext hx3).frozen 8
  have hc8 : X3.cell? ⟨w.heap.size + 1, 8, none⟩ = some (.slice none 0 0) := (hgd.ext hx3).cell 8
  obtain ⟨A3, c3, rfl, _⟩ := ho30.rd
  clear ho30 hgr hv30 hb30 ho28 hb28 hq hX hbX hbel hx3 e8 f8 hrd hbd hgd hHd hxd
  iterate 2 ((first | refine Reg.un (Reg.rl_below _) ?_ | refine Reg.vn (Reg.rl_below _) ?_); (try simp only [Reg.nn]))
  refine Reg.lastX 14 _ rfl (by kernel_rfl) (by kernel_rfl) (by kernel_rfl) (by decide) (by rfl) (fun K hK => ?_)
  go_simp
  refine hK.out _ _ ?_; clear hK K; (try simp only [Reg.nn])
  generalize World.setCell X3 _ _ = X4 at hS ⊢
  clear hf8 hc8
  obtain ⟨NO, hNO⟩ : ∃ x, Held (noughts m.length = x) := ⟨_, ⟨rfl⟩⟩
  have hmL : m.length % 64 = Lf.length := by rw [← hLf.out, List.length_drop]; omega
  have hNL : NO = (119 - Lf.length) % 64 := by rw [← hNO.out, noughts, hmL]
  have hl1 : (u8s (Lf ++ [(128 : UInt8)])).length = Lf.length + 1 := by simp [u8s_length]
  rw [hl1] at hS ⊢
  clear hl1
  go_wp2_with fail
  go_loopw [33, 34, 35, 36, 37, 38, 40, 41, 42, 43, 44, 45, 46, 47, 48] (fun v33 v34 v35 v36 v37 v38 v40 v41 v42 v43 v44 v45 v46 v47 v48 wv => ∃ k A c, k ≤ NO ∧ SInv w wv s0 (cnt m) (.slice A (Lf.length + 1 + k) c) (Lf ++ [128] ++ List.replicate k 0)) (fun _ _ _ _ _ _ _ _ _ _ _ _ _ _ _ wv => 200 - lenAt wv (w.heap.size + 1) 8)
  case atStart => exact ⟨0, A3, c3, Nat.zero_le _, by simpa using hS⟩
  case round =>
   clear hS
   obtain ⟨k, A, c, hk, hS⟩ := hrel
   obtain ⟨n, hn⟩ : ∃ x, Held (Lf.length + 1 + k = x) := ⟨_, ⟨rfl⟩⟩
   obtain ⟨T, hT⟩ : ∃ x, Held (Lf ++ [128] ++ List.replicate k 0 = x) := ⟨_, ⟨rfl⟩⟩
   have hTn : T.length = n := by rw [← hT.out, ← hn.out]; simp; omega
   rw [hn.out, hT.out] at hS
   have e8 : wr.cell? ⟨w.heap.size + 1, 8, none⟩ = some (.slice A n c) := hS.2.2.1.cell 8
   by_cases hc : n % 64 = 56
   ·have hci : (n : Int) % 64 = 56 := by omega
    have e9 : wr.cell? ⟨g, 9, none⟩ = some (.int .u64 (cnt m)) := (hb.ext hS.1).cell 9
    go_wp2_with fail
    have hkN : k = NO := by have := hn.out; omega
    subst hkN
    obtain ⟨C8, hC8⟩ : ∃ x, Held (IntKind.u64.wrap (cnt m * 8) = x) := ⟨_, ⟨rfl⟩⟩
    rw [hC8.out]
    clear e8 e9 hci
    go_loopw [5, 54, 56, 57, 58, 59, 60, 61, 62, 63, 64, 65, 66, 67, 68, 69, 70] (fun v5 v54 v56 v57 v58 v59 v60 v61 v62 v63 v64 v65 v66 v67 v68 v69 v70 wv => ∃ (j : Nat) (A : Option Addr) (c : Nat), j ≤ 8 ∧ v5 = .int .i64 (56 - 8 * (j : Int)) ∧ SInv w wv s0 (cnt m) (.slice A (n + j) c) (T ++ (be8 (m.length * 8)).take j)) (fun v5 _ _ _ _ _ _ _ _ _ _ _ _ _ _ _ _ _ => (intOf v5 + 8).toNat)
    case atStart => exact ⟨0, A, c, by omega, by simp, by simpa using hS⟩
    case round =>
     clear hS
     obtain ⟨j, A, c, hj, rfl, hS⟩ := hrel
     by_cases hj8 : j < 8
     ·obtain ⟨S, hSd⟩ : ∃ S : Nat, Held (56 - 8 * (j : Int) = (S : Int)) := ⟨56 - 8 * j, ⟨by omega⟩⟩
      rw [hSd.out]
      have hS0 : (0 : Int) ≤ S := by omega
      obtain ⟨T2, hT2⟩ : ∃ x, Held (T ++ (be8 (m.length * 8)).take j = x) := ⟨_, ⟨rfl⟩⟩
      rw [hT2.out] at hS
      obtain ⟨n2, hn2⟩ : ∃ x, Held (n + j = x) := ⟨_, ⟨rfl⟩⟩
      rw [hn2.out] at hS
      have hSj : S + 8 * j = 56 := by have := hSd.out; omega
      have hT2n : T2.length = n2 := by rw [← hT2.out, List.length_append, List.length_take, hTn, ← hn2.out]; simp [be8]; omega
      obtain ⟨bb, hbb⟩ : ∃ x, Held (UInt8.ofNat (m.length * 8 / 2 ^ S) = x) := ⟨_, ⟨rfl⟩⟩
      have hbyte : IntKind.u8.wrap (C8 / 2 ^ S) = (bb.toNat : Int) := by rw [← hC8.out, ← hbb.out]; exact byte_at m.length j hj8 S hSj
      have hn2s : n2 ≤ 300 := by have := hn2.out; have := hn.out; omega
      go_wp2_with fail
      refine Reg.startX (R := Go.RowKit.Below (w.heap.size + 2)) (by kernel_rfl) ?_
      generalize hwq : World.drew _ = wq
      have hSq : SInv w wq s0 (cnt m) (.slice A n2 c) T2 := by rw [← hwq]; exact hS.drew
      clear hwq hS
      have hsq := hSq.2.2.1.lt
      have e8 : ∀ W, Go.RowKit.Below (w.heap.size + 2) wq W → W.cell? ⟨w.heap.size + 1, 8, none⟩ = some (.slice A n2 c) := fun W hW => (World.cell?_of_block (a := ⟨w.heap.size + 1, 8, none⟩) (hW.block _ (by show w.heap.size + 1 < _; omega))).trans (hSq.2.2.1.cell 8)
      iterate 4 ((first | refine Reg.un (Reg.rl_below _) ?_ | refine Reg.vn (Reg.rl_below _) ?_); (try simp only [Reg.nn]))
      refine Reg.tx (Reg.rl_below _) 4 ?_; (try simp only [Reg.nn])
      iterate 3 ((first | refine Reg.un (Reg.rl_below _) ?_ | refine Reg.vn (Reg.rl_below _) ?_); (try simp only [Reg.nn]))
      refine Reg.tx (Reg.rl_below _) 8 ?_; (try simp only [Reg.nn])
      refine Reg.onlyX 9 _ rfl (by kernel_rfl) (by decide) (by rfl) (fun K hK => ?_); go_simp
      try rw [hbyte]
      refine hK.out _ _ (Go.RowKit.Below.alloc (Go.RowKit.Below.refl _ _) (by omega) _) ?_; clear hK K; (try simp only [Reg.nn])
      refine Reg.onlyX 10 _ rfl (by kernel_rfl) (by decide) (by rfl) (fun K hK => ?_)
      refine wp_oapp el_u8 _ (.tmp 62) (.tmp 67) rfl (.slice A n2 c) (u8s T2) rfl (hSq.2.2.2.1.ext ((Ext.refl wq).alloc _)) (u8s_one _) (some ⟨wq.heap.size, 0, none⟩) 1 1 (u8s [bb]) rfl (Rd.of_block wq 5 (0, 0) rfl) rfl (fun h => by cases h) (u8s_one _) (by rw [u8s_length, hT2n]; omega) (by omega) ?_
      intro V1 w1 ho1 hgr1 hv1
      have hbel := Go.RowKit.Below.grown (Go.RowKit.Below.refl (w.heap.size + 2) _) hgr1 (by simp; omega) hSq.2.2.2.2
      obtain ⟨hx1, hz1, hg1, ho1, hb1⟩ := hSq.app ((Ext.refl wq).alloc _) ho1 hgr1 hv1
      have hS1 := SInv.put hx1 hz1 hg1 ho1 hb1
      refine hK.out _ _ hbel ?_
      clear hK K
      have hc8 : w1.cell? ⟨w.heap.size + 1, 8, none⟩ = some (.slice A n2 c) := hg1.cell 8
      have f8 := hg1.frozen 8
      obtain ⟨A1, c1, rfl, _⟩ := ho1.rd
      clear hgr1 hv1 ho1 hb1 hx1 hz1 hg1 hbel
      (try simp only [Reg.nn])
      iterate 2 ((first | refine Reg.un (Reg.rl_below _) ?_ | refine Reg.vn (Reg.rl_below _) ?_); (try simp only [Reg.nn]))
      refine Reg.lastX 13 _ rfl (by kernel_rfl) (by kernel_rfl) (by kernel_rfl) (by decide) (by rfl) (fun K hK => ?_)
      go_simp
      refine hK.out _ _ ?_; clear hK K; (try simp only [Reg.nn])
      have hl1 : (u8s (T2 ++ [bb])).length = n + (j + 1) := by rw [u8s_length, List.length_append, hT2n, ← hn2.out]; rfl
      have hT1 : T2 ++ [bb] = T ++ (be8 (m.length * 8)).take (j + 1) := by rw [← hT2.out, ← hbb.out, List.append_assoc, ← be8_take _ j hj8 S hSj]
      rw [hl1, hT1] at hS1
      rw [hl1]
      go_wp2_with fail
      refine ⟨⟨j + 1, A1, c1, by omega, ?_, hS1⟩, ?_⟩
      ·go_num
      ·simp only [intOf]; omega
     ·have e8 : wr.cell? ⟨w.heap.size + 1, 8, none⟩ = some (.slice A (n + j) c) := hS.2.2.1.cell 8
      obtain rfl : j = 8 := by omega
      go_wp2_with fail
      obtain ⟨P, hP⟩ : ∃ x, Held (T ++ (be8 (m.length * 8)).take 8 = x) := ⟨_, ⟨rfl⟩⟩
      rw [hP.out] at hS
      have hPl : P.length = n + 8 := by rw [← hP.out, List.length_append, hTn]; rfl
      have hP64 : P.length % 64 = 0 := by omega
      have hsha : sha m = out (blocks s0 P (P.length / 64)) := by
       have h := sha_tail m Lf hLf.out
       rw [hs0.out, hNO.out] at h
       rw [h, ← hP.out, ← hT.out]; rfl
      have Hsha := Lib.hid hsha
      clear hsha
      obtain ⟨hx, hz, hg, ho3, hb3⟩ := hS
      obtain ⟨A', c', e, hrd3, hle3, _, _⟩ := ho3.rd
      injection e with e1 e2 e3
      subst e1; subst e3
      rw [u8s_length, hPl] at hle3
      have hA3 : ∀ a, A = some a → a.block ≠ w.heap.size + 1 := fun a ha e => by
       have := hb3 a.block (by rw [ha]; rfl); omega
      obtain ⟨V, hV⟩ : ∃ x, Held (Value.slice A (n + 8) c = x) := ⟨_, ⟨rfl⟩⟩
      rw [hV.out] at hg
      rw [← hPl] at hle3 ⊢
      clear e2 e8 ho3 hb3
      go_loopw [6, 75, 76, 78, 79, 80, 81, 82, 83] (fun v6 v75 v76 v78 v79 v80 v81 v82 v83 wv => ∃ k A2 c2, 64 * k ≤ P.length ∧ v6 = .slice A2 (P.length - 64 * k) c2 ∧ P.length - 64 * k ≤ c2 ∧ Rb wv A2 (P.drop (64 * k)) ∧ (∀ a, A2 = some a → a.block ≠ w.heap.size + 1) ∧ Ext w wv ∧ Blk wv w.heap.size z32 23 ∧ Blk wv (w.heap.size + 1) ((us (blocks s0 P k).list).toArray ++ #[V, .int .u64 (cnt m)]) 144) (fun v6 _ _ _ _ _ _ _ _ _ => lenOf v6)
      case atStart => exact ⟨0, A, c, by omega, rfl, by omega, hrd3, hA3, hx, hz, hg⟩
      case round =>
       clear hx hz hg hrd3 hA3 hle3
       obtain ⟨k, A2, c2, hk, rfl, hle, hrd, hA2, hx, hz, hg⟩ := hrel
       obtain ⟨s1, hs1⟩ : ∃ x, Held (blocks s0 P k = x) := ⟨_, ⟨rfl⟩⟩
       obtain ⟨Z, hZ⟩ : ∃ x, Held (P.drop (64 * k) = x) := ⟨_, ⟨rfl⟩⟩
       obtain ⟨n2, hn2⟩ : ∃ x, Held (P.length - 64 * k = x) := ⟨_, ⟨rfl⟩⟩
       have hZn : Z.length = n2 := by rw [← hZ.out, List.length_drop, hn2.out]
       rw [hs1.out] at hg
       rw [hZ.out] at hrd
       rw [hn2.out] at hle ⊢
       by_cases h0 : 0 < n2
       ·have h64 : 64 ≤ n2 := by have := hn2.out; omega
        obtain ⟨b2, o2, rfl⟩ := hrd.some_ (by omega)
        have hc64 : (64 : Int) ≤ c2 := by omega
        have hn64 : (64 : Int) ≤ n2 := by omega
        have hn0 : (0 : Int) < n2 := by omega
        have hrT : Rb wr (some ⟨b2, o2, none⟩) (Z.take 64) := Rb.take hrd 64
        have hrts : ∀ j v, (us roots)[j]? = some v → wr.cell? ⟨1, j, none⟩ = some v := fun j v h => hx.cell (hroots j v h)
        have hcall := takes_any (w.heap.size + 1) s1 V (.int .u64 (cnt m)) (some ⟨b2, o2, none⟩) c2 (Z.take 64) wr (by rw [List.length_take]; omega) hrT hg hrts
        go_wp2_with fail
        refine hcall.mono ?_
        rintro e w2 ⟨rfl, hg2, hgr⟩
        have hrd2 : Rb w2 (some ⟨b2, o2, none⟩) Z := Rd.chg hrd (Chg.ofGrown hgr) (fun a ha e => hA2 a ha (by injection e with e; exact e.symm))
        have hbk : blocks s0 P (k + 1) = block s1 (Z.take 64) := by rw [blocks_succ P k s0 P, hs1.out, hZ.out]
        have hdk : P.drop (64 * (k + 1)) = Z.drop 64 := by rw [← hZ.out, List.drop_drop]; congr 1
        have hx2 : Ext w w2 := hx.then_grown hgr (fun k hk => by injection hk with hk; omega)
        have hz2 := hz.grown hgr (by intro e; injection e with e; omega)
        have hb2 : ∀ a : Addr, some (⟨b2, o2, none⟩ : Addr) = some a → ¬ a.block = w.heap.size + 1 := hA2
        have hn2' := hn2.out
        have hg3 : Blk w2 (w.heap.size + 1) ((us (blocks s0 P (k + 1)).list ++ [V, .int .u64 (cnt m)]).toArray) 144 := by rw [hbk]; simpa using hg2
        have hgrow : ∃ k, 64 * k ≤ n + 8 ∧ n2 - 64 = n + 8 - 64 * k ∧ P.drop (64 * k) = Z.drop 64 ∧ Blk w2 (w.heap.size + 1) ((us (blocks s0 P k).list ++ [V, .int .u64 (cnt m)]).toArray) 144 := ⟨k + 1, by omega, by omega, hdk, hg3⟩
        obtain ⟨k', hk1, hk2', hk3, hk4⟩ := hgrow
        have hk2 : Held (n2 - 64 = n + 8 - 64 * k') := ⟨hk2'⟩
        clear hk2'
        clear hg3 hg2 hgr hbk hdk hrts hcall hrT hn2'
        go_wp2_with fail
        ·refine ⟨⟨k', hk1, _, _, ⟨rfl, hk2.out, rfl⟩, by have := hk2.out; omega, ?_, hb2, hk4⟩, by simp only [lenOf]; omega⟩
         rw [hk3, List.drop_eq_nil_of_le (by omega)]
         exact Rd.nil _ _
        ·have hb3 : ∀ a : Addr, some (⟨b2, o2 + 64, none⟩ : Addr) = some a → ¬ a.block = w.heap.size + 1 := fun a ha => by
          injection ha with ha
          subst ha
          exact hb2 ⟨b2, o2, none⟩ rfl
         refine ⟨⟨k', hk1, _, _, ⟨rfl, hk2.out, rfl⟩, by have := hk2.out; omega, ?_, hb3, hk4⟩, by simp only [lenOf]; omega⟩
         rw [hk3]
         exact Rb.drop hrd2 64
       ·have hk0 : k = P.length / 64 := by have := hn2.out; omega
        rw [← hk0, hs1.out] at Hsha
        have hn0 : ¬ (0 : Int) < n2 := by omega
        go_wp2_with fail
        obtain ⟨O, hO⟩ : ∃ x, Held (wr.heap.size = x) := ⟨_, ⟨rfl⟩⟩
        have hOb := Blk.new wr z32 23
        rw [hO.out] at hOb
        have hOb : Blk (wr.alloc (.cells z32 23)) O (otab s1 0) 23 := by rw [otab_zero]; exact hOb
        have hwO : w.heap.size + 1 < O := by rw [← hO.out]; exact hg.lt
        rw [hO.out]
        go_loopw [8, 84, 86, 87, 88, 89, 90, 91, 92, 93, 94, 95, 96, 97, 98, 99, 100, 101, 102] (fun v8 v84 v86 v87 v88 v89 v90 v91 v92 v93 v94 v95 v96 v97 v98 v99 v100 v101 v102 wv => ∃ i : Nat, i ≤ 32 ∧ v84 = .int .i64 i ∧ Ext w wv ∧ Blk wv w.heap.size z32 23 ∧ Blk wv (w.heap.size + 1) ((us s1.list).toArray ++ #[V, .int .u64 (cnt m)]) 144 ∧ Blk wv O (otab s1 i) 23) (fun _ v84 _ _ _ _ _ _ _ _ _ _ _ _ _ _ _ _ _ _ => 32 - (intOf v84).toNat)
        case atStart => exact ⟨0, by omega, rfl, hx.alloc _, hz.alloc _, hg.alloc _, hOb⟩
        case round =>
         clear hx hz hg hOb hrd hA2
         obtain ⟨i, hi, rfl, hx, hz, hg, hOb⟩ := hrel
         by_cases hi32 : i < 32
         ·obtain ⟨q, hq⟩ : ∃ q : Nat, Held (i / 4 = q) := ⟨_, ⟨rfl⟩⟩
          obtain ⟨r, hr⟩ : ∃ r : Nat, Held (i % 4 = r) := ⟨_, ⟨rfl⟩⟩
          have hq' : (i : Int) / 4 = (q : Int) := by have := hq.out; omega
          have hr' : (i : Int) % 4 = (r : Int) := by have := hr.out; omega
          have hq8 : (q : Int) < 8 := by have := hq.out; omega
          have hi' : (i : Int) < 32 := by omega
          have e3 : wr.cell? ⟨w.heap.size + 1, q, none⟩ = some (.int .u32 (U (at32 s1.list q))) := (hg.cell q).trans (head8 _ _ q (by omega))
          obtain ⟨S, hS⟩ : ∃ S : Nat, Held (24 - 8 * (r : Int) = (S : Int)) := ⟨24 - 8 * r, ⟨by have := hr.out; omega⟩⟩
          have hS' : (24 : Int) - 8 * (r : Int) = (S : Int) := hS.out
          have hS0 : ¬ (S : Int) < 0 := by omega
          have hS32 : S + 8 * r = 24 := by omega
          have eO : wr.cell? ⟨O, i, none⟩ = some ((otab s1 i)[i]'(by rw [otab_size s1 i hi]; exact hi32)) := (hOb.cell i).trans (Array.getElem?_eq_getElem _)
          have fO := hOb.frozen i
          have hby := out_at s1 i q r S hi32 hq.out hr.out hS32
          go_wp2_with fail
          refine ⟨⟨i + 1, by omega, by go_num, hx.setCell (by show _ ≤ O; omega) _, hz.far (by show w.heap.size ≠ O; omega) _, hg.far (by show w.heap.size + 1 ≠ O; omega) _, ?_⟩, by simp [intOf]; omega⟩
          have hq2 := hOb.set i (.int .u8 ((at8 (out s1) i).toNat : Int))
          rw [otab_set s1 i hi32] at hq2
          exact hq2
         ·obtain rfl : i = 32 := by omega
          rw [otab_full] at hOb
          have hty : (Tryz.prog.info? 23).map (·.size) = some (u8s (out s1)).length := by rw [u8s_length, out_length]; kernel_rfl
          go_wp2_with (first
           | refine wpList_load_mid rfl 23 (.tmp 7) rfl O 0 rfl (u8s (out s1)) (.array 32 5) (fun j v hj => by rw [Nat.zero_add, hOb.cell j, List.getElem?_toArray]; exact hj) (by kernel_rfl) rfl hty ?_
           | refine wpList_store_mid rfl 23 (.tmp 2) (.tmp 103) rfl w.heap.size 0 (u8s (out s1)).toArray rfl rfl (fun j hj => by rw [Nat.zero_add]; exact ⟨by rw [hz.cell j, Array.getElem?_eq_getElem (by simpa [z32, u8s_length, out_length] using hj)]; rfl, hz.frozen j⟩) (by rw [List.size_toArray]; exact hty) (all_oneCell_toArray (u8s_one _)) ?_)
          have hz2 := Blk_sets (u8s (out s1)) 0 _ _ hz
          rw [show setMany z32 0 (u8s (out s1)) = (u8s (out s1)).toArray from setMany_full _ [] (u8s (List.replicate 32 0)) (by rw [u8s_length, u8s_length, out_length]; rfl)] at hz2
          refine ⟨rfl, _, results_cell_row rfl _ _ w.heap.size 23 (u8s (out s1)).toArray (0, 0) (.array 32 5) rfl hz2 (by kernel_rfl) rfl (by rw [List.size_toArray]; exact hty), ?_, Ext_sets (Nat.le_refl _) _ 0 hx⟩
          rw [Hsha.out]
   ·have hci : ¬ (n : Int) % 64 = 56 := by omega
    have hkN : k < NO := by have := hn.out; omega
    have hk2 : k + 1 ≤ 64 := by omega
    have hn2 : n ≤ 200 := by have := hn.out; omega
    go_wp2_with (
     refine wpList_oapp el_u8 _ rfl (.tmp 44) (.tmp 45) rfl (.slice A n c) (u8s T) rfl (hS.2.2.2.1.ext ((Ext.refl wr).alloc _)) (u8s_one _) (some ⟨wr.heap.size, 0, none⟩) 1 1 (u8s [0]) rfl (Rd.of_block wr 5 (0, 0) rfl) rfl (fun h => by cases h) (u8s_one _) (by rw [u8s_length]; omega) (by omega) (fun V1 w1 ho1 hgr1 hv1 => ?_)
     obtain ⟨hx1, hz1, hg1, ho1, hb1⟩ := hS.app ((Ext.refl wr).alloc _) ho1 hgr1 hv1
     have hS1 := SInv.put hx1 hz1 hg1 ho1 hb1
     have e8 : w1.cell? ⟨w.heap.size + 1, 8, none⟩ = some (.slice A n c) := hg1.cell 8
     have f8 := hg1.frozen 8
     obtain ⟨A1, c1, rfl, _⟩ := ho1.rd
     clear hgr1 hv1 ho1 hb1 hx1 hz1 hg1)
    have hl1 : (u8s (T ++ [(0 : UInt8)])).length = Lf.length + 1 + (k + 1) := by rw [u8s_length, List.length_append, hTn, ← hn.out]; rfl
    have hT1 : T ++ [(0 : UInt8)] = Lf ++ [128] ++ List.replicate (k + 1) 0 := by rw [← hT.out, List.replicate_succ', List.append_assoc]
    rw [hl1, hT1] at hS1
    rw [hl1]
    refine ⟨⟨k + 1, A1, c1, hkN, hS1⟩, ?_⟩
    have q1 := lenAt_of (w := w1.setCell ⟨w.heap.size + 1, 8, none⟩ (.slice A1 (Lf.length + 1 + (k + 1)) c1)) (g := w.heap.size + 1) (i := 8) (hS1.2.2.1.cell 8)
    have q2 := lenAt_of (w := wr) (g := w.heap.size + 1) (i := 8) (hS.2.2.1.cell 8)
    rw [q1, q2]
    have := hn.out
    omega
structure Tabs (w : World) : Prop where
 first : ∀ j v, (us first)[j]? = some v → w.cell? ⟨0, j, none⟩ = some v
 roots : ∀ j v, (us roots)[j]? = some v → w.cell? ⟨1, j, none⟩ = some v
theorem Tabs.ext {w w' : World} (h : Tabs w) (hx : Ext w w') : Tabs w' := ⟨fun j v e => hx.cell (h.first j v e), fun j v e => hx.cell (h.roots j v e)⟩
theorem Tabs.lt {w : World} (h : Tabs w) : 1 < w.heap.size := World.block_lt_of_cell? w ⟨1, 0, none⟩ (h.roots 0 _ rfl)
theorem Tabs.chg {S : Nat → Prop} {w w' : World} (h : Tabs w) (hx : Chg S w w') (hS : ∀ k, S k → 1 < k) : Tabs w' :=
 ⟨fun j v e => hx.cell (h.first j v e) (fun s => by have : 1 < 0 := hS _ s; omega), fun j v e => hx.cell (h.roots j v e) (fun s => by have : 1 < 1 := hS _ s; omega)⟩
theorem sum_store (s : ShaP.St) : (u8s (out s)).length = 32 := by rw [u8s_length, out_length]
theorem sha_length (m : List UInt8) : (sha m).length = 32 := out_length _
theorem sum_cells (m : List UInt8) {w : World} {g : Nat} (hz : Blk w g z32 23) : Blk (w.setCells g 0 (u8s (sha m))) g (u8s (sha m)).toArray 23 := by
 have hz2 := Blk_sets (u8s (sha m)) 0 _ _ hz
 rwa [show setMany z32 0 (u8s (sha m)) = (u8s (sha m)).toArray from setMany_full _ [] (u8s (List.replicate 32 0)) (by rw [u8s_length, u8s_length, sha_length]; rfl)] at hz2
theorem sum_there {w : World} {g : Nat} (hz : Blk w g z32 23) (m : List UInt8) : w.there g 0 (u8s (sha m)).toArray.size := fun j hj => by
 rw [Nat.zero_add]
 exact ⟨by rw [hz.cell j, Array.getElem?_eq_getElem (by simpa [z32, u8s_length, sha_length] using hj)]; rfl, hz.frozen j⟩
theorem sum_info (m : List UInt8) : (Tryz.prog.info? 23).map (·.size) = some (u8s (sha m)).toArray.size := by rw [List.size_toArray, u8s_length, sha_length]; kernel_rfl
theorem sumTop_any (w : World) (A : Option Addr) (c : Nat) (l : List UInt8) (ht : Tabs w) (hr : Rb w A l) (hA : A = none → c = 0) (hAw : ∀ a, A = some a → a.block < w.heap.size) (hl : l.length ≤ 140737488351232) :
  Calls Tryz.prog 53 #[.slice A l.length c] w fun e w' => e = .returned (.agg (u8s (sha l)).toArray) ∧ Ext w w' := by
 obtain ⟨N, hN⟩ : ∃ x, Held (l.length = x) := ⟨_, ⟨rfl⟩⟩
 have Hl := Lib.hid hl
 clear hl
 rw [hN.out]
 go_enter Tryz.func53, Tryz.ntmps53
 go_wp2_with fail
 generalize hw0 : World.alloc w _ = w0
 have hz0 : Blk w0 w.heap.size z32 23 := by rw [← hw0]; exact Blk.new w z32 _
 have hx0 : Ext w w0 := by rw [← hw0]; exact (Ext.refl w).alloc _
 have hs0 : w0.heap.size = w.heap.size + 1 := by rw [← hw0]; simp
 clear hw0
 refine (new_any w0 (ht.ext hx0).first).mono ?_
 rintro e w1 ⟨rfl, h1, hx1⟩
 have hw := write_any w1 w0.heap.size none [] l A c ((ht.ext hx0).ext hx1).roots h1 (hr.ext (hx0.trans hx1)) hA (fun a ha e => by have := hAw a ha; omega) Hl.out (by have := ht.lt; omega) (by simp)
 rw [hN.out] at hw
 rw [hs0] at hw h1 ⊢
 go_wp2_with fail
 refine hw.mono ?_
 rintro e w2 ⟨rfl, lb', h2, _, hc2⟩
 have hx2 : Ext w w2 := (hx0.trans hx1).chg hc2 (fun i hi e => by rcases e with e | e; omega; cases e)
 have hz2 := hc2.blk ((hz0.ext hx1)) (fun e => by rcases e with e | e; omega; cases e)
 have hsum := sum_any w2 (w.heap.size + 1) lb' ([] ++ l) (ht.ext hx2).roots h2 (by have := ht.lt; have := hx2.size; omega)
 rw [List.nil_append] at hsum
 clear hw
 go_wp2_with fail
 refine hsum.mono ?_
 rintro e w3 ⟨rfl, hx3⟩
 have hz3 := hz2.ext hx3
 go_wp2_with (refine wpList_store_mid rfl 23 (.tmp 2) (.tmp 9) rfl w.heap.size 0 (u8s (sha l)).toArray rfl rfl (sum_there hz3 l) (sum_info l) (all_oneCell_toArray (u8s_one _)) ?_)
 refine ⟨rfl, _, results_cell_row rfl _ _ w.heap.size 23 (u8s (sha l)).toArray (0, 0) (.array 32 5) rfl (sum_cells l hz3) (by kernel_rfl) rfl (sum_info l), rfl, Ext_sets (Nat.le_refl _) _ 0 (hx2.trans hx3)⟩
def BInv (w0 w : World) (b : Nat) (bs : List UInt8) : Prop :=
 ∃ p v, (p = none ∨ p = some (⟨b, 0, none⟩ : Addr)) ∧ Blk w b #[.pointer p, v] 106 ∧ w.ownsRow w0.heap.size 5 1 v bs.length (u8s bs) ∧ w0.heap.size ≤ b ∧ Ext w0 w
theorem check_any (w0 w : World) (b : Nat) (v : Value) (p : Option Addr) (hp : p = none ∨ p = some (⟨b, 0, none⟩ : Addr)) (hb : Blk w b #[.pointer p, v] 106) :
  Calls Tryz.prog 94 #[.pointer (some ⟨b, 0, none⟩)] w fun e w' => e = .returned (.tuple #[]) ∧ w' = (if p = none then w.setCell ⟨b, 0, none⟩ (.pointer (some ⟨b, 0, none⟩)) else w) := by
 have c0 := hb.cell 0
 have f0 := hb.frozen 0
 rcases hp with rfl | rfl
 ·have c0 : w.cell? ⟨b, 0, none⟩ = some (.pointer none) := c0
  have hsh : w.shape? b = some (106, 2) := by simp [World.shape?, show w.heap[b]? = _ from hb]
  obtain ⟨j, hj, hjs⟩ := Option.map_eq_some_iff.1 (show (Tryz.prog.info? 106).map (·.size) = some 2 by kernel_rfl)
  have k1 := Lib.run_to_unsafe (P := Tryz.prog) (w := w) (src := 104) (dst := 145) ⟨b, 0, none⟩ Tryz.underlying104 Tryz.underlying145 hj (by rw [hjs]; decide) hsh (Nat.zero_lt_succ 1)
  have k2 := @run_callFunc_extern Tryz.prog 108 _ Extern.AbiNoEscape.same Tryz.func108 (by kernel_rfl) (by kernel_rfl) (by kernel_rfl) (by kernel_rfl)
  have k3 := Lib.run_noEscape (P := Tryz.prog) (w := w) (.pointer (some ⟨b, 0, none⟩))
  have k4 := Lib.run_from_unsafe (P := Tryz.prog) (w := w) (src := 145) (dst := 104) ⟨b, 0, none⟩ Tryz.underlying145 Tryz.underlying104 hj hsh (by kernel_rfl)
  go_enter Tryz.func94, Tryz.ntmps94
  go_wp2_with fail
  go_end0
  exact ⟨rfl, rfl⟩
 ·have c0 : w.cell? ⟨b, 0, none⟩ = some (.pointer (some ⟨b, 0, none⟩)) := c0
  obtain ⟨j, hj, _⟩ := Option.map_eq_some_iff.1 (show (Tryz.prog.info? 106).map (·.size) = some 2 by kernel_rfl)
  have k5 := Lib.run_neq_ptr_same (P := Tryz.prog) w ⟨b, 0, none⟩ Tryz.underlying104 hj
  go_enter Tryz.func94, Tryz.ntmps94
  go_wp2_with fail
  go_end0
  exact ⟨rfl, rfl⟩
theorem own_slice {w : World} {base : Nat} {e : TypeId} {size n : Nat} {v : Value} {xs : List Value} (h : w.ownsRow base e size v n xs) : ∃ A cap, v = .slice A n cap := by
 rcases h.2 with ⟨rfl, rfl⟩ | ⟨g, cap, cur, rfl, _⟩
 ·exact ⟨none, 0, rfl⟩
 ·exact ⟨_, cap, rfl⟩
theorem own_base_ge {w : World} {base : Nat} {e : TypeId} {size n : Nat} {v : Value} {xs : List Value} (h : w.ownsRow base e size v n xs) : ∀ k, v.ownBlock = some k → base ≤ k := fun k hk => by
 rcases h.2 with ⟨rfl, _⟩ | ⟨g, cap, cur, rfl, hb, _⟩
 ·cases hk
 ·injection hk with hk
  have hk : g = k := hk
  omega
theorem el_u8b : El Tryz.prog 50 5 (.int .u8 0) 1 1 := ⟨by kernel_rfl, by kernel_rfl, rfl, by omega⟩
theorem writeByte_any (w0 w : World) (b : Nat) (bs : List UInt8) (c : UInt8) (hl : bs.length ≤ 1000) (h : BInv w0 w b bs) :
  Calls Tryz.prog 68 #[.pointer (some ⟨b, 0, none⟩), .int .u8 (c.toNat : Int)] w fun e w' => e = .returned .nilIface ∧ BInv w0 w' b (bs ++ [c]) := by
 obtain ⟨p, v, hp, hb, ho, hbb, hx⟩ := h
 have hck := check_any w0 w b v p hp hb
 generalize hw1 : (if p = none then w.setCell ⟨b, 0, none⟩ (.pointer (some ⟨b, 0, none⟩)) else w) = w1 at hck
 have hb1 : Blk w1 b #[.pointer (some ⟨b, 0, none⟩), v] 106 := by
  rw [← hw1]
  rcases hp with rfl | rfl
  ·have := hb.set 0 (.pointer (some ⟨b, 0, none⟩)); simpa using this
  ·simpa using hb
 have ho1 : w1.ownsRow w0.heap.size 5 1 v bs.length (u8s bs) := by
  rw [← hw1]
  split
  ·exact own_setCell ho hb (by decide) _
  ·exact ho
 have hx1 : Ext w0 w1 := by
  rw [← hw1]
  split
  ·exact hx.setCell hbb _
  ·exact hx
 clear hw1 hb ho hx hp
 obtain ⟨A, cap, rfl⟩ : ∃ A cap, v = .slice A bs.length cap := by
  rcases ho1.2 with ⟨rfl, h0⟩ | ⟨g, cap, cur, rfl, _⟩
  ·exact ⟨none, 0, by rw [h0]⟩
  ·exact ⟨_, cap, rfl⟩
 obtain ⟨n, hn⟩ : ∃ n, Hid (bs.length = n) := ⟨_, rfl⟩
 have hn2 : n ≤ 1000 := by have := hn.out; omega
 rw [hn.out] at hb1 ho1
 have c1 : w1.cell? ⟨b, 1, none⟩ = some (.slice A n cap) := hb1.cell 1
 have hsz := hx1.size
 go_enter Tryz.func68, Tryz.ntmps68
 go_wp2_with fail
 refine hck.mono ?_
 rintro e w' ⟨rfl, hw⟩
 have hw := hw.symm
 subst hw
 go_wp2_with (
  refine wpList_app el_u8b _ rfl (.tmp 11) (.tmp 13) rfl w0.heap.size (.slice A n cap) n (u8s bs) rfl (own_ext ho1 ((Ext.refl w1).alloc _)) (some ⟨w1.heap.size, 0, none⟩) 1 1 (u8s [c]) rfl (Rd.of_block _ 5 (0, 0) rfl) rfl (fun h => by cases h) (u8s_one _) (by omega) (by omega) (by simp; omega) (fun V2 w2 ho2 hg2 hv2 => ?_)
  obtain ⟨A2, cap2, rfl⟩ := own_slice ho2
  have hb2 : Blk w2 b #[.pointer (some ⟨b, 0, none⟩), .slice A n cap] 106 := (hb1.alloc _).grown hg2 (own_ne_blk ho1 hb1 (by decide))
  have f2 := hb2.frozen 1
  have c2 : w2.cell? ⟨b, 1, none⟩ = some (.slice A n cap) := hb2.cell 1
  have hx2 : Ext w0 w2 := (hx1.alloc _).then_grown hg2 (own_base_ge ho1)
  have hbq := hb2.set 1 (.slice A2 (n + 1) cap2)
  have hoq := own_setCell (i := 1) ho2 hb2 (by decide) (.slice A2 (n + 1) cap2))
 go_ret
 refine ⟨rfl, _, .slice A2 (n + 1) cap2, .inr rfl, hbq, ?_, hbb, hx2.setCell hbb _⟩
 rw [List.length_append, hn.out, u8s_append]
 exact hoq
theorem bstring_any (w0 w : World) (b : Nat) (bs : List UInt8) (hl : bs.length ≤ 1000) (hne : bs ≠ []) (h : BInv w0 w b bs) :
  Calls Tryz.prog 69 #[.pointer (some ⟨b, 0, none⟩)] w fun e w' => e = .returned (.string ⟨bs.toArray⟩) ∧ Ext w0 w' := by
 obtain ⟨p, v, hp, hb, ho, hbb, hx⟩ := h
 have hn0 : bs.length ≠ 0 := fun e => hne (List.eq_nil_of_length_eq_zero e)
 obtain ⟨g, cap, cur, rfl, hbg, hg, hnc, hcm, hcs, htake⟩ : ∃ g cap cur, v = .slice (some ⟨g, 0, none⟩) bs.length cap ∧ w0.heap.size ≤ g ∧ w.heap[g]? = some (.cells cur 5 (0, 0)) ∧ bs.length ≤ cap ∧ cap ≤ maxLen ∧ cur.size = cap * 1 ∧ cur.toList.take (bs.length * 1) = u8s bs := by
  rcases ho.2 with ⟨_, h0⟩ | ⟨g, cap, cur, hv, r⟩
  ·exact absurd h0 hn0
  ·exact ⟨g, cap, cur, hv, r⟩
 obtain ⟨n, hn⟩ : ∃ n, Hid (bs.length = n) := ⟨_, rfl⟩
 have hn1 : 1 ≤ n := by have := hn.out; omega
 have hn2 : n ≤ 1000 := by have := hn.out; omega
 have hsh : w.drew.shape? g = some (5, cur.size) := by simp [World.shape?, show w.drew.heap[g]? = _ from hg]
 have hcell : ∀ j x, bs[j]? = some x → w.drew.cell? ((⟨g, 0, none⟩ : Addr).add j) = some (.int .u8 (x.toNat : Int)) := fun j x hj => by
  have hadd : (⟨g, 0, none⟩ : Addr).add j = ⟨g, j, none⟩ := by unfold Addr.add; split <;> simp_all
  have hj2 : (u8s bs)[j]? = some (.int .u8 (x.toNat : Int)) := by simp [u8s, hj]
  rw [hadd, show w.drew.cell? ⟨g, j, none⟩ = cur[j]? from cell_of_row w.drew g j cur 5 (0, 0) hg]
  rw [← htake, List.getElem?_take] at hj2
  split at hj2
  ·simpa using hj2
  ·cases hj2
 have hUS := Lib.run_unsafeString_row (P := Tryz.prog) w.drew 129 3 9 5 Tryz.underlying129 (by kernel_rfl) g cur.size hsh bs hne (by omega) (by omega) hcell
 have hSD := Lib.run_unsafeSliceData_row (P := Tryz.prog) w.drew #[50] 129 ⟨g, 0, none⟩ n cap (by omega)
 rw [hn.out] at hUS hb
 have c1 : w.drew.cell? ⟨b, 1, none⟩ = some (.slice (some ⟨g, 0, none⟩) n cap) := hb.cell 1
 have hxf : Ext w0 (w.drew.freeze ⟨g, 0, none⟩ n) := Lib.below_freeze hx.drew (p := ⟨g, 0, none⟩) hbg _
 clear hcell hsh htake hcs hg ho hn0 hnc hcm
 go_enter Tryz.func69, Tryz.ntmps69
 go_wp2_with fail
 go_region
 all_goals go_wp2_with fail
 all_goals go_ret
 all_goals exact ⟨rfl, hxf⟩
def hexB : ByteArray := ⟨#[48, 49, 50, 51, 52, 53, 54, 55, 56, 57, 97, 98, 99, 100, 101, 102]⟩
def hexd (n : Nat) : UInt8 := hexB.data.toList.getD n 0
def hexL (m : List UInt8) : List UInt8 := m.flatMap fun c => [hexd (c.toNat / 16), hexd (c.toNat % 16)]
theorem hexd_get (n : Nat) (h : n < 16) : hexB[n]'h = hexd n := by
 unfold hexd
 rw [List.getD, List.getElem?_eq_getElem (by exact h)]
 rfl
theorem hexL_length (m : List UInt8) : (hexL m).length = m.length * 2 := by
 induction m with
 | nil => rfl
 | cons c m ih => simp only [hexL, List.flatMap_cons, List.length_append, List.length_cons, List.length_nil] at *; omega
theorem hexL_snoc (m : List UInt8) (c : UInt8) : hexL (m ++ [c]) = hexL m ++ [hexd (c.toNat / 16)] ++ [hexd (c.toNat % 16)] := by simp [hexL]
set_option maxHeartbeats 2000000 in
theorem hex_any (m : List UInt8) (hm : m.length = 32) (w : World) :
  Calls Tryz.prog 40 #[.agg (u8s m).toArray] w fun e w' => e = .returned (.string ⟨(hexL m).toArray⟩) ∧ Ext w w' := by
 obtain ⟨L, hL⟩ : ∃ L, Held (u8s m = L) := ⟨_, ⟨rfl⟩⟩
 rw [hL.out]
 have hLl : L.length = 32 := by rw [← hL.out, u8s_length, hm]
 have hLat : ∀ i (h : i < 32), L.toArray[i]? = some (.int .u8 ((m[i]'(by omega)).toNat : Int)) := fun i h => by rw [← hL.out]; simp [u8s, hm, h]
 obtain ⟨b, hb⟩ : ∃ b, Held (w.heap.size + 1 = b) := ⟨_, ⟨rfl⟩⟩
 have hty : (Tryz.prog.info? 23).map (·.size) = some L.length := by rw [hLl]; kernel_rfl
 have hld : ∀ j v, L[j]? = some v → ((w.alloc (.cells L.toArray 23)).alloc (.cells #[.pointer none, .slice none 0 0] 106)).cell? ⟨w.heap.size, 0 + j, none⟩ = some v := fun j v hj => by
  rw [Nat.zero_add, ((Blk.new w L.toArray 23).alloc _).cell j, List.getElem?_toArray, hj]
 have hB : BInv w ((w.alloc (.cells L.toArray 23)).alloc (.cells #[.pointer none, .slice none 0 0] 106)) b [] := by
  have h := Blk.new (w.alloc (.cells L.toArray 23)) #[.pointer none, .slice none 0 0] 106
  rw [World.size_alloc, hb.out] at h
  exact ⟨none, _, .inl rfl, h, World.ownsRow_nil _ _ _ _, by rw [← hb.out]; omega, ((Ext.refl w).alloc _).alloc _⟩
 go_enter Tryz.func40, Tryz.ntmps40
 go_wp2_with (refine wpList_load_mid rfl 23 (.tmp 1) rfl w.heap.size 0 rfl L (.array 32 5) hld (by kernel_rfl) rfl hty ?_)
 rw [hb.out]
 generalize World.alloc (World.alloc w _) _ = w1 at hB ⊢
 clear hld
 go_loopw [7] (fun v7 wr => ∃ i : Nat, i ≤ 32 ∧ v7 = .int .i64 i ∧ BInv w wr b (hexL (m.take i))) (fun v7 _ => 32 - (intOf v7).toNat)
 case atStart => exact ⟨0, by omega, rfl, hB⟩
 case round =>
  clear hB
  obtain ⟨i, hi, rfl, hB⟩ := hrel
  by_cases hin : i < 32
  ·have hin' : (i : Int) < 32 := by omega
   obtain ⟨c, hc⟩ : ∃ c, Held (m[i]'(by omega) = c) := ⟨_, ⟨rfl⟩⟩
   have hat := hLat i hin
   rw [hc.out] at hat
   have hcl := c.toNat_lt
   have hcl' : (c.toNat : Int) < 256 := by omega
   obtain ⟨H, hH⟩ : ∃ H, Held (hexL (m.take i) = H) := ⟨_, ⟨rfl⟩⟩
   have hHl : H.length ≤ 64 := by rw [← hH.out, hexL_length, List.length_take]; omega
   have hnx : hexL (m.take (i + 1)) = H ++ [hexd (c.toNat / 16)] ++ [hexd (c.toNat % 16)] := by
    rw [List.take_succ_eq_append_getElem (by omega), hexL_snoc, hH.out, hc.out]
   rw [hH.out] at hB
   have hw1 := writeByte_any w wr b H (hexd (c.toNat / 16)) (by omega) hB
   have g1 : (⟨#[48, 49, 50, 51, 52, 53, 54, 55, 56, 57, 97, 98, 99, 100, 101, 102]⟩ : ByteArray)[c.toNat / 16]'(by show _ < 16; omega) = hexd (c.toNat / 16) := hexd_get _ (by omega)
   have g2 : (⟨#[48, 49, 50, 51, 52, 53, 54, 55, 56, 57, 97, 98, 99, 100, 101, 102]⟩ : ByteArray)[c.toNat % 16]'(by show _ < 16; omega) = hexd (c.toNat % 16) := hexd_get _ (by omega)
   go_wp2_with (refine wpList_index rfl 23 (.tmp 6) (.tmp 7) rfl _ _ rfl rfl _ (run_index_row _ _ 5 32 L.toArray i .u8 (by kernel_rfl) (by kernel_rfl) (by kernel_rfl) hin _ hat) ?_)
   refine hw1.mono ?_
   rintro e w2 ⟨rfl, hB2⟩
   have hw2 := writeByte_any w w2 b _ (hexd (c.toNat % 16)) (by rw [List.length_append]; simp; omega) hB2
   go_wp2_with fail
   refine hw2.mono ?_
   rintro e w3 ⟨rfl, hB3⟩
   rw [← hnx] at hB3
   go_wp2_with fail
   refine ⟨⟨i + 1, by omega, rfl, hB3⟩, ?_⟩
   simp [intOf]
   omega
  ·obtain rfl : i = 32 := by omega
   rw [List.take_of_length_le (by omega)] at hB
   have hs := bstring_any w wr b (hexL m) (by rw [hexL_length]; omega) (fun e => by have := hexL_length m; rw [e] at this; simp at this; omega) hB
   go_wp2_with fail
   refine hs.mono ?_
   rintro e w2 ⟨rfl, hx⟩
   go_wp2_with fail
   go_ret
   exact ⟨rfl, hx⟩
end Go.Proofs.YtbpfabhlngfciaaGreatDoor.ShaW
namespace Go.Proofs.YtbpfabhlngfciaaGreatDoor.Cn
open Go.ChangeShapes Go.WideShapes Go.ChangeAt Go.RowKit
open Base Lx Mi Pr ShaP ShaW
def hashP (s : ByteArray) : List UInt8 := if (formP s).2.2 = 0 then sha (formP s).1.data.toList else List.replicate 32 0
def okP (s : ByteArray) : Bool := decide ((formP s).2.2 = 0)
theorem hashP_len (s : ByteArray) : (hashP s).length = 32 := by
 unfold hashP
 split
 ·exact sha_length _
 ·rfl
theorem form_len (s : ByteArray) : (formP s).1.data.toList.length ≤ 4096 := by
 unfold formP
 by_cases h : (parseP s).2.2 = 0
 ·obtain ⟨t, h1, h2, h3, _⟩ := back_plain' s h
  rw [if_pos h, h1]
  simp only [Option.getD_some]
  omega
 ·rw [if_neg h]
  exact Nat.zero_le _
theorem results_row_tmp {P : Program} {fn : Func} {p u : Tmp} {ty : TypeId} (h : fn.results = #[.cell p ty, .tmp u]) (tmps : Array Value) (w : World) (g : Nat) (t : TypeId) (cs : Array Value) (fr : Nat × Nat) (d : TypeDesc)
  (hp : tmps.getD p undef = .pointer (some ⟨g, 0, none⟩)) (hg : w.heap[g]? = some (.cells cs t fr))
  (hu : P.underlying ty = some d) (hd : (match d with | .struct _ | .array _ _ => true | _ => false) = true) (hi : (P.info? ty).map (·.size) = some cs.size) :
  (results fn tmps).run P w = .ok (.tuple #[.agg cs, tmps.getD u undef]) w := by
 have hp' : tmps[p]?.getD undef = .pointer (some ⟨g, 0, none⟩) := by simpa using hp
 simp [results, h, hp', asAddr, Sem.run_bind, run_loadVar_row w g t ty cs fr d hg hu hd hi]
theorem sumX_cells (X : List UInt8) (hX : X.length = 32) {w : World} {g : Nat} (hz : Blk w g z32 23) : Blk (w.setCells g 0 (u8s X)) g (u8s X).toArray 23 := by
 have hz2 := Blk_sets (u8s X) 0 _ _ hz
 rwa [show setMany z32 0 (u8s X) = (u8s X).toArray from setMany_full _ [] (u8s (List.replicate 32 0)) (by rw [u8s_length, u8s_length, hX]; rfl)] at hz2
theorem sumX_there {w : World} {g : Nat} (hz : Blk w g z32 23) (X : List UInt8) (hX : X.length = 32) : w.there g 0 (u8s X).toArray.size := fun j hj => by
 rw [Nat.zero_add]
 exact ⟨by rw [hz.cell j, Array.getElem?_eq_getElem (by simpa [z32, u8s_length, hX] using hj)]; rfl, hz.frozen j⟩
theorem sumX_info (X : List UInt8) (hX : X.length = 32) : (Tryz.prog.info? 23).map (·.size) = some (u8s X).toArray.size := by rw [List.size_toArray, u8s_length, hX]; kernel_rfl
theorem hashed_any (s : ByteArray) (hs : s.size ≤ 140737488351232) (w : World) (hwd : Wd w) (hpow : Pow w) (ht : Tabs w) :
  Calls Tryz.prog 38 #[.string s] w fun e w' => e = .returned (.tuple #[.agg (u8s (hashP s)).toArray, .bool (okP s)]) ∧ Ext w w' := by
 obtain ⟨q, hq⟩ : ∃ z, Hid (w.heap.size = z) := ⟨_, rfl⟩
 have hc := fun W (hW : Ext w W) => ctext_any s hs W (hwd.ext hW) (hpow.ext hW)
 have hok : okP s = decide ((formP s).2.2 = 0) := rfl
 have hH : hashP s = if (formP s).2.2 = 0 then sha (formP s).1.data.toList else List.replicate 32 0 := rfl
 have hXl := hashP_len s
 have hfl := form_len s
 obtain ⟨X, hX⟩ : ∃ z, Hid (hashP s = z) := ⟨_, Lib.hid rfl⟩
 obtain ⟨F, hF⟩ : ∃ z, Hid (formP s = z) := ⟨_, Lib.hid rfl⟩
 rw [hF.out] at hok hH hfl
 simp only [hF.out] at hc
 rw [hX.out] at hXl hH ⊢
 rw [hok]
 obtain ⟨t, a, y⟩ := F
 simp only at hc hH hfl ⊢
 obtain ⟨PO, hPO⟩ : ∃ PO : Ending → World → Prop, Hid ((fun e w' => e = .returned (.tuple #[.agg (u8s X).toArray, .bool (decide (y = 0))]) ∧ Ext w w') = PO) := ⟨_, Lib.hid rfl⟩
 rw [hPO.out]
 have hsum := fun W A c => sumTop_any W A c t.data.toList
 replace hc := Lib.hid hc
 replace hH := Lib.hid hH
 replace hsum := Lib.hid hsum
 clear hok
 go_enter Tryz.func38, Tryz.ntmps38
 go_wp2_with fail
 generalize hw0 : World.alloc w _ = w1
 have hx1 : Ext w w1 := by rw [← hw0]; exact (Ext.refl w).alloc _
 have hz1 : Blk w1 q z32 23 := by rw [← hw0, ← hq.out]; exact Blk.new w z32 _
 clear hw0
 rw [hq.out]
 refine (hc.out w1 hx1).mono ?_
 rintro e w2 ⟨rfl, hx2⟩
 have hz2 := hz1.ext hx2
 have hx02 := hx1.trans hx2
 clear hc
 by_cases h0 : y = 0
 ·subst h0
  have hH' := hH.out
  rw [if_pos rfl] at hH'
  have hcv := Lib.run_convert_string_bytes (P := Tryz.prog) w2 9 50 5 t Tryz.underlying9 Tryz.underlying50 Tryz.underlying5
  obtain ⟨cap, hcap⟩ : ∃ c, Hid (grownCap w2 t.size 0 5 = c) := ⟨_, rfl⟩
  rw [hcap.out] at hcv
  obtain ⟨w3, hw3⟩ : ∃ z, Hid (Lib.bytesWorld w2 5 t = z) := ⟨_, rfl⟩
  rw [hw3.out] at hcv
  have hx3 : Ext w2 w3 := by rw [← hw3.out]; exact ext_bytes _ _ _
  have hsz : t.data.toList.length = t.size := Array.length_toList
  have hrb : Rb w3 (some ⟨w2.heap.size, 0, none⟩) t.data.toList := fun _ => ⟨_, 0, rfl, fun j u hj => by
   have hlt : j < t.size := by
    rw [← hsz]
    obtain ⟨h1, _⟩ := List.getElem?_eq_some_iff.1 hj
    simpa [u8s_length] using h1
   rw [Nat.zero_add, ← hw3.out, Lib.bytesWorld_cell _ _ _ j hlt, ← hj]
   simp [u8s, List.getD, List.getElem?_eq_getElem (show j < t.data.toList.length by omega)]⟩
  have hlt : w2.heap.size < w3.heap.size := by rw [← hw3.out, Lib.bytesWorld_size]; omega
  have hs3 := hsum.out w3 (some ⟨w2.heap.size, 0, none⟩) cap (ht.ext (hx02.trans hx3)) hrb (fun h => by cases h) (fun a ha => by injection ha with ha; rw [← ha]; exact hlt) (by omega)
  rw [hsz, ← hH'] at hs3
  clear hsum hrb hH hH'
  go_wp2_with fail
  refine hs3.mono ?_
  rintro e w4 ⟨rfl, hx4⟩
  have hz4 := (hz2.ext hx3).ext hx4
  have hx04 := (hx02.trans hx3).trans hx4
  clear hs3 hcv
  go_wp2_with (refine wpList_store_mid rfl 23 (.tmp 2) (.tmp 18) rfl q 0 (u8s X).toArray rfl rfl (sumX_there hz4 _ hXl) (sumX_info _ hXl) (all_oneCell_toArray (u8s_one _)) ?_)
  have hzF := sumX_cells X hXl hz4
  have hxF : Ext w (w4.setCells q 0 (u8s X)) := Ext_sets (by rw [hq.out]; exact Nat.le_refl _) _ 0 hx04
  refine bodyPost_ret (results_row_tmp rfl _ _ q 23 (u8s X).toArray (0, 0) (.array 32 5) rfl hzF (by kernel_rfl) rfl (sumX_info X hXl)) rfl ?_
  rw [← hPO.out]
  exact ⟨rfl, hxF⟩
 ·have hyb : ((y : Int) != 0) = true := by simpa using h0
  have hH' := hH.out
  rw [if_neg h0] at hH'
  subst hH'
  clear hH hsum
  go_wp2_with (refine wpList_store_mid rfl 23 (.tmp 2) (.tmp 15) rfl q 0 (u8s (List.replicate 32 0)).toArray rfl rfl (sumX_there hz2 _ rfl) (sumX_info _ rfl) (all_oneCell_toArray (u8s_one _)) ?_)
  have hzF := sumX_cells (List.replicate 32 0) rfl hz2
  have hxF : Ext w (w2.setCells q 0 (u8s (List.replicate 32 0))) := Ext_sets (by rw [hq.out]; exact Nat.le_refl _) _ 0 hx02
  refine bodyPost_ret (results_row_tmp rfl _ _ q 23 (u8s (List.replicate 32 0)).toArray (0, 0) (.array 32 5) rfl hzF (by kernel_rfl) rfl (sumX_info _ rfl)) rfl ?_
  rw [← hPO.out]
  exact ⟨by rw [decide_eq_false h0]; rfl, hxF⟩
theorem Print_any (s : ByteArray) (hs : s.size ≤ 140737488351232) (w : World) (hwd : Wd w) (hpow : Pow w) (ht : Tabs w) :
  Calls Tryz.prog 11 #[.string s] w fun e w' => e = .returned (.tuple #[.agg (u8s (hashP s)).toArray, .bool (okP s)]) ∧ Ext w w' := by
 obtain ⟨q, hq⟩ : ∃ z, Hid (w.heap.size = z) := ⟨_, rfl⟩
 have hc := fun W (hW : Ext w W) => hashed_any s hs W (hwd.ext hW) (hpow.ext hW) (ht.ext hW)
 have hXl := hashP_len s
 obtain ⟨X, hX⟩ : ∃ z, Hid (hashP s = z) := ⟨_, Lib.hid rfl⟩
 obtain ⟨b, hb⟩ : ∃ z, Hid (okP s = z) := ⟨_, Lib.hid rfl⟩
 simp only [hX.out, hb.out] at hc
 rw [hX.out] at hXl ⊢
 rw [hb.out]
 replace hc := Lib.hid hc
 go_enter Tryz.func11, Tryz.ntmps11
 go_wp2_with fail
 generalize hw0 : World.alloc w _ = w1
 have hx1 : Ext w w1 := by rw [← hw0]; exact (Ext.refl w).alloc _
 have hz1 : Blk w1 q z32 23 := by rw [← hw0, ← hq.out]; exact Blk.new w z32 _
 clear hw0
 rw [hq.out]
 refine (hc.out w1 hx1).mono ?_
 rintro e w2 ⟨rfl, hx2⟩
 have hz2 := hz1.ext hx2
 have hx02 := hx1.trans hx2
 clear hc
 go_wp2_with (refine wpList_store_mid rfl 23 (.tmp 2) (.tmp 6) rfl q 0 (u8s X).toArray rfl rfl (sumX_there hz2 _ hXl) (sumX_info _ hXl) (all_oneCell_toArray (u8s_one _)) ?_)
 have hzF := sumX_cells X hXl hz2
 have hxF : Ext w (w2.setCells q 0 (u8s X)) := Ext_sets (by rw [hq.out]; exact Nat.le_refl _) _ 0 hx02
 refine bodyPost_ret (results_row_tmp rfl _ _ q 23 (u8s X).toArray (0, 0) (.array 32 5) rfl hzF (by kernel_rfl) rfl (sumX_info X hXl)) rfl ?_
 exact ⟨rfl, hxF⟩
theorem extr8 (H : List UInt8) : (⟨H.toArray⟩ : ByteArray).extract 0 8 = ⟨(H.take 8).toArray⟩ := by
 apply ByteArray.ext
 rw [ByteArray.data_extract]
 simp
theorem Short_any (s : ByteArray) (hs : s.size ≤ 140737488351232) (w : World) (hwd : Wd w) (hpow : Pow w) (ht : Tabs w) :
  Calls Tryz.prog 13 #[.string s] w fun e w' => e = .returned (.string (if okP s = true then ⟨((hexL (hashP s)).take 8).toArray⟩ else ⟨#[]⟩)) ∧ Ext w w' := by
 have hc := hashed_any s hs w hwd hpow ht
 have hXl := hashP_len s
 obtain ⟨X, hX⟩ : ∃ z, Hid (hashP s = z) := ⟨_, Lib.hid rfl⟩
 obtain ⟨b, hb⟩ : ∃ z, Hid (okP s = z) := ⟨_, Lib.hid rfl⟩
 simp only [hX.out, hb.out] at hc
 rw [hX.out] at hXl ⊢
 rw [hb.out]
 have hhx := fun W => hex_any X hXl W
 have hhl : (hexL X).length = 64 := by rw [hexL_length, hXl]
 obtain ⟨H, hH⟩ : ∃ z, Hid (hexL X = z) := ⟨_, Lib.hid rfl⟩
 simp only [hH.out] at hhx
 rw [hH.out] at hhl ⊢
 obtain ⟨S, hS⟩ : ∃ z, Hid ((⟨H.toArray⟩ : ByteArray) = z) := ⟨_, Lib.hid rfl⟩
 simp only [hS.out] at hhx
 have hSl : S.size = 64 := by rw [← hS.out]; simpa [ByteArray.size] using hhl
 replace hhx := Lib.hid hhx
 go_enter Tryz.func13, Tryz.ntmps13
 go_wp2_with fail
 refine hc.mono ?_
 rintro e w1 ⟨rfl, hx1⟩
 clear hc
 have hzN : Blk (w1.alloc (.cells z32 23)) w1.heap.size z32 23 := Blk.new w1 z32 _
 have hzF := sumX_cells X hXl hzN
 have hxF : Ext w1 ((w1.alloc (.cells z32 23)).setCells w1.heap.size 0 (u8s X)) := Ext_sets (Nat.le_refl _) _ 0 ((Ext.refl w1).alloc _)
 have hld : ∀ j v, (u8s X)[j]? = some v → ((w1.alloc (.cells z32 23)).setCells w1.heap.size 0 (u8s X)).cell? ⟨w1.heap.size, 0 + j, none⟩ = some v := fun j v hj => by
  rw [Nat.zero_add, hzF.cell j, List.getElem?_toArray, hj]
 have hty : (Tryz.prog.info? 23).map (·.size) = some (u8s X).length := by rw [u8s_length, hXl]; kernel_rfl
 cases b with
 | false =>
  go_wp2_with (refine wpList_store_mid rfl 23 (.tmp 3) (.tmp 8) rfl w1.heap.size 0 (u8s X).toArray rfl rfl (sumX_there hzN X hXl) (sumX_info _ hXl) (all_oneCell_toArray (u8s_one _)) ?_)
  go_ret
  exact ⟨rfl, hx1.trans hxF⟩
 | true =>
  go_wp2_with (first
   | refine wpList_store_mid rfl 23 (.tmp 3) (.tmp 8) rfl w1.heap.size 0 (u8s X).toArray rfl rfl (sumX_there hzN X hXl) (sumX_info _ hXl) (all_oneCell_toArray (u8s_one _)) ?_
   | refine wpList_load_mid rfl 23 (.tmp 3) rfl w1.heap.size 0 rfl (u8s X) (.array 32 5) hld (by kernel_rfl) rfl hty ?_)
  refine (hhx.out _).mono ?_
  rintro e w3 ⟨rfl, hx3⟩
  go_wp2_with fail
  go_ret
  exact ⟨by rw [← hS.out, extr8]; rfl, (hx1.trans hxF).trans hx3⟩
theorem cText_any (s : ByteArray) (hs : s.size ≤ 140737488351232) (w : World) (hwd : Wd w) (hpow : Pow w) : Calls Tryz.prog 15 #[.string s] w fun e w' => e = .returned (.tuple #[.string (formP s).1, .int .i64 (formP s).2.1, .int .i64 (formP s).2.2]) ∧ Ext w w' := by
 have hc := ctext_any s hs w hwd hpow
 obtain ⟨F, hF⟩ : ∃ z, Hid (formP s = z) := ⟨_, Lib.hid rfl⟩
 rw [hF.out] at hc ⊢
 obtain ⟨t, a, y⟩ := F
 simp only at hc ⊢
 go_enter Tryz.func15, Tryz.ntmps15
 go_wp2_with fail
 refine hc.mono ?_
 rintro e w1 ⟨rfl, hx1⟩
 go_wp2_with fail
 refine bodyPost_ret (results_tmp3 rfl _ _ _) rfl ?_
 exact ⟨rfl, hx1⟩
def tLive8 : ByteArray := ⟨#[32, 91, 32, 105, 110, 116, 32, 93, 32, 35, 32, 120]⟩
def tForm8 : ByteArray := ⟨#[91, 105, 110, 116, 93]⟩
theorem live_form8 : formP tLive8 = (tForm8, 0, 0) := by decide +kernel
theorem live_is8 : isP tForm8 = true := by decide +kernel
theorem live_ok8 : okP tForm8 = true := by decide +kernel
theorem lives8_any (w : World) (hwd : Wd w) (hpow : Pow w) (ht : Tabs w) : Calls Tryz.prog 14 #[] w fun e w' => e = .returned (.bool true) ∧ Ext w w' := by
 have h1 := cText_any tLive8 (by decide) w hwd hpow
 rw [live_form8] at h1
 replace h1 : Calls Tryz.prog 15 #[.string ⟨#[32, 91, 32, 105, 110, 116, 32, 93, 32, 35, 32, 120]⟩] w fun e w' => e = .returned (.tuple #[.string ⟨#[91, 105, 110, 116, 93]⟩, .int .i64 0, .int .i64 0]) ∧ Ext w w' := h1
 have h2 : ∀ W, Ext w W → Calls Tryz.prog 19 #[.string ⟨#[91, 105, 110, 116, 93]⟩] W fun e w' => e = .returned (.bool true) ∧ Ext W w' := fun W hW => by
  have := cIs_any tForm8 (by decide) W (hwd.ext hW) (hpow.ext hW)
  rw [live_is8] at this
  exact this
 have hl : (⟨((hexL (hashP tForm8)).take 8).toArray⟩ : ByteArray).size = 8 := by
  show (((hexL (hashP tForm8)).take 8).toArray).size = 8
  rw [List.size_toArray, List.length_take, hexL_length, hashP_len]; rfl
 obtain ⟨S, hS⟩ : ∃ z, Hid ((⟨((hexL (hashP tForm8)).take 8).toArray⟩ : ByteArray) = z) := ⟨_, Lib.hid rfl⟩
 rw [hS.out] at hl
 have h3 : ∀ W, Ext w W → Calls Tryz.prog 13 #[.string ⟨#[91, 105, 110, 116, 93]⟩] W fun e w' => e = .returned (.string S) ∧ Ext W w' := fun W hW => by
  have := Short_any tForm8 (by decide) W (hwd.ext hW) (hpow.ext hW) (ht.ext hW)
  rw [live_ok8, if_pos rfl, hS.out] at this
  exact this
 replace h2 := Lib.hid h2
 replace h3 := Lib.hid h3
 go_enter Tryz.func14, Tryz.ntmps14
 go_wp2_with fail
 refine h1.mono ?_
 rintro e w1 ⟨rfl, hx1⟩
 have h2' := h2.out w1 hx1
 clear h1
 go_wp2_with fail
 refine h2'.mono ?_
 rintro e w2 ⟨rfl, hx2⟩
 have h3' := h3.out w2 (hx1.trans hx2)
 clear h2'
 go_wp2_with fail
 refine h3'.mono ?_
 rintro e w3 ⟨rfl, hx3⟩
 go_wp2_with fail
 go_ret
 exact ⟨rfl, (hx1.trans hx2).trans hx3⟩
end Go.Proofs.YtbpfabhlngfciaaGreatDoor.Cn
namespace Go.Proofs.YtbpfabhlngfciaaGreatDoor.Base
open Go.ChangeShapes Go.WideShapes Go.ChangeAt Go.RowKit
def cutA (A : Option Addr) (c l : Nat) : Option Addr := if c = l then A else A.map (·.add l)
theorem cutA_block {A : Option Addr} {c l : Nat} {a : Addr} (h : cutA A c l = some a) : ∃ a0, A = some a0 ∧ a.block = a0.block := by
 unfold cutA at h
 split at h
 ·exact ⟨a, h, rfl⟩
 ·cases A with
  | none => cases h
  | some a0 =>
   simp only [Option.map_some, Option.some.injEq] at h
   refine ⟨a0, rfl, ?_⟩
   rw [← h]; unfold Addr.add; split <;> rfl
theorem cutA_none {A : Option Addr} {c l : Nat} (hA : A = none → c = 0) (h : cutA A c l = none) : c - l = 0 := by
 unfold cutA at h
 split at h
 ·omega
 ·cases A with
  | none => have := hA rfl; omega
  | some a0 => cases h
theorem Rd.cut {w : World} {A : Option Addr} {L : List Value} (h : Rd w A L) {c l k : Nat} (hl : l ≤ k) (hk : k ≤ c) : Rd w (cutA A c l) ((L.take k).drop l) := by
 intro hne
 have hlen : l < (L.take k).length := by
  rcases Nat.lt_or_ge l (L.take k).length with x | x
  ·exact x
  ·exact absurd (List.drop_eq_nil_of_le x) hne
 have hL : L ≠ [] := by rintro rfl; simp at hlen
 obtain ⟨b, off, rfl, hc⟩ := h hL
 have hlk : l < k := by rw [List.length_take] at hlen; omega
 refine ⟨b, off + l, ?_, fun j u hj => ?_⟩
 ·unfold cutA
  rw [if_neg (by omega)]
  simp only [Option.map_some]
  congr 1
  unfold Addr.add; split <;> simp_all
 ·rw [List.getElem?_drop, List.getElem?_take] at hj
  split at hj
  ·rw [Nat.add_assoc]; exact hc _ u hj
  ·cases hj
theorem Rb.cut {w : World} {A : Option Addr} {L : List UInt8} (h : Rb w A L) {c l k : Nat} (hl : l ≤ k) (hk : k ≤ c) : Rb w (cutA A c l) ((L.take k).drop l) := by
 have := Rd.cut h hl hk
 rwa [u8s, ← List.map_take, ← List.map_drop] at this
theorem run_cut {P : Program} {t e : TypeId} (ht : P.underlying t = some (.slice e)) (he : (P.info? e).map (·.size) = some 1) (w : World) (A : Option Addr) (n c l k : Nat) (lo hi : Option Value)
  (hlo : lo = some (.int .i64 (l : Int)) ∨ lo = none ∧ l = 0) (hhi : hi = some (.int .i64 (k : Int)) ∨ hi = none ∧ k = n) (hl : l ≤ k) (hk : k ≤ c) (hn : hi = none → n ≤ c) :
  (Instr.slice t (.slice A n c) lo hi none).run P w = .ok (.slice (cutA A c l) (k - l) (c - l)) w := by
 have h1 : (0 : Int) ≤ (l : Int) ∧ (l : Int) ≤ (k : Int) := by omega
 have h2 : (0 : Int) ≤ (k : Int) ∧ (k : Int) ≤ (c : Int) := by omega
 cases hq : P.info? e with
 | none => simp [hq] at he
 | some i =>
  have hi1 : i.size = 1 := by simpa [hq] using he
  rcases hlo with rfl | ⟨rfl, rfl⟩ <;> rcases hhi with rfl | ⟨rfl, rfl⟩ <;>
   simp [Instr.slice, Instr.sliceBounds, Instr.sliceBound, run_underlying ht, asIntOf, h1, h2, sizeOf, typeInfo, hq, hi1, cutA, go_sem] <;>
   (try rw [if_pos hk, if_pos hl]) <;> (try (intro h; omega))
theorem run_cutAt {P : Program} {t e : TypeId} (ht : P.underlying t = some (.slice e)) (he : (P.info? e).map (·.size) = some 1) (w : World) (A : Option Addr) (n c l k : Nat) (lo hi : Option Value)
  (hlo : lo = some (.int .i64 (l : Int)) ∨ lo = none ∧ l = 0) (hhi : hi = some (.int .i64 (k : Int)) ∨ hi = none ∧ k = n) (hl : l ≤ k) (hk : k ≤ c) (hn : hi = none → n ≤ c) :
  (Instr.sliceAt t (.slice A n c) lo hi none).run P w = .ok (.slice (cutA A c l) (k - l) (c - l)) w := by
 rw [← run_cut ht he w A n c l k lo hi hlo hhi hl hk hn]
 simp [Instr.sliceAt, run_underlying ht]
theorem wpList_cut {P : Program} {ops : Array Oper} {rest : List Oper} {op : Oper} {a : Act} {w : World} {Q : Exit → Act → World → Prop} (hgd : op.guard = none) (t : TypeId) (x : Operand) (lo hi : Option Operand) (ho : op.op = .slice t x lo hi none) (vx v : Value) (vlo vhi : Option Value) (hx : a.eval x = vx) (hlo : lo.map a.eval = vlo) (hhi : hi.map a.eval = vhi)
  (hrun : (Instr.sliceAt t vx vlo vhi none).run P w = .ok v w) (h : wpList P ops Q rest (a.put op.dst v) w) : wpList P ops Q (op :: rest) a w :=
 wpList_plain hgd fun _ hK => by
  unfold Oper.wp execOp
  simp only [ho, hx, hlo, hhi, Option.map_none, Sem.run_bind, Sem.run_pure, Result.andThen_ok, hrun]
  exact hK _ _ h
end Go.Proofs.YtbpfabhlngfciaaGreatDoor.Base
namespace Go.Proofs.YtbpfabhlngfciaaGreatDoor.ShaW
open Go.ChangeShapes Go.WideShapes Go.ChangeAt Go.RowKit
open ShaP Base Piece
set_option maxRecDepth 1000000 in
theorem lay315 {v0 v1 v2 v3 v4 v5 v6 v7 v8 v9 v10 v11 v12 v13 v14 v15 v16 v17 v18 v19 v20 v21 : Value} {a : Act} (h : Piece.Fr 315 [v0, v1, v2, v3, v4, v5, v6, v7, v8, v9, v10, v11, v12, v13, v14, v15, v16, v17, v18, v19, v20, v21] a) : ∃ u : Nat → Value, a = ⟨(v0 :: v1 :: v2 :: v3 :: v4 :: v5 :: v6 :: v7 :: v8 :: v9 :: v10 :: v11 :: v12 :: v13 :: v14 :: v15 :: v16 :: v17 :: v18 :: v19 :: v20 :: v21 :: u 22 :: u 23 :: u 24 :: u 25 :: u 26 :: u 27 :: u 28 :: u 29 :: u 30 :: u 31 :: u 32 :: u 33 :: u 34 :: u 35 :: u 36 :: u 37 :: u 38 :: u 39 :: u 40 :: u 41 :: u 42 :: u 43 :: u 44 :: u 45 :: u 46 :: u 47 :: u 48 :: u 49 :: u 50 :: u 51 :: u 52 :: u 53 :: u 54 :: u 55 :: u 56 :: u 57 :: u 58 :: u 59 :: u 60 :: u 61 :: u 62 :: u 63 :: u 64 :: u 65 :: u 66 :: u 67 :: u 68 :: u 69 :: u 70 :: u 71 :: u 72 :: u 73 :: u 74 :: u 75 :: u 76 :: u 77 :: u 78 :: u 79 :: u 80 :: u 81 :: u 82 :: u 83 :: u 84 :: u 85 :: u 86 :: u 87 :: u 88 :: u 89 :: u 90 :: u 91 :: u 92 :: u 93 :: u 94 :: u 95 :: u 96 :: u 97 :: u 98 :: u 99 :: u 100 :: u 101 :: u 102 :: u 103 :: u 104 :: u 105 :: u 106 :: u 107 :: u 108 :: u 109 :: u 110 :: u 111 :: u 112 :: u 113 :: u 114 :: u 115 :: u 116 :: u 117 :: u 118 :: u 119 :: u 120 :: u 121 :: u 122 :: u 123 :: u 124 :: u 125 :: u 126 :: u 127 :: u 128 :: u 129 :: u 130 :: u 131 :: u 132 :: u 133 :: u 134 :: u 135 :: u 136 :: u 137 :: u 138 :: u 139 :: u 140 :: u 141 :: u 142 :: u 143 :: u 144 :: u 145 :: u 146 :: u 147 :: u 148 :: u 149 :: u 150 :: u 151 :: u 152 :: u 153 :: u 154 :: u 155 :: u 156 :: u 157 :: u 158 :: u 159 :: u 160 :: u 161 :: u 162 :: u 163 :: u 164 :: u 165 :: u 166 :: u 167 :: u 168 :: u 169 :: u 170 :: u 171 :: u 172 :: u 173 :: u 174 :: u 175 :: u 176 :: u 177 :: u 178 :: u 179 :: u 180 :: u 181 :: u 182 :: u 183 :: u 184 :: u 185 :: u 186 :: u 187 :: u 188 :: u 189 :: u 190 :: u 191 :: u 192 :: u 193 :: u 194 :: u 195 :: u 196 :: u 197 :: u 198 :: u 199 :: u 200 :: u 201 :: u 202 :: u 203 :: u 204 :: u 205 :: u 206 :: u 207 :: u 208 :: u 209 :: u 210 :: u 211 :: u 212 :: u 213 :: u 214 :: u 215 :: u 216 :: u 217 :: u 218 :: u 219 :: u 220 :: u 221 :: u 222 :: u 223 :: u 224 :: u 225 :: u 226 :: u 227 :: u 228 :: u 229 :: u 230 :: u 231 :: u 232 :: u 233 :: u 234 :: u 235 :: u 236 :: u 237 :: u 238 :: u 239 :: u 240 :: u 241 :: u 242 :: u 243 :: u 244 :: u 245 :: u 246 :: u 247 :: u 248 :: u 249 :: u 250 :: u 251 :: u 252 :: u 253 :: u 254 :: u 255 :: u 256 :: u 257 :: u 258 :: u 259 :: u 260 :: u 261 :: u 262 :: u 263 :: u 264 :: u 265 :: u 266 :: u 267 :: u 268 :: u 269 :: u 270 :: u 271 :: u 272 :: u 273 :: u 274 :: u 275 :: u 276 :: u 277 :: u 278 :: u 279 :: u 280 :: u 281 :: u 282 :: u 283 :: u 284 :: u 285 :: u 286 :: u 287 :: u 288 :: u 289 :: u 290 :: u 291 :: u 292 :: u 293 :: u 294 :: u 295 :: u 296 :: u 297 :: u 298 :: u 299 :: u 300 :: u 301 :: u 302 :: u 303 :: u 304 :: u 305 :: u 306 :: u 307 :: u 308 :: u 309 :: u 310 :: u 311 :: u 312 :: u 313 :: u 314 :: []).toArray, []⟩ := by
 obtain ⟨u, hu⟩ := h.spread
 refine ⟨u, hu.trans ?_⟩
 kernel_rfl
noncomputable def refBody (n : Nat) : Code := loopBody n Tryz.f39.body
theorem el_u32 : El Tryz.prog 99 102 (.int .u32 0) 1 4 := ⟨by kernel_rfl, by kernel_rfl, rfl, by omega⟩
theorem words_any (w : World) : Calls Tryz.prog 65 #[] w fun e w' => e = .returned (.slice (some ⟨w.heap.size, 0, none⟩) 8 8) ∧ Blk w' w.heap.size (us first).toArray 102 ∧ Ext w w' := by
 have hb : Blk (w.alloc (.cells (us first).toArray 102)) w.heap.size (us first).toArray 102 := Blk.new _ _ _
 have hx := (Ext.refl w).alloc (.cells (us first).toArray 102)
 go_enter Tryz.func65, Tryz.ntmps65
 go_wp2_with fail
 go_ret
 exact ⟨rfl, hb, hx⟩
theorem roots_any (w : World) : Calls Tryz.prog 66 #[] w fun e w' => e = .returned (.slice (some ⟨w.heap.size, 0, none⟩) 64 64) ∧ Rd w' (some ⟨w.heap.size, 0, none⟩) (us roots) ∧ Ext w w' := by
 have hb : Rd (w.alloc (.cells (us roots).toArray 102)) (some ⟨w.heap.size, 0, none⟩) (us roots) := Rd.of_block _ _ _ rfl
 have hx := (Ext.refl w).alloc (.cells (us roots).toArray 102)
 go_enter Tryz.func66, Tryz.ntmps66
 go_wp2_with fail
 go_ret
 exact ⟨rfl, hb, hx⟩
theorem at8_take (L : List UInt8) (i : Nat) (h : i < L.length) : L[i] = at8 L i := by simp [at8, List.getD, List.getElem?_eq_getElem h]
theorem be_sum (a b c d : UInt8) : (a.toNat : Int) * 16777216 + (b.toNat : Int) * 65536 + (c.toNat : Int) * 256 + (d.toNat : Int) = U (be a b c d) := by
 have ha := a.toNat_lt; have hb := b.toNat_lt; have hc := c.toNat_lt; have hd := d.toNat_lt
 unfold U be
 rw [BitVec.toNat_ofNat, Nat.mod_eq_of_lt (by omega)]
 omega
theorem be_wrap (a b c d : UInt8) : IntKind.u32.wrap (IntKind.u32.wrap (IntKind.u32.wrap (IntKind.u32.wrap (IntKind.u32.wrap (a.toNat : Int) * 16777216) + IntKind.u32.wrap (IntKind.u32.wrap (b.toNat : Int) * 65536)) + IntKind.u32.wrap (IntKind.u32.wrap (c.toNat : Int) * 256)) + IntKind.u32.wrap (d.toNat : Int)) = U (be a b c d) := by
 rw [← be_sum]
 have ha := a.toNat_lt; have hb := b.toNat_lt; have hc := c.toNat_lt; have hd := d.toNat_lt
 simp only [IntKind.wrap_u32]
 omega
theorem cutA_some (b off c l : Nat) (h : l < c) : cutA (some ⟨b, off, none⟩) c l = some ⟨b, off + l, none⟩ := by
 unfold cutA
 rw [if_neg (by omega), Option.map_some]
 congr 1
 unfold Addr.add; split <;> simp_all
set_option maxRecDepth 1000000 in
set_option maxHeartbeats 4000000 in
theorem loop0 {Q : Exit → Act → World → Prop} (v0 v1 v2 v3 v4 v6 v7 v8 v9 v10 v11 v12 v13 v14 v15 v16 v17 v18 v19 v20 v21 : Value) (a : Act) (wb wa : World) (A1 : Option Addr) (c1 nb : Nat) (T : List UInt8)
  (hnb : nb ≤ 40000) (hT : T.length = nb + 1)
  (hF : Fr 315 [v0, v1, v2, v3, v4, .slice A1 (nb + 1) c1, v6, v7, v8, v9, v10, v11, v12, v13, v14, v15, v16, v17, v18, v19, v20, v21] a) (hx : Ext wb wa) (ho : OwnS wa (.slice A1 (nb + 1) c1) (u8s T)) (hb : ∀ k, (Value.slice A1 (nb + 1) c1).ownBlock = some k → wb.heap.size ≤ k)
  (hQ : ∀ a' w' A1 c1, Fr 315 [v0, v1, v2, v3, v4, .slice A1 (nb + 1 + noughts nb) c1, v6, v7, v8, v9, v10, v11, v12, v13, v14, v15, v16, v17, v18, v19, v20, v21] a' → OwnS w' (.slice A1 (nb + 1 + noughts nb) c1) (u8s (T ++ List.replicate (noughts nb) 0)) → (∀ k, (Value.slice A1 (nb + 1 + noughts nb) c1).ownBlock = some k → wb.heap.size ≤ k) → Ext wb w' → Q (.exit 0) a' w') :
  (Code.loop (refBody 0)).wp Tryz.prog Q a wa := by
 obtain ⟨N, hN⟩ : ∃ N, Held (noughts nb = N) := ⟨_, ⟨rfl⟩⟩
 have hN2 : N = (119 - nb % 64) % 64 := by rw [← hN.out, noughts]
 rw [hN.out] at hQ
 refine wp_loop (fun a wv => ∃ (k : Nat) (A1 : Option Addr) (c1 : Nat), k ≤ N ∧ Fr 315 [v0, v1, v2, v3, v4, .slice A1 (nb + 1 + k) c1, v6, v7, v8, v9, v10, v11, v12, v13, v14, v15, v16, v17, v18, v19, v20, v21] a ∧ OwnS wv (.slice A1 (nb + 1 + k) c1) (u8s (T ++ List.replicate k 0)) ∧ (∀ j, (Value.slice A1 (nb + 1 + k) c1).ownBlock = some j → wb.heap.size ≤ j) ∧ Ext wb wv) (fun a _ => 50000 - lenOf (a.tmps.getD 5 undef)) ⟨0, A1, c1, by omega, hF, by simpa using ho, hb, hx⟩ ?_
 clear hF ho hb hx a wa c1 A1
 rintro a w ⟨k, A1, c1, hk, hF, ho, hb, hx⟩
 obtain ⟨u, rfl⟩ := lay315 hF
 clear hF
 conv => arg 2; whnf
 obtain ⟨n, hn⟩ : ∃ n, Held (nb + 1 + k = n) := ⟨_, ⟨rfl⟩⟩
 rw [hn.out] at ho hb ⊢
 have hn5 : n ≤ 40200 := by have := hn.out; omega
 by_cases hc : n % 64 = 56
 ·have hci : (n : Int) % 64 = 56 := by omega
  obtain rfl : k = N := by have := hn.out; omega
  rw [hn.out] at hQ
  go_wp2_with fail
  exact hQ _ _ A1 c1 ⟨_, rfl, rfl⟩ ho hb hx
 ·clear hQ
  have hci : ¬ (n : Int) % 64 = 56 := by omega
  have hkN : k < N := by have := hn.out; omega
  obtain ⟨T1, hT1⟩ : ∃ T1, Held (T ++ List.replicate k 0 = T1) := ⟨_, ⟨rfl⟩⟩
  have hT1n : T1.length = n := by rw [← hT1.out, List.length_append, List.length_replicate, hT, hn.out]
  have hT2 : T ++ List.replicate (k + 1) 0 = T1 ++ [0] := by rw [List.replicate_succ', ← List.append_assoc, hT1.out]
  rw [hT1.out] at ho
  clear hT1
  have hsx := hx.size
  go_wp2_with (
   refine wpList_oapp el_u8 _ rfl (.tmp 33) (.tmp 34) rfl (.slice A1 n c1) (u8s T1) rfl (ho.ext ((Ext.refl w).alloc _)) (u8s_one _) (some ⟨w.heap.size, 0, none⟩) 1 1 (u8s [0]) rfl (Rd.of_block w 5 (0, 0) rfl) rfl (fun h => by cases h) (u8s_one _) (by rw [u8s_length]; omega) (by omega) (fun V1 w2 ho1 hgr1 hv1 => ?_)
   have hx1 : Ext wb w2 := (hx.alloc _).then_grown hgr1 hb
   have hb1 := own_ge hv1 hb (by simp; omega)
   clear hgr1 hv1
   obtain ⟨A2, c2', rfl, _⟩ := ho1.rd
   rw [← u8s_append, ← hT2, show (u8s (T ++ List.replicate (k + 1) 0)).length = nb + 1 + (k + 1) by rw [u8s_length, List.length_append, List.length_replicate, hT]] at ho1
   rw [← u8s_append, show (u8s (T1 ++ [0])).length = nb + 1 + (k + 1) by rw [u8s_length, List.length_append, hT1n, ← hn.out]; rfl] at hb1 ⊢)
  refine ⟨⟨k + 1, A2, c2', by omega, ⟨_, rfl, rfl⟩, ho1, hb1, hx1⟩, ?_⟩
  have := hn.out
  simp [lenOf]
  omega
set_option maxRecDepth 1000000 in
set_option maxHeartbeats 4000000 in
theorem loop2 {Q : Exit → Act → World → Prop} (v1 v2 v3 v4 v7 v8 v9 v10 v11 v12 v13 v14 v15 v16 v17 v18 v19 v20 v21 : Value) (a : Act) (wb wa : World) (A0 A1 : Option Addr) (c0 c1 nb n : Nat) (T : List UInt8)
  (hnb : nb ≤ 40000) (hT : T.length = n) (hn5 : n ≤ 40200)
  (hF : Fr 315 [.slice A0 nb c0, v1, v2, v3, v4, .slice A1 n c1, .int .i64 7, v7, v8, v9, v10, v11, v12, v13, v14, v15, v16, v17, v18, v19, v20, v21] a) (hx : Ext wb wa) (ho : OwnS wa (.slice A1 n c1) (u8s T)) (hb : ∀ k, (Value.slice A1 n c1).ownBlock = some k → wb.heap.size ≤ k)
  (hQ : ∀ a' w' A1 c1 x6, Fr 315 [.slice A0 nb c0, v1, v2, v3, v4, .slice A1 (n + 8) c1, x6, v7, v8, v9, v10, v11, v12, v13, v14, v15, v16, v17, v18, v19, v20, v21] a' → OwnS w' (.slice A1 (n + 8) c1) (u8s (T ++ be8 (nb * 8))) → (∀ k, (Value.slice A1 (n + 8) c1).ownBlock = some k → wb.heap.size ≤ k) → Ext wb w' → Q (.exit 2) a' w') :
  (Code.loop (refBody 2)).wp Tryz.prog Q a wa := by
 refine wp_loop (fun a wv => ∃ (j : Nat) (A1 : Option Addr) (c1 : Nat), j ≤ 8 ∧ Fr 315 [.slice A0 nb c0, v1, v2, v3, v4, .slice A1 (n + j) c1, .int .i64 (7 - (j : Int)), v7, v8, v9, v10, v11, v12, v13, v14, v15, v16, v17, v18, v19, v20, v21] a ∧ OwnS wv (.slice A1 (n + j) c1) (u8s (T ++ (be8 (nb * 8)).take j)) ∧ (∀ k, (Value.slice A1 (n + j) c1).ownBlock = some k → wb.heap.size ≤ k) ∧ Ext wb wv) (fun a _ => (intOf (a.tmps.getD 6 undef) + 1).toNat) ⟨0, A1, c1, by omega, by simpa using hF, by simpa using ho, hb, hx⟩ ?_
 clear hF ho hb hx a wa c1 A1
 rintro a w ⟨j, A1, c1, hj, hF, ho, hb, hx⟩
 obtain ⟨u, rfl⟩ := lay315 hF
 clear hF
 conv => arg 2; whnf
 by_cases hj8 : j < 8
 ·clear hQ
  obtain ⟨S, hSd⟩ : ∃ S : Nat, Held ((8 : Int) * (7 - (j : Int)) = (S : Int)) := ⟨56 - 8 * j, ⟨by omega⟩⟩
  obtain ⟨z, hz⟩ : ∃ z : Int, Held (7 - (j : Int) = z) := ⟨_, ⟨rfl⟩⟩
  have hSj : S + 8 * j = 56 := by have := hSd.out; omega
  have hz0 : 0 ≤ z := by have := hz.out; omega
  have hz7 : z ≤ 7 := by have := hz.out; omega
  have hzS : IntKind.i64.wrap (8 * z) = (S : Int) := by have := hSd.out; have := hz.out; rw [IntKind.wrap_i64]; omega
  have hzS' : wrap64 (8 * z) = (S : Int) := by have := hSd.out; have := hz.out; unfold wrap64; omega
  have hzS2 : 8 * z = (S : Int) := by have := hSd.out; have := hz.out; omega
  obtain ⟨bb, hbb⟩ : ∃ x, Held (UInt8.ofNat (nb * 8 / 2 ^ S) = x) := ⟨_, ⟨rfl⟩⟩
  have hbyte : (nb : Int) * 8 / 2 ^ S % 256 = (bb.toNat : Int) := by
   have h := byte_at nb j hj8 S hSj
   rw [Nat.mod_eq_of_lt (by omega), IntKind.wrap_u64, Int.emod_eq_of_lt (by omega) (by omega), IntKind.wrap_u8] at h
   rw [h, hbb.out]
  have hT2 : T ++ (be8 (nb * 8)).take (j + 1) = T ++ (be8 (nb * 8)).take j ++ [bb] := by rw [be8_take _ j hj8 S hSj, List.append_assoc, hbb.out]
  obtain ⟨n2, hn2⟩ : ∃ x, Held (n + j = x) := ⟨_, ⟨rfl⟩⟩
  obtain ⟨T1, hT1⟩ : ∃ x, Held (T ++ (be8 (nb * 8)).take j = x) := ⟨_, ⟨rfl⟩⟩
  have hT1n : T1.length = n2 := by rw [← hT1.out, List.length_append, List.length_take, hT, ← hn2.out]; simp [be8]; omega
  have hT2n : (T ++ (be8 (nb * 8)).take (j + 1)).length = n + (j + 1) := by rw [List.length_append, List.length_take, hT]; simp [be8]; omega
  rw [hT1.out] at ho hT2
  rw [hn2.out] at ho hb
  have hn2s : n2 ≤ 40300 := by have := hn2.out; omega
  have hzj : Held (z - 1 = 7 - ((j + 1 : Nat) : Int)) := ⟨by have := hz.out; omega⟩
  have hsx := hx.size
  rw [hn2.out, hz.out]
  clear hT1 hbb hSd
  go_wp2_with (
   refine wpList_oapp el_u8 _ rfl (.tmp 40) (.tmp 50) rfl (.slice A1 n2 c1) (u8s T1) rfl (ho.ext ((Ext.refl w).alloc _)) (u8s_one _) (some ⟨w.heap.size, 0, none⟩) 1 1 (u8s [bb]) rfl (Rd.of_block w 5 (0, 0) rfl) rfl (fun h => by cases h) (u8s_one _) (by rw [u8s_length]; omega) (by omega) (fun V1 w2 ho1 hgr1 hv1 => ?_)
   have hx1 : Ext wb w2 := (hx.alloc _).then_grown hgr1 hb
   have hb1 := own_ge hv1 hb (by simp; omega)
   clear hgr1 hv1
   obtain ⟨A2, c2', rfl, _⟩ := ho1.rd
   rw [← u8s_append, ← hT2, show (u8s (T ++ (be8 (nb * 8)).take (j + 1))).length = n + (j + 1) by rw [u8s_length, hT2n]] at ho1
   rw [← u8s_append, ← hT2, show (u8s (T ++ (be8 (nb * 8)).take (j + 1))).length = n + (j + 1) by rw [u8s_length, hT2n]] at hb1 ⊢)
  rw [hzj.out]
  refine ⟨⟨j + 1, A2, c2', by omega, ⟨_, rfl, rfl⟩, ho1, hb1, hx1⟩, ?_⟩
  have := hz.out
  simp [intOf]
  omega
 ·obtain rfl : j = 8 := by omega
  clear hj8
  go_wp2_with fail
  exact hQ _ _ A1 c1 _ ⟨_, rfl, rfl⟩ ho hb hx
set_option maxRecDepth 1000000 in
set_option maxHeartbeats 4000000 in
theorem loop14 {Q : Exit → Act → World → Prop} (v0 v1 v2 v4 v5 v6 v7 v8 v9 v10 v11 v12 v13 v14 v15 v16 v17 v18 v19 : Value) (a : Act) (wb wa : World) (G O : Nat) (s : ShaP.St)
  (hF : Fr 315 [v0, v1, v2, .slice (some ⟨G, 0, none⟩) 8 8, v4, v5, v6, v7, v8, v9, v10, v11, v12, v13, v14, v15, v16, v17, v18, v19, .pointer (some ⟨O, 0, none⟩), .int .i64 0] a) (hx : Ext wb wa) (hG : Blk wa G (us s.list).toArray 102) (hO : Blk wa O (otab s 0) 23) (hGO : G ≠ O) (hbO : wb.heap.size ≤ O)
  (hQ : ∀ a' w', Fr 315 [v0, v1, v2, .slice (some ⟨G, 0, none⟩) 8 8, v4, v5, v6, v7, v8, v9, v10, v11, v12, v13, v14, v15, v16, v17, v18, v19, .pointer (some ⟨O, 0, none⟩), .int .i64 32] a' → Blk w' O (otab s 32) 23 → Ext wb w' → Q (.exit 14) a' w') :
  (Code.loop (refBody 14)).wp Tryz.prog Q a wa := by
 refine wp_loop (fun a wv => ∃ i : Nat, i ≤ 32 ∧ Fr 315 [v0, v1, v2, .slice (some ⟨G, 0, none⟩) 8 8, v4, v5, v6, v7, v8, v9, v10, v11, v12, v13, v14, v15, v16, v17, v18, v19, .pointer (some ⟨O, 0, none⟩), .int .i64 i] a ∧ Blk wv G (us s.list).toArray 102 ∧ Blk wv O (otab s i) 23 ∧ Ext wb wv) (fun a _ => (32 - intOf (a.tmps.getD 21 undef)).toNat) ⟨0, by omega, hF, hG, hO, hx⟩ ?_
 clear hF hx hG hO a wa
 rintro a w ⟨i, hi, hF, hG, hO, hx⟩
 obtain ⟨u, rfl⟩ := lay315 hF
 clear hF
 conv => arg 2; whnf
 by_cases hi32 : i < 32
 ·clear hQ
  obtain ⟨q, hq⟩ : ∃ q : Nat, Held (i / 4 = q) := ⟨_, ⟨rfl⟩⟩
  obtain ⟨r, hr⟩ : ∃ r : Nat, Held (i % 4 = r) := ⟨_, ⟨rfl⟩⟩
  have hq' : (i : Int) / 4 = (q : Int) := by have := hq.out; omega
  have hr' : (i : Int) % 4 = (r : Int) := by have := hr.out; omega
  have hq8 : (q : Int) < 8 := by have := hq.out; omega
  have hi' : (i : Int) < 32 := by omega
  have e3 : w.cell? ⟨G, q, none⟩ = some (.int .u32 (U (at32 s.list q))) := by rw [hG.cell q, List.getElem?_toArray]; exact us_at _ _ (by show q < 8; omega)
  obtain ⟨S, hS⟩ : ∃ S : Nat, Held (24 - 8 * (r : Int) = (S : Int)) := ⟨24 - 8 * r, ⟨by have := hr.out; omega⟩⟩
  have hS' : (24 : Int) - 8 * (r : Int) = (S : Int) := hS.out
  have hS0 : ¬ (S : Int) < 0 := by omega
  have hS32 : S + 8 * r = 24 := by omega
  have eO : w.cell? ⟨O, i, none⟩ = some ((otab s i)[i]'(by rw [otab_size s i hi]; exact hi32)) := (hO.cell i).trans (Array.getElem?_eq_getElem _)
  have fO := hO.frozen i
  have hby := out_at s i q r S hi32 hq.out hr.out hS32
  go_wp2_with fail
  have hq2 := hO.set i (.int .u8 ((at8 (out s) i).toNat : Int))
  rw [otab_set s i hi32] at hq2
  refine ⟨⟨i + 1, by omega, ⟨_, rfl, rfl⟩, hG.far (by show G ≠ O; exact hGO) _, hq2, hx.setCell (by show _ ≤ O; omega) _⟩, ?_⟩
  simp [intOf]
  omega
 ·obtain rfl : i = 32 := by omega
  clear hi32
  go_wp2_with fail
  exact hQ _ _ ⟨_, rfl, rfl⟩ hO hx
set_option maxRecDepth 1000000 in
set_option maxHeartbeats 4000000 in
theorem loop6 {Q : Exit → Act → World → Prop} (v0 v1 v2 v3 v4 v6 v10 v11 v12 v13 v14 v15 v16 v17 v18 v19 v20 v21 : Value) (a : Act) (w wa : World) (A A8 : Option Addr) (mm cm at_ c8 : Nat) (L ch : List UInt8)
  (hr : Rb w A L) (hl : L.length = mm) (hmc : mm ≤ cm) (hat : at_ + 64 ≤ mm) (hmm : mm ≤ 50000) (hch : ∀ i, i < 64 → at8 L (at_ + i) = at8 ch i)
  (hF : Fr 315 [v0, v1, v2, v3, v4, .slice A mm cm, v6, .int .i64 at_, .slice A8 0 c8, .int .i64 0, v10, v11, v12, v13, v14, v15, v16, v17, v18, v19, v20, v21] a) (hx : Ext w wa) (ho : OwnS wa (.slice A8 0 c8) []) (hb : ∀ k, (Value.slice A8 0 c8).ownBlock = some k → w.heap.size ≤ k)
  (hP : ∀ c a a2 w, Q (.panic c) a w → Q (.panic c) a2 w)
  (hQ : ∀ a' w' A1 c1 x10, Fr 315 [v0, v1, v2, v3, v4, .slice A mm cm, v6, .int .i64 at_, .slice A1 16 c1, .int .i64 16, x10, v11, v12, v13, v14, v15, v16, v17, v18, v19, v20, v21] a' → OwnS w' (.slice A1 16 c1) (us (sch ch 16)) → (∀ k, (Value.slice A1 16 c1).ownBlock = some k → w.heap.size ≤ k) → Ext w w' → Q (.exit 6) a' w') :
  (Code.loop (refBody 6)).wp Tryz.prog Q a wa := by
 refine wp_loop (fun a wv => ∃ (n : Nat) (A1 : Option Addr) (c1 : Nat) (x10 : Value), n ≤ 16 ∧ Fr 315 [v0, v1, v2, v3, v4, .slice A mm cm, v6, .int .i64 at_, .slice A1 n c1, .int .i64 n, x10, v11, v12, v13, v14, v15, v16, v17, v18, v19, v20, v21] a ∧ OwnS wv (.slice A1 n c1) (us (sch ch n)) ∧ (∀ k, (Value.slice A1 n c1).ownBlock = some k → w.heap.size ≤ k) ∧ Ext w wv) (fun a _ => (16 - intOf (a.tmps.getD 9 undef)).toNat) ⟨0, A8, c8, v10, by omega, hF, ho, hb, hx⟩ ?_
 obtain ⟨b, off, rfl⟩ := hr.some_ (by omega)
 clear hF ho hb hx a wa
 rintro a wr ⟨n, A1, c1, x10, hn, hF, ho, hb, hx⟩
 obtain ⟨u, rfl⟩ := lay315 hF
 clear hF
 conv => arg 2; whnf
 by_cases hlt : n < 16
 ·clear hQ
  have hlt' : (n : Int) < 16 := by omega
  have hbytes : ∀ j, j < 4 → ∀ W, Ext w W → W.cell? ⟨b, off + (at_ + 4 * n) + j, none⟩ = some (.int .u8 ((at8 ch (4 * n + j)).toNat : Int)) := fun j hj W hW => by
   obtain ⟨b', off', e, hc⟩ := (hr.ext hW).at_ (k := at_ + (4 * n + j)) (by omega)
   simp only [Option.some.injEq, Addr.mk.injEq, and_true] at e
   obtain ⟨rfl, rfl⟩ := e
   rw [show off + (at_ + 4 * n) + j = off + (at_ + (4 * n + j)) by omega, hc, at8_take, hch _ (by omega)]
  have hword : sch ch (n + 1) = sch ch n ++ [be (at8 ch (4 * n + 0)) (at8 ch (4 * n + 1)) (at8 ch (4 * n + 2)) (at8 ch (4 * n + 3))] := by rw [sch, if_pos hlt]; rfl
  have hlen : (us (sch ch n)).length = n := by rw [us_length, sch_length]
  go_wp2_with fail
  rw [show at_ + 4 * n + 4 - (at_ + 4 * n) = 4 by omega]
  generalize cm - (at_ + 4 * n) = cr
  obtain ⟨o, hod⟩ : ∃ o, Hid (off + (at_ + 4 * n) = o) := ⟨_, rfl⟩
  rw [hod.out] at hbytes ⊢
  refine Reg.startX (R := Go.RowKit.Below w.heap.size) (by kernel_rfl) ?_
  generalize hwq : World.drew _ = wq
  have hxq : Ext w wq := by rw [← hwq]; exact hx.drew
  have hoq : OwnS wq (.slice A1 n c1) (us (sch ch n)) := by rw [← hwq]; exact ho.ext ((Ext.refl wr).drew)
  clear hwq hx ho wr
  have hsq := hxq.size
  have c0 : ∀ W, Go.RowKit.Below w.heap.size wq W → W.cell? ⟨b, o, none⟩ = _ := fun W hW => hbytes 0 (by omega) W (Go.RowKit.Below.trans hxq hW)
  have c1' : ∀ W, Go.RowKit.Below w.heap.size wq W → W.cell? ⟨b, o + 1, none⟩ = _ := fun W hW => hbytes 1 (by omega) W (Go.RowKit.Below.trans hxq hW)
  have c2 : ∀ W, Go.RowKit.Below w.heap.size wq W → W.cell? ⟨b, o + 2, none⟩ = _ := fun W hW => hbytes 2 (by omega) W (Go.RowKit.Below.trans hxq hW)
  have c3 : ∀ W, Go.RowKit.Below w.heap.size wq W → W.cell? ⟨b, o + 3, none⟩ = _ := fun W hW => hbytes 3 (by omega) W (Go.RowKit.Below.trans hxq hW)
  clear hbytes hod
  generalize at8 ch (4 * n + 0) = x0 at c0 hword
  generalize at8 ch (4 * n + 1) = x1 at c1' hword
  generalize at8 ch (4 * n + 2) = x2 at c2 hword
  generalize at8 ch (4 * n + 3) = x3 at c3 hword
  have y0 := x0.toNat_lt; have y1 := x1.toNat_lt; have y2 := x2.toNat_lt; have y3 := x3.toNat_lt
  have hsum := be_wrap x0 x1 x2 x3
  generalize be x0 x1 x2 x3 = X at hword hsum
  generalize hS : sch ch n = S at hoq hlen hword
  clear hS
  have hlen' : S.length = n := by rwa [us_length] at hlen
  iterate 3 ((first | refine Reg.un (Reg.rl_below _) ?_ | refine Reg.vn (Reg.rl_below _) ?_); (try simp only [Reg.nn]))
  refine Reg.tx (Reg.rl_below _) 3 ?_; (try simp only [Reg.nn])
  refine Reg.tx (Reg.rl_below _) 4 ?_; (try simp only [Reg.nn])
  iterate 3 ((first | refine Reg.un (Reg.rl_below _) ?_ | refine Reg.vn (Reg.rl_below _) ?_); (try simp only [Reg.nn]))
  refine Reg.tx (Reg.rl_below _) 8 ?_; (try simp only [Reg.nn])
  refine Reg.tx (Reg.rl_below _) 9 ?_; (try simp only [Reg.nn])
  iterate 4 ((first | refine Reg.un (Reg.rl_below _) ?_ | refine Reg.vn (Reg.rl_below _) ?_); (try simp only [Reg.nn]))
  refine Reg.tx (Reg.rl_below _) 14 ?_; (try simp only [Reg.nn])
  refine Reg.tx (Reg.rl_below _) 15 ?_; (try simp only [Reg.nn])
  iterate 4 ((first | refine Reg.un (Reg.rl_below _) ?_ | refine Reg.vn (Reg.rl_below _) ?_); (try simp only [Reg.nn]))
  refine Reg.tx (Reg.rl_below _) 20 ?_; (try simp only [Reg.nn])
  refine Reg.tx (Reg.rl_below _) 21 ?_; (try simp only [Reg.nn])
  refine Reg.tx (Reg.rl_below _) 22 ?_; (try simp only [Reg.nn])
  refine Reg.onlyX 23 _ rfl (by kernel_rfl) (by decide) (by rfl) (fun K hK => ?_); go_simp
  refine hK.out _ _ (Go.RowKit.Below.alloc (Go.RowKit.Below.refl _ _) hsq _) ?_; clear hK K; (try simp only [Reg.nn])
  refine Reg.onlyX 24 _ rfl (by kernel_rfl) (by decide) (by rfl) (fun K hK => ?_)
  refine wp_oapp el_u32 _ (.tmp 74) (.tmp 97) rfl (.slice A1 n c1) (us S) rfl (hoq.ext ((Ext.refl wq).alloc _)) (us_one _) _ 1 1 (us [X]) rfl (Rd.of_block wq 102 (0, 0) rfl) rfl (fun h => by cases h) (us_one _) (by rw [us_length]; omega) (by omega) ?_
  intro V1 w1 ho1 hgr1 hv1
  have hbel := Go.RowKit.Below.grown (Go.RowKit.Below.refl w.heap.size _) hgr1 (by simp; omega) hb
  refine hK.out _ _ hbel ?_
  clear hK K
  have hx1 : Ext w w1 := (hxq.alloc _).then_grown hgr1 hb
  have hb1 := own_ge hv1 hb (by simp; omega)
  clear hgr1 hv1 hbel
  obtain ⟨A2, c2', rfl, _⟩ := ho1.rd
  rw [show us S ++ us [X] = us (S ++ [X]) by simp [us], us_length, List.length_append, hlen', show [X].length = 1 from rfl, ← hword] at ho1
  rw [show (us S ++ us [X]).length = n + 1 by simp [us, hlen']] at hb1 ⊢
  (try simp only [Reg.nn])
  refine Reg.tx (Reg.rl_below _) 25 ?_; (try simp only [Reg.nn])
  refine Reg.finX (by kernel_rfl) ?_
  go_wp2_with fail
  trace_state
  refine ⟨⟨n + 1, A2, c2', _, by omega, ⟨_, rfl, rfl⟩, ho1, hb1, hx1⟩, ?_⟩
  simp [intOf]
  omega
 ·obtain rfl : n = 16 := by omega
  clear hlt
  go_wp2_with fail
  exact hQ _ _ A1 c1 x10 ⟨_, rfl, rfl⟩ ho hb hx
theorem s0_form (x : BitVec 32) : bits BinOp.xor IntKind.u32 (U (tr x 7 ^^^ tr x 18)) (U x / 8) = U (s0 x) := by rw [U_s3, U_xor]; rfl
theorem s1_form (x : BitVec 32) : bits BinOp.xor IntKind.u32 (U (tr x 17 ^^^ tr x 19)) (U x / 1024) = U (s1 x) := by rw [U_s10, U_xor]; rfl
set_option maxRecDepth 1000000 in
set_option maxHeartbeats 4000000 in
theorem loop8 {Q : Exit → Act → World → Prop} (v0 v1 v2 v3 v4 v5 v6 v7 v9 v10 v12 v13 v14 v15 v16 v17 v18 v19 v20 v21 : Value) (a : Act) (wb wa : World) (A1 : Option Addr) (c1 : Nat) (ch : List UInt8)
  (hF : Fr 315 [v0, v1, v2, v3, v4, v5, v6, v7, .slice A1 16 c1, v9, v10, .int .i64 16, v12, v13, v14, v15, v16, v17, v18, v19, v20, v21] a) (hx : Ext wb wa) (ho : OwnS wa (.slice A1 16 c1) (us (sch ch 16))) (hb : ∀ k, (Value.slice A1 16 c1).ownBlock = some k → wb.heap.size ≤ k)
  (hP : ∀ c a a2 w, Q (.panic c) a w → Q (.panic c) a2 w)
  (hQ : ∀ a' w' A1 c1 x12 x13 x14, Fr 315 [v0, v1, v2, v3, v4, v5, v6, v7, .slice A1 64 c1, v9, v10, .int .i64 64, x12, x13, x14, v15, v16, v17, v18, v19, v20, v21] a' → OwnS w' (.slice A1 64 c1) (us (sch ch 64)) → (∀ k, (Value.slice A1 64 c1).ownBlock = some k → wb.heap.size ≤ k) → Ext wb w' → Q (.exit 8) a' w') :
  (Code.loop (refBody 8)).wp Tryz.prog Q a wa := by
 refine wp_loop (fun a wv => ∃ (n : Nat) (A1 : Option Addr) (c1 : Nat) (x12 x13 x14 : Value), 16 ≤ n ∧ n ≤ 64 ∧ Fr 315 [v0, v1, v2, v3, v4, v5, v6, v7, .slice A1 n c1, v9, v10, .int .i64 n, x12, x13, x14, v15, v16, v17, v18, v19, v20, v21] a ∧ OwnS wv (.slice A1 n c1) (us (sch ch n)) ∧ (∀ k, (Value.slice A1 n c1).ownBlock = some k → wb.heap.size ≤ k) ∧ Ext wb wv) (fun a _ => (64 - intOf (a.tmps.getD 11 undef)).toNat) ⟨16, A1, c1, v12, v13, v14, by omega, by omega, hF, ho, hb, hx⟩ ?_
 clear hF ho hb hx a wa c1 A1
 rintro a w ⟨n, A1, c1, x12, x13, x14, h16, hn, hF, ho, hb, hx⟩
 obtain ⟨u, rfl⟩ := lay315 hF
 clear hF
 conv => arg 2; whnf
 by_cases hlt : n < 64
 ·clear hQ
  have hlt' : (n : Int) < 64 := by omega
  have hword : sch ch (n + 1) = sch ch n ++ [nextW (sch ch n)] := by rw [sch, if_neg (by omega)]
  obtain ⟨S, hS⟩ : ∃ S, Hid (sch ch n = S) := ⟨_, rfl⟩
  rw [hS.out] at ho hword
  have hlen : S.length = n := by rw [← hS.out, sch_length]
  clear hS
  obtain ⟨A0, c0, e0, hrd, _, _, _⟩ := ho.rd
  injection e0 with e1 e2 e3
  subst e1; subst e3
  clear e2
  obtain ⟨bw, ow, rfl, _⟩ := hrd.at_ (k := 0) (by rw [us_length]; omega)
  obtain ⟨m15, hm15⟩ : ∃ m, Hid (n - 15 = m) := ⟨_, rfl⟩
  obtain ⟨m2, hm2⟩ : ∃ m, Hid (n - 2 = m) := ⟨_, rfl⟩
  obtain ⟨m16, hm16⟩ : ∃ m, Hid (n - 16 = m) := ⟨_, rfl⟩
  obtain ⟨m7, hm7⟩ : ∃ m, Hid (n - 7 = m) := ⟨_, rfl⟩
  have q15 : IntKind.i64.wrap ((n : Int) - 15) = (m15 : Int) := by rw [IntKind.wrap_i64, ← hm15.out]; omega
  have q2 : IntKind.i64.wrap ((n : Int) - 2) = (m2 : Int) := by rw [IntKind.wrap_i64, ← hm2.out]; omega
  have q16 : IntKind.i64.wrap ((n : Int) - 16) = (m16 : Int) := by rw [IntKind.wrap_i64, ← hm16.out]; omega
  have q7 : IntKind.i64.wrap ((n : Int) - 7) = (m7 : Int) := by rw [IntKind.wrap_i64, ← hm7.out]; omega
  have b15 : (m15 : Int) < n := by have := hm15.out; omega
  have b2 : (m2 : Int) < n := by have := hm2.out; omega
  have b16 : (m16 : Int) < n := by have := hm16.out; omega
  have b7 : (m7 : Int) < n := by have := hm7.out; omega
  have hcs : ∀ m, m < n → ∀ W, Ext w W → W.cell? ⟨bw, ow + m, none⟩ = some (.int .u32 (U (at32 S m))) := fun m hm W hW => by
   obtain ⟨b', off', e, _, hc⟩ := (hrd.ext hW).at_ (k := m) (by rw [us_length, hlen]; exact hm)
   simp only [Option.some.injEq, Addr.mk.injEq, and_true] at e
   obtain ⟨rfl, rfl⟩ := e
   exact hc m _ (us_at S m (by rw [hlen]; exact hm))
  have c15 := hcs m15 (by have := hm15.out; omega)
  have c2 := hcs m2 (by have := hm2.out; omega)
  have c16 := hcs m16 (by have := hm16.out; omega)
  have c7 := hcs m7 (by have := hm7.out; omega)
  clear hcs hrd
  have hnext : nextW S = at32 S m16 + s0 (at32 S m15) + at32 S m7 + s1 (at32 S m2) := by rw [nextW, hlen, hm16.out, hm15.out, hm7.out, hm2.out]
  rw [hnext] at hword
  clear hnext
  generalize at32 S m15 = X15 at c15 hword
  generalize at32 S m2 = X2 at c2 hword
  generalize at32 S m16 = X16 at c16 hword
  generalize at32 S m7 = X7 at c7 hword
  have f0 := U_xor (tr X15 7) (tr X15 18)
  have f1 := s0_form X15
  go_wp2_with fail
  refine Reg.startE (by kernel_rfl) ?_
  refine Reg.tk 0 ?_; (try simp only [Reg.nn])
  refine Reg.tk 1 ?_; (try simp only [Reg.nn])
  refine Reg.tk 2 ?_; (try simp only [Reg.nn])
  refine Reg.tk 3 ?_; (try simp only [Reg.nn])
  refine Reg.rk 4 w ?_; (try simp only [Reg.nn])
  refine Reg.tk 6 ?_; (try simp only [Reg.nn])
  refine Reg.tk 7 ?_; (try simp only [Reg.nn])
  refine Reg.tk 8 ?_; (try simp only [Reg.nn])
  refine Reg.tk 9 ?_; (try simp only [Reg.nn])
  refine Reg.rk 10 w ?_; (try simp only [Reg.nn])
  refine Reg.tk 13 ?_; (try simp only [Reg.nn])
  refine Reg.tk 14 ?_; (try simp only [Reg.nn])
  refine Reg.tk 15 ?_; (try simp only [Reg.nn])
  refine Reg.tk 16 ?_; (try simp only [Reg.nn])
  refine Reg.rk 17 w ?_; (try simp only [Reg.nn])
  refine Reg.tk 18 ?_; (try simp only [Reg.nn])
  refine Reg.onlyE 5 _ rfl (by kernel_rfl) (by decide) (by rfl) (fun W hW K hK => ?_); go_simp
  go_at_call 67
  refine (turn_7 X15 _).mono ?_
  rintro e wX ⟨rfl, rfl⟩
  refine hK.out _ _ (Ext.refl _) ?_; clear hK K; (try simp only [Reg.nn])
  refine Reg.onlyE 11 _ rfl (by kernel_rfl) (by decide) (by rfl) (fun W hW K hK => ?_); go_simp
  go_at_call 67
  refine (turn_18 X15 _).mono ?_
  rintro e wX ⟨rfl, rfl⟩
  refine hK.out _ _ (Ext.refl _) ?_; clear hK K; (try simp only [Reg.nn])
  refine Reg.tk 12 ?_; (try simp only [Reg.nn])
  refine Reg.tk 19 ?_; (try simp only [Reg.nn])
  refine Reg.tk 20 ?_; (try simp only [Reg.nn])
  refine Reg.fin (by kernel_rfl) (fun W hW => ?_)
  have hW0 : Ext w W := (by repeat (first | assumption | exact Ext.refl _ | refine Ext.trans (by assumption) ?_ | apply Ext.drew | apply Ext.drewN | apply Ext.alloc))
  generalize s0 X15 = S0 at f1 hword ⊢
  clear f0 f1 c15
  have f0 := U_xor (tr X2 17) (tr X2 19)
  have f1 := s1_form X2
  go_wp2_with fail
  refine Reg.startE (by kernel_rfl) ?_
  refine Reg.tk 0 ?_; (try simp only [Reg.nn])
  refine Reg.tk 1 ?_; (try simp only [Reg.nn])
  refine Reg.tk 2 ?_; (try simp only [Reg.nn])
  refine Reg.tk 3 ?_; (try simp only [Reg.nn])
  refine Reg.rk 4 w ?_; (try simp only [Reg.nn])
  refine Reg.tk 6 ?_; (try simp only [Reg.nn])
  refine Reg.tk 7 ?_; (try simp only [Reg.nn])
  refine Reg.tk 8 ?_; (try simp only [Reg.nn])
  refine Reg.tk 9 ?_; (try simp only [Reg.nn])
  refine Reg.rk 10 w ?_; (try simp only [Reg.nn])
  refine Reg.tk 13 ?_; (try simp only [Reg.nn])
  refine Reg.tk 14 ?_; (try simp only [Reg.nn])
  refine Reg.tk 15 ?_; (try simp only [Reg.nn])
  refine Reg.tk 16 ?_; (try simp only [Reg.nn])
  refine Reg.rk 17 w ?_; (try simp only [Reg.nn])
  refine Reg.tk 18 ?_; (try simp only [Reg.nn])
  refine Reg.onlyE 5 _ rfl (by kernel_rfl) (by decide) (by rfl) (fun W hW K hK => ?_); go_simp
  go_at_call 67
  refine (turn_17 X2 _).mono ?_
  rintro e wX ⟨rfl, rfl⟩
  refine hK.out _ _ (Ext.refl _) ?_; clear hK K; (try simp only [Reg.nn])
  refine Reg.onlyE 11 _ rfl (by kernel_rfl) (by decide) (by rfl) (fun W hW K hK => ?_); go_simp
  go_at_call 67
  refine (turn_19 X2 _).mono ?_
  rintro e wX ⟨rfl, rfl⟩
  refine hK.out _ _ (Ext.refl _) ?_; clear hK K; (try simp only [Reg.nn])
  refine Reg.tk 12 ?_; (try simp only [Reg.nn])
  refine Reg.tk 19 ?_; (try simp only [Reg.nn])
  refine Reg.tk 20 ?_; (try simp only [Reg.nn])
  refine Reg.fin (by kernel_rfl) (fun W hW => ?_)
  have hW0 : Ext w W := (by repeat (first | assumption | exact Ext.refl _ | refine Ext.trans (by assumption) ?_ | apply Ext.drew | apply Ext.drewN | apply Ext.alloc))
  generalize s1 X2 = S1 at f1 hword ⊢
  clear f0 f1 c2
  have f0 := U_add' X16 S0
  have f1 := U_add' (X16 + S0) X7
  have f2 := U_add' (X16 + S0 + X7) S1
  generalize X16 + S0 + X7 + S1 = X at f2 hword ⊢
  go_wp2_with fail
  refine Reg.startE (by kernel_rfl) ?_
  iterate 4 ((first | refine Reg.tn ?_ | refine Reg.sn ?_); (try simp only [Reg.nn]))
  refine Reg.rk 4 w ?_; (try simp only [Reg.nn])
  iterate 6 ((first | refine Reg.tn ?_ | refine Reg.sn ?_); (try simp only [Reg.nn]))
  refine Reg.rk 11 w ?_; (try simp only [Reg.nn])
  iterate 4 ((first | refine Reg.tn ?_ | refine Reg.sn ?_); (try simp only [Reg.nn]))
  refine Reg.fin (by kernel_rfl) (fun W hW => ?_)
  have hW0 : Ext w W := (by repeat (first | assumption | exact Ext.refl _ | refine Ext.trans (by assumption) ?_ | apply Ext.drew | apply Ext.drewN | apply Ext.alloc))
  clear f0 f1 f2 c16 c7
  obtain ⟨A8, hA8⟩ : ∃ A8, Hid (some (⟨bw, ow, none⟩ : Addr) = A8) := ⟨_, rfl⟩
  rw [hA8.out] at ho hb ⊢
  clear hA8
  have hoW := ho.ext hW0
  have hxW := hx.trans hW0
  clear ho hx hW0
  have hsW := hxW.size
  generalize W = w1 at hoW hxW hsW ⊢
  go_wp2_with (
   refine wpList_oapp el_u32 _ rfl (.tmp 158) (.tmp 160) rfl (.slice A8 n c1) (us S) rfl (hoW.ext ((Ext.refl w1).alloc _)) (us_one _) _ 1 1 (us [X]) rfl (Rd.of_block w1 102 (0, 0) rfl) rfl (fun h => by cases h) (us_one _) (by rw [us_length]; omega) (by omega) (fun V1 w2 ho1 hgr1 hv1 => ?_)
   have hx1 : Ext wb w2 := (hxW.alloc _).then_grown hgr1 hb
   have hb1 := own_ge hv1 hb (by simp; omega)
   clear hgr1 hv1
   obtain ⟨A2, c2', rfl, _⟩ := ho1.rd
   rw [show us S ++ us [X] = us (S ++ [X]) by simp [us], us_length, List.length_append, hlen, show [X].length = 1 from rfl, ← hword] at ho1
   rw [show (us S ++ us [X]).length = n + 1 by simp [us, hlen]] at hb1 ⊢)
  refine ⟨⟨n + 1, A2, c2', _, _, _, by omega, by omega, ⟨_, rfl, rfl⟩, ho1, hb1, hx1⟩, ?_⟩
  simp [intOf]
  omega
 ·obtain rfl : n = 64 := by omega
  clear hlt
  go_wp2_with fail
  exact hQ _ _ A1 c1 x12 x13 x14 ⟨_, rfl, rfl⟩ ho hb hx
theorem U_not2 (a : BitVec 32) : bits BinOp.xor IntKind.u32 (U a) 4294967295 = U (~~~a) := by
 have h := U_xor a (BitVec.allOnes 32)
 rw [BitVec.xor_allOnes] at h
 exact h
theorem rd_word {W : World} {b o : Nat} {L : List (BitVec 32)} (h : Rd W (some ⟨b, o, none⟩) (us L)) {i : Nat} (hi : i < L.length) : W.cell? ⟨b, o + i, none⟩ = some (.int .u32 (U (at32 L i))) := by
 obtain ⟨b', off', e, _, hc⟩ := h.at_ (k := i) (by rw [us_length]; exact hi)
 simp only [Option.some.injEq, Addr.mk.injEq, and_true] at e
 obtain ⟨rfl, rfl⟩ := e
 exact hc i _ (us_at L i hi)
theorem rd_addr {W : World} {A : Option Addr} {L : List (BitVec 32)} (h : Rd W A (us L)) (hL : 0 < L.length) : ∃ b o, A = some ⟨b, o, none⟩ := by
 obtain ⟨b, o, e, _⟩ := h.at_ (k := 0) (by rw [us_length]; exact hL)
 exact ⟨b, o, e⟩
set_option maxRecDepth 1000000 in
set_option maxHeartbeats 4000000 in
theorem loop10 {Q : Exit → Act → World → Prop} (v0 v1 v2 v3 v5 v6 v7 v9 v10 v11 v12 v13 v14 v17 v18 v19 v20 v21 : Value) (a : Act) (wb wa : World) (AK A8 AV : Option Addr) (cK c8 cV N : Nat) (s : ShaP.St) (R Ws : List (BitVec 32))
  (hN : Hid (N = 64)) (hR : Hid (roots = R)) (hRl : R.length = 64) (hWl : Ws.length = 64)
  (hF : Fr 315 [v0, v1, v2, v3, .slice AK 64 cK, v5, v6, v7, .slice A8 64 c8, v9, v10, v11, v12, v13, v14, .slice AV 8 cV, .int .i64 0, v17, v18, v19, v20, v21] a) (hx : Ext wb wa) (hK : Rd wa AK (us R)) (hW : Rd wa A8 (us Ws)) (hV : Rd wa AV (us s.list)) (hVb : ∀ p, AV = some p → wb.heap.size ≤ p.block)
  (hP : ∀ c a a2 w, Q (.panic c) a w → Q (.panic c) a2 w)
  (hQ : ∀ a' w' AV cV x17 x18, Fr 315 [v0, v1, v2, v3, .slice AK 64 cK, v5, v6, v7, .slice A8 64 c8, v9, v10, v11, v12, v13, v14, .slice AV 8 cV, .int .i64 64, x17, x18, v19, v20, v21] a' → Rd w' AV (us (rounds s Ws N).list) → (∀ p, AV = some p → wb.heap.size ≤ p.block) → Ext wb w' → Q (.exit 10) a' w') :
  (Code.loop (refBody 10)).wp Tryz.prog Q a wa := by
 obtain ⟨bk, ok, rfl⟩ := rd_addr hK (by omega)
 obtain ⟨b8, o8, rfl⟩ := rd_addr hW (by omega)
 obtain ⟨wq, hwq⟩ : ∃ wq, wq = wa := ⟨_, rfl⟩
 refine wp_loop (fun a wv => ∃ (n : Nat) (AV : Option Addr) (cV : Nat) (x17 x18 : Value), n ≤ 64 ∧ Fr 315 [v0, v1, v2, v3, .slice (some ⟨bk, ok, none⟩) 64 cK, v5, v6, v7, .slice (some ⟨b8, o8, none⟩) 64 c8, v9, v10, v11, v12, v13, v14, .slice AV 8 cV, .int .i64 n, x17, x18, v19, v20, v21] a ∧ Rd wv AV (us (rounds s Ws n).list) ∧ (∀ p, AV = some p → wb.heap.size ≤ p.block) ∧ Ext wb wv ∧ Ext wq wv) (fun a _ => (64 - intOf (a.tmps.getD 16 undef)).toNat) ⟨0, AV, cV, v17, v18, by omega, hF, hV, hVb, hx, by rw [hwq]; exact Ext.refl _⟩ ?_
 rw [← hwq] at hK hW
 clear hF hV hVb hx hwq a wa cV AV
 rintro a w ⟨n, AV, cV, x17, x18, hn, hF, hV, hVb, hx, hxq⟩
 obtain ⟨u, rfl⟩ := lay315 hF
 clear hF
 conv => arg 2; whnf
 by_cases hlt : n < 64
 ·clear hQ
  have hlt' : (n : Int) < 64 := by omega
  obtain ⟨K, hKd⟩ : ∃ K, Held (at32 roots n = K) := ⟨_, ⟨rfl⟩⟩
  obtain ⟨X, hXd⟩ : ∃ X, Held (at32 Ws n = X) := ⟨_, ⟨rfl⟩⟩
  have ck : ∀ W, Ext w W → W.cell? ⟨bk, ok + n, none⟩ = some (.int .u32 (U K)) := fun W hW2 => by
   rw [rd_word (hK.ext (hxq.trans hW2)) (by omega), ← hR.out, hKd.out]
  have cx : ∀ W, Ext w W → W.cell? ⟨b8, o8 + n, none⟩ = some (.int .u32 (U X)) := fun W hW2 => by
   rw [rd_word (hW.ext (hxq.trans hW2)) (by omega), hXd.out]
  obtain ⟨st, hst⟩ : ∃ st, Held (rounds s Ws n = st) := ⟨_, ⟨rfl⟩⟩
  have hr1 : Held (rounds s Ws (n + 1) = ShaP.round st K X) := ⟨by rw [rounds, hst.out, hKd.out, hXd.out]⟩
  rw [hst.out] at hV
  clear hst hKd hXd hK hW hR
  obtain ⟨bv, ov, rfl⟩ := rd_addr hV (by show 0 < 8; omega)
  have hvs : ∀ i, i < 8 → ∀ W, Ext w W → W.cell? ⟨bv, ov + i, none⟩ = some (.int .u32 (U (at32 st.list i))) := fun i hi W hW2 => rd_word (hV.ext hW2) hi
  have e0 : ∀ W, Ext w W → W.cell? ⟨bv, ov, none⟩ = some (.int .u32 (U st.a)) := hvs 0 (by omega)
  have e1 : ∀ W, Ext w W → W.cell? ⟨bv, ov + 1, none⟩ = some (.int .u32 (U st.b)) := hvs 1 (by omega)
  have e2 : ∀ W, Ext w W → W.cell? ⟨bv, ov + 2, none⟩ = some (.int .u32 (U st.c)) := hvs 2 (by omega)
  have e3 : ∀ W, Ext w W → W.cell? ⟨bv, ov + 3, none⟩ = some (.int .u32 (U st.d)) := hvs 3 (by omega)
  have e4 : ∀ W, Ext w W → W.cell? ⟨bv, ov + 4, none⟩ = some (.int .u32 (U st.e)) := hvs 4 (by omega)
  have e5 : ∀ W, Ext w W → W.cell? ⟨bv, ov + 5, none⟩ = some (.int .u32 (U st.f)) := hvs 5 (by omega)
  have e6 : ∀ W, Ext w W → W.cell? ⟨bv, ov + 6, none⟩ = some (.int .u32 (U st.g)) := hvs 6 (by omega)
  have e7 : ∀ W, Ext w W → W.cell? ⟨bv, ov + 7, none⟩ = some (.int .u32 (U st.h)) := hvs 7 (by omega)
  clear hvs hV hVb
  obtain ⟨va, vb, vc, vd, ve, vf, vg, vh⟩ := st
  dsimp only at e0 e1 e2 e3 e4 e5 e6 e7
  have hround : ShaP.round ⟨va, vb, vc, vd, ve, vf, vg, vh⟩ K X = ⟨ShaP.t1 ⟨va, vb, vc, vd, ve, vf, vg, vh⟩ K X + ShaP.t2 ⟨va, vb, vc, vd, ve, vf, vg, vh⟩, va, vb, vc, vd + ShaP.t1 ⟨va, vb, vc, vd, ve, vf, vg, vh⟩ K X, ve, vf, vg⟩ := rfl
  obtain ⟨T1, hT1⟩ : ∃ T, ShaP.t1 ⟨va, vb, vc, vd, ve, vf, vg, vh⟩ K X = T := ⟨_, rfl⟩
  obtain ⟨T2, hT2⟩ : ∃ T, ShaP.t2 ⟨va, vb, vc, vd, ve, vf, vg, vh⟩ = T := ⟨_, rfl⟩
  rw [hT1, hT2] at hround
  have hr1 : Held (rounds s Ws (n + 1) = ⟨T1 + T2, va, vb, vc, vd + T1, ve, vf, vg⟩) := ⟨hr1.out.trans hround⟩
  clear hround
  have g0 := U_xor (tr ve 6) (tr ve 11)
  have g1 := U_xor (tr ve 6 ^^^ tr ve 11) (tr ve 25)
  have g2 := U_add' vh (tr ve 6 ^^^ tr ve 11 ^^^ tr ve 25)
  have g3 := U_and ve vf
  have g4 := U_not2 ve
  have g5 := U_and (~~~ve) vg
  have g6 := U_xor (ve &&& vf) (~~~ve &&& vg)
  have g7 := U_add' (vh + (tr ve 6 ^^^ tr ve 11 ^^^ tr ve 25)) (ve &&& vf ^^^ ~~~ve &&& vg)
  have g8 := U_add' (vh + (tr ve 6 ^^^ tr ve 11 ^^^ tr ve 25) + (ve &&& vf ^^^ ~~~ve &&& vg)) K
  have g9 : IntKind.u32.wrap (U (vh + (tr ve 6 ^^^ tr ve 11 ^^^ tr ve 25) + (ve &&& vf ^^^ ~~~ve &&& vg) + K) + U X) = U T1 := (U_add' _ _).trans (congrArg U hT1)
  clear hT1
  go_wp2_with fail
  refine Reg.startE (by kernel_rfl) ?_
  refine Reg.tk 0 ?_; (try simp only [Reg.nn])
  refine Reg.tk 1 ?_; (try simp only [Reg.nn])
  refine Reg.rk 2 w ?_; (try simp only [Reg.nn])
  refine Reg.tk 3 ?_; (try simp only [Reg.nn])
  refine Reg.tk 4 ?_; (try simp only [Reg.nn])
  refine Reg.rk 5 w ?_; (try simp only [Reg.nn])
  refine Reg.tk 7 ?_; (try simp only [Reg.nn])
  refine Reg.tk 8 ?_; (try simp only [Reg.nn])
  refine Reg.rk 9 w ?_; (try simp only [Reg.nn])
  refine Reg.tk 12 ?_; (try simp only [Reg.nn])
  refine Reg.tk 13 ?_; (try simp only [Reg.nn])
  refine Reg.rk 14 w ?_; (try simp only [Reg.nn])
  refine Reg.tk 18 ?_; (try simp only [Reg.nn])
  refine Reg.tk 19 ?_; (try simp only [Reg.nn])
  refine Reg.rk 20 w ?_; (try simp only [Reg.nn])
  refine Reg.tk 21 ?_; (try simp only [Reg.nn])
  refine Reg.tk 22 ?_; (try simp only [Reg.nn])
  refine Reg.rk 23 w ?_; (try simp only [Reg.nn])
  refine Reg.tk 24 ?_; (try simp only [Reg.nn])
  refine Reg.tk 25 ?_; (try simp only [Reg.nn])
  refine Reg.tk 26 ?_; (try simp only [Reg.nn])
  refine Reg.rk 27 w ?_; (try simp only [Reg.nn])
  refine Reg.tk 28 ?_; (try simp only [Reg.nn])
  refine Reg.tk 29 ?_; (try simp only [Reg.nn])
  refine Reg.tk 30 ?_; (try simp only [Reg.nn])
  refine Reg.rk 31 w ?_; (try simp only [Reg.nn])
  refine Reg.tk 32 ?_; (try simp only [Reg.nn])
  refine Reg.tk 33 ?_; (try simp only [Reg.nn])
  refine Reg.tk 35 ?_; (try simp only [Reg.nn])
  refine Reg.tk 36 ?_; (try simp only [Reg.nn])
  refine Reg.tk 37 ?_; (try simp only [Reg.nn])
  refine Reg.rk 38 w ?_; (try simp only [Reg.nn])
  refine Reg.tk 40 ?_; (try simp only [Reg.nn])
  refine Reg.tk 41 ?_; (try simp only [Reg.nn])
  refine Reg.tk 42 ?_; (try simp only [Reg.nn])
  refine Reg.rk 43 w ?_; (try simp only [Reg.nn])
  refine Reg.onlyE 6 _ rfl (by kernel_rfl) (by decide) (by rfl) (fun W hW K hK => ?_); go_simp
  go_at_call 67
  refine (turn_6 ve _).mono ?_
  rintro e wX ⟨rfl, rfl⟩
  refine hK.out _ _ (Ext.refl _) ?_; clear hK K; (try simp only [Reg.nn])
  refine Reg.onlyE 10 _ rfl (by kernel_rfl) (by decide) (by rfl) (fun W hW K hK => ?_); go_simp
  go_at_call 67
  refine (turn_11 ve _).mono ?_
  rintro e wX ⟨rfl, rfl⟩
  refine hK.out _ _ (Ext.refl _) ?_; clear hK K; (try simp only [Reg.nn])
  refine Reg.tk 11 ?_; (try simp only [Reg.nn])
  refine Reg.onlyE 15 _ rfl (by kernel_rfl) (by decide) (by rfl) (fun W hW K hK => ?_); go_simp
  go_at_call 67
  refine (turn_25 ve _).mono ?_
  rintro e wX ⟨rfl, rfl⟩
  refine hK.out _ _ (Ext.refl _) ?_; clear hK K; (try simp only [Reg.nn])
  refine Reg.tk 16 ?_; (try simp only [Reg.nn])
  refine Reg.tk 17 ?_; (try simp only [Reg.nn])
  refine Reg.tk 34 ?_; (try simp only [Reg.nn])
  refine Reg.tk 39 ?_; (try simp only [Reg.nn])
  refine Reg.tk 44 ?_; (try simp only [Reg.nn])
  refine Reg.tk 45 ?_; (try simp only [Reg.nn])
  refine Reg.fin (by kernel_rfl) (fun W hW => ?_)
  have hW0 : Ext w W := (by repeat (first | assumption | exact Ext.refl _ | refine Ext.trans (by assumption) ?_ | apply Ext.drew | apply Ext.drewN | apply Ext.alloc))
  clear g0 g1 g2 g3 g4 g5 g6 g7 g8 g9 ck cx e7
  have g0 := U_xor (tr va 2) (tr va 13)
  have g1 := U_xor (tr va 2 ^^^ tr va 13) (tr va 22)
  have g2 := U_and va vb
  have g3 := U_and va vc
  have g4 := U_xor (va &&& vb) (va &&& vc)
  have g5 := U_and vb vc
  have g6 := U_xor (va &&& vb ^^^ va &&& vc) (vb &&& vc)
  have g7 : IntKind.u32.wrap (U (tr va 2 ^^^ tr va 13 ^^^ tr va 22) + U (va &&& vb ^^^ va &&& vc ^^^ vb &&& vc)) = U T2 := (U_add' _ _).trans (congrArg U hT2)
  clear hT2
  go_wp2_with fail
  refine Reg.startE (by kernel_rfl) ?_
  refine Reg.tk 0 ?_; (try simp only [Reg.nn])
  refine Reg.tk 1 ?_; (try simp only [Reg.nn])
  refine Reg.rk 2 w ?_; (try simp only [Reg.nn])
  refine Reg.tk 4 ?_; (try simp only [Reg.nn])
  refine Reg.tk 5 ?_; (try simp only [Reg.nn])
  refine Reg.rk 6 w ?_; (try simp only [Reg.nn])
  refine Reg.tk 9 ?_; (try simp only [Reg.nn])
  refine Reg.tk 10 ?_; (try simp only [Reg.nn])
  refine Reg.rk 11 w ?_; (try simp only [Reg.nn])
  refine Reg.tk 14 ?_; (try simp only [Reg.nn])
  refine Reg.tk 15 ?_; (try simp only [Reg.nn])
  refine Reg.rk 16 w ?_; (try simp only [Reg.nn])
  refine Reg.tk 17 ?_; (try simp only [Reg.nn])
  refine Reg.tk 18 ?_; (try simp only [Reg.nn])
  refine Reg.rk 19 w ?_; (try simp only [Reg.nn])
  refine Reg.tk 20 ?_; (try simp only [Reg.nn])
  refine Reg.tk 21 ?_; (try simp only [Reg.nn])
  refine Reg.tk 22 ?_; (try simp only [Reg.nn])
  refine Reg.rk 23 w ?_; (try simp only [Reg.nn])
  refine Reg.tk 24 ?_; (try simp only [Reg.nn])
  refine Reg.tk 25 ?_; (try simp only [Reg.nn])
  refine Reg.rk 26 w ?_; (try simp only [Reg.nn])
  refine Reg.tk 27 ?_; (try simp only [Reg.nn])
  refine Reg.tk 28 ?_; (try simp only [Reg.nn])
  refine Reg.tk 29 ?_; (try simp only [Reg.nn])
  refine Reg.tk 30 ?_; (try simp only [Reg.nn])
  refine Reg.rk 31 w ?_; (try simp only [Reg.nn])
  refine Reg.tk 32 ?_; (try simp only [Reg.nn])
  refine Reg.tk 33 ?_; (try simp only [Reg.nn])
  refine Reg.rk 34 w ?_; (try simp only [Reg.nn])
  refine Reg.tk 35 ?_; (try simp only [Reg.nn])
  refine Reg.tk 36 ?_; (try simp only [Reg.nn])
  refine Reg.onlyE 3 _ rfl (by kernel_rfl) (by decide) (by rfl) (fun W hW K hK => ?_); go_simp
  go_at_call 67
  refine (turn_2 va _).mono ?_
  rintro e wX ⟨rfl, rfl⟩
  refine hK.out _ _ (Ext.refl _) ?_; clear hK K; (try simp only [Reg.nn])
  refine Reg.onlyE 7 _ rfl (by kernel_rfl) (by decide) (by rfl) (fun W hW K hK => ?_); go_simp
  go_at_call 67
  refine (turn_13 va _).mono ?_
  rintro e wX ⟨rfl, rfl⟩
  refine hK.out _ _ (Ext.refl _) ?_; clear hK K; (try simp only [Reg.nn])
  refine Reg.tk 8 ?_; (try simp only [Reg.nn])
  refine Reg.onlyE 12 _ rfl (by kernel_rfl) (by decide) (by rfl) (fun W hW K hK => ?_); go_simp
  go_at_call 67
  refine (turn_22 va _).mono ?_
  rintro e wX ⟨rfl, rfl⟩
  refine hK.out _ _ (Ext.refl _) ?_; clear hK K; (try simp only [Reg.nn])
  refine Reg.tk 13 ?_; (try simp only [Reg.nn])
  refine Reg.tk 37 ?_; (try simp only [Reg.nn])
  refine Reg.tk 38 ?_; (try simp only [Reg.nn])
  refine Reg.fin (by kernel_rfl) (fun W hW => ?_)
  have hW0 : Ext w W := (by repeat (first | assumption | exact Ext.refl _ | refine Ext.trans (by assumption) ?_ | apply Ext.drew | apply Ext.drewN | apply Ext.alloc))
  clear g0 g1 g2 g3 g4 g5 g6 g7
  have g0 := U_add' T1 T2
  have g1 := U_add' vd T1
  go_wp2_with fail
  refine Reg.startE (by kernel_rfl) ?_
  iterate 5 ((first | refine Reg.tn ?_ | refine Reg.sn ?_); (try simp only [Reg.nn]))
  refine Reg.rk 5 w ?_; (try simp only [Reg.nn])
  iterate 2 ((first | refine Reg.tn ?_ | refine Reg.sn ?_); (try simp only [Reg.nn]))
  refine Reg.rk 8 w ?_; (try simp only [Reg.nn])
  iterate 2 ((first | refine Reg.tn ?_ | refine Reg.sn ?_); (try simp only [Reg.nn]))
  refine Reg.rk 11 w ?_; (try simp only [Reg.nn])
  iterate 2 ((first | refine Reg.tn ?_ | refine Reg.sn ?_); (try simp only [Reg.nn]))
  refine Reg.rk 14 w ?_; (try simp only [Reg.nn])
  iterate 4 ((first | refine Reg.tn ?_ | refine Reg.sn ?_); (try simp only [Reg.nn]))
  refine Reg.rk 19 w ?_; (try simp only [Reg.nn])
  iterate 2 ((first | refine Reg.tn ?_ | refine Reg.sn ?_); (try simp only [Reg.nn]))
  refine Reg.rk 22 w ?_; (try simp only [Reg.nn])
  iterate 2 ((first | refine Reg.tn ?_ | refine Reg.sn ?_); (try simp only [Reg.nn]))
  refine Reg.rk 25 w ?_; (try simp only [Reg.nn])
  refine Reg.onlyE 26 _ rfl (by kernel_rfl) (by decide) (by rfl) (fun W hW K hK => ?_); go_simp
  have hWa : Ext w W := (by repeat (first | assumption | exact Ext.refl _ | refine Ext.trans (by assumption) ?_ | apply Ext.drew | apply Ext.drewN | apply Ext.alloc))
  have hal : Rd (W.alloc (.cells (us [T1 + T2, va, vb, vc, vd + T1, ve, vf, vg]).toArray 102)) (some ⟨W.heap.size, 0, none⟩) (us [T1 + T2, va, vb, vc, vd + T1, ve, vf, vg]) := Rd.of_block _ _ _ rfl
  refine hK.out _ _ ((Ext.refl _).alloc _) ?_; clear hK K; (try simp only [Reg.nn])
  refine Reg.tk 27 ?_; (try simp only [Reg.nn])
  refine Reg.fin (by kernel_rfl) (fun W hW => ?_)
  have hW1 : Ext w W := (hWa.alloc _).trans (by assumption)
  have hal2 := hal.ext (by assumption)
  go_wp2_with fail
  refine ⟨⟨n + 1, _, _, _, _, by omega, ⟨_, rfl, rfl⟩, by rw [hr1.out]; exact hal2, fun p hp => by injection hp with hp; rw [← hp]; exact (hx.trans hWa).size, hx.trans hW1, hxq.trans hW1⟩, ?_⟩
  simp [intOf]
  omega
 ·obtain rfl : n = N := by have := hN.out; omega
  clear hlt
  have hn64 : (n : Int) = 64 := by have := hN.out; omega
  go_wp2_with fail
  rw [hn64]
  exact hQ _ _ AV cV x17 x18 ⟨_, rfl, rfl⟩ hV hVb hx
theorem mix_set0 (a b : List (BitVec 32)) (k : Nat) (h : k < 8) : ((us (mix a b k)).toArray.setIfInBounds k (.int .u32 (U (at32 a k + at32 b k)))) = (us (mix a b (k + 1))).toArray := by
 have := mix_set a b k h []
 simpa using this
set_option maxRecDepth 1000000 in
set_option maxHeartbeats 4000000 in
theorem loop12 {Q : Exit → Act → World → Prop} (v0 v1 v2 v4 v5 v6 v7 v8 v9 v10 v11 v12 v13 v14 v16 v17 v18 v20 v21 : Value) (a : Act) (wa : World) (AV : Option Addr) (cV G : Nat) (s t : ShaP.St)
  (hF : Fr 315 [v0, v1, v2, .slice (some ⟨G, 0, none⟩) 8 8, v4, v5, v6, v7, v8, v9, v10, v11, v12, v13, v14, .slice AV 8 cV, v16, v17, v18, .int .i64 0, v20, v21] a) (hG : Blk wa G (us s.list).toArray 102) (hV : Rd wa AV (us t.list)) (hne : ∀ p, AV = some p → p.block ≠ G)
  (hP : ∀ c a a2 w, Q (.panic c) a w → Q (.panic c) a2 w)
  (hQ : ∀ a' w', Fr 315 [v0, v1, v2, .slice (some ⟨G, 0, none⟩) 8 8, v4, v5, v6, v7, v8, v9, v10, v11, v12, v13, v14, .slice AV 8 cV, v16, v17, v18, .int .i64 8, v20, v21] a' → Blk w' G (us (s.plus t).list).toArray 102 → wa.grownBy w' (some G) → Q (.exit 12) a' w') :
  (Code.loop (refBody 12)).wp Tryz.prog Q a wa := by
 obtain ⟨bv, ov, rfl⟩ := rd_addr hV (by show 0 < 8; omega)
 have hbG : bv ≠ G := hne _ rfl
 obtain ⟨wq, hwq⟩ : ∃ wq, wq = wa := ⟨_, rfl⟩
 rw [← hwq] at hV hQ
 refine wp_loop (fun a wv => ∃ (n : Nat), n ≤ 8 ∧ Fr 315 [v0, v1, v2, .slice (some ⟨G, 0, none⟩) 8 8, v4, v5, v6, v7, v8, v9, v10, v11, v12, v13, v14, .slice (some ⟨bv, ov, none⟩) 8 cV, v16, v17, v18, .int .i64 n, v20, v21] a ∧ Blk wv G (us (mix s.list t.list n)).toArray 102 ∧ wq.grownBy wv (some G)) (fun a _ => (8 - intOf (a.tmps.getD 19 undef)).toNat) ⟨0, by omega, hF, by rw [mix_zero]; exact hG, by rw [hwq]; exact World.grownBy.refl _ _⟩ ?_
 clear hF hG hwq hne a wa
 rintro a w ⟨n, hn, hF, hG, hgr⟩
 obtain ⟨u, rfl⟩ := lay315 hF
 clear hF
 conv => arg 2; whnf
 by_cases hlt : n < 8
 ·clear hQ
  have hlt' : (n : Int) < 8 := by omega
  have hmx := mix_at s.list t.list n hlt
  have hms := mix_set0 s.list t.list n hlt
  have hVw : Rd w (some ⟨bv, ov, none⟩) (us t.list) := Rd.chg hV (Chg.ofGrown hgr) (fun a ha e => by injection ha with ha; injection e with e; exact hbG (by rw [e, ← ha]))
  have ct : ∀ W, Ext w W → W.cell? ⟨bv, ov + n, none⟩ = some (.int .u32 (U (at32 t.list n))) := fun W hW2 => rd_word (hVw.ext hW2) hlt
  have cs : ∀ W, Ext w W → W.cell? ⟨G, n, none⟩ = some (.int .u32 (U (at32 s.list n))) := fun W hW2 => by
   rw [(hG.ext hW2).cell n, List.getElem?_toArray, us_at _ _ (by rw [mix_length]; exact hlt), hmx]
  generalize at32 s.list n = S0 at cs hms
  generalize at32 t.list n = T0 at ct hms
  have g0 := U_add' S0 T0
  obtain ⟨M1, hM1⟩ : ∃ M, Held (mix s.list t.list (n + 1) = M) := ⟨_, ⟨rfl⟩⟩
  rw [hM1.out] at hms
  generalize mix s.list t.list n = M0 at hms hG
  clear hV hVw hmx
  go_wp2_with fail
  refine Reg.startE (by kernel_rfl) ?_
  iterate 5 ((first | refine Reg.tn ?_ | refine Reg.sn ?_); (try simp only [Reg.nn]))
  refine Reg.rk 5 w ?_; (try simp only [Reg.nn])
  iterate 3 ((first | refine Reg.tn ?_ | refine Reg.sn ?_); (try simp only [Reg.nn]))
  refine Reg.rk 9 w ?_; (try simp only [Reg.nn])
  iterate 2 ((first | refine Reg.tn ?_ | refine Reg.sn ?_); (try simp only [Reg.nn]))
  refine Reg.last 12 _ rfl (by kernel_rfl) (by kernel_rfl) (by kernel_rfl) (by decide) (by rfl) (fun W hW K hK => ?_)
  have hW0 : Ext w W := (by repeat (first | assumption | exact Ext.refl _ | refine Ext.trans (by assumption) ?_ | apply Ext.drew | apply Ext.drewN | apply Ext.alloc))
  have hf1 := (hG.ext hW0).frozen n
  have hc1 := cs W hW0
  go_simp
  refine hK.out _ _ ?_; clear hK K; (try simp only [Reg.nn])
  go_wp2_with fail
  have hst := (hG.ext hW0).set n (.int .u32 (U (S0 + T0)))
  rw [hms] at hst
  refine ⟨⟨n + 1, by omega, ⟨_, rfl, rfl⟩, by rw [hM1.out]; exact hst, grown_set (grown_ext hgr hW0) _ _⟩, ?_⟩
  simp [intOf]
  omega
 ·obtain rfl : n = 8 := by omega
  clear hlt
  go_wp2_with fail
  rw [mix_all] at hG
  exact hQ _ _ ⟨_, rfl, rfl⟩ hG hgr
set_option maxRecDepth 1000000 in
set_option maxHeartbeats 8000000 in
theorem loop4 {Q : Exit → Act → World → Prop} (v0 v1 v2 v6 v8 v9 v10 v11 v12 v13 v14 v15 v16 v17 v18 v19 v20 v21 : Value) (a : Act) (wb wa : World) (AK A5 : Option Addr) (cK mm cm G : Nat) (R : List (BitVec 32)) (L : List UInt8)
  (hR : Hid (roots = R)) (hRl : R.length = 64) (hr : Rb wa A5 L) (hl : L.length = mm) (hmc : mm ≤ cm) (hmm : mm ≤ 50000) (h64 : mm % 64 = 0)
  (hF : Fr 315 [v0, v1, v2, .slice (some ⟨G, 0, none⟩) 8 8, .slice AK 64 cK, .slice A5 mm cm, v6, .int .i64 0, v8, v9, v10, v11, v12, v13, v14, v15, v16, v17, v18, v19, v20, v21] a) (hx : Ext wb wa) (hG : Blk wa G (us begin_.list).toArray 102) (hK : Rd wa AK (us R))
  (hKG : ∀ p, AK = some p → p.block ≠ G) (h5G : ∀ p, A5 = some p → p.block ≠ G) (hbG : wb.heap.size ≤ G)
  (hP : ∀ c a a2 w, Q (.panic c) a w → Q (.panic c) a2 w)
  (hQ : ∀ a' w' x7 x8 x9 x10 x11 x12 x13 x14 x15 x16 x17 x18 x19, Fr 315 [v0, v1, v2, .slice (some ⟨G, 0, none⟩) 8 8, .slice AK 64 cK, .slice A5 mm cm, v6, x7, x8, x9, x10, x11, x12, x13, x14, x15, x16, x17, x18, x19, v20, v21] a' → Blk w' G (us (blocks begin_ L (mm / 64)).list).toArray 102 → Ext wb w' → Q (.exit 4) a' w') :
  (Code.loop (refBody 4)).wp Tryz.prog Q a wa := by
 obtain ⟨N4, hN4⟩ : ∃ N, Held (mm / 64 = N) := ⟨_, ⟨rfl⟩⟩
 rw [hN4.out] at hQ
 obtain ⟨wq, hwq⟩ : ∃ wq, wq = wa := ⟨_, rfl⟩
 refine wp_loop (fun a wv => ∃ (j : Nat) (x8 x9 x10 x11 x12 x13 x14 x15 x16 x17 x18 x19 : Value), 64 * j ≤ mm ∧ Fr 315 [v0, v1, v2, .slice (some ⟨G, 0, none⟩) 8 8, .slice AK 64 cK, .slice A5 mm cm, v6, .int .i64 ((64 * j : Nat) : Int), x8, x9, x10, x11, x12, x13, x14, x15, x16, x17, x18, x19, v20, v21] a ∧ Blk wv G (us (blocks begin_ L j).list).toArray 102 ∧ wq.grownBy wv (some G)) (fun a _ => mm - (intOf (a.tmps.getD 7 undef)).toNat) ⟨0, v8, v9, v10, v11, v12, v13, v14, v15, v16, v17, v18, v19, by omega, hF, hG, by rw [hwq]; exact World.grownBy.refl _ _⟩ ?_
 rw [← hwq] at hr hK hx
 clear hF hG hwq a wa
 rintro a w ⟨j, x8, x9, x10, x11, x12, x13, x14, x15, x16, x17, x18, x19, hj, hF, hG, hgr⟩
 obtain ⟨u, rfl⟩ := lay315 hF
 clear hF
 conv => arg 2; whnf
 obtain ⟨at_, hat⟩ : ∃ x, Held (64 * j = x) := ⟨_, ⟨rfl⟩⟩
 rw [hat.out] at hj ⊢
 have hxw : Ext wb w := hx.then_grown hgr (fun k hk => by injection hk with hk; omega)
 by_cases hlt : at_ < mm
 ·clear hQ
  have hlt' : (at_ : Int) < (mm : Int) := by omega
  have hat64 : at_ + 64 ≤ mm := by have := hat.out; omega
  have hrw : Rb w A5 L := Rd.chg hr (Chg.ofGrown hgr) (fun p hp e => by injection e with e; exact h5G p hp e.symm)
  have hKw : Rd w AK (us R) := Rd.chg hK (Chg.ofGrown hgr) (fun p hp e => by injection e with e; exact hKG p hp e.symm)
  obtain ⟨ch, hch⟩ : ∃ ch, Held ((L.drop at_).take 64 = ch) := ⟨_, ⟨rfl⟩⟩
  have hat8 : ∀ i, i < 64 → at8 L (at_ + i) = at8 ch i := fun i hi => by
   rw [← hch.out]; simp [at8, List.getD, List.getElem?_take, hi]
  obtain ⟨s, hs⟩ : ∃ s, Held (blocks begin_ L j = s) := ⟨_, ⟨rfl⟩⟩
  obtain ⟨Ws, hWs⟩ : ∃ x, Held (sch ch 64 = x) := ⟨_, ⟨rfl⟩⟩
  obtain ⟨N, hN⟩ : ∃ N : Nat, Held (N = 64) := ⟨64, ⟨rfl⟩⟩
  have hWl : Ws.length = 64 := by rw [← hWs.out, sch_length]
  have hnext : Held (blocks begin_ L (j + 1) = s.plus (rounds s Ws N)) := ⟨by rw [blocks_succ L j begin_ L, hs.out, hat.out, hch.out, block, hWs.out, hN.out]⟩
  rw [hs.out] at hG
  go_wp2_with fail
  refine loop6 (w := w) (hr := hrw) (hl := hl) (hmc := hmc) (hat := hat64) (hmm := hmm) (hch := hat8) (hF := ⟨_, rfl, rfl⟩) (hx := (Ext.refl w).alloc _) (ho := OwnS.zero _ _) (hb := fun k hk => by injection hk with hk; rw [← hk]; exact Nat.le_refl _) (hP := ?_) (hQ := ?_)
  ·exact fun c a a2 w h => hP c a a2 w h
  intro a2 w2 A8 c8 y10 hF2 ho2 hb2 hx2
  obtain ⟨u2, rfl⟩ := lay315 hF2
  clear hF2
  go_wp2_with fail
  refine loop8 (wb := w) (ch := ch) (hF := ⟨_, rfl, rfl⟩) (hx := hx2) (ho := ho2) (hb := hb2) (hP := ?_) (hQ := ?_)
  ·exact fun c a a2 w h => hP c a a2 w h
  clear ho2 hb2 hx2
  intro a3 w3 A8 c8 y12 y13 y14 hF3 ho3 hb3 hx3
  obtain ⟨u3, rfl⟩ := lay315 hF3
  clear hF3 u2
  rw [hWs.out] at ho3
  obtain ⟨A8', c8', e8, hrd8, _⟩ := ho3.rd
  injection e8 with e1 e2 e3
  subst e1; subst e3
  clear e2 ho3 hb3 hat8 hrw
  have hG3 := hG.ext hx3
  have hsG : Rd (w3.alloc (.cells #[] 102)) (some ⟨G, 0, none⟩) (us s.list) := fun _ => ⟨G, 0, rfl, fun i v hi => by
   rw [Nat.zero_add, (hG3.alloc _).cell i, List.getElem?_toArray, hi]⟩
  obtain ⟨AG, hAG⟩ : ∃ A, Held (some (⟨G, 0, none⟩ : Addr) = A) := ⟨_, ⟨rfl⟩⟩
  obtain ⟨n8, hn8⟩ : ∃ n : Nat, Held (8 = n) := ⟨_, ⟨rfl⟩⟩
  have hVS : Value.slice (some ⟨G, 0, none⟩) 8 8 = Value.slice AG n8 n8 := by rw [hAG.out, ← hn8.out]
  rw [hVS]
  clear hVS
  rw [hAG.out] at hsG
  go_wp2_with (refine wpList_oapp el_u32 _ rfl (.tmp 162) (.tmp 163) rfl (.slice (some ⟨w3.heap.size, 0, none⟩) 0 0) [] rfl (OwnS.zero _ _) (fun _ h => by cases h) AG n8 n8 (us s.list) rfl hsG hn8.out (fun h => by rw [← hAG.out] at h; cases h) (us_one _) (by have := hn8.out; simp; omega) (by omega) (fun V1 w4 ho4 hgr4 hv4 => ?_))
  rw [List.nil_append] at ho4
  have hx4 : Ext w w4 := (hx3.alloc _).then_grown hgr4 (fun k hk => by have hk : w3.heap.size = k := (by simpa [Value.ownBlock] using hk); have := hx3.size; omega)
  have hx34 : Ext w3 w4 := ((Ext.refl w3).alloc _).then_grown hgr4 (fun k hk => by have hk : w3.heap.size = k := (by simpa [Value.ownBlock] using hk); omega)
  have hb4 := own_ge (B := w.heap.size) hv4 (fun k hk => by have hk : w3.heap.size = k := (by simpa [Value.ownBlock] using hk); have := hx3.size; omega) (by simp; have := hx3.size; omega)
  clear hgr4 hv4 hsG
  obtain ⟨AV, cV, rfl, hrdV, _⟩ := ho4.rd
  rw [show (us s.list).length = 8 from rfl] at hb4 ⊢
  have hVb : ∀ p, AV = some p → w.heap.size ≤ p.block := fun p hp => hb4 p.block (by rw [hp]; rfl)
  clear ho4 hb4
  rw [← hAG.out, ← hn8.out]
  clear hn8 hAG
  refine loop10 (wb := w) (s := s) (R := R) (Ws := Ws) (N := N) (hN := hN.out) (hR := hR) (hRl := hRl) (hWl := hWl) (hF := ⟨_, rfl, rfl⟩) (hx := hx4) (hK := hKw.ext hx4) (hW := hrd8.ext hx34) (hV := hrdV) (hVb := hVb) (hP := ?_) (hQ := ?_)
  ·exact fun c a a2 w h => hP c a a2 w h
  clear hrdV hVb hx4 hx34 hx3 hG3 hrd8
  intro a5 w5 AV cV y17 y18 hF5 hV5 hVb5 hx5
  obtain ⟨u5, rfl⟩ := lay315 hF5
  clear hF5 u3
  obtain ⟨t, ht⟩ : ∃ t, Held (rounds s Ws N = t) := ⟨_, ⟨rfl⟩⟩
  rw [ht.out] at hV5 hnext
  go_wp2_with fail
  refine loop12 (G := G) (s := s) (t := t) (hF := ⟨_, rfl, rfl⟩) (hG := hG.ext hx5) (hV := hV5) (hne := fun p hp e => by have := hVb5 p hp; have := hG.lt; omega) (hP := ?_) (hQ := ?_)
  ·exact fun c a a2 w h => hP c a a2 w h
  clear hV5 hVb5
  intro a6 w6 hF6 hG6 hgr6
  obtain ⟨u6, rfl⟩ := lay315 hF6
  clear hF6 u5
  have hgw : wq.grownBy w6 (some G) := World.grownBy.trans (grown_ext hgr hx5) hgr6
  go_wp2_with fail
  have h64j : Held ((at_ : Int) + 64 = ((64 * (j + 1) : Nat) : Int)) := ⟨by have := hat.out; omega⟩
  rw [h64j.out]
  refine ⟨⟨j + 1, _, _, _, _, _, _, _, _, _, _, _, _, by have := hat.out; omega, ⟨_, rfl, rfl⟩, by rw [hnext.out]; exact hG6, hgw⟩, ?_⟩
  have := hat.out
  simp [intOf]
  omega
 ·obtain rfl : j = N4 := by have := hat.out; have := hN4.out; omega
  have hlt' : ¬ (at_ : Int) < (mm : Int) := by omega
  go_wp2_with fail
  exact hQ _ _ _ _ _ _ _ _ _ _ _ _ _ _ _ ⟨_, rfl, rfl⟩ hG hxw
set_option maxRecDepth 1000000 in
set_option maxHeartbeats 8000000 in
theorem refSum_any (w : World) (A : Option Addr) (c : Nat) (l : List UInt8) (hr : Rb w A l) (hA : A = none → c = 0) (hn : l.length ≤ 40000) :
  Calls Tryz.prog 39 #[.slice A l.length c] w fun e w' => e = .returned (.agg (u8s (sha l)).toArray) ∧ Ext w w' := by
 obtain ⟨nb, hnb⟩ : ∃ x, Held (l.length = x) := ⟨_, ⟨rfl⟩⟩
 have hn4 : nb ≤ 40000 := by rw [← hnb.out]; exact hn
 have HA := Lib.hid hA
 clear hA hn
 rw [hnb.out]
 obtain ⟨R, hR⟩ : ∃ R, Hid (roots = R) := ⟨_, rfl⟩
 have hRl : R.length = 64 := by rw [← hR.out]; rfl
 go_enter Tryz.func39, Tryz.ntmps39
 go_wp2_with fail
 generalize hwq : World.alloc w _ = w0
 have hH : Blk w0 w.heap.size z32 23 := by rw [← hwq]; exact Blk.new _ _ _
 have hx0 : Ext w w0 := by rw [← hwq]; exact (Ext.refl w).alloc _
 clear hwq
 refine (words_any _).mono ?_
 rintro e w1 ⟨rfl, hG, hx1⟩
 obtain ⟨G, hGd⟩ : ∃ G, Held (w0.heap.size = G) := ⟨_, ⟨rfl⟩⟩
 rw [hGd.out] at hG ⊢
 have hG1 := hG.lt
 go_wp2_with fail
 refine (roots_any _).mono ?_
 rintro e w2 ⟨rfl, hK, hx2⟩
 obtain ⟨KB, hKd⟩ : ∃ K, Held (w1.heap.size = K) := ⟨_, ⟨rfl⟩⟩
 rw [hKd.out] at hK hG1 ⊢
 rw [hR.out] at hK
 have hG2 := hx2.size
 have hr2 : Rb w2 A l := hr.ext ((hx0.trans hx1).trans hx2)
 go_wp2_with (first
  | refine wpList_oapp el_u8 _ rfl (.tmp 24) (.tmp 25) rfl (.slice (some ⟨w2.heap.size, 0, none⟩) 0 0) [] rfl (OwnS.zero _ _) (fun _ h => by cases h) A nb c (u8s l) rfl (Rd.ext hr2 ((Ext.refl w2).alloc _)) (by rw [u8s_length, hnb.out]) HA.out (u8s_one l) (by simp; omega) (by omega) (fun V3 w3 ho3 hg3 hv3 => ?_)
  | refine wpList_oapp el_u8 _ rfl (.tmp 26) (.tmp 27) rfl V3 (u8s l) rfl (OwnS.ext ho3 ((Ext.refl w3).alloc _)) (u8s_one _) (some ⟨w3.heap.size, 0, none⟩) 1 1 (u8s [128]) rfl (Rd.of_block w3 5 (0, 0) rfl) rfl (fun h => by cases h) (u8s_one _) (by rw [u8s_length, hnb.out]; omega) (by omega) (fun V4 w4 ho4 hg4 hv4 => ?_))
 have hx3 : Ext w2 w3 := ((Ext.refl w2).alloc _).then_grown hg3 (fun k hk => by have hk : w2.heap.size = k := (by simpa [Value.ownBlock] using hk); omega)
 have hb3 := own_ge (B := w2.heap.size) hv3 (fun k hk => by have hk : w2.heap.size = k := (by simpa [Value.ownBlock] using hk); omega) (by simp)
 have hx4 : Ext w2 w4 := (hx3.alloc _).then_grown hg4 hb3
 have hb4 := own_ge hv4 hb3 (by simp; have := hx3.size; omega)
 clear hg3 hv3 hg4 hv4 ho3 hb3 hx3
 rw [← u8s_append] at ho4
 obtain ⟨A5, c5, rfl, _⟩ := ho4.rd
 rw [show (u8s (l ++ [128])).length = nb + 1 by rw [u8s_length, List.length_append, hnb.out]; rfl] at ho4 hb4 ⊢
 refine loop0 (wb := w2) (nb := nb) (T := l ++ [128]) (hnb := hn4) (hT := by rw [List.length_append, hnb.out]; rfl) (hF := ⟨_, rfl, rfl⟩) (hx := hx4) (ho := ho4) (hb := hb4) (hQ := ?_)
 clear ho4 hb4 hx4
 intro a5 w5 A5 c5 hF5 ho5 hb5 hx5
 obtain ⟨u5, rfl⟩ := lay315 hF5
 clear hF5
 obtain ⟨n5, hn5⟩ : ∃ n, Held (nb + 1 + noughts nb = n) := ⟨_, ⟨rfl⟩⟩
 have hn5s : n5 % 64 = 56 := by rw [← hn5.out, noughts]; omega
 have hn5l : n5 ≤ 40100 := by rw [← hn5.out, noughts]; omega
 rw [hn5.out] at ho5 hb5 ⊢
 go_wp2_with fail
 refine loop2 (wb := w2) (nb := nb) (n := n5) (T := l ++ [128] ++ List.replicate (noughts nb) 0) (hnb := hn4) (hT := by rw [List.length_append, List.length_append, List.length_replicate, hnb.out, ← hn5.out]; rfl) (hn5 := by omega) (hF := ⟨_, rfl, rfl⟩) (hx := hx5) (ho := ho5) (hb := hb5) (hQ := ?_)
 clear ho5 hb5 hx5
 intro a6 w6 A6 c6 y6 hF6 ho6 hb6 hx6
 obtain ⟨u6, rfl⟩ := lay315 hF6
 clear hF6 u5
 obtain ⟨mm, hmm⟩ : ∃ n, Held (n5 + 8 = n) := ⟨_, ⟨rfl⟩⟩
 have hm64 : mm % 64 = 0 := by have := hmm.out; omega
 have hm5 : mm ≤ 50000 := by have := hmm.out; omega
 obtain ⟨P, hPd⟩ : ∃ P, Held (padded l l.length = P) := ⟨_, ⟨rfl⟩⟩
 have hPe : l ++ [128] ++ List.replicate (noughts nb) 0 ++ be8 (nb * 8) = P := by rw [← hPd.out, padded, hnb.out]
 rw [hPe, hmm.out] at ho6
 rw [hmm.out] at hb6 ⊢
 have hPl : P.length = mm := by rw [← hPe, List.length_append, List.length_append, List.length_append, List.length_replicate, hnb.out, ← hmm.out, ← hn5.out]; rfl
 obtain ⟨A6', c6', e6, hr6, hc6, _, _⟩ := ho6.rd
 injection e6 with e1 e2 e3
 subst e1; subst e3
 clear e2 hPe
 rw [u8s_length, hPl] at hc6
 clear ho6
 have hx06 : Ext w0 w6 := (hx1.trans hx2).trans hx6
 have h6G : ∀ p, A6 = some p → p.block ≠ G := fun p hp e => by have := hb6 p.block (by rw [hp]; rfl); have := hKd.out; omega
 have hKG : ∀ p, (some ⟨KB, 0, none⟩ : Option Addr) = some p → p.block ≠ G := fun p hp e => by injection hp with hp; rw [← hp] at e; have e : KB = G := e; omega
 have hbG : w0.heap.size ≤ G := Nat.le_of_eq hGd.out
 have hK6 := hK.ext hx6
 have hG6 : Blk w6 G (us begin_.list).toArray 102 := (hG.ext hx2).ext hx6
 clear hb6 hx6 hK hG hr2 hr
 go_wp2_with fail
 refine loop4 (wb := w0) (G := G) (R := R) (L := P) (hR := hR) (hRl := hRl) (hr := hr6) (hl := hPl) (hmc := hc6) (hmm := hm5) (h64 := hm64) (hF := ⟨_, rfl, rfl⟩) (hx := hx06) (hG := hG6) (hK := hK6) (hKG := hKG) (h5G := h6G) (hbG := hbG) (hP := ?_) (hQ := ?_)
 ·exact fun _ _ _ _ h => nomatch h.2.1
 clear hr6 hx06 hG6 hK6 hKG h6G
 intro a7 w7 y7 z8 z9 z10 z11 z12 z13 z14 z15 z16 z17 z18 z19 hF7 hG7 hx7
 obtain ⟨u7, rfl⟩ := lay315 hF7
 clear hF7 u6
 obtain ⟨s, hs⟩ : ∃ s, Held (blocks begin_ P (mm / 64) = s) := ⟨_, ⟨rfl⟩⟩
 rw [hs.out] at hG7
 have hsha : Held (sha l = out s) := ⟨by rw [sha, hPd.out, hPl, hs.out]⟩
 have hH7 := hH.ext hx7
 clear hs hPd hPl
 have hHs := hH7.lt
 have hbO := hx7.size
 have hthere : (w7.alloc (.cells z32 23)).there w7.heap.size 0 z32.size := fun j hj => by
  rw [Nat.zero_add]
  exact ⟨by rw [(Blk.new w7 z32 23).cell j, Array.getElem?_eq_getElem hj]; rfl, (Blk.new w7 z32 23).frozen j⟩
 have hsz : (Tryz.prog.info? 23).map (·.size) = some z32.size := by kernel_rfl
 have hone : z32.all (·.oneCell') = true := by kernel_rfl
 go_wp2_with (refine wpList_store_mid rfl 23 (.tmp 20) (.tmp 295) rfl w7.heap.size 0 z32 rfl rfl hthere hsz hone ?_)
 obtain ⟨O, hOd⟩ : ∃ O, Held (w7.heap.size = O) := ⟨_, ⟨rfl⟩⟩
 have hG7l := hG7.lt
 generalize hw8 : World.setCells _ w7.heap.size 0 z32.toList = w8
 rw [hOd.out] at hw8 hG7l ⊢
 have hO8 : Blk w8 O (otab s 0) 23 := by
  have h := Blk_sets (u8s (List.replicate 32 0)) 0 _ _ (Blk.new w7 z32 23)
  rw [show setMany z32 0 (u8s (List.replicate 32 0)) = z32 from setMany_full _ [] (u8s (List.replicate 32 0)) rfl] at h
  rw [← hw8, otab_zero, ← hOd.out]
  exact h
 have hx8 : Ext w0 w8 := by rw [← hw8, ← hOd.out]; exact Ext_sets hbO _ 0 (hx7.alloc _)
 have hG8 : Blk w8 G (us s.list).toArray 102 := by rw [← hw8]; exact Blk_far (by omega) _ _ (hG7.alloc _)
 have hGO : G ≠ O := by omega
 have hbO8 : w0.heap.size ≤ O := by rw [← hOd.out]; exact hbO
 clear hw8 hthere hbO hOd hG7l hHs hH7 hG7 hx7 hone
 refine loop14 (wb := w0) (G := G) (O := O) (s := s) (hF := ⟨_, rfl, rfl⟩) (hx := hx8) (hG := hG8) (hO := hO8) (hGO := hGO) (hbO := hbO8) (hQ := ?_)
 clear hx8 hG8 hO8
 intro a9 w9 hF9 hO9 hx9
 obtain ⟨u9, rfl⟩ := lay315 hF9
 clear hF9 u7
 rw [otab_full] at hO9
 have hz := hH.ext hx9
 have hty : (Tryz.prog.info? 23).map (·.size) = some (u8s (out s)).length := by rw [u8s_length, out_length]; kernel_rfl
 have hld : ∀ j v, (u8s (out s))[j]? = some v → w9.cell? ⟨O, 0 + j, none⟩ = some v := fun j v hj => by rw [Nat.zero_add, hO9.cell j, List.getElem?_toArray]; exact hj
 have hth : w9.there w.heap.size 0 (u8s (out s)).toArray.size := fun j hj => by rw [Nat.zero_add]; exact ⟨by rw [hz.cell j, Array.getElem?_eq_getElem (by simpa [z32, u8s_length, out_length] using hj)]; rfl, hz.frozen j⟩
 have hty2 : (Tryz.prog.info? 23).map (·.size) = some (u8s (out s)).toArray.size := by rw [List.size_toArray]; exact hty
 have hone := all_oneCell_toArray (u8s_one (out s))
 go_wp2_with (first
  | refine wpList_load_mid rfl 23 (.tmp 20) rfl O 0 rfl (u8s (out s)) (.array 32 5) hld (by kernel_rfl) rfl hty ?_
  | refine wpList_store_mid rfl 23 (.tmp 2) (.tmp 314) rfl w.heap.size 0 (u8s (out s)).toArray rfl rfl hth hty2 hone ?_)
 have hz2 := Blk_sets (u8s (out s)) 0 _ _ hz
 rw [show setMany z32 0 (u8s (out s)) = (u8s (out s)).toArray from setMany_full _ [] (u8s (List.replicate 32 0)) (by rw [u8s_length, u8s_length, out_length]; rfl)] at hz2
 refine ⟨rfl, _, results_cell_row rfl _ _ w.heap.size 23 (u8s (out s)).toArray (0, 0) (.array 32 5) rfl hz2 (by kernel_rfl) rfl hty2, ?_, Ext_sets (Nat.le_refl _) _ 0 (hx0.trans hx9)⟩
 rw [hsha.out]
end Go.Proofs.YtbpfabhlngfciaaGreatDoor.ShaW
namespace Go.Proofs.YtbpfabhlngfciaaGreatDoor.Rc
open Go.ChangeShapes Go.WideShapes Go.ChangeAt Go.RowKit
open Base Lx Mi Pr ShaP ShaW Cn
theorem rprint_any (s : ByteArray) (hs : s.size ≤ 140737488351232) (w : World) :
  Calls Tryz.prog 12 #[.string s] w fun e w' => e = .returned (.tuple #[.agg (u8s (hashP s)).toArray, .bool (okP s)]) ∧ Ext w w' := by
 obtain ⟨q, hq⟩ : ∃ z, Hid (w.heap.size = z) := ⟨_, rfl⟩
 have hc := fun W => rtext_any s hs W
 have hok : okP s = decide ((formP s).2.2 = 0) := rfl
 have hH : hashP s = if (formP s).2.2 = 0 then sha (formP s).1.data.toList else List.replicate 32 0 := rfl
 have hXl := hashP_len s
 have hfl := form_len s
 obtain ⟨X, hX⟩ : ∃ z, Hid (hashP s = z) := ⟨_, Lib.hid rfl⟩
 obtain ⟨F, hF⟩ : ∃ z, Hid (formP s = z) := ⟨_, Lib.hid rfl⟩
 rw [hF.out] at hok hH hfl
 simp only [hF.out] at hc
 rw [hX.out] at hXl hH ⊢
 rw [hok]
 obtain ⟨t, a, y⟩ := F
 simp only at hc hH hfl ⊢
 obtain ⟨PO, hPO⟩ : ∃ PO : Ending → World → Prop, Hid ((fun e w' => e = .returned (.tuple #[.agg (u8s X).toArray, .bool (decide (y = 0))]) ∧ Ext w w') = PO) := ⟨_, Lib.hid rfl⟩
 rw [hPO.out]
 have hsum := fun W A c => refSum_any W A c t.data.toList
 replace hc := Lib.hid hc
 replace hH := Lib.hid hH
 replace hsum := Lib.hid hsum
 clear hok
 go_enter Tryz.func12, Tryz.ntmps12
 go_wp2_with fail
 generalize hw0 : World.alloc w _ = w1
 have hx1 : Ext w w1 := by rw [← hw0]; exact (Ext.refl w).alloc _
 have hz1 : Blk w1 q z32 23 := by rw [← hw0, ← hq.out]; exact Blk.new w z32 _
 clear hw0
 rw [hq.out]
 refine (hc.out w1).mono ?_
 rintro e w2 ⟨rfl, hx2⟩
 have hz2 := hz1.ext hx2
 have hx02 := hx1.trans hx2
 clear hc
 by_cases h0 : y = 0
 ·subst h0
  have hH' := hH.out
  rw [if_pos rfl] at hH'
  have hcv := Lib.run_convert_string_bytes (P := Tryz.prog) w2 9 50 5 t Tryz.underlying9 Tryz.underlying50 Tryz.underlying5
  obtain ⟨cap, hcap⟩ : ∃ c, Hid (grownCap w2 t.size 0 5 = c) := ⟨_, rfl⟩
  rw [hcap.out] at hcv
  obtain ⟨w3, hw3⟩ : ∃ z, Hid (Lib.bytesWorld w2 5 t = z) := ⟨_, rfl⟩
  rw [hw3.out] at hcv
  have hx3 : Ext w2 w3 := by rw [← hw3.out]; exact ext_bytes _ _ _
  have hsz : t.data.toList.length = t.size := Array.length_toList
  have hrb : Rb w3 (some ⟨w2.heap.size, 0, none⟩) t.data.toList := fun _ => ⟨_, 0, rfl, fun j u hj => by
   have hlt : j < t.size := by
    rw [← hsz]
    obtain ⟨h1, _⟩ := List.getElem?_eq_some_iff.1 hj
    simpa [u8s_length] using h1
   rw [Nat.zero_add, ← hw3.out, Lib.bytesWorld_cell _ _ _ j hlt, ← hj]
   simp [u8s, List.getD, List.getElem?_eq_getElem (show j < t.data.toList.length by omega)]⟩
  have hlt : w2.heap.size < w3.heap.size := by rw [← hw3.out, Lib.bytesWorld_size]; omega
  have hs3 := hsum.out w3 (some ⟨w2.heap.size, 0, none⟩) cap hrb (fun h => by cases h) (by omega)
  rw [hsz, ← hH'] at hs3
  clear hsum hrb hH hH'
  go_wp2_with fail
  refine hs3.mono ?_
  rintro e w4 ⟨rfl, hx4⟩
  have hz4 := (hz2.ext hx3).ext hx4
  have hx04 := (hx02.trans hx3).trans hx4
  clear hs3 hcv
  go_wp2_with (refine wpList_store_mid rfl 23 (.tmp 2) (.tmp 18) rfl q 0 (u8s X).toArray rfl rfl (sumX_there hz4 _ hXl) (sumX_info _ hXl) (all_oneCell_toArray (u8s_one _)) ?_)
  have hzF := sumX_cells X hXl hz4
  have hxF : Ext w (w4.setCells q 0 (u8s X)) := Ext_sets (by rw [hq.out]; exact Nat.le_refl _) _ 0 hx04
  refine bodyPost_ret (results_row_tmp rfl _ _ q 23 (u8s X).toArray (0, 0) (.array 32 5) rfl hzF (by kernel_rfl) rfl (sumX_info X hXl)) rfl ?_
  rw [← hPO.out]
  exact ⟨rfl, hxF⟩
 ·have hyb : ((y : Int) != 0) = true := by simpa using h0
  have hH' := hH.out
  rw [if_neg h0] at hH'
  subst hH'
  clear hH hsum
  go_wp2_with (refine wpList_store_mid rfl 23 (.tmp 2) (.tmp 15) rfl q 0 (u8s (List.replicate 32 0)).toArray rfl rfl (sumX_there hz2 _ rfl) (sumX_info _ rfl) (all_oneCell_toArray (u8s_one _)) ?_)
  have hzF := sumX_cells (List.replicate 32 0) rfl hz2
  have hxF : Ext w (w2.setCells q 0 (u8s (List.replicate 32 0))) := Ext_sets (by rw [hq.out]; exact Nat.le_refl _) _ 0 hx02
  refine bodyPost_ret (results_row_tmp rfl _ _ q 23 (u8s (List.replicate 32 0)).toArray (0, 0) (.array 32 5) rfl hzF (by kernel_rfl) rfl (sumX_info _ rfl)) rfl ?_
  rw [← hPO.out]
  exact ⟨by rw [decide_eq_false h0]; rfl, hxF⟩
end Go.Proofs.YtbpfabhlngfciaaGreatDoor.Rc
namespace Go.Proofs.YtbpfabhlngfciaaGreatDoor.ShaW
open Go.ChangeShapes Go.WideShapes Go.ChangeAt Go.RowKit
open ShaP Base
theorem u8s_get (X : List UInt8) (i : Nat) (h : i < X.length) : (u8s X).toArray[i]? = some (.int .u8 ((X.getD i 0).toNat : Int)) := by
 simp [u8s, h, List.getD]
theorem eqItems_u8 {P : Program} {e : TypeId} (he : P.plainKey e = true) (hu : P.underlying e = some (.int .u8)) (d : Nat) (X Y : List UInt8) (w : World) :
  ∀ is : List Nat, (∀ i ∈ is, i < X.length ∧ i < Y.length) → (Op.eqItems (d + 1) e 1 (u8s X).toArray (u8s Y).toArray is).run P w = .ok (is.all fun i => X.getD i 0 == Y.getD i 0) w
 | [], _ => by simp [Op.eqItems]
 | i :: is, h => by
  obtain ⟨h1, h2⟩ := h i (by simp)
  have ih := eqItems_u8 he hu d X Y w is (fun j hj => h j (by simp [hj]))
  have p1 := run_part_plain (P := P) w he (u8s_get X i h1)
  have p2 := run_part_plain (P := P) w he (u8s_get Y i h2)
  have p3 := run_equalIn_int (P := P) w d e .u8 .u8 ((X.getD i 0).toNat : Int) ((Y.getD i 0).toNat : Int) hu
  have hb : (((X.getD i 0).toNat : Int) == ((Y.getD i 0).toNat : Int)) = (X.getD i 0 == Y.getD i 0) := by
   by_cases hxy : X.getD i 0 = Y.getD i 0
   ·rw [hxy]; simp
   ·have : (X.getD i 0).toNat ≠ (Y.getD i 0).toNat := fun e => hxy (UInt8.toNat_inj.1 e)
    rw [beq_eq_false_iff_ne.2 hxy, beq_eq_false_iff_ne.2 (by omega)]
  simp only [Op.eqItems, Nat.mul_one, Sem.run_bind, p1, p2, p3, Result.andThen_ok, hb, List.all_cons]
  cases hq : (X.getD i 0 == Y.getD i 0)
  ·simp
  ·simpa using ih
theorem eq_sum (X Y : List UInt8) (hX : X.length = 32) (hY : Y.length = 32) (w : World) :
  (Op.equalIn 10000 23 (.agg (u8s X).toArray) (.agg (u8s Y).toArray)).run Tryz.prog w = .ok (decide (X = Y)) w := by
 obtain ⟨i, hi, _⟩ := info_parts el_u8.info
 rw [run_equalIn_array (P := Tryz.prog) w 9999 (u8s X).toArray (u8s Y).toArray (show Tryz.prog.underlying 23 = some (.array 32 5) by kernel_rfl) hi]
 rw [show Tryz.prog.cellsOf 5 = 1 by kernel_rfl, eqItems_u8 (by kernel_rfl) Tryz.underlying5 9998 X Y w (List.range 32) (fun i hi => by rw [List.mem_range] at hi; omega)]
 congr 1
 by_cases h : X = Y
 ·subst h; simp
 ·rw [decide_eq_false h, List.all_eq_false]
  apply Classical.byContradiction
  intro hn
  apply h
  apply List.ext_getElem (by omega)
  intro i h1 h2
  have := Classical.byContradiction (fun hh => hn ⟨i, by rw [List.mem_range]; omega, hh⟩)
  simpa [List.getD, List.getElem?_eq_getElem h1, List.getElem?_eq_getElem h2] using this
end Go.Proofs.YtbpfabhlngfciaaGreatDoor.ShaW
namespace Go.Proofs.YtbpfabhlngfciaaGreatDoor.Cn
open Go.ChangeShapes Go.WideShapes Go.ChangeAt Go.RowKit
open Base Lx Mi Pr ShaP ShaW
theorem four (X : List UInt8) (h : X.length = 32) : ∃ c0 c1 c2 c3 r, X = c0 :: c1 :: c2 :: c3 :: r := by
 match X, h with
 | c0 :: c1 :: c2 :: c3 :: r, _ => exact ⟨c0, c1, c2, c3, r, rfl⟩
theorem hex8 (c0 c1 c2 c3 : UInt8) (r : List UInt8) : (hexL (c0 :: c1 :: c2 :: c3 :: r)).take 8 = [hexd (c0.toNat / 16), hexd (c0.toNat % 16), hexd (c1.toNat / 16), hexd (c1.toNat % 16), hexd (c2.toNat / 16), hexd (c2.toNat % 16), hexd (c3.toNat / 16), hexd (c3.toNat % 16)] := by
 simp [hexL]
theorem ix16 (n : Nat) (h : n < 16) (W : World) : (Instr.index 9 (.string ⟨#[48, 49, 50, 51, 52, 53, 54, 55, 56, 57, 97, 98, 99, 100, 101, 102]⟩) (.int .u8 (n : Int))).run Tryz.prog W = .ok (.int .u8 ((hexd n).toNat : Int)) W := by
 rw [run_index_string (h := Tryz.underlying9), dif_pos ⟨by omega, by show (n : Int) < 16; omega⟩]
 have := hexd_get n h
 rw [← this]
 rfl
theorem ixX {x : ByteArray} {D : List UInt8} (hx : x = ⟨D.toArray⟩) (k : Nat) (d : UInt8) (hd : D[k]? = some d) (W : World) : (Instr.index 9 (.string x) (.int .i64 (k : Int))).run Tryz.prog W = .ok (.int .u8 (d.toNat : Int)) W := by
 subst hx
 obtain ⟨hk, e⟩ := List.getElem?_eq_some_iff.1 hd
 have hsz : (⟨D.toArray⟩ : ByteArray).size = D.length := rfl
 rw [run_index_string (h := Tryz.underlying9), dif_pos ⟨by omega, by rw [hsz]; omega⟩]
 rw [← e]
 rfl
set_option maxHeartbeats 4000000 in
theorem prints_any (s : ByteArray) (hs : s.size ≤ 140737488351232) (w : World) (hwd : Wd w) (hpow : Pow w) (htb : Tabs w) :
  Calls Tryz.prog 3 #[.string s] w fun e w' => e = .returned (.bool true) ∧ Ext w w' := by
 have hp1 := Print_any s hs w hwd hpow htb
 have hp2 := fun W => Rc.rprint_any s hs W
 have hp3 := fun W (hW : Ext w W) => Short_any s hs W (hwd.ext hW) (hpow.ext hW) (htb.ext hW)
 have hli := fun W (hW : Ext w W) => lives8_any W (hwd.ext hW) (hpow.ext hW) (htb.ext hW)
 have hX1 := hashP_len s
 obtain ⟨X, hX⟩ : ∃ z, Hid (hashP s = z) := ⟨_, Lib.hid rfl⟩
 obtain ⟨b, hb⟩ : ∃ z, Hid (okP s = z) := ⟨_, Lib.hid rfl⟩
 rw [hX.out, hb.out] at hp1
 simp only [hX.out, hb.out] at hp2 hp3
 rw [hX.out] at hX1
 have hEq : ∀ w, (Op.equalIn 10000 23 (.agg (u8s X).toArray) (.agg (u8s X).toArray)).run Tryz.prog w = .ok true w := fun w => by rw [eq_sum X X hX1 hX1]; simp
 obtain ⟨c0, c1, c2, c3, r, hXe⟩ := four X hX1
 have h8 := hex8 c0 c1 c2 c3 r
 rw [← hXe] at h8
 replace hXe := Lib.hid hXe
 simp only [h8] at hp3
 obtain ⟨x, hx⟩ : ∃ z, Hid ((if b = true then (⟨#[hexd (c0.toNat / 16), hexd (c0.toNat % 16), hexd (c1.toNat / 16), hexd (c1.toNat % 16), hexd (c2.toNat / 16), hexd (c2.toNat % 16), hexd (c3.toNat / 16), hexd (c3.toNat % 16)]⟩ : ByteArray) else ⟨#[]⟩) = z) := ⟨_, Lib.hid rfl⟩
 simp only [hx.out] at hp3
 replace hp2 := Lib.hid hp2
 replace hp3 := Lib.hid hp3
 replace hli := Lib.hid hli
 clear h8
 go_enter Tryz.func3, Tryz.ntmps3
 go_wp2_with fail
 refine hp1.mono ?_
 rintro e w1 ⟨rfl, hx1⟩
 have hzN := Blk.new w1 z32 23
 have hzF := sumX_cells X hX1 hzN
 have hxF : Ext w1 ((w1.alloc (.cells z32 23)).setCells w1.heap.size 0 (u8s X)) := Ext_sets (Nat.le_refl _) _ 0 ((Ext.refl w1).alloc _)
 clear hp1
 go_wp2_with (refine wpList_store_mid rfl 23 (.tmp 3) (.tmp 13) rfl w1.heap.size 0 (u8s X).toArray rfl rfl (sumX_there hzN X hX1) (sumX_info _ hX1) (all_oneCell_toArray (u8s_one _)) ?_)
 refine (hp2.out _).mono ?_
 rintro e w3 ⟨rfl, hx3⟩
 have hz3 := hzF.ext hx3
 have hx03 := (hx1.trans hxF).trans hx3
 clear hzN hzF hxF hx3 hp2
 have hzN := Blk.new w3 z32 23
 have hzG := sumX_cells X hX1 hzN
 have hxG : Ext w3 ((w3.alloc (.cells z32 23)).setCells w3.heap.size 0 (u8s X)) := Ext_sets (Nat.le_refl _) _ 0 ((Ext.refl w3).alloc _)
 go_wp2_with (refine wpList_store_mid rfl 23 (.tmp 5) (.tmp 18) rfl w3.heap.size 0 (u8s X).toArray rfl rfl (sumX_there hzN X hX1) (sumX_info _ hX1) (all_oneCell_toArray (u8s_one _)) ?_)
 refine (hp3.out _ (hx03.trans hxG)).mono ?_
 rintro e w4 ⟨rfl, hx4⟩
 have hx04 := (hx03.trans hxG).trans hx4
 have hzX := (hz3.ext hxG).ext hx4
 have hzY := hzG.ext hx4
 clear hzN hzG hxG hx4 hz3 hp3
 obtain ⟨p1, hp1⟩ : ∃ z, Hid (w1.heap.size = z) := ⟨_, rfl⟩
 obtain ⟨p2, hp2⟩ : ∃ z, Hid (w3.heap.size = z) := ⟨_, rfl⟩
 rw [hp1.out] at hzX
 rw [hp2.out] at hzY
 rw [hp1.out, hp2.out]
 have hld1 : ∀ j v, (u8s X)[j]? = some v → w4.cell? ⟨p1, 0 + j, none⟩ = some v := fun j v hj => by rw [Nat.zero_add, hzX.cell j, List.getElem?_toArray, hj]
 have hld2 : ∀ j v, (u8s X)[j]? = some v → w4.cell? ⟨p2, 0 + j, none⟩ = some v := fun j v hj => by rw [Nat.zero_add, hzY.cell j, List.getElem?_toArray, hj]
 have hty : (Tryz.prog.info? 23).map (·.size) = some (u8s X).length := by rw [u8s_length, hX1]; kernel_rfl
 have hl4 := hli.out w4 hx04
 have hq4 := hEq w4
 clear hEq
 cases b with
 | false =>
  have hx0 : x = ⟨#[]⟩ := by rw [← hx.out]; rfl
  subst hx0
  go_wp2_with (first
   | refine wpList_load_mid rfl 23 (.tmp 3) rfl p1 0 rfl (u8s X) (.array 32 5) hld1 (by kernel_rfl) rfl hty ?_
   | refine wpList_load_mid rfl 23 (.tmp 5) rfl p2 0 rfl (u8s X) (.array 32 5) hld2 (by kernel_rfl) rfl hty ?_)
  go_loopw [8] (fun v8 wr => v8 = .int .i64 0 ∧ wr = w4) (fun _ _ => 0)
  case atStart => exact ⟨rfl, rfl⟩
  case round =>
   obtain ⟨rfl, rfl⟩ := hrel
   go_wp2_with fail
   refine hl4.mono ?_
   rintro e w5 ⟨rfl, hx5⟩
   go_wp2_with fail
   go_ret
   exact ⟨rfl, hx04.trans hx5⟩
 | true =>
  have hx0 : x = ⟨#[hexd (c0.toNat / 16), hexd (c0.toNat % 16), hexd (c1.toNat / 16), hexd (c1.toNat % 16), hexd (c2.toNat / 16), hexd (c2.toNat % 16), hexd (c3.toNat / 16), hexd (c3.toNat % 16)]⟩ := by rw [← hx.out]; rfl
  have x0 : w4.cell? ⟨p1, 0, none⟩ = some (.int .u8 (c0.toNat : Int)) := hld1 0 _ (by rw [hXe.out]; rfl)
  have x1 : w4.cell? ⟨p1, 1, none⟩ = some (.int .u8 (c1.toNat : Int)) := hld1 1 _ (by rw [hXe.out]; rfl)
  have x2 : w4.cell? ⟨p1, 2, none⟩ = some (.int .u8 (c2.toNat : Int)) := hld1 2 _ (by rw [hXe.out]; rfl)
  have x3 : w4.cell? ⟨p1, 3, none⟩ = some (.int .u8 (c3.toNat : Int)) := hld1 3 _ (by rw [hXe.out]; rfl)
  have b0 := c0.toNat_lt
  have b1 := c1.toNat_lt
  have b2 := c2.toNat_lt
  have b3 := c3.toNat_lt
  have hxs : x.size = 8 := by rw [hx0]; rfl
  have hxe : (x.toList == ([] : List UInt8)) = false := by rw [hx0, ByteArray.toList_eq]; simp
  replace hx0 := Lib.hid hx0
  go_wp2_with (first
   | refine wpList_load_mid rfl 23 (.tmp 3) rfl p1 0 rfl (u8s X) (.array 32 5) hld1 (by kernel_rfl) rfl hty ?_
   | refine wpList_load_mid rfl 23 (.tmp 5) rfl p2 0 rfl (u8s X) (.array 32 5) hld2 (by kernel_rfl) rfl hty ?_)
  clear hld1 hld2 hzX hzY hq4
  go_loopw [8] (fun v8 wr => ∃ i : Nat, i ≤ 8 ∧ v8 = .int .i64 (i : Int) ∧ Ext w4 wr) (fun v8 _ => 8 - (intOf v8).toNat)
  case atStart => exact ⟨0, by omega, rfl, Ext.refl _⟩
  case round =>
   obtain ⟨i, hi, rfl, hxr⟩ := hrel
   have y0 := hxr.cell x0
   have y1 := hxr.cell x1
   have y2 := hxr.cell x2
   have y3 := hxr.cell x3
   have hx0r := hx04.trans hxr
   have hl4 := hli.out wr hx0r
   clear x0 x1 x2 x3
   have h9 : i = 0 ∨ i = 1 ∨ i = 2 ∨ i = 3 ∨ i = 4 ∨ i = 5 ∨ i = 6 ∨ i = 7 ∨ i = 8 := by omega
   rcases h9 with rfl | rfl | rfl | rfl | rfl | rfl | rfl | rfl | rfl
   ·rw [show ((0 : Nat) : Int) = 0 from rfl]
    have hi1 : ∀ W, (Instr.index 9 (.string x) (.int .i64 0)).run Tryz.prog W = .ok (.int .u8 ((hexd (c0.toNat / 16)).toNat : Int)) W := fun W => ixX hx0.out 0 _ rfl W
    have hi2 : ∀ W, (Instr.index 9 (.string ⟨#[48, 49, 50, 51, 52, 53, 54, 55, 56, 57, 97, 98, 99, 100, 101, 102]⟩) (.int .u8 ((c0.toNat : Int) / 16))).run Tryz.prog W = .ok (.int .u8 ((hexd (c0.toNat / 16)).toNat : Int)) W := fun W => ix16 (c0.toNat / 16) (by omega) W
    obtain ⟨d, hd⟩ : ∃ z, Hid ((hexd (c0.toNat / 16)).toNat = z) := ⟨_, Lib.hid rfl⟩
    simp only [hd.out] at hi1 hi2
    go_wp2_with fail
    refine Reg.startE (by kernel_rfl) ?_
    iterate 6 ((first | refine Reg.tn ?_ | refine Reg.sn ?_); (try simp only [Reg.nn]))
    refine Reg.fin (by kernel_rfl) (fun W hW => ?_)
    go_wp2_with fail
    exact ⟨⟨1, by omega, rfl, hxr.trans hW⟩, by simp [intOf]⟩
   ·rw [show ((1 : Nat) : Int) = 1 from rfl]
    have hi1 : ∀ W, (Instr.index 9 (.string x) (.int .i64 1)).run Tryz.prog W = .ok (.int .u8 ((hexd (c0.toNat % 16)).toNat : Int)) W := fun W => ixX hx0.out 1 _ rfl W
    have hi2 : ∀ W, (Instr.index 9 (.string ⟨#[48, 49, 50, 51, 52, 53, 54, 55, 56, 57, 97, 98, 99, 100, 101, 102]⟩) (.int .u8 ((c0.toNat : Int) % 16))).run Tryz.prog W = .ok (.int .u8 ((hexd (c0.toNat % 16)).toNat : Int)) W := fun W => ix16 (c0.toNat % 16) (by omega) W
    obtain ⟨d, hd⟩ : ∃ z, Hid ((hexd (c0.toNat % 16)).toNat = z) := ⟨_, Lib.hid rfl⟩
    simp only [hd.out] at hi1 hi2
    go_wp2_with fail
    refine Reg.startE (by kernel_rfl) ?_
    iterate 6 ((first | refine Reg.tn ?_ | refine Reg.sn ?_); (try simp only [Reg.nn]))
    refine Reg.fin (by kernel_rfl) (fun W hW => ?_)
    go_wp2_with fail
    exact ⟨⟨2, by omega, rfl, hxr.trans hW⟩, by simp [intOf]⟩
   ·rw [show ((2 : Nat) : Int) = 2 from rfl]
    have hi1 : ∀ W, (Instr.index 9 (.string x) (.int .i64 2)).run Tryz.prog W = .ok (.int .u8 ((hexd (c1.toNat / 16)).toNat : Int)) W := fun W => ixX hx0.out 2 _ rfl W
    have hi2 : ∀ W, (Instr.index 9 (.string ⟨#[48, 49, 50, 51, 52, 53, 54, 55, 56, 57, 97, 98, 99, 100, 101, 102]⟩) (.int .u8 ((c1.toNat : Int) / 16))).run Tryz.prog W = .ok (.int .u8 ((hexd (c1.toNat / 16)).toNat : Int)) W := fun W => ix16 (c1.toNat / 16) (by omega) W
    obtain ⟨d, hd⟩ : ∃ z, Hid ((hexd (c1.toNat / 16)).toNat = z) := ⟨_, Lib.hid rfl⟩
    simp only [hd.out] at hi1 hi2
    go_wp2_with fail
    refine Reg.startE (by kernel_rfl) ?_
    iterate 6 ((first | refine Reg.tn ?_ | refine Reg.sn ?_); (try simp only [Reg.nn]))
    refine Reg.fin (by kernel_rfl) (fun W hW => ?_)
    go_wp2_with fail
    exact ⟨⟨3, by omega, rfl, hxr.trans hW⟩, by simp [intOf]⟩
   ·rw [show ((3 : Nat) : Int) = 3 from rfl]
    have hi1 : ∀ W, (Instr.index 9 (.string x) (.int .i64 3)).run Tryz.prog W = .ok (.int .u8 ((hexd (c1.toNat % 16)).toNat : Int)) W := fun W => ixX hx0.out 3 _ rfl W
    have hi2 : ∀ W, (Instr.index 9 (.string ⟨#[48, 49, 50, 51, 52, 53, 54, 55, 56, 57, 97, 98, 99, 100, 101, 102]⟩) (.int .u8 ((c1.toNat : Int) % 16))).run Tryz.prog W = .ok (.int .u8 ((hexd (c1.toNat % 16)).toNat : Int)) W := fun W => ix16 (c1.toNat % 16) (by omega) W
    obtain ⟨d, hd⟩ : ∃ z, Hid ((hexd (c1.toNat % 16)).toNat = z) := ⟨_, Lib.hid rfl⟩
    simp only [hd.out] at hi1 hi2
    go_wp2_with fail
    refine Reg.startE (by kernel_rfl) ?_
    iterate 6 ((first | refine Reg.tn ?_ | refine Reg.sn ?_); (try simp only [Reg.nn]))
    refine Reg.fin (by kernel_rfl) (fun W hW => ?_)
    go_wp2_with fail
    exact ⟨⟨4, by omega, rfl, hxr.trans hW⟩, by simp [intOf]⟩
   ·rw [show ((4 : Nat) : Int) = 4 from rfl]
    have hi1 : ∀ W, (Instr.index 9 (.string x) (.int .i64 4)).run Tryz.prog W = .ok (.int .u8 ((hexd (c2.toNat / 16)).toNat : Int)) W := fun W => ixX hx0.out 4 _ rfl W
    have hi2 : ∀ W, (Instr.index 9 (.string ⟨#[48, 49, 50, 51, 52, 53, 54, 55, 56, 57, 97, 98, 99, 100, 101, 102]⟩) (.int .u8 ((c2.toNat : Int) / 16))).run Tryz.prog W = .ok (.int .u8 ((hexd (c2.toNat / 16)).toNat : Int)) W := fun W => ix16 (c2.toNat / 16) (by omega) W
    obtain ⟨d, hd⟩ : ∃ z, Hid ((hexd (c2.toNat / 16)).toNat = z) := ⟨_, Lib.hid rfl⟩
    simp only [hd.out] at hi1 hi2
    go_wp2_with fail
    refine Reg.startE (by kernel_rfl) ?_
    iterate 6 ((first | refine Reg.tn ?_ | refine Reg.sn ?_); (try simp only [Reg.nn]))
    refine Reg.fin (by kernel_rfl) (fun W hW => ?_)
    go_wp2_with fail
    exact ⟨⟨5, by omega, rfl, hxr.trans hW⟩, by simp [intOf]⟩
   ·rw [show ((5 : Nat) : Int) = 5 from rfl]
    have hi1 : ∀ W, (Instr.index 9 (.string x) (.int .i64 5)).run Tryz.prog W = .ok (.int .u8 ((hexd (c2.toNat % 16)).toNat : Int)) W := fun W => ixX hx0.out 5 _ rfl W
    have hi2 : ∀ W, (Instr.index 9 (.string ⟨#[48, 49, 50, 51, 52, 53, 54, 55, 56, 57, 97, 98, 99, 100, 101, 102]⟩) (.int .u8 ((c2.toNat : Int) % 16))).run Tryz.prog W = .ok (.int .u8 ((hexd (c2.toNat % 16)).toNat : Int)) W := fun W => ix16 (c2.toNat % 16) (by omega) W
    obtain ⟨d, hd⟩ : ∃ z, Hid ((hexd (c2.toNat % 16)).toNat = z) := ⟨_, Lib.hid rfl⟩
    simp only [hd.out] at hi1 hi2
    go_wp2_with fail
    refine Reg.startE (by kernel_rfl) ?_
    iterate 6 ((first | refine Reg.tn ?_ | refine Reg.sn ?_); (try simp only [Reg.nn]))
    refine Reg.fin (by kernel_rfl) (fun W hW => ?_)
    go_wp2_with fail
    exact ⟨⟨6, by omega, rfl, hxr.trans hW⟩, by simp [intOf]⟩
   ·rw [show ((6 : Nat) : Int) = 6 from rfl]
    have hi1 : ∀ W, (Instr.index 9 (.string x) (.int .i64 6)).run Tryz.prog W = .ok (.int .u8 ((hexd (c3.toNat / 16)).toNat : Int)) W := fun W => ixX hx0.out 6 _ rfl W
    have hi2 : ∀ W, (Instr.index 9 (.string ⟨#[48, 49, 50, 51, 52, 53, 54, 55, 56, 57, 97, 98, 99, 100, 101, 102]⟩) (.int .u8 ((c3.toNat : Int) / 16))).run Tryz.prog W = .ok (.int .u8 ((hexd (c3.toNat / 16)).toNat : Int)) W := fun W => ix16 (c3.toNat / 16) (by omega) W
    obtain ⟨d, hd⟩ : ∃ z, Hid ((hexd (c3.toNat / 16)).toNat = z) := ⟨_, Lib.hid rfl⟩
    simp only [hd.out] at hi1 hi2
    go_wp2_with fail
    refine Reg.startE (by kernel_rfl) ?_
    iterate 6 ((first | refine Reg.tn ?_ | refine Reg.sn ?_); (try simp only [Reg.nn]))
    refine Reg.fin (by kernel_rfl) (fun W hW => ?_)
    go_wp2_with fail
    exact ⟨⟨7, by omega, rfl, hxr.trans hW⟩, by simp [intOf]⟩
   ·rw [show ((7 : Nat) : Int) = 7 from rfl]
    have hi1 : ∀ W, (Instr.index 9 (.string x) (.int .i64 7)).run Tryz.prog W = .ok (.int .u8 ((hexd (c3.toNat % 16)).toNat : Int)) W := fun W => ixX hx0.out 7 _ rfl W
    have hi2 : ∀ W, (Instr.index 9 (.string ⟨#[48, 49, 50, 51, 52, 53, 54, 55, 56, 57, 97, 98, 99, 100, 101, 102]⟩) (.int .u8 ((c3.toNat : Int) % 16))).run Tryz.prog W = .ok (.int .u8 ((hexd (c3.toNat % 16)).toNat : Int)) W := fun W => ix16 (c3.toNat % 16) (by omega) W
    obtain ⟨d, hd⟩ : ∃ z, Hid ((hexd (c3.toNat % 16)).toNat = z) := ⟨_, Lib.hid rfl⟩
    simp only [hd.out] at hi1 hi2
    go_wp2_with fail
    refine Reg.startE (by kernel_rfl) ?_
    iterate 6 ((first | refine Reg.tn ?_ | refine Reg.sn ?_); (try simp only [Reg.nn]))
    refine Reg.fin (by kernel_rfl) (fun W hW => ?_)
    go_wp2_with fail
    exact ⟨⟨8, by omega, rfl, hxr.trans hW⟩, by simp [intOf]⟩
   ·go_wp2_with fail
    refine hl4.mono ?_
    rintro e w5 ⟨rfl, hx5⟩
    go_wp2_with fail
    go_ret
    exact ⟨rfl, hx0r.trans hx5⟩
end Go.Proofs.YtbpfabhlngfciaaGreatDoor.Cn
namespace Go.Proofs.YtbpfabhlngfciaaGreatDoor.Cn
open Go.ChangeShapes Go.WideShapes Go.ChangeAt Go.RowKit
open Base Pr ShaP ShaW
theorem gFirst : Tryz.prog.globalNamed "suffragan/sha.first" = some 0 := by kernel_rfl
theorem gRoots : Tryz.prog.globalNamed "suffragan/sha.roots" = some 1 := by kernel_rfl
def firstInts : List Int := [1779033703, 3144134277, 1013904242, 2773480762, 1359893119, 2600822924, 528734635, 1541459225]
def rootsInts : List Int := [1116352408, 1899447441, 3049323471, 3921009573, 961987163, 1508970993, 2453635748, 2870763221, 3624381080, 310598401, 607225278, 1426881987, 1925078388, 2162078206, 2614888103, 3248222580, 3835390401, 4022224774, 264347078, 604807628, 770255983, 1249150122, 1555081692, 1996064986, 2554220882, 2821834349, 2952996808, 3210313671, 3336571891, 3584528711, 113926993, 338241895, 666307205, 773529912, 1294757372, 1396182291, 1695183700, 1986661051, 2177026350, 2456956037, 2730485921, 2820302411, 3259730800, 3345764771, 3516065817, 3600352804, 4094571909, 275423344, 430227734, 506948616, 659060556, 883997877, 958139571, 1322822218, 1537002063, 1747873779, 1955562222, 2024104815, 2227730452, 2361852424, 2428436474, 2756734187, 3204031479, 3329325298]
abbrev laidL8 : List (String × DataW Unit) := [("math/bits.deBruijn32tab", Rows.laid_math_bits_deBruijn32tab), ("math/bits.deBruijn64tab", Rows.laid_math_bits_deBruijn64tab), ("internal/strconv.uint64pow10", Rows.laid_internal_strconv_uint64pow10), ("suffragan/parse.words", Rows.laid_suffragan_parse_words), ("suffragan/sha.first", Rows.laid_suffragan_sha_first), ("suffragan/sha.roots", Rows.laid_suffragan_sha_roots)]
theorem words_any {W : World} {rest : List (String × DataW Unit)} (h : laidMet Tryz.prog (("suffragan/parse.words", Rows.laid_suffragan_parse_words) :: rest) W) : Wd W := by
 obtain ⟨ps, ⟨g', t', cs, fuel, p, q, hg', ht', hvar, hd, _, _⟩, _⟩ := h
 obtain rfl := Option.some.inj (gWords.symm.trans hg')
 obtain rfl : 167 = t' := Option.some.inj ((show (Tryz.prog.globals[2]?).map (·.type) = some 167 by kernel_rfl).symm.trans ht')
 have hcs := cells_of_texts (ss := wordsD) (e := 9) (n := 12) (by kernel_rfl) Tryz.underlying9 (by kernel_rfl) (by kernel_rfl) hd
 intro _
 refine ⟨2, 0, rfl, fun j u hj => ?_⟩
 have : (wordsD.map fun s => Value.string ⟨s.toArray⟩) = txs wordsL := by kernel_rfl
 rw [this] at hcs
 rw [Nat.zero_add, World.var?_cell gWords hvar j, ← hj, ← hcs]
 simp
theorem us_first : us first = firstInts.map (Value.int .u32) := by kernel_rfl
theorem us_roots : us roots = rootsInts.map (Value.int .u32) := by kernel_rfl
theorem cells_of {W : World} {g : Nat} {name : String} {l : List (BitVec 32)} {zs : List Int} (h : Lib.TabIs Tryz.prog W name .u32 zs) (hg : Tryz.prog.globalNamed name = some g) (e : us l = zs.map (Value.int .u32)) : ∀ j v, (us l)[j]? = some v → W.cell? ⟨g, j, none⟩ = some v := by
 intro j v hj
 rw [e, List.getElem?_map] at hj
 have hlt : j < zs.length := by
  rcases Nat.lt_or_ge j zs.length with x | x
  ·exact x
  ·rw [List.getElem?_eq_none x] at hj; cases hj
 rw [h.cell hg j hlt]
 rw [List.getElem?_eq_getElem hlt] at hj
 simpa [List.getD, List.getElem?_eq_getElem hlt] using hj
theorem tabs8 {W : World} (h : laidMetH Tryz.prog laidL8 W) : Wd W ∧ Pow W ∧ Tabs W := by
 have h' : laidMet Tryz.prog laidL8 W := h
 have h2 := laidMet.tail (laidMet.tail h')
 have h3 := laidMet.tail h2
 have h4 := laidMet.tail h3
 have t1 : Lib.TabIs Tryz.prog W "suffragan/sha.first" .u32 firstInts :=
  Lib.tabIs_of_head (rest := [("suffragan/sha.roots", Rows.laid_suffragan_sha_roots)]) (t := 142) (e := 102) (n := 8) gFirst (by kernel_rfl) (by kernel_rfl) Tryz.underlying102 (by kernel_rfl) (by kernel_rfl) h4
 have t2 : Lib.TabIs Tryz.prog W "suffragan/sha.roots" .u32 rootsInts :=
  Lib.tabIs_of_head (rest := []) (t := 160) (e := 102) (n := 64) gRoots (by kernel_rfl) (by kernel_rfl) Tryz.underlying102 (by kernel_rfl) (by kernel_rfl) (laidMet.tail h4)
 exact ⟨words_any h3, Lib.tabIs_of_head (t := 188) (e := 53) (n := 20) (zs := Lib.pow10Tab) powG (by kernel_rfl) (by kernel_rfl) Tryz.underlying53 (by kernel_rfl) (by kernel_rfl) h2, ⟨cells_of t1 gFirst us_first, cells_of t2 gRoots us_roots⟩⟩
noncomputable def laidWorld (os : Os) : World :=
 { World.holding Tryz.prog os ⟨#[], #[], []⟩ with heap := ((((((World.holding Tryz.prog os ⟨#[], #[], []⟩).heap.modify 2 (lay (txs wordsL).toArray)).modify 4 (lay (pow10Ints.map (Value.int .u64)).toArray)).modify 5 (lay (Pr.u8sI tab32))).modify 6 (lay (Pr.u8sI tab64))).modify 0 (lay (firstInts.map (Value.int .u32)).toArray)).modify 1 (lay (rootsInts.map (Value.int .u32)).toArray) }
end Go.Proofs.YtbpfabhlngfciaaGreatDoor.Cn
namespace Go.Proofs.YtbpfabhlngfciaaGreatDoor.canonPrints
open Go.ChangeShapes Go.WideShapes Go.ChangeAt Go.RowKit
open Go.ChangeMaps (open_string shut_string)
open Base Args
theorem own : ownKnob Tryz.prog.godebug = none := by kernel_rfl
theorem laidOut : laidOutB Tryz.prog = true := by kernel_rfl
theorem laid_met (os : Os) : laidMet Tryz.prog Rows.canonPrintsRow.laid ((Cn.laidWorld os).forCall (fun _ _ => 0) ⟨#[], #[.string ByteArray.empty], []⟩).memory :=
 laidMet_of_run' 8 (by kernel_rfl) (by kernel_rfl)
theorem reads (os : Os) {H : Type} (enc : TypeId × Value → H) : ∃ places, DataW.whole enc Tryz.prog ((Cn.laidWorld os).forCall (fun _ _ => 0) ⟨#[], #[.string ByteArray.empty], []⟩).memory Tryz.f3.params.toList Rows.canonPrintsSpec.vars false (#[.string ByteArray.empty] : Array Value).toList 8 = some ([.lit (.string [])], [], places) :=
 ⟨[], by kernel_rfl⟩
theorem lifted (os : Os) (started : os.Started) (H : Type) (enc : TypeId × Value → H) (F : Stop.Interp) :
  ReturnsInHanded {} Tryz.checked os 3 .any ((OpenSpec.ofChange Rows.canonPrintsSpec).preRow enc Tryz.prog Tryz.f3 Rows.canonPrintsRow.domain false Rows.canonPrintsRow.laid) (((OpenSpec.ofChange Rows.canonPrintsSpec).at F).post enc Tryz.prog Tryz.f3 false true false false) := by
 obtain ⟨places, hx⟩ := reads os enc
 refine returnsInHanded_of_row (C := Tryz.checked) (s := (OpenSpec.ofChange Rows.canonPrintsSpec)) own started (by kernel_rfl) Tryz.func3
  (witness_row_at (enc := enc) (C := Tryz.checked) false (Cn.laidWorld os) #[.string ByteArray.empty] rfl (by kernel_rfl) (by kernel_rfl) (by kernel_rfl)
   (OpenSpec.preRow_of_cond 8 hx (by kernel_rfl) (fun k hk => by cases hk) (by kernel_rfl) (laid_met os))) ?_
 intro W base args ds gs before hval0 hW hcnd hk0 hsz0 hL _ _
 have hval : ∀ (j : Nat) t v, Tryz.f3.params[j]? = some t → args[j]? = some v → Value.okWide Tryz.prog W .any base t v := hval0
 have hW' := hW
 obtain ⟨p, q, hAz, hV, rfl, hfz, hnd⟩ := hW
 have hA : DataW.TrodAll enc Tryz.prog W 0 (fun _ => true) true Tryz.f3.params.toList args.toList ds p := hAz
 have hsz : (DataW.weightsEach Tryz.prog (Tryz.f3.params.toList ++ Rows.canonPrintsSpec.plain.varTypes Tryz.prog) (ds ++ gs)).all (· ≤ reachBytes) = true := hsz0
 rw [Tryz.params3] at hA hval hsz
 obtain ⟨v0, vs0, d0, ds0, p0, q0, hargs, rfl, rfl, h0, r0⟩ := trodAll_cons hA
 obtain ⟨rfl, rfl, rfl⟩ := trodAll_nil r0
 obtain rfl : args = #[v0] := by cases args; simp_all
 obtain ⟨rfl, rfl⟩ := trodVars_none hV
 have k0 := h0
 have lt0 : ∀ x ∈ p0, x.block < W.heap.size := by obtain ⟨m, hm⟩ := k0; exact DataW.trod_lt m _ _ _ hm
 obtain ⟨s0, rfl, rfl, rfl, hs0⟩ := open_string Tryz.underlying9 (hval 0 9 v0 rfl rfl) h0
 have hz0 : s0.size ≤ 140737488351232 := string_reach hsz (j := 0) (t := 9) rfl rfl
 clear hAz hval0
 refine (Cn.prints_any s0 hz0 W (Cn.tabs8 hL).1 (Cn.tabs8 hL).2.1 (Cn.tabs8 hL).2.2).mono fun e W' ⟨he, bel⟩ => ?_
 have bel : Below W.heap.size W W' := bel
 subst he
 exact ⟨_, rfl, _, _, _, [], _, [], hW', trodAll_mk1 (shut_bool Tryz.underlying4 _), (trodAll_cons_mk (Below.trod laidOut (by kernel_rfl) (of_decide_eq_true (by kernel_rfl)) k0 bel lt0) trodAll_mk0), rfl, bel.frame _, fun h => by cases h⟩
theorem said : Rows.CanonPrintsSaid :=
 OpenClaim.holds_of_cond 3 Tryz.f3 rfl rfl rfl rfl rfl rfl rfl ⟨rfl, rfl, rfl, rfl, rfl⟩ rfl rfl rfl rfl rfl (by kernel_rfl) Tryz.func3 (by kernel_rfl)
  (of_decide_eq_true (by kernel_rfl)) (by unfold Func.isWrapper; first | (rw [if_pos (by decide +kernel)]; kernel_rfl) | (rw [if_neg (by decide +kernel)]; exact ⟨rfl, rfl⟩))
  (fun os started H enc _ F => by rw [OpenClaim.pre_eq_preRow]; exact lifted os started H enc F)
theorem plain (f : FuncId) (fn : Func) (hf : Tryz.pinned.checked.prog.funcNamed "suffragan/suffraganlaw08.CanonPrints" = some f) (hfn : Tryz.pinned.checked.prog.funcs[f]? = some fn) :
  true = Tryz.pinned.checked.prog.looks [] ∧ ∀ (j : Nat) t, fn.params[j]? = some t → Tryz.pinned.checked.prog.wantsStandIn t = false := by
 obtain rfl : f = 3 := Option.some.inj ((show Tryz.prog.funcNamed "suffragan/suffraganlaw08.CanonPrints" = some 3 by kernel_rfl).symm.trans hf) |>.symm
 obtain rfl : fn = Tryz.f3 := (Option.some.inj (Tryz.func3.symm.trans hfn)).symm
 refine ⟨by kernel_rfl, fun j t ht => ?_⟩
 rw [Tryz.params3] at ht
 have hm := Array.mem_of_getElem? ht
 simp only [Array.mem_def, List.mem_cons, List.mem_nil_iff, or_false, or_self] at hm
 subst hm
 exact (show Tryz.prog.wantsStandIn 9 = false by kernel_rfl)
theorem proved : Rows.CanonPrintsCardSaid :=
 Claim7.holds_tied_plain_at .later [] _ _ _ _ said (fun _ h => by cases h) (by kernel_rfl) (fun _ h => by cases h) canonPrints_row_tie rfl ⟨rfl, rfl⟩ (by kernel_rfl) rfl plain (by kernel_rfl)
#print axioms proved
end Go.Proofs.YtbpfabhlngfciaaGreatDoor.canonPrints
