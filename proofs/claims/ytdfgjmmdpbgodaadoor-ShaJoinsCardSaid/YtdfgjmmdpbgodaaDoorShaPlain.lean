/- SHA-256 in plain Lean, over words of 32 bits. No program in sight. -/
import Derived.Below
namespace Go.Proofs.YtdfgjmmdpbgodaaDoor.ShaP

def W := BitVec 32
/-- a word turned right -/
def tr (w : BitVec 32) (k : Nat) : BitVec 32 := (w <<< (32 - k)) ||| (w >>> k)
def first : List (BitVec 32) := [0x6a09e667#32, 0xbb67ae85#32, 0x3c6ef372#32, 0xa54ff53a#32, 0x510e527f#32, 0x9b05688c#32, 0x1f83d9ab#32, 0x5be0cd19#32]
def roots : List (BitVec 32) := [
  0x428a2f98#32, 0x71374491#32, 0xb5c0fbcf#32, 0xe9b5dba5#32, 0x3956c25b#32, 0x59f111f1#32, 0x923f82a4#32, 0xab1c5ed5#32,
  0xd807aa98#32, 0x12835b01#32, 0x243185be#32, 0x550c7dc3#32, 0x72be5d74#32, 0x80deb1fe#32, 0x9bdc06a7#32, 0xc19bf174#32,
  0xe49b69c1#32, 0xefbe4786#32, 0x0fc19dc6#32, 0x240ca1cc#32, 0x2de92c6f#32, 0x4a7484aa#32, 0x5cb0a9dc#32, 0x76f988da#32,
  0x983e5152#32, 0xa831c66d#32, 0xb00327c8#32, 0xbf597fc7#32, 0xc6e00bf3#32, 0xd5a79147#32, 0x06ca6351#32, 0x14292967#32,
  0x27b70a85#32, 0x2e1b2138#32, 0x4d2c6dfc#32, 0x53380d13#32, 0x650a7354#32, 0x766a0abb#32, 0x81c2c92e#32, 0x92722c85#32,
  0xa2bfe8a1#32, 0xa81a664b#32, 0xc24b8b70#32, 0xc76c51a3#32, 0xd192e819#32, 0xd6990624#32, 0xf40e3585#32, 0x106aa070#32,
  0x19a4c116#32, 0x1e376c08#32, 0x2748774c#32, 0x34b0bcb5#32, 0x391c0cb3#32, 0x4ed8aa4a#32, 0x5b9cca4f#32, 0x682e6ff3#32,
  0x748f82ee#32, 0x78a5636f#32, 0x84c87814#32, 0x8cc70208#32, 0x90befffa#32, 0xa4506ceb#32, 0xbef9a3f7#32, 0xc67178f2#32]

/-- four bytes as a word -/
def be (a b c d : UInt8) : BitVec 32 := BitVec.ofNat 32 (a.toNat * 2 ^ 24 + b.toNat * 2 ^ 16 + c.toNat * 2 ^ 8 + d.toNat)
def at8 (l : List UInt8) (i : Nat) : UInt8 := l.getD i 0
def word (l : List UInt8) (i : Nat) : BitVec 32 := be (at8 l (4 * i)) (at8 l (4 * i + 1)) (at8 l (4 * i + 2)) (at8 l (4 * i + 3))
def at32 (l : List (BitVec 32)) (i : Nat) : BitVec 32 := l.getD i 0#32
def s0 (x : BitVec 32) : BitVec 32 := tr x 7 ^^^ tr x 18 ^^^ x >>> 3
def s1 (y : BitVec 32) : BitVec 32 := tr y 17 ^^^ tr y 19 ^^^ y >>> 10
/-- the next word of the rounds -/
def nextW (l : List (BitVec 32)) : BitVec 32 := at32 l (l.length - 16) + s0 (at32 l (l.length - 15)) + at32 l (l.length - 7) + s1 (at32 l (l.length - 2))
/-- the first n words of the rounds -/
def sch (b : List UInt8) : Nat → List (BitVec 32)
  | 0 => []
  | n + 1 => sch b n ++ [if n < 16 then word b n else nextW (sch b n)]
theorem sch_length (b : List UInt8) (n : Nat) : (sch b n).length = n := by
  induction n with
  | zero => rfl
  | succ n ih => simp [sch, ih]

structure St where
  a : BitVec 32
  b : BitVec 32
  c : BitVec 32
  d : BitVec 32
  e : BitVec 32
  f : BitVec 32
  g : BitVec 32
  h : BitVec 32
def t1 (s : St) (k w : BitVec 32) : BitVec 32 := s.h + (tr s.e 6 ^^^ tr s.e 11 ^^^ tr s.e 25) + ((s.e &&& s.f) ^^^ (~~~s.e &&& s.g)) + k + w
def t2 (s : St) : BitVec 32 := (tr s.a 2 ^^^ tr s.a 13 ^^^ tr s.a 22) + ((s.a &&& s.b) ^^^ (s.a &&& s.c) ^^^ (s.b &&& s.c))
def round (s : St) (k w : BitVec 32) : St := ⟨t1 s k w + t2 s, s.a, s.b, s.c, s.d + t1 s k w, s.e, s.f, s.g⟩
/-- the state behind n rounds -/
def rounds (s : St) (ws : List (BitVec 32)) : Nat → St
  | 0 => s
  | n + 1 => round (rounds s ws n) (at32 roots n) (at32 ws n)
def St.list (s : St) : List (BitVec 32) := [s.a, s.b, s.c, s.d, s.e, s.f, s.g, s.h]
def St.plus (s t : St) : St := ⟨s.a + t.a, s.b + t.b, s.c + t.c, s.d + t.d, s.e + t.e, s.f + t.f, s.g + t.g, s.h + t.h⟩
/-- a block taken -/
def block (s : St) (b : List UInt8) : St := s.plus (rounds s (sch b 64) 64)
def begin_ : St := ⟨0x6a09e667#32, 0xbb67ae85#32, 0x3c6ef372#32, 0xa54ff53a#32, 0x510e527f#32, 0x9b05688c#32, 0x1f83d9ab#32, 0x5be0cd19#32⟩
/-- n blocks taken -/
def blocks (s : St) (l : List UInt8) : Nat → St
  | 0 => s
  | n + 1 => blocks (block s (l.take 64)) (l.drop 64) n
/-- eight bytes of a number -/
def be8 (n : Nat) : List UInt8 := [UInt8.ofNat (n / 2 ^ 56), UInt8.ofNat (n / 2 ^ 48), UInt8.ofNat (n / 2 ^ 40), UInt8.ofNat (n / 2 ^ 32), UInt8.ofNat (n / 2 ^ 24), UInt8.ofNat (n / 2 ^ 16), UInt8.ofNat (n / 2 ^ 8), UInt8.ofNat n]
/-- how many noughts -/
def noughts (n : Nat) : Nat := (119 - n % 64) % 64
def padded (l : List UInt8) (count : Nat) : List UInt8 := l ++ [128] ++ List.replicate (noughts l.length) 0 ++ be8 (count * 8)
def out (s : St) : List UInt8 := s.list.flatMap fun x => [UInt8.ofNat (x.toNat / 2 ^ 24), UInt8.ofNat (x.toNat / 2 ^ 16), UInt8.ofNat (x.toNat / 2 ^ 8), UInt8.ofNat x.toNat]
/-- the hash -/
def sha (l : List UInt8) : List UInt8 := out (blocks begin_ (padded l l.length) ((padded l l.length).length / 64))

theorem lives : (sha [97, 98, 99]).take 2 = [0xba, 0x78] ∧ (sha [97, 98, 99]).getD 31 0 = 0xad := by decide +kernel

end Go.Proofs.YtdfgjmmdpbgodaaDoor.ShaP
