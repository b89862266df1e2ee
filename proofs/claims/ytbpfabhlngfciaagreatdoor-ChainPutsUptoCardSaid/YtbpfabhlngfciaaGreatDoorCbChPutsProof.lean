/- suffragan/suffraganlaw17.ChainPuts: the given statement, out of the contract of its walk. Of what reads up to the bound. -/
import Derived.Test.YtbpfabhlngfciaaGreatDoorCbW
import Derived.Maps.AppendAt
import Derived.Lib.AppendStr
import Derived.Deep.Upon
import Derived.Deep.AppendSrc
set_option linter.unusedVariables false
set_option linter.unusedSimpArgs false
set_option maxRecDepth 100000
set_option maxHeartbeats 1000000
namespace Go.Proofs.YtbpfabhlngfciaaGreatDoor.Pf
def cls (n : Nat) : Int := if 4611686018427387904 ≤ n then -1 else if 1073741824 ≤ n then 3 else if 16384 ≤ n then 2 else if 64 ≤ n then 1 else 0
def be : Nat → Nat → List UInt8
 | 0, _ => []
 | m + 1, v => UInt8.ofNat (v / 256 ^ m % 256) :: be m v
def putP (n k : Nat) : List UInt8 := be (2 ^ k) (n + k * 2 ^ (8 * 2 ^ k - 2))
def encN (n : Nat) : List UInt8 := putP n (cls n).toNat
def numB (a : Nat) : List UInt8 → Nat
 | [] => a
 | c :: l => numB (a * 256 + c.toNat) l
def takeP : List UInt8 → Nat × List UInt8 × Nat
 | [] => (0, [], 3)
 | c :: r => if (c :: r).length < 2 ^ (c.toNat / 64) then (0, [], 3)
  else if cls (numB (c.toNat % 64) (r.take (2 ^ (c.toNat / 64) - 1))) ≠ (c.toNat / 64 : Nat) then (0, [], 4)
  else (numB (c.toNat % 64) (r.take (2 ^ (c.toNat / 64) - 1)), (c :: r).drop (2 ^ (c.toNat / 64)), 0)
def takeTextP (l : List UInt8) (most : Nat) : List UInt8 × List UInt8 × Nat :=
 if (takeP l).2.2 ≠ 0 then ([], [], (takeP l).2.2)
 else if most < (takeP l).1 then ([], [], 2)
 else if (takeP l).2.1.length < (takeP l).1 then ([], [], 3)
 else ((takeP l).2.1.take (takeP l).1, (takeP l).2.1.drop (takeP l).1, 0)
def encT (s : List UInt8) : List UInt8 := encN s.length ++ s
theorem be_length : ∀ (m v : Nat), (be m v).length = m
 | 0, _ => rfl
 | m + 1, v => by rw [be, List.length_cons, be_length m v]
theorem numB_be : ∀ (m v a : Nat), numB a (be m v) = a * 256 ^ m + v % 256 ^ m
 | 0, v, a => by simp [be, numB, Nat.mod_one]
 | m + 1, v, a => by
  rw [be, numB, numB_be m v, UInt8.toNat_ofNat_of_lt' (by show v / 256 ^ m % 256 < 256; omega)]
  have h1 : v % 256 ^ (m + 1) = v % 256 ^ m + 256 ^ m * (v / 256 ^ m % 256) := by rw [Nat.pow_succ]; exact Nat.mod_mul
  rw [h1, Nat.pow_succ, Nat.add_mul, Nat.mul_assoc a 256, Nat.mul_comm 256 (256 ^ m), Nat.mul_comm (v / 256 ^ m % 256)]
  omega
theorem cls_lt {n k : Nat} (hk : k ≤ 3) (h : cls n = k) : n < 64 * 256 ^ (2 ^ k - 1) := by
 unfold cls at h
 have : k = 0 ∨ k = 1 ∨ k = 2 ∨ k = 3 := by omega
 rcases this with rfl | rfl | rfl | rfl
 ·show n < 64 * 256 ^ 0; split at h <;> (try split at h) <;> (try split at h) <;> (try split at h) <;> omega
 ·show n < 64 * 256 ^ 1; split at h <;> (try split at h) <;> (try split at h) <;> (try split at h) <;> omega
 ·show n < 64 * 256 ^ 3; split at h <;> (try split at h) <;> (try split at h) <;> (try split at h) <;> omega
 ·show n < 64 * 256 ^ 7; split at h <;> (try split at h) <;> (try split at h) <;> (try split at h) <;> omega
theorem cls_k {n : Nat} (h : n < 4611686018427387904) : ∃ k : Nat, k ≤ 3 ∧ cls n = k := by
 unfold cls
 rw [if_neg (by omega)]
 split
 ·exact ⟨3, by omega, rfl⟩
 ·split
  ·exact ⟨2, by omega, rfl⟩
  ·split
   ·exact ⟨1, by omega, rfl⟩
   ·exact ⟨0, by omega, rfl⟩
theorem encN_cons {n k : Nat} (hk : k ≤ 3) (h : cls n = k) : ∃ c r, encN n = c :: r ∧ c.toNat / 64 = k ∧ r.length = 2 ^ k - 1 ∧ numB (c.toNat % 64) r = n := by
 have hlt := cls_lt hk h
 have hkk : (cls n).toNat = k := by rw [h]; rfl
 obtain ⟨m, hm⟩ : ∃ m, 2 ^ k = m + 1 := ⟨2 ^ k - 1, by have : 0 < 2 ^ k := Nat.two_pow_pos k; omega⟩
 have hp : 2 ^ (8 * 2 ^ k - 2) = 64 * 256 ^ m := by
  rw [hm, show 8 * (m + 1) - 2 = 8 * m + 6 by omega, Nat.pow_add, Nat.pow_mul]
  rw [Nat.mul_comm]
 rw [hm] at hlt
 simp only [Nat.add_sub_cancel] at hlt
 have hP : 0 < 256 ^ m := Nat.pos_of_ne_zero (by simp)
 obtain ⟨q, hq0⟩ : ∃ q, n / 256 ^ m = q := ⟨_, rfl⟩
 have hv : (n + k * (64 * 256 ^ m)) / 256 ^ m = q + k * 64 := by
  rw [← Nat.mul_assoc, Nat.add_mul_div_right _ _ hP, hq0]
 have hq : q < 64 := by rw [← hq0, Nat.div_lt_iff_lt_mul hP]; exact hlt
 have hmod : (n + k * (64 * 256 ^ m)) % 256 ^ m = n % 256 ^ m := by rw [← Nat.mul_assoc, Nat.add_mul_mod_self_right]
 have hdm := Nat.div_add_mod n (256 ^ m)
 rw [hq0, Nat.mul_comm] at hdm
 have hc : (UInt8.ofNat ((n + k * (64 * 256 ^ m)) / 256 ^ m % 256)).toNat = q + k * 64 := by
  rw [UInt8.toNat_ofNat_of_lt' (by show _ % 256 < 256; omega), hv]
  clear hdm hlt hmod hv hq0 hp
  omega
 refine ⟨UInt8.ofNat ((n + k * (64 * 256 ^ m)) / 256 ^ m % 256), be m (n + k * (64 * 256 ^ m)), ?_, ?_, ?_, ?_⟩
 ·unfold encN putP
  rw [hkk, hm, be, ← hm, hp]
 ·rw [hc]
  clear hdm hlt hmod hv hq0 hp hc
  omega
 ·rw [be_length, hm]; rfl
 ·rw [hc, numB_be, hmod]
  have e : (q + k * 64) % 64 = q := by
   clear hdm hlt hmod hv hq0 hp hc
   omega
  rw [e]
  exact hdm
theorem take_enc {n : Nat} (h : n < 4611686018427387904) (rest : List UInt8) : takeP (encN n ++ rest) = (n, rest, 0) := by
 obtain ⟨k, hk, hc⟩ := cls_k h
 obtain ⟨c, r, e, h1, h2, h3⟩ := encN_cons hk hc
 have hp : 0 < 2 ^ k := Nat.two_pow_pos k
 rw [e, List.cons_append, takeP, h1, if_neg (by simp only [List.length_cons, List.length_append]; omega)]
 rw [List.take_append_of_le_length (by omega), List.take_of_length_le (by omega), h3, if_neg (by rw [hc]; simp)]
 congr 2
 rw [← List.cons_append, List.drop_append_of_le_length (by rw [List.length_cons]; omega), List.drop_of_length_le (by rw [List.length_cons]; omega)]
 rfl
theorem takeText_enc (s rest : List UInt8) (most : Nat) (h : s.length ≤ most) (hm : most < 4611686018427387904) : takeTextP (encT s ++ rest) most = (s, rest, 0) := by
 unfold takeTextP encT
 rw [List.append_assoc, take_enc (by omega)]
 simp only [ne_eq, not_true_eq_false, if_false]
 rw [if_neg (by omega), if_neg (by rw [List.length_append]; omega)]
 rw [List.take_left', List.drop_left'] <;> rfl
theorem takeText_cut (s : List UInt8) (most : Nat) (h : s.length ≤ most) (hm : most < 4611686018427387904) (hs : s ≠ []) : takeTextP (encN s.length ++ s.dropLast) most = ([], [], 3) := by
 unfold takeTextP
 rw [take_enc (by omega)]
 simp only [ne_eq, not_true_eq_false, if_false]
 rw [if_neg (by omega), if_pos (by rw [List.length_dropLast]; have := List.length_pos_iff.2 hs; omega)]
theorem encN_length (n : Nat) : (encN n).length ≤ 8 ∨ 4611686018427387904 ≤ n := by
 rcases Nat.lt_or_ge n 4611686018427387904 with h | h
 ·left
  obtain ⟨k, hk, hc⟩ := cls_k h
  obtain ⟨c, r, e, h1, h2, h3⟩ := encN_cons hk hc
  rw [e, List.length_cons, h2]
  have : k = 0 ∨ k = 1 ∨ k = 2 ∨ k = 3 := by omega
  rcases this with rfl | rfl | rfl | rfl <;> decide
 ·exact .inr h
theorem encN_ne (n : Nat) : encN n ≠ [] := by
 have : (encN n).length = 2 ^ (cls n).toNat := be_length _ _
 intro e
 rw [e] at this
 have h2 : 0 < 2 ^ (cls n).toNat := Nat.two_pow_pos _
 simp only [List.length_nil] at this
 omega
end Go.Proofs.YtbpfabhlngfciaaGreatDoor.Pf
namespace Go.Proofs.YtbpfabhlngfciaaGreatDoor.Ch
open Base Pf Cn Pr
structure Et where
 pol : Bool
 p : Int
 s : ByteArray
 id : Nat
 deriving DecidableEq
def e0 : Et := ⟨false, 0, ⟨#[]⟩, 0⟩
def entC (e : Et) : List Value := [.bool e.pol, .int .i64 e.p, .string e.s, .int .u64 (e.id : Int)]
def canP (e : Et) : Bool :=
 if e.pol = true then decide (0 ≤ e.p) && decide (e.p < 7) && decide (e.s = ⟨#[]⟩) && decide (e.id = 0)
 else decide (e.p = 0) && decide (1 ≤ e.id) && decide (e.id ≤ 2147483647) && isP e.s
def bytesP (e : Et) : List UInt8 := if e.pol = true then [UInt8.ofNat (e.p.toNat + 1)] else 0 :: (encN e.id ++ encT (bs e.s))
def takeE : List UInt8 → Et × List UInt8 × Nat
 | [] => (e0, [], 3)
 | c :: r => if 7 < c.toNat then (e0, [], 4) else if 0 < c.toNat then (⟨true, (c.toNat : Int) - 1, ⟨#[]⟩, 0⟩, r, 0)
  else if (takeP r).2.2 ≠ 0 then (e0, [], (takeP r).2.2)
  else if (takeTextP (takeP r).2.1 4096).2.2 ≠ 0 then (e0, [], (takeTextP (takeP r).2.1 4096).2.2)
  else if canP ⟨false, 0, Str (takeTextP (takeP r).2.1 4096).1, (takeP r).1⟩ = true then (⟨false, 0, Str (takeTextP (takeP r).2.1 4096).1, (takeP r).1⟩, (takeTextP (takeP r).2.1 4096).2.1, 0)
  else (e0, [], 4)
theorem str_bs (s : ByteArray) : Str (bs s) = s := by cases s; simp [Str, bs]
theorem bs_str (l : List UInt8) : bs (Str l) = l := by simp [Str, bs]
theorem can_pol {e : Et} (hp : e.pol = true) (h : canP e = true) : 0 ≤ e.p ∧ e.p < 7 ∧ e.s = ⟨#[]⟩ ∧ e.id = 0 := by
 unfold canP at h
 rw [if_pos hp] at h
 simp only [Bool.and_eq_true, decide_eq_true_eq] at h
 exact ⟨h.1.1.1, h.1.1.2, h.1.2, h.2⟩
theorem can_txt {e : Et} (hp : ¬ e.pol = true) (h : canP e = true) : e.p = 0 ∧ 1 ≤ e.id ∧ e.id ≤ 2147483647 ∧ isP e.s = true := by
 unfold canP at h
 rw [if_neg hp] at h
 simp only [Bool.and_eq_true, decide_eq_true_eq] at h
 exact ⟨h.1.1.1, h.1.1.2, h.1.2, h.2⟩
theorem take_back (e : Et) (h : canP e = true) (behind : List UInt8) : takeE (bytesP e ++ behind) = (e, behind, 0) := by
 unfold bytesP
 by_cases hp : e.pol = true
 ·obtain ⟨h1, h2, h3, h4⟩ := can_pol hp h
  rw [if_pos hp]
  have hc : (UInt8.ofNat (e.p.toNat + 1)).toNat = e.p.toNat + 1 := UInt8.toNat_ofNat_of_lt' (by show _ < 256; omega)
  rw [List.cons_append, List.nil_append, takeE, hc, if_neg (by omega), if_pos (by omega)]
  obtain ⟨pol, p, s, id⟩ := e
  simp only at *
  subst hp; subst h3; subst h4
  congr 3
  omega
 ·obtain ⟨h1, h2, h3, h4⟩ := can_txt hp h
  rw [if_neg hp, List.cons_append, takeE, if_neg (by decide), if_neg (by decide)]
  have hsz := isP_size h4
  have hbl : (bs e.s).length = e.s.size := Array.length_toList
  have hT : takeP (encN e.id ++ encT (bs e.s) ++ behind) = (e.id, encT (bs e.s) ++ behind, 0) := by rw [List.append_assoc]; exact take_enc (by omega) _
  have hX : takeTextP (encT (bs e.s) ++ behind) 4096 = (bs e.s, behind, 0) := takeText_enc _ _ _ (by omega) (by omega)
  rw [hT]
  simp only [hX, ne_eq, not_true_eq_false, if_false, str_bs]
  have he : (⟨false, 0, e.s, e.id⟩ : Et) = e := by
   obtain ⟨pol, p, s, id⟩ := e
   simp only at *
   subst h1
   have : pol = false := by simpa using hp
   subst this; rfl
  rw [he, if_pos h]
theorem take_cut (e : Et) (h : canP e = true) : takeE (bytesP e).dropLast = (e0, [], 3) := by
 unfold bytesP
 by_cases hp : e.pol = true
 ·rw [if_pos hp]; rfl
 ·obtain ⟨h1, h2, h3, h4⟩ := can_txt hp h
  have hsz := isP_size h4
  have hbl : (bs e.s).length = e.s.size := Array.length_toList
  have hne : bs e.s ≠ [] := by
   intro h0
   have := isP_ne h4
   rw [← str_bs e.s, h0] at this
   exact this rfl
  have hdl : (0 :: (encN e.id ++ encT (bs e.s))).dropLast = 0 :: (encN e.id ++ (encN (bs e.s).length ++ (bs e.s).dropLast)) := by
   unfold encT
   have : (0 : UInt8) :: (encN e.id ++ (encN (bs e.s).length ++ bs e.s)) = (0 :: (encN e.id ++ encN (bs e.s).length)) ++ bs e.s := by simp
   rw [this, List.dropLast_append_of_ne_nil hne]
   simp
  rw [if_neg hp, hdl, takeE, if_neg (by decide), if_neg (by decide)]
  have hT : takeP (encN e.id ++ (encN (bs e.s).length ++ (bs e.s).dropLast)) = (e.id, encN (bs e.s).length ++ (bs e.s).dropLast, 0) := take_enc (by omega) _
  have hX : takeTextP (encN (bs e.s).length ++ (bs e.s).dropLast) 4096 = ([], [], 3) := takeText_cut _ _ (by omega) (by omega) hne
  rw [hT]
  simp only [hX, ne_eq, not_true_eq_false, if_false]
  rw [if_pos (by decide)]
theorem bytesP_ne (e : Et) : bytesP e ≠ [] := by
 unfold bytesP
 split <;> simp
theorem bytesP_len (e : Et) (h : canP e = true) : (bytesP e).length ≤ 5000 := by
 unfold bytesP
 by_cases hp : e.pol = true
 ·rw [if_pos hp]; simp
 ·obtain ⟨h1, h2, h3, h4⟩ := can_txt hp h
  have hsz := isP_size h4
  have hbl : (bs e.s).length = e.s.size := Array.length_toList
  rw [if_neg hp]
  have e1 := encN_length e.id
  have e2 := encN_length (bs e.s).length
  simp only [List.length_cons, List.length_append, encT]
  omega
end Go.Proofs.YtbpfabhlngfciaaGreatDoor.Ch
namespace Go.Proofs.YtbpfabhlngfciaaGreatDoor.Pf
open Go.ChangeShapes Go.WideShapes Go.ChangeAt Go.RowKit
open Base
theorem el8 : El Tryz.prog 50 5 (.int .u8 0) 1 1 := ⟨by kernel_rfl, by kernel_rfl, rfl, by omega⟩
theorem grw {B : Nat} {w w1 w' : World} {v : Value} {n : Nat} {xs : List Value} (hB : B ≤ w.heap.size) (ho : w.ownsRow B 5 1 v n xs) (hx : Ext w w1) (hg : w1.grownBy w' v.ownBlock) : Below B w w' :=
 Below.grown (Below.mono hx hB) hg (Nat.le_trans hB hx.size) (fun k hk => (ho.lt k hk).1)
abbrev Ow (B : Nat) (w : World) (v : Value) (l : List UInt8) : Prop := w.ownsRow B 5 1 v l.length (u8s l)
theorem clone_any (A : Option Addr) (n c : Nat) (l : List UInt8) (w : World) (hr : Rb w A l) (hl : l.length = n) (hA : A = none → c = 0) (hn : n ≤ 140737488355328) :
  Calls Tryz.prog 57 #[.slice A n c] w fun e w' => ∃ v, e = .returned v ∧ Ow w.heap.size w' v l ∧ Ext w w' := by
 cases A with
 | none =>
  have hnil : l = [] := by
   apply Classical.byContradiction
   intro h
   obtain ⟨b, off, e, _⟩ := hr (by simpa [u8s] using h)
   cases e
  subst hnil
  obtain rfl : n = 0 := by simpa using hl.symm
  obtain rfl : c = 0 := hA rfl
  have e1 : (binOp BinOp.eql 50 (.slice none 0 0) (.slice none 0 0)).run Tryz.prog w = .ok (.bool true) w := by kernel_rfl
  go_enter Tryz.func57, Tryz.ntmps57
  go_wp2_with fail
  go_ret
  exact ⟨_, rfl, World.ownsRow_nil _ _ _ _, Ext.refl w⟩
 | some a =>
  replace hA := Lib.hid hA
  have hl2 : (u8s l).length = n * 1 := by rw [u8s_length]; omega
  have hln := Lib.hid hl
  replace hl2 := Lib.hid hl2
  clear hl
  have e1 : (binOp BinOp.eql 50 (.slice (some a) n c) (.slice none 0 0)).run Tryz.prog w = .ok (.bool false) w := by kernel_rfl
  go_enter Tryz.func57, Tryz.ntmps57
  go_wp2_with (
   refine wpList_app el8 _ rfl (.tmp 5) (.tmp 6) rfl w.heap.size _ 0 [] rfl (World.ownsRow_lit w #[] 0 (Nat.le_refl _) (Nat.zero_le _) rfl) (some a) n c (u8s l) rfl (Rd.ext hr ((Ext.refl _).alloc _)) hl2.out hA.out (u8s_one l) (by omega) (by omega) (by simp) (fun V1 w1 ho1 hg1 hv1 => ?_))
  go_ret
  refine ⟨_, rfl, ?_, ?_⟩
  ·have := ho1; rw [List.nil_append, Nat.zero_add] at this; show w1.ownsRow _ _ _ _ l.length _; rw [hln.out]; exact this
  ·exact Ext.then_grown ((Ext.refl w).alloc _) hg1 (fun k hk => by
    have hk : some w.heap.size = some k := hk
    injection hk with hk
    omega)
theorem class_any (n : Nat) (hn : n < 18446744073709551616) (w : World) : Calls Tryz.prog 87 #[.int .u64 (n : Int)] w fun e w' => e = .returned (.int .i64 (cls n)) ∧ w = w' := by
 obtain ⟨r, hr⟩ : ∃ r, Hid (cls n = r) := ⟨_, Lib.hid rfl⟩
 rw [hr.out]
 by_cases h3 : 4611686018427387904 ≤ n
 ·have e : r = -1 := by rw [← hr.out, cls, if_pos h3]
  subst e
  have h3' : (4611686018427387904 : Int) ≤ (n : Int) := by omega
  clear h3 hn
  go_enter Tryz.func87, Tryz.ntmps87
  go_wp2_with fail
  go_ret
  exact ⟨rfl, rfl⟩
 have h3' : ¬ (4611686018427387904 : Int) ≤ (n : Int) := by omega
 by_cases h2 : 1073741824 ≤ n
 ·have e : r = 3 := by rw [← hr.out, cls, if_neg h3, if_pos h2]
  subst e
  have h2' : (1073741824 : Int) ≤ (n : Int) := by omega
  clear h3 hn h2
  go_enter Tryz.func87, Tryz.ntmps87
  go_wp2_with fail
  go_ret
  exact ⟨rfl, rfl⟩
 have h2' : ¬ (1073741824 : Int) ≤ (n : Int) := by omega
 by_cases h1 : 16384 ≤ n
 ·have e : r = 2 := by rw [← hr.out, cls, if_neg h3, if_neg h2, if_pos h1]
  subst e
  have h1' : (16384 : Int) ≤ (n : Int) := by omega
  clear h3 hn h2 h1
  go_enter Tryz.func87, Tryz.ntmps87
  go_wp2_with fail
  go_ret
  exact ⟨rfl, rfl⟩
 have h1' : ¬ (16384 : Int) ≤ (n : Int) := by omega
 by_cases h0 : 64 ≤ n
 ·have e : r = 1 := by rw [← hr.out, cls, if_neg h3, if_neg h2, if_neg h1, if_pos h0]
  subst e
  have h0' : (64 : Int) ≤ (n : Int) := by omega
  clear h3 hn h2 h1 h0
  go_enter Tryz.func87, Tryz.ntmps87
  go_wp2_with fail
  go_ret
  exact ⟨rfl, rfl⟩
 ·have e : r = 0 := by rw [← hr.out, cls, if_neg h3, if_neg h2, if_neg h1, if_neg h0]
  subst e
  have h0' : ¬ (64 : Int) ≤ (n : Int) := by omega
  clear h3 hn h2 h1 h0
  go_enter Tryz.func87, Tryz.ntmps87
  go_wp2_with fail
  go_ret
  exact ⟨rfl, rfl⟩
theorem ints8_one (l : List Int) : ∀ u ∈ l.map (Value.int .u8), u.oneCell' = true := by
 intro u hu
 obtain ⟨x, _, rfl⟩ := List.mem_map.1 hu
 rfl
theorem u8_be (m v : Nat) : u8s (be (m + 1) v) = .int .u8 ((v : Int) / ((256 ^ m : Nat) : Int) % 256) :: u8s (be m v) := by
 rw [be]
 simp only [u8s, List.map_cons, List.cons.injEq, Value.int.injEq, true_and, and_true]
 rw [UInt8.toNat_ofNat_of_lt' (by show _ % 256 < 256; omega)]
 rfl
theorem or_top (a b i m : Nat) (hm : m = 2 ^ i) (h : a < m) : a ||| (b * m) = a + b * m := by
 have h1 := Nat.shiftLeft_add_eq_or_of_lt (i := i) (b := a) (by omega) b
 rw [Nat.shiftLeft_eq, ← hm] at h1
 rw [Nat.or_comm, ← h1, Nat.add_comm]
theorem put_0 (B : Nat) (A : Option Addr) (m cap : Nat) (l : List UInt8) (n : Nat) (w : World) (ho : w.ownsRow B 5 1 (.slice A m cap) m (u8s l)) (hB : B ≤ w.heap.size) (hn : n < 64) (hm : m ≤ 140737488355000) :
  Calls Tryz.prog 86 #[.slice A m cap, .int .u64 (n : Int), .int .i64 0] w fun e w' => ∃ A' c', e = .returned (.slice A' (m + 1) c') ∧ w'.ownsRow B 5 1 (.slice A' (m + 1) c') (m + 1) (u8s (l ++ putP n 0)) ∧ Below B w w' := by
 obtain ⟨v, hv⟩ : ∃ v, v = n := ⟨_, rfl⟩
 have hp : putP n 0 = be 1 v := by rw [hv]; rfl
 subst hv
 have hor : bits BinOp.or IntKind.u64 (v : Int) 0 = (v : Int) := by
  rw [show (0 : Int) = ((0 : Nat) : Int) from rfl, u64_or_nat v 0 (by omega) (by decide), Nat.or_zero]
 have hrow : u8s (l ++ be 1 v) = (u8s l ++ [(v : Int) % 256].map (Value.int .u8)) := by
  rw [u8s_append, u8_be]
  simp [u8s, be]
 rw [hp, hrow]
 clear hp hrow hn
 try clear hv
 have hx0 := (Ext.refl w)
 go_enter Tryz.func86, Tryz.ntmps86
 go_wp2_with (first
  | (refine wpList_app el8 _ rfl (.tmp 52) (.tmp 55) rfl B (.slice A (m) cap) (m) (u8s l) rfl (own_ext ho ((Ext.refl w).alloc _)) (some ⟨w.heap.size, 0, none⟩) 1 1 ([(v : Int) % 256].map (Value.int .u8)) rfl (Rd.of_block w 5 (0, 0) rfl) rfl (fun h => by cases h) (ints8_one _) (by omega) (by omega) (by simp; omega) (fun V0 w0 ho0 hg0 hv0 => ?_)
     obtain ⟨A0, c0, rfl, jj1, jj2, jj3, jj4⟩ := Rd.of_own ho0
     have gr0 := grw hB ho ((Ext.refl w).alloc _) hg0
     have hz0 : B ≤ w0.heap.size := by have := gr0.size; omega
     clear jj1 jj2 jj3 jj4 hg0 hv0))
 go_ret
 exact ⟨_, _, rfl, ho0, gr0⟩
theorem put_1 (B : Nat) (A : Option Addr) (m cap : Nat) (l : List UInt8) (n : Nat) (w : World) (ho : w.ownsRow B 5 1 (.slice A m cap) m (u8s l)) (hB : B ≤ w.heap.size) (hn : n < 16384) (hm : m ≤ 140737488355000) :
  Calls Tryz.prog 86 #[.slice A m cap, .int .u64 (n : Int), .int .i64 1] w fun e w' => ∃ A' c', e = .returned (.slice A' (m + 2) c') ∧ w'.ownsRow B 5 1 (.slice A' (m + 2) c') (m + 2) (u8s (l ++ putP n 1)) ∧ Below B w w' := by
 obtain ⟨v, hv⟩ : ∃ v, v = n + 16384 := ⟨_, rfl⟩
 have hp : putP n 1 = be 2 v := by rw [hv]; rfl
 have hor : bits BinOp.or IntKind.u64 (n : Int) 16384 = (v : Int) := by
  rw [show (16384 : Int) = ((16384 : Nat) : Int) from rfl, u64_or_nat n 16384 (by omega) (by decide), show 16384 = 1 * 16384 from rfl, or_top n 1 14 16384 (by decide) (by omega), hv]
 have hrow : u8s (l ++ be 2 v) = ((u8s l ++ [(v : Int) / 256 % 256].map (Value.int .u8)) ++ [(v : Int) % 256].map (Value.int .u8)) := by
  rw [u8s_append, u8_be, u8_be]
  simp [u8s, be]
 rw [hp, hrow]
 clear hp hrow hn
 try clear hv
 have hx0 := (Ext.refl w)
 go_enter Tryz.func86, Tryz.ntmps86
 go_wp2_with (first
  | (refine wpList_app el8 _ rfl (.tmp 46) (.tmp 50) rfl B (.slice A (m) cap) (m) (u8s l) rfl (own_ext ho ((Ext.refl w).alloc _)) (some ⟨w.heap.size, 0, none⟩) 1 1 ([(v : Int) / 256 % 256].map (Value.int .u8)) rfl (Rd.of_block w 5 (0, 0) rfl) rfl (fun h => by cases h) (ints8_one _) (by omega) (by omega) (by simp; omega) (fun V0 w0 ho0 hg0 hv0 => ?_)
     obtain ⟨A0, c0, rfl, jj1, jj2, jj3, jj4⟩ := Rd.of_own ho0
     have gr0 := grw hB ho ((Ext.refl w).alloc _) hg0
     have hz0 : B ≤ w0.heap.size := by have := gr0.size; omega
     clear jj1 jj2 jj3 jj4 hg0 hv0)
  | (refine wpList_app el8 _ rfl (.tmp 52) (.tmp 55) rfl B (.slice A0 (m + 1) c0) (m + 1) ((u8s l) ++ [(v : Int) / 256 % 256].map (Value.int .u8)) rfl (own_ext ho0 ((Ext.refl w0).alloc _)) (some ⟨w0.heap.size, 0, none⟩) 1 1 ([(v : Int) % 256].map (Value.int .u8)) rfl (Rd.of_block w0 5 (0, 0) rfl) rfl (fun h => by cases h) (ints8_one _) (by omega) (by omega) (by simp; omega) (fun V1 w1 ho1 hg1 hv1 => ?_)
     obtain ⟨A1, c1, rfl, jj1, jj2, jj3, jj4⟩ := Rd.of_own ho1
     have gr1 := grw hz0 ho0 ((Ext.refl w0).alloc _) hg1
     have hz1 : B ≤ w1.heap.size := by have := gr1.size; omega
     clear jj1 jj2 jj3 jj4 hg1 hv1))
 go_ret
 exact ⟨_, _, rfl, ho1, (gr0).trans gr1⟩
theorem put_2 (B : Nat) (A : Option Addr) (m cap : Nat) (l : List UInt8) (n : Nat) (w : World) (ho : w.ownsRow B 5 1 (.slice A m cap) m (u8s l)) (hB : B ≤ w.heap.size) (hn : n < 1073741824) (hm : m ≤ 140737488355000) :
  Calls Tryz.prog 86 #[.slice A m cap, .int .u64 (n : Int), .int .i64 2] w fun e w' => ∃ A' c', e = .returned (.slice A' (m + 4) c') ∧ w'.ownsRow B 5 1 (.slice A' (m + 4) c') (m + 4) (u8s (l ++ putP n 2)) ∧ Below B w w' := by
 obtain ⟨v, hv⟩ : ∃ v, v = n + 2147483648 := ⟨_, rfl⟩
 have hp : putP n 2 = be 4 v := by rw [hv]; rfl
 have hor : bits BinOp.or IntKind.u64 (n : Int) 2147483648 = (v : Int) := by
  rw [show (2147483648 : Int) = ((2147483648 : Nat) : Int) from rfl, u64_or_nat n 2147483648 (by omega) (by decide), show 2147483648 = 2 * 1073741824 from rfl, or_top n 2 30 1073741824 (by decide) (by omega), hv]
 have hrow : u8s (l ++ be 4 v) = (((u8s l ++ [(v : Int) / 16777216 % 256, (v : Int) / 65536 % 256].map (Value.int .u8)) ++ [(v : Int) / 256 % 256].map (Value.int .u8)) ++ [(v : Int) % 256].map (Value.int .u8)) := by
  rw [u8s_append, u8_be, u8_be, u8_be, u8_be]
  simp [u8s, be]
 rw [hp, hrow]
 clear hp hrow hn
 try clear hv
 have hx0 := (Ext.refl w)
 go_enter Tryz.func86, Tryz.ntmps86
 go_wp2_with (first
  | (refine wpList_app el8 _ rfl (.tmp 37) (.tmp 44) rfl B (.slice A (m) cap) (m) (u8s l) rfl (own_ext ho ((Ext.refl w).alloc _)) (some ⟨w.heap.size, 0, none⟩) 2 2 ([(v : Int) / 16777216 % 256, (v : Int) / 65536 % 256].map (Value.int .u8)) rfl (Rd.of_block w 5 (0, 0) rfl) rfl (fun h => by cases h) (ints8_one _) (by omega) (by omega) (by simp; omega) (fun V0 w0 ho0 hg0 hv0 => ?_)
     obtain ⟨A0, c0, rfl, jj1, jj2, jj3, jj4⟩ := Rd.of_own ho0
     have gr0 := grw hB ho ((Ext.refl w).alloc _) hg0
     have hz0 : B ≤ w0.heap.size := by have := gr0.size; omega
     clear jj1 jj2 jj3 jj4 hg0 hv0)
  | (refine wpList_app el8 _ rfl (.tmp 46) (.tmp 50) rfl B (.slice A0 (m + 2) c0) (m + 2) ((u8s l) ++ [(v : Int) / 16777216 % 256, (v : Int) / 65536 % 256].map (Value.int .u8)) rfl (own_ext ho0 ((Ext.refl w0).alloc _)) (some ⟨w0.heap.size, 0, none⟩) 1 1 ([(v : Int) / 256 % 256].map (Value.int .u8)) rfl (Rd.of_block w0 5 (0, 0) rfl) rfl (fun h => by cases h) (ints8_one _) (by omega) (by omega) (by simp; omega) (fun V1 w1 ho1 hg1 hv1 => ?_)
     obtain ⟨A1, c1, rfl, jj1, jj2, jj3, jj4⟩ := Rd.of_own ho1
     have gr1 := grw hz0 ho0 ((Ext.refl w0).alloc _) hg1
     have hz1 : B ≤ w1.heap.size := by have := gr1.size; omega
     clear jj1 jj2 jj3 jj4 hg1 hv1)
  | (refine wpList_app el8 _ rfl (.tmp 52) (.tmp 55) rfl B (.slice A1 (m + 2 + 1) c1) (m + 2 + 1) (((u8s l) ++ [(v : Int) / 16777216 % 256, (v : Int) / 65536 % 256].map (Value.int .u8)) ++ [(v : Int) / 256 % 256].map (Value.int .u8)) rfl (own_ext ho1 ((Ext.refl w1).alloc _)) (some ⟨w1.heap.size, 0, none⟩) 1 1 ([(v : Int) % 256].map (Value.int .u8)) rfl (Rd.of_block w1 5 (0, 0) rfl) rfl (fun h => by cases h) (ints8_one _) (by omega) (by omega) (by simp; omega) (fun V2 w2 ho2 hg2 hv2 => ?_)
     obtain ⟨A2, c2, rfl, jj1, jj2, jj3, jj4⟩ := Rd.of_own ho2
     have gr2 := grw hz1 ho1 ((Ext.refl w1).alloc _) hg2
     have hz2 : B ≤ w2.heap.size := by have := gr2.size; omega
     clear jj1 jj2 jj3 jj4 hg2 hv2))
 go_ret
 exact ⟨_, _, rfl, ho2, ((gr0).trans gr1).trans gr2⟩
theorem put_3 (B : Nat) (A : Option Addr) (m cap : Nat) (l : List UInt8) (n : Nat) (w : World) (ho : w.ownsRow B 5 1 (.slice A m cap) m (u8s l)) (hB : B ≤ w.heap.size) (hn : n < 4611686018427387904) (hm : m ≤ 140737488355000) :
  Calls Tryz.prog 86 #[.slice A m cap, .int .u64 (n : Int), .int .i64 3] w fun e w' => ∃ A' c', e = .returned (.slice A' (m + 8) c') ∧ w'.ownsRow B 5 1 (.slice A' (m + 8) c') (m + 8) (u8s (l ++ putP n 3)) ∧ Below B w w' := by
 obtain ⟨v, hv⟩ : ∃ v, v = n + 13835058055282163712 := ⟨_, rfl⟩
 have hp : putP n 3 = be 8 v := by rw [hv]; rfl
 have hor : bits BinOp.or IntKind.u64 (n : Int) 13835058055282163712 = (v : Int) := by
  rw [show (13835058055282163712 : Int) = ((13835058055282163712 : Nat) : Int) from rfl, u64_or_nat n 13835058055282163712 (by omega) (by decide), show 13835058055282163712 = 3 * 4611686018427387904 from rfl, or_top n 3 62 4611686018427387904 (by decide) (by omega), hv]
 have hrow : u8s (l ++ be 8 v) = ((((u8s l ++ [(v : Int) / 72057594037927936 % 256, (v : Int) / 281474976710656 % 256, (v : Int) / 1099511627776 % 256, (v : Int) / 4294967296 % 256].map (Value.int .u8)) ++ [(v : Int) / 16777216 % 256, (v : Int) / 65536 % 256].map (Value.int .u8)) ++ [(v : Int) / 256 % 256].map (Value.int .u8)) ++ [(v : Int) % 256].map (Value.int .u8)) := by
  rw [u8s_append, u8_be, u8_be, u8_be, u8_be, u8_be, u8_be, u8_be, u8_be]
  simp [u8s, be]
 rw [hp, hrow]
 clear hp hrow hn
 try clear hv
 have hx0 := (Ext.refl w)
 go_enter Tryz.func86, Tryz.ntmps86
 go_wp2_with (first
  | (refine wpList_app el8 _ rfl (.tmp 22) (.tmp 35) rfl B (.slice A (m) cap) (m) (u8s l) rfl (own_ext ho ((Ext.refl w).alloc _)) (some ⟨w.heap.size, 0, none⟩) 4 4 ([(v : Int) / 72057594037927936 % 256, (v : Int) / 281474976710656 % 256, (v : Int) / 1099511627776 % 256, (v : Int) / 4294967296 % 256].map (Value.int .u8)) rfl (Rd.of_block w 5 (0, 0) rfl) rfl (fun h => by cases h) (ints8_one _) (by omega) (by omega) (by simp; omega) (fun V0 w0 ho0 hg0 hv0 => ?_)
     obtain ⟨A0, c0, rfl, jj1, jj2, jj3, jj4⟩ := Rd.of_own ho0
     have gr0 := grw hB ho ((Ext.refl w).alloc _) hg0
     have hz0 : B ≤ w0.heap.size := by have := gr0.size; omega
     clear jj1 jj2 jj3 jj4 hg0 hv0)
  | (refine wpList_app el8 _ rfl (.tmp 37) (.tmp 44) rfl B (.slice A0 (m + 4) c0) (m + 4) ((u8s l) ++ [(v : Int) / 72057594037927936 % 256, (v : Int) / 281474976710656 % 256, (v : Int) / 1099511627776 % 256, (v : Int) / 4294967296 % 256].map (Value.int .u8)) rfl (own_ext ho0 ((Ext.refl w0).alloc _)) (some ⟨w0.heap.size, 0, none⟩) 2 2 ([(v : Int) / 16777216 % 256, (v : Int) / 65536 % 256].map (Value.int .u8)) rfl (Rd.of_block w0 5 (0, 0) rfl) rfl (fun h => by cases h) (ints8_one _) (by omega) (by omega) (by simp; omega) (fun V1 w1 ho1 hg1 hv1 => ?_)
     obtain ⟨A1, c1, rfl, jj1, jj2, jj3, jj4⟩ := Rd.of_own ho1
     have gr1 := grw hz0 ho0 ((Ext.refl w0).alloc _) hg1
     have hz1 : B ≤ w1.heap.size := by have := gr1.size; omega
     clear jj1 jj2 jj3 jj4 hg1 hv1)
  | (refine wpList_app el8 _ rfl (.tmp 46) (.tmp 50) rfl B (.slice A1 (m + 4 + 2) c1) (m + 4 + 2) (((u8s l) ++ [(v : Int) / 72057594037927936 % 256, (v : Int) / 281474976710656 % 256, (v : Int) / 1099511627776 % 256, (v : Int) / 4294967296 % 256].map (Value.int .u8)) ++ [(v : Int) / 16777216 % 256, (v : Int) / 65536 % 256].map (Value.int .u8)) rfl (own_ext ho1 ((Ext.refl w1).alloc _)) (some ⟨w1.heap.size, 0, none⟩) 1 1 ([(v : Int) / 256 % 256].map (Value.int .u8)) rfl (Rd.of_block w1 5 (0, 0) rfl) rfl (fun h => by cases h) (ints8_one _) (by omega) (by omega) (by simp; omega) (fun V2 w2 ho2 hg2 hv2 => ?_)
     obtain ⟨A2, c2, rfl, jj1, jj2, jj3, jj4⟩ := Rd.of_own ho2
     have gr2 := grw hz1 ho1 ((Ext.refl w1).alloc _) hg2
     have hz2 : B ≤ w2.heap.size := by have := gr2.size; omega
     clear jj1 jj2 jj3 jj4 hg2 hv2)
  | (refine wpList_app el8 _ rfl (.tmp 52) (.tmp 55) rfl B (.slice A2 (m + 4 + 2 + 1) c2) (m + 4 + 2 + 1) ((((u8s l) ++ [(v : Int) / 72057594037927936 % 256, (v : Int) / 281474976710656 % 256, (v : Int) / 1099511627776 % 256, (v : Int) / 4294967296 % 256].map (Value.int .u8)) ++ [(v : Int) / 16777216 % 256, (v : Int) / 65536 % 256].map (Value.int .u8)) ++ [(v : Int) / 256 % 256].map (Value.int .u8)) rfl (own_ext ho2 ((Ext.refl w2).alloc _)) (some ⟨w2.heap.size, 0, none⟩) 1 1 ([(v : Int) % 256].map (Value.int .u8)) rfl (Rd.of_block w2 5 (0, 0) rfl) rfl (fun h => by cases h) (ints8_one _) (by omega) (by omega) (by simp; omega) (fun V3 w3 ho3 hg3 hv3 => ?_)
     obtain ⟨A3, c3, rfl, jj1, jj2, jj3, jj4⟩ := Rd.of_own ho3
     have gr3 := grw hz2 ho2 ((Ext.refl w2).alloc _) hg3
     have hz3 : B ≤ w3.heap.size := by have := gr3.size; omega
     clear jj1 jj2 jj3 jj4 hg3 hv3))
 go_ret
 exact ⟨_, _, rfl, ho3, (((gr0).trans gr1).trans gr2).trans gr3⟩
end Go.Proofs.YtbpfabhlngfciaaGreatDoor.Pf
namespace Go.Proofs.YtbpfabhlngfciaaGreatDoor.Base
open Go.ChangeShapes Go.WideShapes Go.ChangeAt Go.RowKit
def cutA (A : Option Addr) (c l : Nat) : Option Addr := if c = l then A else A.map (·.add l)
theorem cutA_block {A : Option Addr} {c l : Nat} {a : Addr} (h : cutA A c l = some a) : ∃ a0, A = some a0 ∧ a.block = a0.block := by
 unfold cutA at h
 split at h
 ·exact ⟨a, h, rfl⟩
 ·cases A with
  | none => cases h
  | some a0 =>
   simp only [Option.map_some, Option.some.injEq] at h
   refine ⟨a0, rfl, ?_⟩
   rw [← h]; unfold Addr.add; split <;> rfl
theorem cutA_none {A : Option Addr} {c l : Nat} (hA : A = none → c = 0) (h : cutA A c l = none) : c - l = 0 := by
 unfold cutA at h
 split at h
 ·omega
 ·cases A with
  | none => have := hA rfl; omega
  | some a0 => cases h
theorem Rd.cut {w : World} {A : Option Addr} {L : List Value} (h : Rd w A L) {c l k : Nat} (hl : l ≤ k) (hk : k ≤ c) : Rd w (cutA A c l) ((L.take k).drop l) := by
 intro hne
 have hlen : l < (L.take k).length := by
  rcases Nat.lt_or_ge l (L.take k).length with x | x
  ·exact x
  ·exact absurd (List.drop_eq_nil_of_le x) hne
 have hL : L ≠ [] := by rintro rfl; simp at hlen
 obtain ⟨b, off, rfl, hc⟩ := h hL
 have hlk : l < k := by rw [List.length_take] at hlen; omega
 refine ⟨b, off + l, ?_, fun j u hj => ?_⟩
 ·unfold cutA
  rw [if_neg (by omega)]
  simp only [Option.map_some]
  congr 1
  unfold Addr.add; split <;> simp_all
 ·rw [List.getElem?_drop, List.getElem?_take] at hj
  split at hj
  ·rw [Nat.add_assoc]; exact hc _ u hj
  ·cases hj
theorem Rb.cut {w : World} {A : Option Addr} {L : List UInt8} (h : Rb w A L) {c l k : Nat} (hl : l ≤ k) (hk : k ≤ c) : Rb w (cutA A c l) ((L.take k).drop l) := by
 have := Rd.cut h hl hk
 rwa [u8s, ← List.map_take, ← List.map_drop] at this
theorem run_cut {P : Program} {t e : TypeId} (ht : P.underlying t = some (.slice e)) (he : (P.info? e).map (·.size) = some 1) (w : World) (A : Option Addr) (n c l k : Nat) (lo hi : Option Value)
  (hlo : lo = some (.int .i64 (l : Int)) ∨ lo = none ∧ l = 0) (hhi : hi = some (.int .i64 (k : Int)) ∨ hi = none ∧ k = n) (hl : l ≤ k) (hk : k ≤ c) (hn : hi = none → n ≤ c) :
  (Instr.slice t (.slice A n c) lo hi none).run P w = .ok (.slice (cutA A c l) (k - l) (c - l)) w := by
 have h1 : (0 : Int) ≤ (l : Int) ∧ (l : Int) ≤ (k : Int) := by omega
 have h2 : (0 : Int) ≤ (k : Int) ∧ (k : Int) ≤ (c : Int) := by omega
 cases hq : P.info? e with
 | none => simp [hq] at he
 | some i =>
  have hi1 : i.size = 1 := by simpa [hq] using he
  rcases hlo with rfl | ⟨rfl, rfl⟩ <;> rcases hhi with rfl | ⟨rfl, rfl⟩ <;>
   simp [Instr.slice, Instr.sliceBounds, Instr.sliceBound, run_underlying ht, asIntOf, h1, h2, sizeOf, typeInfo, hq, hi1, cutA, go_sem] <;>
   (try rw [if_pos hk, if_pos hl]) <;> (try (intro h; omega))
theorem run_cutAt {P : Program} {t e : TypeId} (ht : P.underlying t = some (.slice e)) (he : (P.info? e).map (·.size) = some 1) (w : World) (A : Option Addr) (n c l k : Nat) (lo hi : Option Value)
  (hlo : lo = some (.int .i64 (l : Int)) ∨ lo = none ∧ l = 0) (hhi : hi = some (.int .i64 (k : Int)) ∨ hi = none ∧ k = n) (hl : l ≤ k) (hk : k ≤ c) (hn : hi = none → n ≤ c) :
  (Instr.sliceAt t (.slice A n c) lo hi none).run P w = .ok (.slice (cutA A c l) (k - l) (c - l)) w := by
 rw [← run_cut ht he w A n c l k lo hi hlo hhi hl hk hn]
 simp [Instr.sliceAt, run_underlying ht]
theorem wpList_cut {P : Program} {ops : Array Oper} {rest : List Oper} {op : Oper} {a : Act} {w : World} {Q : Exit → Act → World → Prop} (hgd : op.guard = none) (t : TypeId) (x : Operand) (lo hi : Option Operand) (ho : op.op = .slice t x lo hi none) (vx v : Value) (vlo vhi : Option Value) (hx : a.eval x = vx) (hlo : lo.map a.eval = vlo) (hhi : hi.map a.eval = vhi)
  (hrun : (Instr.sliceAt t vx vlo vhi none).run P w = .ok v w) (h : wpList P ops Q rest (a.put op.dst v) w) : wpList P ops Q (op :: rest) a w :=
 wpList_plain hgd fun _ hK => by
  unfold Oper.wp execOp
  simp only [ho, hx, hlo, hhi, Option.map_none, Sem.run_bind, Sem.run_pure, Result.andThen_ok, hrun]
  exact hK _ _ h
end Go.Proofs.YtbpfabhlngfciaaGreatDoor.Base
namespace Go.Proofs.YtbpfabhlngfciaaGreatDoor.Pf
open Go.ChangeShapes Go.WideShapes Go.ChangeAt Go.RowKit
open Base
theorem own_shape {B : Nat} {w : World} {v : Value} {l : List UInt8} (h : Ow B w v l) : ∃ A c, v = .slice A l.length c := by
 obtain ⟨A, c, e, _⟩ := Rd.of_own h
 exact ⟨A, c, e⟩
theorem put_any (B : Nat) (v : Value) (l : List UInt8) (n : Nat) (w : World) (ho : Ow B w v l) (hB : B ≤ w.heap.size) (hn : n < 4611686018427387904) (hm : l.length ≤ 140737488355000) :
  Calls Tryz.prog 86 #[v, .int .u64 (n : Int), .int .i64 (cls n)] w fun e w' => ∃ v', e = .returned v' ∧ Ow B w' v' (l ++ encN n) ∧ Below B w w' := by
 obtain ⟨A, c, rfl⟩ := own_shape ho
 obtain ⟨k, hk, hc⟩ := cls_k hn
 have hlt := cls_lt hk hc
 have he : encN n = putP n k := by unfold encN; rw [hc]; rfl
 have hlen : (l ++ encN n).length = l.length + 2 ^ k := by rw [List.length_append, he, putP, be_length]
 unfold Ow
 rw [hlen, he, hc]
 have h4 : k = 0 ∨ k = 1 ∨ k = 2 ∨ k = 3 := by omega
 rcases h4 with rfl | rfl | rfl | rfl
 ·exact (put_0 B A _ c l n w ho hB (by simpa using hlt) hm).mono fun e w' ⟨A', c', h1, h2, h3⟩ => ⟨_, h1, h2, h3⟩
 ·exact (put_1 B A _ c l n w ho hB (by simpa using hlt) hm).mono fun e w' ⟨A', c', h1, h2, h3⟩ => ⟨_, h1, h2, h3⟩
 ·exact (put_2 B A _ c l n w ho hB (by simpa using hlt) hm).mono fun e w' ⟨A', c', h1, h2, h3⟩ => ⟨_, h1, h2, h3⟩
 ·exact (put_3 B A _ c l n w ho hB (by simpa using hlt) hm).mono fun e w' ⟨A', c', h1, h2, h3⟩ => ⟨_, h1, h2, h3⟩
theorem Put_any (A : Option Addr) (m c : Nat) (l : List UInt8) (n : Nat) (w : World) (hr : Rb w A l) (hl : l.length = m) (hA : A = none → c = 0) (hm : m ≤ 140737488355000) (hn : n < 18446744073709551616) :
  Calls Tryz.prog 90 #[.slice A m c, .int .u64 (n : Int)] w fun e w' => ∃ v', e = .returned (.tuple #[v', .int .i64 (if n < 4611686018427387904 then 0 else 1)]) ∧ Ow w.heap.size w' v' (if n < 4611686018427387904 then l ++ encN n else l) ∧ Ext w w' := by
 have hcl := clone_any A m c l w hr hl hA (by omega)
 have hcs := fun W => class_any n hn W
 by_cases h : n < 4611686018427387904
 ·simp only [if_pos h]
  obtain ⟨k, hk, hc⟩ := cls_k h
  have hk0 : ¬ (cls n) < 0 := by rw [hc]; omega
  have hput := fun v W ho hB => put_any w.heap.size v l n W ho hB h (by omega)
  obtain ⟨K, hK⟩ : ∃ z, Hid (cls n = z) := ⟨_, rfl⟩
  rw [hK.out] at hk0
  simp only [hK.out] at hcs hput
  obtain ⟨E, hE⟩ : ∃ z, Hid (l ++ encN n = z) := ⟨_, Lib.hid rfl⟩
  simp only [hE.out] at hput
  rw [hE.out]
  replace hput := Lib.hid hput
  clear hc h
  go_enter Tryz.func90, Tryz.ntmps90
  go_wp2_with fail
  refine hcl.mono ?_
  rintro e w1 ⟨v1, rfl, ho1, hx1⟩
  have hcs1 := hcs w1
  have hput1 := hput.out v1 w1 ho1 hx1.size
  clear hcl hcs hput
  go_wp2_with fail
  refine hcs1.mono ?_
  rintro e w2 ⟨rfl, hw2⟩
  subst hw2
  clear hcs1
  go_wp2_with fail
  refine hput1.mono ?_
  rintro e w3 ⟨v3, rfl, ho3, hg3⟩
  clear hput1
  go_wp2_with fail
  go_ret2
  exact ⟨_, rfl, ho3, Below.trans hx1 hg3⟩
 ·simp only [if_neg h]
  have hc : cls n = -1 := by unfold cls; rw [if_pos (by omega)]
  simp only [hc] at hcs
  clear h hc
  go_enter Tryz.func90, Tryz.ntmps90
  go_wp2_with fail
  refine hcl.mono ?_
  rintro e w1 ⟨v1, rfl, ho1, hx1⟩
  have hcs1 := hcs w1
  clear hcl hcs
  go_wp2_with fail
  refine hcs1.mono ?_
  rintro e w2 ⟨rfl, hw2⟩
  subst hw2
  clear hcs1
  go_wp2_with fail
  go_ret2
  exact ⟨_, rfl, ho1, hx1⟩
theorem str_u8s (s : ByteArray) : Lib.strCells s = u8s s.data.toList := by simp [Lib.strCells, u8s]
theorem text_any (B : Nat) (v : Value) (l : List UInt8) (s : ByteArray) (w : World) (ho : Ow B w v l) (hB : B ≤ w.heap.size) (hm : l.length + s.size ≤ 140737488350000) :
  Calls Tryz.prog 88 #[v, .string s] w fun e w' => ∃ v', e = .returned v' ∧ Ow B w' v' (l ++ encT s.data.toList) ∧ Below B w w' := by
 have hss : s.data.toList.length = s.size := Array.length_toList
 have hcs := fun W => class_any s.size (by omega) W
 have hput := put_any B v l s.size w ho hB (by omega) (by omega)
 obtain ⟨K, hK⟩ : ∃ z, Hid (cls s.size = z) := ⟨_, rfl⟩
 rw [hK.out] at hput
 simp only [hK.out] at hcs
 have henc : encT s.data.toList = encN s.size ++ s.data.toList := by unfold encT; rw [hss]
 have hel : (encN s.size).length ≤ 8 := by rcases encN_length s.size with h | h; exact h; omega
 rw [henc, ← List.append_assoc]
 obtain ⟨E, hE⟩ : ∃ z, Hid (l ++ encN s.size = z) := ⟨_, Lib.hid rfl⟩
 have hEl : E.length ≤ l.length + 8 := by rw [← hE.out, List.length_append]; omega
 rw [hE.out] at hput ⊢
 obtain ⟨i, hi, hz, hs, hby⟩ := info_parts el8.info
 replace hss := Lib.hid hss
 have hcs1 := hcs w
 clear henc hel hcs ho
 go_enter Tryz.func88, Tryz.ntmps88
 go_wp2_with fail
 refine hcs1.mono ?_
 rintro e w1 ⟨rfl, hw1⟩
 subst hw1
 clear hcs1
 go_wp2_with fail
 refine hput.mono ?_
 rintro e w2 ⟨v2, rfl, ho2, hg2⟩
 have hB2 : B ≤ w2.heap.size := by have := hg2.size; omega
 obtain ⟨N2, hN2⟩ : ∃ z, Hid (E.length = z) := ⟨_, rfl⟩
 have ho2' : w2.ownsRow B 5 1 v2 N2 (u8s E) := by rw [← hN2.out]; exact ho2
 have hN2b : N2 ≤ l.length + 8 := by rw [← hN2.out]; exact hEl
 obtain ⟨A2, cap2, rfl, jj1, jj2, jj3, jj4⟩ := Rd.of_own ho2'
 clear jj1 jj2 jj3 jj4 hput ho2 hEl
 go_wp2_with (
  refine Lib.wpList_append_own_string _ rfl (.tmp 13) (.tmp 14) 50 9 rfl B 5 i el8.under Tryz.underlying9 hi hz hs hby (.slice A2 N2 cap2) N2 (u8s E) rfl ho2' s rfl (by unfold maxLen; omega) (by omega) hB2 (fun V3 w3 ho3 hg3 hv3 => ?_))
 go_ret
 refine ⟨V3, rfl, ?_, hg2.trans (grw hB2 ho2' (Ext.refl _) hg3)⟩
 rw [str_u8s, ← u8s_append] at ho3
 unfold Ow
 rw [List.length_append, hss.out, hN2.out]
 exact ho3
theorem PutText_any (A : Option Addr) (m c : Nat) (l : List UInt8) (s : ByteArray) (w : World) (hr : Rb w A l) (hl : l.length = m) (hA : A = none → c = 0) (hm : m + s.size ≤ 140737488350000) :
  Calls Tryz.prog 91 #[.slice A m c, .string s] w fun e w' => ∃ v', e = .returned v' ∧ Ow w.heap.size w' v' (l ++ encT s.data.toList) ∧ Ext w w' := by
 have hcl := clone_any A m c l w hr hl hA (by omega)
 have htx := fun v W ho hB => text_any w.heap.size v l s W ho hB (by omega)
 obtain ⟨E, hE⟩ : ∃ z, Hid (l ++ encT s.data.toList = z) := ⟨_, Lib.hid rfl⟩
 simp only [hE.out] at htx
 rw [hE.out]
 replace htx := Lib.hid htx
 clear hl hr
 go_enter Tryz.func91, Tryz.ntmps91
 go_wp2_with fail
 refine hcl.mono ?_
 rintro e w1 ⟨v1, rfl, ho1, hx1⟩
 have ht1 := htx.out v1 w1 ho1 hx1.size
 clear hcl htx
 go_wp2_with fail
 refine ht1.mono ?_
 rintro e w2 ⟨v2, rfl, ho2, hg2⟩
 go_wp2_with fail
 go_ret
 exact ⟨_, rfl, ho2, Below.trans hx1 hg2⟩
def TkV (w : World) (r : Nat × List UInt8 × Nat) (e : Ending) (w' : World) : Prop := ∃ A' c', e = .returned (.tuple #[.int .u64 (r.1 : Int), .slice A' r.2.1.length c', .int .i64 (r.2.2 : Int)]) ∧ Rb w' A' r.2.1 ∧ (A' = none → c' = 0) ∧ r.2.1.length ≤ c' ∧ c' ≤ maxLen ∧ Ext w w'
theorem TkV.no {w w' : World} (n : Nat) (h : Ext w w') : TkV w (0, [], n) (.returned (.tuple #[.int .u64 0, .slice none 0 0, .int .i64 (n : Int)])) w' := ⟨none, 0, rfl, Rd.nil _ _, fun _ => rfl, Nat.le_refl _, by unfold maxLen; omega, h⟩
theorem numB_snoc : ∀ (l : List UInt8) (a : Nat) (c : UInt8), numB a (l ++ [c]) = numB a l * 256 + c.toNat
 | [], a, c => rfl
 | x :: l, a, c => by rw [List.cons_append, numB, numB_snoc l, numB]
theorem numB_lt : ∀ (l : List UInt8) (a : Nat), numB a l < (a + 1) * 256 ^ l.length
 | [], a => by simp [numB]
 | x :: l, a => by
  have h := numB_lt l (a * 256 + x.toNat)
  have hx := x.toNat_lt
  rw [numB, List.length_cons, Nat.pow_succ]
  refine Nat.lt_of_lt_of_le h ?_
  rw [Nat.mul_comm (256 ^ l.length) 256, ← Nat.mul_assoc]
  exact Nat.mul_le_mul_right _ (by omega)
theorem or_byte (x y : Nat) (hx : x < 18014398509481984) (hy : y < 256) : bits BinOp.or IntKind.u64 ((x : Int) * 256) (y : Int) = ((x * 256 + y : Nat) : Int) := by
 rw [show (x : Int) * 256 = ((x * 256 : Nat) : Int) by omega, u64_or_nat _ _ (by omega) (by omega), Nat.or_comm, or_top y x 8 256 rfl hy]
 congr 1; omega
theorem and63 (x : UInt8) : bits BinOp.and IntKind.u8 (x.toNat : Int) 63 = ((x.toNat % 64 : Nat) : Int) := by
 have hx := x.toNat_lt
 rw [show (63 : Int) = ((63 : Nat) : Int) from rfl, u8_and_nat _ _ hx (by decide), show (63 : Nat) = 2 ^ 6 - 1 from rfl, Nat.and_two_pow_sub_one_eq_mod]
theorem take_k0 (A : Option Addr) (m c : Nat) (x : UInt8) (r : List UInt8) (w : World) (hr : Rb w A (x :: r)) (hl : (x :: r).length = m) (hA : A = none → c = 0) (hmc : m ≤ c) (hc : c ≤ maxLen) (hk : x.toNat / 64 = 0) :
  Calls Tryz.prog 92 #[.slice A m c] w fun e w' => TkV w (takeP (x :: r)) e w' := by
 have hx := x.toNat_lt
 obtain ⟨R, hR⟩ : ∃ z, Hid (takeP (x :: r) = z) := ⟨_, Lib.hid rfl⟩
 have hRd := hR.out
 rw [takeP, hk, hl] at hRd
 rw [hR.out]
 obtain ⟨b, off, rfl, hc0⟩ := hr.at_ (k := 0) (by simp)
 rw [show off + 0 = off from rfl] at hc0
 replace hc0 : w.cell? ⟨b, off, none⟩ = some (.int .u8 (x.toNat : Int)) := hc0
 have hm0 : 0 < m := by rw [← hl]; simp
 have hm0' : ((m : Int) == 0) = false := by simp; omega
 have hkI : (x.toNat : Int) / 64 = 0 := by omega
 have h63 := and63 x
 obtain ⟨a0, ha0⟩ : ∃ z, Hid (x.toNat % 64 = z) := ⟨_, rfl⟩
 have ha64 : a0 < 64 := by rw [← ha0.out]; omega
 rw [ha0.out] at h63 hRd
 unfold maxLen at hc
 obtain ⟨PO, hPO⟩ : ∃ PO : Ending → World → Prop, Hid ((fun e w' => TkV w R e w') = PO) := ⟨_, Lib.hid rfl⟩
 rw [hPO.out]
 by_cases hlt : m < 1
 ·have hltI : (m : Int) < 1 := by omega
  rw [if_pos (by simpa using hlt)] at hRd
  have hfin := TkV.no 3 (Ext.refl w)
  rw [hRd] at hfin
  have hfin2 : PO (.returned (.tuple #[.int .u64 0, .slice none 0 0, .int .i64 3])) w := by rw [← hPO.out]; exact hfin
  clear hfin hRd hR hPO h63
  go_enter Tryz.func92, Tryz.ntmps92
  go_wp2_with fail
  refine bodyPost_ret (results_tmp3 rfl _ _ _) rfl ?_
  exact hfin2
 ·have hltI : ¬ (m : Int) < 1 := by omega
  rw [if_neg (by simpa using hlt)] at hRd
  simp only [Nat.reducePow, Nat.reduceSub] at hRd
  have hrl : 0 ≤ r.length := by rw [List.length_cons] at hl; omega
  have hrc : Rb w (cutA (some ⟨b, off, none⟩) c 1) (((x :: r).take 1).drop 1) := Rb.cut hr (by omega) (by omega)
  have hte : ((x :: r).take 1).drop 1 = r.take 0 := by simp
  rw [hte] at hrc
  have hrt : (r.take 0).length = 0 := by rw [List.length_take]; omega
  obtain ⟨T, hT⟩ : ∃ z, Hid (r.take 0 = z) := ⟨_, Lib.hid rfl⟩
  rw [hT.out] at hrc hRd hrt
  obtain ⟨Nn, hN⟩ : ∃ z, Hid (numB a0 T = z) := ⟨_, Lib.hid rfl⟩
  have hNlt : Nn < 4611686018427387904 := by
   have := numB_lt T a0
   rw [hN.out, hrt] at this
   simp only [Nat.reducePow] at this
   omega
  rw [hN.out] at hRd
  have hcls := fun W => class_any Nn (by omega) W
  obtain ⟨A1, hA1⟩ : ∃ z, Hid (cutA (some ⟨b, off, none⟩) c 1 = z) := ⟨_, Lib.hid rfl⟩
  have hcut := run_cutAt (P := Tryz.prog) (t := 50) (e := 5) Tryz.underlying50 (by kernel_rfl) w (some ⟨b, off, none⟩) m c 1 1 (some (.int .i64 (1 : Int))) (some (.int .i64 (1 : Int))) (.inl rfl) (.inl rfl) (by omega) (by omega) (fun h => by cases h)
  have hcut2 := fun W => run_cutAt (P := Tryz.prog) (t := 50) (e := 5) Tryz.underlying50 (by kernel_rfl) W (some ⟨b, off, none⟩) m c 1 m (some (.int .i64 (1 : Int))) none (.inl rfl) (.inr ⟨rfl, rfl⟩) (by omega) (by omega) (fun _ => hmc)
  replace hcut := Lib.hid hcut
  rw [hA1.out] at hrc
  replace hcut : (Instr.sliceAt 50 (.slice (some ⟨b, off, none⟩) m c) (some (.int .i64 1)) (some (.int .i64 1)) none).run Tryz.prog w = .ok (.slice A1 0 (c - 1)) w := by rw [← hA1.out]; exact hcut.out
  have hrest : Rb w (cutA (some ⟨b, off, none⟩) c 1) (((x :: r).take m).drop 1) := Rb.cut hr (by omega) (by omega)
  rw [List.take_of_length_le (by omega)] at hrest
  obtain ⟨A2, hA2⟩ : ∃ z, Hid (cutA (some ⟨b, off, none⟩) c 1 = z) := ⟨_, Lib.hid rfl⟩
  have hA2n : A2 = none → c - 1 = 0 := fun h => cutA_none (A := some ⟨b, off, none⟩) (fun e => by cases e) (hA2.out.trans h)
  rw [hA2.out] at hrest
  simp only [hA2.out] at hcut2
  obtain ⟨L2, hL2⟩ : ∃ z, Hid ((x :: r).drop 1 = z) := ⟨_, Lib.hid rfl⟩
  have hL2l : L2.length = m - 1 := by rw [← hL2.out, List.length_drop, hl]
  rw [hL2.out] at hRd hrest
  have hbyte : ∀ (i : Nat), i < 0 → ∃ y : UInt8, T[i]? = some y := fun i hi => ⟨_, List.getElem?_eq_getElem (by omega)⟩
  have hrc' : ∀ (i : Nat) (y : UInt8), T[i]? = some y → ∃ b1 o1, A1 = some ⟨b1, o1, none⟩ ∧ w.cell? ⟨b1, o1 + i, none⟩ = some (.int .u8 (y.toNat : Int)) := fun i y hy => by
   obtain ⟨hi, e⟩ := List.getElem?_eq_some_iff.1 hy
   obtain ⟨b1, o1, e1, e2⟩ := hrc.at_ hi
   exact ⟨b1, o1, e1, by rw [e2, e]⟩
  replace hRd := Lib.hid hRd
  replace hrc' := Lib.hid hrc'
  replace hbyte := Lib.hid hbyte
  replace hA2n := Lib.hid hA2n
  replace hcls := Lib.hid hcls
  replace hL2l := Lib.hid hL2l
  replace hrt := Lib.hid hrt
  clear hR hte hrc hr hl hA hT
  go_enter Tryz.func92, Tryz.ntmps92
  go_wp2_with (refine wpList_cut rfl 50 (.tmp 29) (some (.const (.int .i64 1))) (some (.tmp 30)) rfl _ _ _ _ rfl rfl rfl hcut ?_)
  go_loopw [7, 9, 33] (fun v7 v9 v33 wr => ∃ i : Nat, i ≤ 0 ∧ v33 = .int .i64 i ∧ wr = w ∧ ∃ y : Nat, v7 = .int .u64 (y : Int) ∧ Hid (numB a0 (T.take i) = y) ∧ y < 64 * 256 ^ i) (fun _ _ v33 _ => 0 - (intOf v33).toNat)
  case atStart => exact ⟨0, by omega, rfl, rfl, a0, rfl, Lib.hid (by simp [numB]), by omega⟩
  case round =>
   obtain ⟨i, hi, rfl, rfl, y, rfl, hy, hyl⟩ := hrel
   by_cases hin : i < 0
   ·obtain ⟨z, hz⟩ := hbyte.out i hin
    obtain ⟨b1, o1, e1, hcz⟩ := hrc'.out i z hz
    subst e1
    have hzl := z.toNat_lt
    have hpw : 256 ^ i ≤ 256 ^ 6 := Nat.pow_le_pow_right (by omega) (by omega)
    have hy54 : y < 18014398509481984 := by
     simp only [Nat.reducePow] at hpw
     omega
    have hor := or_byte y z.toNat hy54 hzl
    have hyn : numB a0 (T.take (i + 1)) = y * 256 + z.toNat := by rw [List.take_add_one, hz, ← hy.out]; exact numB_snoc _ _ _
    have hyb : y * 256 + z.toNat < 64 * 256 ^ (i + 1) := by
     rw [Nat.pow_succ]
     generalize 256 ^ i = p at hyl
     omega
    have hin' : (i : Int) < 0 := by omega
    have hshl : (y : Int) * 256 % 18446744073709551616 = (y : Int) * 256 := by omega
    obtain ⟨y2, hy2⟩ : ∃ z2, Hid (y * 256 + z.toNat = z2) := ⟨_, rfl⟩
    rw [hy2.out] at hor hyn hyb
    replace hyn := Lib.hid hyn
    clear hz hy hyl hpw hrc' hbyte
    go_wp2_with fail
    go_roundw
    case rel => exact ⟨i + 1, by omega, by go_num, trivial, y2, rfl, hyn, hyb⟩
    case measure => simp [intOf]; omega
   ·obtain rfl : i = 0 := by omega
    have hyN : y = Nn := by rw [← hy.out, List.take_of_length_le (by have := hrt.out; omega), hN.out]
    subst hyN
    have hcl := hcls.out wr
    obtain ⟨K, hK⟩ : ∃ z, Hid (cls y = z) := ⟨_, rfl⟩
    rw [hK.out] at hcl
    have hRd2 := hRd.out
    rw [hK.out] at hRd2
    clear hy hcls hrc' hbyte hyl
    by_cases hck : K = 0
    ·rw [if_neg (by rw [hck]; simp)] at hRd2
     have hkb : ((K : Int) != 0) = false := by simp [hck]
     have hp : ∀ W, Ext wr W → PO (.returned (.tuple #[.int .u64 (y : Int), .slice A2 (m - 1) (c - 1), .int .i64 0])) W := fun W hW => by
      rw [← hPO.out, ← hRd2]
      refine ⟨A2, c - 1, ?_, hrest.ext hW, hA2n.out, ?_, ?_, hW⟩
      ·show _ = Ending.returned (.tuple #[.int .u64 (y : Int), .slice A2 L2.length (c - 1), .int .i64 0]); rw [hL2l.out]
      ·show L2.length ≤ _; rw [hL2l.out]; omega
      ·unfold maxLen; omega
     clear hrest hRd hRd2 hPO
     go_wp2_with fail
     refine hcl.mono ?_
     rintro e w1 ⟨rfl, hw1⟩
     have hw1 := hw1.symm
     subst hw1
     go_wp2_with fail
     refine Reg.startE (by kernel_rfl) ?_
     iterate 7 ((first | refine Reg.tn ?_ | refine Reg.sn ?_); (try simp only [Reg.nn]))
     refine Reg.fin (by kernel_rfl) (fun W hW => ?_)
     have hp2 := hp W hW
     go_wp2_with fail
     refine bodyPost_ret (results_tmp3 rfl _ _ _) rfl ?_
     exact hp2
    ·rw [if_pos (by intro e; exact hck e)] at hRd2
     have hkb : ((K : Int) != 0) = true := by simpa using hck
     have hp : PO (.returned (.tuple #[.int .u64 0, .slice none 0 0, .int .i64 4])) wr := by
      rw [← hPO.out, ← hRd2]
      exact TkV.no 4 (Ext.refl wr)
     clear hrest hRd hRd2 hPO
     go_wp2_with fail
     refine hcl.mono ?_
     rintro e w1 ⟨rfl, hw1⟩
     have hw1 := hw1.symm
     subst hw1
     go_wp2_with fail
     refine bodyPost_ret (results_tmp3 rfl _ _ _) rfl ?_
     exact hp
theorem take_k1 (A : Option Addr) (m c : Nat) (x : UInt8) (r : List UInt8) (w : World) (hr : Rb w A (x :: r)) (hl : (x :: r).length = m) (hA : A = none → c = 0) (hmc : m ≤ c) (hc : c ≤ maxLen) (hk : x.toNat / 64 = 1) :
  Calls Tryz.prog 92 #[.slice A m c] w fun e w' => TkV w (takeP (x :: r)) e w' := by
 have hx := x.toNat_lt
 obtain ⟨R, hR⟩ : ∃ z, Hid (takeP (x :: r) = z) := ⟨_, Lib.hid rfl⟩
 have hRd := hR.out
 rw [takeP, hk, hl] at hRd
 rw [hR.out]
 obtain ⟨b, off, rfl, hc0⟩ := hr.at_ (k := 0) (by simp)
 rw [show off + 0 = off from rfl] at hc0
 replace hc0 : w.cell? ⟨b, off, none⟩ = some (.int .u8 (x.toNat : Int)) := hc0
 have hm0 : 0 < m := by rw [← hl]; simp
 have hm0' : ((m : Int) == 0) = false := by simp; omega
 have hkI : (x.toNat : Int) / 64 = 1 := by omega
 have h63 := and63 x
 obtain ⟨a0, ha0⟩ : ∃ z, Hid (x.toNat % 64 = z) := ⟨_, rfl⟩
 have ha64 : a0 < 64 := by rw [← ha0.out]; omega
 rw [ha0.out] at h63 hRd
 unfold maxLen at hc
 obtain ⟨PO, hPO⟩ : ∃ PO : Ending → World → Prop, Hid ((fun e w' => TkV w R e w') = PO) := ⟨_, Lib.hid rfl⟩
 rw [hPO.out]
 by_cases hlt : m < 2
 ·have hltI : (m : Int) < 2 := by omega
  rw [if_pos (by simpa using hlt)] at hRd
  have hfin := TkV.no 3 (Ext.refl w)
  rw [hRd] at hfin
  have hfin2 : PO (.returned (.tuple #[.int .u64 0, .slice none 0 0, .int .i64 3])) w := by rw [← hPO.out]; exact hfin
  clear hfin hRd hR hPO h63
  go_enter Tryz.func92, Tryz.ntmps92
  go_wp2_with fail
  refine bodyPost_ret (results_tmp3 rfl _ _ _) rfl ?_
  exact hfin2
 ·have hltI : ¬ (m : Int) < 2 := by omega
  rw [if_neg (by simpa using hlt)] at hRd
  simp only [Nat.reducePow, Nat.reduceSub] at hRd
  have hrl : 1 ≤ r.length := by rw [List.length_cons] at hl; omega
  have hrc : Rb w (cutA (some ⟨b, off, none⟩) c 1) (((x :: r).take 2).drop 1) := Rb.cut hr (by omega) (by omega)
  have hte : ((x :: r).take 2).drop 1 = r.take 1 := by simp
  rw [hte] at hrc
  have hrt : (r.take 1).length = 1 := by rw [List.length_take]; omega
  obtain ⟨T, hT⟩ : ∃ z, Hid (r.take 1 = z) := ⟨_, Lib.hid rfl⟩
  rw [hT.out] at hrc hRd hrt
  obtain ⟨Nn, hN⟩ : ∃ z, Hid (numB a0 T = z) := ⟨_, Lib.hid rfl⟩
  have hNlt : Nn < 4611686018427387904 := by
   have := numB_lt T a0
   rw [hN.out, hrt] at this
   simp only [Nat.reducePow] at this
   omega
  rw [hN.out] at hRd
  have hcls := fun W => class_any Nn (by omega) W
  obtain ⟨A1, hA1⟩ : ∃ z, Hid (cutA (some ⟨b, off, none⟩) c 1 = z) := ⟨_, Lib.hid rfl⟩
  have hcut := run_cutAt (P := Tryz.prog) (t := 50) (e := 5) Tryz.underlying50 (by kernel_rfl) w (some ⟨b, off, none⟩) m c 1 2 (some (.int .i64 (1 : Int))) (some (.int .i64 (2 : Int))) (.inl rfl) (.inl rfl) (by omega) (by omega) (fun h => by cases h)
  have hcut2 := fun W => run_cutAt (P := Tryz.prog) (t := 50) (e := 5) Tryz.underlying50 (by kernel_rfl) W (some ⟨b, off, none⟩) m c 2 m (some (.int .i64 (2 : Int))) none (.inl rfl) (.inr ⟨rfl, rfl⟩) (by omega) (by omega) (fun _ => hmc)
  replace hcut := Lib.hid hcut
  rw [hA1.out] at hrc
  replace hcut : (Instr.sliceAt 50 (.slice (some ⟨b, off, none⟩) m c) (some (.int .i64 1)) (some (.int .i64 2)) none).run Tryz.prog w = .ok (.slice A1 1 (c - 1)) w := by rw [← hA1.out]; exact hcut.out
  have hrest : Rb w (cutA (some ⟨b, off, none⟩) c 2) (((x :: r).take m).drop 2) := Rb.cut hr (by omega) (by omega)
  rw [List.take_of_length_le (by omega)] at hrest
  obtain ⟨A2, hA2⟩ : ∃ z, Hid (cutA (some ⟨b, off, none⟩) c 2 = z) := ⟨_, Lib.hid rfl⟩
  have hA2n : A2 = none → c - 2 = 0 := fun h => cutA_none (A := some ⟨b, off, none⟩) (fun e => by cases e) (hA2.out.trans h)
  rw [hA2.out] at hrest
  simp only [hA2.out] at hcut2
  obtain ⟨L2, hL2⟩ : ∃ z, Hid ((x :: r).drop 2 = z) := ⟨_, Lib.hid rfl⟩
  have hL2l : L2.length = m - 2 := by rw [← hL2.out, List.length_drop, hl]
  rw [hL2.out] at hRd hrest
  have hbyte : ∀ (i : Nat), i < 1 → ∃ y : UInt8, T[i]? = some y := fun i hi => ⟨_, List.getElem?_eq_getElem (by omega)⟩
  have hrc' : ∀ (i : Nat) (y : UInt8), T[i]? = some y → ∃ b1 o1, A1 = some ⟨b1, o1, none⟩ ∧ w.cell? ⟨b1, o1 + i, none⟩ = some (.int .u8 (y.toNat : Int)) := fun i y hy => by
   obtain ⟨hi, e⟩ := List.getElem?_eq_some_iff.1 hy
   obtain ⟨b1, o1, e1, e2⟩ := hrc.at_ hi
   exact ⟨b1, o1, e1, by rw [e2, e]⟩
  replace hRd := Lib.hid hRd
  replace hrc' := Lib.hid hrc'
  replace hbyte := Lib.hid hbyte
  replace hA2n := Lib.hid hA2n
  replace hcls := Lib.hid hcls
  replace hL2l := Lib.hid hL2l
  replace hrt := Lib.hid hrt
  clear hR hte hrc hr hl hA hT
  go_enter Tryz.func92, Tryz.ntmps92
  go_wp2_with (refine wpList_cut rfl 50 (.tmp 29) (some (.const (.int .i64 1))) (some (.tmp 30)) rfl _ _ _ _ rfl rfl rfl hcut ?_)
  go_loopw [7, 9, 33] (fun v7 v9 v33 wr => ∃ i : Nat, i ≤ 1 ∧ v33 = .int .i64 i ∧ wr = w ∧ ∃ y : Nat, v7 = .int .u64 (y : Int) ∧ Hid (numB a0 (T.take i) = y) ∧ y < 64 * 256 ^ i) (fun _ _ v33 _ => 1 - (intOf v33).toNat)
  case atStart => exact ⟨0, by omega, rfl, rfl, a0, rfl, Lib.hid (by simp [numB]), by omega⟩
  case round =>
   obtain ⟨i, hi, rfl, rfl, y, rfl, hy, hyl⟩ := hrel
   by_cases hin : i < 1
   ·obtain ⟨z, hz⟩ := hbyte.out i hin
    obtain ⟨b1, o1, e1, hcz⟩ := hrc'.out i z hz
    subst e1
    have hzl := z.toNat_lt
    have hpw : 256 ^ i ≤ 256 ^ 6 := Nat.pow_le_pow_right (by omega) (by omega)
    have hy54 : y < 18014398509481984 := by
     simp only [Nat.reducePow] at hpw
     omega
    have hor := or_byte y z.toNat hy54 hzl
    have hyn : numB a0 (T.take (i + 1)) = y * 256 + z.toNat := by rw [List.take_add_one, hz, ← hy.out]; exact numB_snoc _ _ _
    have hyb : y * 256 + z.toNat < 64 * 256 ^ (i + 1) := by
     rw [Nat.pow_succ]
     generalize 256 ^ i = p at hyl
     omega
    have hin' : (i : Int) < 1 := by omega
    have hshl : (y : Int) * 256 % 18446744073709551616 = (y : Int) * 256 := by omega
    obtain ⟨y2, hy2⟩ : ∃ z2, Hid (y * 256 + z.toNat = z2) := ⟨_, rfl⟩
    rw [hy2.out] at hor hyn hyb
    replace hyn := Lib.hid hyn
    clear hz hy hyl hpw hrc' hbyte
    go_wp2_with fail
    go_roundw
    case rel => exact ⟨i + 1, by omega, by go_num, trivial, y2, rfl, hyn, hyb⟩
    case measure => simp [intOf]; omega
   ·obtain rfl : i = 1 := by omega
    have hyN : y = Nn := by rw [← hy.out, List.take_of_length_le (by have := hrt.out; omega), hN.out]
    subst hyN
    have hcl := hcls.out wr
    obtain ⟨K, hK⟩ : ∃ z, Hid (cls y = z) := ⟨_, rfl⟩
    rw [hK.out] at hcl
    have hRd2 := hRd.out
    rw [hK.out] at hRd2
    clear hy hcls hrc' hbyte hyl
    by_cases hck : K = 1
    ·rw [if_neg (by rw [hck]; simp)] at hRd2
     have hkb : ((K : Int) != 1) = false := by simp [hck]
     have hp : ∀ W, Ext wr W → PO (.returned (.tuple #[.int .u64 (y : Int), .slice A2 (m - 2) (c - 2), .int .i64 0])) W := fun W hW => by
      rw [← hPO.out, ← hRd2]
      refine ⟨A2, c - 2, ?_, hrest.ext hW, hA2n.out, ?_, ?_, hW⟩
      ·show _ = Ending.returned (.tuple #[.int .u64 (y : Int), .slice A2 L2.length (c - 2), .int .i64 0]); rw [hL2l.out]
      ·show L2.length ≤ _; rw [hL2l.out]; omega
      ·unfold maxLen; omega
     clear hrest hRd hRd2 hPO
     go_wp2_with fail
     refine hcl.mono ?_
     rintro e w1 ⟨rfl, hw1⟩
     have hw1 := hw1.symm
     subst hw1
     go_wp2_with fail
     refine Reg.startE (by kernel_rfl) ?_
     iterate 7 ((first | refine Reg.tn ?_ | refine Reg.sn ?_); (try simp only [Reg.nn]))
     refine Reg.fin (by kernel_rfl) (fun W hW => ?_)
     have hp2 := hp W hW
     go_wp2_with fail
     refine bodyPost_ret (results_tmp3 rfl _ _ _) rfl ?_
     exact hp2
    ·rw [if_pos (by intro e; exact hck e)] at hRd2
     have hkb : ((K : Int) != 1) = true := by simpa using hck
     have hp : PO (.returned (.tuple #[.int .u64 0, .slice none 0 0, .int .i64 4])) wr := by
      rw [← hPO.out, ← hRd2]
      exact TkV.no 4 (Ext.refl wr)
     clear hrest hRd hRd2 hPO
     go_wp2_with fail
     refine hcl.mono ?_
     rintro e w1 ⟨rfl, hw1⟩
     have hw1 := hw1.symm
     subst hw1
     go_wp2_with fail
     refine bodyPost_ret (results_tmp3 rfl _ _ _) rfl ?_
     exact hp
theorem take_k2 (A : Option Addr) (m c : Nat) (x : UInt8) (r : List UInt8) (w : World) (hr : Rb w A (x :: r)) (hl : (x :: r).length = m) (hA : A = none → c = 0) (hmc : m ≤ c) (hc : c ≤ maxLen) (hk : x.toNat / 64 = 2) :
  Calls Tryz.prog 92 #[.slice A m c] w fun e w' => TkV w (takeP (x :: r)) e w' := by
 have hx := x.toNat_lt
 obtain ⟨R, hR⟩ : ∃ z, Hid (takeP (x :: r) = z) := ⟨_, Lib.hid rfl⟩
 have hRd := hR.out
 rw [takeP, hk, hl] at hRd
 rw [hR.out]
 obtain ⟨b, off, rfl, hc0⟩ := hr.at_ (k := 0) (by simp)
 rw [show off + 0 = off from rfl] at hc0
 replace hc0 : w.cell? ⟨b, off, none⟩ = some (.int .u8 (x.toNat : Int)) := hc0
 have hm0 : 0 < m := by rw [← hl]; simp
 have hm0' : ((m : Int) == 0) = false := by simp; omega
 have hkI : (x.toNat : Int) / 64 = 2 := by omega
 have h63 := and63 x
 obtain ⟨a0, ha0⟩ : ∃ z, Hid (x.toNat % 64 = z) := ⟨_, rfl⟩
 have ha64 : a0 < 64 := by rw [← ha0.out]; omega
 rw [ha0.out] at h63 hRd
 unfold maxLen at hc
 obtain ⟨PO, hPO⟩ : ∃ PO : Ending → World → Prop, Hid ((fun e w' => TkV w R e w') = PO) := ⟨_, Lib.hid rfl⟩
 rw [hPO.out]
 by_cases hlt : m < 4
 ·have hltI : (m : Int) < 4 := by omega
  rw [if_pos (by simpa using hlt)] at hRd
  have hfin := TkV.no 3 (Ext.refl w)
  rw [hRd] at hfin
  have hfin2 : PO (.returned (.tuple #[.int .u64 0, .slice none 0 0, .int .i64 3])) w := by rw [← hPO.out]; exact hfin
  clear hfin hRd hR hPO h63
  go_enter Tryz.func92, Tryz.ntmps92
  go_wp2_with fail
  refine bodyPost_ret (results_tmp3 rfl _ _ _) rfl ?_
  exact hfin2
 ·have hltI : ¬ (m : Int) < 4 := by omega
  rw [if_neg (by simpa using hlt)] at hRd
  simp only [Nat.reducePow, Nat.reduceSub] at hRd
  have hrl : 3 ≤ r.length := by rw [List.length_cons] at hl; omega
  have hrc : Rb w (cutA (some ⟨b, off, none⟩) c 1) (((x :: r).take 4).drop 1) := Rb.cut hr (by omega) (by omega)
  have hte : ((x :: r).take 4).drop 1 = r.take 3 := by simp
  rw [hte] at hrc
  have hrt : (r.take 3).length = 3 := by rw [List.length_take]; omega
  obtain ⟨T, hT⟩ : ∃ z, Hid (r.take 3 = z) := ⟨_, Lib.hid rfl⟩
  rw [hT.out] at hrc hRd hrt
  obtain ⟨Nn, hN⟩ : ∃ z, Hid (numB a0 T = z) := ⟨_, Lib.hid rfl⟩
  have hNlt : Nn < 4611686018427387904 := by
   have := numB_lt T a0
   rw [hN.out, hrt] at this
   simp only [Nat.reducePow] at this
   omega
  rw [hN.out] at hRd
  have hcls := fun W => class_any Nn (by omega) W
  obtain ⟨A1, hA1⟩ : ∃ z, Hid (cutA (some ⟨b, off, none⟩) c 1 = z) := ⟨_, Lib.hid rfl⟩
  have hcut := run_cutAt (P := Tryz.prog) (t := 50) (e := 5) Tryz.underlying50 (by kernel_rfl) w (some ⟨b, off, none⟩) m c 1 4 (some (.int .i64 (1 : Int))) (some (.int .i64 (4 : Int))) (.inl rfl) (.inl rfl) (by omega) (by omega) (fun h => by cases h)
  have hcut2 := fun W => run_cutAt (P := Tryz.prog) (t := 50) (e := 5) Tryz.underlying50 (by kernel_rfl) W (some ⟨b, off, none⟩) m c 4 m (some (.int .i64 (4 : Int))) none (.inl rfl) (.inr ⟨rfl, rfl⟩) (by omega) (by omega) (fun _ => hmc)
  replace hcut := Lib.hid hcut
  rw [hA1.out] at hrc
  replace hcut : (Instr.sliceAt 50 (.slice (some ⟨b, off, none⟩) m c) (some (.int .i64 1)) (some (.int .i64 4)) none).run Tryz.prog w = .ok (.slice A1 3 (c - 1)) w := by rw [← hA1.out]; exact hcut.out
  have hrest : Rb w (cutA (some ⟨b, off, none⟩) c 4) (((x :: r).take m).drop 4) := Rb.cut hr (by omega) (by omega)
  rw [List.take_of_length_le (by omega)] at hrest
  obtain ⟨A2, hA2⟩ : ∃ z, Hid (cutA (some ⟨b, off, none⟩) c 4 = z) := ⟨_, Lib.hid rfl⟩
  have hA2n : A2 = none → c - 4 = 0 := fun h => cutA_none (A := some ⟨b, off, none⟩) (fun e => by cases e) (hA2.out.trans h)
  rw [hA2.out] at hrest
  simp only [hA2.out] at hcut2
  obtain ⟨L2, hL2⟩ : ∃ z, Hid ((x :: r).drop 4 = z) := ⟨_, Lib.hid rfl⟩
  have hL2l : L2.length = m - 4 := by rw [← hL2.out, List.length_drop, hl]
  rw [hL2.out] at hRd hrest
  have hbyte : ∀ (i : Nat), i < 3 → ∃ y : UInt8, T[i]? = some y := fun i hi => ⟨_, List.getElem?_eq_getElem (by omega)⟩
  have hrc' : ∀ (i : Nat) (y : UInt8), T[i]? = some y → ∃ b1 o1, A1 = some ⟨b1, o1, none⟩ ∧ w.cell? ⟨b1, o1 + i, none⟩ = some (.int .u8 (y.toNat : Int)) := fun i y hy => by
   obtain ⟨hi, e⟩ := List.getElem?_eq_some_iff.1 hy
   obtain ⟨b1, o1, e1, e2⟩ := hrc.at_ hi
   exact ⟨b1, o1, e1, by rw [e2, e]⟩
  replace hRd := Lib.hid hRd
  replace hrc' := Lib.hid hrc'
  replace hbyte := Lib.hid hbyte
  replace hA2n := Lib.hid hA2n
  replace hcls := Lib.hid hcls
  replace hL2l := Lib.hid hL2l
  replace hrt := Lib.hid hrt
  clear hR hte hrc hr hl hA hT
  go_enter Tryz.func92, Tryz.ntmps92
  go_wp2_with (refine wpList_cut rfl 50 (.tmp 29) (some (.const (.int .i64 1))) (some (.tmp 30)) rfl _ _ _ _ rfl rfl rfl hcut ?_)
  go_loopw [7, 9, 33] (fun v7 v9 v33 wr => ∃ i : Nat, i ≤ 3 ∧ v33 = .int .i64 i ∧ wr = w ∧ ∃ y : Nat, v7 = .int .u64 (y : Int) ∧ Hid (numB a0 (T.take i) = y) ∧ y < 64 * 256 ^ i) (fun _ _ v33 _ => 3 - (intOf v33).toNat)
  case atStart => exact ⟨0, by omega, rfl, rfl, a0, rfl, Lib.hid (by simp [numB]), by omega⟩
  case round =>
   obtain ⟨i, hi, rfl, rfl, y, rfl, hy, hyl⟩ := hrel
   by_cases hin : i < 3
   ·obtain ⟨z, hz⟩ := hbyte.out i hin
    obtain ⟨b1, o1, e1, hcz⟩ := hrc'.out i z hz
    subst e1
    have hzl := z.toNat_lt
    have hpw : 256 ^ i ≤ 256 ^ 6 := Nat.pow_le_pow_right (by omega) (by omega)
    have hy54 : y < 18014398509481984 := by
     simp only [Nat.reducePow] at hpw
     omega
    have hor := or_byte y z.toNat hy54 hzl
    have hyn : numB a0 (T.take (i + 1)) = y * 256 + z.toNat := by rw [List.take_add_one, hz, ← hy.out]; exact numB_snoc _ _ _
    have hyb : y * 256 + z.toNat < 64 * 256 ^ (i + 1) := by
     rw [Nat.pow_succ]
     generalize 256 ^ i = p at hyl
     omega
    have hin' : (i : Int) < 3 := by omega
    have hshl : (y : Int) * 256 % 18446744073709551616 = (y : Int) * 256 := by omega
    obtain ⟨y2, hy2⟩ : ∃ z2, Hid (y * 256 + z.toNat = z2) := ⟨_, rfl⟩
    rw [hy2.out] at hor hyn hyb
    replace hyn := Lib.hid hyn
    clear hz hy hyl hpw hrc' hbyte
    go_wp2_with fail
    go_roundw
    case rel => exact ⟨i + 1, by omega, by go_num, trivial, y2, rfl, hyn, hyb⟩
    case measure => simp [intOf]; omega
   ·obtain rfl : i = 3 := by omega
    have hyN : y = Nn := by rw [← hy.out, List.take_of_length_le (by have := hrt.out; omega), hN.out]
    subst hyN
    have hcl := hcls.out wr
    obtain ⟨K, hK⟩ : ∃ z, Hid (cls y = z) := ⟨_, rfl⟩
    rw [hK.out] at hcl
    have hRd2 := hRd.out
    rw [hK.out] at hRd2
    clear hy hcls hrc' hbyte hyl
    by_cases hck : K = 2
    ·rw [if_neg (by rw [hck]; simp)] at hRd2
     have hkb : ((K : Int) != 2) = false := by simp [hck]
     have hp : ∀ W, Ext wr W → PO (.returned (.tuple #[.int .u64 (y : Int), .slice A2 (m - 4) (c - 4), .int .i64 0])) W := fun W hW => by
      rw [← hPO.out, ← hRd2]
      refine ⟨A2, c - 4, ?_, hrest.ext hW, hA2n.out, ?_, ?_, hW⟩
      ·show _ = Ending.returned (.tuple #[.int .u64 (y : Int), .slice A2 L2.length (c - 4), .int .i64 0]); rw [hL2l.out]
      ·show L2.length ≤ _; rw [hL2l.out]; omega
      ·unfold maxLen; omega
     clear hrest hRd hRd2 hPO
     go_wp2_with fail
     refine hcl.mono ?_
     rintro e w1 ⟨rfl, hw1⟩
     have hw1 := hw1.symm
     subst hw1
     go_wp2_with fail
     refine Reg.startE (by kernel_rfl) ?_
     iterate 7 ((first | refine Reg.tn ?_ | refine Reg.sn ?_); (try simp only [Reg.nn]))
     refine Reg.fin (by kernel_rfl) (fun W hW => ?_)
     have hp2 := hp W hW
     go_wp2_with fail
     refine bodyPost_ret (results_tmp3 rfl _ _ _) rfl ?_
     exact hp2
    ·rw [if_pos (by intro e; exact hck e)] at hRd2
     have hkb : ((K : Int) != 2) = true := by simpa using hck
     have hp : PO (.returned (.tuple #[.int .u64 0, .slice none 0 0, .int .i64 4])) wr := by
      rw [← hPO.out, ← hRd2]
      exact TkV.no 4 (Ext.refl wr)
     clear hrest hRd hRd2 hPO
     go_wp2_with fail
     refine hcl.mono ?_
     rintro e w1 ⟨rfl, hw1⟩
     have hw1 := hw1.symm
     subst hw1
     go_wp2_with fail
     refine bodyPost_ret (results_tmp3 rfl _ _ _) rfl ?_
     exact hp
theorem take_k3 (A : Option Addr) (m c : Nat) (x : UInt8) (r : List UInt8) (w : World) (hr : Rb w A (x :: r)) (hl : (x :: r).length = m) (hA : A = none → c = 0) (hmc : m ≤ c) (hc : c ≤ maxLen) (hk : x.toNat / 64 = 3) :
  Calls Tryz.prog 92 #[.slice A m c] w fun e w' => TkV w (takeP (x :: r)) e w' := by
 have hx := x.toNat_lt
 obtain ⟨R, hR⟩ : ∃ z, Hid (takeP (x :: r) = z) := ⟨_, Lib.hid rfl⟩
 have hRd := hR.out
 rw [takeP, hk, hl] at hRd
 rw [hR.out]
 obtain ⟨b, off, rfl, hc0⟩ := hr.at_ (k := 0) (by simp)
 rw [show off + 0 = off from rfl] at hc0
 replace hc0 : w.cell? ⟨b, off, none⟩ = some (.int .u8 (x.toNat : Int)) := hc0
 have hm0 : 0 < m := by rw [← hl]; simp
 have hm0' : ((m : Int) == 0) = false := by simp; omega
 have hkI : (x.toNat : Int) / 64 = 3 := by omega
 have h63 := and63 x
 obtain ⟨a0, ha0⟩ : ∃ z, Hid (x.toNat % 64 = z) := ⟨_, rfl⟩
 have ha64 : a0 < 64 := by rw [← ha0.out]; omega
 rw [ha0.out] at h63 hRd
 unfold maxLen at hc
 obtain ⟨PO, hPO⟩ : ∃ PO : Ending → World → Prop, Hid ((fun e w' => TkV w R e w') = PO) := ⟨_, Lib.hid rfl⟩
 rw [hPO.out]
 by_cases hlt : m < 8
 ·have hltI : (m : Int) < 8 := by omega
  rw [if_pos (by simpa using hlt)] at hRd
  have hfin := TkV.no 3 (Ext.refl w)
  rw [hRd] at hfin
  have hfin2 : PO (.returned (.tuple #[.int .u64 0, .slice none 0 0, .int .i64 3])) w := by rw [← hPO.out]; exact hfin
  clear hfin hRd hR hPO h63
  go_enter Tryz.func92, Tryz.ntmps92
  go_wp2_with fail
  refine bodyPost_ret (results_tmp3 rfl _ _ _) rfl ?_
  exact hfin2
 ·have hltI : ¬ (m : Int) < 8 := by omega
  rw [if_neg (by simpa using hlt)] at hRd
  simp only [Nat.reducePow, Nat.reduceSub] at hRd
  have hrl : 7 ≤ r.length := by rw [List.length_cons] at hl; omega
  have hrc : Rb w (cutA (some ⟨b, off, none⟩) c 1) (((x :: r).take 8).drop 1) := Rb.cut hr (by omega) (by omega)
  have hte : ((x :: r).take 8).drop 1 = r.take 7 := by simp
  rw [hte] at hrc
  have hrt : (r.take 7).length = 7 := by rw [List.length_take]; omega
  obtain ⟨T, hT⟩ : ∃ z, Hid (r.take 7 = z) := ⟨_, Lib.hid rfl⟩
  rw [hT.out] at hrc hRd hrt
  obtain ⟨Nn, hN⟩ : ∃ z, Hid (numB a0 T = z) := ⟨_, Lib.hid rfl⟩
  have hNlt : Nn < 4611686018427387904 := by
   have := numB_lt T a0
   rw [hN.out, hrt] at this
   simp only [Nat.reducePow] at this
   omega
  rw [hN.out] at hRd
  have hcls := fun W => class_any Nn (by omega) W
  obtain ⟨A1, hA1⟩ : ∃ z, Hid (cutA (some ⟨b, off, none⟩) c 1 = z) := ⟨_, Lib.hid rfl⟩
  have hcut := run_cutAt (P := Tryz.prog) (t := 50) (e := 5) Tryz.underlying50 (by kernel_rfl) w (some ⟨b, off, none⟩) m c 1 8 (some (.int .i64 (1 : Int))) (some (.int .i64 (8 : Int))) (.inl rfl) (.inl rfl) (by omega) (by omega) (fun h => by cases h)
  have hcut2 := fun W => run_cutAt (P := Tryz.prog) (t := 50) (e := 5) Tryz.underlying50 (by kernel_rfl) W (some ⟨b, off, none⟩) m c 8 m (some (.int .i64 (8 : Int))) none (.inl rfl) (.inr ⟨rfl, rfl⟩) (by omega) (by omega) (fun _ => hmc)
  replace hcut := Lib.hid hcut
  rw [hA1.out] at hrc
  replace hcut : (Instr.sliceAt 50 (.slice (some ⟨b, off, none⟩) m c) (some (.int .i64 1)) (some (.int .i64 8)) none).run Tryz.prog w = .ok (.slice A1 7 (c - 1)) w := by rw [← hA1.out]; exact hcut.out
  have hrest : Rb w (cutA (some ⟨b, off, none⟩) c 8) (((x :: r).take m).drop 8) := Rb.cut hr (by omega) (by omega)
  rw [List.take_of_length_le (by omega)] at hrest
  obtain ⟨A2, hA2⟩ : ∃ z, Hid (cutA (some ⟨b, off, none⟩) c 8 = z) := ⟨_, Lib.hid rfl⟩
  have hA2n : A2 = none → c - 8 = 0 := fun h => cutA_none (A := some ⟨b, off, none⟩) (fun e => by cases e) (hA2.out.trans h)
  rw [hA2.out] at hrest
  simp only [hA2.out] at hcut2
  obtain ⟨L2, hL2⟩ : ∃ z, Hid ((x :: r).drop 8 = z) := ⟨_, Lib.hid rfl⟩
  have hL2l : L2.length = m - 8 := by rw [← hL2.out, List.length_drop, hl]
  rw [hL2.out] at hRd hrest
  have hbyte : ∀ (i : Nat), i < 7 → ∃ y : UInt8, T[i]? = some y := fun i hi => ⟨_, List.getElem?_eq_getElem (by omega)⟩
  have hrc' : ∀ (i : Nat) (y : UInt8), T[i]? = some y → ∃ b1 o1, A1 = some ⟨b1, o1, none⟩ ∧ w.cell? ⟨b1, o1 + i, none⟩ = some (.int .u8 (y.toNat : Int)) := fun i y hy => by
   obtain ⟨hi, e⟩ := List.getElem?_eq_some_iff.1 hy
   obtain ⟨b1, o1, e1, e2⟩ := hrc.at_ hi
   exact ⟨b1, o1, e1, by rw [e2, e]⟩
  replace hRd := Lib.hid hRd
  replace hrc' := Lib.hid hrc'
  replace hbyte := Lib.hid hbyte
  replace hA2n := Lib.hid hA2n
  replace hcls := Lib.hid hcls
  replace hL2l := Lib.hid hL2l
  replace hrt := Lib.hid hrt
  clear hR hte hrc hr hl hA hT
  go_enter Tryz.func92, Tryz.ntmps92
  go_wp2_with (refine wpList_cut rfl 50 (.tmp 29) (some (.const (.int .i64 1))) (some (.tmp 30)) rfl _ _ _ _ rfl rfl rfl hcut ?_)
  go_loopw [7, 9, 33] (fun v7 v9 v33 wr => ∃ i : Nat, i ≤ 7 ∧ v33 = .int .i64 i ∧ wr = w ∧ ∃ y : Nat, v7 = .int .u64 (y : Int) ∧ Hid (numB a0 (T.take i) = y) ∧ y < 64 * 256 ^ i) (fun _ _ v33 _ => 7 - (intOf v33).toNat)
  case atStart => exact ⟨0, by omega, rfl, rfl, a0, rfl, Lib.hid (by simp [numB]), by omega⟩
  case round =>
   obtain ⟨i, hi, rfl, rfl, y, rfl, hy, hyl⟩ := hrel
   by_cases hin : i < 7
   ·obtain ⟨z, hz⟩ := hbyte.out i hin
    obtain ⟨b1, o1, e1, hcz⟩ := hrc'.out i z hz
    subst e1
    have hzl := z.toNat_lt
    have hpw : 256 ^ i ≤ 256 ^ 6 := Nat.pow_le_pow_right (by omega) (by omega)
    have hy54 : y < 18014398509481984 := by
     simp only [Nat.reducePow] at hpw
     omega
    have hor := or_byte y z.toNat hy54 hzl
    have hyn : numB a0 (T.take (i + 1)) = y * 256 + z.toNat := by rw [List.take_add_one, hz, ← hy.out]; exact numB_snoc _ _ _
    have hyb : y * 256 + z.toNat < 64 * 256 ^ (i + 1) := by
     rw [Nat.pow_succ]
     generalize 256 ^ i = p at hyl
     omega
    have hin' : (i : Int) < 7 := by omega
    have hshl : (y : Int) * 256 % 18446744073709551616 = (y : Int) * 256 := by omega
    obtain ⟨y2, hy2⟩ : ∃ z2, Hid (y * 256 + z.toNat = z2) := ⟨_, rfl⟩
    rw [hy2.out] at hor hyn hyb
    replace hyn := Lib.hid hyn
    clear hz hy hyl hpw hrc' hbyte
    go_wp2_with fail
    go_roundw
    case rel => exact ⟨i + 1, by omega, by go_num, trivial, y2, rfl, hyn, hyb⟩
    case measure => simp [intOf]; omega
   ·obtain rfl : i = 7 := by omega
    have hyN : y = Nn := by rw [← hy.out, List.take_of_length_le (by have := hrt.out; omega), hN.out]
    subst hyN
    have hcl := hcls.out wr
    obtain ⟨K, hK⟩ : ∃ z, Hid (cls y = z) := ⟨_, rfl⟩
    rw [hK.out] at hcl
    have hRd2 := hRd.out
    rw [hK.out] at hRd2
    clear hy hcls hrc' hbyte hyl
    by_cases hck : K = 3
    ·rw [if_neg (by rw [hck]; simp)] at hRd2
     have hkb : ((K : Int) != 3) = false := by simp [hck]
     have hp : ∀ W, Ext wr W → PO (.returned (.tuple #[.int .u64 (y : Int), .slice A2 (m - 8) (c - 8), .int .i64 0])) W := fun W hW => by
      rw [← hPO.out, ← hRd2]
      refine ⟨A2, c - 8, ?_, hrest.ext hW, hA2n.out, ?_, ?_, hW⟩
      ·show _ = Ending.returned (.tuple #[.int .u64 (y : Int), .slice A2 L2.length (c - 8), .int .i64 0]); rw [hL2l.out]
      ·show L2.length ≤ _; rw [hL2l.out]; omega
      ·unfold maxLen; omega
     clear hrest hRd hRd2 hPO
     go_wp2_with fail
     refine hcl.mono ?_
     rintro e w1 ⟨rfl, hw1⟩
     have hw1 := hw1.symm
     subst hw1
     go_wp2_with fail
     refine Reg.startE (by kernel_rfl) ?_
     iterate 7 ((first | refine Reg.tn ?_ | refine Reg.sn ?_); (try simp only [Reg.nn]))
     refine Reg.fin (by kernel_rfl) (fun W hW => ?_)
     have hp2 := hp W hW
     go_wp2_with fail
     refine bodyPost_ret (results_tmp3 rfl _ _ _) rfl ?_
     exact hp2
    ·rw [if_pos (by intro e; exact hck e)] at hRd2
     have hkb : ((K : Int) != 3) = true := by simpa using hck
     have hp : PO (.returned (.tuple #[.int .u64 0, .slice none 0 0, .int .i64 4])) wr := by
      rw [← hPO.out, ← hRd2]
      exact TkV.no 4 (Ext.refl wr)
     clear hrest hRd hRd2 hPO
     go_wp2_with fail
     refine hcl.mono ?_
     rintro e w1 ⟨rfl, hw1⟩
     have hw1 := hw1.symm
     subst hw1
     go_wp2_with fail
     refine bodyPost_ret (results_tmp3 rfl _ _ _) rfl ?_
     exact hp
theorem take_any (A : Option Addr) (m c : Nat) (l : List UInt8) (w : World) (hr : Rb w A l) (hl : l.length = m) (hA : A = none → c = 0) (hmc : m ≤ c) (hc : c ≤ maxLen) :
  Calls Tryz.prog 92 #[.slice A m c] w fun e w' => TkV w (takeP l) e w' := by
 cases l with
 | nil =>
  obtain rfl : m = 0 := by simpa using hl.symm
  have hp := TkV.no 3 (Ext.refl w)
  obtain ⟨PO, hPO⟩ : ∃ PO : Ending → World → Prop, Hid ((fun e w' => TkV w (takeP []) e w') = PO) := ⟨_, Lib.hid rfl⟩
  rw [hPO.out]
  have hp2 : PO (.returned (.tuple #[.int .u64 0, .slice none 0 0, .int .i64 3])) w := by rw [← hPO.out]; exact hp
  clear hp hPO hr
  go_enter Tryz.func92, Tryz.ntmps92
  go_wp2_with fail
  refine bodyPost_ret (results_tmp3 rfl _ _ _) rfl ?_
  exact hp2
 | cons x r =>
  have hx := x.toNat_lt
  have h4 : x.toNat / 64 = 0 ∨ x.toNat / 64 = 1 ∨ x.toNat / 64 = 2 ∨ x.toNat / 64 = 3 := by omega
  rcases h4 with h | h | h | h
  ·exact take_k0 A m c x r w hr hl hA hmc hc h
  ·exact take_k1 A m c x r w hr hl hA hmc hc h
  ·exact take_k2 A m c x r w hr hl hA hmc hc h
  ·exact take_k3 A m c x r w hr hl hA hmc hc h
theorem takeP_len (l : List UInt8) : (takeP l).2.1.length ≤ l.length ∧ (takeP l).1 < 4611686018427387904 := by
 cases l with
 | nil => exact ⟨Nat.le_refl _, by decide⟩
 | cons x r =>
  rw [takeP]
  split
  ·exact ⟨Nat.zero_le _, by simp⟩
  ·split
   ·exact ⟨Nat.zero_le _, by simp⟩
   ·next h1 h2 =>
    refine ⟨by simp only [List.length_drop]; exact Nat.sub_le _ _, ?_⟩
    simp only [ne_eq, Decidable.not_not] at h2
    simp only
    generalize numB (x.toNat % 64) (r.take (2 ^ (x.toNat / 64) - 1)) = n at h2
    unfold cls at h2
    split at h2
    ·omega
    ·omega
theorem run_cutU {P : Program} {t e : TypeId} (ht : P.underlying t = some (.slice e)) (he : (P.info? e).map (·.size) = some 1) (w : World) (A : Option Addr) (n c l k : Nat) (lo hi : Option Value)
  (hlo : lo = some (.int .u64 (l : Int)) ∨ lo = none ∧ l = 0) (hhi : hi = some (.int .u64 (k : Int)) ∨ hi = none ∧ k = n) (hl : l ≤ k) (hk : k ≤ c) (hn : hi = none → n ≤ c) :
  (Instr.sliceAt t (.slice A n c) lo hi none).run P w = .ok (.slice (cutA A c l) (k - l) (c - l)) w := by
 have h1 : (0 : Int) ≤ (l : Int) ∧ (l : Int) ≤ (k : Int) := by omega
 have h2 : (0 : Int) ≤ (k : Int) ∧ (k : Int) ≤ (c : Int) := by omega
 cases hq : P.info? e with
 | none => simp [hq] at he
 | some i =>
  have hi1 : i.size = 1 := by simpa [hq] using he
  rcases hlo with rfl | ⟨rfl, rfl⟩ <;> rcases hhi with rfl | ⟨rfl, rfl⟩ <;>
   simp [Instr.sliceAt, run_underlying ht, Instr.slice, Instr.sliceBounds, Instr.sliceBound, asIntOf, h1, h2, sizeOf, typeInfo, hq, hi1, cutA, go_sem] <;>
   (try rw [if_pos hk, if_pos hl]) <;> (try (intro h; omega))
def TtV (w : World) (r : List UInt8 × List UInt8 × Nat) (e : Ending) (w' : World) : Prop := ∃ A' c', e = .returned (.tuple #[.string (Str r.1), .slice A' r.2.1.length c', .int .i64 (r.2.2 : Int)]) ∧ Rb w' A' r.2.1 ∧ (A' = none → c' = 0) ∧ r.2.1.length ≤ c' ∧ c' ≤ maxLen ∧ Ext w w'
theorem TtV.no {w w' : World} (n : Nat) (h : Ext w w') : TtV w ([], [], n) (.returned (.tuple #[.string ⟨#[]⟩, .slice none 0 0, .int .i64 (n : Int)])) w' := ⟨none, 0, rfl, Rd.nil _ _, fun _ => rfl, Nat.le_refl _, by unfold maxLen; omega, h⟩
theorem takeText_any (A : Option Addr) (m c : Nat) (l : List UInt8) (most : Nat) (w : World) (hr : Rb w A l) (hl : l.length = m) (hA : A = none → c = 0) (hmc : m ≤ c) (hc : c ≤ maxLen) (hmo : most < 4611686018427387904) :
  Calls Tryz.prog 93 #[.slice A m c, .int .i64 (most : Int)] w fun e w' => TtV w (takeTextP l most) e w' := by
 have ht := take_any A m c l w hr hl hA hmc hc
 obtain ⟨b1, b2⟩ := takeP_len l
 obtain ⟨R, hR⟩ : ∃ z, Hid (takeTextP l most = z) := ⟨_, Lib.hid rfl⟩
 have hRd := hR.out
 unfold takeTextP at hRd
 rw [hR.out]
 obtain ⟨PO, hPO⟩ : ∃ PO : Ending → World → Prop, Hid ((fun e w' => TtV w R e w') = PO) := ⟨_, Lib.hid rfl⟩
 rw [hPO.out]
 obtain ⟨r, hr0⟩ : ∃ z, Hid (takeP l = z) := ⟨_, Lib.hid rfl⟩
 rw [hr0.out] at ht hRd b1 b2
 obtain ⟨n, rest, er⟩ := r
 simp only at b1 b2 hRd
 replace ht : Calls Tryz.prog 92 #[.slice A m c] w fun e w' => ∃ A' c', e = .returned (.tuple #[.int .u64 (n : Int), .slice A' rest.length c', .int .i64 (er : Int)]) ∧ Rb w' A' rest ∧ (A' = none → c' = 0) ∧ rest.length ≤ c' ∧ c' ≤ maxLen ∧ Ext w w' := ht
 obtain ⟨N, hN⟩ : ∃ z, Hid (rest.length = z) := ⟨_, Lib.hid rfl⟩
 rw [hN.out] at ht hRd b1
 have hmo0 : ¬ (most : Int) < 0 := by omega
 have hmow : IntKind.u64.wrap (most : Int) = (most : Int) := by
  have : IntKind.u64.wrap (most : Int) = (most : Int) % 18446744073709551616 := by rfl
  rw [this]; omega
 replace hRd := Lib.hid hRd
 clear hR hr0 hr hl hA
 by_cases he : er = 0
 ·subst he
  have heb : (((0 : Nat) : Int) != 0) = false := rfl
  by_cases hlong : most < n
  ·have hlI : (most : Int) < (n : Int) := by omega
   have hRd2 := hRd.out
   rw [if_neg (by simp), if_pos hlong] at hRd2
   have hp : ∀ W, Ext w W → PO (.returned (.tuple #[.string ⟨#[]⟩, .slice none 0 0, .int .i64 2])) W := fun W hW => by rw [← hPO.out, ← hRd2]; exact TtV.no 2 hW
   clear hRd hRd2 hPO
   go_enter Tryz.func93, Tryz.ntmps93
   go_wp2_with fail
   refine ht.mono ?_
   rintro e w1 ⟨A1, c1, rfl, h1, h2, h3, h4, hx1⟩
   have hp2 := hp w1 hx1
   clear ht h2
   go_wp2_with fail
   refine bodyPost_ret (results_tmp3 rfl _ _ _) rfl ?_
   exact hp2
  ·have hlI : ¬ (most : Int) < (n : Int) := by omega
   by_cases hsh : N < n
   ·have hsI : (N : Int) < (n : Int) := by omega
    have hRd2 := hRd.out
    rw [if_neg (by simp), if_neg hlong, if_pos hsh] at hRd2
    have hp : ∀ W, Ext w W → PO (.returned (.tuple #[.string ⟨#[]⟩, .slice none 0 0, .int .i64 3])) W := fun W hW => by rw [← hPO.out, ← hRd2]; exact TtV.no 3 hW
    clear hRd hRd2 hPO
    go_enter Tryz.func93, Tryz.ntmps93
    go_wp2_with fail
    refine ht.mono ?_
    rintro e w1 ⟨A1, c1, rfl, h1, h2, h3, h4, hx1⟩
    have hp2 := hp w1 hx1
    unfold maxLen at h4
    clear ht h2
    go_wp2_with fail
    refine bodyPost_ret (results_tmp3 rfl _ _ _) rfl ?_
    exact hp2
   ·have hsI : ¬ (N : Int) < (n : Int) := by omega
    have hRd2 := hRd.out
    rw [if_neg (by simp), if_neg hlong, if_neg hsh] at hRd2
    have hl1 : (rest.take n).length = n := by rw [List.length_take]; have := hN.out; omega
    have hl2 : (rest.drop n).length = N - n := by rw [List.length_drop]; have := hN.out; omega
    have hNr := hN.out
    replace hNr := Lib.hid hNr
    go_enter Tryz.func93, Tryz.ntmps93
    go_wp2_with fail
    refine ht.mono ?_
    rintro e w1 ⟨A1, c1, rfl, h1, h2, h3, h4, hx1⟩
    have hcA := fun W => run_cutU (P := Tryz.prog) (t := 50) (e := 5) Tryz.underlying50 (by kernel_rfl) W A1 N c1 0 n none (some (.int .u64 (n : Int))) (.inr ⟨rfl, rfl⟩) (.inl rfl) (by omega) (by omega) (fun h => by cases h)
    have hcB := fun W => run_cutU (P := Tryz.prog) (t := 50) (e := 5) Tryz.underlying50 (by kernel_rfl) W A1 N c1 n N (some (.int .u64 (n : Int))) none (.inl rfl) (.inr ⟨rfl, rfl⟩) (by omega) h3 (fun _ => h3)
    have hrA : Rb w1 (cutA A1 c1 0) ((rest.take n).drop 0) := Rb.cut h1 (by omega) (by omega)
    have hrB : Rb w1 (cutA A1 c1 n) ((rest.take N).drop n) := Rb.cut h1 (by omega) h3
    rw [List.drop_zero] at hrA
    rw [List.take_of_length_le (by have := hNr.out; omega)] at hrB
    have hB0 : cutA A1 c1 n = none → c1 - n = 0 := cutA_none h2
    obtain ⟨AA, hAA⟩ : ∃ z, Hid (cutA A1 c1 0 = z) := ⟨_, Lib.hid rfl⟩
    obtain ⟨AB, hAB⟩ : ∃ z, Hid (cutA A1 c1 n = z) := ⟨_, Lib.hid rfl⟩
    simp only [hAA.out, Nat.sub_zero] at hcA hrA
    rw [hAB.out] at hrB hB0
    simp only [hAB.out] at hcB
    have hcv := fun W (hW : Ext w1 W) => conv_rd (P := Tryz.prog) (src := 50) (dst := 9) Tryz.underlying50 Tryz.underlying5 Tryz.underlying9 (n := n) c1 hl1 (hrA.ext hW)
    unfold maxLen at h4
    have hp : ∀ W, Ext w1 W → PO (.returned (.tuple #[.string (Str (rest.take n)), .slice AB (N - n) (c1 - n), .int .i64 0])) W := fun W hW => by
     rw [← hPO.out, ← hRd2]
     refine ⟨AB, c1 - n, ?_, hrB.ext hW, hB0, ?_, ?_, hx1.trans hW⟩
     ·show _ = Ending.returned (.tuple #[.string (Str (rest.take n)), .slice AB (rest.drop n).length (c1 - n), .int .i64 0]); rw [hl2]
     ·show (rest.drop n).length ≤ _; rw [hl2]; omega
     ·unfold maxLen; omega
    obtain ⟨ST, hST⟩ : ∃ z, Hid (Str (rest.take n) = z) := ⟨_, Lib.hid rfl⟩
    rw [hST.out] at hp
    simp only [hST.out] at hcv
    clear ht h2 hrA hrB hB0 h1 hRd hRd2 hPO hl1 hl2
    go_wp2_with fail
    refine Reg.startE (by kernel_rfl) ?_
    iterate 10 ((first | refine Reg.tn ?_ | refine Reg.sn ?_); (try simp only [Reg.nn]))
    refine Reg.fin (by kernel_rfl) (fun W hW => ?_)
    have hp2 := hp W hW
    clear hcv hp hcA hcB
    go_wp2_with fail
    refine bodyPost_ret (results_tmp3 rfl _ _ _) rfl ?_
    exact hp2
 ·have hRd2 := hRd.out
  rw [if_pos he] at hRd2
  have heb : ((er : Int) != 0) = true := by simpa using (by omega : ¬ (er : Int) = 0)
  have hp : ∀ W, Ext w W → PO (.returned (.tuple #[.string ⟨#[]⟩, .slice none 0 0, .int .i64 (er : Int)])) W := fun W hW => by rw [← hPO.out, ← hRd2]; exact TtV.no er hW
  clear hRd hRd2 hPO
  go_enter Tryz.func93, Tryz.ntmps93
  go_wp2_with fail
  refine ht.mono ?_
  rintro e w1 ⟨A1, c1, rfl, h1, h2, h3, h4, hx1⟩
  have hp2 := hp w1 hx1
  clear ht h2
  go_wp2_with fail
  refine bodyPost_ret (results_tmp3 rfl _ _ _) rfl ?_
  exact hp2
theorem own_none {B : Nat} {w : World} {n : Nat} {xs : List Value} {A : Option Addr} {c : Nat} {t : TypeId} {z : Nat} (h : w.ownsRow B t z (.slice A n c) n xs) : A = none → c = 0 := fun e => by
 rcases h.2 with ⟨e2, _⟩ | ⟨g, cap2, cur, e2, _⟩
 ·injection e2
 ·rw [e] at e2; injection e2 with e2; cases e2
theorem Take_any (A : Option Addr) (m c : Nat) (l : List UInt8) (w : World) (hr : Rb w A l) (hl : l.length = m) (hA : A = none → c = 0) (hmc : m ≤ c) (hc : c ≤ maxLen) (hm : m ≤ 140737488355328) :
  Calls Tryz.prog 60 #[.slice A m c] w fun e w' => TkV w (takeP l) e w' := by
 have ht := take_any A m c l w hr hl hA hmc hc
 obtain ⟨b1, b2⟩ := takeP_len l
 obtain ⟨r, hr0⟩ : ∃ z, Hid (takeP l = z) := ⟨_, Lib.hid rfl⟩
 rw [hr0.out] at ht b1 b2 ⊢
 obtain ⟨n, rest, er⟩ := r
 replace ht : Calls Tryz.prog 92 #[.slice A m c] w fun e w' => ∃ A' c', e = .returned (.tuple #[.int .u64 (n : Int), .slice A' rest.length c', .int .i64 (er : Int)]) ∧ Rb w' A' rest ∧ (A' = none → c' = 0) ∧ rest.length ≤ c' ∧ c' ≤ maxLen ∧ Ext w w' := ht
 obtain ⟨PO, hPO⟩ : ∃ PO : Ending → World → Prop, Hid ((fun e w' => TkV w (n, rest, er) e w') = PO) := ⟨_, Lib.hid rfl⟩
 rw [hPO.out]
 simp only at b1 b2
 obtain ⟨N, hN⟩ : ∃ z, Hid (rest.length = z) := ⟨_, Lib.hid rfl⟩
 rw [hN.out] at ht b1
 have hNm : N ≤ m := by omega
 clear hr0 hr b1 hl
 go_enter Tryz.func60, Tryz.ntmps60
 go_wp2_with fail
 refine ht.mono ?_
 rintro e w1 ⟨A1, c1, rfl, h1, h2, h3, h4, hx1⟩
 have hcl := clone_any A1 N c1 rest w1 h1 hN.out h2 (by omega)
 clear ht h2 h1
 go_wp2_with fail
 refine hcl.mono ?_
 rintro e w2 ⟨v2, rfl, ho2, hx2⟩
 obtain ⟨A2, c2, rfl, q1, q2, q3, q4⟩ := Rd.of_own ho2
 have hp : PO (.returned (.tuple #[.int .u64 (n : Int), .slice A2 rest.length c2, .int .i64 (er : Int)])) w2 := by
  rw [← hPO.out]
  exact ⟨A2, c2, rfl, q3, own_none ho2, q1, q2, hx1.trans hx2⟩
 clear hcl q1 q2 q3 q4 ho2
 go_wp2_with fail
 refine bodyPost_ret (results_tmp3 rfl _ _ _) rfl ?_
 exact hp
theorem takeTextP_len (l : List UInt8) (most : Nat) : (takeTextP l most).2.1.length ≤ l.length := by
 have := takeP_len l
 unfold takeTextP
 split
 ·exact Nat.zero_le _
 ·split
  ·exact Nat.zero_le _
  ·split
   ·exact Nat.zero_le _
   ·simp only [List.length_drop]; omega
theorem TakeText_any (A : Option Addr) (m c : Nat) (l : List UInt8) (most : Nat) (w : World) (hr : Rb w A l) (hl : l.length = m) (hA : A = none → c = 0) (hmc : m ≤ c) (hc : c ≤ maxLen) (hm : m ≤ 140737488355328) (hmo : most < 4611686018427387904) :
  Calls Tryz.prog 61 #[.slice A m c, .int .i64 (most : Int)] w fun e w' => TtV w (takeTextP l most) e w' := by
 have ht := takeText_any A m c l most w hr hl hA hmc hc hmo
 have b1 := takeTextP_len l most
 obtain ⟨r, hr0⟩ : ∃ z, Hid (takeTextP l most = z) := ⟨_, Lib.hid rfl⟩
 rw [hr0.out] at ht b1 ⊢
 obtain ⟨s, rest, er⟩ := r
 replace ht : Calls Tryz.prog 93 #[.slice A m c, .int .i64 (most : Int)] w fun e w' => ∃ A' c', e = .returned (.tuple #[.string (Str s), .slice A' rest.length c', .int .i64 (er : Int)]) ∧ Rb w' A' rest ∧ (A' = none → c' = 0) ∧ rest.length ≤ c' ∧ c' ≤ maxLen ∧ Ext w w' := ht
 obtain ⟨PO, hPO⟩ : ∃ PO : Ending → World → Prop, Hid ((fun e w' => TtV w (s, rest, er) e w') = PO) := ⟨_, Lib.hid rfl⟩
 rw [hPO.out]
 simp only at b1
 obtain ⟨N, hN⟩ : ∃ z, Hid (rest.length = z) := ⟨_, Lib.hid rfl⟩
 rw [hN.out] at ht b1
 have hNm : N ≤ m := by omega
 obtain ⟨S, hS⟩ : ∃ z, Hid (Str s = z) := ⟨_, Lib.hid rfl⟩
 rw [hS.out] at ht
 clear hr0 hr b1 hl
 go_enter Tryz.func61, Tryz.ntmps61
 go_wp2_with fail
 refine ht.mono ?_
 rintro e w1 ⟨A1, c1, rfl, h1, h2, h3, h4, hx1⟩
 have hcl := clone_any A1 N c1 rest w1 h1 hN.out h2 (by omega)
 clear ht h2 h1
 go_wp2_with fail
 refine hcl.mono ?_
 rintro e w2 ⟨v2, rfl, ho2, hx2⟩
 obtain ⟨A2, c2, rfl, q1, q2, q3, q4⟩ := Rd.of_own ho2
 have hp : PO (.returned (.tuple #[.string S, .slice A2 rest.length c2, .int .i64 (er : Int)])) w2 := by
  rw [← hPO.out, ← hS.out]
  exact ⟨A2, c2, rfl, q3, own_none ho2, q1, q2, hx1.trans hx2⟩
 clear hcl q1 q2 q3 q4 ho2
 go_wp2_with fail
 refine bodyPost_ret (results_tmp3 rfl _ _ _) rfl ?_
 exact hp
end Go.Proofs.YtbpfabhlngfciaaGreatDoor.Pf
namespace Go.Proofs.YtbpfabhlngfciaaGreatDoor.Ch
open Go.ChangeShapes Go.WideShapes Go.ChangeAt Go.RowKit
open Base Pf Cn Pr Lx Mi
def entV (e : Et) : Value := .agg #[.bool e.pol, .int .i64 e.p, .string e.s, .int .u64 (e.id : Int)]
structure EtOk (e : Et) : Prop where
 p1 : -9223372036854775808 ≤ e.p
 p2 : e.p ≤ 9223372036854775807
 s1 : e.s.size ≤ 140737488351232
 id1 : e.id < 18446744073709551616
theorem str_em {s : ByteArray} (h : s = ⟨#[]⟩) : (s.toList == ([] : List UInt8)) = true ∧ s.toList.isEmpty = true ∧ s.toList = [] := by
 subst h
 have h : (⟨#[]⟩ : ByteArray).toList = [] := by rw [ByteArray.toList_eq]
 simp [h]
theorem str_ne0 {s : ByteArray} (h : ¬ s = ⟨#[]⟩) : (s.toList == ([] : List UInt8)) = false ∧ s.toList.isEmpty = false ∧ ¬ s.toList = [] := by
 have h1 : ¬ s.toList = [] := by
  intro e
  rw [ByteArray.toList_eq] at e
  apply h
  cases s
  simp at e
  subst e
  rfl
 refine ⟨by simpa using h1, by simpa using h1, h1⟩
theorem can_any (e : Et) (he : EtOk e) (w : World) (hwd : Wd w) (hpow : Pow w) : Calls Tryz.prog 58 #[entV e] w fun en w' => en = .returned (.bool (canP e)) ∧ Ext w w' := by
 obtain ⟨p1, p2, s1, id1⟩ := he
 have hcan : canP e = if e.pol = true then decide (0 ≤ e.p) && decide (e.p < 7) && decide (e.s = ⟨#[]⟩) && decide (e.id = 0) else decide (e.p = 0) && decide (1 ≤ e.id) && decide (e.id ≤ 2147483647) && isP e.s := rfl
 obtain ⟨R, hR⟩ : ∃ z, Hid (canP e = z) := ⟨_, Lib.hid rfl⟩
 rw [hR.out] at hcan ⊢
 obtain ⟨pol, p, s, id⟩ := e
 unfold entV
 simp only at *
 obtain ⟨w1, hw1⟩ : ∃ z, Hid (w.alloc (.cells #[.bool pol, .int .i64 p, .string s, .int .u64 (id : Int)] 55) = z) := ⟨_, rfl⟩
 have hx1 : Ext w w1 := by rw [← hw1.out]; exact (Ext.refl w).alloc _
 have his := cIs_any s (by omega) w1 (hwd.ext hx1) (hpow.ext hx1)
 obtain ⟨b, hb⟩ : ∃ z, Hid (isP s = z) := ⟨_, Lib.hid rfl⟩
 rw [hb.out] at his hcan
 have hi0 : (0 : Int) ≤ (id : Int) := by omega
 clear p1 p2 s1 id1
 cases pol with
 | true =>
  rw [if_pos rfl] at hcan
  clear his
  by_cases q1 : 0 ≤ p
  ·by_cases q2 : p < 7
   ·by_cases q3 : s = ⟨#[]⟩
    ·obtain ⟨z1, z2, z3⟩ := str_em q3
     by_cases q4 : id = 0
     ·have hR1 : R = true := by rw [hcan]; simp [q1, q2, q3, q4]
      subst hR1
      subst q4
      subst q3
      clear hcan
      go_enter Tryz.func58, Tryz.ntmps58
      go_wp2_with fail
      go_ret
      exact ⟨rfl, (Ext.refl w).alloc _⟩
     ·have hR1 : R = false := by rw [hcan]; simp [q4]
      subst hR1
      have q4b : ((id : Int) == 0) = false := by simpa using (by omega : ¬ (id : Int) = 0)
      have q4c : ¬ (id : Int) = 0 := by omega
      subst q3
      clear hcan
      go_enter Tryz.func58, Tryz.ntmps58
      go_wp2_with fail
      go_ret
      exact ⟨rfl, (Ext.refl w).alloc _⟩
    ·obtain ⟨z1, z2, z3⟩ := str_ne0 q3
     have hR1 : R = false := by rw [hcan]; simp [q3]
     subst hR1
     clear q3 hcan
     go_enter Tryz.func58, Tryz.ntmps58
     go_wp2_with fail
     go_ret
     exact ⟨rfl, (Ext.refl w).alloc _⟩
   ·have hR1 : R = false := by rw [hcan]; simp [q2]
    subst hR1
    clear hcan
    go_enter Tryz.func58, Tryz.ntmps58
    go_wp2_with fail
    go_ret
    exact ⟨rfl, (Ext.refl w).alloc _⟩
  ·have hR1 : R = false := by rw [hcan]; simp [q1]
   subst hR1
   clear hcan
   go_enter Tryz.func58, Tryz.ntmps58
   go_wp2_with fail
   go_ret
   exact ⟨rfl, (Ext.refl w).alloc _⟩
 | false =>
  rw [if_neg (by decide)] at hcan
  by_cases q1 : p = 0
  ·subst q1
   by_cases q2 : 1 ≤ id
   ·have q2i : (1 : Int) ≤ (id : Int) := by omega
    by_cases q3 : id ≤ 2147483647
    ·have q3i : (id : Int) ≤ 2147483647 := by omega
     have hR1 : R = b := by rw [hcan]; simp [q2, q3]
     subst hR1
     clear hcan
     go_enter Tryz.func58, Tryz.ntmps58
     go_wp2_with fail
     rw [hw1.out]
     refine his.mono ?_
     rintro en w2 ⟨rfl, hx2⟩
     go_wp2_with fail
     go_ret
     exact ⟨rfl, hx1.trans hx2⟩
    ·have q3i : ¬ (id : Int) ≤ 2147483647 := by omega
     have hR1 : R = false := by rw [hcan]; simp [q3]
     subst hR1
     clear hcan his
     go_enter Tryz.func58, Tryz.ntmps58
     go_wp2_with fail
     go_ret
     exact ⟨rfl, (Ext.refl w).alloc _⟩
   ·have q2i : ¬ (1 : Int) ≤ (id : Int) := by omega
    have hR1 : R = false := by rw [hcan]; simp [q2]
    subst hR1
    clear hcan his
    go_enter Tryz.func58, Tryz.ntmps58
    go_wp2_with fail
    go_ret
    exact ⟨rfl, (Ext.refl w).alloc _⟩
  ·have hR1 : R = false := by rw [hcan]; simp [q1]
   subst hR1
   have q1b : ((p : Int) == 0) = false := by simpa using q1
   clear hcan his
   go_enter Tryz.func58, Tryz.ntmps58
   go_wp2_with fail
   go_ret
   exact ⟨rfl, (Ext.refl w).alloc _⟩
theorem Can_any (e : Et) (he : EtOk e) (w : World) (hwd : Wd w) (hpow : Pow w) : Calls Tryz.prog 28 #[entV e] w fun en w' => en = .returned (.bool (canP e)) ∧ Ext w w' := by
 obtain ⟨w1, hw1⟩ : ∃ z, Hid (w.alloc (.cells #[.bool e.pol, .int .i64 e.p, .string e.s, .int .u64 (e.id : Int)] 55) = z) := ⟨_, rfl⟩
 have hx1 : Ext w w1 := by rw [← hw1.out]; exact (Ext.refl w).alloc _
 have hc := can_any e he w1 (hwd.ext hx1) (hpow.ext hx1)
 obtain ⟨b, hb⟩ : ∃ z, Hid (canP e = z) := ⟨_, Lib.hid rfl⟩
 rw [hb.out] at hc ⊢
 obtain ⟨pol, p, s, id⟩ := e
 unfold entV at hc ⊢
 simp only at *
 go_enter Tryz.func28, Tryz.ntmps28
 go_wp2_with fail
 rw [hw1.out]
 refine hc.mono ?_
 rintro en w2 ⟨rfl, hx2⟩
 go_wp2_with fail
 go_ret
 exact ⟨rfl, hx1.trans hx2⟩
theorem put_any (B : Nat) (v : Value) (l : List UInt8) (e : Et) (w : World) (ho : Ow B w v l) (hB : B ≤ w.heap.size) (hc : canP e = true) (hm : l.length ≤ 140737488300000) :
  Calls Tryz.prog 59 #[v, entV e] w fun en w' => ∃ v', en = .returned v' ∧ Ow B w' v' (l ++ bytesP e) ∧ Below B w w' := by
 obtain ⟨w1, hw1⟩ : ∃ z, Hid (w.alloc (.cells #[.bool e.pol, .int .i64 e.p, .string e.s, .int .u64 (e.id : Int)] 55) = z) := ⟨_, rfl⟩
 obtain ⟨q, hq⟩ : ∃ z, Hid (w.heap.size = z) := ⟨_, rfl⟩
 have hx1 : Ext w w1 := by rw [← hw1.out]; exact (Ext.refl w).alloc _
 have hbk1 : Blk w1 q #[.bool e.pol, .int .i64 e.p, .string e.s, .int .u64 (e.id : Int)] 55 := by rw [← hw1.out, ← hq.out]; exact Blk.new w _ _
 have ho1 := own_ext ho hx1
 have hB1 : B ≤ w1.heap.size := Nat.le_trans hB hx1.size
 obtain ⟨A, cap, rfl⟩ := own_shape ho
 obtain ⟨m, hml⟩ : ∃ z, Hid (l.length = z) := ⟨_, rfl⟩
 rw [hml.out] at ho1 hm ⊢
 by_cases hp : e.pol = true
 ·obtain ⟨h1, h2, h3, h4⟩ := can_pol hp hc
  have hby : bytesP e = [UInt8.ofNat (e.p.toNat + 1)] := by unfold bytesP; rw [if_pos hp]
  rw [hby]
  obtain ⟨pol, p, s, id⟩ := e
  unfold entV
  simp only at *
  subst hp
  obtain ⟨k, rfl⟩ : ∃ k : Nat, p = (k : Int) := ⟨p.toNat, by omega⟩
  rw [Int.toNat_natCast]
  have hk7 : k < 7 := by omega
  have hadd : IntKind.i64.wrap (1 + (k : Int)) = 1 + (k : Int) := by rw [IntKind.wrap_i64]; omega
  have hcv : (1 + (k : Int)) % 256 = 1 + (k : Int) := by omega
  have hcv2 : IntKind.u8.wrap (1 + (k : Int)) = 1 + (k : Int) := by
   have : IntKind.u8.wrap (1 + (k : Int)) = (1 + (k : Int)) % 256 := by rfl
   rw [this]; omega
  have hu : u8s [UInt8.ofNat (k + 1)] = [1 + (k : Int)].map (Value.int .u8) := by
   simp only [u8s, List.map_cons, List.map_nil, List.cons.injEq, Value.int.injEq, true_and, and_true]
   rw [UInt8.toNat_ofNat_of_lt' (by show _ < 256; omega)]
   omega
  have hrow : u8s (l ++ [UInt8.ofNat (k + 1)]) = u8s l ++ [1 + (k : Int)].map (Value.int .u8) := by rw [u8s_append, hu]
  have hlen : (l ++ [UInt8.ofNat (k + 1)]).length = m + 1 := by rw [List.length_append, hml.out]; rfl
  unfold Ow
  rw [hrow, hlen]
  have ho1' := ho1
  rw [← hw1.out] at ho1'
  have hom : w.ownsRow B 5 1 (.slice A m cap) m (u8s l) := by rw [← hml.out]; exact ho
  have hB1' : B ≤ (w.alloc (.cells #[.bool true, .int .i64 (k : Int), .string s, .int .u64 (id : Int)] 55)).heap.size := by rw [hw1.out]; exact hB1
  have hxx : Ext w (w.alloc (.cells #[.bool true, .int .i64 (k : Int), .string s, .int .u64 (id : Int)] 55)) := by rw [hw1.out]; exact hx1
  have hrd : Rd ((w.alloc (.cells #[.bool true, .int .i64 (k : Int), .string s, .int .u64 (id : Int)] 55)).alloc (.cells #[.int .u8 (1 + (k : Int))] 5)) (some ⟨w.heap.size + 1, 0, none⟩) ([1 + (k : Int)].map (Value.int .u8)) := by
   have := Rd.of_block (w.alloc (.cells #[.bool true, .int .i64 (k : Int), .string s, .int .u64 (id : Int)] 55)) 5 (0, 0) (cs := #[.int .u8 (1 + (k : Int))]) (l := [1 + (k : Int)].map (Value.int .u8)) rfl
   simpa using this
  clear hrow hlen hu hby h3 h4 hq hw1
  go_enter Tryz.func59, Tryz.ntmps59
  go_wp2_with (
   refine wpList_app el8 _ rfl (.tmp 7) (.tmp 12) rfl B (.slice A m cap) m (u8s l) rfl (own_ext ho1' ((Ext.refl _).alloc _)) (some ⟨w.heap.size + 1, 0, none⟩) 1 1 ([1 + (k : Int)].map (Value.int .u8)) rfl hrd rfl (fun h => by cases h) (ints8_one _) (by omega) (by omega) (by simp; omega) (fun V2 w2 ho2 hg2 hv2 => ?_))
  go_ret
  exact ⟨_, rfl, ho2, grw hB hom (hxx.alloc _) hg2⟩
 ·obtain ⟨h1, h2, h3, h4⟩ := can_txt hp hc
  have hsz := isP_size h4
  have hby : bytesP e = 0 :: (encN e.id ++ encT (bs e.s)) := by unfold bytesP; rw [if_neg hp]
  have hel : (encN e.id).length ≤ 8 := by rcases encN_length e.id with h | h; exact h; omega
  rw [hby, show l ++ 0 :: (encN e.id ++ encT (bs e.s)) = ((l ++ [0]) ++ encN e.id) ++ encT (bs e.s) by simp]
  have hp' : e.pol = false := by simpa using hp
  obtain ⟨pol, p, s, id⟩ := e
  unfold entV
  simp only at *
  subst hp'
  obtain ⟨S, hSd⟩ : ∃ S : Nat → Prop, Hid (S = fun k => (Value.slice A m cap).ownBlock = some k) := ⟨_, Lib.hid rfl⟩
  have hSr : ∀ k, (Value.slice A m cap).ownBlock = some k → S k := fun k hk => by rw [hSd.out]; exact hk
  have hSq : ¬ S q := fun e => by
   rw [hSd.out] at e
   exact own_ne_blk ho1 hbk1 (by decide) e.symm
  have hSB : ∀ k, S k → B ≤ k := fun k e => by
   rw [hSd.out] at e
   exact (ho1.lt k e).1
  obtain ⟨PO, hPO⟩ : ∃ PO : Ending → World → Prop, Hid ((fun en w' => ∃ v', en = .returned v' ∧ Ow B w' v' (((l ++ [0]) ++ encN id) ++ encT (bs s)) ∧ Below B w w') = PO) := ⟨_, Lib.hid rfl⟩
  rw [hPO.out]
  have hfin : ∀ v' w', Ow B w' v' (((l ++ [0]) ++ encN id) ++ encT (bs s)) → Below B w w' → PO (.returned v') w' := fun v' w' q1 q2 => by rw [← hPO.out]; exact ⟨v', rfl, q1, q2⟩
  clear hPO h1 hp hby ho
  go_enter Tryz.func59, Tryz.ntmps59
  go_wp2_with fail
  rw [hw1.out, hq.out]
  refine Reg.startX (R := Chg S) (by kernel_rfl) ?_
  have hRl := Reg.rl_chg S
  generalize hwq : World.drew _ = wq
  have hxq : Ext w1 wq := by rw [← hwq]; exact (Ext.refl w1).drew
  clear hwq
  have hbq := hbk1.ext hxq
  have hoq := own_ext ho1 hxq
  have hBq : B ≤ wq.heap.size := Nat.le_trans hB1 hxq.size
  have r3 : ∀ W, Chg S wq W → W.cell? ⟨q, 3, none⟩ = some (.int .u64 (id : Int)) := fun W hW => hW.cell (p := ⟨q, 3, none⟩) (hbq.cell 3) hSq
  refine Reg.tx hRl 0 ?_; (try simp only [Reg.nn])
  refine Reg.tx hRl 3 ?_; (try simp only [Reg.nn])
  refine Reg.tx hRl 4 ?_; (try simp only [Reg.nn])
  refine Reg.onlyX 1 _ rfl (by kernel_rfl) (by decide) (by rfl) (fun K hK => ?_); go_simp
  have ha : Ext wq (wq.alloc (.cells #[.int .u8 0] 5)) := (Ext.refl wq).alloc _
  refine hK.out _ _ (Chg.ofExt ha) ?_; clear hK K; (try simp only [Reg.nn])
  refine Reg.onlyX 2 _ rfl (by kernel_rfl) (by decide) (by rfl) (fun K hK => ?_)
  refine wp_app el8 _ (.tmp 15) (.tmp 16) rfl B (.slice A m cap) m (u8s l) rfl (own_ext hoq ha) (some ⟨wq.heap.size, 0, none⟩) 1 1 ([(0 : Int)].map (Value.int .u8)) rfl (Rd.of_block wq 5 (0, 0) rfl) rfl (fun h => by cases h) (ints8_one _) (by omega) (by omega) (by simp; omega) ?_
  intro V2 w4 ho4 hg4 hv4
  obtain ⟨A6, c6, rfl, jj1, jj2, jj3, jj4⟩ := Rd.of_own ho4
  have hch3 : Chg S (wq.alloc (.cells #[.int .u8 0] 5)) w4 := (Chg.ofGrown hg4).mono fun k _ e => hSr k e
  have hch4 : Chg S wq w4 := (Chg.ofExt ha).trans hch3 (fun _ _ e => e)
  have hrow : u8s l ++ [(0 : Int)].map (Value.int .u8) = u8s (l ++ [0]) := by rw [u8s_append]; rfl
  rw [hrow] at jj3 ho4
  have hrb : Rb w4 A6 (l ++ [0]) := jj3
  have hA6 : A6 = none → c6 = 0 := own_none ho4
  refine hK.out _ _ hch3 ?_
  clear hK K jj1 jj2 jj3 jj4 hv4
  (try simp only [Reg.nn])
  refine Reg.onlyX 5 _ rfl (by kernel_rfl) (by decide) (by rfl) (fun K hK => ?_); go_simp
  have hput := Put_any A6 (m + 1) c6 (l ++ [0]) id w4 hrb (by rw [List.length_append, hml.out]; rfl) hA6 (by omega) (by omega)
  rw [if_pos (by omega), if_pos (by omega)] at hput
  refine hput.mono ?_
  rintro en w5 ⟨v5, rfl, ho5, hX5⟩
  refine hK.out _ _ (Chg.ofExt hX5) ?_; clear hK K; (try simp only [Reg.nn])
  refine Reg.tx hRl 6 ?_; (try simp only [Reg.nn])
  refine Reg.tx hRl 7 ?_; (try simp only [Reg.nn])
  refine Reg.tx hRl 8 ?_; (try simp only [Reg.nn])
  refine Reg.tx hRl 9 ?_; (try simp only [Reg.nn])
  refine Reg.finX (by kernel_rfl) ?_
  have hlow5 : Below B w w5 := (Below.mono (hx1.trans hxq) hB).trans (Below.trans ⟨hch4.os, hch4.tape, hch4.output, hch4.size, fun k hk => hch4.block k (by omega) (fun e => by have := hSB k e; omega)⟩ (Below.mono hX5 (Nat.le_trans hBq hch4.size)))
  have hbk5 : Blk w5 q #[.bool false, .int .i64 p, .string s, .int .u64 (id : Int)] 55 := (hch4.blk hbq hSq).ext hX5
  obtain ⟨E, hE⟩ : ∃ z, Hid (l ++ [0] ++ encN id = z) := ⟨_, Lib.hid rfl⟩
  have hEl : E.length ≤ m + 9 := by rw [← hE.out, List.length_append, List.length_append, hml.out]; simp only [List.length_cons, List.length_nil]; omega
  rw [hE.out] at ho5 hfin
  obtain ⟨A7, c7, rfl, jj1, jj2, jj3, jj4⟩ := Rd.of_own ho5
  have hA7 : A7 = none → c7 = 0 := own_none ho5
  have hpt := PutText_any A7 E.length c7 E s w5 jj3 rfl hA7 (by omega)
  have z2 : w5.cell? ⟨q, 2, none⟩ = some (.string s) := hbk5.cell 2
  obtain ⟨NE, hNE⟩ : ∃ z, Hid (E.length = z) := ⟨_, rfl⟩
  rw [hNE.out] at hpt ⊢
  have hB5 : B ≤ w5.heap.size := by have := hlow5.size; omega
  clear jj1 jj2 jj3 jj4 hA7 r3 hEl ho5
  go_wp2_with fail
  refine hpt.mono ?_
  rintro en w6 ⟨v6, rfl, ho6, hX6⟩
  have hf6 := hfin v6 w6 (own_base ho6 hB5) (hlow5.trans (Below.mono hX6 hB5))
  clear hfin hpt
  go_wp2_with fail
  first | exact hf6 | (go_ret; exact hf6)
theorem Put_any (A : Option Addr) (m c : Nat) (l : List UInt8) (e : Et) (he : EtOk e) (w : World) (hr : Rb w A l) (hl : l.length = m) (hA : A = none → c = 0) (hm : m ≤ 140737488300000) (hwd : Wd w) (hpow : Pow w) :
  Calls Tryz.prog 26 #[.slice A m c, entV e] w fun en w' => ∃ v', en = .returned (.tuple #[v', .int .i64 (if canP e = true then 0 else 1)]) ∧ Ow w.heap.size w' v' (if canP e = true then l ++ bytesP e else l) ∧ Ext w w' := by
 obtain ⟨w1, hw1⟩ : ∃ z, Hid (w.alloc (.cells #[.bool e.pol, .int .i64 e.p, .string e.s, .int .u64 (e.id : Int)] 55) = z) := ⟨_, rfl⟩
 obtain ⟨q, hq⟩ : ∃ z, Hid (w.heap.size = z) := ⟨_, rfl⟩
 have hx1 : Ext w w1 := by rw [← hw1.out]; exact (Ext.refl w).alloc _
 have hbk1 : Blk w1 q #[.bool e.pol, .int .i64 e.p, .string e.s, .int .u64 (e.id : Int)] 55 := by rw [← hw1.out, ← hq.out]; exact Blk.new w _ _
 have hcl := clone_any A m c l w1 (hr.ext hx1) hl hA (by omega)
 have hcan := fun W (hW : Ext w W) => can_any e he W (hwd.ext hW) (hpow.ext hW)
 have hput := fun v W (ho : Ow w.heap.size W v l) hB hc => put_any w.heap.size v l e W ho hB hc (by omega)
 have hs1 := hx1.size
 obtain ⟨b, hb⟩ : ∃ z, Hid (canP e = z) := ⟨_, Lib.hid rfl⟩
 rw [hb.out]
 simp only [hb.out] at hcan hput
 obtain ⟨E, hE⟩ : ∃ z, Hid (l ++ bytesP e = z) := ⟨_, Lib.hid rfl⟩
 simp only [hE.out] at hput ⊢
 replace hput := Lib.hid hput
 replace hcan := Lib.hid hcan
 obtain ⟨pol, p, s, id⟩ := e
 unfold entV at *
 simp only at *
 have hent : ∀ W, Ext w1 W → ∀ i, W.cell? ⟨q, i, none⟩ = #[Value.bool pol, .int .i64 p, .string s, .int .u64 (id : Int)][i]? := fun W hW i => (hbk1.ext hW).cell i
 cases b with
 | false =>
  simp only [Bool.false_eq_true, if_false]
  go_enter Tryz.func26, Tryz.ntmps26
  go_wp2_with fail
  rw [hw1.out, hq.out]
  refine hcl.mono ?_
  rintro en w2 ⟨v2, rfl, ho2, hx2⟩
  have k0 := hent w2 hx2 0
  have k1 := hent w2 hx2 1
  have k2 := hent w2 hx2 2
  have k3 := hent w2 hx2 3
  simp only [List.getElem?_toArray, List.getElem?_cons_zero, List.getElem?_cons_succ] at k0 k1 k2 k3
  have hc2 := hcan.out w2 (hx1.trans hx2)
  clear hcl hent
  go_wp2_with fail
  refine hc2.mono ?_
  rintro en w3 ⟨rfl, hx3⟩
  clear hc2
  go_wp2_with fail
  go_ret2
  exact ⟨v2, rfl, own_ext (own_base ho2 hs1) hx3, (hx1.trans hx2).trans hx3⟩
 | true =>
  simp only [if_true]
  go_enter Tryz.func26, Tryz.ntmps26
  go_wp2_with fail
  rw [hw1.out, hq.out]
  refine hcl.mono ?_
  rintro en w2 ⟨v2, rfl, ho2, hx2⟩
  have k0 := hent w2 hx2 0
  have k1 := hent w2 hx2 1
  have k2 := hent w2 hx2 2
  have k3 := hent w2 hx2 3
  simp only [List.getElem?_toArray, List.getElem?_cons_zero, List.getElem?_cons_succ] at k0 k1 k2 k3
  have hc2 := hcan.out w2 (hx1.trans hx2)
  clear hcl
  go_wp2_with fail
  refine hc2.mono ?_
  rintro en w3 ⟨rfl, hx3⟩
  have j0 := hent w3 (hx2.trans hx3) 0
  have j1 := hent w3 (hx2.trans hx3) 1
  have j2 := hent w3 (hx2.trans hx3) 2
  have j3 := hent w3 (hx2.trans hx3) 3
  simp only [List.getElem?_toArray, List.getElem?_cons_zero, List.getElem?_cons_succ] at j0 j1 j2 j3
  have hx03 := (hx1.trans hx2).trans hx3
  have hp3 := hput.out v2 w3 (own_ext (own_base ho2 hs1) hx3) hx03.size trivial
  clear hc2 k0 k1 k2 k3 hent
  go_wp2_with fail
  refine hp3.mono ?_
  rintro en w4 ⟨v4, rfl, ho4, hx4⟩
  clear hp3
  go_wp2_with fail
  go_ret2
  exact ⟨v4, rfl, ho4, Below.trans hx03 hx4⟩
end Go.Proofs.YtbpfabhlngfciaaGreatDoor.Ch
namespace Go.Proofs.YtbpfabhlngfciaaGreatDoor.Rk
open Go.ChangeShapes Go.WideShapes Go.ChangeAt Go.RowKit
open Base Pf Cn Pr Lx Mi Ch Rc
theorem rcan_any (e : Et) (he : EtOk e) (w : World) : Calls Tryz.prog 29 #[entV e] w fun en w' => en = .returned (.bool (canP e)) ∧ Ext w w' := by
 obtain ⟨p1, p2, s1, id1⟩ := he
 have hcan : canP e = if e.pol = true then decide (0 ≤ e.p) && decide (e.p < 7) && decide (e.s = ⟨#[]⟩) && decide (e.id = 0) else decide (e.p = 0) && decide (1 ≤ e.id) && decide (e.id ≤ 2147483647) && isP e.s := rfl
 obtain ⟨R, hR⟩ : ∃ z, Hid (canP e = z) := ⟨_, Lib.hid rfl⟩
 rw [hR.out] at hcan ⊢
 obtain ⟨pol, p, s, id⟩ := e
 unfold entV
 simp only at *
 obtain ⟨w1, hw1⟩ : ∃ z, Hid (w.alloc (.cells #[.bool pol, .int .i64 p, .string s, .int .u64 (id : Int)] 55) = z) := ⟨_, rfl⟩
 have hx1 : Ext w w1 := by rw [← hw1.out]; exact (Ext.refl w).alloc _
 have his := rIs_any s (by omega) w1
 obtain ⟨b, hb⟩ : ∃ z, Hid (isP s = z) := ⟨_, Lib.hid rfl⟩
 rw [hb.out] at his hcan
 clear p1 p2 s1 id1
 cases pol with
 | true =>
  rw [if_pos rfl] at hcan
  clear his
  by_cases q1 : 0 ≤ p
  ·by_cases q2 : p < 7
   ·have q26 : p ≤ 6 := by omega
    by_cases q3 : s = ⟨#[]⟩
    ·obtain ⟨z1, z2, z3⟩ := str_em q3
     by_cases q4 : id = 0
     ·have hR1 : R = true := by rw [hcan]; simp [q1, q2, q3, q4]
      subst hR1
      subst q4
      subst q3
      clear hcan
      go_enter Tryz.func29, Tryz.ntmps29
      go_wp2_with fail
      go_ret
      exact ⟨rfl, (Ext.refl w).alloc _⟩
     ·have hR1 : R = false := by rw [hcan]; simp [q4]
      subst hR1
      have q4b : ((id : Int) == 0) = false := by simpa using (by omega : ¬ (id : Int) = 0)
      have q4c : ¬ (id : Int) = 0 := by omega
      subst q3
      clear hcan
      go_enter Tryz.func29, Tryz.ntmps29
      go_wp2_with fail
      go_ret
      exact ⟨rfl, (Ext.refl w).alloc _⟩
    ·obtain ⟨z1, z2, z3⟩ := str_ne0 q3
     have hR1 : R = false := by rw [hcan]; simp [q3]
     subst hR1
     clear q3 hcan
     go_enter Tryz.func29, Tryz.ntmps29
     go_wp2_with fail
     go_ret
     exact ⟨rfl, (Ext.refl w).alloc _⟩
   ·have q26 : ¬ p ≤ 6 := by omega
    have hR1 : R = false := by rw [hcan]; simp [q2]
    subst hR1
    clear hcan
    go_enter Tryz.func29, Tryz.ntmps29
    go_wp2_with fail
    go_ret
    exact ⟨rfl, (Ext.refl w).alloc _⟩
  ·have hR1 : R = false := by rw [hcan]; simp [q1]
   subst hR1
   clear hcan
   go_enter Tryz.func29, Tryz.ntmps29
   go_wp2_with fail
   go_ret
   exact ⟨rfl, (Ext.refl w).alloc _⟩
 | false =>
  rw [if_neg (by decide)] at hcan
  by_cases q1 : p = 0
  ·subst q1
   by_cases q2 : 1 ≤ id
   ·have q2i : 0 < id := by omega
    by_cases q3 : id ≤ 2147483647
    ·have q3i : id < 2147483648 := by omega
     have hR1 : R = b := by rw [hcan]; simp [q2, q3]
     subst hR1
     clear hcan
     obtain ⟨k, rfl⟩ : ∃ k, id = k + 1 := ⟨id - 1, by omega⟩
     have k3i : (k : Int) + 1 < 2147483648 := by omega
     rw [show ((k + 1 : Nat) : Int) = (k : Int) + 1 by omega] at hw1
     clear q3 q2 q2i q3i
     go_enter Tryz.func29, Tryz.ntmps29
     go_wp2_with fail
     rw [hw1.out]
     refine his.mono ?_
     rintro en w2 ⟨rfl, hx2⟩
     go_wp2_with fail
     go_ret
     exact ⟨rfl, hx1.trans hx2⟩
    ·have q3i : ¬ id < 2147483648 := by omega
     have hR1 : R = false := by rw [hcan]; simp [q3]
     subst hR1
     clear hcan his
     obtain ⟨k, rfl⟩ : ∃ k, id = k + 1 := ⟨id - 1, by omega⟩
     have k3i : ¬ (k : Int) + 1 < 2147483648 := by omega
     clear q3 q2 q2i q3i
     go_enter Tryz.func29, Tryz.ntmps29
     go_wp2_with fail
     go_ret
     exact ⟨rfl, (Ext.refl w).alloc _⟩
   ·have q2i : ¬ 0 < id := by omega
    have hR1 : R = false := by rw [hcan]; simp [q2]
    subst hR1
    clear hcan his
    go_enter Tryz.func29, Tryz.ntmps29
    go_wp2_with fail
    go_ret
    exact ⟨rfl, (Ext.refl w).alloc _⟩
  ·have hR1 : R = false := by rw [hcan]; simp [q1]
   subst hR1
   have q1b : ((p : Int) == 0) = false := by simpa using q1
   clear hcan his
   go_enter Tryz.func29, Tryz.ntmps29
   go_wp2_with fail
   go_ret
   exact ⟨rfl, (Ext.refl w).alloc _⟩
end Go.Proofs.YtbpfabhlngfciaaGreatDoor.Rk
namespace Go.Proofs.YtbpfabhlngfciaaGreatDoor.Rf
open Base Pf
def sizeP (n : Nat) : Nat := if n < 64 then 1 else if n < 16384 then 2 else if n < 1073741824 then 4 else if n < 4611686018427387904 then 8 else 0
theorem size_cls (n : Nat) (j : Nat) (hj : j ≤ 3) : sizeP n = 2 ^ j ↔ cls n = (j : Int) := by
 have : j = 0 ∨ j = 1 ∨ j = 2 ∨ j = 3 := by omega
 unfold sizeP cls
 rcases this with rfl | rfl | rfl | rfl <;> (repeat' split) <;> simp <;> omega
theorem size_no (n : Nat) : sizeP n = 0 ↔ 4611686018427387904 ≤ n := by
 unfold sizeP
 repeat' split
 all_goals omega
def kP (l : List UInt8) : Nat := if (takeP l).2.2 = 0 then l.length - (takeP l).2.1.length else 0
theorem take_drop (l : List UInt8) (h : (takeP l).2.2 = 0) : (takeP l).2.1 = l.drop (kP l) ∧ kP l ≤ l.length := by
 unfold kP
 rw [if_pos h]
 refine ⟨?_, Nat.sub_le _ _⟩
 cases l with
 | nil => cases h
 | cons c r =>
  rw [takeP] at h ⊢
  split at h
  ·cases h
  ·next h1 =>
   rw [if_neg h1]
   split at h
   ·cases h
   ·next h2 =>
    rw [if_neg h2]
    have e : (c :: r).length - ((c :: r).drop (2 ^ (c.toNat / 64))).length = 2 ^ (c.toNat / 64) := by
     rw [List.length_drop]; exact Nat.sub_sub_self (Nat.not_lt.1 h1)
    simp only [e]
end Go.Proofs.YtbpfabhlngfciaaGreatDoor.Rf
namespace Go.Proofs.YtbpfabhlngfciaaGreatDoor.Rf
open Go.ChangeShapes Go.WideShapes Go.ChangeAt Go.RowKit
open Base Pf
theorem Size_any (n : Nat) (hn : n < 18446744073709551616) (w : World) : Calls Tryz.prog 89 #[.int .u64 (n : Int)] w fun e w' => e = .returned (.int .i64 (sizeP n : Int)) ∧ w' = w := by
 obtain ⟨r, hr⟩ : ∃ r, Hid (sizeP n = r) := ⟨_, Lib.hid rfl⟩
 rw [hr.out]
 by_cases h0 : n < 64
 ·have e : r = 1 := by rw [← hr.out, sizeP, if_pos h0]
  subst e
  have h0' : (n : Int) < 64 := by omega
  clear hn hr
  go_enter Tryz.func89, Tryz.ntmps89
  go_wp2_with fail
  go_ret
  exact ⟨rfl, rfl⟩
 have h0' : ¬ (n : Int) < 64 := by omega
 by_cases h1 : n < 16384
 ·have e : r = 2 := by rw [← hr.out, sizeP, if_neg h0, if_pos h1]
  subst e
  have h1' : (n : Int) < 16384 := by omega
  clear hn hr
  go_enter Tryz.func89, Tryz.ntmps89
  go_wp2_with fail
  go_ret
  exact ⟨rfl, rfl⟩
 have h1' : ¬ (n : Int) < 16384 := by omega
 by_cases h2 : n < 1073741824
 ·have e : r = 4 := by rw [← hr.out, sizeP, if_neg h0, if_neg h1, if_pos h2]
  subst e
  have h2' : (n : Int) < 1073741824 := by omega
  clear hn hr
  go_enter Tryz.func89, Tryz.ntmps89
  go_wp2_with fail
  go_ret
  exact ⟨rfl, rfl⟩
 have h2' : ¬ (n : Int) < 1073741824 := by omega
 by_cases h3 : n < 4611686018427387904
 ·have e : r = 8 := by rw [← hr.out, sizeP, if_neg h0, if_neg h1, if_neg h2, if_pos h3]
  subst e
  have h3' : (n : Int) < 4611686018427387904 := by omega
  clear hn hr
  go_enter Tryz.func89, Tryz.ntmps89
  go_wp2_with fail
  go_ret
  exact ⟨rfl, rfl⟩
 have h3' : ¬ (n : Int) < 4611686018427387904 := by omega
 have e : r = 0 := by rw [← hr.out, sizeP, if_neg h0, if_neg h1, if_neg h2, if_neg h3]
 subst e
 clear hn hr
 go_enter Tryz.func89, Tryz.ntmps89
 go_wp2_with fail
 go_ret
 exact ⟨rfl, rfl⟩
end Go.Proofs.YtbpfabhlngfciaaGreatDoor.Rf
namespace Go.Proofs.YtbpfabhlngfciaaGreatDoor.Pr
open Go.ChangeShapes Go.WideShapes Go.ChangeAt Go.RowKit
open Base
theorem app0_run {P : Program} {t e : TypeId} {z : Value} {size bytes : Nat} (E : El P t e z size bytes) (w : World) (ty : TypeId) (base : Nat)
  (g : Nat) (hown : w.ownsRow base e size (.slice (some ⟨g, 0, none⟩) 0 0) 0 [])
  (A : Option Addr) (m c : Nat) (news : List Value) (hr : Rd w A news) (hl : news.length = m * size) (hA : A = none → c = 0)
  (hbytes : m * bytes ≤ 140737488355328) (hby : 0 < bytes) (hbase : base ≤ w.heap.size) :
  ∃ v' w', (Builtin.append_ #[t, t] ty #[.slice (some ⟨g, 0, none⟩) 0 0, .slice A m c]).run P w = .ok v' w' ∧ w'.ownsRow base e size v' m news ∧ Ext w w' := by
 obtain ⟨i, hi, hz, hs, hb⟩ := info_parts E.info
 have hpos := E.pos
 by_cases hne : news = []
 ·subst hne
  have hm : m = 0 := by
   rcases Nat.eq_zero_or_pos m with h | h
   ·exact h
   ·have := Nat.mul_pos h hpos; simp at hl; omega
  subst hm
  refine ⟨_, w, ?_, hown, Ext.refl w⟩
  cases A with
  | none =>
   rw [hA rfl]
   exact run_append_nothing (P := P) w t t ty e i E.under hi (some ⟨g, 0, none⟩) 0 0 (Nat.le_refl _) _ (Src.ofNil (P := P) (w := w) E.under 0)
  | some ad =>
   exact run_append_nothing (P := P) w t t ty e i E.under hi (some ⟨g, 0, none⟩) 0 0 (Nat.le_refl _) _ (Src.ofSlice (P := P) (w := w) E.under ad 0 c [] (by simp) (by simp) (fun u hu => by cases hu))
 ·obtain ⟨b, off, rfl, hc⟩ := hr hne
  have hm : 0 < m := by
   rcases Nat.eq_zero_or_pos m with h | h
   ·subst h; rw [Nat.zero_mul] at hl; exact absurd (List.eq_nil_of_length_eq_zero hl) hne
   ·exact h
  have h63 : m ≤ maxLen := by
   have h : m * 1 ≤ m * bytes := Nat.mul_le_mul_left _ hby
   unfold maxLen; omega
  have h63' : ((0 + m : Nat) : Int) ≤ 9223372036854775807 := by unfold maxLen at h63; omega
  have hr := run_append_grow (P := P) w t ty e i z E.under hi hz ⟨g, 0, none⟩ 0 0 [] (by simp) (by simp) ⟨b, off, none⟩ m c news (by rw [hs]; exact hl) (fun j u hj => by
   have hadd : (⟨b, off, none⟩ : Addr).add j = ⟨b, off + j, none⟩ := by unfold Addr.add; split <;> simp_all
   rw [hadd]; exact hc j u hj) (by omega) h63' (growslice_fits (by omega) (by rw [hb, Nat.zero_add]; exact hbytes))
  have hge := grownCap_ge w (0 + m) 0 e
  have hcm : grownCap w (0 + m) 0 e ≤ maxLen := grownCap_le_maxLen w (0 + m) 0 e (by omega)
  refine ⟨_, _, hr, ⟨hl, .inr ⟨w.heap.size, _, _, by rw [Nat.zero_add], hbase, heap_alloc_new w.drew _, by rw [Nat.zero_add] at hge; exact hge, by rw [Nat.zero_add] at hcm; exact hcm, ?_, ?_⟩⟩, ((Ext.refl w).drew).alloc _⟩
  ·have e1 : m * size + (grownCap w (0 + m) 0 e - (0 + m)) * size = grownCap w (0 + m) 0 e * size := by
    rw [← Nat.add_mul]; congr 1; omega
   simp only [Array.size_append, List.size_toArray, size_zeroCells, E.cells, hl, List.length_nil, Nat.zero_add] at e1 ⊢
   exact e1
  ·simp only [Array.toList_append, List.append_assoc]
   rw [← hl]
   simp
theorem wp_app0 {P : Program} {t e : TypeId} {z : Value} {size bytes : Nat} (E : El P t e z size bytes) (w : World) {o : Oper} {a : Act} {K : Act → World → Prop} {Q : Exit → Act → World → Prop} (s x : Operand)
  (ho : o.op = .call { callee := .builtin .append, args := #[s, x], argTypes := #[t, t] }) (base : Nat)
  (g : Nat) (hs : a.eval s = .slice (some ⟨g, 0, none⟩) 0 0) (hown : w.ownsRow base e size (.slice (some ⟨g, 0, none⟩) 0 0) 0 [])
  (A : Option Addr) (m c : Nat) (news : List Value) (hx : a.eval x = .slice A m c) (hr : Rd w A news) (hl : news.length = m * size) (hA : A = none → c = 0)
  (hbytes : m * bytes ≤ 140737488355328) (hby : 0 < bytes) (hbase : base ≤ w.heap.size)
  (h : ∀ v' w', w'.ownsRow base e size v' m news → Ext w w' → K (a.put o.dst v') w') : o.wp P a w K Q := by
 obtain ⟨v', w', hrun, h2, h3⟩ := app0_run E w o.type base g hown A m c news hr hl hA hbytes hby hbase
 unfold Oper.wp execOp
 simp only [ho, resolve, invoke, builtin, Sem.run_bind, Sem.run_pure, Result.andThen_ok, List.map_toArray, List.map_cons, List.map_nil, hs, hx, hrun]
 exact h v' w' h2 h3
end Go.Proofs.YtbpfabhlngfciaaGreatDoor.Pr
namespace Go.Proofs.YtbpfabhlngfciaaGreatDoor.Rf
open Go.ChangeShapes Go.WideShapes Go.ChangeAt Go.RowKit
open Base Pf Piece Pr
theorem wpList_app0 {P : Program} {t e : TypeId} {z : Value} {size bytes : Nat} (E : El P t e z size bytes) (w : World) {ops : Array Oper} {rest : List Oper} {o : Oper} {a : Act} {Q : Exit → Act → World → Prop} (hgd : o.guard = none) (s x : Operand)
  (ho : o.op = .call { callee := .builtin .append, args := #[s, x], argTypes := #[t, t] }) (base : Nat)
  (g : Nat) (hs : a.eval s = .slice (some ⟨g, 0, none⟩) 0 0) (hown : w.ownsRow base e size (.slice (some ⟨g, 0, none⟩) 0 0) 0 [])
  (A : Option Addr) (m c : Nat) (news : List Value) (hx : a.eval x = .slice A m c) (hr : Rd w A news) (hl : news.length = m * size) (hA : A = none → c = 0)
  (hbytes : m * bytes ≤ 140737488355328) (hby : 0 < bytes) (hbase : base ≤ w.heap.size)
  (h : ∀ v' w', w'.ownsRow base e size v' m news → Ext w w' → wpList P ops Q rest (a.put o.dst v') w') : wpList P ops Q (o :: rest) a w :=
 wpList_plain hgd fun _ hK => wp_app0 E w s x ho base g hs hown A m c news hx hr hl hA hbytes hby hbase fun v' w' h2 h3 => hK _ _ (h v' w' h2 h3)
theorem seqM' {P : Program} {a b : Code} {Q : Exit → Act → World → Prop} {act : Act} {w : World} (M : Act → World → Prop) (h1 : ∀ K : Act → World → Prop, (∀ a w, M a w → K a w) → a.wp P (Exit.then K Q) act w) (h2 : ∀ a w, M a w → b.wp P Q a w) : (Code.seq a b).wp P Q act w := wp_seq (h1 _ h2)
theorem be_get : ∀ (m v t : Nat), t < m → (be m v)[t]? = some (UInt8.ofNat (v / 256 ^ (m - 1 - t) % 256))
 | 0, _, _, h => by omega
 | m + 1, v, 0, h => by simp [be]
 | m + 1, v, t + 1, h => by
  rw [be, List.getElem?_cons_succ, be_get m v t (by omega)]
  congr 5
  omega
theorem enc_get {n j : Nat} (hj : j ≤ 3) (h : cls n = j) (t : Nat) (ht : t < 2 ^ j) : ∃ y : UInt8, (encN n)[t]? = some y ∧ y.toNat = n / 256 ^ (2 ^ j - 1 - t) % 256 + (if t = 0 then 64 * j else 0) := by
 have hlt := cls_lt hj h
 have hkk : (cls n).toNat = j := by rw [h]; rfl
 obtain ⟨m, hm⟩ : ∃ m, 2 ^ j = m + 1 := ⟨2 ^ j - 1, by have : 0 < 2 ^ j := Nat.two_pow_pos j; omega⟩
 have hp : 2 ^ (8 * 2 ^ j - 2) = 64 * 256 ^ m := by
  rw [hm, show 8 * (m + 1) - 2 = 8 * m + 6 by omega, Nat.pow_add, Nat.pow_mul]
  rw [Nat.mul_comm]
 rw [hm] at hlt ht ⊢
 simp only [Nat.add_sub_cancel] at hlt ⊢
 refine ⟨_, by unfold encN putP; rw [hkk, hm, be_get _ _ _ ht, ← hm, hp, hm], ?_⟩
 simp only [Nat.add_sub_cancel]
 rw [UInt8.toNat_ofNat_of_lt' (by show _ % 256 < 256; omega)]
 cases t with
 | zero =>
  have hP : 0 < 256 ^ m := Nat.pos_of_ne_zero (by simp)
  obtain ⟨q, hq0⟩ : ∃ q, n / 256 ^ m = q := ⟨_, rfl⟩
  have hq : q < 64 := by rw [← hq0, Nat.div_lt_iff_lt_mul hP]; exact hlt
  rw [Nat.sub_zero, if_pos rfl, ← Nat.mul_assoc, Nat.add_mul_div_right _ _ hP, hq0]
  omega
 | succ t =>
  have hP : 0 < 256 ^ (m - (t + 1)) := Nat.pos_of_ne_zero (by simp)
  have e : 256 ^ m = 256 ^ t * 256 * 256 ^ (m - (t + 1)) := by rw [← Nat.pow_succ, ← Nat.pow_add]; congr 1; omega
  rw [if_neg (by omega), e, Nat.add_zero]
  have e2 : j * (64 * (256 ^ t * 256 * 256 ^ (m - (t + 1)))) = (j * 64 * 256 ^ t * 256) * 256 ^ (m - (t + 1)) := by
   simp only [Nat.mul_assoc]
  rw [e2, Nat.add_mul_div_right _ _ hP, Nat.add_mul_mod_self_right]; rfl
set_option maxRecDepth 1000000 in
theorem lay49 {v0 v1 v2 v3 v4 v5 v6 v7 : Value} {a : Act} (h : Piece.Fr 49 [v0, v1, v2, v3, v4, v5, v6, v7] a) : ∃ u : Nat → Value, a = ⟨(v0 :: v1 :: v2 :: v3 :: v4 :: v5 :: v6 :: v7 :: u 8 :: u 9 :: u 10 :: u 11 :: u 12 :: u 13 :: u 14 :: u 15 :: u 16 :: u 17 :: u 18 :: u 19 :: u 20 :: u 21 :: u 22 :: u 23 :: u 24 :: u 25 :: u 26 :: u 27 :: u 28 :: u 29 :: u 30 :: u 31 :: u 32 :: u 33 :: u 34 :: u 35 :: u 36 :: u 37 :: u 38 :: u 39 :: u 40 :: u 41 :: u 42 :: u 43 :: u 44 :: u 45 :: u 46 :: u 47 :: u 48 :: []).toArray, []⟩ := by
 obtain ⟨u, hu⟩ := h.spread
 refine ⟨u, hu.trans ?_⟩
 kernel_rfl
set_option maxRecDepth 1000000 in
theorem lay499 {v0 v1 v2 v3 v4 v5 v6 v7 v8 : Value} {a : Act} (h : Piece.Fr 49 [v0, v1, v2, v3, v4, v5, v6, v7, v8] a) : ∃ u : Nat → Value, a = ⟨(v0 :: v1 :: v2 :: v3 :: v4 :: v5 :: v6 :: v7 :: v8 :: u 9 :: u 10 :: u 11 :: u 12 :: u 13 :: u 14 :: u 15 :: u 16 :: u 17 :: u 18 :: u 19 :: u 20 :: u 21 :: u 22 :: u 23 :: u 24 :: u 25 :: u 26 :: u 27 :: u 28 :: u 29 :: u 30 :: u 31 :: u 32 :: u 33 :: u 34 :: u 35 :: u 36 :: u 37 :: u 38 :: u 39 :: u 40 :: u 41 :: u 42 :: u 43 :: u 44 :: u 45 :: u 46 :: u 47 :: u 48 :: []).toArray, []⟩ := by
 obtain ⟨u, hu⟩ := h.spread
 refine ⟨u, hu.trans ?_⟩
 kernel_rfl
set_option maxRecDepth 1000000 in
theorem lay496 {v0 v1 v2 v3 v4 v5 : Value} {a : Act} (h : Piece.Fr 49 [v0, v1, v2, v3, v4, v5] a) : ∃ u : Nat → Value, a = ⟨(v0 :: v1 :: v2 :: v3 :: v4 :: v5 :: u 6 :: u 7 :: u 8 :: u 9 :: u 10 :: u 11 :: u 12 :: u 13 :: u 14 :: u 15 :: u 16 :: u 17 :: u 18 :: u 19 :: u 20 :: u 21 :: u 22 :: u 23 :: u 24 :: u 25 :: u 26 :: u 27 :: u 28 :: u 29 :: u 30 :: u 31 :: u 32 :: u 33 :: u 34 :: u 35 :: u 36 :: u 37 :: u 38 :: u 39 :: u 40 :: u 41 :: u 42 :: u 43 :: u 44 :: u 45 :: u 46 :: u 47 :: u 48 :: []).toArray, []⟩ := by
 obtain ⟨u, hu⟩ := h.spread
 refine ⟨u, hu.trans ?_⟩
 kernel_rfl
theorem rPut_any (A : Option Addr) (m c : Nat) (l : List UInt8) (n : Nat) (w : World) (hr : Rb w A l) (hl : l.length = m) (hA : A = none → c = 0) (hm : m ≤ 140737488355000) (hn : n < 18446744073709551616) :
  Calls Tryz.prog 55 #[.slice A m c, .int .u64 (n : Int)] w fun e w' => ∃ v', e = .returned (.tuple #[v', .int .i64 (if n < 4611686018427387904 then 0 else 1)]) ∧ Ow w.heap.size w' v' (if n < 4611686018427387904 then l ++ encN n else l) ∧ Ext w w' := by
 have hsz := fun W => Size_any n hn W
 obtain ⟨SZ, hSZ⟩ : ∃ z, Hid (sizeP n = z) := ⟨_, Lib.hid rfl⟩
 simp only [hSZ.out] at hsz
 obtain ⟨wl, hwl⟩ : ∃ z, Hid (w.alloc (.cells #[] 5) = z) := ⟨_, rfl⟩
 have hx1 : Ext w wl := by rw [← hwl.out]; exact (Ext.refl w).alloc _
 have hlit : (w.alloc (.cells #[] 5)).ownsRow w.heap.size 5 1 (.slice (some ⟨w.heap.size, 0, none⟩) 0 0) 0 [] := World.ownsRow_lit w #[] 0 (Nat.le_refl _) (Nat.zero_le _) rfl
 have hr1 := hr.ext ((Ext.refl w).alloc (.cells #[] 5))
 have hb1 := ((Ext.refl w).alloc (.cells #[] 5)).size
 have hl8 : (u8s l).length = m * 1 := by rw [u8s_length, hl, Nat.mul_one]
 replace hA := Lib.hid hA
 replace hsz := Lib.hid hsz
 by_cases h : n < 4611686018427387904
 ·simp only [if_pos h]
  obtain ⟨j, hj, hc⟩ := cls_k h
  have hget := enc_get hj hc
  have hsj := (size_cls n j hj).2 hc
  obtain ⟨E, hE⟩ : ∃ z, Hid (encN n = z) := ⟨_, Lib.hid rfl⟩
  rw [hE.out] at hget ⊢
  have hEl : E.length = 2 ^ j := by rw [← hE.out]; unfold encN putP; rw [be_length, hc]; rfl
  obtain ⟨PO, hPO⟩ : ∃ PO : Ending → World → Prop, Hid ((fun e w' => ∃ v', e = .returned (.tuple #[v', .int .i64 0]) ∧ Ow w.heap.size w' v' (l ++ E) ∧ Ext w w') = PO) := ⟨_, Lib.hid rfl⟩
  rw [hPO.out]
  rw [hSZ.out] at hsj
  subst hsj
  have hfin : ∀ v' w', Ow w.heap.size w' v' (l ++ E) → Ext w w' → PO (.returned (.tuple #[v', .int .i64 0])) w' := fun v' w' q1 q2 => by rw [← hPO.out]; exact ⟨v', rfl, q1, q2⟩
  obtain ⟨KK, hKK⟩ : ∃ z, Hid (2 ^ j = z) := ⟨_, Lib.hid rfl⟩
  have hj4 : j = 0 ∨ j = 1 ∨ j = 2 ∨ j = 3 := by omega
  have hK8 : 1 ≤ KK ∧ KK ≤ 8 := by rw [← hKK.out]; rcases hj4 with rfl | rfl | rfl | rfl <;> decide
  rw [hKK.out] at hsz hget hEl
  have hk0 : ((KK : Int) == 0) = false := by simp; omega
  replace hget := Lib.hid hget
  replace hfin := Lib.hid hfin
  clear hPO hSZ hE hc h
  go_enter Tryz.func55, Tryz.ntmps55
  conv => arg 2; whnf
  refine seqM' (fun a' w' => Fr 49 [.slice A m c, .int .u64 (n : Int), undef, undef, .slice none 0 0, .int .i64 0] a' ∧ w' = w) ?_ ?_
  ·intro K hK
   go_wp2_with fail
   first | exact ⟨⟨_, rfl, rfl⟩, rfl⟩ | exact ⟨_, rfl, rfl⟩
  rintro a1 w1 ⟨hF, hw1⟩
  replace hw1 := hw1.symm
  subst hw1
  obtain ⟨u, rfl⟩ := lay496 hF
  clear hF
  refine seqM' (fun a' w' => ∃ v, Fr 49 [.slice A m c, .int .u64 (n : Int), undef, undef, .slice none 0 0, .int .i64 0, v, .int .i64 (KK : Int)] a' ∧ w'.ownsRow w.heap.size 5 1 v m (u8s l) ∧ Ext w w') ?_ ?_
  ·intro K hK
   go_wp2_with (
    refine wpList_app0 el8 _ rfl (.tmp 11) (.tmp 12) rfl _ _ rfl hlit A m c (u8s l) rfl hr1 hl8 hA.out (by omega) (by omega) hb1 (fun v' w' ho' hx' => ?_)
    have hs1 := hsz.out w'
    clear hlit hr1 hl8 hb1)
   refine hs1.mono ?_
   rintro e w3 ⟨rfl, hw3⟩
   replace hw3 := hw3.symm
   subst hw3
   go_wp2_with fail
   exact ⟨v', ⟨_, rfl, rfl⟩, ho', ((Ext.refl w).alloc _).trans hx'⟩
  rintro a1 w2 ⟨v2, hF, ho2, hx2⟩
  obtain ⟨u, rfl⟩ := lay49 hF
  clear hF hlit hr1 hl8 hb1
  refine seqM' (fun a' w' => Fr 49 [.slice A m c, .int .u64 (n : Int), undef, undef, .slice none 0 0, .int .i64 0, v2, .int .i64 (KK : Int)] a' ∧ w' = w2) ?_ ?_
  ·intro K hK
   go_wp2_with fail
   first | exact ⟨⟨_, rfl, rfl⟩, rfl⟩ | exact ⟨_, rfl, rfl⟩
  rintro a1 w1 ⟨hF, hw1⟩
  replace hw1 := hw1.symm
  subst hw1
  obtain ⟨u, rfl⟩ := lay49 hF
  clear hF
  refine seqM' (fun a' w' => Fr 49 [.slice A m c, .int .u64 (n : Int), undef, undef, .slice none 0 0, .int .i64 0, v2, .int .i64 (KK : Int), .int .u8 0] a' ∧ w' = w2) ?_ ?_
  ·intro K hK
   go_wp2_with fail
   first | exact ⟨⟨_, rfl, rfl⟩, rfl⟩ | exact ⟨_, rfl, rfl⟩
  rintro a1 w1 ⟨hF, hw1⟩
  replace hw1 := hw1.symm
  subst hw1
  obtain ⟨u, rfl⟩ := lay499 hF
  clear hF
  refine seqM' (fun a' w' => Fr 49 [.slice A m c, .int .u64 (n : Int), undef, undef, .slice none 0 0, .int .i64 0, v2, .int .i64 (KK : Int), .int .u8 ((64 * j : Nat) : Int)] a' ∧ w' = w2) ?_ ?_
  ·intro K hK
   rcases hj4 with rfl | rfl | rfl | rfl
   ·obtain rfl : KK = 1 := by rw [← hKK.out]
    go_wp2_with fail
    all_goals first | exact ⟨⟨_, rfl, rfl⟩, rfl⟩ | exact ⟨_, rfl, rfl⟩
   ·obtain rfl : KK = 2 := by rw [← hKK.out]
    go_wp2_with fail
    all_goals first | exact ⟨⟨_, rfl, rfl⟩, rfl⟩ | exact ⟨_, rfl, rfl⟩
   ·obtain rfl : KK = 4 := by rw [← hKK.out]
    go_wp2_with fail
    all_goals first | exact ⟨⟨_, rfl, rfl⟩, rfl⟩ | exact ⟨_, rfl, rfl⟩
   ·obtain rfl : KK = 8 := by rw [← hKK.out]
    go_wp2_with fail
    all_goals first | exact ⟨⟨_, rfl, rfl⟩, rfl⟩ | exact ⟨_, rfl, rfl⟩
  rintro a1 w1 ⟨hF, hw1⟩
  replace hw1 := hw1.symm
  subst hw1
  obtain ⟨u, rfl⟩ := lay499 hF
  clear hF
  obtain ⟨hb, hhb⟩ : ∃ z, Hid (64 * j = z) := ⟨_, Lib.hid rfl⟩
  rw [hhb.out]
  go_wp2_with fail
  go_loopw [6, 9] (fun v6 v9 wr => ∃ t i : Nat, t + i = KK ∧ v9 = .int .i64 ((i : Int) - 1) ∧ Ow w.heap.size wr v6 (l ++ E.take t) ∧ Ext w wr) (fun _ v9 _ => (intOf v9 + 1).toNat)
  case atStart => exact ⟨0, KK, by omega, rfl, by rw [List.take_zero, List.append_nil]; unfold Ow; rw [hl]; exact ho2, hx2⟩
  case round =>
   obtain ⟨t, i, hti, rfl, ho, hx⟩ := hrel
   obtain ⟨A6, c6, rfl, jj1, jj2, jj3, jj4⟩ := Rd.of_own ho
   have hlen : (l ++ E.take t).length = m + t := by rw [List.length_append, hl, List.length_take]; omega
   have ho6 : wr.ownsRow w.heap.size 5 1 (.slice A6 (m + t) c6) (m + t) (u8s (l ++ E.take t)) := by have := ho; unfold Ow at this; rw [hlen] at this; exact this
   rw [hlen]
   clear jj1 jj2 jj3 jj4
   cases i with
   | zero =>
    have htk : t = KK := by omega
    subst htk
    rw [List.take_of_length_le (by omega)] at ho
    have hp := hfin.out _ _ ho hx
    rw [show (l ++ E).length = m + t by rw [List.length_append, hl, hEl]] at hp
    rw [show (((0 : Nat) : Int) - 1) = -1 by omega]
    clear hget hfin ho ho6 hlen
    go_wp2_with fail
    exact hp
   | succ i =>
    rw [show (((i + 1 : Nat) : Int) - 1) = (i : Int) by omega]
    obtain ⟨y, hy, hyn⟩ := hget.out t (by omega)
    rw [show KK - 1 - t = i by omega] at hyn
    have hi8 : i < 8 := by omega
    have hpw : (256 : Nat) ^ i = 2 ^ (8 * i) := by rw [Nat.pow_mul]
    rw [hpw] at hyn
    have hsn : E.take (t + 1) = E.take t ++ [y] := by rw [List.take_add_one, hy]; rfl
    have hrow : u8s (l ++ E.take t) ++ [(y.toNat : Int)].map (Value.int .u8) = u8s (l ++ E.take (t + 1)) := by rw [hsn, ← List.append_assoc, u8s_append (l ++ E.take t)]; rfl
    have hlen' : (l ++ E.take (t + 1)).length = m + t + 1 := by rw [List.length_append, hl, List.length_take]; omega
    have hBr := hx.size
    have hbb : (m + t + 1) * 1 ≤ 140737488355328 := by omega
    have hrel : ∀ v w', w'.ownsRow w.heap.size 5 1 v (m + t + 1) (u8s (l ++ E.take t) ++ [(y.toNat : Int)].map (Value.int .u8)) → Ow w.heap.size w' v (l ++ E.take (t + 1)) := fun v w' h => by unfold Ow; rw [hlen', ← hrow]; exact h
    clear hget hfin hrow hsn hlen hlen' ho hy
    by_cases ht0 : t = 0
    ·rw [if_pos ht0] at hyn
     have hik : ((i : Int) == (KK : Int) - 1) = true := by simp; omega
     have hyv : ((n : Int) / 2 ^ (8 * i) + (hb : Int)) % 256 = (y.toNat : Int) := by
      have h1 := y.toNat_lt
      have h2 : (n : Int) / 2 ^ (8 * i) = ((n / 2 ^ (8 * i) : Nat) : Int) := by simp
      rw [h2, hhb.out.symm]
      omega
     clear hyn
     go_wp2_with (
      try simp only [hyv]
      refine wpList_app el8 _ rfl (.tmp 44) (.tmp 46) rfl w.heap.size (.slice A6 (m + t) c6) (m + t) (u8s (l ++ E.take t)) rfl (own_ext ho6 ((Ext.refl wr).alloc _)) (some ⟨wr.heap.size, 0, none⟩) 1 1 ([(y.toNat : Int)].map (Value.int .u8)) rfl (Rd.of_block wr 5 (0, 0) rfl) rfl (fun h => by cases h) (ints8_one _) hbb (by omega) (Nat.le_trans hBr ((Ext.refl wr).alloc _).size) (fun V2 w3 ho3 hg3 hv3 => ?_)
      have hr3 := hrel _ _ ho3
      have hx3 := Below.trans hx (grw hBr ho6 ((Ext.refl wr).alloc _) hg3))
     go_roundw
     case rel => exact ⟨t + 1, i, by omega, rfl, hr3, hx3⟩
     case measure => simp [intOf] <;> omega
    ·rw [if_neg ht0] at hyn
     have hik : ((i : Int) == (KK : Int) - 1) = false := by simp; omega
     have hyv : (n : Int) / 2 ^ (8 * i) % 256 = (y.toNat : Int) := by
      have h2 : (n : Int) / 2 ^ (8 * i) = ((n / 2 ^ (8 * i) : Nat) : Int) := by simp
      rw [h2]
      omega
     clear hyn
     go_wp2_with (
      try simp only [hyv]
      refine wpList_app el8 _ rfl (.tmp 44) (.tmp 46) rfl w.heap.size (.slice A6 (m + t) c6) (m + t) (u8s (l ++ E.take t)) rfl (own_ext ho6 ((Ext.refl wr).alloc _)) (some ⟨wr.heap.size, 0, none⟩) 1 1 ([(y.toNat : Int)].map (Value.int .u8)) rfl (Rd.of_block wr 5 (0, 0) rfl) rfl (fun h => by cases h) (ints8_one _) hbb (by omega) (Nat.le_trans hBr ((Ext.refl wr).alloc _).size) (fun V2 w3 ho3 hg3 hv3 => ?_)
      have hr3 := hrel _ _ ho3
      have hx3 := Below.trans hx (grw hBr ho6 ((Ext.refl wr).alloc _) hg3))
     go_roundw
     case rel => exact ⟨t + 1, i, by omega, rfl, hr3, hx3⟩
     case measure => simp [intOf] <;> omega
 ·simp only [if_neg h]
  have hs0 : SZ = 0 := by rw [← hSZ.out]; exact (size_no n).2 (by omega)
  subst hs0
  clear h hSZ
  go_enter Tryz.func55, Tryz.ntmps55
  go_wp2_with (
   refine wpList_app0 el8 _ rfl (.tmp 11) (.tmp 12) rfl _ _ rfl hlit A m c (u8s l) rfl hr1 hl8 hA.out (by omega) (by omega) hb1 (fun v' w' ho' hx' => ?_)
   have hs1 := hsz.out w'
   clear hlit hr1 hl8 hb1)
  refine hs1.mono ?_
  rintro e w3 ⟨rfl, hw3⟩
  replace hw3 := hw3.symm
  subst hw3
  go_wp2_with fail
  go_ret2
  exact ⟨_, rfl, by unfold Ow; rw [hl]; exact ho', ((Ext.refl w).alloc _).trans hx'⟩
end Go.Proofs.YtbpfabhlngfciaaGreatDoor.Rf
namespace Go.Proofs.YtbpfabhlngfciaaGreatDoor.Rf
open Go.ChangeShapes Go.WideShapes Go.ChangeAt Go.RowKit
open Base Pf
theorem rText_any (A : Option Addr) (m c : Nat) (l : List UInt8) (s : ByteArray) (w : World) (hr : Rb w A l) (hl : l.length = m) (hA : A = none → c = 0) (hm : m + s.size ≤ 140737488350000) :
  Calls Tryz.prog 56 #[.slice A m c, .string s] w fun e w' => ∃ v', e = .returned v' ∧ Ow w.heap.size w' v' (l ++ encT s.data.toList) ∧ Ext w w' := by
 have hss : s.data.toList.length = s.size := Array.length_toList
 have hput := rPut_any A m c l s.size w hr hl hA (by omega) (by omega)
 rw [if_pos (by omega), if_pos (by omega)] at hput
 have henc : encT s.data.toList = encN s.size ++ s.data.toList := by unfold encT; rw [hss]
 have hel : (encN s.size).length ≤ 8 := by rcases encN_length s.size with h | h; exact h; omega
 rw [henc, ← List.append_assoc]
 obtain ⟨E, hE⟩ : ∃ z, Hid (l ++ encN s.size = z) := ⟨_, Lib.hid rfl⟩
 have hEl : E.length ≤ l.length + 8 := by rw [← hE.out, List.length_append]; omega
 rw [hE.out] at hput ⊢
 obtain ⟨i, hi, hz, hs, hby⟩ := info_parts el8.info
 replace hss := Lib.hid hss
 have hw64 : IntKind.u64.wrap (s.size : Int) = (s.size : Int) := by rw [IntKind.wrap_u64]; omega
 clear henc hel
 go_enter Tryz.func56, Tryz.ntmps56
 go_wp2_with fail
 refine hput.mono ?_
 rintro e w2 ⟨v2, rfl, ho2, hg2⟩
 have hB2 := hg2.size
 obtain ⟨N2, hN2⟩ : ∃ z, Hid (E.length = z) := ⟨_, rfl⟩
 have ho2' : w2.ownsRow w.heap.size 5 1 v2 N2 (u8s E) := by rw [← hN2.out]; exact ho2
 have hN2b : N2 ≤ l.length + 8 := by rw [← hN2.out]; exact hEl
 obtain ⟨A2, cap2, rfl, jj1, jj2, jj3, jj4⟩ := Rd.of_own ho2'
 clear jj1 jj2 jj3 jj4 hput ho2 hEl
 go_wp2_with (
  refine Lib.wpList_append_own_string _ rfl (.tmp 15) (.tmp 16) 50 9 rfl w.heap.size 5 i el8.under Tryz.underlying9 hi hz hs hby (.slice A2 N2 cap2) N2 (u8s E) rfl ho2' s rfl (by unfold maxLen; omega) (by omega) hB2 (fun V3 w3 ho3 hg3 hv3 => ?_))
 go_ret
 refine ⟨V3, rfl, ?_, Below.trans hg2 (grw hB2 ho2' (Ext.refl _) hg3)⟩
 rw [str_u8s, ← u8s_append] at ho3
 unfold Ow
 rw [List.length_append, hss.out, hN2.out]
 exact ho3
end Go.Proofs.YtbpfabhlngfciaaGreatDoor.Rf
namespace Go.Proofs.YtbpfabhlngfciaaGreatDoor.Rk
open Go.ChangeShapes Go.WideShapes Go.ChangeAt Go.RowKit
open Base Pf Cn Pr Lx Mi Ch Rc Rf
theorem rBytes_any (e : Et) (he : EtOk e) (w : World) :
  Calls Tryz.prog 27 #[entV e] w fun en w' => ∃ v', en = .returned v' ∧ Ow w.heap.size w' v' (if canP e = true then bytesP e else []) ∧ Ext w w' := by
 obtain ⟨w1, hw1⟩ : ∃ z, Hid (w.alloc (.cells #[.bool e.pol, .int .i64 e.p, .string e.s, .int .u64 (e.id : Int)] 55) = z) := ⟨_, rfl⟩
 obtain ⟨q, hq⟩ : ∃ z, Hid (w.heap.size = z) := ⟨_, rfl⟩
 have hx1 : Ext w w1 := by rw [← hw1.out]; exact (Ext.refl w).alloc _
 have hs1 : w1.heap.size = q + 1 := by rw [← hw1.out, ← hq.out]; simp
 have hbk1 : Blk w1 q #[.bool e.pol, .int .i64 e.p, .string e.s, .int .u64 (e.id : Int)] 55 := by rw [← hw1.out, ← hq.out]; exact Blk.new w _ _
 have hcan := rcan_any e he w1
 obtain ⟨b, hb⟩ : ∃ z, Hid (canP e = z) := ⟨_, Lib.hid rfl⟩
 rw [hb.out] at hcan ⊢
 obtain ⟨PO, hPO⟩ : ∃ PO : Ending → World → Prop, Hid ((fun en w' => ∃ v', en = .returned v' ∧ Ow w.heap.size w' v' (if b = true then bytesP e else []) ∧ Ext w w') = PO) := ⟨_, Lib.hid rfl⟩
 rw [hPO.out]
 have hent : ∀ W, Ext w1 W → ∀ i, W.cell? ⟨q, i, none⟩ = #[Value.bool e.pol, .int .i64 e.p, .string e.s, .int .u64 (e.id : Int)][i]? := fun W hW i => (hbk1.ext hW).cell i
 replace hent := Lib.hid hent
 cases b with
 | false =>
  have hp : ∀ v' w', Ow w.heap.size w' v' [] → Ext w w' → PO (.returned v') w' := fun v' w' q1 q2 => by rw [← hPO.out]; exact ⟨v', rfl, by rw [if_neg (by decide)]; exact q1, q2⟩
  unfold entV at *
  go_enter Tryz.func27, Tryz.ntmps27
  go_wp2_with fail
  rw [hw1.out]
  refine hcan.mono ?_
  rintro en w2 ⟨rfl, hx2⟩
  have hx02 := hx1.trans hx2
  have hf := hp _ _ (World.ownsRow_lit w2 #[] 0 hx02.size (Nat.zero_le _) rfl) (hx02.alloc _)
  clear hcan hp
  go_wp2_with fail
  first | exact hf | (go_ret; exact hf)
 | true =>
  have hp : ∀ v' w', Ow w.heap.size w' v' (bytesP e) → Ext w w' → PO (.returned v') w' := fun v' w' q1 q2 => by rw [← hPO.out]; exact ⟨v', rfl, by rw [if_pos rfl]; exact q1, q2⟩
  clear hPO
  by_cases hpol : e.pol = true
  ·obtain ⟨h1, h2, h3, h4⟩ := can_pol hpol hb.out
   have hby : bytesP e = [UInt8.ofNat (e.p.toNat + 1)] := by unfold bytesP; rw [if_pos hpol]
   rw [hby] at hp
   obtain ⟨pol, p, s, id⟩ := e
   unfold entV at *
   simp only at *
   subst hpol
   subst h3
   subst h4
   rw [show ((0 : Nat) : Int) = 0 from rfl] at hw1
   obtain ⟨k, rfl⟩ : ∃ k : Nat, p = k := ⟨p.toNat, by omega⟩
   have hu : u8s [UInt8.ofNat ((k : Int).toNat + 1)] = [.int .u8 ((k : Int) + 1)] := by
    simp only [u8s, List.map_cons, List.map_nil, Int.toNat_natCast]
    rw [UInt8.toNat_ofNat_of_lt' (by show _ < 256; omega)]
    simp
   have hw8 : IntKind.u8.wrap (k : Int) = (k : Int) := by
    have : IntKind.u8.wrap (k : Int) = (k : Int) % 256 := by rfl
    rw [this]; omega
   have hw9 : IntKind.u8.wrap ((k : Int) + 1) = (k : Int) + 1 := by
    have : IntKind.u8.wrap ((k : Int) + 1) = ((k : Int) + 1) % 256 := by rfl
    rw [this]; omega
   go_enter Tryz.func27, Tryz.ntmps27
   go_wp2_with fail
   rw [hw1.out, hq.out]
   refine hcan.mono ?_
   rintro en w2 ⟨rfl, hx2⟩
   have hx02 := hx1.trans hx2
   have k0 : w2.cell? ⟨q, 0, none⟩ = some (.bool true) := hent.out w2 hx2 0
   have k1 : w2.cell? ⟨q, 1, none⟩ = some (.int .i64 (k : Int)) := hent.out w2 hx2 1
   have hf := hp (.slice (some ⟨w2.heap.size, 0, none⟩) 1 1) (w2.alloc (.cells #[.int .u8 ((k : Int) + 1)] 5)) (by unfold Ow; rw [hu]; exact World.ownsRow_lit w2 #[.int .u8 ((k : Int) + 1)] 1 hx02.size (by decide) rfl) (hx02.alloc _)
   clear hcan hp hent hw1
   go_wp2_with fail
   first | exact hf | (go_ret; exact hf)
  ·obtain ⟨h1, h2, h3, h4⟩ := can_txt hpol hb.out
   have hsz := isP_size h4
   have hby : bytesP e = ([0] ++ encN e.id) ++ encT (bs e.s) := by unfold bytesP; rw [if_neg hpol]; simp
   have hel : (encN e.id).length ≤ 8 := by rcases encN_length e.id with h | h; exact h; omega
   rw [hby] at hp
   have hpol' : e.pol = false := by simpa using hpol
   obtain ⟨pol, p, s, id⟩ := e
   unfold entV at *
   simp only at *
   subst hpol'
   subst h1
   obtain ⟨E, hE⟩ : ∃ z, Hid ([0] ++ encN id = z) := ⟨_, Lib.hid rfl⟩
   have hEl : E.length ≤ 9 := by rw [← hE.out, List.length_append]; simp only [List.length_cons, List.length_nil]; omega
   rw [hE.out] at hp
   go_enter Tryz.func27, Tryz.ntmps27
   go_wp2_with fail
   rw [hw1.out, hq.out]
   refine hcan.mono ?_
   rintro en w2 ⟨rfl, hx2⟩
   have hx02 := hx1.trans hx2
   have k0 : w2.cell? ⟨q, 0, none⟩ = some (.bool false) := hent.out w2 hx2 0
   obtain ⟨w3, hw3⟩ : ∃ z, Hid (w2.alloc (.cells #[.int .u8 0] 5) = z) := ⟨_, rfl⟩
   have hx3 : Ext w2 w3 := by rw [← hw3.out]; exact (Ext.refl w2).alloc _
   have k3 : w3.cell? ⟨q, 3, none⟩ = some (.int .u64 (id : Int)) := hent.out w3 (hx2.trans hx3) 3
   rw [← hw3.out] at k3
   have hput := rPut_any (some ⟨w2.heap.size, 0, none⟩) 1 1 [0] id w3 (by rw [← hw3.out]; exact Rd.of_block w2 5 (0, 0) rfl) rfl (fun h => by cases h) (by omega) (by omega)
   rw [if_pos (by omega), if_pos (by omega), hE.out] at hput
   clear hcan hbk1 hw1
   go_wp2_with fail
   rw [hw3.out]
   refine hput.mono ?_
   rintro en w5 ⟨v5, rfl, ho5, hX5⟩
   have hx25 := hx3.trans hX5
   obtain ⟨A7, c7, rfl, jj1, jj2, jj3, jj4⟩ := Rd.of_own ho5
   have hA7 : A7 = none → c7 = 0 := own_none ho5
   have htx := rText_any A7 E.length c7 E s w5 jj3 rfl hA7 (by omega)
   have z2 : w5.cell? ⟨q, 2, none⟩ = some (.string s) := hent.out w5 (hx2.trans hx25) 2
   obtain ⟨NE, hNE⟩ : ∃ z, Hid (E.length = z) := ⟨_, rfl⟩
   rw [hNE.out] at htx ⊢
   have hx05 := hx02.trans hx25
   clear hput jj1 jj2 jj3 jj4 hA7 ho5 k0 k3
   go_wp2_with fail
   refine htx.mono ?_
   rintro en w6 ⟨v6, rfl, ho6, hX6⟩
   have hf := hp v6 w6 (own_base ho6 hx05.size) (hx05.trans hX6)
   clear hp htx
   go_wp2_with fail
   first | exact hf | (go_ret; exact hf)
end Go.Proofs.YtbpfabhlngfciaaGreatDoor.Rk
namespace Go.Proofs.YtbpfabhlngfciaaGreatDoor.Ch
open Go.ChangeShapes Go.WideShapes Go.ChangeAt Go.RowKit
open Base Pf Cn Pr Lx Mi
def TeV (w : World) (r : Et × List UInt8 × Nat) (e : Ending) (w' : World) : Prop := ∃ A' c', e = .returned (.tuple #[entV r.1, .slice A' r.2.1.length c', .int .i64 (r.2.2 : Int)]) ∧ Rb w' A' r.2.1 ∧ (A' = none → c' = 0) ∧ r.2.1.length ≤ c' ∧ c' ≤ maxLen ∧ Ext w w'
theorem TeV.no {w w' : World} (n : Nat) (h : Ext w w') : TeV w (e0, [], n) (.returned (.tuple #[.agg #[.bool false, .int .i64 0, .string ⟨#[]⟩, .int .u64 0], .slice none 0 0, .int .i64 (n : Int)])) w' := ⟨none, 0, rfl, Rd.nil _ _, fun _ => rfl, Nat.le_refl _, by unfold maxLen; omega, h⟩
theorem resTake {w : World} {tmps : Array Value} {a : Nat} {u0 u1 u2 u3 v x : Value} (ha : tmps[2]?.getD undef = .pointer (some ⟨a, 0, none⟩)) (hb : tmps[3]?.getD undef = v) (hc : tmps[4]?.getD undef = x)
  (h0 : w.cell? ⟨a, 0, none⟩ = some u0) (h1 : w.cell? ⟨a, 1, none⟩ = some u1) (h2 : w.cell? ⟨a, 2, none⟩ = some u2) (h3 : w.cell? ⟨a, 3, none⟩ = some u3) : (results Tryz.f31 tmps).run Tryz.prog w = .ok (.tuple #[.agg #[u0, u1, u2, u3], v, x]) w := by
 simp [results, Tryz.f31, go_sem, ha, hb, hc, h0, h1, h2, h3]
theorem resE {w : World} {tmps : Array Value} {a : Nat} {u0 u1 u2 u3 v x : Value} (ha : tmps[2]?.getD undef = .pointer (some ⟨a, 0, none⟩)) (hb : tmps[3]?.getD undef = v) (hc : tmps[4]?.getD undef = x)
  (h : Blk w a #[u0, u1, u2, u3] 55) : (results Tryz.f31 tmps).run Tryz.prog w = .ok (.tuple #[.agg #[u0, u1, u2, u3], v, x]) w :=
 resTake ha hb hc (h.cell 0) (h.cell 1) (h.cell 2) (h.cell 3)
theorem take_nil (A : Option Addr) (c : Nat) (w : World) : Calls Tryz.prog 31 #[.slice A 0 c] w fun e w' => TeV w (e0, [], 3) e w' := by
 obtain ⟨q, hq⟩ : ∃ z, Hid (w.heap.size = z) := ⟨_, rfl⟩
 obtain ⟨w1, hw1⟩ : ∃ z, Hid (w.alloc (.cells #[.bool false, .int .i64 0, .string ⟨#[]⟩, .int .u64 0] 55) = z) := ⟨_, rfl⟩
 have hx1 : Ext w w1 := by rw [← hw1.out]; exact (Ext.refl w).alloc _
 have hb1 : Blk w1 q #[.bool false, .int .i64 0, .string ⟨#[]⟩, .int .u64 0] 55 := by rw [← hw1.out, ← hq.out]; exact Blk.new w _ _
 obtain ⟨PO, hPO⟩ : ∃ PO : Ending → World → Prop, Hid ((fun e w' => TeV w (e0, [], 3) e w') = PO) := ⟨_, Lib.hid rfl⟩
 rw [hPO.out]
 go_enter Tryz.func31, Tryz.ntmps31
 go_wp2_with fail
 rw [hw1.out, hq.out]
 refine bodyPost_ret (resE rfl rfl rfl hb1) rfl ?_
 rw [← hPO.out]
 exact TeV.no 3 hx1
theorem take_big (A : Option Addr) (m c : Nat) (x : UInt8) (r : List UInt8) (w : World) (hr : Rb w A (x :: r)) (hl : (x :: r).length = m) (hA : A = none → c = 0) (hmc : m ≤ c) (hc : c ≤ maxLen) (h7 : 7 < x.toNat) :
  Calls Tryz.prog 31 #[.slice A m c] w fun e w' => TeV w (e0, [], 4) e w' := by
 obtain ⟨q, hq⟩ : ∃ z, Hid (w.heap.size = z) := ⟨_, rfl⟩
 obtain ⟨w1, hw1⟩ : ∃ z, Hid (w.alloc (.cells #[.bool false, .int .i64 0, .string ⟨#[]⟩, .int .u64 0] 55) = z) := ⟨_, rfl⟩
 have hx1 : Ext w w1 := by rw [← hw1.out]; exact (Ext.refl w).alloc _
 have hb1 : Blk w1 q #[.bool false, .int .i64 0, .string ⟨#[]⟩, .int .u64 0] 55 := by rw [← hw1.out, ← hq.out]; exact Blk.new w _ _
 have hx := x.toNat_lt
 obtain ⟨b, off, rfl, hc0⟩ := hr.at_ (k := 0) (by simp)
 rw [show off + 0 = off from rfl] at hc0
 replace hc0 : w.cell? ⟨b, off, none⟩ = some (.int .u8 (x.toNat : Int)) := hc0
 have hbq : ¬ b = q := by have := World.block_lt_of_cell? w _ hc0; have e : b < w.heap.size := this; have := hq.out; omega
 have hm0 : 0 < m := by rw [← hl]; simp
 have hm0' : ((m : Int) == 0) = false := by simp; omega
 unfold maxLen at hc
 have c1 : w1.cell? ⟨b, off, none⟩ = some (.int .u8 (x.toNat : Int)) := hx1.cell hc0
 rw [← hw1.out] at c1
 have h7i : (7 : Int) < (x.toNat : Int) := by omega
 obtain ⟨PO, hPO⟩ : ∃ PO : Ending → World → Prop, Hid ((fun e w' => TeV w (e0, [], 4) e w') = PO) := ⟨_, Lib.hid rfl⟩
 rw [hPO.out]
 clear hr hl hA
 go_enter Tryz.func31, Tryz.ntmps31
 go_wp2_with fail
 rw [hw1.out, hq.out]
 refine bodyPost_ret (resE rfl rfl rfl hb1) rfl ?_
 rw [← hPO.out]
 exact TeV.no 4 hx1
theorem take_pol (A : Option Addr) (m c : Nat) (x : UInt8) (r : List UInt8) (w : World) (hr : Rb w A (x :: r)) (hl : (x :: r).length = m) (hA : A = none → c = 0) (hmc : m ≤ c) (hc : c ≤ maxLen) (h7 : x.toNat ≤ 7) (h0 : 0 < x.toNat) :
  Calls Tryz.prog 31 #[.slice A m c] w fun e w' => TeV w (⟨true, (x.toNat : Int) - 1, ⟨#[]⟩, 0⟩, r, 0) e w' := by
 obtain ⟨q, hq⟩ : ∃ z, Hid (w.heap.size = z) := ⟨_, rfl⟩
 obtain ⟨w1, hw1⟩ : ∃ z, Hid (w.alloc (.cells #[.bool false, .int .i64 0, .string ⟨#[]⟩, .int .u64 0] 55) = z) := ⟨_, rfl⟩
 have hx1 : Ext w w1 := by rw [← hw1.out]; exact (Ext.refl w).alloc _
 have hb1 : Blk w1 q #[.bool false, .int .i64 0, .string ⟨#[]⟩, .int .u64 0] 55 := by rw [← hw1.out, ← hq.out]; exact Blk.new w _ _
 have hx := x.toNat_lt
 obtain ⟨b, off, rfl, hc0⟩ := hr.at_ (k := 0) (by simp)
 rw [show off + 0 = off from rfl] at hc0
 replace hc0 : w.cell? ⟨b, off, none⟩ = some (.int .u8 (x.toNat : Int)) := hc0
 have hbq : ¬ b = q := by have := World.block_lt_of_cell? w _ hc0; have e : b < w.heap.size := this; have := hq.out; omega
 have hm0 : 0 < m := by rw [← hl]; simp
 have hm0' : ((m : Int) == 0) = false := by simp; omega
 unfold maxLen at hc
 have c1 : w1.cell? ⟨b, off, none⟩ = some (.int .u8 (x.toNat : Int)) := hx1.cell hc0
 rw [← hw1.out] at c1
 have h7i : ¬ (7 : Int) < (x.toNat : Int) := by omega
 have h0i : (0 : Int) < (x.toNat : Int) := by omega
 obtain ⟨k, hk⟩ : ∃ k : Nat, x.toNat = k + 1 := ⟨x.toNat - 1, by omega⟩
 have hsub : IntKind.u8.wrap ((x.toNat : Int) - 1) = (k : Int) := by
  have : IntKind.u8.wrap ((x.toNat : Int) - 1) = ((x.toNat : Int) - 1) % 256 := by rfl
  rw [this]; omega
 have hsub2 : ((x.toNat : Int) - 1) % 256 = (k : Int) := by omega
 rw [show (x.toNat : Int) - 1 = (k : Int) by omega]
 have hwk : IntKind.i64.wrap (k : Int) = (k : Int) := by rw [IntKind.wrap_i64]; omega
 replace hk := Lib.hid hk
 obtain ⟨PO, hPO⟩ : ∃ PO : Ending → World → Prop, Hid ((fun e w' => TeV w (⟨true, (k : Int), ⟨#[]⟩, 0⟩, r, 0) e w') = PO) := ⟨_, Lib.hid rfl⟩
 rw [hPO.out]
 have hcut := fun W => run_cutAt (P := Tryz.prog) (t := 50) (e := 5) Tryz.underlying50 (by kernel_rfl) W (some ⟨b, off, none⟩) m c 1 m (some (.int .i64 (1 : Int))) none (.inl rfl) (.inr ⟨rfl, rfl⟩) (by omega) (by omega) (fun _ => hmc)
 have hrest : Rb w (cutA (some ⟨b, off, none⟩) c 1) (((x :: r).take m).drop 1) := Rb.cut hr (by omega) (by omega)
 rw [List.take_of_length_le (by omega), List.drop_one, List.tail_cons] at hrest
 have hAn : cutA (some ⟨b, off, none⟩) c 1 = none → c - 1 = 0 := cutA_none (A := some ⟨b, off, none⟩) (fun e => by cases e)
 have hrl : r.length = m - 1 := by rw [← hl]; simp
 obtain ⟨A1, hA1⟩ : ∃ z, Hid (cutA (some ⟨b, off, none⟩) c 1 = z) := ⟨_, Lib.hid rfl⟩
 simp only [hA1.out] at hcut hrest hAn
 have hfin : ∀ W, Ext w W → PO (.returned (.tuple #[.agg #[.bool true, .int .i64 (k : Int), .string ⟨#[]⟩, .int .u64 0], .slice A1 (m - 1) (c - 1), .int .i64 0])) W := fun W hW => by
  rw [← hPO.out]
  refine ⟨A1, c - 1, ?_, hrest.ext hW, hAn, ?_, ?_, hW⟩
  ·show _ = Ending.returned (.tuple #[entV ⟨true, (k : Int), ⟨#[]⟩, 0⟩, .slice A1 r.length (c - 1), .int .i64 0])
   rw [hrl]; rfl
  ·show r.length ≤ _; omega
  ·unfold maxLen; omega
 replace hAn := Lib.hid hAn
 replace hfin := Lib.hid hfin
 clear hr hl hA hrest hPO hAn
 go_enter Tryz.func31, Tryz.ntmps31
 go_wp2_with fail
 rw [hw1.out, hq.out]
 refine Reg.startX (R := Chg (fun k => k = q)) (by kernel_rfl) ?_
 have hRl := Reg.rl_chg (fun k => k = q)
 generalize hwq : World.drew _ = wq
 have hxq : Ext w1 wq := by rw [← hwq]; exact (Ext.refl w1).drew
 clear hwq
 have hbqq := hb1.ext hxq
 have r0 : ∀ W, Chg (fun k => k = q) wq W → W.cell? ⟨b, off, none⟩ = some (.int .u8 (x.toNat : Int)) := fun W hW => hW.cell (p := ⟨b, off, none⟩) (hxq.cell (hx1.cell hc0)) hbq
 have s0 := hbqq.cell 0
 have s1 := hbqq.cell 1
 have s2 := hbqq.cell 2
 have s3 := hbqq.cell 3
 have f0 := hbqq.frozen 0
 have f1 := hbqq.frozen 1
 have f2 := hbqq.frozen 2
 have f3 := hbqq.frozen 3
 iterate 2 ((first | refine Reg.un hRl ?_ | refine Reg.vn hRl ?_); (try simp only [Reg.nn]))
 refine Reg.tx hRl 2 ?_; (try simp only [Reg.nn])
 refine Reg.tx hRl 3 ?_; (try simp only [Reg.nn])
 refine Reg.tx hRl 4 ?_; (try simp only [Reg.nn])
 iterate 3 ((first | refine Reg.un hRl ?_ | refine Reg.vn hRl ?_); (try simp only [Reg.nn]))
 refine Reg.onlyX 8 _ rfl (by kernel_rfl) (by decide) (by rfl) (fun K hK => ?_); go_simp
 have hch4 := ((((Chg.refl (fun k => k = q) wq).set (p := ⟨q, 0, none⟩) (.inl rfl) (.bool true)).set (p := ⟨q, 1, none⟩) (.inl rfl) (.int .i64 (k : Int))).set (p := ⟨q, 2, none⟩) (.inl rfl) (.string ⟨#[]⟩)).set (p := ⟨q, 3, none⟩) (.inl rfl) (.int .u64 0)
 go_simp
 refine hK.out _ _ (hch4) ?_; clear hK K; (try simp only [Reg.nn])
 iterate 2 ((first | refine Reg.un hRl ?_ | refine Reg.vn hRl ?_); (try simp only [Reg.nn]))
 refine Reg.finX (by kernel_rfl) ?_
 have hbF : Blk ((((wq.setCell ⟨q, 0, none⟩ (.bool true)).setCell ⟨q, 1, none⟩ (.int .i64 (k : Int))).setCell ⟨q, 2, none⟩ (.string ⟨#[]⟩)).setCell ⟨q, 3, none⟩ (.int .u64 0)) q #[.bool true, .int .i64 (k : Int), .string ⟨#[]⟩, .int .u64 0] 55 := (((hbqq.set 0 _).set 1 _).set 2 _).set 3 _
 have hxF : Ext w ((((wq.setCell ⟨q, 0, none⟩ (.bool true)).setCell ⟨q, 1, none⟩ (.int .i64 (k : Int))).setCell ⟨q, 2, none⟩ (.string ⟨#[]⟩)).setCell ⟨q, 3, none⟩ (.int .u64 0)) := Ext.chg (hx1.trans hxq) hch4 (fun i hi e => by have e : i = q := e; have := hq.out; omega)
 have hp := hfin.out _ hxF
 clear hch4 hfin r0 s0 s1 s2 s3 f0 f1 f2 f3 hcut
 go_wp2_with fail
 refine bodyPost_ret (resE rfl rfl rfl hbF) rfl ?_
 exact hp
theorem takeTextP_lens (l : List UInt8) (most : Nat) : (takeTextP l most).2.1.length ≤ l.length ∧ (takeTextP l most).1.length ≤ most := by
 refine ⟨takeTextP_len l most, ?_⟩
 unfold takeTextP
 split
 ·exact Nat.zero_le _
 ·split
  ·exact Nat.zero_le _
  ·split
   ·exact Nat.zero_le _
   ·simp only [List.length_take]; omega
theorem ext_out {w w' W : World} {S : Nat → Prop} (h : Ext w w') (hc : Chg S w' W) (hS : ∀ k, S k → w.heap.size ≤ k) : Ext w W := Ext.chg h hc (fun i hi e => by have := hS i e; omega)
set_option maxHeartbeats 2000000 in
theorem take_txt (A : Option Addr) (m c : Nat) (x : UInt8) (r : List UInt8) (w : World) (hr : Rb w A (x :: r)) (hl : (x :: r).length = m) (hA : A = none → c = 0) (hmc : m ≤ c) (hc : c ≤ maxLen) (hm : m ≤ 140737488355328) (h0 : x.toNat = 0) (hwd : Wd w) (hpow : Pow w) :
  Calls Tryz.prog 31 #[.slice A m c] w fun e w' => TeV w (takeE (x :: r)) e w' := by
 obtain ⟨q, hq⟩ : ∃ z, Hid (w.heap.size = z) := ⟨_, rfl⟩
 obtain ⟨w1, hw1⟩ : ∃ z, Hid (w.alloc (.cells #[.bool false, .int .i64 0, .string ⟨#[]⟩, .int .u64 0] 55) = z) := ⟨_, rfl⟩
 have hx1 : Ext w w1 := by rw [← hw1.out]; exact (Ext.refl w).alloc _
 have hb1 : Blk w1 q #[.bool false, .int .i64 0, .string ⟨#[]⟩, .int .u64 0] 55 := by rw [← hw1.out, ← hq.out]; exact Blk.new w _ _
 have hx := x.toNat_lt
 obtain ⟨b, off, rfl, hc0⟩ := hr.at_ (k := 0) (by simp)
 rw [show off + 0 = off from rfl] at hc0
 replace hc0 : w.cell? ⟨b, off, none⟩ = some (.int .u8 (x.toNat : Int)) := hc0
 have hbq : ¬ b = q := by have := World.block_lt_of_cell? w _ hc0; have e : b < w.heap.size := this; have := hq.out; omega
 have hm0 : 0 < m := by rw [← hl]; simp
 have hm0' : ((m : Int) == 0) = false := by simp; omega
 unfold maxLen at hc
 have c1 : w1.cell? ⟨b, off, none⟩ = some (.int .u8 (x.toNat : Int)) := hx1.cell hc0
 rw [← hw1.out] at c1
 have h7i : ¬ (7 : Int) < (x.toNat : Int) := by omega
 have h0i : ¬ (0 : Int) < (x.toNat : Int) := by omega
 have hcut := fun W => run_cutAt (P := Tryz.prog) (t := 50) (e := 5) Tryz.underlying50 (by kernel_rfl) W (some ⟨b, off, none⟩) m c 1 m (some (.int .i64 (1 : Int))) none (.inl rfl) (.inr ⟨rfl, rfl⟩) (by omega) (by omega) (fun _ => hmc)
 have hrest : Rb w (cutA (some ⟨b, off, none⟩) c 1) (((x :: r).take m).drop 1) := Rb.cut hr (by omega) (by omega)
 rw [List.take_of_length_le (by omega), List.drop_one, List.tail_cons] at hrest
 have hAn : cutA (some ⟨b, off, none⟩) c 1 = none → c - 1 = 0 := cutA_none (A := some ⟨b, off, none⟩) (fun e => by cases e)
 have hrl : r.length = m - 1 := by rw [← hl]; simp
 obtain ⟨A1, hA1⟩ : ∃ z, Hid (cutA (some ⟨b, off, none⟩) c 1 = z) := ⟨_, Lib.hid rfl⟩
 simp only [hA1.out] at hcut hrest hAn
 obtain ⟨w2, hw2⟩ : ∃ z, Hid (w1.alloc (.cells #[.bool false, .int .i64 0, .string ⟨#[]⟩, .int .u64 0] 55) = z) := ⟨_, rfl⟩
 have hs1 : w1.heap.size = q + 1 := by rw [← hw1.out, ← hq.out]; simp
 have hx2 : Ext w1 w2 := by rw [← hw2.out]; exact (Ext.refl w1).alloc _
 have hb2 : Blk w2 (q + 1) #[.bool false, .int .i64 0, .string ⟨#[]⟩, .int .u64 0] 55 := by rw [← hw2.out, ← hs1]; exact Blk.new w1 _ _
 have hbq2 := hb1.ext hx2
 have hqy : ¬ q = q + 1 := by omega
 replace hs1 := Lib.hid hs1
 have htk := Pf.Take_any A1 (m - 1) (c - 1) r w2 (hrest.ext (hx1.trans hx2)) hrl hAn (by omega) (by unfold maxLen; omega) (by omega)
 replace hAn := Lib.hid hAn
 obtain ⟨R, hR⟩ : ∃ z, Hid (takeE (x :: r) = z) := ⟨_, Lib.hid rfl⟩
 have hRd := hR.out
 rw [takeE, if_neg (by omega), if_neg (by omega)] at hRd
 rw [hR.out]
 obtain ⟨b1, b2⟩ := takeP_len r
 obtain ⟨t, ht⟩ : ∃ z, Hid (takeP r = z) := ⟨_, Lib.hid rfl⟩
 rw [ht.out] at hRd htk b1 b2
 obtain ⟨n, rest, er⟩ := t
 simp only at hRd b1 b2
 replace htk : Calls Tryz.prog 60 #[.slice A1 (m - 1) (c - 1)] w2 fun e w' => ∃ A' c', e = .returned (.tuple #[.int .u64 (n : Int), .slice A' rest.length c', .int .i64 (er : Int)]) ∧ Rb w' A' rest ∧ (A' = none → c' = 0) ∧ rest.length ≤ c' ∧ c' ≤ maxLen ∧ Ext w2 w' := htk
 obtain ⟨PO, hPO⟩ : ∃ PO : Ending → World → Prop, Hid ((fun e w' => TeV w R e w') = PO) := ⟨_, Lib.hid rfl⟩
 rw [hPO.out]
 have hno : ∀ W k, R = (e0, [], k) → Ext w W → PO (.returned (.tuple #[.agg #[.bool false, .int .i64 0, .string ⟨#[]⟩, .int .u64 0], .slice none 0 0, .int .i64 (k : Int)])) W := fun W k e hW => by rw [← hPO.out, e]; exact TeV.no k hW
 obtain ⟨N, hN⟩ : ∃ z, Hid (rest.length = z) := ⟨_, Lib.hid rfl⟩
 rw [hN.out] at htk b1
 replace hno := Lib.hid hno
 have hNm : N ≤ m := by omega
 have hyw : w.heap.size ≤ q := by have := hq.out; omega
 replace hRd := Lib.hid hRd
 replace hRR := hRd
 clear hR ht hr hl hA hrest hAn b1 hrl
 go_enter Tryz.func31, Tryz.ntmps31
 go_wp2_with (refine wpList_cut rfl 50 (.tmp 33) (some (.const (.int .i64 1))) none rfl _ _ _ _ rfl rfl rfl (hcut _) ?_)
 rw [hw1.out, hq.out, hw2.out]
 refine htk.mono ?_
 rintro en w3 ⟨A3, c3, rfl, h1, h2, h3, h4, hx3⟩
 have hb3 := hb2.ext hx3
 have hbq3 := hbq2.ext hx3
 have hx03 : Ext w w3 := (hx1.trans hx2).trans hx3
 have q0 := hbq3.cell 0
 have q1 := hbq3.cell 1
 have q2 := hbq3.cell 2
 have q3 := hbq3.cell 3
 have g0 := hbq3.frozen 0
 have g1 := hbq3.frozen 1
 have g2 := hbq3.frozen 2
 have g3 := hbq3.frozen 3
 have y0 := hb3.cell 0
 have y1 := hb3.cell 1
 have y2 := hb3.cell 2
 have y3 := hb3.cell 3
 have z0 := hb3.frozen 0
 have z1 := hb3.frozen 1
 have z2 := hb3.frozen 2
 have z3 := hb3.frozen 3
 simp only [List.getElem?_toArray, List.getElem?_cons_zero, List.getElem?_cons_succ] at q0 q1 q2 q3 y0 y1 y2 y3
 have hlt3 : Wd w3 := hwd.ext hx03
 clear htk hcut hb1 hb2 hbq2
 by_cases he : ¬ er = 0
 ·have hRe := hRd.out
  rw [if_pos he] at hRe
  have hcF := (((Chg.one w3 q 0 (.bool false)).trans (Chg.one _ q 1 (.int .i64 0)) (fun _ _ e => e)).trans (Chg.one _ q 2 (.string ⟨#[]⟩)) (fun _ _ e => e)).trans (Chg.one _ q 3 (.int .u64 0)) (fun _ _ e => e)
  have hbF := (((hbq3.set 0 (.bool false)).set 1 (.int .i64 0)).set 2 (.string ⟨#[]⟩)).set 3 (.int .u64 0)
  have hp := hno.out _ er hRe.symm (ext_out hx03 hcF (fun k e => by omega))
  have heb : ((er : Int) == 0) = false := by simpa using (by omega : ¬ (er : Int) = 0)
  have hnb : ((er : Int) != 0) = true := by simpa using (by omega : ¬ (er : Int) = 0)
  clear hno hRd hRR hRe
  go_wp2_with fail
  refine bodyPost_ret (resE rfl rfl rfl hbF) rfl ?_
  exact hp
 replace he := Decidable.not_not.1 he
 subst he
 have heb : (((0 : Nat) : Int) == 0) = true := rfl
 have hRe := hRd.out
 rw [if_neg (by simp)] at hRe
 have hc4 := Chg.one w3 (q + 1) 3 (.int .u64 (n : Int))
 have hb4 : Blk (w3.setCell ⟨q + 1, 3, none⟩ (.int .u64 (n : Int))) (q + 1) #[.bool false, .int .i64 0, .string ⟨#[]⟩, .int .u64 (n : Int)] 55 := hb3.set 3 _
 have hbq4 : Blk (w3.setCell ⟨q + 1, 3, none⟩ (.int .u64 (n : Int))) q #[.bool false, .int .i64 0, .string ⟨#[]⟩, .int .u64 0] 55 := hbq3.far (p := ⟨q + 1, 3, none⟩) hqy _
 have hx4 : Ext w (w3.setCell ⟨q + 1, 3, none⟩ (.int .u64 (n : Int))) := ext_out hx03 hc4 (fun k e => by omega)
 obtain ⟨w4, hw4⟩ : ∃ z, Hid (w3.setCell ⟨q + 1, 3, none⟩ (.int .u64 (n : Int)) = z) := ⟨_, rfl⟩
 have hA3q : rest = [] ∨ ∃ b9 o9, A3 = some ⟨b9, o9, none⟩ ∧ ¬ b9 = q + 1 ∧ ¬ b9 = q := by
  by_cases hne : rest = []
  ·exact .inl hne
  ·right
   obtain ⟨b9, o9, e9, hc9⟩ := h1.at_ (k := 0) (List.length_pos_iff.2 hne)
   refine ⟨b9, o9, e9, fun e => ?_, fun e => ?_⟩
   ·subst e
    have := hb3.cell (o9 + 0)
    rw [hc9] at this
    rcases o9 with _ | _ | _ | _ | o9 <;> simp at this
   ·subst e
    have := hbq3.cell (o9 + 0)
    rw [hc9] at this
    rcases o9 with _ | _ | _ | _ | o9 <;> simp at this
 have h14 : Rb (w3.setCell ⟨q + 1, 3, none⟩ (.int .u64 (n : Int))) A3 rest := by
  rcases hA3q with e | ⟨b9, o9, rfl, e1, e2⟩
  ·subst e; exact Rd.nil _ _
  ·exact Rd.chg h1 hc4 (fun a ha => by injection ha with ha; subst ha; exact e1)
 have htt := Pf.TakeText_any A3 N c3 rest 4096 (w3.setCell ⟨q + 1, 3, none⟩ (.int .u64 (n : Int))) h14 hN.out h2 (by omega) h4 (by omega) (by omega)
 rw [hw4.out] at htt hb4 hbq4 hx4
 obtain ⟨d1, d2⟩ := takeTextP_lens rest 4096
 obtain ⟨t, ht⟩ : ∃ z, Hid (takeTextP rest 4096 = z) := ⟨_, Lib.hid rfl⟩
 rw [ht.out] at hRe htt d1 d2
 obtain ⟨tx, rest2, er2⟩ := t
 simp only at hRe d1 d2
 replace htt : Calls Tryz.prog 61 #[.slice A3 N c3, .int .i64 (4096 : Int)] w4 fun e w' => ∃ A' c', e = .returned (.tuple #[.string (Str tx), .slice A' rest2.length c', .int .i64 (er2 : Int)]) ∧ Rb w' A' rest2 ∧ (A' = none → c' = 0) ∧ rest2.length ≤ c' ∧ c' ≤ maxLen ∧ Ext w4 w' := htt
 obtain ⟨T, hT⟩ : ∃ z, Hid (Str tx = z) := ⟨_, rfl⟩
 have hTs : T.size ≤ 4096 := by rw [← hT.out]; simpa [Str, ByteArray.size] using d2
 rw [hT.out] at htt hRe
 obtain ⟨N2, hN2⟩ : ∃ z, Hid (rest2.length = z) := ⟨_, Lib.hid rfl⟩
 rw [hN2.out] at htt d1
 replace hRe := Lib.hid hRe
 clear ht hA3q h14 h1 hRd hRR h2
 go_wp2_with fail
 rw [hw4.out]
 refine htt.mono ?_
 rintro en w5 ⟨A5, c5, rfl, i1, i2, i3, i4, hx5⟩
 clear htt
 have hb5 := hb4.ext hx5
 have hbq5 := hbq4.ext hx5
 have hx05 : Ext w w5 := hx4.trans hx5
 have q0 := hbq5.cell 0
 have q1 := hbq5.cell 1
 have q2 := hbq5.cell 2
 have q3 := hbq5.cell 3
 have g0 := hbq5.frozen 0
 have g1 := hbq5.frozen 1
 have g2 := hbq5.frozen 2
 have g3 := hbq5.frozen 3
 have y0 := hb5.cell 0
 have y1 := hb5.cell 1
 have y2 := hb5.cell 2
 have y3 := hb5.cell 3
 have z0 := hb5.frozen 0
 have z1 := hb5.frozen 1
 have z2 := hb5.frozen 2
 have z3 := hb5.frozen 3
 simp only [List.getElem?_toArray, List.getElem?_cons_zero, List.getElem?_cons_succ] at q0 q1 q2 q3 y0 y1 y2 y3
 have hc6 := Chg.one w5 (q + 1) 2 (.string T)
 have hb6 : Blk (w5.setCell ⟨q + 1, 2, none⟩ (.string T)) (q + 1) #[.bool false, .int .i64 0, .string T, .int .u64 (n : Int)] 55 := hb5.set 2 _
 have hbq6 : Blk (w5.setCell ⟨q + 1, 2, none⟩ (.string T)) q #[.bool false, .int .i64 0, .string ⟨#[]⟩, .int .u64 0] 55 := hbq5.far (p := ⟨q + 1, 2, none⟩) hqy _
 have hx6 : Ext w (w5.setCell ⟨q + 1, 2, none⟩ (.string T)) := ext_out hx05 hc6 (fun k e => by omega)
 have h16 : Rb (w5.setCell ⟨q + 1, 2, none⟩ (.string T)) A5 rest2 := by
  by_cases hne : rest2 = []
  ·subst hne; exact Rd.nil _ _
  ·obtain ⟨b9, o9, rfl, hc9⟩ := i1.at_ (k := 0) (List.length_pos_iff.2 hne)
   refine Rd.chg i1 hc6 (fun a ha e => ?_)
   injection ha with ha
   subst ha
   have e : b9 = q + 1 := e
   subst e
   have := hb5.cell (o9 + 0)
   rw [hc9] at this
   rcases o9 with _ | _ | _ | _ | o9 <;> simp at this
 obtain ⟨w6, hw6⟩ : ∃ z, Hid (w5.setCell ⟨q + 1, 2, none⟩ (.string T) = z) := ⟨_, rfl⟩
 rw [hw6.out] at hb6 hbq6 hx6 h16
 have hwd6 : Wd w6 := hwd.ext hx6
 have hcn := can_any ⟨false, 0, T, n⟩ ⟨by simp, by simp, by simp; omega, by simp; omega⟩ w6 hwd6 (hpow.ext hx6)
 unfold entV at hcn
 simp only at hcn
 have e0 := hb6.cell 0
 have e1 := hb6.cell 1
 have e2 := hb6.cell 2
 have e3 := hb6.cell 3
 simp only [List.getElem?_toArray, List.getElem?_cons_zero, List.getElem?_cons_succ] at e0 e1 e2 e3
 have k0 := hbq6.cell 0
 have k1 := hbq6.cell 1
 have k2 := hbq6.cell 2
 have k3 := hbq6.cell 3
 have l0 := hbq6.frozen 0
 have l1 := hbq6.frozen 1
 have l2 := hbq6.frozen 2
 have l3 := hbq6.frozen 3
 simp only [List.getElem?_toArray, List.getElem?_cons_zero, List.getElem?_cons_succ] at k0 k1 k2 k3
 by_cases he2 : ¬ er2 = 0
 ·have hRe2 := hRe.out
  rw [if_pos he2] at hRe2
  have heb2 : ((er2 : Int) == 0) = false := by simpa using (by omega : ¬ (er2 : Int) = 0)
  have hnb2 : ((er2 : Int) != 0) = true := by simpa using (by omega : ¬ (er2 : Int) = 0)
  have hcF := (((Chg.one w6 q 0 (.bool false)).trans (Chg.one _ q 1 (.int .i64 0)) (fun _ _ e => e)).trans (Chg.one _ q 2 (.string ⟨#[]⟩)) (fun _ _ e => e)).trans (Chg.one _ q 3 (.int .u64 0)) (fun _ _ e => e)
  have hbF := (((hbq6.set 0 (.bool false)).set 1 (.int .i64 0)).set 2 (.string ⟨#[]⟩)).set 3 (.int .u64 0)
  have hp := hno.out _ er2 hRe2.symm (ext_out hx6 hcF (fun k e => by omega))
  clear hno hRe hRe2 hcn
  go_wp2_with fail
  rw [hw6.out]
  refine bodyPost_ret (resE rfl rfl rfl hbF) rfl ?_
  exact hp
 replace he2 := Decidable.not_not.1 he2
 subst he2
 replace hRe := hRe.out
 rw [if_neg (by simp)] at hRe
 by_cases hc : ¬ canP ⟨false, 0, T, n⟩ = true
 ·rw [if_neg hc] at hRe
  rw [show canP ⟨false, 0, T, n⟩ = false by simpa using hc] at hcn
  go_wp2_with fail
  rw [hw6.out]
  refine hcn.mono ?_
  rintro en w7 ⟨rfl, hx7⟩
  have hbq7 := hbq6.ext hx7
  have hb7 := hb6.ext hx7
  have k0 := hbq7.cell 0
  have k1 := hbq7.cell 1
  have k2 := hbq7.cell 2
  have k3 := hbq7.cell 3
  have l0 := hbq7.frozen 0
  have l1 := hbq7.frozen 1
  have l2 := hbq7.frozen 2
  have l3 := hbq7.frozen 3
  simp only [List.getElem?_toArray, List.getElem?_cons_zero, List.getElem?_cons_succ] at k0 k1 k2 k3
  have hcF := (((Chg.one w7 q 0 (.bool false)).trans (Chg.one _ q 1 (.int .i64 0)) (fun _ _ e => e)).trans (Chg.one _ q 2 (.string ⟨#[]⟩)) (fun _ _ e => e)).trans (Chg.one _ q 3 (.int .u64 0)) (fun _ _ e => e)
  have hbF := (((hbq7.set 0 (.bool false)).set 1 (.int .i64 0)).set 2 (.string ⟨#[]⟩)).set 3 (.int .u64 0)
  have hp := hno.out _ 4 hRe.symm (ext_out (hx6.trans hx7) hcF (fun k e => by omega))
  clear hno hRe hcn
  go_wp2_with fail
  refine bodyPost_ret (resE rfl rfl rfl hbF) rfl ?_
  exact hp
 replace hc := Decidable.not_not.1 hc
 rw [if_pos hc] at hRe
 rw [hc] at hcn
 go_wp2_with fail
 rw [hw6.out]
 refine hcn.mono ?_
 rintro en w7 ⟨rfl, hx7⟩
 have hbq7 := hbq6.ext hx7
 have hb7 := hb6.ext hx7
 have hx07 : Ext w w7 := hx6.trans hx7
 have hfin : ∀ W, Chg (fun k => k = q) w7 W → PO (.returned (.tuple #[.agg #[.bool false, .int .i64 0, .string T, .int .u64 (n : Int)], .slice A5 N2 c5, .int .i64 0])) W := fun W hW => by
  rw [← hPO.out, ← hRe]
  refine ⟨A5, c5, ?_, ?_, i2, ?_, i4, ext_out hx07 hW (fun k e => by omega)⟩
  ·show _ = Ending.returned (.tuple #[entV ⟨false, 0, T, n⟩, .slice A5 rest2.length c5, .int .i64 0])
   rw [hN2.out]; rfl
  ·by_cases hne : rest2 = []
   ·subst hne; exact Rd.nil _ _
   ·obtain ⟨b9, o9, rfl, hc9⟩ := (h16.ext hx7).at_ (k := 0) (List.length_pos_iff.2 hne)
    refine Rd.chg (h16.ext hx7) hW (fun a ha e => ?_)
    injection ha with ha
    subst ha
    have e : b9 = q := e
    subst e
    have := hbq7.cell (o9 + 0)
    rw [hc9] at this
    rcases o9 with _ | _ | _ | _ | o9 <;> simp at this
  ·show rest2.length ≤ c5
   rw [hN2.out]; exact i3
 clear hno hRe hcn
 replace hfin := Lib.hid hfin
 clear q0 q1 q2 q3 g0 g1 g2 g3 y0 y1 y2 y3 z0 z1 z2 z3 e0 e1 e2 e3 k0 k1 k2 k3 l0 l1 l2 l3
 have e0 := hb7.cell 0
 have e1 := hb7.cell 1
 have e2 := hb7.cell 2
 have e3 := hb7.cell 3
 have k0 := hbq7.cell 0
 have k1 := hbq7.cell 1
 have k2 := hbq7.cell 2
 have k3 := hbq7.cell 3
 have l0 := hbq7.frozen 0
 have l1 := hbq7.frozen 1
 have l2 := hbq7.frozen 2
 have l3 := hbq7.frozen 3
 simp only [List.getElem?_toArray, List.getElem?_cons_zero, List.getElem?_cons_succ] at e0 e1 e2 e3 k0 k1 k2 k3
 have hch4 := ((((Chg.refl (fun k => k = q) w7).set (p := ⟨q, 0, none⟩) (.inl rfl) (.bool false)).set (p := ⟨q, 1, none⟩) (.inl rfl) (.int .i64 0)).set (p := ⟨q, 2, none⟩) (.inl rfl) (.string T)).set (p := ⟨q, 3, none⟩) (.inl rfl) (.int .u64 (n : Int))
 have hbF := (((hbq7.set 0 (.bool false)).set 1 (.int .i64 0)).set 2 (.string T)).set 3 (.int .u64 (n : Int))
 have hp := hfin.out _ hch4
 clear hfin hch4
 go_wp2_with fail
 refine bodyPost_ret (resE rfl rfl rfl hbF) rfl ?_
 exact hp
theorem Take_any (A : Option Addr) (m c : Nat) (l : List UInt8) (w : World) (hr : Rb w A l) (hl : l.length = m) (hA : A = none → c = 0) (hmc : m ≤ c) (hc : c ≤ maxLen) (hm : m ≤ 140737488355328) (hwd : Wd w) (hpow : Pow w) :
  Calls Tryz.prog 31 #[.slice A m c] w fun e w' => TeV w (takeE l) e w' := by
 cases l with
 | nil => have : m = 0 := by rw [← hl]; rfl
          subst this; exact take_nil A c w
 | cons x r =>
  by_cases h7 : 7 < x.toNat
  ·rw [show takeE (x :: r) = (e0, [], 4) by rw [takeE, if_pos h7]]
   exact take_big A m c x r w hr hl hA hmc hc h7
  ·by_cases h0 : 0 < x.toNat
   ·rw [show takeE (x :: r) = (⟨true, (x.toNat : Int) - 1, ⟨#[]⟩, 0⟩, r, 0) by rw [takeE, if_neg h7, if_pos h0]]
    exact take_pol A m c x r w hr hl hA hmc hc (by omega) h0
   ·exact take_txt A m c x r w hr hl hA hmc hc hm (by omega) hwd hpow
theorem wpList_app0 {P : Program} {t e : TypeId} {z : Value} {size bytes : Nat} (E : El P t e z size bytes) (w : World) {ops : Array Oper} {rest : List Oper} {o : Oper} {a : Act} {Q : Exit → Act → World → Prop} (hgd : o.guard = none) (s x : Operand)
  (ho : o.op = .call { callee := .builtin .append, args := #[s, x], argTypes := #[t, t] }) (base : Nat)
  (g : Nat) (hs : a.eval s = .slice (some ⟨g, 0, none⟩) 0 0) (hown : w.ownsRow base e size (.slice (some ⟨g, 0, none⟩) 0 0) 0 [])
  (A : Option Addr) (m c : Nat) (news : List Value) (hx : a.eval x = .slice A m c) (hr : Rd w A news) (hl : news.length = m * size) (hA : A = none → c = 0)
  (hbytes : m * bytes ≤ 140737488355328) (hby : 0 < bytes) (hbase : base ≤ w.heap.size)
  (h : ∀ v' w', w'.ownsRow base e size v' m news → Ext w w' → wpList P ops Q rest (a.put o.dst v') w') : wpList P ops Q (o :: rest) a w :=
 wpList_plain hgd fun _ hK => wp_app0 E w s x ho base g hs hown A m c news hx hr hl hA hbytes hby hbase fun v' w' h2 h3 => hK _ _ (h v' w' h2 h3)
theorem hs_str (a b : ByteArray) : a.toList = b.toList ↔ a = b := ⟨fun h => Classical.byContradiction fun hn => by have := str_ne hn; rw [h] at this; simp at this, fun h => by rw [h]⟩
theorem eql_ent (x y : Et) (w : World) : (binOp .eql 55 (entV x) (entV y)).run Tryz.prog w = .ok (.bool (decide (x = y))) w := by
 have hS : Tryz.prog.underlying 55 = some (.struct (Tryz.prog.fieldsOf 55)) := by kernel_rfl
 have hp : Tryz.prog.stoodInHeld 55 = false := by kernel_rfl
 obtain ⟨p1, i1, s1, n1⟩ := x
 obtain ⟨p2, i2, s2, n2⟩ := y
 unfold entV
 rw [run_eql_struct, show (10000 : Nat) = 9999 + 1 from rfl, run_equalIn_agg w 9999 55 _ _ hS hp]
 simp only [Program.fieldsOf, Tryz.underlying55]
 go_simp
 have hs := hs_str s1 s2
 by_cases h1 : p1 = p2 <;> by_cases h2 : i1 = i2 <;> by_cases h3 : s1 = s2 <;> by_cases h4 : n1 = n2 <;> simp [hs, h1, h2, h3, h4] <;> omega
theorem neq_ent (x y : Et) (w : World) : (binOp .neq 55 (entV x) (entV y)).run Tryz.prog w = .ok (.bool (!decide (x = y))) w := by
 have hS : Tryz.prog.underlying 55 = some (.struct (Tryz.prog.fieldsOf 55)) := by kernel_rfl
 have hp : Tryz.prog.stoodInHeld 55 = false := by kernel_rfl
 obtain ⟨p1, i1, s1, n1⟩ := x
 obtain ⟨p2, i2, s2, n2⟩ := y
 unfold entV
 rw [run_neq_struct, show (10000 : Nat) = 9999 + 1 from rfl, run_equalIn_agg w 9999 55 _ _ hS hp]
 simp only [Program.fieldsOf, Tryz.underlying55]
 go_simp
 have hs := hs_str s1 s2
 by_cases h1 : p1 = p2 <;> by_cases h2 : i1 = i2 <;> by_cases h3 : s1 = s2 <;> by_cases h4 : n1 = n2 <;> simp [hs, h1, h2, h3, h4] <;> omega
theorem isP_int : isP ⟨#[105, 110, 116]⟩ = true := by decide +kernel
theorem can_live : canP ⟨false, 0, ⟨#[105, 110, 116]⟩, 1⟩ = true ∧ canP ⟨false, 0, ⟨#[105, 110, 116]⟩, 0⟩ = false ∧ canP ⟨true, 3, ⟨#[]⟩, 0⟩ = true := by
 refine ⟨?_, ?_, ?_⟩
 ·simp [canP, isP_int]
 ·simp [canP]
 ·rfl
theorem lives_any (w : World) (hwd : Wd w) (hpow : Pow w) : Calls Tryz.prog 30 #[] w fun e w' => e = .returned (.bool true) ∧ Ext w w' := by
 obtain ⟨l1, l2, l3⟩ := can_live
 have hput := Put_any none 0 0 [] ⟨true, 3, ⟨#[]⟩, 0⟩ ⟨by simp, by simp, Nat.zero_le _, by simp⟩ w (Rd.nil _ _) rfl (fun _ => rfl) (by omega) hwd hpow
 rw [l3, if_pos rfl, if_pos rfl] at hput
 replace hput : Calls Tryz.prog 26 #[.slice none 0 0, .agg #[.bool true, .int .i64 3, .string ⟨#[]⟩, .int .u64 0]] w fun en w' => ∃ v', en = .returned (.tuple #[v', .int .i64 0]) ∧ Ow w.heap.size w' v' [4] ∧ Ext w w' := hput
 go_enter Tryz.func30, Tryz.ntmps30
 go_wp2_with fail
 refine hput.mono ?_
 rintro en w1 ⟨v, rfl, ho, hx1⟩
 obtain ⟨A, c, rfl, jj1, jj2, jj3, jj4⟩ := Rd.of_own ho
 have hcv := fun W (hW : Ext w1 W) => conv_rd (P := Tryz.prog) Tryz.underlying50 Tryz.underlying5 Tryz.underlying9 (w := W) (A := A) (l := [4]) (n := 1) c rfl ((show Rb w1 A [4] from jj3).ext hW)
 have hcv0 : (convert 50 9 (.slice A 1 c)).run Tryz.prog w1 = .ok (.string ⟨#[4]⟩) w1 := hcv w1 (Ext.refl _)
 have hc1 := fun W (hW : Ext w W) => can_live.1 ▸ Can_any ⟨false, 0, ⟨#[105, 110, 116]⟩, 1⟩ ⟨by simp, by simp, by simp [ByteArray.size], by simp⟩ W (hwd.ext hW) (hpow.ext hW)
 have hc2 := fun W (hW : Ext w W) => can_live.2.1 ▸ Can_any ⟨false, 0, ⟨#[105, 110, 116]⟩, 0⟩ ⟨by simp, by simp, by simp [ByteArray.size], by simp⟩ W (hwd.ext hW) (hpow.ext hW)
 have hc1' : ∀ W, Ext w W → Calls Tryz.prog 28 #[.agg #[.bool false, .int .i64 0, .string ⟨#[105, 110, 116]⟩, .int .u64 1]] W fun en w' => en = .returned (.bool true) ∧ Ext W w' := fun W hW => hc1 W hW
 have hc2' : ∀ W, Ext w W → Calls Tryz.prog 28 #[.agg #[.bool false, .int .i64 0, .string ⟨#[105, 110, 116]⟩, .int .u64 0]] W fun en w' => en = .returned (.bool false) ∧ Ext W w' := fun W hW => hc2 W hW
 have h1 := hc1' w1 hx1
 replace hc2' := Lib.hid hc2'
 clear jj1 jj2 jj3 jj4 hput hc1 hc2 hc1' hcv ho l1 l2 l3
 go_wp2_with fail
 refine h1.mono ?_
 rintro en w2 ⟨rfl, hx2⟩
 have h2 := hc2'.out w2 (hx1.trans hx2)
 clear h1
 go_wp2_with fail
 refine h2.mono ?_
 rintro en w3 ⟨rfl, hx3⟩
 go_wp2_with fail
 go_ret
 exact ⟨rfl, (hx1.trans hx2).trans hx3⟩
end Go.Proofs.YtbpfabhlngfciaaGreatDoor.Ch
namespace Go.Proofs.YtbpfabhlngfciaaGreatDoor.Rk
open Go.ChangeShapes Go.WideShapes Go.ChangeAt Go.RowKit
open Base Pf Cn Pr Lx Mi Ch Rc
theorem str_beqS (s : ByteArray) : (s.toList == s.toList) = true := by simp
set_option maxHeartbeats 2000000 in
theorem puts_any (A : Option Addr) (m c : Nat) (l : List UInt8) (e : Et) (he : EtOk e) (w : World) (hwd : Wd w) (hpow : Pow w) (hl : l.length = m) (hr : Rb w A l) (hA : A = none → c = 0) (hm : m ≤ 1048576) :
  Calls Tryz.prog 8 #[.slice A m c, entV e] w fun en w' => en = .returned (.bool true) ∧ Ext w w' := by
 obtain ⟨q, hq⟩ : ∃ z, Hid (w.heap.size = z) := ⟨_, rfl⟩
 obtain ⟨w1, hw1⟩ : ∃ z, Hid (w.alloc (.cells #[.bool e.pol, .int .i64 e.p, .string e.s, .int .u64 (e.id : Int)] 55) = z) := ⟨_, rfl⟩
 have hx1 : Ext w w1 := by rw [← hw1.out]; exact (Ext.refl w).alloc _
 have hbk : Blk w1 q #[.bool e.pol, .int .i64 e.p, .string e.s, .int .u64 (e.id : Int)] 55 := by rw [← hw1.out, ← hq.out]; exact Blk.new w _ _
 have hent : ∀ W, Ext w1 W → ∀ i, W.cell? ⟨q, i, none⟩ = #[Value.bool e.pol, .int .i64 e.p, .string e.s, .int .u64 (e.id : Int)][i]? := fun W hW i => (hbk.ext hW).cell i
 have hput := fun A' c' W (hW : Ext w1 W) (h1 : Rb W A' l) h2 => Ch.Put_any A' m c' l e he W h1 hl h2 (by omega) (hwd.ext (hx1.trans hW)) (hpow.ext (hx1.trans hW))
 have hby := fun W => rBytes_any e he W
 have hcp := fun W (hW : Ext w1 W) => Ch.Can_any e he W (hwd.ext (hx1.trans hW)) (hpow.ext (hx1.trans hW))
 have hcr := fun W => rcan_any e he W
 have hli := fun W (hW : Ext w1 W) => Ch.lives_any W (hwd.ext (hx1.trans hW)) (hpow.ext (hx1.trans hW))
 have hbl := bytesP_len e
 obtain ⟨b, hb⟩ : ∃ z, Hid (canP e = z) := ⟨_, Lib.hid rfl⟩
 rw [hb.out] at hbl
 simp only [hb.out] at hput hby hcp hcr
 obtain ⟨F, hF⟩ : ∃ z, Hid ((if b = true then bytesP e else []) = z) := ⟨_, Lib.hid rfl⟩
 have hFl : F.length ≤ 5000 := by
  rw [← hF.out]
  split
  ·next h => exact hbl h
  ·simp
 obtain ⟨G, hG⟩ : ∃ z, Hid (l ++ F = z) := ⟨_, Lib.hid rfl⟩
 have hGe : (if b = true then l ++ bytesP e else l) = G := by
  rw [← hG.out, ← hF.out]
  split <;> simp
 simp only [hF.out] at hby
 simp only [hGe] at hput
 obtain ⟨ee, hee⟩ : ∃ z : Nat, Hid ((if b = true then 0 else 1) = z) := ⟨_, Lib.hid rfl⟩
 have hput' : ∀ A' c' W, Ext w1 W → Rb W A' l → (A' = none → c' = 0) → Calls Tryz.prog 26 #[.slice A' m c', entV e] W fun en w' => ∃ v', en = .returned (.tuple #[v', .int .i64 (ee : Int)]) ∧ Ow W.heap.size w' v' G ∧ Ext W w' := fun A' c' W h1 h2 h3 => by
  have := hput A' c' W h1 h2 h3
  rw [← hee.out]
  cases b <;> exact this
 clear hput hbl hGe
 obtain ⟨gn, hgn⟩ : ∃ z, Hid (G.length = z) := ⟨_, Lib.hid rfl⟩
 obtain ⟨fn, hfn⟩ : ∃ z, Hid (F.length = z) := ⟨_, Lib.hid rfl⟩
 rw [hfn.out] at hFl
 have hgf : gn = m + fn := by rw [← hgn.out, ← hG.out, List.length_append, hl, hfn.out]
 have h0 : ∀ W, Ext w1 W → W.cell? ⟨q, 0, none⟩ = some (.bool e.pol) := fun W hW => hent W hW 0
 have h1 : ∀ W, Ext w1 W → W.cell? ⟨q, 1, none⟩ = some (.int .i64 e.p) := fun W hW => hent W hW 1
 have h2 : ∀ W, Ext w1 W → W.cell? ⟨q, 2, none⟩ = some (.string e.s) := fun W hW => hent W hW 2
 have h3 : ∀ W, Ext w1 W → W.cell? ⟨q, 3, none⟩ = some (.int .u64 (e.id : Int)) := fun W hW => hent W hW 3
 have hqq : q < w1.heap.size := World.block_lt_of_cell? w1 ⟨q, 0, none⟩ (hbk.cell 0)
 have hrw := fun W (hW : Ext w1 W) => hr.ext (hx1.trans hW)
 replace hl8 : (u8s l).length = m * 1 := by rw [u8s_length, hl, Nat.mul_one]
 replace hA := Lib.hid hA
 replace hput' := Lib.hid hput'
 replace hby := Lib.hid hby
 replace hcp := Lib.hid hcp
 replace hcr := Lib.hid hcr
 replace hli := Lib.hid hli
 replace hrw := Lib.hid hrw
 clear hent hr he
 obtain ⟨pol, p, s, id⟩ := e
 unfold entV at *
 simp only at *
 go_enter Tryz.func8, Tryz.ntmps8
 go_wp2_with fail
 rw [hw1.out, hq.out]
 refine Reg.startE (by kernel_rfl) ?_
 refine Reg.tk 1 ?_; (try simp only [Reg.nn])
 refine Reg.tk 3 ?_; (try simp only [Reg.nn])
 refine Reg.onlyE 0 _ rfl (by kernel_rfl) (by decide) (by rfl) (fun W hW K hK => ?_); go_simp
 have hlit : (W.alloc (.cells #[] 5)).ownsRow W.heap.size 5 1 (.slice (some ⟨W.heap.size, 0, none⟩) 0 0) 0 [] := World.ownsRow_lit W #[] 0 (Nat.le_refl _) (Nat.zero_le _) rfl
 have hWa : Ext w1 (W.alloc (.cells #[] 5)) := hW.alloc _
 have hbs := ((Ext.refl W).alloc (.cells #[] 5)).size
 refine hK.out _ _ ((Ext.refl W).alloc _) ?_; clear hK K; (try simp only [Reg.nn])
 refine Reg.onlyE 2 _ rfl (by kernel_rfl) (by decide) (by rfl) (fun W hW K hK => ?_)
 refine wp_app0 el8 W (.tmp 9) (.tmp 10) rfl _ _ rfl (own_ext hlit hW) A m c (u8s l) rfl (hrw.out W (hWa.trans hW)) hl8 hA.out (by omega) (by omega) (Nat.le_trans hbs hW.size) (fun v' w' ho' hx' => ?_)
 have hx3 : Ext w1 w' := (hWa.trans hW).trans hx'
 obtain ⟨A3, c3, rfl, jj1, jj2, jj3, jj4⟩ := Rd.of_own ho'
 have hA3 : A3 = none → c3 = 0 := own_none ho'
 replace jj3 := Lib.hid jj3
 replace hA3 := Lib.hid hA3
 refine hK.out _ _ hx' ?_
 clear hK K jj1 jj2 jj4 ho' hlit hbs hWa hW hx'
 (try simp only [Reg.nn])
 refine Reg.onlyE 4 _ rfl (by kernel_rfl) (by decide) (by rfl) (fun W hW K hK => ?_); go_simp
 refine (hput'.out A3 c3 W (hx3.trans hW) (jj3.out.ext hW) hA3.out).mono ?_
 rintro en w4 ⟨v4, rfl, ho4, hx4⟩
 have hx04 : Ext w1 w4 := (hx3.trans hW).trans hx4
 obtain ⟨A4, c4, rfl, jj1, jj2, jj5, jj4⟩ := Rd.of_own ho4
 rw [hgn.out]
 replace jj5 := Lib.hid jj5
 refine hK.out _ _ (hx4) ?_; clear hK K; (try simp only [Reg.nn])
 refine Reg.tk 5 ?_; (try simp only [Reg.nn])
 refine Reg.tk 6 ?_; (try simp only [Reg.nn])
 refine Reg.tk 7 ?_; (try simp only [Reg.nn])
 refine Reg.tk 8 ?_; (try simp only [Reg.nn])
 refine Reg.tk 9 ?_; (try simp only [Reg.nn])
 refine Reg.fin (by kernel_rfl) (fun W hW => ?_)
 have hx5 : Ext w1 W := hx04.trans hW
 have hr5 := fun W' (hW' : Ext W W') => jj5.out.ext (hW.trans hW')
 clear hput' jj1 jj2 jj3 jj4 jj5 hA3 ho4 hx4 hx3 hx04 hW
 obtain ⟨w5, hw5⟩ : ∃ z, z = W := ⟨_, rfl⟩
 subst hw5
 go_wp2_with fail
 refine Reg.startX (R := Go.RowKit.Below w5.heap.size) (by kernel_rfl) ?_
 have hRl := Reg.rl_below w5.heap.size
 generalize hwq : World.drew _ = wq
 have hxq : Ext w5 wq := by rw [← hwq]; exact (Ext.refl w5).drew
 clear hwq
 have ext5 : ∀ W, Go.RowKit.Below w5.heap.size wq W → Ext w1 W := fun W hW => hx5.trans (Below.trans hxq hW)
 have r0 : ∀ W, Go.RowKit.Below w5.heap.size wq W → W.cell? ⟨q, 0, none⟩ = some (.bool pol) := fun W hW => h0 W (ext5 W hW)
 have r1 : ∀ W, Go.RowKit.Below w5.heap.size wq W → W.cell? ⟨q, 1, none⟩ = some (.int .i64 p) := fun W hW => h1 W (ext5 W hW)
 have r2 : ∀ W, Go.RowKit.Below w5.heap.size wq W → W.cell? ⟨q, 2, none⟩ = some (.string s) := fun W hW => h2 W (ext5 W hW)
 have r3 : ∀ W, Go.RowKit.Below w5.heap.size wq W → W.cell? ⟨q, 3, none⟩ = some (.int .u64 (id : Int)) := fun W hW => h3 W (ext5 W hW)
 have hbq := hxq.size
 obtain ⟨B, hB⟩ : ∃ z, Hid (w5.heap.size = z) := ⟨_, rfl⟩
 simp only [hB.out] at ext5 r0 r1 r2 r3 hRl hbq ⊢
 refine Reg.tx hRl 1 ?_; (try simp only [Reg.nn])
 refine Reg.tx hRl 3 ?_; (try simp only [Reg.nn])
 refine Reg.onlyX 0 _ rfl (by kernel_rfl) (by decide) (by rfl) (fun K hK => ?_); go_simp
 obtain ⟨wa, hwa⟩ : ∃ z, Hid (wq.alloc (.cells #[] 5) = z) := ⟨_, rfl⟩
 have hlit : wa.ownsRow B 5 1 (.slice (some ⟨wq.heap.size, 0, none⟩) 0 0) 0 [] := by rw [← hwa.out]; exact World.ownsRow_lit wq #[] 0 hbq (Nat.zero_le _) rfl
 have hxa : Ext wq wa := by rw [← hwa.out]; exact (Ext.refl wq).alloc _
 have hba := Nat.le_trans hbq hxa.size
 rw [hwa.out]
 refine hK.out _ _ (Below.mono hxa hbq) ?_; clear hK K; (try simp only [Reg.nn])
 refine Reg.onlyX 2 _ rfl (by kernel_rfl) (by decide) (by rfl) (fun K hK => ?_)
 refine wp_app0 el8 wa (.tmp 16) (.tmp 17) rfl _ _ rfl hlit A m c (u8s l) rfl (hrw.out wa (ext5 wa (Below.mono hxa hbq))) hl8 hA.out (by omega) (by omega) hba (fun v' w6 ho6 hx6 => ?_)
 have hxq6 : Go.RowKit.Below B wq w6 := Below.trans (Below.mono hxa hbq) (Below.mono hx6 hba)
 have hb6 : B ≤ w6.heap.size := Nat.le_trans hba hx6.size
 obtain ⟨A6, c6, rfl, jj1, jj2, jj3, jj4⟩ := Rd.of_own ho6
 refine hK.out _ _ (Below.mono hx6 hba) ?_
 clear hK K jj1 jj2 jj3 jj4 hlit hx6
 (try simp only [Reg.nn])
 refine Reg.onlyX 4 _ rfl (by kernel_rfl) (by decide) (by rfl) (fun K hK => ?_); go_simp
 refine (hby.out w6).mono ?_
 rintro en w7 ⟨v7, rfl, ho7, hx7⟩
 obtain ⟨A7, c7, rfl, jj1, jj2, jj7, jj4⟩ := Rd.of_own ho7
 have hA7 : A7 = none → c7 = 0 := own_none ho7
 rw [hfn.out]
 replace hA7 := Lib.hid hA7
 replace jj7 := Lib.hid jj7
 have hb7 : B ≤ w7.heap.size := Nat.le_trans hb6 hx7.size
 clear jj1 jj2 jj4 ho7
 refine hK.out _ _ (Below.mono hx7 hb6) ?_; clear hK K; (try simp only [Reg.nn])
 refine Reg.onlyX 5 _ rfl (by kernel_rfl) (by decide) (by rfl) (fun K hK => ?_)
 refine wp_app el8 w7 (.tmp 18) (.tmp 20) rfl B (.slice A6 m c6) m (u8s l) rfl (own_ext ho6 hx7) A7 fn c7 (u8s F) rfl jj7.out (by rw [u8s_length, hfn.out, Nat.mul_one]) hA7.out (u8s_one _) (by omega) (by omega) hb7 (fun v8 w8 ho8 hg8 hv8 => ?_)
 have hg78 : Go.RowKit.Below B w7 w8 := grw hb7 (own_ext ho6 hx7) (Ext.refl _) hg8
 rw [← u8s_append, hG.out] at ho8
 obtain ⟨A8, c8, rfl, jj1, jj2, jj8, jj4⟩ := Rd.of_own ho8
 replace jj8 := Lib.hid jj8
 refine hK.out _ _ hg78 ?_
 clear hK K jj1 jj2 jj4 ho8 hg8 hv8
 (try simp only [Reg.nn])
 refine Reg.tx hRl 6 ?_; (try simp only [Reg.nn])
 refine Reg.finX (by kernel_rfl) ?_
 have hx8 : Ext w1 w8 := ext5 w8 (Below.trans (Below.trans hxq6 (Below.mono hx7 hb6)) hg78)
 have hx58 : Ext w5 w8 := by
  unfold Ext
  rw [hB.out]
  have := hxq
  unfold Ext at this
  rw [hB.out] at this
  exact Below.trans this (Below.trans (Below.trans hxq6 (Below.mono hx7 hb6)) hg78)
 have hcv1 := fun W (hW : Ext w8 W) => conv_rd (P := Tryz.prog) (src := 50) (dst := 9) Tryz.underlying50 Tryz.underlying5 Tryz.underlying9 (w := W) (A := A4) (l := G) (n := m + fn) c4 (hgn.out.trans hgf) (hr5 W (hx58.trans hW))
 have hcv2 := fun W (hW : Ext w8 W) => conv_rd (P := Tryz.prog) (src := 50) (dst := 9) Tryz.underlying50 Tryz.underlying5 Tryz.underlying9 (w := W) (A := A8) (l := G) (n := m + fn) c8 (hgn.out.trans hgf) (Rb.ext jj8.out hW)
 clear ext5 r0 r1 r2 r3 ho6 hr5
 obtain ⟨SG, hSG⟩ : ∃ z, Hid (Str G = z) := ⟨_, Lib.hid rfl⟩
 simp only [hSG.out] at hcv1 hcv2
 have hSS := str_beqS SG
 have r0 : ∀ W, Ext w8 W → W.cell? ⟨q, 0, none⟩ = some (.bool pol) := fun W hW => h0 W (hx8.trans hW)
 have r1 : ∀ W, Ext w8 W → W.cell? ⟨q, 1, none⟩ = some (.int .i64 p) := fun W hW => h1 W (hx8.trans hW)
 have r2 : ∀ W, Ext w8 W → W.cell? ⟨q, 2, none⟩ = some (.string s) := fun W hW => h2 W (hx8.trans hW)
 have r3 : ∀ W, Ext w8 W → W.cell? ⟨q, 3, none⟩ = some (.int .u64 (id : Int)) := fun W hW => h3 W (hx8.trans hW)
 clear h0 h1 h2 h3
 cases b with
 | true =>
  have he0 : ee = 0 := by rw [← hee.out]; rfl
  subst he0
  go_wp2_with fail
  refine Reg.startE (by kernel_rfl) ?_
  refine Reg.tk 0 ?_; (try simp only [Reg.nn])
  refine Reg.tk 2 ?_; (try simp only [Reg.nn])
  refine Reg.onlyE 1 _ rfl (by kernel_rfl) (by decide) (by rfl) (fun W hW K hK => ?_); go_simp
  refine (hcp.out W (hx8.trans hW)).mono ?_
  rintro en wX ⟨rfl, hX⟩
  have hxX := hW.trans hX
  replace r0 := fun W' (hW' : Ext wX W') => r0 W' (hxX.trans hW')
  replace r1 := fun W' (hW' : Ext wX W') => r1 W' (hxX.trans hW')
  replace r2 := fun W' (hW' : Ext wX W') => r2 W' (hxX.trans hW')
  replace r3 := fun W' (hW' : Ext wX W') => r3 W' (hxX.trans hW')
  replace hcv1 := fun W' (hW' : Ext wX W') => hcv1 W' (hxX.trans hW')
  replace hcv2 := fun W' (hW' : Ext wX W') => hcv2 W' (hxX.trans hW')
  replace hx8 := hx8.trans hxX
  clear hxX
  refine hK.out _ _ (hX) ?_; clear hK K; (try simp only [Reg.nn])
  refine Reg.onlyE 3 _ rfl (by kernel_rfl) (by decide) (by rfl) (fun W hW K hK => ?_); go_simp
  refine (hcr.out W).mono ?_
  rintro en wX ⟨rfl, hX⟩
  have hxX := hW.trans hX
  replace r0 := fun W' (hW' : Ext wX W') => r0 W' (hxX.trans hW')
  replace r1 := fun W' (hW' : Ext wX W') => r1 W' (hxX.trans hW')
  replace r2 := fun W' (hW' : Ext wX W') => r2 W' (hxX.trans hW')
  replace r3 := fun W' (hW' : Ext wX W') => r3 W' (hxX.trans hW')
  replace hcv1 := fun W' (hW' : Ext wX W') => hcv1 W' (hxX.trans hW')
  replace hcv2 := fun W' (hW' : Ext wX W') => hcv2 W' (hxX.trans hW')
  replace hx8 := hx8.trans hxX
  clear hxX
  refine hK.out _ _ (hX) ?_; clear hK K; (try simp only [Reg.nn])
  refine Reg.tk 4 ?_; (try simp only [Reg.nn])
  refine Reg.tk 5 ?_; (try simp only [Reg.nn])
  refine Reg.tk 6 ?_; (try simp only [Reg.nn])
  refine Reg.tk 7 ?_; (try simp only [Reg.nn])
  refine Reg.tk 8 ?_; (try simp only [Reg.nn])
  refine Reg.onlyE 9 _ rfl (by kernel_rfl) (by decide) (by rfl) (fun W hW K hK => ?_); go_simp
  refine (hcr.out W).mono ?_
  rintro en wX ⟨rfl, hX⟩
  have hxX := hW.trans hX
  replace r0 := fun W' (hW' : Ext wX W') => r0 W' (hxX.trans hW')
  replace r1 := fun W' (hW' : Ext wX W') => r1 W' (hxX.trans hW')
  replace r2 := fun W' (hW' : Ext wX W') => r2 W' (hxX.trans hW')
  replace r3 := fun W' (hW' : Ext wX W') => r3 W' (hxX.trans hW')
  replace hcv1 := fun W' (hW' : Ext wX W') => hcv1 W' (hxX.trans hW')
  replace hcv2 := fun W' (hW' : Ext wX W') => hcv2 W' (hxX.trans hW')
  replace hx8 := hx8.trans hxX
  clear hxX
  refine hK.out _ _ (hX) ?_; clear hK K; (try simp only [Reg.nn])
  refine Reg.tk 10 ?_; (try simp only [Reg.nn])
  refine Reg.tk 11 ?_; (try simp only [Reg.nn])
  refine Reg.tk 12 ?_; (try simp only [Reg.nn])
  refine Reg.tk 13 ?_; (try simp only [Reg.nn])
  refine Reg.tk 14 ?_; (try simp only [Reg.nn])
  refine Reg.tk 15 ?_; (try simp only [Reg.nn])
  refine Reg.sk 16 ?_; (try simp only [Reg.nn])
  refine Reg.sk 17 ?_; (try simp only [Reg.nn])
  refine Reg.tk 18 ?_; (try simp only [Reg.nn])
  refine Reg.tk 19 ?_; (try simp only [Reg.nn])
  refine Reg.tk 20 ?_; (try simp only [Reg.nn])
  refine Reg.tk 21 ?_; (try simp only [Reg.nn])
  refine Reg.tk 22 ?_; (try simp only [Reg.nn])
  refine Reg.tk 23 ?_; (try simp only [Reg.nn])
  refine Reg.tk 24 ?_; (try simp only [Reg.nn])
  refine Reg.tk 25 ?_; (try simp only [Reg.nn])
  refine Reg.tk 26 ?_; (try simp only [Reg.nn])
  refine Reg.tk 27 ?_; (try simp only [Reg.nn])
  refine Reg.onlyE 28 _ rfl (by kernel_rfl) (by decide) (by rfl) (fun W hW K hK => ?_); go_simp
  refine (hli.out W (hx8.trans hW)).mono ?_
  rintro en wX ⟨rfl, hX⟩
  replace hx8 := (hx8.trans hW).trans hX
  refine hK.out _ _ (hX) ?_; clear hK K; (try simp only [Reg.nn])
  refine Reg.tk 29 ?_; (try simp only [Reg.nn])
  refine Reg.tk 30 ?_; (try simp only [Reg.nn])
  refine Reg.fin (by kernel_rfl) (fun W hW => ?_)
  go_wp2_with fail
  go_ret
  exact ⟨rfl, hx1.trans (hx8.trans hW)⟩
 | false =>
  have he0 : ee = 1 := by rw [← hee.out]; rfl
  subst he0
  go_wp2_with fail
  refine Reg.startE (by kernel_rfl) ?_
  refine Reg.tk 0 ?_; (try simp only [Reg.nn])
  refine Reg.tk 2 ?_; (try simp only [Reg.nn])
  refine Reg.onlyE 1 _ rfl (by kernel_rfl) (by decide) (by rfl) (fun W hW K hK => ?_); go_simp
  refine (hcp.out W (hx8.trans hW)).mono ?_
  rintro en wX ⟨rfl, hX⟩
  have hxX := hW.trans hX
  replace r0 := fun W' (hW' : Ext wX W') => r0 W' (hxX.trans hW')
  replace r1 := fun W' (hW' : Ext wX W') => r1 W' (hxX.trans hW')
  replace r2 := fun W' (hW' : Ext wX W') => r2 W' (hxX.trans hW')
  replace r3 := fun W' (hW' : Ext wX W') => r3 W' (hxX.trans hW')
  replace hcv1 := fun W' (hW' : Ext wX W') => hcv1 W' (hxX.trans hW')
  replace hcv2 := fun W' (hW' : Ext wX W') => hcv2 W' (hxX.trans hW')
  replace hx8 := hx8.trans hxX
  clear hxX
  refine hK.out _ _ (hX) ?_; clear hK K; (try simp only [Reg.nn])
  refine Reg.onlyE 3 _ rfl (by kernel_rfl) (by decide) (by rfl) (fun W hW K hK => ?_); go_simp
  refine (hcr.out W).mono ?_
  rintro en wX ⟨rfl, hX⟩
  have hxX := hW.trans hX
  replace r0 := fun W' (hW' : Ext wX W') => r0 W' (hxX.trans hW')
  replace r1 := fun W' (hW' : Ext wX W') => r1 W' (hxX.trans hW')
  replace r2 := fun W' (hW' : Ext wX W') => r2 W' (hxX.trans hW')
  replace r3 := fun W' (hW' : Ext wX W') => r3 W' (hxX.trans hW')
  replace hcv1 := fun W' (hW' : Ext wX W') => hcv1 W' (hxX.trans hW')
  replace hcv2 := fun W' (hW' : Ext wX W') => hcv2 W' (hxX.trans hW')
  replace hx8 := hx8.trans hxX
  clear hxX
  refine hK.out _ _ (hX) ?_; clear hK K; (try simp only [Reg.nn])
  refine Reg.tk 4 ?_; (try simp only [Reg.nn])
  refine Reg.tk 5 ?_; (try simp only [Reg.nn])
  refine Reg.tk 6 ?_; (try simp only [Reg.nn])
  refine Reg.tk 7 ?_; (try simp only [Reg.nn])
  refine Reg.tk 8 ?_; (try simp only [Reg.nn])
  refine Reg.onlyE 9 _ rfl (by kernel_rfl) (by decide) (by rfl) (fun W hW K hK => ?_); go_simp
  refine (hcr.out W).mono ?_
  rintro en wX ⟨rfl, hX⟩
  have hxX := hW.trans hX
  replace r0 := fun W' (hW' : Ext wX W') => r0 W' (hxX.trans hW')
  replace r1 := fun W' (hW' : Ext wX W') => r1 W' (hxX.trans hW')
  replace r2 := fun W' (hW' : Ext wX W') => r2 W' (hxX.trans hW')
  replace r3 := fun W' (hW' : Ext wX W') => r3 W' (hxX.trans hW')
  replace hcv1 := fun W' (hW' : Ext wX W') => hcv1 W' (hxX.trans hW')
  replace hcv2 := fun W' (hW' : Ext wX W') => hcv2 W' (hxX.trans hW')
  replace hx8 := hx8.trans hxX
  clear hxX
  refine hK.out _ _ (hX) ?_; clear hK K; (try simp only [Reg.nn])
  refine Reg.tk 10 ?_; (try simp only [Reg.nn])
  refine Reg.tk 11 ?_; (try simp only [Reg.nn])
  refine Reg.tk 12 ?_; (try simp only [Reg.nn])
  refine Reg.tk 13 ?_; (try simp only [Reg.nn])
  refine Reg.tk 14 ?_; (try simp only [Reg.nn])
  refine Reg.tk 15 ?_; (try simp only [Reg.nn])
  refine Reg.tk 16 ?_; (try simp only [Reg.nn])
  refine Reg.tk 17 ?_; (try simp only [Reg.nn])
  refine Reg.tk 18 ?_; (try simp only [Reg.nn])
  refine Reg.tk 19 ?_; (try simp only [Reg.nn])
  refine Reg.tk 20 ?_; (try simp only [Reg.nn])
  refine Reg.tk 21 ?_; (try simp only [Reg.nn])
  refine Reg.tk 22 ?_; (try simp only [Reg.nn])
  refine Reg.tk 23 ?_; (try simp only [Reg.nn])
  refine Reg.tk 24 ?_; (try simp only [Reg.nn])
  refine Reg.tk 25 ?_; (try simp only [Reg.nn])
  refine Reg.tk 26 ?_; (try simp only [Reg.nn])
  refine Reg.tk 27 ?_; (try simp only [Reg.nn])
  refine Reg.onlyE 28 _ rfl (by kernel_rfl) (by decide) (by rfl) (fun W hW K hK => ?_); go_simp
  refine (hli.out W (hx8.trans hW)).mono ?_
  rintro en wX ⟨rfl, hX⟩
  replace hx8 := (hx8.trans hW).trans hX
  refine hK.out _ _ (hX) ?_; clear hK K; (try simp only [Reg.nn])
  refine Reg.tk 29 ?_; (try simp only [Reg.nn])
  refine Reg.tk 30 ?_; (try simp only [Reg.nn])
  refine Reg.fin (by kernel_rfl) (fun W hW => ?_)
  go_wp2_with fail
  go_ret
  exact ⟨rfl, hx1.trans (hx8.trans hW)⟩
end Go.Proofs.YtbpfabhlngfciaaGreatDoor.Rk
namespace Go.Proofs.YtbpfabhlngfciaaGreatDoor.Args
open Go.ChangeShapes Go.WideShapes Go.ChangeAt Go.RowKit
open Base Pr Ch
instance : Inhabited Et := ⟨e0⟩
theorem cells_ent : Tryz.prog.cellsOf 55 = 4 := by kernel_rfl
def entD {H : Type} (e : Et) : DataW H := .agg [.lit (.bool e.pol), .lit (.int .i64 e.p), .lit (.string e.s.data.toList), .lit (.int .u64 (e.id : Int))]
structure EtIn (e : Et) : Prop where
 p1 : -9223372036854775808 ≤ e.p
 p2 : e.p ≤ 9223372036854775807
 id1 : e.id < 18446744073709551616
theorem rdr_ent {H : Type} {enc : TypeId × Value → H} {W : World} : Rdr enc Tryz.prog W 55 entC (fun e D => D = entD e ∧ EtIn e) := by
 refine ⟨fun fuel cs D pl hf => ?_⟩
 obtain ⟨xs, m, _, hx, hl, hlen, hfs⟩ := DataW.trod_struct Tryz.underlying55 hf
 injection hx with hD _
 match xs, hlen with
 | [y0, y1, y2, y3], _ =>
  have g0 := hfs 0 _ rfl
  have g1 := hfs 1 _ rfl
  have g2 := hfs 2 _ rfl
  have g3 := hfs 3 _ rfl
  have hl4 : cs.length = 4 := hl.trans cells_ent
  match cs, hl4 with
  | [c0, c1, c2, c3], _ =>
   have g0 : DataW.trod enc Tryz.prog W 0 (fun _ => true) true m 4 [c0] = some y0 := g0
   have g1 : DataW.trod enc Tryz.prog W 0 (fun _ => true) true m 3 [c1] = some y1 := g1
   have g2 : DataW.trod enc Tryz.prog W 0 (fun _ => true) true m 9 [c2] = some y2 := g2
   have g3 : DataW.trod enc Tryz.prog W 0 (fun _ => true) true m 53 [c3] = some y3 := g3
   obtain ⟨z0, e0, f0⟩ := (rdr_bool Tryz.underlying4).rd _ _ _ _ g0
   obtain ⟨z1, e1, f1, b1⟩ := (rdr_int Tryz.underlying3).rd _ _ _ _ g1
   obtain ⟨z2, e2, f2, _⟩ := (rdr_string Tryz.underlying9).rd _ _ _ _ g2
   obtain ⟨z3, e3, f3, b3⟩ := (rdr_int Tryz.underlying53).rd _ _ _ _ g3
   injection e0 with e0 _
   injection e1 with e1 _
   injection e2 with e2 _
   injection e3 with e3 _
   subst e0; subst e1; subst e2; subst e3
   have b1 : -9223372036854775808 ≤ z1 ∧ z1 ≤ 9223372036854775807 := by simpa [Lit.wf, IntKind.min, IntKind.max, IntKind.signed, IntKind.bits] using b1
   have b3 : 0 ≤ z3 ∧ z3 ≤ 18446744073709551615 := by simpa [Lit.wf, IntKind.min, IntKind.max, IntKind.signed, IntKind.bits] using b3
   obtain ⟨k, rfl⟩ : ∃ k : Nat, z3 = (k : Int) := ⟨z3.toNat, by omega⟩
   refine ⟨⟨z0, z1, z2, k⟩, rfl, ?_, ⟨b1.1, b1.2, by show k < _; omega⟩⟩
   rw [hD]
   simp only [List.map_cons, List.map_nil, f0, f1, f2, f3, entD]
theorem ent_arg {H : Type} {enc : TypeId × Value → H} {W : World} {base : Nat} {v : Value} {d : DataW H} {p : List MemPlace} (hv : Value.okWide Tryz.prog W .any base 55 v) (h : DataW.Trod enc Tryz.prog W 0 (fun _ => true) true 55 v d p) :
  ∃ e, v = entV e ∧ d = entD e ∧ EtIn e := by
 obtain ⟨cs, rfl, hsz⟩ : ∃ cs, v = .agg cs ∧ cs.size = 4 := by
  unfold Value.okWide at hv
  rw [Tryz.underlying55] at hv
  obtain ⟨cs, h1, h2, _⟩ := hv
  exact ⟨cs, h1, h2.trans cells_ent⟩
 obtain ⟨fuel, hf⟩ := h
 obtain ⟨e, he, h1, h2⟩ := rdr_ent.rd _ _ _ _ hf
 refine ⟨e, ?_, h1, h2⟩
 have : cs.toList = entC e := he
 unfold entV
 congr 1
 exact Array.ext' (by rw [this]; rfl)
theorem ent_reach {H : Type} {ts : List TypeId} {ds : List (DataW H)} (h : (DataW.weightsEach Tryz.prog ts ds).all (· ≤ reachBytes) = true) {j : Nat} {e : Et}
  (ht : ts[j]? = some 55) (hd : ds[j]? = some (entD e)) : e.s.size ≤ 140737488351232 := by
 have hm : e.s.data.toList.length ∈ (entD (H := H) e).weights Tryz.prog 55 := by
  unfold entD
  unfold DataW.weights
  rw [Tryz.underlying55]
  simp [DataW.weightsEach, DataW.weights]
 have := of_decide_eq_true (List.all_eq_true.1 h _ (DataW.weights_mem_each ht hd _ hm))
 simp only [reachBytes] at this
 have e1 : e.s.data.toList.length = e.s.size := Array.length_toList
 omega
theorem ent_bulk {H : Type} {ds : List (DataW H)} {b : Nat} (h : Rows.uptoBulkAll ds ≤ b) {j : Nat} {e : Et} (hd : ds[j]? = some (entD e)) : e.s.size ≤ b := by
 have h1 := bulk_at h hd
 unfold entD at h1
 simp only [Rows.uptoBulk, Rows.uptoBulkAll] at h1
 have e1 : e.s.data.toList.length = e.s.size := Array.length_toList
 omega
theorem ents_arg {H : Type} {enc : TypeId × Value → H} {W : World} {base : Nat} {v : Value} {d : DataW H} {p : List MemPlace} (hv : Value.okWide Tryz.prog W .any base 66 v) (h : DataW.Trod enc Tryz.prog W 0 (fun _ => true) true 66 v d p) :
  ∃ l, Sl W.heap.size W v l.length (l.flatMap entC) ∧ Bk (fun e D => D = entD e ∧ EtIn e) l d := by
 obtain ⟨fuel, hf⟩ := h
 obtain ⟨A, n, c, rfl⟩ := okWide_slice (e := 55) (by kernel_rfl) hv
 obtain ⟨⟨v3, l3⟩, e3, s3, f3⟩ := (rdr_ent.slice (t := 66) (by kernel_rfl) (s := 4) (by kernel_rfl) (fun _ => rfl) (by omega)).rd _ _ _ _ hf
 have e3 : Value.slice A n c = v3 := by simpa [Value.cells] using e3
 subst e3
 exact ⟨l3, s3, f3⟩
theorem ents_reach {H : Type} {ts : List TypeId} {ds : List (DataW H)} (h : (DataW.weightsEach Tryz.prog ts ds).all (· ≤ reachBytes) = true) {j : Nat} {l : List Et} {d : DataW H}
  (ht : ts[j]? = some 66) (hd : ds[j]? = some d) (hb : Bk (fun e D => D = entD e ∧ EtIn e) l d) : l.length * 40 ≤ 140737488351232 := by
 rcases hb with ⟨_, rfl⟩ | ⟨es, sp, rfl, h2, h3⟩
 ·simp
 ·have := sized_slice h ht hd (e := 55) (by kernel_rfl)
  have hby : Tryz.prog.bytesOf 55 = 40 := by kernel_rfl
  rw [hby] at this
  simp only [reachBytes] at this
  rw [← h2]
  have h5 : es.length * 40 ≤ (es.length + sp.length) * 40 := Nat.mul_le_mul_right _ (Nat.le_add_right _ _)
  omega
end Go.Proofs.YtbpfabhlngfciaaGreatDoor.Args
namespace Go.Proofs.YtbpfabhlngfciaaGreatDoor.chainPutsUpto
open Go.ChangeShapes Go.WideShapes Go.ChangeAt Go.RowKit
open Go.ChangeMaps (open_string shut_string)
open Base Args
theorem own : ownKnob Tryz.prog.godebug = none := by kernel_rfl
theorem laidOut : laidOutB Tryz.prog = true := by kernel_rfl
theorem laid_met (os : Os) : laidMet Tryz.prog Rows.chainPutsUptoRow.laid ((Pr.laidWorld os).forCall (fun _ _ => 0) ⟨#[], #[.slice none 0 0, .agg #[.bool false, .int .i64 0, .string ByteArray.empty, .int .u64 0]], []⟩).memory :=
 laidMet_of_run' 8 (by kernel_rfl) (by kernel_rfl)
theorem reads (os : Os) {H : Type} (enc : TypeId × Value → H) : ∃ places, DataW.whole enc Tryz.prog ((Pr.laidWorld os).forCall (fun _ _ => 0) ⟨#[], #[.slice none 0 0, .agg #[.bool false, .int .i64 0, .string ByteArray.empty, .int .u64 0]], []⟩).memory Tryz.f8.params.toList Rows.chainPutsSpec.vars false (#[.slice none 0 0, .agg #[.bool false, .int .i64 0, .string ByteArray.empty, .int .u64 0]] : Array Value).toList 8 = some ([.nil, .agg [.lit (.bool false), .lit (.int .i64 0), .lit (.string []), .lit (.int .u64 0)]], [], places) :=
 ⟨[], by kernel_rfl⟩
theorem lifted (os : Os) (started : os.Started) (H : Type) (enc : TypeId × Value → H) (F : Stop.Interp) :
  ReturnsInHanded {} Tryz.checked os 8 .any ((Rows.OpenSpec.upto Rows.chainPutsSpec).preRow enc Tryz.prog Tryz.f8 Rows.chainPutsUptoRow.domain false Rows.chainPutsUptoRow.laid) (((Rows.OpenSpec.upto Rows.chainPutsSpec).at F).post enc Tryz.prog Tryz.f8 false true false false) := by
 obtain ⟨places, hx⟩ := reads os enc
 refine returnsInHanded_of_row (C := Tryz.checked) (s := (Rows.OpenSpec.upto Rows.chainPutsSpec)) own started (by kernel_rfl) Tryz.func8
  (witness_row_at (enc := enc) (C := Tryz.checked) false (Pr.laidWorld os) #[.slice none 0 0, .agg #[.bool false, .int .i64 0, .string ByteArray.empty, .int .u64 0]] rfl (by kernel_rfl) (by kernel_rfl) (by kernel_rfl)
   (OpenSpec.preRow_of_cond 8 hx (by kernel_rfl) (fun k hk => by cases hk; kernel_rfl) (by kernel_rfl) (laid_met os))) ?_
 intro W base args ds gs before hval0 hW hcnd hk0 hsz0 hL _ _
 have hk := hk0 _ rfl
 have hval : ∀ (j : Nat) t v, Tryz.f8.params[j]? = some t → args[j]? = some v → Value.okWide Tryz.prog W .any base t v := hval0
 have hW' := hW
 obtain ⟨p, q, hAz, hV, rfl, hfz, hnd⟩ := hW
 have hA : DataW.TrodAll enc Tryz.prog W 0 (fun _ => true) true Tryz.f8.params.toList args.toList ds p := hAz
 rw [Tryz.params8] at hA hval
 obtain ⟨v0, vs0, d0, ds0, p0, q0, hargs, rfl, rfl, h0, r0⟩ := trodAll_cons hA
 obtain ⟨v1, vs1, d1, ds1, p1, q1, rfl, rfl, rfl, h1, r1⟩ := trodAll_cons r0
 obtain ⟨rfl, rfl, rfl⟩ := trodAll_nil r1
 obtain rfl : args = #[v0, v1] := by cases args; simp_all
 obtain ⟨rfl, rfl⟩ := trodVars_none hV
 have hbulk := bulk_le hk
 have k0 := h0
 have lt0 : ∀ x ∈ p0, x.block < W.heap.size := by obtain ⟨m, hm⟩ := k0; exact DataW.trod_lt m _ _ _ hm
 obtain ⟨A0, n0, c0, l0, rfl, hl0, hr0, hc0, hm0, hA0, hd0⟩ := bytes_arg Tryz.underlying50 Tryz.underlying5 (by kernel_rfl) (hval 0 50 v0 rfl rfl) h0
 have hz0 : n0 ≤ 1048576 := bytes_bulk hbulk (j := 0) rfl hd0
 have k1 := h1
 have lt1 : ∀ x ∈ p1, x.block < W.heap.size := by obtain ⟨m, hm⟩ := k1; exact DataW.trod_lt m _ _ _ hm
 obtain ⟨e1, rfl, rfl, hE1⟩ := ent_arg (hval 1 55 v1 rfl rfl) h1
 have hz1 : e1.s.size ≤ 1048576 := ent_bulk hbulk (j := 1) rfl
 have hT1 : Ch.EtOk e1 := ⟨hE1.p1, hE1.p2, by omega, hE1.id1⟩
 clear hAz hval0
 refine (Rk.puts_any A0 n0 c0 l0 e1 hT1 W (Pr.tabs hL).1 (Pr.tabs hL).2 hl0 hr0 hA0 hz0).mono fun e W' ⟨he, bel⟩ => ?_
 have bel : Below W.heap.size W W' := bel
 subst he
 exact ⟨_, rfl, _, _, _, [], _, [], hW', trodAll_mk1 (shut_bool Tryz.underlying4 _), (trodAll_cons_mk (Below.trod laidOut (by kernel_rfl) (of_decide_eq_true (by kernel_rfl)) k0 bel lt0) (trodAll_cons_mk (Below.trod laidOut (by kernel_rfl) (of_decide_eq_true (by kernel_rfl)) k1 bel lt1) trodAll_mk0)), rfl, bel.frame _, fun h => by cases h⟩
theorem said : Rows.ChainPutsUptoSaid :=
 OpenClaim.holds_of_cond 8 Tryz.f8 rfl rfl rfl rfl rfl rfl rfl ⟨rfl, rfl, rfl, rfl, rfl⟩ rfl rfl rfl rfl rfl (by kernel_rfl) Tryz.func8 (by kernel_rfl)
  (of_decide_eq_true (by kernel_rfl)) (by unfold Func.isWrapper; first | (rw [if_pos (by decide +kernel)]; kernel_rfl) | (rw [if_neg (by decide +kernel)]; exact ⟨rfl, rfl⟩))
  (fun os started H enc _ F => by rw [OpenClaim.pre_eq_preRow]; exact lifted os started H enc F)
theorem plain (f : FuncId) (fn : Func) (hf : Tryz.pinned.checked.prog.funcNamed "suffragan/suffraganlaw17.ChainPuts" = some f) (hfn : Tryz.pinned.checked.prog.funcs[f]? = some fn) :
  true = Tryz.pinned.checked.prog.looks [] ∧ ∀ (j : Nat) t, fn.params[j]? = some t → Tryz.pinned.checked.prog.wantsStandIn t = false := by
 obtain rfl : f = 8 := Option.some.inj ((show Tryz.prog.funcNamed "suffragan/suffraganlaw17.ChainPuts" = some 8 by kernel_rfl).symm.trans hf) |>.symm
 obtain rfl : fn = Tryz.f8 := (Option.some.inj (Tryz.func8.symm.trans hfn)).symm
 refine ⟨by kernel_rfl, fun j t ht => ?_⟩
 rw [Tryz.params8] at ht
 have hm := Array.mem_of_getElem? ht
 simp only [Array.mem_def, List.mem_cons, List.mem_nil_iff, or_false] at hm
 rcases hm with rfl | rfl
 ·exact (show Tryz.prog.wantsStandIn 50 = false by kernel_rfl)
 ·exact (show Tryz.prog.wantsStandIn 55 = false by kernel_rfl)
theorem proved : Rows.ChainPutsUptoCardSaid :=
 Claim7.holds_tied_plain_at .later [] _ _ _ _ said (fun _ h => by cases h) (by kernel_rfl) (fun _ h => by cases h) chainPutsUpto_row_tie rfl ⟨rfl, rfl⟩ (by kernel_rfl) rfl plain (by kernel_rfl)
#print axioms proved
end Go.Proofs.YtbpfabhlngfciaaGreatDoor.chainPutsUpto
