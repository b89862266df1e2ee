/- suffragan/suffraganlaw08.CanonLogs: the given statement, out of the contract of its walk. No condition. -/
import Derived.Test.YtbpfabhlngfciaaGreatDoorCpO
import Derived.Maps.AppendAt
import Derived.Lib.AppendStr
import Derived.Deep.Upon
import Derived.Deep.AppendSrc
import Derived.BigFrame
import Derived.SizedLaws
import Derived.ShutString
import Derived.ChangeOld
import Derived.SliceStrings
set_option linter.unusedVariables false
set_option linter.unusedSimpArgs false
set_option maxRecDepth 100000
set_option maxHeartbeats 1000000
namespace Go.Proofs.YtbpfabhlngfciaaGreatDoor.Pf
def cls (n : Nat) : Int := if 4611686018427387904 ≤ n then -1 else if 1073741824 ≤ n then 3 else if 16384 ≤ n then 2 else if 64 ≤ n then 1 else 0
def be : Nat → Nat → List UInt8
 | 0, _ => []
 | m + 1, v => UInt8.ofNat (v / 256 ^ m % 256) :: be m v
def putP (n k : Nat) : List UInt8 := be (2 ^ k) (n + k * 2 ^ (8 * 2 ^ k - 2))
def encN (n : Nat) : List UInt8 := putP n (cls n).toNat
def numB (a : Nat) : List UInt8 → Nat
 | [] => a
 | c :: l => numB (a * 256 + c.toNat) l
def takeP : List UInt8 → Nat × List UInt8 × Nat
 | [] => (0, [], 3)
 | c :: r => if (c :: r).length < 2 ^ (c.toNat / 64) then (0, [], 3)
  else if cls (numB (c.toNat % 64) (r.take (2 ^ (c.toNat / 64) - 1))) ≠ (c.toNat / 64 : Nat) then (0, [], 4)
  else (numB (c.toNat % 64) (r.take (2 ^ (c.toNat / 64) - 1)), (c :: r).drop (2 ^ (c.toNat / 64)), 0)
def takeTextP (l : List UInt8) (most : Nat) : List UInt8 × List UInt8 × Nat :=
 if (takeP l).2.2 ≠ 0 then ([], [], (takeP l).2.2)
 else if most < (takeP l).1 then ([], [], 2)
 else if (takeP l).2.1.length < (takeP l).1 then ([], [], 3)
 else ((takeP l).2.1.take (takeP l).1, (takeP l).2.1.drop (takeP l).1, 0)
def encT (s : List UInt8) : List UInt8 := encN s.length ++ s
theorem be_length : ∀ (m v : Nat), (be m v).length = m
 | 0, _ => rfl
 | m + 1, v => by rw [be, List.length_cons, be_length m v]
theorem numB_be : ∀ (m v a : Nat), numB a (be m v) = a * 256 ^ m + v % 256 ^ m
 | 0, v, a => by simp [be, numB, Nat.mod_one]
 | m + 1, v, a => by
  rw [be, numB, numB_be m v, UInt8.toNat_ofNat_of_lt' (by show v / 256 ^ m % 256 < 256; omega)]
  have h1 : v % 256 ^ (m + 1) = v % 256 ^ m + 256 ^ m * (v / 256 ^ m % 256) := by rw [Nat.pow_succ]; exact Nat.mod_mul
  rw [h1, Nat.pow_succ, Nat.add_mul, Nat.mul_assoc a 256, Nat.mul_comm 256 (256 ^ m), Nat.mul_comm (v / 256 ^ m % 256)]
  omega
theorem cls_lt {n k : Nat} (hk : k ≤ 3) (h : cls n = k) : n < 64 * 256 ^ (2 ^ k - 1) := by
 unfold cls at h
 have : k = 0 ∨ k = 1 ∨ k = 2 ∨ k = 3 := by omega
 rcases this with rfl | rfl | rfl | rfl
 ·show n < 64 * 256 ^ 0; split at h <;> (try split at h) <;> (try split at h) <;> (try split at h) <;> omega
 ·show n < 64 * 256 ^ 1; split at h <;> (try split at h) <;> (try split at h) <;> (try split at h) <;> omega
 ·show n < 64 * 256 ^ 3; split at h <;> (try split at h) <;> (try split at h) <;> (try split at h) <;> omega
 ·show n < 64 * 256 ^ 7; split at h <;> (try split at h) <;> (try split at h) <;> (try split at h) <;> omega
theorem cls_k {n : Nat} (h : n < 4611686018427387904) : ∃ k : Nat, k ≤ 3 ∧ cls n = k := by
 unfold cls
 rw [if_neg (by omega)]
 split
 ·exact ⟨3, by omega, rfl⟩
 ·split
  ·exact ⟨2, by omega, rfl⟩
  ·split
   ·exact ⟨1, by omega, rfl⟩
   ·exact ⟨0, by omega, rfl⟩
theorem encN_cons {n k : Nat} (hk : k ≤ 3) (h : cls n = k) : ∃ c r, encN n = c :: r ∧ c.toNat / 64 = k ∧ r.length = 2 ^ k - 1 ∧ numB (c.toNat % 64) r = n := by
 have hlt := cls_lt hk h
 have hkk : (cls n).toNat = k := by rw [h]; rfl
 obtain ⟨m, hm⟩ : ∃ m, 2 ^ k = m + 1 := ⟨2 ^ k - 1, by have : 0 < 2 ^ k := Nat.two_pow_pos k; omega⟩
 have hp : 2 ^ (8 * 2 ^ k - 2) = 64 * 256 ^ m := by
  rw [hm, show 8 * (m + 1) - 2 = 8 * m + 6 by omega, Nat.pow_add, Nat.pow_mul]
  rw [Nat.mul_comm]
 rw [hm] at hlt
 simp only [Nat.add_sub_cancel] at hlt
 have hP : 0 < 256 ^ m := Nat.pos_of_ne_zero (by simp)
 obtain ⟨q, hq0⟩ : ∃ q, n / 256 ^ m = q := ⟨_, rfl⟩
 have hv : (n + k * (64 * 256 ^ m)) / 256 ^ m = q + k * 64 := by
  rw [← Nat.mul_assoc, Nat.add_mul_div_right _ _ hP, hq0]
 have hq : q < 64 := by rw [← hq0, Nat.div_lt_iff_lt_mul hP]; exact hlt
 have hmod : (n + k * (64 * 256 ^ m)) % 256 ^ m = n % 256 ^ m := by rw [← Nat.mul_assoc, Nat.add_mul_mod_self_right]
 have hdm := Nat.div_add_mod n (256 ^ m)
 rw [hq0, Nat.mul_comm] at hdm
 have hc : (UInt8.ofNat ((n + k * (64 * 256 ^ m)) / 256 ^ m % 256)).toNat = q + k * 64 := by
  rw [UInt8.toNat_ofNat_of_lt' (by show _ % 256 < 256; omega), hv]
  clear hdm hlt hmod hv hq0 hp
  omega
 refine ⟨UInt8.ofNat ((n + k * (64 * 256 ^ m)) / 256 ^ m % 256), be m (n + k * (64 * 256 ^ m)), ?_, ?_, ?_, ?_⟩
 ·unfold encN putP
  rw [hkk, hm, be, ← hm, hp]
 ·rw [hc]
  clear hdm hlt hmod hv hq0 hp hc
  omega
 ·rw [be_length, hm]; rfl
 ·rw [hc, numB_be, hmod]
  have e : (q + k * 64) % 64 = q := by
   clear hdm hlt hmod hv hq0 hp hc
   omega
  rw [e]
  exact hdm
theorem take_enc {n : Nat} (h : n < 4611686018427387904) (rest : List UInt8) : takeP (encN n ++ rest) = (n, rest, 0) := by
 obtain ⟨k, hk, hc⟩ := cls_k h
 obtain ⟨c, r, e, h1, h2, h3⟩ := encN_cons hk hc
 have hp : 0 < 2 ^ k := Nat.two_pow_pos k
 rw [e, List.cons_append, takeP, h1, if_neg (by simp only [List.length_cons, List.length_append]; omega)]
 rw [List.take_append_of_le_length (by omega), List.take_of_length_le (by omega), h3, if_neg (by rw [hc]; simp)]
 congr 2
 rw [← List.cons_append, List.drop_append_of_le_length (by rw [List.length_cons]; omega), List.drop_of_length_le (by rw [List.length_cons]; omega)]
 rfl
theorem takeText_enc (s rest : List UInt8) (most : Nat) (h : s.length ≤ most) (hm : most < 4611686018427387904) : takeTextP (encT s ++ rest) most = (s, rest, 0) := by
 unfold takeTextP encT
 rw [List.append_assoc, take_enc (by omega)]
 simp only [ne_eq, not_true_eq_false, if_false]
 rw [if_neg (by omega), if_neg (by rw [List.length_append]; omega)]
 rw [List.take_left', List.drop_left'] <;> rfl
theorem takeText_cut (s : List UInt8) (most : Nat) (h : s.length ≤ most) (hm : most < 4611686018427387904) (hs : s ≠ []) : takeTextP (encN s.length ++ s.dropLast) most = ([], [], 3) := by
 unfold takeTextP
 rw [take_enc (by omega)]
 simp only [ne_eq, not_true_eq_false, if_false]
 rw [if_neg (by omega), if_pos (by rw [List.length_dropLast]; have := List.length_pos_iff.2 hs; omega)]
theorem encN_length (n : Nat) : (encN n).length ≤ 8 ∨ 4611686018427387904 ≤ n := by
 rcases Nat.lt_or_ge n 4611686018427387904 with h | h
 ·left
  obtain ⟨k, hk, hc⟩ := cls_k h
  obtain ⟨c, r, e, h1, h2, h3⟩ := encN_cons hk hc
  rw [e, List.length_cons, h2]
  have : k = 0 ∨ k = 1 ∨ k = 2 ∨ k = 3 := by omega
  rcases this with rfl | rfl | rfl | rfl <;> decide
 ·exact .inr h
theorem encN_ne (n : Nat) : encN n ≠ [] := by
 have : (encN n).length = 2 ^ (cls n).toNat := be_length _ _
 intro e
 rw [e] at this
 have h2 : 0 < 2 ^ (cls n).toNat := Nat.two_pow_pos _
 simp only [List.length_nil] at this
 omega
end Go.Proofs.YtbpfabhlngfciaaGreatDoor.Pf
namespace Go.Proofs.YtbpfabhlngfciaaGreatDoor.Pf
open Go.ChangeShapes Go.WideShapes Go.ChangeAt Go.RowKit
open Base
theorem el8 : El Tryz.prog 50 5 (.int .u8 0) 1 1 := ⟨by kernel_rfl, by kernel_rfl, rfl, by omega⟩
theorem grw {B : Nat} {w w1 w' : World} {v : Value} {n : Nat} {xs : List Value} (hB : B ≤ w.heap.size) (ho : w.ownsRow B 5 1 v n xs) (hx : Ext w w1) (hg : w1.grownBy w' v.ownBlock) : Below B w w' :=
 Below.grown (Below.mono hx hB) hg (Nat.le_trans hB hx.size) (fun k hk => (ho.lt k hk).1)
abbrev Ow (B : Nat) (w : World) (v : Value) (l : List UInt8) : Prop := w.ownsRow B 5 1 v l.length (u8s l)
theorem clone_any (A : Option Addr) (n c : Nat) (l : List UInt8) (w : World) (hr : Rb w A l) (hl : l.length = n) (hA : A = none → c = 0) (hn : n ≤ 140737488355328) :
  Calls Tryz.prog 57 #[.slice A n c] w fun e w' => ∃ v, e = .returned v ∧ Ow w.heap.size w' v l ∧ Ext w w' := by
 cases A with
 | none =>
  have hnil : l = [] := by
   apply Classical.byContradiction
   intro h
   obtain ⟨b, off, e, _⟩ := hr (by simpa [u8s] using h)
   cases e
  subst hnil
  obtain rfl : n = 0 := by simpa using hl.symm
  obtain rfl : c = 0 := hA rfl
  have e1 : (binOp BinOp.eql 50 (.slice none 0 0) (.slice none 0 0)).run Tryz.prog w = .ok (.bool true) w := by kernel_rfl
  go_enter Tryz.func57, Tryz.ntmps57
  go_wp2_with fail
  go_ret
  exact ⟨_, rfl, World.ownsRow_nil _ _ _ _, Ext.refl w⟩
 | some a =>
  replace hA := Lib.hid hA
  have hl2 : (u8s l).length = n * 1 := by rw [u8s_length]; omega
  have hln := Lib.hid hl
  replace hl2 := Lib.hid hl2
  clear hl
  have e1 : (binOp BinOp.eql 50 (.slice (some a) n c) (.slice none 0 0)).run Tryz.prog w = .ok (.bool false) w := by kernel_rfl
  go_enter Tryz.func57, Tryz.ntmps57
  go_wp2_with (
   refine wpList_app el8 _ rfl (.tmp 5) (.tmp 6) rfl w.heap.size _ 0 [] rfl (World.ownsRow_lit w #[] 0 (Nat.le_refl _) (Nat.zero_le _) rfl) (some a) n c (u8s l) rfl (Rd.ext hr ((Ext.refl _).alloc _)) hl2.out hA.out (u8s_one l) (by omega) (by omega) (by simp) (fun V1 w1 ho1 hg1 hv1 => ?_))
  go_ret
  refine ⟨_, rfl, ?_, ?_⟩
  ·have := ho1; rw [List.nil_append, Nat.zero_add] at this; show w1.ownsRow _ _ _ _ l.length _; rw [hln.out]; exact this
  ·exact Ext.then_grown ((Ext.refl w).alloc _) hg1 (fun k hk => by
    have hk : some w.heap.size = some k := hk
    injection hk with hk
    omega)
theorem class_any (n : Nat) (hn : n < 18446744073709551616) (w : World) : Calls Tryz.prog 87 #[.int .u64 (n : Int)] w fun e w' => e = .returned (.int .i64 (cls n)) ∧ w = w' := by
 obtain ⟨r, hr⟩ : ∃ r, Hid (cls n = r) := ⟨_, Lib.hid rfl⟩
 rw [hr.out]
 by_cases h3 : 4611686018427387904 ≤ n
 ·have e : r = -1 := by rw [← hr.out, cls, if_pos h3]
  subst e
  have h3' : (4611686018427387904 : Int) ≤ (n : Int) := by omega
  clear h3 hn
  go_enter Tryz.func87, Tryz.ntmps87
  go_wp2_with fail
  go_ret
  exact ⟨rfl, rfl⟩
 have h3' : ¬ (4611686018427387904 : Int) ≤ (n : Int) := by omega
 by_cases h2 : 1073741824 ≤ n
 ·have e : r = 3 := by rw [← hr.out, cls, if_neg h3, if_pos h2]
  subst e
  have h2' : (1073741824 : Int) ≤ (n : Int) := by omega
  clear h3 hn h2
  go_enter Tryz.func87, Tryz.ntmps87
  go_wp2_with fail
  go_ret
  exact ⟨rfl, rfl⟩
 have h2' : ¬ (1073741824 : Int) ≤ (n : Int) := by omega
 by_cases h1 : 16384 ≤ n
 ·have e : r = 2 := by rw [← hr.out, cls, if_neg h3, if_neg h2, if_pos h1]
  subst e
  have h1' : (16384 : Int) ≤ (n : Int) := by omega
  clear h3 hn h2 h1
  go_enter Tryz.func87, Tryz.ntmps87
  go_wp2_with fail
  go_ret
  exact ⟨rfl, rfl⟩
 have h1' : ¬ (16384 : Int) ≤ (n : Int) := by omega
 by_cases h0 : 64 ≤ n
 ·have e : r = 1 := by rw [← hr.out, cls, if_neg h3, if_neg h2, if_neg h1, if_pos h0]
  subst e
  have h0' : (64 : Int) ≤ (n : Int) := by omega
  clear h3 hn h2 h1 h0
  go_enter Tryz.func87, Tryz.ntmps87
  go_wp2_with fail
  go_ret
  exact ⟨rfl, rfl⟩
 ·have e : r = 0 := by rw [← hr.out, cls, if_neg h3, if_neg h2, if_neg h1, if_neg h0]
  subst e
  have h0' : ¬ (64 : Int) ≤ (n : Int) := by omega
  clear h3 hn h2 h1 h0
  go_enter Tryz.func87, Tryz.ntmps87
  go_wp2_with fail
  go_ret
  exact ⟨rfl, rfl⟩
theorem ints8_one (l : List Int) : ∀ u ∈ l.map (Value.int .u8), u.oneCell' = true := by
 intro u hu
 obtain ⟨x, _, rfl⟩ := List.mem_map.1 hu
 rfl
theorem u8_be (m v : Nat) : u8s (be (m + 1) v) = .int .u8 ((v : Int) / ((256 ^ m : Nat) : Int) % 256) :: u8s (be m v) := by
 rw [be]
 simp only [u8s, List.map_cons, List.cons.injEq, Value.int.injEq, true_and, and_true]
 rw [UInt8.toNat_ofNat_of_lt' (by show _ % 256 < 256; omega)]
 rfl
theorem or_top (a b i m : Nat) (hm : m = 2 ^ i) (h : a < m) : a ||| (b * m) = a + b * m := by
 have h1 := Nat.shiftLeft_add_eq_or_of_lt (i := i) (b := a) (by omega) b
 rw [Nat.shiftLeft_eq, ← hm] at h1
 rw [Nat.or_comm, ← h1, Nat.add_comm]
theorem put_0 (B : Nat) (A : Option Addr) (m cap : Nat) (l : List UInt8) (n : Nat) (w : World) (ho : w.ownsRow B 5 1 (.slice A m cap) m (u8s l)) (hB : B ≤ w.heap.size) (hn : n < 64) (hm : m ≤ 140737488355000) :
  Calls Tryz.prog 86 #[.slice A m cap, .int .u64 (n : Int), .int .i64 0] w fun e w' => ∃ A' c', e = .returned (.slice A' (m + 1) c') ∧ w'.ownsRow B 5 1 (.slice A' (m + 1) c') (m + 1) (u8s (l ++ putP n 0)) ∧ Below B w w' := by
 obtain ⟨v, hv⟩ : ∃ v, v = n := ⟨_, rfl⟩
 have hp : putP n 0 = be 1 v := by rw [hv]; rfl
 subst hv
 have hor : bits BinOp.or IntKind.u64 (v : Int) 0 = (v : Int) := by
  rw [show (0 : Int) = ((0 : Nat) : Int) from rfl, u64_or_nat v 0 (by omega) (by decide), Nat.or_zero]
 have hrow : u8s (l ++ be 1 v) = (u8s l ++ [(v : Int) % 256].map (Value.int .u8)) := by
  rw [u8s_append, u8_be]
  simp [u8s, be]
 rw [hp, hrow]
 clear hp hrow hn
 try clear hv
 have hx0 := (Ext.refl w)
 go_enter Tryz.func86, Tryz.ntmps86
 go_wp2_with (first
  | (refine wpList_app el8 _ rfl (.tmp 52) (.tmp 55) rfl B (.slice A (m) cap) (m) (u8s l) rfl (own_ext ho ((Ext.refl w).alloc _)) (some ⟨w.heap.size, 0, none⟩) 1 1 ([(v : Int) % 256].map (Value.int .u8)) rfl (Rd.of_block w 5 (0, 0) rfl) rfl (fun h => by cases h) (ints8_one _) (by omega) (by omega) (by simp; omega) (fun V0 w0 ho0 hg0 hv0 => ?_)
     obtain ⟨A0, c0, rfl, jj1, jj2, jj3, jj4⟩ := Rd.of_own ho0
     have gr0 := grw hB ho ((Ext.refl w).alloc _) hg0
     have hz0 : B ≤ w0.heap.size := by have := gr0.size; omega
     clear jj1 jj2 jj3 jj4 hg0 hv0))
 go_ret
 exact ⟨_, _, rfl, ho0, gr0⟩
theorem put_1 (B : Nat) (A : Option Addr) (m cap : Nat) (l : List UInt8) (n : Nat) (w : World) (ho : w.ownsRow B 5 1 (.slice A m cap) m (u8s l)) (hB : B ≤ w.heap.size) (hn : n < 16384) (hm : m ≤ 140737488355000) :
  Calls Tryz.prog 86 #[.slice A m cap, .int .u64 (n : Int), .int .i64 1] w fun e w' => ∃ A' c', e = .returned (.slice A' (m + 2) c') ∧ w'.ownsRow B 5 1 (.slice A' (m + 2) c') (m + 2) (u8s (l ++ putP n 1)) ∧ Below B w w' := by
 obtain ⟨v, hv⟩ : ∃ v, v = n + 16384 := ⟨_, rfl⟩
 have hp : putP n 1 = be 2 v := by rw [hv]; rfl
 have hor : bits BinOp.or IntKind.u64 (n : Int) 16384 = (v : Int) := by
  rw [show (16384 : Int) = ((16384 : Nat) : Int) from rfl, u64_or_nat n 16384 (by omega) (by decide), show 16384 = 1 * 16384 from rfl, or_top n 1 14 16384 (by decide) (by omega), hv]
 have hrow : u8s (l ++ be 2 v) = ((u8s l ++ [(v : Int) / 256 % 256].map (Value.int .u8)) ++ [(v : Int) % 256].map (Value.int .u8)) := by
  rw [u8s_append, u8_be, u8_be]
  simp [u8s, be]
 rw [hp, hrow]
 clear hp hrow hn
 try clear hv
 have hx0 := (Ext.refl w)
 go_enter Tryz.func86, Tryz.ntmps86
 go_wp2_with (first
  | (refine wpList_app el8 _ rfl (.tmp 46) (.tmp 50) rfl B (.slice A (m) cap) (m) (u8s l) rfl (own_ext ho ((Ext.refl w).alloc _)) (some ⟨w.heap.size, 0, none⟩) 1 1 ([(v : Int) / 256 % 256].map (Value.int .u8)) rfl (Rd.of_block w 5 (0, 0) rfl) rfl (fun h => by cases h) (ints8_one _) (by omega) (by omega) (by simp; omega) (fun V0 w0 ho0 hg0 hv0 => ?_)
     obtain ⟨A0, c0, rfl, jj1, jj2, jj3, jj4⟩ := Rd.of_own ho0
     have gr0 := grw hB ho ((Ext.refl w).alloc _) hg0
     have hz0 : B ≤ w0.heap.size := by have := gr0.size; omega
     clear jj1 jj2 jj3 jj4 hg0 hv0)
  | (refine wpList_app el8 _ rfl (.tmp 52) (.tmp 55) rfl B (.slice A0 (m + 1) c0) (m + 1) ((u8s l) ++ [(v : Int) / 256 % 256].map (Value.int .u8)) rfl (own_ext ho0 ((Ext.refl w0).alloc _)) (some ⟨w0.heap.size, 0, none⟩) 1 1 ([(v : Int) % 256].map (Value.int .u8)) rfl (Rd.of_block w0 5 (0, 0) rfl) rfl (fun h => by cases h) (ints8_one _) (by omega) (by omega) (by simp; omega) (fun V1 w1 ho1 hg1 hv1 => ?_)
     obtain ⟨A1, c1, rfl, jj1, jj2, jj3, jj4⟩ := Rd.of_own ho1
     have gr1 := grw hz0 ho0 ((Ext.refl w0).alloc _) hg1
     have hz1 : B ≤ w1.heap.size := by have := gr1.size; omega
     clear jj1 jj2 jj3 jj4 hg1 hv1))
 go_ret
 exact ⟨_, _, rfl, ho1, (gr0).trans gr1⟩
theorem put_2 (B : Nat) (A : Option Addr) (m cap : Nat) (l : List UInt8) (n : Nat) (w : World) (ho : w.ownsRow B 5 1 (.slice A m cap) m (u8s l)) (hB : B ≤ w.heap.size) (hn : n < 1073741824) (hm : m ≤ 140737488355000) :
  Calls Tryz.prog 86 #[.slice A m cap, .int .u64 (n : Int), .int .i64 2] w fun e w' => ∃ A' c', e = .returned (.slice A' (m + 4) c') ∧ w'.ownsRow B 5 1 (.slice A' (m + 4) c') (m + 4) (u8s (l ++ putP n 2)) ∧ Below B w w' := by
 obtain ⟨v, hv⟩ : ∃ v, v = n + 2147483648 := ⟨_, rfl⟩
 have hp : putP n 2 = be 4 v := by rw [hv]; rfl
 have hor : bits BinOp.or IntKind.u64 (n : Int) 2147483648 = (v : Int) := by
  rw [show (2147483648 : Int) = ((2147483648 : Nat) : Int) from rfl, u64_or_nat n 2147483648 (by omega) (by decide), show 2147483648 = 2 * 1073741824 from rfl, or_top n 2 30 1073741824 (by decide) (by omega), hv]
 have hrow : u8s (l ++ be 4 v) = (((u8s l ++ [(v : Int) / 16777216 % 256, (v : Int) / 65536 % 256].map (Value.int .u8)) ++ [(v : Int) / 256 % 256].map (Value.int .u8)) ++ [(v : Int) % 256].map (Value.int .u8)) := by
  rw [u8s_append, u8_be, u8_be, u8_be, u8_be]
  simp [u8s, be]
 rw [hp, hrow]
 clear hp hrow hn
 try clear hv
 have hx0 := (Ext.refl w)
 go_enter Tryz.func86, Tryz.ntmps86
 go_wp2_with (first
  | (refine wpList_app el8 _ rfl (.tmp 37) (.tmp 44) rfl B (.slice A (m) cap) (m) (u8s l) rfl (own_ext ho ((Ext.refl w).alloc _)) (some ⟨w.heap.size, 0, none⟩) 2 2 ([(v : Int) / 16777216 % 256, (v : Int) / 65536 % 256].map (Value.int .u8)) rfl (Rd.of_block w 5 (0, 0) rfl) rfl (fun h => by cases h) (ints8_one _) (by omega) (by omega) (by simp; omega) (fun V0 w0 ho0 hg0 hv0 => ?_)
     obtain ⟨A0, c0, rfl, jj1, jj2, jj3, jj4⟩ := Rd.of_own ho0
     have gr0 := grw hB ho ((Ext.refl w).alloc _) hg0
     have hz0 : B ≤ w0.heap.size := by have := gr0.size; omega
     clear jj1 jj2 jj3 jj4 hg0 hv0)
  | (refine wpList_app el8 _ rfl (.tmp 46) (.tmp 50) rfl B (.slice A0 (m + 2) c0) (m + 2) ((u8s l) ++ [(v : Int) / 16777216 % 256, (v : Int) / 65536 % 256].map (Value.int .u8)) rfl (own_ext ho0 ((Ext.refl w0).alloc _)) (some ⟨w0.heap.size, 0, none⟩) 1 1 ([(v : Int) / 256 % 256].map (Value.int .u8)) rfl (Rd.of_block w0 5 (0, 0) rfl) rfl (fun h => by cases h) (ints8_one _) (by omega) (by omega) (by simp; omega) (fun V1 w1 ho1 hg1 hv1 => ?_)
     obtain ⟨A1, c1, rfl, jj1, jj2, jj3, jj4⟩ := Rd.of_own ho1
     have gr1 := grw hz0 ho0 ((Ext.refl w0).alloc _) hg1
     have hz1 : B ≤ w1.heap.size := by have := gr1.size; omega
     clear jj1 jj2 jj3 jj4 hg1 hv1)
  | (refine wpList_app el8 _ rfl (.tmp 52) (.tmp 55) rfl B (.slice A1 (m + 2 + 1) c1) (m + 2 + 1) (((u8s l) ++ [(v : Int) / 16777216 % 256, (v : Int) / 65536 % 256].map (Value.int .u8)) ++ [(v : Int) / 256 % 256].map (Value.int .u8)) rfl (own_ext ho1 ((Ext.refl w1).alloc _)) (some ⟨w1.heap.size, 0, none⟩) 1 1 ([(v : Int) % 256].map (Value.int .u8)) rfl (Rd.of_block w1 5 (0, 0) rfl) rfl (fun h => by cases h) (ints8_one _) (by omega) (by omega) (by simp; omega) (fun V2 w2 ho2 hg2 hv2 => ?_)
     obtain ⟨A2, c2, rfl, jj1, jj2, jj3, jj4⟩ := Rd.of_own ho2
     have gr2 := grw hz1 ho1 ((Ext.refl w1).alloc _) hg2
     have hz2 : B ≤ w2.heap.size := by have := gr2.size; omega
     clear jj1 jj2 jj3 jj4 hg2 hv2))
 go_ret
 exact ⟨_, _, rfl, ho2, ((gr0).trans gr1).trans gr2⟩
theorem put_3 (B : Nat) (A : Option Addr) (m cap : Nat) (l : List UInt8) (n : Nat) (w : World) (ho : w.ownsRow B 5 1 (.slice A m cap) m (u8s l)) (hB : B ≤ w.heap.size) (hn : n < 4611686018427387904) (hm : m ≤ 140737488355000) :
  Calls Tryz.prog 86 #[.slice A m cap, .int .u64 (n : Int), .int .i64 3] w fun e w' => ∃ A' c', e = .returned (.slice A' (m + 8) c') ∧ w'.ownsRow B 5 1 (.slice A' (m + 8) c') (m + 8) (u8s (l ++ putP n 3)) ∧ Below B w w' := by
 obtain ⟨v, hv⟩ : ∃ v, v = n + 13835058055282163712 := ⟨_, rfl⟩
 have hp : putP n 3 = be 8 v := by rw [hv]; rfl
 have hor : bits BinOp.or IntKind.u64 (n : Int) 13835058055282163712 = (v : Int) := by
  rw [show (13835058055282163712 : Int) = ((13835058055282163712 : Nat) : Int) from rfl, u64_or_nat n 13835058055282163712 (by omega) (by decide), show 13835058055282163712 = 3 * 4611686018427387904 from rfl, or_top n 3 62 4611686018427387904 (by decide) (by omega), hv]
 have hrow : u8s (l ++ be 8 v) = ((((u8s l ++ [(v : Int) / 72057594037927936 % 256, (v : Int) / 281474976710656 % 256, (v : Int) / 1099511627776 % 256, (v : Int) / 4294967296 % 256].map (Value.int .u8)) ++ [(v : Int) / 16777216 % 256, (v : Int) / 65536 % 256].map (Value.int .u8)) ++ [(v : Int) / 256 % 256].map (Value.int .u8)) ++ [(v : Int) % 256].map (Value.int .u8)) := by
  rw [u8s_append, u8_be, u8_be, u8_be, u8_be, u8_be, u8_be, u8_be, u8_be]
  simp [u8s, be]
 rw [hp, hrow]
 clear hp hrow hn
 try clear hv
 have hx0 := (Ext.refl w)
 go_enter Tryz.func86, Tryz.ntmps86
 go_wp2_with (first
  | (refine wpList_app el8 _ rfl (.tmp 22) (.tmp 35) rfl B (.slice A (m) cap) (m) (u8s l) rfl (own_ext ho ((Ext.refl w).alloc _)) (some ⟨w.heap.size, 0, none⟩) 4 4 ([(v : Int) / 72057594037927936 % 256, (v : Int) / 281474976710656 % 256, (v : Int) / 1099511627776 % 256, (v : Int) / 4294967296 % 256].map (Value.int .u8)) rfl (Rd.of_block w 5 (0, 0) rfl) rfl (fun h => by cases h) (ints8_one _) (by omega) (by omega) (by simp; omega) (fun V0 w0 ho0 hg0 hv0 => ?_)
     obtain ⟨A0, c0, rfl, jj1, jj2, jj3, jj4⟩ := Rd.of_own ho0
     have gr0 := grw hB ho ((Ext.refl w).alloc _) hg0
     have hz0 : B ≤ w0.heap.size := by have := gr0.size; omega
     clear jj1 jj2 jj3 jj4 hg0 hv0)
  | (refine wpList_app el8 _ rfl (.tmp 37) (.tmp 44) rfl B (.slice A0 (m + 4) c0) (m + 4) ((u8s l) ++ [(v : Int) / 72057594037927936 % 256, (v : Int) / 281474976710656 % 256, (v : Int) / 1099511627776 % 256, (v : Int) / 4294967296 % 256].map (Value.int .u8)) rfl (own_ext ho0 ((Ext.refl w0).alloc _)) (some ⟨w0.heap.size, 0, none⟩) 2 2 ([(v : Int) / 16777216 % 256, (v : Int) / 65536 % 256].map (Value.int .u8)) rfl (Rd.of_block w0 5 (0, 0) rfl) rfl (fun h => by cases h) (ints8_one _) (by omega) (by omega) (by simp; omega) (fun V1 w1 ho1 hg1 hv1 => ?_)
     obtain ⟨A1, c1, rfl, jj1, jj2, jj3, jj4⟩ := Rd.of_own ho1
     have gr1 := grw hz0 ho0 ((Ext.refl w0).alloc _) hg1
     have hz1 : B ≤ w1.heap.size := by have := gr1.size; omega
     clear jj1 jj2 jj3 jj4 hg1 hv1)
  | (refine wpList_app el8 _ rfl (.tmp 46) (.tmp 50) rfl B (.slice A1 (m + 4 + 2) c1) (m + 4 + 2) (((u8s l) ++ [(v : Int) / 72057594037927936 % 256, (v : Int) / 281474976710656 % 256, (v : Int) / 1099511627776 % 256, (v : Int) / 4294967296 % 256].map (Value.int .u8)) ++ [(v : Int) / 16777216 % 256, (v : Int) / 65536 % 256].map (Value.int .u8)) rfl (own_ext ho1 ((Ext.refl w1).alloc _)) (some ⟨w1.heap.size, 0, none⟩) 1 1 ([(v : Int) / 256 % 256].map (Value.int .u8)) rfl (Rd.of_block w1 5 (0, 0) rfl) rfl (fun h => by cases h) (ints8_one _) (by omega) (by omega) (by simp; omega) (fun V2 w2 ho2 hg2 hv2 => ?_)
     obtain ⟨A2, c2, rfl, jj1, jj2, jj3, jj4⟩ := Rd.of_own ho2
     have gr2 := grw hz1 ho1 ((Ext.refl w1).alloc _) hg2
     have hz2 : B ≤ w2.heap.size := by have := gr2.size; omega
     clear jj1 jj2 jj3 jj4 hg2 hv2)
  | (refine wpList_app el8 _ rfl (.tmp 52) (.tmp 55) rfl B (.slice A2 (m + 4 + 2 + 1) c2) (m + 4 + 2 + 1) ((((u8s l) ++ [(v : Int) / 72057594037927936 % 256, (v : Int) / 281474976710656 % 256, (v : Int) / 1099511627776 % 256, (v : Int) / 4294967296 % 256].map (Value.int .u8)) ++ [(v : Int) / 16777216 % 256, (v : Int) / 65536 % 256].map (Value.int .u8)) ++ [(v : Int) / 256 % 256].map (Value.int .u8)) rfl (own_ext ho2 ((Ext.refl w2).alloc _)) (some ⟨w2.heap.size, 0, none⟩) 1 1 ([(v : Int) % 256].map (Value.int .u8)) rfl (Rd.of_block w2 5 (0, 0) rfl) rfl (fun h => by cases h) (ints8_one _) (by omega) (by omega) (by simp; omega) (fun V3 w3 ho3 hg3 hv3 => ?_)
     obtain ⟨A3, c3, rfl, jj1, jj2, jj3, jj4⟩ := Rd.of_own ho3
     have gr3 := grw hz2 ho2 ((Ext.refl w2).alloc _) hg3
     have hz3 : B ≤ w3.heap.size := by have := gr3.size; omega
     clear jj1 jj2 jj3 jj4 hg3 hv3))
 go_ret
 exact ⟨_, _, rfl, ho3, (((gr0).trans gr1).trans gr2).trans gr3⟩
end Go.Proofs.YtbpfabhlngfciaaGreatDoor.Pf
namespace Go.Proofs.YtbpfabhlngfciaaGreatDoor.Base
open Go.ChangeShapes Go.WideShapes Go.ChangeAt Go.RowKit
def cutA (A : Option Addr) (c l : Nat) : Option Addr := if c = l then A else A.map (·.add l)
theorem cutA_block {A : Option Addr} {c l : Nat} {a : Addr} (h : cutA A c l = some a) : ∃ a0, A = some a0 ∧ a.block = a0.block := by
 unfold cutA at h
 split at h
 ·exact ⟨a, h, rfl⟩
 ·cases A with
  | none => cases h
  | some a0 =>
   simp only [Option.map_some, Option.some.injEq] at h
   refine ⟨a0, rfl, ?_⟩
   rw [← h]; unfold Addr.add; split <;> rfl
theorem cutA_none {A : Option Addr} {c l : Nat} (hA : A = none → c = 0) (h : cutA A c l = none) : c - l = 0 := by
 unfold cutA at h
 split at h
 ·omega
 ·cases A with
  | none => have := hA rfl; omega
  | some a0 => cases h
theorem Rd.cut {w : World} {A : Option Addr} {L : List Value} (h : Rd w A L) {c l k : Nat} (hl : l ≤ k) (hk : k ≤ c) : Rd w (cutA A c l) ((L.take k).drop l) := by
 intro hne
 have hlen : l < (L.take k).length := by
  rcases Nat.lt_or_ge l (L.take k).length with x | x
  ·exact x
  ·exact absurd (List.drop_eq_nil_of_le x) hne
 have hL : L ≠ [] := by rintro rfl; simp at hlen
 obtain ⟨b, off, rfl, hc⟩ := h hL
 have hlk : l < k := by rw [List.length_take] at hlen; omega
 refine ⟨b, off + l, ?_, fun j u hj => ?_⟩
 ·unfold cutA
  rw [if_neg (by omega)]
  simp only [Option.map_some]
  congr 1
  unfold Addr.add; split <;> simp_all
 ·rw [List.getElem?_drop, List.getElem?_take] at hj
  split at hj
  ·rw [Nat.add_assoc]; exact hc _ u hj
  ·cases hj
theorem Rb.cut {w : World} {A : Option Addr} {L : List UInt8} (h : Rb w A L) {c l k : Nat} (hl : l ≤ k) (hk : k ≤ c) : Rb w (cutA A c l) ((L.take k).drop l) := by
 have := Rd.cut h hl hk
 rwa [u8s, ← List.map_take, ← List.map_drop] at this
theorem run_cut {P : Program} {t e : TypeId} (ht : P.underlying t = some (.slice e)) (he : (P.info? e).map (·.size) = some 1) (w : World) (A : Option Addr) (n c l k : Nat) (lo hi : Option Value)
  (hlo : lo = some (.int .i64 (l : Int)) ∨ lo = none ∧ l = 0) (hhi : hi = some (.int .i64 (k : Int)) ∨ hi = none ∧ k = n) (hl : l ≤ k) (hk : k ≤ c) (hn : hi = none → n ≤ c) :
  (Instr.slice t (.slice A n c) lo hi none).run P w = .ok (.slice (cutA A c l) (k - l) (c - l)) w := by
 have h1 : (0 : Int) ≤ (l : Int) ∧ (l : Int) ≤ (k : Int) := by omega
 have h2 : (0 : Int) ≤ (k : Int) ∧ (k : Int) ≤ (c : Int) := by omega
 cases hq : P.info? e with
 | none => simp [hq] at he
 | some i =>
  have hi1 : i.size = 1 := by simpa [hq] using he
  rcases hlo with rfl | ⟨rfl, rfl⟩ <;> rcases hhi with rfl | ⟨rfl, rfl⟩ <;>
   simp [Instr.slice, Instr.sliceBounds, Instr.sliceBound, run_underlying ht, asIntOf, h1, h2, sizeOf, typeInfo, hq, hi1, cutA, go_sem] <;>
   (try rw [if_pos hk, if_pos hl]) <;> (try (intro h; omega))
theorem run_cutAt {P : Program} {t e : TypeId} (ht : P.underlying t = some (.slice e)) (he : (P.info? e).map (·.size) = some 1) (w : World) (A : Option Addr) (n c l k : Nat) (lo hi : Option Value)
  (hlo : lo = some (.int .i64 (l : Int)) ∨ lo = none ∧ l = 0) (hhi : hi = some (.int .i64 (k : Int)) ∨ hi = none ∧ k = n) (hl : l ≤ k) (hk : k ≤ c) (hn : hi = none → n ≤ c) :
  (Instr.sliceAt t (.slice A n c) lo hi none).run P w = .ok (.slice (cutA A c l) (k - l) (c - l)) w := by
 rw [← run_cut ht he w A n c l k lo hi hlo hhi hl hk hn]
 simp [Instr.sliceAt, run_underlying ht]
theorem wpList_cut {P : Program} {ops : Array Oper} {rest : List Oper} {op : Oper} {a : Act} {w : World} {Q : Exit → Act → World → Prop} (hgd : op.guard = none) (t : TypeId) (x : Operand) (lo hi : Option Operand) (ho : op.op = .slice t x lo hi none) (vx v : Value) (vlo vhi : Option Value) (hx : a.eval x = vx) (hlo : lo.map a.eval = vlo) (hhi : hi.map a.eval = vhi)
  (hrun : (Instr.sliceAt t vx vlo vhi none).run P w = .ok v w) (h : wpList P ops Q rest (a.put op.dst v) w) : wpList P ops Q (op :: rest) a w :=
 wpList_plain hgd fun _ hK => by
  unfold Oper.wp execOp
  simp only [ho, hx, hlo, hhi, Option.map_none, Sem.run_bind, Sem.run_pure, Result.andThen_ok, hrun]
  exact hK _ _ h
end Go.Proofs.YtbpfabhlngfciaaGreatDoor.Base
namespace Go.Proofs.YtbpfabhlngfciaaGreatDoor.Pf
open Go.ChangeShapes Go.WideShapes Go.ChangeAt Go.RowKit
open Base
theorem own_shape {B : Nat} {w : World} {v : Value} {l : List UInt8} (h : Ow B w v l) : ∃ A c, v = .slice A l.length c := by
 obtain ⟨A, c, e, _⟩ := Rd.of_own h
 exact ⟨A, c, e⟩
theorem put_any (B : Nat) (v : Value) (l : List UInt8) (n : Nat) (w : World) (ho : Ow B w v l) (hB : B ≤ w.heap.size) (hn : n < 4611686018427387904) (hm : l.length ≤ 140737488355000) :
  Calls Tryz.prog 86 #[v, .int .u64 (n : Int), .int .i64 (cls n)] w fun e w' => ∃ v', e = .returned v' ∧ Ow B w' v' (l ++ encN n) ∧ Below B w w' := by
 obtain ⟨A, c, rfl⟩ := own_shape ho
 obtain ⟨k, hk, hc⟩ := cls_k hn
 have hlt := cls_lt hk hc
 have he : encN n = putP n k := by unfold encN; rw [hc]; rfl
 have hlen : (l ++ encN n).length = l.length + 2 ^ k := by rw [List.length_append, he, putP, be_length]
 unfold Ow
 rw [hlen, he, hc]
 have h4 : k = 0 ∨ k = 1 ∨ k = 2 ∨ k = 3 := by omega
 rcases h4 with rfl | rfl | rfl | rfl
 ·exact (put_0 B A _ c l n w ho hB (by simpa using hlt) hm).mono fun e w' ⟨A', c', h1, h2, h3⟩ => ⟨_, h1, h2, h3⟩
 ·exact (put_1 B A _ c l n w ho hB (by simpa using hlt) hm).mono fun e w' ⟨A', c', h1, h2, h3⟩ => ⟨_, h1, h2, h3⟩
 ·exact (put_2 B A _ c l n w ho hB (by simpa using hlt) hm).mono fun e w' ⟨A', c', h1, h2, h3⟩ => ⟨_, h1, h2, h3⟩
 ·exact (put_3 B A _ c l n w ho hB (by simpa using hlt) hm).mono fun e w' ⟨A', c', h1, h2, h3⟩ => ⟨_, h1, h2, h3⟩
theorem Put_any (A : Option Addr) (m c : Nat) (l : List UInt8) (n : Nat) (w : World) (hr : Rb w A l) (hl : l.length = m) (hA : A = none → c = 0) (hm : m ≤ 140737488355000) (hn : n < 18446744073709551616) :
  Calls Tryz.prog 90 #[.slice A m c, .int .u64 (n : Int)] w fun e w' => ∃ v', e = .returned (.tuple #[v', .int .i64 (if n < 4611686018427387904 then 0 else 1)]) ∧ Ow w.heap.size w' v' (if n < 4611686018427387904 then l ++ encN n else l) ∧ Ext w w' := by
 have hcl := clone_any A m c l w hr hl hA (by omega)
 have hcs := fun W => class_any n hn W
 by_cases h : n < 4611686018427387904
 ·simp only [if_pos h]
  obtain ⟨k, hk, hc⟩ := cls_k h
  have hk0 : ¬ (cls n) < 0 := by rw [hc]; omega
  have hput := fun v W ho hB => put_any w.heap.size v l n W ho hB h (by omega)
  obtain ⟨K, hK⟩ : ∃ z, Hid (cls n = z) := ⟨_, rfl⟩
  rw [hK.out] at hk0
  simp only [hK.out] at hcs hput
  obtain ⟨E, hE⟩ : ∃ z, Hid (l ++ encN n = z) := ⟨_, Lib.hid rfl⟩
  simp only [hE.out] at hput
  rw [hE.out]
  replace hput := Lib.hid hput
  clear hc h
  go_enter Tryz.func90, Tryz.ntmps90
  go_wp2_with fail
  refine hcl.mono ?_
  rintro e w1 ⟨v1, rfl, ho1, hx1⟩
  have hcs1 := hcs w1
  have hput1 := hput.out v1 w1 ho1 hx1.size
  clear hcl hcs hput
  go_wp2_with fail
  refine hcs1.mono ?_
  rintro e w2 ⟨rfl, hw2⟩
  subst hw2
  clear hcs1
  go_wp2_with fail
  refine hput1.mono ?_
  rintro e w3 ⟨v3, rfl, ho3, hg3⟩
  clear hput1
  go_wp2_with fail
  go_ret2
  exact ⟨_, rfl, ho3, Below.trans hx1 hg3⟩
 ·simp only [if_neg h]
  have hc : cls n = -1 := by unfold cls; rw [if_pos (by omega)]
  simp only [hc] at hcs
  clear h hc
  go_enter Tryz.func90, Tryz.ntmps90
  go_wp2_with fail
  refine hcl.mono ?_
  rintro e w1 ⟨v1, rfl, ho1, hx1⟩
  have hcs1 := hcs w1
  clear hcl hcs
  go_wp2_with fail
  refine hcs1.mono ?_
  rintro e w2 ⟨rfl, hw2⟩
  subst hw2
  clear hcs1
  go_wp2_with fail
  go_ret2
  exact ⟨_, rfl, ho1, hx1⟩
theorem str_u8s (s : ByteArray) : Lib.strCells s = u8s s.data.toList := by simp [Lib.strCells, u8s]
theorem text_any (B : Nat) (v : Value) (l : List UInt8) (s : ByteArray) (w : World) (ho : Ow B w v l) (hB : B ≤ w.heap.size) (hm : l.length + s.size ≤ 140737488350000) :
  Calls Tryz.prog 88 #[v, .string s] w fun e w' => ∃ v', e = .returned v' ∧ Ow B w' v' (l ++ encT s.data.toList) ∧ Below B w w' := by
 have hss : s.data.toList.length = s.size := Array.length_toList
 have hcs := fun W => class_any s.size (by omega) W
 have hput := put_any B v l s.size w ho hB (by omega) (by omega)
 obtain ⟨K, hK⟩ : ∃ z, Hid (cls s.size = z) := ⟨_, rfl⟩
 rw [hK.out] at hput
 simp only [hK.out] at hcs
 have henc : encT s.data.toList = encN s.size ++ s.data.toList := by unfold encT; rw [hss]
 have hel : (encN s.size).length ≤ 8 := by rcases encN_length s.size with h | h; exact h; omega
 rw [henc, ← List.append_assoc]
 obtain ⟨E, hE⟩ : ∃ z, Hid (l ++ encN s.size = z) := ⟨_, Lib.hid rfl⟩
 have hEl : E.length ≤ l.length + 8 := by rw [← hE.out, List.length_append]; omega
 rw [hE.out] at hput ⊢
 obtain ⟨i, hi, hz, hs, hby⟩ := info_parts el8.info
 replace hss := Lib.hid hss
 have hcs1 := hcs w
 clear henc hel hcs ho
 go_enter Tryz.func88, Tryz.ntmps88
 go_wp2_with fail
 refine hcs1.mono ?_
 rintro e w1 ⟨rfl, hw1⟩
 subst hw1
 clear hcs1
 go_wp2_with fail
 refine hput.mono ?_
 rintro e w2 ⟨v2, rfl, ho2, hg2⟩
 have hB2 : B ≤ w2.heap.size := by have := hg2.size; omega
 obtain ⟨N2, hN2⟩ : ∃ z, Hid (E.length = z) := ⟨_, rfl⟩
 have ho2' : w2.ownsRow B 5 1 v2 N2 (u8s E) := by rw [← hN2.out]; exact ho2
 have hN2b : N2 ≤ l.length + 8 := by rw [← hN2.out]; exact hEl
 obtain ⟨A2, cap2, rfl, jj1, jj2, jj3, jj4⟩ := Rd.of_own ho2'
 clear jj1 jj2 jj3 jj4 hput ho2 hEl
 go_wp2_with (
  refine Lib.wpList_append_own_string _ rfl (.tmp 13) (.tmp 14) 50 9 rfl B 5 i el8.under Tryz.underlying9 hi hz hs hby (.slice A2 N2 cap2) N2 (u8s E) rfl ho2' s rfl (by unfold maxLen; omega) (by omega) hB2 (fun V3 w3 ho3 hg3 hv3 => ?_))
 go_ret
 refine ⟨V3, rfl, ?_, hg2.trans (grw hB2 ho2' (Ext.refl _) hg3)⟩
 rw [str_u8s, ← u8s_append] at ho3
 unfold Ow
 rw [List.length_append, hss.out, hN2.out]
 exact ho3
theorem PutText_any (A : Option Addr) (m c : Nat) (l : List UInt8) (s : ByteArray) (w : World) (hr : Rb w A l) (hl : l.length = m) (hA : A = none → c = 0) (hm : m + s.size ≤ 140737488350000) :
  Calls Tryz.prog 91 #[.slice A m c, .string s] w fun e w' => ∃ v', e = .returned v' ∧ Ow w.heap.size w' v' (l ++ encT s.data.toList) ∧ Ext w w' := by
 have hcl := clone_any A m c l w hr hl hA (by omega)
 have htx := fun v W ho hB => text_any w.heap.size v l s W ho hB (by omega)
 obtain ⟨E, hE⟩ : ∃ z, Hid (l ++ encT s.data.toList = z) := ⟨_, Lib.hid rfl⟩
 simp only [hE.out] at htx
 rw [hE.out]
 replace htx := Lib.hid htx
 clear hl hr
 go_enter Tryz.func91, Tryz.ntmps91
 go_wp2_with fail
 refine hcl.mono ?_
 rintro e w1 ⟨v1, rfl, ho1, hx1⟩
 have ht1 := htx.out v1 w1 ho1 hx1.size
 clear hcl htx
 go_wp2_with fail
 refine ht1.mono ?_
 rintro e w2 ⟨v2, rfl, ho2, hg2⟩
 go_wp2_with fail
 go_ret
 exact ⟨_, rfl, ho2, Below.trans hx1 hg2⟩
def TkV (w : World) (r : Nat × List UInt8 × Nat) (e : Ending) (w' : World) : Prop := ∃ A' c', e = .returned (.tuple #[.int .u64 (r.1 : Int), .slice A' r.2.1.length c', .int .i64 (r.2.2 : Int)]) ∧ Rb w' A' r.2.1 ∧ (A' = none → c' = 0) ∧ r.2.1.length ≤ c' ∧ c' ≤ maxLen ∧ Ext w w'
theorem TkV.no {w w' : World} (n : Nat) (h : Ext w w') : TkV w (0, [], n) (.returned (.tuple #[.int .u64 0, .slice none 0 0, .int .i64 (n : Int)])) w' := ⟨none, 0, rfl, Rd.nil _ _, fun _ => rfl, Nat.le_refl _, by unfold maxLen; omega, h⟩
theorem numB_snoc : ∀ (l : List UInt8) (a : Nat) (c : UInt8), numB a (l ++ [c]) = numB a l * 256 + c.toNat
 | [], a, c => rfl
 | x :: l, a, c => by rw [List.cons_append, numB, numB_snoc l, numB]
theorem numB_lt : ∀ (l : List UInt8) (a : Nat), numB a l < (a + 1) * 256 ^ l.length
 | [], a => by simp [numB]
 | x :: l, a => by
  have h := numB_lt l (a * 256 + x.toNat)
  have hx := x.toNat_lt
  rw [numB, List.length_cons, Nat.pow_succ]
  refine Nat.lt_of_lt_of_le h ?_
  rw [Nat.mul_comm (256 ^ l.length) 256, ← Nat.mul_assoc]
  exact Nat.mul_le_mul_right _ (by omega)
theorem or_byte (x y : Nat) (hx : x < 18014398509481984) (hy : y < 256) : bits BinOp.or IntKind.u64 ((x : Int) * 256) (y : Int) = ((x * 256 + y : Nat) : Int) := by
 rw [show (x : Int) * 256 = ((x * 256 : Nat) : Int) by omega, u64_or_nat _ _ (by omega) (by omega), Nat.or_comm, or_top y x 8 256 rfl hy]
 congr 1; omega
theorem and63 (x : UInt8) : bits BinOp.and IntKind.u8 (x.toNat : Int) 63 = ((x.toNat % 64 : Nat) : Int) := by
 have hx := x.toNat_lt
 rw [show (63 : Int) = ((63 : Nat) : Int) from rfl, u8_and_nat _ _ hx (by decide), show (63 : Nat) = 2 ^ 6 - 1 from rfl, Nat.and_two_pow_sub_one_eq_mod]
theorem take_k0 (A : Option Addr) (m c : Nat) (x : UInt8) (r : List UInt8) (w : World) (hr : Rb w A (x :: r)) (hl : (x :: r).length = m) (hA : A = none → c = 0) (hmc : m ≤ c) (hc : c ≤ maxLen) (hk : x.toNat / 64 = 0) :
  Calls Tryz.prog 92 #[.slice A m c] w fun e w' => TkV w (takeP (x :: r)) e w' := by
 have hx := x.toNat_lt
 obtain ⟨R, hR⟩ : ∃ z, Hid (takeP (x :: r) = z) := ⟨_, Lib.hid rfl⟩
 have hRd := hR.out
 rw [takeP, hk, hl] at hRd
 rw [hR.out]
 obtain ⟨b, off, rfl, hc0⟩ := hr.at_ (k := 0) (by simp)
 rw [show off + 0 = off from rfl] at hc0
 replace hc0 : w.cell? ⟨b, off, none⟩ = some (.int .u8 (x.toNat : Int)) := hc0
 have hm0 : 0 < m := by rw [← hl]; simp
 have hm0' : ((m : Int) == 0) = false := by simp; omega
 have hkI : (x.toNat : Int) / 64 = 0 := by omega
 have h63 := and63 x
 obtain ⟨a0, ha0⟩ : ∃ z, Hid (x.toNat % 64 = z) := ⟨_, rfl⟩
 have ha64 : a0 < 64 := by rw [← ha0.out]; omega
 rw [ha0.out] at h63 hRd
 unfold maxLen at hc
 obtain ⟨PO, hPO⟩ : ∃ PO : Ending → World → Prop, Hid ((fun e w' => TkV w R e w') = PO) := ⟨_, Lib.hid rfl⟩
 rw [hPO.out]
 by_cases hlt : m < 1
 ·have hltI : (m : Int) < 1 := by omega
  rw [if_pos (by simpa using hlt)] at hRd
  have hfin := TkV.no 3 (Ext.refl w)
  rw [hRd] at hfin
  have hfin2 : PO (.returned (.tuple #[.int .u64 0, .slice none 0 0, .int .i64 3])) w := by rw [← hPO.out]; exact hfin
  clear hfin hRd hR hPO h63
  go_enter Tryz.func92, Tryz.ntmps92
  go_wp2_with fail
  refine bodyPost_ret (results_tmp3 rfl _ _ _) rfl ?_
  exact hfin2
 ·have hltI : ¬ (m : Int) < 1 := by omega
  rw [if_neg (by simpa using hlt)] at hRd
  simp only [Nat.reducePow, Nat.reduceSub] at hRd
  have hrl : 0 ≤ r.length := by rw [List.length_cons] at hl; omega
  have hrc : Rb w (cutA (some ⟨b, off, none⟩) c 1) (((x :: r).take 1).drop 1) := Rb.cut hr (by omega) (by omega)
  have hte : ((x :: r).take 1).drop 1 = r.take 0 := by simp
  rw [hte] at hrc
  have hrt : (r.take 0).length = 0 := by rw [List.length_take]; omega
  obtain ⟨T, hT⟩ : ∃ z, Hid (r.take 0 = z) := ⟨_, Lib.hid rfl⟩
  rw [hT.out] at hrc hRd hrt
  obtain ⟨Nn, hN⟩ : ∃ z, Hid (numB a0 T = z) := ⟨_, Lib.hid rfl⟩
  have hNlt : Nn < 4611686018427387904 := by
   have := numB_lt T a0
   rw [hN.out, hrt] at this
   simp only [Nat.reducePow] at this
   omega
  rw [hN.out] at hRd
  have hcls := fun W => class_any Nn (by omega) W
  obtain ⟨A1, hA1⟩ : ∃ z, Hid (cutA (some ⟨b, off, none⟩) c 1 = z) := ⟨_, Lib.hid rfl⟩
  have hcut := run_cutAt (P := Tryz.prog) (t := 50) (e := 5) Tryz.underlying50 (by kernel_rfl) w (some ⟨b, off, none⟩) m c 1 1 (some (.int .i64 (1 : Int))) (some (.int .i64 (1 : Int))) (.inl rfl) (.inl rfl) (by omega) (by omega) (fun h => by cases h)
  have hcut2 := fun W => run_cutAt (P := Tryz.prog) (t := 50) (e := 5) Tryz.underlying50 (by kernel_rfl) W (some ⟨b, off, none⟩) m c 1 m (some (.int .i64 (1 : Int))) none (.inl rfl) (.inr ⟨rfl, rfl⟩) (by omega) (by omega) (fun _ => hmc)
  replace hcut := Lib.hid hcut
  rw [hA1.out] at hrc
  replace hcut : (Instr.sliceAt 50 (.slice (some ⟨b, off, none⟩) m c) (some (.int .i64 1)) (some (.int .i64 1)) none).run Tryz.prog w = .ok (.slice A1 0 (c - 1)) w := by rw [← hA1.out]; exact hcut.out
  have hrest : Rb w (cutA (some ⟨b, off, none⟩) c 1) (((x :: r).take m).drop 1) := Rb.cut hr (by omega) (by omega)
  rw [List.take_of_length_le (by omega)] at hrest
  obtain ⟨A2, hA2⟩ : ∃ z, Hid (cutA (some ⟨b, off, none⟩) c 1 = z) := ⟨_, Lib.hid rfl⟩
  have hA2n : A2 = none → c - 1 = 0 := fun h => cutA_none (A := some ⟨b, off, none⟩) (fun e => by cases e) (hA2.out.trans h)
  rw [hA2.out] at hrest
  simp only [hA2.out] at hcut2
  obtain ⟨L2, hL2⟩ : ∃ z, Hid ((x :: r).drop 1 = z) := ⟨_, Lib.hid rfl⟩
  have hL2l : L2.length = m - 1 := by rw [← hL2.out, List.length_drop, hl]
  rw [hL2.out] at hRd hrest
  have hbyte : ∀ (i : Nat), i < 0 → ∃ y : UInt8, T[i]? = some y := fun i hi => ⟨_, List.getElem?_eq_getElem (by omega)⟩
  have hrc' : ∀ (i : Nat) (y : UInt8), T[i]? = some y → ∃ b1 o1, A1 = some ⟨b1, o1, none⟩ ∧ w.cell? ⟨b1, o1 + i, none⟩ = some (.int .u8 (y.toNat : Int)) := fun i y hy => by
   obtain ⟨hi, e⟩ := List.getElem?_eq_some_iff.1 hy
   obtain ⟨b1, o1, e1, e2⟩ := hrc.at_ hi
   exact ⟨b1, o1, e1, by rw [e2, e]⟩
  replace hRd := Lib.hid hRd
  replace hrc' := Lib.hid hrc'
  replace hbyte := Lib.hid hbyte
  replace hA2n := Lib.hid hA2n
  replace hcls := Lib.hid hcls
  replace hL2l := Lib.hid hL2l
  replace hrt := Lib.hid hrt
  clear hR hte hrc hr hl hA hT
  go_enter Tryz.func92, Tryz.ntmps92
  go_wp2_with (refine wpList_cut rfl 50 (.tmp 29) (some (.const (.int .i64 1))) (some (.tmp 30)) rfl _ _ _ _ rfl rfl rfl hcut ?_)
  go_loopw [7, 9, 33] (fun v7 v9 v33 wr => ∃ i : Nat, i ≤ 0 ∧ v33 = .int .i64 i ∧ wr = w ∧ ∃ y : Nat, v7 = .int .u64 (y : Int) ∧ Hid (numB a0 (T.take i) = y) ∧ y < 64 * 256 ^ i) (fun _ _ v33 _ => 0 - (intOf v33).toNat)
  case atStart => exact ⟨0, by omega, rfl, rfl, a0, rfl, Lib.hid (by simp [numB]), by omega⟩
  case round =>
   obtain ⟨i, hi, rfl, rfl, y, rfl, hy, hyl⟩ := hrel
   by_cases hin : i < 0
   ·obtain ⟨z, hz⟩ := hbyte.out i hin
    obtain ⟨b1, o1, e1, hcz⟩ := hrc'.out i z hz
    subst e1
    have hzl := z.toNat_lt
    have hpw : 256 ^ i ≤ 256 ^ 6 := Nat.pow_le_pow_right (by omega) (by omega)
    have hy54 : y < 18014398509481984 := by
     simp only [Nat.reducePow] at hpw
     omega
    have hor := or_byte y z.toNat hy54 hzl
    have hyn : numB a0 (T.take (i + 1)) = y * 256 + z.toNat := by rw [List.take_add_one, hz, ← hy.out]; exact numB_snoc _ _ _
    have hyb : y * 256 + z.toNat < 64 * 256 ^ (i + 1) := by
     rw [Nat.pow_succ]
     generalize 256 ^ i = p at hyl
     omega
    have hin' : (i : Int) < 0 := by omega
    have hshl : (y : Int) * 256 % 18446744073709551616 = (y : Int) * 256 := by omega
    obtain ⟨y2, hy2⟩ : ∃ z2, Hid (y * 256 + z.toNat = z2) := ⟨_, rfl⟩
    rw [hy2.out] at hor hyn hyb
    replace hyn := Lib.hid hyn
    clear hz hy hyl hpw hrc' hbyte
    go_wp2_with fail
    go_roundw
    case rel => exact ⟨i + 1, by omega, by go_num, trivial, y2, rfl, hyn, hyb⟩
    case measure => simp [intOf]; omega
   ·obtain rfl : i = 0 := by omega
    have hyN : y = Nn := by rw [← hy.out, List.take_of_length_le (by have := hrt.out; omega), hN.out]
    subst hyN
    have hcl := hcls.out wr
    obtain ⟨K, hK⟩ : ∃ z, Hid (cls y = z) := ⟨_, rfl⟩
    rw [hK.out] at hcl
    have hRd2 := hRd.out
    rw [hK.out] at hRd2
    clear hy hcls hrc' hbyte hyl
    by_cases hck : K = 0
    ·rw [if_neg (by rw [hck]; simp)] at hRd2
     have hkb : ((K : Int) != 0) = false := by simp [hck]
     have hp : ∀ W, Ext wr W → PO (.returned (.tuple #[.int .u64 (y : Int), .slice A2 (m - 1) (c - 1), .int .i64 0])) W := fun W hW => by
      rw [← hPO.out, ← hRd2]
      refine ⟨A2, c - 1, ?_, hrest.ext hW, hA2n.out, ?_, ?_, hW⟩
      ·show _ = Ending.returned (.tuple #[.int .u64 (y : Int), .slice A2 L2.length (c - 1), .int .i64 0]); rw [hL2l.out]
      ·show L2.length ≤ _; rw [hL2l.out]; omega
      ·unfold maxLen; omega
     clear hrest hRd hRd2 hPO
     go_wp2_with fail
     refine hcl.mono ?_
     rintro e w1 ⟨rfl, hw1⟩
     have hw1 := hw1.symm
     subst hw1
     go_wp2_with fail
     refine Reg.startE (by kernel_rfl) ?_
     iterate 7 ((first | refine Reg.tn ?_ | refine Reg.sn ?_); (try simp only [Reg.nn]))
     refine Reg.fin (by kernel_rfl) (fun W hW => ?_)
     have hp2 := hp W hW
     go_wp2_with fail
     refine bodyPost_ret (results_tmp3 rfl _ _ _) rfl ?_
     exact hp2
    ·rw [if_pos (by intro e; exact hck e)] at hRd2
     have hkb : ((K : Int) != 0) = true := by simpa using hck
     have hp : PO (.returned (.tuple #[.int .u64 0, .slice none 0 0, .int .i64 4])) wr := by
      rw [← hPO.out, ← hRd2]
      exact TkV.no 4 (Ext.refl wr)
     clear hrest hRd hRd2 hPO
     go_wp2_with fail
     refine hcl.mono ?_
     rintro e w1 ⟨rfl, hw1⟩
     have hw1 := hw1.symm
     subst hw1
     go_wp2_with fail
     refine bodyPost_ret (results_tmp3 rfl _ _ _) rfl ?_
     exact hp
theorem take_k1 (A : Option Addr) (m c : Nat) (x : UInt8) (r : List UInt8) (w : World) (hr : Rb w A (x :: r)) (hl : (x :: r).length = m) (hA : A = none → c = 0) (hmc : m ≤ c) (hc : c ≤ maxLen) (hk : x.toNat / 64 = 1) :
  Calls Tryz.prog 92 #[.slice A m c] w fun e w' => TkV w (takeP (x :: r)) e w' := by
 have hx := x.toNat_lt
 obtain ⟨R, hR⟩ : ∃ z, Hid (takeP (x :: r) = z) := ⟨_, Lib.hid rfl⟩
 have hRd := hR.out
 rw [takeP, hk, hl] at hRd
 rw [hR.out]
 obtain ⟨b, off, rfl, hc0⟩ := hr.at_ (k := 0) (by simp)
 rw [show off + 0 = off from rfl] at hc0
 replace hc0 : w.cell? ⟨b, off, none⟩ = some (.int .u8 (x.toNat : Int)) := hc0
 have hm0 : 0 < m := by rw [← hl]; simp
 have hm0' : ((m : Int) == 0) = false := by simp; omega
 have hkI : (x.toNat : Int) / 64 = 1 := by omega
 have h63 := and63 x
 obtain ⟨a0, ha0⟩ : ∃ z, Hid (x.toNat % 64 = z) := ⟨_, rfl⟩
 have ha64 : a0 < 64 := by rw [← ha0.out]; omega
 rw [ha0.out] at h63 hRd
 unfold maxLen at hc
 obtain ⟨PO, hPO⟩ : ∃ PO : Ending → World → Prop, Hid ((fun e w' => TkV w R e w') = PO) := ⟨_, Lib.hid rfl⟩
 rw [hPO.out]
 by_cases hlt : m < 2
 ·have hltI : (m : Int) < 2 := by omega
  rw [if_pos (by simpa using hlt)] at hRd
  have hfin := TkV.no 3 (Ext.refl w)
  rw [hRd] at hfin
  have hfin2 : PO (.returned (.tuple #[.int .u64 0, .slice none 0 0, .int .i64 3])) w := by rw [← hPO.out]; exact hfin
  clear hfin hRd hR hPO h63
  go_enter Tryz.func92, Tryz.ntmps92
  go_wp2_with fail
  refine bodyPost_ret (results_tmp3 rfl _ _ _) rfl ?_
  exact hfin2
 ·have hltI : ¬ (m : Int) < 2 := by omega
  rw [if_neg (by simpa using hlt)] at hRd
  simp only [Nat.reducePow, Nat.reduceSub] at hRd
  have hrl : 1 ≤ r.length := by rw [List.length_cons] at hl; omega
  have hrc : Rb w (cutA (some ⟨b, off, none⟩) c 1) (((x :: r).take 2).drop 1) := Rb.cut hr (by omega) (by omega)
  have hte : ((x :: r).take 2).drop 1 = r.take 1 := by simp
  rw [hte] at hrc
  have hrt : (r.take 1).length = 1 := by rw [List.length_take]; omega
  obtain ⟨T, hT⟩ : ∃ z, Hid (r.take 1 = z) := ⟨_, Lib.hid rfl⟩
  rw [hT.out] at hrc hRd hrt
  obtain ⟨Nn, hN⟩ : ∃ z, Hid (numB a0 T = z) := ⟨_, Lib.hid rfl⟩
  have hNlt : Nn < 4611686018427387904 := by
   have := numB_lt T a0
   rw [hN.out, hrt] at this
   simp only [Nat.reducePow] at this
   omega
  rw [hN.out] at hRd
  have hcls := fun W => class_any Nn (by omega) W
  obtain ⟨A1, hA1⟩ : ∃ z, Hid (cutA (some ⟨b, off, none⟩) c 1 = z) := ⟨_, Lib.hid rfl⟩
  have hcut := run_cutAt (P := Tryz.prog) (t := 50) (e := 5) Tryz.underlying50 (by kernel_rfl) w (some ⟨b, off, none⟩) m c 1 2 (some (.int .i64 (1 : Int))) (some (.int .i64 (2 : Int))) (.inl rfl) (.inl rfl) (by omega) (by omega) (fun h => by cases h)
  have hcut2 := fun W => run_cutAt (P := Tryz.prog) (t := 50) (e := 5) Tryz.underlying50 (by kernel_rfl) W (some ⟨b, off, none⟩) m c 2 m (some (.int .i64 (2 : Int))) none (.inl rfl) (.inr ⟨rfl, rfl⟩) (by omega) (by omega) (fun _ => hmc)
  replace hcut := Lib.hid hcut
  rw [hA1.out] at hrc
  replace hcut : (Instr.sliceAt 50 (.slice (some ⟨b, off, none⟩) m c) (some (.int .i64 1)) (some (.int .i64 2)) none).run Tryz.prog w = .ok (.slice A1 1 (c - 1)) w := by rw [← hA1.out]; exact hcut.out
  have hrest : Rb w (cutA (some ⟨b, off, none⟩) c 2) (((x :: r).take m).drop 2) := Rb.cut hr (by omega) (by omega)
  rw [List.take_of_length_le (by omega)] at hrest
  obtain ⟨A2, hA2⟩ : ∃ z, Hid (cutA (some ⟨b, off, none⟩) c 2 = z) := ⟨_, Lib.hid rfl⟩
  have hA2n : A2 = none → c - 2 = 0 := fun h => cutA_none (A := some ⟨b, off, none⟩) (fun e => by cases e) (hA2.out.trans h)
  rw [hA2.out] at hrest
  simp only [hA2.out] at hcut2
  obtain ⟨L2, hL2⟩ : ∃ z, Hid ((x :: r).drop 2 = z) := ⟨_, Lib.hid rfl⟩
  have hL2l : L2.length = m - 2 := by rw [← hL2.out, List.length_drop, hl]
  rw [hL2.out] at hRd hrest
  have hbyte : ∀ (i : Nat), i < 1 → ∃ y : UInt8, T[i]? = some y := fun i hi => ⟨_, List.getElem?_eq_getElem (by omega)⟩
  have hrc' : ∀ (i : Nat) (y : UInt8), T[i]? = some y → ∃ b1 o1, A1 = some ⟨b1, o1, none⟩ ∧ w.cell? ⟨b1, o1 + i, none⟩ = some (.int .u8 (y.toNat : Int)) := fun i y hy => by
   obtain ⟨hi, e⟩ := List.getElem?_eq_some_iff.1 hy
   obtain ⟨b1, o1, e1, e2⟩ := hrc.at_ hi
   exact ⟨b1, o1, e1, by rw [e2, e]⟩
  replace hRd := Lib.hid hRd
  replace hrc' := Lib.hid hrc'
  replace hbyte := Lib.hid hbyte
  replace hA2n := Lib.hid hA2n
  replace hcls := Lib.hid hcls
  replace hL2l := Lib.hid hL2l
  replace hrt := Lib.hid hrt
  clear hR hte hrc hr hl hA hT
  go_enter Tryz.func92, Tryz.ntmps92
  go_wp2_with (refine wpList_cut rfl 50 (.tmp 29) (some (.const (.int .i64 1))) (some (.tmp 30)) rfl _ _ _ _ rfl rfl rfl hcut ?_)
  go_loopw [7, 9, 33] (fun v7 v9 v33 wr => ∃ i : Nat, i ≤ 1 ∧ v33 = .int .i64 i ∧ wr = w ∧ ∃ y : Nat, v7 = .int .u64 (y : Int) ∧ Hid (numB a0 (T.take i) = y) ∧ y < 64 * 256 ^ i) (fun _ _ v33 _ => 1 - (intOf v33).toNat)
  case atStart => exact ⟨0, by omega, rfl, rfl, a0, rfl, Lib.hid (by simp [numB]), by omega⟩
  case round =>
   obtain ⟨i, hi, rfl, rfl, y, rfl, hy, hyl⟩ := hrel
   by_cases hin : i < 1
   ·obtain ⟨z, hz⟩ := hbyte.out i hin
    obtain ⟨b1, o1, e1, hcz⟩ := hrc'.out i z hz
    subst e1
    have hzl := z.toNat_lt
    have hpw : 256 ^ i ≤ 256 ^ 6 := Nat.pow_le_pow_right (by omega) (by omega)
    have hy54 : y < 18014398509481984 := by
     simp only [Nat.reducePow] at hpw
     omega
    have hor := or_byte y z.toNat hy54 hzl
    have hyn : numB a0 (T.take (i + 1)) = y * 256 + z.toNat := by rw [List.take_add_one, hz, ← hy.out]; exact numB_snoc _ _ _
    have hyb : y * 256 + z.toNat < 64 * 256 ^ (i + 1) := by
     rw [Nat.pow_succ]
     generalize 256 ^ i = p at hyl
     omega
    have hin' : (i : Int) < 1 := by omega
    have hshl : (y : Int) * 256 % 18446744073709551616 = (y : Int) * 256 := by omega
    obtain ⟨y2, hy2⟩ : ∃ z2, Hid (y * 256 + z.toNat = z2) := ⟨_, rfl⟩
    rw [hy2.out] at hor hyn hyb
    replace hyn := Lib.hid hyn
    clear hz hy hyl hpw hrc' hbyte
    go_wp2_with fail
    go_roundw
    case rel => exact ⟨i + 1, by omega, by go_num, trivial, y2, rfl, hyn, hyb⟩
    case measure => simp [intOf]; omega
   ·obtain rfl : i = 1 := by omega
    have hyN : y = Nn := by rw [← hy.out, List.take_of_length_le (by have := hrt.out; omega), hN.out]
    subst hyN
    have hcl := hcls.out wr
    obtain ⟨K, hK⟩ : ∃ z, Hid (cls y = z) := ⟨_, rfl⟩
    rw [hK.out] at hcl
    have hRd2 := hRd.out
    rw [hK.out] at hRd2
    clear hy hcls hrc' hbyte hyl
    by_cases hck : K = 1
    ·rw [if_neg (by rw [hck]; simp)] at hRd2
     have hkb : ((K : Int) != 1) = false := by simp [hck]
     have hp : ∀ W, Ext wr W → PO (.returned (.tuple #[.int .u64 (y : Int), .slice A2 (m - 2) (c - 2), .int .i64 0])) W := fun W hW => by
      rw [← hPO.out, ← hRd2]
      refine ⟨A2, c - 2, ?_, hrest.ext hW, hA2n.out, ?_, ?_, hW⟩
      ·show _ = Ending.returned (.tuple #[.int .u64 (y : Int), .slice A2 L2.length (c - 2), .int .i64 0]); rw [hL2l.out]
      ·show L2.length ≤ _; rw [hL2l.out]; omega
      ·unfold maxLen; omega
     clear hrest hRd hRd2 hPO
     go_wp2_with fail
     refine hcl.mono ?_
     rintro e w1 ⟨rfl, hw1⟩
     have hw1 := hw1.symm
     subst hw1
     go_wp2_with fail
     refine Reg.startE (by kernel_rfl) ?_
     iterate 7 ((first | refine Reg.tn ?_ | refine Reg.sn ?_); (try simp only [Reg.nn]))
     refine Reg.fin (by kernel_rfl) (fun W hW => ?_)
     have hp2 := hp W hW
     go_wp2_with fail
     refine bodyPost_ret (results_tmp3 rfl _ _ _) rfl ?_
     exact hp2
    ·rw [if_pos (by intro e; exact hck e)] at hRd2
     have hkb : ((K : Int) != 1) = true := by simpa using hck
     have hp : PO (.returned (.tuple #[.int .u64 0, .slice none 0 0, .int .i64 4])) wr := by
      rw [← hPO.out, ← hRd2]
      exact TkV.no 4 (Ext.refl wr)
     clear hrest hRd hRd2 hPO
     go_wp2_with fail
     refine hcl.mono ?_
     rintro e w1 ⟨rfl, hw1⟩
     have hw1 := hw1.symm
     subst hw1
     go_wp2_with fail
     refine bodyPost_ret (results_tmp3 rfl _ _ _) rfl ?_
     exact hp
theorem take_k2 (A : Option Addr) (m c : Nat) (x : UInt8) (r : List UInt8) (w : World) (hr : Rb w A (x :: r)) (hl : (x :: r).length = m) (hA : A = none → c = 0) (hmc : m ≤ c) (hc : c ≤ maxLen) (hk : x.toNat / 64 = 2) :
  Calls Tryz.prog 92 #[.slice A m c] w fun e w' => TkV w (takeP (x :: r)) e w' := by
 have hx := x.toNat_lt
 obtain ⟨R, hR⟩ : ∃ z, Hid (takeP (x :: r) = z) := ⟨_, Lib.hid rfl⟩
 have hRd := hR.out
 rw [takeP, hk, hl] at hRd
 rw [hR.out]
 obtain ⟨b, off, rfl, hc0⟩ := hr.at_ (k := 0) (by simp)
 rw [show off + 0 = off from rfl] at hc0
 replace hc0 : w.cell? ⟨b, off, none⟩ = some (.int .u8 (x.toNat : Int)) := hc0
 have hm0 : 0 < m := by rw [← hl]; simp
 have hm0' : ((m : Int) == 0) = false := by simp; omega
 have hkI : (x.toNat : Int) / 64 = 2 := by omega
 have h63 := and63 x
 obtain ⟨a0, ha0⟩ : ∃ z, Hid (x.toNat % 64 = z) := ⟨_, rfl⟩
 have ha64 : a0 < 64 := by rw [← ha0.out]; omega
 rw [ha0.out] at h63 hRd
 unfold maxLen at hc
 obtain ⟨PO, hPO⟩ : ∃ PO : Ending → World → Prop, Hid ((fun e w' => TkV w R e w') = PO) := ⟨_, Lib.hid rfl⟩
 rw [hPO.out]
 by_cases hlt : m < 4
 ·have hltI : (m : Int) < 4 := by omega
  rw [if_pos (by simpa using hlt)] at hRd
  have hfin := TkV.no 3 (Ext.refl w)
  rw [hRd] at hfin
  have hfin2 : PO (.returned (.tuple #[.int .u64 0, .slice none 0 0, .int .i64 3])) w := by rw [← hPO.out]; exact hfin
  clear hfin hRd hR hPO h63
  go_enter Tryz.func92, Tryz.ntmps92
  go_wp2_with fail
  refine bodyPost_ret (results_tmp3 rfl _ _ _) rfl ?_
  exact hfin2
 ·have hltI : ¬ (m : Int) < 4 := by omega
  rw [if_neg (by simpa using hlt)] at hRd
  simp only [Nat.reducePow, Nat.reduceSub] at hRd
  have hrl : 3 ≤ r.length := by rw [List.length_cons] at hl; omega
  have hrc : Rb w (cutA (some ⟨b, off, none⟩) c 1) (((x :: r).take 4).drop 1) := Rb.cut hr (by omega) (by omega)
  have hte : ((x :: r).take 4).drop 1 = r.take 3 := by simp
  rw [hte] at hrc
  have hrt : (r.take 3).length = 3 := by rw [List.length_take]; omega
  obtain ⟨T, hT⟩ : ∃ z, Hid (r.take 3 = z) := ⟨_, Lib.hid rfl⟩
  rw [hT.out] at hrc hRd hrt
  obtain ⟨Nn, hN⟩ : ∃ z, Hid (numB a0 T = z) := ⟨_, Lib.hid rfl⟩
  have hNlt : Nn < 4611686018427387904 := by
   have := numB_lt T a0
   rw [hN.out, hrt] at this
   simp only [Nat.reducePow] at this
   omega
  rw [hN.out] at hRd
  have hcls := fun W => class_any Nn (by omega) W
  obtain ⟨A1, hA1⟩ : ∃ z, Hid (cutA (some ⟨b, off, none⟩) c 1 = z) := ⟨_, Lib.hid rfl⟩
  have hcut := run_cutAt (P := Tryz.prog) (t := 50) (e := 5) Tryz.underlying50 (by kernel_rfl) w (some ⟨b, off, none⟩) m c 1 4 (some (.int .i64 (1 : Int))) (some (.int .i64 (4 : Int))) (.inl rfl) (.inl rfl) (by omega) (by omega) (fun h => by cases h)
  have hcut2 := fun W => run_cutAt (P := Tryz.prog) (t := 50) (e := 5) Tryz.underlying50 (by kernel_rfl) W (some ⟨b, off, none⟩) m c 4 m (some (.int .i64 (4 : Int))) none (.inl rfl) (.inr ⟨rfl, rfl⟩) (by omega) (by omega) (fun _ => hmc)
  replace hcut := Lib.hid hcut
  rw [hA1.out] at hrc
  replace hcut : (Instr.sliceAt 50 (.slice (some ⟨b, off, none⟩) m c) (some (.int .i64 1)) (some (.int .i64 4)) none).run Tryz.prog w = .ok (.slice A1 3 (c - 1)) w := by rw [← hA1.out]; exact hcut.out
  have hrest : Rb w (cutA (some ⟨b, off, none⟩) c 4) (((x :: r).take m).drop 4) := Rb.cut hr (by omega) (by omega)
  rw [List.take_of_length_le (by omega)] at hrest
  obtain ⟨A2, hA2⟩ : ∃ z, Hid (cutA (some ⟨b, off, none⟩) c 4 = z) := ⟨_, Lib.hid rfl⟩
  have hA2n : A2 = none → c - 4 = 0 := fun h => cutA_none (A := some ⟨b, off, none⟩) (fun e => by cases e) (hA2.out.trans h)
  rw [hA2.out] at hrest
  simp only [hA2.out] at hcut2
  obtain ⟨L2, hL2⟩ : ∃ z, Hid ((x :: r).drop 4 = z) := ⟨_, Lib.hid rfl⟩
  have hL2l : L2.length = m - 4 := by rw [← hL2.out, List.length_drop, hl]
  rw [hL2.out] at hRd hrest
  have hbyte : ∀ (i : Nat), i < 3 → ∃ y : UInt8, T[i]? = some y := fun i hi => ⟨_, List.getElem?_eq_getElem (by omega)⟩
  have hrc' : ∀ (i : Nat) (y : UInt8), T[i]? = some y → ∃ b1 o1, A1 = some ⟨b1, o1, none⟩ ∧ w.cell? ⟨b1, o1 + i, none⟩ = some (.int .u8 (y.toNat : Int)) := fun i y hy => by
   obtain ⟨hi, e⟩ := List.getElem?_eq_some_iff.1 hy
   obtain ⟨b1, o1, e1, e2⟩ := hrc.at_ hi
   exact ⟨b1, o1, e1, by rw [e2, e]⟩
  replace hRd := Lib.hid hRd
  replace hrc' := Lib.hid hrc'
  replace hbyte := Lib.hid hbyte
  replace hA2n := Lib.hid hA2n
  replace hcls := Lib.hid hcls
  replace hL2l := Lib.hid hL2l
  replace hrt := Lib.hid hrt
  clear hR hte hrc hr hl hA hT
  go_enter Tryz.func92, Tryz.ntmps92
  go_wp2_with (refine wpList_cut rfl 50 (.tmp 29) (some (.const (.int .i64 1))) (some (.tmp 30)) rfl _ _ _ _ rfl rfl rfl hcut ?_)
  go_loopw [7, 9, 33] (fun v7 v9 v33 wr => ∃ i : Nat, i ≤ 3 ∧ v33 = .int .i64 i ∧ wr = w ∧ ∃ y : Nat, v7 = .int .u64 (y : Int) ∧ Hid (numB a0 (T.take i) = y) ∧ y < 64 * 256 ^ i) (fun _ _ v33 _ => 3 - (intOf v33).toNat)
  case atStart => exact ⟨0, by omega, rfl, rfl, a0, rfl, Lib.hid (by simp [numB]), by omega⟩
  case round =>
   obtain ⟨i, hi, rfl, rfl, y, rfl, hy, hyl⟩ := hrel
   by_cases hin : i < 3
   ·obtain ⟨z, hz⟩ := hbyte.out i hin
    obtain ⟨b1, o1, e1, hcz⟩ := hrc'.out i z hz
    subst e1
    have hzl := z.toNat_lt
    have hpw : 256 ^ i ≤ 256 ^ 6 := Nat.pow_le_pow_right (by omega) (by omega)
    have hy54 : y < 18014398509481984 := by
     simp only [Nat.reducePow] at hpw
     omega
    have hor := or_byte y z.toNat hy54 hzl
    have hyn : numB a0 (T.take (i + 1)) = y * 256 + z.toNat := by rw [List.take_add_one, hz, ← hy.out]; exact numB_snoc _ _ _
    have hyb : y * 256 + z.toNat < 64 * 256 ^ (i + 1) := by
     rw [Nat.pow_succ]
     generalize 256 ^ i = p at hyl
     omega
    have hin' : (i : Int) < 3 := by omega
    have hshl : (y : Int) * 256 % 18446744073709551616 = (y : Int) * 256 := by omega
    obtain ⟨y2, hy2⟩ : ∃ z2, Hid (y * 256 + z.toNat = z2) := ⟨_, rfl⟩
    rw [hy2.out] at hor hyn hyb
    replace hyn := Lib.hid hyn
    clear hz hy hyl hpw hrc' hbyte
    go_wp2_with fail
    go_roundw
    case rel => exact ⟨i + 1, by omega, by go_num, trivial, y2, rfl, hyn, hyb⟩
    case measure => simp [intOf]; omega
   ·obtain rfl : i = 3 := by omega
    have hyN : y = Nn := by rw [← hy.out, List.take_of_length_le (by have := hrt.out; omega), hN.out]
    subst hyN
    have hcl := hcls.out wr
    obtain ⟨K, hK⟩ : ∃ z, Hid (cls y = z) := ⟨_, rfl⟩
    rw [hK.out] at hcl
    have hRd2 := hRd.out
    rw [hK.out] at hRd2
    clear hy hcls hrc' hbyte hyl
    by_cases hck : K = 2
    ·rw [if_neg (by rw [hck]; simp)] at hRd2
     have hkb : ((K : Int) != 2) = false := by simp [hck]
     have hp : ∀ W, Ext wr W → PO (.returned (.tuple #[.int .u64 (y : Int), .slice A2 (m - 4) (c - 4), .int .i64 0])) W := fun W hW => by
      rw [← hPO.out, ← hRd2]
      refine ⟨A2, c - 4, ?_, hrest.ext hW, hA2n.out, ?_, ?_, hW⟩
      ·show _ = Ending.returned (.tuple #[.int .u64 (y : Int), .slice A2 L2.length (c - 4), .int .i64 0]); rw [hL2l.out]
      ·show L2.length ≤ _; rw [hL2l.out]; omega
      ·unfold maxLen; omega
     clear hrest hRd hRd2 hPO
     go_wp2_with fail
     refine hcl.mono ?_
     rintro e w1 ⟨rfl, hw1⟩
     have hw1 := hw1.symm
     subst hw1
     go_wp2_with fail
     refine Reg.startE (by kernel_rfl) ?_
     iterate 7 ((first | refine Reg.tn ?_ | refine Reg.sn ?_); (try simp only [Reg.nn]))
     refine Reg.fin (by kernel_rfl) (fun W hW => ?_)
     have hp2 := hp W hW
     go_wp2_with fail
     refine bodyPost_ret (results_tmp3 rfl _ _ _) rfl ?_
     exact hp2
    ·rw [if_pos (by intro e; exact hck e)] at hRd2
     have hkb : ((K : Int) != 2) = true := by simpa using hck
     have hp : PO (.returned (.tuple #[.int .u64 0, .slice none 0 0, .int .i64 4])) wr := by
      rw [← hPO.out, ← hRd2]
      exact TkV.no 4 (Ext.refl wr)
     clear hrest hRd hRd2 hPO
     go_wp2_with fail
     refine hcl.mono ?_
     rintro e w1 ⟨rfl, hw1⟩
     have hw1 := hw1.symm
     subst hw1
     go_wp2_with fail
     refine bodyPost_ret (results_tmp3 rfl _ _ _) rfl ?_
     exact hp
theorem take_k3 (A : Option Addr) (m c : Nat) (x : UInt8) (r : List UInt8) (w : World) (hr : Rb w A (x :: r)) (hl : (x :: r).length = m) (hA : A = none → c = 0) (hmc : m ≤ c) (hc : c ≤ maxLen) (hk : x.toNat / 64 = 3) :
  Calls Tryz.prog 92 #[.slice A m c] w fun e w' => TkV w (takeP (x :: r)) e w' := by
 have hx := x.toNat_lt
 obtain ⟨R, hR⟩ : ∃ z, Hid (takeP (x :: r) = z) := ⟨_, Lib.hid rfl⟩
 have hRd := hR.out
 rw [takeP, hk, hl] at hRd
 rw [hR.out]
 obtain ⟨b, off, rfl, hc0⟩ := hr.at_ (k := 0) (by simp)
 rw [show off + 0 = off from rfl] at hc0
 replace hc0 : w.cell? ⟨b, off, none⟩ = some (.int .u8 (x.toNat : Int)) := hc0
 have hm0 : 0 < m := by rw [← hl]; simp
 have hm0' : ((m : Int) == 0) = false := by simp; omega
 have hkI : (x.toNat : Int) / 64 = 3 := by omega
 have h63 := and63 x
 obtain ⟨a0, ha0⟩ : ∃ z, Hid (x.toNat % 64 = z) := ⟨_, rfl⟩
 have ha64 : a0 < 64 := by rw [← ha0.out]; omega
 rw [ha0.out] at h63 hRd
 unfold maxLen at hc
 obtain ⟨PO, hPO⟩ : ∃ PO : Ending → World → Prop, Hid ((fun e w' => TkV w R e w') = PO) := ⟨_, Lib.hid rfl⟩
 rw [hPO.out]
 by_cases hlt : m < 8
 ·have hltI : (m : Int) < 8 := by omega
  rw [if_pos (by simpa using hlt)] at hRd
  have hfin := TkV.no 3 (Ext.refl w)
  rw [hRd] at hfin
  have hfin2 : PO (.returned (.tuple #[.int .u64 0, .slice none 0 0, .int .i64 3])) w := by rw [← hPO.out]; exact hfin
  clear hfin hRd hR hPO h63
  go_enter Tryz.func92, Tryz.ntmps92
  go_wp2_with fail
  refine bodyPost_ret (results_tmp3 rfl _ _ _) rfl ?_
  exact hfin2
 ·have hltI : ¬ (m : Int) < 8 := by omega
  rw [if_neg (by simpa using hlt)] at hRd
  simp only [Nat.reducePow, Nat.reduceSub] at hRd
  have hrl : 7 ≤ r.length := by rw [List.length_cons] at hl; omega
  have hrc : Rb w (cutA (some ⟨b, off, none⟩) c 1) (((x :: r).take 8).drop 1) := Rb.cut hr (by omega) (by omega)
  have hte : ((x :: r).take 8).drop 1 = r.take 7 := by simp
  rw [hte] at hrc
  have hrt : (r.take 7).length = 7 := by rw [List.length_take]; omega
  obtain ⟨T, hT⟩ : ∃ z, Hid (r.take 7 = z) := ⟨_, Lib.hid rfl⟩
  rw [hT.out] at hrc hRd hrt
  obtain ⟨Nn, hN⟩ : ∃ z, Hid (numB a0 T = z) := ⟨_, Lib.hid rfl⟩
  have hNlt : Nn < 4611686018427387904 := by
   have := numB_lt T a0
   rw [hN.out, hrt] at this
   simp only [Nat.reducePow] at this
   omega
  rw [hN.out] at hRd
  have hcls := fun W => class_any Nn (by omega) W
  obtain ⟨A1, hA1⟩ : ∃ z, Hid (cutA (some ⟨b, off, none⟩) c 1 = z) := ⟨_, Lib.hid rfl⟩
  have hcut := run_cutAt (P := Tryz.prog) (t := 50) (e := 5) Tryz.underlying50 (by kernel_rfl) w (some ⟨b, off, none⟩) m c 1 8 (some (.int .i64 (1 : Int))) (some (.int .i64 (8 : Int))) (.inl rfl) (.inl rfl) (by omega) (by omega) (fun h => by cases h)
  have hcut2 := fun W => run_cutAt (P := Tryz.prog) (t := 50) (e := 5) Tryz.underlying50 (by kernel_rfl) W (some ⟨b, off, none⟩) m c 8 m (some (.int .i64 (8 : Int))) none (.inl rfl) (.inr ⟨rfl, rfl⟩) (by omega) (by omega) (fun _ => hmc)
  replace hcut := Lib.hid hcut
  rw [hA1.out] at hrc
  replace hcut : (Instr.sliceAt 50 (.slice (some ⟨b, off, none⟩) m c) (some (.int .i64 1)) (some (.int .i64 8)) none).run Tryz.prog w = .ok (.slice A1 7 (c - 1)) w := by rw [← hA1.out]; exact hcut.out
  have hrest : Rb w (cutA (some ⟨b, off, none⟩) c 8) (((x :: r).take m).drop 8) := Rb.cut hr (by omega) (by omega)
  rw [List.take_of_length_le (by omega)] at hrest
  obtain ⟨A2, hA2⟩ : ∃ z, Hid (cutA (some ⟨b, off, none⟩) c 8 = z) := ⟨_, Lib.hid rfl⟩
  have hA2n : A2 = none → c - 8 = 0 := fun h => cutA_none (A := some ⟨b, off, none⟩) (fun e => by cases e) (hA2.out.trans h)
  rw [hA2.out] at hrest
  simp only [hA2.out] at hcut2
  obtain ⟨L2, hL2⟩ : ∃ z, Hid ((x :: r).drop 8 = z) := ⟨_, Lib.hid rfl⟩
  have hL2l : L2.length = m - 8 := by rw [← hL2.out, List.length_drop, hl]
  rw [hL2.out] at hRd hrest
  have hbyte : ∀ (i : Nat), i < 7 → ∃ y : UInt8, T[i]? = some y := fun i hi => ⟨_, List.getElem?_eq_getElem (by omega)⟩
  have hrc' : ∀ (i : Nat) (y : UInt8), T[i]? = some y → ∃ b1 o1, A1 = some ⟨b1, o1, none⟩ ∧ w.cell? ⟨b1, o1 + i, none⟩ = some (.int .u8 (y.toNat : Int)) := fun i y hy => by
   obtain ⟨hi, e⟩ := List.getElem?_eq_some_iff.1 hy
   obtain ⟨b1, o1, e1, e2⟩ := hrc.at_ hi
   exact ⟨b1, o1, e1, by rw [e2, e]⟩
  replace hRd := Lib.hid hRd
  replace hrc' := Lib.hid hrc'
  replace hbyte := Lib.hid hbyte
  replace hA2n := Lib.hid hA2n
  replace hcls := Lib.hid hcls
  replace hL2l := Lib.hid hL2l
  replace hrt := Lib.hid hrt
  clear hR hte hrc hr hl hA hT
  go_enter Tryz.func92, Tryz.ntmps92
  go_wp2_with (refine wpList_cut rfl 50 (.tmp 29) (some (.const (.int .i64 1))) (some (.tmp 30)) rfl _ _ _ _ rfl rfl rfl hcut ?_)
  go_loopw [7, 9, 33] (fun v7 v9 v33 wr => ∃ i : Nat, i ≤ 7 ∧ v33 = .int .i64 i ∧ wr = w ∧ ∃ y : Nat, v7 = .int .u64 (y : Int) ∧ Hid (numB a0 (T.take i) = y) ∧ y < 64 * 256 ^ i) (fun _ _ v33 _ => 7 - (intOf v33).toNat)
  case atStart => exact ⟨0, by omega, rfl, rfl, a0, rfl, Lib.hid (by simp [numB]), by omega⟩
  case round =>
   obtain ⟨i, hi, rfl, rfl, y, rfl, hy, hyl⟩ := hrel
   by_cases hin : i < 7
   ·obtain ⟨z, hz⟩ := hbyte.out i hin
    obtain ⟨b1, o1, e1, hcz⟩ := hrc'.out i z hz
    subst e1
    have hzl := z.toNat_lt
    have hpw : 256 ^ i ≤ 256 ^ 6 := Nat.pow_le_pow_right (by omega) (by omega)
    have hy54 : y < 18014398509481984 := by
     simp only [Nat.reducePow] at hpw
     omega
    have hor := or_byte y z.toNat hy54 hzl
    have hyn : numB a0 (T.take (i + 1)) = y * 256 + z.toNat := by rw [List.take_add_one, hz, ← hy.out]; exact numB_snoc _ _ _
    have hyb : y * 256 + z.toNat < 64 * 256 ^ (i + 1) := by
     rw [Nat.pow_succ]
     generalize 256 ^ i = p at hyl
     omega
    have hin' : (i : Int) < 7 := by omega
    have hshl : (y : Int) * 256 % 18446744073709551616 = (y : Int) * 256 := by omega
    obtain ⟨y2, hy2⟩ : ∃ z2, Hid (y * 256 + z.toNat = z2) := ⟨_, rfl⟩
    rw [hy2.out] at hor hyn hyb
    replace hyn := Lib.hid hyn
    clear hz hy hyl hpw hrc' hbyte
    go_wp2_with fail
    go_roundw
    case rel => exact ⟨i + 1, by omega, by go_num, trivial, y2, rfl, hyn, hyb⟩
    case measure => simp [intOf]; omega
   ·obtain rfl : i = 7 := by omega
    have hyN : y = Nn := by rw [← hy.out, List.take_of_length_le (by have := hrt.out; omega), hN.out]
    subst hyN
    have hcl := hcls.out wr
    obtain ⟨K, hK⟩ : ∃ z, Hid (cls y = z) := ⟨_, rfl⟩
    rw [hK.out] at hcl
    have hRd2 := hRd.out
    rw [hK.out] at hRd2
    clear hy hcls hrc' hbyte hyl
    by_cases hck : K = 3
    ·rw [if_neg (by rw [hck]; simp)] at hRd2
     have hkb : ((K : Int) != 3) = false := by simp [hck]
     have hp : ∀ W, Ext wr W → PO (.returned (.tuple #[.int .u64 (y : Int), .slice A2 (m - 8) (c - 8), .int .i64 0])) W := fun W hW => by
      rw [← hPO.out, ← hRd2]
      refine ⟨A2, c - 8, ?_, hrest.ext hW, hA2n.out, ?_, ?_, hW⟩
      ·show _ = Ending.returned (.tuple #[.int .u64 (y : Int), .slice A2 L2.length (c - 8), .int .i64 0]); rw [hL2l.out]
      ·show L2.length ≤ _; rw [hL2l.out]; omega
      ·unfold maxLen; omega
     clear hrest hRd hRd2 hPO
     go_wp2_with fail
     refine hcl.mono ?_
     rintro e w1 ⟨rfl, hw1⟩
     have hw1 := hw1.symm
     subst hw1
     go_wp2_with fail
     refine Reg.startE (by kernel_rfl) ?_
     iterate 7 ((first | refine Reg.tn ?_ | refine Reg.sn ?_); (try simp only [Reg.nn]))
     refine Reg.fin (by kernel_rfl) (fun W hW => ?_)
     have hp2 := hp W hW
     go_wp2_with fail
     refine bodyPost_ret (results_tmp3 rfl _ _ _) rfl ?_
     exact hp2
    ·rw [if_pos (by intro e; exact hck e)] at hRd2
     have hkb : ((K : Int) != 3) = true := by simpa using hck
     have hp : PO (.returned (.tuple #[.int .u64 0, .slice none 0 0, .int .i64 4])) wr := by
      rw [← hPO.out, ← hRd2]
      exact TkV.no 4 (Ext.refl wr)
     clear hrest hRd hRd2 hPO
     go_wp2_with fail
     refine hcl.mono ?_
     rintro e w1 ⟨rfl, hw1⟩
     have hw1 := hw1.symm
     subst hw1
     go_wp2_with fail
     refine bodyPost_ret (results_tmp3 rfl _ _ _) rfl ?_
     exact hp
theorem take_any (A : Option Addr) (m c : Nat) (l : List UInt8) (w : World) (hr : Rb w A l) (hl : l.length = m) (hA : A = none → c = 0) (hmc : m ≤ c) (hc : c ≤ maxLen) :
  Calls Tryz.prog 92 #[.slice A m c] w fun e w' => TkV w (takeP l) e w' := by
 cases l with
 | nil =>
  obtain rfl : m = 0 := by simpa using hl.symm
  have hp := TkV.no 3 (Ext.refl w)
  obtain ⟨PO, hPO⟩ : ∃ PO : Ending → World → Prop, Hid ((fun e w' => TkV w (takeP []) e w') = PO) := ⟨_, Lib.hid rfl⟩
  rw [hPO.out]
  have hp2 : PO (.returned (.tuple #[.int .u64 0, .slice none 0 0, .int .i64 3])) w := by rw [← hPO.out]; exact hp
  clear hp hPO hr
  go_enter Tryz.func92, Tryz.ntmps92
  go_wp2_with fail
  refine bodyPost_ret (results_tmp3 rfl _ _ _) rfl ?_
  exact hp2
 | cons x r =>
  have hx := x.toNat_lt
  have h4 : x.toNat / 64 = 0 ∨ x.toNat / 64 = 1 ∨ x.toNat / 64 = 2 ∨ x.toNat / 64 = 3 := by omega
  rcases h4 with h | h | h | h
  ·exact take_k0 A m c x r w hr hl hA hmc hc h
  ·exact take_k1 A m c x r w hr hl hA hmc hc h
  ·exact take_k2 A m c x r w hr hl hA hmc hc h
  ·exact take_k3 A m c x r w hr hl hA hmc hc h
theorem takeP_len (l : List UInt8) : (takeP l).2.1.length ≤ l.length ∧ (takeP l).1 < 4611686018427387904 := by
 cases l with
 | nil => exact ⟨Nat.le_refl _, by decide⟩
 | cons x r =>
  rw [takeP]
  split
  ·exact ⟨Nat.zero_le _, by simp⟩
  ·split
   ·exact ⟨Nat.zero_le _, by simp⟩
   ·next h1 h2 =>
    refine ⟨by simp only [List.length_drop]; exact Nat.sub_le _ _, ?_⟩
    simp only [ne_eq, Decidable.not_not] at h2
    simp only
    generalize numB (x.toNat % 64) (r.take (2 ^ (x.toNat / 64) - 1)) = n at h2
    unfold cls at h2
    split at h2
    ·omega
    ·omega
theorem run_cutU {P : Program} {t e : TypeId} (ht : P.underlying t = some (.slice e)) (he : (P.info? e).map (·.size) = some 1) (w : World) (A : Option Addr) (n c l k : Nat) (lo hi : Option Value)
  (hlo : lo = some (.int .u64 (l : Int)) ∨ lo = none ∧ l = 0) (hhi : hi = some (.int .u64 (k : Int)) ∨ hi = none ∧ k = n) (hl : l ≤ k) (hk : k ≤ c) (hn : hi = none → n ≤ c) :
  (Instr.sliceAt t (.slice A n c) lo hi none).run P w = .ok (.slice (cutA A c l) (k - l) (c - l)) w := by
 have h1 : (0 : Int) ≤ (l : Int) ∧ (l : Int) ≤ (k : Int) := by omega
 have h2 : (0 : Int) ≤ (k : Int) ∧ (k : Int) ≤ (c : Int) := by omega
 cases hq : P.info? e with
 | none => simp [hq] at he
 | some i =>
  have hi1 : i.size = 1 := by simpa [hq] using he
  rcases hlo with rfl | ⟨rfl, rfl⟩ <;> rcases hhi with rfl | ⟨rfl, rfl⟩ <;>
   simp [Instr.sliceAt, run_underlying ht, Instr.slice, Instr.sliceBounds, Instr.sliceBound, asIntOf, h1, h2, sizeOf, typeInfo, hq, hi1, cutA, go_sem] <;>
   (try rw [if_pos hk, if_pos hl]) <;> (try (intro h; omega))
def TtV (w : World) (r : List UInt8 × List UInt8 × Nat) (e : Ending) (w' : World) : Prop := ∃ A' c', e = .returned (.tuple #[.string (Str r.1), .slice A' r.2.1.length c', .int .i64 (r.2.2 : Int)]) ∧ Rb w' A' r.2.1 ∧ (A' = none → c' = 0) ∧ r.2.1.length ≤ c' ∧ c' ≤ maxLen ∧ Ext w w'
theorem TtV.no {w w' : World} (n : Nat) (h : Ext w w') : TtV w ([], [], n) (.returned (.tuple #[.string ⟨#[]⟩, .slice none 0 0, .int .i64 (n : Int)])) w' := ⟨none, 0, rfl, Rd.nil _ _, fun _ => rfl, Nat.le_refl _, by unfold maxLen; omega, h⟩
theorem takeText_any (A : Option Addr) (m c : Nat) (l : List UInt8) (most : Nat) (w : World) (hr : Rb w A l) (hl : l.length = m) (hA : A = none → c = 0) (hmc : m ≤ c) (hc : c ≤ maxLen) (hmo : most < 4611686018427387904) :
  Calls Tryz.prog 93 #[.slice A m c, .int .i64 (most : Int)] w fun e w' => TtV w (takeTextP l most) e w' := by
 have ht := take_any A m c l w hr hl hA hmc hc
 obtain ⟨b1, b2⟩ := takeP_len l
 obtain ⟨R, hR⟩ : ∃ z, Hid (takeTextP l most = z) := ⟨_, Lib.hid rfl⟩
 have hRd := hR.out
 unfold takeTextP at hRd
 rw [hR.out]
 obtain ⟨PO, hPO⟩ : ∃ PO : Ending → World → Prop, Hid ((fun e w' => TtV w R e w') = PO) := ⟨_, Lib.hid rfl⟩
 rw [hPO.out]
 obtain ⟨r, hr0⟩ : ∃ z, Hid (takeP l = z) := ⟨_, Lib.hid rfl⟩
 rw [hr0.out] at ht hRd b1 b2
 obtain ⟨n, rest, er⟩ := r
 simp only at b1 b2 hRd
 replace ht : Calls Tryz.prog 92 #[.slice A m c] w fun e w' => ∃ A' c', e = .returned (.tuple #[.int .u64 (n : Int), .slice A' rest.length c', .int .i64 (er : Int)]) ∧ Rb w' A' rest ∧ (A' = none → c' = 0) ∧ rest.length ≤ c' ∧ c' ≤ maxLen ∧ Ext w w' := ht
 obtain ⟨N, hN⟩ : ∃ z, Hid (rest.length = z) := ⟨_, Lib.hid rfl⟩
 rw [hN.out] at ht hRd b1
 have hmo0 : ¬ (most : Int) < 0 := by omega
 have hmow : IntKind.u64.wrap (most : Int) = (most : Int) := by
  have : IntKind.u64.wrap (most : Int) = (most : Int) % 18446744073709551616 := by rfl
  rw [this]; omega
 replace hRd := Lib.hid hRd
 clear hR hr0 hr hl hA
 by_cases he : er = 0
 ·subst he
  have heb : (((0 : Nat) : Int) != 0) = false := rfl
  by_cases hlong : most < n
  ·have hlI : (most : Int) < (n : Int) := by omega
   have hRd2 := hRd.out
   rw [if_neg (by simp), if_pos hlong] at hRd2
   have hp : ∀ W, Ext w W → PO (.returned (.tuple #[.string ⟨#[]⟩, .slice none 0 0, .int .i64 2])) W := fun W hW => by rw [← hPO.out, ← hRd2]; exact TtV.no 2 hW
   clear hRd hRd2 hPO
   go_enter Tryz.func93, Tryz.ntmps93
   go_wp2_with fail
   refine ht.mono ?_
   rintro e w1 ⟨A1, c1, rfl, h1, h2, h3, h4, hx1⟩
   have hp2 := hp w1 hx1
   clear ht h2
   go_wp2_with fail
   refine bodyPost_ret (results_tmp3 rfl _ _ _) rfl ?_
   exact hp2
  ·have hlI : ¬ (most : Int) < (n : Int) := by omega
   by_cases hsh : N < n
   ·have hsI : (N : Int) < (n : Int) := by omega
    have hRd2 := hRd.out
    rw [if_neg (by simp), if_neg hlong, if_pos hsh] at hRd2
    have hp : ∀ W, Ext w W → PO (.returned (.tuple #[.string ⟨#[]⟩, .slice none 0 0, .int .i64 3])) W := fun W hW => by rw [← hPO.out, ← hRd2]; exact TtV.no 3 hW
    clear hRd hRd2 hPO
    go_enter Tryz.func93, Tryz.ntmps93
    go_wp2_with fail
    refine ht.mono ?_
    rintro e w1 ⟨A1, c1, rfl, h1, h2, h3, h4, hx1⟩
    have hp2 := hp w1 hx1
    unfold maxLen at h4
    clear ht h2
    go_wp2_with fail
    refine bodyPost_ret (results_tmp3 rfl _ _ _) rfl ?_
    exact hp2
   ·have hsI : ¬ (N : Int) < (n : Int) := by omega
    have hRd2 := hRd.out
    rw [if_neg (by simp), if_neg hlong, if_neg hsh] at hRd2
    have hl1 : (rest.take n).length = n := by rw [List.length_take]; have := hN.out; omega
    have hl2 : (rest.drop n).length = N - n := by rw [List.length_drop]; have := hN.out; omega
    have hNr := hN.out
    replace hNr := Lib.hid hNr
    go_enter Tryz.func93, Tryz.ntmps93
    go_wp2_with fail
    refine ht.mono ?_
    rintro e w1 ⟨A1, c1, rfl, h1, h2, h3, h4, hx1⟩
    have hcA := fun W => run_cutU (P := Tryz.prog) (t := 50) (e := 5) Tryz.underlying50 (by kernel_rfl) W A1 N c1 0 n none (some (.int .u64 (n : Int))) (.inr ⟨rfl, rfl⟩) (.inl rfl) (by omega) (by omega) (fun h => by cases h)
    have hcB := fun W => run_cutU (P := Tryz.prog) (t := 50) (e := 5) Tryz.underlying50 (by kernel_rfl) W A1 N c1 n N (some (.int .u64 (n : Int))) none (.inl rfl) (.inr ⟨rfl, rfl⟩) (by omega) h3 (fun _ => h3)
    have hrA : Rb w1 (cutA A1 c1 0) ((rest.take n).drop 0) := Rb.cut h1 (by omega) (by omega)
    have hrB : Rb w1 (cutA A1 c1 n) ((rest.take N).drop n) := Rb.cut h1 (by omega) h3
    rw [List.drop_zero] at hrA
    rw [List.take_of_length_le (by have := hNr.out; omega)] at hrB
    have hB0 : cutA A1 c1 n = none → c1 - n = 0 := cutA_none h2
    obtain ⟨AA, hAA⟩ : ∃ z, Hid (cutA A1 c1 0 = z) := ⟨_, Lib.hid rfl⟩
    obtain ⟨AB, hAB⟩ : ∃ z, Hid (cutA A1 c1 n = z) := ⟨_, Lib.hid rfl⟩
    simp only [hAA.out, Nat.sub_zero] at hcA hrA
    rw [hAB.out] at hrB hB0
    simp only [hAB.out] at hcB
    have hcv := fun W (hW : Ext w1 W) => conv_rd (P := Tryz.prog) (src := 50) (dst := 9) Tryz.underlying50 Tryz.underlying5 Tryz.underlying9 (n := n) c1 hl1 (hrA.ext hW)
    unfold maxLen at h4
    have hp : ∀ W, Ext w1 W → PO (.returned (.tuple #[.string (Str (rest.take n)), .slice AB (N - n) (c1 - n), .int .i64 0])) W := fun W hW => by
     rw [← hPO.out, ← hRd2]
     refine ⟨AB, c1 - n, ?_, hrB.ext hW, hB0, ?_, ?_, hx1.trans hW⟩
     ·show _ = Ending.returned (.tuple #[.string (Str (rest.take n)), .slice AB (rest.drop n).length (c1 - n), .int .i64 0]); rw [hl2]
     ·show (rest.drop n).length ≤ _; rw [hl2]; omega
     ·unfold maxLen; omega
    obtain ⟨ST, hST⟩ : ∃ z, Hid (Str (rest.take n) = z) := ⟨_, Lib.hid rfl⟩
    rw [hST.out] at hp
    simp only [hST.out] at hcv
    clear ht h2 hrA hrB hB0 h1 hRd hRd2 hPO hl1 hl2
    go_wp2_with fail
    refine Reg.startE (by kernel_rfl) ?_
    iterate 10 ((first | refine Reg.tn ?_ | refine Reg.sn ?_); (try simp only [Reg.nn]))
    refine Reg.fin (by kernel_rfl) (fun W hW => ?_)
    have hp2 := hp W hW
    clear hcv hp hcA hcB
    go_wp2_with fail
    refine bodyPost_ret (results_tmp3 rfl _ _ _) rfl ?_
    exact hp2
 ·have hRd2 := hRd.out
  rw [if_pos he] at hRd2
  have heb : ((er : Int) != 0) = true := by simpa using (by omega : ¬ (er : Int) = 0)
  have hp : ∀ W, Ext w W → PO (.returned (.tuple #[.string ⟨#[]⟩, .slice none 0 0, .int .i64 (er : Int)])) W := fun W hW => by rw [← hPO.out, ← hRd2]; exact TtV.no er hW
  clear hRd hRd2 hPO
  go_enter Tryz.func93, Tryz.ntmps93
  go_wp2_with fail
  refine ht.mono ?_
  rintro e w1 ⟨A1, c1, rfl, h1, h2, h3, h4, hx1⟩
  have hp2 := hp w1 hx1
  clear ht h2
  go_wp2_with fail
  refine bodyPost_ret (results_tmp3 rfl _ _ _) rfl ?_
  exact hp2
end Go.Proofs.YtbpfabhlngfciaaGreatDoor.Pf
namespace Go.Proofs.YtbpfabhlngfciaaGreatDoor.Rf
open Base Pf
def sizeP (n : Nat) : Nat := if n < 64 then 1 else if n < 16384 then 2 else if n < 1073741824 then 4 else if n < 4611686018427387904 then 8 else 0
theorem size_cls (n : Nat) (j : Nat) (hj : j ≤ 3) : sizeP n = 2 ^ j ↔ cls n = (j : Int) := by
 have : j = 0 ∨ j = 1 ∨ j = 2 ∨ j = 3 := by omega
 unfold sizeP cls
 rcases this with rfl | rfl | rfl | rfl <;> (repeat' split) <;> simp <;> omega
theorem size_no (n : Nat) : sizeP n = 0 ↔ 4611686018427387904 ≤ n := by
 unfold sizeP
 repeat' split
 all_goals omega
def kP (l : List UInt8) : Nat := if (takeP l).2.2 = 0 then l.length - (takeP l).2.1.length else 0
theorem take_drop (l : List UInt8) (h : (takeP l).2.2 = 0) : (takeP l).2.1 = l.drop (kP l) ∧ kP l ≤ l.length := by
 unfold kP
 rw [if_pos h]
 refine ⟨?_, Nat.sub_le _ _⟩
 cases l with
 | nil => cases h
 | cons c r =>
  rw [takeP] at h ⊢
  split at h
  ·cases h
  ·next h1 =>
   rw [if_neg h1]
   split at h
   ·cases h
   ·next h2 =>
    rw [if_neg h2]
    have e : (c :: r).length - ((c :: r).drop (2 ^ (c.toNat / 64))).length = 2 ^ (c.toNat / 64) := by
     rw [List.length_drop]; exact Nat.sub_sub_self (Nat.not_lt.1 h1)
    simp only [e]
end Go.Proofs.YtbpfabhlngfciaaGreatDoor.Rf
namespace Go.Proofs.YtbpfabhlngfciaaGreatDoor.Rf
open Go.ChangeShapes Go.WideShapes Go.ChangeAt Go.RowKit
open Base Pf
theorem Size_any (n : Nat) (hn : n < 18446744073709551616) (w : World) : Calls Tryz.prog 89 #[.int .u64 (n : Int)] w fun e w' => e = .returned (.int .i64 (sizeP n : Int)) ∧ w' = w := by
 obtain ⟨r, hr⟩ : ∃ r, Hid (sizeP n = r) := ⟨_, Lib.hid rfl⟩
 rw [hr.out]
 by_cases h0 : n < 64
 ·have e : r = 1 := by rw [← hr.out, sizeP, if_pos h0]
  subst e
  have h0' : (n : Int) < 64 := by omega
  clear hn hr
  go_enter Tryz.func89, Tryz.ntmps89
  go_wp2_with fail
  go_ret
  exact ⟨rfl, rfl⟩
 have h0' : ¬ (n : Int) < 64 := by omega
 by_cases h1 : n < 16384
 ·have e : r = 2 := by rw [← hr.out, sizeP, if_neg h0, if_pos h1]
  subst e
  have h1' : (n : Int) < 16384 := by omega
  clear hn hr
  go_enter Tryz.func89, Tryz.ntmps89
  go_wp2_with fail
  go_ret
  exact ⟨rfl, rfl⟩
 have h1' : ¬ (n : Int) < 16384 := by omega
 by_cases h2 : n < 1073741824
 ·have e : r = 4 := by rw [← hr.out, sizeP, if_neg h0, if_neg h1, if_pos h2]
  subst e
  have h2' : (n : Int) < 1073741824 := by omega
  clear hn hr
  go_enter Tryz.func89, Tryz.ntmps89
  go_wp2_with fail
  go_ret
  exact ⟨rfl, rfl⟩
 have h2' : ¬ (n : Int) < 1073741824 := by omega
 by_cases h3 : n < 4611686018427387904
 ·have e : r = 8 := by rw [← hr.out, sizeP, if_neg h0, if_neg h1, if_neg h2, if_pos h3]
  subst e
  have h3' : (n : Int) < 4611686018427387904 := by omega
  clear hn hr
  go_enter Tryz.func89, Tryz.ntmps89
  go_wp2_with fail
  go_ret
  exact ⟨rfl, rfl⟩
 have h3' : ¬ (n : Int) < 4611686018427387904 := by omega
 have e : r = 0 := by rw [← hr.out, sizeP, if_neg h0, if_neg h1, if_neg h2, if_neg h3]
 subst e
 clear hn hr
 go_enter Tryz.func89, Tryz.ntmps89
 go_wp2_with fail
 go_ret
 exact ⟨rfl, rfl⟩
end Go.Proofs.YtbpfabhlngfciaaGreatDoor.Rf
namespace Go.Proofs.YtbpfabhlngfciaaGreatDoor.Pr
open Go.ChangeShapes Go.WideShapes Go.ChangeAt Go.RowKit
open Base
theorem app0_run {P : Program} {t e : TypeId} {z : Value} {size bytes : Nat} (E : El P t e z size bytes) (w : World) (ty : TypeId) (base : Nat)
  (g : Nat) (hown : w.ownsRow base e size (.slice (some ⟨g, 0, none⟩) 0 0) 0 [])
  (A : Option Addr) (m c : Nat) (news : List Value) (hr : Rd w A news) (hl : news.length = m * size) (hA : A = none → c = 0)
  (hbytes : m * bytes ≤ 140737488355328) (hby : 0 < bytes) (hbase : base ≤ w.heap.size) :
  ∃ v' w', (Builtin.append_ #[t, t] ty #[.slice (some ⟨g, 0, none⟩) 0 0, .slice A m c]).run P w = .ok v' w' ∧ w'.ownsRow base e size v' m news ∧ Ext w w' := by
 obtain ⟨i, hi, hz, hs, hb⟩ := info_parts E.info
 have hpos := E.pos
 by_cases hne : news = []
 ·subst hne
  have hm : m = 0 := by
   rcases Nat.eq_zero_or_pos m with h | h
   ·exact h
   ·have := Nat.mul_pos h hpos; simp at hl; omega
  subst hm
  refine ⟨_, w, ?_, hown, Ext.refl w⟩
  cases A with
  | none =>
   rw [hA rfl]
   exact run_append_nothing (P := P) w t t ty e i E.under hi (some ⟨g, 0, none⟩) 0 0 (Nat.le_refl _) _ (Src.ofNil (P := P) (w := w) E.under 0)
  | some ad =>
   exact run_append_nothing (P := P) w t t ty e i E.under hi (some ⟨g, 0, none⟩) 0 0 (Nat.le_refl _) _ (Src.ofSlice (P := P) (w := w) E.under ad 0 c [] (by simp) (by simp) (fun u hu => by cases hu))
 ·obtain ⟨b, off, rfl, hc⟩ := hr hne
  have hm : 0 < m := by
   rcases Nat.eq_zero_or_pos m with h | h
   ·subst h; rw [Nat.zero_mul] at hl; exact absurd (List.eq_nil_of_length_eq_zero hl) hne
   ·exact h
  have h63 : m ≤ maxLen := by
   have h : m * 1 ≤ m * bytes := Nat.mul_le_mul_left _ hby
   unfold maxLen; omega
  have h63' : ((0 + m : Nat) : Int) ≤ 9223372036854775807 := by unfold maxLen at h63; omega
  have hr := run_append_grow (P := P) w t ty e i z E.under hi hz ⟨g, 0, none⟩ 0 0 [] (by simp) (by simp) ⟨b, off, none⟩ m c news (by rw [hs]; exact hl) (fun j u hj => by
   have hadd : (⟨b, off, none⟩ : Addr).add j = ⟨b, off + j, none⟩ := by unfold Addr.add; split <;> simp_all
   rw [hadd]; exact hc j u hj) (by omega) h63' (growslice_fits (by omega) (by rw [hb, Nat.zero_add]; exact hbytes))
  have hge := grownCap_ge w (0 + m) 0 e
  have hcm : grownCap w (0 + m) 0 e ≤ maxLen := grownCap_le_maxLen w (0 + m) 0 e (by omega)
  refine ⟨_, _, hr, ⟨hl, .inr ⟨w.heap.size, _, _, by rw [Nat.zero_add], hbase, heap_alloc_new w.drew _, by rw [Nat.zero_add] at hge; exact hge, by rw [Nat.zero_add] at hcm; exact hcm, ?_, ?_⟩⟩, ((Ext.refl w).drew).alloc _⟩
  ·have e1 : m * size + (grownCap w (0 + m) 0 e - (0 + m)) * size = grownCap w (0 + m) 0 e * size := by
    rw [← Nat.add_mul]; congr 1; omega
   simp only [Array.size_append, List.size_toArray, size_zeroCells, E.cells, hl, List.length_nil, Nat.zero_add] at e1 ⊢
   exact e1
  ·simp only [Array.toList_append, List.append_assoc]
   rw [← hl]
   simp
theorem wp_app0 {P : Program} {t e : TypeId} {z : Value} {size bytes : Nat} (E : El P t e z size bytes) (w : World) {o : Oper} {a : Act} {K : Act → World → Prop} {Q : Exit → Act → World → Prop} (s x : Operand)
  (ho : o.op = .call { callee := .builtin .append, args := #[s, x], argTypes := #[t, t] }) (base : Nat)
  (g : Nat) (hs : a.eval s = .slice (some ⟨g, 0, none⟩) 0 0) (hown : w.ownsRow base e size (.slice (some ⟨g, 0, none⟩) 0 0) 0 [])
  (A : Option Addr) (m c : Nat) (news : List Value) (hx : a.eval x = .slice A m c) (hr : Rd w A news) (hl : news.length = m * size) (hA : A = none → c = 0)
  (hbytes : m * bytes ≤ 140737488355328) (hby : 0 < bytes) (hbase : base ≤ w.heap.size)
  (h : ∀ v' w', w'.ownsRow base e size v' m news → Ext w w' → K (a.put o.dst v') w') : o.wp P a w K Q := by
 obtain ⟨v', w', hrun, h2, h3⟩ := app0_run E w o.type base g hown A m c news hr hl hA hbytes hby hbase
 unfold Oper.wp execOp
 simp only [ho, resolve, invoke, builtin, Sem.run_bind, Sem.run_pure, Result.andThen_ok, List.map_toArray, List.map_cons, List.map_nil, hs, hx, hrun]
 exact h v' w' h2 h3
end Go.Proofs.YtbpfabhlngfciaaGreatDoor.Pr
namespace Go.Proofs.YtbpfabhlngfciaaGreatDoor.Rf
open Go.ChangeShapes Go.WideShapes Go.ChangeAt Go.RowKit
open Base Pf Piece Pr
theorem wpList_app0 {P : Program} {t e : TypeId} {z : Value} {size bytes : Nat} (E : El P t e z size bytes) (w : World) {ops : Array Oper} {rest : List Oper} {o : Oper} {a : Act} {Q : Exit → Act → World → Prop} (hgd : o.guard = none) (s x : Operand)
  (ho : o.op = .call { callee := .builtin .append, args := #[s, x], argTypes := #[t, t] }) (base : Nat)
  (g : Nat) (hs : a.eval s = .slice (some ⟨g, 0, none⟩) 0 0) (hown : w.ownsRow base e size (.slice (some ⟨g, 0, none⟩) 0 0) 0 [])
  (A : Option Addr) (m c : Nat) (news : List Value) (hx : a.eval x = .slice A m c) (hr : Rd w A news) (hl : news.length = m * size) (hA : A = none → c = 0)
  (hbytes : m * bytes ≤ 140737488355328) (hby : 0 < bytes) (hbase : base ≤ w.heap.size)
  (h : ∀ v' w', w'.ownsRow base e size v' m news → Ext w w' → wpList P ops Q rest (a.put o.dst v') w') : wpList P ops Q (o :: rest) a w :=
 wpList_plain hgd fun _ hK => wp_app0 E w s x ho base g hs hown A m c news hx hr hl hA hbytes hby hbase fun v' w' h2 h3 => hK _ _ (h v' w' h2 h3)
theorem seqM' {P : Program} {a b : Code} {Q : Exit → Act → World → Prop} {act : Act} {w : World} (M : Act → World → Prop) (h1 : ∀ K : Act → World → Prop, (∀ a w, M a w → K a w) → a.wp P (Exit.then K Q) act w) (h2 : ∀ a w, M a w → b.wp P Q a w) : (Code.seq a b).wp P Q act w := wp_seq (h1 _ h2)
theorem be_get : ∀ (m v t : Nat), t < m → (be m v)[t]? = some (UInt8.ofNat (v / 256 ^ (m - 1 - t) % 256))
 | 0, _, _, h => by omega
 | m + 1, v, 0, h => by simp [be]
 | m + 1, v, t + 1, h => by
  rw [be, List.getElem?_cons_succ, be_get m v t (by omega)]
  congr 5
  omega
theorem enc_get {n j : Nat} (hj : j ≤ 3) (h : cls n = j) (t : Nat) (ht : t < 2 ^ j) : ∃ y : UInt8, (encN n)[t]? = some y ∧ y.toNat = n / 256 ^ (2 ^ j - 1 - t) % 256 + (if t = 0 then 64 * j else 0) := by
 have hlt := cls_lt hj h
 have hkk : (cls n).toNat = j := by rw [h]; rfl
 obtain ⟨m, hm⟩ : ∃ m, 2 ^ j = m + 1 := ⟨2 ^ j - 1, by have : 0 < 2 ^ j := Nat.two_pow_pos j; omega⟩
 have hp : 2 ^ (8 * 2 ^ j - 2) = 64 * 256 ^ m := by
  rw [hm, show 8 * (m + 1) - 2 = 8 * m + 6 by omega, Nat.pow_add, Nat.pow_mul]
  rw [Nat.mul_comm]
 rw [hm] at hlt ht ⊢
 simp only [Nat.add_sub_cancel] at hlt ⊢
 refine ⟨_, by unfold encN putP; rw [hkk, hm, be_get _ _ _ ht, ← hm, hp, hm], ?_⟩
 simp only [Nat.add_sub_cancel]
 rw [UInt8.toNat_ofNat_of_lt' (by show _ % 256 < 256; omega)]
 cases t with
 | zero =>
  have hP : 0 < 256 ^ m := Nat.pos_of_ne_zero (by simp)
  obtain ⟨q, hq0⟩ : ∃ q, n / 256 ^ m = q := ⟨_, rfl⟩
  have hq : q < 64 := by rw [← hq0, Nat.div_lt_iff_lt_mul hP]; exact hlt
  rw [Nat.sub_zero, if_pos rfl, ← Nat.mul_assoc, Nat.add_mul_div_right _ _ hP, hq0]
  omega
 | succ t =>
  have hP : 0 < 256 ^ (m - (t + 1)) := Nat.pos_of_ne_zero (by simp)
  have e : 256 ^ m = 256 ^ t * 256 * 256 ^ (m - (t + 1)) := by rw [← Nat.pow_succ, ← Nat.pow_add]; congr 1; omega
  rw [if_neg (by omega), e, Nat.add_zero]
  have e2 : j * (64 * (256 ^ t * 256 * 256 ^ (m - (t + 1)))) = (j * 64 * 256 ^ t * 256) * 256 ^ (m - (t + 1)) := by
   simp only [Nat.mul_assoc]
  rw [e2, Nat.add_mul_div_right _ _ hP, Nat.add_mul_mod_self_right]; rfl
set_option maxRecDepth 1000000 in
theorem lay49 {v0 v1 v2 v3 v4 v5 v6 v7 : Value} {a : Act} (h : Piece.Fr 49 [v0, v1, v2, v3, v4, v5, v6, v7] a) : ∃ u : Nat → Value, a = ⟨(v0 :: v1 :: v2 :: v3 :: v4 :: v5 :: v6 :: v7 :: u 8 :: u 9 :: u 10 :: u 11 :: u 12 :: u 13 :: u 14 :: u 15 :: u 16 :: u 17 :: u 18 :: u 19 :: u 20 :: u 21 :: u 22 :: u 23 :: u 24 :: u 25 :: u 26 :: u 27 :: u 28 :: u 29 :: u 30 :: u 31 :: u 32 :: u 33 :: u 34 :: u 35 :: u 36 :: u 37 :: u 38 :: u 39 :: u 40 :: u 41 :: u 42 :: u 43 :: u 44 :: u 45 :: u 46 :: u 47 :: u 48 :: []).toArray, []⟩ := by
 obtain ⟨u, hu⟩ := h.spread
 refine ⟨u, hu.trans ?_⟩
 kernel_rfl
set_option maxRecDepth 1000000 in
theorem lay499 {v0 v1 v2 v3 v4 v5 v6 v7 v8 : Value} {a : Act} (h : Piece.Fr 49 [v0, v1, v2, v3, v4, v5, v6, v7, v8] a) : ∃ u : Nat → Value, a = ⟨(v0 :: v1 :: v2 :: v3 :: v4 :: v5 :: v6 :: v7 :: v8 :: u 9 :: u 10 :: u 11 :: u 12 :: u 13 :: u 14 :: u 15 :: u 16 :: u 17 :: u 18 :: u 19 :: u 20 :: u 21 :: u 22 :: u 23 :: u 24 :: u 25 :: u 26 :: u 27 :: u 28 :: u 29 :: u 30 :: u 31 :: u 32 :: u 33 :: u 34 :: u 35 :: u 36 :: u 37 :: u 38 :: u 39 :: u 40 :: u 41 :: u 42 :: u 43 :: u 44 :: u 45 :: u 46 :: u 47 :: u 48 :: []).toArray, []⟩ := by
 obtain ⟨u, hu⟩ := h.spread
 refine ⟨u, hu.trans ?_⟩
 kernel_rfl
set_option maxRecDepth 1000000 in
theorem lay496 {v0 v1 v2 v3 v4 v5 : Value} {a : Act} (h : Piece.Fr 49 [v0, v1, v2, v3, v4, v5] a) : ∃ u : Nat → Value, a = ⟨(v0 :: v1 :: v2 :: v3 :: v4 :: v5 :: u 6 :: u 7 :: u 8 :: u 9 :: u 10 :: u 11 :: u 12 :: u 13 :: u 14 :: u 15 :: u 16 :: u 17 :: u 18 :: u 19 :: u 20 :: u 21 :: u 22 :: u 23 :: u 24 :: u 25 :: u 26 :: u 27 :: u 28 :: u 29 :: u 30 :: u 31 :: u 32 :: u 33 :: u 34 :: u 35 :: u 36 :: u 37 :: u 38 :: u 39 :: u 40 :: u 41 :: u 42 :: u 43 :: u 44 :: u 45 :: u 46 :: u 47 :: u 48 :: []).toArray, []⟩ := by
 obtain ⟨u, hu⟩ := h.spread
 refine ⟨u, hu.trans ?_⟩
 kernel_rfl
theorem rPut_any (A : Option Addr) (m c : Nat) (l : List UInt8) (n : Nat) (w : World) (hr : Rb w A l) (hl : l.length = m) (hA : A = none → c = 0) (hm : m ≤ 140737488355000) (hn : n < 18446744073709551616) :
  Calls Tryz.prog 55 #[.slice A m c, .int .u64 (n : Int)] w fun e w' => ∃ v', e = .returned (.tuple #[v', .int .i64 (if n < 4611686018427387904 then 0 else 1)]) ∧ Ow w.heap.size w' v' (if n < 4611686018427387904 then l ++ encN n else l) ∧ Ext w w' := by
 have hsz := fun W => Size_any n hn W
 obtain ⟨SZ, hSZ⟩ : ∃ z, Hid (sizeP n = z) := ⟨_, Lib.hid rfl⟩
 simp only [hSZ.out] at hsz
 obtain ⟨wl, hwl⟩ : ∃ z, Hid (w.alloc (.cells #[] 5) = z) := ⟨_, rfl⟩
 have hx1 : Ext w wl := by rw [← hwl.out]; exact (Ext.refl w).alloc _
 have hlit : (w.alloc (.cells #[] 5)).ownsRow w.heap.size 5 1 (.slice (some ⟨w.heap.size, 0, none⟩) 0 0) 0 [] := World.ownsRow_lit w #[] 0 (Nat.le_refl _) (Nat.zero_le _) rfl
 have hr1 := hr.ext ((Ext.refl w).alloc (.cells #[] 5))
 have hb1 := ((Ext.refl w).alloc (.cells #[] 5)).size
 have hl8 : (u8s l).length = m * 1 := by rw [u8s_length, hl, Nat.mul_one]
 replace hA := Lib.hid hA
 replace hsz := Lib.hid hsz
 by_cases h : n < 4611686018427387904
 ·simp only [if_pos h]
  obtain ⟨j, hj, hc⟩ := cls_k h
  have hget := enc_get hj hc
  have hsj := (size_cls n j hj).2 hc
  obtain ⟨E, hE⟩ : ∃ z, Hid (encN n = z) := ⟨_, Lib.hid rfl⟩
  rw [hE.out] at hget ⊢
  have hEl : E.length = 2 ^ j := by rw [← hE.out]; unfold encN putP; rw [be_length, hc]; rfl
  obtain ⟨PO, hPO⟩ : ∃ PO : Ending → World → Prop, Hid ((fun e w' => ∃ v', e = .returned (.tuple #[v', .int .i64 0]) ∧ Ow w.heap.size w' v' (l ++ E) ∧ Ext w w') = PO) := ⟨_, Lib.hid rfl⟩
  rw [hPO.out]
  rw [hSZ.out] at hsj
  subst hsj
  have hfin : ∀ v' w', Ow w.heap.size w' v' (l ++ E) → Ext w w' → PO (.returned (.tuple #[v', .int .i64 0])) w' := fun v' w' q1 q2 => by rw [← hPO.out]; exact ⟨v', rfl, q1, q2⟩
  obtain ⟨KK, hKK⟩ : ∃ z, Hid (2 ^ j = z) := ⟨_, Lib.hid rfl⟩
  have hj4 : j = 0 ∨ j = 1 ∨ j = 2 ∨ j = 3 := by omega
  have hK8 : 1 ≤ KK ∧ KK ≤ 8 := by rw [← hKK.out]; rcases hj4 with rfl | rfl | rfl | rfl <;> decide
  rw [hKK.out] at hsz hget hEl
  have hk0 : ((KK : Int) == 0) = false := by simp; omega
  replace hget := Lib.hid hget
  replace hfin := Lib.hid hfin
  clear hPO hSZ hE hc h
  go_enter Tryz.func55, Tryz.ntmps55
  conv => arg 2; whnf
  refine seqM' (fun a' w' => Fr 49 [.slice A m c, .int .u64 (n : Int), undef, undef, .slice none 0 0, .int .i64 0] a' ∧ w' = w) ?_ ?_
  ·intro K hK
   go_wp2_with fail
   first | exact ⟨⟨_, rfl, rfl⟩, rfl⟩ | exact ⟨_, rfl, rfl⟩
  rintro a1 w1 ⟨hF, hw1⟩
  replace hw1 := hw1.symm
  subst hw1
  obtain ⟨u, rfl⟩ := lay496 hF
  clear hF
  refine seqM' (fun a' w' => ∃ v, Fr 49 [.slice A m c, .int .u64 (n : Int), undef, undef, .slice none 0 0, .int .i64 0, v, .int .i64 (KK : Int)] a' ∧ w'.ownsRow w.heap.size 5 1 v m (u8s l) ∧ Ext w w') ?_ ?_
  ·intro K hK
   go_wp2_with (
    refine wpList_app0 el8 _ rfl (.tmp 11) (.tmp 12) rfl _ _ rfl hlit A m c (u8s l) rfl hr1 hl8 hA.out (by omega) (by omega) hb1 (fun v' w' ho' hx' => ?_)
    have hs1 := hsz.out w'
    clear hlit hr1 hl8 hb1)
   refine hs1.mono ?_
   rintro e w3 ⟨rfl, hw3⟩
   replace hw3 := hw3.symm
   subst hw3
   go_wp2_with fail
   exact ⟨v', ⟨_, rfl, rfl⟩, ho', ((Ext.refl w).alloc _).trans hx'⟩
  rintro a1 w2 ⟨v2, hF, ho2, hx2⟩
  obtain ⟨u, rfl⟩ := lay49 hF
  clear hF hlit hr1 hl8 hb1
  refine seqM' (fun a' w' => Fr 49 [.slice A m c, .int .u64 (n : Int), undef, undef, .slice none 0 0, .int .i64 0, v2, .int .i64 (KK : Int)] a' ∧ w' = w2) ?_ ?_
  ·intro K hK
   go_wp2_with fail
   first | exact ⟨⟨_, rfl, rfl⟩, rfl⟩ | exact ⟨_, rfl, rfl⟩
  rintro a1 w1 ⟨hF, hw1⟩
  replace hw1 := hw1.symm
  subst hw1
  obtain ⟨u, rfl⟩ := lay49 hF
  clear hF
  refine seqM' (fun a' w' => Fr 49 [.slice A m c, .int .u64 (n : Int), undef, undef, .slice none 0 0, .int .i64 0, v2, .int .i64 (KK : Int), .int .u8 0] a' ∧ w' = w2) ?_ ?_
  ·intro K hK
   go_wp2_with fail
   first | exact ⟨⟨_, rfl, rfl⟩, rfl⟩ | exact ⟨_, rfl, rfl⟩
  rintro a1 w1 ⟨hF, hw1⟩
  replace hw1 := hw1.symm
  subst hw1
  obtain ⟨u, rfl⟩ := lay499 hF
  clear hF
  refine seqM' (fun a' w' => Fr 49 [.slice A m c, .int .u64 (n : Int), undef, undef, .slice none 0 0, .int .i64 0, v2, .int .i64 (KK : Int), .int .u8 ((64 * j : Nat) : Int)] a' ∧ w' = w2) ?_ ?_
  ·intro K hK
   rcases hj4 with rfl | rfl | rfl | rfl
   ·obtain rfl : KK = 1 := by rw [← hKK.out]
    go_wp2_with fail
    all_goals first | exact ⟨⟨_, rfl, rfl⟩, rfl⟩ | exact ⟨_, rfl, rfl⟩
   ·obtain rfl : KK = 2 := by rw [← hKK.out]
    go_wp2_with fail
    all_goals first | exact ⟨⟨_, rfl, rfl⟩, rfl⟩ | exact ⟨_, rfl, rfl⟩
   ·obtain rfl : KK = 4 := by rw [← hKK.out]
    go_wp2_with fail
    all_goals first | exact ⟨⟨_, rfl, rfl⟩, rfl⟩ | exact ⟨_, rfl, rfl⟩
   ·obtain rfl : KK = 8 := by rw [← hKK.out]
    go_wp2_with fail
    all_goals first | exact ⟨⟨_, rfl, rfl⟩, rfl⟩ | exact ⟨_, rfl, rfl⟩
  rintro a1 w1 ⟨hF, hw1⟩
  replace hw1 := hw1.symm
  subst hw1
  obtain ⟨u, rfl⟩ := lay499 hF
  clear hF
  obtain ⟨hb, hhb⟩ : ∃ z, Hid (64 * j = z) := ⟨_, Lib.hid rfl⟩
  rw [hhb.out]
  go_wp2_with fail
  go_loopw [6, 9] (fun v6 v9 wr => ∃ t i : Nat, t + i = KK ∧ v9 = .int .i64 ((i : Int) - 1) ∧ Ow w.heap.size wr v6 (l ++ E.take t) ∧ Ext w wr) (fun _ v9 _ => (intOf v9 + 1).toNat)
  case atStart => exact ⟨0, KK, by omega, rfl, by rw [List.take_zero, List.append_nil]; unfold Ow; rw [hl]; exact ho2, hx2⟩
  case round =>
   obtain ⟨t, i, hti, rfl, ho, hx⟩ := hrel
   obtain ⟨A6, c6, rfl, jj1, jj2, jj3, jj4⟩ := Rd.of_own ho
   have hlen : (l ++ E.take t).length = m + t := by rw [List.length_append, hl, List.length_take]; omega
   have ho6 : wr.ownsRow w.heap.size 5 1 (.slice A6 (m + t) c6) (m + t) (u8s (l ++ E.take t)) := by have := ho; unfold Ow at this; rw [hlen] at this; exact this
   rw [hlen]
   clear jj1 jj2 jj3 jj4
   cases i with
   | zero =>
    have htk : t = KK := by omega
    subst htk
    rw [List.take_of_length_le (by omega)] at ho
    have hp := hfin.out _ _ ho hx
    rw [show (l ++ E).length = m + t by rw [List.length_append, hl, hEl]] at hp
    rw [show (((0 : Nat) : Int) - 1) = -1 by omega]
    clear hget hfin ho ho6 hlen
    go_wp2_with fail
    exact hp
   | succ i =>
    rw [show (((i + 1 : Nat) : Int) - 1) = (i : Int) by omega]
    obtain ⟨y, hy, hyn⟩ := hget.out t (by omega)
    rw [show KK - 1 - t = i by omega] at hyn
    have hi8 : i < 8 := by omega
    have hpw : (256 : Nat) ^ i = 2 ^ (8 * i) := by rw [Nat.pow_mul]
    rw [hpw] at hyn
    have hsn : E.take (t + 1) = E.take t ++ [y] := by rw [List.take_add_one, hy]; rfl
    have hrow : u8s (l ++ E.take t) ++ [(y.toNat : Int)].map (Value.int .u8) = u8s (l ++ E.take (t + 1)) := by rw [hsn, ← List.append_assoc, u8s_append (l ++ E.take t)]; rfl
    have hlen' : (l ++ E.take (t + 1)).length = m + t + 1 := by rw [List.length_append, hl, List.length_take]; omega
    have hBr := hx.size
    have hbb : (m + t + 1) * 1 ≤ 140737488355328 := by omega
    have hrel : ∀ v w', w'.ownsRow w.heap.size 5 1 v (m + t + 1) (u8s (l ++ E.take t) ++ [(y.toNat : Int)].map (Value.int .u8)) → Ow w.heap.size w' v (l ++ E.take (t + 1)) := fun v w' h => by unfold Ow; rw [hlen', ← hrow]; exact h
    clear hget hfin hrow hsn hlen hlen' ho hy
    by_cases ht0 : t = 0
    ·rw [if_pos ht0] at hyn
     have hik : ((i : Int) == (KK : Int) - 1) = true := by simp; omega
     have hyv : ((n : Int) / 2 ^ (8 * i) + (hb : Int)) % 256 = (y.toNat : Int) := by
      have h1 := y.toNat_lt
      have h2 : (n : Int) / 2 ^ (8 * i) = ((n / 2 ^ (8 * i) : Nat) : Int) := by simp
      rw [h2, hhb.out.symm]
      omega
     clear hyn
     go_wp2_with (
      try simp only [hyv]
      refine wpList_app el8 _ rfl (.tmp 44) (.tmp 46) rfl w.heap.size (.slice A6 (m + t) c6) (m + t) (u8s (l ++ E.take t)) rfl (own_ext ho6 ((Ext.refl wr).alloc _)) (some ⟨wr.heap.size, 0, none⟩) 1 1 ([(y.toNat : Int)].map (Value.int .u8)) rfl (Rd.of_block wr 5 (0, 0) rfl) rfl (fun h => by cases h) (ints8_one _) hbb (by omega) (Nat.le_trans hBr ((Ext.refl wr).alloc _).size) (fun V2 w3 ho3 hg3 hv3 => ?_)
      have hr3 := hrel _ _ ho3
      have hx3 := Below.trans hx (grw hBr ho6 ((Ext.refl wr).alloc _) hg3))
     go_roundw
     case rel => exact ⟨t + 1, i, by omega, rfl, hr3, hx3⟩
     case measure => simp [intOf] <;> omega
    ·rw [if_neg ht0] at hyn
     have hik : ((i : Int) == (KK : Int) - 1) = false := by simp; omega
     have hyv : (n : Int) / 2 ^ (8 * i) % 256 = (y.toNat : Int) := by
      have h2 : (n : Int) / 2 ^ (8 * i) = ((n / 2 ^ (8 * i) : Nat) : Int) := by simp
      rw [h2]
      omega
     clear hyn
     go_wp2_with (
      try simp only [hyv]
      refine wpList_app el8 _ rfl (.tmp 44) (.tmp 46) rfl w.heap.size (.slice A6 (m + t) c6) (m + t) (u8s (l ++ E.take t)) rfl (own_ext ho6 ((Ext.refl wr).alloc _)) (some ⟨wr.heap.size, 0, none⟩) 1 1 ([(y.toNat : Int)].map (Value.int .u8)) rfl (Rd.of_block wr 5 (0, 0) rfl) rfl (fun h => by cases h) (ints8_one _) hbb (by omega) (Nat.le_trans hBr ((Ext.refl wr).alloc _).size) (fun V2 w3 ho3 hg3 hv3 => ?_)
      have hr3 := hrel _ _ ho3
      have hx3 := Below.trans hx (grw hBr ho6 ((Ext.refl wr).alloc _) hg3))
     go_roundw
     case rel => exact ⟨t + 1, i, by omega, rfl, hr3, hx3⟩
     case measure => simp [intOf] <;> omega
 ·simp only [if_neg h]
  have hs0 : SZ = 0 := by rw [← hSZ.out]; exact (size_no n).2 (by omega)
  subst hs0
  clear h hSZ
  go_enter Tryz.func55, Tryz.ntmps55
  go_wp2_with (
   refine wpList_app0 el8 _ rfl (.tmp 11) (.tmp 12) rfl _ _ rfl hlit A m c (u8s l) rfl hr1 hl8 hA.out (by omega) (by omega) hb1 (fun v' w' ho' hx' => ?_)
   have hs1 := hsz.out w'
   clear hlit hr1 hl8 hb1)
  refine hs1.mono ?_
  rintro e w3 ⟨rfl, hw3⟩
  replace hw3 := hw3.symm
  subst hw3
  go_wp2_with fail
  go_ret2
  exact ⟨_, rfl, by unfold Ow; rw [hl]; exact ho', ((Ext.refl w).alloc _).trans hx'⟩
end Go.Proofs.YtbpfabhlngfciaaGreatDoor.Rf
namespace Go.Proofs.YtbpfabhlngfciaaGreatDoor.Rf
open Go.ChangeShapes Go.WideShapes Go.ChangeAt Go.RowKit
open Base Pf
theorem rText_any (A : Option Addr) (m c : Nat) (l : List UInt8) (s : ByteArray) (w : World) (hr : Rb w A l) (hl : l.length = m) (hA : A = none → c = 0) (hm : m + s.size ≤ 140737488350000) :
  Calls Tryz.prog 56 #[.slice A m c, .string s] w fun e w' => ∃ v', e = .returned v' ∧ Ow w.heap.size w' v' (l ++ encT s.data.toList) ∧ Ext w w' := by
 have hss : s.data.toList.length = s.size := Array.length_toList
 have hput := rPut_any A m c l s.size w hr hl hA (by omega) (by omega)
 rw [if_pos (by omega), if_pos (by omega)] at hput
 have henc : encT s.data.toList = encN s.size ++ s.data.toList := by unfold encT; rw [hss]
 have hel : (encN s.size).length ≤ 8 := by rcases encN_length s.size with h | h; exact h; omega
 rw [henc, ← List.append_assoc]
 obtain ⟨E, hE⟩ : ∃ z, Hid (l ++ encN s.size = z) := ⟨_, Lib.hid rfl⟩
 have hEl : E.length ≤ l.length + 8 := by rw [← hE.out, List.length_append]; omega
 rw [hE.out] at hput ⊢
 obtain ⟨i, hi, hz, hs, hby⟩ := info_parts el8.info
 replace hss := Lib.hid hss
 have hw64 : IntKind.u64.wrap (s.size : Int) = (s.size : Int) := by rw [IntKind.wrap_u64]; omega
 clear henc hel
 go_enter Tryz.func56, Tryz.ntmps56
 go_wp2_with fail
 refine hput.mono ?_
 rintro e w2 ⟨v2, rfl, ho2, hg2⟩
 have hB2 := hg2.size
 obtain ⟨N2, hN2⟩ : ∃ z, Hid (E.length = z) := ⟨_, rfl⟩
 have ho2' : w2.ownsRow w.heap.size 5 1 v2 N2 (u8s E) := by rw [← hN2.out]; exact ho2
 have hN2b : N2 ≤ l.length + 8 := by rw [← hN2.out]; exact hEl
 obtain ⟨A2, cap2, rfl, jj1, jj2, jj3, jj4⟩ := Rd.of_own ho2'
 clear jj1 jj2 jj3 jj4 hput ho2 hEl
 go_wp2_with (
  refine Lib.wpList_append_own_string _ rfl (.tmp 15) (.tmp 16) 50 9 rfl w.heap.size 5 i el8.under Tryz.underlying9 hi hz hs hby (.slice A2 N2 cap2) N2 (u8s E) rfl ho2' s rfl (by unfold maxLen; omega) (by omega) hB2 (fun V3 w3 ho3 hg3 hv3 => ?_))
 go_ret
 refine ⟨V3, rfl, ?_, Below.trans hg2 (grw hB2 ho2' (Ext.refl _) hg3)⟩
 rw [str_u8s, ← u8s_append] at ho3
 unfold Ow
 rw [List.length_append, hss.out, hN2.out]
 exact ho3
end Go.Proofs.YtbpfabhlngfciaaGreatDoor.Rf
namespace Go.Proofs.YtbpfabhlngfciaaGreatDoor.Pf
open Go.ChangeShapes Go.WideShapes Go.ChangeAt Go.RowKit
open Base
def encB (l : List ByteArray) : List UInt8 := l.flatMap fun s => encT s.data.toList
def encS (l : List ByteArray) : List UInt8 := encN l.length ++ encB l
theorem encT_len (s : ByteArray) (h : s.size ≤ 3000) : (encT s.data.toList).length ≤ 8 + s.size := by
 unfold encT
 have h1 : s.data.toList.length = s.size := Array.length_toList
 rw [List.length_append, h1]
 rcases encN_length s.size with h | h <;> omega
theorem encB_snoc (l : List ByteArray) (s : ByteArray) : encB (l ++ [s]) = encB l ++ encT s.data.toList := by simp [encB]
theorem encB_take (l : List ByteArray) (j : Nat) (s : ByteArray) (h : l[j]? = some s) : encB (l.take (j + 1)) = encB (l.take j) ++ encT s.data.toList := by
 rw [List.take_add_one, h]
 exact encB_snoc _ _
theorem encB_app (E : List UInt8) (l : List ByteArray) (j : Nat) (s : ByteArray) (h : l[j]? = some s) : E ++ encB (l.take (j + 1)) = (E ++ encB (l.take j)) ++ encT s.data.toList := by rw [encB_take l j s h, List.append_assoc]
theorem encB_len : ∀ (l : List ByteArray), (∀ s ∈ l, s.size ≤ 3000) → (encB l).length ≤ 3008 * l.length
 | [], _ => by simp [encB]
 | s :: l, h => by
  have h1 := encB_len l (fun x hx => h x (by simp [hx]))
  have h2 := encT_len s (h s (by simp))
  have h3 := h s (by simp)
  have e : encB (s :: l) = encT s.data.toList ++ encB l := by simp [encB]
  rw [e, List.length_append, List.length_cons]
  omega
theorem PutTexts_any (A : Option Addr) (n c : Nat) (l : List ByteArray) (w : World) (hr : Rd w A (txs l)) (hl : l.length = n) (hn : n ≤ 3000) (hs : ∀ s ∈ l, s.size ≤ 3000) :
  Calls Tryz.prog 54 #[.slice none 0 0, .slice A n c] w fun e w' => ∃ v, e = .returned v ∧ Ow w.heap.size w' v (encS l) ∧ Ext w w' := by
 have hcl := clone_any none 0 0 [] w (Rd.nil _ _) rfl (fun _ => rfl) (by omega)
 have hcs := fun W => class_any n (by omega) W
 obtain ⟨K, hK⟩ : ∃ z, Hid (cls n = z) := ⟨_, rfl⟩
 have hput := fun v W ho hB => put_any w.heap.size v [] n W ho hB (by omega) (by simp)
 simp only [hK.out, List.nil_append] at hcs hput
 obtain ⟨E, hE⟩ : ∃ z, Hid (encN n = z) := ⟨_, Lib.hid rfl⟩
 have hEl : E.length ≤ 8 := by rw [← hE.out]; rcases encN_length n with h | h; exact h; omega
 simp only [hE.out] at hput
 have hfin : encS l = E ++ encB l := by unfold encS; rw [hl, hE.out]
 rw [hfin]
 have htx := fun v W T s ho hB hm => text_any w.heap.size v T s W ho hB hm
 have hat : ∀ (j : Nat), j < n → ∃ s, l[j]? = some s ∧ s.size ≤ 3000 := fun j hj => ⟨l[j]'(by omega), List.getElem?_eq_getElem _, hs _ (List.getElem_mem _)⟩
 have hcell : ∀ (j : Nat) (s : ByteArray), l[j]? = some s → ∃ b o, A = some ⟨b, o, none⟩ ∧ ∀ W, Ext w W → W.cell? ⟨b, o + j, none⟩ = some (.string s) := fun j s hj => by
  have hlt := (List.getElem?_eq_some_iff.1 hj).1
  obtain ⟨b, o, e, hc⟩ := hr (by intro h; have := congrArg List.length h; simp [txs] at this; subst this; simp at hlt)
  exact ⟨b, o, e, fun W hW => hW.cell (hc j _ (by unfold txs; rw [List.getElem?_map, hj]; rfl))⟩
 have hlen : ∀ j, j ≤ n → (E ++ encB (l.take j)).length ≤ 10000000 := fun j hj => by
  have := encB_len (l.take j) (fun s h => hs s (List.mem_of_mem_take h))
  rw [List.length_take] at this
  rw [List.length_append]
  have h2 : min j l.length ≤ 3000 := by omega
  have h3 : 3008 * min j l.length ≤ 3008 * 3000 := Nat.mul_le_mul_left _ h2
  omega
 replace hput := Lib.hid hput
 replace hcs := Lib.hid hcs
 replace htx := Lib.hid htx
 replace hat := Lib.hid hat
 replace hcell := Lib.hid hcell
 replace hlen := Lib.hid hlen
 clear hr hs hfin
 go_enter Tryz.func54, Tryz.ntmps54
 go_wp2_with fail
 refine hcl.mono ?_
 rintro e w1 ⟨v1, rfl, ho1, hx1⟩
 have hcs1 := hcs.out w1
 have hput1 := hput.out v1 w1 ho1 hx1.size
 clear hcl
 go_wp2_with fail
 refine hcs1.mono ?_
 rintro e w2 ⟨rfl, hw2⟩
 subst hw2
 clear hcs1
 go_wp2_with fail
 refine hput1.mono ?_
 rintro e w3 ⟨v3, rfl, ho3, hg3⟩
 have hx3 : Ext w w3 := Below.trans hx1 hg3
 clear hput1 ho1 hg3
 go_wp2_with fail
 go_loopw [0, 19] (fun v0 v19 wr => ∃ j : Nat, j ≤ n ∧ v19 = .int .i64 (j : Int) ∧ Ow w.heap.size wr v0 (E ++ encB (l.take j)) ∧ Ext w wr) (fun _ v19 _ => n - (intOf v19).toNat)
 case atStart => exact ⟨0, by omega, rfl, by simpa [encB] using ho3, hx3⟩
 case round =>
  obtain ⟨j, hj, rfl, ho, hx⟩ := hrel
  by_cases hjn : j < n
  ·obtain ⟨s, hsj, hsz⟩ := hat.out j hjn
   obtain ⟨b, o, rfl, hc⟩ := hcell.out j s hsj
   have hcj := hc wr hx
   have ht := htx.out _ wr _ s ho hx.size (by have := hlen.out j (by omega); omega)
   rw [← encB_app E l j s hsj] at ht
   have hjn' : (j : Int) < (n : Int) := by omega
   clear hsj hcell hat hlen
   go_wp2_with fail
   refine ht.mono ?_
   rintro e w4 ⟨v4, rfl, ho4, hg4⟩
   have hx4 : Ext w w4 := Below.trans hx hg4
   clear ht
   go_wp2_with fail
   go_roundw
   case rel => exact ⟨j + 1, by omega, by go_num, ho4, hx4⟩
   case measure => simp [intOf] <;> omega
  ·obtain rfl : j = n := by omega
   rw [List.take_of_length_le (by omega)] at ho
   clear hcell hat hlen hcs hput htx
   go_wp2_with fail
   first | exact ⟨_, rfl, ho, hx⟩ | (go_ret; exact ⟨_, rfl, ho, hx⟩)
end Go.Proofs.YtbpfabhlngfciaaGreatDoor.Pf
namespace Go.Proofs.YtbpfabhlngfciaaGreatDoor.ShaW
open Go.ChangeShapes Go.WideShapes Go.ChangeAt Go.RowKit
open ShaP Base Piece
set_option maxRecDepth 1000000 in
theorem lay315 {v0 v1 v2 v3 v4 v5 v6 v7 v8 v9 v10 v11 v12 v13 v14 v15 v16 v17 v18 v19 v20 v21 : Value} {a : Act} (h : Piece.Fr 315 [v0, v1, v2, v3, v4, v5, v6, v7, v8, v9, v10, v11, v12, v13, v14, v15, v16, v17, v18, v19, v20, v21] a) : ∃ u : Nat → Value, a = ⟨(v0 :: v1 :: v2 :: v3 :: v4 :: v5 :: v6 :: v7 :: v8 :: v9 :: v10 :: v11 :: v12 :: v13 :: v14 :: v15 :: v16 :: v17 :: v18 :: v19 :: v20 :: v21 :: u 22 :: u 23 :: u 24 :: u 25 :: u 26 :: u 27 :: u 28 :: u 29 :: u 30 :: u 31 :: u 32 :: u 33 :: u 34 :: u 35 :: u 36 :: u 37 :: u 38 :: u 39 :: u 40 :: u 41 :: u 42 :: u 43 :: u 44 :: u 45 :: u 46 :: u 47 :: u 48 :: u 49 :: u 50 :: u 51 :: u 52 :: u 53 :: u 54 :: u 55 :: u 56 :: u 57 :: u 58 :: u 59 :: u 60 :: u 61 :: u 62 :: u 63 :: u 64 :: u 65 :: u 66 :: u 67 :: u 68 :: u 69 :: u 70 :: u 71 :: u 72 :: u 73 :: u 74 :: u 75 :: u 76 :: u 77 :: u 78 :: u 79 :: u 80 :: u 81 :: u 82 :: u 83 :: u 84 :: u 85 :: u 86 :: u 87 :: u 88 :: u 89 :: u 90 :: u 91 :: u 92 :: u 93 :: u 94 :: u 95 :: u 96 :: u 97 :: u 98 :: u 99 :: u 100 :: u 101 :: u 102 :: u 103 :: u 104 :: u 105 :: u 106 :: u 107 :: u 108 :: u 109 :: u 110 :: u 111 :: u 112 :: u 113 :: u 114 :: u 115 :: u 116 :: u 117 :: u 118 :: u 119 :: u 120 :: u 121 :: u 122 :: u 123 :: u 124 :: u 125 :: u 126 :: u 127 :: u 128 :: u 129 :: u 130 :: u 131 :: u 132 :: u 133 :: u 134 :: u 135 :: u 136 :: u 137 :: u 138 :: u 139 :: u 140 :: u 141 :: u 142 :: u 143 :: u 144 :: u 145 :: u 146 :: u 147 :: u 148 :: u 149 :: u 150 :: u 151 :: u 152 :: u 153 :: u 154 :: u 155 :: u 156 :: u 157 :: u 158 :: u 159 :: u 160 :: u 161 :: u 162 :: u 163 :: u 164 :: u 165 :: u 166 :: u 167 :: u 168 :: u 169 :: u 170 :: u 171 :: u 172 :: u 173 :: u 174 :: u 175 :: u 176 :: u 177 :: u 178 :: u 179 :: u 180 :: u 181 :: u 182 :: u 183 :: u 184 :: u 185 :: u 186 :: u 187 :: u 188 :: u 189 :: u 190 :: u 191 :: u 192 :: u 193 :: u 194 :: u 195 :: u 196 :: u 197 :: u 198 :: u 199 :: u 200 :: u 201 :: u 202 :: u 203 :: u 204 :: u 205 :: u 206 :: u 207 :: u 208 :: u 209 :: u 210 :: u 211 :: u 212 :: u 213 :: u 214 :: u 215 :: u 216 :: u 217 :: u 218 :: u 219 :: u 220 :: u 221 :: u 222 :: u 223 :: u 224 :: u 225 :: u 226 :: u 227 :: u 228 :: u 229 :: u 230 :: u 231 :: u 232 :: u 233 :: u 234 :: u 235 :: u 236 :: u 237 :: u 238 :: u 239 :: u 240 :: u 241 :: u 242 :: u 243 :: u 244 :: u 245 :: u 246 :: u 247 :: u 248 :: u 249 :: u 250 :: u 251 :: u 252 :: u 253 :: u 254 :: u 255 :: u 256 :: u 257 :: u 258 :: u 259 :: u 260 :: u 261 :: u 262 :: u 263 :: u 264 :: u 265 :: u 266 :: u 267 :: u 268 :: u 269 :: u 270 :: u 271 :: u 272 :: u 273 :: u 274 :: u 275 :: u 276 :: u 277 :: u 278 :: u 279 :: u 280 :: u 281 :: u 282 :: u 283 :: u 284 :: u 285 :: u 286 :: u 287 :: u 288 :: u 289 :: u 290 :: u 291 :: u 292 :: u 293 :: u 294 :: u 295 :: u 296 :: u 297 :: u 298 :: u 299 :: u 300 :: u 301 :: u 302 :: u 303 :: u 304 :: u 305 :: u 306 :: u 307 :: u 308 :: u 309 :: u 310 :: u 311 :: u 312 :: u 313 :: u 314 :: []).toArray, []⟩ := by
 obtain ⟨u, hu⟩ := h.spread
 refine ⟨u, hu.trans ?_⟩
 kernel_rfl
noncomputable def refBody (n : Nat) : Code := loopBody n Tryz.f39.body
theorem el_u32 : El Tryz.prog 99 102 (.int .u32 0) 1 4 := ⟨by kernel_rfl, by kernel_rfl, rfl, by omega⟩
theorem words_any (w : World) : Calls Tryz.prog 65 #[] w fun e w' => e = .returned (.slice (some ⟨w.heap.size, 0, none⟩) 8 8) ∧ Blk w' w.heap.size (us first).toArray 102 ∧ Ext w w' := by
 have hb : Blk (w.alloc (.cells (us first).toArray 102)) w.heap.size (us first).toArray 102 := Blk.new _ _ _
 have hx := (Ext.refl w).alloc (.cells (us first).toArray 102)
 go_enter Tryz.func65, Tryz.ntmps65
 go_wp2_with fail
 go_ret
 exact ⟨rfl, hb, hx⟩
theorem roots_any (w : World) : Calls Tryz.prog 66 #[] w fun e w' => e = .returned (.slice (some ⟨w.heap.size, 0, none⟩) 64 64) ∧ Rd w' (some ⟨w.heap.size, 0, none⟩) (us roots) ∧ Ext w w' := by
 have hb : Rd (w.alloc (.cells (us roots).toArray 102)) (some ⟨w.heap.size, 0, none⟩) (us roots) := Rd.of_block _ _ _ rfl
 have hx := (Ext.refl w).alloc (.cells (us roots).toArray 102)
 go_enter Tryz.func66, Tryz.ntmps66
 go_wp2_with fail
 go_ret
 exact ⟨rfl, hb, hx⟩
theorem at8_take (L : List UInt8) (i : Nat) (h : i < L.length) : L[i] = at8 L i := by simp [at8, List.getD, List.getElem?_eq_getElem h]
theorem be_sum (a b c d : UInt8) : (a.toNat : Int) * 16777216 + (b.toNat : Int) * 65536 + (c.toNat : Int) * 256 + (d.toNat : Int) = U (be a b c d) := by
 have ha := a.toNat_lt; have hb := b.toNat_lt; have hc := c.toNat_lt; have hd := d.toNat_lt
 unfold U be
 rw [BitVec.toNat_ofNat, Nat.mod_eq_of_lt (by omega)]
 omega
theorem be_wrap (a b c d : UInt8) : IntKind.u32.wrap (IntKind.u32.wrap (IntKind.u32.wrap (IntKind.u32.wrap (IntKind.u32.wrap (a.toNat : Int) * 16777216) + IntKind.u32.wrap (IntKind.u32.wrap (b.toNat : Int) * 65536)) + IntKind.u32.wrap (IntKind.u32.wrap (c.toNat : Int) * 256)) + IntKind.u32.wrap (d.toNat : Int)) = U (be a b c d) := by
 rw [← be_sum]
 have ha := a.toNat_lt; have hb := b.toNat_lt; have hc := c.toNat_lt; have hd := d.toNat_lt
 simp only [IntKind.wrap_u32]
 omega
theorem cutA_some (b off c l : Nat) (h : l < c) : cutA (some ⟨b, off, none⟩) c l = some ⟨b, off + l, none⟩ := by
 unfold cutA
 rw [if_neg (by omega), Option.map_some]
 congr 1
 unfold Addr.add; split <;> simp_all
set_option maxRecDepth 1000000 in
set_option maxHeartbeats 4000000 in
theorem loop0 {Q : Exit → Act → World → Prop} (v0 v1 v2 v3 v4 v6 v7 v8 v9 v10 v11 v12 v13 v14 v15 v16 v17 v18 v19 v20 v21 : Value) (a : Act) (wb wa : World) (A1 : Option Addr) (c1 nb : Nat) (T : List UInt8)
  (hnb : nb ≤ 40000) (hT : T.length = nb + 1)
  (hF : Fr 315 [v0, v1, v2, v3, v4, .slice A1 (nb + 1) c1, v6, v7, v8, v9, v10, v11, v12, v13, v14, v15, v16, v17, v18, v19, v20, v21] a) (hx : Ext wb wa) (ho : OwnS wa (.slice A1 (nb + 1) c1) (u8s T)) (hb : ∀ k, (Value.slice A1 (nb + 1) c1).ownBlock = some k → wb.heap.size ≤ k)
  (hQ : ∀ a' w' A1 c1, Fr 315 [v0, v1, v2, v3, v4, .slice A1 (nb + 1 + noughts nb) c1, v6, v7, v8, v9, v10, v11, v12, v13, v14, v15, v16, v17, v18, v19, v20, v21] a' → OwnS w' (.slice A1 (nb + 1 + noughts nb) c1) (u8s (T ++ List.replicate (noughts nb) 0)) → (∀ k, (Value.slice A1 (nb + 1 + noughts nb) c1).ownBlock = some k → wb.heap.size ≤ k) → Ext wb w' → Q (.exit 0) a' w') :
  (Code.loop (refBody 0)).wp Tryz.prog Q a wa := by
 obtain ⟨N, hN⟩ : ∃ N, Held (noughts nb = N) := ⟨_, ⟨rfl⟩⟩
 have hN2 : N = (119 - nb % 64) % 64 := by rw [← hN.out, noughts]
 rw [hN.out] at hQ
 refine wp_loop (fun a wv => ∃ (k : Nat) (A1 : Option Addr) (c1 : Nat), k ≤ N ∧ Fr 315 [v0, v1, v2, v3, v4, .slice A1 (nb + 1 + k) c1, v6, v7, v8, v9, v10, v11, v12, v13, v14, v15, v16, v17, v18, v19, v20, v21] a ∧ OwnS wv (.slice A1 (nb + 1 + k) c1) (u8s (T ++ List.replicate k 0)) ∧ (∀ j, (Value.slice A1 (nb + 1 + k) c1).ownBlock = some j → wb.heap.size ≤ j) ∧ Ext wb wv) (fun a _ => 50000 - lenOf (a.tmps.getD 5 undef)) ⟨0, A1, c1, by omega, hF, by simpa using ho, hb, hx⟩ ?_
 clear hF ho hb hx a wa c1 A1
 rintro a w ⟨k, A1, c1, hk, hF, ho, hb, hx⟩
 obtain ⟨u, rfl⟩ := lay315 hF
 clear hF
 conv => arg 2; whnf
 obtain ⟨n, hn⟩ : ∃ n, Held (nb + 1 + k = n) := ⟨_, ⟨rfl⟩⟩
 rw [hn.out] at ho hb ⊢
 have hn5 : n ≤ 40200 := by have := hn.out; omega
 by_cases hc : n % 64 = 56
 ·have hci : (n : Int) % 64 = 56 := by omega
  obtain rfl : k = N := by have := hn.out; omega
  rw [hn.out] at hQ
  go_wp2_with fail
  exact hQ _ _ A1 c1 ⟨_, rfl, rfl⟩ ho hb hx
 ·clear hQ
  have hci : ¬ (n : Int) % 64 = 56 := by omega
  have hkN : k < N := by have := hn.out; omega
  obtain ⟨T1, hT1⟩ : ∃ T1, Held (T ++ List.replicate k 0 = T1) := ⟨_, ⟨rfl⟩⟩
  have hT1n : T1.length = n := by rw [← hT1.out, List.length_append, List.length_replicate, hT, hn.out]
  have hT2 : T ++ List.replicate (k + 1) 0 = T1 ++ [0] := by rw [List.replicate_succ', ← List.append_assoc, hT1.out]
  rw [hT1.out] at ho
  clear hT1
  have hsx := hx.size
  go_wp2_with (
   refine wpList_oapp el_u8 _ rfl (.tmp 33) (.tmp 34) rfl (.slice A1 n c1) (u8s T1) rfl (ho.ext ((Ext.refl w).alloc _)) (u8s_one _) (some ⟨w.heap.size, 0, none⟩) 1 1 (u8s [0]) rfl (Rd.of_block w 5 (0, 0) rfl) rfl (fun h => by cases h) (u8s_one _) (by rw [u8s_length]; omega) (by omega) (fun V1 w2 ho1 hgr1 hv1 => ?_)
   have hx1 : Ext wb w2 := (hx.alloc _).then_grown hgr1 hb
   have hb1 := own_ge hv1 hb (by simp; omega)
   clear hgr1 hv1
   obtain ⟨A2, c2', rfl, _⟩ := ho1.rd
   rw [← u8s_append, ← hT2, show (u8s (T ++ List.replicate (k + 1) 0)).length = nb + 1 + (k + 1) by rw [u8s_length, List.length_append, List.length_replicate, hT]] at ho1
   rw [← u8s_append, show (u8s (T1 ++ [0])).length = nb + 1 + (k + 1) by rw [u8s_length, List.length_append, hT1n, ← hn.out]; rfl] at hb1 ⊢)
  refine ⟨⟨k + 1, A2, c2', by omega, ⟨_, rfl, rfl⟩, ho1, hb1, hx1⟩, ?_⟩
  have := hn.out
  simp [lenOf]
  omega
set_option maxRecDepth 1000000 in
set_option maxHeartbeats 4000000 in
theorem loop2 {Q : Exit → Act → World → Prop} (v1 v2 v3 v4 v7 v8 v9 v10 v11 v12 v13 v14 v15 v16 v17 v18 v19 v20 v21 : Value) (a : Act) (wb wa : World) (A0 A1 : Option Addr) (c0 c1 nb n : Nat) (T : List UInt8)
  (hnb : nb ≤ 40000) (hT : T.length = n) (hn5 : n ≤ 40200)
  (hF : Fr 315 [.slice A0 nb c0, v1, v2, v3, v4, .slice A1 n c1, .int .i64 7, v7, v8, v9, v10, v11, v12, v13, v14, v15, v16, v17, v18, v19, v20, v21] a) (hx : Ext wb wa) (ho : OwnS wa (.slice A1 n c1) (u8s T)) (hb : ∀ k, (Value.slice A1 n c1).ownBlock = some k → wb.heap.size ≤ k)
  (hQ : ∀ a' w' A1 c1 x6, Fr 315 [.slice A0 nb c0, v1, v2, v3, v4, .slice A1 (n + 8) c1, x6, v7, v8, v9, v10, v11, v12, v13, v14, v15, v16, v17, v18, v19, v20, v21] a' → OwnS w' (.slice A1 (n + 8) c1) (u8s (T ++ be8 (nb * 8))) → (∀ k, (Value.slice A1 (n + 8) c1).ownBlock = some k → wb.heap.size ≤ k) → Ext wb w' → Q (.exit 2) a' w') :
  (Code.loop (refBody 2)).wp Tryz.prog Q a wa := by
 refine wp_loop (fun a wv => ∃ (j : Nat) (A1 : Option Addr) (c1 : Nat), j ≤ 8 ∧ Fr 315 [.slice A0 nb c0, v1, v2, v3, v4, .slice A1 (n + j) c1, .int .i64 (7 - (j : Int)), v7, v8, v9, v10, v11, v12, v13, v14, v15, v16, v17, v18, v19, v20, v21] a ∧ OwnS wv (.slice A1 (n + j) c1) (u8s (T ++ (be8 (nb * 8)).take j)) ∧ (∀ k, (Value.slice A1 (n + j) c1).ownBlock = some k → wb.heap.size ≤ k) ∧ Ext wb wv) (fun a _ => (intOf (a.tmps.getD 6 undef) + 1).toNat) ⟨0, A1, c1, by omega, by simpa using hF, by simpa using ho, hb, hx⟩ ?_
 clear hF ho hb hx a wa c1 A1
 rintro a w ⟨j, A1, c1, hj, hF, ho, hb, hx⟩
 obtain ⟨u, rfl⟩ := lay315 hF
 clear hF
 conv => arg 2; whnf
 by_cases hj8 : j < 8
 ·clear hQ
  obtain ⟨S, hSd⟩ : ∃ S : Nat, Held ((8 : Int) * (7 - (j : Int)) = (S : Int)) := ⟨56 - 8 * j, ⟨by omega⟩⟩
  obtain ⟨z, hz⟩ : ∃ z : Int, Held (7 - (j : Int) = z) := ⟨_, ⟨rfl⟩⟩
  have hSj : S + 8 * j = 56 := by have := hSd.out; omega
  have hz0 : 0 ≤ z := by have := hz.out; omega
  have hz7 : z ≤ 7 := by have := hz.out; omega
  have hzS : IntKind.i64.wrap (8 * z) = (S : Int) := by have := hSd.out; have := hz.out; rw [IntKind.wrap_i64]; omega
  have hzS' : wrap64 (8 * z) = (S : Int) := by have := hSd.out; have := hz.out; unfold wrap64; omega
  have hzS2 : 8 * z = (S : Int) := by have := hSd.out; have := hz.out; omega
  obtain ⟨bb, hbb⟩ : ∃ x, Held (UInt8.ofNat (nb * 8 / 2 ^ S) = x) := ⟨_, ⟨rfl⟩⟩
  have hbyte : (nb : Int) * 8 / 2 ^ S % 256 = (bb.toNat : Int) := by
   have h := byte_at nb j hj8 S hSj
   rw [Nat.mod_eq_of_lt (by omega), IntKind.wrap_u64, Int.emod_eq_of_lt (by omega) (by omega), IntKind.wrap_u8] at h
   rw [h, hbb.out]
  have hT2 : T ++ (be8 (nb * 8)).take (j + 1) = T ++ (be8 (nb * 8)).take j ++ [bb] := by rw [be8_take _ j hj8 S hSj, List.append_assoc, hbb.out]
  obtain ⟨n2, hn2⟩ : ∃ x, Held (n + j = x) := ⟨_, ⟨rfl⟩⟩
  obtain ⟨T1, hT1⟩ : ∃ x, Held (T ++ (be8 (nb * 8)).take j = x) := ⟨_, ⟨rfl⟩⟩
  have hT1n : T1.length = n2 := by rw [← hT1.out, List.length_append, List.length_take, hT, ← hn2.out]; simp [be8]; omega
  have hT2n : (T ++ (be8 (nb * 8)).take (j + 1)).length = n + (j + 1) := by rw [List.length_append, List.length_take, hT]; simp [be8]; omega
  rw [hT1.out] at ho hT2
  rw [hn2.out] at ho hb
  have hn2s : n2 ≤ 40300 := by have := hn2.out; omega
  have hzj : Held (z - 1 = 7 - ((j + 1 : Nat) : Int)) := ⟨by have := hz.out; omega⟩
  have hsx := hx.size
  rw [hn2.out, hz.out]
  clear hT1 hbb hSd
  go_wp2_with (
   refine wpList_oapp el_u8 _ rfl (.tmp 40) (.tmp 50) rfl (.slice A1 n2 c1) (u8s T1) rfl (ho.ext ((Ext.refl w).alloc _)) (u8s_one _) (some ⟨w.heap.size, 0, none⟩) 1 1 (u8s [bb]) rfl (Rd.of_block w 5 (0, 0) rfl) rfl (fun h => by cases h) (u8s_one _) (by rw [u8s_length]; omega) (by omega) (fun V1 w2 ho1 hgr1 hv1 => ?_)
   have hx1 : Ext wb w2 := (hx.alloc _).then_grown hgr1 hb
   have hb1 := own_ge hv1 hb (by simp; omega)
   clear hgr1 hv1
   obtain ⟨A2, c2', rfl, _⟩ := ho1.rd
   rw [← u8s_append, ← hT2, show (u8s (T ++ (be8 (nb * 8)).take (j + 1))).length = n + (j + 1) by rw [u8s_length, hT2n]] at ho1
   rw [← u8s_append, ← hT2, show (u8s (T ++ (be8 (nb * 8)).take (j + 1))).length = n + (j + 1) by rw [u8s_length, hT2n]] at hb1 ⊢)
  rw [hzj.out]
  refine ⟨⟨j + 1, A2, c2', by omega, ⟨_, rfl, rfl⟩, ho1, hb1, hx1⟩, ?_⟩
  have := hz.out
  simp [intOf]
  omega
 ·obtain rfl : j = 8 := by omega
  clear hj8
  go_wp2_with fail
  exact hQ _ _ A1 c1 _ ⟨_, rfl, rfl⟩ ho hb hx
set_option maxRecDepth 1000000 in
set_option maxHeartbeats 4000000 in
theorem loop14 {Q : Exit → Act → World → Prop} (v0 v1 v2 v4 v5 v6 v7 v8 v9 v10 v11 v12 v13 v14 v15 v16 v17 v18 v19 : Value) (a : Act) (wb wa : World) (G O : Nat) (s : ShaP.St)
  (hF : Fr 315 [v0, v1, v2, .slice (some ⟨G, 0, none⟩) 8 8, v4, v5, v6, v7, v8, v9, v10, v11, v12, v13, v14, v15, v16, v17, v18, v19, .pointer (some ⟨O, 0, none⟩), .int .i64 0] a) (hx : Ext wb wa) (hG : Blk wa G (us s.list).toArray 102) (hO : Blk wa O (otab s 0) 23) (hGO : G ≠ O) (hbO : wb.heap.size ≤ O)
  (hQ : ∀ a' w', Fr 315 [v0, v1, v2, .slice (some ⟨G, 0, none⟩) 8 8, v4, v5, v6, v7, v8, v9, v10, v11, v12, v13, v14, v15, v16, v17, v18, v19, .pointer (some ⟨O, 0, none⟩), .int .i64 32] a' → Blk w' O (otab s 32) 23 → Ext wb w' → Q (.exit 14) a' w') :
  (Code.loop (refBody 14)).wp Tryz.prog Q a wa := by
 refine wp_loop (fun a wv => ∃ i : Nat, i ≤ 32 ∧ Fr 315 [v0, v1, v2, .slice (some ⟨G, 0, none⟩) 8 8, v4, v5, v6, v7, v8, v9, v10, v11, v12, v13, v14, v15, v16, v17, v18, v19, .pointer (some ⟨O, 0, none⟩), .int .i64 i] a ∧ Blk wv G (us s.list).toArray 102 ∧ Blk wv O (otab s i) 23 ∧ Ext wb wv) (fun a _ => (32 - intOf (a.tmps.getD 21 undef)).toNat) ⟨0, by omega, hF, hG, hO, hx⟩ ?_
 clear hF hx hG hO a wa
 rintro a w ⟨i, hi, hF, hG, hO, hx⟩
 obtain ⟨u, rfl⟩ := lay315 hF
 clear hF
 conv => arg 2; whnf
 by_cases hi32 : i < 32
 ·clear hQ
  obtain ⟨q, hq⟩ : ∃ q : Nat, Held (i / 4 = q) := ⟨_, ⟨rfl⟩⟩
  obtain ⟨r, hr⟩ : ∃ r : Nat, Held (i % 4 = r) := ⟨_, ⟨rfl⟩⟩
  have hq' : (i : Int) / 4 = (q : Int) := by have := hq.out; omega
  have hr' : (i : Int) % 4 = (r : Int) := by have := hr.out; omega
  have hq8 : (q : Int) < 8 := by have := hq.out; omega
  have hi' : (i : Int) < 32 := by omega
  have e3 : w.cell? ⟨G, q, none⟩ = some (.int .u32 (U (at32 s.list q))) := by rw [hG.cell q, List.getElem?_toArray]; exact us_at _ _ (by show q < 8; omega)
  obtain ⟨S, hS⟩ : ∃ S : Nat, Held (24 - 8 * (r : Int) = (S : Int)) := ⟨24 - 8 * r, ⟨by have := hr.out; omega⟩⟩
  have hS' : (24 : Int) - 8 * (r : Int) = (S : Int) := hS.out
  have hS0 : ¬ (S : Int) < 0 := by omega
  have hS32 : S + 8 * r = 24 := by omega
  have eO : w.cell? ⟨O, i, none⟩ = some ((otab s i)[i]'(by rw [otab_size s i hi]; exact hi32)) := (hO.cell i).trans (Array.getElem?_eq_getElem _)
  have fO := hO.frozen i
  have hby := out_at s i q r S hi32 hq.out hr.out hS32
  go_wp2_with fail
  have hq2 := hO.set i (.int .u8 ((at8 (out s) i).toNat : Int))
  rw [otab_set s i hi32] at hq2
  refine ⟨⟨i + 1, by omega, ⟨_, rfl, rfl⟩, hG.far (by show G ≠ O; exact hGO) _, hq2, hx.setCell (by show _ ≤ O; omega) _⟩, ?_⟩
  simp [intOf]
  omega
 ·obtain rfl : i = 32 := by omega
  clear hi32
  go_wp2_with fail
  exact hQ _ _ ⟨_, rfl, rfl⟩ hO hx
set_option maxRecDepth 1000000 in
set_option maxHeartbeats 4000000 in
theorem loop6 {Q : Exit → Act → World → Prop} (v0 v1 v2 v3 v4 v6 v10 v11 v12 v13 v14 v15 v16 v17 v18 v19 v20 v21 : Value) (a : Act) (w wa : World) (A A8 : Option Addr) (mm cm at_ c8 : Nat) (L ch : List UInt8)
  (hr : Rb w A L) (hl : L.length = mm) (hmc : mm ≤ cm) (hat : at_ + 64 ≤ mm) (hmm : mm ≤ 50000) (hch : ∀ i, i < 64 → at8 L (at_ + i) = at8 ch i)
  (hF : Fr 315 [v0, v1, v2, v3, v4, .slice A mm cm, v6, .int .i64 at_, .slice A8 0 c8, .int .i64 0, v10, v11, v12, v13, v14, v15, v16, v17, v18, v19, v20, v21] a) (hx : Ext w wa) (ho : OwnS wa (.slice A8 0 c8) []) (hb : ∀ k, (Value.slice A8 0 c8).ownBlock = some k → w.heap.size ≤ k)
  (hP : ∀ c a a2 w, Q (.panic c) a w → Q (.panic c) a2 w)
  (hQ : ∀ a' w' A1 c1 x10, Fr 315 [v0, v1, v2, v3, v4, .slice A mm cm, v6, .int .i64 at_, .slice A1 16 c1, .int .i64 16, x10, v11, v12, v13, v14, v15, v16, v17, v18, v19, v20, v21] a' → OwnS w' (.slice A1 16 c1) (us (sch ch 16)) → (∀ k, (Value.slice A1 16 c1).ownBlock = some k → w.heap.size ≤ k) → Ext w w' → Q (.exit 6) a' w') :
  (Code.loop (refBody 6)).wp Tryz.prog Q a wa := by
 refine wp_loop (fun a wv => ∃ (n : Nat) (A1 : Option Addr) (c1 : Nat) (x10 : Value), n ≤ 16 ∧ Fr 315 [v0, v1, v2, v3, v4, .slice A mm cm, v6, .int .i64 at_, .slice A1 n c1, .int .i64 n, x10, v11, v12, v13, v14, v15, v16, v17, v18, v19, v20, v21] a ∧ OwnS wv (.slice A1 n c1) (us (sch ch n)) ∧ (∀ k, (Value.slice A1 n c1).ownBlock = some k → w.heap.size ≤ k) ∧ Ext w wv) (fun a _ => (16 - intOf (a.tmps.getD 9 undef)).toNat) ⟨0, A8, c8, v10, by omega, hF, ho, hb, hx⟩ ?_
 obtain ⟨b, off, rfl⟩ := hr.some_ (by omega)
 clear hF ho hb hx a wa
 rintro a wr ⟨n, A1, c1, x10, hn, hF, ho, hb, hx⟩
 obtain ⟨u, rfl⟩ := lay315 hF
 clear hF
 conv => arg 2; whnf
 by_cases hlt : n < 16
 ·clear hQ
  have hlt' : (n : Int) < 16 := by omega
  have hbytes : ∀ j, j < 4 → ∀ W, Ext w W → W.cell? ⟨b, off + (at_ + 4 * n) + j, none⟩ = some (.int .u8 ((at8 ch (4 * n + j)).toNat : Int)) := fun j hj W hW => by
   obtain ⟨b', off', e, hc⟩ := (hr.ext hW).at_ (k := at_ + (4 * n + j)) (by omega)
   simp only [Option.some.injEq, Addr.mk.injEq, and_true] at e
   obtain ⟨rfl, rfl⟩ := e
   rw [show off + (at_ + 4 * n) + j = off + (at_ + (4 * n + j)) by omega, hc, at8_take, hch _ (by omega)]
  have hword : sch ch (n + 1) = sch ch n ++ [be (at8 ch (4 * n + 0)) (at8 ch (4 * n + 1)) (at8 ch (4 * n + 2)) (at8 ch (4 * n + 3))] := by rw [sch, if_pos hlt]; rfl
  have hlen : (us (sch ch n)).length = n := by rw [us_length, sch_length]
  go_wp2_with fail
  rw [show at_ + 4 * n + 4 - (at_ + 4 * n) = 4 by omega]
  generalize cm - (at_ + 4 * n) = cr
  obtain ⟨o, hod⟩ : ∃ o, Hid (off + (at_ + 4 * n) = o) := ⟨_, rfl⟩
  rw [hod.out] at hbytes ⊢
  refine Reg.startX (R := Go.RowKit.Below w.heap.size) (by kernel_rfl) ?_
  generalize hwq : World.drew _ = wq
  have hxq : Ext w wq := by rw [← hwq]; exact hx.drew
  have hoq : OwnS wq (.slice A1 n c1) (us (sch ch n)) := by rw [← hwq]; exact ho.ext ((Ext.refl wr).drew)
  clear hwq hx ho wr
  have hsq := hxq.size
  have c0 : ∀ W, Go.RowKit.Below w.heap.size wq W → W.cell? ⟨b, o, none⟩ = _ := fun W hW => hbytes 0 (by omega) W (Go.RowKit.Below.trans hxq hW)
  have c1' : ∀ W, Go.RowKit.Below w.heap.size wq W → W.cell? ⟨b, o + 1, none⟩ = _ := fun W hW => hbytes 1 (by omega) W (Go.RowKit.Below.trans hxq hW)
  have c2 : ∀ W, Go.RowKit.Below w.heap.size wq W → W.cell? ⟨b, o + 2, none⟩ = _ := fun W hW => hbytes 2 (by omega) W (Go.RowKit.Below.trans hxq hW)
  have c3 : ∀ W, Go.RowKit.Below w.heap.size wq W → W.cell? ⟨b, o + 3, none⟩ = _ := fun W hW => hbytes 3 (by omega) W (Go.RowKit.Below.trans hxq hW)
  clear hbytes hod
  generalize at8 ch (4 * n + 0) = x0 at c0 hword
  generalize at8 ch (4 * n + 1) = x1 at c1' hword
  generalize at8 ch (4 * n + 2) = x2 at c2 hword
  generalize at8 ch (4 * n + 3) = x3 at c3 hword
  have y0 := x0.toNat_lt; have y1 := x1.toNat_lt; have y2 := x2.toNat_lt; have y3 := x3.toNat_lt
  have hsum := be_wrap x0 x1 x2 x3
  generalize be x0 x1 x2 x3 = X at hword hsum
  generalize hS : sch ch n = S at hoq hlen hword
  clear hS
  have hlen' : S.length = n := by rwa [us_length] at hlen
  iterate 3 ((first | refine Reg.un (Reg.rl_below _) ?_ | refine Reg.vn (Reg.rl_below _) ?_); (try simp only [Reg.nn]))
  refine Reg.tx (Reg.rl_below _) 3 ?_; (try simp only [Reg.nn])
  refine Reg.tx (Reg.rl_below _) 4 ?_; (try simp only [Reg.nn])
  iterate 3 ((first | refine Reg.un (Reg.rl_below _) ?_ | refine Reg.vn (Reg.rl_below _) ?_); (try simp only [Reg.nn]))
  refine Reg.tx (Reg.rl_below _) 8 ?_; (try simp only [Reg.nn])
  refine Reg.tx (Reg.rl_below _) 9 ?_; (try simp only [Reg.nn])
  iterate 4 ((first | refine Reg.un (Reg.rl_below _) ?_ | refine Reg.vn (Reg.rl_below _) ?_); (try simp only [Reg.nn]))
  refine Reg.tx (Reg.rl_below _) 14 ?_; (try simp only [Reg.nn])
  refine Reg.tx (Reg.rl_below _) 15 ?_; (try simp only [Reg.nn])
  iterate 4 ((first | refine Reg.un (Reg.rl_below _) ?_ | refine Reg.vn (Reg.rl_below _) ?_); (try simp only [Reg.nn]))
  refine Reg.tx (Reg.rl_below _) 20 ?_; (try simp only [Reg.nn])
  refine Reg.tx (Reg.rl_below _) 21 ?_; (try simp only [Reg.nn])
  refine Reg.tx (Reg.rl_below _) 22 ?_; (try simp only [Reg.nn])
  refine Reg.onlyX 23 _ rfl (by kernel_rfl) (by decide) (by rfl) (fun K hK => ?_); go_simp
  refine hK.out _ _ (Go.RowKit.Below.alloc (Go.RowKit.Below.refl _ _) hsq _) ?_; clear hK K; (try simp only [Reg.nn])
  refine Reg.onlyX 24 _ rfl (by kernel_rfl) (by decide) (by rfl) (fun K hK => ?_)
  refine wp_oapp el_u32 _ (.tmp 74) (.tmp 97) rfl (.slice A1 n c1) (us S) rfl (hoq.ext ((Ext.refl wq).alloc _)) (us_one _) _ 1 1 (us [X]) rfl (Rd.of_block wq 102 (0, 0) rfl) rfl (fun h => by cases h) (us_one _) (by rw [us_length]; omega) (by omega) ?_
  intro V1 w1 ho1 hgr1 hv1
  have hbel := Go.RowKit.Below.grown (Go.RowKit.Below.refl w.heap.size _) hgr1 (by simp; omega) hb
  refine hK.out _ _ hbel ?_
  clear hK K
  have hx1 : Ext w w1 := (hxq.alloc _).then_grown hgr1 hb
  have hb1 := own_ge hv1 hb (by simp; omega)
  clear hgr1 hv1 hbel
  obtain ⟨A2, c2', rfl, _⟩ := ho1.rd
  rw [show us S ++ us [X] = us (S ++ [X]) by simp [us], us_length, List.length_append, hlen', show [X].length = 1 from rfl, ← hword] at ho1
  rw [show (us S ++ us [X]).length = n + 1 by simp [us, hlen']] at hb1 ⊢
  (try simp only [Reg.nn])
  refine Reg.tx (Reg.rl_below _) 25 ?_; (try simp only [Reg.nn])
  refine Reg.finX (by kernel_rfl) ?_
  go_wp2_with fail
  trace_state
  refine ⟨⟨n + 1, A2, c2', _, by omega, ⟨_, rfl, rfl⟩, ho1, hb1, hx1⟩, ?_⟩
  simp [intOf]
  omega
 ·obtain rfl : n = 16 := by omega
  clear hlt
  go_wp2_with fail
  exact hQ _ _ A1 c1 x10 ⟨_, rfl, rfl⟩ ho hb hx
theorem s0_form (x : BitVec 32) : bits BinOp.xor IntKind.u32 (U (tr x 7 ^^^ tr x 18)) (U x / 8) = U (s0 x) := by rw [U_s3, U_xor]; rfl
theorem s1_form (x : BitVec 32) : bits BinOp.xor IntKind.u32 (U (tr x 17 ^^^ tr x 19)) (U x / 1024) = U (s1 x) := by rw [U_s10, U_xor]; rfl
set_option maxRecDepth 1000000 in
set_option maxHeartbeats 4000000 in
theorem loop8 {Q : Exit → Act → World → Prop} (v0 v1 v2 v3 v4 v5 v6 v7 v9 v10 v12 v13 v14 v15 v16 v17 v18 v19 v20 v21 : Value) (a : Act) (wb wa : World) (A1 : Option Addr) (c1 : Nat) (ch : List UInt8)
  (hF : Fr 315 [v0, v1, v2, v3, v4, v5, v6, v7, .slice A1 16 c1, v9, v10, .int .i64 16, v12, v13, v14, v15, v16, v17, v18, v19, v20, v21] a) (hx : Ext wb wa) (ho : OwnS wa (.slice A1 16 c1) (us (sch ch 16))) (hb : ∀ k, (Value.slice A1 16 c1).ownBlock = some k → wb.heap.size ≤ k)
  (hP : ∀ c a a2 w, Q (.panic c) a w → Q (.panic c) a2 w)
  (hQ : ∀ a' w' A1 c1 x12 x13 x14, Fr 315 [v0, v1, v2, v3, v4, v5, v6, v7, .slice A1 64 c1, v9, v10, .int .i64 64, x12, x13, x14, v15, v16, v17, v18, v19, v20, v21] a' → OwnS w' (.slice A1 64 c1) (us (sch ch 64)) → (∀ k, (Value.slice A1 64 c1).ownBlock = some k → wb.heap.size ≤ k) → Ext wb w' → Q (.exit 8) a' w') :
  (Code.loop (refBody 8)).wp Tryz.prog Q a wa := by
 refine wp_loop (fun a wv => ∃ (n : Nat) (A1 : Option Addr) (c1 : Nat) (x12 x13 x14 : Value), 16 ≤ n ∧ n ≤ 64 ∧ Fr 315 [v0, v1, v2, v3, v4, v5, v6, v7, .slice A1 n c1, v9, v10, .int .i64 n, x12, x13, x14, v15, v16, v17, v18, v19, v20, v21] a ∧ OwnS wv (.slice A1 n c1) (us (sch ch n)) ∧ (∀ k, (Value.slice A1 n c1).ownBlock = some k → wb.heap.size ≤ k) ∧ Ext wb wv) (fun a _ => (64 - intOf (a.tmps.getD 11 undef)).toNat) ⟨16, A1, c1, v12, v13, v14, by omega, by omega, hF, ho, hb, hx⟩ ?_
 clear hF ho hb hx a wa c1 A1
 rintro a w ⟨n, A1, c1, x12, x13, x14, h16, hn, hF, ho, hb, hx⟩
 obtain ⟨u, rfl⟩ := lay315 hF
 clear hF
 conv => arg 2; whnf
 by_cases hlt : n < 64
 ·clear hQ
  have hlt' : (n : Int) < 64 := by omega
  have hword : sch ch (n + 1) = sch ch n ++ [nextW (sch ch n)] := by rw [sch, if_neg (by omega)]
  obtain ⟨S, hS⟩ : ∃ S, Hid (sch ch n = S) := ⟨_, rfl⟩
  rw [hS.out] at ho hword
  have hlen : S.length = n := by rw [← hS.out, sch_length]
  clear hS
  obtain ⟨A0, c0, e0, hrd, _, _, _⟩ := ho.rd
  injection e0 with e1 e2 e3
  subst e1; subst e3
  clear e2
  obtain ⟨bw, ow, rfl, _⟩ := hrd.at_ (k := 0) (by rw [us_length]; omega)
  obtain ⟨m15, hm15⟩ : ∃ m, Hid (n - 15 = m) := ⟨_, rfl⟩
  obtain ⟨m2, hm2⟩ : ∃ m, Hid (n - 2 = m) := ⟨_, rfl⟩
  obtain ⟨m16, hm16⟩ : ∃ m, Hid (n - 16 = m) := ⟨_, rfl⟩
  obtain ⟨m7, hm7⟩ : ∃ m, Hid (n - 7 = m) := ⟨_, rfl⟩
  have q15 : IntKind.i64.wrap ((n : Int) - 15) = (m15 : Int) := by rw [IntKind.wrap_i64, ← hm15.out]; omega
  have q2 : IntKind.i64.wrap ((n : Int) - 2) = (m2 : Int) := by rw [IntKind.wrap_i64, ← hm2.out]; omega
  have q16 : IntKind.i64.wrap ((n : Int) - 16) = (m16 : Int) := by rw [IntKind.wrap_i64, ← hm16.out]; omega
  have q7 : IntKind.i64.wrap ((n : Int) - 7) = (m7 : Int) := by rw [IntKind.wrap_i64, ← hm7.out]; omega
  have b15 : (m15 : Int) < n := by have := hm15.out; omega
  have b2 : (m2 : Int) < n := by have := hm2.out; omega
  have b16 : (m16 : Int) < n := by have := hm16.out; omega
  have b7 : (m7 : Int) < n := by have := hm7.out; omega
  have hcs : ∀ m, m < n → ∀ W, Ext w W → W.cell? ⟨bw, ow + m, none⟩ = some (.int .u32 (U (at32 S m))) := fun m hm W hW => by
   obtain ⟨b', off', e, _, hc⟩ := (hrd.ext hW).at_ (k := m) (by rw [us_length, hlen]; exact hm)
   simp only [Option.some.injEq, Addr.mk.injEq, and_true] at e
   obtain ⟨rfl, rfl⟩ := e
   exact hc m _ (us_at S m (by rw [hlen]; exact hm))
  have c15 := hcs m15 (by have := hm15.out; omega)
  have c2 := hcs m2 (by have := hm2.out; omega)
  have c16 := hcs m16 (by have := hm16.out; omega)
  have c7 := hcs m7 (by have := hm7.out; omega)
  clear hcs hrd
  have hnext : nextW S = at32 S m16 + s0 (at32 S m15) + at32 S m7 + s1 (at32 S m2) := by rw [nextW, hlen, hm16.out, hm15.out, hm7.out, hm2.out]
  rw [hnext] at hword
  clear hnext
  generalize at32 S m15 = X15 at c15 hword
  generalize at32 S m2 = X2 at c2 hword
  generalize at32 S m16 = X16 at c16 hword
  generalize at32 S m7 = X7 at c7 hword
  have f0 := U_xor (tr X15 7) (tr X15 18)
  have f1 := s0_form X15
  go_wp2_with fail
  refine Reg.startE (by kernel_rfl) ?_
  refine Reg.tk 0 ?_; (try simp only [Reg.nn])
  refine Reg.tk 1 ?_; (try simp only [Reg.nn])
  refine Reg.tk 2 ?_; (try simp only [Reg.nn])
  refine Reg.tk 3 ?_; (try simp only [Reg.nn])
  refine Reg.rk 4 w ?_; (try simp only [Reg.nn])
  refine Reg.tk 6 ?_; (try simp only [Reg.nn])
  refine Reg.tk 7 ?_; (try simp only [Reg.nn])
  refine Reg.tk 8 ?_; (try simp only [Reg.nn])
  refine Reg.tk 9 ?_; (try simp only [Reg.nn])
  refine Reg.rk 10 w ?_; (try simp only [Reg.nn])
  refine Reg.tk 13 ?_; (try simp only [Reg.nn])
  refine Reg.tk 14 ?_; (try simp only [Reg.nn])
  refine Reg.tk 15 ?_; (try simp only [Reg.nn])
  refine Reg.tk 16 ?_; (try simp only [Reg.nn])
  refine Reg.rk 17 w ?_; (try simp only [Reg.nn])
  refine Reg.tk 18 ?_; (try simp only [Reg.nn])
  refine Reg.onlyE 5 _ rfl (by kernel_rfl) (by decide) (by rfl) (fun W hW K hK => ?_); go_simp
  go_at_call 67
  refine (turn_7 X15 _).mono ?_
  rintro e wX ⟨rfl, rfl⟩
  refine hK.out _ _ (Ext.refl _) ?_; clear hK K; (try simp only [Reg.nn])
  refine Reg.onlyE 11 _ rfl (by kernel_rfl) (by decide) (by rfl) (fun W hW K hK => ?_); go_simp
  go_at_call 67
  refine (turn_18 X15 _).mono ?_
  rintro e wX ⟨rfl, rfl⟩
  refine hK.out _ _ (Ext.refl _) ?_; clear hK K; (try simp only [Reg.nn])
  refine Reg.tk 12 ?_; (try simp only [Reg.nn])
  refine Reg.tk 19 ?_; (try simp only [Reg.nn])
  refine Reg.tk 20 ?_; (try simp only [Reg.nn])
  refine Reg.fin (by kernel_rfl) (fun W hW => ?_)
  have hW0 : Ext w W := (by repeat (first | assumption | exact Ext.refl _ | refine Ext.trans (by assumption) ?_ | apply Ext.drew | apply Ext.drewN | apply Ext.alloc))
  generalize s0 X15 = S0 at f1 hword ⊢
  clear f0 f1 c15
  have f0 := U_xor (tr X2 17) (tr X2 19)
  have f1 := s1_form X2
  go_wp2_with fail
  refine Reg.startE (by kernel_rfl) ?_
  refine Reg.tk 0 ?_; (try simp only [Reg.nn])
  refine Reg.tk 1 ?_; (try simp only [Reg.nn])
  refine Reg.tk 2 ?_; (try simp only [Reg.nn])
  refine Reg.tk 3 ?_; (try simp only [Reg.nn])
  refine Reg.rk 4 w ?_; (try simp only [Reg.nn])
  refine Reg.tk 6 ?_; (try simp only [Reg.nn])
  refine Reg.tk 7 ?_; (try simp only [Reg.nn])
  refine Reg.tk 8 ?_; (try simp only [Reg.nn])
  refine Reg.tk 9 ?_; (try simp only [Reg.nn])
  refine Reg.rk 10 w ?_; (try simp only [Reg.nn])
  refine Reg.tk 13 ?_; (try simp only [Reg.nn])
  refine Reg.tk 14 ?_; (try simp only [Reg.nn])
  refine Reg.tk 15 ?_; (try simp only [Reg.nn])
  refine Reg.tk 16 ?_; (try simp only [Reg.nn])
  refine Reg.rk 17 w ?_; (try simp only [Reg.nn])
  refine Reg.tk 18 ?_; (try simp only [Reg.nn])
  refine Reg.onlyE 5 _ rfl (by kernel_rfl) (by decide) (by rfl) (fun W hW K hK => ?_); go_simp
  go_at_call 67
  refine (turn_17 X2 _).mono ?_
  rintro e wX ⟨rfl, rfl⟩
  refine hK.out _ _ (Ext.refl _) ?_; clear hK K; (try simp only [Reg.nn])
  refine Reg.onlyE 11 _ rfl (by kernel_rfl) (by decide) (by rfl) (fun W hW K hK => ?_); go_simp
  go_at_call 67
  refine (turn_19 X2 _).mono ?_
  rintro e wX ⟨rfl, rfl⟩
  refine hK.out _ _ (Ext.refl _) ?_; clear hK K; (try simp only [Reg.nn])
  refine Reg.tk 12 ?_; (try simp only [Reg.nn])
  refine Reg.tk 19 ?_; (try simp only [Reg.nn])
  refine Reg.tk 20 ?_; (try simp only [Reg.nn])
  refine Reg.fin (by kernel_rfl) (fun W hW => ?_)
  have hW0 : Ext w W := (by repeat (first | assumption | exact Ext.refl _ | refine Ext.trans (by assumption) ?_ | apply Ext.drew | apply Ext.drewN | apply Ext.alloc))
  generalize s1 X2 = S1 at f1 hword ⊢
  clear f0 f1 c2
  have f0 := U_add' X16 S0
  have f1 := U_add' (X16 + S0) X7
  have f2 := U_add' (X16 + S0 + X7) S1
  generalize X16 + S0 + X7 + S1 = X at f2 hword ⊢
  go_wp2_with fail
  refine Reg.startE (by kernel_rfl) ?_
  iterate 4 ((first | refine Reg.tn ?_ | refine Reg.sn ?_); (try simp only [Reg.nn]))
  refine Reg.rk 4 w ?_; (try simp only [Reg.nn])
  iterate 6 ((first | refine Reg.tn ?_ | refine Reg.sn ?_); (try simp only [Reg.nn]))
  refine Reg.rk 11 w ?_; (try simp only [Reg.nn])
  iterate 4 ((first | refine Reg.tn ?_ | refine Reg.sn ?_); (try simp only [Reg.nn]))
  refine Reg.fin (by kernel_rfl) (fun W hW => ?_)
  have hW0 : Ext w W := (by repeat (first | assumption | exact Ext.refl _ | refine Ext.trans (by assumption) ?_ | apply Ext.drew | apply Ext.drewN | apply Ext.alloc))
  clear f0 f1 f2 c16 c7
  obtain ⟨A8, hA8⟩ : ∃ A8, Hid (some (⟨bw, ow, none⟩ : Addr) = A8) := ⟨_, rfl⟩
  rw [hA8.out] at ho hb ⊢
  clear hA8
  have hoW := ho.ext hW0
  have hxW := hx.trans hW0
  clear ho hx hW0
  have hsW := hxW.size
  generalize W = w1 at hoW hxW hsW ⊢
  go_wp2_with (
   refine wpList_oapp el_u32 _ rfl (.tmp 158) (.tmp 160) rfl (.slice A8 n c1) (us S) rfl (hoW.ext ((Ext.refl w1).alloc _)) (us_one _) _ 1 1 (us [X]) rfl (Rd.of_block w1 102 (0, 0) rfl) rfl (fun h => by cases h) (us_one _) (by rw [us_length]; omega) (by omega) (fun V1 w2 ho1 hgr1 hv1 => ?_)
   have hx1 : Ext wb w2 := (hxW.alloc _).then_grown hgr1 hb
   have hb1 := own_ge hv1 hb (by simp; omega)
   clear hgr1 hv1
   obtain ⟨A2, c2', rfl, _⟩ := ho1.rd
   rw [show us S ++ us [X] = us (S ++ [X]) by simp [us], us_length, List.length_append, hlen, show [X].length = 1 from rfl, ← hword] at ho1
   rw [show (us S ++ us [X]).length = n + 1 by simp [us, hlen]] at hb1 ⊢)
  refine ⟨⟨n + 1, A2, c2', _, _, _, by omega, by omega, ⟨_, rfl, rfl⟩, ho1, hb1, hx1⟩, ?_⟩
  simp [intOf]
  omega
 ·obtain rfl : n = 64 := by omega
  clear hlt
  go_wp2_with fail
  exact hQ _ _ A1 c1 x12 x13 x14 ⟨_, rfl, rfl⟩ ho hb hx
theorem U_not2 (a : BitVec 32) : bits BinOp.xor IntKind.u32 (U a) 4294967295 = U (~~~a) := by
 have h := U_xor a (BitVec.allOnes 32)
 rw [BitVec.xor_allOnes] at h
 exact h
theorem rd_word {W : World} {b o : Nat} {L : List (BitVec 32)} (h : Rd W (some ⟨b, o, none⟩) (us L)) {i : Nat} (hi : i < L.length) : W.cell? ⟨b, o + i, none⟩ = some (.int .u32 (U (at32 L i))) := by
 obtain ⟨b', off', e, _, hc⟩ := h.at_ (k := i) (by rw [us_length]; exact hi)
 simp only [Option.some.injEq, Addr.mk.injEq, and_true] at e
 obtain ⟨rfl, rfl⟩ := e
 exact hc i _ (us_at L i hi)
theorem rd_addr {W : World} {A : Option Addr} {L : List (BitVec 32)} (h : Rd W A (us L)) (hL : 0 < L.length) : ∃ b o, A = some ⟨b, o, none⟩ := by
 obtain ⟨b, o, e, _⟩ := h.at_ (k := 0) (by rw [us_length]; exact hL)
 exact ⟨b, o, e⟩
set_option maxRecDepth 1000000 in
set_option maxHeartbeats 4000000 in
theorem loop10 {Q : Exit → Act → World → Prop} (v0 v1 v2 v3 v5 v6 v7 v9 v10 v11 v12 v13 v14 v17 v18 v19 v20 v21 : Value) (a : Act) (wb wa : World) (AK A8 AV : Option Addr) (cK c8 cV N : Nat) (s : ShaP.St) (R Ws : List (BitVec 32))
  (hN : Hid (N = 64)) (hR : Hid (roots = R)) (hRl : R.length = 64) (hWl : Ws.length = 64)
  (hF : Fr 315 [v0, v1, v2, v3, .slice AK 64 cK, v5, v6, v7, .slice A8 64 c8, v9, v10, v11, v12, v13, v14, .slice AV 8 cV, .int .i64 0, v17, v18, v19, v20, v21] a) (hx : Ext wb wa) (hK : Rd wa AK (us R)) (hW : Rd wa A8 (us Ws)) (hV : Rd wa AV (us s.list)) (hVb : ∀ p, AV = some p → wb.heap.size ≤ p.block)
  (hP : ∀ c a a2 w, Q (.panic c) a w → Q (.panic c) a2 w)
  (hQ : ∀ a' w' AV cV x17 x18, Fr 315 [v0, v1, v2, v3, .slice AK 64 cK, v5, v6, v7, .slice A8 64 c8, v9, v10, v11, v12, v13, v14, .slice AV 8 cV, .int .i64 64, x17, x18, v19, v20, v21] a' → Rd w' AV (us (rounds s Ws N).list) → (∀ p, AV = some p → wb.heap.size ≤ p.block) → Ext wb w' → Q (.exit 10) a' w') :
  (Code.loop (refBody 10)).wp Tryz.prog Q a wa := by
 obtain ⟨bk, ok, rfl⟩ := rd_addr hK (by omega)
 obtain ⟨b8, o8, rfl⟩ := rd_addr hW (by omega)
 obtain ⟨wq, hwq⟩ : ∃ wq, wq = wa := ⟨_, rfl⟩
 refine wp_loop (fun a wv => ∃ (n : Nat) (AV : Option Addr) (cV : Nat) (x17 x18 : Value), n ≤ 64 ∧ Fr 315 [v0, v1, v2, v3, .slice (some ⟨bk, ok, none⟩) 64 cK, v5, v6, v7, .slice (some ⟨b8, o8, none⟩) 64 c8, v9, v10, v11, v12, v13, v14, .slice AV 8 cV, .int .i64 n, x17, x18, v19, v20, v21] a ∧ Rd wv AV (us (rounds s Ws n).list) ∧ (∀ p, AV = some p → wb.heap.size ≤ p.block) ∧ Ext wb wv ∧ Ext wq wv) (fun a _ => (64 - intOf (a.tmps.getD 16 undef)).toNat) ⟨0, AV, cV, v17, v18, by omega, hF, hV, hVb, hx, by rw [hwq]; exact Ext.refl _⟩ ?_
 rw [← hwq] at hK hW
 clear hF hV hVb hx hwq a wa cV AV
 rintro a w ⟨n, AV, cV, x17, x18, hn, hF, hV, hVb, hx, hxq⟩
 obtain ⟨u, rfl⟩ := lay315 hF
 clear hF
 conv => arg 2; whnf
 by_cases hlt : n < 64
 ·clear hQ
  have hlt' : (n : Int) < 64 := by omega
  obtain ⟨K, hKd⟩ : ∃ K, Held (at32 roots n = K) := ⟨_, ⟨rfl⟩⟩
  obtain ⟨X, hXd⟩ : ∃ X, Held (at32 Ws n = X) := ⟨_, ⟨rfl⟩⟩
  have ck : ∀ W, Ext w W → W.cell? ⟨bk, ok + n, none⟩ = some (.int .u32 (U K)) := fun W hW2 => by
   rw [rd_word (hK.ext (hxq.trans hW2)) (by omega), ← hR.out, hKd.out]
  have cx : ∀ W, Ext w W → W.cell? ⟨b8, o8 + n, none⟩ = some (.int .u32 (U X)) := fun W hW2 => by
   rw [rd_word (hW.ext (hxq.trans hW2)) (by omega), hXd.out]
  obtain ⟨st, hst⟩ : ∃ st, Held (rounds s Ws n = st) := ⟨_, ⟨rfl⟩⟩
  have hr1 : Held (rounds s Ws (n + 1) = ShaP.round st K X) := ⟨by rw [rounds, hst.out, hKd.out, hXd.out]⟩
  rw [hst.out] at hV
  clear hst hKd hXd hK hW hR
  obtain ⟨bv, ov, rfl⟩ := rd_addr hV (by show 0 < 8; omega)
  have hvs : ∀ i, i < 8 → ∀ W, Ext w W → W.cell? ⟨bv, ov + i, none⟩ = some (.int .u32 (U (at32 st.list i))) := fun i hi W hW2 => rd_word (hV.ext hW2) hi
  have e0 : ∀ W, Ext w W → W.cell? ⟨bv, ov, none⟩ = some (.int .u32 (U st.a)) := hvs 0 (by omega)
  have e1 : ∀ W, Ext w W → W.cell? ⟨bv, ov + 1, none⟩ = some (.int .u32 (U st.b)) := hvs 1 (by omega)
  have e2 : ∀ W, Ext w W → W.cell? ⟨bv, ov + 2, none⟩ = some (.int .u32 (U st.c)) := hvs 2 (by omega)
  have e3 : ∀ W, Ext w W → W.cell? ⟨bv, ov + 3, none⟩ = some (.int .u32 (U st.d)) := hvs 3 (by omega)
  have e4 : ∀ W, Ext w W → W.cell? ⟨bv, ov + 4, none⟩ = some (.int .u32 (U st.e)) := hvs 4 (by omega)
  have e5 : ∀ W, Ext w W → W.cell? ⟨bv, ov + 5, none⟩ = some (.int .u32 (U st.f)) := hvs 5 (by omega)
  have e6 : ∀ W, Ext w W → W.cell? ⟨bv, ov + 6, none⟩ = some (.int .u32 (U st.g)) := hvs 6 (by omega)
  have e7 : ∀ W, Ext w W → W.cell? ⟨bv, ov + 7, none⟩ = some (.int .u32 (U st.h)) := hvs 7 (by omega)
  clear hvs hV hVb
  obtain ⟨va, vb, vc, vd, ve, vf, vg, vh⟩ := st
  dsimp only at e0 e1 e2 e3 e4 e5 e6 e7
  have hround : ShaP.round ⟨va, vb, vc, vd, ve, vf, vg, vh⟩ K X = ⟨ShaP.t1 ⟨va, vb, vc, vd, ve, vf, vg, vh⟩ K X + ShaP.t2 ⟨va, vb, vc, vd, ve, vf, vg, vh⟩, va, vb, vc, vd + ShaP.t1 ⟨va, vb, vc, vd, ve, vf, vg, vh⟩ K X, ve, vf, vg⟩ := rfl
  obtain ⟨T1, hT1⟩ : ∃ T, ShaP.t1 ⟨va, vb, vc, vd, ve, vf, vg, vh⟩ K X = T := ⟨_, rfl⟩
  obtain ⟨T2, hT2⟩ : ∃ T, ShaP.t2 ⟨va, vb, vc, vd, ve, vf, vg, vh⟩ = T := ⟨_, rfl⟩
  rw [hT1, hT2] at hround
  have hr1 : Held (rounds s Ws (n + 1) = ⟨T1 + T2, va, vb, vc, vd + T1, ve, vf, vg⟩) := ⟨hr1.out.trans hround⟩
  clear hround
  have g0 := U_xor (tr ve 6) (tr ve 11)
  have g1 := U_xor (tr ve 6 ^^^ tr ve 11) (tr ve 25)
  have g2 := U_add' vh (tr ve 6 ^^^ tr ve 11 ^^^ tr ve 25)
  have g3 := U_and ve vf
  have g4 := U_not2 ve
  have g5 := U_and (~~~ve) vg
  have g6 := U_xor (ve &&& vf) (~~~ve &&& vg)
  have g7 := U_add' (vh + (tr ve 6 ^^^ tr ve 11 ^^^ tr ve 25)) (ve &&& vf ^^^ ~~~ve &&& vg)
  have g8 := U_add' (vh + (tr ve 6 ^^^ tr ve 11 ^^^ tr ve 25) + (ve &&& vf ^^^ ~~~ve &&& vg)) K
  have g9 : IntKind.u32.wrap (U (vh + (tr ve 6 ^^^ tr ve 11 ^^^ tr ve 25) + (ve &&& vf ^^^ ~~~ve &&& vg) + K) + U X) = U T1 := (U_add' _ _).trans (congrArg U hT1)
  clear hT1
  go_wp2_with fail
  refine Reg.startE (by kernel_rfl) ?_
  refine Reg.tk 0 ?_; (try simp only [Reg.nn])
  refine Reg.tk 1 ?_; (try simp only [Reg.nn])
  refine Reg.rk 2 w ?_; (try simp only [Reg.nn])
  refine Reg.tk 3 ?_; (try simp only [Reg.nn])
  refine Reg.tk 4 ?_; (try simp only [Reg.nn])
  refine Reg.rk 5 w ?_; (try simp only [Reg.nn])
  refine Reg.tk 7 ?_; (try simp only [Reg.nn])
  refine Reg.tk 8 ?_; (try simp only [Reg.nn])
  refine Reg.rk 9 w ?_; (try simp only [Reg.nn])
  refine Reg.tk 12 ?_; (try simp only [Reg.nn])
  refine Reg.tk 13 ?_; (try simp only [Reg.nn])
  refine Reg.rk 14 w ?_; (try simp only [Reg.nn])
  refine Reg.tk 18 ?_; (try simp only [Reg.nn])
  refine Reg.tk 19 ?_; (try simp only [Reg.nn])
  refine Reg.rk 20 w ?_; (try simp only [Reg.nn])
  refine Reg.tk 21 ?_; (try simp only [Reg.nn])
  refine Reg.tk 22 ?_; (try simp only [Reg.nn])
  refine Reg.rk 23 w ?_; (try simp only [Reg.nn])
  refine Reg.tk 24 ?_; (try simp only [Reg.nn])
  refine Reg.tk 25 ?_; (try simp only [Reg.nn])
  refine Reg.tk 26 ?_; (try simp only [Reg.nn])
  refine Reg.rk 27 w ?_; (try simp only [Reg.nn])
  refine Reg.tk 28 ?_; (try simp only [Reg.nn])
  refine Reg.tk 29 ?_; (try simp only [Reg.nn])
  refine Reg.tk 30 ?_; (try simp only [Reg.nn])
  refine Reg.rk 31 w ?_; (try simp only [Reg.nn])
  refine Reg.tk 32 ?_; (try simp only [Reg.nn])
  refine Reg.tk 33 ?_; (try simp only [Reg.nn])
  refine Reg.tk 35 ?_; (try simp only [Reg.nn])
  refine Reg.tk 36 ?_; (try simp only [Reg.nn])
  refine Reg.tk 37 ?_; (try simp only [Reg.nn])
  refine Reg.rk 38 w ?_; (try simp only [Reg.nn])
  refine Reg.tk 40 ?_; (try simp only [Reg.nn])
  refine Reg.tk 41 ?_; (try simp only [Reg.nn])
  refine Reg.tk 42 ?_; (try simp only [Reg.nn])
  refine Reg.rk 43 w ?_; (try simp only [Reg.nn])
  refine Reg.onlyE 6 _ rfl (by kernel_rfl) (by decide) (by rfl) (fun W hW K hK => ?_); go_simp
  go_at_call 67
  refine (turn_6 ve _).mono ?_
  rintro e wX ⟨rfl, rfl⟩
  refine hK.out _ _ (Ext.refl _) ?_; clear hK K; (try simp only [Reg.nn])
  refine Reg.onlyE 10 _ rfl (by kernel_rfl) (by decide) (by rfl) (fun W hW K hK => ?_); go_simp
  go_at_call 67
  refine (turn_11 ve _).mono ?_
  rintro e wX ⟨rfl, rfl⟩
  refine hK.out _ _ (Ext.refl _) ?_; clear hK K; (try simp only [Reg.nn])
  refine Reg.tk 11 ?_; (try simp only [Reg.nn])
  refine Reg.onlyE 15 _ rfl (by kernel_rfl) (by decide) (by rfl) (fun W hW K hK => ?_); go_simp
  go_at_call 67
  refine (turn_25 ve _).mono ?_
  rintro e wX ⟨rfl, rfl⟩
  refine hK.out _ _ (Ext.refl _) ?_; clear hK K; (try simp only [Reg.nn])
  refine Reg.tk 16 ?_; (try simp only [Reg.nn])
  refine Reg.tk 17 ?_; (try simp only [Reg.nn])
  refine Reg.tk 34 ?_; (try simp only [Reg.nn])
  refine Reg.tk 39 ?_; (try simp only [Reg.nn])
  refine Reg.tk 44 ?_; (try simp only [Reg.nn])
  refine Reg.tk 45 ?_; (try simp only [Reg.nn])
  refine Reg.fin (by kernel_rfl) (fun W hW => ?_)
  have hW0 : Ext w W := (by repeat (first | assumption | exact Ext.refl _ | refine Ext.trans (by assumption) ?_ | apply Ext.drew | apply Ext.drewN | apply Ext.alloc))
  clear g0 g1 g2 g3 g4 g5 g6 g7 g8 g9 ck cx e7
  have g0 := U_xor (tr va 2) (tr va 13)
  have g1 := U_xor (tr va 2 ^^^ tr va 13) (tr va 22)
  have g2 := U_and va vb
  have g3 := U_and va vc
  have g4 := U_xor (va &&& vb) (va &&& vc)
  have g5 := U_and vb vc
  have g6 := U_xor (va &&& vb ^^^ va &&& vc) (vb &&& vc)
  have g7 : IntKind.u32.wrap (U (tr va 2 ^^^ tr va 13 ^^^ tr va 22) + U (va &&& vb ^^^ va &&& vc ^^^ vb &&& vc)) = U T2 := (U_add' _ _).trans (congrArg U hT2)
  clear hT2
  go_wp2_with fail
  refine Reg.startE (by kernel_rfl) ?_
  refine Reg.tk 0 ?_; (try simp only [Reg.nn])
  refine Reg.tk 1 ?_; (try simp only [Reg.nn])
  refine Reg.rk 2 w ?_; (try simp only [Reg.nn])
  refine Reg.tk 4 ?_; (try simp only [Reg.nn])
  refine Reg.tk 5 ?_; (try simp only [Reg.nn])
  refine Reg.rk 6 w ?_; (try simp only [Reg.nn])
  refine Reg.tk 9 ?_; (try simp only [Reg.nn])
  refine Reg.tk 10 ?_; (try simp only [Reg.nn])
  refine Reg.rk 11 w ?_; (try simp only [Reg.nn])
  refine Reg.tk 14 ?_; (try simp only [Reg.nn])
  refine Reg.tk 15 ?_; (try simp only [Reg.nn])
  refine Reg.rk 16 w ?_; (try simp only [Reg.nn])
  refine Reg.tk 17 ?_; (try simp only [Reg.nn])
  refine Reg.tk 18 ?_; (try simp only [Reg.nn])
  refine Reg.rk 19 w ?_; (try simp only [Reg.nn])
  refine Reg.tk 20 ?_; (try simp only [Reg.nn])
  refine Reg.tk 21 ?_; (try simp only [Reg.nn])
  refine Reg.tk 22 ?_; (try simp only [Reg.nn])
  refine Reg.rk 23 w ?_; (try simp only [Reg.nn])
  refine Reg.tk 24 ?_; (try simp only [Reg.nn])
  refine Reg.tk 25 ?_; (try simp only [Reg.nn])
  refine Reg.rk 26 w ?_; (try simp only [Reg.nn])
  refine Reg.tk 27 ?_; (try simp only [Reg.nn])
  refine Reg.tk 28 ?_; (try simp only [Reg.nn])
  refine Reg.tk 29 ?_; (try simp only [Reg.nn])
  refine Reg.tk 30 ?_; (try simp only [Reg.nn])
  refine Reg.rk 31 w ?_; (try simp only [Reg.nn])
  refine Reg.tk 32 ?_; (try simp only [Reg.nn])
  refine Reg.tk 33 ?_; (try simp only [Reg.nn])
  refine Reg.rk 34 w ?_; (try simp only [Reg.nn])
  refine Reg.tk 35 ?_; (try simp only [Reg.nn])
  refine Reg.tk 36 ?_; (try simp only [Reg.nn])
  refine Reg.onlyE 3 _ rfl (by kernel_rfl) (by decide) (by rfl) (fun W hW K hK => ?_); go_simp
  go_at_call 67
  refine (turn_2 va _).mono ?_
  rintro e wX ⟨rfl, rfl⟩
  refine hK.out _ _ (Ext.refl _) ?_; clear hK K; (try simp only [Reg.nn])
  refine Reg.onlyE 7 _ rfl (by kernel_rfl) (by decide) (by rfl) (fun W hW K hK => ?_); go_simp
  go_at_call 67
  refine (turn_13 va _).mono ?_
  rintro e wX ⟨rfl, rfl⟩
  refine hK.out _ _ (Ext.refl _) ?_; clear hK K; (try simp only [Reg.nn])
  refine Reg.tk 8 ?_; (try simp only [Reg.nn])
  refine Reg.onlyE 12 _ rfl (by kernel_rfl) (by decide) (by rfl) (fun W hW K hK => ?_); go_simp
  go_at_call 67
  refine (turn_22 va _).mono ?_
  rintro e wX ⟨rfl, rfl⟩
  refine hK.out _ _ (Ext.refl _) ?_; clear hK K; (try simp only [Reg.nn])
  refine Reg.tk 13 ?_; (try simp only [Reg.nn])
  refine Reg.tk 37 ?_; (try simp only [Reg.nn])
  refine Reg.tk 38 ?_; (try simp only [Reg.nn])
  refine Reg.fin (by kernel_rfl) (fun W hW => ?_)
  have hW0 : Ext w W := (by repeat (first | assumption | exact Ext.refl _ | refine Ext.trans (by assumption) ?_ | apply Ext.drew | apply Ext.drewN | apply Ext.alloc))
  clear g0 g1 g2 g3 g4 g5 g6 g7
  have g0 := U_add' T1 T2
  have g1 := U_add' vd T1
  go_wp2_with fail
  refine Reg.startE (by kernel_rfl) ?_
  iterate 5 ((first | refine Reg.tn ?_ | refine Reg.sn ?_); (try simp only [Reg.nn]))
  refine Reg.rk 5 w ?_; (try simp only [Reg.nn])
  iterate 2 ((first | refine Reg.tn ?_ | refine Reg.sn ?_); (try simp only [Reg.nn]))
  refine Reg.rk 8 w ?_; (try simp only [Reg.nn])
  iterate 2 ((first | refine Reg.tn ?_ | refine Reg.sn ?_); (try simp only [Reg.nn]))
  refine Reg.rk 11 w ?_; (try simp only [Reg.nn])
  iterate 2 ((first | refine Reg.tn ?_ | refine Reg.sn ?_); (try simp only [Reg.nn]))
  refine Reg.rk 14 w ?_; (try simp only [Reg.nn])
  iterate 4 ((first | refine Reg.tn ?_ | refine Reg.sn ?_); (try simp only [Reg.nn]))
  refine Reg.rk 19 w ?_; (try simp only [Reg.nn])
  iterate 2 ((first | refine Reg.tn ?_ | refine Reg.sn ?_); (try simp only [Reg.nn]))
  refine Reg.rk 22 w ?_; (try simp only [Reg.nn])
  iterate 2 ((first | refine Reg.tn ?_ | refine Reg.sn ?_); (try simp only [Reg.nn]))
  refine Reg.rk 25 w ?_; (try simp only [Reg.nn])
  refine Reg.onlyE 26 _ rfl (by kernel_rfl) (by decide) (by rfl) (fun W hW K hK => ?_); go_simp
  have hWa : Ext w W := (by repeat (first | assumption | exact Ext.refl _ | refine Ext.trans (by assumption) ?_ | apply Ext.drew | apply Ext.drewN | apply Ext.alloc))
  have hal : Rd (W.alloc (.cells (us [T1 + T2, va, vb, vc, vd + T1, ve, vf, vg]).toArray 102)) (some ⟨W.heap.size, 0, none⟩) (us [T1 + T2, va, vb, vc, vd + T1, ve, vf, vg]) := Rd.of_block _ _ _ rfl
  refine hK.out _ _ ((Ext.refl _).alloc _) ?_; clear hK K; (try simp only [Reg.nn])
  refine Reg.tk 27 ?_; (try simp only [Reg.nn])
  refine Reg.fin (by kernel_rfl) (fun W hW => ?_)
  have hW1 : Ext w W := (hWa.alloc _).trans (by assumption)
  have hal2 := hal.ext (by assumption)
  go_wp2_with fail
  refine ⟨⟨n + 1, _, _, _, _, by omega, ⟨_, rfl, rfl⟩, by rw [hr1.out]; exact hal2, fun p hp => by injection hp with hp; rw [← hp]; exact (hx.trans hWa).size, hx.trans hW1, hxq.trans hW1⟩, ?_⟩
  simp [intOf]
  omega
 ·obtain rfl : n = N := by have := hN.out; omega
  clear hlt
  have hn64 : (n : Int) = 64 := by have := hN.out; omega
  go_wp2_with fail
  rw [hn64]
  exact hQ _ _ AV cV x17 x18 ⟨_, rfl, rfl⟩ hV hVb hx
theorem mix_set0 (a b : List (BitVec 32)) (k : Nat) (h : k < 8) : ((us (mix a b k)).toArray.setIfInBounds k (.int .u32 (U (at32 a k + at32 b k)))) = (us (mix a b (k + 1))).toArray := by
 have := mix_set a b k h []
 simpa using this
set_option maxRecDepth 1000000 in
set_option maxHeartbeats 4000000 in
theorem loop12 {Q : Exit → Act → World → Prop} (v0 v1 v2 v4 v5 v6 v7 v8 v9 v10 v11 v12 v13 v14 v16 v17 v18 v20 v21 : Value) (a : Act) (wa : World) (AV : Option Addr) (cV G : Nat) (s t : ShaP.St)
  (hF : Fr 315 [v0, v1, v2, .slice (some ⟨G, 0, none⟩) 8 8, v4, v5, v6, v7, v8, v9, v10, v11, v12, v13, v14, .slice AV 8 cV, v16, v17, v18, .int .i64 0, v20, v21] a) (hG : Blk wa G (us s.list).toArray 102) (hV : Rd wa AV (us t.list)) (hne : ∀ p, AV = some p → p.block ≠ G)
  (hP : ∀ c a a2 w, Q (.panic c) a w → Q (.panic c) a2 w)
  (hQ : ∀ a' w', Fr 315 [v0, v1, v2, .slice (some ⟨G, 0, none⟩) 8 8, v4, v5, v6, v7, v8, v9, v10, v11, v12, v13, v14, .slice AV 8 cV, v16, v17, v18, .int .i64 8, v20, v21] a' → Blk w' G (us (s.plus t).list).toArray 102 → wa.grownBy w' (some G) → Q (.exit 12) a' w') :
  (Code.loop (refBody 12)).wp Tryz.prog Q a wa := by
 obtain ⟨bv, ov, rfl⟩ := rd_addr hV (by show 0 < 8; omega)
 have hbG : bv ≠ G := hne _ rfl
 obtain ⟨wq, hwq⟩ : ∃ wq, wq = wa := ⟨_, rfl⟩
 rw [← hwq] at hV hQ
 refine wp_loop (fun a wv => ∃ (n : Nat), n ≤ 8 ∧ Fr 315 [v0, v1, v2, .slice (some ⟨G, 0, none⟩) 8 8, v4, v5, v6, v7, v8, v9, v10, v11, v12, v13, v14, .slice (some ⟨bv, ov, none⟩) 8 cV, v16, v17, v18, .int .i64 n, v20, v21] a ∧ Blk wv G (us (mix s.list t.list n)).toArray 102 ∧ wq.grownBy wv (some G)) (fun a _ => (8 - intOf (a.tmps.getD 19 undef)).toNat) ⟨0, by omega, hF, by rw [mix_zero]; exact hG, by rw [hwq]; exact World.grownBy.refl _ _⟩ ?_
 clear hF hG hwq hne a wa
 rintro a w ⟨n, hn, hF, hG, hgr⟩
 obtain ⟨u, rfl⟩ := lay315 hF
 clear hF
 conv => arg 2; whnf
 by_cases hlt : n < 8
 ·clear hQ
  have hlt' : (n : Int) < 8 := by omega
  have hmx := mix_at s.list t.list n hlt
  have hms := mix_set0 s.list t.list n hlt
  have hVw : Rd w (some ⟨bv, ov, none⟩) (us t.list) := Rd.chg hV (Chg.ofGrown hgr) (fun a ha e => by injection ha with ha; injection e with e; exact hbG (by rw [e, ← ha]))
  have ct : ∀ W, Ext w W → W.cell? ⟨bv, ov + n, none⟩ = some (.int .u32 (U (at32 t.list n))) := fun W hW2 => rd_word (hVw.ext hW2) hlt
  have cs : ∀ W, Ext w W → W.cell? ⟨G, n, none⟩ = some (.int .u32 (U (at32 s.list n))) := fun W hW2 => by
   rw [(hG.ext hW2).cell n, List.getElem?_toArray, us_at _ _ (by rw [mix_length]; exact hlt), hmx]
  generalize at32 s.list n = S0 at cs hms
  generalize at32 t.list n = T0 at ct hms
  have g0 := U_add' S0 T0
  obtain ⟨M1, hM1⟩ : ∃ M, Held (mix s.list t.list (n + 1) = M) := ⟨_, ⟨rfl⟩⟩
  rw [hM1.out] at hms
  generalize mix s.list t.list n = M0 at hms hG
  clear hV hVw hmx
  go_wp2_with fail
  refine Reg.startE (by kernel_rfl) ?_
  iterate 5 ((first | refine Reg.tn ?_ | refine Reg.sn ?_); (try simp only [Reg.nn]))
  refine Reg.rk 5 w ?_; (try simp only [Reg.nn])
  iterate 3 ((first | refine Reg.tn ?_ | refine Reg.sn ?_); (try simp only [Reg.nn]))
  refine Reg.rk 9 w ?_; (try simp only [Reg.nn])
  iterate 2 ((first | refine Reg.tn ?_ | refine Reg.sn ?_); (try simp only [Reg.nn]))
  refine Reg.last 12 _ rfl (by kernel_rfl) (by kernel_rfl) (by kernel_rfl) (by decide) (by rfl) (fun W hW K hK => ?_)
  have hW0 : Ext w W := (by repeat (first | assumption | exact Ext.refl _ | refine Ext.trans (by assumption) ?_ | apply Ext.drew | apply Ext.drewN | apply Ext.alloc))
  have hf1 := (hG.ext hW0).frozen n
  have hc1 := cs W hW0
  go_simp
  refine hK.out _ _ ?_; clear hK K; (try simp only [Reg.nn])
  go_wp2_with fail
  have hst := (hG.ext hW0).set n (.int .u32 (U (S0 + T0)))
  rw [hms] at hst
  refine ⟨⟨n + 1, by omega, ⟨_, rfl, rfl⟩, by rw [hM1.out]; exact hst, grown_set (grown_ext hgr hW0) _ _⟩, ?_⟩
  simp [intOf]
  omega
 ·obtain rfl : n = 8 := by omega
  clear hlt
  go_wp2_with fail
  rw [mix_all] at hG
  exact hQ _ _ ⟨_, rfl, rfl⟩ hG hgr
set_option maxRecDepth 1000000 in
set_option maxHeartbeats 8000000 in
theorem loop4 {Q : Exit → Act → World → Prop} (v0 v1 v2 v6 v8 v9 v10 v11 v12 v13 v14 v15 v16 v17 v18 v19 v20 v21 : Value) (a : Act) (wb wa : World) (AK A5 : Option Addr) (cK mm cm G : Nat) (R : List (BitVec 32)) (L : List UInt8)
  (hR : Hid (roots = R)) (hRl : R.length = 64) (hr : Rb wa A5 L) (hl : L.length = mm) (hmc : mm ≤ cm) (hmm : mm ≤ 50000) (h64 : mm % 64 = 0)
  (hF : Fr 315 [v0, v1, v2, .slice (some ⟨G, 0, none⟩) 8 8, .slice AK 64 cK, .slice A5 mm cm, v6, .int .i64 0, v8, v9, v10, v11, v12, v13, v14, v15, v16, v17, v18, v19, v20, v21] a) (hx : Ext wb wa) (hG : Blk wa G (us begin_.list).toArray 102) (hK : Rd wa AK (us R))
  (hKG : ∀ p, AK = some p → p.block ≠ G) (h5G : ∀ p, A5 = some p → p.block ≠ G) (hbG : wb.heap.size ≤ G)
  (hP : ∀ c a a2 w, Q (.panic c) a w → Q (.panic c) a2 w)
  (hQ : ∀ a' w' x7 x8 x9 x10 x11 x12 x13 x14 x15 x16 x17 x18 x19, Fr 315 [v0, v1, v2, .slice (some ⟨G, 0, none⟩) 8 8, .slice AK 64 cK, .slice A5 mm cm, v6, x7, x8, x9, x10, x11, x12, x13, x14, x15, x16, x17, x18, x19, v20, v21] a' → Blk w' G (us (blocks begin_ L (mm / 64)).list).toArray 102 → Ext wb w' → Q (.exit 4) a' w') :
  (Code.loop (refBody 4)).wp Tryz.prog Q a wa := by
 obtain ⟨N4, hN4⟩ : ∃ N, Held (mm / 64 = N) := ⟨_, ⟨rfl⟩⟩
 rw [hN4.out] at hQ
 obtain ⟨wq, hwq⟩ : ∃ wq, wq = wa := ⟨_, rfl⟩
 refine wp_loop (fun a wv => ∃ (j : Nat) (x8 x9 x10 x11 x12 x13 x14 x15 x16 x17 x18 x19 : Value), 64 * j ≤ mm ∧ Fr 315 [v0, v1, v2, .slice (some ⟨G, 0, none⟩) 8 8, .slice AK 64 cK, .slice A5 mm cm, v6, .int .i64 ((64 * j : Nat) : Int), x8, x9, x10, x11, x12, x13, x14, x15, x16, x17, x18, x19, v20, v21] a ∧ Blk wv G (us (blocks begin_ L j).list).toArray 102 ∧ wq.grownBy wv (some G)) (fun a _ => mm - (intOf (a.tmps.getD 7 undef)).toNat) ⟨0, v8, v9, v10, v11, v12, v13, v14, v15, v16, v17, v18, v19, by omega, hF, hG, by rw [hwq]; exact World.grownBy.refl _ _⟩ ?_
 rw [← hwq] at hr hK hx
 clear hF hG hwq a wa
 rintro a w ⟨j, x8, x9, x10, x11, x12, x13, x14, x15, x16, x17, x18, x19, hj, hF, hG, hgr⟩
 obtain ⟨u, rfl⟩ := lay315 hF
 clear hF
 conv => arg 2; whnf
 obtain ⟨at_, hat⟩ : ∃ x, Held (64 * j = x) := ⟨_, ⟨rfl⟩⟩
 rw [hat.out] at hj ⊢
 have hxw : Ext wb w := hx.then_grown hgr (fun k hk => by injection hk with hk; omega)
 by_cases hlt : at_ < mm
 ·clear hQ
  have hlt' : (at_ : Int) < (mm : Int) := by omega
  have hat64 : at_ + 64 ≤ mm := by have := hat.out; omega
  have hrw : Rb w A5 L := Rd.chg hr (Chg.ofGrown hgr) (fun p hp e => by injection e with e; exact h5G p hp e.symm)
  have hKw : Rd w AK (us R) := Rd.chg hK (Chg.ofGrown hgr) (fun p hp e => by injection e with e; exact hKG p hp e.symm)
  obtain ⟨ch, hch⟩ : ∃ ch, Held ((L.drop at_).take 64 = ch) := ⟨_, ⟨rfl⟩⟩
  have hat8 : ∀ i, i < 64 → at8 L (at_ + i) = at8 ch i := fun i hi => by
   rw [← hch.out]; simp [at8, List.getD, List.getElem?_take, hi]
  obtain ⟨s, hs⟩ : ∃ s, Held (blocks begin_ L j = s) := ⟨_, ⟨rfl⟩⟩
  obtain ⟨Ws, hWs⟩ : ∃ x, Held (sch ch 64 = x) := ⟨_, ⟨rfl⟩⟩
  obtain ⟨N, hN⟩ : ∃ N : Nat, Held (N = 64) := ⟨64, ⟨rfl⟩⟩
  have hWl : Ws.length = 64 := by rw [← hWs.out, sch_length]
  have hnext : Held (blocks begin_ L (j + 1) = s.plus (rounds s Ws N)) := ⟨by rw [blocks_succ L j begin_ L, hs.out, hat.out, hch.out, block, hWs.out, hN.out]⟩
  rw [hs.out] at hG
  go_wp2_with fail
  refine loop6 (w := w) (hr := hrw) (hl := hl) (hmc := hmc) (hat := hat64) (hmm := hmm) (hch := hat8) (hF := ⟨_, rfl, rfl⟩) (hx := (Ext.refl w).alloc _) (ho := OwnS.zero _ _) (hb := fun k hk => by injection hk with hk; rw [← hk]; exact Nat.le_refl _) (hP := ?_) (hQ := ?_)
  ·exact fun c a a2 w h => hP c a a2 w h
  intro a2 w2 A8 c8 y10 hF2 ho2 hb2 hx2
  obtain ⟨u2, rfl⟩ := lay315 hF2
  clear hF2
  go_wp2_with fail
  refine loop8 (wb := w) (ch := ch) (hF := ⟨_, rfl, rfl⟩) (hx := hx2) (ho := ho2) (hb := hb2) (hP := ?_) (hQ := ?_)
  ·exact fun c a a2 w h => hP c a a2 w h
  clear ho2 hb2 hx2
  intro a3 w3 A8 c8 y12 y13 y14 hF3 ho3 hb3 hx3
  obtain ⟨u3, rfl⟩ := lay315 hF3
  clear hF3 u2
  rw [hWs.out] at ho3
  obtain ⟨A8', c8', e8, hrd8, _⟩ := ho3.rd
  injection e8 with e1 e2 e3
  subst e1; subst e3
  clear e2 ho3 hb3 hat8 hrw
  have hG3 := hG.ext hx3
  have hsG : Rd (w3.alloc (.cells #[] 102)) (some ⟨G, 0, none⟩) (us s.list) := fun _ => ⟨G, 0, rfl, fun i v hi => by
   rw [Nat.zero_add, (hG3.alloc _).cell i, List.getElem?_toArray, hi]⟩
  obtain ⟨AG, hAG⟩ : ∃ A, Held (some (⟨G, 0, none⟩ : Addr) = A) := ⟨_, ⟨rfl⟩⟩
  obtain ⟨n8, hn8⟩ : ∃ n : Nat, Held (8 = n) := ⟨_, ⟨rfl⟩⟩
  have hVS : Value.slice (some ⟨G, 0, none⟩) 8 8 = Value.slice AG n8 n8 := by rw [hAG.out, ← hn8.out]
  rw [hVS]
  clear hVS
  rw [hAG.out] at hsG
  go_wp2_with (refine wpList_oapp el_u32 _ rfl (.tmp 162) (.tmp 163) rfl (.slice (some ⟨w3.heap.size, 0, none⟩) 0 0) [] rfl (OwnS.zero _ _) (fun _ h => by cases h) AG n8 n8 (us s.list) rfl hsG hn8.out (fun h => by rw [← hAG.out] at h; cases h) (us_one _) (by have := hn8.out; simp; omega) (by omega) (fun V1 w4 ho4 hgr4 hv4 => ?_))
  rw [List.nil_append] at ho4
  have hx4 : Ext w w4 := (hx3.alloc _).then_grown hgr4 (fun k hk => by have hk : w3.heap.size = k := (by simpa [Value.ownBlock] using hk); have := hx3.size; omega)
  have hx34 : Ext w3 w4 := ((Ext.refl w3).alloc _).then_grown hgr4 (fun k hk => by have hk : w3.heap.size = k := (by simpa [Value.ownBlock] using hk); omega)
  have hb4 := own_ge (B := w.heap.size) hv4 (fun k hk => by have hk : w3.heap.size = k := (by simpa [Value.ownBlock] using hk); have := hx3.size; omega) (by simp; have := hx3.size; omega)
  clear hgr4 hv4 hsG
  obtain ⟨AV, cV, rfl, hrdV, _⟩ := ho4.rd
  rw [show (us s.list).length = 8 from rfl] at hb4 ⊢
  have hVb : ∀ p, AV = some p → w.heap.size ≤ p.block := fun p hp => hb4 p.block (by rw [hp]; rfl)
  clear ho4 hb4
  rw [← hAG.out, ← hn8.out]
  clear hn8 hAG
  refine loop10 (wb := w) (s := s) (R := R) (Ws := Ws) (N := N) (hN := hN.out) (hR := hR) (hRl := hRl) (hWl := hWl) (hF := ⟨_, rfl, rfl⟩) (hx := hx4) (hK := hKw.ext hx4) (hW := hrd8.ext hx34) (hV := hrdV) (hVb := hVb) (hP := ?_) (hQ := ?_)
  ·exact fun c a a2 w h => hP c a a2 w h
  clear hrdV hVb hx4 hx34 hx3 hG3 hrd8
  intro a5 w5 AV cV y17 y18 hF5 hV5 hVb5 hx5
  obtain ⟨u5, rfl⟩ := lay315 hF5
  clear hF5 u3
  obtain ⟨t, ht⟩ : ∃ t, Held (rounds s Ws N = t) := ⟨_, ⟨rfl⟩⟩
  rw [ht.out] at hV5 hnext
  go_wp2_with fail
  refine loop12 (G := G) (s := s) (t := t) (hF := ⟨_, rfl, rfl⟩) (hG := hG.ext hx5) (hV := hV5) (hne := fun p hp e => by have := hVb5 p hp; have := hG.lt; omega) (hP := ?_) (hQ := ?_)
  ·exact fun c a a2 w h => hP c a a2 w h
  clear hV5 hVb5
  intro a6 w6 hF6 hG6 hgr6
  obtain ⟨u6, rfl⟩ := lay315 hF6
  clear hF6 u5
  have hgw : wq.grownBy w6 (some G) := World.grownBy.trans (grown_ext hgr hx5) hgr6
  go_wp2_with fail
  have h64j : Held ((at_ : Int) + 64 = ((64 * (j + 1) : Nat) : Int)) := ⟨by have := hat.out; omega⟩
  rw [h64j.out]
  refine ⟨⟨j + 1, _, _, _, _, _, _, _, _, _, _, _, _, by have := hat.out; omega, ⟨_, rfl, rfl⟩, by rw [hnext.out]; exact hG6, hgw⟩, ?_⟩
  have := hat.out
  simp [intOf]
  omega
 ·obtain rfl : j = N4 := by have := hat.out; have := hN4.out; omega
  have hlt' : ¬ (at_ : Int) < (mm : Int) := by omega
  go_wp2_with fail
  exact hQ _ _ _ _ _ _ _ _ _ _ _ _ _ _ _ ⟨_, rfl, rfl⟩ hG hxw
set_option maxRecDepth 1000000 in
set_option maxHeartbeats 8000000 in
theorem refSum_any (w : World) (A : Option Addr) (c : Nat) (l : List UInt8) (hr : Rb w A l) (hA : A = none → c = 0) (hn : l.length ≤ 40000) :
  Calls Tryz.prog 39 #[.slice A l.length c] w fun e w' => e = .returned (.agg (u8s (sha l)).toArray) ∧ Ext w w' := by
 obtain ⟨nb, hnb⟩ : ∃ x, Held (l.length = x) := ⟨_, ⟨rfl⟩⟩
 have hn4 : nb ≤ 40000 := by rw [← hnb.out]; exact hn
 have HA := Lib.hid hA
 clear hA hn
 rw [hnb.out]
 obtain ⟨R, hR⟩ : ∃ R, Hid (roots = R) := ⟨_, rfl⟩
 have hRl : R.length = 64 := by rw [← hR.out]; rfl
 go_enter Tryz.func39, Tryz.ntmps39
 go_wp2_with fail
 generalize hwq : World.alloc w _ = w0
 have hH : Blk w0 w.heap.size z32 23 := by rw [← hwq]; exact Blk.new _ _ _
 have hx0 : Ext w w0 := by rw [← hwq]; exact (Ext.refl w).alloc _
 clear hwq
 refine (words_any _).mono ?_
 rintro e w1 ⟨rfl, hG, hx1⟩
 obtain ⟨G, hGd⟩ : ∃ G, Held (w0.heap.size = G) := ⟨_, ⟨rfl⟩⟩
 rw [hGd.out] at hG ⊢
 have hG1 := hG.lt
 go_wp2_with fail
 refine (roots_any _).mono ?_
 rintro e w2 ⟨rfl, hK, hx2⟩
 obtain ⟨KB, hKd⟩ : ∃ K, Held (w1.heap.size = K) := ⟨_, ⟨rfl⟩⟩
 rw [hKd.out] at hK hG1 ⊢
 rw [hR.out] at hK
 have hG2 := hx2.size
 have hr2 : Rb w2 A l := hr.ext ((hx0.trans hx1).trans hx2)
 go_wp2_with (first
  | refine wpList_oapp el_u8 _ rfl (.tmp 24) (.tmp 25) rfl (.slice (some ⟨w2.heap.size, 0, none⟩) 0 0) [] rfl (OwnS.zero _ _) (fun _ h => by cases h) A nb c (u8s l) rfl (Rd.ext hr2 ((Ext.refl w2).alloc _)) (by rw [u8s_length, hnb.out]) HA.out (u8s_one l) (by simp; omega) (by omega) (fun V3 w3 ho3 hg3 hv3 => ?_)
  | refine wpList_oapp el_u8 _ rfl (.tmp 26) (.tmp 27) rfl V3 (u8s l) rfl (OwnS.ext ho3 ((Ext.refl w3).alloc _)) (u8s_one _) (some ⟨w3.heap.size, 0, none⟩) 1 1 (u8s [128]) rfl (Rd.of_block w3 5 (0, 0) rfl) rfl (fun h => by cases h) (u8s_one _) (by rw [u8s_length, hnb.out]; omega) (by omega) (fun V4 w4 ho4 hg4 hv4 => ?_))
 have hx3 : Ext w2 w3 := ((Ext.refl w2).alloc _).then_grown hg3 (fun k hk => by have hk : w2.heap.size = k := (by simpa [Value.ownBlock] using hk); omega)
 have hb3 := own_ge (B := w2.heap.size) hv3 (fun k hk => by have hk : w2.heap.size = k := (by simpa [Value.ownBlock] using hk); omega) (by simp)
 have hx4 : Ext w2 w4 := (hx3.alloc _).then_grown hg4 hb3
 have hb4 := own_ge hv4 hb3 (by simp; have := hx3.size; omega)
 clear hg3 hv3 hg4 hv4 ho3 hb3 hx3
 rw [← u8s_append] at ho4
 obtain ⟨A5, c5, rfl, _⟩ := ho4.rd
 rw [show (u8s (l ++ [128])).length = nb + 1 by rw [u8s_length, List.length_append, hnb.out]; rfl] at ho4 hb4 ⊢
 refine loop0 (wb := w2) (nb := nb) (T := l ++ [128]) (hnb := hn4) (hT := by rw [List.length_append, hnb.out]; rfl) (hF := ⟨_, rfl, rfl⟩) (hx := hx4) (ho := ho4) (hb := hb4) (hQ := ?_)
 clear ho4 hb4 hx4
 intro a5 w5 A5 c5 hF5 ho5 hb5 hx5
 obtain ⟨u5, rfl⟩ := lay315 hF5
 clear hF5
 obtain ⟨n5, hn5⟩ : ∃ n, Held (nb + 1 + noughts nb = n) := ⟨_, ⟨rfl⟩⟩
 have hn5s : n5 % 64 = 56 := by rw [← hn5.out, noughts]; omega
 have hn5l : n5 ≤ 40100 := by rw [← hn5.out, noughts]; omega
 rw [hn5.out] at ho5 hb5 ⊢
 go_wp2_with fail
 refine loop2 (wb := w2) (nb := nb) (n := n5) (T := l ++ [128] ++ List.replicate (noughts nb) 0) (hnb := hn4) (hT := by rw [List.length_append, List.length_append, List.length_replicate, hnb.out, ← hn5.out]; rfl) (hn5 := by omega) (hF := ⟨_, rfl, rfl⟩) (hx := hx5) (ho := ho5) (hb := hb5) (hQ := ?_)
 clear ho5 hb5 hx5
 intro a6 w6 A6 c6 y6 hF6 ho6 hb6 hx6
 obtain ⟨u6, rfl⟩ := lay315 hF6
 clear hF6 u5
 obtain ⟨mm, hmm⟩ : ∃ n, Held (n5 + 8 = n) := ⟨_, ⟨rfl⟩⟩
 have hm64 : mm % 64 = 0 := by have := hmm.out; omega
 have hm5 : mm ≤ 50000 := by have := hmm.out; omega
 obtain ⟨P, hPd⟩ : ∃ P, Held (padded l l.length = P) := ⟨_, ⟨rfl⟩⟩
 have hPe : l ++ [128] ++ List.replicate (noughts nb) 0 ++ be8 (nb * 8) = P := by rw [← hPd.out, padded, hnb.out]
 rw [hPe, hmm.out] at ho6
 rw [hmm.out] at hb6 ⊢
 have hPl : P.length = mm := by rw [← hPe, List.length_append, List.length_append, List.length_append, List.length_replicate, hnb.out, ← hmm.out, ← hn5.out]; rfl
 obtain ⟨A6', c6', e6, hr6, hc6, _, _⟩ := ho6.rd
 injection e6 with e1 e2 e3
 subst e1; subst e3
 clear e2 hPe
 rw [u8s_length, hPl] at hc6
 clear ho6
 have hx06 : Ext w0 w6 := (hx1.trans hx2).trans hx6
 have h6G : ∀ p, A6 = some p → p.block ≠ G := fun p hp e => by have := hb6 p.block (by rw [hp]; rfl); have := hKd.out; omega
 have hKG : ∀ p, (some ⟨KB, 0, none⟩ : Option Addr) = some p → p.block ≠ G := fun p hp e => by injection hp with hp; rw [← hp] at e; have e : KB = G := e; omega
 have hbG : w0.heap.size ≤ G := Nat.le_of_eq hGd.out
 have hK6 := hK.ext hx6
 have hG6 : Blk w6 G (us begin_.list).toArray 102 := (hG.ext hx2).ext hx6
 clear hb6 hx6 hK hG hr2 hr
 go_wp2_with fail
 refine loop4 (wb := w0) (G := G) (R := R) (L := P) (hR := hR) (hRl := hRl) (hr := hr6) (hl := hPl) (hmc := hc6) (hmm := hm5) (h64 := hm64) (hF := ⟨_, rfl, rfl⟩) (hx := hx06) (hG := hG6) (hK := hK6) (hKG := hKG) (h5G := h6G) (hbG := hbG) (hP := ?_) (hQ := ?_)
 ·exact fun _ _ _ _ h => nomatch h.2.1
 clear hr6 hx06 hG6 hK6 hKG h6G
 intro a7 w7 y7 z8 z9 z10 z11 z12 z13 z14 z15 z16 z17 z18 z19 hF7 hG7 hx7
 obtain ⟨u7, rfl⟩ := lay315 hF7
 clear hF7 u6
 obtain ⟨s, hs⟩ : ∃ s, Held (blocks begin_ P (mm / 64) = s) := ⟨_, ⟨rfl⟩⟩
 rw [hs.out] at hG7
 have hsha : Held (sha l = out s) := ⟨by rw [sha, hPd.out, hPl, hs.out]⟩
 have hH7 := hH.ext hx7
 clear hs hPd hPl
 have hHs := hH7.lt
 have hbO := hx7.size
 have hthere : (w7.alloc (.cells z32 23)).there w7.heap.size 0 z32.size := fun j hj => by
  rw [Nat.zero_add]
  exact ⟨by rw [(Blk.new w7 z32 23).cell j, Array.getElem?_eq_getElem hj]; rfl, (Blk.new w7 z32 23).frozen j⟩
 have hsz : (Tryz.prog.info? 23).map (·.size) = some z32.size := by kernel_rfl
 have hone : z32.all (·.oneCell') = true := by kernel_rfl
 go_wp2_with (refine wpList_store_mid rfl 23 (.tmp 20) (.tmp 295) rfl w7.heap.size 0 z32 rfl rfl hthere hsz hone ?_)
 obtain ⟨O, hOd⟩ : ∃ O, Held (w7.heap.size = O) := ⟨_, ⟨rfl⟩⟩
 have hG7l := hG7.lt
 generalize hw8 : World.setCells _ w7.heap.size 0 z32.toList = w8
 rw [hOd.out] at hw8 hG7l ⊢
 have hO8 : Blk w8 O (otab s 0) 23 := by
  have h := Blk_sets (u8s (List.replicate 32 0)) 0 _ _ (Blk.new w7 z32 23)
  rw [show setMany z32 0 (u8s (List.replicate 32 0)) = z32 from setMany_full _ [] (u8s (List.replicate 32 0)) rfl] at h
  rw [← hw8, otab_zero, ← hOd.out]
  exact h
 have hx8 : Ext w0 w8 := by rw [← hw8, ← hOd.out]; exact Ext_sets hbO _ 0 (hx7.alloc _)
 have hG8 : Blk w8 G (us s.list).toArray 102 := by rw [← hw8]; exact Blk_far (by omega) _ _ (hG7.alloc _)
 have hGO : G ≠ O := by omega
 have hbO8 : w0.heap.size ≤ O := by rw [← hOd.out]; exact hbO
 clear hw8 hthere hbO hOd hG7l hHs hH7 hG7 hx7 hone
 refine loop14 (wb := w0) (G := G) (O := O) (s := s) (hF := ⟨_, rfl, rfl⟩) (hx := hx8) (hG := hG8) (hO := hO8) (hGO := hGO) (hbO := hbO8) (hQ := ?_)
 clear hx8 hG8 hO8
 intro a9 w9 hF9 hO9 hx9
 obtain ⟨u9, rfl⟩ := lay315 hF9
 clear hF9 u7
 rw [otab_full] at hO9
 have hz := hH.ext hx9
 have hty : (Tryz.prog.info? 23).map (·.size) = some (u8s (out s)).length := by rw [u8s_length, out_length]; kernel_rfl
 have hld : ∀ j v, (u8s (out s))[j]? = some v → w9.cell? ⟨O, 0 + j, none⟩ = some v := fun j v hj => by rw [Nat.zero_add, hO9.cell j, List.getElem?_toArray]; exact hj
 have hth : w9.there w.heap.size 0 (u8s (out s)).toArray.size := fun j hj => by rw [Nat.zero_add]; exact ⟨by rw [hz.cell j, Array.getElem?_eq_getElem (by simpa [z32, u8s_length, out_length] using hj)]; rfl, hz.frozen j⟩
 have hty2 : (Tryz.prog.info? 23).map (·.size) = some (u8s (out s)).toArray.size := by rw [List.size_toArray]; exact hty
 have hone := all_oneCell_toArray (u8s_one (out s))
 go_wp2_with (first
  | refine wpList_load_mid rfl 23 (.tmp 20) rfl O 0 rfl (u8s (out s)) (.array 32 5) hld (by kernel_rfl) rfl hty ?_
  | refine wpList_store_mid rfl 23 (.tmp 2) (.tmp 314) rfl w.heap.size 0 (u8s (out s)).toArray rfl rfl hth hty2 hone ?_)
 have hz2 := Blk_sets (u8s (out s)) 0 _ _ hz
 rw [show setMany z32 0 (u8s (out s)) = (u8s (out s)).toArray from setMany_full _ [] (u8s (List.replicate 32 0)) (by rw [u8s_length, u8s_length, out_length]; rfl)] at hz2
 refine ⟨rfl, _, results_cell_row rfl _ _ w.heap.size 23 (u8s (out s)).toArray (0, 0) (.array 32 5) rfl hz2 (by kernel_rfl) rfl hty2, ?_, Ext_sets (Nat.le_refl _) _ 0 (hx0.trans hx9)⟩
 rw [hsha.out]
end Go.Proofs.YtbpfabhlngfciaaGreatDoor.ShaW
namespace Go.Proofs.YtbpfabhlngfciaaGreatDoor.Rf
open Go.ChangeShapes Go.WideShapes Go.ChangeAt Go.RowKit
open Base Pf
theorem own_no {B : Nat} {w : World} {n : Nat} {xs : List Value} {A : Option Addr} {c : Nat} {t : TypeId} {z : Nat} (h : w.ownsRow B t z (.slice A n c) n xs) : A = none → c = 0 := fun e => by
 rcases h.2 with ⟨e2, _⟩ | ⟨g, cap2, cur, e2, _⟩
 ·injection e2
 ·rw [e] at e2; injection e2 with e2; cases e2
theorem rTexts_any (A0 : Option Addr) (c0 : Nat) (A : Option Addr) (n c : Nat) (l : List ByteArray) (w : World) (hA0 : A0 = none → c0 = 0) (hr : Rd w A (txs l)) (hl : l.length = n) (hn : n ≤ 3000) (hs : ∀ s ∈ l, s.size ≤ 3000) :
  Calls Tryz.prog 25 #[.slice A0 0 c0, .slice A n c] w fun e w' => ∃ v, e = .returned v ∧ Ow w.heap.size w' v (encS l) ∧ Ext w w' := by
 have hput := rPut_any A0 0 c0 [] n w (by intro h; exact absurd rfl h) rfl hA0 (by omega) (by omega)
 rw [if_pos (by omega), if_pos (by omega), List.nil_append] at hput
 obtain ⟨E, hE⟩ : ∃ z, Hid (encN n = z) := ⟨_, Lib.hid rfl⟩
 have hEl : E.length ≤ 8 := by rw [← hE.out]; rcases encN_length n with h | h; exact h; omega
 rw [hE.out] at hput
 have hfin : encS l = E ++ encB l := by unfold encS; rw [hl, hE.out]
 rw [hfin]
 have hwn : IntKind.u64.wrap (n : Int) = (n : Int) := by rw [IntKind.wrap_u64]; omega
 have htx := fun A' m' c' L s W h1 h2 h3 h4 => rText_any A' m' c' L s W h1 h2 h3 h4
 have hat : ∀ (j : Nat), j < n → ∃ s, l[j]? = some s ∧ s.size ≤ 3000 := fun j hj => ⟨l[j]'(by omega), List.getElem?_eq_getElem _, hs _ (List.getElem_mem _)⟩
 have hcell : ∀ (j : Nat) (s : ByteArray), l[j]? = some s → ∃ b o, A = some ⟨b, o, none⟩ ∧ ∀ W, Ext w W → W.cell? ⟨b, o + j, none⟩ = some (.string s) := fun j s hj => by
  have hlt := (List.getElem?_eq_some_iff.1 hj).1
  obtain ⟨b, o, e, hc⟩ := hr (by intro h; have := congrArg List.length h; simp [txs] at this; subst this; simp at hlt)
  exact ⟨b, o, e, fun W hW => hW.cell (hc j _ (by unfold txs; rw [List.getElem?_map, hj]; rfl))⟩
 have hlen : ∀ j, j ≤ n → (E ++ encB (l.take j)).length ≤ 10000000 := fun j hj => by
  have := encB_len (l.take j) (fun s h => hs s (List.mem_of_mem_take h))
  rw [List.length_take] at this
  rw [List.length_append]
  have h2 : min j l.length ≤ 3000 := by omega
  have h3 : 3008 * min j l.length ≤ 3008 * 3000 := Nat.mul_le_mul_left _ h2
  omega
 replace htx := Lib.hid htx
 replace hat := Lib.hid hat
 replace hcell := Lib.hid hcell
 replace hlen := Lib.hid hlen
 clear hr hs hfin
 go_enter Tryz.func25, Tryz.ntmps25
 go_wp2_with fail
 refine hput.mono ?_
 rintro e w1 ⟨v1, rfl, ho1, hx1⟩
 clear hput
 go_wp2_with fail
 go_loopw [5, 7] (fun v5 v7 wr => ∃ j : Nat, j ≤ n ∧ v7 = .int .i64 (j : Int) ∧ Ow w.heap.size wr v5 (E ++ encB (l.take j)) ∧ Ext w wr) (fun _ v7 _ => n - (intOf v7).toNat)
 case atStart => exact ⟨0, by omega, rfl, by simpa [encB] using ho1, hx1⟩
 case round =>
  obtain ⟨j, hj, rfl, ho, hx⟩ := hrel
  by_cases hjn : j < n
  ·obtain ⟨s, hsj, hsz⟩ := hat.out j hjn
   obtain ⟨b, o, rfl, hc⟩ := hcell.out j s hsj
   have hcj := hc wr hx
   obtain ⟨A2, c2, rfl, jj1, jj2, jj3, jj4⟩ := Rd.of_own ho
   have hL := hlen.out j (by omega)
   have ht := htx.out A2 _ c2 _ s wr jj3 rfl (own_no ho) (by omega)
   rw [← encB_app E l j s hsj] at ht
   obtain ⟨M, hM⟩ : ∃ z, Hid ((E ++ encB (l.take j)).length = z) := ⟨_, Lib.hid rfl⟩
   rw [hM.out] at ht ⊢
   have hjn' : (j : Int) < (n : Int) := by omega
   clear hsj hcell hat hlen jj1 jj2 jj3 jj4 ho hL
   go_wp2_with fail
   refine ht.mono ?_
   rintro e w4 ⟨v4, rfl, ho4, hx4⟩
   clear ht
   go_wp2_with fail
   go_roundw
   case rel => exact ⟨j + 1, by omega, by go_num, own_base ho4 hx.size, hx.trans hx4⟩
   case measure => simp [intOf] <;> omega
  ·obtain rfl : j = n := by omega
   rw [List.take_of_length_le (by omega)] at ho
   clear hcell hat hlen htx
   go_wp2_with fail
   first | exact ⟨_, rfl, ho, hx⟩ | (go_ret; exact ⟨_, rfl, ho, hx⟩)
end Go.Proofs.YtbpfabhlngfciaaGreatDoor.Rf
namespace Go.Proofs.YtbpfabhlngfciaaGreatDoor.Cn
open Go.ChangeShapes Go.WideShapes Go.ChangeAt Go.RowKit
open Base Pf Rf ShaP ShaW
theorem own_addr {B : Nat} {w : World} {n : Nat} {xs : List Value} {A : Option Addr} {c : Nat} {t : TypeId} {z : Nat} (h : w.ownsRow B t z (.slice A n c) n xs) : ∀ a, A = some a → a.block < w.heap.size := fun a ha => (h.lt a.block (by rw [ha]; rfl)).2
theorem Log_any (A : Option Addr) (n c : Nat) (l : List ByteArray) (w : World) (hr : Rd w A (txs l)) (hl : l.length = n) (hn : n ≤ 3000) (hs : ∀ s ∈ l, s.size ≤ 3000) (ht : Tabs w) (hL : (encS l).length ≤ 40000) :
  Calls Tryz.prog 23 #[.slice A n c] w fun e w' => e = .returned (.agg (u8s (sha (encS l))).toArray) ∧ Ext w w' := by
 have hpt := fun W (hW : Ext w W) => PutTexts_any A n c l W (hr.ext hW) hl hn hs
 obtain ⟨L, hLd⟩ : ∃ z, Hid (encS l = z) := ⟨_, Lib.hid rfl⟩
 simp only [hLd.out] at hpt
 rw [hLd.out] at hL ⊢
 have hXl : (sha L).length = 32 := sha_length _
 obtain ⟨X, hX⟩ : ∃ z, Hid (sha L = z) := ⟨_, Lib.hid rfl⟩
 have hsm := fun W A' c' => sumTop_any W A' c' L
 simp only [hX.out] at hsm
 rw [hX.out] at hXl ⊢
 obtain ⟨q, hq⟩ : ∃ z, Hid (w.heap.size = z) := ⟨_, rfl⟩
 replace hpt := Lib.hid hpt
 replace hsm := Lib.hid hsm
 clear hr hs
 go_enter Tryz.func23, Tryz.ntmps23
 go_wp2_with fail
 generalize hw0 : World.alloc w _ = w1
 have hx1 : Ext w w1 := by rw [← hw0]; exact (Ext.refl w).alloc _
 have hz1 : Blk w1 q z32 23 := by rw [← hw0, ← hq.out]; exact Blk.new w z32 _
 clear hw0
 rw [hq.out]
 refine (hpt.out w1 hx1).mono ?_
 rintro e w2 ⟨v2, rfl, ho2, hx2⟩
 obtain ⟨A2, c2, rfl, jj1, jj2, jj3, jj4⟩ := Rd.of_own ho2
 have hx02 := hx1.trans hx2
 have hs2 := hsm.out w2 A2 c2 (ht.ext hx02) jj3 (own_no ho2) (own_addr ho2) (by omega)
 obtain ⟨M, hM⟩ : ∃ z, Hid (L.length = z) := ⟨_, Lib.hid rfl⟩
 rw [hM.out] at hs2 ⊢
 have hz2 := hz1.ext hx2
 clear hpt hsm jj1 jj2 jj3 jj4 ho2
 go_wp2_with fail
 refine hs2.mono ?_
 rintro e w4 ⟨rfl, hx4⟩
 have hz4 := hz2.ext hx4
 have hx04 := hx02.trans hx4
 clear hs2
 go_wp2_with (refine wpList_store_mid rfl 23 (.tmp 2) (.tmp 5) rfl q 0 (u8s X).toArray rfl rfl (sumX_there hz4 _ hXl) (sumX_info _ hXl) (all_oneCell_toArray (u8s_one _)) ?_)
 exact ⟨rfl, _, results_cell_row rfl _ _ q 23 (u8s X).toArray (0, 0) (.array 32 5) rfl (sumX_cells X hXl hz4) (by kernel_rfl) rfl (sumX_info X hXl), rfl, Ext_sets (by rw [hq.out]; exact Nat.le_refl _) _ 0 hx04⟩
theorem rLog_any (A : Option Addr) (n c : Nat) (l : List ByteArray) (w : World) (hr : Rd w A (txs l)) (hl : l.length = n) (hn : n ≤ 3000) (hs : ∀ s ∈ l, s.size ≤ 3000) (hL : (encS l).length ≤ 40000) :
  Calls Tryz.prog 24 #[.slice A n c] w fun e w' => e = .returned (.agg (u8s (sha (encS l))).toArray) ∧ Ext w w' := by
 have hpt := fun W (hW : Ext w W) A0 c0 h0 => rTexts_any A0 c0 A n c l W h0 (hr.ext hW) hl hn hs
 obtain ⟨L, hLd⟩ : ∃ z, Hid (encS l = z) := ⟨_, Lib.hid rfl⟩
 simp only [hLd.out] at hpt
 rw [hLd.out] at hL ⊢
 have hXl : (sha L).length = 32 := sha_length _
 obtain ⟨X, hX⟩ : ∃ z, Hid (sha L = z) := ⟨_, Lib.hid rfl⟩
 have hsm := fun W A' c' => refSum_any W A' c' L
 simp only [hX.out] at hsm
 rw [hX.out] at hXl ⊢
 obtain ⟨q, hq⟩ : ∃ z, Hid (w.heap.size = z) := ⟨_, rfl⟩
 replace hpt := Lib.hid hpt
 replace hsm := Lib.hid hsm
 clear hr hs
 go_enter Tryz.func24, Tryz.ntmps24
 go_wp2_with fail
 generalize hw0 : World.alloc (World.alloc w _) _ = w1
 have hx1 : Ext w w1 := by rw [← hw0]; exact ((Ext.refl w).alloc _).alloc _
 have hz1 : Blk w1 q z32 23 := by rw [← hw0, ← hq.out]; exact (Blk.new w z32 _).alloc _
 clear hw0
 rw [hq.out]
 refine (hpt.out w1 hx1 _ _ (fun h => by cases h)).mono ?_
 rintro e w2 ⟨v2, rfl, ho2, hx2⟩
 obtain ⟨A2, c2, rfl, jj1, jj2, jj3, jj4⟩ := Rd.of_own ho2
 have hx02 := hx1.trans hx2
 have hs2 := hsm.out w2 A2 c2 jj3 (own_no ho2) (by omega)
 obtain ⟨M, hM⟩ : ∃ z, Hid (L.length = z) := ⟨_, Lib.hid rfl⟩
 rw [hM.out] at hs2 ⊢
 have hz2 := hz1.ext hx2
 clear hpt hsm jj1 jj2 jj3 jj4 ho2
 go_wp2_with fail
 refine hs2.mono ?_
 rintro e w4 ⟨rfl, hx4⟩
 have hz4 := hz2.ext hx4
 have hx04 := hx02.trans hx4
 clear hs2
 go_wp2_with (refine wpList_store_mid rfl 23 (.tmp 2) (.tmp 6) rfl q 0 (u8s X).toArray rfl rfl (sumX_there hz4 _ hXl) (sumX_info _ hXl) (all_oneCell_toArray (u8s_one _)) ?_)
 exact ⟨rfl, _, results_cell_row rfl _ _ q 23 (u8s X).toArray (0, 0) (.array 32 5) rfl (sumX_cells X hXl hz4) (by kernel_rfl) rfl (sumX_info X hXl), rfl, Ext_sets (by rw [hq.out]; exact Nat.le_refl _) _ 0 hx04⟩
end Go.Proofs.YtbpfabhlngfciaaGreatDoor.Cn
namespace Go.Proofs.YtbpfabhlngfciaaGreatDoor.Cn
open Go.ChangeShapes Go.WideShapes Go.ChangeAt Go.RowKit
open Base Pf Rf Pr ShaP ShaW
def tot : List ByteArray → Nat
 | [] => 0
 | s :: l => s.size + 1 + tot l
theorem tot_snoc : ∀ (l : List ByteArray) (s : ByteArray), tot (l ++ [s]) = tot l + s.size + 1
 | [], s => by simp [tot]
 | x :: l, s => by simp only [List.cons_append, tot, tot_snoc l s]; omega
theorem tot_take (l : List ByteArray) (j : Nat) (s : ByteArray) (h : l[j]? = some s) : tot (l.take (j + 1)) = tot (l.take j) + s.size + 1 := by
 rw [List.take_add_one, h]
 exact tot_snoc _ _
theorem tot_len : ∀ l : List ByteArray, l.length ≤ tot l
 | [] => Nat.le_refl _
 | s :: l => by have := tot_len l; simp only [List.length_cons, tot]; omega
theorem tot_mem : ∀ (l : List ByteArray) (s : ByteArray), s ∈ l → s.size < tot l
 | x :: l, s, h => by
  rcases List.mem_cons.1 h with rfl | h
  ·simp only [tot]; omega
  ·have := tot_mem l s h; simp only [tot]; omega
theorem encB_tot : ∀ l : List ByteArray, (∀ s ∈ l, s.size ≤ 3000) → (encB l).length ≤ 8 * tot l
 | [], _ => by simp [encB]
 | s :: l, h => by
  have h1 := encB_tot l (fun x hx => h x (by simp [hx]))
  have h2 := encT_len s (h s (by simp))
  have e : encB (s :: l) = encT s.data.toList ++ encB l := by simp [encB]
  rw [e, List.length_append, tot]
  omega
theorem el_st : El Tryz.prog 48 9 (.string ByteArray.empty) 1 16 := ⟨by kernel_rfl, by kernel_rfl, rfl, by omega⟩
theorem appG {P : Program} {t e : TypeId} {z : Value} {size bytes : Nat} (E : El P t e z size bytes) (w : World) {ops : Array Oper} {rest : List Oper} {o : Oper} {a : Act} {Q : Exit → Act → World → Prop} (hw : Region.wanted o (yielded ops a.tmps) = true) (s x : Operand)
  (ho : o.op = .call { callee := .builtin .append, args := #[s, x], argTypes := #[t, t] }) (base : Nat)
  (g : Nat) (hs : a.eval s = .slice (some ⟨g, 0, none⟩) 0 0) (hown : w.ownsRow base e size (.slice (some ⟨g, 0, none⟩) 0 0) 0 [])
  (A : Option Addr) (m c : Nat) (news : List Value) (hx : a.eval x = .slice A m c) (hr : Rd w A news) (hl : news.length = m * size) (hA : A = none → c = 0)
  (hbytes : m * bytes ≤ 140737488355328) (hby : 0 < bytes) (hbase : base ≤ w.heap.size)
  (h : ∀ v' w', w'.ownsRow base e size v' m news → Ext w w' → wpList P ops Q rest (a.put o.dst v') w') : wpList P ops Q (o :: rest) a w :=
 BigFrame.wpList_want hw fun _ hK => wp_app0 E w s x ho base g hs hown A m c news hx hr hl hA hbytes hby hbase fun v' w' h2 h3 => hK _ _ (h v' w' h2 h3)
theorem encS_nil : (encS []).length = 1 := by decide +kernel
set_option maxHeartbeats 2000000 in
theorem logs_any (A : Option Addr) (n c : Nat) (l : List ByteArray) (w : World) (hwd : Wd w) (hpow : Pow w) (htb : Tabs w) (hl : l.length = n) (hr : Rd w A (txs l)) (hA : A = none → c = 0) (hmc : n ≤ c) (hc : c ≤ maxLen) (hz : ∀ s ∈ l, s.size ≤ 140737488351232) :
  Calls Tryz.prog 7 #[.slice A n c] w fun e w' => e = .returned (.bool true) ∧ Ext w w' := by
 have hli := fun W (hW : Ext w W) => lives8_any W (hwd.ext hW) (hpow.ext hW) (htb.ext hW)
 have hn0 := fun W => rTexts_any none 0 none 0 0 [] W (fun _ => rfl) (Rd.nil _ _) rfl (by omega) (fun s h => by cases h)
 have hlog : tot l ≤ 3000 → ∃ X : List UInt8, X.length = 32 ∧ n ≤ 3000 ∧ (∀ A' c' W, Ext w W → Rd W A' (txs l) → Calls Tryz.prog 23 #[.slice A' n c'] W fun e w' => e = .returned (.agg (u8s X).toArray) ∧ Ext W w') ∧ (∀ W, Ext w W → Calls Tryz.prog 24 #[.slice A n c] W fun e w' => e = .returned (.agg (u8s X).toArray) ∧ Ext W w') := fun h => by
  have h1 := tot_len l
  have h2 : ∀ s ∈ l, s.size ≤ 3000 := fun s hs => by have := tot_mem l s hs; omega
  have h3 := encB_tot l h2
  have h4 : (encS l).length ≤ 40000 := by
   unfold encS
   rw [List.length_append]
   rcases encN_length l.length with h | h <;> omega
  exact ⟨sha (encS l), sha_length _, by omega, fun A' c' W hW hr' => Log_any A' n c' l W hr' hl (by omega) h2 (htb.ext hW) h4, fun W hW => rLog_any A n c l W (hr.ext hW) hl (by omega) h2 h4⟩
 have hat : ∀ (j : Nat), j < n → ∃ s, l[j]? = some s ∧ s.size ≤ 140737488351232 := fun j hj => ⟨l[j]'(by omega), List.getElem?_eq_getElem _, hz _ (List.getElem_mem _)⟩
 have hcell : ∀ (j : Nat) (s : ByteArray), l[j]? = some s → ∃ b o, A = some ⟨b, o, none⟩ ∧ w.cell? ⟨b, o + j, none⟩ = some (.string s) := fun j s hj => by
  have hlt := (List.getElem?_eq_some_iff.1 hj).1
  obtain ⟨b, o, e, hc⟩ := hr (by intro h; have := congrArg List.length h; simp [txs] at this; subst this; simp at hlt)
  exact ⟨b, o, e, hc j _ (by unfold txs; rw [List.getElem?_map, hj]; rfl)⟩
 have hx1 : Ext w (w.alloc (.cells #[] 9)) := (Ext.refl w).alloc _
 have hlit : (w.alloc (.cells #[] 9)).ownsRow w.heap.size 9 1 (.slice (some ⟨w.heap.size, 0, none⟩) 0 0) 0 [] := World.ownsRow_lit w #[] 0 (Nat.le_refl _) (Nat.zero_le _) rfl
 have hr1 := hr.ext hx1
 have hb1 := hx1.size
 have hl8 : (txs l).length = n * 1 := by unfold txs; rw [List.length_map, hl, Nat.mul_one]
 unfold maxLen at hc
 replace hli := Lib.hid hli
 replace hn0 := Lib.hid hn0
 replace hlog := Lib.hid hlog
 replace hat := Lib.hid hat
 replace hcell := Lib.hid hcell
 replace hA := Lib.hid hA
 clear hr hz
 go_enter Tryz.func7, Tryz.ntmps7
 go_wp2_with fail
 go_loopw [3, 4] (fun v3 v4 wr => ∃ j N : Nat, j ≤ n ∧ v4 = .int .i64 (j : Int) ∧ v3 = .int .i64 (N : Int) ∧ wr = w ∧ Hid (tot (l.take j) = N) ∧ N ≤ 140737488360000) (fun _ v4 _ => n - (intOf v4).toNat)
 case atStart => exact ⟨0, 0, by omega, rfl, rfl, rfl, Lib.hid rfl, by omega⟩
 case round =>
  obtain ⟨j, N, hj, rfl, rfl, hw, hN, hNb⟩ := hrel
  replace hw := hw.symm
  subst hw
  by_cases hN3 : N ≤ 3000
  ·have hN3' : (N : Int) ≤ 3000 := by omega
   have hN3n : ¬ (3000 : Int) < (N : Int) := by omega
   by_cases hjn : j < n
   ·obtain ⟨s, hsj, hsz⟩ := hat.out j hjn
    obtain ⟨b, o, rfl, hcj⟩ := hcell.out j s hsj
    have hjn' : (j : Int) < (n : Int) := by omega
    have hN2 := tot_take l j s hsj
    rw [hN.out] at hN2
    clear hsj hcell hat hlog hN hlit hr1
    go_wp2_with fail
    go_roundw
    case rel => exact ⟨j + 1, N + s.size + 1, by omega, by go_num, by go_num, trivial, Lib.hid hN2, by omega⟩
    case measure => simp [intOf] <;> omega
   ·obtain rfl : j = n := by omega
    have hT := hN.out
    rw [List.take_of_length_le (by omega)] at hT
    obtain ⟨X, hX1, hn3, hL1, hL2⟩ := hlog.out (by omega)
    have hEq : ∀ w, (Op.equalIn 10000 23 (.agg (u8s X).toArray) (.agg (u8s X).toArray)).run Tryz.prog w = .ok true w := fun w => by rw [eq_sum X X hX1 hX1]; simp
    replace hL1 := Lib.hid hL1
    replace hL2 := Lib.hid hL2
    clear hcell hat hlog hN hT
    go_wp2_with (
     refine appG el_st _ rfl (.tmp 26) (.tmp 27) rfl _ _ rfl hlit A j c (txs l) rfl hr1 hl8 hA.out (by omega) (by omega) hb1 (fun v' w2 ho2 hx2 => ?_)
     obtain ⟨A2, c2, rfl, jj1, jj2, jj3, jj4⟩ := Rd.of_own ho2
     have hc2 := hL1.out A2 c2 w2 (hx1.trans hx2) jj3
     clear jj1 jj2 jj3 jj4 ho2)
    have hx02 := hx1.trans hx2
    refine hc2.mono ?_
    rintro e w3 ⟨rfl, hx3⟩
    have hx03 := hx02.trans hx3
    have hc3 := hL2.out w3 hx03
    clear hc2
    go_wp2_with fail
    refine hc3.mono ?_
    rintro e w4 ⟨rfl, hx4⟩
    have hx04 := hx03.trans hx4
    have hq4 := hEq w4
    have hc4 := hn0.out w4
    clear hc3
    go_wp2_with fail
    refine hc4.mono ?_
    rintro e w5 ⟨v5, rfl, ho5, hx5⟩
    obtain ⟨A5, c5, rfl, jj1, jj2, jj3, jj4⟩ := Rd.of_own ho5
    rw [encS_nil]
    have hx05 := hx04.trans hx5
    have hc5 := hli.out w5 hx05
    clear hc4 jj1 jj2 jj3 jj4 ho5
    go_wp2_with fail
    refine hc5.mono ?_
    rintro e w6 ⟨rfl, hx6⟩
    go_wp2_with fail
    first | exact ⟨rfl, hx05.trans hx6⟩ | (go_ret; exact ⟨rfl, hx05.trans hx6⟩)
  ·have hN3' : ¬ (N : Int) ≤ 3000 := by omega
   have hN3n : (3000 : Int) < (N : Int) := by omega
   have hc4 := hn0.out w
   clear hcell hat hlog hN hlit hr1
   by_cases hjn : j < n
   ·have hjn' : (j : Int) < (n : Int) := by omega
    go_wp2_with fail
    refine hc4.mono ?_
    rintro e w5 ⟨v5, rfl, ho5, hx5⟩
    obtain ⟨A5, c5, rfl, jj1, jj2, jj3, jj4⟩ := Rd.of_own ho5
    rw [encS_nil]
    have hc5 := hli.out w5 hx5
    clear hc4 jj1 jj2 jj3 jj4 ho5
    go_wp2_with fail
    refine hc5.mono ?_
    rintro e w6 ⟨rfl, hx6⟩
    go_wp2_with fail
    first | exact ⟨rfl, hx5.trans hx6⟩ | (go_ret; exact ⟨rfl, hx5.trans hx6⟩)
   ·obtain rfl : j = n := by omega
    go_wp2_with fail
    refine hc4.mono ?_
    rintro e w5 ⟨v5, rfl, ho5, hx5⟩
    obtain ⟨A5, c5, rfl, jj1, jj2, jj3, jj4⟩ := Rd.of_own ho5
    rw [encS_nil]
    have hc5 := hli.out w5 hx5
    clear hc4 jj1 jj2 jj3 jj4 ho5
    go_wp2_with fail
    refine hc5.mono ?_
    rintro e w6 ⟨rfl, hx6⟩
    go_wp2_with fail
    first | exact ⟨rfl, hx5.trans hx6⟩ | (go_ret; exact ⟨rfl, hx5.trans hx6⟩)
end Go.Proofs.YtbpfabhlngfciaaGreatDoor.Cn
namespace Go.Proofs.YtbpfabhlngfciaaGreatDoor.Args
open Go.ChangeShapes Go.WideShapes Go.ChangeAt Go.RowKit
open Go.ChangeMaps (open_string shut_string)
open Base
theorem bytes_arg {H : Type} {enc : TypeId × Value → H} {P : Program} {W : World} {base t e : Nat} (hu : P.underlying t = some (.slice e)) (he : P.underlying e = some (.int .u8)) (hc : P.cellsOf e = 1)
  {v : Value} {d : DataW H} {p : List MemPlace} (hv : Value.okWide P W .any base t v) (h : DataW.Trod enc P W 0 (fun _ => true) true t v d p) :
  ∃ A n c l, v = .slice A n c ∧ l.length = n ∧ Rb W A l ∧ n ≤ c ∧ c ≤ maxLen ∧ (A = none → c = 0) ∧ ((d = .nil ∧ n = 0) ∨ ∃ el sp, d = .slice el sp ∧ el.length = n ∧ sp.length = c - n) := by
 obtain ⟨A, n, c, rfl⟩ := okWide_slice hu hv
 obtain ⟨fuel, hf⟩ := h
 rcases open_ints hu he hc hf with ⟨hcs, hx⟩ | ⟨x, l, c', zs, hcs, _, hl, hm, hz, hx, hcell, hwz⟩
 ·simp [Value.cells] at hcs
  obtain ⟨rfl, rfl, rfl⟩ := hcs
  exact ⟨none, 0, 0, [], rfl, rfl, Rd.nil _ _, Nat.le_refl _, Nat.zero_le _, fun _ => rfl, .inl ⟨by simpa using congrArg Prod.fst hx, rfl⟩⟩
 ·simp [Value.cells] at hcs
  obtain ⟨rfl, rfl, rfl⟩ := hcs
  simp at hz
  have hd := congrArg Prod.fst hx
  simp only at hd
  have hb : ∀ z ∈ zs, 0 ≤ z ∧ z ≤ 255 := fun z hz => by simpa [Lit.wf, IntKind.min, IntKind.max, IntKind.signed, IntKind.bits] using hwz z hz
  refine ⟨some x, n, c, (zs.take n).map fun z => UInt8.ofNat z.toNat, rfl, by simp; omega, ?_, hl, hm, (fun e => by cases e), .inr ⟨_, _, hd, by simp [lits]; omega, by simp [lits]; omega⟩⟩
  intro hne
  have hpos : 0 < n := by
   rcases Nat.eq_zero_or_pos n with h | h
   ·subst h; simp [u8s] at hne
   ·exact h
  obtain ⟨b, off, rfl, hc'⟩ := ints_at hcell (by omega)
  refine ⟨b, off, rfl, fun j u hj => ?_⟩
  have hjl : j < n := by
   rcases Nat.lt_or_ge j n with h | h
   ·exact h
   ·rw [List.getElem?_eq_none (by simp [u8s]; omega)] at hj; cases hj
  have h1 := hc' j (by omega)
  rw [h1]
  have h2 : zs[j]? = some zs[j] := List.getElem?_eq_getElem (by omega)
  have h3 := hb zs[j] (List.getElem_mem _)
  simp only [u8s, List.getElem?_map, List.getElem?_take, hjl, if_true, h2, Option.map_some, Option.some.injEq] at hj
  rw [← hj]
  simp only [List.getD, h2, Option.getD_some, UInt8.toNat_ofNat']
  congr 1
  congr 1
  omega
theorem bytes_reach {H : Type} {P : Program} {ts : List TypeId} {ds : List (DataW H)} (h : (DataW.weightsEach P ts ds).all (· ≤ reachBytes) = true) {j t e : Nat} {d : DataW H} {n c : Nat}
  (ht : ts[j]? = some t) (hd : ds[j]? = some d) (hu : P.underlying t = some (.slice e)) (hb : P.bytesOf e = 1) (hw : (d = .nil ∧ n = 0) ∨ ∃ el sp, d = .slice el sp ∧ el.length = n ∧ sp.length = c - n) : n ≤ 140737488351232 := by
 rcases hw with ⟨_, rfl⟩ | ⟨el, sp, rfl, h1, h2⟩
 ·omega
 ·have := sized_slice h ht hd hu
  rw [hb] at this
  simp only [reachBytes] at this
  omega
theorem string_reach {H : Type} {P : Program} {ts : List TypeId} {ds : List (DataW H)} (h : (DataW.weightsEach P ts ds).all (· ≤ reachBytes) = true) {j t : Nat} {s : ByteArray}
  (ht : ts[j]? = some t) (hd : ds[j]? = some (.lit (.string s.data.toList))) : s.size ≤ 140737488351232 := by
 have := sized_string h ht hd
 simp only [reachBytes] at this
 have e : s.data.toList.length = s.size := Array.length_toList
 omega
theorem bulk_le {H : Type} {l : List (DataW H)} (hk : Rows.uptoSmall H l = true) : Rows.uptoBulkAll l ≤ 1048576 := of_decide_eq_true hk
theorem bulk_one {H : Type} (d : DataW H) : 1 ≤ Rows.uptoBulk d := by
 cases d with
 | lit l => cases l <;> simp [Rows.uptoBulk]
 | nil => simp [Rows.uptoBulk]
 | ptr d => simp [Rows.uptoBulk]
 | slice elems spare => simp [Rows.uptoBulk]
 | agg parts => simp [Rows.uptoBulk]
 | iface t d => simp [Rows.uptoBulk]
 | map entries => simp [Rows.uptoBulk]
 | held h => simp [Rows.uptoBulk]
theorem bulk_at {H : Type} {l : List (DataW H)} {b : Nat} (h : Rows.uptoBulkAll l ≤ b) {j : Nat} {d : DataW H} (hd : l[j]? = some d) : Rows.uptoBulk d ≤ b := by
 induction l generalizing j b with
 | nil => simp at hd
 | cons x r ih =>
  simp only [Rows.uptoBulkAll] at h
  cases j with
  | zero => simp only [List.getElem?_cons_zero, Option.some.injEq] at hd; subst hd; omega
  | succ j => simp only [List.getElem?_cons_succ] at hd; have := ih (b := b - Rows.uptoBulk x) (by omega) hd; omega
theorem bulk_length {H : Type} (l : List (DataW H)) : l.length ≤ Rows.uptoBulkAll l := by
 induction l with
 | nil => simp [Rows.uptoBulkAll]
 | cons x r ih => have := bulk_one x; simp only [Rows.uptoBulkAll, List.length_cons]; omega
theorem bytes_bulk {H : Type} {ds : List (DataW H)} {b : Nat} (h : Rows.uptoBulkAll ds ≤ b) {j : Nat} {d : DataW H} {n c : Nat} (hd : ds[j]? = some d)
  (hw : (d = .nil ∧ n = 0) ∨ ∃ el sp, d = .slice el sp ∧ el.length = n ∧ sp.length = c - n) : n ≤ b := by
 have h1 := bulk_at h hd
 rcases hw with ⟨_, rfl⟩ | ⟨el, sp, rfl, h2, h3⟩
 ·omega
 ·have := bulk_length el
  simp only [Rows.uptoBulk] at h1
  omega
theorem string_bulk {H : Type} {ds : List (DataW H)} {b : Nat} (h : Rows.uptoBulkAll ds ≤ b) {j : Nat} {s : ByteArray} (hd : ds[j]? = some (.lit (.string s.data.toList))) : s.size ≤ b := by
 have h1 := bulk_at h hd
 simp only [Rows.uptoBulk] at h1
 have e : s.data.toList.length = s.size := Array.length_toList
 omega
theorem plain_addr {w : World} {a : Addr} {v : Value} (h : w.cell? a = some v) : a = ⟨a.block, a.off, none⟩ := by
 unfold World.cell? at h
 cases hs : a.spot with
 | none => cases a; simp at hs; subst hs; rfl
 | some k => simp [hs] at h; split at h <;> simp at h
theorem Addr.add_zero' (a : Addr) : a.add 0 = a := by simp [Addr.add]
theorem strs_arg {H : Type} {enc : TypeId × Value → H} {P : Program} {W : World} {base t e : Nat} (hu : P.underlying t = some (.slice e)) (he : P.underlying e = some .string) (hc : P.cellsOf e = 1)
  {v : Value} {d : DataW H} {p : List MemPlace} (hv : Value.okWide P W .any base t v) (h : DataW.Trod enc P W 0 (fun _ => true) true t v d p) :
  ∃ A n c l, v = .slice A n c ∧ l.length = n ∧ Rd W A (txs l) ∧ n ≤ c ∧ c ≤ maxLen ∧ (A = none → c = 0) ∧ (∀ s ∈ l, s.size ≤ maxLen) ∧ ((d = .nil ∧ n = 0) ∨ ∃ sp, d = .slice (l.map fun s => .lit (.string s.data.toList)) sp ∧ sp.length = c - n) := by
 obtain ⟨A, n, c, rfl⟩ := okWide_slice hu hv
 obtain ⟨fuel, hf⟩ := h
 rcases open_strings hu he hc hf with ⟨hcs, hx⟩ | ⟨x, l, c', ss, hcs, _, hl, hm, hz, hx, hcell, hws⟩
 ·simp [Value.cells] at hcs
  obtain ⟨rfl, rfl, rfl⟩ := hcs
  exact ⟨none, 0, 0, [], rfl, rfl, Rd.nil _ _, Nat.le_refl _, Nat.zero_le _, fun _ => rfl, by simp, .inl ⟨by simpa using congrArg Prod.fst hx, rfl⟩⟩
 ·simp [Value.cells] at hcs
  obtain ⟨rfl, rfl, rfl⟩ := hcs
  simp at hz
  have hd := congrArg Prod.fst hx
  simp only at hd
  refine ⟨some x, n, c, ss.take n, rfl, by simp; omega, ?_, hl, hm, (fun e => by cases e), (fun s hs => hws s (List.mem_of_mem_take hs)), .inr ⟨_, by rw [hd]; rfl, by rw [← hz]; simp [ChangeShapes.strs]⟩⟩
  intro hne
  have hpos : 0 < ss.length := by
   rcases Nat.eq_zero_or_pos ss.length with h | h
   ·have : ss = [] := List.eq_nil_of_length_eq_zero h
    subst this; simp [txs] at hne
   ·exact h
  obtain ⟨b, o, sp⟩ := x
  have hx0 := plain_addr (hcell 0 hpos)
  rw [Addr.add_zero'] at hx0
  simp only [Addr.mk.injEq, true_and] at hx0
  subst hx0
  refine ⟨b, o, rfl, fun j u hj => ?_⟩
  have hjl : j < n ∧ j < ss.length := by
   have := (List.getElem?_eq_some_iff.1 hj).1
   simp [txs] at this
   omega
  have h1 := hcell j hjl.2
  have h2 : (⟨b, o, none⟩ : Addr).add j = ⟨b, o + j, none⟩ := by
   unfold Addr.add; split <;> simp_all
  rw [← h2, h1]
  simp only [txs, List.getElem?_map, List.getElem?_take, hjl.1, if_true, List.getElem?_eq_getElem hjl.2, Option.map_some, Option.some.injEq] at hj
  rw [← hj]
  simp [List.getD, List.getElem?_eq_getElem hjl.2]
theorem arr2_arg {H : Type} {enc : TypeId × Value → H} {P : Program} {W : World} {base t e : Nat} (hu : P.underlying t = some (.array 2 e)) (he : P.underlying e = some (.int .u32)) (hc : P.cellsOf e = 1) (hc2 : P.cellsOf t = 2)
  {v : Value} {d : DataW H} {p : List MemPlace} (hv : Value.okWide P W .any base t v) (h : DataW.Trod enc P W 0 (fun _ => true) true t v d p) :
  ∃ x y, v = .agg #[.int .u32 x, .int .u32 y] ∧ (0 ≤ x ∧ x ≤ 4294967295) ∧ (0 ≤ y ∧ y ≤ 4294967295) := by
 obtain ⟨cs, rfl, hsz, _⟩ : ∃ cs, v = .agg cs ∧ cs.size = P.cellsOf t ∧ True := by
  unfold Value.okWide at hv
  rw [hu] at hv
  obtain ⟨cs, h1, h2, _⟩ := hv
  exact ⟨cs, h1, h2, trivial⟩
 obtain ⟨c0, c1, rfl⟩ : ∃ c0 c1, cs = #[c0, c1] := by
  rw [hc2] at hsz
  match cs, hsz with
  | ⟨[a, b]⟩, _ => exact ⟨a, b, rfl⟩
 obtain ⟨fuel, hf⟩ := h
 obtain ⟨xs, m, _, _, _, hxl, hx⟩ := DataW.trod_array hu hf
 have h0 := hx 0 (by omega)
 have h1 := hx 1 (by omega)
 rw [hc] at h0 h1
 simp only [Value.cells, Nat.zero_mul, Nat.one_mul, List.drop_zero, List.drop_succ_cons, List.take_succ_cons, List.take_zero] at h0 h1
 match xs, hxl with
 | [y0, y1], _ =>
  obtain ⟨a, e0, _, wa⟩ := DataW.trod_int he h0
  obtain ⟨b, e1, _, wb⟩ := DataW.trod_int he h1
  simp only [List.cons.injEq, and_true] at e0 e1
  subst e0 e1
  exact ⟨a, b, rfl, by simpa [Lit.wf, IntKind.min, IntKind.max, IntKind.signed, IntKind.bits] using wa, by simpa [Lit.wf, IntKind.min, IntKind.max, IntKind.signed, IntKind.bits] using wb⟩
end Go.Proofs.YtbpfabhlngfciaaGreatDoor.Args
namespace Go.Proofs.YtbpfabhlngfciaaGreatDoor.Args
open Go.ChangeShapes Go.WideShapes Go.ChangeAt Go.RowKit
open Base
theorem mem_weights {H : Type} (P : Program) (e : TypeId) : ∀ (l : List ByteArray) (s : ByteArray), s ∈ l → s.data.toList.length ∈ DataW.weightsAll P e (l.map fun s => (DataW.lit (.string s.data.toList) : DataW H))
 | x :: l, s, h => by
  simp only [List.map_cons, DataW.weightsAll, DataW.weights, List.mem_append]
  rcases List.mem_cons.1 h with rfl | h
  ·left; simp
  ·right; exact mem_weights P e l s h
theorem strs_reach {H : Type} {P : Program} {ts : List TypeId} {ds : List (DataW H)} (h : (DataW.weightsEach P ts ds).all (· ≤ reachBytes) = true) {j t e : Nat} {d : DataW H} {n c : Nat} {l : List ByteArray}
  (ht : ts[j]? = some t) (hd : ds[j]? = some d) (hu : P.underlying t = some (.slice e)) (hl : l.length = n) (hw : (d = .nil ∧ n = 0) ∨ ∃ sp, d = .slice (l.map fun s => .lit (.string s.data.toList)) sp ∧ sp.length = c - n) : ∀ s ∈ l, s.size ≤ 140737488351232 := by
 intro s hs
 rcases hw with ⟨_, rfl⟩ | ⟨sp, rfl, h2⟩
 ·have := List.eq_nil_of_length_eq_zero hl
  subst this
  cases hs
 ·have h1 := List.all_eq_true.1 h _ (DataW.weights_mem_each ht hd s.data.toList.length (by
   simp only [DataW.weights, hu, List.mem_cons, List.mem_append]
   exact .inr (.inl (mem_weights P e l s hs))))
  have h1' : s.data.toList.length ≤ reachBytes := of_decide_eq_true h1
  unfold reachBytes at h1'
  have e : s.data.toList.length = s.size := Array.length_toList
  omega
end Go.Proofs.YtbpfabhlngfciaaGreatDoor.Args
namespace Go.Proofs.YtbpfabhlngfciaaGreatDoor.canonLogs
open Go.ChangeShapes Go.WideShapes Go.ChangeAt Go.RowKit
open Go.ChangeMaps (open_string shut_string)
open Base Args
theorem own : ownKnob Tryz.prog.godebug = none := by kernel_rfl
theorem laidOut : laidOutB Tryz.prog = true := by kernel_rfl
theorem laid_met (os : Os) : laidMet Tryz.prog Rows.canonLogsRow.laid ((Cn.laidWorld os).forCall (fun _ _ => 0) ⟨#[], #[.slice none 0 0], []⟩).memory :=
 laidMet_of_run' 8 (by kernel_rfl) (by kernel_rfl)
theorem reads (os : Os) {H : Type} (enc : TypeId × Value → H) : ∃ places, DataW.whole enc Tryz.prog ((Cn.laidWorld os).forCall (fun _ _ => 0) ⟨#[], #[.slice none 0 0], []⟩).memory Tryz.f7.params.toList Rows.canonLogsSpec.vars false (#[.slice none 0 0] : Array Value).toList 8 = some ([.nil], [], places) :=
 ⟨[], by kernel_rfl⟩
theorem lifted (os : Os) (started : os.Started) (H : Type) (enc : TypeId × Value → H) (F : Stop.Interp) :
  ReturnsInHanded {} Tryz.checked os 7 .any ((OpenSpec.ofChange Rows.canonLogsSpec).preRow enc Tryz.prog Tryz.f7 Rows.canonLogsRow.domain false Rows.canonLogsRow.laid) (((OpenSpec.ofChange Rows.canonLogsSpec).at F).post enc Tryz.prog Tryz.f7 false true false false) := by
 obtain ⟨places, hx⟩ := reads os enc
 refine returnsInHanded_of_row (C := Tryz.checked) (s := (OpenSpec.ofChange Rows.canonLogsSpec)) own started (by kernel_rfl) Tryz.func7
  (witness_row_at (enc := enc) (C := Tryz.checked) false (Cn.laidWorld os) #[.slice none 0 0] rfl (by kernel_rfl) (by kernel_rfl) (by kernel_rfl)
   (OpenSpec.preRow_of_cond 8 hx (by kernel_rfl) (fun k hk => by cases hk) (by kernel_rfl) (laid_met os))) ?_
 intro W base args ds gs before hval0 hW hcnd hk0 hsz0 hL _ _
 have hval : ∀ (j : Nat) t v, Tryz.f7.params[j]? = some t → args[j]? = some v → Value.okWide Tryz.prog W .any base t v := hval0
 have hW' := hW
 obtain ⟨p, q, hAz, hV, rfl, hfz, hnd⟩ := hW
 have hA : DataW.TrodAll enc Tryz.prog W 0 (fun _ => true) true Tryz.f7.params.toList args.toList ds p := hAz
 have hsz : (DataW.weightsEach Tryz.prog (Tryz.f7.params.toList ++ Rows.canonLogsSpec.plain.varTypes Tryz.prog) (ds ++ gs)).all (· ≤ reachBytes) = true := hsz0
 rw [Tryz.params7] at hA hval hsz
 obtain ⟨v0, vs0, d0, ds0, p0, q0, hargs, rfl, rfl, h0, r0⟩ := trodAll_cons hA
 obtain ⟨rfl, rfl, rfl⟩ := trodAll_nil r0
 obtain rfl : args = #[v0] := by cases args; simp_all
 obtain ⟨rfl, rfl⟩ := trodVars_none hV
 have k0 := h0
 have lt0 : ∀ x ∈ p0, x.block < W.heap.size := by obtain ⟨m, hm⟩ := k0; exact DataW.trod_lt m _ _ _ hm
 obtain ⟨A0, n0, c0, l0, rfl, hl0, hr0, hc0, hm0, hA0, hs0, hd0⟩ := strs_arg Tryz.underlying48 Tryz.underlying9 (by kernel_rfl) (hval 0 48 v0 rfl rfl) h0
 have hz0 := strs_reach hsz (j := 0) (t := 48) rfl rfl Tryz.underlying48 hl0 hd0
 clear hAz hval0
 refine (Cn.logs_any A0 n0 c0 l0 W (Cn.tabs8 hL).1 (Cn.tabs8 hL).2.1 (Cn.tabs8 hL).2.2 hl0 hr0 hA0 hc0 hm0 hz0).mono fun e W' ⟨he, bel⟩ => ?_
 have bel : Below W.heap.size W W' := bel
 subst he
 exact ⟨_, rfl, _, _, _, [], _, [], hW', trodAll_mk1 (shut_bool Tryz.underlying4 _), (trodAll_cons_mk (Below.trod laidOut (by kernel_rfl) (of_decide_eq_true (by kernel_rfl)) k0 bel lt0) trodAll_mk0), rfl, bel.frame _, fun h => by cases h⟩
theorem said : Rows.CanonLogsSaid :=
 OpenClaim.holds_of_cond 7 Tryz.f7 rfl rfl rfl rfl rfl rfl rfl ⟨rfl, rfl, rfl, rfl, rfl⟩ rfl rfl rfl rfl rfl (by kernel_rfl) Tryz.func7 (by kernel_rfl)
  (of_decide_eq_true (by kernel_rfl)) (by unfold Func.isWrapper; first | (rw [if_pos (by decide +kernel)]; kernel_rfl) | (rw [if_neg (by decide +kernel)]; exact ⟨rfl, rfl⟩))
  (fun os started H enc _ F => by rw [OpenClaim.pre_eq_preRow]; exact lifted os started H enc F)
theorem plain (f : FuncId) (fn : Func) (hf : Tryz.pinned.checked.prog.funcNamed "suffragan/suffraganlaw08.CanonLogs" = some f) (hfn : Tryz.pinned.checked.prog.funcs[f]? = some fn) :
  true = Tryz.pinned.checked.prog.looks [] ∧ ∀ (j : Nat) t, fn.params[j]? = some t → Tryz.pinned.checked.prog.wantsStandIn t = false := by
 obtain rfl : f = 7 := Option.some.inj ((show Tryz.prog.funcNamed "suffragan/suffraganlaw08.CanonLogs" = some 7 by kernel_rfl).symm.trans hf) |>.symm
 obtain rfl : fn = Tryz.f7 := (Option.some.inj (Tryz.func7.symm.trans hfn)).symm
 refine ⟨by kernel_rfl, fun j t ht => ?_⟩
 rw [Tryz.params7] at ht
 have hm := Array.mem_of_getElem? ht
 simp only [Array.mem_def, List.mem_cons, List.mem_nil_iff, or_false, or_self] at hm
 subst hm
 exact (show Tryz.prog.wantsStandIn 48 = false by kernel_rfl)
theorem proved : Rows.CanonLogsCardSaid :=
 Claim7.holds_tied_plain_at .later [] _ _ _ _ said (fun _ h => by cases h) (by kernel_rfl) (fun _ h => by cases h) canonLogs_row_tie rfl ⟨rfl, rfl⟩ (by kernel_rfl) rfl plain (by kernel_rfl)
#print axioms proved
end Go.Proofs.YtbpfabhlngfciaaGreatDoor.canonLogs
