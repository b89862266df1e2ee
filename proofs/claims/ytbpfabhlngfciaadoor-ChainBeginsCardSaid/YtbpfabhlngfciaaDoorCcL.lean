/- prefix: numbers put, walked. -/
import Derived.Test.YtbpfabhlngfciaaDoorCcK
import Derived.Maps.AppendAt
namespace Go.Proofs.YtbpfabhlngfciaaDoor.Pf
open Go.ChangeShapes Go.WideShapes Go.ChangeAt Go.RowKit
open Base
set_option linter.unusedVariables false
set_option linter.unusedSimpArgs false

theorem el8 : El Tryd.prog 29 5 (.int .u8 0) 1 1 := ⟨by kernel_rfl, by kernel_rfl, rfl, by omega⟩
/-- a row of one's own grown: all below stays -/
theorem grw {B : Nat} {w w1 w' : World} {v : Value} {n : Nat} {xs : List Value} (hB : B ≤ w.heap.size) (ho : w.ownsRow B 5 1 v n xs) (hx : Ext w w1) (hg : w1.grownBy w' v.ownBlock) : Below B w w' :=
  Below.grown (Below.mono hx hB) hg (Nat.le_trans hB hx.size) (fun k hk => (ho.lt k hk).1)
/-- a row of bytes of one's own -/
abbrev Ow (B : Nat) (w : World) (v : Value) (l : List UInt8) : Prop := w.ownsRow B 5 1 v l.length (u8s l)
set_option maxRecDepth 100000 in
theorem clone_any (A : Option Addr) (n c : Nat) (l : List UInt8) (w : World) (hr : Rb w A l) (hl : l.length = n) (hA : A = none → c = 0) (hn : n ≤ 140737488355328) :
    Calls Tryd.prog 14 #[.slice A n c] w fun e w' => ∃ v, e = .returned v ∧ Ow w.heap.size w' v l ∧ Ext w w' := by
  cases A with
  | none =>
    have hnil : l = [] := by
      apply Classical.byContradiction
      intro h
      obtain ⟨b, off, e, _⟩ := hr (by simpa [u8s] using h)
      cases e
    subst hnil
    obtain rfl : n = 0 := by simpa using hl.symm
    obtain rfl : c = 0 := hA rfl
    have e1 : (binOp BinOp.eql 29 (.slice none 0 0) (.slice none 0 0)).run Tryd.prog w = .ok (.bool true) w := by kernel_rfl
    go_enter Tryd.func14, Tryd.ntmps14
    go_wp2_with fail
    go_ret
    exact ⟨_, rfl, World.ownsRow_nil _ _ _ _, Ext.refl w⟩
  | some a =>
    replace hA := Lib.hid hA
    have hl2 : (u8s l).length = n * 1 := by rw [u8s_length]; omega
    have hln := Lib.hid hl
    replace hl2 := Lib.hid hl2
    clear hl
    have e1 : (binOp BinOp.eql 29 (.slice (some a) n c) (.slice none 0 0)).run Tryd.prog w = .ok (.bool false) w := by kernel_rfl
    go_enter Tryd.func14, Tryd.ntmps14
    go_wp2_with (
      refine wpList_app el8 _ rfl (.tmp 5) (.tmp 6) rfl w.heap.size _ 0 [] rfl (World.ownsRow_lit w #[] 0 (Nat.le_refl _) (Nat.zero_le _) rfl) (some a) n c (u8s l) rfl (Rd.ext hr ((Ext.refl _).alloc _)) hl2.out hA.out (u8s_one l) (by omega) (by omega) (by simp) (fun V1 w1 ho1 hg1 hv1 => ?_))
    go_ret
    refine ⟨_, rfl, ?_, ?_⟩
    · have := ho1; rw [List.nil_append, Nat.zero_add] at this; show w1.ownsRow _ _ _ _ l.length _; rw [hln.out]; exact this
    · exact Ext.then_grown ((Ext.refl w).alloc _) hg1 (fun k hk => by
        have hk : some w.heap.size = some k := hk
        injection hk with hk
        omega)
theorem class_any (n : Nat) (hn : n < 18446744073709551616) (w : World) : Calls Tryd.prog 25 #[.int .u64 (n : Int)] w fun e w' => e = .returned (.int .i64 (cls n)) ∧ w = w' := by
  obtain ⟨r, hr⟩ : ∃ r, Hid (cls n = r) := ⟨_, Lib.hid rfl⟩
  rw [hr.out]
  by_cases h3 : 4611686018427387904 ≤ n
  · have e : r = -1 := by rw [← hr.out, cls, if_pos h3]
    subst e
    have h3' : (4611686018427387904 : Int) ≤ (n : Int) := by omega
    clear h3 hn
    go_enter Tryd.func25, Tryd.ntmps25
    go_wp2_with fail
    go_ret
    exact ⟨rfl, rfl⟩
  have h3' : ¬ (4611686018427387904 : Int) ≤ (n : Int) := by omega
  by_cases h2 : 1073741824 ≤ n
  · have e : r = 3 := by rw [← hr.out, cls, if_neg h3, if_pos h2]
    subst e
    have h2' : (1073741824 : Int) ≤ (n : Int) := by omega
    clear h3 hn h2
    go_enter Tryd.func25, Tryd.ntmps25
    go_wp2_with fail
    go_ret
    exact ⟨rfl, rfl⟩
  have h2' : ¬ (1073741824 : Int) ≤ (n : Int) := by omega
  by_cases h1 : 16384 ≤ n
  · have e : r = 2 := by rw [← hr.out, cls, if_neg h3, if_neg h2, if_pos h1]
    subst e
    have h1' : (16384 : Int) ≤ (n : Int) := by omega
    clear h3 hn h2 h1
    go_enter Tryd.func25, Tryd.ntmps25
    go_wp2_with fail
    go_ret
    exact ⟨rfl, rfl⟩
  have h1' : ¬ (16384 : Int) ≤ (n : Int) := by omega
  by_cases h0 : 64 ≤ n
  · have e : r = 1 := by rw [← hr.out, cls, if_neg h3, if_neg h2, if_neg h1, if_pos h0]
    subst e
    have h0' : (64 : Int) ≤ (n : Int) := by omega
    clear h3 hn h2 h1 h0
    go_enter Tryd.func25, Tryd.ntmps25
    go_wp2_with fail
    go_ret
    exact ⟨rfl, rfl⟩
  · have e : r = 0 := by rw [← hr.out, cls, if_neg h3, if_neg h2, if_neg h1, if_neg h0]
    subst e
    have h0' : ¬ (64 : Int) ≤ (n : Int) := by omega
    clear h3 hn h2 h1 h0
    go_enter Tryd.func25, Tryd.ntmps25
    go_wp2_with fail
    go_ret
    exact ⟨rfl, rfl⟩
theorem ints8_one (l : List Int) : ∀ u ∈ l.map (Value.int .u8), u.oneCell' = true := by
  intro u hu
  obtain ⟨x, _, rfl⟩ := List.mem_map.1 hu
  rfl
theorem u8_be (m v : Nat) : u8s (be (m + 1) v) = .int .u8 ((v : Int) / ((256 ^ m : Nat) : Int) % 256) :: u8s (be m v) := by
  rw [be]
  simp only [u8s, List.map_cons, List.cons.injEq, Value.int.injEq, true_and, and_true]
  rw [UInt8.toNat_ofNat_of_lt' (by show _ % 256 < 256; omega)]
  rfl
theorem or_top (a b i m : Nat) (hm : m = 2 ^ i) (h : a < m) : a ||| (b * m) = a + b * m := by
  have h1 := Nat.shiftLeft_add_eq_or_of_lt (i := i) (b := a) (by omega) b
  rw [Nat.shiftLeft_eq, ← hm] at h1
  rw [Nat.or_comm, ← h1, Nat.add_comm]
set_option maxRecDepth 100000 in
set_option maxHeartbeats 1000000 in
theorem put_0 (B : Nat) (A : Option Addr) (m cap : Nat) (l : List UInt8) (n : Nat) (w : World) (ho : w.ownsRow B 5 1 (.slice A m cap) m (u8s l)) (hB : B ≤ w.heap.size) (hn : n < 64) (hm : m ≤ 140737488355000) :
    Calls Tryd.prog 26 #[.slice A m cap, .int .u64 (n : Int), .int .i64 0] w fun e w' => ∃ A' c', e = .returned (.slice A' (m + 1) c') ∧ w'.ownsRow B 5 1 (.slice A' (m + 1) c') (m + 1) (u8s (l ++ putP n 0)) ∧ Below B w w' := by
  obtain ⟨v, hv⟩ : ∃ v, v = n := ⟨_, rfl⟩
  have hp : putP n 0 = be 1 v := by rw [hv]; rfl
  subst hv
  have hor : bits BinOp.or IntKind.u64 (v : Int) 0 = (v : Int) := by
    rw [show (0 : Int) = ((0 : Nat) : Int) from rfl, u64_or_nat v 0 (by omega) (by decide), Nat.or_zero]
  have hrow : u8s (l ++ be 1 v) = (u8s l ++ [(v : Int) % 256].map (Value.int .u8)) := by
    rw [u8s_append, u8_be]
    simp [u8s, be]
  rw [hp, hrow]
  clear hp hrow hn
  try clear hv
  have hx0 := (Ext.refl w)
  go_enter Tryd.func26, Tryd.ntmps26
  go_wp2_with (first
    | (refine wpList_app el8 _ rfl (.tmp 52) (.tmp 55) rfl B (.slice A (m) cap) (m) (u8s l) rfl (own_ext ho ((Ext.refl w).alloc _)) (some ⟨w.heap.size, 0, none⟩) 1 1 ([(v : Int) % 256].map (Value.int .u8)) rfl (Rd.of_block w 5 (0, 0) rfl) rfl (fun h => by cases h) (ints8_one _) (by omega) (by omega) (by simp; omega) (fun V0 w0 ho0 hg0 hv0 => ?_)
       obtain ⟨A0, c0, rfl, jj1, jj2, jj3, jj4⟩ := Rd.of_own ho0
       have gr0 := grw hB ho ((Ext.refl w).alloc _) hg0
       have hz0 : B ≤ w0.heap.size := by have := gr0.size; omega
       clear jj1 jj2 jj3 jj4 hg0 hv0))
  go_ret
  exact ⟨_, _, rfl, ho0, gr0⟩
set_option maxRecDepth 100000 in
set_option maxHeartbeats 1000000 in
theorem put_1 (B : Nat) (A : Option Addr) (m cap : Nat) (l : List UInt8) (n : Nat) (w : World) (ho : w.ownsRow B 5 1 (.slice A m cap) m (u8s l)) (hB : B ≤ w.heap.size) (hn : n < 16384) (hm : m ≤ 140737488355000) :
    Calls Tryd.prog 26 #[.slice A m cap, .int .u64 (n : Int), .int .i64 1] w fun e w' => ∃ A' c', e = .returned (.slice A' (m + 2) c') ∧ w'.ownsRow B 5 1 (.slice A' (m + 2) c') (m + 2) (u8s (l ++ putP n 1)) ∧ Below B w w' := by
  obtain ⟨v, hv⟩ : ∃ v, v = n + 16384 := ⟨_, rfl⟩
  have hp : putP n 1 = be 2 v := by rw [hv]; rfl
  have hor : bits BinOp.or IntKind.u64 (n : Int) 16384 = (v : Int) := by
    rw [show (16384 : Int) = ((16384 : Nat) : Int) from rfl, u64_or_nat n 16384 (by omega) (by decide), show 16384 = 1 * 16384 from rfl, or_top n 1 14 16384 (by decide) (by omega), hv]
  have hrow : u8s (l ++ be 2 v) = ((u8s l ++ [(v : Int) / 256 % 256].map (Value.int .u8)) ++ [(v : Int) % 256].map (Value.int .u8)) := by
    rw [u8s_append, u8_be, u8_be]
    simp [u8s, be]
  rw [hp, hrow]
  clear hp hrow hn
  try clear hv
  have hx0 := (Ext.refl w)
  go_enter Tryd.func26, Tryd.ntmps26
  go_wp2_with (first
    | (refine wpList_app el8 _ rfl (.tmp 46) (.tmp 50) rfl B (.slice A (m) cap) (m) (u8s l) rfl (own_ext ho ((Ext.refl w).alloc _)) (some ⟨w.heap.size, 0, none⟩) 1 1 ([(v : Int) / 256 % 256].map (Value.int .u8)) rfl (Rd.of_block w 5 (0, 0) rfl) rfl (fun h => by cases h) (ints8_one _) (by omega) (by omega) (by simp; omega) (fun V0 w0 ho0 hg0 hv0 => ?_)
       obtain ⟨A0, c0, rfl, jj1, jj2, jj3, jj4⟩ := Rd.of_own ho0
       have gr0 := grw hB ho ((Ext.refl w).alloc _) hg0
       have hz0 : B ≤ w0.heap.size := by have := gr0.size; omega
       clear jj1 jj2 jj3 jj4 hg0 hv0)
    | (refine wpList_app el8 _ rfl (.tmp 52) (.tmp 55) rfl B (.slice A0 (m + 1) c0) (m + 1) ((u8s l) ++ [(v : Int) / 256 % 256].map (Value.int .u8)) rfl (own_ext ho0 ((Ext.refl w0).alloc _)) (some ⟨w0.heap.size, 0, none⟩) 1 1 ([(v : Int) % 256].map (Value.int .u8)) rfl (Rd.of_block w0 5 (0, 0) rfl) rfl (fun h => by cases h) (ints8_one _) (by omega) (by omega) (by simp; omega) (fun V1 w1 ho1 hg1 hv1 => ?_)
       obtain ⟨A1, c1, rfl, jj1, jj2, jj3, jj4⟩ := Rd.of_own ho1
       have gr1 := grw hz0 ho0 ((Ext.refl w0).alloc _) hg1
       have hz1 : B ≤ w1.heap.size := by have := gr1.size; omega
       clear jj1 jj2 jj3 jj4 hg1 hv1))
  go_ret
  exact ⟨_, _, rfl, ho1, (gr0).trans gr1⟩
set_option maxRecDepth 100000 in
set_option maxHeartbeats 1000000 in
theorem put_2 (B : Nat) (A : Option Addr) (m cap : Nat) (l : List UInt8) (n : Nat) (w : World) (ho : w.ownsRow B 5 1 (.slice A m cap) m (u8s l)) (hB : B ≤ w.heap.size) (hn : n < 1073741824) (hm : m ≤ 140737488355000) :
    Calls Tryd.prog 26 #[.slice A m cap, .int .u64 (n : Int), .int .i64 2] w fun e w' => ∃ A' c', e = .returned (.slice A' (m + 4) c') ∧ w'.ownsRow B 5 1 (.slice A' (m + 4) c') (m + 4) (u8s (l ++ putP n 2)) ∧ Below B w w' := by
  obtain ⟨v, hv⟩ : ∃ v, v = n + 2147483648 := ⟨_, rfl⟩
  have hp : putP n 2 = be 4 v := by rw [hv]; rfl
  have hor : bits BinOp.or IntKind.u64 (n : Int) 2147483648 = (v : Int) := by
    rw [show (2147483648 : Int) = ((2147483648 : Nat) : Int) from rfl, u64_or_nat n 2147483648 (by omega) (by decide), show 2147483648 = 2 * 1073741824 from rfl, or_top n 2 30 1073741824 (by decide) (by omega), hv]
  have hrow : u8s (l ++ be 4 v) = (((u8s l ++ [(v : Int) / 16777216 % 256, (v : Int) / 65536 % 256].map (Value.int .u8)) ++ [(v : Int) / 256 % 256].map (Value.int .u8)) ++ [(v : Int) % 256].map (Value.int .u8)) := by
    rw [u8s_append, u8_be, u8_be, u8_be, u8_be]
    simp [u8s, be]
  rw [hp, hrow]
  clear hp hrow hn
  try clear hv
  have hx0 := (Ext.refl w)
  go_enter Tryd.func26, Tryd.ntmps26
  go_wp2_with (first
    | (refine wpList_app el8 _ rfl (.tmp 37) (.tmp 44) rfl B (.slice A (m) cap) (m) (u8s l) rfl (own_ext ho ((Ext.refl w).alloc _)) (some ⟨w.heap.size, 0, none⟩) 2 2 ([(v : Int) / 16777216 % 256, (v : Int) / 65536 % 256].map (Value.int .u8)) rfl (Rd.of_block w 5 (0, 0) rfl) rfl (fun h => by cases h) (ints8_one _) (by omega) (by omega) (by simp; omega) (fun V0 w0 ho0 hg0 hv0 => ?_)
       obtain ⟨A0, c0, rfl, jj1, jj2, jj3, jj4⟩ := Rd.of_own ho0
       have gr0 := grw hB ho ((Ext.refl w).alloc _) hg0
       have hz0 : B ≤ w0.heap.size := by have := gr0.size; omega
       clear jj1 jj2 jj3 jj4 hg0 hv0)
    | (refine wpList_app el8 _ rfl (.tmp 46) (.tmp 50) rfl B (.slice A0 (m + 2) c0) (m + 2) ((u8s l) ++ [(v : Int) / 16777216 % 256, (v : Int) / 65536 % 256].map (Value.int .u8)) rfl (own_ext ho0 ((Ext.refl w0).alloc _)) (some ⟨w0.heap.size, 0, none⟩) 1 1 ([(v : Int) / 256 % 256].map (Value.int .u8)) rfl (Rd.of_block w0 5 (0, 0) rfl) rfl (fun h => by cases h) (ints8_one _) (by omega) (by omega) (by simp; omega) (fun V1 w1 ho1 hg1 hv1 => ?_)
       obtain ⟨A1, c1, rfl, jj1, jj2, jj3, jj4⟩ := Rd.of_own ho1
       have gr1 := grw hz0 ho0 ((Ext.refl w0).alloc _) hg1
       have hz1 : B ≤ w1.heap.size := by have := gr1.size; omega
       clear jj1 jj2 jj3 jj4 hg1 hv1)
    | (refine wpList_app el8 _ rfl (.tmp 52) (.tmp 55) rfl B (.slice A1 (m + 2 + 1) c1) (m + 2 + 1) (((u8s l) ++ [(v : Int) / 16777216 % 256, (v : Int) / 65536 % 256].map (Value.int .u8)) ++ [(v : Int) / 256 % 256].map (Value.int .u8)) rfl (own_ext ho1 ((Ext.refl w1).alloc _)) (some ⟨w1.heap.size, 0, none⟩) 1 1 ([(v : Int) % 256].map (Value.int .u8)) rfl (Rd.of_block w1 5 (0, 0) rfl) rfl (fun h => by cases h) (ints8_one _) (by omega) (by omega) (by simp; omega) (fun V2 w2 ho2 hg2 hv2 => ?_)
       obtain ⟨A2, c2, rfl, jj1, jj2, jj3, jj4⟩ := Rd.of_own ho2
       have gr2 := grw hz1 ho1 ((Ext.refl w1).alloc _) hg2
       have hz2 : B ≤ w2.heap.size := by have := gr2.size; omega
       clear jj1 jj2 jj3 jj4 hg2 hv2))
  go_ret
  exact ⟨_, _, rfl, ho2, ((gr0).trans gr1).trans gr2⟩
set_option maxRecDepth 100000 in
set_option maxHeartbeats 1000000 in
theorem put_3 (B : Nat) (A : Option Addr) (m cap : Nat) (l : List UInt8) (n : Nat) (w : World) (ho : w.ownsRow B 5 1 (.slice A m cap) m (u8s l)) (hB : B ≤ w.heap.size) (hn : n < 4611686018427387904) (hm : m ≤ 140737488355000) :
    Calls Tryd.prog 26 #[.slice A m cap, .int .u64 (n : Int), .int .i64 3] w fun e w' => ∃ A' c', e = .returned (.slice A' (m + 8) c') ∧ w'.ownsRow B 5 1 (.slice A' (m + 8) c') (m + 8) (u8s (l ++ putP n 3)) ∧ Below B w w' := by
  obtain ⟨v, hv⟩ : ∃ v, v = n + 13835058055282163712 := ⟨_, rfl⟩
  have hp : putP n 3 = be 8 v := by rw [hv]; rfl
  have hor : bits BinOp.or IntKind.u64 (n : Int) 13835058055282163712 = (v : Int) := by
    rw [show (13835058055282163712 : Int) = ((13835058055282163712 : Nat) : Int) from rfl, u64_or_nat n 13835058055282163712 (by omega) (by decide), show 13835058055282163712 = 3 * 4611686018427387904 from rfl, or_top n 3 62 4611686018427387904 (by decide) (by omega), hv]
  have hrow : u8s (l ++ be 8 v) = ((((u8s l ++ [(v : Int) / 72057594037927936 % 256, (v : Int) / 281474976710656 % 256, (v : Int) / 1099511627776 % 256, (v : Int) / 4294967296 % 256].map (Value.int .u8)) ++ [(v : Int) / 16777216 % 256, (v : Int) / 65536 % 256].map (Value.int .u8)) ++ [(v : Int) / 256 % 256].map (Value.int .u8)) ++ [(v : Int) % 256].map (Value.int .u8)) := by
    rw [u8s_append, u8_be, u8_be, u8_be, u8_be, u8_be, u8_be, u8_be, u8_be]
    simp [u8s, be]
  rw [hp, hrow]
  clear hp hrow hn
  try clear hv
  have hx0 := (Ext.refl w)
  go_enter Tryd.func26, Tryd.ntmps26
  go_wp2_with (first
    | (refine wpList_app el8 _ rfl (.tmp 22) (.tmp 35) rfl B (.slice A (m) cap) (m) (u8s l) rfl (own_ext ho ((Ext.refl w).alloc _)) (some ⟨w.heap.size, 0, none⟩) 4 4 ([(v : Int) / 72057594037927936 % 256, (v : Int) / 281474976710656 % 256, (v : Int) / 1099511627776 % 256, (v : Int) / 4294967296 % 256].map (Value.int .u8)) rfl (Rd.of_block w 5 (0, 0) rfl) rfl (fun h => by cases h) (ints8_one _) (by omega) (by omega) (by simp; omega) (fun V0 w0 ho0 hg0 hv0 => ?_)
       obtain ⟨A0, c0, rfl, jj1, jj2, jj3, jj4⟩ := Rd.of_own ho0
       have gr0 := grw hB ho ((Ext.refl w).alloc _) hg0
       have hz0 : B ≤ w0.heap.size := by have := gr0.size; omega
       clear jj1 jj2 jj3 jj4 hg0 hv0)
    | (refine wpList_app el8 _ rfl (.tmp 37) (.tmp 44) rfl B (.slice A0 (m + 4) c0) (m + 4) ((u8s l) ++ [(v : Int) / 72057594037927936 % 256, (v : Int) / 281474976710656 % 256, (v : Int) / 1099511627776 % 256, (v : Int) / 4294967296 % 256].map (Value.int .u8)) rfl (own_ext ho0 ((Ext.refl w0).alloc _)) (some ⟨w0.heap.size, 0, none⟩) 2 2 ([(v : Int) / 16777216 % 256, (v : Int) / 65536 % 256].map (Value.int .u8)) rfl (Rd.of_block w0 5 (0, 0) rfl) rfl (fun h => by cases h) (ints8_one _) (by omega) (by omega) (by simp; omega) (fun V1 w1 ho1 hg1 hv1 => ?_)
       obtain ⟨A1, c1, rfl, jj1, jj2, jj3, jj4⟩ := Rd.of_own ho1
       have gr1 := grw hz0 ho0 ((Ext.refl w0).alloc _) hg1
       have hz1 : B ≤ w1.heap.size := by have := gr1.size; omega
       clear jj1 jj2 jj3 jj4 hg1 hv1)
    | (refine wpList_app el8 _ rfl (.tmp 46) (.tmp 50) rfl B (.slice A1 (m + 4 + 2) c1) (m + 4 + 2) (((u8s l) ++ [(v : Int) / 72057594037927936 % 256, (v : Int) / 281474976710656 % 256, (v : Int) / 1099511627776 % 256, (v : Int) / 4294967296 % 256].map (Value.int .u8)) ++ [(v : Int) / 16777216 % 256, (v : Int) / 65536 % 256].map (Value.int .u8)) rfl (own_ext ho1 ((Ext.refl w1).alloc _)) (some ⟨w1.heap.size, 0, none⟩) 1 1 ([(v : Int) / 256 % 256].map (Value.int .u8)) rfl (Rd.of_block w1 5 (0, 0) rfl) rfl (fun h => by cases h) (ints8_one _) (by omega) (by omega) (by simp; omega) (fun V2 w2 ho2 hg2 hv2 => ?_)
       obtain ⟨A2, c2, rfl, jj1, jj2, jj3, jj4⟩ := Rd.of_own ho2
       have gr2 := grw hz1 ho1 ((Ext.refl w1).alloc _) hg2
       have hz2 : B ≤ w2.heap.size := by have := gr2.size; omega
       clear jj1 jj2 jj3 jj4 hg2 hv2)
    | (refine wpList_app el8 _ rfl (.tmp 52) (.tmp 55) rfl B (.slice A2 (m + 4 + 2 + 1) c2) (m + 4 + 2 + 1) ((((u8s l) ++ [(v : Int) / 72057594037927936 % 256, (v : Int) / 281474976710656 % 256, (v : Int) / 1099511627776 % 256, (v : Int) / 4294967296 % 256].map (Value.int .u8)) ++ [(v : Int) / 16777216 % 256, (v : Int) / 65536 % 256].map (Value.int .u8)) ++ [(v : Int) / 256 % 256].map (Value.int .u8)) rfl (own_ext ho2 ((Ext.refl w2).alloc _)) (some ⟨w2.heap.size, 0, none⟩) 1 1 ([(v : Int) % 256].map (Value.int .u8)) rfl (Rd.of_block w2 5 (0, 0) rfl) rfl (fun h => by cases h) (ints8_one _) (by omega) (by omega) (by simp; omega) (fun V3 w3 ho3 hg3 hv3 => ?_)
       obtain ⟨A3, c3, rfl, jj1, jj2, jj3, jj4⟩ := Rd.of_own ho3
       have gr3 := grw hz2 ho2 ((Ext.refl w2).alloc _) hg3
       have hz3 : B ≤ w3.heap.size := by have := gr3.size; omega
       clear jj1 jj2 jj3 jj4 hg3 hv3))
  go_ret
  exact ⟨_, _, rfl, ho3, (((gr0).trans gr1).trans gr2).trans gr3⟩
end Go.Proofs.YtbpfabhlngfciaaDoor.Pf
/- A slice of a slice of one-cell elements, in one step, whatever its address. -/
namespace Go.Proofs.YtbpfabhlngfciaaDoor.Base
open Go.ChangeShapes Go.WideShapes Go.ChangeAt Go.RowKit
set_option linter.unusedVariables false

/-- the address of a slice from l on, of capacity c -/
def cutA (A : Option Addr) (c l : Nat) : Option Addr := if c = l then A else A.map (·.add l)
theorem cutA_block {A : Option Addr} {c l : Nat} {a : Addr} (h : cutA A c l = some a) : ∃ a0, A = some a0 ∧ a.block = a0.block := by
  unfold cutA at h
  split at h
  · exact ⟨a, h, rfl⟩
  · cases A with
    | none => cases h
    | some a0 =>
      simp only [Option.map_some, Option.some.injEq] at h
      refine ⟨a0, rfl, ?_⟩
      rw [← h]; unfold Addr.add; split <;> rfl
theorem cutA_none {A : Option Addr} {c l : Nat} (hA : A = none → c = 0) (h : cutA A c l = none) : c - l = 0 := by
  unfold cutA at h
  split at h
  · omega
  · cases A with
    | none => have := hA rfl; omega
    | some a0 => cases h
theorem Rd.cut {w : World} {A : Option Addr} {L : List Value} (h : Rd w A L) {c l k : Nat} (hl : l ≤ k) (hk : k ≤ c) : Rd w (cutA A c l) ((L.take k).drop l) := by
  intro hne
  have hlen : l < (L.take k).length := by
    rcases Nat.lt_or_ge l (L.take k).length with x | x
    · exact x
    · exact absurd (List.drop_eq_nil_of_le x) hne
  have hL : L ≠ [] := by rintro rfl; simp at hlen
  obtain ⟨b, off, rfl, hc⟩ := h hL
  have hlk : l < k := by rw [List.length_take] at hlen; omega
  refine ⟨b, off + l, ?_, fun j u hj => ?_⟩
  · unfold cutA
    rw [if_neg (by omega)]
    simp only [Option.map_some]
    congr 1
    unfold Addr.add; split <;> simp_all
  · rw [List.getElem?_drop, List.getElem?_take] at hj
    split at hj
    · rw [Nat.add_assoc]; exact hc _ u hj
    · cases hj
theorem Rb.cut {w : World} {A : Option Addr} {L : List UInt8} (h : Rb w A L) {c l k : Nat} (hl : l ≤ k) (hk : k ≤ c) : Rb w (cutA A c l) ((L.take k).drop l) := by
  have := Rd.cut h hl hk
  rwa [u8s, ← List.map_take, ← List.map_drop] at this

theorem run_cut {P : Program} {t e : TypeId} (ht : P.underlying t = some (.slice e)) (he : (P.info? e).map (·.size) = some 1) (w : World) (A : Option Addr) (n c l k : Nat) (lo hi : Option Value)
    (hlo : lo = some (.int .i64 (l : Int)) ∨ lo = none ∧ l = 0) (hhi : hi = some (.int .i64 (k : Int)) ∨ hi = none ∧ k = n) (hl : l ≤ k) (hk : k ≤ c) (hn : hi = none → n ≤ c) :
    (Instr.slice t (.slice A n c) lo hi none).run P w = .ok (.slice (cutA A c l) (k - l) (c - l)) w := by
  have h1 : (0 : Int) ≤ (l : Int) ∧ (l : Int) ≤ (k : Int) := by omega
  have h2 : (0 : Int) ≤ (k : Int) ∧ (k : Int) ≤ (c : Int) := by omega
  cases hq : P.info? e with
  | none => simp [hq] at he
  | some i =>
    have hi1 : i.size = 1 := by simpa [hq] using he
    rcases hlo with rfl | ⟨rfl, rfl⟩ <;> rcases hhi with rfl | ⟨rfl, rfl⟩ <;>
      simp [Instr.slice, Instr.sliceBounds, Instr.sliceBound, run_underlying ht, asIntOf, h1, h2, sizeOf, typeInfo, hq, hi1, cutA, go_sem] <;>
      (try rw [if_pos hk, if_pos hl]) <;> (try (intro h; omega))

theorem run_cutAt {P : Program} {t e : TypeId} (ht : P.underlying t = some (.slice e)) (he : (P.info? e).map (·.size) = some 1) (w : World) (A : Option Addr) (n c l k : Nat) (lo hi : Option Value)
    (hlo : lo = some (.int .i64 (l : Int)) ∨ lo = none ∧ l = 0) (hhi : hi = some (.int .i64 (k : Int)) ∨ hi = none ∧ k = n) (hl : l ≤ k) (hk : k ≤ c) (hn : hi = none → n ≤ c) :
    (Instr.sliceAt t (.slice A n c) lo hi none).run P w = .ok (.slice (cutA A c l) (k - l) (c - l)) w := by
  rw [← run_cut ht he w A n c l k lo hi hlo hhi hl hk hn]
  simp [Instr.sliceAt, run_underlying ht]
theorem wpList_cut {P : Program} {ops : Array Oper} {rest : List Oper} {op : Oper} {a : Act} {w : World} {Q : Exit → Act → World → Prop} (hgd : op.guard = none) (t : TypeId) (x : Operand) (lo hi : Option Operand) (ho : op.op = .slice t x lo hi none) (vx v : Value) (vlo vhi : Option Value) (hx : a.eval x = vx) (hlo : lo.map a.eval = vlo) (hhi : hi.map a.eval = vhi)
    (hrun : (Instr.sliceAt t vx vlo vhi none).run P w = .ok v w) (h : wpList P ops Q rest (a.put op.dst v) w) : wpList P ops Q (op :: rest) a w :=
  wpList_plain hgd fun _ hK => by
    unfold Oper.wp execOp
    simp only [ho, hx, hlo, hhi, Option.map_none, Sem.run_bind, Sem.run_pure, Result.andThen_ok, hrun]
    exact hK _ _ h
end Go.Proofs.YtbpfabhlngfciaaDoor.Base
