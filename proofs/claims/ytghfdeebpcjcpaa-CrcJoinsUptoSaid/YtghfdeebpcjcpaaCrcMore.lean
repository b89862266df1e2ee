import Derived.Test.YtghfdeebpcjcpaaCrcWalk
namespace Go.Proofs.Ytghfdeebpcjcpaa.CrcW
open Go.ChangeShapes Go.WideShapes Go.ChangeAt Go.RowKit
open CrcP Base
set_option linter.unusedVariables false

theorem el_u8 : El Try.prog 23 5 (.int .u8 0) 1 1 := ⟨Try.underlying23, by kernel_rfl, rfl, by decide⟩

set_option maxHeartbeats 400000 in
theorem go_any (x : Int) (h0 : 0 ≤ x) (h1 : x ≤ 4294967295) (A : Option Addr) (n c : Nat) (l : List UInt8) (w : World) (hn : l.length = n) (hm : n ≤ maxLen) (hr : Rb w A l) :
    Calls Try.prog 6 #[.int .u32 x, .slice A n c] w fun e w' => e = .returned (.int .u32 ((CrcP.bytes (W32 x) l).toNat : Int)) ∧ Ext w w' := by
  have Hn := Lib.hid hn
  clear hn
  go_enter Try.func6, Try.ntmps6
  go_wp2_with (go_at_call 17; refine (on_any _ ?_ ?_ _ _ _ l _ Hn.out hm hr).mono ?_; (omega); (omega); rintro e w' ⟨rfl, hx⟩)
  go_ret
  exact ⟨rfl, hx⟩

set_option maxHeartbeats 400000 in
theorem sum_any (A : Option Addr) (n c : Nat) (l : List UInt8) (w : World) (hn : l.length = n) (hm : n ≤ maxLen) (hr : Rb w A l) :
    Calls Try.prog 9 #[.slice A n c] w fun e w' => e = .returned (.int .u32 ((CrcP.bytes all1 l).toNat : Int)) ∧ Ext w w' := by
  have Hn := Lib.hid hn
  clear hn
  go_enter Try.func9, Try.ntmps9
  go_wp2_with (go_at_call 17; refine (on_any _ ?_ ?_ _ _ _ l _ Hn.out hm hr).mono ?_; (omega); (omega); rintro e w' ⟨rfl, hx⟩)
  go_ret
  exact ⟨by rw [show W32 4294967295 = all1 from rfl]; rfl, hx⟩

set_option maxHeartbeats 400000 in
theorem own_any (A : Option Addr) (n c : Nat) (l : List UInt8) (w : World) (hn : l.length = n) (hm : n ≤ 140737488355328) (hA : A = none → c = 0) (hr : Rb w A l) :
    Calls Try.prog 7 #[.slice A n c] w fun e w' => ∃ v, e = .returned v ∧ w'.ownsRow w.heap.size 5 1 v n (u8s l) ∧ Ext w w' := by
  have Hn := Lib.hid hn
  clear hn
  have HA := Lib.hid hA
  clear hA
  go_enter Try.func7, Try.ntmps7
  go_wp2_with (at_builtin
               refine wpList_app el_u8 _ rfl (.tmp 3) (.tmp 4) rfl w.heap.size (.slice (some ⟨w.heap.size, 0, none⟩) 0 0) 0 [] rfl (World.ownsRow_made _ _ 0 (Nat.le_refl _) (Nat.zero_le _) rfl) A n c (u8s l) rfl (Rd.ext hr ((Ext.refl _).alloc _)) (by rw [u8s_length, Hn.out, Nat.mul_one]) HA.out (u8s_one l) (by omega) (by omega) (by simp) ?_
               intro v1 w1 hown hg hat)
  go_ret
  refine ⟨v1, rfl, by simpa using hown, ((Ext.refl w).alloc _).then_grown hg ?_⟩
  intro k hk
  simp only [Value.ownBlock, Option.some.injEq] at hk
  exact Nat.le_of_eq hk

theorem put_cells (x : Int) (h0 : 0 ≤ x) (h1 : x ≤ 4294967295) : u8s (put (W32 x)) = [.int .u8 (x / 16777216), .int .u8 (x / 65536 % 256), .int .u8 (x / 256 % 256), .int .u8 (x % 256)] := by
  obtain ⟨n, rfl⟩ := Int.eq_ofNat_of_zero_le h0
  have e : (W32 (n : Int)).toNat = n := by have := toNat_W32 h0 h1; omega
  simp only [put, u8s, List.map_cons, List.map_nil, e, UInt8.toNat_ofNat', Nat.reducePow]
  simp only [List.cons.injEq, Value.int.injEq, true_and, and_true]
  refine ⟨?_, ?_, ?_, ?_⟩ <;> omega

set_option maxHeartbeats 400000 in
theorem bytes_any (x : Int) (h0 : 0 ≤ x) (h1 : x ≤ 4294967295) (w : World) :
    Calls Try.prog 15 #[.int .u32 x] w fun e w' => ∃ v, e = .returned v ∧ w'.ownsRow w.heap.size 5 1 v 4 (u8s (put (W32 x))) ∧ Ext w w' := by
  go_enter Try.func15, Try.ntmps15
  go_wp2_with fail
  go_ret
  exact ⟨_, rfl, by rw [put_cells x h0 h1]; exact World.ownsRow_lit w _ 4 (Nat.le_refl _) (by decide) rfl, (Ext.refl w).alloc _⟩

set_option maxHeartbeats 400000 in
theorem refBytes_any (x : Int) (h0 : 0 ≤ x) (h1 : x ≤ 4294967295) (w : World) :
    Calls Try.prog 16 #[.int .u32 x] w fun e w' => ∃ v, e = .returned v ∧ w'.ownsRow w.heap.size 5 1 v 4 (u8s (put (W32 x))) ∧ Ext w w' := by
  go_enter Try.func16, Try.ntmps16
  go_wp2_with fail
  go_ret
  exact ⟨_, rfl, by rw [put_cells x h0 h1]; exact World.ownsRow_lit w _ 4 (Nat.le_refl _) (by decide) rfl, (Ext.refl w).alloc _⟩

def nine : List UInt8 := [49, 50, 51, 52, 53, 54, 55, 56, 57]

set_option maxHeartbeats 400000 in
theorem lives_any (w : World) :
    Calls Try.prog 11 #[] w fun e w' => e = .returned (.bool true) ∧ Ext w w' := by
  have kc := fun (w : World) (C : Array Value) (n c : Nat) => Lib.run_convert_bytes_const (P := Try.prog) w 23 5 C n c Try.underlying23 Try.underlying5
  have hs : ((CrcP.bytes all1 nine).toNat : Int) = 58124007 := by rw [show nine = [49, 50, 51, 52, 53, 54, 55, 56, 57] from rfl, CrcP.lives]; rfl
  go_enter Try.func11, Try.ntmps11
  go_wp2_with (go_at_call 9; refine (sum_any _ _ _ nine _ rfl (by decide) (Rd.of_block _ _ _ rfl)).mono ?_; rintro e w1 ⟨rfl, hx⟩)
  go_ret
  exact ⟨rfl, ((Ext.refl w).alloc _).trans hx⟩

end Go.Proofs.Ytghfdeebpcjcpaa.CrcW
