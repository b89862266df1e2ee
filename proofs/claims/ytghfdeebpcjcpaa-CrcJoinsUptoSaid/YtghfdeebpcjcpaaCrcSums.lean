import Derived.Test.YtghfdeebpcjcpaaCrcRef
namespace Go.Proofs.Ytghfdeebpcjcpaa.CrcW
open Go.ChangeShapes Go.WideShapes Go.ChangeAt Go.RowKit
open CrcP Base
set_option linter.unusedVariables false

/-- the copy as a slice that reads -/
theorem own_rd (A : Option Addr) (n c : Nat) (l : List UInt8) (w : World) (hn : l.length = n) (hm : n ≤ 140737488355328) (hA : A = none → c = 0) (hr : Rb w A l) :
    Calls Try.prog 7 #[.slice A n c] w fun e w' => ∃ A' c', e = .returned (.slice A' n c') ∧ w'.ownsRow w.heap.size 5 1 (.slice A' n c') n (u8s l) ∧ Rb w' A' l ∧ Ext w w' :=
  (own_any A n c l w hn hm hA hr).mono fun e w' ⟨v, he, ho, hx⟩ => by
    obtain ⟨A', c', rfl, _, _, hrd, _⟩ := Rd.of_own ho
    exact ⟨A', c', he, ho, hrd, hx⟩

set_option maxHeartbeats 1000000 in
theorem crcSums_any (x : Int) (h0 : 0 ≤ x) (h1 : x ≤ 4294967295) (A : Option Addr) (n c : Nat) (l : List UInt8) (w : World) (hn : l.length = n) (hm : n ≤ 140737488355328) (hA : A = none → c = 0) (hr : Rb w A l) :
    Calls Try.prog 3 #[.int .u32 x, .slice A n c] w fun e w' => e = .returned (.bool true) ∧ Ext w w' := by
  have Hn := Lib.hid hn
  clear hn
  have HA := Lib.hid hA
  clear hA
  have hml : n ≤ maxLen := by unfold maxLen; omega
  go_enter Try.func3, Try.ntmps3
  go_wp2_with fail
  refine (own_rd _ _ _ l _ Hn.out hm HA.out hr).mono ?_
  rintro e w1 ⟨A1, c1, rfl, ho1, hr1, hx1⟩
  go_wp2_with fail
  refine (go_any _ h0 h1 _ _ _ l _ Hn.out hml hr1).mono ?_
  rintro e w2 ⟨rfl, hx2⟩
  go_wp2_with fail
  refine (refGo_any _ h0 h1 _ _ _ l _ Hn.out hml (hr.ext (hx1.trans hx2))).mono ?_
  rintro e w3 ⟨rfl, rfl⟩
  go_wp2_with fail
  refine (own_rd _ _ _ l _ Hn.out hm HA.out (hr.ext (hx1.trans hx2))).mono ?_
  rintro e w4 ⟨A4, c4, rfl, ho4, hr4, hx4⟩
  go_wp2_with fail
  refine (sum_any _ _ _ l _ Hn.out hml hr4).mono ?_
  rintro e w5 ⟨rfl, hx5⟩
  go_wp2_with fail
  refine (refSum_any _ _ _ l _ Hn.out hml (hr.ext (hx1.trans (hx2.trans (hx4.trans hx5))))).mono ?_
  rintro e w6 ⟨rfl, rfl⟩
  go_wp2_with fail
  refine (lives_any _).mono ?_
  rintro e w7 ⟨rfl, hx7⟩
  go_wp2_with fail
  go_ret
  exact ⟨rfl, hx1.trans (hx2.trans (hx4.trans (hx5.trans hx7)))⟩
end Go.Proofs.Ytghfdeebpcjcpaa.CrcW
