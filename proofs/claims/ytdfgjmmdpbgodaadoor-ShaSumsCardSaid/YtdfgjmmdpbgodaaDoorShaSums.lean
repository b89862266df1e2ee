/- sha: the law ShaSums, walked. -/
import Derived.Test.YtdfgjmmdpbgodaaDoorShaRefI
import Derived.Test.YtdfgjmmdpbgodaaDoorShaEq
namespace Go.Proofs.YtdfgjmmdpbgodaaDoor.ShaW
open Go.ChangeShapes Go.WideShapes Go.ChangeAt Go.RowKit
open ShaP Base
set_option linter.unusedVariables false
set_option linter.unusedSimpArgs false

set_option maxHeartbeats 2000000 in
theorem sums_any (A : Option Addr) (n c : Nat) (l : List UInt8) (w : World) (ht : Tabs w) (hn : l.length = n) (hr : Rb w A l) (hA : A = none → c = 0) :
    Calls Tryd.prog 3 #[.slice A n c] w fun e w' => e = .returned (.bool true) ∧ Ext w w' := by
  have HA := Lib.hid hA
  clear hA
  go_enter Tryd.func3, Tryd.ntmps3
  by_cases hb : n ≤ 4000
  · have hbi : ¬ (n : Int) > 4000 := by omega
    have hbi' : (n : Int) ≤ 4000 := by omega
    have hown := own_any A c l w (by omega) HA.out hr
    rw [hn] at hown
    obtain ⟨S, hS⟩ : ∃ x, Held (sha l = x) := ⟨_, ⟨rfl⟩⟩
    have hSl : S.length = 32 := by rw [← hS.out]; exact sha_length _
    have hEq : ∀ w, (Op.equalIn 10000 25 (.agg (u8s S).toArray) (.agg (u8s S).toArray)).run Tryd.prog w = .ok true w := fun w => by rw [eq_sum S S hSl hSl]; simp
    go_wp2_with fail
    refine hown.mono ?_
    rintro e w1 ⟨A1, c1, rfl, ho1, hb1, hx1⟩
    clear hown
    obtain ⟨A2, c2, e2, hr1, _, _, hA1⟩ := ho1.rd
    injection e2 with e3 e4 e5
    subst e3; subst e5
    clear e4
    have hsum := sumTop_any w1 A1 c1 l (ht.ext hx1) hr1 hA1 (fun a ha => (hb1 a ha).2) (by omega)
    rw [hn, hS.out] at hsum
    go_wp2_with fail
    refine hsum.mono ?_
    clear hsum
    rintro e w2 ⟨rfl, hx2⟩
    have href := refSum_any w2 A c l (hr.ext (hx1.trans hx2)) HA.out (by omega)
    rw [hn, hS.out] at href
    go_wp2_with fail
    refine href.mono ?_
    clear href
    rintro e w3 ⟨rfl, hx3⟩
    have hq := hEq w3
    go_wp2_with fail
    have hx := (hx1.trans hx2).trans hx3
    refine (lives_any w3 (ht.ext hx)).mono ?_
    rintro e w4 ⟨rfl, hx4⟩
    go_wp2_with fail
    go_ret
    exact ⟨rfl, hx.trans hx4⟩
  · have hbi : (n : Int) > 4000 := by omega
    go_wp2_with fail
    refine (lives_any w ht).mono ?_
    rintro e w1 ⟨rfl, hx⟩
    go_wp2_with fail
    go_ret
    exact ⟨rfl, hx⟩
end Go.Proofs.YtdfgjmmdpbgodaaDoor.ShaW
