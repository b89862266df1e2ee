/- ids: the law IdsActs's walk, whole. -/
import Derived.Test.YtalbjbcomamomaaIdsActs
namespace Go.Proofs.Ytalbjbcomamomaa.IdsW
open Go.ChangeShapes Go.WideShapes Go.ChangeAt Go.RowKit
open Base Mp Piece Args
set_option linter.unusedVariables false
set_option linter.unusedSimpArgs false

set_option maxRecDepth 1000000 in
set_option maxHeartbeats 2000000 in
theorem idsActs_any (a : Int) (h0 : 0 ≤ a) (h1 : a ≤ 18446744073709551615) (A : Option Addr) (n c : Nat) (l : List (Int × Nat × ByteArray)) (w : World) (hn : l.length = n) (hm : n ≤ maxLen) (hr : Rd w A (acs l)) (hok : ∀ x ∈ l, ActOk x) :
    Calls Try.prog 5 #[.int .u64 a, .slice A n c] w fun e w' => e = .returned (.bool true) ∧ Ext w w' := by
  go_enter Try.func5, Try.ntmps5
  go_wp2_with fail
  refine (New_all a h0 w.heap.size w (Nat.le_refl _)).mono ?_
  rintro e w1 ⟨g, m, rfl, hT1, hx1⟩
  have hs1 := hx1.size
  go_wp2_with fail
  refine (RNew_any a h0 w.heap.size w1 hs1).mono ?_
  rintro e w2 ⟨r, rfl, hR2, hx2⟩
  go_wp2_with fail
  refine actsO (w0 := w) (hr := hr) (hn := hn) (hm := hm) (hok := hok) (hT := ⟨hT1.ext hx2, hR2, (fun k e => by cases e), (fun k e => by cases e)⟩) (hx := hx1.trans hx2) (hF := ⟨_, rfl, rfl⟩) (hP := ?_) (hQ := ?_)
  · exact fun _ _ _ _ h => nomatch h.2.1
  clear hT1 hx1 hx2 hR2
  intro a3 w3 x5 x6 x7 hF hx
  obtain ⟨u, rfl⟩ := lay55 hF
  clear hF
  go_wp2_with fail
  refine (lives_any w3).mono ?_
  rintro e w4 ⟨rfl, hx4⟩
  go_wp2_with fail
  go_ret
  exact ⟨rfl, hx.trans hx4⟩
end Go.Proofs.Ytalbjbcomamomaa.IdsW
