/- ids: the law IdsOnce's walk. -/
import Derived.Test.YtalbjbcomamomaaIdsOnceC
namespace Go.Proofs.Ytalbjbcomamomaa.IdsW
open Go.ChangeShapes Go.WideShapes Go.ChangeAt Go.RowKit
open Base Mp Piece Args
set_option linter.unusedVariables false
set_option linter.unusedSimpArgs false

set_option maxRecDepth 1000000 in
set_option maxHeartbeats 2000000 in
theorem idsOnce_any (a : Int) (h0 : 0 ≤ a) (h1 : a ≤ 18446744073709551615) (A : Option Addr) (n c : Nat) (l : List (Int × Nat × ByteArray)) (w : World) (hn : l.length = n) (hm : n ≤ maxLen) (hr : Rd w A (acs l)) (hok : ∀ x ∈ l, ActOk x) :
    Calls Try.prog 4 #[.int .u64 a, .slice A n c] w fun e w' => e = .returned (.bool true) ∧ Ext w w' := by
  go_enter Try.func4, Try.ntmps4
  go_wp2_with fail
  refine (New_all a h0 w.heap.size w (Nat.le_refl _)).mono ?_
  rintro e w1 ⟨g, m, rfl, hT1, hx1⟩
  have hs1 := hx1.size
  go_wp2_with fail
  generalize hw2 : World.alloc w1 _ = w2
  have hx2 : Ext w1 w2 := by rw [← hw2]; exact (Ext.refl w1).alloc _
  have ho2 : w2.ownsRow w.heap.size 9 1 (.slice (some ⟨w1.heap.size, 0, none⟩) 0 0) 0 [] := by
    rw [← hw2]
    exact ⟨rfl, .inr ⟨w1.heap.size, 0, #[], rfl, hs1, Blk.new w1 #[] _, Nat.le_refl _, Nat.zero_le _, rfl, rfl⟩⟩
  clear hw2
  refine onceO (w0 := w) (hr := hr) (hn := hn) (hm := hm) (hok := hok) (hT := hT1.ext hx2) (hw := ho2) (hx := hx1.trans hx2) (hF := ⟨_, rfl, rfl⟩) (hP := ?_) (hQ := ?_)
  · exact fun _ _ _ _ h => nomatch h.2.1
  clear hT1 hx1 hx2 ho2
  intro a3 w3 x5 x6 x7 x8 x9 x10 x11 x12 x13 x14 x15 hF hx
  obtain ⟨u, rfl⟩ := lay154 hF
  clear hF
  go_wp2_with fail
  refine (lives_any w3).mono ?_
  rintro e w4 ⟨rfl, hx4⟩
  go_wp2_with fail
  go_ret
  exact ⟨rfl, hx.trans hx4⟩
end Go.Proofs.Ytalbjbcomamomaa.IdsW
