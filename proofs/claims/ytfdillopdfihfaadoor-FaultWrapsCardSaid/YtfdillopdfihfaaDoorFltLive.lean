/- fault: the worse one; what lives. -/
import Derived.Test.YtfdillopdfihfaaDoorFltMisc
namespace Go.Proofs.YtfdillopdfihfaaDoor.Flt
open Go.ChangeShapes Go.WideShapes Go.ChangeAt Go.RowKit Go.Extern.Stop Go.Stop Go.Extern
open Base
set_option linter.unusedVariables false
set_option linter.unusedSimpArgs false

/-- an error value of a reason -/
def IsErr (v : Value) (n : Int) : Prop := (v = .nilIface ∧ n = 0) ∨ ∃ (l : List ByteArray) (b : Bs), v = wrapV l b.v ∧ n = b.why
theorem IsErr.shape {v : Value} {n : Int} (h : IsErr v n) : v = .nilIface ∨ ∃ T V, v = .iface T V := by
  rcases h with ⟨h, _⟩ | ⟨l, b, h, _⟩
  · exact .inl h
  · exact .inr (h ▸ wrapV_iface l b)
theorem stV_err (n : Int) (d : List ByteArray) : IsErr (stV n d) n := by
  unfold stV
  split
  · next h =>
    subst h
    split
    · exact .inr ⟨[], .e 0, rfl, rfl⟩
    · exact .inl ⟨rfl, rfl⟩
  · exact .inr ⟨_, .e n, rfl, rfl⟩
theorem why_err {v : Value} {n : Int} (h : IsErr v n) (w : World) (hg : Tab w) : Calls Tryd.prog 24 #[v] w fun e w' => e = .returned (.int .i64 n) ∧ Ext w w' := by
  rcases h with ⟨rfl, rfl⟩ | ⟨l, b, rfl, rfl⟩
  · exact why_nil w
  · exact why_any l b w hg
theorem Why_err {v : Value} {n : Int} (h : IsErr v n) (w : World) (hg : Tab w) : Calls Tryd.prog 14 #[v] w fun e w' => e = .returned (.int .i64 n) ∧ Ext w w' := by
  rcases h with ⟨rfl, rfl⟩ | ⟨l, b, rfl, rfl⟩
  · exact Why_nil w
  · exact Why_any l b w hg
theorem worse_any {a b : Value} {x y : Int} (ha : IsErr a x) (hb : IsErr b y) (w : World) (hg : Tab w) :
    Calls Tryd.prog 19 #[a, b] w fun e w' => e = .returned (if grI y > grI x then b else a) ∧ Ext w w' := by
  obtain ⟨R, hR⟩ : ∃ R, Hid ((if grI y > grI x then b else a) = R) := ⟨_, rfl⟩
  rw [hR.out]
  obtain ⟨gx, hgx⟩ : ∃ m, Hid (grI x = m) := ⟨_, rfl⟩
  obtain ⟨gy, hgy⟩ : ∃ m, Hid (grI y = m) := ⟨_, rfl⟩
  rw [hgx.out, hgy.out] at hR
  have w1 := why_err hb w hg
  go_enter Tryd.func19, Tryd.ntmps19
  go_wp2_with fail
  refine w1.mono ?_
  rintro e w2 ⟨rfl, hx2⟩
  have g1 := grave_any y w2
  rw [hgy.out] at g1
  go_wp2_with fail
  refine g1.mono ?_
  rintro e w3 ⟨rfl, hw⟩
  have hw := hw.symm
  subst hw
  have w2' := why_err ha w2 (hg.ext hx2)
  go_wp2_with fail
  refine w2'.mono ?_
  rintro e w4 ⟨rfl, hx4⟩
  have g2 := grave_any x w4
  rw [hgx.out] at g2
  go_wp2_with fail
  refine g2.mono ?_
  rintro e w5 ⟨rfl, hw⟩
  have hw := hw.symm
  subst hw
  by_cases h : gy > gx
  · have h' : gx < gy := h
    rw [if_pos h] at hR
    go_wp2_with fail
    go_ret
    exact ⟨by rw [← hR.out]; rfl, hx2.trans hx4⟩
  · have h' : ¬ gx < gy := h
    rw [if_neg h] at hR
    go_wp2_with fail
    go_ret
    exact ⟨by rw [← hR.out]; rfl, hx2.trans hx4⟩

theorem lives_any (w : World) (hg : Tab w) : Calls Tryd.prog 12 #[] w fun e w' => e = .returned (.bool true) ∧ Ext w w' := by
  obtain ⟨x, hx⟩ : ∃ x, Hid ((⟨#[120]⟩ : ByteArray) = x) := ⟨_, rfl⟩
  obtain ⟨y, hy⟩ : ∃ x, Hid ((⟨#[121]⟩ : ByteArray) = x) := ⟨_, rfl⟩
  have a1 := at_any y [] (.e 4) w hg
  rw [if_neg (show (Bs.e 4).why ≠ 0 by decide)] at a1
  go_enter Tryd.func12, Tryd.ntmps12
  rw [hx.out, hy.out]
  go_wp2_with fail
  refine a1.mono ?_
  clear a1
  rintro e w2 ⟨rfl, hx2⟩
  have a2 := at_any x [y] (.e 4) w2 (hg.ext hx2)
  rw [if_neg (show (Bs.e 4).why ≠ 0 by decide)] at a2
  obtain ⟨u, hu⟩ : ∃ u, Hid (wrapV [y] (Bs.e 4).v = u) := ⟨_, rfl⟩
  rw [hu.out] at a2 ⊢
  go_wp2_with fail
  refine a2.mono ?_
  clear a2
  rintro e w3 ⟨rfl, hx3⟩
  have hg3 := (hg.ext hx2).ext hx3
  have a3 := Why_any [x, y] (.e 4) w3 hg3
  obtain ⟨T, V, hV⟩ := wrapV_iface [x, y] (.e 4)
  rw [hV] at a3 ⊢
  go_wp2_with fail
  refine a3.mono ?_
  clear a3
  rintro e w4 ⟨rfl, hx4⟩
  rw [show (Bs.e 4).why = 4 from rfl]
  have a4 := way_any [x, y] (.e 4) w4 (hg3.ext hx4) (by simp)
  rw [hV] at a4
  go_wp2_with fail
  refine a4.mono ?_
  clear a4
  rintro e w5 ⟨A, c, rfl, ho, hA, hx5⟩
  go_wp2_with fail
  obtain ⟨A', c', e, hrd, _⟩ := ho.rd
  injection e with e1 e2 e3
  subst e1; subst e3
  clear e2
  refine (same_any [x, y] 2 A _ c 2 _ rfl (by omega) (hrd.ext ((Ext.refl w5).alloc _)) (Rd.of_block w5 9 (0, 0) rfl)).mono ?_
  rintro e w6 ⟨rfl, hx6⟩
  go_wp2_with fail
  go_ret
  exact ⟨rfl, (((hx2.trans hx3).trans hx4).trans hx5).trans (((Ext.refl w5).alloc _).trans hx6)⟩
end Go.Proofs.YtfdillopdfihfaaDoor.Flt
