/- fault: the laws FaultRoots and FaultWorse, walked. -/
import Derived.Test.YtfdillopdfihfaaDoorFltLive
namespace Go.Proofs.YtfdillopdfihfaaDoor.Flt
open Go.ChangeShapes Go.WideShapes Go.ChangeAt Go.RowKit Go.Extern.Stop Go.Stop Go.Extern
open Base
set_option linter.unusedVariables false
set_option linter.unusedSimpArgs false

theorem taEE (v : Value) (w : World) : (Instr.typeAssert (.iface 24 v) 26 24 true).run Tryd.prog w = .ok (.tuple #[v, .bool true]) w := by
  simp [Instr.typeAssert, underlying, Tryd.underlying24, Result.andThen]
theorem txs_take (l : List ByteArray) (k : Nat) : (txs l).take k = txs (l.take k) := by simp [txs, List.map_take]
/-- what few leaves, wrapped -/
theorem wrapFew_any (n : Int) (l : List ByteArray) (c : Nat) (A : Option Addr) (w : World) (hg : Tab w) (hr : Rd w A (txs l)) :
    Calls Tryd.prog 11 #[.int .i64 n, .slice A (l.take 60).length c] w fun e w' => e = .returned (stV n (l.take 60)) ∧ Ext w w' := by
  have h := wrap_any n (l.take 60) (l.take 60).length c A w hg rfl (by rw [← txs_take]; exact hr.take 60)
  rw [List.take_take, Nat.min_self] at h
  exact h
/-- what is behind all places -/
def rtV (n : Int) (d : List ByteArray) : Value := if n = 0 ∧ d ≠ [] then .nilIface else (Bs.e n).v
theorem root_st (n : Int) (d : List ByteArray) (w : World) (hg : Tab w) : Calls Tryd.prog 16 #[stV n d] w fun e w' => e = .returned (rtV n d) ∧ Ext w w' := by
  by_cases h0 : n = 0
  · subst h0
    by_cases hd : d = []
    · subst hd
      rw [show rtV 0 [] = (Bs.e 0).v from rfl]
      exact root_any [] (.e 0) w hg
    · rw [stV_zero d hd, rtV, if_pos ⟨rfl, hd⟩]
      exact root_nil w
  · rw [stV_pos h0, rtV, if_neg (fun e => h0 e.1)]
    exact root_any _ (.e n) w hg
theorem rtV_err (n : Int) (d : List ByteArray) : IsErr (rtV n d) n := by
  unfold rtV
  split
  · next h => exact .inl ⟨rfl, h.1⟩
  · exact .inr ⟨[], .e n, rfl, rfl⟩

theorem roots_any (n : Int) (l : List ByteArray) (m c : Nat) (A : Option Addr) (w : World) (hg : Tab w) (hm : l.length = m) (hc : m ≤ c) (hr : Rd w A (txs l)) :
    Calls Tryd.prog 4 #[.int .i64 n, .slice A m c] w fun e w' => e = .returned (.bool true) ∧ Ext w w' := by
  have hfew := few_any l m c A w hm hc
  obtain ⟨k, hk⟩ : ∃ k, Hid ((l.take 60).length = k) := ⟨_, rfl⟩
  rw [hk.out] at hfew
  have hwr := wrapFew_any n l c A w hg hr
  rw [hk.out] at hwr
  go_enter Tryd.func4, Tryd.ntmps4
  go_wp2_with fail
  refine hfew.mono ?_
  rintro e w2 ⟨rfl, hw⟩
  have hw := hw.symm
  subst hw
  go_wp2_with fail
  refine hwr.mono ?_
  clear hwr hfew
  rintro e w2 ⟨rfl, hx2⟩
  have hroot := root_st n (l.take 60) w2 (hg.ext hx2)
  obtain ⟨u, hu⟩ : ∃ u, Hid (stV n (l.take 60) = u) := ⟨_, rfl⟩
  rw [hu.out] at hroot ⊢
  go_wp2_with fail
  refine hroot.mono ?_
  clear hroot
  rintro e w3 ⟨rfl, hx3⟩
  have hg3 := (hg.ext hx2).ext hx3
  by_cases h0 : n = 0
  · have herr := rtV_err n (l.take 60)
    subst h0
    have hwhy := Why_err herr w3 hg3
    obtain ⟨v, hv⟩ : ∃ u, Hid (rtV 0 (l.take 60) = u) := ⟨_, rfl⟩
    rw [hv.out] at hwhy ⊢
    go_wp2_with fail
    refine hwhy.mono ?_
    rintro e w4 ⟨rfl, hx4⟩
    go_wp2_with fail
    refine (lives_any w4 (hg3.ext hx4)).mono ?_
    rintro e w5 ⟨rfl, hx5⟩
    go_wp2_with fail
    go_ret
    exact ⟨rfl, ((hx2.trans hx3).trans hx4).trans hx5⟩
  · rw [show rtV n (l.take 60) = .iface 24 (.int .i64 n) by rw [rtV, if_neg (fun e => h0 e.1)]; rfl]
    have ta := taEE
    have hrn := root_nil w3
    go_wp2_with fail
    refine hrn.mono ?_
    rintro e w4 ⟨rfl, hx4⟩
    go_wp2_with fail
    refine (lives_any w4 (hg3.ext hx4)).mono ?_
    rintro e w5 ⟨rfl, hx5⟩
    go_wp2_with fail
    go_ret
    exact ⟨rfl, ((hx2.trans hx3).trans hx4).trans hx5⟩

theorem ite_why {a b : Value} {x y : Int} {p : Prop} [Decidable p] (ha : IsErr a x) (hb : IsErr b y) : IsErr (if p then b else a) (if p then y else x) := by
  split
  · exact hb
  · exact ha
set_option maxHeartbeats 4000000 in
theorem worseLaw_any (x y : Int) (l : List ByteArray) (m c : Nat) (A : Option Addr) (w : World) (hg : Tab w) (hm : l.length = m) (hc : m ≤ c) (hr : Rd w A (txs l)) :
    Calls Tryd.prog 5 #[.int .i64 x, .int .i64 y, .slice A m c] w fun e w' => e = .returned (.bool true) ∧ Ext w w' := by
  have hfew := few_any l m c A w hm hc
  obtain ⟨k, hk⟩ : ∃ k, Hid ((l.take 60).length = k) := ⟨_, rfl⟩
  rw [hk.out] at hfew
  have hwr := wrapFew_any x l c A w hg hr
  rw [hk.out] at hwr
  obtain ⟨gx, hgx⟩ : ∃ m, Hid (grI x = m) := ⟨_, rfl⟩
  obtain ⟨gy, hgy⟩ : ∃ m, Hid (grI y = m) := ⟨_, rfl⟩
  have gx1 := Grave_any x
  have gx2 := weight_any x
  have gy1 := Grave_any y
  have gy2 := weight_any y
  rw [hgx.out] at gx1 gx2
  rw [hgy.out] at gy1 gy2
  go_enter Tryd.func5, Tryd.ntmps5
  by_cases hgt : gx < gy
  · have hgt2 : gy > gx := hgt
    go_wp2_with fail
    refine (gx1 w).mono ?_
    rintro e w2 ⟨rfl, hw⟩
    have hw := hw.symm
    subst hw
    go_wp2_with fail
    refine (gx2 w).mono ?_
    rintro e w2 ⟨rfl, hw⟩
    have hw := hw.symm
    subst hw
    go_wp2_with fail
    refine (gy1 w).mono ?_
    rintro e w2 ⟨rfl, hw⟩
    have hw := hw.symm
    subst hw
    go_wp2_with fail
    refine (gy2 w).mono ?_
    rintro e w2 ⟨rfl, hw⟩
    have hw := hw.symm
    subst hw
    go_wp2_with fail
    refine (gy2 w).mono ?_
    rintro e w2 ⟨rfl, hw⟩
    have hw := hw.symm
    subst hw
    go_wp2_with fail
    refine (gx2 w).mono ?_
    rintro e w2 ⟨rfl, hw⟩
    have hw := hw.symm
    subst hw
    go_wp2_with fail
    refine hfew.mono ?_
    rintro e w2 ⟨rfl, hw⟩
    have hw := hw.symm
    subst hw
    go_wp2_with fail
    refine hwr.mono ?_
    rintro e w2 ⟨rfl, hx2⟩
    obtain ⟨u, hu⟩ : ∃ u, Hid (stV x (l.take 60) = u) := ⟨_, rfl⟩
    have hwn := wrap_any y [] 0 0 none w2 (hg.ext hx2) rfl (Rd.nil _ _)
    rw [List.take_nil] at hwn
    obtain ⟨v, hv⟩ : ∃ u, Hid (stV y [] = u) := ⟨_, rfl⟩
    have hea := stV_err x (l.take 60)
    have heb := stV_err y []
    rw [hu.out] at hea ⊢
    rw [hv.out] at heb hwn
    go_wp2_with fail
    refine hwn.mono ?_
    rintro e w3 ⟨rfl, hx3⟩
    have hws := worse_any hea heb w3 ((hg.ext hx2).ext hx3)
    rw [hgx.out, hgy.out, if_pos hgt2] at hws
    go_wp2_with fail
    refine hws.mono ?_
    rintro e w4 ⟨rfl, hx4⟩
    have hwy := Why_err heb w4 (((hg.ext hx2).ext hx3).ext hx4)
    go_wp2_with fail
    refine hwy.mono ?_
    rintro e w5 ⟨rfl, hx5⟩
    go_wp2_with fail
    refine (lives_any w5 ((((hg.ext hx2).ext hx3).ext hx4).ext hx5)).mono ?_
    rintro e w6 ⟨rfl, hx6⟩
    go_wp2_with fail
    go_ret
    exact ⟨rfl, (((hx2.trans hx3).trans hx4).trans hx5).trans hx6⟩
  · have hgt2 : ¬ gy > gx := hgt
    go_wp2_with fail
    refine (gx1 w).mono ?_
    rintro e w2 ⟨rfl, hw⟩
    have hw := hw.symm
    subst hw
    go_wp2_with fail
    refine (gx2 w).mono ?_
    rintro e w2 ⟨rfl, hw⟩
    have hw := hw.symm
    subst hw
    go_wp2_with fail
    refine (gy1 w).mono ?_
    rintro e w2 ⟨rfl, hw⟩
    have hw := hw.symm
    subst hw
    go_wp2_with fail
    refine (gy2 w).mono ?_
    rintro e w2 ⟨rfl, hw⟩
    have hw := hw.symm
    subst hw
    go_wp2_with fail
    refine (gy2 w).mono ?_
    rintro e w2 ⟨rfl, hw⟩
    have hw := hw.symm
    subst hw
    go_wp2_with fail
    refine (gx2 w).mono ?_
    rintro e w2 ⟨rfl, hw⟩
    have hw := hw.symm
    subst hw
    go_wp2_with fail
    refine hfew.mono ?_
    rintro e w2 ⟨rfl, hw⟩
    have hw := hw.symm
    subst hw
    go_wp2_with fail
    refine hwr.mono ?_
    rintro e w2 ⟨rfl, hx2⟩
    obtain ⟨u, hu⟩ : ∃ u, Hid (stV x (l.take 60) = u) := ⟨_, rfl⟩
    have hwn := wrap_any y [] 0 0 none w2 (hg.ext hx2) rfl (Rd.nil _ _)
    rw [List.take_nil] at hwn
    obtain ⟨v, hv⟩ : ∃ u, Hid (stV y [] = u) := ⟨_, rfl⟩
    have hea := stV_err x (l.take 60)
    have heb := stV_err y []
    rw [hu.out] at hea ⊢
    rw [hv.out] at heb hwn
    go_wp2_with fail
    refine hwn.mono ?_
    rintro e w3 ⟨rfl, hx3⟩
    have hws := worse_any hea heb w3 ((hg.ext hx2).ext hx3)
    rw [hgx.out, hgy.out, if_neg (show ¬ gy > gx by omega)] at hws
    go_wp2_with fail
    refine hws.mono ?_
    rintro e w4 ⟨rfl, hx4⟩
    have hwy := Why_err hea w4 (((hg.ext hx2).ext hx3).ext hx4)
    go_wp2_with fail
    refine hwy.mono ?_
    rintro e w5 ⟨rfl, hx5⟩
    go_wp2_with fail
    refine (lives_any w5 ((((hg.ext hx2).ext hx3).ext hx4).ext hx5)).mono ?_
    rintro e w6 ⟨rfl, hx6⟩
    go_wp2_with fail
    go_ret
    exact ⟨rfl, (((hx2.trans hx3).trans hx4).trans hx5).trans hx6⟩
end Go.Proofs.YtfdillopdfihfaaDoor.Flt
