/- the reference's canon: the one form of a text; whether it is its own: walked. -/
import Derived.Test.YtbpfabhlngfciaaGreatDoorCbU
set_option linter.unusedVariables false
set_option linter.unusedSimpArgs false
set_option maxRecDepth 100000
set_option maxHeartbeats 1000000
namespace Go.Proofs.YtbpfabhlngfciaaGreatDoor.Rc
open Go.ChangeShapes Go.WideShapes Go.ChangeAt Go.RowKit
open Base Lx Mi Pr Cn
theorem showR_len' {ns : List Ne} {t : List UInt8} (h : showP ns = some t) : showRLen ns = t.length := by
 rw [← show_r] at h
 unfold showR at h
 simp only at h
 split at h
 ·cases h
 ·split at h
  ·cases h
  ·injection h with h; rw [← h]; rfl
theorem rtext_any (s : ByteArray) (hs : s.size ≤ 140737488351232) (w : World) : Calls Tryz.prog 17 #[.string s] w fun e w' => e = .returned (.tuple #[.string (formP s).1, .int .i64 (formP s).2.1, .int .i64 (formP s).2.2]) ∧ Ext w w' := by
 have hpar := refParse_any s hs w
 rw [parse_q] at hpar
 have l7 := parse_rng s
 have hb := back_plain' s
 have hbl := fun ns t => showR_len' (ns := ns) (t := t)
 obtain ⟨F, hF⟩ : ∃ z, Hid (formP s = z) := ⟨_, Lib.hid rfl⟩
 have hFd := hF.out
 rw [hF.out]
 unfold formP at hFd
 obtain ⟨r, hr⟩ : ∃ z, Hid (parseP s = z) := ⟨_, Lib.hid rfl⟩
 rw [hr.out] at hpar l7 hb hFd
 obtain ⟨ns, at_, why⟩ := r
 replace hpar : Calls Tryz.prog 21 #[.string s] w fun e w' => ∃ v vs, e = .returned (.tuple #[.agg #[v], .int .i64 at_, .int .i64 why]) ∧ Nds w.heap.size w' ns vs v ∧ Ext w w' := hpar
 replace l7 : ∀ d ∈ ns, -9223372036854775808 ≤ d.size ∧ d.size ≤ 9223372036854775807 := l7
 simp only at hFd hb
 obtain ⟨PO, hPO⟩ : ∃ PO : Ending → World → Prop, Hid ((fun e w' => e = .returned (.tuple #[.string F.1, .int .i64 F.2.1, .int .i64 F.2.2]) ∧ Ext w w') = PO) := ⟨_, Lib.hid rfl⟩
 rw [hPO.out]
 by_cases hw : why = 0
 ·subst hw
  obtain ⟨t, h1, ht, hs4, _, _⟩ := hb rfl
  have h5 := hbl _ _ h1
  rw [if_pos rfl, h1] at hFd
  have hp : ∀ W, Ext w W → PO (.returned (.tuple #[.string ⟨t.toArray⟩, .int .i64 0, .int .i64 0])) W := fun W hW => by rw [← hPO.out, ← hFd]; exact ⟨rfl, hW⟩
  obtain ⟨T, hT⟩ : ∃ z, Hid (t.toArray = z) := ⟨_, Lib.hid rfl⟩
  rw [hT.out] at hp
  obtain ⟨nE, hnE⟩ : ∃ z, Hid (ns.map Nd.toE = z) := ⟨_, Lib.hid rfl⟩
  rw [hnE.out] at h1 h5
  replace h1 := Lib.hid h1
  replace l7 := Lib.hid l7
  clear hr hb hbl hFd hF hPO
  go_enter Tryz.func17, Tryz.ntmps17
  go_wp2_with fail
  refine hpar.mono ?_
  rintro e w1 ⟨v, vs, rfl, hnd, hx1⟩
  have hS1 := Sch.ofNds hnd (Nat.le_refl _) l7.out
  rw [hnE.out] at hS1
  obtain ⟨A, c, rfl, jj1, jj2, jj3, jj4⟩ := Rd.of_own hnd.row
  clear jj1 jj2 jj3 jj4 hpar hnd
  obtain ⟨k, hk⟩ : ∃ z, Hid (ns.length = z) := ⟨_, Lib.hid rfl⟩
  rw [hk.out] at hS1 ⊢
  obtain ⟨w2, hw2⟩ : ∃ z, Hid (w1.alloc (.cells #[.slice A k c] 42) = z) := ⟨_, rfl⟩
  have hx2 : Ext w1 w2 := by rw [← hw2.out]; exact (Ext.refl w1).alloc _
  have hS2 : Sch w2.heap.size w2 (.slice A k c) nE := (hS1.below hx2).mono hx2.size
  have hx02 := hx1.trans hx2
  have hsh := refShow_any _ _ w2 hS2 (by omega)
  rw [h1.out] at hsh
  clear hS1 hS2
  go_wp2_with fail
  rw [hw2.out]
  refine hsh.mono ?_
  rintro e w4 ⟨rfl, hx4⟩
  rw [show shV (some t) = Value.tuple #[.string ⟨t.toArray⟩, .int .i64 0] from rfl, hT.out]
  have hp4 := hp w4 (hx02.trans hx4)
  clear hsh hp
  go_wp2_with fail
  refine bodyPost_ret (results_tmp3 rfl _ _ _) rfl ?_
  exact hp4
 ·rw [if_neg hw] at hFd
  have hwb : ((why : Int) != 0) = true := by simpa using hw
  have hp : ∀ W, Ext w W → PO (.returned (.tuple #[.string ⟨#[]⟩, .int .i64 at_, .int .i64 why])) W := fun W hW => by rw [← hPO.out, ← hFd]; exact ⟨rfl, hW⟩
  clear hr hb hbl hFd hF hPO l7
  go_enter Tryz.func17, Tryz.ntmps17
  go_wp2_with fail
  refine hpar.mono ?_
  rintro e w1 ⟨v, vs, rfl, hnd, hx1⟩
  obtain ⟨A, c, rfl, jj1, jj2, jj3, jj4⟩ := Rd.of_own hnd.row
  clear jj1 jj2 jj3 jj4 hpar hnd
  obtain ⟨k, hk⟩ : ∃ z, Hid (ns.length = z) := ⟨_, Lib.hid rfl⟩
  rw [hk.out]
  obtain ⟨w2, hw2⟩ : ∃ z, Hid (w1.alloc (.cells #[.slice A k c] 42) = z) := ⟨_, rfl⟩
  have hx2 : Ext w1 w2 := by rw [← hw2.out]; exact (Ext.refl w1).alloc _
  have hp4 := hp w2 (hx1.trans hx2)
  clear hp
  go_wp2_with fail
  rw [hw2.out]
  refine bodyPost_ret (results_tmp3 rfl _ _ _) rfl ?_
  exact hp4
theorem rIs_any (s : ByteArray) (hs : s.size ≤ 140737488351232) (w : World) : Calls Tryz.prog 20 #[.string s] w fun e w' => e = .returned (.bool (isP s)) ∧ Ext w w' := by
 have hc := rtext_any s hs w
 have hi : isP s = (decide ((formP s).2.2 = 0) && decide ((formP s).1 = s)) := rfl
 obtain ⟨F, hF⟩ : ∃ z, Hid (formP s = z) := ⟨_, Lib.hid rfl⟩
 rw [hF.out] at hc hi
 rw [hi]
 obtain ⟨t, a, y⟩ := F
 simp only at hc ⊢
 have hb := str_beq' t s
 clear hi
 by_cases h0 : y = 0
 ·subst h0
  obtain ⟨b, hbd⟩ : ∃ z, Hid (decide (t = s) = z) := ⟨_, Lib.hid rfl⟩
  rw [hbd.out] at hb ⊢
  go_enter Tryz.func20, Tryz.ntmps20
  go_wp2_with fail
  refine hc.mono ?_
  rintro e w1 ⟨rfl, hx1⟩
  go_wp2_with fail
  go_ret
  exact ⟨by simp, hx1⟩
 ·have hyb : ((y : Int) == 0) = false := by simpa using h0
  rw [decide_eq_false h0, Bool.false_and]
  clear hb
  go_enter Tryz.func20, Tryz.ntmps20
  go_wp2_with fail
  refine hc.mono ?_
  rintro e w1 ⟨rfl, hx1⟩
  go_wp2_with fail
  go_ret
  exact ⟨rfl, hx1⟩
end Go.Proofs.YtbpfabhlngfciaaGreatDoor.Rc
