/- lex: Number, and the reference's, walked. -/
import Derived.Test.YtgbfoklgejdegaaLexNames
import Derived.Lib.ConvBytes
namespace Go.Proofs.Ytgbfoklgejdegaa.Lx
open Go.ChangeShapes Go.WideShapes Go.ChangeAt Go.RowKit Go.Shelf
open Base
set_option linter.unusedVariables false
set_option linter.unusedSimpArgs false

def numV (o : Option Nat) : Value := match o with
  | some n => .tuple #[.int .i64 (n : Int), .bool true]
  | none => .tuple #[.int .i64 0, .bool false]
theorem numO_none1 {l : List UInt8} (h : l.length = 0) : numO l = none := by
  have : l = [] := List.eq_nil_of_length_eq_zero h
  subst this; rfl
theorem byteAt_zero (s : ByteArray) : (s.data.toList.getD 0 0) = byteAt s 0 := rfl

theorem ext_bytes (w : World) (e : TypeId) (s : ByteArray) : Ext w (Lib.bytesWorld w e s) :=
  ⟨rfl, rfl, rfl, by rw [Lib.bytesWorld_size]; omega, fun k hk => Lib.bytesWorld_at_old w e s k hk⟩

set_option maxHeartbeats 1000000 in
theorem number_any (s : ByteArray) (hs : s.size ≤ 140737488351232) (w : World) : Calls Try.prog 8 #[.string s] w fun e w' => e = .returned (numV (numO s.data.toList)) ∧ Ext w w' := by
  obtain ⟨o, ho⟩ : ∃ o, Hid (numO s.data.toList = o) := ⟨_, rfl⟩
  rw [ho.out]
  by_cases h0 : s.size = 0
  · obtain rfl := size_zero h0
    have ho2 : none = o := ho.out
    subst ho2
    go_enter Try.func8, Try.ntmps8
    go_wp2_with fail
    go_ret2
    exact ⟨rfl, Ext.refl _⟩
  · obtain ⟨q1, q2⟩ := ne_empty h0
    have hin : 0 < s.size := by omega
    have hin' : (0 : Int) < (s.size : Int) := by omega
    have hne : ¬ s.data.toList = [] := fun e => by have := size_list s; rw [e] at this; simp at this; omega
    have hrun := run_any s 0 14 digitP hs (by omega) enters_digit digit_any w
    rw [List.drop_zero] at hrun
    obtain ⟨R, hR⟩ : ∃ R, Hid (runP digitP s.data.toList = R) := ⟨_, rfl⟩
    rw [hR.out] at hrun
    have hb := byteAt_get s 0 hin
    go_enter Try.func8, Try.ntmps8
    by_cases hz : 1 < s.size ∧ (byteAt s 0).toNat = 48
    · have ho2 : none = o := by rw [← ho.out, numO, if_neg hne, if_pos ⟨by rw [size_list]; exact hz.1, hz.2⟩]
      subst ho2
      have z1 : (s.size : Int) > 1 := by omega
      have z2 : ((byteAt s 0).toNat : Int) == 48 := by rw [hz.2]; rfl
      go_wp2_with fail
      go_ret2
      exact ⟨rfl, Ext.refl _⟩
    · by_cases hRs : R = s.size
      · by_cases h4 : s.size ≤ 4
        · have h4' : (s.size : Int) ≤ 4 := by omega
          have hRb : ((R : Int) != (s.size : Int)) = false := by rw [hRs]; simp
          have hall : runP digitP s.data.toList = s.data.toList.length := by rw [hR.out, hRs, size_list]
          obtain ⟨V, hV⟩ : ∃ V, Hid (valP s.data.toList 0 = V) := ⟨_, rfl⟩
          have hV9 : V ≤ 9999 := by rw [← hV.out]; exact valP_small _ hall (by rw [size_list]; exact h4)
          have hdig : ∀ j, j < s.size → 48 ≤ (byteAt s j).toNat ∧ (byteAt s j).toNat ≤ 57 := fun j hj => by
            obtain ⟨h1, h2⟩ := runP_lt (p := digitP) (l := s.data.toList) (n := j) (by rw [hall, size_list]; exact hj)
            have := digit_bounds h2
            rwa [show s.data.toList[j] = byteAt s j from byteAt_get s j hj] at this
          have hz' : ¬ (1 < s.data.toList.length ∧ (s.data.toList.getD 0 0).toNat = 48) := by rw [size_list]; exact hz
          have hobig : 4096 < V → numO s.data.toList = none := fun h => by rw [numO, if_neg hne, if_neg hz', if_neg (by simp [hall]), if_neg (by rw [size_list]; omega), if_pos (by rw [hV.out]; exact h)]
          have hosm : ¬ 4096 < V → numO s.data.toList = some V := fun h => by rw [numO, if_neg hne, if_neg hz', if_neg (by simp [hall]), if_neg (by rw [size_list]; omega), if_neg (by rw [hV.out]; exact h), hV.out]
          by_cases hs1 : s.size = 1
          · have z1 : ¬ (s.size : Int) > 1 := by omega
            clear hb
            go_wp2_with fail
            refine hrun.mono ?_
            rintro e w1 ⟨rfl, hw⟩
            subst hw
            have hcv := Lib.run_convert_string_bytes (P := Try.prog) w1 9 39 5 s Try.underlying9 Try.underlying39 Try.underlying5
            obtain ⟨cap, hcap⟩ : ∃ c, Hid (grownCap w1 s.size 0 5 = c) := ⟨_, rfl⟩
            rw [hcap.out] at hcv
            obtain ⟨w2, hw2⟩ : ∃ w2, Hid (Lib.bytesWorld w1 5 s = w2) := ⟨_, rfl⟩
            have hx2 : Ext w1 w2 := by rw [← hw2.out]; exact ext_bytes _ _ _
            have hcell : ∀ j, j < s.size → w2.cell? ⟨w1.heap.size, j, none⟩ = some (.int .u8 ((byteAt s j).toNat : Int)) := fun j hj => by rw [← hw2.out]; exact Lib.bytesWorld_cell _ _ _ j hj
            rw [hw2.out] at hcv
            go_wp2_with fail
            go_loopw [4, 34] (fun v4 v34 wr => ∃ j v : Nat, j ≤ s.size ∧ v34 = .int .i64 j ∧ v4 = .int .i64 v ∧ Hid (valP (s.data.toList.drop j) v = V) ∧ wr = w2) (fun _ v34 _ => s.size - (intOf v34).toNat)
            case atStart => exact ⟨0, 0, by omega, rfl, rfl, hV, rfl⟩
            case round =>
              obtain ⟨j, v, hj, rfl, rfl, hv, hw⟩ := hrel
              have hw := hw.symm
              subst hw
              have hvV : v ≤ 9999 := by have := valP_ge (s.data.toList.drop j) v; rw [hv.out] at this; omega
              by_cases hjs : j < s.size
              · have hjs' : (j : Int) < (s.size : Int) := by omega
                have c1 := hcell j hjs
                have hd := hdig j hjs
                have hv2 : Hid (valP (s.data.toList.drop (j + 1)) (10 * v + ((byteAt s j).toNat - 48)) = V) := by show _ = _; rw [← hv.out, drop_byteAt s j hjs, valP]
                clear hcell hcv hrun
                go_wp2_with fail
                refine ⟨⟨j + 1, 10 * v + ((byteAt s j).toNat - 48), by omega, rfl, congrArg (Value.int .i64) (by omega), hv2, trivial⟩, ?_⟩
                simp [intOf]
                omega
              · obtain rfl : j = s.size := by omega
                have hvv : v = V := by have h := hv.out; rw [List.drop_of_length_le (by rw [size_list]; omega)] at h; exact h
                subst hvv
                have hjs' : ¬ (s.size : Int) < (s.size : Int) := by omega
                by_cases hbig : 4096 < v
                · have ho2 : none = o := (hobig hbig).symm.trans ho.out
                  subst ho2
                  have hb4 : (v : Int) > 4096 := by omega
                  go_wp2_with fail
                  go_ret2
                  exact ⟨rfl, hx2⟩
                · have ho2 : some v = o := (hosm hbig).symm.trans ho.out
                  subst ho2
                  have hb4 : ¬ (v : Int) > 4096 := by omega
                  go_wp2_with fail
                  go_ret2
                  exact ⟨rfl, hx2⟩
          · have z1 : (s.size : Int) > 1 := by omega
            have z2 : ¬ (byteAt s 0).toNat = 48 := fun h => hz ⟨by omega, h⟩
            have z3 : (((byteAt s 0).toNat : Int) == 48) = false := by simp; omega
            go_wp2_with fail
            refine hrun.mono ?_
            rintro e w1 ⟨rfl, hw⟩
            subst hw
            have hcv := Lib.run_convert_string_bytes (P := Try.prog) w1 9 39 5 s Try.underlying9 Try.underlying39 Try.underlying5
            obtain ⟨cap, hcap⟩ : ∃ c, Hid (grownCap w1 s.size 0 5 = c) := ⟨_, rfl⟩
            rw [hcap.out] at hcv
            obtain ⟨w2, hw2⟩ : ∃ w2, Hid (Lib.bytesWorld w1 5 s = w2) := ⟨_, rfl⟩
            have hx2 : Ext w1 w2 := by rw [← hw2.out]; exact ext_bytes _ _ _
            have hcell : ∀ j, j < s.size → w2.cell? ⟨w1.heap.size, j, none⟩ = some (.int .u8 ((byteAt s j).toNat : Int)) := fun j hj => by rw [← hw2.out]; exact Lib.bytesWorld_cell _ _ _ j hj
            rw [hw2.out] at hcv
            go_wp2_with fail
            go_loopw [4, 34] (fun v4 v34 wr => ∃ j v : Nat, j ≤ s.size ∧ v34 = .int .i64 j ∧ v4 = .int .i64 v ∧ Hid (valP (s.data.toList.drop j) v = V) ∧ wr = w2) (fun _ v34 _ => s.size - (intOf v34).toNat)
            case atStart => exact ⟨0, 0, by omega, rfl, rfl, hV, rfl⟩
            case round =>
              obtain ⟨j, v, hj, rfl, rfl, hv, hw⟩ := hrel
              have hw := hw.symm
              subst hw
              have hvV : v ≤ 9999 := by have := valP_ge (s.data.toList.drop j) v; rw [hv.out] at this; omega
              by_cases hjs : j < s.size
              · have hjs' : (j : Int) < (s.size : Int) := by omega
                have c1 := hcell j hjs
                have hd := hdig j hjs
                have hv2 : Hid (valP (s.data.toList.drop (j + 1)) (10 * v + ((byteAt s j).toNat - 48)) = V) := by show _ = _; rw [← hv.out, drop_byteAt s j hjs, valP]
                clear hcell hcv hrun
                go_wp2_with fail
                refine ⟨⟨j + 1, 10 * v + ((byteAt s j).toNat - 48), by omega, rfl, congrArg (Value.int .i64) (by omega), hv2, trivial⟩, ?_⟩
                simp [intOf]
                omega
              · obtain rfl : j = s.size := by omega
                have hvv : v = V := by have h := hv.out; rw [List.drop_of_length_le (by rw [size_list]; omega)] at h; exact h
                subst hvv
                have hjs' : ¬ (s.size : Int) < (s.size : Int) := by omega
                by_cases hbig : 4096 < v
                · have ho2 : none = o := (hobig hbig).symm.trans ho.out
                  subst ho2
                  have hb4 : (v : Int) > 4096 := by omega
                  go_wp2_with fail
                  go_ret2
                  exact ⟨rfl, hx2⟩
                · have ho2 : some v = o := (hosm hbig).symm.trans ho.out
                  subst ho2
                  have hb4 : ¬ (v : Int) > 4096 := by omega
                  go_wp2_with fail
                  go_ret2
                  exact ⟨rfl, hx2⟩
        · have ho2 : none = o := by rw [← ho.out, numO]; simp only [hne, if_false]; split; rfl; split; rfl; rw [if_pos (by rw [size_list]; omega)]
          subst ho2
          have h4' : ¬ (s.size : Int) ≤ 4 := by omega
          have hRb : ((R : Int) != (s.size : Int)) = false := by rw [hRs]; simp
          have z1 : (s.size : Int) > 1 := by omega
          have z2 : ¬ (byteAt s 0).toNat = 48 := fun h => hz ⟨by omega, h⟩
          have z3 : (((byteAt s 0).toNat : Int) == 48) = false := by simp; omega
          go_wp2_with fail
          refine hrun.mono ?_
          rintro e w1 ⟨rfl, hw⟩
          subst hw
          go_wp2_with fail
          go_ret2
          exact ⟨rfl, Ext.refl _⟩
      · have ho2 : none = o := by rw [← ho.out, numO]; simp only [hne, if_false]; split; rfl; rw [if_pos (by rw [hR.out, size_list]; exact hRs)]
        subst ho2
        have hRb : ((R : Int) != (s.size : Int)) = true := by simp; omega
        by_cases hs1 : s.size = 1
        · have z1 : ¬ (s.size : Int) > 1 := by omega
          go_wp2_with fail
          refine hrun.mono ?_
          rintro e w1 ⟨rfl, hw⟩
          subst hw
          go_wp2_with fail
          go_ret2
          exact ⟨rfl, Ext.refl _⟩
        · have z1 : (s.size : Int) > 1 := by omega
          have z2 : ¬ (byteAt s 0).toNat = 48 := fun h => hz ⟨by omega, h⟩
          have z3 : (((byteAt s 0).toNat : Int) == 48) = false := by simp; omega
          go_wp2_with fail
          refine hrun.mono ?_
          rintro e w1 ⟨rfl, hw⟩
          subst hw
          go_wp2_with fail
          go_ret2
          exact ⟨rfl, Ext.refl _⟩
end Go.Proofs.Ytgbfoklgejdegaa.Lx
