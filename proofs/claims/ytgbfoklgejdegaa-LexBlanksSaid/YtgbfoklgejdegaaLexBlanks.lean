/- lex: the law LexBlanks, walked. -/
import Derived.Test.YtgbfoklgejdegaaLexIns
import Derived.Test.YtgbfoklgejdegaaLexOrder
namespace Go.Proofs.Ytgbfoklgejdegaa.Lx
open Go.ChangeShapes Go.WideShapes Go.ChangeAt Go.RowKit Go.Shelf
open Base
set_option linter.unusedVariables false
set_option linter.unusedSimpArgs false

set_option maxRecDepth 100000 in
set_option maxHeartbeats 4000000 in
theorem blanks_any (s : ByteArray) (hs : s.size ≤ 140737488351232) (zi : Int) (hz : 0 ≤ zi ∧ zi ≤ 65535) (w : World) : Calls Try.prog 4 #[.string s, .int .u16 zi] w fun e w' => e = .returned (.bool true) ∧ Ext w w' := by
  obtain ⟨z, rfl⟩ : ∃ z : Nat, zi = (z : Int) := ⟨zi.toNat, by omega⟩
  have hz2 : z ≤ 65535 := by omega
  clear hz
  have hwd := words_any s hs w
  go_enter Try.func4, Try.ntmps4
  go_wp2_with fail
  refine hwd.mono ?_
  rintro e w1 ⟨v, p, er, rfl, h, hx⟩
  clear hwd
  rcases h with ⟨h, rfl⟩ | ⟨hw, rfl, rfl, g, cap, rfl, hc⟩
  · have he : (er != 0) = true := by rcases words_err s h with rfl | rfl <;> rfl
    go_wp2_with fail
    refine (lives_any w1).mono ?_
    rintro e w2 ⟨rfl, hx2⟩
    go_wp2_with fail
    go_ret
    exact ⟨rfl, hx.trans hx2⟩
  · obtain ⟨T, hT⟩ : ∃ T, Hid (toks s = T) := ⟨_, rfl⟩
    have hch := toks_chain s
    have hne := toks_ne s
    rw [hT.out] at hc hch hne ⊢
    obtain ⟨n, hn⟩ : ∃ n, Hid (T.length = n) := ⟨_, rfl⟩
    have hn15 : n ≤ 1500 := by
      have h := hw
      unfold words at h
      split at h
      · cases h
      · have := wordsR_len (toks s) 0 (by omega) h
        rw [hT.out, hn.out] at this
        omega
    have hn0 : 0 < n := by rw [← hn.out]; exact List.length_pos_iff.2 hne
    have hnb : ((n : Int) == 0) = false := by simp; omega
    rw [hn.out]
    by_cases hbig : s.size < 4096
    · have hb1 : ¬ (s.size : Int) ≥ 4096 := by omega
      obtain ⟨k, hk⟩ : ∃ k, Hid (z % n = k) := ⟨_, rfl⟩
      have hkn : k < n := by rw [← hk.out]; exact Nat.mod_lt _ hn0
      have hzk : (z : Int) % (n : Int) = (k : Int) := by rw [← hk.out]; rfl
      have hkn' : (k : Int) < (n : Int) := by omega
      obtain ⟨t, ht⟩ : ∃ t, Hid (T[k]? = some t) := ⟨T[k]'(by rw [hn.out]; exact hkn), List.getElem?_eq_getElem _⟩
      have hrk := rows_at T k t ht.out
      have ca := hc _ _ hrk.2.2
      obtain ⟨fi, _⟩ := chain_fine s T 0 hch k t ht.out
      have hpl := fi.place
      obtain ⟨a, ha⟩ : ∃ a, Hid (t.a = a) := ⟨_, rfl⟩
      rw [ha.out] at ca hpl
      have hal : a ≤ s.size := by omega
      have hal' : (a : Int) ≤ (s.size : Int) := by omega
      have han : ¬ (a : Int) < 0 := by omega
      clear fi hpl hrk
      go_wp2_with fail
      have hins : Ins s (s.extract 0 a ++ ⟨#[10]⟩ ++ s.extract a s.size) a := ⟨hal, by
        rw [ByteArray.data_append, ByteArray.data_append, Array.toList_append, Array.toList_append, ext_list, ext_list, List.drop_zero, Nat.sub_zero, List.append_assoc, List.take_of_length_le (l := s.data.toList.drop a) (by rw [List.length_drop, size_list]; omega)]
        rfl⟩
      have hw2 := hins.words k t (by rw [hT.out]; exact ht.out) ha.out hw hbig
      have hT2 := hins.toks k t (by rw [hT.out]; exact ht.out) ha.out
      rw [hT.out] at hT2
      have hs2 := hins.size
      have hwd2 := words_any _ (show (s.extract 0 a ++ ⟨#[10]⟩ ++ s.extract a s.size).size ≤ 140737488351232 by omega)
      rw [hT2, hw2] at hwd2
      obtain ⟨T2, hT2d⟩ : ∃ T2, Hid (T.take k ++ (T.drop k).map sh = T2) := ⟨_, rfl⟩
      rw [hT2d.out] at hwd2
      have hn2 : T2.length = n := by rw [← hT2d.out, List.length_append, List.length_take, List.length_map, List.length_drop, hn.out]; omega
      clear hw2 hT2 hs2 hins hw hT hbig
      have m1 : (9223372036854775807 < a + 1) = False := eq_false (by omega)
      have m2 : (9223372036854775807 < a + 1 + (s.size - a)) = False := eq_false (by omega)
      refine Reg.startE (by kernel_rfl) ?_
      refine Reg.takeE 0 _ _ rfl (by kernel_rfl) (by kernel_rfl) (by kernel_rfl) (by decide) (fun _ _ _ h => by first | exact h | exact hP _ _ _ _ h) (by rfl) (fun W hW => by go_simp; with_reducible rfl) ?_; (try simp only [Act.put, Act.eval, List.getElem?_toArray, List.getElem_toArray, List.getElem?_cons_zero, List.getElem?_cons_succ, List.getElem_cons_zero, List.getElem_cons_succ, Option.getD_some, List.setIfInBounds_toArray, List.set_cons_zero, List.set_cons_succ])
      refine Reg.takeE 1 _ _ rfl (by kernel_rfl) (by kernel_rfl) (by kernel_rfl) (by decide) (fun _ _ _ h => by first | exact h | exact hP _ _ _ _ h) (by rfl) (fun W hW => by go_simp; with_reducible rfl) ?_; (try simp only [Act.put, Act.eval, List.getElem?_toArray, List.getElem_toArray, List.getElem?_cons_zero, List.getElem?_cons_succ, List.getElem_cons_zero, List.getElem_cons_succ, Option.getD_some, List.setIfInBounds_toArray, List.set_cons_zero, List.set_cons_succ])
      refine Reg.takeE 2 _ _ rfl (by kernel_rfl) (by kernel_rfl) (by kernel_rfl) (by decide) (fun _ _ _ h => by first | exact h | exact hP _ _ _ _ h) (by rfl) (fun W hW => by go_simp; with_reducible rfl) ?_; (try simp only [Act.put, Act.eval, List.getElem?_toArray, List.getElem_toArray, List.getElem?_cons_zero, List.getElem?_cons_succ, List.getElem_cons_zero, List.getElem_cons_succ, Option.getD_some, List.setIfInBounds_toArray, List.set_cons_zero, List.set_cons_succ])
      refine Reg.takeE 3 _ _ rfl (by kernel_rfl) (by kernel_rfl) (by kernel_rfl) (by decide) (fun _ _ _ h => by first | exact h | exact hP _ _ _ _ h) (by rfl) (fun W hW => by go_simp; with_reducible rfl) ?_; (try simp only [Act.put, Act.eval, List.getElem?_toArray, List.getElem_toArray, List.getElem?_cons_zero, List.getElem?_cons_succ, List.getElem_cons_zero, List.getElem_cons_succ, Option.getD_some, List.setIfInBounds_toArray, List.set_cons_zero, List.set_cons_succ])
      refine Reg.takeE 4 _ _ rfl (by kernel_rfl) (by kernel_rfl) (by kernel_rfl) (by decide) (fun _ _ _ h => by first | exact h | exact hP _ _ _ _ h) (by rfl) (fun W hW => by go_simp; with_reducible rfl) ?_; (try simp only [Act.put, Act.eval, List.getElem?_toArray, List.getElem_toArray, List.getElem?_cons_zero, List.getElem?_cons_succ, List.getElem_cons_zero, List.getElem_cons_succ, Option.getD_some, List.setIfInBounds_toArray, List.set_cons_zero, List.set_cons_succ])
      refine Reg.takeE 5 _ _ rfl (by kernel_rfl) (by kernel_rfl) (by kernel_rfl) (by decide) (fun _ _ _ h => by first | exact h | exact hP _ _ _ _ h) (by rfl) (fun W hW => by go_simp; with_reducible rfl) ?_; (try simp only [Act.put, Act.eval, List.getElem?_toArray, List.getElem_toArray, List.getElem?_cons_zero, List.getElem?_cons_succ, List.getElem_cons_zero, List.getElem_cons_succ, Option.getD_some, List.setIfInBounds_toArray, List.set_cons_zero, List.set_cons_succ])
      refine Reg.takeE 6 _ _ rfl (by kernel_rfl) (by kernel_rfl) (by kernel_rfl) (by decide) (fun _ _ _ h => by first | exact h | exact hP _ _ _ _ h) (by rfl) (fun W hW => by go_simp; with_reducible rfl) ?_; (try simp only [Act.put, Act.eval, List.getElem?_toArray, List.getElem_toArray, List.getElem?_cons_zero, List.getElem?_cons_succ, List.getElem_cons_zero, List.getElem_cons_succ, Option.getD_some, List.setIfInBounds_toArray, List.set_cons_zero, List.set_cons_succ])
      refine Reg.takeE 7 _ _ rfl (by kernel_rfl) (by kernel_rfl) (by kernel_rfl) (by decide) (fun _ _ _ h => by first | exact h | exact hP _ _ _ _ h) (by rfl) (fun W hW => by go_simp; with_reducible rfl) ?_; (try simp only [Act.put, Act.eval, List.getElem?_toArray, List.getElem_toArray, List.getElem?_cons_zero, List.getElem?_cons_succ, List.getElem_cons_zero, List.getElem_cons_succ, Option.getD_some, List.setIfInBounds_toArray, List.set_cons_zero, List.set_cons_succ])
      refine Reg.onlyE 8 _ rfl (by kernel_rfl) (by decide) (by rfl) (fun W hW K hK => ?_); go_simp
      refine (hwd2 W).mono ?_
      rintro e w2 ⟨v2, p2, er2, rfl, h2, hx2⟩
      rcases h2 with ⟨h2, _⟩ | ⟨_, rfl, rfl, g2, cap2, rfl, hc2⟩
      · cases h2
      rw [hn2]
      refine hK.out _ _ (hx2) ?_; clear hK K; (try simp only [Act.put, Act.eval, List.getElem?_toArray, List.getElem_toArray, List.getElem?_cons_zero, List.getElem?_cons_succ, List.getElem_cons_zero, List.getElem_cons_succ, Option.getD_some, List.setIfInBounds_toArray, List.set_cons_zero, List.set_cons_succ])
      refine Reg.takeE 9 _ _ rfl (by kernel_rfl) (by kernel_rfl) (by kernel_rfl) (by decide) (fun _ _ _ h => by first | exact h | exact hP _ _ _ _ h) (by rfl) (fun W hW => by go_simp; with_reducible rfl) ?_; (try simp only [Act.put, Act.eval, List.getElem?_toArray, List.getElem_toArray, List.getElem?_cons_zero, List.getElem?_cons_succ, List.getElem_cons_zero, List.getElem_cons_succ, Option.getD_some, List.setIfInBounds_toArray, List.set_cons_zero, List.set_cons_succ])
      refine Reg.takeE 10 _ _ rfl (by kernel_rfl) (by kernel_rfl) (by kernel_rfl) (by decide) (fun _ _ _ h => by first | exact h | exact hP _ _ _ _ h) (by rfl) (fun W hW => by go_simp; with_reducible rfl) ?_; (try simp only [Act.put, Act.eval, List.getElem?_toArray, List.getElem_toArray, List.getElem?_cons_zero, List.getElem?_cons_succ, List.getElem_cons_zero, List.getElem_cons_succ, Option.getD_some, List.setIfInBounds_toArray, List.set_cons_zero, List.set_cons_succ])
      refine Reg.takeE 11 _ _ rfl (by kernel_rfl) (by kernel_rfl) (by kernel_rfl) (by decide) (fun _ _ _ h => by first | exact h | exact hP _ _ _ _ h) (by rfl) (fun W hW => by go_simp; with_reducible rfl) ?_; (try simp only [Act.put, Act.eval, List.getElem?_toArray, List.getElem_toArray, List.getElem?_cons_zero, List.getElem?_cons_succ, List.getElem_cons_zero, List.getElem_cons_succ, Option.getD_some, List.setIfInBounds_toArray, List.set_cons_zero, List.set_cons_succ])
      refine Reg.takeE 12 _ _ rfl (by kernel_rfl) (by kernel_rfl) (by kernel_rfl) (by decide) (fun _ _ _ h => by first | exact h | exact hP _ _ _ _ h) (by rfl) (fun W hW => by go_simp; with_reducible rfl) ?_; (try simp only [Act.put, Act.eval, List.getElem?_toArray, List.getElem_toArray, List.getElem?_cons_zero, List.getElem?_cons_succ, List.getElem_cons_zero, List.getElem_cons_succ, Option.getD_some, List.setIfInBounds_toArray, List.set_cons_zero, List.set_cons_succ])
      refine Reg.takeE 13 _ _ rfl (by kernel_rfl) (by kernel_rfl) (by kernel_rfl) (by decide) (fun _ _ _ h => by first | exact h | exact hP _ _ _ _ h) (by rfl) (fun W hW => by go_simp; with_reducible rfl) ?_; (try simp only [Act.put, Act.eval, List.getElem?_toArray, List.getElem_toArray, List.getElem?_cons_zero, List.getElem?_cons_succ, List.getElem_cons_zero, List.getElem_cons_succ, Option.getD_some, List.setIfInBounds_toArray, List.set_cons_zero, List.set_cons_succ])
      refine Reg.takeE 14 _ _ rfl (by kernel_rfl) (by kernel_rfl) (by kernel_rfl) (by decide) (fun _ _ _ h => by first | exact h | exact hP _ _ _ _ h) (by rfl) (fun W hW => by go_simp; with_reducible rfl) ?_; (try simp only [Act.put, Act.eval, List.getElem?_toArray, List.getElem_toArray, List.getElem?_cons_zero, List.getElem?_cons_succ, List.getElem_cons_zero, List.getElem_cons_succ, Option.getD_some, List.setIfInBounds_toArray, List.set_cons_zero, List.set_cons_succ])
      refine Reg.takeE 15 _ _ rfl (by kernel_rfl) (by kernel_rfl) (by kernel_rfl) (by decide) (fun _ _ _ h => by first | exact h | exact hP _ _ _ _ h) (by rfl) (fun W hW => by go_simp; with_reducible rfl) ?_; (try simp only [Act.put, Act.eval, List.getElem?_toArray, List.getElem_toArray, List.getElem?_cons_zero, List.getElem?_cons_succ, List.getElem_cons_zero, List.getElem_cons_succ, Option.getD_some, List.setIfInBounds_toArray, List.set_cons_zero, List.set_cons_succ])
      refine Reg.fin (by kernel_rfl) (fun W hW => ?_)
      have hxa : Ext w1 W := (by repeat (first | assumption | exact Ext.refl _ | refine Ext.trans (by assumption) ?_ | apply Ext.drew | apply Ext.drewN | apply Ext.alloc))
      have hc3 : ∀ (j : Nat) (u : Value), (rows T2)[j]? = some u → W.cell? ⟨g2, j, none⟩ = some u := fun j u h => Ext.cell (by assumption) (hc2 j u h)
      obtain ⟨w3, hw3⟩ : ∃ w3, w3 = W := ⟨_, rfl⟩
      rw [← hw3] at hc3 hxa ⊢
      clear hc2 hw3
      have hnn : ((n : Int) != (n : Int)) = false := by simp
      go_wp2_with fail
      go_loopw [13] (fun v13 wr => ∃ i : Nat, i ≤ n ∧ v13 = .int .i64 i ∧ Ext w3 wr) (fun v13 _ => n - (intOf v13).toNat)
      case atStart => exact ⟨0, by omega, rfl, Ext.refl _⟩
      case round =>
        obtain ⟨i, hi, rfl, hxr⟩ := hrel
        by_cases hin : i < n
        · have hin' : (i : Int) < (n : Int) := by omega
          obtain ⟨u, hu⟩ : ∃ u, Hid (T[i]? = some u) := ⟨T[i]'(by rw [hn.out]; exact hin), List.getElem?_eq_getElem _⟩
          have hr := rows_at T i u hu.out
          have ck := (hxa.trans hxr).cell (hc _ _ hr.1)
          have cs := (hxa.trans hxr).cell (hc _ _ hr.2.1)
          have cu := (hxa.trans hxr).cell (hc _ _ hr.2.2)
          have hua : u.a ≤ s.size := by have := (chain_fine s T 0 hch i u hu.out).1.place; omega
          by_cases hik : i < k
          · have hik' : ¬ (i : Int) ≥ (k : Int) := by omega
            have e2 : T2[i]? = some u := by rw [← hT2d.out, List.getElem?_append_left (by rw [List.length_take, hn.out]; omega), List.getElem?_take, if_pos hik]; exact hu.out
            have hr2 := rows_at T2 i u e2
            go_wp2_with fail
            generalize hw8 : World.alloc wr _ = w8
            have hx8 : Ext wr w8 := by rw [← hw8]; exact (Ext.refl wr).alloc _
            have b8 : Blk w8 wr.heap.size #[.int .i64 u.k, .string u.s, .int .i64 (u.a : Int)] 28 := by rw [← hw8]; exact Blk.new _ _ _
            clear hw8
            have q0 : ∀ W, Ext w8 W → W.cell? ⟨wr.heap.size, 0, none⟩ = some (.int .i64 u.k) := fun W hW => (b8.ext hW).cell 0
            have q1 : ∀ W, Ext w8 W → W.cell? ⟨wr.heap.size, 1, none⟩ = some (.string u.s) := fun W hW => (b8.ext hW).cell 1
            have q2 : ∀ W, Ext w8 W → W.cell? ⟨wr.heap.size, 2, none⟩ = some (.int .i64 (u.a : Int)) := fun W hW => (b8.ext hW).cell 2
            have r0 : ∀ W, Ext w8 W → W.cell? ⟨g2, i * 3, none⟩ = some (.int .i64 u.k) := fun W hW => ((hxr.trans hx8).trans hW).cell (hc3 _ _ hr2.1)
            have r1 : ∀ W, Ext w8 W → W.cell? ⟨g2, i * 3 + 1, none⟩ = some (.string u.s) := fun W hW => ((hxr.trans hx8).trans hW).cell (hc3 _ _ hr2.2.1)
            have r2 : ∀ W, Ext w8 W → W.cell? ⟨g2, i * 3 + 2, none⟩ = some (.int .i64 (u.a : Int)) := fun W hW => ((hxr.trans hx8).trans hW).cell (hc3 _ _ hr2.2.2)
            clear hr hr2
            refine Reg.startE (by kernel_rfl) ?_
            refine Reg.takeE 0 _ _ rfl (by kernel_rfl) (by kernel_rfl) (by kernel_rfl) (by decide) (fun _ _ _ h => by first | exact h | exact hP _ _ _ _ h) (by rfl) (fun W hW => by go_simp; with_reducible rfl) ?_; (try simp only [Act.put, Act.eval, List.getElem?_toArray, List.getElem_toArray, List.getElem?_cons_zero, List.getElem?_cons_succ, List.getElem_cons_zero, List.getElem_cons_succ, Option.getD_some, List.setIfInBounds_toArray, List.set_cons_zero, List.set_cons_succ])
            refine Reg.takeE 1 _ _ rfl (by kernel_rfl) (by kernel_rfl) (by kernel_rfl) (by decide) (fun _ _ _ h => by first | exact h | exact hP _ _ _ _ h) (by rfl) (fun W hW => by go_simp; with_reducible rfl) ?_; (try simp only [Act.put, Act.eval, List.getElem?_toArray, List.getElem_toArray, List.getElem?_cons_zero, List.getElem?_cons_succ, List.getElem_cons_zero, List.getElem_cons_succ, Option.getD_some, List.setIfInBounds_toArray, List.set_cons_zero, List.set_cons_succ])
            refine Reg.takeE 2 _ _ rfl (by kernel_rfl) (by kernel_rfl) (by kernel_rfl) (by decide) (fun _ _ _ h => by first | exact h | exact hP _ _ _ _ h) (by rfl) (fun W hW => by go_simp; with_reducible rfl) ?_; (try simp only [Act.put, Act.eval, List.getElem?_toArray, List.getElem_toArray, List.getElem?_cons_zero, List.getElem?_cons_succ, List.getElem_cons_zero, List.getElem_cons_succ, Option.getD_some, List.setIfInBounds_toArray, List.set_cons_zero, List.set_cons_succ])
            refine Reg.takeE 3 _ _ rfl (by kernel_rfl) (by kernel_rfl) (by kernel_rfl) (by decide) (fun _ _ _ h => by first | exact h | exact hP _ _ _ _ h) (by rfl) (fun W hW => by go_simp; with_reducible rfl) ?_; (try simp only [Act.put, Act.eval, List.getElem?_toArray, List.getElem_toArray, List.getElem?_cons_zero, List.getElem?_cons_succ, List.getElem_cons_zero, List.getElem_cons_succ, Option.getD_some, List.setIfInBounds_toArray, List.set_cons_zero, List.set_cons_succ])
            refine Reg.takeE 4 _ _ rfl (by kernel_rfl) (by kernel_rfl) (by kernel_rfl) (by decide) (fun _ _ _ h => by first | exact h | exact hP _ _ _ _ h) (by rfl) (fun W hW => by go_simp; with_reducible rfl) ?_; (try simp only [Act.put, Act.eval, List.getElem?_toArray, List.getElem_toArray, List.getElem?_cons_zero, List.getElem?_cons_succ, List.getElem_cons_zero, List.getElem_cons_succ, Option.getD_some, List.setIfInBounds_toArray, List.set_cons_zero, List.set_cons_succ])
            refine Reg.takeE 5 _ _ rfl (by kernel_rfl) (by kernel_rfl) (by kernel_rfl) (by decide) (fun _ _ _ h => by first | exact h | exact hP _ _ _ _ h) (by rfl) (fun W hW => by go_simp; with_reducible rfl) ?_; (try simp only [Act.put, Act.eval, List.getElem?_toArray, List.getElem_toArray, List.getElem?_cons_zero, List.getElem?_cons_succ, List.getElem_cons_zero, List.getElem_cons_succ, Option.getD_some, List.setIfInBounds_toArray, List.set_cons_zero, List.set_cons_succ])
            refine Reg.fin (by kernel_rfl) (fun W hW => ?_)
            have hW0 : Ext w8 W := hW
            go_wp2_with fail
            refine ⟨⟨i + 1, by omega, rfl, hxr.trans (hx8.trans hW0)⟩, ?_⟩
            simp [intOf]
            omega
          · have hik' : (i : Int) ≥ (k : Int) := by omega
            have e2 : T2[i]? = some (sh u) := by rw [← hT2d.out, List.getElem?_append_right (by rw [List.length_take, hn.out]; omega), List.length_take, hn.out, Nat.min_eq_left (by omega), List.getElem?_map, List.getElem?_drop, show k + (i - k) = i by omega, hu.out]; rfl
            have hr2 := rows_at T2 i (sh u) e2
            have hcast : ((sh u).a : Int) = (u.a : Int) + 1 := by show ((u.a + 1 : Nat) : Int) = _; omega
            rw [hcast] at hr2
            go_wp2_with fail
            generalize hw8 : World.alloc wr _ = w8
            have hx8 : Ext wr w8 := by rw [← hw8]; exact (Ext.refl wr).alloc _
            have b8 : Blk w8 wr.heap.size #[.int .i64 u.k, .string u.s, .int .i64 ((u.a : Int) + 1)] 28 := by rw [← hw8]; exact Blk.new _ _ _
            clear hw8
            have q0 : ∀ W, Ext w8 W → W.cell? ⟨wr.heap.size, 0, none⟩ = some (.int .i64 u.k) := fun W hW => (b8.ext hW).cell 0
            have q1 : ∀ W, Ext w8 W → W.cell? ⟨wr.heap.size, 1, none⟩ = some (.string u.s) := fun W hW => (b8.ext hW).cell 1
            have q2 : ∀ W, Ext w8 W → W.cell? ⟨wr.heap.size, 2, none⟩ = some (.int .i64 ((u.a : Int) + 1)) := fun W hW => (b8.ext hW).cell 2
            have r0 : ∀ W, Ext w8 W → W.cell? ⟨g2, i * 3, none⟩ = some (.int .i64 u.k) := fun W hW => ((hxr.trans hx8).trans hW).cell (hc3 _ _ hr2.1)
            have r1 : ∀ W, Ext w8 W → W.cell? ⟨g2, i * 3 + 1, none⟩ = some (.string u.s) := fun W hW => ((hxr.trans hx8).trans hW).cell (hc3 _ _ hr2.2.1)
            have r2 : ∀ W, Ext w8 W → W.cell? ⟨g2, i * 3 + 2, none⟩ = some (.int .i64 ((u.a : Int) + 1)) := fun W hW => ((hxr.trans hx8).trans hW).cell (hc3 _ _ hr2.2.2)
            clear hr hr2
            refine Reg.startE (by kernel_rfl) ?_
            refine Reg.takeE 0 _ _ rfl (by kernel_rfl) (by kernel_rfl) (by kernel_rfl) (by decide) (fun _ _ _ h => by first | exact h | exact hP _ _ _ _ h) (by rfl) (fun W hW => by go_simp; with_reducible rfl) ?_; (try simp only [Act.put, Act.eval, List.getElem?_toArray, List.getElem_toArray, List.getElem?_cons_zero, List.getElem?_cons_succ, List.getElem_cons_zero, List.getElem_cons_succ, Option.getD_some, List.setIfInBounds_toArray, List.set_cons_zero, List.set_cons_succ])
            refine Reg.takeE 1 _ _ rfl (by kernel_rfl) (by kernel_rfl) (by kernel_rfl) (by decide) (fun _ _ _ h => by first | exact h | exact hP _ _ _ _ h) (by rfl) (fun W hW => by go_simp; with_reducible rfl) ?_; (try simp only [Act.put, Act.eval, List.getElem?_toArray, List.getElem_toArray, List.getElem?_cons_zero, List.getElem?_cons_succ, List.getElem_cons_zero, List.getElem_cons_succ, Option.getD_some, List.setIfInBounds_toArray, List.set_cons_zero, List.set_cons_succ])
            refine Reg.takeE 2 _ _ rfl (by kernel_rfl) (by kernel_rfl) (by kernel_rfl) (by decide) (fun _ _ _ h => by first | exact h | exact hP _ _ _ _ h) (by rfl) (fun W hW => by go_simp; with_reducible rfl) ?_; (try simp only [Act.put, Act.eval, List.getElem?_toArray, List.getElem_toArray, List.getElem?_cons_zero, List.getElem?_cons_succ, List.getElem_cons_zero, List.getElem_cons_succ, Option.getD_some, List.setIfInBounds_toArray, List.set_cons_zero, List.set_cons_succ])
            refine Reg.takeE 3 _ _ rfl (by kernel_rfl) (by kernel_rfl) (by kernel_rfl) (by decide) (fun _ _ _ h => by first | exact h | exact hP _ _ _ _ h) (by rfl) (fun W hW => by go_simp; with_reducible rfl) ?_; (try simp only [Act.put, Act.eval, List.getElem?_toArray, List.getElem_toArray, List.getElem?_cons_zero, List.getElem?_cons_succ, List.getElem_cons_zero, List.getElem_cons_succ, Option.getD_some, List.setIfInBounds_toArray, List.set_cons_zero, List.set_cons_succ])
            refine Reg.takeE 4 _ _ rfl (by kernel_rfl) (by kernel_rfl) (by kernel_rfl) (by decide) (fun _ _ _ h => by first | exact h | exact hP _ _ _ _ h) (by rfl) (fun W hW => by go_simp; with_reducible rfl) ?_; (try simp only [Act.put, Act.eval, List.getElem?_toArray, List.getElem_toArray, List.getElem?_cons_zero, List.getElem?_cons_succ, List.getElem_cons_zero, List.getElem_cons_succ, Option.getD_some, List.setIfInBounds_toArray, List.set_cons_zero, List.set_cons_succ])
            refine Reg.takeE 5 _ _ rfl (by kernel_rfl) (by kernel_rfl) (by kernel_rfl) (by decide) (fun _ _ _ h => by first | exact h | exact hP _ _ _ _ h) (by rfl) (fun W hW => by go_simp; with_reducible rfl) ?_; (try simp only [Act.put, Act.eval, List.getElem?_toArray, List.getElem_toArray, List.getElem?_cons_zero, List.getElem?_cons_succ, List.getElem_cons_zero, List.getElem_cons_succ, Option.getD_some, List.setIfInBounds_toArray, List.set_cons_zero, List.set_cons_succ])
            refine Reg.fin (by kernel_rfl) (fun W hW => ?_)
            have hW0 : Ext w8 W := hW
            go_wp2_with fail
            refine ⟨⟨i + 1, by omega, rfl, hxr.trans (hx8.trans hW0)⟩, ?_⟩
            simp [intOf]
            omega
        · obtain rfl : i = n := by omega
          have hin' : ¬ (i : Int) < (i : Int) := by omega
          go_wp2_with fail
          refine (lives_any wr).mono ?_
          rintro e w4 ⟨rfl, hx4⟩
          go_wp2_with fail
          go_ret
          exact ⟨rfl, ((hx.trans hxa).trans hxr).trans hx4⟩
    · have hb1 : (s.size : Int) ≥ 4096 := by omega
      go_wp2_with fail
      refine (lives_any w1).mono ?_
      rintro e w2 ⟨rfl, hx2⟩
      go_wp2_with fail
      go_ret
      exact ⟨rfl, hx.trans hx2⟩
end Go.Proofs.Ytgbfoklgejdegaa.Lx
