/- parse: the document's way to hold schemas against each other. -/
import Derived.Test.YtejcacbbhijdcaaDoorPaN
namespace Go.Proofs.YtejcacbbhijdcaaDoor.Pr
open Go.ChangeShapes Go.WideShapes Go.ChangeAt Go.RowKit
open Base Lx Mi
set_option linter.unusedVariables false
set_option linter.unusedSimpArgs false

set_option maxHeartbeats 1000000 in
theorem rtexts_any {B : Nat} {w : World} {v1 v2 : Value} {l1 l2 : List ByteArray} (h1 : Sl B w v1 l1.length (txs l1)) (h2 : Sl B w v2 l2.length (txs l2)) (hB : B ≤ w.heap.size) :
    Calls Tryd.prog 29 #[v1, v2] w fun e w' => e = .returned (.bool (decide (l1 = l2))) ∧ Ext w w' := by
  obtain ⟨R, hR⟩ : ∃ R, Hid (decide (l1 = l2) = R) := ⟨_, rfl⟩
  rw [hR.out]
  obtain ⟨A1, c1, rfl, hn1, hm1, _, hat1⟩ := h1.at_
  obtain ⟨A2, c2, rfl, hn2, hm2, _, hat2⟩ := h2.at_
  unfold maxLen at hm1 hm2
  obtain ⟨n, hn⟩ : ∃ z, Hid (l1.length = z) := ⟨_, rfl⟩
  obtain ⟨n2, hn2'⟩ : ∃ z, Hid (l2.length = z) := ⟨_, rfl⟩
  rw [hn.out] at hn1 ⊢
  rw [hn2'.out] at hn2 ⊢
  by_cases hl : n = n2
  · subst hl
    have hnb : ((n : Int) != (n : Int)) = false := by simp
    go_enter Tryd.func29, Tryd.ntmps29
    go_wp2_with fail
    go_loopw [5, 11, 12, 13, 14, 15, 16, 17, 18, 19, 20, 21, 22, 23, 24, 25] (fun v5 v11 v12 v13 v14 v15 v16 v17 v18 v19 v20 v21 v22 v23 v24 v25 wr => ∃ i : Nat, i ≤ n ∧ v5 = .int .i64 i ∧ EqAt l1 l2 i ∧ Ext w wr) (fun v5 _ _ _ _ _ _ _ _ _ _ _ _ _ _ _ _ => n - (intOf v5).toNat)
    case atStart => exact ⟨0, by omega, rfl, fun j hj => by omega, Ext.refl w⟩
    case round =>
      obtain ⟨i, hi, rfl, heq, hx⟩ := hrel
      by_cases hin : i < n
      · have hin' : (i : Int) < (n : Int) := by omega
        obtain ⟨x, hx1⟩ : ∃ x, l1[i]? = some x := ⟨_, List.getElem?_eq_getElem (by have := hn.out; omega)⟩
        obtain ⟨y, hx2⟩ : ∃ x, l2[i]? = some x := ⟨_, List.getElem?_eq_getElem (by have := hn2'.out; omega)⟩
        have hz1 : (txs l1)[i]? = some (.string x) := by unfold txs; rw [List.getElem?_map, hx1]; rfl
        have hz2 : (txs l2)[i]? = some (.string y) := by unfold txs; rw [List.getElem?_map, hx2]; rfl
        obtain ⟨b1, o1, rfl, hb1, hc1⟩ := hat1 i _ hz1
        obtain ⟨b2, o2, rfl, hb2, hc2⟩ := hat2 i _ hz2
        have d1 : ∀ W, Ext wr W → W.cell? ⟨b1, o1 + i, none⟩ = some (.string x) := fun W hW => hc1 W (Below.mono (hx.trans hW) hB) i _ hz1
        have d2 : ∀ W, Ext wr W → W.cell? ⟨b2, o2 + i, none⟩ = some (.string y) := fun W hW => hc2 W (Below.mono (hx.trans hW) hB) i _ hz2
        clear hz1 hz2 hc1 hc2
        by_cases he : x = y
        · subst he
          have hE := heq.next hx1 hx2
          clear hx1 hx2
          have hbq : (x.toList != x.toList) = false := by simp
          go_wp2_with fail
          refine Reg.startE (by kernel_rfl) ?_
          refine Reg.takeE 0 _ _ rfl (by kernel_rfl) (by kernel_rfl) (by kernel_rfl) (by decide) (fun _ _ _ h => by first | exact h | exact hP _ _ _ _ h) (by rfl) (fun W hW => by go_simp; with_reducible rfl) ?_; (try simp only [Act.put, Act.eval, List.getElem?_toArray, List.getElem_toArray, List.getElem?_cons_zero, List.getElem?_cons_succ, List.getElem_cons_zero, List.getElem_cons_succ, Option.getD_some, List.setIfInBounds_toArray, List.set_cons_zero, List.set_cons_succ])
          refine Reg.takeE 1 _ _ rfl (by kernel_rfl) (by kernel_rfl) (by kernel_rfl) (by decide) (fun _ _ _ h => by first | exact h | exact hP _ _ _ _ h) (by rfl) (fun W hW => by go_simp; with_reducible rfl) ?_; (try simp only [Act.put, Act.eval, List.getElem?_toArray, List.getElem_toArray, List.getElem?_cons_zero, List.getElem?_cons_succ, List.getElem_cons_zero, List.getElem_cons_succ, Option.getD_some, List.setIfInBounds_toArray, List.set_cons_zero, List.set_cons_succ])
          refine Reg.takeE 2 _ _ rfl (by kernel_rfl) (by kernel_rfl) (by kernel_rfl) (by decide) (fun _ _ _ h => by first | exact h | exact hP _ _ _ _ h) (by rfl) (fun W hW => by go_simp; with_reducible rfl) ?_; (try simp only [Act.put, Act.eval, List.getElem?_toArray, List.getElem_toArray, List.getElem?_cons_zero, List.getElem?_cons_succ, List.getElem_cons_zero, List.getElem_cons_succ, Option.getD_some, List.setIfInBounds_toArray, List.set_cons_zero, List.set_cons_succ])
          refine Reg.takeE 3 _ _ rfl (by kernel_rfl) (by kernel_rfl) (by kernel_rfl) (by decide) (fun _ _ _ h => by first | exact h | exact hP _ _ _ _ h) (by rfl) (fun W hW => by go_simp; with_reducible rfl) ?_; (try simp only [Act.put, Act.eval, List.getElem?_toArray, List.getElem_toArray, List.getElem?_cons_zero, List.getElem?_cons_succ, List.getElem_cons_zero, List.getElem_cons_succ, Option.getD_some, List.setIfInBounds_toArray, List.set_cons_zero, List.set_cons_succ])
          refine Reg.takeE 4 _ _ rfl (by kernel_rfl) (by kernel_rfl) (by kernel_rfl) (by decide) (fun _ _ _ h => by first | exact h | exact hP _ _ _ _ h) (by rfl) (fun W hW => by go_simp; with_reducible rfl) ?_; (try simp only [Act.put, Act.eval, List.getElem?_toArray, List.getElem_toArray, List.getElem?_cons_zero, List.getElem?_cons_succ, List.getElem_cons_zero, List.getElem_cons_succ, Option.getD_some, List.setIfInBounds_toArray, List.set_cons_zero, List.set_cons_succ])
          refine Reg.takeE 5 _ _ rfl (by kernel_rfl) (by kernel_rfl) (by kernel_rfl) (by decide) (fun _ _ _ h => by first | exact h | exact hP _ _ _ _ h) (by rfl) (fun W hW => by go_simp; with_reducible rfl) ?_; (try simp only [Act.put, Act.eval, List.getElem?_toArray, List.getElem_toArray, List.getElem?_cons_zero, List.getElem?_cons_succ, List.getElem_cons_zero, List.getElem_cons_succ, Option.getD_some, List.setIfInBounds_toArray, List.set_cons_zero, List.set_cons_succ])
          refine Reg.takeE 6 _ _ rfl (by kernel_rfl) (by kernel_rfl) (by kernel_rfl) (by decide) (fun _ _ _ h => by first | exact h | exact hP _ _ _ _ h) (by rfl) (fun W hW => by go_simp; with_reducible rfl) ?_; (try simp only [Act.put, Act.eval, List.getElem?_toArray, List.getElem_toArray, List.getElem?_cons_zero, List.getElem?_cons_succ, List.getElem_cons_zero, List.getElem_cons_succ, Option.getD_some, List.setIfInBounds_toArray, List.set_cons_zero, List.set_cons_succ])
          refine Reg.takeE 7 _ _ rfl (by kernel_rfl) (by kernel_rfl) (by kernel_rfl) (by decide) (fun _ _ _ h => by first | exact h | exact hP _ _ _ _ h) (by rfl) (fun W hW => by go_simp; with_reducible rfl) ?_; (try simp only [Act.put, Act.eval, List.getElem?_toArray, List.getElem_toArray, List.getElem?_cons_zero, List.getElem?_cons_succ, List.getElem_cons_zero, List.getElem_cons_succ, Option.getD_some, List.setIfInBounds_toArray, List.set_cons_zero, List.set_cons_succ])
          refine Reg.takeE 8 _ _ rfl (by kernel_rfl) (by kernel_rfl) (by kernel_rfl) (by decide) (fun _ _ _ h => by first | exact h | exact hP _ _ _ _ h) (by rfl) (fun W hW => by go_simp; with_reducible rfl) ?_; (try simp only [Act.put, Act.eval, List.getElem?_toArray, List.getElem_toArray, List.getElem?_cons_zero, List.getElem?_cons_succ, List.getElem_cons_zero, List.getElem_cons_succ, Option.getD_some, List.setIfInBounds_toArray, List.set_cons_zero, List.set_cons_succ])
          refine Reg.fin (by kernel_rfl) (fun W hW => ?_)
          go_wp2_with fail
          go_roundw
          case rel => exact ⟨i + 1, by omega, by go_num, hE, hx.trans hW⟩
          case measure => simp [intOf]; omega
        · have hne := ne_at hx1 hx2 he
          have hRf : R = false := by rw [← hR.out]; simpa using hne
          have hbq := str_ne he
          have hbq2 : (x.toList != y.toList) = true := by simpa [bne] using hbq
          subst hRf
          clear hx1 hx2 hne
          go_wp2_with fail
          refine Reg.startE (by kernel_rfl) ?_
          refine Reg.takeE 0 _ _ rfl (by kernel_rfl) (by kernel_rfl) (by kernel_rfl) (by decide) (fun _ _ _ h => by first | exact h | exact hP _ _ _ _ h) (by rfl) (fun W hW => by go_simp; with_reducible rfl) ?_; (try simp only [Act.put, Act.eval, List.getElem?_toArray, List.getElem_toArray, List.getElem?_cons_zero, List.getElem?_cons_succ, List.getElem_cons_zero, List.getElem_cons_succ, Option.getD_some, List.setIfInBounds_toArray, List.set_cons_zero, List.set_cons_succ])
          refine Reg.takeE 1 _ _ rfl (by kernel_rfl) (by kernel_rfl) (by kernel_rfl) (by decide) (fun _ _ _ h => by first | exact h | exact hP _ _ _ _ h) (by rfl) (fun W hW => by go_simp; with_reducible rfl) ?_; (try simp only [Act.put, Act.eval, List.getElem?_toArray, List.getElem_toArray, List.getElem?_cons_zero, List.getElem?_cons_succ, List.getElem_cons_zero, List.getElem_cons_succ, Option.getD_some, List.setIfInBounds_toArray, List.set_cons_zero, List.set_cons_succ])
          refine Reg.takeE 2 _ _ rfl (by kernel_rfl) (by kernel_rfl) (by kernel_rfl) (by decide) (fun _ _ _ h => by first | exact h | exact hP _ _ _ _ h) (by rfl) (fun W hW => by go_simp; with_reducible rfl) ?_; (try simp only [Act.put, Act.eval, List.getElem?_toArray, List.getElem_toArray, List.getElem?_cons_zero, List.getElem?_cons_succ, List.getElem_cons_zero, List.getElem_cons_succ, Option.getD_some, List.setIfInBounds_toArray, List.set_cons_zero, List.set_cons_succ])
          refine Reg.takeE 3 _ _ rfl (by kernel_rfl) (by kernel_rfl) (by kernel_rfl) (by decide) (fun _ _ _ h => by first | exact h | exact hP _ _ _ _ h) (by rfl) (fun W hW => by go_simp; with_reducible rfl) ?_; (try simp only [Act.put, Act.eval, List.getElem?_toArray, List.getElem_toArray, List.getElem?_cons_zero, List.getElem?_cons_succ, List.getElem_cons_zero, List.getElem_cons_succ, Option.getD_some, List.setIfInBounds_toArray, List.set_cons_zero, List.set_cons_succ])
          refine Reg.takeE 4 _ _ rfl (by kernel_rfl) (by kernel_rfl) (by kernel_rfl) (by decide) (fun _ _ _ h => by first | exact h | exact hP _ _ _ _ h) (by rfl) (fun W hW => by go_simp; with_reducible rfl) ?_; (try simp only [Act.put, Act.eval, List.getElem?_toArray, List.getElem_toArray, List.getElem?_cons_zero, List.getElem?_cons_succ, List.getElem_cons_zero, List.getElem_cons_succ, Option.getD_some, List.setIfInBounds_toArray, List.set_cons_zero, List.set_cons_succ])
          refine Reg.takeE 5 _ _ rfl (by kernel_rfl) (by kernel_rfl) (by kernel_rfl) (by decide) (fun _ _ _ h => by first | exact h | exact hP _ _ _ _ h) (by rfl) (fun W hW => by go_simp; with_reducible rfl) ?_; (try simp only [Act.put, Act.eval, List.getElem?_toArray, List.getElem_toArray, List.getElem?_cons_zero, List.getElem?_cons_succ, List.getElem_cons_zero, List.getElem_cons_succ, Option.getD_some, List.setIfInBounds_toArray, List.set_cons_zero, List.set_cons_succ])
          refine Reg.takeE 6 _ _ rfl (by kernel_rfl) (by kernel_rfl) (by kernel_rfl) (by decide) (fun _ _ _ h => by first | exact h | exact hP _ _ _ _ h) (by rfl) (fun W hW => by go_simp; with_reducible rfl) ?_; (try simp only [Act.put, Act.eval, List.getElem?_toArray, List.getElem_toArray, List.getElem?_cons_zero, List.getElem?_cons_succ, List.getElem_cons_zero, List.getElem_cons_succ, Option.getD_some, List.setIfInBounds_toArray, List.set_cons_zero, List.set_cons_succ])
          refine Reg.takeE 7 _ _ rfl (by kernel_rfl) (by kernel_rfl) (by kernel_rfl) (by decide) (fun _ _ _ h => by first | exact h | exact hP _ _ _ _ h) (by rfl) (fun W hW => by go_simp; with_reducible rfl) ?_; (try simp only [Act.put, Act.eval, List.getElem?_toArray, List.getElem_toArray, List.getElem?_cons_zero, List.getElem?_cons_succ, List.getElem_cons_zero, List.getElem_cons_succ, Option.getD_some, List.setIfInBounds_toArray, List.set_cons_zero, List.set_cons_succ])
          refine Reg.takeE 8 _ _ rfl (by kernel_rfl) (by kernel_rfl) (by kernel_rfl) (by decide) (fun _ _ _ h => by first | exact h | exact hP _ _ _ _ h) (by rfl) (fun W hW => by go_simp; with_reducible rfl) ?_; (try simp only [Act.put, Act.eval, List.getElem?_toArray, List.getElem_toArray, List.getElem?_cons_zero, List.getElem?_cons_succ, List.getElem_cons_zero, List.getElem_cons_succ, Option.getD_some, List.setIfInBounds_toArray, List.set_cons_zero, List.set_cons_succ])
          refine Reg.fin (by kernel_rfl) (fun W hW => ?_)
          go_wp2_with fail
          go_ret
          exact ⟨rfl, hx.trans hW⟩
      · obtain rfl : i = n := by omega
        have hRt : R = true := by rw [← hR.out]; simpa using EqAt.all (by rw [hn.out, hn2'.out]) (by rw [hn.out]; exact heq)
        subst hRt
        go_wp2_with fail
        go_ret
        exact ⟨rfl, hx⟩
  · have hRf : R = false := by rw [← hR.out]; simpa using ne_len (by rw [hn.out, hn2'.out]; exact hl)
    have hnb : ((n : Int) != (n2 : Int)) = true := by simpa using (by omega : ¬ (n : Int) = (n2 : Int))
    subst hRf
    go_enter Tryd.func29, Tryd.ntmps29
    go_wp2_with fail
    go_ret
    exact ⟨rfl, Ext.refl w⟩
set_option maxHeartbeats 1000000 in
theorem rints_any {B : Nat} {w : World} {v1 v2 : Value} {l1 l2 : List Int} (h1 : Sl B w v1 l1.length (intsZ l1)) (h2 : Sl B w v2 l2.length (intsZ l2)) (hB : B ≤ w.heap.size) :
    Calls Tryd.prog 30 #[v1, v2] w fun e w' => e = .returned (.bool (decide (l1 = l2))) ∧ Ext w w' := by
  obtain ⟨R, hR⟩ : ∃ R, Hid (decide (l1 = l2) = R) := ⟨_, rfl⟩
  rw [hR.out]
  obtain ⟨A1, c1, rfl, hn1, hm1, _, hat1⟩ := h1.at_
  obtain ⟨A2, c2, rfl, hn2, hm2, _, hat2⟩ := h2.at_
  unfold maxLen at hm1 hm2
  obtain ⟨n, hn⟩ : ∃ z, Hid (l1.length = z) := ⟨_, rfl⟩
  obtain ⟨n2, hn2'⟩ : ∃ z, Hid (l2.length = z) := ⟨_, rfl⟩
  rw [hn.out] at hn1 ⊢
  rw [hn2'.out] at hn2 ⊢
  by_cases hl : n = n2
  · subst hl
    have hnb : ((n : Int) != (n : Int)) = false := by simp
    go_enter Tryd.func30, Tryd.ntmps30
    go_wp2_with fail
    go_loopw [5, 11, 12, 13, 14, 15, 16, 17, 18, 19, 20, 21, 22, 23, 24, 25] (fun v5 v11 v12 v13 v14 v15 v16 v17 v18 v19 v20 v21 v22 v23 v24 v25 wr => ∃ i : Nat, i ≤ n ∧ v5 = .int .i64 i ∧ EqAt l1 l2 i ∧ Ext w wr) (fun v5 _ _ _ _ _ _ _ _ _ _ _ _ _ _ _ _ => n - (intOf v5).toNat)
    case atStart => exact ⟨0, by omega, rfl, fun j hj => by omega, Ext.refl w⟩
    case round =>
      obtain ⟨i, hi, rfl, heq, hx⟩ := hrel
      by_cases hin : i < n
      · have hin' : (i : Int) < (n : Int) := by omega
        obtain ⟨x, hx1⟩ : ∃ x, l1[i]? = some x := ⟨_, List.getElem?_eq_getElem (by have := hn.out; omega)⟩
        obtain ⟨y, hx2⟩ : ∃ x, l2[i]? = some x := ⟨_, List.getElem?_eq_getElem (by have := hn2'.out; omega)⟩
        have hz1 : (intsZ l1)[i]? = some (.int .i64 x) := by unfold intsZ; rw [List.getElem?_map, hx1]; rfl
        have hz2 : (intsZ l2)[i]? = some (.int .i64 y) := by unfold intsZ; rw [List.getElem?_map, hx2]; rfl
        obtain ⟨b1, o1, rfl, hb1, hc1⟩ := hat1 i _ hz1
        obtain ⟨b2, o2, rfl, hb2, hc2⟩ := hat2 i _ hz2
        have d1 : ∀ W, Ext wr W → W.cell? ⟨b1, o1 + i, none⟩ = some (.int .i64 x) := fun W hW => hc1 W (Below.mono (hx.trans hW) hB) i _ hz1
        have d2 : ∀ W, Ext wr W → W.cell? ⟨b2, o2 + i, none⟩ = some (.int .i64 y) := fun W hW => hc2 W (Below.mono (hx.trans hW) hB) i _ hz2
        clear hz1 hz2 hc1 hc2
        by_cases he : x = y
        · subst he
          have hE := heq.next hx1 hx2
          clear hx1 hx2
          have hbq : (x != x) = false := by simp
          go_wp2_with fail
          refine Reg.startE (by kernel_rfl) ?_
          refine Reg.takeE 0 _ _ rfl (by kernel_rfl) (by kernel_rfl) (by kernel_rfl) (by decide) (fun _ _ _ h => by first | exact h | exact hP _ _ _ _ h) (by rfl) (fun W hW => by go_simp; with_reducible rfl) ?_; (try simp only [Act.put, Act.eval, List.getElem?_toArray, List.getElem_toArray, List.getElem?_cons_zero, List.getElem?_cons_succ, List.getElem_cons_zero, List.getElem_cons_succ, Option.getD_some, List.setIfInBounds_toArray, List.set_cons_zero, List.set_cons_succ])
          refine Reg.takeE 1 _ _ rfl (by kernel_rfl) (by kernel_rfl) (by kernel_rfl) (by decide) (fun _ _ _ h => by first | exact h | exact hP _ _ _ _ h) (by rfl) (fun W hW => by go_simp; with_reducible rfl) ?_; (try simp only [Act.put, Act.eval, List.getElem?_toArray, List.getElem_toArray, List.getElem?_cons_zero, List.getElem?_cons_succ, List.getElem_cons_zero, List.getElem_cons_succ, Option.getD_some, List.setIfInBounds_toArray, List.set_cons_zero, List.set_cons_succ])
          refine Reg.takeE 2 _ _ rfl (by kernel_rfl) (by kernel_rfl) (by kernel_rfl) (by decide) (fun _ _ _ h => by first | exact h | exact hP _ _ _ _ h) (by rfl) (fun W hW => by go_simp; with_reducible rfl) ?_; (try simp only [Act.put, Act.eval, List.getElem?_toArray, List.getElem_toArray, List.getElem?_cons_zero, List.getElem?_cons_succ, List.getElem_cons_zero, List.getElem_cons_succ, Option.getD_some, List.setIfInBounds_toArray, List.set_cons_zero, List.set_cons_succ])
          refine Reg.takeE 3 _ _ rfl (by kernel_rfl) (by kernel_rfl) (by kernel_rfl) (by decide) (fun _ _ _ h => by first | exact h | exact hP _ _ _ _ h) (by rfl) (fun W hW => by go_simp; with_reducible rfl) ?_; (try simp only [Act.put, Act.eval, List.getElem?_toArray, List.getElem_toArray, List.getElem?_cons_zero, List.getElem?_cons_succ, List.getElem_cons_zero, List.getElem_cons_succ, Option.getD_some, List.setIfInBounds_toArray, List.set_cons_zero, List.set_cons_succ])
          refine Reg.takeE 4 _ _ rfl (by kernel_rfl) (by kernel_rfl) (by kernel_rfl) (by decide) (fun _ _ _ h => by first | exact h | exact hP _ _ _ _ h) (by rfl) (fun W hW => by go_simp; with_reducible rfl) ?_; (try simp only [Act.put, Act.eval, List.getElem?_toArray, List.getElem_toArray, List.getElem?_cons_zero, List.getElem?_cons_succ, List.getElem_cons_zero, List.getElem_cons_succ, Option.getD_some, List.setIfInBounds_toArray, List.set_cons_zero, List.set_cons_succ])
          refine Reg.takeE 5 _ _ rfl (by kernel_rfl) (by kernel_rfl) (by kernel_rfl) (by decide) (fun _ _ _ h => by first | exact h | exact hP _ _ _ _ h) (by rfl) (fun W hW => by go_simp; with_reducible rfl) ?_; (try simp only [Act.put, Act.eval, List.getElem?_toArray, List.getElem_toArray, List.getElem?_cons_zero, List.getElem?_cons_succ, List.getElem_cons_zero, List.getElem_cons_succ, Option.getD_some, List.setIfInBounds_toArray, List.set_cons_zero, List.set_cons_succ])
          refine Reg.takeE 6 _ _ rfl (by kernel_rfl) (by kernel_rfl) (by kernel_rfl) (by decide) (fun _ _ _ h => by first | exact h | exact hP _ _ _ _ h) (by rfl) (fun W hW => by go_simp; with_reducible rfl) ?_; (try simp only [Act.put, Act.eval, List.getElem?_toArray, List.getElem_toArray, List.getElem?_cons_zero, List.getElem?_cons_succ, List.getElem_cons_zero, List.getElem_cons_succ, Option.getD_some, List.setIfInBounds_toArray, List.set_cons_zero, List.set_cons_succ])
          refine Reg.takeE 7 _ _ rfl (by kernel_rfl) (by kernel_rfl) (by kernel_rfl) (by decide) (fun _ _ _ h => by first | exact h | exact hP _ _ _ _ h) (by rfl) (fun W hW => by go_simp; with_reducible rfl) ?_; (try simp only [Act.put, Act.eval, List.getElem?_toArray, List.getElem_toArray, List.getElem?_cons_zero, List.getElem?_cons_succ, List.getElem_cons_zero, List.getElem_cons_succ, Option.getD_some, List.setIfInBounds_toArray, List.set_cons_zero, List.set_cons_succ])
          refine Reg.takeE 8 _ _ rfl (by kernel_rfl) (by kernel_rfl) (by kernel_rfl) (by decide) (fun _ _ _ h => by first | exact h | exact hP _ _ _ _ h) (by rfl) (fun W hW => by go_simp; with_reducible rfl) ?_; (try simp only [Act.put, Act.eval, List.getElem?_toArray, List.getElem_toArray, List.getElem?_cons_zero, List.getElem?_cons_succ, List.getElem_cons_zero, List.getElem_cons_succ, Option.getD_some, List.setIfInBounds_toArray, List.set_cons_zero, List.set_cons_succ])
          refine Reg.fin (by kernel_rfl) (fun W hW => ?_)
          go_wp2_with fail
          go_roundw
          case rel => exact ⟨i + 1, by omega, by go_num, hE, hx.trans hW⟩
          case measure => simp [intOf]; omega
        · have hne := ne_at hx1 hx2 he
          have hRf : R = false := by rw [← hR.out]; simpa using hne
          have hbq2 : (x != y) = true := by simpa using he
          subst hRf
          clear hx1 hx2 hne
          go_wp2_with fail
          refine Reg.startE (by kernel_rfl) ?_
          refine Reg.takeE 0 _ _ rfl (by kernel_rfl) (by kernel_rfl) (by kernel_rfl) (by decide) (fun _ _ _ h => by first | exact h | exact hP _ _ _ _ h) (by rfl) (fun W hW => by go_simp; with_reducible rfl) ?_; (try simp only [Act.put, Act.eval, List.getElem?_toArray, List.getElem_toArray, List.getElem?_cons_zero, List.getElem?_cons_succ, List.getElem_cons_zero, List.getElem_cons_succ, Option.getD_some, List.setIfInBounds_toArray, List.set_cons_zero, List.set_cons_succ])
          refine Reg.takeE 1 _ _ rfl (by kernel_rfl) (by kernel_rfl) (by kernel_rfl) (by decide) (fun _ _ _ h => by first | exact h | exact hP _ _ _ _ h) (by rfl) (fun W hW => by go_simp; with_reducible rfl) ?_; (try simp only [Act.put, Act.eval, List.getElem?_toArray, List.getElem_toArray, List.getElem?_cons_zero, List.getElem?_cons_succ, List.getElem_cons_zero, List.getElem_cons_succ, Option.getD_some, List.setIfInBounds_toArray, List.set_cons_zero, List.set_cons_succ])
          refine Reg.takeE 2 _ _ rfl (by kernel_rfl) (by kernel_rfl) (by kernel_rfl) (by decide) (fun _ _ _ h => by first | exact h | exact hP _ _ _ _ h) (by rfl) (fun W hW => by go_simp; with_reducible rfl) ?_; (try simp only [Act.put, Act.eval, List.getElem?_toArray, List.getElem_toArray, List.getElem?_cons_zero, List.getElem?_cons_succ, List.getElem_cons_zero, List.getElem_cons_succ, Option.getD_some, List.setIfInBounds_toArray, List.set_cons_zero, List.set_cons_succ])
          refine Reg.takeE 3 _ _ rfl (by kernel_rfl) (by kernel_rfl) (by kernel_rfl) (by decide) (fun _ _ _ h => by first | exact h | exact hP _ _ _ _ h) (by rfl) (fun W hW => by go_simp; with_reducible rfl) ?_; (try simp only [Act.put, Act.eval, List.getElem?_toArray, List.getElem_toArray, List.getElem?_cons_zero, List.getElem?_cons_succ, List.getElem_cons_zero, List.getElem_cons_succ, Option.getD_some, List.setIfInBounds_toArray, List.set_cons_zero, List.set_cons_succ])
          refine Reg.takeE 4 _ _ rfl (by kernel_rfl) (by kernel_rfl) (by kernel_rfl) (by decide) (fun _ _ _ h => by first | exact h | exact hP _ _ _ _ h) (by rfl) (fun W hW => by go_simp; with_reducible rfl) ?_; (try simp only [Act.put, Act.eval, List.getElem?_toArray, List.getElem_toArray, List.getElem?_cons_zero, List.getElem?_cons_succ, List.getElem_cons_zero, List.getElem_cons_succ, Option.getD_some, List.setIfInBounds_toArray, List.set_cons_zero, List.set_cons_succ])
          refine Reg.takeE 5 _ _ rfl (by kernel_rfl) (by kernel_rfl) (by kernel_rfl) (by decide) (fun _ _ _ h => by first | exact h | exact hP _ _ _ _ h) (by rfl) (fun W hW => by go_simp; with_reducible rfl) ?_; (try simp only [Act.put, Act.eval, List.getElem?_toArray, List.getElem_toArray, List.getElem?_cons_zero, List.getElem?_cons_succ, List.getElem_cons_zero, List.getElem_cons_succ, Option.getD_some, List.setIfInBounds_toArray, List.set_cons_zero, List.set_cons_succ])
          refine Reg.takeE 6 _ _ rfl (by kernel_rfl) (by kernel_rfl) (by kernel_rfl) (by decide) (fun _ _ _ h => by first | exact h | exact hP _ _ _ _ h) (by rfl) (fun W hW => by go_simp; with_reducible rfl) ?_; (try simp only [Act.put, Act.eval, List.getElem?_toArray, List.getElem_toArray, List.getElem?_cons_zero, List.getElem?_cons_succ, List.getElem_cons_zero, List.getElem_cons_succ, Option.getD_some, List.setIfInBounds_toArray, List.set_cons_zero, List.set_cons_succ])
          refine Reg.takeE 7 _ _ rfl (by kernel_rfl) (by kernel_rfl) (by kernel_rfl) (by decide) (fun _ _ _ h => by first | exact h | exact hP _ _ _ _ h) (by rfl) (fun W hW => by go_simp; with_reducible rfl) ?_; (try simp only [Act.put, Act.eval, List.getElem?_toArray, List.getElem_toArray, List.getElem?_cons_zero, List.getElem?_cons_succ, List.getElem_cons_zero, List.getElem_cons_succ, Option.getD_some, List.setIfInBounds_toArray, List.set_cons_zero, List.set_cons_succ])
          refine Reg.takeE 8 _ _ rfl (by kernel_rfl) (by kernel_rfl) (by kernel_rfl) (by decide) (fun _ _ _ h => by first | exact h | exact hP _ _ _ _ h) (by rfl) (fun W hW => by go_simp; with_reducible rfl) ?_; (try simp only [Act.put, Act.eval, List.getElem?_toArray, List.getElem_toArray, List.getElem?_cons_zero, List.getElem?_cons_succ, List.getElem_cons_zero, List.getElem_cons_succ, Option.getD_some, List.setIfInBounds_toArray, List.set_cons_zero, List.set_cons_succ])
          refine Reg.fin (by kernel_rfl) (fun W hW => ?_)
          go_wp2_with fail
          go_ret
          exact ⟨rfl, hx.trans hW⟩
      · obtain rfl : i = n := by omega
        have hRt : R = true := by rw [← hR.out]; simpa using EqAt.all (by rw [hn.out, hn2'.out]) (by rw [hn.out]; exact heq)
        subst hRt
        go_wp2_with fail
        go_ret
        exact ⟨rfl, hx⟩
  · have hRf : R = false := by rw [← hR.out]; simpa using ne_len (by rw [hn.out, hn2'.out]; exact hl)
    have hnb : ((n : Int) != (n2 : Int)) = true := by simpa using (by omega : ¬ (n : Int) = (n2 : Int))
    subst hRf
    go_enter Tryd.func30, Tryd.ntmps30
    go_wp2_with fail
    go_ret
    exact ⟨rfl, Ext.refl w⟩
set_option maxRecDepth 100000 in
set_option maxHeartbeats 1000000 in
theorem rnode_any {B : Nat} {w : World} {d1 d2 : Ne} {v1 v2 : V3} (h1 : SubE B w d1 v1) (h2 : SubE B w d2 v2) (hB : B ≤ w.heap.size) :
    Calls Tryd.prog 17 #[.agg (neC d1 v1).toArray, .agg (neC d2 v2).toArray] w fun e w' => e = .returned (.bool (decide (d1 = d2))) ∧ Ext w w' := by
  obtain ⟨k1, m1, z1, s1, i1, f1⟩ := d1
  obtain ⟨k2, m2, z2, s2, i2, f2⟩ := d2
  obtain ⟨a1, b1, c1⟩ := v1
  obtain ⟨a2, b2, c2⟩ := v2
  have hs1 : Sl B w a1 s1.length (txs s1) := h1.syms
  have hi1 : Sl B w b1 i1.length (intsZ i1) := h1.items
  have hf1 : Sl B w c1 f1.length (fldsZ f1) := h1.fields
  have hs2 : Sl B w a2 s2.length (txs s2) := h2.syms
  have hi2 : Sl B w b2 i2.length (intsZ i2) := h2.items
  have hf2 : Sl B w c2 f2.length (fldsZ f2) := h2.fields
  clear h1 h2
  obtain ⟨F1, cc1, rfl, hn1, hm1, _, hat1⟩ := hf1.at_
  obtain ⟨F2, cc2, rfl, hn2, hm2, _, hat2⟩ := hf2.at_
  unfold maxLen at hm1 hm2
  simp only [neC]
  obtain ⟨n, hn⟩ : ∃ z, Hid (f1.length = z) := ⟨_, Lib.hid rfl⟩
  obtain ⟨n2, hn2'⟩ : ∃ z, Hid (f2.length = z) := ⟨_, Lib.hid rfl⟩
  rw [hn.out] at hn1 ⊢
  rw [hn2'.out] at hn2 ⊢
  obtain ⟨w1, hw1⟩ : ∃ z, Hid ((w.alloc (.cells #[.int .i64 k1, .string m1, .int .i64 z1, a1, b1, .slice F1 n cc1] 40)).alloc (.cells #[.int .i64 k2, .string m2, .int .i64 z2, a2, b2, .slice F2 n2 cc2] 40) = z) := ⟨_, rfl⟩
  have hx1 : Ext w w1 := by rw [← hw1.out]; exact ((Ext.refl w).alloc _).alloc _
  obtain ⟨q, hq⟩ : ∃ z, Hid (w.heap.size = z) := ⟨_, rfl⟩
  have hbA : Blk w1 q #[.int .i64 k1, .string m1, .int .i64 z1, a1, b1, .slice F1 n cc1] 40 := by rw [← hw1.out, ← hq.out]; exact (Blk.new w _ _).alloc _
  have hbB : Blk w1 (q + 1) #[.int .i64 k2, .string m2, .int .i64 z2, a2, b2, .slice F2 n2 cc2] 40 := by
    rw [← hw1.out, ← hq.out]
    have := Blk.new (w.alloc (.cells #[.int .i64 k1, .string m1, .int .i64 z1, a1, b1, .slice F1 n cc1] 40)) #[.int .i64 k2, .string m2, .int .i64 z2, a2, b2, .slice F2 n2 cc2] 40
    simpa using this
  have pA : ∀ W, Ext w1 W → W.cell? ⟨q, 5, none⟩ = some (.slice F1 n cc1) := fun W hW => (hbA.ext hW).cell 5
  have pB : ∀ W, Ext w1 W → W.cell? ⟨q + 1, 5, none⟩ = some (.slice F2 n2 cc2) := fun W hW => (hbB.ext hW).cell 5
  have hcs := fun W (hW : Ext w W) => rtexts_any (hs1.below (Below.mono hW hB)) (hs2.below (Below.mono hW hB)) (Nat.le_trans hB hW.size)
  have hci := fun W (hW : Ext w W) => rints_any (hi1.below (Below.mono hW hB)) (hi2.below (Below.mono hW hB)) (Nat.le_trans hB hW.size)
  obtain ⟨R, hR⟩ : ∃ R, Hid (decide ((⟨k1, m1, z1, s1, i1, f1⟩ : Ne) = ⟨k2, m2, z2, s2, i2, f2⟩) = R) := ⟨_, Lib.hid rfl⟩
  rw [hR.out]
  by_cases e1 : ¬ (k1 = k2)
  · have hR0 : R = false := by rw [← hR.out]; simp [e1]
    have hb : (k1 == k2) = false := by simpa using e1
    have hb' : (k1 != k2) = true := by simpa using e1
    subst hR0
    clear pA pB hcs hci
    go_enter Tryd.func17, Tryd.ntmps17
    go_wp2_with fail
    rw [hw1.out]
    go_ret
    exact ⟨rfl, hx1⟩
  have e1 : k1 = k2 := Classical.not_not.1 e1
  subst e1
  have hbk : (k1 != k1) = false := by simp
  by_cases e2 : ¬ (m1 = m2)
  · have hR0 : R = false := by rw [← hR.out]; simp [e2]
    have hb2 := str_ne e2
    have hb2' : (m1.toList != m2.toList) = true := by simpa [bne] using hb2
    subst hR0
    clear pA pB hcs hci
    go_enter Tryd.func17, Tryd.ntmps17
    go_wp2_with fail
    rw [hw1.out]
    go_ret
    exact ⟨rfl, hx1⟩
  have e2 : m1 = m2 := Classical.not_not.1 e2
  subst e2
  have hbm : (m1.toList != m1.toList) = false := by simp
  by_cases e3 : ¬ (z1 = z2)
  · have hR0 : R = false := by rw [← hR.out]; simp [e3]
    have hb3 : (z1 == z2) = false := by simpa using e3
    have hb3' : (z1 != z2) = true := by simpa using e3
    subst hR0
    clear pA pB hcs hci
    go_enter Tryd.func17, Tryd.ntmps17
    go_wp2_with fail
    rw [hw1.out]
    go_ret
    exact ⟨rfl, hx1⟩
  have e3 : z1 = z2 := Classical.not_not.1 e3
  subst e3
  have hbz : (z1 != z1) = false := by simp
  by_cases e4 : ¬ (n = n2)
  · have hR0 : R = false := by
      rw [← hR.out]
      have : f1 ≠ f2 := ne_len (by rw [hn.out, hn2'.out]; exact e4)
      simp [this]
    have hnb : ((n : Int) != (n2 : Int)) = true := by simpa using (by omega : ¬ (n : Int) = (n2 : Int))
    subst hR0
    clear pA pB hcs hci
    go_enter Tryd.func17, Tryd.ntmps17
    go_wp2_with fail
    rw [hw1.out]
    go_ret
    exact ⟨rfl, hx1⟩
  have e4 : n = n2 := Classical.not_not.1 e4
  subst e4
  have hnb : ((n : Int) != (n : Int)) = false := by simp
  go_enter Tryd.func17, Tryd.ntmps17
  go_wp2_with fail
  rw [hw1.out, hq.out]
  replace hcs := Lib.hid hcs
  replace hci := Lib.hid hci
  go_loopw [5, 34, 35, 36, 37, 38, 39, 40, 41, 42, 43, 44, 45, 46, 47, 48, 49, 50, 51] (fun v5 v34 v35 v36 v37 v38 v39 v40 v41 v42 v43 v44 v45 v46 v47 v48 v49 v50 v51 wr => ∃ i : Nat, i ≤ n ∧ v5 = .int .i64 i ∧ EqAt f1 f2 i ∧ Ext w1 wr) (fun v5 _ _ _ _ _ _ _ _ _ _ _ _ _ _ _ _ _ _ _ => n - (intOf v5).toNat)
  case atStart => exact ⟨0, by omega, rfl, fun j hj => by omega, Ext.refl w1⟩
  case round =>
    obtain ⟨i, hi, rfl, heq, hx⟩ := hrel
    have pAr := pA wr hx
    have pBr := pB wr hx
    by_cases hin : i < n
    · have hin' : (i : Int) < (n : Int) := by omega
      obtain ⟨x, hx1'⟩ : ∃ x, f1[i]? = some x := ⟨_, List.getElem?_eq_getElem (by have := hn.out; omega)⟩
      obtain ⟨y, hx2⟩ : ∃ x, f2[i]? = some x := ⟨_, List.getElem?_eq_getElem (by have := hn2'.out; omega)⟩
      have hz1 := fldsZ_at f1 i _ hx1'
      have hz2 := fldsZ_at f2 i _ hx2
      obtain ⟨xn, xh, xt⟩ := x
      obtain ⟨yn, yh, yt⟩ := y
      obtain ⟨b1', o1, rfl, hb1, hc1⟩ := hat1 (i * 3 + 0) (.string xn) (by rw [hz1 0 (by omega)]; rfl)
      obtain ⟨b2', o2, rfl, hb2, hc2⟩ := hat2 (i * 3 + 0) (.string yn) (by rw [hz2 0 (by omega)]; rfl)
      have d10 : ∀ W, Ext wr W → W.cell? ⟨b1', o1 + i * 3, none⟩ = some (.string xn) := fun W hW => by have := hc1 W (Below.mono ((hx1.trans hx).trans hW) hB) (i * 3 + 0) _ (by rw [hz1 0 (by omega)]; rfl); simpa [Nat.add_assoc] using this
      have d11 : ∀ W, Ext wr W → W.cell? ⟨b1', o1 + i * 3 + 1, none⟩ = some (.bool xh) := fun W hW => by have := hc1 W (Below.mono ((hx1.trans hx).trans hW) hB) (i * 3 + 1) _ (by rw [hz1 1 (by omega)]; rfl); simpa [Nat.add_assoc] using this
      have d12 : ∀ W, Ext wr W → W.cell? ⟨b1', o1 + i * 3 + 2, none⟩ = some (.int .i64 xt) := fun W hW => by have := hc1 W (Below.mono ((hx1.trans hx).trans hW) hB) (i * 3 + 2) _ (by rw [hz1 2 (by omega)]; rfl); simpa [Nat.add_assoc] using this
      have d20 : ∀ W, Ext wr W → W.cell? ⟨b2', o2 + i * 3, none⟩ = some (.string yn) := fun W hW => by have := hc2 W (Below.mono ((hx1.trans hx).trans hW) hB) (i * 3 + 0) _ (by rw [hz2 0 (by omega)]; rfl); simpa [Nat.add_assoc] using this
      have d21 : ∀ W, Ext wr W → W.cell? ⟨b2', o2 + i * 3 + 1, none⟩ = some (.bool yh) := fun W hW => by have := hc2 W (Below.mono ((hx1.trans hx).trans hW) hB) (i * 3 + 1) _ (by rw [hz2 1 (by omega)]; rfl); simpa [Nat.add_assoc] using this
      have d22 : ∀ W, Ext wr W → W.cell? ⟨b2', o2 + i * 3 + 2, none⟩ = some (.int .i64 yt) := fun W hW => by have := hc2 W (Below.mono ((hx1.trans hx).trans hW) hB) (i * 3 + 2) _ (by rw [hz2 2 (by omega)]; rfl); simpa [Nat.add_assoc] using this
      have pA' : ∀ W, Ext wr W → W.cell? ⟨q, 5, none⟩ = some (.slice (some ⟨b1', o1, none⟩) n cc1) := fun W hW => pA W (hx.trans hW)
      have pB' : ∀ W, Ext wr W → W.cell? ⟨q + 1, 5, none⟩ = some (.slice (some ⟨b2', o2, none⟩) n cc2) := fun W hW => pB W (hx.trans hW)
      have hcmp := fun W => neq_fld xn yn xh yh xt yt W
      clear hz1 hz2 hc1 hc2
      by_cases he : (xn, xh, xt) = (yn, yh, yt)
      · have hd : decide ((xn, xh, xt) = (yn, yh, yt)) = true := by simpa using he
        rw [hd] at hcmp
        rw [← he] at hx2
        have hE := heq.next hx1' hx2
        clear hx1' hx2
        go_wp2_with fail
        clear pA pB
        refine Reg.startE (by kernel_rfl) ?_
        refine Reg.takeE 0 _ _ rfl (by kernel_rfl) (by kernel_rfl) (by kernel_rfl) (by decide) (fun _ _ _ h => by first | exact h | exact hP _ _ _ _ h) (by rfl) (fun W hW => by go_simp; with_reducible rfl) ?_; (try simp only [Act.put, Act.eval, List.getElem?_toArray, List.getElem_toArray, List.getElem?_cons_zero, List.getElem?_cons_succ, List.getElem_cons_zero, List.getElem_cons_succ, Option.getD_some, List.setIfInBounds_toArray, List.set_cons_zero, List.set_cons_succ])
        refine Reg.takeE 1 _ _ rfl (by kernel_rfl) (by kernel_rfl) (by kernel_rfl) (by decide) (fun _ _ _ h => by first | exact h | exact hP _ _ _ _ h) (by rfl) (fun W hW => by go_simp; with_reducible rfl) ?_; (try simp only [Act.put, Act.eval, List.getElem?_toArray, List.getElem_toArray, List.getElem?_cons_zero, List.getElem?_cons_succ, List.getElem_cons_zero, List.getElem_cons_succ, Option.getD_some, List.setIfInBounds_toArray, List.set_cons_zero, List.set_cons_succ])
        refine Reg.takeE 2 _ _ rfl (by kernel_rfl) (by kernel_rfl) (by kernel_rfl) (by decide) (fun _ _ _ h => by first | exact h | exact hP _ _ _ _ h) (by rfl) (fun W hW => by go_simp; with_reducible rfl) ?_; (try simp only [Act.put, Act.eval, List.getElem?_toArray, List.getElem_toArray, List.getElem?_cons_zero, List.getElem?_cons_succ, List.getElem_cons_zero, List.getElem_cons_succ, Option.getD_some, List.setIfInBounds_toArray, List.set_cons_zero, List.set_cons_succ])
        refine Reg.takeE 3 _ _ rfl (by kernel_rfl) (by kernel_rfl) (by kernel_rfl) (by decide) (fun _ _ _ h => by first | exact h | exact hP _ _ _ _ h) (by rfl) (fun W hW => by go_simp; with_reducible rfl) ?_; (try simp only [Act.put, Act.eval, List.getElem?_toArray, List.getElem_toArray, List.getElem?_cons_zero, List.getElem?_cons_succ, List.getElem_cons_zero, List.getElem_cons_succ, Option.getD_some, List.setIfInBounds_toArray, List.set_cons_zero, List.set_cons_succ])
        refine Reg.takeE 4 _ _ rfl (by kernel_rfl) (by kernel_rfl) (by kernel_rfl) (by decide) (fun _ _ _ h => by first | exact h | exact hP _ _ _ _ h) (by rfl) (fun W hW => by go_simp; with_reducible rfl) ?_; (try simp only [Act.put, Act.eval, List.getElem?_toArray, List.getElem_toArray, List.getElem?_cons_zero, List.getElem?_cons_succ, List.getElem_cons_zero, List.getElem_cons_succ, Option.getD_some, List.setIfInBounds_toArray, List.set_cons_zero, List.set_cons_succ])
        refine Reg.takeE 5 _ _ rfl (by kernel_rfl) (by kernel_rfl) (by kernel_rfl) (by decide) (fun _ _ _ h => by first | exact h | exact hP _ _ _ _ h) (by rfl) (fun W hW => by go_simp; with_reducible rfl) ?_; (try simp only [Act.put, Act.eval, List.getElem?_toArray, List.getElem_toArray, List.getElem?_cons_zero, List.getElem?_cons_succ, List.getElem_cons_zero, List.getElem_cons_succ, Option.getD_some, List.setIfInBounds_toArray, List.set_cons_zero, List.set_cons_succ])
        refine Reg.takeE 6 _ _ rfl (by kernel_rfl) (by kernel_rfl) (by kernel_rfl) (by decide) (fun _ _ _ h => by first | exact h | exact hP _ _ _ _ h) (by rfl) (fun W hW => by go_simp; with_reducible rfl) ?_; (try simp only [Act.put, Act.eval, List.getElem?_toArray, List.getElem_toArray, List.getElem?_cons_zero, List.getElem?_cons_succ, List.getElem_cons_zero, List.getElem_cons_succ, Option.getD_some, List.setIfInBounds_toArray, List.set_cons_zero, List.set_cons_succ])
        refine Reg.takeE 7 _ _ rfl (by kernel_rfl) (by kernel_rfl) (by kernel_rfl) (by decide) (fun _ _ _ h => by first | exact h | exact hP _ _ _ _ h) (by rfl) (fun W hW => by go_simp; with_reducible rfl) ?_; (try simp only [Act.put, Act.eval, List.getElem?_toArray, List.getElem_toArray, List.getElem?_cons_zero, List.getElem?_cons_succ, List.getElem_cons_zero, List.getElem_cons_succ, Option.getD_some, List.setIfInBounds_toArray, List.set_cons_zero, List.set_cons_succ])
        refine Reg.takeE 8 _ _ rfl (by kernel_rfl) (by kernel_rfl) (by kernel_rfl) (by decide) (fun _ _ _ h => by first | exact h | exact hP _ _ _ _ h) (by rfl) (fun W hW => by go_simp; with_reducible rfl) ?_; (try simp only [Act.put, Act.eval, List.getElem?_toArray, List.getElem_toArray, List.getElem?_cons_zero, List.getElem?_cons_succ, List.getElem_cons_zero, List.getElem_cons_succ, Option.getD_some, List.setIfInBounds_toArray, List.set_cons_zero, List.set_cons_succ])
        refine Reg.takeE 9 _ _ rfl (by kernel_rfl) (by kernel_rfl) (by kernel_rfl) (by decide) (fun _ _ _ h => by first | exact h | exact hP _ _ _ _ h) (by rfl) (fun W hW => by go_simp; with_reducible rfl) ?_; (try simp only [Act.put, Act.eval, List.getElem?_toArray, List.getElem_toArray, List.getElem?_cons_zero, List.getElem?_cons_succ, List.getElem_cons_zero, List.getElem_cons_succ, Option.getD_some, List.setIfInBounds_toArray, List.set_cons_zero, List.set_cons_succ])
        refine Reg.takeE 10 _ _ rfl (by kernel_rfl) (by kernel_rfl) (by kernel_rfl) (by decide) (fun _ _ _ h => by first | exact h | exact hP _ _ _ _ h) (by rfl) (fun W hW => by go_simp; with_reducible rfl) ?_; (try simp only [Act.put, Act.eval, List.getElem?_toArray, List.getElem_toArray, List.getElem?_cons_zero, List.getElem?_cons_succ, List.getElem_cons_zero, List.getElem_cons_succ, Option.getD_some, List.setIfInBounds_toArray, List.set_cons_zero, List.set_cons_succ])
        refine Reg.fin (by kernel_rfl) (fun W hW => ?_)
        go_wp2_with fail
        go_roundw
        case rel => exact ⟨i + 1, by omega, by go_num, hE, hx.trans hW⟩
        case measure => simp [intOf]; omega
      · have hne := ne_at hx1' hx2 he
        have hRf : R = false := by rw [← hR.out]; simp [hne]
        have hd : decide ((xn, xh, xt) = (yn, yh, yt)) = false := by simpa using he
        rw [hd] at hcmp
        subst hRf
        clear hx1' hx2 hne
        go_wp2_with fail
        clear pA pB
        refine Reg.startE (by kernel_rfl) ?_
        refine Reg.takeE 0 _ _ rfl (by kernel_rfl) (by kernel_rfl) (by kernel_rfl) (by decide) (fun _ _ _ h => by first | exact h | exact hP _ _ _ _ h) (by rfl) (fun W hW => by go_simp; with_reducible rfl) ?_; (try simp only [Act.put, Act.eval, List.getElem?_toArray, List.getElem_toArray, List.getElem?_cons_zero, List.getElem?_cons_succ, List.getElem_cons_zero, List.getElem_cons_succ, Option.getD_some, List.setIfInBounds_toArray, List.set_cons_zero, List.set_cons_succ])
        refine Reg.takeE 1 _ _ rfl (by kernel_rfl) (by kernel_rfl) (by kernel_rfl) (by decide) (fun _ _ _ h => by first | exact h | exact hP _ _ _ _ h) (by rfl) (fun W hW => by go_simp; with_reducible rfl) ?_; (try simp only [Act.put, Act.eval, List.getElem?_toArray, List.getElem_toArray, List.getElem?_cons_zero, List.getElem?_cons_succ, List.getElem_cons_zero, List.getElem_cons_succ, Option.getD_some, List.setIfInBounds_toArray, List.set_cons_zero, List.set_cons_succ])
        refine Reg.takeE 2 _ _ rfl (by kernel_rfl) (by kernel_rfl) (by kernel_rfl) (by decide) (fun _ _ _ h => by first | exact h | exact hP _ _ _ _ h) (by rfl) (fun W hW => by go_simp; with_reducible rfl) ?_; (try simp only [Act.put, Act.eval, List.getElem?_toArray, List.getElem_toArray, List.getElem?_cons_zero, List.getElem?_cons_succ, List.getElem_cons_zero, List.getElem_cons_succ, Option.getD_some, List.setIfInBounds_toArray, List.set_cons_zero, List.set_cons_succ])
        refine Reg.takeE 3 _ _ rfl (by kernel_rfl) (by kernel_rfl) (by kernel_rfl) (by decide) (fun _ _ _ h => by first | exact h | exact hP _ _ _ _ h) (by rfl) (fun W hW => by go_simp; with_reducible rfl) ?_; (try simp only [Act.put, Act.eval, List.getElem?_toArray, List.getElem_toArray, List.getElem?_cons_zero, List.getElem?_cons_succ, List.getElem_cons_zero, List.getElem_cons_succ, Option.getD_some, List.setIfInBounds_toArray, List.set_cons_zero, List.set_cons_succ])
        refine Reg.takeE 4 _ _ rfl (by kernel_rfl) (by kernel_rfl) (by kernel_rfl) (by decide) (fun _ _ _ h => by first | exact h | exact hP _ _ _ _ h) (by rfl) (fun W hW => by go_simp; with_reducible rfl) ?_; (try simp only [Act.put, Act.eval, List.getElem?_toArray, List.getElem_toArray, List.getElem?_cons_zero, List.getElem?_cons_succ, List.getElem_cons_zero, List.getElem_cons_succ, Option.getD_some, List.setIfInBounds_toArray, List.set_cons_zero, List.set_cons_succ])
        refine Reg.takeE 5 _ _ rfl (by kernel_rfl) (by kernel_rfl) (by kernel_rfl) (by decide) (fun _ _ _ h => by first | exact h | exact hP _ _ _ _ h) (by rfl) (fun W hW => by go_simp; with_reducible rfl) ?_; (try simp only [Act.put, Act.eval, List.getElem?_toArray, List.getElem_toArray, List.getElem?_cons_zero, List.getElem?_cons_succ, List.getElem_cons_zero, List.getElem_cons_succ, Option.getD_some, List.setIfInBounds_toArray, List.set_cons_zero, List.set_cons_succ])
        refine Reg.takeE 6 _ _ rfl (by kernel_rfl) (by kernel_rfl) (by kernel_rfl) (by decide) (fun _ _ _ h => by first | exact h | exact hP _ _ _ _ h) (by rfl) (fun W hW => by go_simp; with_reducible rfl) ?_; (try simp only [Act.put, Act.eval, List.getElem?_toArray, List.getElem_toArray, List.getElem?_cons_zero, List.getElem?_cons_succ, List.getElem_cons_zero, List.getElem_cons_succ, Option.getD_some, List.setIfInBounds_toArray, List.set_cons_zero, List.set_cons_succ])
        refine Reg.takeE 7 _ _ rfl (by kernel_rfl) (by kernel_rfl) (by kernel_rfl) (by decide) (fun _ _ _ h => by first | exact h | exact hP _ _ _ _ h) (by rfl) (fun W hW => by go_simp; with_reducible rfl) ?_; (try simp only [Act.put, Act.eval, List.getElem?_toArray, List.getElem_toArray, List.getElem?_cons_zero, List.getElem?_cons_succ, List.getElem_cons_zero, List.getElem_cons_succ, Option.getD_some, List.setIfInBounds_toArray, List.set_cons_zero, List.set_cons_succ])
        refine Reg.takeE 8 _ _ rfl (by kernel_rfl) (by kernel_rfl) (by kernel_rfl) (by decide) (fun _ _ _ h => by first | exact h | exact hP _ _ _ _ h) (by rfl) (fun W hW => by go_simp; with_reducible rfl) ?_; (try simp only [Act.put, Act.eval, List.getElem?_toArray, List.getElem_toArray, List.getElem?_cons_zero, List.getElem?_cons_succ, List.getElem_cons_zero, List.getElem_cons_succ, Option.getD_some, List.setIfInBounds_toArray, List.set_cons_zero, List.set_cons_succ])
        refine Reg.takeE 9 _ _ rfl (by kernel_rfl) (by kernel_rfl) (by kernel_rfl) (by decide) (fun _ _ _ h => by first | exact h | exact hP _ _ _ _ h) (by rfl) (fun W hW => by go_simp; with_reducible rfl) ?_; (try simp only [Act.put, Act.eval, List.getElem?_toArray, List.getElem_toArray, List.getElem?_cons_zero, List.getElem?_cons_succ, List.getElem_cons_zero, List.getElem_cons_succ, Option.getD_some, List.setIfInBounds_toArray, List.set_cons_zero, List.set_cons_succ])
        refine Reg.takeE 10 _ _ rfl (by kernel_rfl) (by kernel_rfl) (by kernel_rfl) (by decide) (fun _ _ _ h => by first | exact h | exact hP _ _ _ _ h) (by rfl) (fun W hW => by go_simp; with_reducible rfl) ?_; (try simp only [Act.put, Act.eval, List.getElem?_toArray, List.getElem_toArray, List.getElem?_cons_zero, List.getElem?_cons_succ, List.getElem_cons_zero, List.getElem_cons_succ, Option.getD_some, List.setIfInBounds_toArray, List.set_cons_zero, List.set_cons_succ])
        refine Reg.fin (by kernel_rfl) (fun W hW => ?_)
        go_wp2_with fail
        go_ret
        exact ⟨rfl, (hx1.trans hx).trans hW⟩
    · obtain rfl : i = n := by omega
      have hff : f1 = f2 := EqAt.all (by rw [hn.out, hn2'.out]) (by rw [hn.out]; exact heq)
      have hRb : R = (decide (s1 = s2) && decide (i1 = i2)) := by rw [← hR.out]; simp [hff]
      have p3 : wr.cell? ⟨q, 3, none⟩ = some a1 := (hbA.ext hx).cell 3
      have p3' : wr.cell? ⟨q + 1, 3, none⟩ = some a2 := (hbB.ext hx).cell 3
      have hcs1 := hcs.out wr (hx1.trans hx)
      clear pA pB
      by_cases e5 : s1 = s2
      · have hci1 := hci.out
        rw [show decide (s1 = s2) = true by simpa using e5] at hcs1 hRb
        rw [Bool.true_and] at hRb
        subst hRb
        replace hci1 := Lib.hid hci1
        go_wp2_with fail
        refine hcs1.mono ?_
        rintro e w2 ⟨rfl, hx2⟩
        have p4 : w2.cell? ⟨q, 4, none⟩ = some b1 := ((hbA.ext hx).ext hx2).cell 4
        have p4' : w2.cell? ⟨q + 1, 4, none⟩ = some b2 := ((hbB.ext hx).ext hx2).cell 4
        have hci2 := hci1.out w2 ((hx1.trans hx).trans hx2)
        go_wp2_with fail
        refine hci2.mono ?_
        rintro e w3 ⟨rfl, hx3⟩
        go_wp2_with fail
        go_ret
        exact ⟨rfl, ((hx1.trans hx).trans hx2).trans hx3⟩
      · rw [show decide (s1 = s2) = false by simpa using e5] at hcs1 hRb
        rw [Bool.false_and] at hRb
        subst hRb
        go_wp2_with fail
        refine hcs1.mono ?_
        rintro e w2 ⟨rfl, hx2⟩
        go_wp2_with fail
        go_ret
        exact ⟨rfl, (hx1.trans hx).trans hx2⟩
end Go.Proofs.YtejcacbbhijdcaaDoor.Pr
/- parse: the document's way to hold schemas against each other: whole. -/
namespace Go.Proofs.YtejcacbbhijdcaaDoor.Pr
open Go.ChangeShapes Go.WideShapes Go.ChangeAt Go.RowKit
open Base Lx Mi
set_option linter.unusedVariables false
set_option linter.unusedSimpArgs false

set_option maxRecDepth 100000 in
set_option maxHeartbeats 1000000 in
theorem rsame_any {B : Nat} {w : World} {v1 v2 : Value} {l1 l2 : List Ne} (h1 : Sch B w v1 l1) (h2 : Sch B w v2 l2) (hB : B ≤ w.heap.size) :
    Calls Tryd.prog 10 #[.agg #[v1], .agg #[v2]] w fun e w' => e = .returned (.bool (decide (l1 = l2))) ∧ Ext w w' := by
  obtain ⟨R, hR⟩ : ∃ R, Hid (decide (l1 = l2) = R) := ⟨_, Lib.hid rfl⟩
  rw [hR.out]
  have hm1 : l1.length ≤ 9223372036854775807 := by obtain ⟨vs, _, ⟨A, c, e, _, _, q1, q2, _⟩, _⟩ := h1; unfold maxLen at q2; omega
  obtain ⟨A1, c1, rfl⟩ := h1.slice
  obtain ⟨A2, c2, rfl⟩ := h2.slice
  obtain ⟨n, hn⟩ : ∃ z, Hid (l1.length = z) := ⟨_, rfl⟩
  obtain ⟨n2, hn2'⟩ : ∃ z, Hid (l2.length = z) := ⟨_, rfl⟩
  rw [hn.out] at hm1 ⊢
  rw [hn2'.out]
  obtain ⟨w1, hw1⟩ : ∃ z, Hid ((w.alloc (.cells #[.slice A1 n c1] 24)).alloc (.cells #[.slice A2 n2 c2] 24) = z) := ⟨_, rfl⟩
  have hx1 : Ext w w1 := by rw [← hw1.out]; exact ((Ext.refl w).alloc _).alloc _
  obtain ⟨q, hq⟩ : ∃ z, Hid (w.heap.size = z) := ⟨_, rfl⟩
  have hbA : Blk w1 q #[.slice A1 n c1] 24 := by rw [← hw1.out, ← hq.out]; exact (Blk.new w _ _).alloc _
  have hbB : Blk w1 (q + 1) #[.slice A2 n2 c2] 24 := by
    rw [← hw1.out, ← hq.out]
    have := Blk.new (w.alloc (.cells #[.slice A1 n c1] 24)) #[.slice A2 n2 c2] 24
    simpa using this
  by_cases hl : n = n2
  · subst hl
    have hnb : ((n : Int) != (n : Int)) = false := by simp
    go_enter Tryd.func10, Tryd.ntmps10
    go_wp2_with fail
    rw [hw1.out, hq.out]
    go_loopw [5, 13, 14, 15, 16, 17, 18, 19, 20, 21, 22, 23, 24, 25, 26, 27, 28, 29, 30, 31] (fun v5 v13 v14 v15 v16 v17 v18 v19 v20 v21 v22 v23 v24 v25 v26 v27 v28 v29 v30 v31 wr => ∃ i : Nat, i ≤ n ∧ v5 = .int .i64 i ∧ EqAt l1 l2 i ∧ Ext w1 wr) (fun v5 _ _ _ _ _ _ _ _ _ _ _ _ _ _ _ _ _ _ _ _ => n - (intOf v5).toNat)
    case atStart => exact ⟨0, by omega, rfl, fun j hj => by omega, Ext.refl w1⟩
    case round =>
      obtain ⟨i, hi, rfl, heq, hx⟩ := hrel
      have pA := (hbA.ext hx).cell 0
      by_cases hin : i < n
      · have hin' : (i : Int) < (n : Int) := by omega
        obtain ⟨x, hx1'⟩ : ∃ x, l1[i]? = some x := ⟨_, List.getElem?_eq_getElem (by have := hn.out; omega)⟩
        obtain ⟨y, hx2⟩ : ∃ x, l2[i]? = some x := ⟨_, List.getElem?_eq_getElem (by have := hn2'.out; omega)⟩
        obtain ⟨b1, o1, d1, As1, cs1, Ai1, ci1, Af1, cf1, e1, hb1, hs1, hc1⟩ := h1.node2 i x hx1'
        obtain ⟨b2, o2, d2, As2, cs2, Ai2, ci2, Af2, cf2, e2, hb2, hs2, hc2⟩ := h2.node2 i y hx2
        injection e1 with e1 _ e1'
        injection e2 with e2 _ e2'
        subst e1; subst e1'; subst e2; subst e2'
        have pA' : ∀ W, Ext wr W → W.cell? ⟨q, 0, none⟩ = some (.slice (some ⟨b1, o1, none⟩) n c1) := fun W hW => (hbA.ext (hx.trans hW)).cell 0
        have pB' : ∀ W, Ext wr W → W.cell? ⟨q + 1, 0, none⟩ = some (.slice (some ⟨b2, o2, none⟩) n c2) := fun W hW => (hbB.ext (hx.trans hW)).cell 0
        have c10 : ∀ W, Ext wr W → W.cell? ⟨b1, o1 + i * 6, none⟩ = some (.int .i64 x.k) := fun W hW => (hc1 W (Below.mono ((hx1.trans hx).trans hW) hB)).1
        have c11 : ∀ W, Ext wr W → W.cell? ⟨b1, o1 + i * 6 + 1, none⟩ = some (.string x.name) := fun W hW => (hc1 W (Below.mono ((hx1.trans hx).trans hW) hB)).2.1
        have c12 : ∀ W, Ext wr W → W.cell? ⟨b1, o1 + i * 6 + 2, none⟩ = some (.int .i64 x.size) := fun W hW => (hc1 W (Below.mono ((hx1.trans hx).trans hW) hB)).2.2.1
        have c13 : ∀ W, Ext wr W → W.cell? ⟨b1, o1 + i * 6 + 3, none⟩ = some (.slice As1 x.syms.length cs1) := fun W hW => (hc1 W (Below.mono ((hx1.trans hx).trans hW) hB)).2.2.2.1
        have c14 : ∀ W, Ext wr W → W.cell? ⟨b1, o1 + i * 6 + 4, none⟩ = some (.slice Ai1 x.items.length ci1) := fun W hW => (hc1 W (Below.mono ((hx1.trans hx).trans hW) hB)).2.2.2.2.1
        have c15 : ∀ W, Ext wr W → W.cell? ⟨b1, o1 + i * 6 + 5, none⟩ = some (.slice Af1 x.fields.length cf1) := fun W hW => (hc1 W (Below.mono ((hx1.trans hx).trans hW) hB)).2.2.2.2.2
        have c20 : ∀ W, Ext wr W → W.cell? ⟨b2, o2 + i * 6, none⟩ = some (.int .i64 y.k) := fun W hW => (hc2 W (Below.mono ((hx1.trans hx).trans hW) hB)).1
        have c21 : ∀ W, Ext wr W → W.cell? ⟨b2, o2 + i * 6 + 1, none⟩ = some (.string y.name) := fun W hW => (hc2 W (Below.mono ((hx1.trans hx).trans hW) hB)).2.1
        have c22 : ∀ W, Ext wr W → W.cell? ⟨b2, o2 + i * 6 + 2, none⟩ = some (.int .i64 y.size) := fun W hW => (hc2 W (Below.mono ((hx1.trans hx).trans hW) hB)).2.2.1
        have c23 : ∀ W, Ext wr W → W.cell? ⟨b2, o2 + i * 6 + 3, none⟩ = some (.slice As2 y.syms.length cs2) := fun W hW => (hc2 W (Below.mono ((hx1.trans hx).trans hW) hB)).2.2.2.1
        have c24 : ∀ W, Ext wr W → W.cell? ⟨b2, o2 + i * 6 + 4, none⟩ = some (.slice Ai2 y.items.length ci2) := fun W hW => (hc2 W (Below.mono ((hx1.trans hx).trans hW) hB)).2.2.2.2.1
        have c25 : ∀ W, Ext wr W → W.cell? ⟨b2, o2 + i * 6 + 5, none⟩ = some (.slice Af2 y.fields.length cf2) := fun W hW => (hc2 W (Below.mono ((hx1.trans hx).trans hW) hB)).2.2.2.2.2
        have hcall : ∀ W, Ext wr W → _ := fun W hW => rnode_any (w := W) (B := B) (d1 := x) (d2 := y) (v1 := (.slice As1 x.syms.length cs1, .slice Ai1 x.items.length ci1, .slice Af1 x.fields.length cf1)) (v2 := (.slice As2 y.syms.length cs2, .slice Ai2 y.items.length ci2, .slice Af2 y.fields.length cf2)) ⟨hs1.syms.below (Below.mono ((hx1.trans hx).trans hW) hB), hs1.items.below (Below.mono ((hx1.trans hx).trans hW) hB), hs1.fields.below (Below.mono ((hx1.trans hx).trans hW) hB), hs1.rng⟩ ⟨hs2.syms.below (Below.mono ((hx1.trans hx).trans hW) hB), hs2.items.below (Below.mono ((hx1.trans hx).trans hW) hB), hs2.fields.below (Below.mono ((hx1.trans hx).trans hW) hB), hs2.rng⟩ (Nat.le_trans hB ((hx1.trans hx).trans hW).size)
        simp only [neC] at hcall
        by_cases he : x = y
        · rw [show decide (x = y) = true by simpa using he] at hcall
          replace hcall := Lib.hid hcall
          rw [← he] at hx2
          have hE := heq.next hx1' hx2
          clear hx1' hx2 hc1 hc2 hs1 hs2 he
          go_wp2_with fail
          clear pA
          refine Reg.startE (by kernel_rfl) ?_
          refine Reg.takeE 0 _ _ rfl (by kernel_rfl) (by kernel_rfl) (by kernel_rfl) (by decide) (fun _ _ _ h => by first | exact h | exact hP _ _ _ _ h) (by rfl) (fun W hW => by go_simp; with_reducible rfl) ?_; (try simp only [Act.put, Act.eval, List.getElem?_toArray, List.getElem_toArray, List.getElem?_cons_zero, List.getElem?_cons_succ, List.getElem_cons_zero, List.getElem_cons_succ, Option.getD_some, List.setIfInBounds_toArray, List.set_cons_zero, List.set_cons_succ])
          refine Reg.takeE 1 _ _ rfl (by kernel_rfl) (by kernel_rfl) (by kernel_rfl) (by decide) (fun _ _ _ h => by first | exact h | exact hP _ _ _ _ h) (by rfl) (fun W hW => by go_simp; with_reducible rfl) ?_; (try simp only [Act.put, Act.eval, List.getElem?_toArray, List.getElem_toArray, List.getElem?_cons_zero, List.getElem?_cons_succ, List.getElem_cons_zero, List.getElem_cons_succ, Option.getD_some, List.setIfInBounds_toArray, List.set_cons_zero, List.set_cons_succ])
          refine Reg.takeE 2 _ _ rfl (by kernel_rfl) (by kernel_rfl) (by kernel_rfl) (by decide) (fun _ _ _ h => by first | exact h | exact hP _ _ _ _ h) (by rfl) (fun W hW => by go_simp; with_reducible rfl) ?_; (try simp only [Act.put, Act.eval, List.getElem?_toArray, List.getElem_toArray, List.getElem?_cons_zero, List.getElem?_cons_succ, List.getElem_cons_zero, List.getElem_cons_succ, Option.getD_some, List.setIfInBounds_toArray, List.set_cons_zero, List.set_cons_succ])
          refine Reg.takeE 3 _ _ rfl (by kernel_rfl) (by kernel_rfl) (by kernel_rfl) (by decide) (fun _ _ _ h => by first | exact h | exact hP _ _ _ _ h) (by rfl) (fun W hW => by go_simp; with_reducible rfl) ?_; (try simp only [Act.put, Act.eval, List.getElem?_toArray, List.getElem_toArray, List.getElem?_cons_zero, List.getElem?_cons_succ, List.getElem_cons_zero, List.getElem_cons_succ, Option.getD_some, List.setIfInBounds_toArray, List.set_cons_zero, List.set_cons_succ])
          refine Reg.takeE 4 _ _ rfl (by kernel_rfl) (by kernel_rfl) (by kernel_rfl) (by decide) (fun _ _ _ h => by first | exact h | exact hP _ _ _ _ h) (by rfl) (fun W hW => by go_simp; with_reducible rfl) ?_; (try simp only [Act.put, Act.eval, List.getElem?_toArray, List.getElem_toArray, List.getElem?_cons_zero, List.getElem?_cons_succ, List.getElem_cons_zero, List.getElem_cons_succ, Option.getD_some, List.setIfInBounds_toArray, List.set_cons_zero, List.set_cons_succ])
          refine Reg.takeE 5 _ _ rfl (by kernel_rfl) (by kernel_rfl) (by kernel_rfl) (by decide) (fun _ _ _ h => by first | exact h | exact hP _ _ _ _ h) (by rfl) (fun W hW => by go_simp; with_reducible rfl) ?_; (try simp only [Act.put, Act.eval, List.getElem?_toArray, List.getElem_toArray, List.getElem?_cons_zero, List.getElem?_cons_succ, List.getElem_cons_zero, List.getElem_cons_succ, Option.getD_some, List.setIfInBounds_toArray, List.set_cons_zero, List.set_cons_succ])
          refine Reg.takeE 6 _ _ rfl (by kernel_rfl) (by kernel_rfl) (by kernel_rfl) (by decide) (fun _ _ _ h => by first | exact h | exact hP _ _ _ _ h) (by rfl) (fun W hW => by go_simp; with_reducible rfl) ?_; (try simp only [Act.put, Act.eval, List.getElem?_toArray, List.getElem_toArray, List.getElem?_cons_zero, List.getElem?_cons_succ, List.getElem_cons_zero, List.getElem_cons_succ, Option.getD_some, List.setIfInBounds_toArray, List.set_cons_zero, List.set_cons_succ])
          refine Reg.takeE 7 _ _ rfl (by kernel_rfl) (by kernel_rfl) (by kernel_rfl) (by decide) (fun _ _ _ h => by first | exact h | exact hP _ _ _ _ h) (by rfl) (fun W hW => by go_simp; with_reducible rfl) ?_; (try simp only [Act.put, Act.eval, List.getElem?_toArray, List.getElem_toArray, List.getElem?_cons_zero, List.getElem?_cons_succ, List.getElem_cons_zero, List.getElem_cons_succ, Option.getD_some, List.setIfInBounds_toArray, List.set_cons_zero, List.set_cons_succ])
          refine Reg.takeE 8 _ _ rfl (by kernel_rfl) (by kernel_rfl) (by kernel_rfl) (by decide) (fun _ _ _ h => by first | exact h | exact hP _ _ _ _ h) (by rfl) (fun W hW => by go_simp; with_reducible rfl) ?_; (try simp only [Act.put, Act.eval, List.getElem?_toArray, List.getElem_toArray, List.getElem?_cons_zero, List.getElem?_cons_succ, List.getElem_cons_zero, List.getElem_cons_succ, Option.getD_some, List.setIfInBounds_toArray, List.set_cons_zero, List.set_cons_succ])
          refine Reg.takeE 9 _ _ rfl (by kernel_rfl) (by kernel_rfl) (by kernel_rfl) (by decide) (fun _ _ _ h => by first | exact h | exact hP _ _ _ _ h) (by rfl) (fun W hW => by go_simp; with_reducible rfl) ?_; (try simp only [Act.put, Act.eval, List.getElem?_toArray, List.getElem_toArray, List.getElem?_cons_zero, List.getElem?_cons_succ, List.getElem_cons_zero, List.getElem_cons_succ, Option.getD_some, List.setIfInBounds_toArray, List.set_cons_zero, List.set_cons_succ])
          refine Reg.onlyE 10 _ rfl (by kernel_rfl) (by decide) (by rfl) (fun W hW K hK => ?_); go_simp
          refine (hcall.out _ (by repeat (first | assumption | exact Ext.refl _ | refine Ext.trans (by assumption) ?_ | apply Ext.drew | apply Ext.drewN | apply Ext.alloc))).mono ?_
          rintro e wX ⟨rfl, hX⟩
          refine hK.out _ _ (hX) ?_; clear hK K; (try simp only [Act.put, Act.eval, List.getElem?_toArray, List.getElem_toArray, List.getElem?_cons_zero, List.getElem?_cons_succ, List.getElem_cons_zero, List.getElem_cons_succ, Option.getD_some, List.setIfInBounds_toArray, List.set_cons_zero, List.set_cons_succ])
          refine Reg.takeE 11 _ _ rfl (by kernel_rfl) (by kernel_rfl) (by kernel_rfl) (by decide) (fun _ _ _ h => by first | exact h | exact hP _ _ _ _ h) (by rfl) (fun W hW => by go_simp; with_reducible rfl) ?_; (try simp only [Act.put, Act.eval, List.getElem?_toArray, List.getElem_toArray, List.getElem?_cons_zero, List.getElem?_cons_succ, List.getElem_cons_zero, List.getElem_cons_succ, Option.getD_some, List.setIfInBounds_toArray, List.set_cons_zero, List.set_cons_succ])
          refine Reg.fin (by kernel_rfl) (fun W hW => ?_)
          go_wp2_with fail
          go_roundw
          case rel => exact ⟨i + 1, by omega, by go_num, hE, hx.trans (by repeat (first | assumption | exact Ext.refl _ | refine Ext.trans (by assumption) ?_ | apply Ext.drew | apply Ext.drewN | apply Ext.alloc))⟩
          case measure => simp [intOf]; omega
        · have hne := ne_at hx1' hx2 he
          have hRf : R = false := by rw [← hR.out]; simpa using hne
          rw [show decide (x = y) = false by simpa using he] at hcall
          replace hcall := Lib.hid hcall
          subst hRf
          clear hx1' hx2 hne hc1 hc2 hs1 hs2 he
          go_wp2_with fail
          clear pA
          refine Reg.startE (by kernel_rfl) ?_
          refine Reg.takeE 0 _ _ rfl (by kernel_rfl) (by kernel_rfl) (by kernel_rfl) (by decide) (fun _ _ _ h => by first | exact h | exact hP _ _ _ _ h) (by rfl) (fun W hW => by go_simp; with_reducible rfl) ?_; (try simp only [Act.put, Act.eval, List.getElem?_toArray, List.getElem_toArray, List.getElem?_cons_zero, List.getElem?_cons_succ, List.getElem_cons_zero, List.getElem_cons_succ, Option.getD_some, List.setIfInBounds_toArray, List.set_cons_zero, List.set_cons_succ])
          refine Reg.takeE 1 _ _ rfl (by kernel_rfl) (by kernel_rfl) (by kernel_rfl) (by decide) (fun _ _ _ h => by first | exact h | exact hP _ _ _ _ h) (by rfl) (fun W hW => by go_simp; with_reducible rfl) ?_; (try simp only [Act.put, Act.eval, List.getElem?_toArray, List.getElem_toArray, List.getElem?_cons_zero, List.getElem?_cons_succ, List.getElem_cons_zero, List.getElem_cons_succ, Option.getD_some, List.setIfInBounds_toArray, List.set_cons_zero, List.set_cons_succ])
          refine Reg.takeE 2 _ _ rfl (by kernel_rfl) (by kernel_rfl) (by kernel_rfl) (by decide) (fun _ _ _ h => by first | exact h | exact hP _ _ _ _ h) (by rfl) (fun W hW => by go_simp; with_reducible rfl) ?_; (try simp only [Act.put, Act.eval, List.getElem?_toArray, List.getElem_toArray, List.getElem?_cons_zero, List.getElem?_cons_succ, List.getElem_cons_zero, List.getElem_cons_succ, Option.getD_some, List.setIfInBounds_toArray, List.set_cons_zero, List.set_cons_succ])
          refine Reg.takeE 3 _ _ rfl (by kernel_rfl) (by kernel_rfl) (by kernel_rfl) (by decide) (fun _ _ _ h => by first | exact h | exact hP _ _ _ _ h) (by rfl) (fun W hW => by go_simp; with_reducible rfl) ?_; (try simp only [Act.put, Act.eval, List.getElem?_toArray, List.getElem_toArray, List.getElem?_cons_zero, List.getElem?_cons_succ, List.getElem_cons_zero, List.getElem_cons_succ, Option.getD_some, List.setIfInBounds_toArray, List.set_cons_zero, List.set_cons_succ])
          refine Reg.takeE 4 _ _ rfl (by kernel_rfl) (by kernel_rfl) (by kernel_rfl) (by decide) (fun _ _ _ h => by first | exact h | exact hP _ _ _ _ h) (by rfl) (fun W hW => by go_simp; with_reducible rfl) ?_; (try simp only [Act.put, Act.eval, List.getElem?_toArray, List.getElem_toArray, List.getElem?_cons_zero, List.getElem?_cons_succ, List.getElem_cons_zero, List.getElem_cons_succ, Option.getD_some, List.setIfInBounds_toArray, List.set_cons_zero, List.set_cons_succ])
          refine Reg.takeE 5 _ _ rfl (by kernel_rfl) (by kernel_rfl) (by kernel_rfl) (by decide) (fun _ _ _ h => by first | exact h | exact hP _ _ _ _ h) (by rfl) (fun W hW => by go_simp; with_reducible rfl) ?_; (try simp only [Act.put, Act.eval, List.getElem?_toArray, List.getElem_toArray, List.getElem?_cons_zero, List.getElem?_cons_succ, List.getElem_cons_zero, List.getElem_cons_succ, Option.getD_some, List.setIfInBounds_toArray, List.set_cons_zero, List.set_cons_succ])
          refine Reg.takeE 6 _ _ rfl (by kernel_rfl) (by kernel_rfl) (by kernel_rfl) (by decide) (fun _ _ _ h => by first | exact h | exact hP _ _ _ _ h) (by rfl) (fun W hW => by go_simp; with_reducible rfl) ?_; (try simp only [Act.put, Act.eval, List.getElem?_toArray, List.getElem_toArray, List.getElem?_cons_zero, List.getElem?_cons_succ, List.getElem_cons_zero, List.getElem_cons_succ, Option.getD_some, List.setIfInBounds_toArray, List.set_cons_zero, List.set_cons_succ])
          refine Reg.takeE 7 _ _ rfl (by kernel_rfl) (by kernel_rfl) (by kernel_rfl) (by decide) (fun _ _ _ h => by first | exact h | exact hP _ _ _ _ h) (by rfl) (fun W hW => by go_simp; with_reducible rfl) ?_; (try simp only [Act.put, Act.eval, List.getElem?_toArray, List.getElem_toArray, List.getElem?_cons_zero, List.getElem?_cons_succ, List.getElem_cons_zero, List.getElem_cons_succ, Option.getD_some, List.setIfInBounds_toArray, List.set_cons_zero, List.set_cons_succ])
          refine Reg.takeE 8 _ _ rfl (by kernel_rfl) (by kernel_rfl) (by kernel_rfl) (by decide) (fun _ _ _ h => by first | exact h | exact hP _ _ _ _ h) (by rfl) (fun W hW => by go_simp; with_reducible rfl) ?_; (try simp only [Act.put, Act.eval, List.getElem?_toArray, List.getElem_toArray, List.getElem?_cons_zero, List.getElem?_cons_succ, List.getElem_cons_zero, List.getElem_cons_succ, Option.getD_some, List.setIfInBounds_toArray, List.set_cons_zero, List.set_cons_succ])
          refine Reg.takeE 9 _ _ rfl (by kernel_rfl) (by kernel_rfl) (by kernel_rfl) (by decide) (fun _ _ _ h => by first | exact h | exact hP _ _ _ _ h) (by rfl) (fun W hW => by go_simp; with_reducible rfl) ?_; (try simp only [Act.put, Act.eval, List.getElem?_toArray, List.getElem_toArray, List.getElem?_cons_zero, List.getElem?_cons_succ, List.getElem_cons_zero, List.getElem_cons_succ, Option.getD_some, List.setIfInBounds_toArray, List.set_cons_zero, List.set_cons_succ])
          refine Reg.onlyE 10 _ rfl (by kernel_rfl) (by decide) (by rfl) (fun W hW K hK => ?_); go_simp
          refine (hcall.out _ (by repeat (first | assumption | exact Ext.refl _ | refine Ext.trans (by assumption) ?_ | apply Ext.drew | apply Ext.drewN | apply Ext.alloc))).mono ?_
          rintro e wX ⟨rfl, hX⟩
          refine hK.out _ _ (hX) ?_; clear hK K; (try simp only [Act.put, Act.eval, List.getElem?_toArray, List.getElem_toArray, List.getElem?_cons_zero, List.getElem?_cons_succ, List.getElem_cons_zero, List.getElem_cons_succ, Option.getD_some, List.setIfInBounds_toArray, List.set_cons_zero, List.set_cons_succ])
          refine Reg.takeE 11 _ _ rfl (by kernel_rfl) (by kernel_rfl) (by kernel_rfl) (by decide) (fun _ _ _ h => by first | exact h | exact hP _ _ _ _ h) (by rfl) (fun W hW => by go_simp; with_reducible rfl) ?_; (try simp only [Act.put, Act.eval, List.getElem?_toArray, List.getElem_toArray, List.getElem?_cons_zero, List.getElem?_cons_succ, List.getElem_cons_zero, List.getElem_cons_succ, Option.getD_some, List.setIfInBounds_toArray, List.set_cons_zero, List.set_cons_succ])
          refine Reg.fin (by kernel_rfl) (fun W hW => ?_)
          go_wp2_with fail
          go_ret
          exact ⟨rfl, (hx1.trans hx).trans (by repeat (first | assumption | exact Ext.refl _ | refine Ext.trans (by assumption) ?_ | apply Ext.drew | apply Ext.drewN | apply Ext.alloc))⟩
      · obtain rfl : i = n := by omega
        have hRt : R = true := by rw [← hR.out]; simpa using EqAt.all (by rw [hn.out, hn2'.out]) (by rw [hn.out]; exact heq)
        subst hRt
        go_wp2_with fail
        go_ret
        exact ⟨rfl, hx1.trans hx⟩
  · have hRf : R = false := by rw [← hR.out]; simpa using ne_len (by rw [hn.out, hn2'.out]; exact hl)
    have hnb : ((n : Int) != (n2 : Int)) = true := by simpa using (by omega : ¬ (n : Int) = (n2 : Int))
    subst hRf
    go_enter Tryd.func10, Tryd.ntmps10
    go_wp2_with fail
    rw [hw1.out]
    go_ret
    exact ⟨rfl, hx1⟩
end Go.Proofs.YtejcacbbhijdcaaDoor.Pr
