/- sha: the reference's Join, walked. -/
import Derived.Test.YtdfgjmmdpbgodaaDoorShaJoin
import Derived.Test.YtdfgjmmdpbgodaaDoorShaRefI
namespace Go.Proofs.YtdfgjmmdpbgodaaDoor.ShaW
open Go.ChangeShapes Go.WideShapes Go.ChangeAt Go.RowKit
open ShaP Base Piece
set_option linter.unusedVariables false
set_option linter.unusedSimpArgs false

set_option maxRecDepth 100000 in
set_option maxHeartbeats 400000 in
theorem refJoin_any (w : World) (A : Option Addr) (n c : Nat) (F : List UInt8) (hF : F.length = n * 32) (hr : Rb w A F) (hn : n ≤ 60) :
    Calls Tryd.prog 16 #[.slice A n c] w fun e w' => e = .returned (.agg (u8s (sha F)).toArray) ∧ Ext w w' := by
  go_enter Tryd.func16, Tryd.ntmps16
  go_wp2_with fail
  generalize hw0 : World.alloc w _ = w0
  have hz0 : Blk w0 w.heap.size z32 25 := by rw [← hw0]; exact Blk.new w z32 _
  have hx0 : Ext w w0 := by rw [← hw0]; exact (Ext.refl w).alloc _
  have hs0 : w0.heap.size = w.heap.size + 1 := by rw [← hw0]; simp
  clear hw0
  go_wp2_with fail
  go_loopw [3, 4, 6, 7, 8, 9, 10, 11, 12, 13, 14, 15, 16, 17] (fun v3 v4 v6 v7 v8 v9 v10 v11 v12 v13 v14 v15 v16 v17 wr => ∃ (i : Nat) (A3 : Option Addr) (c3 : Nat), i ≤ n ∧ v4 = .int .i64 i ∧ v3 = .slice A3 (i * 32) c3 ∧ OwnS wr (.slice A3 (i * 32) c3) (u8s (F.take (i * 32))) ∧ (∀ k, (Value.slice A3 (i * 32) c3).ownBlock = some k → w0.heap.size ≤ k) ∧ Ext w0 wr) (fun _ v4 _ _ _ _ _ _ _ _ _ _ _ _ _ => n - (intOf v4).toNat)
  case atStart => exact ⟨0, some ⟨w0.heap.size, 0, none⟩, 0, by omega, rfl, by rw [hs0], by rw [Nat.zero_mul]; exact OwnS.zero _ _, fun k hk => by injection hk with hk; exact Nat.le_of_eq hk, (Ext.refl w0).alloc _⟩
  case round =>
    obtain ⟨i, A3, c3, hi, rfl, rfl, ho, hb, hx⟩ := hrel
    have hxw := hx0.trans hx
    by_cases hin : i < n
    · have hin' : (i : Int) < (n : Int) := by omega
      obtain ⟨b, off, rfl⟩ := hr.some_ (by omega)
      have hrg := sums_range (hr.ext hxw) i
      obtain ⟨C, hC⟩ : ∃ C, Held ((F.drop (i * 32)).take 32 = C) := ⟨_, ⟨rfl⟩⟩
      have hCl : C.length = 32 := by rw [← hC.out, List.length_take, List.length_drop]; omega
      have hnx : F.take ((i + 1) * 32) = F.take (i * 32) ++ C := by rw [← hC.out, Nat.add_mul, Nat.one_mul, List.take_add]
      have hFl : (u8s (F.take (i * 32))).length = i * 32 := by rw [u8s_length, List.length_take]; omega
      rw [hC.out] at hrg
      have hrd : Rd wr (some ⟨b, off + i * 32, none⟩) (u8s C) := fun _ => ⟨_, _, rfl, hrg⟩
      clear hrg
      go_wp2_with (
        refine wpList_oapp el_u8 _ rfl (.tmp 12) (.tmp 16) rfl (.slice A3 (i * 32) c3) (u8s (F.take (i * 32))) rfl ho (u8s_one _) (some ⟨b, off + i * 32, none⟩) 32 32 (u8s C) rfl hrd (by rw [u8s_length, hCl]) (fun h => by cases h) (u8s_one C) (by rw [hFl]; omega) (by omega) (fun V1 w1 ho1 hg1 hv1 => ?_)
        rw [← u8s_append, ← hnx] at ho1
        have hb1 := own_ge hv1 hb (by have := hx.size; omega)
        have hx1 := hx.then_grown hg1 hb
        obtain ⟨A1, c1, rfl, _⟩ := ho1.rd
        rw [show (u8s (F.take ((i + 1) * 32))).length = (i + 1) * 32 by rw [u8s_length, List.length_take]; omega] at ho1 hb1 ⊢
        clear hg1 hv1)
      refine ⟨⟨i + 1, A1, c1, by omega, by go_num, rfl, ho1, hb1, hx1⟩, by simp [intOf]; omega⟩
    · obtain rfl : i = n := by omega
      have hF2 : F.take (i * 32) = F := List.take_of_length_le (by omega)
      rw [hF2] at ho
      have hz := hz0.ext hx
      obtain ⟨A', c', e, hrd, _, _, hA'⟩ := ho.rd
      injection e with e1 e2 e3
      subst e1; subst e3
      clear e2
      have hsum := refSum_any wr A3 c3 F hrd hA' (by omega)
      rw [hF] at hsum
      go_wp2_with fail
      refine hsum.mono ?_
      rintro e w3 ⟨rfl, hx3⟩
      have hz3 := hz.ext hx3
      go_wp2_with (refine wpList_store_mid rfl 25 (.tmp 2) (.tmp 19) rfl w.heap.size 0 (u8s (sha F)).toArray rfl rfl (sum_there hz3 F) (sum_info F) (all_oneCell_toArray (u8s_one _)) ?_)
      refine ⟨rfl, _, results_cell_row rfl _ _ w.heap.size 25 (u8s (sha F)).toArray (0, 0) (.array 32 5) rfl (sum_cells F hz3) (by kernel_rfl) rfl (sum_info F), rfl, Ext_sets (Nat.le_refl _) _ 0 (hxw.trans hx3)⟩
end Go.Proofs.YtdfgjmmdpbgodaaDoor.ShaW
