/- sha: Hex, walked. -/
import Derived.Test.YtdfgjmmdpbgodaaDoorShaHex
namespace Go.Proofs.YtdfgjmmdpbgodaaDoor.ShaW
open Go.ChangeShapes Go.WideShapes Go.ChangeAt Go.RowKit
open ShaP Base
set_option linter.unusedVariables false
set_option linter.unusedSimpArgs false

def hexB : ByteArray := ⟨#[48, 49, 50, 51, 52, 53, 54, 55, 56, 57, 97, 98, 99, 100, 101, 102]⟩
def hexd (n : Nat) : UInt8 := hexB.data.toList.getD n 0
def hexL (m : List UInt8) : List UInt8 := m.flatMap fun c => [hexd (c.toNat / 16), hexd (c.toNat % 16)]
theorem hexd_get (n : Nat) (h : n < 16) : hexB[n]'h = hexd n := by
  unfold hexd
  rw [List.getD, List.getElem?_eq_getElem (by exact h)]
  rfl
theorem hexL_length (m : List UInt8) : (hexL m).length = m.length * 2 := by
  induction m with
  | nil => rfl
  | cons c m ih => simp only [hexL, List.flatMap_cons, List.length_append, List.length_cons, List.length_nil] at *; omega
theorem hexL_snoc (m : List UInt8) (c : UInt8) : hexL (m ++ [c]) = hexL m ++ [hexd (c.toNat / 16)] ++ [hexd (c.toNat % 16)] := by simp [hexL]

set_option maxRecDepth 100000 in
set_option maxHeartbeats 2000000 in
theorem hex_any (m : List UInt8) (hm : m.length = 32) (w : World) :
    Calls Tryd.prog 17 #[.agg (u8s m).toArray] w fun e w' => e = .returned (.string ⟨(hexL m).toArray⟩) ∧ Ext w w' := by
  obtain ⟨L, hL⟩ : ∃ L, Held (u8s m = L) := ⟨_, ⟨rfl⟩⟩
  rw [hL.out]
  have hLl : L.length = 32 := by rw [← hL.out, u8s_length, hm]
  have hLat : ∀ i (h : i < 32), L.toArray[i]? = some (.int .u8 ((m[i]'(by omega)).toNat : Int)) := fun i h => by rw [← hL.out]; simp [u8s, hm, h]
  obtain ⟨b, hb⟩ : ∃ b, Held (w.heap.size + 1 = b) := ⟨_, ⟨rfl⟩⟩
  have hty : (Tryd.prog.info? 25).map (·.size) = some L.length := by rw [hLl]; kernel_rfl
  have hld : ∀ j v, L[j]? = some v → ((w.alloc (.cells L.toArray 25)).alloc (.cells #[.pointer none, .slice none 0 0] 51)).cell? ⟨w.heap.size, 0 + j, none⟩ = some v := fun j v hj => by
    rw [Nat.zero_add, ((Blk.new w L.toArray 25).alloc _).cell j, List.getElem?_toArray, hj]
  have hB : BInv w ((w.alloc (.cells L.toArray 25)).alloc (.cells #[.pointer none, .slice none 0 0] 51)) b [] := by
    have h := Blk.new (w.alloc (.cells L.toArray 25)) #[.pointer none, .slice none 0 0] 51
    rw [World.size_alloc, hb.out] at h
    exact ⟨none, _, .inl rfl, h, World.ownsRow_nil _ _ _ _, by rw [← hb.out]; omega, ((Ext.refl w).alloc _).alloc _⟩
  go_enter Tryd.func17, Tryd.ntmps17
  go_wp2_with (refine wpList_load_mid rfl 25 (.tmp 1) rfl w.heap.size 0 rfl L (.array 32 5) hld (by kernel_rfl) rfl hty ?_)
  rw [hb.out]
  generalize World.alloc (World.alloc w _) _ = w1 at hB ⊢
  clear hld
  go_loopw [7] (fun v7 wr => ∃ i : Nat, i ≤ 32 ∧ v7 = .int .i64 i ∧ BInv w wr b (hexL (m.take i))) (fun v7 _ => 32 - (intOf v7).toNat)
  case atStart => exact ⟨0, by omega, rfl, hB⟩
  case round =>
    clear hB
    obtain ⟨i, hi, rfl, hB⟩ := hrel
    by_cases hin : i < 32
    · have hin' : (i : Int) < 32 := by omega
      obtain ⟨c, hc⟩ : ∃ c, Held (m[i]'(by omega) = c) := ⟨_, ⟨rfl⟩⟩
      have hat := hLat i hin
      rw [hc.out] at hat
      have hcl := c.toNat_lt
      have hcl' : (c.toNat : Int) < 256 := by omega
      obtain ⟨H, hH⟩ : ∃ H, Held (hexL (m.take i) = H) := ⟨_, ⟨rfl⟩⟩
      have hHl : H.length ≤ 64 := by rw [← hH.out, hexL_length, List.length_take]; omega
      have hnx : hexL (m.take (i + 1)) = H ++ [hexd (c.toNat / 16)] ++ [hexd (c.toNat % 16)] := by
        rw [List.take_succ_eq_append_getElem (by omega), hexL_snoc, hH.out, hc.out]
      rw [hH.out] at hB
      have hw1 := writeByte_any w wr b H (hexd (c.toNat / 16)) (by omega) hB
      have g1 : (⟨#[48, 49, 50, 51, 52, 53, 54, 55, 56, 57, 97, 98, 99, 100, 101, 102]⟩ : ByteArray)[c.toNat / 16]'(by show _ < 16; omega) = hexd (c.toNat / 16) := hexd_get _ (by omega)
      have g2 : (⟨#[48, 49, 50, 51, 52, 53, 54, 55, 56, 57, 97, 98, 99, 100, 101, 102]⟩ : ByteArray)[c.toNat % 16]'(by show _ < 16; omega) = hexd (c.toNat % 16) := hexd_get _ (by omega)
      go_wp2_with (refine wpList_index rfl 25 (.tmp 6) (.tmp 7) rfl _ _ rfl rfl _ (run_index_row _ _ 5 32 L.toArray i .u8 (by kernel_rfl) (by kernel_rfl) (by kernel_rfl) hin _ hat) ?_)
      refine hw1.mono ?_
      rintro e w2 ⟨rfl, hB2⟩
      have hw2 := writeByte_any w w2 b _ (hexd (c.toNat % 16)) (by rw [List.length_append]; simp; omega) hB2
      go_wp2_with fail
      refine hw2.mono ?_
      rintro e w3 ⟨rfl, hB3⟩
      rw [← hnx] at hB3
      go_wp2_with fail
      refine ⟨⟨i + 1, by omega, rfl, hB3⟩, ?_⟩
      simp [intOf]
      omega
    · obtain rfl : i = 32 := by omega
      rw [List.take_of_length_le (by omega)] at hB
      have hs := bstring_any w wr b (hexL m) (by rw [hexL_length]; omega) (fun e => by have := hexL_length m; rw [e] at this; simp at this; omega) hB
      go_wp2_with fail
      refine hs.mono ?_
      rintro e w2 ⟨rfl, hx⟩
      go_wp2_with fail
      go_ret
      exact ⟨rfl, hx⟩
end Go.Proofs.YtdfgjmmdpbgodaaDoor.ShaW
