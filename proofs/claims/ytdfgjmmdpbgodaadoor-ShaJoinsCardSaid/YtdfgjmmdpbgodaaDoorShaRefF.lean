/- sha: the reference's Sum in pieces: the bytes that are put behind. -/
import Derived.Test.YtdfgjmmdpbgodaaDoorShaRefA
namespace Go.Proofs.YtdfgjmmdpbgodaaDoor.ShaW
open Go.ChangeShapes Go.WideShapes Go.ChangeAt Go.RowKit
open ShaP Base Piece
set_option linter.unusedVariables false
set_option linter.unusedSimpArgs false

set_option maxRecDepth 1000000 in
set_option maxHeartbeats 4000000 in
theorem loop0 {Q : Exit → Act → World → Prop} (v0 v1 v2 v3 v4 v6 v7 v8 v9 v10 v11 v12 v13 v14 v15 v16 v17 v18 v19 v20 v21 : Value) (a : Act) (wb wa : World) (A1 : Option Addr) (c1 nb : Nat) (T : List UInt8)
    (hnb : nb ≤ 4000) (hT : T.length = nb + 1)
    (hF : Fr 315 [v0, v1, v2, v3, v4, .slice A1 (nb + 1) c1, v6, v7, v8, v9, v10, v11, v12, v13, v14, v15, v16, v17, v18, v19, v20, v21] a) (hx : Ext wb wa) (ho : OwnS wa (.slice A1 (nb + 1) c1) (u8s T)) (hb : ∀ k, (Value.slice A1 (nb + 1) c1).ownBlock = some k → wb.heap.size ≤ k)
    (hQ : ∀ a' w' A1 c1, Fr 315 [v0, v1, v2, v3, v4, .slice A1 (nb + 1 + noughts nb) c1, v6, v7, v8, v9, v10, v11, v12, v13, v14, v15, v16, v17, v18, v19, v20, v21] a' → OwnS w' (.slice A1 (nb + 1 + noughts nb) c1) (u8s (T ++ List.replicate (noughts nb) 0)) → (∀ k, (Value.slice A1 (nb + 1 + noughts nb) c1).ownBlock = some k → wb.heap.size ≤ k) → Ext wb w' → Q (.exit 0) a' w') :
    (Code.loop (refBody 0)).wp Tryd.prog Q a wa := by
  obtain ⟨N, hN⟩ : ∃ N, Held (noughts nb = N) := ⟨_, ⟨rfl⟩⟩
  have hN2 : N = (119 - nb % 64) % 64 := by rw [← hN.out, noughts]
  rw [hN.out] at hQ
  refine wp_loop (fun a wv => ∃ (k : Nat) (A1 : Option Addr) (c1 : Nat), k ≤ N ∧ Fr 315 [v0, v1, v2, v3, v4, .slice A1 (nb + 1 + k) c1, v6, v7, v8, v9, v10, v11, v12, v13, v14, v15, v16, v17, v18, v19, v20, v21] a ∧ OwnS wv (.slice A1 (nb + 1 + k) c1) (u8s (T ++ List.replicate k 0)) ∧ (∀ j, (Value.slice A1 (nb + 1 + k) c1).ownBlock = some j → wb.heap.size ≤ j) ∧ Ext wb wv) (fun a _ => 5000 - lenOf (a.tmps.getD 5 undef)) ⟨0, A1, c1, by omega, hF, by simpa using ho, hb, hx⟩ ?_
  clear hF ho hb hx a wa c1 A1
  rintro a w ⟨k, A1, c1, hk, hF, ho, hb, hx⟩
  obtain ⟨u, rfl⟩ := lay315 hF
  clear hF
  conv => arg 2; whnf
  obtain ⟨n, hn⟩ : ∃ n, Held (nb + 1 + k = n) := ⟨_, ⟨rfl⟩⟩
  rw [hn.out] at ho hb ⊢
  have hn5 : n ≤ 4200 := by have := hn.out; omega
  by_cases hc : n % 64 = 56
  · have hci : (n : Int) % 64 = 56 := by omega
    obtain rfl : k = N := by have := hn.out; omega
    rw [hn.out] at hQ
    go_wp2_with fail
    exact hQ _ _ A1 c1 ⟨_, rfl, rfl⟩ ho hb hx
  · clear hQ
    have hci : ¬ (n : Int) % 64 = 56 := by omega
    have hkN : k < N := by have := hn.out; omega
    obtain ⟨T1, hT1⟩ : ∃ T1, Held (T ++ List.replicate k 0 = T1) := ⟨_, ⟨rfl⟩⟩
    have hT1n : T1.length = n := by rw [← hT1.out, List.length_append, List.length_replicate, hT, hn.out]
    have hT2 : T ++ List.replicate (k + 1) 0 = T1 ++ [0] := by rw [List.replicate_succ', ← List.append_assoc, hT1.out]
    rw [hT1.out] at ho
    clear hT1
    have hsx := hx.size
    go_wp2_with (
      refine wpList_oapp el_u8 _ rfl (.tmp 33) (.tmp 34) rfl (.slice A1 n c1) (u8s T1) rfl (ho.ext ((Ext.refl w).alloc _)) (u8s_one _) (some ⟨w.heap.size, 0, none⟩) 1 1 (u8s [0]) rfl (Rd.of_block w 5 (0, 0) rfl) rfl (fun h => by cases h) (u8s_one _) (by rw [u8s_length]; omega) (by omega) (fun V1 w2 ho1 hgr1 hv1 => ?_)
      have hx1 : Ext wb w2 := (hx.alloc _).then_grown hgr1 hb
      have hb1 := own_ge hv1 hb (by simp; omega)
      clear hgr1 hv1
      obtain ⟨A2, c2', rfl, _⟩ := ho1.rd
      rw [← u8s_append, ← hT2, show (u8s (T ++ List.replicate (k + 1) 0)).length = nb + 1 + (k + 1) by rw [u8s_length, List.length_append, List.length_replicate, hT]] at ho1
      rw [← u8s_append, show (u8s (T1 ++ [0])).length = nb + 1 + (k + 1) by rw [u8s_length, List.length_append, hT1n, ← hn.out]; rfl] at hb1 ⊢)
    refine ⟨⟨k + 1, A2, c2', by omega, ⟨_, rfl, rfl⟩, ho1, hb1, hx1⟩, ?_⟩
    have := hn.out
    simp [lenOf]
    omega

set_option maxRecDepth 1000000 in
set_option maxHeartbeats 4000000 in
theorem loop2 {Q : Exit → Act → World → Prop} (v1 v2 v3 v4 v7 v8 v9 v10 v11 v12 v13 v14 v15 v16 v17 v18 v19 v20 v21 : Value) (a : Act) (wb wa : World) (A0 A1 : Option Addr) (c0 c1 nb n : Nat) (T : List UInt8)
    (hnb : nb ≤ 4000) (hT : T.length = n) (hn5 : n ≤ 4200)
    (hF : Fr 315 [.slice A0 nb c0, v1, v2, v3, v4, .slice A1 n c1, .int .i64 7, v7, v8, v9, v10, v11, v12, v13, v14, v15, v16, v17, v18, v19, v20, v21] a) (hx : Ext wb wa) (ho : OwnS wa (.slice A1 n c1) (u8s T)) (hb : ∀ k, (Value.slice A1 n c1).ownBlock = some k → wb.heap.size ≤ k)
    (hQ : ∀ a' w' A1 c1 x6, Fr 315 [.slice A0 nb c0, v1, v2, v3, v4, .slice A1 (n + 8) c1, x6, v7, v8, v9, v10, v11, v12, v13, v14, v15, v16, v17, v18, v19, v20, v21] a' → OwnS w' (.slice A1 (n + 8) c1) (u8s (T ++ be8 (nb * 8))) → (∀ k, (Value.slice A1 (n + 8) c1).ownBlock = some k → wb.heap.size ≤ k) → Ext wb w' → Q (.exit 2) a' w') :
    (Code.loop (refBody 2)).wp Tryd.prog Q a wa := by
  refine wp_loop (fun a wv => ∃ (j : Nat) (A1 : Option Addr) (c1 : Nat), j ≤ 8 ∧ Fr 315 [.slice A0 nb c0, v1, v2, v3, v4, .slice A1 (n + j) c1, .int .i64 (7 - (j : Int)), v7, v8, v9, v10, v11, v12, v13, v14, v15, v16, v17, v18, v19, v20, v21] a ∧ OwnS wv (.slice A1 (n + j) c1) (u8s (T ++ (be8 (nb * 8)).take j)) ∧ (∀ k, (Value.slice A1 (n + j) c1).ownBlock = some k → wb.heap.size ≤ k) ∧ Ext wb wv) (fun a _ => (intOf (a.tmps.getD 6 undef) + 1).toNat) ⟨0, A1, c1, by omega, by simpa using hF, by simpa using ho, hb, hx⟩ ?_
  clear hF ho hb hx a wa c1 A1
  rintro a w ⟨j, A1, c1, hj, hF, ho, hb, hx⟩
  obtain ⟨u, rfl⟩ := lay315 hF
  clear hF
  conv => arg 2; whnf
  by_cases hj8 : j < 8
  · clear hQ
    obtain ⟨S, hSd⟩ : ∃ S : Nat, Held ((8 : Int) * (7 - (j : Int)) = (S : Int)) := ⟨56 - 8 * j, ⟨by omega⟩⟩
    obtain ⟨z, hz⟩ : ∃ z : Int, Held (7 - (j : Int) = z) := ⟨_, ⟨rfl⟩⟩
    have hSj : S + 8 * j = 56 := by have := hSd.out; omega
    have hz0 : 0 ≤ z := by have := hz.out; omega
    have hz7 : z ≤ 7 := by have := hz.out; omega
    have hzS : IntKind.i64.wrap (8 * z) = (S : Int) := by have := hSd.out; have := hz.out; rw [IntKind.wrap_i64]; omega
    have hzS' : wrap64 (8 * z) = (S : Int) := by have := hSd.out; have := hz.out; unfold wrap64; omega
    have hzS2 : 8 * z = (S : Int) := by have := hSd.out; have := hz.out; omega
    obtain ⟨bb, hbb⟩ : ∃ x, Held (UInt8.ofNat (nb * 8 / 2 ^ S) = x) := ⟨_, ⟨rfl⟩⟩
    have hbyte : (nb : Int) * 8 / 2 ^ S % 256 = (bb.toNat : Int) := by
      have h := byte_at nb j hj8 S hSj
      rw [Nat.mod_eq_of_lt (by omega), IntKind.wrap_u64, Int.emod_eq_of_lt (by omega) (by omega), IntKind.wrap_u8] at h
      rw [h, hbb.out]
    have hT2 : T ++ (be8 (nb * 8)).take (j + 1) = T ++ (be8 (nb * 8)).take j ++ [bb] := by rw [be8_take _ j hj8 S hSj, List.append_assoc, hbb.out]
    obtain ⟨n2, hn2⟩ : ∃ x, Held (n + j = x) := ⟨_, ⟨rfl⟩⟩
    obtain ⟨T1, hT1⟩ : ∃ x, Held (T ++ (be8 (nb * 8)).take j = x) := ⟨_, ⟨rfl⟩⟩
    have hT1n : T1.length = n2 := by rw [← hT1.out, List.length_append, List.length_take, hT, ← hn2.out]; simp [be8]; omega
    have hT2n : (T ++ (be8 (nb * 8)).take (j + 1)).length = n + (j + 1) := by rw [List.length_append, List.length_take, hT]; simp [be8]; omega
    rw [hT1.out] at ho hT2
    rw [hn2.out] at ho hb
    have hn2s : n2 ≤ 4300 := by have := hn2.out; omega
    have hzj : Held (z - 1 = 7 - ((j + 1 : Nat) : Int)) := ⟨by have := hz.out; omega⟩
    have hsx := hx.size
    rw [hn2.out, hz.out]
    clear hT1 hbb hSd
    go_wp2_with (
      refine wpList_oapp el_u8 _ rfl (.tmp 40) (.tmp 50) rfl (.slice A1 n2 c1) (u8s T1) rfl (ho.ext ((Ext.refl w).alloc _)) (u8s_one _) (some ⟨w.heap.size, 0, none⟩) 1 1 (u8s [bb]) rfl (Rd.of_block w 5 (0, 0) rfl) rfl (fun h => by cases h) (u8s_one _) (by rw [u8s_length]; omega) (by omega) (fun V1 w2 ho1 hgr1 hv1 => ?_)
      have hx1 : Ext wb w2 := (hx.alloc _).then_grown hgr1 hb
      have hb1 := own_ge hv1 hb (by simp; omega)
      clear hgr1 hv1
      obtain ⟨A2, c2', rfl, _⟩ := ho1.rd
      rw [← u8s_append, ← hT2, show (u8s (T ++ (be8 (nb * 8)).take (j + 1))).length = n + (j + 1) by rw [u8s_length, hT2n]] at ho1
      rw [← u8s_append, ← hT2, show (u8s (T ++ (be8 (nb * 8)).take (j + 1))).length = n + (j + 1) by rw [u8s_length, hT2n]] at hb1 ⊢)
    rw [hzj.out]
    refine ⟨⟨j + 1, A2, c2', by omega, ⟨_, rfl, rfl⟩, ho1, hb1, hx1⟩, ?_⟩
    have := hz.out
    simp [intOf]
    omega
  · obtain rfl : j = 8 := by omega
    clear hj8
    go_wp2_with fail
    exact hQ _ _ A1 c1 _ ⟨_, rfl, rfl⟩ ho hb hx
end Go.Proofs.YtdfgjmmdpbgodaaDoor.ShaW
