/- sha: the reference's Sum, whole. -/
import Derived.Test.YtdfgjmmdpbgodaaDoorShaRefF
import Derived.Test.YtdfgjmmdpbgodaaDoorShaRefG
import Derived.Test.YtdfgjmmdpbgodaaDoorShaRefH
namespace Go.Proofs.YtdfgjmmdpbgodaaDoor.ShaW
open Go.ChangeShapes Go.WideShapes Go.ChangeAt Go.RowKit
open ShaP Base Piece
set_option linter.unusedVariables false
set_option linter.unusedSimpArgs false

set_option maxRecDepth 1000000 in
set_option maxHeartbeats 8000000 in
theorem refSum_any (w : World) (A : Option Addr) (c : Nat) (l : List UInt8) (hr : Rb w A l) (hA : A = none → c = 0) (hn : l.length ≤ 4000) :
    Calls Tryd.prog 10 #[.slice A l.length c] w fun e w' => e = .returned (.agg (u8s (sha l)).toArray) ∧ Ext w w' := by
  obtain ⟨nb, hnb⟩ : ∃ x, Held (l.length = x) := ⟨_, ⟨rfl⟩⟩
  have hn4 : nb ≤ 4000 := by rw [← hnb.out]; exact hn
  have HA := Lib.hid hA
  clear hA hn
  rw [hnb.out]
  obtain ⟨R, hR⟩ : ∃ R, Hid (roots = R) := ⟨_, rfl⟩
  have hRl : R.length = 64 := by rw [← hR.out]; rfl
  go_enter Tryd.func10, Tryd.ntmps10
  go_wp2_with fail
  generalize hwq : World.alloc w _ = w0
  have hH : Blk w0 w.heap.size z32 25 := by rw [← hwq]; exact Blk.new _ _ _
  have hx0 : Ext w w0 := by rw [← hwq]; exact (Ext.refl w).alloc _
  clear hwq
  refine (words_any _).mono ?_
  rintro e w1 ⟨rfl, hG, hx1⟩
  obtain ⟨G, hGd⟩ : ∃ G, Held (w0.heap.size = G) := ⟨_, ⟨rfl⟩⟩
  rw [hGd.out] at hG ⊢
  have hG1 := hG.lt
  go_wp2_with fail
  refine (roots_any _).mono ?_
  rintro e w2 ⟨rfl, hK, hx2⟩
  obtain ⟨KB, hKd⟩ : ∃ K, Held (w1.heap.size = K) := ⟨_, ⟨rfl⟩⟩
  rw [hKd.out] at hK hG1 ⊢
  rw [hR.out] at hK
  have hG2 := hx2.size
  have hr2 : Rb w2 A l := hr.ext ((hx0.trans hx1).trans hx2)
  go_wp2_with (first
    | refine wpList_oapp el_u8 _ rfl (.tmp 24) (.tmp 25) rfl (.slice (some ⟨w2.heap.size, 0, none⟩) 0 0) [] rfl (OwnS.zero _ _) (fun _ h => by cases h) A nb c (u8s l) rfl (Rd.ext hr2 ((Ext.refl w2).alloc _)) (by rw [u8s_length, hnb.out]) HA.out (u8s_one l) (by simp; omega) (by omega) (fun V3 w3 ho3 hg3 hv3 => ?_)
    | refine wpList_oapp el_u8 _ rfl (.tmp 26) (.tmp 27) rfl V3 (u8s l) rfl (OwnS.ext ho3 ((Ext.refl w3).alloc _)) (u8s_one _) (some ⟨w3.heap.size, 0, none⟩) 1 1 (u8s [128]) rfl (Rd.of_block w3 5 (0, 0) rfl) rfl (fun h => by cases h) (u8s_one _) (by rw [u8s_length, hnb.out]; omega) (by omega) (fun V4 w4 ho4 hg4 hv4 => ?_))
  have hx3 : Ext w2 w3 := ((Ext.refl w2).alloc _).then_grown hg3 (fun k hk => by have hk : w2.heap.size = k := (by simpa [Value.ownBlock] using hk); omega)
  have hb3 := own_ge (B := w2.heap.size) hv3 (fun k hk => by have hk : w2.heap.size = k := (by simpa [Value.ownBlock] using hk); omega) (by simp)
  have hx4 : Ext w2 w4 := (hx3.alloc _).then_grown hg4 hb3
  have hb4 := own_ge hv4 hb3 (by simp; have := hx3.size; omega)
  clear hg3 hv3 hg4 hv4 ho3 hb3 hx3
  rw [← u8s_append] at ho4
  obtain ⟨A5, c5, rfl, _⟩ := ho4.rd
  rw [show (u8s (l ++ [128])).length = nb + 1 by rw [u8s_length, List.length_append, hnb.out]; rfl] at ho4 hb4 ⊢
  refine loop0 (wb := w2) (nb := nb) (T := l ++ [128]) (hnb := hn4) (hT := by rw [List.length_append, hnb.out]; rfl) (hF := ⟨_, rfl, rfl⟩) (hx := hx4) (ho := ho4) (hb := hb4) (hQ := ?_)
  clear ho4 hb4 hx4
  intro a5 w5 A5 c5 hF5 ho5 hb5 hx5
  obtain ⟨u5, rfl⟩ := lay315 hF5
  clear hF5
  obtain ⟨n5, hn5⟩ : ∃ n, Held (nb + 1 + noughts nb = n) := ⟨_, ⟨rfl⟩⟩
  have hn5s : n5 % 64 = 56 := by rw [← hn5.out, noughts]; omega
  have hn5l : n5 ≤ 4100 := by rw [← hn5.out, noughts]; omega
  rw [hn5.out] at ho5 hb5 ⊢
  go_wp2_with fail
  refine loop2 (wb := w2) (nb := nb) (n := n5) (T := l ++ [128] ++ List.replicate (noughts nb) 0) (hnb := hn4) (hT := by rw [List.length_append, List.length_append, List.length_replicate, hnb.out, ← hn5.out]; rfl) (hn5 := by omega) (hF := ⟨_, rfl, rfl⟩) (hx := hx5) (ho := ho5) (hb := hb5) (hQ := ?_)
  clear ho5 hb5 hx5
  intro a6 w6 A6 c6 y6 hF6 ho6 hb6 hx6
  obtain ⟨u6, rfl⟩ := lay315 hF6
  clear hF6 u5
  obtain ⟨mm, hmm⟩ : ∃ n, Held (n5 + 8 = n) := ⟨_, ⟨rfl⟩⟩
  have hm64 : mm % 64 = 0 := by have := hmm.out; omega
  have hm5 : mm ≤ 5000 := by have := hmm.out; omega
  obtain ⟨P, hPd⟩ : ∃ P, Held (padded l l.length = P) := ⟨_, ⟨rfl⟩⟩
  have hPe : l ++ [128] ++ List.replicate (noughts nb) 0 ++ be8 (nb * 8) = P := by rw [← hPd.out, padded, hnb.out]
  rw [hPe, hmm.out] at ho6
  rw [hmm.out] at hb6 ⊢
  have hPl : P.length = mm := by rw [← hPe, List.length_append, List.length_append, List.length_append, List.length_replicate, hnb.out, ← hmm.out, ← hn5.out]; rfl
  obtain ⟨A6', c6', e6, hr6, hc6, _, _⟩ := ho6.rd
  injection e6 with e1 e2 e3
  subst e1; subst e3
  clear e2 hPe
  rw [u8s_length, hPl] at hc6
  clear ho6
  have hx06 : Ext w0 w6 := (hx1.trans hx2).trans hx6
  have h6G : ∀ p, A6 = some p → p.block ≠ G := fun p hp e => by have := hb6 p.block (by rw [hp]; rfl); have := hKd.out; omega
  have hKG : ∀ p, (some ⟨KB, 0, none⟩ : Option Addr) = some p → p.block ≠ G := fun p hp e => by injection hp with hp; rw [← hp] at e; have e : KB = G := e; omega
  have hbG : w0.heap.size ≤ G := Nat.le_of_eq hGd.out
  have hK6 := hK.ext hx6
  have hG6 : Blk w6 G (us begin_.list).toArray 44 := (hG.ext hx2).ext hx6
  clear hb6 hx6 hK hG hr2 hr
  go_wp2_with fail
  refine loop4 (wb := w0) (G := G) (R := R) (L := P) (hR := hR) (hRl := hRl) (hr := hr6) (hl := hPl) (hmc := hc6) (hmm := hm5) (h64 := hm64) (hF := ⟨_, rfl, rfl⟩) (hx := hx06) (hG := hG6) (hK := hK6) (hKG := hKG) (h5G := h6G) (hbG := hbG) (hP := ?_) (hQ := ?_)
  · exact fun _ _ _ _ h => nomatch h.2.1
  clear hr6 hx06 hG6 hK6 hKG h6G
  intro a7 w7 y7 z8 z9 z10 z11 z12 z13 z14 z15 z16 z17 z18 z19 hF7 hG7 hx7
  obtain ⟨u7, rfl⟩ := lay315 hF7
  clear hF7 u6
  obtain ⟨s, hs⟩ : ∃ s, Held (blocks begin_ P (mm / 64) = s) := ⟨_, ⟨rfl⟩⟩
  rw [hs.out] at hG7
  have hsha : Held (sha l = out s) := ⟨by rw [sha, hPd.out, hPl, hs.out]⟩
  have hH7 := hH.ext hx7
  clear hs hPd hPl
  have hHs := hH7.lt
  have hbO := hx7.size
  have hthere : (w7.alloc (.cells z32 25)).there w7.heap.size 0 z32.size := fun j hj => by
    rw [Nat.zero_add]
    exact ⟨by rw [(Blk.new w7 z32 25).cell j, Array.getElem?_eq_getElem hj]; rfl, (Blk.new w7 z32 25).frozen j⟩
  have hsz : (Tryd.prog.info? 25).map (·.size) = some z32.size := by kernel_rfl
  have hone : z32.all (·.oneCell') = true := by kernel_rfl
  go_wp2_with (refine wpList_store_mid rfl 25 (.tmp 20) (.tmp 295) rfl w7.heap.size 0 z32 rfl rfl hthere hsz hone ?_)
  obtain ⟨O, hOd⟩ : ∃ O, Held (w7.heap.size = O) := ⟨_, ⟨rfl⟩⟩
  have hG7l := hG7.lt
  generalize hw8 : World.setCells _ w7.heap.size 0 z32.toList = w8
  rw [hOd.out] at hw8 hG7l ⊢
  have hO8 : Blk w8 O (otab s 0) 25 := by
    have h := Blk_sets (u8s (List.replicate 32 0)) 0 _ _ (Blk.new w7 z32 25)
    rw [show setMany z32 0 (u8s (List.replicate 32 0)) = z32 from setMany_full _ [] (u8s (List.replicate 32 0)) rfl] at h
    rw [← hw8, otab_zero, ← hOd.out]
    exact h
  have hx8 : Ext w0 w8 := by rw [← hw8, ← hOd.out]; exact Ext_sets hbO _ 0 (hx7.alloc _)
  have hG8 : Blk w8 G (us s.list).toArray 44 := by rw [← hw8]; exact Blk_far (by omega) _ _ (hG7.alloc _)
  have hGO : G ≠ O := by omega
  have hbO8 : w0.heap.size ≤ O := by rw [← hOd.out]; exact hbO
  clear hw8 hthere hbO hOd hG7l hHs hH7 hG7 hx7 hone
  refine loop14 (wb := w0) (G := G) (O := O) (s := s) (hF := ⟨_, rfl, rfl⟩) (hx := hx8) (hG := hG8) (hO := hO8) (hGO := hGO) (hbO := hbO8) (hQ := ?_)
  clear hx8 hG8 hO8
  intro a9 w9 hF9 hO9 hx9
  obtain ⟨u9, rfl⟩ := lay315 hF9
  clear hF9 u7
  rw [otab_full] at hO9
  have hz := hH.ext hx9
  have hty : (Tryd.prog.info? 25).map (·.size) = some (u8s (out s)).length := by rw [u8s_length, out_length]; kernel_rfl
  have hld : ∀ j v, (u8s (out s))[j]? = some v → w9.cell? ⟨O, 0 + j, none⟩ = some v := fun j v hj => by rw [Nat.zero_add, hO9.cell j, List.getElem?_toArray]; exact hj
  have hth : w9.there w.heap.size 0 (u8s (out s)).toArray.size := fun j hj => by rw [Nat.zero_add]; exact ⟨by rw [hz.cell j, Array.getElem?_eq_getElem (by simpa [z32, u8s_length, out_length] using hj)]; rfl, hz.frozen j⟩
  have hty2 : (Tryd.prog.info? 25).map (·.size) = some (u8s (out s)).toArray.size := by rw [List.size_toArray]; exact hty
  have hone := all_oneCell_toArray (u8s_one (out s))
  go_wp2_with (first
    | refine wpList_load_mid rfl 25 (.tmp 20) rfl O 0 rfl (u8s (out s)) (.array 32 5) hld (by kernel_rfl) rfl hty ?_
    | refine wpList_store_mid rfl 25 (.tmp 2) (.tmp 314) rfl w.heap.size 0 (u8s (out s)).toArray rfl rfl hth hty2 hone ?_)
  have hz2 := Blk_sets (u8s (out s)) 0 _ _ hz
  rw [show setMany z32 0 (u8s (out s)) = (u8s (out s)).toArray from setMany_full _ [] (u8s (List.replicate 32 0)) (by rw [u8s_length, u8s_length, out_length]; rfl)] at hz2
  refine ⟨rfl, _, results_cell_row rfl _ _ w.heap.size 25 (u8s (out s)).toArray (0, 0) (.array 32 5) rfl hz2 (by kernel_rfl) rfl hty2, ?_, Ext_sets (Nat.le_refl _) _ 0 (hx0.trans hx9)⟩
  rw [hsha.out]
end Go.Proofs.YtdfgjmmdpbgodaaDoor.ShaW
