/- sha: the reference's Sum in pieces: the blocks. -/
import Derived.Test.YtdfgjmmdpbgodaaDoorShaRefB
import Derived.Test.YtdfgjmmdpbgodaaDoorShaRefC
import Derived.Test.YtdfgjmmdpbgodaaDoorShaRefE
namespace Go.Proofs.YtdfgjmmdpbgodaaDoor.ShaW
open Go.ChangeShapes Go.WideShapes Go.ChangeAt Go.RowKit
open ShaP Base Piece
set_option linter.unusedVariables false
set_option linter.unusedSimpArgs false

set_option maxRecDepth 1000000 in
set_option maxHeartbeats 8000000 in
theorem loop4 {Q : Exit → Act → World → Prop} (v0 v1 v2 v6 v8 v9 v10 v11 v12 v13 v14 v15 v16 v17 v18 v19 v20 v21 : Value) (a : Act) (wb wa : World) (AK A5 : Option Addr) (cK mm cm G : Nat) (R : List (BitVec 32)) (L : List UInt8)
    (hR : Hid (roots = R)) (hRl : R.length = 64) (hr : Rb wa A5 L) (hl : L.length = mm) (hmc : mm ≤ cm) (hmm : mm ≤ 5000) (h64 : mm % 64 = 0)
    (hF : Fr 315 [v0, v1, v2, .slice (some ⟨G, 0, none⟩) 8 8, .slice AK 64 cK, .slice A5 mm cm, v6, .int .i64 0, v8, v9, v10, v11, v12, v13, v14, v15, v16, v17, v18, v19, v20, v21] a) (hx : Ext wb wa) (hG : Blk wa G (us begin_.list).toArray 44) (hK : Rd wa AK (us R))
    (hKG : ∀ p, AK = some p → p.block ≠ G) (h5G : ∀ p, A5 = some p → p.block ≠ G) (hbG : wb.heap.size ≤ G)
    (hP : ∀ c a a2 w, Q (.panic c) a w → Q (.panic c) a2 w)
    (hQ : ∀ a' w' x7 x8 x9 x10 x11 x12 x13 x14 x15 x16 x17 x18 x19, Fr 315 [v0, v1, v2, .slice (some ⟨G, 0, none⟩) 8 8, .slice AK 64 cK, .slice A5 mm cm, v6, x7, x8, x9, x10, x11, x12, x13, x14, x15, x16, x17, x18, x19, v20, v21] a' → Blk w' G (us (blocks begin_ L (mm / 64)).list).toArray 44 → Ext wb w' → Q (.exit 4) a' w') :
    (Code.loop (refBody 4)).wp Tryd.prog Q a wa := by
  obtain ⟨N4, hN4⟩ : ∃ N, Held (mm / 64 = N) := ⟨_, ⟨rfl⟩⟩
  rw [hN4.out] at hQ
  obtain ⟨wq, hwq⟩ : ∃ wq, wq = wa := ⟨_, rfl⟩
  refine wp_loop (fun a wv => ∃ (j : Nat) (x8 x9 x10 x11 x12 x13 x14 x15 x16 x17 x18 x19 : Value), 64 * j ≤ mm ∧ Fr 315 [v0, v1, v2, .slice (some ⟨G, 0, none⟩) 8 8, .slice AK 64 cK, .slice A5 mm cm, v6, .int .i64 ((64 * j : Nat) : Int), x8, x9, x10, x11, x12, x13, x14, x15, x16, x17, x18, x19, v20, v21] a ∧ Blk wv G (us (blocks begin_ L j).list).toArray 44 ∧ wq.grownBy wv (some G)) (fun a _ => mm - (intOf (a.tmps.getD 7 undef)).toNat) ⟨0, v8, v9, v10, v11, v12, v13, v14, v15, v16, v17, v18, v19, by omega, hF, hG, by rw [hwq]; exact World.grownBy.refl _ _⟩ ?_
  rw [← hwq] at hr hK hx
  clear hF hG hwq a wa
  rintro a w ⟨j, x8, x9, x10, x11, x12, x13, x14, x15, x16, x17, x18, x19, hj, hF, hG, hgr⟩
  obtain ⟨u, rfl⟩ := lay315 hF
  clear hF
  conv => arg 2; whnf
  obtain ⟨at_, hat⟩ : ∃ x, Held (64 * j = x) := ⟨_, ⟨rfl⟩⟩
  rw [hat.out] at hj ⊢
  have hxw : Ext wb w := hx.then_grown hgr (fun k hk => by injection hk with hk; omega)
  by_cases hlt : at_ < mm
  · clear hQ
    have hlt' : (at_ : Int) < (mm : Int) := by omega
    have hat64 : at_ + 64 ≤ mm := by have := hat.out; omega
    have hrw : Rb w A5 L := Rd.chg hr (Chg.ofGrown hgr) (fun p hp e => by injection e with e; exact h5G p hp e.symm)
    have hKw : Rd w AK (us R) := Rd.chg hK (Chg.ofGrown hgr) (fun p hp e => by injection e with e; exact hKG p hp e.symm)
    obtain ⟨ch, hch⟩ : ∃ ch, Held ((L.drop at_).take 64 = ch) := ⟨_, ⟨rfl⟩⟩
    have hat8 : ∀ i, i < 64 → at8 L (at_ + i) = at8 ch i := fun i hi => by
      rw [← hch.out]; simp [at8, List.getD, List.getElem?_take, hi]
    obtain ⟨s, hs⟩ : ∃ s, Held (blocks begin_ L j = s) := ⟨_, ⟨rfl⟩⟩
    obtain ⟨Ws, hWs⟩ : ∃ x, Held (sch ch 64 = x) := ⟨_, ⟨rfl⟩⟩
    obtain ⟨N, hN⟩ : ∃ N : Nat, Held (N = 64) := ⟨64, ⟨rfl⟩⟩
    have hWl : Ws.length = 64 := by rw [← hWs.out, sch_length]
    have hnext : Held (blocks begin_ L (j + 1) = s.plus (rounds s Ws N)) := ⟨by rw [blocks_succ L j begin_ L, hs.out, hat.out, hch.out, block, hWs.out, hN.out]⟩
    rw [hs.out] at hG
    go_wp2_with fail
    refine loop6 (w := w) (hr := hrw) (hl := hl) (hmc := hmc) (hat := hat64) (hmm := hmm) (hch := hat8) (hF := ⟨_, rfl, rfl⟩) (hx := (Ext.refl w).alloc _) (ho := OwnS.zero _ _) (hb := fun k hk => by injection hk with hk; rw [← hk]; exact Nat.le_refl _) (hP := ?_) (hQ := ?_)
    · exact fun c a a2 w h => hP c a a2 w h
    intro a2 w2 A8 c8 y10 hF2 ho2 hb2 hx2
    obtain ⟨u2, rfl⟩ := lay315 hF2
    clear hF2
    go_wp2_with fail
    refine loop8 (wb := w) (ch := ch) (hF := ⟨_, rfl, rfl⟩) (hx := hx2) (ho := ho2) (hb := hb2) (hP := ?_) (hQ := ?_)
    · exact fun c a a2 w h => hP c a a2 w h
    clear ho2 hb2 hx2
    intro a3 w3 A8 c8 y12 y13 y14 hF3 ho3 hb3 hx3
    obtain ⟨u3, rfl⟩ := lay315 hF3
    clear hF3 u2
    rw [hWs.out] at ho3
    obtain ⟨A8', c8', e8, hrd8, _⟩ := ho3.rd
    injection e8 with e1 e2 e3
    subst e1; subst e3
    clear e2 ho3 hb3 hat8 hrw
    have hG3 := hG.ext hx3
    have hsG : Rd (w3.alloc (.cells #[] 44)) (some ⟨G, 0, none⟩) (us s.list) := fun _ => ⟨G, 0, rfl, fun i v hi => by
      rw [Nat.zero_add, (hG3.alloc _).cell i, List.getElem?_toArray, hi]⟩
    obtain ⟨AG, hAG⟩ : ∃ A, Held (some (⟨G, 0, none⟩ : Addr) = A) := ⟨_, ⟨rfl⟩⟩
    obtain ⟨n8, hn8⟩ : ∃ n : Nat, Held (8 = n) := ⟨_, ⟨rfl⟩⟩
    have hVS : Value.slice (some ⟨G, 0, none⟩) 8 8 = Value.slice AG n8 n8 := by rw [hAG.out, ← hn8.out]
    rw [hVS]
    clear hVS
    rw [hAG.out] at hsG
    go_wp2_with (refine wpList_oapp el_u32 _ rfl (.tmp 162) (.tmp 163) rfl (.slice (some ⟨w3.heap.size, 0, none⟩) 0 0) [] rfl (OwnS.zero _ _) (fun _ h => by cases h) AG n8 n8 (us s.list) rfl hsG hn8.out (fun h => by rw [← hAG.out] at h; cases h) (us_one _) (by have := hn8.out; simp; omega) (by omega) (fun V1 w4 ho4 hgr4 hv4 => ?_))
    rw [List.nil_append] at ho4
    have hx4 : Ext w w4 := (hx3.alloc _).then_grown hgr4 (fun k hk => by have hk : w3.heap.size = k := (by simpa [Value.ownBlock] using hk); have := hx3.size; omega)
    have hx34 : Ext w3 w4 := ((Ext.refl w3).alloc _).then_grown hgr4 (fun k hk => by have hk : w3.heap.size = k := (by simpa [Value.ownBlock] using hk); omega)
    have hb4 := own_ge (B := w.heap.size) hv4 (fun k hk => by have hk : w3.heap.size = k := (by simpa [Value.ownBlock] using hk); have := hx3.size; omega) (by simp; have := hx3.size; omega)
    clear hgr4 hv4 hsG
    obtain ⟨AV, cV, rfl, hrdV, _⟩ := ho4.rd
    rw [show (us s.list).length = 8 from rfl] at hb4 ⊢
    have hVb : ∀ p, AV = some p → w.heap.size ≤ p.block := fun p hp => hb4 p.block (by rw [hp]; rfl)
    clear ho4 hb4
    rw [← hAG.out, ← hn8.out]
    clear hn8 hAG
    refine loop10 (wb := w) (s := s) (R := R) (Ws := Ws) (N := N) (hN := hN.out) (hR := hR) (hRl := hRl) (hWl := hWl) (hF := ⟨_, rfl, rfl⟩) (hx := hx4) (hK := hKw.ext hx4) (hW := hrd8.ext hx34) (hV := hrdV) (hVb := hVb) (hP := ?_) (hQ := ?_)
    · exact fun c a a2 w h => hP c a a2 w h
    clear hrdV hVb hx4 hx34 hx3 hG3 hrd8
    intro a5 w5 AV cV y17 y18 hF5 hV5 hVb5 hx5
    obtain ⟨u5, rfl⟩ := lay315 hF5
    clear hF5 u3
    obtain ⟨t, ht⟩ : ∃ t, Held (rounds s Ws N = t) := ⟨_, ⟨rfl⟩⟩
    rw [ht.out] at hV5 hnext
    go_wp2_with fail
    refine loop12 (G := G) (s := s) (t := t) (hF := ⟨_, rfl, rfl⟩) (hG := hG.ext hx5) (hV := hV5) (hne := fun p hp e => by have := hVb5 p hp; have := hG.lt; omega) (hP := ?_) (hQ := ?_)
    · exact fun c a a2 w h => hP c a a2 w h
    clear hV5 hVb5
    intro a6 w6 hF6 hG6 hgr6
    obtain ⟨u6, rfl⟩ := lay315 hF6
    clear hF6 u5
    have hgw : wq.grownBy w6 (some G) := World.grownBy.trans (grown_ext hgr hx5) hgr6
    go_wp2_with fail
    have h64j : Held ((at_ : Int) + 64 = ((64 * (j + 1) : Nat) : Int)) := ⟨by have := hat.out; omega⟩
    rw [h64j.out]
    refine ⟨⟨j + 1, _, _, _, _, _, _, _, _, _, _, _, _, by have := hat.out; omega, ⟨_, rfl, rfl⟩, by rw [hnext.out]; exact hG6, hgw⟩, ?_⟩
    have := hat.out
    simp [intOf]
    omega
  · obtain rfl : j = N4 := by have := hat.out; have := hN4.out; omega
    have hlt' : ¬ (at_ : Int) < (mm : Int) := by omega
    go_wp2_with fail
    exact hQ _ _ _ _ _ _ _ _ _ _ _ _ _ _ _ ⟨_, rfl, rfl⟩ hG hxw
end Go.Proofs.YtdfgjmmdpbgodaaDoor.ShaW
