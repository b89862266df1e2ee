/- ids: the reference's Bind in pieces: the bounds put together. -/
import Derived.Test.YtalbjbcomamomaaIdsRefBd
namespace Go.Proofs.Ytalbjbcomamomaa.IdsW
open Go.ChangeShapes Go.WideShapes Go.ChangeAt Go.RowKit
open Base Mp Piece
set_option linter.unusedVariables false
set_option linter.unusedSimpArgs false

/-- where the loop stands -/
def RbAt (n p r f id : Nat) (v2 v3 v4 v5 v6 v7 v9 v10 v11 v12 v13 : Value) (bs : List (Nat × Nat)) (wb : World) (a : Act) (wv : World) : Prop := ∃ (k : Nat) (vo : Value), k ≤ n ∧ Fr 127 [.pointer (some ⟨r, 0, none⟩), .int .u64 f, v2, v3, v4, v5, v6, v7, .int .u64 id, v9, v10, v11, v12, v13, vo, .bool (decide (p < k)), .int .i64 k] a ∧ wv.ownsRow wb.heap.size 43 2 vo (outAt bs p (f, id) k).length (bnds (outAt bs p (f, id) k)) ∧ Ext wb wv
theorem RbAt.mk {n p r f id : Nat} {v2 v3 v4 v5 v6 v7 v9 v10 v11 v12 v13 : Value} {bs : List (Nat × Nat)} {wb : World} {a : Act} {wv : World} (k : Nat) (vo : Value) (h1 : k ≤ n) (h2 : Fr 127 [.pointer (some ⟨r, 0, none⟩), .int .u64 f, v2, v3, v4, v5, v6, v7, .int .u64 id, v9, v10, v11, v12, v13, vo, .bool (decide (p < k)), .int .i64 k] a) (h3 : wv.ownsRow wb.heap.size 43 2 vo (outAt bs p (f, id) k).length (bnds (outAt bs p (f, id) k))) (h4 : Ext wb wv) : RbAt n p r f id v2 v3 v4 v5 v6 v7 v9 v10 v11 v12 v13 bs wb a wv := ⟨k, vo, h1, h2, h3, h4⟩
set_option maxRecDepth 1000000 in
set_option maxHeartbeats 4000000 in
theorem rb2 {Q : Exit → Act → World → Prop} (v2 v3 v4 v5 v6 v7 v9 v10 v11 v12 v13 : Value) (a : Act) (wb wa : World) {B r lim id f p n : Nat} {ts : List ByteArray} {bs : List (Nat × Nat)} {vl vb vo : Value} (h : Rt B wb r lim ts bs vl vb) (hn : bs.length = n) (hl : n ≤ 999) (hp : p ≤ n)
    (hp1 : ∀ (j : Nat) x, bs[j]? = some x → j < p → x.1 < f) (hp2 : ∀ (j : Nat) x, bs[j]? = some x → p ≤ j → f < x.1)
    (ho : wa.ownsRow wb.heap.size 43 2 vo 0 []) (hx : Ext wb wa)
    (hF : Fr 127 [.pointer (some ⟨r, 0, none⟩), .int .u64 f, v2, v3, v4, v5, v6, v7, .int .u64 id, v9, v10, v11, v12, v13, vo, .bool false, .int .i64 0] a)
    (hQ : ∀ a' w' vo', Fr 127 [.pointer (some ⟨r, 0, none⟩), .int .u64 f, v2, v3, v4, v5, v6, v7, .int .u64 id, v9, v10, v11, v12, v13, vo', .bool (decide (p < n)), .int .i64 n] a' → w'.ownsRow wb.heap.size 43 2 vo' (outAt bs p (f, id) n).length (bnds (outAt bs p (f, id) n)) → Ext wb w' → Q (.exit 2) a' w') :
    (Code.loop (rbBody 2)).wp Try.prog Q a wa := by
  have Hn := Lib.hid hn
  obtain ⟨A, c, rfl, hrd, hc1, hc2⟩ := h.vb_eq
  have hcl : ∀ W, Ext wb W → W.cell? ⟨r, 2, none⟩ = some (.slice A n c) := fun W hW => by rw [← Hn.out]; exact (h.ext hW).cells.2.2
  clear hn
  have e0 : outAt bs p (f, id) 0 = [] := by simp [outAt]
  have ho0 : wa.ownsRow wb.heap.size 43 2 vo (outAt bs p (f, id) 0).length (bnds (outAt bs p (f, id) 0)) := by rw [e0]; exact ho
  refine wp_loop (RbAt n p r f id v2 v3 v4 v5 v6 v7 v9 v10 v11 v12 v13 bs wb) (fun a _ => (n - intO (a.tmps.getD 16 undef)).toNat)
    (RbAt.mk 0 vo (Nat.zero_le _) (by rw [show decide (p < 0) = false by simp]; exact hF) ho0 hx) ?_
  clear hF ho ho0 e0 hx a wa vo
  rintro a wr ⟨k, vo, hk, hF, ho, hx⟩
  obtain ⟨u, rfl⟩ := lay127 hF
  clear hF
  conv => arg 2; whnf
  obtain ⟨Ao, co, rfl, _, _, _, _⟩ := Rd.of_own ho
  have hlr := hcl wr hx
  by_cases hlt : k < n
  · clear hQ
    obtain ⟨x, hxe⟩ : ∃ x, bs[k]? = some x := ⟨_, List.getElem?_eq_getElem (by have := Hn.out; omega)⟩
    obtain ⟨b, off, rfl⟩ := bnds_some hrd (by have := Hn.out; omega)
    have hcs : ∀ W, Ext wb W → W.cell? ⟨b, off + k * 2, none⟩ = some (.int .u64 (x.1 : Int)) ∧ W.cell? ⟨b, off + k * 2 + 1, none⟩ = some (.int .u64 (x.2 : Int)) := fun W hW => bnds_cell (hrd.ext hW) k x hxe
    obtain ⟨c1, c2⟩ := hcs wr hx
    have hkn : (k : Int) < (n : Int) := by omega
    obtain ⟨m, hm⟩ : ∃ m, Hid ((outAt bs p (f, id) k).length = m) := ⟨_, rfl⟩
    have hm1 : m ≤ 1000 := by rw [← hm.out, outAt_len (by have := Hn.out; omega)]; split <;> omega
    rw [hm.out] at ho ⊢
    have hsz := hx.size
    by_cases hkp : k = p
    · subst hkp
      have hin : decide (k < k) = false := by simp
      have hgt : (f : Int) < (x.1 : Int) := by have := hp2 k x hxe (Nat.le_refl _); omega
      have hoe := outAt_at (y := (f, id)) hxe
      have hz : ∀ y : Nat × Nat, Rd (wr.alloc (.cells #[.int .u64 (y.1 : Int), .int .u64 (y.2 : Int)] 43)) (some ⟨wr.heap.size, 0, none⟩) (bnds [y]) := fun y => Rd.of_block wr 43 (0, 0) rfl
      go_wp2_with (first
        | (refine wpList_app el_bnd _ rfl (.tmp 98) (.tmp 102) rfl wb.heap.size (.slice Ao m co) m (bnds (outAt bs k (f, id) k)) rfl (own_ext ho ((Ext.refl wr).alloc _)) (some ⟨wr.heap.size, 0, none⟩) 1 1 (bnds [(f, id)]) rfl (hz (f, id)) rfl (fun h => by cases h) (bnds_one _) (by omega) (by omega) (by simp; omega) (fun V1 w1 ho1 hg1 hv1 => ?_)
           have hx1 : Ext wb w1 := (hx.alloc _).then_grown hg1 (fun k hk => (ho.lt k hk).1)
           have hlr1 := hcl w1 hx1
           obtain ⟨d1, d2⟩ := hcs w1 hx1)
        | (refine wpList_app el_bnd _ rfl (.tmp 104) (.tmp 112) rfl wb.heap.size V1 (m + 1) _ rfl (own_ext ho1 ((Ext.refl w1).alloc _)) (some ⟨w1.heap.size, 0, none⟩) 1 1 (bnds [x]) rfl (Rd.of_block w1 43 (0, 0) rfl) rfl (fun h => by cases h) (bnds_one _) (by omega) (by omega) (by have := hx1.size; simp; omega) (fun V2 w2 ho2 hg2 hv2 => ?_)))
      have hx2 : Ext wb w2 := (hx1.alloc _).then_grown hg2 (fun k hk => (ho1.lt k hk).1)
      have hlen : (outAt bs k (f, id) (k + 1)).length = m + 1 + 1 := by rw [hoe]; simp; exact hm.out
      have ho3 : w2.ownsRow wb.heap.size 43 2 V2 (outAt bs k (f, id) (k + 1)).length (bnds (outAt bs k (f, id) (k + 1))) := by rw [hlen, hoe, bnds_append, bnds_append]; exact ho2
      refine ⟨RbAt.mk (k + 1) V2 (by omega) ⟨_, rfl, by rw [show decide (k < k + 1) = true by simp]; go_num⟩ ho3 hx2, ?_⟩
      simp [intO]; omega
    · rcases Nat.lt_or_ge k p with hlo | hhi
      · have hin : decide (p < k) = false := by simp; omega
        have hin2 : decide (p < k + 1) = false := by simp; omega
        have hng : ¬ (f : Int) < (x.1 : Int) := by have := hp1 k x hxe hlo; omega
        have hoe := outAt_lo (y := (f, id)) hxe hlo
        go_wp2_with (
          refine wpList_app el_bnd _ rfl (.tmp 104) (.tmp 112) rfl wb.heap.size (.slice Ao m co) m (bnds (outAt bs p (f, id) k)) rfl (own_ext ho ((Ext.refl wr).alloc _)) (some ⟨wr.heap.size, 0, none⟩) 1 1 (bnds [x]) rfl (Rd.of_block wr 43 (0, 0) rfl) rfl (fun h => by cases h) (bnds_one _) (by omega) (by omega) (by simp; omega) (fun V2 w2 ho2 hg2 hv2 => ?_))
        have hx2 : Ext wb w2 := (hx.alloc _).then_grown hg2 (fun k hk => (ho.lt k hk).1)
        have hlen : (outAt bs p (f, id) (k + 1)).length = m + 1 := by rw [hoe]; simp; exact hm.out
        have ho3 : w2.ownsRow wb.heap.size 43 2 V2 (outAt bs p (f, id) (k + 1)).length (bnds (outAt bs p (f, id) (k + 1))) := by rw [hlen, hoe, bnds_append]; exact ho2
        refine ⟨RbAt.mk (k + 1) V2 (by omega) ⟨_, rfl, by rw [hin2]; go_num⟩ ho3 hx2, ?_⟩
        simp [intO]; omega
      · have hin : decide (p < k) = true := by simp; omega
        have hin2 : decide (p < k + 1) = true := by simp; omega
        have hoe := outAt_hi (p := p) (y := (f, id)) hxe (by omega)
        go_wp2_with (
          refine wpList_app el_bnd _ rfl (.tmp 104) (.tmp 112) rfl wb.heap.size (.slice Ao m co) m (bnds (outAt bs p (f, id) k)) rfl (own_ext ho ((Ext.refl wr).alloc _)) (some ⟨wr.heap.size, 0, none⟩) 1 1 (bnds [x]) rfl (Rd.of_block wr 43 (0, 0) rfl) rfl (fun h => by cases h) (bnds_one _) (by omega) (by omega) (by simp; omega) (fun V2 w2 ho2 hg2 hv2 => ?_))
        have hx2 : Ext wb w2 := (hx.alloc _).then_grown hg2 (fun k hk => (ho.lt k hk).1)
        have hlen : (outAt bs p (f, id) (k + 1)).length = m + 1 := by rw [hoe]; simp; exact hm.out
        have ho3 : w2.ownsRow wb.heap.size 43 2 V2 (outAt bs p (f, id) (k + 1)).length (bnds (outAt bs p (f, id) (k + 1))) := by rw [hlen, hoe, bnds_append]; exact ho2
        refine ⟨RbAt.mk (k + 1) V2 (by omega) ⟨_, rfl, by rw [hin2]; go_num⟩ ho3 hx2, ?_⟩
        simp [intO]; omega
  · obtain rfl : k = n := by omega
    clear hlt
    go_wp2_with fail
    exact hQ _ _ _ ⟨_, rfl, rfl⟩ ho hx
end Go.Proofs.Ytalbjbcomamomaa.IdsW
