/- fault: At, Way, Root. -/
import Derived.Test.YtfdillopdfihfaaDoorFltTop
import Derived.Test.YtfdillopdfihfaaDoorOwn
namespace Go.Proofs.YtfdillopdfihfaaDoor.Flt
open Go.ChangeShapes Go.WideShapes Go.ChangeAt Go.RowKit Go.Extern.Stop Go.Stop Go.Extern
open Base
set_option linter.unusedVariables false
set_option linter.unusedSimpArgs false

theorem at_nil (s : ByteArray) (w : World) : Calls Tryd.prog 10 #[.string s, .nilIface] w fun e w' => e = .returned .nilIface ∧ Ext w w' := by
  have h := why_nil w
  go_enter Tryd.func10, Tryd.ntmps10
  go_wp2_with fail
  refine h.mono ?_
  rintro e w2 ⟨rfl, hx⟩
  go_wp2_with fail
  go_ret
  exact ⟨rfl, hx⟩
theorem at_any (s : ByteArray) (l : List ByteArray) (b : Bs) (w : World) (hg : Tab w) : Calls Tryd.prog 10 #[.string s, wrapV l b.v] w fun e w' => e = .returned (if b.why = 0 then .nilIface else wrapV (s :: l) b.v) ∧ Ext w w' := by
  have h := why_any l b w hg
  rw [wrapV]
  obtain ⟨T, V, hu⟩ := wrapV_iface l b
  rw [hu] at h ⊢
  clear hu
  obtain ⟨n, hn⟩ : ∃ n, Hid (b.why = n) := ⟨_, rfl⟩
  rw [hn.out] at h ⊢
  obtain ⟨R, hR⟩ : ∃ R, Hid ((if n = 0 then Value.nilIface else .iface 31 (.agg #[.string s, .iface T V])) = R) := ⟨_, rfl⟩
  rw [hR.out]
  go_enter Tryd.func10, Tryd.ntmps10
  go_wp2_with fail
  refine h.mono ?_
  rintro e w2 ⟨rfl, hx⟩
  by_cases h0 : n = 0
  · go_wp2_with fail
    go_ret
    exact ⟨by rw [← hR.out, if_pos h0]; rfl, hx⟩
  · go_wp2_with fail
    go_ret
    exact ⟨by rw [← hR.out, if_neg h0]; rfl, hx⟩
theorem own_gt {A : Option Addr} {n c B k : Nat} (hA : ∀ a, A = some a → B < a.block) (hk : (Value.slice A n c).ownBlock = some k) : B < k := by
  cases A with
  | none => cases hk
  | some a =>
    have := hA a rfl
    simp only [Value.ownBlock, Option.some.injEq] at hk
    omega
theorem own_ne {A : Option Addr} {n c B : Nat} (hA : ∀ a, A = some a → B < a.block) : ∀ k, (Value.slice A n c).ownBlock = some k → ¬ k = B := fun k hk e => by
  have := own_gt hA hk; omega
theorem el_str : El Tryd.prog 22 9 (.string ByteArray.empty) 1 16 := ⟨Tryd.underlying22, by kernel_rfl, rfl, by decide⟩
theorem way_any (l : List ByteArray) (b : Bs) (w : World) (hg : Tab w) (hl : l.length ≤ 1000) : Calls Tryd.prog 15 #[wrapV l b.v] w fun e w' => ∃ A c, e = .returned (.slice A l.length c) ∧ OwnS w' (.slice A l.length c) (txs l) ∧ (∀ a, A = some a → w.heap.size ≤ a.block) ∧ Ext w w' := by
  have Hl := Lib.hid hl
  clear hl
  obtain ⟨u, hu⟩ : ∃ u, Hid (wrapV l b.v = u) := ⟨_, rfl⟩
  rw [hu.out]
  have hz := Blk.new w #[.string ByteArray.empty, .nilIface] 31
  have hxa := (Ext.refl w).alloc (.cells #[.string ByteArray.empty, .nilIface] 31)
  obtain ⟨F, hF⟩ : ∃ x, Hid (w.heap.size = x) := ⟨_, rfl⟩
  go_enter Tryd.func15, Tryd.ntmps15
  go_wp2_with fail
  go_loopw [0, 3, 5, 6, 8, 9, 10, 11, 12, 13, 14] (fun v0 v3 v5 v6 v8 v9 v10 v11 v12 v13 v14 wv => ∃ (d r : List ByteArray) (A : Option Addr) (c : Nat) (x y : Value), l = d ++ r ∧ v0 = wrapV r b.v ∧ v3 = .slice A d.length c ∧ OwnS wv (.slice A d.length c) (txs d) ∧ (∀ a, A = some a → w.heap.size < a.block) ∧ Blk wv w.heap.size #[x, y] 31 ∧ Ext w wv) (fun v0 _ _ _ _ _ _ _ _ _ _ _ => SizeOf.sizeOf v0)
  case atStart => exact ⟨[], l, none, 0, _, _, rfl, hu.out.symm, rfl, OwnS.nil _, (fun a h => by cases h), hz, hxa⟩
  case round =>
    clear hz hxa
    obtain ⟨d, r, A, c, x, y, hdr, rfl, rfl, ho, hA, hz, hx⟩ := hrel
    have has := asF_top r b w.heap.size x y wr (hg.ext hx) hz
    obtain ⟨T, V, hV⟩ := wrapV_iface r b
    rw [hV] at has ⊢
    go_wp2_with fail
    refine has.mono ?_
    rintro e w2 h
    cases r with
    | nil =>
      obtain ⟨rfl, hx2⟩ := h
      have hd : d = l := by rw [hdr, List.append_nil]
      clear hdr has hV hz
      subst hd
      go_wp2_with fail
      go_ret
      exact ⟨A, c, rfl, ho.ext hx2, fun a ha => Nat.le_of_lt (hA a ha), hx.trans hx2⟩
    | cons s r =>
      obtain ⟨rfl, W, hW, rfl⟩ := h
      have hVm : Hid (SizeOf.sizeOf (wrapV r b.v) < SizeOf.sizeOf (Value.iface T V)) := by
        show _ < _
        rw [← hV, wrapV]; simp; omega
      clear has hV
      have hz3 := ((hz.ext hW).set 0 (.string s)).set 1 (wrapV r b.v)
      have hx3 : Ext w ((W.setCell ⟨w.heap.size, 0, none⟩ (.string s)).setCell ⟨w.heap.size, 1, none⟩ (wrapV r b.v)) := ((hx.trans hW).setCell (Nat.le_refl _) _).setCell (Nat.le_refl _) _
      have ho3 := ((ho.ext hW).keep (Chg.one W w.heap.size 0 (.string s)) (own_ne hA)).keep (Chg.one _ w.heap.size 1 (wrapV r b.v)) (own_ne hA)
      obtain ⟨T', V', hV'⟩ := wrapV_iface r b
      rw [hV'] at hz3 hx3 ho3 hVm ⊢
      obtain ⟨w3, hw3⟩ : ∃ x, (W.setCell ⟨w.heap.size, 0, none⟩ (.string s)).setCell ⟨w.heap.size, 1, none⟩ (.iface T' V') = x := ⟨_, rfl⟩
      rw [hw3] at hz3 hx3 ho3 ⊢
      clear hw3 hW ho hz hx
      have e0 : w3.cell? ⟨w.heap.size, 0, none⟩ = some (.string s) := hz3.cell 0
      have e1 : ∀ W', Ext w3 W' → W'.cell? ⟨w.heap.size, 1, none⟩ = some (.iface T' V') := fun W' h => (hz3.ext h).cell 1
      have hdl : d.length < 1000 := by have := Hl.out; rw [hdr, List.length_append, List.length_cons] at this; omega
      obtain ⟨nd, hnd⟩ : ∃ x, Hid (d.length = x) := ⟨_, rfl⟩
      rw [hnd.out] at ho3 ⊢
      go_wp2_with (
        refine wpList_oapp el_str _ rfl (.tmp 8) (.tmp 11) rfl (.slice A nd c) (txs d) rfl (ho3.ext ((Ext.refl w3).alloc _)) (txs_one _) (some ⟨w3.heap.size, 0, none⟩) 1 1 (txs [s]) rfl (Rd.of_block w3 9 (0, 0) rfl) rfl (fun h => by cases h) (txs_one _) (by rw [txs_length]; omega) (by omega) (fun v1 w4 ho4 hg4 hv4 => ?_)
        have hA4 : ∀ a, v1.ownBlock = some a → w.heap.size < a := fun a ha => by
          have hs3 := hz3.lt
          rcases hv4 with e | ⟨e, _⟩
          · rw [e] at ha; exact own_gt hA ha
          · rw [e] at ha; injection ha with ha; simp at ha; omega
        have hx4 : Ext w w4 := (hx3.alloc _).then_grown hg4 (fun k hk => Nat.le_of_lt (own_gt hA hk))
        have hz4 := (hz3.alloc (.cells #[.string s] 9)).grown hg4 (fun e => by have := own_gt hA e.symm; omega)
        have e1 : w4.cell? ⟨w.heap.size, 1, none⟩ = some (.iface T' V') := hz4.cell 1
        obtain ⟨A1, c1, rfl, _⟩ := ho4.rd
        clear hg4 hv4)
      have htx : txs d ++ txs [s] = txs (d ++ [s]) := by simp [txs]
      rw [htx, txs_length] at ho4
      refine ⟨⟨d ++ [s], r, A1, c1, .string s, .iface T' V', by rw [hdr, List.append_assoc]; rfl, hV'.symm, by simp [txs], ho4, fun a ha => hA4 a.block (by rw [ha]; rfl), hz4, hx4⟩, hVm.out⟩

theorem root_nil (w : World) : Calls Tryd.prog 16 #[.nilIface] w fun e w' => e = .returned .nilIface ∧ Ext w w' := by
  have hxa := (Ext.refl w).alloc (.cells #[.string ByteArray.empty, .nilIface] 31)
  have has := as_nil (.iface 33 (.pointer (some ⟨w.heap.size, 0, none⟩))) (w.alloc (.cells #[.string ByteArray.empty, .nilIface] 31))
  go_enter Tryd.func16, Tryd.ntmps16
  go_wp2_with fail
  go_loopw [0, 4, 5, 6, 7, 8] (fun v0 v4 v5 v6 v7 v8 wv => v0 = .nilIface ∧ wv = w.alloc (.cells #[.string ByteArray.empty, .nilIface] 31)) (fun _ _ _ _ _ _ _ => 0)
  case atStart => exact ⟨rfl, rfl⟩
  case round =>
    obtain ⟨rfl, rfl⟩ := hrel
    go_wp2_with fail
    refine has.mono ?_
    rintro e w2 ⟨rfl, hw2⟩
    go_wp2_with fail
    go_ret
    exact ⟨rfl, hxa⟩
theorem root_any (l : List ByteArray) (b : Bs) (w : World) (hg : Tab w) : Calls Tryd.prog 16 #[wrapV l b.v] w fun e w' => e = .returned b.v ∧ Ext w w' := by
  obtain ⟨u, hu⟩ : ∃ u, Hid (wrapV l b.v = u) := ⟨_, rfl⟩
  rw [hu.out]
  obtain ⟨B, hB⟩ : ∃ u, Hid (b.v = u) := ⟨_, rfl⟩
  rw [hB.out]
  have hz := Blk.new w #[.string ByteArray.empty, .nilIface] 31
  have hxa := (Ext.refl w).alloc (.cells #[.string ByteArray.empty, .nilIface] 31)
  go_enter Tryd.func16, Tryd.ntmps16
  go_wp2_with fail
  go_loopw [0, 4, 5, 6, 7, 8] (fun v0 v4 v5 v6 v7 v8 wv => ∃ (r : List ByteArray) (x y : Value), v0 = wrapV r b.v ∧ Blk wv w.heap.size #[x, y] 31 ∧ Ext w wv) (fun v0 _ _ _ _ _ _ => SizeOf.sizeOf v0)
  case atStart => exact ⟨l, _, _, hu.out.symm, hz, hxa⟩
  case round =>
    clear hz hxa
    obtain ⟨r, x, y, rfl, hz, hx⟩ := hrel
    have has := asF_top r b w.heap.size x y wr (hg.ext hx) hz
    obtain ⟨T, V, hV⟩ := wrapV_iface r b
    rw [hV] at has ⊢
    go_wp2_with fail
    refine has.mono ?_
    rintro e w2 h
    cases r with
    | nil =>
      obtain ⟨rfl, hx2⟩ := h
      have hB2 : Hid (Value.iface T V = B) := by show _ = _; rw [← hB.out, ← hV]; rfl
      clear has hV hz
      go_wp2_with fail
      go_ret
      exact ⟨by rw [← hB2.out]; rfl, hx.trans hx2⟩
    | cons s r =>
      obtain ⟨rfl, W, hW, rfl⟩ := h
      have hVm : Hid (SizeOf.sizeOf (wrapV r b.v) < SizeOf.sizeOf (Value.iface T V)) := by
        show _ < _
        rw [← hV, wrapV]; simp; omega
      clear has hV
      have hz3 := ((hz.ext hW).set 0 (.string s)).set 1 (wrapV r b.v)
      have hx3 : Ext w ((W.setCell ⟨w.heap.size, 0, none⟩ (.string s)).setCell ⟨w.heap.size, 1, none⟩ (wrapV r b.v)) := ((hx.trans hW).setCell (Nat.le_refl _) _).setCell (Nat.le_refl _) _
      obtain ⟨T', V', hV'⟩ := wrapV_iface r b
      rw [hV'] at hz3 hx3 hVm ⊢
      obtain ⟨w3, hw3⟩ : ∃ x, (W.setCell ⟨w.heap.size, 0, none⟩ (.string s)).setCell ⟨w.heap.size, 1, none⟩ (.iface T' V') = x := ⟨_, rfl⟩
      rw [hw3] at hz3 hx3 ⊢
      clear hw3 hW hz hx
      have e1 : w3.cell? ⟨w.heap.size, 1, none⟩ = some (.iface T' V') := hz3.cell 1
      go_wp2_with fail
      exact ⟨⟨r, _, _, hV'.symm, hz3, hx3⟩, hVm.out⟩
end Go.Proofs.YtfdillopdfihfaaDoor.Flt
