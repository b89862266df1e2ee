/- sha: the hash of bytes at once; the laws' helpers. -/
import Derived.Test.YtdfgjmmdpbgodaaDoorShaSum
namespace Go.Proofs.YtdfgjmmdpbgodaaDoor.ShaW
open Go.ChangeShapes Go.WideShapes Go.ChangeAt Go.RowKit
open ShaP Base
set_option linter.unusedVariables false
set_option linter.unusedSimpArgs false

/-- the two tables stand -/
structure Tabs (w : World) : Prop where
  first : ∀ j v, (us first)[j]? = some v → w.cell? ⟨0, j, none⟩ = some v
  roots : ∀ j v, (us roots)[j]? = some v → w.cell? ⟨1, j, none⟩ = some v
theorem Tabs.ext {w w' : World} (h : Tabs w) (hx : Ext w w') : Tabs w' := ⟨fun j v e => hx.cell (h.first j v e), fun j v e => hx.cell (h.roots j v e)⟩
theorem Tabs.lt {w : World} (h : Tabs w) : 1 < w.heap.size := World.block_lt_of_cell? w ⟨1, 0, none⟩ (h.roots 0 _ rfl)
theorem Tabs.chg {S : Nat → Prop} {w w' : World} (h : Tabs w) (hx : Chg S w w') (hS : ∀ k, S k → 1 < k) : Tabs w' :=
  ⟨fun j v e => hx.cell (h.first j v e) (fun s => by have : 1 < 0 := hS _ s; omega), fun j v e => hx.cell (h.roots j v e) (fun s => by have : 1 < 1 := hS _ s; omega)⟩

/-- storing the whole of a hash into its cell -/
theorem sum_store (s : ShaP.St) : (u8s (out s)).length = 32 := by rw [u8s_length, out_length]
theorem sha_length (m : List UInt8) : (sha m).length = 32 := out_length _
theorem sum_cells (m : List UInt8) {w : World} {g : Nat} (hz : Blk w g z32 25) : Blk (w.setCells g 0 (u8s (sha m))) g (u8s (sha m)).toArray 25 := by
  have hz2 := Blk_sets (u8s (sha m)) 0 _ _ hz
  rwa [show setMany z32 0 (u8s (sha m)) = (u8s (sha m)).toArray from setMany_full _ [] (u8s (List.replicate 32 0)) (by rw [u8s_length, u8s_length, sha_length]; rfl)] at hz2
theorem sum_there {w : World} {g : Nat} (hz : Blk w g z32 25) (m : List UInt8) : w.there g 0 (u8s (sha m)).toArray.size := fun j hj => by
  rw [Nat.zero_add]
  exact ⟨by rw [hz.cell j, Array.getElem?_eq_getElem (by simpa [z32, u8s_length, sha_length] using hj)]; rfl, hz.frozen j⟩
theorem sum_info (m : List UInt8) : (Tryd.prog.info? 25).map (·.size) = some (u8s (sha m)).toArray.size := by rw [List.size_toArray, u8s_length, sha_length]; kernel_rfl

set_option maxHeartbeats 1000000 in
theorem sumTop_any (w : World) (A : Option Addr) (c : Nat) (l : List UInt8) (ht : Tabs w) (hr : Rb w A l) (hA : A = none → c = 0) (hAw : ∀ a, A = some a → a.block < w.heap.size) (hl : l.length ≤ 140737488351232) :
    Calls Tryd.prog 8 #[.slice A l.length c] w fun e w' => e = .returned (.agg (u8s (sha l)).toArray) ∧ Ext w w' := by
  obtain ⟨N, hN⟩ : ∃ x, Held (l.length = x) := ⟨_, ⟨rfl⟩⟩
  have Hl := Lib.hid hl
  clear hl
  rw [hN.out]
  go_enter Tryd.func8, Tryd.ntmps8
  go_wp2_with fail
  generalize hw0 : World.alloc w _ = w0
  have hz0 : Blk w0 w.heap.size z32 25 := by rw [← hw0]; exact Blk.new w z32 _
  have hx0 : Ext w w0 := by rw [← hw0]; exact (Ext.refl w).alloc _
  have hs0 : w0.heap.size = w.heap.size + 1 := by rw [← hw0]; simp
  clear hw0
  refine (new_any w0 (ht.ext hx0).first).mono ?_
  rintro e w1 ⟨rfl, h1, hx1⟩
  have hw := write_any w1 w0.heap.size none [] l A c ((ht.ext hx0).ext hx1).roots h1 (hr.ext (hx0.trans hx1)) hA (fun a ha e => by have := hAw a ha; omega) Hl.out (by have := ht.lt; omega) (by simp)
  rw [hN.out] at hw
  rw [hs0] at hw h1 ⊢
  go_wp2_with fail
  refine hw.mono ?_
  rintro e w2 ⟨rfl, lb', h2, _, hc2⟩
  have hx2 : Ext w w2 := (hx0.trans hx1).chg hc2 (fun i hi e => by rcases e with e | e; omega; cases e)
  have hz2 := hc2.blk ((hz0.ext hx1)) (fun e => by rcases e with e | e; omega; cases e)
  have hsum := sum_any w2 (w.heap.size + 1) lb' ([] ++ l) (ht.ext hx2).roots h2 (by have := ht.lt; have := hx2.size; omega)
  rw [List.nil_append] at hsum
  clear hw
  go_wp2_with fail
  refine hsum.mono ?_
  rintro e w3 ⟨rfl, hx3⟩
  have hz3 := hz2.ext hx3
  go_wp2_with (refine wpList_store_mid rfl 25 (.tmp 2) (.tmp 9) rfl w.heap.size 0 (u8s (sha l)).toArray rfl rfl (sum_there hz3 l) (sum_info l) (all_oneCell_toArray (u8s_one _)) ?_)
  refine ⟨rfl, _, results_cell_row rfl _ _ w.heap.size 25 (u8s (sha l)).toArray (0, 0) (.array 32 5) rfl (sum_cells l hz3) (by kernel_rfl) rfl (sum_info l), rfl, Ext_sets (Nat.le_refl _) _ 0 (hx2.trans hx3)⟩

set_option maxHeartbeats 400000 in
theorem own_any (A : Option Addr) (c : Nat) (l : List UInt8) (w : World) (hn : l.length ≤ 140737488351232) (hA : A = none → c = 0) (hr : Rb w A l) :
    Calls Tryd.prog 9 #[.slice A l.length c] w fun e w' => ∃ A' c', e = .returned (.slice A' l.length c') ∧ OwnS w' (.slice A' l.length c') (u8s l) ∧ (∀ a, A' = some a → w.heap.size ≤ a.block ∧ a.block < w'.heap.size) ∧ Ext w w' := by
  obtain ⟨N, hN⟩ : ∃ x, Held (l.length = x) := ⟨_, ⟨rfl⟩⟩
  have Hn := Lib.hid hn
  clear hn
  rw [hN.out]
  have HA := Lib.hid hA
  clear hA
  go_enter Tryd.func9, Tryd.ntmps9
  go_wp2_with (
    refine wpList_oapp el_u8 _ rfl (.tmp 3) (.tmp 4) rfl (.slice (some ⟨w.heap.size, 0, none⟩) 0 0) [] rfl (OwnS.zero _ _) (fun _ h => by cases h) A N c (u8s l) rfl (Rd.ext hr ((Ext.refl _).alloc _)) (by rw [u8s_length, hN.out]) HA.out (u8s_one l) (by have := Hn.out; rw [← hN.out]; simp; omega) (by omega) (fun v1 w1 ho1 hg1 hv1 => ?_)
    rw [List.nil_append] at ho1
    obtain ⟨A1, c1, rfl, _⟩ := ho1.rd
    rw [u8s_length, hN.out] at ho1 hv1
    rw [u8s_length, hN.out])
  go_ret
  have hs := hg1.size
  simp only [World.size_alloc] at hs
  refine ⟨A1, c1, rfl, ho1, ?_, ((Ext.refl w).alloc _).then_grown hg1 (fun k hk => by have h : w.heap.size = k := (by simpa [Value.ownBlock] using hk); omega)⟩
  rintro a rfl
  rcases hv1 with e | ⟨e, e2⟩
  · have e : a.block = w.heap.size := by simpa [Value.ownBlock] using e
    omega
  · have e : a.block = w.heap.size + 1 := by simpa [Value.ownBlock] using e
    simp only [World.size_alloc] at e2
    omega

theorem least_any (a b : Int) (w : World) : Calls Tryd.prog 14 #[.int .i64 a, .int .i64 b] w fun e w' => e = .returned (.int .i64 (min a b)) ∧ w' = w := by
  go_enter Tryd.func14, Tryd.ntmps14
  by_cases h : a < b
  · go_wp2_with fail
    go_ret
    exact ⟨by rw [Int.min_eq_left (by omega)]; rfl, rfl⟩
  · go_wp2_with fail
    go_ret
    exact ⟨by rw [Int.min_eq_right (by omega)]; rfl, rfl⟩

theorem lives_cells : (u8s (sha [97, 98, 99]))[0]? = some (.int .u8 186) ∧ (u8s (sha [97, 98, 99]))[1]? = some (.int .u8 120) ∧ (u8s (sha [97, 98, 99]))[31]? = some (.int .u8 173) := by
  have h : (sha [97, 98, 99])[0]? = some 186 ∧ (sha [97, 98, 99])[1]? = some 120 ∧ (sha [97, 98, 99])[31]? = some 173 := by decide +kernel
  simp only [u8s, List.getElem?_map, h.1, h.2.1, h.2.2]
  exact ⟨rfl, rfl, rfl⟩

set_option maxHeartbeats 400000 in
theorem lives_any (w : World) (ht : Tabs w) : Calls Tryd.prog 7 #[] w fun e w' => e = .returned (.bool true) ∧ Ext w w' := by
  have kc := fun (w : World) (C : Array Value) (n c : Nat) => Lib.run_convert_bytes_const (P := Tryd.prog) w 22 5 C n c Tryd.underlying22 Tryd.underlying5
  obtain ⟨L, hL⟩ : ∃ x, Held ((sha [97, 98, 99]) = x) := ⟨_, ⟨rfl⟩⟩
  have hLl : L.length = 32 := by rw [← hL.out]; exact sha_length _
  have hc := lives_cells
  rw [hL.out] at hc
  obtain ⟨l0, l1, l31⟩ := hc
  go_enter Tryd.func7, Tryd.ntmps7
  go_wp2_with fail
  refine (sumTop_any _ _ _ [97, 98, 99] (ht.ext ((Ext.refl w).alloc _)) (Rd.of_block _ _ _ rfl) (fun h => by cases h) (fun a ha => by injection ha with ha; subst ha; simp) (by decide)).mono ?_
  rintro e w1 ⟨rfl, hx⟩
  rw [hL.out]
  have hz := Blk.new w1 z32 25
  have hb := sum_cells [97, 98, 99] hz
  have hth := sum_there hz [97, 98, 99]
  have hin := sum_info [97, 98, 99]
  rw [hL.out] at hb hth hin
  go_wp2_with (
    refine wpList_store_mid rfl 25 (.tmp 1) (.tmp 4) rfl w1.heap.size 0 (u8s L).toArray rfl rfl hth hin (all_oneCell_toArray (u8s_one _)) ?_
    generalize hW : World.setCells _ _ _ _ = W
    have hxW : Ext w1 W := by rw [← hW]; exact Ext_sets (Nat.le_refl _) _ 0 ((Ext.refl w1).alloc _)
    replace hb : Blk W w1.heap.size (u8s L).toArray 25 := by rw [← hW]; exact hb
    clear hW
    have e0 : W.cell? ⟨w1.heap.size, 0, none⟩ = some (.int .u8 186) := (hb.cell 0).trans (by rw [List.getElem?_toArray]; exact l0)
    have e1 : W.cell? ⟨w1.heap.size, 1, none⟩ = some (.int .u8 120) := (hb.cell 1).trans (by rw [List.getElem?_toArray]; exact l1)
    have e31 : W.cell? ⟨w1.heap.size, 31, none⟩ = some (.int .u8 173) := (hb.cell 31).trans (by rw [List.getElem?_toArray]; exact l31))
  go_ret
  exact ⟨rfl, (((Ext.refl w).alloc _).trans hx).trans hxW⟩
end Go.Proofs.YtdfgjmmdpbgodaaDoor.ShaW
