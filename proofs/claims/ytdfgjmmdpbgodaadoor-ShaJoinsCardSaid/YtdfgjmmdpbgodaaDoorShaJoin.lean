/- sha: Join, walked. -/
import Derived.Test.YtdfgjmmdpbgodaaDoorShaApi
namespace Go.Proofs.YtdfgjmmdpbgodaaDoor.ShaW
open Go.ChangeShapes Go.WideShapes Go.ChangeAt Go.RowKit
open ShaP Base
set_option linter.unusedVariables false
set_option linter.unusedSimpArgs false

theorem u8s_drop (l : List UInt8) (k : Nat) : u8s (l.drop k) = (u8s l).drop k := by simp [u8s]
theorem u8s_take (l : List UInt8) (k : Nat) : u8s (l.take k) = (u8s l).take k := by simp [u8s]
/-- a hash of a list of hashes that lie one behind the other -/
theorem sums_range {w : World} {b off : Nat} {F : List UInt8} (h : Rb w (some ⟨b, off, none⟩) F) (i : Nat) : ∀ j v, (u8s ((F.drop (i * 32)).take 32))[j]? = some v → w.cell? ⟨b, off + i * 32 + j, none⟩ = some v := fun j v hj => by
  rw [u8s_take, u8s_drop, List.getElem?_take] at hj
  split at hj
  · rw [List.getElem?_drop] at hj
    obtain ⟨b', off', e, hc⟩ := h (fun e => by rw [e] at hj; simp at hj)
    injection e with e
    injection e with e1 e2
    subst e1; subst e2
    rw [Nat.add_assoc]
    exact hc _ v hj
  · cases hj

set_option maxRecDepth 100000 in
set_option maxHeartbeats 2000000 in
theorem join_any (w : World) (A : Option Addr) (n c : Nat) (F : List UInt8) (ht : Tabs w) (hF : F.length = n * 32) (hr : Rb w A F) (hAw : ∀ a, A = some a → a.block < w.heap.size) (hn : n ≤ 60) :
    Calls Tryd.prog 15 #[.slice A n c] w fun e w' => e = .returned (.agg (u8s (sha F)).toArray) ∧ Ext w w' := by
  go_enter Tryd.func15, Tryd.ntmps15
  go_wp2_with fail
  generalize hw0 : World.alloc w _ = w0
  have hz0 : Blk w0 w.heap.size z32 25 := by rw [← hw0]; exact Blk.new w z32 _
  have hx0 : Ext w w0 := by rw [← hw0]; exact (Ext.refl w).alloc _
  have hs0 : w0.heap.size = w.heap.size + 1 := by rw [← hw0]; simp
  clear hw0
  refine (new_any w0 (ht.ext hx0).first).mono ?_
  rintro e w1 ⟨rfl, h1, hx1⟩
  rw [hs0] at h1 ⊢
  have hlt := ht.lt
  go_wp2_with fail
  go_loopw [9] (fun v9 wr => ∃ (i : Nat) (lb : Option Nat), i ≤ n ∧ v9 = .int .i64 i ∧ HInv wr (w.heap.size + 1) lb (F.take (i * 32)) ∧ (∀ k, lb = some k → w.heap.size + 1 < k) ∧ Ext w wr ∧ Blk wr w.heap.size z32 25) (fun v9 _ => n - (intOf v9).toNat)
  case atStart => exact ⟨0, none, by omega, rfl, by simpa using h1, fun k hk => by (cases hk), hx0.trans hx1, hz0.ext hx1⟩
  case round =>
    clear hx0 hx1 h1 hz0
    obtain ⟨i, lb, hi, rfl, hh, hlb, hx, hz⟩ := hrel
    by_cases hin : i < n
    · have hin' : (i : Int) < (n : Int) := by omega
      obtain ⟨b, off, rfl⟩ := hr.some_ (by omega)
      have hbw := hAw _ rfl
      have hrg := sums_range (hr.ext hx) i
      obtain ⟨C, hC⟩ : ∃ C, Held ((F.drop (i * 32)).take 32 = C) := ⟨_, ⟨rfl⟩⟩
      have hCl : C.length = 32 := by rw [← hC.out, List.length_take, List.length_drop]; omega
      have hnx : F.take ((i + 1) * 32) = F.take (i * 32) ++ C := by rw [← hC.out, Nat.add_mul, Nat.one_mul, List.take_add]
      rw [hC.out] at hrg
      obtain ⟨L, hL⟩ : ∃ L, Held (u8s C = L) := ⟨_, ⟨rfl⟩⟩
      rw [hL.out] at hrg
      have hLl : L.length = 32 := by rw [← hL.out, u8s_length, hCl]
      have hone : L.toArray.all (·.oneCell') = true := by rw [← hL.out]; exact all_oneCell_toArray (u8s_one _)
      have hty : (Tryd.prog.info? 25).map (·.size) = some L.length := by rw [hLl]; kernel_rfl
      have hty2 : (Tryd.prog.info? 25).map (·.size) = some L.toArray.size := by rw [List.size_toArray]; exact hty
      have hth : (wr.alloc (.cells z32 25)).there wr.heap.size 0 L.toArray.size := fun j hj => by
        rw [List.size_toArray, hLl] at hj
        have hj2 : j < z32.size := hj
        rw [Nat.zero_add]
        exact ⟨by rw [(Blk.new wr z32 25).cell j, Array.getElem?_eq_getElem hj2]; rfl, (Blk.new wr z32 25).frozen j⟩
      go_wp2_with (first
        | refine wpList_load_mid rfl 25 (.tmp 11) rfl b (off + i * 32) rfl L (.array 32 5) hrg (by kernel_rfl) rfl hty ?_
        | refine wpList_store_mid rfl 25 (.tmp 5) (.tmp 12) rfl wr.heap.size 0 L.toArray rfl rfl hth hty2 hone ?_)
      generalize hw8 : World.setCells _ wr.heap.size 0 _ = w8
      have hx8 : Ext wr w8 := by rw [← hw8]; exact Ext_sets (Nat.le_refl _) _ 0 ((Ext.refl wr).alloc _)
      have hb8 : Blk w8 wr.heap.size (u8s C).toArray 25 := by
        have h := Blk_sets (u8s C) 0 _ _ (Blk.new wr z32 25)
        rw [show setMany z32 0 (u8s C) = (u8s C).toArray from setMany_full _ [] (u8s (List.replicate 32 0)) (by rw [u8s_length, u8s_length, hCl]; rfl)] at h
        rw [← hw8]
        simp only [← hL.out, List.toList_toArray]
        exact h
      clear hw8 hth hrg hty hty2 hone
      have hr8 : Rb w8 (some ⟨wr.heap.size, 0, none⟩) C := fun _ => ⟨_, 0, rfl, fun j v hj => by rw [Nat.zero_add, hb8.cell j, List.getElem?_toArray]; exact hj⟩
      have hgl := hh.lt
      have hlb1 : lb ≠ some 1 := fun e => by have := hlb 1 e; omega
      have hcall := write_any w8 (w.heap.size + 1) lb (F.take (i * 32)) C (some ⟨wr.heap.size, 0, none⟩) 32 ((ht.ext hx).ext hx8).roots (hh.keep (S := fun _ => False) (Chg.ofExt hx8) (fun h => h) (fun _ _ h => h)) hr8 (fun h => by cases h) (fun a ha e => by injection ha with ha; subst ha; have e : wr.heap.size = w.heap.size + 1 := e; omega) (by rw [hCl]; decide) (by omega) hlb1
      rw [hCl] at hcall
      have hsz8 := hx8.size
      have hszr := hx.size
      refine hcall.mono ?_
      rintro e w9 ⟨rfl, lb', h9, hb9, hc9⟩
      have hx9 : Ext w w9 := (hx.trans hx8).chg hc9 (fun k hk e => by rcases e with e | e; omega; have := hlb k e; omega)
      have hz9 := hc9.blk (hz.ext hx8) (fun e => by rcases e with e | e; omega; have := hlb _ e; omega)
      clear hcall hz hx hh hx8 hb8 hr8 hc9
      go_wp2_with fail
      refine ⟨⟨i + 1, lb', by omega, by go_num, ?_, ?_, hx9, hz9⟩, by simp [intOf]; omega⟩
      · rw [hnx]; exact h9
      · rintro k rfl
        rcases hb9 with e | ⟨k2, e, hk2⟩
        · exact hlb k e.symm
        · injection e with e; omega
    · obtain rfl : i = n := by omega
      have hF2 : F.take (i * 32) = F := List.take_of_length_le (by omega)
      rw [hF2] at hh
      have hsum := sum_any wr (w.heap.size + 1) lb F (ht.ext hx).roots hh (by have := hx.size; omega)
      go_wp2_with fail
      refine hsum.mono ?_
      rintro e w3 ⟨rfl, hx3⟩
      have hz3 := hz.ext hx3
      go_wp2_with (refine wpList_store_mid rfl 25 (.tmp 2) (.tmp 18) rfl w.heap.size 0 (u8s (sha F)).toArray rfl rfl (sum_there hz3 F) (sum_info F) (all_oneCell_toArray (u8s_one _)) ?_)
      refine ⟨rfl, _, results_cell_row rfl _ _ w.heap.size 25 (u8s (sha F)).toArray (0, 0) (.array 32 5) rfl (sum_cells F hz3) (by kernel_rfl) rfl (sum_info F), rfl, Ext_sets (Nat.le_refl _) _ 0 (hx.trans hx3)⟩
end Go.Proofs.YtdfgjmmdpbgodaaDoor.ShaW
