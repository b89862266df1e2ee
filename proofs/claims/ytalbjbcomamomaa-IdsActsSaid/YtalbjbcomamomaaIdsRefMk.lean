/- ids: the reference's Make. -/
import Derived.Test.YtalbjbcomamomaaIdsRef
namespace Go.Proofs.Ytalbjbcomamomaa.IdsW
open Go.ChangeShapes Go.WideShapes Go.ChangeAt Go.RowKit
open Base Mp
set_option linter.unusedVariables false
set_option linter.unusedSimpArgs false

set_option maxRecDepth 100000 in
set_option maxHeartbeats 1000000 in
theorem RMake_any {B : Nat} {r lim : Nat} {ts : List ByteArray} {bs : List (Nat × Nat)} {vl vb : Value} (s : ByteArray) (w : World) (h : Rt B w r lim ts bs vl vb) (hnd : ts.Nodup) (hl : ts.length ≤ 1000) (hB : B ≤ w.heap.size) :
    Calls Try.prog 24 #[.pointer (some ⟨r, 0, none⟩), .string s] w fun e w' => e = .returned (.tuple #[.int .u64 ((mkId lim ts s).1 : Int), .int .i64 ((mkId lim ts s).2 : Int)]) ∧ Chg (fun k => k = r ∨ vl.ownBlock = some k) w w' ∧ ∃ vl', Rt B w' r lim (mkTs lim ts s) bs vl' vb ∧ Fresh w vl vl' := by
  have hof := ROf_any s w h hnd hl
  obtain ⟨A, c, rfl, hrd, hc1, hc2⟩ := h.vl_eq
  obtain ⟨n, hn⟩ : ∃ n, Hid (ts.length = n) := ⟨_, rfl⟩
  have hcs : ∀ W, Ext w W → W.cell? ⟨r, 0, none⟩ = some (.int .u64 (lim : Int)) := fun W hW => (h.ext hW).cells.1
  have hcl : ∀ W, Ext w W → W.cell? ⟨r, 1, none⟩ = some (.slice A n c) := fun W hW => by rw [← hn.out]; exact (h.ext hW).cells.2.1
  cases hk : idOf ts s with
  | some k =>
    have e1 : mkId lim ts s = (k, 0) := by simp [mkId, hk]
    have e2 : mkTs lim ts s = ts := by simp [mkTs, hk]
    rw [e1, e2]
    rw [hk] at hof
    simp only [Option.getD_some, Option.isSome_some] at hof
    go_enter Try.func24, Try.ntmps24
    go_wp2_with fail
    refine hof.mono ?_
    rintro e w1 ⟨rfl, rfl⟩
    go_wp2_with fail
    go_ret2
    exact ⟨rfl, Chg.refl _ _, _, h, .inl rfl⟩
  | none =>
    rw [hk] at hof
    simp only [Option.getD_none, Option.isSome_none] at hof
    have Hk := Lib.hid hk
    clear hk
    by_cases hlm : lim ≤ ts.length
    · have e1 : mkId lim ts s = (0, 8) := by simp [mkId, Hk.out, hlm]
      have e2 : mkTs lim ts s = ts := by simp [mkTs, Hk.out, hlm]
      rw [e1, e2]
      have hlm' : (lim : Int) ≤ (n : Int) := by have := hn.out; omega
      have hcu : IntKind.u64.wrap (n : Int) = (n : Int) := by rw [IntKind.wrap_u64]; have := hn.out; omega
      go_enter Try.func24, Try.ntmps24
      go_wp2_with fail
      refine hof.mono ?_
      rintro e w1 ⟨rfl, rfl⟩
      go_wp2_with fail
      refine Reg.startE (by kernel_rfl) ?_
      refine Reg.takeE 0 _ _ rfl (by kernel_rfl) (by kernel_rfl) (by kernel_rfl) (by decide) (fun _ _ _ h => by first | exact h | exact hP _ _ _ _ h) (by rfl) (fun W hW => by go_simp; with_reducible rfl) ?_; (try simp only [Act.put, Act.eval, List.getElem?_toArray, List.getElem_toArray, List.getElem?_cons_zero, List.getElem?_cons_succ, List.getElem_cons_zero, List.getElem_cons_succ, Option.getD_some, List.setIfInBounds_toArray, List.set_cons_zero, List.set_cons_succ])
      refine Reg.takeE 1 _ _ rfl (by kernel_rfl) (by kernel_rfl) (by kernel_rfl) (by decide) (fun _ _ _ h => by first | exact h | exact hP _ _ _ _ h) (by rfl) (fun W hW => by go_simp; with_reducible rfl) ?_; (try simp only [Act.put, Act.eval, List.getElem?_toArray, List.getElem_toArray, List.getElem?_cons_zero, List.getElem?_cons_succ, List.getElem_cons_zero, List.getElem_cons_succ, Option.getD_some, List.setIfInBounds_toArray, List.set_cons_zero, List.set_cons_succ])
      refine Reg.takeE 2 _ _ rfl (by kernel_rfl) (by kernel_rfl) (by kernel_rfl) (by decide) (fun _ _ _ h => by first | exact h | exact hP _ _ _ _ h) (by rfl) (fun W hW => by go_simp; with_reducible rfl) ?_; (try simp only [Act.put, Act.eval, List.getElem?_toArray, List.getElem_toArray, List.getElem?_cons_zero, List.getElem?_cons_succ, List.getElem_cons_zero, List.getElem_cons_succ, Option.getD_some, List.setIfInBounds_toArray, List.set_cons_zero, List.set_cons_succ])
      refine Reg.takeE 3 _ _ rfl (by kernel_rfl) (by kernel_rfl) (by kernel_rfl) (by decide) (fun _ _ _ h => by first | exact h | exact hP _ _ _ _ h) (by rfl) (fun W hW => by go_simp; with_reducible rfl) ?_; (try simp only [Act.put, Act.eval, List.getElem?_toArray, List.getElem_toArray, List.getElem?_cons_zero, List.getElem?_cons_succ, List.getElem_cons_zero, List.getElem_cons_succ, Option.getD_some, List.setIfInBounds_toArray, List.set_cons_zero, List.set_cons_succ])
      refine Reg.takeE 4 _ _ rfl (by kernel_rfl) (by kernel_rfl) (by kernel_rfl) (by decide) (fun _ _ _ h => by first | exact h | exact hP _ _ _ _ h) (by rfl) (fun W hW => by go_simp; with_reducible rfl) ?_; (try simp only [Act.put, Act.eval, List.getElem?_toArray, List.getElem_toArray, List.getElem?_cons_zero, List.getElem?_cons_succ, List.getElem_cons_zero, List.getElem_cons_succ, Option.getD_some, List.setIfInBounds_toArray, List.set_cons_zero, List.set_cons_succ])
      refine Reg.takeE 5 _ _ rfl (by kernel_rfl) (by kernel_rfl) (by kernel_rfl) (by decide) (fun _ _ _ h => by first | exact h | exact hP _ _ _ _ h) (by rfl) (fun W hW => by go_simp; with_reducible rfl) ?_; (try simp only [Act.put, Act.eval, List.getElem?_toArray, List.getElem_toArray, List.getElem?_cons_zero, List.getElem?_cons_succ, List.getElem_cons_zero, List.getElem_cons_succ, Option.getD_some, List.setIfInBounds_toArray, List.set_cons_zero, List.set_cons_succ])
      refine Reg.takeE 6 _ _ rfl (by kernel_rfl) (by kernel_rfl) (by kernel_rfl) (by decide) (fun _ _ _ h => by first | exact h | exact hP _ _ _ _ h) (by rfl) (fun W hW => by go_simp; with_reducible rfl) ?_; (try simp only [Act.put, Act.eval, List.getElem?_toArray, List.getElem_toArray, List.getElem?_cons_zero, List.getElem?_cons_succ, List.getElem_cons_zero, List.getElem_cons_succ, Option.getD_some, List.setIfInBounds_toArray, List.set_cons_zero, List.set_cons_succ])
      refine Reg.takeE 7 _ _ rfl (by kernel_rfl) (by kernel_rfl) (by kernel_rfl) (by decide) (fun _ _ _ h => by first | exact h | exact hP _ _ _ _ h) (by rfl) (fun W hW => by go_simp; with_reducible rfl) ?_; (try simp only [Act.put, Act.eval, List.getElem?_toArray, List.getElem_toArray, List.getElem?_cons_zero, List.getElem?_cons_succ, List.getElem_cons_zero, List.getElem_cons_succ, Option.getD_some, List.setIfInBounds_toArray, List.set_cons_zero, List.set_cons_succ])
      refine Reg.takeE 8 _ _ rfl (by kernel_rfl) (by kernel_rfl) (by kernel_rfl) (by decide) (fun _ _ _ h => by first | exact h | exact hP _ _ _ _ h) (by rfl) (fun W hW => by go_simp; with_reducible rfl) ?_; (try simp only [Act.put, Act.eval, List.getElem?_toArray, List.getElem_toArray, List.getElem?_cons_zero, List.getElem?_cons_succ, List.getElem_cons_zero, List.getElem_cons_succ, Option.getD_some, List.setIfInBounds_toArray, List.set_cons_zero, List.set_cons_succ])
      refine Reg.takeE 9 _ _ rfl (by kernel_rfl) (by kernel_rfl) (by kernel_rfl) (by decide) (fun _ _ _ h => by first | exact h | exact hP _ _ _ _ h) (by rfl) (fun W hW => by go_simp; with_reducible rfl) ?_; (try simp only [Act.put, Act.eval, List.getElem?_toArray, List.getElem_toArray, List.getElem?_cons_zero, List.getElem?_cons_succ, List.getElem_cons_zero, List.getElem_cons_succ, Option.getD_some, List.setIfInBounds_toArray, List.set_cons_zero, List.set_cons_succ])
      refine Reg.takeE 10 _ _ rfl (by kernel_rfl) (by kernel_rfl) (by kernel_rfl) (by decide) (fun _ _ _ h => by first | exact h | exact hP _ _ _ _ h) (by rfl) (fun W hW => by go_simp; with_reducible rfl) ?_; (try simp only [Act.put, Act.eval, List.getElem?_toArray, List.getElem_toArray, List.getElem?_cons_zero, List.getElem?_cons_succ, List.getElem_cons_zero, List.getElem_cons_succ, Option.getD_some, List.setIfInBounds_toArray, List.set_cons_zero, List.set_cons_succ])
      refine Reg.fin (by kernel_rfl) (fun W hW => ?_)
      go_wp2_with fail
      go_ret2
      exact ⟨rfl, Chg.ofExt hW, _, h.ext hW, .inl rfl⟩
    · have e1 : mkId lim ts s = (ts.length + 1, 0) := by simp [mkId, Hk.out, hlm]
      have e2 : mkTs lim ts s = ts ++ [s] := by simp [mkTs, Hk.out, hlm]
      rw [e1, e2, hn.out]
      have hlm' : ¬ (lim : Int) ≤ (n : Int) := by have := hn.out; omega
      have hcu : IntKind.u64.wrap (n : Int) = (n : Int) := by rw [IntKind.wrap_u64]; have := hn.out; omega
      have hcu1 : IntKind.u64.wrap ((n : Int) + 1) = (n : Int) + 1 := by rw [IntKind.wrap_u64]; have := hn.out; omega
      have hn1 : n ≤ 1000 := by have := hn.out; omega
      go_enter Try.func24, Try.ntmps24
      go_wp2_with fail
      refine hof.mono ?_
      rintro e w1 ⟨rfl, rfl⟩
      go_wp2_with fail
      refine Reg.startE (by kernel_rfl) ?_
      refine Reg.takeE 0 _ _ rfl (by kernel_rfl) (by kernel_rfl) (by kernel_rfl) (by decide) (fun _ _ _ h => by first | exact h | exact hP _ _ _ _ h) (by rfl) (fun W hW => by go_simp; with_reducible rfl) ?_; (try simp only [Act.put, Act.eval, List.getElem?_toArray, List.getElem_toArray, List.getElem?_cons_zero, List.getElem?_cons_succ, List.getElem_cons_zero, List.getElem_cons_succ, Option.getD_some, List.setIfInBounds_toArray, List.set_cons_zero, List.set_cons_succ])
      refine Reg.takeE 1 _ _ rfl (by kernel_rfl) (by kernel_rfl) (by kernel_rfl) (by decide) (fun _ _ _ h => by first | exact h | exact hP _ _ _ _ h) (by rfl) (fun W hW => by go_simp; with_reducible rfl) ?_; (try simp only [Act.put, Act.eval, List.getElem?_toArray, List.getElem_toArray, List.getElem?_cons_zero, List.getElem?_cons_succ, List.getElem_cons_zero, List.getElem_cons_succ, Option.getD_some, List.setIfInBounds_toArray, List.set_cons_zero, List.set_cons_succ])
      refine Reg.takeE 2 _ _ rfl (by kernel_rfl) (by kernel_rfl) (by kernel_rfl) (by decide) (fun _ _ _ h => by first | exact h | exact hP _ _ _ _ h) (by rfl) (fun W hW => by go_simp; with_reducible rfl) ?_; (try simp only [Act.put, Act.eval, List.getElem?_toArray, List.getElem_toArray, List.getElem?_cons_zero, List.getElem?_cons_succ, List.getElem_cons_zero, List.getElem_cons_succ, Option.getD_some, List.setIfInBounds_toArray, List.set_cons_zero, List.set_cons_succ])
      refine Reg.takeE 3 _ _ rfl (by kernel_rfl) (by kernel_rfl) (by kernel_rfl) (by decide) (fun _ _ _ h => by first | exact h | exact hP _ _ _ _ h) (by rfl) (fun W hW => by go_simp; with_reducible rfl) ?_; (try simp only [Act.put, Act.eval, List.getElem?_toArray, List.getElem_toArray, List.getElem?_cons_zero, List.getElem?_cons_succ, List.getElem_cons_zero, List.getElem_cons_succ, Option.getD_some, List.setIfInBounds_toArray, List.set_cons_zero, List.set_cons_succ])
      refine Reg.takeE 4 _ _ rfl (by kernel_rfl) (by kernel_rfl) (by kernel_rfl) (by decide) (fun _ _ _ h => by first | exact h | exact hP _ _ _ _ h) (by rfl) (fun W hW => by go_simp; with_reducible rfl) ?_; (try simp only [Act.put, Act.eval, List.getElem?_toArray, List.getElem_toArray, List.getElem?_cons_zero, List.getElem?_cons_succ, List.getElem_cons_zero, List.getElem_cons_succ, Option.getD_some, List.setIfInBounds_toArray, List.set_cons_zero, List.set_cons_succ])
      refine Reg.takeE 5 _ _ rfl (by kernel_rfl) (by kernel_rfl) (by kernel_rfl) (by decide) (fun _ _ _ h => by first | exact h | exact hP _ _ _ _ h) (by rfl) (fun W hW => by go_simp; with_reducible rfl) ?_; (try simp only [Act.put, Act.eval, List.getElem?_toArray, List.getElem_toArray, List.getElem?_cons_zero, List.getElem?_cons_succ, List.getElem_cons_zero, List.getElem_cons_succ, Option.getD_some, List.setIfInBounds_toArray, List.set_cons_zero, List.set_cons_succ])
      refine Reg.takeE 6 _ _ rfl (by kernel_rfl) (by kernel_rfl) (by kernel_rfl) (by decide) (fun _ _ _ h => by first | exact h | exact hP _ _ _ _ h) (by rfl) (fun W hW => by go_simp; with_reducible rfl) ?_; (try simp only [Act.put, Act.eval, List.getElem?_toArray, List.getElem_toArray, List.getElem?_cons_zero, List.getElem?_cons_succ, List.getElem_cons_zero, List.getElem_cons_succ, Option.getD_some, List.setIfInBounds_toArray, List.set_cons_zero, List.set_cons_succ])
      refine Reg.takeE 7 _ _ rfl (by kernel_rfl) (by kernel_rfl) (by kernel_rfl) (by decide) (fun _ _ _ h => by first | exact h | exact hP _ _ _ _ h) (by rfl) (fun W hW => by go_simp; with_reducible rfl) ?_; (try simp only [Act.put, Act.eval, List.getElem?_toArray, List.getElem_toArray, List.getElem?_cons_zero, List.getElem?_cons_succ, List.getElem_cons_zero, List.getElem_cons_succ, Option.getD_some, List.setIfInBounds_toArray, List.set_cons_zero, List.set_cons_succ])
      refine Reg.takeE 8 _ _ rfl (by kernel_rfl) (by kernel_rfl) (by kernel_rfl) (by decide) (fun _ _ _ h => by first | exact h | exact hP _ _ _ _ h) (by rfl) (fun W hW => by go_simp; with_reducible rfl) ?_; (try simp only [Act.put, Act.eval, List.getElem?_toArray, List.getElem_toArray, List.getElem?_cons_zero, List.getElem?_cons_succ, List.getElem_cons_zero, List.getElem_cons_succ, Option.getD_some, List.setIfInBounds_toArray, List.set_cons_zero, List.set_cons_succ])
      refine Reg.takeE 9 _ _ rfl (by kernel_rfl) (by kernel_rfl) (by kernel_rfl) (by decide) (fun _ _ _ h => by first | exact h | exact hP _ _ _ _ h) (by rfl) (fun W hW => by go_simp; with_reducible rfl) ?_; (try simp only [Act.put, Act.eval, List.getElem?_toArray, List.getElem_toArray, List.getElem?_cons_zero, List.getElem?_cons_succ, List.getElem_cons_zero, List.getElem_cons_succ, Option.getD_some, List.setIfInBounds_toArray, List.set_cons_zero, List.set_cons_succ])
      refine Reg.takeE 10 _ _ rfl (by kernel_rfl) (by kernel_rfl) (by kernel_rfl) (by decide) (fun _ _ _ h => by first | exact h | exact hP _ _ _ _ h) (by rfl) (fun W hW => by go_simp; with_reducible rfl) ?_; (try simp only [Act.put, Act.eval, List.getElem?_toArray, List.getElem_toArray, List.getElem?_cons_zero, List.getElem?_cons_succ, List.getElem_cons_zero, List.getElem_cons_succ, Option.getD_some, List.setIfInBounds_toArray, List.set_cons_zero, List.set_cons_succ])
      refine Reg.fin (by kernel_rfl) (fun W hW => ?_)
      have hwW := hW.size
      have hT := h.ext hW
      have ho := hT.texts
      rw [hn.out] at ho
      have hlW : W.cell? ⟨r, 1, none⟩ = some (.slice A n c) := hcl W hW
      have hrW := hT.blk.lt
      have ha : ∀ o, (W.alloc o).cell? ⟨r, 1, none⟩ = some (.slice A n c) := fun o => ((Ext.refl W).alloc o).cell hlW
      clear hcl hcs
      go_wp2_with (
        refine wpList_app el_str _ rfl (.tmp 31) (.tmp 33) rfl B (.slice A n c) n (txs ts) rfl (own_ext ho ((Ext.refl W).alloc _)) (some ⟨W.heap.size, 0, none⟩) 1 1 (txs [s]) rfl (Rd.of_block W 9 (0, 0) rfl) rfl (fun h => by cases h) (txs_one [s]) (by omega) (by omega) (by simp; omega) (fun V1 w1 ho1 hg1 hv1 => ?_)
        obtain ⟨A1, c1, rfl, jj1, jj2, jj3, jj4⟩ := Rd.of_own ho1
        clear jj1 jj2 jj3 jj4
        have hch1 : Chg (fun k => (Value.slice A n c).ownBlock = some k) W w1 := (Chg.ofExt ((Ext.refl W).alloc _)).trans (Chg.ofGrown hg1) (fun _ _ e => e)
        have hrn : ¬ (Value.slice A n c).ownBlock = some r := fun e => own_ne_blk ho hT.blk (by decide) e.symm
        have hb1 := hch1.blk hT.blk hrn
        have hvb1 := own_chg hT.bound hch1 (own_not ho hT.bound (by decide))
        have fr1 := hb1.frozen 1
        have cl1 : w1.cell? ⟨r, 1, none⟩ = some _ := hb1.cell 1)
      go_ret2
      have hb2 : Blk (w1.setCell ⟨r, 1, none⟩ (.slice A1 (n + 1) c1)) r #[.int .u64 (lim : Int), .slice A1 (n + 1) c1, vb] 51 := hb1.set 1 _
      rw [show txs ts ++ txs [s] = txs (ts ++ [s]) by simp [txs]] at ho1
      refine ⟨rfl, ?_, .slice A1 (n + 1) c1, ⟨hb2, ?_, own_setCell (i := 1) hvb1 hb1 (by decide) _, h.hr⟩, ?_⟩
      · exact ((Chg.ofExt hW).trans hch1 (fun _ _ e => .inr e)).set (p := ⟨r, 1, none⟩) (.inl (.inl rfl)) _
      · rw [List.length_append, hn.out]
        exact own_setCell (i := 1) ho1 hb1 (by decide) _
      · exact hv1.imp (fun e => e) (fun e => ⟨_, e, by simp; omega⟩)
end Go.Proofs.Ytalbjbcomamomaa.IdsW
