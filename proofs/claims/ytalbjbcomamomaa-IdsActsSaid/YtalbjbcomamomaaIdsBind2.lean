/- ids: Bind, its last part. -/
import Derived.Test.YtalbjbcomamomaaIdsBind
namespace Go.Proofs.Ytalbjbcomamomaa.IdsW
open Go.ChangeShapes Go.WideShapes Go.ChangeAt Go.RowKit
open Base Mp
set_option linter.unusedVariables false
set_option linter.unusedSimpArgs false

set_option maxRecDepth 100000 in
set_option maxHeartbeats 1000000 in
theorem bind_a {B : Nat} {g lim : Nat} {ts : List ByteArray} {bs : List (Nat × Nat)} {vt vb : Value} {m : Nat} (f : Nat) (s : ByteArray) (w : World) (h : Tb B w g lim ts bs vt vb m) (hs : s.size ≤ maxLen) (hsm : ts.length ≤ 1000) (hbl : bs.length ≤ 999) (hri : Rise bs) (hf0 : 1 ≤ f) (hf1 : f ≤ 2147483647) (ht : there bs f = false) (hB : B ≤ w.heap.size) (id : Nat) (hid : (idOf ts s).getD 0 = id) (hid0 : 0 < id) (hh : hasTo bs id = true) :
    Calls Try.prog 11 #[.pointer (some ⟨g, 0, none⟩), .int .u64 (f : Int), .string s] w fun e w' => e = .returned (.tuple #[.int .u64 0, .int .i64 6]) ∧ Chg (fun k => k = g ∨ k = m ∨ vt.ownBlock = some k ∨ vb.ownBlock = some k) w w' ∧ ∃ vt' vb', Tb B w' g lim (ts) (bs) vt' vb' m ∧ Fresh w vt vt' ∧ Fresh w vb vb' := by
  have hidl := idOf_le ts s
  rw [hid] at hidl
  have hpl := pos_le bs f
  have hfi : ∀ W, Tb B W g lim ts bs vt vb m → _ := fun W hW => find_any f W hW (by omega) hri
  rw [ht] at hfi
  obtain ⟨p, hp⟩ : ∃ p, Hid (pos bs f = p) := ⟨_, rfl⟩
  rw [hp.out] at hfi hpl
  have h1 : ¬ (f : Int) = 0 := by omega
  have h2 : ¬ (2147483647 : Int) < (f : Int) := by omega
  have h3 : ((f : Int) == 0) = false := by simp; omega
  obtain ⟨h0, h1', h2', h3'⟩ := h.cells
  have hl := h.of.look mt s hs
  rw [hid] at hl
  have hglt : g < w.heap.size := h.blk.lt
  have hmlt : m < w.heap.size := h.of.lt
  have htlt : ∀ k, vt.ownBlock = some k → k < w.heap.size := fun k hk => (h.texts.lt k hk).2
  have hvlt : ∀ k, vb.ownBlock = some k → k < w.heap.size := fun k hk => (h.bound.lt k hk).2
  have Hid1 := Lib.hid hid
  clear hid
  go_enter Try.func11, Try.ntmps11
  go_wp2_with fail
  generalize hw1 : World.alloc w _ = w1
  have hx1 : Ext w w1 := by rw [← hw1]; exact (Ext.refl w).alloc _
  have hb1 : Blk w1 w.heap.size #[.int .u64 (id : Int)] 25 := by rw [← hw1]; exact Blk.new w _ _
  clear hw1
  refine (hfi w1 (h.ext hx1)).mono ?_
  rintro e w2 ⟨rfl, hx2⟩
  obtain ⟨A, c, rfl, hr, _⟩ := h.vb_eq
  clear hfi
  go_wp2_with fail
  refine Reg.startE (by kernel_rfl) ?_
  refine Reg.takeE 0 _ _ rfl (by kernel_rfl) (by kernel_rfl) (by kernel_rfl) (by decide) (fun _ _ _ h => by first | exact h | exact hP _ _ _ _ h) (by rfl) (fun W hW => by go_simp; with_reducible rfl) ?_; (try simp only [Act.put, Act.eval, List.getElem?_toArray, List.getElem_toArray, List.getElem?_cons_zero, List.getElem?_cons_succ, List.getElem_cons_zero, List.getElem_cons_succ, Option.getD_some, List.setIfInBounds_toArray, List.set_cons_zero, List.set_cons_succ])
  refine Reg.takeE 1 _ _ rfl (by kernel_rfl) (by kernel_rfl) (by kernel_rfl) (by decide) (fun _ _ _ h => by first | exact h | exact hP _ _ _ _ h) (by rfl) (fun W hW => by go_simp; with_reducible rfl) ?_; (try simp only [Act.put, Act.eval, List.getElem?_toArray, List.getElem_toArray, List.getElem?_cons_zero, List.getElem?_cons_succ, List.getElem_cons_zero, List.getElem_cons_succ, Option.getD_some, List.setIfInBounds_toArray, List.set_cons_zero, List.set_cons_succ])
  refine Reg.skipE 2 _ rfl (by kernel_rfl) (by kernel_rfl) (by kernel_rfl) (by decide) (fun _ _ _ h => by first | exact h | exact hP _ _ _ _ h) (by rfl) ?_; (try simp only [Act.put, Act.eval, List.getElem?_toArray, List.getElem_toArray, List.getElem?_cons_zero, List.getElem?_cons_succ, List.getElem_cons_zero, List.getElem_cons_succ, Option.getD_some, List.setIfInBounds_toArray, List.set_cons_zero, List.set_cons_succ])
  refine Reg.skipE 3 _ rfl (by kernel_rfl) (by kernel_rfl) (by kernel_rfl) (by decide) (fun _ _ _ h => by first | exact h | exact hP _ _ _ _ h) (by rfl) ?_; (try simp only [Act.put, Act.eval, List.getElem?_toArray, List.getElem_toArray, List.getElem?_cons_zero, List.getElem?_cons_succ, List.getElem_cons_zero, List.getElem_cons_succ, Option.getD_some, List.setIfInBounds_toArray, List.set_cons_zero, List.set_cons_succ])
  refine Reg.skipE 4 _ rfl (by kernel_rfl) (by kernel_rfl) (by kernel_rfl) (by decide) (fun _ _ _ h => by first | exact h | exact hP _ _ _ _ h) (by rfl) ?_; (try simp only [Act.put, Act.eval, List.getElem?_toArray, List.getElem_toArray, List.getElem?_cons_zero, List.getElem?_cons_succ, List.getElem_cons_zero, List.getElem_cons_succ, Option.getD_some, List.setIfInBounds_toArray, List.set_cons_zero, List.set_cons_succ])
  refine Reg.skipE 5 _ rfl (by kernel_rfl) (by kernel_rfl) (by kernel_rfl) (by decide) (fun _ _ _ h => by first | exact h | exact hP _ _ _ _ h) (by rfl) ?_; (try simp only [Act.put, Act.eval, List.getElem?_toArray, List.getElem_toArray, List.getElem?_cons_zero, List.getElem?_cons_succ, List.getElem_cons_zero, List.getElem_cons_succ, Option.getD_some, List.setIfInBounds_toArray, List.set_cons_zero, List.set_cons_succ])
  refine Reg.skipE 6 _ rfl (by kernel_rfl) (by kernel_rfl) (by kernel_rfl) (by decide) (fun _ _ _ h => by first | exact h | exact hP _ _ _ _ h) (by rfl) ?_; (try simp only [Act.put, Act.eval, List.getElem?_toArray, List.getElem_toArray, List.getElem?_cons_zero, List.getElem?_cons_succ, List.getElem_cons_zero, List.getElem_cons_succ, Option.getD_some, List.setIfInBounds_toArray, List.set_cons_zero, List.set_cons_succ])
  refine Reg.skipE 7 _ rfl (by kernel_rfl) (by kernel_rfl) (by kernel_rfl) (by decide) (fun _ _ _ h => by first | exact h | exact hP _ _ _ _ h) (by rfl) ?_; (try simp only [Act.put, Act.eval, List.getElem?_toArray, List.getElem_toArray, List.getElem?_cons_zero, List.getElem?_cons_succ, List.getElem_cons_zero, List.getElem_cons_succ, Option.getD_some, List.setIfInBounds_toArray, List.set_cons_zero, List.set_cons_succ])
  refine Reg.skipE 8 _ rfl (by kernel_rfl) (by kernel_rfl) (by kernel_rfl) (by decide) (fun _ _ _ h => by first | exact h | exact hP _ _ _ _ h) (by rfl) ?_; (try simp only [Act.put, Act.eval, List.getElem?_toArray, List.getElem_toArray, List.getElem?_cons_zero, List.getElem?_cons_succ, List.getElem_cons_zero, List.getElem_cons_succ, Option.getD_some, List.setIfInBounds_toArray, List.set_cons_zero, List.set_cons_succ])
  refine Reg.skipE 9 _ rfl (by kernel_rfl) (by kernel_rfl) (by kernel_rfl) (by decide) (fun _ _ _ h => by first | exact h | exact hP _ _ _ _ h) (by rfl) ?_; (try simp only [Act.put, Act.eval, List.getElem?_toArray, List.getElem_toArray, List.getElem?_cons_zero, List.getElem?_cons_succ, List.getElem_cons_zero, List.getElem_cons_succ, Option.getD_some, List.setIfInBounds_toArray, List.set_cons_zero, List.set_cons_succ])
  refine Reg.skipE 10 _ rfl (by kernel_rfl) (by kernel_rfl) (by kernel_rfl) (by decide) (fun _ _ _ h => by first | exact h | exact hP _ _ _ _ h) (by rfl) ?_; (try simp only [Act.put, Act.eval, List.getElem?_toArray, List.getElem_toArray, List.getElem?_cons_zero, List.getElem?_cons_succ, List.getElem_cons_zero, List.getElem_cons_succ, Option.getD_some, List.setIfInBounds_toArray, List.set_cons_zero, List.set_cons_succ])
  refine Reg.skipE 11 _ rfl (by kernel_rfl) (by kernel_rfl) (by kernel_rfl) (by decide) (fun _ _ _ h => by first | exact h | exact hP _ _ _ _ h) (by rfl) ?_; (try simp only [Act.put, Act.eval, List.getElem?_toArray, List.getElem_toArray, List.getElem?_cons_zero, List.getElem?_cons_succ, List.getElem_cons_zero, List.getElem_cons_succ, Option.getD_some, List.setIfInBounds_toArray, List.set_cons_zero, List.set_cons_succ])
  refine Reg.takeE 12 _ _ rfl (by kernel_rfl) (by kernel_rfl) (by kernel_rfl) (by decide) (fun _ _ _ h => by first | exact h | exact hP _ _ _ _ h) (by rfl) (fun W hW => by go_simp; with_reducible rfl) ?_; (try simp only [Act.put, Act.eval, List.getElem?_toArray, List.getElem_toArray, List.getElem?_cons_zero, List.getElem?_cons_succ, List.getElem_cons_zero, List.getElem_cons_succ, Option.getD_some, List.setIfInBounds_toArray, List.set_cons_zero, List.set_cons_succ])
  refine Reg.takeE 13 _ _ rfl (by kernel_rfl) (by kernel_rfl) (by kernel_rfl) (by decide) (fun _ _ _ h => by first | exact h | exact hP _ _ _ _ h) (by rfl) (fun W hW => by go_simp; with_reducible rfl) ?_; (try simp only [Act.put, Act.eval, List.getElem?_toArray, List.getElem_toArray, List.getElem?_cons_zero, List.getElem?_cons_succ, List.getElem_cons_zero, List.getElem_cons_succ, Option.getD_some, List.setIfInBounds_toArray, List.set_cons_zero, List.set_cons_succ])
  refine Reg.fin (by kernel_rfl) (fun W hW => ?_)
  have hxW : Ext w W := hx1.trans (hx2.trans hW)
  have hbW := (hb1.ext hx2).ext hW
  have hTW := h.ext hxW
  have c8 : W.cell? ⟨w.heap.size, 0, none⟩ = some (.int .u64 (id : Int)) := hbW.cell 0
  obtain ⟨_, _, _, c3⟩ := hTW.cells
  have hWs := hxW.size
  clear hx1 hx2 hb1 h0 h1' h2' h3' hl
  have hid0' : (0 : Int) < (id : Int) := by omega
  have hcf := ContainsFunc_any A bs.length c bs ⟨w.heap.size, 0, none⟩ id W (hr.ext hxW) rfl (by omega) c8
  rw [hh] at hcf
  go_wp2_with fail
  refine hcf.mono ?_
  rintro e W5 ⟨rfl, hx5'⟩
  have hx5 := hxW.trans hx5'
  have hT5 := h.ext hx5
  go_wp2_with fail
  go_ret2
  exact ⟨rfl, Chg.ofExt hx5, vt, _, hT5, .inl rfl, .inl rfl⟩

set_option maxRecDepth 100000 in
set_option maxHeartbeats 1000000 in
theorem bind_b {B : Nat} {g lim : Nat} {ts : List ByteArray} {bs : List (Nat × Nat)} {vt vb : Value} {m : Nat} (f : Nat) (s : ByteArray) (w : World) (h : Tb B w g lim ts bs vt vb m) (hs : s.size ≤ maxLen) (hsm : ts.length ≤ 1000) (hbl : bs.length ≤ 999) (hri : Rise bs) (hf0 : 1 ≤ f) (hf1 : f ≤ 2147483647) (ht : there bs f = false) (hB : B ≤ w.heap.size) (id : Nat) (hid : (idOf ts s).getD 0 = id) (hid0 : 0 < id) (hh : hasTo bs id = false) :
    Calls Try.prog 11 #[.pointer (some ⟨g, 0, none⟩), .int .u64 (f : Int), .string s] w fun e w' => e = .returned (.tuple #[.int .u64 ((mkId lim ts s).1 : Int), .int .i64 ((mkId lim ts s).2 : Int)]) ∧ Chg (fun k => k = g ∨ k = m ∨ vt.ownBlock = some k ∨ vb.ownBlock = some k) w w' ∧ ∃ vt' vb', Tb B w' g lim (mkTs lim ts s) (if (mkId lim ts s).2 = 0 then insAt bs (pos bs f) (f, (mkId lim ts s).1) else bs) vt' vb' m ∧ Fresh w vt vt' ∧ Fresh w vb vb' := by
  have hidl := idOf_le ts s
  rw [hid] at hidl
  have hpl := pos_le bs f
  have hfi : ∀ W, Tb B W g lim ts bs vt vb m → _ := fun W hW => find_any f W hW (by omega) hri
  rw [ht] at hfi
  obtain ⟨p, hp⟩ : ∃ p, Hid (pos bs f = p) := ⟨_, rfl⟩
  rw [hp.out] at hfi hpl
  have h1 : ¬ (f : Int) = 0 := by omega
  have h2 : ¬ (2147483647 : Int) < (f : Int) := by omega
  have h3 : ((f : Int) == 0) = false := by simp; omega
  obtain ⟨h0, h1', h2', h3'⟩ := h.cells
  have hl := h.of.look mt s hs
  rw [hid] at hl
  have hglt : g < w.heap.size := h.blk.lt
  have hmlt : m < w.heap.size := h.of.lt
  have htlt : ∀ k, vt.ownBlock = some k → k < w.heap.size := fun k hk => (h.texts.lt k hk).2
  have hvlt : ∀ k, vb.ownBlock = some k → k < w.heap.size := fun k hk => (h.bound.lt k hk).2
  have Hid1 := Lib.hid hid
  clear hid
  go_enter Try.func11, Try.ntmps11
  go_wp2_with fail
  generalize hw1 : World.alloc w _ = w1
  have hx1 : Ext w w1 := by rw [← hw1]; exact (Ext.refl w).alloc _
  have hb1 : Blk w1 w.heap.size #[.int .u64 (id : Int)] 25 := by rw [← hw1]; exact Blk.new w _ _
  clear hw1
  refine (hfi w1 (h.ext hx1)).mono ?_
  rintro e w2 ⟨rfl, hx2⟩
  obtain ⟨A, c, rfl, hr, _⟩ := h.vb_eq
  clear hfi
  go_wp2_with fail
  refine Reg.startE (by kernel_rfl) ?_
  refine Reg.takeE 0 _ _ rfl (by kernel_rfl) (by kernel_rfl) (by kernel_rfl) (by decide) (fun _ _ _ h => by first | exact h | exact hP _ _ _ _ h) (by rfl) (fun W hW => by go_simp; with_reducible rfl) ?_; (try simp only [Act.put, Act.eval, List.getElem?_toArray, List.getElem_toArray, List.getElem?_cons_zero, List.getElem?_cons_succ, List.getElem_cons_zero, List.getElem_cons_succ, Option.getD_some, List.setIfInBounds_toArray, List.set_cons_zero, List.set_cons_succ])
  refine Reg.takeE 1 _ _ rfl (by kernel_rfl) (by kernel_rfl) (by kernel_rfl) (by decide) (fun _ _ _ h => by first | exact h | exact hP _ _ _ _ h) (by rfl) (fun W hW => by go_simp; with_reducible rfl) ?_; (try simp only [Act.put, Act.eval, List.getElem?_toArray, List.getElem_toArray, List.getElem?_cons_zero, List.getElem?_cons_succ, List.getElem_cons_zero, List.getElem_cons_succ, Option.getD_some, List.setIfInBounds_toArray, List.set_cons_zero, List.set_cons_succ])
  refine Reg.skipE 2 _ rfl (by kernel_rfl) (by kernel_rfl) (by kernel_rfl) (by decide) (fun _ _ _ h => by first | exact h | exact hP _ _ _ _ h) (by rfl) ?_; (try simp only [Act.put, Act.eval, List.getElem?_toArray, List.getElem_toArray, List.getElem?_cons_zero, List.getElem?_cons_succ, List.getElem_cons_zero, List.getElem_cons_succ, Option.getD_some, List.setIfInBounds_toArray, List.set_cons_zero, List.set_cons_succ])
  refine Reg.skipE 3 _ rfl (by kernel_rfl) (by kernel_rfl) (by kernel_rfl) (by decide) (fun _ _ _ h => by first | exact h | exact hP _ _ _ _ h) (by rfl) ?_; (try simp only [Act.put, Act.eval, List.getElem?_toArray, List.getElem_toArray, List.getElem?_cons_zero, List.getElem?_cons_succ, List.getElem_cons_zero, List.getElem_cons_succ, Option.getD_some, List.setIfInBounds_toArray, List.set_cons_zero, List.set_cons_succ])
  refine Reg.skipE 4 _ rfl (by kernel_rfl) (by kernel_rfl) (by kernel_rfl) (by decide) (fun _ _ _ h => by first | exact h | exact hP _ _ _ _ h) (by rfl) ?_; (try simp only [Act.put, Act.eval, List.getElem?_toArray, List.getElem_toArray, List.getElem?_cons_zero, List.getElem?_cons_succ, List.getElem_cons_zero, List.getElem_cons_succ, Option.getD_some, List.setIfInBounds_toArray, List.set_cons_zero, List.set_cons_succ])
  refine Reg.skipE 5 _ rfl (by kernel_rfl) (by kernel_rfl) (by kernel_rfl) (by decide) (fun _ _ _ h => by first | exact h | exact hP _ _ _ _ h) (by rfl) ?_; (try simp only [Act.put, Act.eval, List.getElem?_toArray, List.getElem_toArray, List.getElem?_cons_zero, List.getElem?_cons_succ, List.getElem_cons_zero, List.getElem_cons_succ, Option.getD_some, List.setIfInBounds_toArray, List.set_cons_zero, List.set_cons_succ])
  refine Reg.skipE 6 _ rfl (by kernel_rfl) (by kernel_rfl) (by kernel_rfl) (by decide) (fun _ _ _ h => by first | exact h | exact hP _ _ _ _ h) (by rfl) ?_; (try simp only [Act.put, Act.eval, List.getElem?_toArray, List.getElem_toArray, List.getElem?_cons_zero, List.getElem?_cons_succ, List.getElem_cons_zero, List.getElem_cons_succ, Option.getD_some, List.setIfInBounds_toArray, List.set_cons_zero, List.set_cons_succ])
  refine Reg.skipE 7 _ rfl (by kernel_rfl) (by kernel_rfl) (by kernel_rfl) (by decide) (fun _ _ _ h => by first | exact h | exact hP _ _ _ _ h) (by rfl) ?_; (try simp only [Act.put, Act.eval, List.getElem?_toArray, List.getElem_toArray, List.getElem?_cons_zero, List.getElem?_cons_succ, List.getElem_cons_zero, List.getElem_cons_succ, Option.getD_some, List.setIfInBounds_toArray, List.set_cons_zero, List.set_cons_succ])
  refine Reg.skipE 8 _ rfl (by kernel_rfl) (by kernel_rfl) (by kernel_rfl) (by decide) (fun _ _ _ h => by first | exact h | exact hP _ _ _ _ h) (by rfl) ?_; (try simp only [Act.put, Act.eval, List.getElem?_toArray, List.getElem_toArray, List.getElem?_cons_zero, List.getElem?_cons_succ, List.getElem_cons_zero, List.getElem_cons_succ, Option.getD_some, List.setIfInBounds_toArray, List.set_cons_zero, List.set_cons_succ])
  refine Reg.skipE 9 _ rfl (by kernel_rfl) (by kernel_rfl) (by kernel_rfl) (by decide) (fun _ _ _ h => by first | exact h | exact hP _ _ _ _ h) (by rfl) ?_; (try simp only [Act.put, Act.eval, List.getElem?_toArray, List.getElem_toArray, List.getElem?_cons_zero, List.getElem?_cons_succ, List.getElem_cons_zero, List.getElem_cons_succ, Option.getD_some, List.setIfInBounds_toArray, List.set_cons_zero, List.set_cons_succ])
  refine Reg.skipE 10 _ rfl (by kernel_rfl) (by kernel_rfl) (by kernel_rfl) (by decide) (fun _ _ _ h => by first | exact h | exact hP _ _ _ _ h) (by rfl) ?_; (try simp only [Act.put, Act.eval, List.getElem?_toArray, List.getElem_toArray, List.getElem?_cons_zero, List.getElem?_cons_succ, List.getElem_cons_zero, List.getElem_cons_succ, Option.getD_some, List.setIfInBounds_toArray, List.set_cons_zero, List.set_cons_succ])
  refine Reg.skipE 11 _ rfl (by kernel_rfl) (by kernel_rfl) (by kernel_rfl) (by decide) (fun _ _ _ h => by first | exact h | exact hP _ _ _ _ h) (by rfl) ?_; (try simp only [Act.put, Act.eval, List.getElem?_toArray, List.getElem_toArray, List.getElem?_cons_zero, List.getElem?_cons_succ, List.getElem_cons_zero, List.getElem_cons_succ, Option.getD_some, List.setIfInBounds_toArray, List.set_cons_zero, List.set_cons_succ])
  refine Reg.takeE 12 _ _ rfl (by kernel_rfl) (by kernel_rfl) (by kernel_rfl) (by decide) (fun _ _ _ h => by first | exact h | exact hP _ _ _ _ h) (by rfl) (fun W hW => by go_simp; with_reducible rfl) ?_; (try simp only [Act.put, Act.eval, List.getElem?_toArray, List.getElem_toArray, List.getElem?_cons_zero, List.getElem?_cons_succ, List.getElem_cons_zero, List.getElem_cons_succ, Option.getD_some, List.setIfInBounds_toArray, List.set_cons_zero, List.set_cons_succ])
  refine Reg.takeE 13 _ _ rfl (by kernel_rfl) (by kernel_rfl) (by kernel_rfl) (by decide) (fun _ _ _ h => by first | exact h | exact hP _ _ _ _ h) (by rfl) (fun W hW => by go_simp; with_reducible rfl) ?_; (try simp only [Act.put, Act.eval, List.getElem?_toArray, List.getElem_toArray, List.getElem?_cons_zero, List.getElem?_cons_succ, List.getElem_cons_zero, List.getElem_cons_succ, Option.getD_some, List.setIfInBounds_toArray, List.set_cons_zero, List.set_cons_succ])
  refine Reg.fin (by kernel_rfl) (fun W hW => ?_)
  have hxW : Ext w W := hx1.trans (hx2.trans hW)
  have hbW := (hb1.ext hx2).ext hW
  have hTW := h.ext hxW
  have c8 : W.cell? ⟨w.heap.size, 0, none⟩ = some (.int .u64 (id : Int)) := hbW.cell 0
  obtain ⟨_, _, _, c3⟩ := hTW.cells
  have hWs := hxW.size
  clear hx1 hx2 hb1 h0 h1' h2' h3' hl
  have hid0' : (0 : Int) < (id : Int) := by omega
  have hcf := ContainsFunc_any A bs.length c bs ⟨w.heap.size, 0, none⟩ id W (hr.ext hxW) rfl (by omega) c8
  rw [hh] at hcf
  go_wp2_with fail
  refine hcf.mono ?_
  rintro e W5 ⟨rfl, hx5'⟩
  have hx5 := hxW.trans hx5'
  have hb5 := hbW.ext hx5'
  have hT5 := h.ext hx5
  have hs5 := hx5.size
  clear hbW hTW c8 c3 hWs hxW hcf
  rcases hmk : mkId lim ts s with ⟨i2, e2⟩
  have he2 := mkId_two lim ts s
  have hi2 := mkId_le lim ts s
  have hmt := mkTs_le lim ts s
  have hmade := made_any2 s W5 hT5 hs hsm (Nat.le_trans hB hs5)
  rw [hmk] at he2 hi2 hmade
  go_wp2_with fail
  refine hmade.mono ?_
  rintro e w6 ⟨rfl, hbel, hch, vt', hT6, hfr⟩
  have hne8 : ¬ (w.heap.size = g ∨ w.heap.size = m ∨ vt.ownBlock = some w.heap.size) := by
    rintro (e | e | e)
    · omega
    · omega
    · have := htlt _ e; omega
  have hb6 := hch.blk hb5 hne8
  have f8 := hb6.frozen 0
  have c8 : w6.cell? ⟨w.heap.size, 0, none⟩ = some (.int .u64 (id : Int)) := hb6.cell 0
  have hb7 := hb6.set 0 (.int .u64 (i2 : Int))
  have hvt8 : ∀ k, vt'.ownBlock = some k → ¬ k = w.heap.size := fun k hk e => by
    rcases hfr with e3 | ⟨k3, e3, hk3⟩
    · have := htlt k (by rw [← e3]; exact hk); omega
    · rw [e3] at hk; injection hk with hk; have := hb5.lt; omega
  have hT7 : Tb B (w6.setCell ⟨w.heap.size, 0, none⟩ (.int .u64 (i2 : Int))) g lim (mkTs lim ts s) bs vt' (.slice A bs.length c) m := hT6.chg (Chg.one w6 w.heap.size 0 (.int .u64 (i2 : Int))) (by omega) (by omega) hvt8 (fun k hk e => by have := hvlt k hk; omega)
  have hch7 : Chg (fun k => k = g ∨ k = m ∨ vt.ownBlock = some k ∨ (Value.slice A bs.length c).ownBlock = some k) w (w6.setCell ⟨w.heap.size, 0, none⟩ (.int .u64 (i2 : Int))) := ((Chg.ofExt hx5).trans hch (fun i _ e => e.imp (fun z => z) (fun e => e.imp (fun z => z) .inl))).set (p := ⟨w.heap.size, 0, none⟩) (.inr (Nat.le_refl _)) _
  have hsz7 : W5.heap.size ≤ (w6.setCell ⟨w.heap.size, 0, none⟩ (.int .u64 (i2 : Int))).heap.size := by simpa using hch.size
  have hfr2 : Fresh w vt vt' := hfr.imp (fun e => e) (fun ⟨k, e1, e3⟩ => ⟨k, e1, by omega⟩)
  obtain ⟨w7, hw7⟩ : ∃ x, Hid (w6.setCell ⟨w.heap.size, 0, none⟩ (.int .u64 (i2 : Int)) = x) := ⟨_, rfl⟩
  rw [hw7.out] at hT7 hch7 hb7 hsz7
  clear hT6 hb6 hch hmade hbel hfr
  by_cases he0 : e2 = 0
  · subst he0
    have hgv : ¬ (Value.slice A bs.length c).ownBlock = some g := fun e => own_ne_blk hT7.bound hT7.blk (by decide) e.symm
    have h8v : ¬ (Value.slice A bs.length c).ownBlock = some w.heap.size := fun e => own_ne_blk hT7.bound hb7 (by decide) e.symm
    have hmv : ¬ (Value.slice A bs.length c).ownBlock = some m := fun e => by
      rcases hT7.bound.2 with ⟨e1, _⟩ | ⟨g', cap, cur, e1, _, hh, _⟩
      · rw [e1] at e; cases e
      · rw [e1] at e
        simp only [Value.ownBlock, Option.some.injEq] at e
        exact hT7.of.not_cells hh e.symm
    have htv : ∀ k, vt'.ownBlock = some k → ¬ (Value.slice A bs.length c).ownBlock = some k := fun k hk e => by
      rcases own_ne_own hT7.bound hT7.texts (by decide) with e1 | e1
      · rw [hk] at e1; cases e1
      · exact e1 (hk.trans e.symm)
    obtain ⟨W9, hW9⟩ : ∃ x, Hid ((w7.alloc (.cells #[.int .u64 (f : Int), .int .u64 (i2 : Int)] 43)).drew = x) := ⟨_, rfl⟩
    have hx9 : Ext w7 W9 := by rw [← hW9.out]; exact ((Ext.refl w7).alloc _).drew
    have hv9 : Blk W9 w7.heap.size (bnds [(f, i2)]).toArray 43 := by rw [← hW9.out]; exact (Blk.new w7 _ _).drew
    have hv7 : (Value.slice A bs.length c).ownBlock ≠ some w7.heap.size := fun e => by have := (hT7.bound.lt _ e).2; omega
    have hins := ins_any W9 B bs.length p w7.heap.size (.slice A bs.length c) bs (f, i2) (own_ext hT7.bound hx9) rfl hv9 hv7 (by omega) hpl (by have := hx9.size; omega)
    obtain ⟨q0, q1, q2, q3⟩ := hT7.cells
    have q8 : w7.cell? ⟨w.heap.size, 0, none⟩ = some (.int .u64 (i2 : Int)) := hb7.cell 0
    have r3 : (w7.alloc (.cells #[.int .u64 (f : Int), .int .u64 (i2 : Int)] 43)).cell? ⟨g, 3, none⟩ = some (.slice A bs.length c) := ((Ext.refl w7).alloc _).cell q3
    have r8 : (w7.alloc (.cells #[.int .u64 (f : Int), .int .u64 (i2 : Int)] 43)).cell? ⟨w.heap.size, 0, none⟩ = some (.int .u64 (i2 : Int)) := ((Ext.refl w7).alloc _).cell q8
    go_wp2_with fail
    rw [hw7.out]
    go_region_with (
      rw [hW9.out]
      refine hins.mono ?_
      rintro e w10 ⟨v', rfl, ho10, hc10, hfr10⟩
      obtain ⟨A10, c10, rfl, jj1, jj2, jj3, jj4⟩ := Rd.of_own ho10
      clear jj1 jj2 jj3 jj4
      have hb10 := hc10.blk (hT7.blk.ext hx9) hgv
      have hz10 := hc10.size
      have hk10 := hc10.blk (hb7.ext hx9) h8v
      have ht10 := own_chg (own_ext hT7.texts hx9) hc10 htv
      have hm10 := map_chg (hT7.of.ext hx9) hc10 hmv
      have q10 := hb10.cell 3
      have f10 := hb10.frozen 3)
    all_goals (
      rename_i hK
      refine hK _ _ ?_
      have hx97 := hx9.size
      have hc11 : Chg (fun k => k = g ∨ k = m ∨ vt.ownBlock = some k ∨ (Value.slice A bs.length c).ownBlock = some k) w (w10.setCell ⟨g, 3, none⟩ (.slice A10 (bs.length + 1) c10)) := ((hch7.trans (Chg.ofExt (S := fun _ => False) hx9) (fun _ _ e => e.elim)).trans hc10 (fun i _ e => .inr (.inr (.inr e)))).set (p := ⟨g, 3, none⟩) (.inl (.inl rfl)) _
      have hfr11 : Fresh w (.slice A bs.length c) (.slice A10 (bs.length + 1) c10) := hfr10.imp (fun e => e) (fun ⟨k, e1, e3⟩ => ⟨k, e1, by omega⟩)
      have hbv : Blk (w10.setCell ⟨g, 3, none⟩ (.slice A10 (bs.length + 1) c10)) g #[.int .u64 (lim : Int), vt', .map (some m), .slice A10 (bs.length + 1) c10] 54 := hb10.set 3 _
      have hg8 : g ≠ w.heap.size := by omega
      have hgm : g ≠ m := fun e => hT7.of.not_cells hT7.blk e.symm
      have hb11 : Blk (w10.setCell ⟨g, 3, none⟩ (.slice A10 (bs.length + 1) c10)) w.heap.size _ 25 := (Chg.one w10 g 3 (.slice A10 (bs.length + 1) c10)).blk hk10 (fun e => hg8 e.symm)
      have k8 : (w10.setCell ⟨g, 3, none⟩ (.slice A10 (bs.length + 1) c10)).cell? ⟨w.heap.size, 0, none⟩ = some (.int .u64 (i2 : Int)) := hb11.cell 0
      have hT11 : Tb B (w10.setCell ⟨g, 3, none⟩ (.slice A10 (bs.length + 1) c10)) g lim (mkTs lim ts s) (insAt bs p (f, i2)) vt' (.slice A10 (bs.length + 1) c10) m :=
        ⟨hbv, own_setCell (i := 3) ht10 hb10 (by decide) _, map_chg hm10 (Chg.one w10 g 3 _) (fun e => hgm e.symm), by rw [insAt_length _ _ _ hpl]; exact own_setCell (i := 3) ho10 hb10 (by decide) _, hT7.hg, hT7.hm, hT7.small⟩
      obtain ⟨w11, hw11⟩ : ∃ x, w10.setCell ⟨g, 3, none⟩ (.slice A10 (bs.length + 1) c10) = x := ⟨_, rfl⟩
      rw [hw11] at hc11 hT11 k8 ⊢
      clear hbv hb11 hb10 hk10 ht10 hm10 q10 f10 ho10 hc10 hw11
      rw [← hp.out] at hT11
      go_wp2_with fail
      all_goals (go_ret2; exact ⟨rfl, hc11, vt', _, hT11, hfr2, hfr11⟩))
  · obtain rfl : e2 = 8 := he2.resolve_left he0
    go_wp2_with fail
    all_goals (rw [hw7.out]; go_ret2; exact ⟨rfl, hch7, vt', _, hT7, hfr2, .inl rfl⟩)
set_option maxRecDepth 100000 in
set_option maxHeartbeats 1000000 in
theorem bind_c {B : Nat} {g lim : Nat} {ts : List ByteArray} {bs : List (Nat × Nat)} {vt vb : Value} {m : Nat} (f : Nat) (s : ByteArray) (w : World) (h : Tb B w g lim ts bs vt vb m) (hs : s.size ≤ maxLen) (hsm : ts.length ≤ 1000) (hbl : bs.length ≤ 999) (hri : Rise bs) (hf0 : 1 ≤ f) (hf1 : f ≤ 2147483647) (ht : there bs f = false) (hB : B ≤ w.heap.size) (hid : (idOf ts s).getD 0 = 0) :
    Calls Try.prog 11 #[.pointer (some ⟨g, 0, none⟩), .int .u64 (f : Int), .string s] w fun e w' => e = .returned (.tuple #[.int .u64 ((mkId lim ts s).1 : Int), .int .i64 ((mkId lim ts s).2 : Int)]) ∧ Chg (fun k => k = g ∨ k = m ∨ vt.ownBlock = some k ∨ vb.ownBlock = some k) w w' ∧ ∃ vt' vb', Tb B w' g lim (mkTs lim ts s) (if (mkId lim ts s).2 = 0 then insAt bs (pos bs f) (f, (mkId lim ts s).1) else bs) vt' vb' m ∧ Fresh w vt vt' ∧ Fresh w vb vb' := by
  obtain ⟨id, hide⟩ : ∃ id, Hid (id = 0) := ⟨0, rfl⟩
  replace hid : (idOf ts s).getD 0 = id := hid.trans hide.out.symm
  have hidl := idOf_le ts s
  rw [hid] at hidl
  have hpl := pos_le bs f
  have hfi : ∀ W, Tb B W g lim ts bs vt vb m → _ := fun W hW => find_any f W hW (by omega) hri
  rw [ht] at hfi
  obtain ⟨p, hp⟩ : ∃ p, Hid (pos bs f = p) := ⟨_, rfl⟩
  rw [hp.out] at hfi hpl
  have h1 : ¬ (f : Int) = 0 := by omega
  have h2 : ¬ (2147483647 : Int) < (f : Int) := by omega
  have h3 : ((f : Int) == 0) = false := by simp; omega
  obtain ⟨h0, h1', h2', h3'⟩ := h.cells
  have hl := h.of.look mt s hs
  rw [hid] at hl
  have hglt : g < w.heap.size := h.blk.lt
  have hmlt : m < w.heap.size := h.of.lt
  have htlt : ∀ k, vt.ownBlock = some k → k < w.heap.size := fun k hk => (h.texts.lt k hk).2
  have hvlt : ∀ k, vb.ownBlock = some k → k < w.heap.size := fun k hk => (h.bound.lt k hk).2
  have Hid1 := Lib.hid hid
  clear hid
  go_enter Try.func11, Try.ntmps11
  go_wp2_with fail
  generalize hw1 : World.alloc w _ = w1
  have hx1 : Ext w w1 := by rw [← hw1]; exact (Ext.refl w).alloc _
  have hb1 : Blk w1 w.heap.size #[.int .u64 (id : Int)] 25 := by rw [← hw1]; exact Blk.new w _ _
  clear hw1
  refine (hfi w1 (h.ext hx1)).mono ?_
  rintro e w2 ⟨rfl, hx2⟩
  obtain ⟨A, c, rfl, hr, _⟩ := h.vb_eq
  clear hfi
  go_wp2_with fail
  refine Reg.startE (by kernel_rfl) ?_
  refine Reg.takeE 0 _ _ rfl (by kernel_rfl) (by kernel_rfl) (by kernel_rfl) (by decide) (fun _ _ _ h => by first | exact h | exact hP _ _ _ _ h) (by rfl) (fun W hW => by go_simp; with_reducible rfl) ?_; (try simp only [Act.put, Act.eval, List.getElem?_toArray, List.getElem_toArray, List.getElem?_cons_zero, List.getElem?_cons_succ, List.getElem_cons_zero, List.getElem_cons_succ, Option.getD_some, List.setIfInBounds_toArray, List.set_cons_zero, List.set_cons_succ])
  refine Reg.takeE 1 _ _ rfl (by kernel_rfl) (by kernel_rfl) (by kernel_rfl) (by decide) (fun _ _ _ h => by first | exact h | exact hP _ _ _ _ h) (by rfl) (fun W hW => by go_simp; with_reducible rfl) ?_; (try simp only [Act.put, Act.eval, List.getElem?_toArray, List.getElem_toArray, List.getElem?_cons_zero, List.getElem?_cons_succ, List.getElem_cons_zero, List.getElem_cons_succ, Option.getD_some, List.setIfInBounds_toArray, List.set_cons_zero, List.set_cons_succ])
  refine Reg.skipE 2 _ rfl (by kernel_rfl) (by kernel_rfl) (by kernel_rfl) (by decide) (fun _ _ _ h => by first | exact h | exact hP _ _ _ _ h) (by rfl) ?_; (try simp only [Act.put, Act.eval, List.getElem?_toArray, List.getElem_toArray, List.getElem?_cons_zero, List.getElem?_cons_succ, List.getElem_cons_zero, List.getElem_cons_succ, Option.getD_some, List.setIfInBounds_toArray, List.set_cons_zero, List.set_cons_succ])
  refine Reg.skipE 3 _ rfl (by kernel_rfl) (by kernel_rfl) (by kernel_rfl) (by decide) (fun _ _ _ h => by first | exact h | exact hP _ _ _ _ h) (by rfl) ?_; (try simp only [Act.put, Act.eval, List.getElem?_toArray, List.getElem_toArray, List.getElem?_cons_zero, List.getElem?_cons_succ, List.getElem_cons_zero, List.getElem_cons_succ, Option.getD_some, List.setIfInBounds_toArray, List.set_cons_zero, List.set_cons_succ])
  refine Reg.skipE 4 _ rfl (by kernel_rfl) (by kernel_rfl) (by kernel_rfl) (by decide) (fun _ _ _ h => by first | exact h | exact hP _ _ _ _ h) (by rfl) ?_; (try simp only [Act.put, Act.eval, List.getElem?_toArray, List.getElem_toArray, List.getElem?_cons_zero, List.getElem?_cons_succ, List.getElem_cons_zero, List.getElem_cons_succ, Option.getD_some, List.setIfInBounds_toArray, List.set_cons_zero, List.set_cons_succ])
  refine Reg.skipE 5 _ rfl (by kernel_rfl) (by kernel_rfl) (by kernel_rfl) (by decide) (fun _ _ _ h => by first | exact h | exact hP _ _ _ _ h) (by rfl) ?_; (try simp only [Act.put, Act.eval, List.getElem?_toArray, List.getElem_toArray, List.getElem?_cons_zero, List.getElem?_cons_succ, List.getElem_cons_zero, List.getElem_cons_succ, Option.getD_some, List.setIfInBounds_toArray, List.set_cons_zero, List.set_cons_succ])
  refine Reg.skipE 6 _ rfl (by kernel_rfl) (by kernel_rfl) (by kernel_rfl) (by decide) (fun _ _ _ h => by first | exact h | exact hP _ _ _ _ h) (by rfl) ?_; (try simp only [Act.put, Act.eval, List.getElem?_toArray, List.getElem_toArray, List.getElem?_cons_zero, List.getElem?_cons_succ, List.getElem_cons_zero, List.getElem_cons_succ, Option.getD_some, List.setIfInBounds_toArray, List.set_cons_zero, List.set_cons_succ])
  refine Reg.skipE 7 _ rfl (by kernel_rfl) (by kernel_rfl) (by kernel_rfl) (by decide) (fun _ _ _ h => by first | exact h | exact hP _ _ _ _ h) (by rfl) ?_; (try simp only [Act.put, Act.eval, List.getElem?_toArray, List.getElem_toArray, List.getElem?_cons_zero, List.getElem?_cons_succ, List.getElem_cons_zero, List.getElem_cons_succ, Option.getD_some, List.setIfInBounds_toArray, List.set_cons_zero, List.set_cons_succ])
  refine Reg.skipE 8 _ rfl (by kernel_rfl) (by kernel_rfl) (by kernel_rfl) (by decide) (fun _ _ _ h => by first | exact h | exact hP _ _ _ _ h) (by rfl) ?_; (try simp only [Act.put, Act.eval, List.getElem?_toArray, List.getElem_toArray, List.getElem?_cons_zero, List.getElem?_cons_succ, List.getElem_cons_zero, List.getElem_cons_succ, Option.getD_some, List.setIfInBounds_toArray, List.set_cons_zero, List.set_cons_succ])
  refine Reg.skipE 9 _ rfl (by kernel_rfl) (by kernel_rfl) (by kernel_rfl) (by decide) (fun _ _ _ h => by first | exact h | exact hP _ _ _ _ h) (by rfl) ?_; (try simp only [Act.put, Act.eval, List.getElem?_toArray, List.getElem_toArray, List.getElem?_cons_zero, List.getElem?_cons_succ, List.getElem_cons_zero, List.getElem_cons_succ, Option.getD_some, List.setIfInBounds_toArray, List.set_cons_zero, List.set_cons_succ])
  refine Reg.skipE 10 _ rfl (by kernel_rfl) (by kernel_rfl) (by kernel_rfl) (by decide) (fun _ _ _ h => by first | exact h | exact hP _ _ _ _ h) (by rfl) ?_; (try simp only [Act.put, Act.eval, List.getElem?_toArray, List.getElem_toArray, List.getElem?_cons_zero, List.getElem?_cons_succ, List.getElem_cons_zero, List.getElem_cons_succ, Option.getD_some, List.setIfInBounds_toArray, List.set_cons_zero, List.set_cons_succ])
  refine Reg.skipE 11 _ rfl (by kernel_rfl) (by kernel_rfl) (by kernel_rfl) (by decide) (fun _ _ _ h => by first | exact h | exact hP _ _ _ _ h) (by rfl) ?_; (try simp only [Act.put, Act.eval, List.getElem?_toArray, List.getElem_toArray, List.getElem?_cons_zero, List.getElem?_cons_succ, List.getElem_cons_zero, List.getElem_cons_succ, Option.getD_some, List.setIfInBounds_toArray, List.set_cons_zero, List.set_cons_succ])
  refine Reg.takeE 12 _ _ rfl (by kernel_rfl) (by kernel_rfl) (by kernel_rfl) (by decide) (fun _ _ _ h => by first | exact h | exact hP _ _ _ _ h) (by rfl) (fun W hW => by go_simp; with_reducible rfl) ?_; (try simp only [Act.put, Act.eval, List.getElem?_toArray, List.getElem_toArray, List.getElem?_cons_zero, List.getElem?_cons_succ, List.getElem_cons_zero, List.getElem_cons_succ, Option.getD_some, List.setIfInBounds_toArray, List.set_cons_zero, List.set_cons_succ])
  refine Reg.takeE 13 _ _ rfl (by kernel_rfl) (by kernel_rfl) (by kernel_rfl) (by decide) (fun _ _ _ h => by first | exact h | exact hP _ _ _ _ h) (by rfl) (fun W hW => by go_simp; with_reducible rfl) ?_; (try simp only [Act.put, Act.eval, List.getElem?_toArray, List.getElem_toArray, List.getElem?_cons_zero, List.getElem?_cons_succ, List.getElem_cons_zero, List.getElem_cons_succ, Option.getD_some, List.setIfInBounds_toArray, List.set_cons_zero, List.set_cons_succ])
  refine Reg.fin (by kernel_rfl) (fun W hW => ?_)
  have hxW : Ext w W := hx1.trans (hx2.trans hW)
  have hbW := (hb1.ext hx2).ext hW
  have hTW := h.ext hxW
  have c8 : W.cell? ⟨w.heap.size, 0, none⟩ = some (.int .u64 (id : Int)) := hbW.cell 0
  obtain ⟨_, _, _, c3⟩ := hTW.cells
  have hWs := hxW.size
  clear hx1 hx2 hb1 h0 h1' h2' h3' hl
  have hid0' : ¬ (0 : Int) < (id : Int) := by have := hide.out; omega
  obtain ⟨W5, hWe⟩ : ∃ x, x = W := ⟨_, rfl⟩
  subst hWe
  have hx5 := hxW
  have hb5 := hbW
  have hT5 := h.ext hx5
  have hs5 := hx5.size
  clear hbW hTW hWs hxW
  rcases hmk : mkId lim ts s with ⟨i2, e2⟩
  have he2 := mkId_two lim ts s
  have hi2 := mkId_le lim ts s
  have hmt := mkTs_le lim ts s
  have hmade := made_any2 s W5 hT5 hs hsm (Nat.le_trans hB hs5)
  rw [hmk] at he2 hi2 hmade
  go_wp2_with fail
  refine hmade.mono ?_
  rintro e w6 ⟨rfl, hbel, hch, vt', hT6, hfr⟩
  have hne8 : ¬ (w.heap.size = g ∨ w.heap.size = m ∨ vt.ownBlock = some w.heap.size) := by
    rintro (e | e | e)
    · omega
    · omega
    · have := htlt _ e; omega
  have hb6 := hch.blk hb5 hne8
  have f8 := hb6.frozen 0
  have c8 : w6.cell? ⟨w.heap.size, 0, none⟩ = some (.int .u64 (id : Int)) := hb6.cell 0
  have hb7 := hb6.set 0 (.int .u64 (i2 : Int))
  have hvt8 : ∀ k, vt'.ownBlock = some k → ¬ k = w.heap.size := fun k hk e => by
    rcases hfr with e3 | ⟨k3, e3, hk3⟩
    · have := htlt k (by rw [← e3]; exact hk); omega
    · rw [e3] at hk; injection hk with hk; have := hb5.lt; omega
  have hT7 : Tb B (w6.setCell ⟨w.heap.size, 0, none⟩ (.int .u64 (i2 : Int))) g lim (mkTs lim ts s) bs vt' (.slice A bs.length c) m := hT6.chg (Chg.one w6 w.heap.size 0 (.int .u64 (i2 : Int))) (by omega) (by omega) hvt8 (fun k hk e => by have := hvlt k hk; omega)
  have hch7 : Chg (fun k => k = g ∨ k = m ∨ vt.ownBlock = some k ∨ (Value.slice A bs.length c).ownBlock = some k) w (w6.setCell ⟨w.heap.size, 0, none⟩ (.int .u64 (i2 : Int))) := ((Chg.ofExt hx5).trans hch (fun i _ e => e.imp (fun z => z) (fun e => e.imp (fun z => z) .inl))).set (p := ⟨w.heap.size, 0, none⟩) (.inr (Nat.le_refl _)) _
  have hsz7 : W5.heap.size ≤ (w6.setCell ⟨w.heap.size, 0, none⟩ (.int .u64 (i2 : Int))).heap.size := by simpa using hch.size
  have hfr2 : Fresh w vt vt' := hfr.imp (fun e => e) (fun ⟨k, e1, e3⟩ => ⟨k, e1, by omega⟩)
  obtain ⟨w7, hw7⟩ : ∃ x, Hid (w6.setCell ⟨w.heap.size, 0, none⟩ (.int .u64 (i2 : Int)) = x) := ⟨_, rfl⟩
  rw [hw7.out] at hT7 hch7 hb7 hsz7
  clear hT6 hb6 hch hmade hbel hfr
  by_cases he0 : e2 = 0
  · subst he0
    have hgv : ¬ (Value.slice A bs.length c).ownBlock = some g := fun e => own_ne_blk hT7.bound hT7.blk (by decide) e.symm
    have h8v : ¬ (Value.slice A bs.length c).ownBlock = some w.heap.size := fun e => own_ne_blk hT7.bound hb7 (by decide) e.symm
    have hmv : ¬ (Value.slice A bs.length c).ownBlock = some m := fun e => by
      rcases hT7.bound.2 with ⟨e1, _⟩ | ⟨g', cap, cur, e1, _, hh, _⟩
      · rw [e1] at e; cases e
      · rw [e1] at e
        simp only [Value.ownBlock, Option.some.injEq] at e
        exact hT7.of.not_cells hh e.symm
    have htv : ∀ k, vt'.ownBlock = some k → ¬ (Value.slice A bs.length c).ownBlock = some k := fun k hk e => by
      rcases own_ne_own hT7.bound hT7.texts (by decide) with e1 | e1
      · rw [hk] at e1; cases e1
      · exact e1 (hk.trans e.symm)
    obtain ⟨W9, hW9⟩ : ∃ x, Hid ((w7.alloc (.cells #[.int .u64 (f : Int), .int .u64 (i2 : Int)] 43)).drew = x) := ⟨_, rfl⟩
    have hx9 : Ext w7 W9 := by rw [← hW9.out]; exact ((Ext.refl w7).alloc _).drew
    have hv9 : Blk W9 w7.heap.size (bnds [(f, i2)]).toArray 43 := by rw [← hW9.out]; exact (Blk.new w7 _ _).drew
    have hv7 : (Value.slice A bs.length c).ownBlock ≠ some w7.heap.size := fun e => by have := (hT7.bound.lt _ e).2; omega
    have hins := ins_any W9 B bs.length p w7.heap.size (.slice A bs.length c) bs (f, i2) (own_ext hT7.bound hx9) rfl hv9 hv7 (by omega) hpl (by have := hx9.size; omega)
    obtain ⟨q0, q1, q2, q3⟩ := hT7.cells
    have q8 : w7.cell? ⟨w.heap.size, 0, none⟩ = some (.int .u64 (i2 : Int)) := hb7.cell 0
    have r3 : (w7.alloc (.cells #[.int .u64 (f : Int), .int .u64 (i2 : Int)] 43)).cell? ⟨g, 3, none⟩ = some (.slice A bs.length c) := ((Ext.refl w7).alloc _).cell q3
    have r8 : (w7.alloc (.cells #[.int .u64 (f : Int), .int .u64 (i2 : Int)] 43)).cell? ⟨w.heap.size, 0, none⟩ = some (.int .u64 (i2 : Int)) := ((Ext.refl w7).alloc _).cell q8
    go_wp2_with fail
    rw [hw7.out]
    go_region_with (
      rw [hW9.out]
      refine hins.mono ?_
      rintro e w10 ⟨v', rfl, ho10, hc10, hfr10⟩
      obtain ⟨A10, c10, rfl, jj1, jj2, jj3, jj4⟩ := Rd.of_own ho10
      clear jj1 jj2 jj3 jj4
      have hb10 := hc10.blk (hT7.blk.ext hx9) hgv
      have hz10 := hc10.size
      have hk10 := hc10.blk (hb7.ext hx9) h8v
      have ht10 := own_chg (own_ext hT7.texts hx9) hc10 htv
      have hm10 := map_chg (hT7.of.ext hx9) hc10 hmv
      have q10 := hb10.cell 3
      have f10 := hb10.frozen 3)
    all_goals (
      rename_i hK
      refine hK _ _ ?_
      have hx97 := hx9.size
      have hc11 : Chg (fun k => k = g ∨ k = m ∨ vt.ownBlock = some k ∨ (Value.slice A bs.length c).ownBlock = some k) w (w10.setCell ⟨g, 3, none⟩ (.slice A10 (bs.length + 1) c10)) := ((hch7.trans (Chg.ofExt (S := fun _ => False) hx9) (fun _ _ e => e.elim)).trans hc10 (fun i _ e => .inr (.inr (.inr e)))).set (p := ⟨g, 3, none⟩) (.inl (.inl rfl)) _
      have hfr11 : Fresh w (.slice A bs.length c) (.slice A10 (bs.length + 1) c10) := hfr10.imp (fun e => e) (fun ⟨k, e1, e3⟩ => ⟨k, e1, by omega⟩)
      have hbv : Blk (w10.setCell ⟨g, 3, none⟩ (.slice A10 (bs.length + 1) c10)) g #[.int .u64 (lim : Int), vt', .map (some m), .slice A10 (bs.length + 1) c10] 54 := hb10.set 3 _
      have hg8 : g ≠ w.heap.size := by omega
      have hgm : g ≠ m := fun e => hT7.of.not_cells hT7.blk e.symm
      have hb11 : Blk (w10.setCell ⟨g, 3, none⟩ (.slice A10 (bs.length + 1) c10)) w.heap.size _ 25 := (Chg.one w10 g 3 (.slice A10 (bs.length + 1) c10)).blk hk10 (fun e => hg8 e.symm)
      have k8 : (w10.setCell ⟨g, 3, none⟩ (.slice A10 (bs.length + 1) c10)).cell? ⟨w.heap.size, 0, none⟩ = some (.int .u64 (i2 : Int)) := hb11.cell 0
      have hT11 : Tb B (w10.setCell ⟨g, 3, none⟩ (.slice A10 (bs.length + 1) c10)) g lim (mkTs lim ts s) (insAt bs p (f, i2)) vt' (.slice A10 (bs.length + 1) c10) m :=
        ⟨hbv, own_setCell (i := 3) ht10 hb10 (by decide) _, map_chg hm10 (Chg.one w10 g 3 _) (fun e => hgm e.symm), by rw [insAt_length _ _ _ hpl]; exact own_setCell (i := 3) ho10 hb10 (by decide) _, hT7.hg, hT7.hm, hT7.small⟩
      obtain ⟨w11, hw11⟩ : ∃ x, w10.setCell ⟨g, 3, none⟩ (.slice A10 (bs.length + 1) c10) = x := ⟨_, rfl⟩
      rw [hw11] at hc11 hT11 k8 ⊢
      clear hbv hb11 hb10 hk10 ht10 hm10 q10 f10 ho10 hc10 hw11
      rw [← hp.out] at hT11
      go_wp2_with fail
      all_goals (go_ret2; exact ⟨rfl, hc11, vt', _, hT11, hfr2, hfr11⟩))
  · obtain rfl : e2 = 8 := he2.resolve_left he0
    go_wp2_with fail
    all_goals (rw [hw7.out]; go_ret2; exact ⟨rfl, hch7, vt', _, hT7, hfr2, .inl rfl⟩)
end Go.Proofs.Ytalbjbcomamomaa.IdsW
