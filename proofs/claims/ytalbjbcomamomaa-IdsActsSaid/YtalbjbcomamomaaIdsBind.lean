/- ids: Bind. -/
import Derived.Test.YtalbjbcomamomaaIdsIns
namespace Go.Proofs.Ytalbjbcomamomaa.IdsW
open Go.ChangeShapes Go.WideShapes Go.ChangeAt Go.RowKit
open Base Mp
set_option linter.unusedVariables false
set_option linter.unusedSimpArgs false

theorem own_chg {S : Nat → Prop} {w w' : World} {base : Nat} {e : TypeId} {size n : Nat} {v : Value} {xs : List Value} (h : w.ownsRow base e size v n xs) (hx : Chg S w w') (hS : ∀ k, v.ownBlock = some k → ¬ S k) : w'.ownsRow base e size v n xs := by
  refine ⟨h.1, ?_⟩
  rcases h.2 with h2 | ⟨g, cap, cur, rfl, hb, hg, r⟩
  · exact .inl h2
  · exact .inr ⟨g, cap, cur, rfl, hb, hx.heap hg (hS g rfl), r⟩
theorem map_chg {S : Nat → Prop} {w w' : World} {k e : TypeId} {b n : Nat} {f : ByteArray → Option Nat} (h : MapU Try.prog k e w b n f) (hx : Chg S w w') (hS : ¬ S b) : MapU Try.prog k e w' b n f := by
  obtain ⟨D, ⟨es, clock, hb, r⟩, h2⟩ := h
  exact ⟨D, ⟨es, clock, hx.heap hb hS, r⟩, h2⟩
theorem Tb.chg {S : Nat → Prop} {B : Nat} {w w' : World} {g lim : Nat} {ts : List ByteArray} {bs : List (Nat × Nat)} {vt vb : Value} {m : Nat} (h : Tb B w g lim ts bs vt vb m) (hx : Chg S w w') (h1 : ¬ S g) (h2 : ¬ S m) (h3 : ∀ k, vt.ownBlock = some k → ¬ S k) (h4 : ∀ k, vb.ownBlock = some k → ¬ S k) : Tb B w' g lim ts bs vt vb m :=
  ⟨hx.blk h.blk h1, own_chg h.texts hx h3, map_chg h.of hx h2, own_chg h.bound hx h4, h.hg, h.hm, h.small⟩
theorem rl_chg (S : Nat → Prop) : Reg.Rl (Chg S) := ⟨Chg.refl S, fun h k => h.trans k (fun _ _ x => x), fun h => ⟨h.os, h.tape, h.output, h.size, h.block⟩⟩
theorem mkId_two (lim : Nat) (ts : List ByteArray) (s : ByteArray) : (mkId lim ts s).2 = 0 ∨ (mkId lim ts s).2 = 8 := by
  unfold mkId
  split
  · exact .inl rfl
  · split
    · exact .inr rfl
    · exact .inl rfl
theorem mkId_le (lim : Nat) (ts : List ByteArray) (s : ByteArray) : (mkId lim ts s).1 ≤ ts.length + 1 := by
  unfold mkId
  split
  · next k hk => have := idOf_some hk; simp; omega
  · split <;> simp

/-- what Bind gives; what it leaves -/
def bdId (lim : Nat) (ts : List ByteArray) (bs : List (Nat × Nat)) (f : Nat) (s : ByteArray) : Nat × Nat :=
  if f = 0 ∨ 2147483647 < f then (0, 1)
  else if there bs f = true then (if mapOf bs f = some ((idOf ts s).getD 0) then ((idOf ts s).getD 0, 0) else (0, 6))
  else if 0 < (idOf ts s).getD 0 ∧ hasTo bs ((idOf ts s).getD 0) = true then (0, 6)
  else mkId lim ts s
def bdTs (lim : Nat) (ts : List ByteArray) (bs : List (Nat × Nat)) (f : Nat) (s : ByteArray) : List ByteArray :=
  if f = 0 ∨ 2147483647 < f then ts
  else if there bs f = true then ts
  else if 0 < (idOf ts s).getD 0 ∧ hasTo bs ((idOf ts s).getD 0) = true then ts
  else mkTs lim ts s
def bdBs (lim : Nat) (ts : List ByteArray) (bs : List (Nat × Nat)) (f : Nat) (s : ByteArray) : List (Nat × Nat) :=
  if f = 0 ∨ 2147483647 < f then bs
  else if there bs f = true then bs
  else if 0 < (idOf ts s).getD 0 ∧ hasTo bs ((idOf ts s).getD 0) = true then bs
  else if (mkId lim ts s).2 = 0 then insAt bs (pos bs f) (f, (mkId lim ts s).1) else bs

/-- Bind, but for its last part -/
theorem bind_early {B : Nat} {g lim : Nat} {ts : List ByteArray} {bs : List (Nat × Nat)} {vt vb : Value} {m : Nat} (f : Nat) (s : ByteArray) (w : World) (h : Tb B w g lim ts bs vt vb m) (hs : s.size ≤ maxLen) (hsm : ts.length ≤ 1000) (hbl : bs.length ≤ 1000) (hri : Rise bs) (hf : f = 0 ∨ 2147483647 < f) :
    Calls Try.prog 11 #[.pointer (some ⟨g, 0, none⟩), .int .u64 (f : Int), .string s] w fun e w' => e = .returned (.tuple #[.int .u64 0, .int .i64 1]) ∧ w = w' := by
  go_enter Try.func11, Try.ntmps11
  by_cases h0 : f = 0
  · subst h0
    go_wp2_with fail
    go_ret2
    exact ⟨rfl, rfl⟩
  · have h1 : ¬ (f : Int) = 0 := by omega
    have h2 : (2147483647 : Int) < (f : Int) := by omega
    have h3 : ((f : Int) == 0) = false := by simpa using h0
    go_wp2_with fail
    go_ret2
    exact ⟨rfl, rfl⟩

set_option maxHeartbeats 1000000 in
theorem bind_there {B : Nat} {g lim : Nat} {ts : List ByteArray} {bs : List (Nat × Nat)} {vt vb : Value} {m : Nat} (f : Nat) (s : ByteArray) (w : World) (h : Tb B w g lim ts bs vt vb m) (hs : s.size ≤ maxLen) (hsm : ts.length ≤ 1000) (hbl : bs.length ≤ 1000) (hri : Rise bs) (hf0 : 1 ≤ f) (hf1 : f ≤ 2147483647) (ht : there bs f = true) (hB : B ≤ w.heap.size) :
    Calls Try.prog 11 #[.pointer (some ⟨g, 0, none⟩), .int .u64 (f : Int), .string s] w fun e w' => e = .returned (.tuple #[.int .u64 ((bdId lim ts bs f s).1 : Int), .int .i64 ((bdId lim ts bs f s).2 : Int)]) ∧ Ext w w' := by
  obtain ⟨id, hid⟩ : ∃ id, Hid ((idOf ts s).getD 0 = id) := ⟨_, rfl⟩
  have hidl := idOf_le ts s
  rw [hid.out] at hidl
  obtain ⟨x, hxp⟩ : ∃ x, bs[pos bs f]? = some x := by
    unfold there at ht
    cases hq : bs[pos bs f]? with
    | none => rw [hq] at ht; cases ht
    | some x => exact ⟨x, rfl⟩
  have hmo : mapOf bs f = some x.2 := by unfold mapOf; rw [if_pos ht, hxp]; rfl
  have hbd : bdId lim ts bs f s = if x.2 = id then (id, 0) else (0, 6) := by
    unfold bdId
    rw [if_neg (by omega), if_pos ht, hmo, hid.out]
    by_cases e : x.2 = id
    · rw [if_pos e, if_pos (by rw [e])]
    · rw [if_neg e, if_neg (by simpa using e)]
  have hlt : pos bs f < bs.length := (List.getElem?_eq_some_iff.1 hxp).1
  have hfi : ∀ W, Tb B W g lim ts bs vt vb m → _ := fun W hW => find_any f W hW hbl hri
  rw [ht] at hfi
  obtain ⟨p, hp⟩ : ∃ p, Hid (pos bs f = p) := ⟨_, rfl⟩
  rw [hp.out] at hfi hxp hlt
  have hlt' : (p : Int) < (bs.length : Int) := by omega
  have h1 : ¬ (f : Int) = 0 := by omega
  have h2 : ¬ (2147483647 : Int) < (f : Int) := by omega
  have h3 : ((f : Int) == 0) = false := by simp; omega
  obtain ⟨h0, h1', h2', h3'⟩ := h.cells
  have hl := h.of.look mt s hs
  rw [hid.out] at hl
  rw [hbd]
  clear hbd hmo
  go_enter Try.func11, Try.ntmps11
  go_wp2_with fail
  generalize hw1 : World.alloc w _ = w1
  have hx1 : Ext w w1 := by rw [← hw1]; exact (Ext.refl w).alloc _
  have hb1 : Blk w1 w.heap.size #[.int .u64 (id : Int)] 25 := by rw [← hw1]; exact Blk.new w _ _
  clear hw1
  refine (hfi w1 (h.ext hx1)).mono ?_
  rintro e w2 ⟨rfl, hx2⟩
  obtain ⟨A, c, rfl, hr, _⟩ := h.vb_eq
  obtain ⟨b, off, rfl⟩ := bnds_some hr (by omega)
  have hc8 : ∀ W, Ext w2 W → W.cell? ⟨w.heap.size, 0, none⟩ = some (.int .u64 (id : Int)) := fun W hW => ((hb1.ext hx2).ext hW).cell 0
  have hc3 : ∀ W, Ext w2 W → W.cell? ⟨g, 3, none⟩ = some (.slice (some ⟨b, off, none⟩) bs.length c) := fun W hW => (((h.ext hx1).ext hx2).ext hW).cells.2.2.2
  have hcx : ∀ W, Ext w2 W → W.cell? ⟨b, off + p * 2 + 1, none⟩ = some (.int .u64 (x.2 : Int)) := fun W hW => (bnds_cell (hr.ext ((hx1.trans hx2).trans hW)) p x hxp).2
  by_cases he : x.2 = id
  · have heb : decide (x.2 = id) = true := by simpa using he
    go_wp2_with fail
    refine Reg.startE (by kernel_rfl) ?_
    refine Reg.takeE 0 _ _ rfl (by kernel_rfl) (by kernel_rfl) (by kernel_rfl) (by decide) (fun _ _ _ h => by first | exact h | exact hP _ _ _ _ h) (by rfl) (fun W hW => by go_simp; with_reducible rfl) ?_; (try simp only [Act.put, Act.eval, List.getElem?_toArray, List.getElem_toArray, List.getElem?_cons_zero, List.getElem?_cons_succ, List.getElem_cons_zero, List.getElem_cons_succ, Option.getD_some, List.setIfInBounds_toArray, List.set_cons_zero, List.set_cons_succ])
    refine Reg.takeE 1 _ _ rfl (by kernel_rfl) (by kernel_rfl) (by kernel_rfl) (by decide) (fun _ _ _ h => by first | exact h | exact hP _ _ _ _ h) (by rfl) (fun W hW => by go_simp; with_reducible rfl) ?_; (try simp only [Act.put, Act.eval, List.getElem?_toArray, List.getElem_toArray, List.getElem?_cons_zero, List.getElem?_cons_succ, List.getElem_cons_zero, List.getElem_cons_succ, Option.getD_some, List.setIfInBounds_toArray, List.set_cons_zero, List.set_cons_succ])
    refine Reg.takeE 2 _ _ rfl (by kernel_rfl) (by kernel_rfl) (by kernel_rfl) (by decide) (fun _ _ _ h => by first | exact h | exact hP _ _ _ _ h) (by rfl) (fun W hW => by go_simp; with_reducible rfl) ?_; (try simp only [Act.put, Act.eval, List.getElem?_toArray, List.getElem_toArray, List.getElem?_cons_zero, List.getElem?_cons_succ, List.getElem_cons_zero, List.getElem_cons_succ, Option.getD_some, List.setIfInBounds_toArray, List.set_cons_zero, List.set_cons_succ])
    refine Reg.takeE 3 _ _ rfl (by kernel_rfl) (by kernel_rfl) (by kernel_rfl) (by decide) (fun _ _ _ h => by first | exact h | exact hP _ _ _ _ h) (by rfl) (fun W hW => by go_simp; with_reducible rfl) ?_; (try simp only [Act.put, Act.eval, List.getElem?_toArray, List.getElem_toArray, List.getElem?_cons_zero, List.getElem?_cons_succ, List.getElem_cons_zero, List.getElem_cons_succ, Option.getD_some, List.setIfInBounds_toArray, List.set_cons_zero, List.set_cons_succ])
    refine Reg.takeE 4 _ _ rfl (by kernel_rfl) (by kernel_rfl) (by kernel_rfl) (by decide) (fun _ _ _ h => by first | exact h | exact hP _ _ _ _ h) (by rfl) (fun W hW => by go_simp; with_reducible rfl) ?_; (try simp only [Act.put, Act.eval, List.getElem?_toArray, List.getElem_toArray, List.getElem?_cons_zero, List.getElem?_cons_succ, List.getElem_cons_zero, List.getElem_cons_succ, Option.getD_some, List.setIfInBounds_toArray, List.set_cons_zero, List.set_cons_succ])
    refine Reg.takeE 5 _ _ rfl (by kernel_rfl) (by kernel_rfl) (by kernel_rfl) (by decide) (fun _ _ _ h => by first | exact h | exact hP _ _ _ _ h) (by rfl) (fun W hW => by go_simp; with_reducible rfl) ?_; (try simp only [Act.put, Act.eval, List.getElem?_toArray, List.getElem_toArray, List.getElem?_cons_zero, List.getElem?_cons_succ, List.getElem_cons_zero, List.getElem_cons_succ, Option.getD_some, List.setIfInBounds_toArray, List.set_cons_zero, List.set_cons_succ])
    refine Reg.takeE 6 _ _ rfl (by kernel_rfl) (by kernel_rfl) (by kernel_rfl) (by decide) (fun _ _ _ h => by first | exact h | exact hP _ _ _ _ h) (by rfl) (fun W hW => by go_simp; with_reducible rfl) ?_; (try simp only [Act.put, Act.eval, List.getElem?_toArray, List.getElem_toArray, List.getElem?_cons_zero, List.getElem?_cons_succ, List.getElem_cons_zero, List.getElem_cons_succ, Option.getD_some, List.setIfInBounds_toArray, List.set_cons_zero, List.set_cons_succ])
    refine Reg.takeE 7 _ _ rfl (by kernel_rfl) (by kernel_rfl) (by kernel_rfl) (by decide) (fun _ _ _ h => by first | exact h | exact hP _ _ _ _ h) (by rfl) (fun W hW => by go_simp; with_reducible rfl) ?_; (try simp only [Act.put, Act.eval, List.getElem?_toArray, List.getElem_toArray, List.getElem?_cons_zero, List.getElem?_cons_succ, List.getElem_cons_zero, List.getElem_cons_succ, Option.getD_some, List.setIfInBounds_toArray, List.set_cons_zero, List.set_cons_succ])
    refine Reg.takeE 8 _ _ rfl (by kernel_rfl) (by kernel_rfl) (by kernel_rfl) (by decide) (fun _ _ _ h => by first | exact h | exact hP _ _ _ _ h) (by rfl) (fun W hW => by go_simp; with_reducible rfl) ?_; (try simp only [Act.put, Act.eval, List.getElem?_toArray, List.getElem_toArray, List.getElem?_cons_zero, List.getElem?_cons_succ, List.getElem_cons_zero, List.getElem_cons_succ, Option.getD_some, List.setIfInBounds_toArray, List.set_cons_zero, List.set_cons_succ])
    refine Reg.takeE 9 _ _ rfl (by kernel_rfl) (by kernel_rfl) (by kernel_rfl) (by decide) (fun _ _ _ h => by first | exact h | exact hP _ _ _ _ h) (by rfl) (fun W hW => by go_simp; with_reducible rfl) ?_; (try simp only [Act.put, Act.eval, List.getElem?_toArray, List.getElem_toArray, List.getElem?_cons_zero, List.getElem?_cons_succ, List.getElem_cons_zero, List.getElem_cons_succ, Option.getD_some, List.setIfInBounds_toArray, List.set_cons_zero, List.set_cons_succ])
    refine Reg.takeE 10 _ _ rfl (by kernel_rfl) (by kernel_rfl) (by kernel_rfl) (by decide) (fun _ _ _ h => by first | exact h | exact hP _ _ _ _ h) (by rfl) (fun W hW => by go_simp; with_reducible rfl) ?_; (try simp only [Act.put, Act.eval, List.getElem?_toArray, List.getElem_toArray, List.getElem?_cons_zero, List.getElem?_cons_succ, List.getElem_cons_zero, List.getElem_cons_succ, Option.getD_some, List.setIfInBounds_toArray, List.set_cons_zero, List.set_cons_succ])
    refine Reg.takeE 11 _ _ rfl (by kernel_rfl) (by kernel_rfl) (by kernel_rfl) (by decide) (fun _ _ _ h => by first | exact h | exact hP _ _ _ _ h) (by rfl) (fun W hW => by go_simp; with_reducible rfl) ?_; (try simp only [Act.put, Act.eval, List.getElem?_toArray, List.getElem_toArray, List.getElem?_cons_zero, List.getElem?_cons_succ, List.getElem_cons_zero, List.getElem_cons_succ, Option.getD_some, List.setIfInBounds_toArray, List.set_cons_zero, List.set_cons_succ])
    refine Reg.takeE 12 _ _ rfl (by kernel_rfl) (by kernel_rfl) (by kernel_rfl) (by decide) (fun _ _ _ h => by first | exact h | exact hP _ _ _ _ h) (by rfl) (fun W hW => by go_simp; with_reducible rfl) ?_; (try simp only [Act.put, Act.eval, List.getElem?_toArray, List.getElem_toArray, List.getElem?_cons_zero, List.getElem?_cons_succ, List.getElem_cons_zero, List.getElem_cons_succ, Option.getD_some, List.setIfInBounds_toArray, List.set_cons_zero, List.set_cons_succ])
    refine Reg.takeE 13 _ _ rfl (by kernel_rfl) (by kernel_rfl) (by kernel_rfl) (by decide) (fun _ _ _ h => by first | exact h | exact hP _ _ _ _ h) (by rfl) (fun W hW => by go_simp; with_reducible rfl) ?_; (try simp only [Act.put, Act.eval, List.getElem?_toArray, List.getElem_toArray, List.getElem?_cons_zero, List.getElem?_cons_succ, List.getElem_cons_zero, List.getElem_cons_succ, Option.getD_some, List.setIfInBounds_toArray, List.set_cons_zero, List.set_cons_succ])
    refine Reg.fin (by kernel_rfl) (fun W hW => ?_)
    go_wp2_with fail
    go_ret2
    exact ⟨rfl, hx1.trans (hx2.trans hW)⟩
  · have heb : decide (x.2 = id) = false := by simpa using he
    have heb2 : ((x.2 : Int) == (id : Int)) = false := by simpa using (fun e : (x.2 : Int) = id => he (by omega))
    go_wp2_with fail
    refine Reg.startE (by kernel_rfl) ?_
    refine Reg.takeE 0 _ _ rfl (by kernel_rfl) (by kernel_rfl) (by kernel_rfl) (by decide) (fun _ _ _ h => by first | exact h | exact hP _ _ _ _ h) (by rfl) (fun W hW => by go_simp; with_reducible rfl) ?_; (try simp only [Act.put, Act.eval, List.getElem?_toArray, List.getElem_toArray, List.getElem?_cons_zero, List.getElem?_cons_succ, List.getElem_cons_zero, List.getElem_cons_succ, Option.getD_some, List.setIfInBounds_toArray, List.set_cons_zero, List.set_cons_succ])
    refine Reg.takeE 1 _ _ rfl (by kernel_rfl) (by kernel_rfl) (by kernel_rfl) (by decide) (fun _ _ _ h => by first | exact h | exact hP _ _ _ _ h) (by rfl) (fun W hW => by go_simp; with_reducible rfl) ?_; (try simp only [Act.put, Act.eval, List.getElem?_toArray, List.getElem_toArray, List.getElem?_cons_zero, List.getElem?_cons_succ, List.getElem_cons_zero, List.getElem_cons_succ, Option.getD_some, List.setIfInBounds_toArray, List.set_cons_zero, List.set_cons_succ])
    refine Reg.takeE 2 _ _ rfl (by kernel_rfl) (by kernel_rfl) (by kernel_rfl) (by decide) (fun _ _ _ h => by first | exact h | exact hP _ _ _ _ h) (by rfl) (fun W hW => by go_simp; with_reducible rfl) ?_; (try simp only [Act.put, Act.eval, List.getElem?_toArray, List.getElem_toArray, List.getElem?_cons_zero, List.getElem?_cons_succ, List.getElem_cons_zero, List.getElem_cons_succ, Option.getD_some, List.setIfInBounds_toArray, List.set_cons_zero, List.set_cons_succ])
    refine Reg.takeE 3 _ _ rfl (by kernel_rfl) (by kernel_rfl) (by kernel_rfl) (by decide) (fun _ _ _ h => by first | exact h | exact hP _ _ _ _ h) (by rfl) (fun W hW => by go_simp; with_reducible rfl) ?_; (try simp only [Act.put, Act.eval, List.getElem?_toArray, List.getElem_toArray, List.getElem?_cons_zero, List.getElem?_cons_succ, List.getElem_cons_zero, List.getElem_cons_succ, Option.getD_some, List.setIfInBounds_toArray, List.set_cons_zero, List.set_cons_succ])
    refine Reg.takeE 4 _ _ rfl (by kernel_rfl) (by kernel_rfl) (by kernel_rfl) (by decide) (fun _ _ _ h => by first | exact h | exact hP _ _ _ _ h) (by rfl) (fun W hW => by go_simp; with_reducible rfl) ?_; (try simp only [Act.put, Act.eval, List.getElem?_toArray, List.getElem_toArray, List.getElem?_cons_zero, List.getElem?_cons_succ, List.getElem_cons_zero, List.getElem_cons_succ, Option.getD_some, List.setIfInBounds_toArray, List.set_cons_zero, List.set_cons_succ])
    refine Reg.takeE 5 _ _ rfl (by kernel_rfl) (by kernel_rfl) (by kernel_rfl) (by decide) (fun _ _ _ h => by first | exact h | exact hP _ _ _ _ h) (by rfl) (fun W hW => by go_simp; with_reducible rfl) ?_; (try simp only [Act.put, Act.eval, List.getElem?_toArray, List.getElem_toArray, List.getElem?_cons_zero, List.getElem?_cons_succ, List.getElem_cons_zero, List.getElem_cons_succ, Option.getD_some, List.setIfInBounds_toArray, List.set_cons_zero, List.set_cons_succ])
    refine Reg.takeE 6 _ _ rfl (by kernel_rfl) (by kernel_rfl) (by kernel_rfl) (by decide) (fun _ _ _ h => by first | exact h | exact hP _ _ _ _ h) (by rfl) (fun W hW => by go_simp; with_reducible rfl) ?_; (try simp only [Act.put, Act.eval, List.getElem?_toArray, List.getElem_toArray, List.getElem?_cons_zero, List.getElem?_cons_succ, List.getElem_cons_zero, List.getElem_cons_succ, Option.getD_some, List.setIfInBounds_toArray, List.set_cons_zero, List.set_cons_succ])
    refine Reg.takeE 7 _ _ rfl (by kernel_rfl) (by kernel_rfl) (by kernel_rfl) (by decide) (fun _ _ _ h => by first | exact h | exact hP _ _ _ _ h) (by rfl) (fun W hW => by go_simp; with_reducible rfl) ?_; (try simp only [Act.put, Act.eval, List.getElem?_toArray, List.getElem_toArray, List.getElem?_cons_zero, List.getElem?_cons_succ, List.getElem_cons_zero, List.getElem_cons_succ, Option.getD_some, List.setIfInBounds_toArray, List.set_cons_zero, List.set_cons_succ])
    refine Reg.takeE 8 _ _ rfl (by kernel_rfl) (by kernel_rfl) (by kernel_rfl) (by decide) (fun _ _ _ h => by first | exact h | exact hP _ _ _ _ h) (by rfl) (fun W hW => by go_simp; with_reducible rfl) ?_; (try simp only [Act.put, Act.eval, List.getElem?_toArray, List.getElem_toArray, List.getElem?_cons_zero, List.getElem?_cons_succ, List.getElem_cons_zero, List.getElem_cons_succ, Option.getD_some, List.setIfInBounds_toArray, List.set_cons_zero, List.set_cons_succ])
    refine Reg.takeE 9 _ _ rfl (by kernel_rfl) (by kernel_rfl) (by kernel_rfl) (by decide) (fun _ _ _ h => by first | exact h | exact hP _ _ _ _ h) (by rfl) (fun W hW => by go_simp; with_reducible rfl) ?_; (try simp only [Act.put, Act.eval, List.getElem?_toArray, List.getElem_toArray, List.getElem?_cons_zero, List.getElem?_cons_succ, List.getElem_cons_zero, List.getElem_cons_succ, Option.getD_some, List.setIfInBounds_toArray, List.set_cons_zero, List.set_cons_succ])
    refine Reg.takeE 10 _ _ rfl (by kernel_rfl) (by kernel_rfl) (by kernel_rfl) (by decide) (fun _ _ _ h => by first | exact h | exact hP _ _ _ _ h) (by rfl) (fun W hW => by go_simp; with_reducible rfl) ?_; (try simp only [Act.put, Act.eval, List.getElem?_toArray, List.getElem_toArray, List.getElem?_cons_zero, List.getElem?_cons_succ, List.getElem_cons_zero, List.getElem_cons_succ, Option.getD_some, List.setIfInBounds_toArray, List.set_cons_zero, List.set_cons_succ])
    refine Reg.takeE 11 _ _ rfl (by kernel_rfl) (by kernel_rfl) (by kernel_rfl) (by decide) (fun _ _ _ h => by first | exact h | exact hP _ _ _ _ h) (by rfl) (fun W hW => by go_simp; with_reducible rfl) ?_; (try simp only [Act.put, Act.eval, List.getElem?_toArray, List.getElem_toArray, List.getElem?_cons_zero, List.getElem?_cons_succ, List.getElem_cons_zero, List.getElem_cons_succ, Option.getD_some, List.setIfInBounds_toArray, List.set_cons_zero, List.set_cons_succ])
    refine Reg.takeE 12 _ _ rfl (by kernel_rfl) (by kernel_rfl) (by kernel_rfl) (by decide) (fun _ _ _ h => by first | exact h | exact hP _ _ _ _ h) (by rfl) (fun W hW => by go_simp; with_reducible rfl) ?_; (try simp only [Act.put, Act.eval, List.getElem?_toArray, List.getElem_toArray, List.getElem?_cons_zero, List.getElem?_cons_succ, List.getElem_cons_zero, List.getElem_cons_succ, Option.getD_some, List.setIfInBounds_toArray, List.set_cons_zero, List.set_cons_succ])
    refine Reg.takeE 13 _ _ rfl (by kernel_rfl) (by kernel_rfl) (by kernel_rfl) (by decide) (fun _ _ _ h => by first | exact h | exact hP _ _ _ _ h) (by rfl) (fun W hW => by go_simp; with_reducible rfl) ?_; (try simp only [Act.put, Act.eval, List.getElem?_toArray, List.getElem_toArray, List.getElem?_cons_zero, List.getElem?_cons_succ, List.getElem_cons_zero, List.getElem_cons_succ, Option.getD_some, List.setIfInBounds_toArray, List.set_cons_zero, List.set_cons_succ])
    refine Reg.fin (by kernel_rfl) (fun W hW => ?_)
    go_wp2_with fail
    go_ret2
    exact ⟨rfl, hx1.trans (hx2.trans hW)⟩

end Go.Proofs.Ytalbjbcomamomaa.IdsW
