/- ids: what stands of a table's texts and bounds whatever was done: plain. -/
import Derived.Test.YtalbjbcomamomaaIdsBind2
namespace Go.Proofs.Ytalbjbcomamomaa.IdsW
open Go.ChangeShapes Go.WideShapes Go.ChangeAt Go.RowKit
open Base Mp
set_option linter.unusedVariables false
set_option linter.unusedSimpArgs false

structure Inv (ts : List ByteArray) (bs : List (Nat × Nat)) : Prop where
  nd : ts.Nodup
  ri : bs.Pairwise fun a b => a.1 < b.1
  rg : ∀ x ∈ bs, 1 ≤ x.2 ∧ x.2 ≤ ts.length
  to : (bs.map (·.2)).Nodup

theorem rise_iff (bs : List (Nat × Nat)) : Rise bs ↔ bs.Pairwise fun a b => a.1 < b.1 := by
  rw [List.pairwise_iff_getElem]; exact Iff.rfl
theorem Inv.rise {ts : List ByteArray} {bs : List (Nat × Nat)} (h : Inv ts bs) : Rise bs := (rise_iff bs).2 h.ri
theorem Inv.apart {ts : List ByteArray} {bs : List (Nat × Nat)} (h : Inv ts bs) (i j : Nat) (x y : Nat × Nat) (hi : bs[i]? = some x) (hj : bs[j]? = some y) (hij : i < j) : x.1 < y.1 ∧ x.2 ≠ y.2 := by
  obtain ⟨h1, rfl⟩ := List.getElem?_eq_some_iff.1 hi
  obtain ⟨h2, rfl⟩ := List.getElem?_eq_some_iff.1 hj
  refine ⟨h.rise i j h1 h2 hij, ?_⟩
  have h3 := h.to
  rw [List.Nodup, List.pairwise_map] at h3
  exact (List.pairwise_iff_getElem.1 h3) i j h1 h2 hij
theorem idOf_none {ts : List ByteArray} {s : ByteArray} (h : idOf ts s = none) : s ∉ ts := by
  induction ts with
  | nil => simp
  | cons x r ih =>
    unfold idOf at h
    by_cases hx : x = s
    · simp [hx] at h
    · simp only [if_neg hx, Option.map_eq_none_iff] at h
      simp only [List.mem_cons, not_or]
      exact ⟨fun e => hx e.symm, ih h⟩
theorem idOf_at {ts : List ByteArray} (hn : ts.Nodup) {k : Nat} {s : ByteArray} (h : ts[k]? = some s) : idOf ts s = some (k + 1) := by
  induction ts generalizing k with
  | nil => simp at h
  | cons x r ih =>
    cases k with
    | zero => simp at h; subst h; simp [idOf]
    | succ k =>
      have hr : r[k]? = some s := by simpa using h
      rw [List.nodup_cons] at hn
      have hx : x ≠ s := fun e => hn.1 (by rw [e]; exact List.mem_of_getElem? hr)
      rw [idOf, if_neg hx, ih hn.2 hr]; rfl
theorem mkTs_take (lim : Nat) (ts : List ByteArray) (s : ByteArray) : (mkTs lim ts s).take ts.length = ts := by
  unfold mkTs
  split
  · simp
  · split <;> simp
theorem mkTs_ge (lim : Nat) (ts : List ByteArray) (s : ByteArray) : ts.length ≤ (mkTs lim ts s).length := by
  unfold mkTs
  split
  · simp
  · split <;> simp
theorem inv_mk {ts : List ByteArray} {bs : List (Nat × Nat)} (lim : Nat) (s : ByteArray) (h : Inv ts bs) : Inv (mkTs lim ts s) bs := by
  refine ⟨?_, h.ri, fun x hx => ⟨(h.rg x hx).1, Nat.le_trans (h.rg x hx).2 (mkTs_ge lim ts s)⟩, h.to⟩
  unfold mkTs
  split
  · exact h.nd
  · next hi =>
    split
    · exact h.nd
    · rw [List.nodup_append]
      exact ⟨h.nd, by simp, fun a ha b hb e => by rw [List.mem_singleton] at hb; subst hb; subst e; exact idOf_none hi ha⟩
theorem bdTs_take (lim : Nat) (ts : List ByteArray) (bs : List (Nat × Nat)) (f : Nat) (s : ByteArray) : (bdTs lim ts bs f s).take ts.length = ts := by
  unfold bdTs
  split
  · simp
  · split
    · simp
    · split
      · simp
      · exact mkTs_take lim ts s
theorem bdTs_ge (lim : Nat) (ts : List ByteArray) (bs : List (Nat × Nat)) (f : Nat) (s : ByteArray) : ts.length ≤ (bdTs lim ts bs f s).length := by
  unfold bdTs
  split
  · simp
  · split
    · simp
    · split
      · simp
      · exact mkTs_ge lim ts s
theorem bdTs_le (lim : Nat) (ts : List ByteArray) (bs : List (Nat × Nat)) (f : Nat) (s : ByteArray) : (bdTs lim ts bs f s).length ≤ ts.length + 1 := by
  unfold bdTs
  split
  · simp
  · split
    · simp
    · split
      · simp
      · exact mkTs_le lim ts s
theorem insAt_perm (bs : List (Nat × Nat)) (p : Nat) (x : Nat × Nat) : (insAt bs p x).Perm (x :: bs) := by
  have h := List.perm_middle (a := x) (l₁ := bs.take p) (l₂ := bs.drop p)
  rw [List.take_append_drop] at h
  simpa [insAt] using h
theorem insAt_le (bs : List (Nat × Nat)) (p : Nat) (x : Nat × Nat) : (insAt bs p x).length = bs.length + 1 := (insAt_perm bs p x).length_eq
theorem bdBs_le (lim : Nat) (ts : List ByteArray) (bs : List (Nat × Nat)) (f : Nat) (s : ByteArray) : (bdBs lim ts bs f s).length ≤ bs.length + 1 := by
  unfold bdBs
  split
  · simp
  · split
    · simp
    · split
      · simp
      · split
        · rw [insAt_le]; exact Nat.le_refl _
        · simp
theorem take_pos (bs : List (Nat × Nat)) (f : Nat) : bs.take (pos bs f) = bs.takeWhile (fun x => decide (x.1 < f)) ∧ bs.drop (pos bs f) = bs.dropWhile (fun x => decide (x.1 < f)) := by
  have e := List.takeWhile_append_dropWhile (p := fun x : Nat × Nat => decide (x.1 < f)) (l := bs)
  constructor
  · conv => lhs; rw [← e]
    rw [List.take_left']
    rw [pos, e]
  · conv => lhs; rw [← e]
    rw [List.drop_left']
    rw [pos, e]
theorem rise_ins {bs : List (Nat × Nat)} {f to : Nat} (h : bs.Pairwise fun a b => a.1 < b.1) (ht : there bs f = false) : (insAt bs (pos bs f) (f, to)).Pairwise fun a b => a.1 < b.1 := by
  obtain ⟨e1, e2⟩ := take_pos bs f
  have hT : ∀ a ∈ bs.take (pos bs f), a.1 < f := by
    intro a ha
    rw [e1] at ha
    have hq := List.all_takeWhile (p := fun x : Nat × Nat => decide (x.1 < f)) (l := bs)
    rw [List.all_eq_true] at hq
    simpa using hq a ha
  have hp : bs.Pairwise fun a b => a.1 < b.1 := h
  rw [← List.take_append_drop (pos bs f) bs, List.pairwise_append] at hp
  obtain ⟨p1, p2, p3⟩ := hp
  have hD : ∀ b ∈ bs.drop (pos bs f), f < b.1 := by
    cases hd : bs.drop (pos bs f) with
    | nil => intro b hb; cases hb
    | cons d r =>
      have hdf : ¬ d.1 < f := by
        have hq := List.head_dropWhile_not (p := fun x : Nat × Nat => decide (x.1 < f)) (l := bs) (by rw [← e2, hd]; simp)
        simp only [← e2, hd, List.head_cons] at hq
        simpa using hq
      have hne : d.1 ≠ f := by
        have : bs[pos bs f]? = some d := by
          have := congrArg (fun l => l[0]?) hd
          simpa using this
        unfold there at ht
        rw [this] at ht
        simpa using ht
      rw [hd, List.pairwise_cons] at p2
      intro b hb
      rcases List.mem_cons.1 hb with rfl | hb
      · omega
      · have := p2.1 b hb; omega
  have : insAt bs (pos bs f) (f, to) = bs.take (pos bs f) ++ (f, to) :: bs.drop (pos bs f) := by simp [insAt]
  rw [this, List.pairwise_append, List.pairwise_cons]
  refine ⟨p1, ⟨fun b hb => hD b hb, p2⟩, fun a ha b hb => ?_⟩
  rcases List.mem_cons.1 hb with rfl | hb
  · exact hT a ha
  · exact p3 a ha b hb
theorem mkId_pos {lim : Nat} {ts : List ByteArray} {s : ByteArray} (h : (mkId lim ts s).2 = 0) : 1 ≤ (mkId lim ts s).1 ∧ (mkId lim ts s).1 ≤ (mkTs lim ts s).length ∧ ((idOf ts s = some (mkId lim ts s).1) ∨ (mkId lim ts s).1 = ts.length + 1) := by
  unfold mkId mkTs at *
  split at h
  · next k hk => exact ⟨(idOf_some hk).1, (idOf_some hk).2, .inl hk⟩
  · next hk =>
    split at h
    · cases h
    · next hl => simp [hl]
theorem inv_bd {ts : List ByteArray} {bs : List (Nat × Nat)} (lim f : Nat) (s : ByteArray) (h : Inv ts bs) : Inv (bdTs lim ts bs f s) (bdBs lim ts bs f s) := by
  unfold bdTs bdBs
  split
  · exact h
  · split
    · exact h
    · next ht =>
      have ht' : there bs f = false := by simpa using ht
      split
      · exact h
      · next hh =>
        have hm := inv_mk lim s h
        split
        · next he =>
          obtain ⟨h1, h2, h3⟩ := mkId_pos he
          have hp := insAt_perm bs (pos bs f) (f, (mkId lim ts s).1)
          refine ⟨hm.nd, rise_ins h.ri ht', fun x hx => ?_, ?_⟩
          · rcases List.mem_cons.1 (hp.mem_iff.1 hx) with rfl | hx
            · exact ⟨h1, h2⟩
            · exact hm.rg x hx
          · rw [(hp.map (·.2)).nodup_iff, List.map_cons, List.nodup_cons]
            refine ⟨fun hx => ?_, h.to⟩
            obtain ⟨y, hy, e⟩ := List.mem_map.1 hx
            have e : y.2 = (mkId lim ts s).1 := e
            rcases h3 with h3 | h3
            · refine hh ⟨by rw [h3]; exact h1, ?_⟩
              rw [h3]
              unfold hasTo
              rw [List.any_eq_true]
              exact ⟨y, hy, by simpa using e⟩
            · have := (h.rg y hy).2; omega
        · exact hm

theorem bind_any {B : Nat} {g lim : Nat} {ts : List ByteArray} {bs : List (Nat × Nat)} {vt vb : Value} {m : Nat} (f : Nat) (s : ByteArray) (w : World) (h : Tb B w g lim ts bs vt vb m) (hs : s.size ≤ maxLen) (hsm : ts.length ≤ 1000) (hbl : bs.length ≤ 999) (hi : Inv ts bs) (hB : B ≤ w.heap.size) :
    Calls Try.prog 11 #[.pointer (some ⟨g, 0, none⟩), .int .u64 (f : Int), .string s] w fun e w' => e = .returned (.tuple #[.int .u64 ((bdId lim ts bs f s).1 : Int), .int .i64 ((bdId lim ts bs f s).2 : Int)]) ∧ Chg (fun k => k = g ∨ k = m ∨ vt.ownBlock = some k ∨ vb.ownBlock = some k) w w' ∧ ∃ vt' vb', Tb B w' g lim (bdTs lim ts bs f s) (bdBs lim ts bs f s) vt' vb' m ∧ Fresh w vt vt' ∧ Fresh w vb vb' := by
  have hri := hi.rise
  by_cases h1 : f = 0 ∨ 2147483647 < f
  · have e1 : bdId lim ts bs f s = (0, 1) := by unfold bdId; rw [if_pos h1]
    have e2 : bdTs lim ts bs f s = ts := by unfold bdTs; rw [if_pos h1]
    have e3 : bdBs lim ts bs f s = bs := by unfold bdBs; rw [if_pos h1]
    rw [e1, e2, e3]
    exact (bind_early f s w h hs hsm (by omega) hri h1).mono fun e w' ⟨he, hw⟩ => by subst hw; exact ⟨he, Chg.refl _ _, vt, vb, h, .inl rfl, .inl rfl⟩
  · by_cases h2 : there bs f = true
    · have e2 : bdTs lim ts bs f s = ts := by unfold bdTs; rw [if_neg h1, if_pos h2]
      have e3 : bdBs lim ts bs f s = bs := by unfold bdBs; rw [if_neg h1, if_pos h2]
      rw [e2, e3]
      exact (bind_there f s w h hs hsm (by omega) hri (by omega) (by omega) h2 hB).mono fun e w' ⟨he, hw⟩ => ⟨he, Chg.ofExt hw, vt, vb, h.ext hw, .inl rfl, .inl rfl⟩
    · have h2' : there bs f = false := by simpa using h2
      by_cases h3 : 0 < (idOf ts s).getD 0 ∧ hasTo bs ((idOf ts s).getD 0) = true
      · have e1 : bdId lim ts bs f s = (0, 6) := by unfold bdId; rw [if_neg h1, if_neg h2, if_pos h3]
        have e2 : bdTs lim ts bs f s = ts := by unfold bdTs; rw [if_neg h1, if_neg h2, if_pos h3]
        have e3 : bdBs lim ts bs f s = bs := by unfold bdBs; rw [if_neg h1, if_neg h2, if_pos h3]
        rw [e1, e2, e3]
        exact bind_a f s w h hs hsm hbl hri (by omega) (by omega) h2' hB _ rfl h3.1 h3.2
      · have e1 : bdId lim ts bs f s = mkId lim ts s := by unfold bdId; rw [if_neg h1, if_neg h2, if_neg h3]
        have e2 : bdTs lim ts bs f s = mkTs lim ts s := by unfold bdTs; rw [if_neg h1, if_neg h2, if_neg h3]
        have e3 : bdBs lim ts bs f s = if (mkId lim ts s).2 = 0 then insAt bs (pos bs f) (f, (mkId lim ts s).1) else bs := by unfold bdBs; rw [if_neg h1, if_neg h2, if_neg h3]
        rw [e1, e2, e3]
        rcases Nat.eq_zero_or_pos ((idOf ts s).getD 0) with h4 | h4
        · exact bind_c f s w h hs hsm hbl hri (by omega) (by omega) h2' hB h4
        · have h5 : hasTo bs ((idOf ts s).getD 0) = false := by
            cases hq : hasTo bs ((idOf ts s).getD 0) with
            | false => rfl
            | true => exact absurd ⟨h4, hq⟩ h3
          exact bind_b f s w h hs hsm hbl hri (by omega) (by omega) h2' hB _ rfl h4 h5

theorem own_ne_map {w : World} {base : Nat} {e : TypeId} {size n : Nat} {v : Value} {xs : List Value} {k e' : TypeId} {b n' : Nat} {f : ByteArray → Option Nat} (h : w.ownsRow base e size v n xs) (hm : MapU Try.prog k e' w b n' f) : ¬ v.ownBlock = some b := fun he => by
  rcases h.2 with ⟨e1, _⟩ | ⟨g', cap, cur, e1, _, hh, _⟩
  · rw [e1] at he; cases he
  · rw [e1] at he
    simp only [Value.ownBlock, Option.some.injEq] at he
    exact hm.not_cells hh he.symm
theorem own_not {w : World} {base base' : Nat} {e e' : TypeId} {size size' n n' : Nat} {v v' : Value} {xs xs' : List Value} (h : w.ownsRow base e size v n xs) (h' : w.ownsRow base' e' size' v' n' xs') (hne : e ≠ e') : ∀ k, v'.ownBlock = some k → ¬ v.ownBlock = some k := fun k hk he => by
  rcases own_ne_own h h' hne with e1 | e1
  · rw [hk] at e1; cases e1
  · exact e1 (hk.trans he.symm)
/-- a table stays as it is where a row of another's is changed -/
theorem Tb.other {B B' : Nat} {w w' : World} {g lim : Nat} {ts : List ByteArray} {bs : List (Nat × Nat)} {vt vb : Value} {m n : Nat} {v : Value} {xs : List Value} (h : Tb B w g lim ts bs vt vb m) (ho : w.ownsRow B' 9 1 v n xs) (hsep : ∀ k, v.ownBlock = some k → ¬ vt.ownBlock = some k) (hx : Chg (fun k => v.ownBlock = some k) w w') : Tb B w' g lim ts bs vt vb m :=
  h.chg hx (fun e => own_ne_blk ho h.blk (by decide) e.symm) (own_ne_map ho h.of) (fun k h1 h2 => hsep k h2 h1) (own_not ho h.bound (by decide))

theorem New_big (lim : Int) (h0 : 0 ≤ lim) (h1 : 2147483647 < lim) (B : Nat) (w : World) (hB : B ≤ w.heap.size) :
    Calls Try.prog 6 #[.int .u64 lim] w fun e w' => ∃ g m, e = .returned (.pointer (some ⟨g, 0, none⟩)) ∧ Tb B w' g 2147483647 [] [] (.slice none 0 0) (.slice none 0 0) m ∧ Ext w w' := by
  obtain ⟨n, rfl⟩ := Int.eq_ofNat_of_zero_le h0
  have hmm := @run_makeMap Try.prog
  have h2 : min (n : Int) 2147483647 = ((2147483647 : Nat) : Int) := by omega
  go_enter Try.func6, Try.ntmps6
  go_wp2_with fail
  go_ret
  have hx1 : Ext w (w.alloc (.map #[] 0)) := (Ext.refl w).alloc _
  have hb := Blk.new (w.alloc (.map #[] 0)) #[.int .u64 ((2147483647 : Nat) : Int), .slice none 0 0, .map (some w.heap.size), .slice none 0 0] 54
  rw [World.size_alloc] at hb
  refine ⟨_, _, rfl, ⟨hb, World.ownsRow_nil _ _ _ _, (MapU.made Try.prog _ _ w).alloc _, World.ownsRow_nil _ _ _ _, by omega, hB, by simp⟩, hx1.alloc _⟩
theorem New_all (lim : Int) (h0 : 0 ≤ lim) (B : Nat) (w : World) (hB : B ≤ w.heap.size) :
    Calls Try.prog 6 #[.int .u64 lim] w fun e w' => ∃ g m, e = .returned (.pointer (some ⟨g, 0, none⟩)) ∧ Tb B w' g (min lim.toNat 2147483647) [] [] (.slice none 0 0) (.slice none 0 0) m ∧ Ext w w' := by
  by_cases h1 : lim ≤ 2147483647
  · rw [Nat.min_eq_left (by omega)]; exact New_any lim h0 h1 B w hB
  · rw [Nat.min_eq_right (by omega)]; exact New_big lim h0 (by omega) B w hB
end Go.Proofs.Ytalbjbcomamomaa.IdsW
