/- ids: what a table finds: the search of foreign ids. -/
import Derived.Test.YtalbjbcomamomaaIdsFull
namespace Go.Proofs.Ytalbjbcomamomaa.IdsW
open Go.ChangeShapes Go.WideShapes Go.ChangeAt Go.RowKit
open Base Mp
set_option linter.unusedVariables false
set_option linter.unusedSimpArgs false

def cmpI (x f : Int) : Int := if x < f then -1 else if f < x then 1 else 0

theorem isNaN_any (x : Int) (w : World) : Calls Try.prog 36 #[.int .u64 x] w fun e w' => e = .returned (.bool false) ∧ w = w' := by
  go_enter Try.func36, Try.ntmps36
  go_wp2_with fail
  go_ret
  exact ⟨rfl, rfl⟩
theorem Compare_any (x f : Int) (w : World) : Calls Try.prog 32 #[.int .u64 x, .int .u64 f] w fun e w' => e = .returned (.int .i64 (cmpI x f)) ∧ w = w' := by
  have hx := isNaN_any x
  have hf := isNaN_any f
  unfold cmpI
  go_enter Try.func32, Try.ntmps32
  go_wp2_with fail
  refine (hx _).mono ?_
  rintro e w1 ⟨rfl, rfl⟩
  go_wp2_with fail
  refine (hf _).mono ?_
  rintro e w1 ⟨rfl, rfl⟩
  by_cases h1 : x < f
  · go_wp2_with fail
    go_ret
    exact ⟨rfl, rfl⟩
  · by_cases h2 : f < x
    · go_wp2_with fail
      go_ret
      exact ⟨rfl, rfl⟩
    · go_wp2_with fail
      go_ret
      exact ⟨rfl, rfl⟩
theorem find1_any (x y f : Int) (w : World) : Calls Try.prog 31 #[.agg #[.int .u64 x, .int .u64 y], .int .u64 f] w fun e w' => e = .returned (.int .i64 (cmpI x f)) ∧ Ext w w' := by
  have hx := Compare_any x f
  go_enter Try.func31, Try.ntmps31
  go_wp2_with fail
  refine (hx _).mono ?_
  rintro e w1 ⟨rfl, rfl⟩
  go_wp2_with fail
  go_ret
  exact ⟨rfl, (Ext.refl w).alloc _⟩

/-- foreign ids rise -/
def Rise (bs : List (Nat × Nat)) : Prop := ∀ i j (hi : i < bs.length) (hj : j < bs.length), i < j → (bs[i]'hi).1 < (bs[j]'hj).1
def pos (bs : List (Nat × Nat)) (f : Nat) : Nat := (bs.takeWhile fun x => decide (x.1 < f)).length
def there (bs : List (Nat × Nat)) (f : Nat) : Bool := match bs[pos bs f]? with
  | some x => decide (x.1 = f)
  | none => false
theorem pos_of (bs : List (Nat × Nat)) (f p : Nat) (hp : p ≤ bs.length) (h1 : ∀ k (hk : k < bs.length), k < p → (bs[k]'hk).1 < f) (h2 : ∀ k (hk : k < bs.length), p ≤ k → f ≤ (bs[k]'hk).1) : pos bs f = p := by
  induction bs generalizing p with
  | nil => simp [pos] at *; omega
  | cons x r ih =>
    cases p with
    | zero =>
      have h := h2 0 (by simp) (by omega)
      simp only [List.getElem_cons_zero] at h
      have h' : ¬ x.1 < f := by omega
      simp [pos, List.takeWhile, h']
    | succ p =>
      have h := h1 0 (by simp) (by omega)
      simp only [List.getElem_cons_zero] at h
      have := ih p (by simp at hp; omega) (fun k hk hkp => by have := h1 (k + 1) (by simp; omega) (by omega); simpa using this) (fun k hk hkp => by have := h2 (k + 1) (by simp; omega) (by omega); simpa using this)
      simp only [pos, List.takeWhile, h, decide_true, List.length_cons]
      unfold pos at this
      omega
theorem pos_le (bs : List (Nat × Nat)) (f : Nat) : pos bs f ≤ bs.length := by
  unfold pos
  exact (List.takeWhile_sublist _).length_le
theorem bnds_length (bs : List (Nat × Nat)) : (bnds bs).length = bs.length * 2 := by
  induction bs with
  | nil => rfl
  | cons x r ih => simp only [bnds, List.flatMap_cons, List.length_append, List.length_cons, List.length_nil] at *; omega
theorem bnds_cons (x : Nat × Nat) (r : List (Nat × Nat)) : bnds (x :: r) = .int .u64 (x.1 : Int) :: .int .u64 (x.2 : Int) :: bnds r := rfl
theorem bnds_append (a b : List (Nat × Nat)) : bnds (a ++ b) = bnds a ++ bnds b := by simp [bnds]
theorem bnds_at (bs : List (Nat × Nat)) (i : Nat) (x : Nat × Nat) (h : bs[i]? = some x) : (bnds bs)[i * 2]? = some (.int .u64 (x.1 : Int)) ∧ (bnds bs)[i * 2 + 1]? = some (.int .u64 (x.2 : Int)) := by
  induction bs generalizing i with
  | nil => simp at h
  | cons y r ih =>
    cases i with
    | zero => simp at h; subst h; exact ⟨rfl, rfl⟩
    | succ i =>
      rw [bnds_cons, show (i + 1) * 2 = i * 2 + 1 + 1 by omega]
      simp only [List.getElem?_cons_succ] at h ⊢
      exact ih i h

/-- the cells of a bound -/
theorem bnds_cell {w : World} {b off : Nat} {bs : List (Nat × Nat)} (h : Rd w (some ⟨b, off, none⟩) (bnds bs)) (i : Nat) (x : Nat × Nat) (hx : bs[i]? = some x) :
    w.cell? ⟨b, off + i * 2, none⟩ = some (.int .u64 (x.1 : Int)) ∧ w.cell? ⟨b, off + i * 2 + 1, none⟩ = some (.int .u64 (x.2 : Int)) := by
  obtain ⟨h1, h2⟩ := bnds_at bs i x hx
  obtain ⟨b', off', e, hc⟩ := h (fun e => by rw [e] at h1; simp at h1)
  injection e with e
  injection e with e1 e2
  subst e1; subst e2
  exact ⟨hc _ _ h1, by rw [Nat.add_assoc]; exact hc _ _ h2⟩
theorem bnds_some {w : World} {A : Option Addr} {bs : List (Nat × Nat)} (h : Rd w A (bnds bs)) (hn : 0 < bs.length) : ∃ b off, A = some ⟨b, off, none⟩ := by
  obtain ⟨b, off, e, _⟩ := h (fun e => by have := bnds_length bs; rw [e] at this; simp only [List.length_nil] at this; omega)
  exact ⟨b, off, e⟩

set_option maxHeartbeats 1000000 in
theorem search_any (A : Option Addr) (n c : Nat) (bs : List (Nat × Nat)) (f : Nat) (w : World) (hr : Rd w A (bnds bs)) (hn : bs.length = n) (hl : n ≤ 1000) (hs : Rise bs) :
    Calls Try.prog 30 #[.slice A n c, .int .u64 (f : Int), .func (.func 31) #[] #[]] w fun e w' => e = .returned (.tuple #[.int .i64 (pos bs f : Int), .bool (there bs f)]) ∧ Ext w w' := by
  have h31 := find1_any
  go_enter Try.func30, Try.ntmps30
  go_wp2_with fail
  go_loopw [9, 10, 11, 15, 16, 17, 18, 19, 20, 21, 22, 23, 24, 25, 26, 27, 28, 29, 30, 31, 32, 33, 34] (fun v9 v10 v11 v15 v16 v17 v18 v19 v20 v21 v22 v23 v24 v25 v26 v27 v28 v29 v30 v31 v32 v33 v34 wr => ∃ i j : Nat, i ≤ j ∧ j ≤ n ∧ v9 = .int .i64 i ∧ v10 = .int .i64 j ∧ (∀ k (hk : k < bs.length), k < i → (bs[k]'hk).1 < f) ∧ (∀ k (hk : k < bs.length), j ≤ k → f ≤ (bs[k]'hk).1) ∧ Ext w wr) (fun v9 v10 _ _ _ _ _ _ _ _ _ _ _ _ _ _ _ _ _ _ _ _ _ _ => (intOf v10).toNat - (intOf v9).toNat)
  case atStart => exact ⟨0, n, by omega, by omega, rfl, rfl, fun k hk h => by omega, fun k hk h => by omega, Ext.refl w⟩
  case round =>
    obtain ⟨i, j, hij, hj, rfl, rfl, h1, h2, hx⟩ := hrel
    by_cases hlt : i < j
    · have hlt' : (i : Int) < (j : Int) := by omega
      obtain ⟨h, hh⟩ : ∃ h : Nat, Hid ((i + j) / 2 = h) := ⟨_, rfl⟩
      have hh' : ((i : Int) + (j : Int)) / 2 = (h : Int) := by have := hh.out; omega
      have hhi : h < n := by have := hh.out; omega
      have hhi' : (h : Int) < (n : Int) := by omega
      obtain ⟨b, off, rfl⟩ := bnds_some hr (by omega)
      obtain ⟨x, hx1⟩ : ∃ x, bs[h]? = some x := ⟨bs[h]'(by omega), List.getElem?_eq_getElem _⟩
      have hxe : ∀ (hk : h < bs.length), bs[h]'hk = x := fun hk => by rw [List.getElem?_eq_getElem hk] at hx1; exact Option.some.inj hx1
      obtain ⟨c0, c1⟩ := bnds_cell (hr.ext hx) h x hx1
      have h31' := find1_any (x.1 : Int) (x.2 : Int) (f : Int) wr
      obtain ⟨d, hd⟩ : ∃ d, Hid (cmpI (x.1 : Int) (f : Int) = d) := ⟨_, rfl⟩
      rw [hd.out] at h31'
      have hx1' := Lib.hid hx1
      have hhN := Lib.hid hh.out
      clear hx1
      go_wp2_with fail
      refine h31'.mono ?_
      rintro e w1 ⟨rfl, hx2⟩
      by_cases hd0 : d < 0
      · have hlt2 : x.1 < f := by
          have := hd.out
          unfold cmpI at this
          split at this
          · omega
          · split at this <;> omega
        go_wp2_with fail
        refine ⟨⟨h + 1, j, by have := hh.out; omega, hj, rfl, rfl, ?_, h2, hx.trans hx2⟩, by simp [intOf]; have := hh.out; omega⟩
        intro k hk hkh
        rcases Nat.lt_or_ge k h with hk2 | hk2
        · have h3 := hs k h hk (by omega) hk2
          rw [hxe] at h3; omega
        · obtain rfl : k = h := by omega
          rw [hxe]; exact hlt2
      · have hle2 : f ≤ x.1 := by
          have := hd.out
          unfold cmpI at this
          split at this
          · omega
          · omega
        go_wp2_with fail
        refine ⟨⟨i, h, by have := hh.out; omega, by omega, rfl, rfl, h1, ?_, hx.trans hx2⟩, by simp [intOf]; have := hh.out; omega⟩
        intro k hk hkh
        rcases Nat.lt_or_ge h k with hk2 | hk2
        · have h3 := hs h k (by omega) hk hk2
          rw [hxe] at h3; omega
        · obtain rfl : k = h := by omega
          rw [hxe]; exact hle2
    · obtain rfl : i = j := by omega
      have hp := pos_of bs f i (by omega) h1 h2
      have hth : there bs f = match bs[i]? with | some x => decide (x.1 = f) | none => false := by unfold there; rw [hp]
      by_cases hin : i < n
      · have hin' : (i : Int) < (n : Int) := by omega
        obtain ⟨b, off, rfl⟩ := bnds_some hr (by omega)
        obtain ⟨x, hx1⟩ : ∃ x, bs[i]? = some x := ⟨bs[i]'(by omega), List.getElem?_eq_getElem _⟩
        obtain ⟨c0, c1⟩ := bnds_cell (hr.ext hx) i x hx1
        rw [hx1] at hth
        have h31' := find1_any (x.1 : Int) (x.2 : Int) (f : Int) wr
        obtain ⟨d, hd⟩ : ∃ d, Hid (cmpI (x.1 : Int) (f : Int) = d) := ⟨_, rfl⟩
        rw [hd.out] at h31'
        have hdd : (d == 0) = decide (x.1 = f) := by
          have := hd.out
          unfold cmpI at this
          rw [Bool.eq_iff_iff]
          simp only [beq_iff_eq, decide_eq_true_eq]
          split at this
          · omega
          · split at this <;> omega
        clear hx1 hd
        go_wp2_with fail
        refine h31'.mono ?_
        rintro e w1 ⟨rfl, hx2⟩
        go_wp2_with fail
        go_ret2
        exact ⟨by rw [hp, hth]; rfl, hx.trans hx2⟩
      · rw [List.getElem?_eq_none (by omega)] at hth
        have hin' : ¬ (i : Int) < (n : Int) := by omega
        go_wp2_with fail
        go_ret2
        exact ⟨rfl, hx⟩
end Go.Proofs.Ytalbjbcomamomaa.IdsW
