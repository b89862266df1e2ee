/- How a slice of acts (a number, a word, a string) that came in reads. -/
import Derived.Test.YtalbjbcomamomaaArgs
import Derived.Deep.Slices
import Derived.Deep.Strs
import Derived.OpenShut
namespace Go.Proofs.Ytalbjbcomamomaa.Args
open Go.ChangeShapes Go.WideShapes Go.ChangeAt Go.RowKit
open Base
set_option linter.unusedVariables false

/-- the cells of acts -/
def actCells (x : Int × Nat × ByteArray) : List Value := [.int .i64 x.1, .int .u64 (x.2.1 : Int), .string x.2.2]
def acs (l : List (Int × Nat × ByteArray)) : List Value := l.flatMap actCells
theorem acs_length (l : List (Int × Nat × ByteArray)) : (acs l).length = l.length * 3 := by
  induction l with
  | nil => rfl
  | cons x l ih => rw [acs, List.flatMap_cons, List.length_append]; unfold acs at ih; rw [ih]; simp [actCells]; omega
theorem acs_at : ∀ (l : List (Int × Nat × ByteArray)) (j : Nat) (x : Int × Nat × ByteArray), l[j]? = some x → ∀ i, i < 3 → (acs l)[j * 3 + i]? = (actCells x)[i]?
  | [], j, x, h, i, hi => by simp at h
  | y :: l, 0, x, h, i, hi => by
    simp at h; subst h
    rw [acs, List.flatMap_cons, List.getElem?_append_left (by simp [actCells]; omega)]
    congr 1; omega
  | y :: l, j + 1, x, h, i, hi => by
    have ih := acs_at l j x (by simpa using h) i hi
    rw [acs, List.flatMap_cons, List.getElem?_append_right (by simp [actCells]; omega)]
    rw [← ih]
    unfold acs
    congr 1
    simp [actCells]; omega
def ActOk (x : Int × Nat × ByteArray) : Prop := -9223372036854775808 ≤ x.1 ∧ x.1 ≤ 9223372036854775807 ∧ x.2.1 ≤ 18446744073709551615 ∧ x.2.2.size ≤ maxLen

theorem acts_arg {H : Type} {enc : TypeId × Value → H} {P : Program} {W : World} {base t e : Nat} {f0 f1 f2 : Field} (hu : P.underlying t = some (.slice e)) (he : P.underlying e = some (.struct #[f0, f1, f2])) (h0 : P.underlying f0.type = some (.int .i64)) (h1 : P.underlying f1.type = some (.int .u64)) (h2 : P.underlying f2.type = some .string)
    (o0 : f0.offset = 0) (o1 : f1.offset = 1) (o2 : f2.offset = 2) (hce : P.cellsOf e = 3) (c0 : P.cellsOf f0.type = 1) (c1 : P.cellsOf f1.type = 1) (c2 : P.cellsOf f2.type = 1)
    {v : Value} {d : DataW H} {p : List MemPlace} (hv : Value.okWide P W .any base t v) (h : DataW.Trod enc P W 0 (fun _ => true) true t v d p) :
    ∃ A n c l, v = .slice A n c ∧ l.length = n ∧ Rd W A (acs l) ∧ n ≤ c ∧ c ≤ maxLen ∧ (A = none → c = 0) ∧ ∀ x ∈ l, ActOk x := by
  obtain ⟨A, n, c, rfl⟩ := okWide_slice hu hv
  obtain ⟨fuel, hf⟩ := h
  rcases Deep.open_slice hu hf with ⟨hcs, hx⟩ | ⟨a, len, cap, m, k, D, Pl, hcs, _, hl, hm, hmm, hx, hel⟩
  · simp [Value.cells] at hcs
    obtain ⟨rfl, rfl, rfl⟩ := hcs
    exact ⟨none, 0, 0, [], rfl, rfl, Rd.nil _ _, Nat.le_refl _, Nat.zero_le _, fun _ => rfl, by simp⟩
  · simp [Value.cells] at hcs
    obtain ⟨rfl, rfl, rfl⟩ := hcs
    have hmm : m = c := by simpa using hmm
    subst hmm
    have hcell : ∀ j, j < n → ∃ x : Int × Nat × ByteArray, (∀ i, i < 3 → W.cell? (a.add (j * 3 + i)) = (actCells x)[i]?) ∧ ActOk x := by
      intro j hj
      obtain ⟨cs', g1, g2⟩ := hel j (by omega)
      rw [hce] at g1
      obtain ⟨_, hlen, hc⟩ := World.cells?_some g1
      obtain ⟨y0, y1, y2, k', _, hcl, g3, g4, g5⟩ := Deep.trod_struct3 he g2
      match cs', hlen with
      | [x0, x1, x2], _ =>
        rw [o0, c0] at g3
        rw [o1, c1] at g4
        rw [o2, c2] at g5
        obtain ⟨z0, e0, _, w0⟩ := DataW.trod_int h0 g3
        obtain ⟨z1, e1, _, w1⟩ := DataW.trod_int h1 g4
        obtain ⟨z2, e2, _, w2⟩ := DataW.trod_string h2 g5
        have e0' : x0 = .int .i64 z0 := by simpa using e0
        have e1' : x1 = .int .u64 z1 := by simpa using e1
        have e2' : x2 = .string z2 := by simpa using e2
        subst e0' e1' e2'
        have w0' : -9223372036854775808 ≤ z0 ∧ z0 ≤ 9223372036854775807 := by simpa [Lit.wf, IntKind.min, IntKind.max, IntKind.signed, IntKind.bits] using w0
        have w1' : 0 ≤ z1 ∧ z1 ≤ 18446744073709551615 := by simpa [Lit.wf, IntKind.min, IntKind.max, IntKind.signed, IntKind.bits] using w1
        refine ⟨(z0, z1.toNat, z2), fun i hi => ?_, w0'.1, w0'.2, by simp; omega, w2⟩
        have h4 := hc i hi
        rw [Deep.add_add] at h4
        rw [h4]
        unfold actCells
        rw [show ((z1.toNat : Nat) : Int) = z1 by omega]
    obtain ⟨f, hfz⟩ := Deep.choose_lt hcell
    refine ⟨some a, n, m, (List.range n).map f, rfl, by simp, ?_, hl, hm, (fun e => by cases e), fun x hx => ?_⟩
    · intro hne
      have hpos : 0 < n := by
        rcases Nat.eq_zero_or_pos n with h | h
        · rw [h] at hne; simp [acs] at hne
        · exact h
      obtain ⟨b, off, spot⟩ := a
      have hspot : spot = none := by simpa [Addr.add] using World.cell?_spot ((hfz 0 hpos).1 0 (by omega))
      subst hspot
      refine ⟨b, off, rfl, fun j u hj => ?_⟩
      have hjl : j < n * 3 := by
        have := (List.getElem?_eq_some_iff.1 hj).1
        rw [acs_length] at this
        simpa using this
      have hd : j / 3 < n := by omega
      have hr : j % 3 < 3 := by omega
      have hje : j / 3 * 3 + j % 3 = j := by omega
      have h5 := (hfz (j / 3) hd).1 (j % 3) hr
      rw [hje] at h5
      rw [← Go.WideShapes.add_plain, h5]
      have h6 := acs_at ((List.range n).map f) (j / 3) (f (j / 3)) (by simp [hd]) (j % 3) hr
      rw [hje] at h6
      rw [← h6]
      exact hj
    · obtain ⟨i, hi, rfl⟩ := List.mem_map.1 hx
      exact (hfz i (List.mem_range.1 hi)).2
end Go.Proofs.Ytalbjbcomamomaa.Args
