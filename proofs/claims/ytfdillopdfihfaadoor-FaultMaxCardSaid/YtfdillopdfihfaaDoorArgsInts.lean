/- How a slice of ints that came in reads. -/
import Derived.Test.YtfdillopdfihfaaDoorArgs
namespace Go.Proofs.YtfdillopdfihfaaDoor.Args
open Go.ChangeShapes Go.WideShapes Go.ChangeAt Go.RowKit
open Base
set_option linter.unusedVariables false

/-- a slice of ints that came in -/
theorem ints_arg {H : Type} {enc : TypeId × Value → H} {P : Program} {W : World} {base t e : Nat} (hu : P.underlying t = some (.slice e)) (he : P.underlying e = some (.int .i64)) (hc : P.cellsOf e = 1)
    {v : Value} {d : DataW H} {p : List MemPlace} (hv : Value.okWide P W .any base t v) (h : DataW.Trod enc P W 0 (fun _ => true) true t v d p) :
    ∃ (A : Option Addr) (n c : Nat) (l : List Int), v = .slice A n c ∧ l.length = n ∧ Rd W A (l.map (Value.int .i64)) ∧ n ≤ c ∧ c ≤ maxLen ∧ (A = none → c = 0) ∧ True := by
  obtain ⟨A, n, c, rfl⟩ := okWide_slice hu hv
  obtain ⟨fuel, hf⟩ := h
  rcases open_ints hu he hc hf with ⟨hcs, hx⟩ | ⟨x, l, c', zs, hcs, _, hl, hm, hz, hx, hcell, hwz⟩
  · simp [Value.cells] at hcs
    obtain ⟨rfl, rfl, rfl⟩ := hcs
    exact ⟨none, 0, 0, [], rfl, rfl, Rd.nil _ _, Nat.le_refl _, Nat.zero_le _, fun _ => rfl, trivial⟩
  · simp [Value.cells] at hcs
    obtain ⟨rfl, rfl, rfl⟩ := hcs
    simp at hz
    refine ⟨some x, n, c, zs.take n, rfl, by simp; omega, ?_, hl, hm, (fun e => by cases e), trivial⟩
    intro hne
    have hpos : 0 < n := by
      rcases Nat.eq_zero_or_pos n with h | h
      · subst h; simp at hne
      · exact h
    obtain ⟨b, off, rfl, hc'⟩ := ints_at hcell (by omega)
    refine ⟨b, off, rfl, fun j u hj => ?_⟩
    have hjl : j < n := by
      rcases Nat.lt_or_ge j n with h | h
      · exact h
      · rw [List.getElem?_eq_none (by simp; omega)] at hj; cases hj
    have h1 := hc' j (by omega)
    rw [h1]
    have h2 : zs[j]? = some zs[j] := List.getElem?_eq_getElem (by omega)
    simp only [List.getElem?_map, List.getElem?_take, hjl, if_true, h2, Option.map_some, Option.some.injEq] at hj
    rw [← hj]
    simp [List.getD, h2]

end Go.Proofs.YtfdillopdfihfaaDoor.Args
