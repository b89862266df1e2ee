/- How a slice of arrays of bytes that came in reads. -/
import Derived.Test.YtdfgjmmdpbgodaaDoorArgs
import Derived.Deep.Slices
import Derived.OpenShut
namespace Go.Proofs.YtdfgjmmdpbgodaaDoor.Args
open Go.ChangeShapes Go.WideShapes Go.ChangeAt Go.RowKit
open Base
set_option linter.unusedVariables false

theorem sums_arg {H : Type} {enc : TypeId × Value → H} {P : Program} {W : World} {base t e q s : Nat} (hu : P.underlying t = some (.slice e)) (he : P.underlying e = some (.array s q)) (hq : P.underlying q = some (.int .u8)) (hce : P.cellsOf e = s) (hcq : P.cellsOf q = 1) (hs : 0 < s)
    {v : Value} {d : DataW H} {p : List MemPlace} (hv : Value.okWide P W .any base t v) (h : DataW.Trod enc P W 0 (fun _ => true) true t v d p) :
    ∃ A n c F, v = .slice A n c ∧ F.length = n * s ∧ Rb W A F ∧ n ≤ c ∧ c ≤ maxLen ∧ (A = none → c = 0) ∧ ((d = .nil ∧ n = 0) ∨ ∃ el sp, d = .slice el sp ∧ el.length = n ∧ sp.length = c - n) := by
  obtain ⟨A, n, c, rfl⟩ := okWide_slice hu hv
  obtain ⟨fuel, hf⟩ := h
  rcases Deep.open_slice hu hf with ⟨hcs, hx⟩ | ⟨a, len, cap, m, k, D, Pl, hcs, _, hl, hm, hmm, hx, hel⟩
  · simp [Value.cells] at hcs
    obtain ⟨rfl, rfl, rfl⟩ := hcs
    exact ⟨none, 0, 0, [], rfl, by simp, Rd.nil _ _, Nat.le_refl _, Nat.zero_le _, fun _ => rfl, .inl ⟨by simpa using congrArg Prod.fst hx, rfl⟩⟩
  · simp [Value.cells] at hcs
    obtain ⟨rfl, rfl, rfl⟩ := hcs
    have hmm : m = c := by simpa using hmm
    subst hmm
    have hd := congrArg Prod.fst hx
    simp only at hd
    have hcell : ∀ j, j < n * s → ∃ z : Int, W.cell? (a.add j) = some (.int .u8 z) ∧ 0 ≤ z ∧ z ≤ 255 := by
      intro j hj
      have hi : j / s < n := by rw [Nat.div_lt_iff_lt_mul hs]; exact hj
      have hr : j % s < s := Nat.mod_lt _ hs
      obtain ⟨cs', h1, h2⟩ := hel (j / s) (by omega)
      rw [hce] at h1
      obtain ⟨_, hlen, hc⟩ := World.cells?_some h1
      obtain ⟨xs, k', _, _, _, hxl, hx⟩ := DataW.trod_array he h2
      have h3 := hx (j % s) hr
      rw [hcq, Nat.mul_one, List.getElem?_eq_getElem (by omega)] at h3
      obtain ⟨z, hz, _, wz⟩ := DataW.trod_int hq h3
      refine ⟨z, ?_, by simpa [Lit.wf, IntKind.min, IntKind.max, IntKind.signed, IntKind.bits] using wz⟩
      have h4 := hc (j % s) hr
      rw [Deep.add_add, show j / s * s + j % s = j by rw [Nat.mul_comm]; exact Nat.div_add_mod j s] at h4
      rw [h4]
      have h5 := congrArg (fun l => l[0]?) hz
      simpa [List.getElem?_take, List.getElem?_drop] using h5
    obtain ⟨f, hfz⟩ := Deep.choose_lt hcell
    refine ⟨some a, n, m, (List.range (n * s)).map fun j => UInt8.ofNat (f j).toNat, rfl, by simp, ?_, hl, hm, (fun e => by cases e), .inr ⟨_, _, hd, by simp, by simp⟩⟩
    intro hne
    have hpos : 0 < n * s := by
      rcases Nat.eq_zero_or_pos (n * s) with h | h
      · rw [h] at hne; simp [u8s] at hne
      · exact h
    obtain ⟨b, off, spot⟩ := a
    have hspot : spot = none := by simpa [Addr.add] using World.cell?_spot (hfz 0 hpos).1
    subst hspot
    refine ⟨b, off, rfl, fun j u hj => ?_⟩
    have hjl : j < n * s := by
      rcases Nat.lt_or_ge j (n * s) with h | h
      · exact h
      · rw [List.getElem?_eq_none (by simp [u8s]; omega)] at hj; cases hj
    obtain ⟨h1, h2, h3⟩ := hfz j hjl
    rw [← Go.WideShapes.add_plain, h1]
    simp only [u8s, List.getElem?_map, List.getElem?_range hjl, Option.map_some, Option.some.injEq] at hj
    rw [← hj]
    simp only [UInt8.toNat_ofNat']
    congr 1
    congr 1
    omega
end Go.Proofs.YtdfgjmmdpbgodaaDoor.Args
