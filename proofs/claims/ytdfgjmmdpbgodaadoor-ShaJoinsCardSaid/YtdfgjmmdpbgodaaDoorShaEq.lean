/- sha: two hashes compared. -/
import Derived.Test.YtdfgjmmdpbgodaaDoorShaApi
import Derived.ChangeKeysEq
namespace Go.Proofs.YtdfgjmmdpbgodaaDoor.ShaW
open Go.ChangeShapes Go.WideShapes Go.ChangeAt Go.RowKit
open ShaP Base
set_option linter.unusedVariables false

theorem u8s_get (X : List UInt8) (i : Nat) (h : i < X.length) : (u8s X).toArray[i]? = some (.int .u8 ((X.getD i 0).toNat : Int)) := by
  simp [u8s, h, List.getD]
theorem eqItems_u8 {P : Program} {e : TypeId} (he : P.plainKey e = true) (hu : P.underlying e = some (.int .u8)) (d : Nat) (X Y : List UInt8) (w : World) :
    ∀ is : List Nat, (∀ i ∈ is, i < X.length ∧ i < Y.length) → (Op.eqItems (d + 1) e 1 (u8s X).toArray (u8s Y).toArray is).run P w = .ok (is.all fun i => X.getD i 0 == Y.getD i 0) w
  | [], _ => by simp [Op.eqItems]
  | i :: is, h => by
    obtain ⟨h1, h2⟩ := h i (by simp)
    have ih := eqItems_u8 he hu d X Y w is (fun j hj => h j (by simp [hj]))
    have p1 := run_part_plain (P := P) w he (u8s_get X i h1)
    have p2 := run_part_plain (P := P) w he (u8s_get Y i h2)
    have p3 := run_equalIn_int (P := P) w d e .u8 .u8 ((X.getD i 0).toNat : Int) ((Y.getD i 0).toNat : Int) hu
    have hb : (((X.getD i 0).toNat : Int) == ((Y.getD i 0).toNat : Int)) = (X.getD i 0 == Y.getD i 0) := by
      by_cases hxy : X.getD i 0 = Y.getD i 0
      · rw [hxy]; simp
      · have : (X.getD i 0).toNat ≠ (Y.getD i 0).toNat := fun e => hxy (UInt8.toNat_inj.1 e)
        rw [beq_eq_false_iff_ne.2 hxy, beq_eq_false_iff_ne.2 (by omega)]
    simp only [Op.eqItems, Nat.mul_one, Sem.run_bind, p1, p2, p3, Result.andThen_ok, hb, List.all_cons]
    cases hq : (X.getD i 0 == Y.getD i 0)
    · simp
    · simpa using ih
theorem eq_sum (X Y : List UInt8) (hX : X.length = 32) (hY : Y.length = 32) (w : World) :
    (Op.equalIn 10000 25 (.agg (u8s X).toArray) (.agg (u8s Y).toArray)).run Tryd.prog w = .ok (decide (X = Y)) w := by
  obtain ⟨i, hi, _⟩ := info_parts el_u8.info
  rw [run_equalIn_array (P := Tryd.prog) w 9999 (u8s X).toArray (u8s Y).toArray (show Tryd.prog.underlying 25 = some (.array 32 5) by kernel_rfl) hi]
  rw [show Tryd.prog.cellsOf 5 = 1 by kernel_rfl, eqItems_u8 (by kernel_rfl) Tryd.underlying5 9998 X Y w (List.range 32) (fun i hi => by rw [List.mem_range] at hi; omega)]
  congr 1
  by_cases h : X = Y
  · subst h; simp
  · rw [decide_eq_false h, List.all_eq_false]
    apply Classical.byContradiction
    intro hn
    apply h
    apply List.ext_getElem (by omega)
    intro i h1 h2
    have := Classical.byContradiction (fun hh => hn ⟨i, by rw [List.mem_range]; omega, hh⟩)
    simpa [List.getD, List.getElem?_eq_getElem h1, List.getElem?_eq_getElem h2] using this
end Go.Proofs.YtdfgjmmdpbgodaaDoor.ShaW
