/- sha: an array by value at an index, in one step. -/
import Derived.Test.YtdfgjmmdpbgodaaDoorShaBits
import Derived.Test.YtdfgjmmdpbgodaaDoorReg
namespace Go.Proofs.YtdfgjmmdpbgodaaDoor.ShaW
open Go.ChangeShapes Go.WideShapes Go.ChangeAt Go.RowKit
open ShaP Base
set_option linter.unusedVariables false
set_option linter.unusedSimpArgs false

/-- a fact that no defeq check opens (Lib.hid's Hid is a def: it is opened) -/
structure Held (p : Prop) : Prop where
  out : p
theorem run_index_row {P : Program} (w : World) (t e : TypeId) (N : Nat) (R : Array Value) (n : Nat) (k : IntKind) (he : P.underlying e = some (.int k)) (hs : (P.info? e).map (·.size) = some 1) (ht : P.underlying t = some (.array N e)) (hn : n < N) (u : Value) (h : R[n]? = some u) :
    (Instr.index t (.agg R) (.int .i64 (n : Int))).run P w = .ok u w := by
  have h1 : (0 : Int) ≤ (n : Int) ∧ (n : Int) < (N : Int) := by omega
  cases hq : P.info? e with
  | none => simp [hq] at hs
  | some i =>
    have hi : i.size = 1 := by simpa [hq] using hs
    simp [Instr.index, run_underlying ht, asIntOf, h1, sizeOf, typeInfo, hq, hi, part, isAgg, run_underlying he, h, go_sem]
    omega

theorem wpList_index {P : Program} {ops : Array Oper} {rest : List Oper} {op : Oper} {a : Act} {w : World} {Q : Exit → Act → World → Prop} (hgd : op.guard = none) (t : TypeId) (x ix : Operand) (ho : op.op = .index t x ix) (vx vi : Value) (hx : a.eval x = vx) (hi : a.eval ix = vi) (v : Value)
    (hrun : (Instr.index t vx vi).run P w = .ok v w) (h : wpList P ops Q rest (a.put op.dst v) w) : wpList P ops Q (op :: rest) a w :=
  wpList_plain hgd fun _ hK => by
    unfold Oper.wp execOp
    simp only [ho, hx, hi, Sem.run_bind, Sem.run_pure, Result.andThen_ok, hrun]
    exact hK _ _ h
theorem idx8 (w : World) (R : Array Value) (n : Nat) (hn : n < 8) (u : Value) (h : R[n]? = some u) : (Instr.index 46 (.agg R) (.int .i64 (n : Int))).run Tryd.prog w = .ok u w :=
  run_index_row w _ 44 8 R n .u32 (by kernel_rfl) (by kernel_rfl) (by kernel_rfl) hn u h
theorem idx64 (w : World) (R : Array Value) (n : Nat) (hn : n < 64) (u : Value) (h : R[n]? = some u) : (Instr.index 56 (.agg R) (.int .i64 (n : Int))).run Tryd.prog w = .ok u w :=
  run_index_row w _ 44 64 R n .u32 (by kernel_rfl) (by kernel_rfl) (by kernel_rfl) hn u h
/-- turned by any of the ten numbers -/
def trI (x : BitVec 32) (k : Int) : BitVec 32 := tr x k.toNat
theorem turned_any (x : BitVec 32) (k : Int) (hk : k ∈ ([2, 6, 7, 11, 13, 17, 18, 19, 22, 25] : List Int)) (w : World) :
    Calls Tryd.prog 24 #[.int .u32 (U x), .int .i64 k] w fun e w' => e = .returned (.int .u32 (U (trI x k))) ∧ w = w' := by
  simp only [List.mem_cons, List.mem_nil_iff, or_false] at hk
  rcases hk with rfl | rfl | rfl | rfl | rfl | rfl | rfl | rfl | rfl | rfl
  · exact turned_2 x w
  · exact turned_6 x w
  · exact turned_7 x w
  · exact turned_11 x w
  · exact turned_13 x w
  · exact turned_17 x w
  · exact turned_18 x w
  · exact turned_19 x w
  · exact turned_22 x w
  · exact turned_25 x w
end Go.Proofs.YtdfgjmmdpbgodaaDoor.ShaW
