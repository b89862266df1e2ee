/- A slice of a slice of one-cell elements, in one step, whatever its address. -/
import Derived.Test.YtdfgjmmdpbgodaaDoorOwn
namespace Go.Proofs.YtdfgjmmdpbgodaaDoor.Base
open Go.ChangeShapes Go.WideShapes Go.ChangeAt Go.RowKit
set_option linter.unusedVariables false

/-- the address of a slice from l on, of capacity c -/
def cutA (A : Option Addr) (c l : Nat) : Option Addr := if c = l then A else A.map (·.add l)
theorem cutA_block {A : Option Addr} {c l : Nat} {a : Addr} (h : cutA A c l = some a) : ∃ a0, A = some a0 ∧ a.block = a0.block := by
  unfold cutA at h
  split at h
  · exact ⟨a, h, rfl⟩
  · cases A with
    | none => cases h
    | some a0 =>
      simp only [Option.map_some, Option.some.injEq] at h
      refine ⟨a0, rfl, ?_⟩
      rw [← h]; unfold Addr.add; split <;> rfl
theorem cutA_none {A : Option Addr} {c l : Nat} (hA : A = none → c = 0) (h : cutA A c l = none) : c - l = 0 := by
  unfold cutA at h
  split at h
  · omega
  · cases A with
    | none => have := hA rfl; omega
    | some a0 => cases h
theorem Rd.cut {w : World} {A : Option Addr} {L : List Value} (h : Rd w A L) {c l k : Nat} (hl : l ≤ k) (hk : k ≤ c) : Rd w (cutA A c l) ((L.take k).drop l) := by
  intro hne
  have hlen : l < (L.take k).length := by
    rcases Nat.lt_or_ge l (L.take k).length with x | x
    · exact x
    · exact absurd (List.drop_eq_nil_of_le x) hne
  have hL : L ≠ [] := by rintro rfl; simp at hlen
  obtain ⟨b, off, rfl, hc⟩ := h hL
  have hlk : l < k := by rw [List.length_take] at hlen; omega
  refine ⟨b, off + l, ?_, fun j u hj => ?_⟩
  · unfold cutA
    rw [if_neg (by omega)]
    simp only [Option.map_some]
    congr 1
    unfold Addr.add; split <;> simp_all
  · rw [List.getElem?_drop, List.getElem?_take] at hj
    split at hj
    · rw [Nat.add_assoc]; exact hc _ u hj
    · cases hj
theorem Rb.cut {w : World} {A : Option Addr} {L : List UInt8} (h : Rb w A L) {c l k : Nat} (hl : l ≤ k) (hk : k ≤ c) : Rb w (cutA A c l) ((L.take k).drop l) := by
  have := Rd.cut h hl hk
  rwa [u8s, ← List.map_take, ← List.map_drop] at this

theorem run_cut {P : Program} {t e : TypeId} (ht : P.underlying t = some (.slice e)) (he : (P.info? e).map (·.size) = some 1) (w : World) (A : Option Addr) (n c l k : Nat) (lo hi : Option Value)
    (hlo : lo = some (.int .i64 (l : Int)) ∨ lo = none ∧ l = 0) (hhi : hi = some (.int .i64 (k : Int)) ∨ hi = none ∧ k = n) (hl : l ≤ k) (hk : k ≤ c) (hn : hi = none → n ≤ c) :
    (Instr.slice t (.slice A n c) lo hi none).run P w = .ok (.slice (cutA A c l) (k - l) (c - l)) w := by
  have h1 : (0 : Int) ≤ (l : Int) ∧ (l : Int) ≤ (k : Int) := by omega
  have h2 : (0 : Int) ≤ (k : Int) ∧ (k : Int) ≤ (c : Int) := by omega
  cases hq : P.info? e with
  | none => simp [hq] at he
  | some i =>
    have hi1 : i.size = 1 := by simpa [hq] using he
    rcases hlo with rfl | ⟨rfl, rfl⟩ <;> rcases hhi with rfl | ⟨rfl, rfl⟩ <;>
      simp [Instr.slice, Instr.sliceBounds, Instr.sliceBound, run_underlying ht, asIntOf, h1, h2, sizeOf, typeInfo, hq, hi1, cutA, go_sem] <;>
      (try rw [if_pos hk, if_pos hl]) <;> (try (intro h; omega))

theorem run_cutAt {P : Program} {t e : TypeId} (ht : P.underlying t = some (.slice e)) (he : (P.info? e).map (·.size) = some 1) (w : World) (A : Option Addr) (n c l k : Nat) (lo hi : Option Value)
    (hlo : lo = some (.int .i64 (l : Int)) ∨ lo = none ∧ l = 0) (hhi : hi = some (.int .i64 (k : Int)) ∨ hi = none ∧ k = n) (hl : l ≤ k) (hk : k ≤ c) (hn : hi = none → n ≤ c) :
    (Instr.sliceAt t (.slice A n c) lo hi none).run P w = .ok (.slice (cutA A c l) (k - l) (c - l)) w := by
  rw [← run_cut ht he w A n c l k lo hi hlo hhi hl hk hn]
  simp [Instr.sliceAt, run_underlying ht]
theorem wpList_cut {P : Program} {ops : Array Oper} {rest : List Oper} {op : Oper} {a : Act} {w : World} {Q : Exit → Act → World → Prop} (hgd : op.guard = none) (t : TypeId) (x : Operand) (lo hi : Option Operand) (ho : op.op = .slice t x lo hi none) (vx v : Value) (vlo vhi : Option Value) (hx : a.eval x = vx) (hlo : lo.map a.eval = vlo) (hhi : hi.map a.eval = vhi)
    (hrun : (Instr.sliceAt t vx vlo vhi none).run P w = .ok v w) (h : wpList P ops Q rest (a.put op.dst v) w) : wpList P ops Q (op :: rest) a w :=
  wpList_plain hgd fun _ hK => by
    unfold Oper.wp execOp
    simp only [ho, hx, hlo, hhi, Option.map_none, Sem.run_bind, Sem.run_pure, Result.andThen_ok, hrun]
    exact hK _ _ h
end Go.Proofs.YtdfgjmmdpbgodaaDoor.Base
