/- The walk of a region that draws its order: an operation that all the others stand before or behind may turn what it likes. -/
import Derived.Test.YtalbjbcomamomaaReg
namespace Go.Proofs.Ytalbjbcomamomaa.Reg
open Base
set_option linter.unusedVariables false

/-- each other one is waited for, or waits -/
def soleB2 (ops : Array Oper) (j : Nat) : Bool :=
  match ops[j]? with
  | none => false
  | some _ => (List.range ops.size).all fun k => k == j || waits ops 5 j k || waits ops 5 k j
theorem sole_of2 {ops : Array Oper} {j : Nat} (h : soleB2 ops j = true) : Sole ops j := by
  intro listed i hc hj hi
  obtain ⟨hjun, oj, hoj, hall⟩ := mem_ready.1 hj
  obtain ⟨hun, oi, hoi, hall2⟩ := mem_ready.1 hi
  unfold soleB2 at h
  simp only [hoj, List.all_eq_true, List.mem_range] at h
  have h1 := h i (Array.getElem?_eq_some_iff.1 hoi).1
  simp only [Bool.or_eq_true, beq_iff_eq] at h1
  rcases h1 with (h1 | h1) | h1
  · exact h1
  · have h2 := waits_listed hc _ _ h1 (fun o ho => by rw [hoj] at ho; cases ho; exact hall)
    rcases Nat.lt_or_ge i listed.size with h' | h'
    · simp [h'] at h2 hun; rw [hun] at h2; cases h2
    · simp [Array.getElem?_eq_none h'] at h2
  · have h2 := waits_listed hc _ _ h1 (fun o ho => by rw [hoi] at ho; cases ho; exact hall2)
    rcases Nat.lt_or_ge j listed.size with h' | h'
    · simp [h'] at h2 hjun; rw [hjun] at h2; cases h2
    · simp [Array.getElem?_eq_none h'] at h2

theorem onlyS {P : Program} {ops : Array Oper} {Q : Exit → Act → World → Prop} (i : Nat) (oi : Oper) {done : List Nat} {a : Act} {w : World} (hi : ops[i]? = some oi)
    (hr : Region.ready .any ops (marked ops.size done) = [i]) (hs : soleB2 ops i = true) (hn : done.length < ops.size) (hw : Region.wanted oi (yielded ops a.tmps) = true)
    (h : ∀ w', Ext w w' → ∀ K : Act → World → Prop, Shut (∀ a' w'', St P ops Q Ext (i :: done) a' w'' → K a' w'') → oi.wp P a w' K Q) : St P ops Q Ext done a w := by
  intro hcl w' hw'
  have e : ops.size - done.length = (ops.size - (i :: done).length) + 1 := by simp only [List.length_cons]; omega
  rw [e]
  refine ⟨fun h0 => (by rw [h0] at hr; cases hr), fun j hj => ?_⟩
  rw [hr] at hj
  obtain rfl : j = i := by simpa using hj
  unfold wpOp
  simp only [hi, hw, if_true]
  exact .inl (h w' hw' _ (fun a' w'' hst => ⟨.inr (sole_of2 hs), hst (hcl.set (by rw [hr]; simp)) w'' (Ext.refl _)⟩))
end Go.Proofs.Ytalbjbcomamomaa.Reg
