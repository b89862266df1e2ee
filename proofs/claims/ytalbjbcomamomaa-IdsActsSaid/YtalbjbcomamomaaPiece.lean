/- Pieces of a great function: a loop's body taken out of the translation by its block's number, and frames of which only the first slots are told. -/
import Derived.Test.YtalbjbcomamomaaBase
namespace Go.Proofs.Ytalbjbcomamomaa.Piece
set_option linter.unusedVariables false

/-- the body of a block -/
def blk (n : Nat) : Code → Option Code
  | .block m c => bif Nat.beq m n then some c else blk n c
  | .seq a b => match blk n a with
    | some c => some c
    | none => blk n b
  | .cond _ a b => match blk n a with
    | some c => some c
    | none => blk n b
  | .loop c => blk n c
  | .scope c => blk n c
  | .rangeFunc _ _ a b => match blk n a with
    | some c => some c
    | none => blk n b
  | _ => none
/-- the body of the loop that a block is -/
def loopBody (n : Nat) (c : Option Code) : Code := match c with
  | some c => match blk n c with
    | some (.loop b) => b
    | _ => .skip
  | none => .skip

/-- a frame of N slots whose first ones are told -/
def Fr (N : Nat) (vs : List Value) (a : Act) : Prop := ∃ l : List Value, vs.length + l.length = N ∧ a = ⟨(vs ++ l).toArray, []⟩
theorem Fr.spread {N : Nat} {vs : List Value} {a : Act} (h : Fr N vs a) : ∃ u : Nat → Value, a = ⟨(vs ++ (List.range' vs.length (N - vs.length)).map u).toArray, []⟩ := by
  obtain ⟨l, hl, rfl⟩ := h
  refine ⟨fun i => l.getD (i - vs.length) undef, ?_⟩
  have e : (List.range' vs.length (N - vs.length)).map (fun i => l.getD (i - vs.length) undef) = l := by
    apply List.ext_getElem
    · simp; omega
    · intro i h1 h2
      simp [List.getD, List.getElem?_eq_getElem h2]
  rw [e]
theorem own_ge {B : Nat} {v v' : Value} {w w' : World} (hv : v'.ownBlock = v.ownBlock ∨ v'.ownBlock = some w.heap.size ∧ w.heap.size < w'.heap.size) (hb : ∀ k, v.ownBlock = some k → B ≤ k) (hs : B ≤ w.heap.size) : ∀ k, v'.ownBlock = some k → B ≤ k := fun k hk => by
  rcases hv with e | e
  · exact hb k (by rw [← e, hk])
  · rw [e.1] at hk; injection hk with hk; omega
end Go.Proofs.Ytalbjbcomamomaa.Piece
