/-
  No cell of these rows narrows 'for every input' (looked for: loops, veiled, ifaces, maps, wideKeys, modest, calm, conditions, laid).
  DERIVED. THE GIVEN ROWS OF THIS SEAT. 3 by the template 'for every input the law returns true; each argument reads behind the call as it read before'; 0 by the template 'total and deterministic' (their statements: YtalbjbcomamomaaTotals.lean).
  GIVEN WITH THE SEED: the statements are not yours to turn. If you find one false, say at which input.
  Laid BY PROGRAM, IN A SANDBOX (cutbox-rows.mjs): the forced cells as the released guide's own fill.sh prints them over the translation 8e2a48811ecb8f96… (all of the seat's roots in one cut). By AI agents, Wed Nov 11 2026. No macro, syntax, notation, axiom, sorry.
-/
import Derived.Test.YtalbjbcomamomaaChecked
import GoSem.Claim
import GoSem.ClaimJoined
import GoSem.ClaimMapViews
import Derived.JoinedTies
import Derived.KernelRfl
namespace Go.Proofs.Ytalbjbcomamomaa
/- THE CELL 'sum', in the pinned program and in every row, IS THE sha256 OF THE DUMP (.gsa) THAT YtalbjbcomamomaaProg.lean LOADS. Nothing in Lean hashes anything: it is a label: what it is worth is what the hold of that sum in a sandbox is worth. -/
noncomputable def Try.pinned : Pinned := { name := "ytalbjbcomamomaa", sum := "8e2a48811ecb8f96359c8a5583626b925c805a2b4143d272fe9f3c5d5e08c7c9", checked := Try.checked }
namespace Rows
def none {H : Type} : Left H := { results := [], args := [] }

/-- 'suffraganlaw16.IdsFull': WHATEVER THE INPUT: true; the input reads as it did. -/
def idsFullSpec : ChangeSpec := { name := "idsFull", fn := fun _ => fun
  | [d1, d2] => { results := [.lit (.bool true)], args := [d1, d2] }
  | _ => none }
def idsFullRow : OpenClaim := { program := "ytalbjbcomamomaa", sum := "8e2a48811ecb8f96359c8a5583626b925c805a2b4143d272fe9f3c5d5e08c7c9", func := "suffragan/suffraganlaw16.IdsFull", spec := "idsFull", apart := false }
def IdsFullSaid : Prop := idsFullRow.holds Try.pinned (OpenSpec.ofChange idsFullSpec)

/-- ITS FALSE NEIGHBOUR: 'it returns false'. Refute it at one input. -/
def idsFullWrong : ChangeSpec := { name := "idsFull", fn := fun _ => fun
  | [d1, d2] => { results := [.lit (.bool false)], args := [d1, d2] }
  | _ => none }
def IdsFullWrongFalsely : Prop := idsFullRow.holds Try.pinned (OpenSpec.ofChange idsFullWrong)

/-- 'suffraganlaw16.IdsOnce': WHATEVER THE INPUT: true; the input reads as it did. -/
def idsOnceSpec : ChangeSpec := { name := "idsOnce", fn := fun _ => fun
  | [d1, d2] => { results := [.lit (.bool true)], args := [d1, d2] }
  | _ => none }
def idsOnceRow : OpenClaim := { program := "ytalbjbcomamomaa", sum := "8e2a48811ecb8f96359c8a5583626b925c805a2b4143d272fe9f3c5d5e08c7c9", func := "suffragan/suffraganlaw16.IdsOnce", spec := "idsOnce", inPlace := ["slices.overlaps[suffragan/api.Bound]"], unfollowed := true, recurses := true, apart := false }
def IdsOnceSaid : Prop := idsOnceRow.holds Try.pinned (OpenSpec.ofChange idsOnceSpec)

/-- ITS FALSE NEIGHBOUR: 'it returns false'. Refute it at one input. -/
def idsOnceWrong : ChangeSpec := { name := "idsOnce", fn := fun _ => fun
  | [d1, d2] => { results := [.lit (.bool false)], args := [d1, d2] }
  | _ => none }
def IdsOnceWrongFalsely : Prop := idsOnceRow.holds Try.pinned (OpenSpec.ofChange idsOnceWrong)

/-- 'suffraganlaw16.IdsActs': WHATEVER THE INPUT: true; the input reads as it did. -/
def idsActsSpec : ChangeSpec := { name := "idsActs", fn := fun _ => fun
  | [d1, d2] => { results := [.lit (.bool true)], args := [d1, d2] }
  | _ => none }
def idsActsRow : OpenClaim := { program := "ytalbjbcomamomaa", sum := "8e2a48811ecb8f96359c8a5583626b925c805a2b4143d272fe9f3c5d5e08c7c9", func := "suffragan/suffraganlaw16.IdsActs", spec := "idsActs", inPlace := ["slices.overlaps[suffragan/api.Bound]"], unfollowed := true, recurses := true, apart := false }
def IdsActsSaid : Prop := idsActsRow.holds Try.pinned (OpenSpec.ofChange idsActsSpec)

/-- ITS FALSE NEIGHBOUR: 'it returns false'. Refute it at one input. -/
def idsActsWrong : ChangeSpec := { name := "idsActs", fn := fun _ => fun
  | [d1, d2] => { results := [.lit (.bool false)], args := [d1, d2] }
  | _ => none }
def IdsActsWrongFalsely : Prop := idsActsRow.holds Try.pinned (OpenSpec.ofChange idsActsWrong)

/- THE SECOND FORM. 'bulk': how many values and letters a reading holds, each counted each time it is reached (what is shared counts as often as it is met; a slice's spare places count too). A statement '..UptoSaid' is the law's where the arguments, and the package variables that the reading takes, are together of bulk at most 1048576: NARROWER than '..Said'. Prove '..Said' where nothing that the law and all that it calls make is longer than what came in: it says more and counts as full. Else prove '..UptoSaid'. A law counts once. -/
mutual
def uptoBulk {H : Type} : DataW H → Nat
  | .lit (.string bytes) => bytes.length + 1
  | .lit _ => 1
  | .nil => 1
  | .ptr d => uptoBulk d + 1
  | .slice elems spare => uptoBulkAll elems + uptoBulkAll spare + 1
  | .agg parts => uptoBulkAll parts + 1
  | .iface _ d => uptoBulk d + 1
  | .map entries => uptoBulkEntries entries + 1
  | .held _ => 1
def uptoBulkAll {H : Type} : List (DataW H) → Nat
  | [] => 0
  | d :: r => uptoBulk d + uptoBulkAll r
def uptoBulkEntries {H : Type} : List (Lit × DataW H) → Nat
  | [] => 0
  | x :: r => uptoBulkEntry x + uptoBulkEntries r
def uptoBulkEntry {H : Type} : Lit × DataW H → Nat
  | (.string bytes, d) => bytes.length + uptoBulk d + 1
  | (_, d) => uptoBulk d + 1
 end
def uptoSmall : (H : Type) → List (DataW H) → Bool := fun _ ds => decide (uptoBulkAll ds ≤ 1048576)
def OpenSpec.upto (s : _root_.Go.ChangeSpec) : _root_.Go.OpenSpec := { _root_.Go.OpenSpec.ofChange s with cond := some uptoSmall }

/-- 'suffraganlaw16.IdsFull', WHERE WHAT IT READS IS OF BULK AT MOST 1048576: true; the input reads as it did. -/
def idsFullUptoRow : OpenClaim := { program := "ytalbjbcomamomaa", sum := "8e2a48811ecb8f96359c8a5583626b925c805a2b4143d272fe9f3c5d5e08c7c9", func := "suffragan/suffraganlaw16.IdsFull", spec := "idsFull", apart := false, narrowed := true }
def IdsFullUptoSaid : Prop := idsFullUptoRow.holds Try.pinned (OpenSpec.upto idsFullSpec)

/-- 'suffraganlaw16.IdsOnce', WHERE WHAT IT READS IS OF BULK AT MOST 1048576: true; the input reads as it did. -/
def idsOnceUptoRow : OpenClaim := { program := "ytalbjbcomamomaa", sum := "8e2a48811ecb8f96359c8a5583626b925c805a2b4143d272fe9f3c5d5e08c7c9", func := "suffragan/suffraganlaw16.IdsOnce", spec := "idsOnce", inPlace := ["slices.overlaps[suffragan/api.Bound]"], unfollowed := true, recurses := true, apart := false, narrowed := true }
def IdsOnceUptoSaid : Prop := idsOnceUptoRow.holds Try.pinned (OpenSpec.upto idsOnceSpec)

/-- 'suffraganlaw16.IdsActs', WHERE WHAT IT READS IS OF BULK AT MOST 1048576: true; the input reads as it did. -/
def idsActsUptoRow : OpenClaim := { program := "ytalbjbcomamomaa", sum := "8e2a48811ecb8f96359c8a5583626b925c805a2b4143d272fe9f3c5d5e08c7c9", func := "suffragan/suffraganlaw16.IdsActs", spec := "idsActs", inPlace := ["slices.overlaps[suffragan/api.Bound]"], unfollowed := true, recurses := true, apart := false, narrowed := true }
def IdsActsUptoSaid : Prop := idsActsUptoRow.holds Try.pinned (OpenSpec.upto idsActsSpec)

end Rows
end Go.Proofs.Ytalbjbcomamomaa
