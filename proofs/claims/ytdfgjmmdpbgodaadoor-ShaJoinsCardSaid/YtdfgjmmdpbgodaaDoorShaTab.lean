/- sha: what the rows' list gives: the two tables; a world for the witness. -/
import Derived.Test.YtdfgjmmdpbgodaaDoorShaApi
import Derived.Test.YtdfgjmmdpbgodaaDoorCards
import Derived.Test.YtdfgjmmdpbgodaaDoorTie
import Derived.WalkKit
import Derived.ProofKit
import Derived.OpenShut
import Derived.Deep.DeepHandedRow
import Derived.Lib.LaidTab
import Derived.Stop.LaidErr
import Derived.MakeChecks
namespace Go.Proofs.YtdfgjmmdpbgodaaDoor.ShaW
open Go.ChangeShapes Go.WideShapes Go.ChangeAt Go.RowKit
open ShaP Base
set_option linter.unusedVariables false

theorem gFirst : Tryd.prog.globalNamed "suffragan/sha.first" = some 0 := by kernel_rfl
theorem gRoots : Tryd.prog.globalNamed "suffragan/sha.roots" = some 1 := by kernel_rfl
def firstInts : List Int := [1779033703, 3144134277, 1013904242, 2773480762, 1359893119, 2600822924, 528734635, 1541459225]
def rootsInts : List Int := [1116352408, 1899447441, 3049323471, 3921009573, 961987163, 1508970993, 2453635748, 2870763221, 3624381080, 310598401, 607225278, 1426881987, 1925078388, 2162078206, 2614888103, 3248222580, 3835390401, 4022224774, 264347078, 604807628, 770255983, 1249150122, 1555081692, 1996064986, 2554220882, 2821834349, 2952996808, 3210313671, 3336571891, 3584528711, 113926993, 338241895, 666307205, 773529912, 1294757372, 1396182291, 1695183700, 1986661051, 2177026350, 2456956037, 2730485921, 2820302411, 3259730800, 3345764771, 3516065817, 3600352804, 4094571909, 275423344, 430227734, 506948616, 659060556, 883997877, 958139571, 1322822218, 1537002063, 1747873779, 1955562222, 2024104815, 2227730452, 2361852424, 2428436474, 2756734187, 3204031479, 3329325298]
theorem tabFirst {W : World} (h : laidMet Tryd.prog [("suffragan/sha.first", Rows.laid_suffragan_sha_first), ("suffragan/sha.roots", Rows.laid_suffragan_sha_roots)] W) : Lib.TabIs Tryd.prog W "suffragan/sha.first" .u32 firstInts :=
  Lib.tabIs_of_head (rest := [("suffragan/sha.roots", Rows.laid_suffragan_sha_roots)]) (t := 46) (e := 44) (n := 8) gFirst (by kernel_rfl) (by kernel_rfl) Tryd.underlying44 (by kernel_rfl) (by kernel_rfl) h
theorem tabRoots {W : World} (h : laidMet Tryd.prog [("suffragan/sha.first", Rows.laid_suffragan_sha_first), ("suffragan/sha.roots", Rows.laid_suffragan_sha_roots)] W) : Lib.TabIs Tryd.prog W "suffragan/sha.roots" .u32 rootsInts :=
  Lib.tabIs_of_head (rest := []) (t := 56) (e := 44) (n := 64) gRoots (by kernel_rfl) (by kernel_rfl) Tryd.underlying44 (by kernel_rfl) (by kernel_rfl) (laidMet.tail h)
theorem us_first : us first = firstInts.map (Value.int .u32) := by kernel_rfl
theorem us_roots : us roots = rootsInts.map (Value.int .u32) := by kernel_rfl
theorem cells_of {W : World} {g : Nat} {name : String} {l : List (BitVec 32)} {zs : List Int} (h : Lib.TabIs Tryd.prog W name .u32 zs) (hg : Tryd.prog.globalNamed name = some g) (e : us l = zs.map (Value.int .u32)) : ∀ j v, (us l)[j]? = some v → W.cell? ⟨g, j, none⟩ = some v := by
  intro j v hj
  rw [e, List.getElem?_map] at hj
  have hlt : j < zs.length := by
    rcases Nat.lt_or_ge j zs.length with x | x
    · exact x
    · rw [List.getElem?_eq_none x] at hj; cases hj
  rw [h.cell hg j hlt]
  rw [List.getElem?_eq_getElem hlt] at hj
  simpa [List.getD, List.getElem?_eq_getElem hlt] using hj
/-- what the rows' list gives -/
theorem tabs {W : World} (h : laidMetH Tryd.prog [("suffragan/sha.first", Rows.laid_suffragan_sha_first), ("suffragan/sha.roots", Rows.laid_suffragan_sha_roots)] W) : Tabs W := by
  have h' : laidMet Tryd.prog [("suffragan/sha.first", Rows.laid_suffragan_sha_first), ("suffragan/sha.roots", Rows.laid_suffragan_sha_roots)] W := h
  exact ⟨cells_of (tabFirst h') gFirst us_first, cells_of (tabRoots h') gRoots us_roots⟩

/-- a world for the witness -/
def lay (cs : Array Value) : Obj → Obj
  | .cells _ t frozen => .cells cs t frozen
  | o => o
noncomputable def laidWorld (os : Os) : World :=
  { World.holding Tryd.prog os ⟨#[], #[], []⟩ with heap := ((World.holding Tryd.prog os ⟨#[], #[], []⟩).heap.modify 0 (lay (firstInts.map (Value.int .u32)).toArray)).modify 1 (lay (rootsInts.map (Value.int .u32)).toArray) }
end Go.Proofs.YtdfgjmmdpbgodaaDoor.ShaW
