/- Many cells of one block set at once; copying of elements of several cells. -/
import Derived.Test.YtalbjbcomamomaaOwn
import Derived.Laws.IdiomCopy
namespace Go.Proofs.Ytalbjbcomamomaa.Base
open Go.ChangeShapes Go.WideShapes Go.ChangeAt Go.RowKit
set_option linter.unusedVariables false

def setMany (d : Array Value) : Nat → List Value → Array Value
  | _, [] => d
  | o, v :: r => setMany (d.setIfInBounds o v) (o + 1) r
theorem Blk_sets {g : Nat} {t : TypeId} : ∀ (vs : List Value) (o : Nat) (d : Array Value) (w : World), Blk w g d t → Blk (w.setCells g o vs) g (setMany d o vs) t
  | [], _, _, _, h => h
  | v :: r, o, d, w, h => by
    rw [World.setCells, setMany]
    exact Blk_sets r (o + 1) _ _ (h.set o v)
theorem Ext_sets {a : World} {g : Nat} (hg : a.heap.size ≤ g) : ∀ (vs : List Value) (o : Nat) {w : World}, Ext a w → Ext a (w.setCells g o vs)
  | [], _, _, h => h
  | v :: r, o, w, h => by
    rw [World.setCells]
    exact Ext_sets hg r (o + 1) (h.setCell hg v)
theorem Chg_sets {S : Nat → Prop} {a : World} {g : Nat} (hg : S g) : ∀ (vs : List Value) (o : Nat) {w : World}, Chg S a w → Chg S a (w.setCells g o vs)
  | [], _, _, h => h
  | v :: r, o, w, h => by
    rw [World.setCells]
    exact Chg_sets hg r (o + 1) (h.set (p := ⟨g, o, none⟩) (.inl hg) v)
theorem Blk_far {g h : Nat} {t : TypeId} {d : Array Value} (hne : g ≠ h) : ∀ (vs : List Value) (o : Nat) {w : World}, Blk w g d t → Blk (w.setCells h o vs) g d t
  | [], _, _, b => b
  | v :: r, o, w, b => by
    rw [World.setCells]
    exact Blk_far hne r (o + 1) (b.far (p := ⟨h, o, none⟩) hne v)
theorem setMany_size : ∀ (vs : List Value) (d : Array Value) (o : Nat), (setMany d o vs).size = d.size
  | [], _, _ => rfl
  | v :: r, d, o => by rw [setMany, setMany_size r]; simp
theorem setMany_list : ∀ (vs : List Value) (d : Array Value) (o : Nat), o + vs.length ≤ d.size → (setMany d o vs).toList = d.toList.take o ++ vs ++ d.toList.drop (o + vs.length)
  | [], d, o, _ => by simp [setMany]
  | v :: r, d, o, h => by
    simp only [List.length_cons] at h
    rw [setMany, setMany_list r _ (o + 1) (by simp; omega)]
    simp only [Array.toList_setIfInBounds, List.length_cons]
    have ho : o < d.toList.length := by simp; omega
    rw [List.set_eq_take_append_cons_drop, if_pos ho]
    have e1 : (d.toList.take o ++ v :: d.toList.drop (o + 1)).take (o + 1) = d.toList.take o ++ [v] := by
      rw [List.take_append, List.take_of_length_le (by simp; omega)]
      congr 1
      rw [List.length_take, Nat.min_eq_left (by omega), show o + 1 - o = 1 by omega]
      rfl
    have e2 : (d.toList.take o ++ v :: d.toList.drop (o + 1)).drop (o + 1 + r.length) = d.toList.drop (o + (r.length + 1)) := by
      rw [List.drop_append, List.drop_eq_nil_of_le (by simp; omega), List.nil_append, List.length_take, Nat.min_eq_left (by omega), show o + 1 + r.length - o = r.length + 1 by omega]
      simp only [List.drop_succ_cons, List.drop_drop]
      congr 1; omega
    rw [e1, e2]
    simp

/-- ALL IS READ BEFORE ANYTHING IS WRITTEN, elements of k cells each. -/
theorem run_copy_many {P : Program} (w : World) (dT sT ty elem k : TypeId) (b o dLen dCap : Nat) (a : Addr) (sLen sCap : Nat) (cs : List Value)
    (hu : P.underlying dT = some (.slice elem)) (hs : (P.info? elem).map (·.size) = some k) (hn : cs.length = Nat.min sLen dLen * k)
    (hsrc : ∀ j v, cs[j]? = some v → w.cell? (a.add j) = some v) (hc : ∀ j, j < cs.length → (w.cell? ⟨b, o + j, none⟩).isSome = true) (hf : ∀ j, j < cs.length → w.frozen? ⟨b, o + j, none⟩ = false) (h1 : ∀ v ∈ cs, v.oneCell' = true) :
    (Builtin.copy_ #[dT, sT] ty #[.slice (some ⟨b, o, none⟩) dLen dCap, .slice (some a) sLen sCap]).run P w = .ok (goInt (Nat.min sLen dLen : Nat)) (w.setCells b o cs) := by
  have hl := run_loadCells_list (P := P) w a cs hsrc
  have hst := run_storeCells_cells (P := P) b o cs 0 w (by simpa using hc) (by simpa using hf) h1
  cases hq : P.info? elem with
  | none => simp [hq] at hs
  | some i =>
    have hi : i.size = k := by simpa [hq] using hs
    simp [Builtin.copy_, run_underlying hu, Builtin.lenOf, Builtin.firstCells, sizeOf, typeInfo, hq, hi, ← hn, hl, hst]
end Go.Proofs.Ytalbjbcomamomaa.Base
