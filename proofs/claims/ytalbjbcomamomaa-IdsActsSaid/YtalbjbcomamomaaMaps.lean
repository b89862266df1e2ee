/- A map from texts to numbers of 64 bits, by the function that it is. -/
import Derived.Test.YtalbjbcomamomaaBase
import Derived.Maps.OwnSet
import Derived.StringKeys
namespace Go.Proofs.Ytalbjbcomamomaa.Mp
open Go.ChangeShapes Go.WideShapes Go.ChangeAt Go.RowKit
open Base
set_option linter.unusedVariables false

/-- map type t of texts (type k) to numbers (type e) -/
structure Mt (P : Program) (t k e : TypeId) : Prop where
  under : P.underlying t = some (.map k e)
  key : P.underlying k = some .string
  elem : P.underlying e = some (.int .u64)
  zero : ∀ w, (zeroValue e).run P w = .ok (.int .u64 0) w

/-- block b is a map of at most n texts, that is the function f -/
def MapU (P : Program) (k e : TypeId) (w : World) (b n : Nat) (f : ByteArray → Option Nat) : Prop :=
  ∃ D : DataW Unit, w.ownsMap P k (plainElem P e) b n D ∧ Maps.IsMap D ∧ (∀ s, (f s).getD 0 ≤ 18446744073709551615) ∧
    ∀ s : ByteArray, Maps.has D (.string s.data.toList) = (f s).isSome ∧ D.atKey (.string s.data.toList) (.lit (.int .u64 0)) = .lit (.int .u64 ((f s).getD 0 : Nat))

section
variable {P : Program} {t k e : TypeId} {w w' : World} {b n : Nat} {f : ByteArray → Option Nat}

theorem MapU.kept {row : Option Nat} (h : MapU P k e w b n f) (hg : w.grownBy w' row) (hne : some b ≠ row) : MapU P k e w' b n f := by
  obtain ⟨D, h1, h2⟩ := h
  exact ⟨D, h1.kept hg hne, h2⟩
theorem MapU.ext (h : MapU P k e w b n f) (hx : Ext w w') : MapU P k e w' b n f := by
  obtain ⟨D, ⟨es, clock, hb, r⟩, h2⟩ := h
  exact ⟨D, ⟨es, clock, hx.heap hb, r⟩, h2⟩
theorem MapU.below {B : Nat} (h : MapU P k e w b n f) (hx : Below B w w') (hb : b < B) : MapU P k e w' b n f := by
  obtain ⟨D, ⟨es, clock, hh, r⟩, h2⟩ := h
  exact ⟨D, ⟨es, clock, (hx.block b hb).trans hh, r⟩, h2⟩
theorem MapU.setCell (h : MapU P k e w b n f) {a : Addr} (ha : b ≠ a.block) (u : Value) : MapU P k e (w.setCell a u) b n f := by
  obtain ⟨D, h1, h2⟩ := h
  exact ⟨D, h1.setCell ha u, h2⟩
theorem MapU.lt (h : MapU P k e w b n f) : b < w.heap.size := by
  obtain ⟨D, h1, h2⟩ := h
  exact h1.lt
theorem MapU.alloc (h : MapU P k e w b n f) (o : Obj) : MapU P k e (w.alloc o) b n f := by
  obtain ⟨D, h1, h2⟩ := h
  exact ⟨D, h1.alloc o, h2⟩
theorem MapU.drew (h : MapU P k e w b n f) : MapU P k e w.drew b n f := h
theorem MapU.made (P : Program) (k e : TypeId) (w : World) : MapU P k e (w.alloc (.map #[] 0)) w.heap.size 0 (fun _ => none) :=
  ⟨.map [], World.ownsMap_made w P k (plainElem P e), Maps.isMap_empty, by simp, fun s => ⟨rfl, by simp [DataW.atKey]⟩⟩

/-- no block of cells is a map's -/
theorem MapU.not_cells {cs : Array Value} {ty : TypeId} {fr : Nat × Nat} (h : MapU P k e w b n f) {g : Nat} (hg : w.heap[g]? = some (.cells cs ty fr)) : b ≠ g := by
  rintro rfl
  obtain ⟨D, ⟨es, clock, hb, r⟩, h2⟩ := h
  rw [hb] at hg
  cases hg

theorem MapU.look_ok (M : Mt P t k e) (h : MapU P k e w b n f) (s : ByteArray) (hs : s.size ≤ maxLen) :
    (Instr.lookup t (.map (some b)) (.string s) true).run P w = .ok (.tuple #[.int .u64 ((f s).getD 0 : Nat), .bool (f s).isSome]) w := by
  obtain ⟨D, h1, h2, h3, h4⟩ := h
  obtain ⟨v, ps, hrun, hv⟩ := h1.look_ok (Go.Maps.string_keyed M.key) M.under (M.zero w) (plainElem_int M.elem (by decide)) (Go.WideMaps.keyOf_string_mk M.key hs)
  obtain ⟨c, rfl, hc, hwc⟩ := plainElem_int_inv M.elem hv
  simp only [Prod.mk.injEq] at hc
  rw [(h4 s).2] at hc
  have hc1 := hc.1
  simp only [DataW.lit.injEq, Lit.int.injEq, true_and] at hc1
  rw [hrun, (h4 s).1, ← hc1]
theorem MapU.look (M : Mt P t k e) (h : MapU P k e w b n f) (s : ByteArray) (hs : s.size ≤ maxLen) :
    (Instr.lookup t (.map (some b)) (.string s) false).run P w = .ok (.int .u64 ((f s).getD 0 : Nat)) w := by
  obtain ⟨D, h1, h2, h3, h4⟩ := h
  obtain ⟨c, hrun, hc, hwc⟩ := h1.lookup_int (Go.Maps.string_keyed M.key) M.under M.elem (M.zero w) (Go.WideMaps.keyOf_string_mk M.key hs)
  rw [(h4 s).2] at hc
  simp only [DataW.lit.injEq, Lit.int.injEq, true_and] at hc
  rw [hrun, ← hc]
theorem MapU.store (M : Mt P t k e) (h : MapU P k e w b n f) (hn : n < maxLen) (s : ByteArray) (hs : s.size ≤ maxLen) (v : Nat) (hv : v ≤ 18446744073709551615) :
    ∃ w', (Instr.mapUpdate t (.map (some b)) (.string s) (.int .u64 v)).run P w = .ok () w' ∧ MapU P k e w' b (n + 1) (fun x => if x = s then some v else f x) ∧ w.grownBy w' (some b) := by
  obtain ⟨D, h1, h2, h3, h4⟩ := h
  obtain ⟨w', hrun, ho, hg⟩ := h1.update (Go.Maps.string_keyed M.key) M.under hn (Go.WideMaps.keyOf_string_mk M.key hs) (plainElem_int (H := Unit) M.elem (a := (v : Int)) (by
    simp [Lit.wf, IntKind.min, IntKind.max, IntKind.signed, IntKind.bits]; omega))
  refine ⟨w', hrun, ⟨_, ho, h2.put _ _, ?_, ?_⟩, hg⟩
  · intro x
    by_cases hx : x = s
    · simp [hx]; exact hv
    · simp only [hx, if_false]; exact h3 x
  · intro x
    by_cases hx : x = s
    · subst hx
      simp only [if_true, Option.isSome_some, Option.getD_some]
      exact ⟨Maps.has_put_same (k := .string x.data.toList) h2 trivial _, Maps.atKey_put_same (k := .string x.data.toList) h2 trivial _ _⟩
    · have hne : (Lit.string x.data.toList) ≠ .string s.data.toList := by
        intro e
        simp only [Lit.string.injEq] at e
        apply hx
        cases x; cases s
        congr 1
        exact Array.toList_inj.1 e
      simp only [hx, if_false]
      exact ⟨(Maps.has_put_other hne _).trans (h4 x).1, (Maps.atKey_put_other hne _ _).trans (h4 x).2⟩
end
end Go.Proofs.Ytalbjbcomamomaa.Mp
