/- fault: errors.As, and what asks it. -/
import Derived.Test.YtfdillopdfihfaaDoorFltAs
namespace Go.Proofs.YtfdillopdfihfaaDoor.Flt
open Go.ChangeShapes Go.WideShapes Go.ChangeAt Go.RowKit Go.Extern.Stop Go.Stop Go.Extern
open Base
set_option linter.unusedVariables false
set_option linter.unusedSimpArgs false

/-- errors' own variable holds the handle of the type error -/
def Tab (w : World) : Prop := w.cell? ⟨0, 0, none⟩ = some (.iface 69 (.agg #[.pointer (some ⟨1, 26, none⟩)]))
theorem Tab.ext {w w' : World} (h : Tab w) (hx : Ext w w') : Tab w' := hx.cell h
theorem Tab.lt {w : World} (h : Tab w) : 0 < w.heap.size := World.block_lt_of_cell? w ⟨0, 0, none⟩ h

theorem as_nil (t : Value) (w : World) :
    Calls Tryd.prog 13 #[.nilIface, t] w fun e w' => e = .returned (.bool false) ∧ w' = w := by
  go_enter Tryd.func13, Tryd.ntmps13
  go_wp2_with fail
  go_ret
  exact ⟨rfl, rfl⟩

set_option maxHeartbeats 4000000 in
theorem asE_top (l : List ByteArray) (b : Bs) (t : Addr) (old : Value) (w : World) (hg : Tab w) (ht0 : w.cell? t = some old) (hf0 : w.frozen? t = false) :
    Calls Tryd.prog 13 #[wrapV l b.v, .iface 67 (.pointer (some t))] w fun e w' => asEPost w t e w' b := by
  have h25 := @run_callFunc_extern Tryd.prog 25 _ (fun args => ReflectliteValue.unpack (args.getD 0 (.tuple #[]))) Tryd.func25 (by kernel_rfl) (by kernel_rfl) (by kernel_rfl) (by kernel_rfl)
  have h26 := @run_callFunc_extern Tryd.prog 26 _ (ReflectliteValue.methodAny (ReflectliteValue.valueError "reflectlite.Value.Type" 0) (fun t _ _ _ => ReflectliteType.toType t)) Tryd.func26 (by kernel_rfl) (by kernel_rfl) (by kernel_rfl) (by kernel_rfl)
  have h27 := @run_callFunc_extern Tryd.prog 27 _ (ReflectliteValue.method (ReflectliteValue.valueError "reflectlite.Value.IsNil" 0) ReflectliteValue.isNil) Tryd.func27 (by kernel_rfl) (by kernel_rfl) (by kernel_rfl) (by kernel_rfl)
  have h48 := @run_callFunc_extern Tryd.prog 48 _ (ReflectliteType.abiMethod fun t => do pure (.int .u8 (← Rtype.kind t))) Tryd.func48 (by kernel_rfl) (by kernel_rfl) (by kernel_rfl) (by kernel_rfl)
  have h61 := @run_callFunc_extern Tryd.prog 61 _ (ReflectliteType.method ReflectliteType.elem) Tryd.func61 (by kernel_rfl) (by kernel_rfl) (by kernel_rfl) (by kernel_rfl)
  have h62 := @run_callFunc_extern Tryd.prog 62 _ (ReflectliteType.relation "Implements" ReflectliteType.implements_) Tryd.func62 (by kernel_rfl) (by kernel_rfl) (by kernel_rfl) (by kernel_rfl)
  have v1 := valueOfPE
  have v2 := typePE
  have v3 := mKind
  have v4 := kindPE
  have v5 := kindE
  have v6 := mElem
  have v7 := elemPE
  have v8 := mImpl
  have v9 := implE
  have hx1 := ((Ext.refl w).alloc (.cells #[.pointer (some t)] 67)).alloc (.cells #[.pointer (some ⟨1, 67, none⟩), .pointer (some ⟨w.heap.size, 0, none⟩), .int .u64 150] 53)
  have ha1 : ((w.alloc (.cells #[.pointer (some t)] 67)).alloc (.cells #[.pointer (some ⟨1, 67, none⟩), .pointer (some ⟨w.heap.size, 0, none⟩), .int .u64 150] 53)).cell? ⟨w.heap.size, 0, none⟩ = some (.pointer (some t)) := ((Blk.new w #[.pointer (some t)] 67).alloc _).cell 0
  have n27 := isNilPE ⟨w.heap.size, 0, none⟩ t _ ha1
  have hg1 : ((w.alloc (.cells #[.pointer (some t)] 67)).alloc (.cells #[.pointer (some ⟨1, 67, none⟩), .pointer (some ⟨w.heap.size, 0, none⟩), .int .u64 150] 53)).cell? ⟨0, 0, none⟩ = some (.iface 69 (.agg #[.pointer (some ⟨1, 26, none⟩)])) := hx1.cell hg
  have has := asE_any l b t ⟨w.heap.size, 0, none⟩ old _ ha1 (hx1.cell ht0) (by rw [ext_frozen hx1 ht0]; exact hf0)
  obtain ⟨T, V, hu⟩ := wrapV_iface l b
  rw [hu] at has ⊢
  go_enter Tryd.func13, Tryd.ntmps13
  go_wp2_with fail
  refine has.mono ?_
  rintro e w2 h
  cases b with
  | e n =>
    obtain ⟨rfl, h⟩ := h
    go_wp2_with fail
    go_ret
    exact asEPost.ext (b := .e n) hx1 ⟨rfl, h⟩
  | s p =>
    obtain ⟨rfl, h⟩ := h
    go_wp2_with fail
    go_ret
    exact asEPost.ext (b := .s p) hx1 ⟨rfl, h⟩

set_option maxHeartbeats 4000000 in
theorem asF_top (l : List ByteArray) (b : Bs) (g : Nat) (o1 o2 : Value) (w : World) (hg : Tab w) (hF : Blk w g #[o1, o2] 31) :
    Calls Tryd.prog 13 #[wrapV l b.v, .iface 33 (.pointer (some ⟨g, 0, none⟩))] w fun e w' => asFPost w g b e w' l := by
  have h25 := @run_callFunc_extern Tryd.prog 25 _ (fun args => ReflectliteValue.unpack (args.getD 0 (.tuple #[]))) Tryd.func25 (by kernel_rfl) (by kernel_rfl) (by kernel_rfl) (by kernel_rfl)
  have h26 := @run_callFunc_extern Tryd.prog 26 _ (ReflectliteValue.methodAny (ReflectliteValue.valueError "reflectlite.Value.Type" 0) (fun t _ _ _ => ReflectliteType.toType t)) Tryd.func26 (by kernel_rfl) (by kernel_rfl) (by kernel_rfl) (by kernel_rfl)
  have h27 := @run_callFunc_extern Tryd.prog 27 _ (ReflectliteValue.method (ReflectliteValue.valueError "reflectlite.Value.IsNil" 0) ReflectliteValue.isNil) Tryd.func27 (by kernel_rfl) (by kernel_rfl) (by kernel_rfl) (by kernel_rfl)
  have h48 := @run_callFunc_extern Tryd.prog 48 _ (ReflectliteType.abiMethod fun t => do pure (.int .u8 (← Rtype.kind t))) Tryd.func48 (by kernel_rfl) (by kernel_rfl) (by kernel_rfl) (by kernel_rfl)
  have h61 := @run_callFunc_extern Tryd.prog 61 _ (ReflectliteType.method ReflectliteType.elem) Tryd.func61 (by kernel_rfl) (by kernel_rfl) (by kernel_rfl) (by kernel_rfl)
  have h62 := @run_callFunc_extern Tryd.prog 62 _ (ReflectliteType.relation "Implements" ReflectliteType.implements_) Tryd.func62 (by kernel_rfl) (by kernel_rfl) (by kernel_rfl) (by kernel_rfl)
  have v1 := valueOfPF
  have v2 := typePF
  have v3 := mKind
  have v4 := kindPF
  have v5 := kindF
  have v6 := mElem
  have v7 := elemPF
  have v8 := mImpl
  have v9 := implF
  have hx1 := ((Ext.refl w).alloc (.cells #[.pointer (some ⟨g, 0, none⟩)] 33)).alloc (.cells #[.pointer (some ⟨1, 33, none⟩), .pointer (some ⟨w.heap.size, 0, none⟩), .int .u64 150] 53)
  have ha1 : ((w.alloc (.cells #[.pointer (some ⟨g, 0, none⟩)] 33)).alloc (.cells #[.pointer (some ⟨1, 33, none⟩), .pointer (some ⟨w.heap.size, 0, none⟩), .int .u64 150] 53)).cell? ⟨w.heap.size, 0, none⟩ = some (.pointer (some ⟨g, 0, none⟩)) := ((Blk.new w #[.pointer (some ⟨g, 0, none⟩)] 33).alloc _).cell 0
  have n27 := isNilPF ⟨w.heap.size, 0, none⟩ ⟨g, 0, none⟩ _ ha1
  have hg1 : ((w.alloc (.cells #[.pointer (some ⟨g, 0, none⟩)] 33)).alloc (.cells #[.pointer (some ⟨1, 33, none⟩), .pointer (some ⟨w.heap.size, 0, none⟩), .int .u64 150] 53)).cell? ⟨0, 0, none⟩ = some (.iface 69 (.agg #[.pointer (some ⟨1, 26, none⟩)])) := hx1.cell hg
  have has := asF_any l b g ⟨w.heap.size, 0, none⟩ o1 o2 _ ha1 (hF.ext hx1)
  obtain ⟨T, V, hu⟩ := wrapV_iface l b
  rw [hu] at has ⊢
  go_enter Tryd.func13, Tryd.ntmps13
  go_wp2_with fail
  refine has.mono ?_
  rintro e w2 h
  cases l with
  | nil =>
    obtain ⟨rfl, h⟩ := h
    go_wp2_with fail
    go_ret
    exact asFPost.ext (l := []) hx1 ⟨rfl, h⟩
  | cons s r =>
    obtain ⟨rfl, h⟩ := h
    go_wp2_with fail
    go_ret
    exact asFPost.ext (l := s :: r) hx1 ⟨rfl, h⟩

/-- the reason -/
def Bs.why : Bs → Int
  | .e n => n
  | .s _ => 7
theorem why_nil (w : World) : Calls Tryd.prog 24 #[.nilIface] w fun e w' => e = .returned (.int .i64 0) ∧ Ext w w' := by
  go_enter Tryd.func24, Tryd.ntmps24
  go_wp2_with fail
  go_ret
  exact ⟨rfl, Ext.refl w⟩
theorem why_any (l : List ByteArray) (b : Bs) (w : World) (hg : Tab w) : Calls Tryd.prog 24 #[wrapV l b.v] w fun e w' => e = .returned (.int .i64 b.why) ∧ Ext w w' := by
  have hz := Blk.new w #[.int .i64 0] 24
  have hxa := (Ext.refl w).alloc (.cells #[.int .i64 0] 24)
  have has := asE_top l b ⟨w.heap.size, 0, none⟩ (.int .i64 0) _ (hg.ext hxa) (hz.cell 0) (hz.frozen 0)
  obtain ⟨T, V, hu⟩ := wrapV_iface l b
  rw [hu] at has ⊢
  go_enter Tryd.func24, Tryd.ntmps24
  go_wp2_with fail
  refine has.mono ?_
  rintro e w2 h
  cases b with
  | e n =>
    obtain ⟨rfl, W, hW, rfl⟩ := h
    have hn : (W.setCell ⟨w.heap.size, 0, none⟩ (.int .i64 n)).cell? ⟨w.heap.size, 0, none⟩ = some (.int .i64 n) := ((hz.ext hW).set 0 (.int .i64 n)).cell 0
    have hx2 : Ext w (W.setCell ⟨w.heap.size, 0, none⟩ (.int .i64 n)) := (hxa.trans hW).setCell (Nat.le_refl _) _
    go_wp2_with fail
    go_ret
    exact ⟨rfl, hx2⟩
  | s p =>
    obtain ⟨rfl, h⟩ := h
    go_wp2_with fail
    go_ret
    exact ⟨rfl, hxa.trans h⟩

theorem Why_nil (w : World) : Calls Tryd.prog 14 #[.nilIface] w fun e w' => e = .returned (.int .i64 0) ∧ Ext w w' := by
  have h := why_nil w
  go_enter Tryd.func14, Tryd.ntmps14
  go_wp2_with fail
  refine h.mono ?_
  rintro e w2 ⟨rfl, hx⟩
  go_wp2_with fail
  go_ret
  exact ⟨rfl, hx⟩
theorem Why_any (l : List ByteArray) (b : Bs) (w : World) (hg : Tab w) : Calls Tryd.prog 14 #[wrapV l b.v] w fun e w' => e = .returned (.int .i64 b.why) ∧ Ext w w' := by
  have h := why_any l b w hg
  obtain ⟨u, hu⟩ : ∃ u, Hid (wrapV l b.v = u) := ⟨_, rfl⟩
  rw [hu.out] at h ⊢
  go_enter Tryd.func14, Tryd.ntmps14
  go_wp2_with fail
  refine h.mono ?_
  rintro e w2 ⟨rfl, hx⟩
  go_wp2_with fail
  go_ret
  exact ⟨rfl, hx⟩

end Go.Proofs.YtfdillopdfihfaaDoor.Flt
