/- fault: errors.As at *api.Errno and at *api.Fault, on errors wrapped in places. -/
import Derived.Test.YtfdillopdfihfaaDoorFltMem
namespace Go.Proofs.YtfdillopdfihfaaDoor.Flt
open Go.ChangeShapes Go.WideShapes Go.ChangeAt Go.RowKit Go.Extern.Stop Go.Stop Go.Extern
open Base
set_option linter.unusedVariables false
set_option linter.unusedSimpArgs false

/-- an error wrapped in places, the outermost first -/
def wrapV : List ByteArray → Value → Value
  | [], b => b
  | s :: r, b => .iface 31 (.agg #[.string s, wrapV r b])
/-- what is behind all places -/
inductive Bs
  | e (n : Int)
  | s (p : Option Addr)
def Bs.v : Bs → Value
  | .e n => .iface 24 (.int .i64 n)
  | .s p => .iface 64 (.pointer p)
theorem wrapV_one (l : List ByteArray) (b : Bs) : (wrapV l b.v).oneCell' = true := by
  cases l <;> cases b <;> rfl

theorem wrapV_iface (l : List ByteArray) (b : Bs) : ∃ T V, wrapV l b.v = .iface T V := by
  cases l with
  | nil => cases b <;> exact ⟨_, _, rfl⟩
  | cons s r => exact ⟨_, _, rfl⟩
theorem ext_frozen {w w' : World} (h : Ext w w') {a : Addr} {v : Value} (hc : w.cell? a = some v) : w'.frozen? a = w.frozen? a :=
  World.frozen?_of_block (Below.block h a.block (World.block_lt_of_cell? w a hc))
/-- what errors.As says of it at *api.Errno -/
def asEPost (w : World) (t : Addr) (e : Ending) (w' : World) : Bs → Prop
  | .e n => e = .returned (.bool true) ∧ ∃ W, Ext w W ∧ w' = W.setCell t (.int .i64 n)
  | .s _ => e = .returned (.bool false) ∧ Ext w w'
theorem asEPost.ext {w w1 : World} {t : Addr} {e : Ending} {w' : World} {b : Bs} (hx : Ext w w1) (h : asEPost w1 t e w' b) : asEPost w t e w' b := by
  cases b with
  | e n => obtain ⟨he, W, h1, h2⟩ := h; exact ⟨he, W, hx.trans h1, h2⟩
  | s p => exact ⟨h.1, hx.trans h.2⟩

theorem unwrap_any (s : ByteArray) (e : Value) (he : e.oneCell' = true) (w : World) :
    Calls Tryd.prog 53 #[.agg #[.string s, e]] w fun r w' => r = .returned e ∧ Ext w w' := by
  go_enter Tryd.func53, Tryd.ntmps53
  go_wp2_with fail
  go_ret
  exact ⟨rfl, (Ext.refl w).alloc _⟩

set_option maxHeartbeats 4000000 in
theorem asE_any (l : List ByteArray) (b : Bs) (t a : Addr) (old : Value) (w : World) (ha : w.cell? a = some (.pointer (some t))) (ht0 : w.cell? t = some old) (hf0 : w.frozen? t = false) :
    Calls Tryd.prog 28 #[wrapV l b.v, .iface 67 (.pointer (some t)), .agg #[.pointer (some ⟨1, 67, none⟩), .pointer (some a), .int .u64 150], .iface 69 (.agg #[.pointer (some ⟨1, 24, none⟩)])] w fun e w' => asEPost w t e w' b := by
  have h30 := @run_callFunc_extern Tryd.prog 30 _ ReflectliteType.typeOf Tryd.func30 (by kernel_rfl) (by kernel_rfl) (by kernel_rfl) (by kernel_rfl)
  have h59 := @run_callFunc_extern Tryd.prog 59 _ (ReflectliteType.relation "AssignableTo" ReflectliteType.assignableTo) Tryd.func59 (by kernel_rfl) (by kernel_rfl) (by kernel_rfl) (by kernel_rfl)
  have mA := mAsg
  have hx0 := (Ext.refl w).alloc (.cells #[.pointer (some ⟨1, 67, none⟩), .pointer (some a), .int .u64 150] 53)
  have hBx := Blk.new w #[.pointer (some ⟨1, 67, none⟩), .pointer (some a), .int .u64 150] 53
  go_enter Tryd.func28, Tryd.ntmps28
  go_wp2_with fail
  go_loopw [0, 9, 10, 11, 16, 17, 18, 19, 25, 26, 27, 28, 29, 30, 31, 32, 33, 34, 35, 36, 37, 38, 39, 40, 41, 42, 43] (fun v0 v9 v10 v11 v16 v17 v18 v19 v25 v26 v27 v28 v29 v30 v31 v32 v33 v34 v35 v36 v37 v38 v39 v40 v41 v42 v43 wv => ∃ r : List ByteArray, v0 = wrapV r b.v ∧ Ext w wv ∧ Blk wv w.heap.size #[.pointer (some ⟨1, 67, none⟩), .pointer (some a), .int .u64 150] 53) (fun v0 _ _ _ _ _ _ _ _ _ _ _ _ _ _ _ _ _ _ _ _ _ _ _ _ _ _ _ => SizeOf.sizeOf v0)
  case atStart => exact ⟨l, rfl, hx0, hBx⟩
  case round =>
    clear hx0 hBx
    obtain ⟨r, rfl, hx, hB⟩ := hrel
    have eB0 : wr.cell? ⟨w.heap.size, 0, none⟩ = some (.pointer (some ⟨1, 67, none⟩)) := hB.cell 0
    have eB1 : wr.cell? ⟨w.heap.size, 1, none⟩ = some (.pointer (some a)) := hB.cell 1
    have eB2 : wr.cell? ⟨w.heap.size, 2, none⟩ = some (.int .u64 150) := hB.cell 2
    cases r with
    | nil =>
      cases b with
      | e n =>
        rw [show wrapV [] (Bs.e n).v = .iface 24 (.int .i64 n) from rfl]
        have tO := typeOfE
        have aE := asgEE
        have h32 := @run_callFunc_extern Tryd.prog 32 _ (ReflectliteValue.method (ReflectliteValue.valueError "reflectlite.Value.Elem" 0) ReflectliteValue.elem) Tryd.func32 (by kernel_rfl) (by kernel_rfl) (by kernel_rfl) (by kernel_rfl)
        have h25 := @run_callFunc_extern Tryd.prog 25 _ (fun args => ReflectliteValue.unpack (args.getD 0 (.tuple #[]))) Tryd.func25 (by kernel_rfl) (by kernel_rfl) (by kernel_rfl) (by kernel_rfl)
        have h33 := @run_callFunc_extern Tryd.prog 33 _ ReflectliteValue.set Tryd.func33 (by kernel_rfl) (by kernel_rfl) (by kernel_rfl) (by kernel_rfl)
        have vE := valueOfE n
        have el := elemVPE a t wr (hx.cell ha)
        have hb0 := (Blk.new wr #[.int .i64 n] 24).cell 0
        have st := setE t ⟨wr.heap.size, 0, none⟩ n old (wr.alloc (.cells #[.int .i64 n] 24)) hb0 ((hx.alloc _).cell ht0) (by rw [ext_frozen (hx.alloc _) ht0]; exact hf0)
        have hxa := hx.alloc (.cells #[.int .i64 n] 24)
        go_wp2_with fail
        go_ret
        exact ⟨rfl, _, hxa, rfl⟩
      | s p =>
        rw [show wrapV [] (Bs.s p).v = .iface 64 (.pointer p) from rfl]
        have tO := typeOfS
        have aE := asgSE
        have t1 := taAsS
        have t2 := taUwS
        have t3 := taUsS
        go_wp2_with fail
        go_ret
        exact ⟨rfl, hx⟩
    | cons s r =>
      rw [wrapV]
      have tO := typeOfF
      have aE := asgFE
      have t1 := taAsF
      have t2 := taUwF
      have mU := mUnw
      have h1 := wrapV_one r b
      obtain ⟨T, V, hu⟩ := wrapV_iface r b
      rw [hu] at h1 ⊢
      go_wp2_with fail
      refine (unwrap_any s (.iface T V) h1 wr).mono ?_
      rintro e w2 ⟨rfl, hx2⟩
      have hB2 := hB.ext hx2
      go_wp2_with fail
      exact ⟨⟨r, hu.symm, hx.trans hx2, hB2⟩, by simp; omega⟩

/-- what errors.As says of it at *api.Fault -/
def asFPost (w : World) (g : Nat) (b : Bs) (e : Ending) (w' : World) : List ByteArray → Prop
  | [] => e = .returned (.bool false) ∧ Ext w w'
  | s :: r => e = .returned (.bool true) ∧ ∃ W, Ext w W ∧ w' = (W.setCell ⟨g, 0, none⟩ (.string s)).setCell ⟨g, 1, none⟩ (wrapV r b.v)
theorem asFPost.ext {w w1 : World} {g : Nat} {b : Bs} {e : Ending} {w' : World} {l : List ByteArray} (hx : Ext w w1) (h : asFPost w1 g b e w' l) : asFPost w g b e w' l := by
  cases l with
  | nil => exact ⟨h.1, hx.trans h.2⟩
  | cons s r => obtain ⟨he, W, h1, h2⟩ := h; exact ⟨he, W, hx.trans h1, h2⟩
set_option maxHeartbeats 4000000 in
theorem asF_any (l : List ByteArray) (b : Bs) (g : Nat) (a : Addr) (o1 o2 : Value) (w : World) (ha : w.cell? a = some (.pointer (some ⟨g, 0, none⟩))) (hg : Blk w g #[o1, o2] 31) :
    Calls Tryd.prog 28 #[wrapV l b.v, .iface 33 (.pointer (some ⟨g, 0, none⟩)), .agg #[.pointer (some ⟨1, 33, none⟩), .pointer (some a), .int .u64 150], .iface 69 (.agg #[.pointer (some ⟨1, 31, none⟩)])] w fun e w' => asFPost w g b e w' l := by
  have h30 := @run_callFunc_extern Tryd.prog 30 _ ReflectliteType.typeOf Tryd.func30 (by kernel_rfl) (by kernel_rfl) (by kernel_rfl) (by kernel_rfl)
  have h59 := @run_callFunc_extern Tryd.prog 59 _ (ReflectliteType.relation "AssignableTo" ReflectliteType.assignableTo) Tryd.func59 (by kernel_rfl) (by kernel_rfl) (by kernel_rfl) (by kernel_rfl)
  have mA := mAsg
  have hx0 := (Ext.refl w).alloc (.cells #[.pointer (some ⟨1, 33, none⟩), .pointer (some a), .int .u64 150] 53)
  have hBx := Blk.new w #[.pointer (some ⟨1, 33, none⟩), .pointer (some a), .int .u64 150] 53
  go_enter Tryd.func28, Tryd.ntmps28
  go_wp2_with fail
  go_loopw [0, 9, 10, 11, 16, 17, 18, 19, 25, 26, 27, 28, 29, 30, 31, 32, 33, 34, 35, 36, 37, 38, 39, 40, 41, 42, 43] (fun v0 v9 v10 v11 v16 v17 v18 v19 v25 v26 v27 v28 v29 v30 v31 v32 v33 v34 v35 v36 v37 v38 v39 v40 v41 v42 v43 wv => v0 = wrapV l b.v ∧ Ext w wv ∧ Blk wv w.heap.size #[.pointer (some ⟨1, 33, none⟩), .pointer (some a), .int .u64 150] 53) (fun v0 _ _ _ _ _ _ _ _ _ _ _ _ _ _ _ _ _ _ _ _ _ _ _ _ _ _ _ => SizeOf.sizeOf v0)
  case atStart => exact ⟨rfl, hx0, hBx⟩
  case round =>
    clear hx0 hBx
    obtain ⟨rfl, hx, hB⟩ := hrel
    have eB0 : wr.cell? ⟨w.heap.size, 0, none⟩ = some (.pointer (some ⟨1, 33, none⟩)) := hB.cell 0
    have eB1 : wr.cell? ⟨w.heap.size, 1, none⟩ = some (.pointer (some a)) := hB.cell 1
    have eB2 : wr.cell? ⟨w.heap.size, 2, none⟩ = some (.int .u64 150) := hB.cell 2
    cases l with
    | nil =>
      cases b with
      | e n =>
        rw [show wrapV [] (Bs.e n).v = .iface 24 (.int .i64 n) from rfl]
        have tO := typeOfE
        have aE := asgEF
        have t1 := taAsE
        have t2 := taUwE
        have t3 := taUsE
        go_wp2_with fail
        go_ret
        exact ⟨rfl, hx⟩
      | s p =>
        rw [show wrapV [] (Bs.s p).v = .iface 64 (.pointer p) from rfl]
        have tO := typeOfS
        have aE := asgSF
        have t1 := taAsS
        have t2 := taUwS
        have t3 := taUsS
        go_wp2_with fail
        go_ret
        exact ⟨rfl, hx⟩
    | cons s r =>
      rw [wrapV]
      have tO := typeOfF
      have aE := asgFF
      have h1 := wrapV_one r b
      obtain ⟨u, hu⟩ : ∃ u, Hid (wrapV r b.v = u) := ⟨_, rfl⟩
      rw [hu.out] at h1 ⊢
      have h32 := @run_callFunc_extern Tryd.prog 32 _ (ReflectliteValue.method (ReflectliteValue.valueError "reflectlite.Value.Elem" 0) ReflectliteValue.elem) Tryd.func32 (by kernel_rfl) (by kernel_rfl) (by kernel_rfl) (by kernel_rfl)
      have h25 := @run_callFunc_extern Tryd.prog 25 _ (fun args => ReflectliteValue.unpack (args.getD 0 (.tuple #[]))) Tryd.func25 (by kernel_rfl) (by kernel_rfl) (by kernel_rfl) (by kernel_rfl)
      have h33 := @run_callFunc_extern Tryd.prog 33 _ ReflectliteValue.set Tryd.func33 (by kernel_rfl) (by kernel_rfl) (by kernel_rfl) (by kernel_rfl)
      have vE := valueOfF (.string s) u
      have el := elemVPF a ⟨g, 0, none⟩ wr (hx.cell ha)
      have hnb := Blk.new wr #[.string s, u] 31
      have hga := (hg.ext hx).alloc (.cells #[.string s, u] 31)
      have st := setF g 0 wr.heap.size (.string s) u o1 o2 (wr.alloc (.cells #[.string s, u] 31)) (hnb.cell 0) (hnb.cell 1) rfl h1 (hga.cell 0) (hga.cell 1) (fun i => hga.frozen i)
      have hxa := hx.alloc (.cells #[.string s, u] 31)
      clear hnb hga
      go_wp2_with fail
      go_ret
      refine ⟨rfl, _, hxa, ?_⟩
      rw [hu.out]
end Go.Proofs.YtfdillopdfihfaaDoor.Flt
