/- fault: errors.Is, errors.New, fault.Is. -/
import Derived.Test.YtfdillopdfihfaaDoorFltLaws
import Derived.Lib.IfaceEq
import Derived.LaidEql
import Derived.Stop.Asserts
namespace Go.Proofs.YtfdillopdfihfaaDoor.Flt
open Go.ChangeShapes Go.WideShapes Go.ChangeAt Go.RowKit Go.Extern.Stop Go.Stop Go.Extern
open Base
set_option linter.unusedVariables false
set_option linter.unusedSimpArgs false

/-- the entry for Comparable -/
@[irreducible] def compF : Array Value → Sem Value := ReflectliteType.method (fun t => do Rtype.noPackHeld "Comparable" t; pure (.bool (← typeInfo t).comparable))
theorem compE (w : World) : (compF #[.agg #[.pointer (some ⟨1, 24, none⟩)]]).run Tryd.prog w = .ok (.bool true) w := by kernel_rfl
theorem compS (w : World) : (compF #[.agg #[.pointer (some ⟨1, 64, none⟩)]]).run Tryd.prog w = .ok (.bool true) w := by kernel_rfl
theorem eqEE (a b : Int) (w : World) : (binOp .eql 26 (.iface 24 (.int .i64 a)) (.iface 24 (.int .i64 b))).run Tryd.prog w = .ok (.bool (a == b)) w :=
  Lib.run_eql_iface_int w a b Tryd.underlying26 (by kernel_rfl) Tryd.underlying24
theorem eqSS (a : Addr) (w : World) : (binOp .eql 26 (.iface 64 (.pointer (some a))) (.iface 64 (.pointer (some a)))).run Tryd.prog w = .ok (.bool true) w :=
  run_eql_iface_ptr_same w a Tryd.underlying26 Tryd.underlying64 (i := (Tryd.prog.info? 64).get (by kernel_rfl)) (j := (Tryd.prog.info? 66).get (by kernel_rfl)) (by kernel_rfl) (by kernel_rfl) (by kernel_rfl)
theorem eqSE (u v : Value) (w : World) : (binOp .eql 26 (.iface 64 u) (.iface 24 v)).run Tryd.prog w = .ok (.bool false) w :=
  run_eql_iface_types _ _ _ _ Tryd.underlying26 (by decide) w
theorem eqFS (u v : Value) (w : World) : (binOp .eql 26 (.iface 31 u) (.iface 64 v)).run Tryd.prog w = .ok (.bool false) w :=
  run_eql_iface_types _ _ _ _ Tryd.underlying26 (by decide) w
theorem eqFE (u v : Value) (w : World) : (binOp .eql 26 (.iface 31 u) (.iface 24 v)).run Tryd.prog w = .ok (.bool false) w :=
  run_eql_iface_types _ _ _ _ Tryd.underlying26 (by decide) w

/-- what is found of it at its end -/
def isEnd (b t : Bs) (r : Bool) : Prop := ∀ W, (binOp .eql 26 b.v t.v).run Tryd.prog W = .ok (.bool r) W
theorem isEnd_e (n : Int) : isEnd (.e n) (.e n) true := fun W => by have := eqEE n n W; rwa [beq_self_eq_true] at this
theorem isEnd_s (a : Addr) : isEnd (.s (some a)) (.s (some a)) true := eqSS a
theorem isEnd_se (a : Option Addr) (n : Int) : isEnd (.s a) (.e n) false := eqSE _ _
theorem isWay (t : Bs) (u : Value) (W : World) : (binOp .eql 26 (.iface 31 u) t.v).run Tryd.prog W = .ok (.bool false) W := by
  cases t
  · exact eqFE _ _ W
  · exact eqFS _ _ W

set_option maxHeartbeats 4000000 in
theorem is_loop (l : List ByteArray) (b t : Bs) (r : Bool) (he : isEnd b t r) (w : World) :
    Calls Tryd.prog 31 #[wrapV l b.v, t.v, .bool true] w fun e w' => e = .returned (.bool r) ∧ Ext w w' := by
  have hwy := isWay t
  have he : ∀ W, (binOp .eql 26 b.v t.v).run Tryd.prog W = .ok (.bool r) W := he
  obtain ⟨T, V, hT⟩ : ∃ T V, t.v = .iface T V := by cases t <;> exact ⟨_, _, rfl⟩
  rw [hT] at he hwy ⊢
  clear hT
  go_enter Tryd.func31, Tryd.ntmps31
  go_wp2_with fail
  go_loopw [0, 7, 8, 9, 14, 15, 16, 17, 18, 19, 20, 21, 22, 23, 24, 25, 26, 27, 28, 29, 30, 31, 32, 33, 34, 35, 36, 37, 38] (fun v0 v7 v8 v9 v14 v15 v16 v17 v18 v19 v20 v21 v22 v23 v24 v25 v26 v27 v28 v29 v30 v31 v32 v33 v34 v35 v36 v37 v38 wv => ∃ d : List ByteArray, v0 = wrapV d b.v ∧ Ext w wv) (fun v0 _ _ _ _ _ _ _ _ _ _ _ _ _ _ _ _ _ _ _ _ _ _ _ _ _ _ _ _ _ => SizeOf.sizeOf v0)
  case atStart => exact ⟨l, rfl, Ext.refl w⟩
  case round =>
    obtain ⟨d, rfl, hx⟩ := hrel
    cases d with
    | nil =>
      cases b with
      | e n =>
        rw [show wrapV [] (Bs.e n).v = .iface 24 (.int .i64 n) from rfl]
        rw [show (Bs.e n).v = .iface 24 (.int .i64 n) from rfl] at he
        have t1 := taIsE
        have t2 := taUwE
        have t3 := taUsE
        cases r
        · go_wp2_with fail
          go_ret
          exact ⟨rfl, hx⟩
        · go_wp2_with fail
          go_ret
          exact ⟨rfl, hx⟩
      | s p =>
        rw [show wrapV [] (Bs.s p).v = .iface 64 (.pointer p) from rfl]
        rw [show (Bs.s p).v = .iface 64 (.pointer p) from rfl] at he
        have t1 := taIsS
        have t2 := taUwS
        have t3 := taUsS
        cases r
        · go_wp2_with fail
          go_ret
          exact ⟨rfl, hx⟩
        · go_wp2_with fail
          go_ret
          exact ⟨rfl, hx⟩
    | cons s d =>
      rw [wrapV]
      clear he
      have t1 := taIsF
      have t2 := taUwF
      have mU := mUnw
      have h1 := wrapV_one d b
      obtain ⟨T', V', hu⟩ := wrapV_iface d b
      rw [hu] at h1 ⊢
      go_wp2_with fail
      refine (unwrap_any s (.iface T' V') h1 wr).mono ?_
      rintro e w2 ⟨rfl, hx2⟩
      go_wp2_with fail
      exact ⟨⟨d, hu.symm, hx.trans hx2⟩, by simp; omega⟩

set_option maxHeartbeats 4000000 in
theorem is_any (l : List ByteArray) (b t : Bs) (r : Bool) (he : isEnd b t r) (w : World) :
    Calls Tryd.prog 20 #[wrapV l b.v, t.v] w fun e w' => e = .returned (.bool r) ∧ Ext w w' := by
  have h := is_loop l b t r he w
  clear he
  have h30 := @run_callFunc_extern Tryd.prog 30 _ ReflectliteType.typeOf Tryd.func30 (by kernel_rfl) (by kernel_rfl) (by kernel_rfl) (by kernel_rfl)
  have h58 := @run_callFunc_extern Tryd.prog 60 _ compF Tryd.func60 (by kernel_rfl) (by kernel_rfl) (by kernel_rfl) (by kernel_rfl)
  have mC := mComp
  obtain ⟨T, V, hV⟩ := wrapV_iface l b
  rw [hV] at h ⊢
  clear hV
  cases t with
  | e n =>
    rw [show (Bs.e n).v = .iface 24 (.int .i64 n) from rfl] at h ⊢
    have tO := typeOfE
    have cO := compE
    go_enter Tryd.func20, Tryd.ntmps20
    go_wp2_with fail
    refine h.mono ?_
    rintro e w2 ⟨rfl, hx⟩
    go_wp2_with fail
    go_ret
    exact ⟨rfl, hx⟩
  | s p =>
    rw [show (Bs.s p).v = .iface 64 (.pointer p) from rfl] at h ⊢
    have tO := typeOfS
    have cO := compS
    go_enter Tryd.func20, Tryd.ntmps20
    go_wp2_with fail
    refine h.mono ?_
    rintro e w2 ⟨rfl, hx⟩
    go_wp2_with fail
    go_ret
    exact ⟨rfl, hx⟩

theorem new_any (s : ByteArray) (w : World) :
    Calls Tryd.prog 23 #[.string s] w fun e w' => e = .returned (Bs.s (some ⟨w.heap.size, 0, none⟩)).v ∧ Ext w w' := by
  go_enter Tryd.func23, Tryd.ntmps23
  go_wp2_with fail
  go_ret
  exact ⟨rfl, (Ext.refl w).alloc _⟩

theorem fis_zero (l : List ByteArray) (b : Bs) (hb : b.why ≠ 0) (w : World) (hg : Tab w) :
    Calls Tryd.prog 21 #[wrapV l b.v, .int .i64 0] w fun e w' => e = .returned (.bool false) ∧ Ext w w' := by
  have h := why_any l b w hg
  obtain ⟨n, hn⟩ : ∃ n, Hid (b.why = n) := ⟨_, rfl⟩
  obtain ⟨T, V, hV⟩ := wrapV_iface l b
  rw [hV, hn.out] at h
  rw [hV]
  rw [hn.out] at hb
  have hb2 : (n == 0) = false := by simpa using hb
  clear hV
  go_enter Tryd.func21, Tryd.ntmps21
  go_wp2_with fail
  refine h.mono ?_
  rintro e w2 ⟨rfl, hx⟩
  go_wp2_with fail
  go_ret
  exact ⟨rfl, hx⟩
theorem fis_any (l : List ByteArray) (b : Bs) (n : Int) (r : Bool) (hn : n ≠ 0) (he : isEnd b (.e n) r) (w : World) :
    Calls Tryd.prog 21 #[wrapV l b.v, .int .i64 n] w fun e w' => e = .returned (.bool r) ∧ Ext w w' := by
  have h := is_any l b (.e n) r he w
  clear he
  rw [show (Bs.e n).v = .iface 24 (.int .i64 n) from rfl] at h
  obtain ⟨T, V, hV⟩ := wrapV_iface l b
  rw [hV] at h ⊢
  clear hV
  go_enter Tryd.func21, Tryd.ntmps21
  go_wp2_with fail
  refine h.mono ?_
  rintro e w2 ⟨rfl, hx⟩
  go_wp2_with fail
  go_ret
  exact ⟨rfl, hx⟩
end Go.Proofs.YtfdillopdfihfaaDoor.Flt
