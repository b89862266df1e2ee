/- ids: what a table tells: find, Map, Text, Bounds; whether an id stands for another. -/
import Derived.Test.YtalbjbcomamomaaIdsFind
import Derived.Lib.SliceRun
namespace Go.Proofs.Ytalbjbcomamomaa.IdsW
open Go.ChangeShapes Go.WideShapes Go.ChangeAt Go.RowKit
open Base Mp
set_option linter.unusedVariables false
set_option linter.unusedSimpArgs false

theorem Tb.vb_eq {B : Nat} {w : World} {g lim : Nat} {ts : List ByteArray} {bs : List (Nat × Nat)} {vt vb : Value} {m : Nat} (h : Tb B w g lim ts bs vt vb m) : ∃ A c, vb = .slice A bs.length c ∧ Rd w A (bnds bs) ∧ bs.length ≤ c ∧ c ≤ maxLen := by
  obtain ⟨A, c, e, h1, h2, h3, _⟩ := Rd.of_own h.bound
  exact ⟨A, c, e, h3, h1, h2⟩

set_option maxHeartbeats 400000 in
theorem find_any {B : Nat} {g lim : Nat} {ts : List ByteArray} {bs : List (Nat × Nat)} {vt vb : Value} {m : Nat} (f : Nat) (w : World) (h : Tb B w g lim ts bs vt vb m) (hl : bs.length ≤ 1000) (hs : Rise bs) :
    Calls Try.prog 19 #[.pointer (some ⟨g, 0, none⟩), .int .u64 (f : Int)] w fun e w' => e = .returned (.tuple #[.int .i64 (pos bs f : Int), .bool (there bs f)]) ∧ Ext w w' := by
  obtain ⟨A, c, rfl, hr, _⟩ := h.vb_eq
  obtain ⟨h0, h1, h2, h3⟩ := h.cells
  have hse := search_any A bs.length c bs f w hr rfl hl hs
  go_enter Try.func19, Try.ntmps19
  go_wp2_with fail
  refine hse.mono ?_
  rintro e w1 ⟨rfl, hx⟩
  go_wp2_with fail
  go_ret2
  exact ⟨rfl, hx⟩

/-- what a foreign id is bound to -/
def mapOf (bs : List (Nat × Nat)) (f : Nat) : Option Nat := if there bs f = true then (bs[pos bs f]?).map (·.2) else none

set_option maxHeartbeats 400000 in
theorem Map_any {B : Nat} {g lim : Nat} {ts : List ByteArray} {bs : List (Nat × Nat)} {vt vb : Value} {m : Nat} (f : Nat) (w : World) (h : Tb B w g lim ts bs vt vb m) (hl : bs.length ≤ 1000) (hs : Rise bs) :
    Calls Try.prog 28 #[.pointer (some ⟨g, 0, none⟩), .int .u64 (f : Int)] w fun e w' => e = .returned (.tuple #[.int .u64 (((mapOf bs f).getD 0 : Nat) : Int), .bool (mapOf bs f).isSome]) ∧ Ext w w' := by
  have hf := find_any f w h hl hs
  have hpl := pos_le bs f
  unfold mapOf
  cases ht : there bs f with
  | false =>
    rw [ht] at hf
    go_enter Try.func28, Try.ntmps28
    go_wp2_with fail
    refine hf.mono ?_
    rintro e w1 ⟨rfl, hx⟩
    go_wp2_with fail
    go_ret2
    exact ⟨rfl, hx⟩
  | true =>
    rw [ht] at hf
    obtain ⟨x, hx1⟩ : ∃ x, bs[pos bs f]? = some x := by
      unfold there at ht
      cases hq : bs[pos bs f]? with
      | none => rw [hq] at ht; cases ht
      | some x => exact ⟨x, rfl⟩
    have hlt : pos bs f < bs.length := (List.getElem?_eq_some_iff.1 hx1).1
    obtain ⟨p, hp⟩ : ∃ p, Hid (pos bs f = p) := ⟨_, rfl⟩
    rw [hp.out] at hf hx1 hlt
    have hlt' : (p : Int) < (bs.length : Int) := by omega
    go_enter Try.func28, Try.ntmps28
    go_wp2_with fail
    refine hf.mono ?_
    rintro e w1 ⟨rfl, hx⟩
    obtain ⟨A, c, rfl, hr, _⟩ := h.vb_eq
    obtain ⟨b, off, rfl⟩ := bnds_some hr (by omega)
    obtain ⟨c0, c1⟩ := bnds_cell (hr.ext hx) p x hx1
    obtain ⟨h0, h1, h2, h3⟩ := (h.ext hx).cells
    have Hx1 := Lib.hid hx1
    clear hx1
    go_wp2_with fail
    go_ret2
    rw [hp.out, Hx1.out]
    exact ⟨rfl, hx⟩

/-- an id's text -/
def textOf (ts : List ByteArray) (k : Nat) : ByteArray := if k = 0 then ByteArray.empty else ts.getD (k - 1) ByteArray.empty
def textIs (ts : List ByteArray) (k : Nat) : Bool := decide (1 ≤ k ∧ k ≤ ts.length)
theorem textOf_out {ts : List ByteArray} {k : Nat} (h : k = 0 ∨ ts.length < k) : textOf ts k = ByteArray.empty ∧ textIs ts k = false := by
  rcases h with rfl | h
  · exact ⟨rfl, rfl⟩
  · refine ⟨?_, by unfold textIs; simp; omega⟩
    unfold textOf
    split
    · rfl
    · rw [List.getD, List.getElem?_eq_none (by omega)]; rfl
theorem textOf_in {ts : List ByteArray} {k : Nat} {x : ByteArray} (h : ts[k]? = some x) : textOf ts (k + 1) = x ∧ textIs ts (k + 1) = true := by
  have := (List.getElem?_eq_some_iff.1 h).1
  exact ⟨by simp [textOf, h], by unfold textIs; simp; omega⟩

set_option maxHeartbeats 400000 in
theorem Text_any {B : Nat} {g lim : Nat} {ts : List ByteArray} {bs : List (Nat × Nat)} {vt vb : Value} {m : Nat} (k : Nat) (w : World) (h : Tb B w g lim ts bs vt vb m) (hl : ts.length ≤ 1000) (hk : k ≤ 18446744073709551615) :
    Calls Try.prog 12 #[.pointer (some ⟨g, 0, none⟩), .int .u64 (k : Int)] w fun e w' => e = .returned (.tuple #[.string (textOf ts k), .bool (textIs ts k)]) ∧ w = w' := by
  obtain ⟨A, c, rfl, _, _, hr, _⟩ := Rd.of_own h.texts
  obtain ⟨h0, h1, h2, h3⟩ := h.cells
  go_enter Try.func12, Try.ntmps12
  by_cases hk0 : k = 0
  · subst hk0
    go_wp2_with fail
    go_ret2
    exact ⟨rfl, rfl⟩
  · have hk0' : ¬ (k : Int) = 0 := by omega
    have hkb : ((k : Int) == 0) = false := by simpa using hk0
    by_cases hk1 : ts.length < k
    · have hk1' : (ts.length : Int) < (k : Int) := by omega
      obtain ⟨e1, e2⟩ := textOf_out (.inr hk1)
      go_wp2_with fail
      go_ret2
      exact ⟨by rw [e1, e2]; rfl, rfl⟩
    · obtain ⟨j, hkj⟩ : ∃ j, Hid (k = j + 1) := ⟨k - 1, (by omega : k = k - 1 + 1)⟩
      have hj : j < ts.length := by have := hkj.out; omega
      obtain ⟨x, hx⟩ : ∃ x, ts[j]? = some x := ⟨_, List.getElem?_eq_getElem hj⟩
      obtain ⟨e1, e2⟩ := textOf_in hx
      rw [← hkj.out] at e1 e2
      have hjl : (j : Int) < (ts.length : Int) := by omega
      have hk1' : ¬ (ts.length : Int) < (k : Int) := by omega
      obtain ⟨b, off, rfl, hc⟩ := hr (fun e => by have := txs_length ts; rw [e] at this; simp at this; omega)
      have hcj := hc j (.string x) (by simp [txs, hx])
      have hsub : IntKind.u64.wrap ((k : Int) - 1) = (j : Int) := by have := hkj.out; rw [IntKind.wrap_u64]; omega
      have hsub2 : (k : Int) - 1 = (j : Int) := by have := hkj.out; omega
      have hd1 : decide ((ts.length : Int) < (k : Int)) = false := by simpa using hk1'
      clear hc hx
      go_wp2_with fail
      go_ret2
      exact ⟨rfl, rfl⟩

/-- does an id stand for a foreign one? -/
def hasTo (bs : List (Nat × Nat)) (id : Nat) : Bool := bs.any fun x => decide (x.2 = id)

theorem bind1_any (x y : Int) (p : Addr) (id : Int) (w : World) (hp : w.cell? p = some (.int .u64 id)) : Calls Try.prog 21 #[.agg #[.int .u64 x, .int .u64 y], .pointer (some p)] w fun e w' => e = .returned (.bool (y == id)) ∧ Ext w w' := by
  have hp2 : (w.alloc (.cells #[.int .u64 x, .int .u64 y] 43)).cell? p = some (.int .u64 id) := ((Ext.refl w).alloc _).cell hp
  go_enter Try.func21, Try.ntmps21
  go_wp2_with fail
  go_ret
  exact ⟨rfl, (Ext.refl w).alloc _⟩

theorem hasTo_true {bs : List (Nat × Nat)} {id i : Nat} {x : Nat × Nat} (h : bs[i]? = some x) (hx : x.2 = id) : hasTo bs id = true := by
  unfold hasTo
  rw [List.any_eq_true]
  exact ⟨x, List.mem_of_getElem? h, by simpa using hx⟩
theorem hasTo_false {bs : List (Nat × Nat)} {id : Nat} (h : ∀ (i : Nat) x, bs[i]? = some x → x.2 ≠ id) : hasTo bs id = false := by
  unfold hasTo
  rw [List.any_eq_false]
  intro x hx
  obtain ⟨i, hi⟩ := List.mem_iff_getElem?.1 hx
  simpa using h i x hi

set_option maxHeartbeats 400000 in
theorem IndexFunc_any (A : Option Addr) (n c : Nat) (bs : List (Nat × Nat)) (p : Addr) (id : Nat) (w : World) (hr : Rd w A (bnds bs)) (hn : bs.length = n) (hl : n ≤ 1000) (hp : w.cell? p = some (.int .u64 (id : Int))) :
    Calls Try.prog 33 #[.slice A n c, .func (.func 21) #[] #[.pointer (some p)]] w fun e w' => (∃ r : Int, e = .returned (.int .i64 r) ∧ decide (0 ≤ r) = hasTo bs id) ∧ Ext w w' := by
  go_enter Try.func33, Try.ntmps33
  go_wp2_with fail
  go_loopw [5, 8, 9, 10, 11, 12, 13, 14, 15, 16, 18] (fun v5 v8 v9 v10 v11 v12 v13 v14 v15 v16 v18 wr => ∃ i : Nat, i ≤ n ∧ v8 = .int .i64 i ∧ (∀ (k : Nat) x, k < i → bs[k]? = some x → x.2 ≠ id) ∧ Ext w wr) (fun _ v8 _ _ _ _ _ _ _ _ _ _ => n - (intOf v8).toNat)
  case atStart => exact ⟨0, by omega, rfl, fun k x h => by omega, Ext.refl w⟩
  case round =>
    obtain ⟨i, hi, rfl, h1, hx⟩ := hrel
    by_cases hin : i < n
    · have hin' : (i : Int) < (n : Int) := by omega
      obtain ⟨b, off, rfl⟩ := bnds_some hr (by omega)
      obtain ⟨x, hx1⟩ : ∃ x, bs[i]? = some x := ⟨bs[i]'(by omega), List.getElem?_eq_getElem _⟩
      obtain ⟨c0, c1⟩ := bnds_cell (hr.ext hx) i x hx1
      have hb := bind1_any (x.1 : Int) (x.2 : Int) p (id : Int) wr (hx.cell hp)
      have Hx1 := Lib.hid hx1
      clear hx1
      by_cases he : x.2 = id
      · have heb : ((x.2 : Int) == (id : Int)) = true := by simp [he]
        rw [heb] at hb
        have he' := Lib.hid he
        clear he heb
        go_wp2_with fail
        refine hb.mono ?_
        rintro e w1 ⟨rfl, hx2⟩
        go_wp2_with fail
        go_ret
        exact ⟨⟨_, rfl, by rw [hasTo_true Hx1.out he'.out]; simp⟩, hx.trans hx2⟩
      · have heb : ((x.2 : Int) == (id : Int)) = false := by simp; omega
        rw [heb] at hb
        go_wp2_with fail
        refine hb.mono ?_
        rintro e w1 ⟨rfl, hx2⟩
        go_wp2_with fail
        refine ⟨⟨i + 1, by omega, by go_num, ?_, hx.trans hx2⟩, by simp [intOf]; omega⟩
        intro k y hk hy
        rcases Nat.lt_or_ge k i with h | h
        · exact h1 k y h hy
        · obtain rfl : k = i := by omega
          rw [Hx1.out] at hy
          injection hy with hy
          rw [← hy]; exact he
    · obtain rfl : i = n := by omega
      go_wp2_with fail
      go_ret
      refine ⟨⟨_, rfl, ?_⟩, hx⟩
      rw [hasTo_false (fun k x hk => h1 k x (by have := (List.getElem?_eq_some_iff.1 hk).1; omega) hk)]
      rfl
theorem ContainsFunc_any (A : Option Addr) (n c : Nat) (bs : List (Nat × Nat)) (p : Addr) (id : Nat) (w : World) (hr : Rd w A (bnds bs)) (hn : bs.length = n) (hl : n ≤ 1000) (hp : w.cell? p = some (.int .u64 (id : Int))) :
    Calls Try.prog 20 #[.slice A n c, .func (.func 21) #[] #[.pointer (some p)]] w fun e w' => e = .returned (.bool (hasTo bs id)) ∧ Ext w w' := by
  have hi := IndexFunc_any A n c bs p id w hr hn hl hp
  go_enter Try.func20, Try.ntmps20
  go_wp2_with fail
  refine hi.mono ?_
  rintro e w1 ⟨⟨r, rfl, hrr⟩, hx⟩
  go_wp2_with fail
  go_ret
  rw [← hrr]
  exact ⟨rfl, hx⟩

/-- the empty row of buildSlice -/
theorem el_bnd : El Try.prog 40 43 (.agg #[.int .u64 0, .int .u64 0]) 2 16 := ⟨by kernel_rfl, by kernel_rfl, by kernel_rfl, by omega⟩
theorem bnds_one (bs : List (Nat × Nat)) : ∀ u ∈ bnds bs, u.oneCell' = true := by
  intro u hu
  simp only [bnds, List.mem_flatMap] at hu
  obtain ⟨x, _, hx⟩ := hu
  simp at hx
  rcases hx with rfl | rfl <;> rfl

set_option maxHeartbeats 400000 in
theorem Clone_any (A : Option Addr) (c : Nat) (bs : List (Nat × Nat)) (w : World) (hr : Rd w A (bnds bs)) (hl : bs.length ≤ 1000) (hA : A = none → c = 0) :
    Calls Try.prog 23 #[.slice A bs.length c] w fun e w' => (∃ A' c', e = .returned (.slice A' bs.length c') ∧ Rd w' A' (bnds bs)) ∧ Ext w w' := by
  have ke := fun (w : World) (a : Option Addr) (n c : Nat) => Lib.run_eql_slice_nil (P := Try.prog) w 40 43 a n c 0 0 Try.underlying40
  cases A with
  | none =>
    have hb0 : bs = [] := by
      cases bs with
      | nil => rfl
      | cons x r => obtain ⟨b, off, e⟩ := bnds_some hr (by simp); cases e
    obtain rfl := hA rfl
    subst hb0
    go_enter Try.func23, Try.ntmps23
    go_wp2_with fail
    go_ret
    exact ⟨⟨none, ⟨0, rfl⟩, Rd.nil _ _⟩, Ext.refl w⟩
  | some a =>
    obtain ⟨n, hn⟩ : ∃ n, Hid (bs.length = n) := ⟨_, rfl⟩
    have hn2 : n ≤ 1000 := by have := hn.out; omega
    rw [hn.out]
    go_enter Try.func23, Try.ntmps23
    go_wp2_with (
      refine wpList_app el_bnd _ rfl (.tmp 5) (.tmp 6) rfl w.heap.size (.slice (some ⟨w.heap.size, 0, none⟩) 0 0) 0 [] rfl (World.ownsRow_lit w #[] 0 (Nat.le_refl _) (by unfold maxLen; omega) rfl) (some a) n c (bnds bs) rfl (Rd.ext hr ((Ext.refl w).alloc _)) (by rw [bnds_length, hn.out]) (fun h => by cases h) (bnds_one bs) (by omega) (by omega) (by simp) (fun V1 w1 ho1 hg1 hv1 => ?_)
      obtain ⟨A1, c1, rfl, _, _, hr1, _⟩ := Rd.of_own ho1
      rw [Nat.zero_add])
    have hx1 : Ext w w1 := ((Ext.refl w).alloc _).then_grown hg1 (fun k hk => by injection hk with hk; exact Nat.le_of_eq hk)
    rw [List.nil_append] at hr1
    go_ret
    exact ⟨⟨A1, c1, rfl, hr1⟩, hx1⟩

set_option maxHeartbeats 400000 in
theorem Bounds_any {B : Nat} {g lim : Nat} {ts : List ByteArray} {bs : List (Nat × Nat)} {vt vb : Value} {m : Nat} (w : World) (h : Tb B w g lim ts bs vt vb m) (hl : bs.length ≤ 1000) :
    Calls Try.prog 13 #[.pointer (some ⟨g, 0, none⟩)] w fun e w' => (∃ A' c', e = .returned (.slice A' bs.length c') ∧ Rd w' A' (bnds bs)) ∧ Ext w w' := by
  obtain ⟨A, c, rfl, hr, hc1, hc2⟩ := h.vb_eq
  have hA : A = none → c = 0 := by
    rintro rfl
    rcases h.bound.2 with ⟨e, _⟩ | ⟨g', cap, cur, e, _⟩
    · injection e
    · injection e with e; cases e
  have hcl := Clone_any A c bs w hr hl hA
  obtain ⟨h0, h1, h2, h3⟩ := h.cells
  go_enter Try.func13, Try.ntmps13
  go_wp2_with fail
  refine hcl.mono ?_
  rintro e w1 ⟨⟨A', c', rfl, hr1⟩, hx⟩
  go_wp2_with fail
  go_ret
  exact ⟨⟨A', c', rfl, hr1⟩, hx⟩
end Go.Proofs.Ytalbjbcomamomaa.IdsW
