/- ids: the reference's Bind in pieces: its loops. -/
import Derived.Test.YtalbjbcomamomaaIdsRefMk
import Derived.Test.YtalbjbcomamomaaIdsOnceA
namespace Go.Proofs.Ytalbjbcomamomaa.IdsW
open Go.ChangeShapes Go.WideShapes Go.ChangeAt Go.RowKit
open Base Mp Piece
set_option linter.unusedVariables false
set_option linter.unusedSimpArgs false

noncomputable def rbBody (n : Nat) : Code := loopBody n Try.f25.body
set_option maxRecDepth 1000000 in
theorem lay127 {v0 v1 v2 v3 v4 v5 v6 v7 v8 v9 v10 v11 v12 v13 v14 v15 v16 : Value} {a : Act} (h : Piece.Fr 127 [v0, v1, v2, v3, v4, v5, v6, v7, v8, v9, v10, v11, v12, v13, v14, v15, v16] a) : ∃ u : Nat → Value, a = ⟨(v0 :: v1 :: v2 :: v3 :: v4 :: v5 :: v6 :: v7 :: v8 :: v9 :: v10 :: v11 :: v12 :: v13 :: v14 :: v15 :: v16 :: u 17 :: u 18 :: u 19 :: u 20 :: u 21 :: u 22 :: u 23 :: u 24 :: u 25 :: u 26 :: u 27 :: u 28 :: u 29 :: u 30 :: u 31 :: u 32 :: u 33 :: u 34 :: u 35 :: u 36 :: u 37 :: u 38 :: u 39 :: u 40 :: u 41 :: u 42 :: u 43 :: u 44 :: u 45 :: u 46 :: u 47 :: u 48 :: u 49 :: u 50 :: u 51 :: u 52 :: u 53 :: u 54 :: u 55 :: u 56 :: u 57 :: u 58 :: u 59 :: u 60 :: u 61 :: u 62 :: u 63 :: u 64 :: u 65 :: u 66 :: u 67 :: u 68 :: u 69 :: u 70 :: u 71 :: u 72 :: u 73 :: u 74 :: u 75 :: u 76 :: u 77 :: u 78 :: u 79 :: u 80 :: u 81 :: u 82 :: u 83 :: u 84 :: u 85 :: u 86 :: u 87 :: u 88 :: u 89 :: u 90 :: u 91 :: u 92 :: u 93 :: u 94 :: u 95 :: u 96 :: u 97 :: u 98 :: u 99 :: u 100 :: u 101 :: u 102 :: u 103 :: u 104 :: u 105 :: u 106 :: u 107 :: u 108 :: u 109 :: u 110 :: u 111 :: u 112 :: u 113 :: u 114 :: u 115 :: u 116 :: u 117 :: u 118 :: u 119 :: u 120 :: u 121 :: u 122 :: u 123 :: u 124 :: u 125 :: u 126 :: []).toArray, []⟩ := by
  obtain ⟨u, hu⟩ := h.spread
  refine ⟨u, hu.trans ?_⟩
  kernel_rfl

def Sm (a b : World) : Prop := a = b
def NoTo (bs : List (Nat × Nat)) (id k : Nat) (has : Bool) : Prop := has = true → ∀ (j : Nat) x, j < k → bs[j]? = some x → x.2 ≠ id

set_option maxRecDepth 1000000 in
set_option maxHeartbeats 1000000 in
/-- is the id bound already -/
theorem rb0 {Q : Exit → Act → World → Prop} (v1 v2 v3 v4 v5 v6 v7 v10 v11 v13 v14 v15 v16 : Value) (a : Act) (w : World) {B r lim id : Nat} {has : Bool} {ts : List ByteArray} {bs : List (Nat × Nat)} {vl vb : Value} (h : Rt B w r lim ts bs vl vb) (hl : bs.length ≤ 1000)
    (hF : Fr 127 [.pointer (some ⟨r, 0, none⟩), v1, v2, v3, v4, v5, v6, v7, .int .u64 id, .bool has, v10, v11, .int .i64 0, v13, v14, v15, v16] a)
    (hR : Hid (has = true) → hasTo bs id = true → ∀ a' x12, Fr 127 [.pointer (some ⟨r, 0, none⟩), v1, v2, v3, v4, v5, .int .u64 0, .int .i64 6, .int .u64 id, .bool has, v10, v11, x12, v13, v14, v15, v16] a' → Q .ret a' w)
    (hQ : (has = true → hasTo bs id = false) → ∀ a' x12, Fr 127 [.pointer (some ⟨r, 0, none⟩), v1, v2, v3, v4, v5, v6, v7, .int .u64 id, .bool has, v10, v11, x12, v13, v14, v15, v16] a' → Q (.exit 0) a' w) :
    (Code.loop (rbBody 0)).wp Try.prog Q a w := by
  obtain ⟨n, hn⟩ : ∃ n, Hid (bs.length = n) := ⟨_, rfl⟩
  obtain ⟨A, c, rfl, hrd, hc1, hc2⟩ := h.vb_eq
  obtain ⟨h0, h1, h2⟩ := h.cells
  rw [hn.out] at hl h2
  refine wp_loop (fun a wv => Sm wv w ∧ ∃ k : Nat, k ≤ n ∧ NoTo bs id k has ∧ Fr 127 [.pointer (some ⟨r, 0, none⟩), v1, v2, v3, v4, v5, v6, v7, .int .u64 id, .bool has, v10, v11, .int .i64 k, v13, v14, v15, v16] a) (fun a _ => (n - intO (a.tmps.getD 12 undef)).toNat) ⟨rfl, 0, Nat.zero_le _, fun _ j x hj => by omega, hF⟩ ?_
  clear hF a
  rintro a wr ⟨hsm, k, hk, hno, hF⟩
  have hsm : wr = w := hsm
  subst hsm
  obtain ⟨u, rfl⟩ := lay127 hF
  clear hF
  conv => arg 2; whnf
  by_cases hlt : k < n
  · clear hQ
    obtain ⟨x, hxe⟩ : ∃ x, bs[k]? = some x := ⟨_, List.getElem?_eq_getElem (by have := hn.out; omega)⟩
    obtain ⟨b, off, rfl⟩ := bnds_some hrd (by have := hn.out; omega)
    obtain ⟨c1, c2⟩ := bnds_cell hrd k x hxe
    have hkn : (k : Int) < (n : Int) := by omega
    cases has with
    | true =>
      by_cases hxi : x.2 = id
      · rw [hxi] at c2
        go_wp2_with fail
        exact hR (Lib.hid (by trivial)) (hasTo_true hxe hxi) _ _ ⟨_, rfl, rfl⟩
      · have hne : ((x.2 : Int) == (id : Int)) = false := by simpa using (fun e : (x.2 : Int) = id => hxi (by omega))
        clear hR
        go_wp2_with fail
        refine ⟨⟨rfl, k + 1, by omega, fun ht j y hj hy => ?_, ⟨_, rfl, by go_num⟩⟩, ?_⟩
        · rcases Nat.lt_or_ge j k with h | h
          · exact hno ht j y h hy
          · obtain rfl : j = k := by omega
            rw [hxe] at hy; injection hy with hy; subst hy; exact hxi
        · simp [intO]; omega
    | false =>
      clear hR
      go_wp2_with fail
      refine ⟨⟨rfl, k + 1, by omega, fun ht => (by cases ht), ⟨_, rfl, by go_num⟩⟩, ?_⟩
      simp [intO]; omega
  · obtain rfl : k = n := by omega
    clear hlt hR
    have hno2 : has = true → hasTo bs id = false := fun ht => hasTo_false fun j x hx => hno ht j x (by have := (List.getElem?_eq_some_iff.1 hx).1; have := hn.out; omega) hx
    go_wp2_with fail
    exact hQ hno2 _ _ ⟨_, rfl, rfl⟩

/-- what the loop has put together -/
def outAt (bs : List (Nat × Nat)) (p : Nat) (y : Nat × Nat) (k : Nat) : List (Nat × Nat) := if p < k then insAt (bs.take k) p y else bs.take k
theorem outAt_lo {bs : List (Nat × Nat)} {p k : Nat} {x y : Nat × Nat} (hx : bs[k]? = some x) (h : k < p) : outAt bs p y (k + 1) = outAt bs p y k ++ [x] := by
  unfold outAt
  rw [if_neg (by omega), if_neg (by omega), List.take_add_one, hx]; rfl
theorem outAt_at {bs : List (Nat × Nat)} {k : Nat} {x y : Nat × Nat} (hx : bs[k]? = some x) : outAt bs k y (k + 1) = outAt bs k y k ++ [y] ++ [x] := by
  have hk := (List.getElem?_eq_some_iff.1 hx).1
  unfold outAt
  rw [if_pos (by omega), if_neg (by omega)]
  simp only [insAt, List.take_take, Nat.min_eq_left (Nat.le_succ k)]
  congr 1
  rw [List.drop_take]
  simp only [Nat.add_sub_cancel_left]
  rw [List.take_one, List.head?_drop, hx]
  rfl
theorem outAt_hi {bs : List (Nat × Nat)} {p k : Nat} {x y : Nat × Nat} (hx : bs[k]? = some x) (h : p < k) : outAt bs p y (k + 1) = outAt bs p y k ++ [x] := by
  have hk := (List.getElem?_eq_some_iff.1 hx).1
  unfold outAt
  rw [if_pos (by omega), if_pos h]
  have e : bs.take (k + 1) = bs.take k ++ [x] := by rw [List.take_add_one, hx]; rfl
  simp only [insAt]
  rw [e, List.take_append_of_le_length (by simp; omega), List.drop_append_of_le_length (by simp; omega)]
  simp [List.append_assoc]
theorem outAt_len {bs : List (Nat × Nat)} {p k : Nat} {y : Nat × Nat} (hk : k ≤ bs.length) : (outAt bs p y k).length = if p < k then k + 1 else k := by
  unfold outAt
  split
  · rw [insAt_le, List.length_take, Nat.min_eq_left hk]
  · rw [List.length_take, Nat.min_eq_left hk]

theorem pos_before {bs : List (Nat × Nat)} {f : Nat} {k : Nat} {x : Nat × Nat} (hx : bs[k]? = some x) (h : k < pos bs f) : x.1 < f := by
  obtain ⟨e1, _⟩ := take_pos bs f
  have hm : x ∈ bs.take (pos bs f) := List.mem_of_getElem? (i := k) (by rw [List.getElem?_take, if_pos h]; exact hx)
  rw [e1] at hm
  have hq := List.all_takeWhile (p := fun x : Nat × Nat => decide (x.1 < f)) (l := bs)
  rw [List.all_eq_true] at hq
  simpa using hq x hm
theorem pos_after {bs : List (Nat × Nat)} {f : Nat} {k : Nat} {x : Nat × Nat} (hr : bs.Pairwise fun a b => a.1 < b.1) (ht : there bs f = false) (hx : bs[k]? = some x) (h : pos bs f ≤ k) : f < x.1 := by
  have hi := rise_ins (to := 0) hr ht
  have hl := pos_le bs f
  have hm : x ∈ bs.drop (pos bs f) := List.mem_of_getElem? (i := k - pos bs f) (by rw [List.getElem?_drop, show pos bs f + (k - pos bs f) = k by omega]; exact hx)
  have he : insAt bs (pos bs f) (f, 0) = bs.take (pos bs f) ++ (f, 0) :: bs.drop (pos bs f) := by simp [insAt]
  rw [he, List.pairwise_append, List.pairwise_cons] at hi
  exact hi.2.1.1 x hm
end Go.Proofs.Ytalbjbcomamomaa.IdsW
