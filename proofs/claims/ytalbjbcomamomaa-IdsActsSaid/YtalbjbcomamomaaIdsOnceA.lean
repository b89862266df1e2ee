/- ids: the law IdsOnce's walk in pieces: the bounds compared. -/
import Derived.Test.YtalbjbcomamomaaIdsLaws
import Derived.Test.YtalbjbcomamomaaPiece
namespace Go.Proofs.Ytalbjbcomamomaa.IdsW
open Go.ChangeShapes Go.WideShapes Go.ChangeAt Go.RowKit
open Base Mp Piece
set_option linter.unusedVariables false
set_option linter.unusedSimpArgs false

noncomputable def onceBody (n : Nat) : Code := loopBody n Try.f4.body
def intO : Value → Int
  | .int _ z => z
  | _ => 0
set_option maxRecDepth 1000000 in
theorem lay154 {v0 v1 v2 v3 v4 v5 v6 v7 v8 v9 v10 v11 v12 v13 v14 v15 : Value} {a : Act} (h : Piece.Fr 154 [v0, v1, v2, v3, v4, v5, v6, v7, v8, v9, v10, v11, v12, v13, v14, v15] a) : ∃ u : Nat → Value, a = ⟨(v0 :: v1 :: v2 :: v3 :: v4 :: v5 :: v6 :: v7 :: v8 :: v9 :: v10 :: v11 :: v12 :: v13 :: v14 :: v15 :: u 16 :: u 17 :: u 18 :: u 19 :: u 20 :: u 21 :: u 22 :: u 23 :: u 24 :: u 25 :: u 26 :: u 27 :: u 28 :: u 29 :: u 30 :: u 31 :: u 32 :: u 33 :: u 34 :: u 35 :: u 36 :: u 37 :: u 38 :: u 39 :: u 40 :: u 41 :: u 42 :: u 43 :: u 44 :: u 45 :: u 46 :: u 47 :: u 48 :: u 49 :: u 50 :: u 51 :: u 52 :: u 53 :: u 54 :: u 55 :: u 56 :: u 57 :: u 58 :: u 59 :: u 60 :: u 61 :: u 62 :: u 63 :: u 64 :: u 65 :: u 66 :: u 67 :: u 68 :: u 69 :: u 70 :: u 71 :: u 72 :: u 73 :: u 74 :: u 75 :: u 76 :: u 77 :: u 78 :: u 79 :: u 80 :: u 81 :: u 82 :: u 83 :: u 84 :: u 85 :: u 86 :: u 87 :: u 88 :: u 89 :: u 90 :: u 91 :: u 92 :: u 93 :: u 94 :: u 95 :: u 96 :: u 97 :: u 98 :: u 99 :: u 100 :: u 101 :: u 102 :: u 103 :: u 104 :: u 105 :: u 106 :: u 107 :: u 108 :: u 109 :: u 110 :: u 111 :: u 112 :: u 113 :: u 114 :: u 115 :: u 116 :: u 117 :: u 118 :: u 119 :: u 120 :: u 121 :: u 122 :: u 123 :: u 124 :: u 125 :: u 126 :: u 127 :: u 128 :: u 129 :: u 130 :: u 131 :: u 132 :: u 133 :: u 134 :: u 135 :: u 136 :: u 137 :: u 138 :: u 139 :: u 140 :: u 141 :: u 142 :: u 143 :: u 144 :: u 145 :: u 146 :: u 147 :: u 148 :: u 149 :: u 150 :: u 151 :: u 152 :: u 153 :: []).toArray, []⟩ := by
  obtain ⟨u, hu⟩ := h.spread
  refine ⟨u, hu.trans ?_⟩
  kernel_rfl

set_option maxRecDepth 1000000 in
set_option maxHeartbeats 4000000 in
/-- one bound against those ahead of it -/
theorem onceJ {Q : Exit → Act → World → Prop} (v0 v1 v2 v3 v4 v5 v6 v7 v8 v9 v10 v11 v12 : Value) (a : Act) (wa : World) (A : Option Addr) (c k : Nat) (ts : List ByteArray) (bs : List (Nat × Nat))
    (hr : Rd wa A (bnds bs)) (hk : k < bs.length) (hl : bs.length ≤ 1000) (hi : Inv ts bs)
    (hF : Fr 154 [v0, v1, v2, v3, v4, v5, v6, v7, v8, v9, v10, v11, v12, .slice A bs.length c, .int .i64 k, .int .i64 0] a)
    (hP : ∀ c a a2 w, Q (.panic c) a w → Q (.panic c) a2 w)
    (hQ : ∀ a' w' x15, Fr 154 [v0, v1, v2, v3, v4, v5, v6, v7, v8, v9, v10, v11, v12, .slice A bs.length c, .int .i64 k, x15] a' → Ext wa w' → Q (.exit 6) a' w') :
    (Code.loop (onceBody 6)).wp Try.prog Q a wa := by
  obtain ⟨n, hn⟩ : ∃ n, Hid (bs.length = n) := ⟨_, rfl⟩
  rw [hn.out] at hF hQ hk hl
  refine wp_loop (fun a wv => ∃ j : Nat, j ≤ k ∧ Fr 154 [v0, v1, v2, v3, v4, v5, v6, v7, v8, v9, v10, v11, v12, .slice A n c, .int .i64 k, .int .i64 j] a ∧ Ext wa wv) (fun a _ => (k - intO (a.tmps.getD 15 undef)).toNat) ⟨0, Nat.zero_le _, hF, Ext.refl _⟩ ?_
  obtain ⟨b, off, rfl⟩ := bnds_some hr (by have := hn.out; omega)
  clear hF a
  rintro a wr ⟨j, hj, hF, hx⟩
  obtain ⟨u, rfl⟩ := lay154 hF
  clear hF
  conv => arg 2; whnf
  by_cases hlt : j < k
  · clear hQ
    obtain ⟨x, hxe⟩ : ∃ x, bs[j]? = some x := ⟨_, List.getElem?_eq_getElem (by have := hn.out; omega)⟩
    obtain ⟨y, hye⟩ : ∃ y, bs[k]? = some y := ⟨_, List.getElem?_eq_getElem (by have := hn.out; omega)⟩
    obtain ⟨h1, h2⟩ := hi.apart j k x y hxe hye hlt
    have c1 : ∀ W, Ext wr W → W.cell? ⟨b, off + j * 2, none⟩ = some (.int .u64 (x.1 : Int)) := fun W hW => (bnds_cell (hr.ext (hx.trans hW)) j x hxe).1
    have c2 : ∀ W, Ext wr W → W.cell? ⟨b, off + j * 2 + 1, none⟩ = some (.int .u64 (x.2 : Int)) := fun W hW => (bnds_cell (hr.ext (hx.trans hW)) j x hxe).2
    have c3 : ∀ W, Ext wr W → W.cell? ⟨b, off + k * 2, none⟩ = some (.int .u64 (y.1 : Int)) := fun W hW => (bnds_cell (hr.ext (hx.trans hW)) k y hye).1
    have c4 : ∀ W, Ext wr W → W.cell? ⟨b, off + k * 2 + 1, none⟩ = some (.int .u64 (y.2 : Int)) := fun W hW => (bnds_cell (hr.ext (hx.trans hW)) k y hye).2
    have he : ((x.2 : Int) == (y.2 : Int)) = false := by simpa using (fun e : (x.2 : Int) = y.2 => h2 (by omega))
    have hlt' : (j : Int) < (k : Int) := by omega
    have hjn : (j : Int) < (n : Int) := by omega
    have hkn : (k : Int) < (n : Int) := by omega
    have hge : ¬ (y.1 : Int) ≤ (x.1 : Int) := by omega
    go_wp2_with fail
    refine Reg.startE (by kernel_rfl) ?_
    refine Reg.takeE 0 _ _ rfl (by kernel_rfl) (by kernel_rfl) (by kernel_rfl) (by decide) (fun _ _ _ h => by first | exact h | exact hP _ _ _ _ h) (by rfl) (fun W hW => by go_simp; with_reducible rfl) ?_; (try simp only [Act.put, Act.eval, List.getElem?_toArray, List.getElem_toArray, List.getElem?_cons_zero, List.getElem?_cons_succ, List.getElem_cons_zero, List.getElem_cons_succ, Option.getD_some, List.setIfInBounds_toArray, List.set_cons_zero, List.set_cons_succ])
    refine Reg.takeE 1 _ _ rfl (by kernel_rfl) (by kernel_rfl) (by kernel_rfl) (by decide) (fun _ _ _ h => by first | exact h | exact hP _ _ _ _ h) (by rfl) (fun W hW => by go_simp; with_reducible rfl) ?_; (try simp only [Act.put, Act.eval, List.getElem?_toArray, List.getElem_toArray, List.getElem?_cons_zero, List.getElem?_cons_succ, List.getElem_cons_zero, List.getElem_cons_succ, Option.getD_some, List.setIfInBounds_toArray, List.set_cons_zero, List.set_cons_succ])
    refine Reg.takeE 2 _ _ rfl (by kernel_rfl) (by kernel_rfl) (by kernel_rfl) (by decide) (fun _ _ _ h => by first | exact h | exact hP _ _ _ _ h) (by rfl) (fun W hW => by go_simp; with_reducible rfl) ?_; (try simp only [Act.put, Act.eval, List.getElem?_toArray, List.getElem_toArray, List.getElem?_cons_zero, List.getElem?_cons_succ, List.getElem_cons_zero, List.getElem_cons_succ, Option.getD_some, List.setIfInBounds_toArray, List.set_cons_zero, List.set_cons_succ])
    refine Reg.takeE 3 _ _ rfl (by kernel_rfl) (by kernel_rfl) (by kernel_rfl) (by decide) (fun _ _ _ h => by first | exact h | exact hP _ _ _ _ h) (by rfl) (fun W hW => by go_simp; with_reducible rfl) ?_; (try simp only [Act.put, Act.eval, List.getElem?_toArray, List.getElem_toArray, List.getElem?_cons_zero, List.getElem?_cons_succ, List.getElem_cons_zero, List.getElem_cons_succ, Option.getD_some, List.setIfInBounds_toArray, List.set_cons_zero, List.set_cons_succ])
    refine Reg.takeE 4 _ _ rfl (by kernel_rfl) (by kernel_rfl) (by kernel_rfl) (by decide) (fun _ _ _ h => by first | exact h | exact hP _ _ _ _ h) (by rfl) (fun W hW => by go_simp; with_reducible rfl) ?_; (try simp only [Act.put, Act.eval, List.getElem?_toArray, List.getElem_toArray, List.getElem?_cons_zero, List.getElem?_cons_succ, List.getElem_cons_zero, List.getElem_cons_succ, Option.getD_some, List.setIfInBounds_toArray, List.set_cons_zero, List.set_cons_succ])
    refine Reg.takeE 5 _ _ rfl (by kernel_rfl) (by kernel_rfl) (by kernel_rfl) (by decide) (fun _ _ _ h => by first | exact h | exact hP _ _ _ _ h) (by rfl) (fun W hW => by go_simp; with_reducible rfl) ?_; (try simp only [Act.put, Act.eval, List.getElem?_toArray, List.getElem_toArray, List.getElem?_cons_zero, List.getElem?_cons_succ, List.getElem_cons_zero, List.getElem_cons_succ, Option.getD_some, List.setIfInBounds_toArray, List.set_cons_zero, List.set_cons_succ])
    refine Reg.takeE 6 _ _ rfl (by kernel_rfl) (by kernel_rfl) (by kernel_rfl) (by decide) (fun _ _ _ h => by first | exact h | exact hP _ _ _ _ h) (by rfl) (fun W hW => by go_simp; with_reducible rfl) ?_; (try simp only [Act.put, Act.eval, List.getElem?_toArray, List.getElem_toArray, List.getElem?_cons_zero, List.getElem?_cons_succ, List.getElem_cons_zero, List.getElem_cons_succ, Option.getD_some, List.setIfInBounds_toArray, List.set_cons_zero, List.set_cons_succ])
    refine Reg.takeE 7 _ _ rfl (by kernel_rfl) (by kernel_rfl) (by kernel_rfl) (by decide) (fun _ _ _ h => by first | exact h | exact hP _ _ _ _ h) (by rfl) (fun W hW => by go_simp; with_reducible rfl) ?_; (try simp only [Act.put, Act.eval, List.getElem?_toArray, List.getElem_toArray, List.getElem?_cons_zero, List.getElem?_cons_succ, List.getElem_cons_zero, List.getElem_cons_succ, Option.getD_some, List.setIfInBounds_toArray, List.set_cons_zero, List.set_cons_succ])
    refine Reg.takeE 8 _ _ rfl (by kernel_rfl) (by kernel_rfl) (by kernel_rfl) (by decide) (fun _ _ _ h => by first | exact h | exact hP _ _ _ _ h) (by rfl) (fun W hW => by go_simp; with_reducible rfl) ?_; (try simp only [Act.put, Act.eval, List.getElem?_toArray, List.getElem_toArray, List.getElem?_cons_zero, List.getElem?_cons_succ, List.getElem_cons_zero, List.getElem_cons_succ, Option.getD_some, List.setIfInBounds_toArray, List.set_cons_zero, List.set_cons_succ])
    refine Reg.takeE 9 _ _ rfl (by kernel_rfl) (by kernel_rfl) (by kernel_rfl) (by decide) (fun _ _ _ h => by first | exact h | exact hP _ _ _ _ h) (by rfl) (fun W hW => by go_simp; with_reducible rfl) ?_; (try simp only [Act.put, Act.eval, List.getElem?_toArray, List.getElem_toArray, List.getElem?_cons_zero, List.getElem?_cons_succ, List.getElem_cons_zero, List.getElem_cons_succ, Option.getD_some, List.setIfInBounds_toArray, List.set_cons_zero, List.set_cons_succ])
    refine Reg.takeE 10 _ _ rfl (by kernel_rfl) (by kernel_rfl) (by kernel_rfl) (by decide) (fun _ _ _ h => by first | exact h | exact hP _ _ _ _ h) (by rfl) (fun W hW => by go_simp; with_reducible rfl) ?_; (try simp only [Act.put, Act.eval, List.getElem?_toArray, List.getElem_toArray, List.getElem?_cons_zero, List.getElem?_cons_succ, List.getElem_cons_zero, List.getElem_cons_succ, Option.getD_some, List.setIfInBounds_toArray, List.set_cons_zero, List.set_cons_succ])
    refine Reg.takeE 11 _ _ rfl (by kernel_rfl) (by kernel_rfl) (by kernel_rfl) (by decide) (fun _ _ _ h => by first | exact h | exact hP _ _ _ _ h) (by rfl) (fun W hW => by go_simp; with_reducible rfl) ?_; (try simp only [Act.put, Act.eval, List.getElem?_toArray, List.getElem_toArray, List.getElem?_cons_zero, List.getElem?_cons_succ, List.getElem_cons_zero, List.getElem_cons_succ, Option.getD_some, List.setIfInBounds_toArray, List.set_cons_zero, List.set_cons_succ])
    refine Reg.takeE 12 _ _ rfl (by kernel_rfl) (by kernel_rfl) (by kernel_rfl) (by decide) (fun _ _ _ h => by first | exact h | exact hP _ _ _ _ h) (by rfl) (fun W hW => by go_simp; with_reducible rfl) ?_; (try simp only [Act.put, Act.eval, List.getElem?_toArray, List.getElem_toArray, List.getElem?_cons_zero, List.getElem?_cons_succ, List.getElem_cons_zero, List.getElem_cons_succ, Option.getD_some, List.setIfInBounds_toArray, List.set_cons_zero, List.set_cons_succ])
    refine Reg.takeE 13 _ _ rfl (by kernel_rfl) (by kernel_rfl) (by kernel_rfl) (by decide) (fun _ _ _ h => by first | exact h | exact hP _ _ _ _ h) (by rfl) (fun W hW => by go_simp; with_reducible rfl) ?_; (try simp only [Act.put, Act.eval, List.getElem?_toArray, List.getElem_toArray, List.getElem?_cons_zero, List.getElem?_cons_succ, List.getElem_cons_zero, List.getElem_cons_succ, Option.getD_some, List.setIfInBounds_toArray, List.set_cons_zero, List.set_cons_succ])
    refine Reg.takeE 14 _ _ rfl (by kernel_rfl) (by kernel_rfl) (by kernel_rfl) (by decide) (fun _ _ _ h => by first | exact h | exact hP _ _ _ _ h) (by rfl) (fun W hW => by go_simp; with_reducible rfl) ?_; (try simp only [Act.put, Act.eval, List.getElem?_toArray, List.getElem_toArray, List.getElem?_cons_zero, List.getElem?_cons_succ, List.getElem_cons_zero, List.getElem_cons_succ, Option.getD_some, List.setIfInBounds_toArray, List.set_cons_zero, List.set_cons_succ])
    refine Reg.takeE 15 _ _ rfl (by kernel_rfl) (by kernel_rfl) (by kernel_rfl) (by decide) (fun _ _ _ h => by first | exact h | exact hP _ _ _ _ h) (by rfl) (fun W hW => by go_simp; with_reducible rfl) ?_; (try simp only [Act.put, Act.eval, List.getElem?_toArray, List.getElem_toArray, List.getElem?_cons_zero, List.getElem?_cons_succ, List.getElem_cons_zero, List.getElem_cons_succ, Option.getD_some, List.setIfInBounds_toArray, List.set_cons_zero, List.set_cons_succ])
    refine Reg.takeE 16 _ _ rfl (by kernel_rfl) (by kernel_rfl) (by kernel_rfl) (by decide) (fun _ _ _ h => by first | exact h | exact hP _ _ _ _ h) (by rfl) (fun W hW => by go_simp; with_reducible rfl) ?_; (try simp only [Act.put, Act.eval, List.getElem?_toArray, List.getElem_toArray, List.getElem?_cons_zero, List.getElem?_cons_succ, List.getElem_cons_zero, List.getElem_cons_succ, Option.getD_some, List.setIfInBounds_toArray, List.set_cons_zero, List.set_cons_succ])
    refine Reg.takeE 17 _ _ rfl (by kernel_rfl) (by kernel_rfl) (by kernel_rfl) (by decide) (fun _ _ _ h => by first | exact h | exact hP _ _ _ _ h) (by rfl) (fun W hW => by go_simp; with_reducible rfl) ?_; (try simp only [Act.put, Act.eval, List.getElem?_toArray, List.getElem_toArray, List.getElem?_cons_zero, List.getElem?_cons_succ, List.getElem_cons_zero, List.getElem_cons_succ, Option.getD_some, List.setIfInBounds_toArray, List.set_cons_zero, List.set_cons_succ])
    refine Reg.takeE 18 _ _ rfl (by kernel_rfl) (by kernel_rfl) (by kernel_rfl) (by decide) (fun _ _ _ h => by first | exact h | exact hP _ _ _ _ h) (by rfl) (fun W hW => by go_simp; with_reducible rfl) ?_; (try simp only [Act.put, Act.eval, List.getElem?_toArray, List.getElem_toArray, List.getElem?_cons_zero, List.getElem?_cons_succ, List.getElem_cons_zero, List.getElem_cons_succ, Option.getD_some, List.setIfInBounds_toArray, List.set_cons_zero, List.set_cons_succ])
    refine Reg.takeE 19 _ _ rfl (by kernel_rfl) (by kernel_rfl) (by kernel_rfl) (by decide) (fun _ _ _ h => by first | exact h | exact hP _ _ _ _ h) (by rfl) (fun W hW => by go_simp; with_reducible rfl) ?_; (try simp only [Act.put, Act.eval, List.getElem?_toArray, List.getElem_toArray, List.getElem?_cons_zero, List.getElem?_cons_succ, List.getElem_cons_zero, List.getElem_cons_succ, Option.getD_some, List.setIfInBounds_toArray, List.set_cons_zero, List.set_cons_succ])
    refine Reg.takeE 20 _ _ rfl (by kernel_rfl) (by kernel_rfl) (by kernel_rfl) (by decide) (fun _ _ _ h => by first | exact h | exact hP _ _ _ _ h) (by rfl) (fun W hW => by go_simp; with_reducible rfl) ?_; (try simp only [Act.put, Act.eval, List.getElem?_toArray, List.getElem_toArray, List.getElem?_cons_zero, List.getElem?_cons_succ, List.getElem_cons_zero, List.getElem_cons_succ, Option.getD_some, List.setIfInBounds_toArray, List.set_cons_zero, List.set_cons_succ])
    refine Reg.takeE 21 _ _ rfl (by kernel_rfl) (by kernel_rfl) (by kernel_rfl) (by decide) (fun _ _ _ h => by first | exact h | exact hP _ _ _ _ h) (by rfl) (fun W hW => by go_simp; with_reducible rfl) ?_; (try simp only [Act.put, Act.eval, List.getElem?_toArray, List.getElem_toArray, List.getElem?_cons_zero, List.getElem?_cons_succ, List.getElem_cons_zero, List.getElem_cons_succ, Option.getD_some, List.setIfInBounds_toArray, List.set_cons_zero, List.set_cons_succ])
    refine Reg.takeE 22 _ _ rfl (by kernel_rfl) (by kernel_rfl) (by kernel_rfl) (by decide) (fun _ _ _ h => by first | exact h | exact hP _ _ _ _ h) (by rfl) (fun W hW => by go_simp; with_reducible rfl) ?_; (try simp only [Act.put, Act.eval, List.getElem?_toArray, List.getElem_toArray, List.getElem?_cons_zero, List.getElem?_cons_succ, List.getElem_cons_zero, List.getElem_cons_succ, Option.getD_some, List.setIfInBounds_toArray, List.set_cons_zero, List.set_cons_succ])
    refine Reg.takeE 23 _ _ rfl (by kernel_rfl) (by kernel_rfl) (by kernel_rfl) (by decide) (fun _ _ _ h => by first | exact h | exact hP _ _ _ _ h) (by rfl) (fun W hW => by go_simp; with_reducible rfl) ?_; (try simp only [Act.put, Act.eval, List.getElem?_toArray, List.getElem_toArray, List.getElem?_cons_zero, List.getElem?_cons_succ, List.getElem_cons_zero, List.getElem_cons_succ, Option.getD_some, List.setIfInBounds_toArray, List.set_cons_zero, List.set_cons_succ])
    refine Reg.fin (by kernel_rfl) (fun W hW => ?_)
    go_wp2_with fail
    refine ⟨⟨j + 1, by omega, ⟨_, rfl, by go_num⟩, hx.trans hW⟩, ?_⟩
    simp [intO]
    omega
  · obtain rfl : j = k := by omega
    clear hlt
    go_wp2_with fail
    exact hQ _ _ _ ⟨_, rfl, rfl⟩ hx
end Go.Proofs.Ytalbjbcomamomaa.IdsW
