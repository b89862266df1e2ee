/- sha: the reference's Sum in pieces: the bytes of the words. -/
import Derived.Test.YtdfgjmmdpbgodaaDoorShaRefA
namespace Go.Proofs.YtdfgjmmdpbgodaaDoor.ShaW
open Go.ChangeShapes Go.WideShapes Go.ChangeAt Go.RowKit
open ShaP Base Piece
set_option linter.unusedVariables false
set_option linter.unusedSimpArgs false

set_option maxRecDepth 1000000 in
set_option maxHeartbeats 4000000 in
theorem loop14 {Q : Exit → Act → World → Prop} (v0 v1 v2 v4 v5 v6 v7 v8 v9 v10 v11 v12 v13 v14 v15 v16 v17 v18 v19 : Value) (a : Act) (wb wa : World) (G O : Nat) (s : ShaP.St)
    (hF : Fr 315 [v0, v1, v2, .slice (some ⟨G, 0, none⟩) 8 8, v4, v5, v6, v7, v8, v9, v10, v11, v12, v13, v14, v15, v16, v17, v18, v19, .pointer (some ⟨O, 0, none⟩), .int .i64 0] a) (hx : Ext wb wa) (hG : Blk wa G (us s.list).toArray 44) (hO : Blk wa O (otab s 0) 25) (hGO : G ≠ O) (hbO : wb.heap.size ≤ O)
    (hQ : ∀ a' w', Fr 315 [v0, v1, v2, .slice (some ⟨G, 0, none⟩) 8 8, v4, v5, v6, v7, v8, v9, v10, v11, v12, v13, v14, v15, v16, v17, v18, v19, .pointer (some ⟨O, 0, none⟩), .int .i64 32] a' → Blk w' O (otab s 32) 25 → Ext wb w' → Q (.exit 14) a' w') :
    (Code.loop (refBody 14)).wp Tryd.prog Q a wa := by
  refine wp_loop (fun a wv => ∃ i : Nat, i ≤ 32 ∧ Fr 315 [v0, v1, v2, .slice (some ⟨G, 0, none⟩) 8 8, v4, v5, v6, v7, v8, v9, v10, v11, v12, v13, v14, v15, v16, v17, v18, v19, .pointer (some ⟨O, 0, none⟩), .int .i64 i] a ∧ Blk wv G (us s.list).toArray 44 ∧ Blk wv O (otab s i) 25 ∧ Ext wb wv) (fun a _ => (32 - intOf (a.tmps.getD 21 undef)).toNat) ⟨0, by omega, hF, hG, hO, hx⟩ ?_
  clear hF hx hG hO a wa
  rintro a w ⟨i, hi, hF, hG, hO, hx⟩
  obtain ⟨u, rfl⟩ := lay315 hF
  clear hF
  conv => arg 2; whnf
  by_cases hi32 : i < 32
  · clear hQ
    obtain ⟨q, hq⟩ : ∃ q : Nat, Held (i / 4 = q) := ⟨_, ⟨rfl⟩⟩
    obtain ⟨r, hr⟩ : ∃ r : Nat, Held (i % 4 = r) := ⟨_, ⟨rfl⟩⟩
    have hq' : (i : Int) / 4 = (q : Int) := by have := hq.out; omega
    have hr' : (i : Int) % 4 = (r : Int) := by have := hr.out; omega
    have hq8 : (q : Int) < 8 := by have := hq.out; omega
    have hi' : (i : Int) < 32 := by omega
    have e3 : w.cell? ⟨G, q, none⟩ = some (.int .u32 (U (at32 s.list q))) := by rw [hG.cell q, List.getElem?_toArray]; exact us_at _ _ (by show q < 8; omega)
    obtain ⟨S, hS⟩ : ∃ S : Nat, Held (24 - 8 * (r : Int) = (S : Int)) := ⟨24 - 8 * r, ⟨by have := hr.out; omega⟩⟩
    have hS' : (24 : Int) - 8 * (r : Int) = (S : Int) := hS.out
    have hS0 : ¬ (S : Int) < 0 := by omega
    have hS32 : S + 8 * r = 24 := by omega
    have eO : w.cell? ⟨O, i, none⟩ = some ((otab s i)[i]'(by rw [otab_size s i hi]; exact hi32)) := (hO.cell i).trans (Array.getElem?_eq_getElem _)
    have fO := hO.frozen i
    have hby := out_at s i q r S hi32 hq.out hr.out hS32
    go_wp2_with fail
    have hq2 := hO.set i (.int .u8 ((at8 (out s) i).toNat : Int))
    rw [otab_set s i hi32] at hq2
    refine ⟨⟨i + 1, by omega, ⟨_, rfl, rfl⟩, hG.far (by show G ≠ O; exact hGO) _, hq2, hx.setCell (by show _ ≤ O; omega) _⟩, ?_⟩
    simp [intOf]
    omega
  · obtain rfl : i = 32 := by omega
    clear hi32
    go_wp2_with fail
    exact hQ _ _ ⟨_, rfl, rfl⟩ hO hx
end Go.Proofs.YtdfgjmmdpbgodaaDoor.ShaW
