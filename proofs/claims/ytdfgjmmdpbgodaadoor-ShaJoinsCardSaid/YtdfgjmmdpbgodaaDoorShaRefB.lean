/- sha: the reference's Sum in pieces: the first sixteen words of a block. -/
import Derived.Test.YtdfgjmmdpbgodaaDoorShaRefA
namespace Go.Proofs.YtdfgjmmdpbgodaaDoor.ShaW
open Go.ChangeShapes Go.WideShapes Go.ChangeAt Go.RowKit
open ShaP Base Piece
set_option linter.unusedVariables false
set_option linter.unusedSimpArgs false

set_option maxRecDepth 1000000 in
set_option maxHeartbeats 4000000 in
theorem loop6 {Q : Exit → Act → World → Prop} (v0 v1 v2 v3 v4 v6 v10 v11 v12 v13 v14 v15 v16 v17 v18 v19 v20 v21 : Value) (a : Act) (w wa : World) (A A8 : Option Addr) (mm cm at_ c8 : Nat) (L ch : List UInt8)
    (hr : Rb w A L) (hl : L.length = mm) (hmc : mm ≤ cm) (hat : at_ + 64 ≤ mm) (hmm : mm ≤ 5000) (hch : ∀ i, i < 64 → at8 L (at_ + i) = at8 ch i)
    (hF : Fr 315 [v0, v1, v2, v3, v4, .slice A mm cm, v6, .int .i64 at_, .slice A8 0 c8, .int .i64 0, v10, v11, v12, v13, v14, v15, v16, v17, v18, v19, v20, v21] a) (hx : Ext w wa) (ho : OwnS wa (.slice A8 0 c8) []) (hb : ∀ k, (Value.slice A8 0 c8).ownBlock = some k → w.heap.size ≤ k)
    (hP : ∀ c a a2 w, Q (.panic c) a w → Q (.panic c) a2 w)
    (hQ : ∀ a' w' A1 c1 x10, Fr 315 [v0, v1, v2, v3, v4, .slice A mm cm, v6, .int .i64 at_, .slice A1 16 c1, .int .i64 16, x10, v11, v12, v13, v14, v15, v16, v17, v18, v19, v20, v21] a' → OwnS w' (.slice A1 16 c1) (us (sch ch 16)) → (∀ k, (Value.slice A1 16 c1).ownBlock = some k → w.heap.size ≤ k) → Ext w w' → Q (.exit 6) a' w') :
    (Code.loop (refBody 6)).wp Tryd.prog Q a wa := by
  refine wp_loop (fun a wv => ∃ (n : Nat) (A1 : Option Addr) (c1 : Nat) (x10 : Value), n ≤ 16 ∧ Fr 315 [v0, v1, v2, v3, v4, .slice A mm cm, v6, .int .i64 at_, .slice A1 n c1, .int .i64 n, x10, v11, v12, v13, v14, v15, v16, v17, v18, v19, v20, v21] a ∧ OwnS wv (.slice A1 n c1) (us (sch ch n)) ∧ (∀ k, (Value.slice A1 n c1).ownBlock = some k → w.heap.size ≤ k) ∧ Ext w wv) (fun a _ => (16 - intOf (a.tmps.getD 9 undef)).toNat) ⟨0, A8, c8, v10, by omega, hF, ho, hb, hx⟩ ?_
  obtain ⟨b, off, rfl⟩ := hr.some_ (by omega)
  clear hF ho hb hx a wa
  rintro a wr ⟨n, A1, c1, x10, hn, hF, ho, hb, hx⟩
  obtain ⟨u, rfl⟩ := lay315 hF
  clear hF
  conv => arg 2; whnf
  by_cases hlt : n < 16
  · clear hQ
    have hlt' : (n : Int) < 16 := by omega
    have hbytes : ∀ j, j < 4 → ∀ W, Ext w W → W.cell? ⟨b, off + (at_ + 4 * n) + j, none⟩ = some (.int .u8 ((at8 ch (4 * n + j)).toNat : Int)) := fun j hj W hW => by
      obtain ⟨b', off', e, hc⟩ := (hr.ext hW).at_ (k := at_ + (4 * n + j)) (by omega)
      simp only [Option.some.injEq, Addr.mk.injEq, and_true] at e
      obtain ⟨rfl, rfl⟩ := e
      rw [show off + (at_ + 4 * n) + j = off + (at_ + (4 * n + j)) by omega, hc, at8_take, hch _ (by omega)]
    have hword : sch ch (n + 1) = sch ch n ++ [be (at8 ch (4 * n + 0)) (at8 ch (4 * n + 1)) (at8 ch (4 * n + 2)) (at8 ch (4 * n + 3))] := by rw [sch, if_pos hlt]; rfl
    have hlen : (us (sch ch n)).length = n := by rw [us_length, sch_length]
    go_wp2_with fail
    rw [show at_ + 4 * n + 4 - (at_ + 4 * n) = 4 by omega]
    generalize cm - (at_ + 4 * n) = cr
    obtain ⟨o, hod⟩ : ∃ o, Hid (off + (at_ + 4 * n) = o) := ⟨_, rfl⟩
    rw [hod.out] at hbytes ⊢
    refine Reg.startX (R := Go.RowKit.Below w.heap.size) (by kernel_rfl) ?_
    generalize hwq : World.drew _ = wq
    have hxq : Ext w wq := by rw [← hwq]; exact hx.drew
    have hoq : OwnS wq (.slice A1 n c1) (us (sch ch n)) := by rw [← hwq]; exact ho.ext ((Ext.refl wr).drew)
    clear hwq hx ho wr
    have hsq := hxq.size
    have c0 : ∀ W, Go.RowKit.Below w.heap.size wq W → W.cell? ⟨b, o, none⟩ = _ := fun W hW => hbytes 0 (by omega) W (Go.RowKit.Below.trans hxq hW)
    have c1' : ∀ W, Go.RowKit.Below w.heap.size wq W → W.cell? ⟨b, o + 1, none⟩ = _ := fun W hW => hbytes 1 (by omega) W (Go.RowKit.Below.trans hxq hW)
    have c2 : ∀ W, Go.RowKit.Below w.heap.size wq W → W.cell? ⟨b, o + 2, none⟩ = _ := fun W hW => hbytes 2 (by omega) W (Go.RowKit.Below.trans hxq hW)
    have c3 : ∀ W, Go.RowKit.Below w.heap.size wq W → W.cell? ⟨b, o + 3, none⟩ = _ := fun W hW => hbytes 3 (by omega) W (Go.RowKit.Below.trans hxq hW)
    clear hbytes hod
    generalize at8 ch (4 * n + 0) = x0 at c0 hword
    generalize at8 ch (4 * n + 1) = x1 at c1' hword
    generalize at8 ch (4 * n + 2) = x2 at c2 hword
    generalize at8 ch (4 * n + 3) = x3 at c3 hword
    have y0 := x0.toNat_lt; have y1 := x1.toNat_lt; have y2 := x2.toNat_lt; have y3 := x3.toNat_lt
    have hsum := be_wrap x0 x1 x2 x3
    generalize be x0 x1 x2 x3 = X at hword hsum
    generalize hS : sch ch n = S at hoq hlen hword
    clear hS
    have hlen' : S.length = n := by rwa [us_length] at hlen
    refine Reg.takeX (Reg.rl_below _) 0 _ _ rfl (by kernel_rfl) (by kernel_rfl) (by kernel_rfl) (by decide) (fun _ _ _ h => by first | exact h | exact hP _ _ _ _ h) (by rfl) (fun W hW => by go_simp; with_reducible rfl) ?_; (try simp only [Act.put, Act.eval, List.getElem?_toArray, List.getElem_toArray, List.getElem?_cons_zero, List.getElem?_cons_succ, List.getElem_cons_zero, List.getElem_cons_succ, Option.getD_some, List.setIfInBounds_toArray, List.set_cons_zero, List.set_cons_succ])
    refine Reg.takeX (Reg.rl_below _) 1 _ _ rfl (by kernel_rfl) (by kernel_rfl) (by kernel_rfl) (by decide) (fun _ _ _ h => by first | exact h | exact hP _ _ _ _ h) (by rfl) (fun W hW => by go_simp; with_reducible rfl) ?_; (try simp only [Act.put, Act.eval, List.getElem?_toArray, List.getElem_toArray, List.getElem?_cons_zero, List.getElem?_cons_succ, List.getElem_cons_zero, List.getElem_cons_succ, Option.getD_some, List.setIfInBounds_toArray, List.set_cons_zero, List.set_cons_succ])
    refine Reg.takeX (Reg.rl_below _) 2 _ _ rfl (by kernel_rfl) (by kernel_rfl) (by kernel_rfl) (by decide) (fun _ _ _ h => by first | exact h | exact hP _ _ _ _ h) (by rfl) (fun W hW => by go_simp; with_reducible rfl) ?_; (try simp only [Act.put, Act.eval, List.getElem?_toArray, List.getElem_toArray, List.getElem?_cons_zero, List.getElem?_cons_succ, List.getElem_cons_zero, List.getElem_cons_succ, Option.getD_some, List.setIfInBounds_toArray, List.set_cons_zero, List.set_cons_succ])
    refine Reg.takeX (Reg.rl_below _) 3 _ _ rfl (by kernel_rfl) (by kernel_rfl) (by kernel_rfl) (by decide) (fun _ _ _ h => by first | exact h | exact hP _ _ _ _ h) (by rfl) (fun W hW => by go_simp; with_reducible rfl) ?_; (try simp only [Act.put, Act.eval, List.getElem?_toArray, List.getElem_toArray, List.getElem?_cons_zero, List.getElem?_cons_succ, List.getElem_cons_zero, List.getElem_cons_succ, Option.getD_some, List.setIfInBounds_toArray, List.set_cons_zero, List.set_cons_succ])
    refine Reg.takeX (Reg.rl_below _) 4 _ _ rfl (by kernel_rfl) (by kernel_rfl) (by kernel_rfl) (by decide) (fun _ _ _ h => by first | exact h | exact hP _ _ _ _ h) (by rfl) (fun W hW => by go_simp; with_reducible rfl) ?_; (try simp only [Act.put, Act.eval, List.getElem?_toArray, List.getElem_toArray, List.getElem?_cons_zero, List.getElem?_cons_succ, List.getElem_cons_zero, List.getElem_cons_succ, Option.getD_some, List.setIfInBounds_toArray, List.set_cons_zero, List.set_cons_succ])
    refine Reg.takeX (Reg.rl_below _) 5 _ _ rfl (by kernel_rfl) (by kernel_rfl) (by kernel_rfl) (by decide) (fun _ _ _ h => by first | exact h | exact hP _ _ _ _ h) (by rfl) (fun W hW => by go_simp; with_reducible rfl) ?_; (try simp only [Act.put, Act.eval, List.getElem?_toArray, List.getElem_toArray, List.getElem?_cons_zero, List.getElem?_cons_succ, List.getElem_cons_zero, List.getElem_cons_succ, Option.getD_some, List.setIfInBounds_toArray, List.set_cons_zero, List.set_cons_succ])
    refine Reg.takeX (Reg.rl_below _) 6 _ _ rfl (by kernel_rfl) (by kernel_rfl) (by kernel_rfl) (by decide) (fun _ _ _ h => by first | exact h | exact hP _ _ _ _ h) (by rfl) (fun W hW => by go_simp; with_reducible rfl) ?_; (try simp only [Act.put, Act.eval, List.getElem?_toArray, List.getElem_toArray, List.getElem?_cons_zero, List.getElem?_cons_succ, List.getElem_cons_zero, List.getElem_cons_succ, Option.getD_some, List.setIfInBounds_toArray, List.set_cons_zero, List.set_cons_succ])
    refine Reg.takeX (Reg.rl_below _) 7 _ _ rfl (by kernel_rfl) (by kernel_rfl) (by kernel_rfl) (by decide) (fun _ _ _ h => by first | exact h | exact hP _ _ _ _ h) (by rfl) (fun W hW => by go_simp; with_reducible rfl) ?_; (try simp only [Act.put, Act.eval, List.getElem?_toArray, List.getElem_toArray, List.getElem?_cons_zero, List.getElem?_cons_succ, List.getElem_cons_zero, List.getElem_cons_succ, Option.getD_some, List.setIfInBounds_toArray, List.set_cons_zero, List.set_cons_succ])
    refine Reg.takeX (Reg.rl_below _) 8 _ _ rfl (by kernel_rfl) (by kernel_rfl) (by kernel_rfl) (by decide) (fun _ _ _ h => by first | exact h | exact hP _ _ _ _ h) (by rfl) (fun W hW => by go_simp; with_reducible rfl) ?_; (try simp only [Act.put, Act.eval, List.getElem?_toArray, List.getElem_toArray, List.getElem?_cons_zero, List.getElem?_cons_succ, List.getElem_cons_zero, List.getElem_cons_succ, Option.getD_some, List.setIfInBounds_toArray, List.set_cons_zero, List.set_cons_succ])
    refine Reg.takeX (Reg.rl_below _) 9 _ _ rfl (by kernel_rfl) (by kernel_rfl) (by kernel_rfl) (by decide) (fun _ _ _ h => by first | exact h | exact hP _ _ _ _ h) (by rfl) (fun W hW => by go_simp; with_reducible rfl) ?_; (try simp only [Act.put, Act.eval, List.getElem?_toArray, List.getElem_toArray, List.getElem?_cons_zero, List.getElem?_cons_succ, List.getElem_cons_zero, List.getElem_cons_succ, Option.getD_some, List.setIfInBounds_toArray, List.set_cons_zero, List.set_cons_succ])
    refine Reg.takeX (Reg.rl_below _) 10 _ _ rfl (by kernel_rfl) (by kernel_rfl) (by kernel_rfl) (by decide) (fun _ _ _ h => by first | exact h | exact hP _ _ _ _ h) (by rfl) (fun W hW => by go_simp; with_reducible rfl) ?_; (try simp only [Act.put, Act.eval, List.getElem?_toArray, List.getElem_toArray, List.getElem?_cons_zero, List.getElem?_cons_succ, List.getElem_cons_zero, List.getElem_cons_succ, Option.getD_some, List.setIfInBounds_toArray, List.set_cons_zero, List.set_cons_succ])
    refine Reg.takeX (Reg.rl_below _) 11 _ _ rfl (by kernel_rfl) (by kernel_rfl) (by kernel_rfl) (by decide) (fun _ _ _ h => by first | exact h | exact hP _ _ _ _ h) (by rfl) (fun W hW => by go_simp; with_reducible rfl) ?_; (try simp only [Act.put, Act.eval, List.getElem?_toArray, List.getElem_toArray, List.getElem?_cons_zero, List.getElem?_cons_succ, List.getElem_cons_zero, List.getElem_cons_succ, Option.getD_some, List.setIfInBounds_toArray, List.set_cons_zero, List.set_cons_succ])
    refine Reg.takeX (Reg.rl_below _) 12 _ _ rfl (by kernel_rfl) (by kernel_rfl) (by kernel_rfl) (by decide) (fun _ _ _ h => by first | exact h | exact hP _ _ _ _ h) (by rfl) (fun W hW => by go_simp; with_reducible rfl) ?_; (try simp only [Act.put, Act.eval, List.getElem?_toArray, List.getElem_toArray, List.getElem?_cons_zero, List.getElem?_cons_succ, List.getElem_cons_zero, List.getElem_cons_succ, Option.getD_some, List.setIfInBounds_toArray, List.set_cons_zero, List.set_cons_succ])
    refine Reg.takeX (Reg.rl_below _) 13 _ _ rfl (by kernel_rfl) (by kernel_rfl) (by kernel_rfl) (by decide) (fun _ _ _ h => by first | exact h | exact hP _ _ _ _ h) (by rfl) (fun W hW => by go_simp; with_reducible rfl) ?_; (try simp only [Act.put, Act.eval, List.getElem?_toArray, List.getElem_toArray, List.getElem?_cons_zero, List.getElem?_cons_succ, List.getElem_cons_zero, List.getElem_cons_succ, Option.getD_some, List.setIfInBounds_toArray, List.set_cons_zero, List.set_cons_succ])
    refine Reg.takeX (Reg.rl_below _) 14 _ _ rfl (by kernel_rfl) (by kernel_rfl) (by kernel_rfl) (by decide) (fun _ _ _ h => by first | exact h | exact hP _ _ _ _ h) (by rfl) (fun W hW => by go_simp; with_reducible rfl) ?_; (try simp only [Act.put, Act.eval, List.getElem?_toArray, List.getElem_toArray, List.getElem?_cons_zero, List.getElem?_cons_succ, List.getElem_cons_zero, List.getElem_cons_succ, Option.getD_some, List.setIfInBounds_toArray, List.set_cons_zero, List.set_cons_succ])
    refine Reg.takeX (Reg.rl_below _) 15 _ _ rfl (by kernel_rfl) (by kernel_rfl) (by kernel_rfl) (by decide) (fun _ _ _ h => by first | exact h | exact hP _ _ _ _ h) (by rfl) (fun W hW => by go_simp; with_reducible rfl) ?_; (try simp only [Act.put, Act.eval, List.getElem?_toArray, List.getElem_toArray, List.getElem?_cons_zero, List.getElem?_cons_succ, List.getElem_cons_zero, List.getElem_cons_succ, Option.getD_some, List.setIfInBounds_toArray, List.set_cons_zero, List.set_cons_succ])
    refine Reg.takeX (Reg.rl_below _) 16 _ _ rfl (by kernel_rfl) (by kernel_rfl) (by kernel_rfl) (by decide) (fun _ _ _ h => by first | exact h | exact hP _ _ _ _ h) (by rfl) (fun W hW => by go_simp; with_reducible rfl) ?_; (try simp only [Act.put, Act.eval, List.getElem?_toArray, List.getElem_toArray, List.getElem?_cons_zero, List.getElem?_cons_succ, List.getElem_cons_zero, List.getElem_cons_succ, Option.getD_some, List.setIfInBounds_toArray, List.set_cons_zero, List.set_cons_succ])
    refine Reg.takeX (Reg.rl_below _) 17 _ _ rfl (by kernel_rfl) (by kernel_rfl) (by kernel_rfl) (by decide) (fun _ _ _ h => by first | exact h | exact hP _ _ _ _ h) (by rfl) (fun W hW => by go_simp; with_reducible rfl) ?_; (try simp only [Act.put, Act.eval, List.getElem?_toArray, List.getElem_toArray, List.getElem?_cons_zero, List.getElem?_cons_succ, List.getElem_cons_zero, List.getElem_cons_succ, Option.getD_some, List.setIfInBounds_toArray, List.set_cons_zero, List.set_cons_succ])
    refine Reg.takeX (Reg.rl_below _) 18 _ _ rfl (by kernel_rfl) (by kernel_rfl) (by kernel_rfl) (by decide) (fun _ _ _ h => by first | exact h | exact hP _ _ _ _ h) (by rfl) (fun W hW => by go_simp; with_reducible rfl) ?_; (try simp only [Act.put, Act.eval, List.getElem?_toArray, List.getElem_toArray, List.getElem?_cons_zero, List.getElem?_cons_succ, List.getElem_cons_zero, List.getElem_cons_succ, Option.getD_some, List.setIfInBounds_toArray, List.set_cons_zero, List.set_cons_succ])
    refine Reg.takeX (Reg.rl_below _) 19 _ _ rfl (by kernel_rfl) (by kernel_rfl) (by kernel_rfl) (by decide) (fun _ _ _ h => by first | exact h | exact hP _ _ _ _ h) (by rfl) (fun W hW => by go_simp; with_reducible rfl) ?_; (try simp only [Act.put, Act.eval, List.getElem?_toArray, List.getElem_toArray, List.getElem?_cons_zero, List.getElem?_cons_succ, List.getElem_cons_zero, List.getElem_cons_succ, Option.getD_some, List.setIfInBounds_toArray, List.set_cons_zero, List.set_cons_succ])
    refine Reg.takeX (Reg.rl_below _) 20 _ _ rfl (by kernel_rfl) (by kernel_rfl) (by kernel_rfl) (by decide) (fun _ _ _ h => by first | exact h | exact hP _ _ _ _ h) (by rfl) (fun W hW => by go_simp; with_reducible rfl) ?_; (try simp only [Act.put, Act.eval, List.getElem?_toArray, List.getElem_toArray, List.getElem?_cons_zero, List.getElem?_cons_succ, List.getElem_cons_zero, List.getElem_cons_succ, Option.getD_some, List.setIfInBounds_toArray, List.set_cons_zero, List.set_cons_succ])
    refine Reg.takeX (Reg.rl_below _) 21 _ _ rfl (by kernel_rfl) (by kernel_rfl) (by kernel_rfl) (by decide) (fun _ _ _ h => by first | exact h | exact hP _ _ _ _ h) (by rfl) (fun W hW => by go_simp; with_reducible rfl) ?_; (try simp only [Act.put, Act.eval, List.getElem?_toArray, List.getElem_toArray, List.getElem?_cons_zero, List.getElem?_cons_succ, List.getElem_cons_zero, List.getElem_cons_succ, Option.getD_some, List.setIfInBounds_toArray, List.set_cons_zero, List.set_cons_succ])
    refine Reg.takeX (Reg.rl_below _) 22 _ _ rfl (by kernel_rfl) (by kernel_rfl) (by kernel_rfl) (by decide) (fun _ _ _ h => by first | exact h | exact hP _ _ _ _ h) (by rfl) (fun W hW => by go_simp; with_reducible rfl) ?_; (try simp only [Act.put, Act.eval, List.getElem?_toArray, List.getElem_toArray, List.getElem?_cons_zero, List.getElem?_cons_succ, List.getElem_cons_zero, List.getElem_cons_succ, Option.getD_some, List.setIfInBounds_toArray, List.set_cons_zero, List.set_cons_succ])
    refine Reg.onlyX 23 _ rfl (by kernel_rfl) (by decide) (by rfl) (fun K hK => ?_); go_simp
    refine hK.out _ _ (Go.RowKit.Below.alloc (Go.RowKit.Below.refl _ _) hsq _) ?_; clear hK K; (try simp only [Act.put, Act.eval, List.getElem?_toArray, List.getElem_toArray, List.getElem?_cons_zero, List.getElem?_cons_succ, List.getElem_cons_zero, List.getElem_cons_succ, Option.getD_some, List.setIfInBounds_toArray, List.set_cons_zero, List.set_cons_succ])
    refine Reg.onlyX 24 _ rfl (by kernel_rfl) (by decide) (by rfl) (fun K hK => ?_)
    refine wp_oapp el_u32 _ (.tmp 74) (.tmp 97) rfl (.slice A1 n c1) (us S) rfl (hoq.ext ((Ext.refl wq).alloc _)) (us_one _) _ 1 1 (us [X]) rfl (Rd.of_block wq 44 (0, 0) rfl) rfl (fun h => by cases h) (us_one _) (by rw [us_length]; omega) (by omega) ?_
    intro V1 w1 ho1 hgr1 hv1
    have hbel := Go.RowKit.Below.grown (Go.RowKit.Below.refl w.heap.size _) hgr1 (by simp; omega) hb
    refine hK.out _ _ hbel ?_
    clear hK K
    have hx1 : Ext w w1 := (hxq.alloc _).then_grown hgr1 hb
    have hb1 := own_ge hv1 hb (by simp; omega)
    clear hgr1 hv1 hbel
    obtain ⟨A2, c2', rfl, _⟩ := ho1.rd
    rw [show us S ++ us [X] = us (S ++ [X]) by simp [us], us_length, List.length_append, hlen', show [X].length = 1 from rfl, ← hword] at ho1
    rw [show (us S ++ us [X]).length = n + 1 by simp [us, hlen']] at hb1 ⊢
    (try simp only [Act.put, Act.eval, List.getElem?_toArray, List.getElem_toArray, List.getElem?_cons_zero, List.getElem?_cons_succ, List.getElem_cons_zero, List.getElem_cons_succ, Option.getD_some, List.setIfInBounds_toArray, List.set_cons_zero, List.set_cons_succ])
    refine Reg.takeX (Reg.rl_below _) 25 _ _ rfl (by kernel_rfl) (by kernel_rfl) (by kernel_rfl) (by decide) (fun _ _ _ h => by first | exact h | exact hP _ _ _ _ h) (by rfl) (fun W hW => by go_simp; with_reducible rfl) ?_; (try simp only [Act.put, Act.eval, List.getElem?_toArray, List.getElem_toArray, List.getElem?_cons_zero, List.getElem?_cons_succ, List.getElem_cons_zero, List.getElem_cons_succ, Option.getD_some, List.setIfInBounds_toArray, List.set_cons_zero, List.set_cons_succ])
    refine Reg.finX (by kernel_rfl) ?_
    go_wp2_with fail
    trace_state
    refine ⟨⟨n + 1, A2, c2', _, by omega, ⟨_, rfl, rfl⟩, ho1, hb1, hx1⟩, ?_⟩
    simp [intOf]
    omega
  · obtain rfl : n = 16 := by omega
    clear hlt
    go_wp2_with fail

    exact hQ _ _ A1 c1 x10 ⟨_, rfl, rfl⟩ ho hb hx
end Go.Proofs.YtdfgjmmdpbgodaaDoor.ShaW
