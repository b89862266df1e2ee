/- sha: the reference's Sum in pieces: what the rounds made is added. -/
import Derived.Test.YtdfgjmmdpbgodaaDoorShaRefD
namespace Go.Proofs.YtdfgjmmdpbgodaaDoor.ShaW
open Go.ChangeShapes Go.WideShapes Go.ChangeAt Go.RowKit
open ShaP Base Piece
set_option linter.unusedVariables false
set_option linter.unusedSimpArgs false

theorem mix_set0 (a b : List (BitVec 32)) (k : Nat) (h : k < 8) : ((us (mix a b k)).toArray.setIfInBounds k (.int .u32 (U (at32 a k + at32 b k)))) = (us (mix a b (k + 1))).toArray := by
  have := mix_set a b k h []
  simpa using this
set_option maxRecDepth 1000000 in
set_option maxHeartbeats 4000000 in
theorem loop12 {Q : Exit → Act → World → Prop} (v0 v1 v2 v4 v5 v6 v7 v8 v9 v10 v11 v12 v13 v14 v16 v17 v18 v20 v21 : Value) (a : Act) (wa : World) (AV : Option Addr) (cV G : Nat) (s t : ShaP.St)
    (hF : Fr 315 [v0, v1, v2, .slice (some ⟨G, 0, none⟩) 8 8, v4, v5, v6, v7, v8, v9, v10, v11, v12, v13, v14, .slice AV 8 cV, v16, v17, v18, .int .i64 0, v20, v21] a) (hG : Blk wa G (us s.list).toArray 44) (hV : Rd wa AV (us t.list)) (hne : ∀ p, AV = some p → p.block ≠ G)
    (hP : ∀ c a a2 w, Q (.panic c) a w → Q (.panic c) a2 w)
    (hQ : ∀ a' w', Fr 315 [v0, v1, v2, .slice (some ⟨G, 0, none⟩) 8 8, v4, v5, v6, v7, v8, v9, v10, v11, v12, v13, v14, .slice AV 8 cV, v16, v17, v18, .int .i64 8, v20, v21] a' → Blk w' G (us (s.plus t).list).toArray 44 → wa.grownBy w' (some G) → Q (.exit 12) a' w') :
    (Code.loop (refBody 12)).wp Tryd.prog Q a wa := by
  obtain ⟨bv, ov, rfl⟩ := rd_addr hV (by show 0 < 8; omega)
  have hbG : bv ≠ G := hne _ rfl
  obtain ⟨wq, hwq⟩ : ∃ wq, wq = wa := ⟨_, rfl⟩
  rw [← hwq] at hV hQ
  refine wp_loop (fun a wv => ∃ (n : Nat), n ≤ 8 ∧ Fr 315 [v0, v1, v2, .slice (some ⟨G, 0, none⟩) 8 8, v4, v5, v6, v7, v8, v9, v10, v11, v12, v13, v14, .slice (some ⟨bv, ov, none⟩) 8 cV, v16, v17, v18, .int .i64 n, v20, v21] a ∧ Blk wv G (us (mix s.list t.list n)).toArray 44 ∧ wq.grownBy wv (some G)) (fun a _ => (8 - intOf (a.tmps.getD 19 undef)).toNat) ⟨0, by omega, hF, by rw [mix_zero]; exact hG, by rw [hwq]; exact World.grownBy.refl _ _⟩ ?_
  clear hF hG hwq hne a wa
  rintro a w ⟨n, hn, hF, hG, hgr⟩
  obtain ⟨u, rfl⟩ := lay315 hF
  clear hF
  conv => arg 2; whnf
  by_cases hlt : n < 8
  · clear hQ
    have hlt' : (n : Int) < 8 := by omega
    have hmx := mix_at s.list t.list n hlt
    have hms := mix_set0 s.list t.list n hlt
    have hVw : Rd w (some ⟨bv, ov, none⟩) (us t.list) := Rd.chg hV (Chg.ofGrown hgr) (fun a ha e => by injection ha with ha; injection e with e; exact hbG (by rw [e, ← ha]))
    have ct : ∀ W, Ext w W → W.cell? ⟨bv, ov + n, none⟩ = some (.int .u32 (U (at32 t.list n))) := fun W hW2 => rd_word (hVw.ext hW2) hlt
    have cs : ∀ W, Ext w W → W.cell? ⟨G, n, none⟩ = some (.int .u32 (U (at32 s.list n))) := fun W hW2 => by
      rw [(hG.ext hW2).cell n, List.getElem?_toArray, us_at _ _ (by rw [mix_length]; exact hlt), hmx]
    generalize at32 s.list n = S0 at cs hms
    generalize at32 t.list n = T0 at ct hms
    have g0 := U_add' S0 T0
    obtain ⟨M1, hM1⟩ : ∃ M, Held (mix s.list t.list (n + 1) = M) := ⟨_, ⟨rfl⟩⟩
    rw [hM1.out] at hms
    generalize mix s.list t.list n = M0 at hms hG
    clear hV hVw hmx
    go_wp2_with fail
    refine Reg.startE (by kernel_rfl) ?_
    refine Reg.takeE 0 _ _ rfl (by kernel_rfl) (by kernel_rfl) (by kernel_rfl) (by decide) (fun _ _ _ h => by first | exact h | exact hP _ _ _ _ h) (by rfl) (fun W hW => by go_simp; with_reducible rfl) ?_; (try simp only [Act.put, Act.eval, List.getElem?_toArray, List.getElem_toArray, List.getElem?_cons_zero, List.getElem?_cons_succ, List.getElem_cons_zero, List.getElem_cons_succ, Option.getD_some, List.setIfInBounds_toArray, List.set_cons_zero, List.set_cons_succ])
    refine Reg.takeE 1 _ _ rfl (by kernel_rfl) (by kernel_rfl) (by kernel_rfl) (by decide) (fun _ _ _ h => by first | exact h | exact hP _ _ _ _ h) (by rfl) (fun W hW => by go_simp; with_reducible rfl) ?_; (try simp only [Act.put, Act.eval, List.getElem?_toArray, List.getElem_toArray, List.getElem?_cons_zero, List.getElem?_cons_succ, List.getElem_cons_zero, List.getElem_cons_succ, Option.getD_some, List.setIfInBounds_toArray, List.set_cons_zero, List.set_cons_succ])
    refine Reg.takeE 2 _ _ rfl (by kernel_rfl) (by kernel_rfl) (by kernel_rfl) (by decide) (fun _ _ _ h => by first | exact h | exact hP _ _ _ _ h) (by rfl) (fun W hW => by go_simp; with_reducible rfl) ?_; (try simp only [Act.put, Act.eval, List.getElem?_toArray, List.getElem_toArray, List.getElem?_cons_zero, List.getElem?_cons_succ, List.getElem_cons_zero, List.getElem_cons_succ, Option.getD_some, List.setIfInBounds_toArray, List.set_cons_zero, List.set_cons_succ])
    refine Reg.takeE 3 _ _ rfl (by kernel_rfl) (by kernel_rfl) (by kernel_rfl) (by decide) (fun _ _ _ h => by first | exact h | exact hP _ _ _ _ h) (by rfl) (fun W hW => by go_simp; with_reducible rfl) ?_; (try simp only [Act.put, Act.eval, List.getElem?_toArray, List.getElem_toArray, List.getElem?_cons_zero, List.getElem?_cons_succ, List.getElem_cons_zero, List.getElem_cons_succ, Option.getD_some, List.setIfInBounds_toArray, List.set_cons_zero, List.set_cons_succ])
    refine Reg.takeE 4 _ _ rfl (by kernel_rfl) (by kernel_rfl) (by kernel_rfl) (by decide) (fun _ _ _ h => by first | exact h | exact hP _ _ _ _ h) (by rfl) (fun W hW => by go_simp; with_reducible rfl) ?_; (try simp only [Act.put, Act.eval, List.getElem?_toArray, List.getElem_toArray, List.getElem?_cons_zero, List.getElem?_cons_succ, List.getElem_cons_zero, List.getElem_cons_succ, Option.getD_some, List.setIfInBounds_toArray, List.set_cons_zero, List.set_cons_succ])
    refine Reg.takeE 5 _ _ rfl (by kernel_rfl) (by kernel_rfl) (by kernel_rfl) (by decide) (fun _ _ _ h => by first | exact h | exact hP _ _ _ _ h) (by rfl) (fun W hW => by have hbW : Ext w W := (by repeat (first | assumption | exact Ext.refl _ | refine Ext.trans (by assumption) ?_ | apply Ext.drew | apply Ext.drewN | apply Ext.alloc)); go_simp; with_reducible rfl) ?_; (try simp only [Act.put, Act.eval, List.getElem?_toArray, List.getElem_toArray, List.getElem?_cons_zero, List.getElem?_cons_succ, List.getElem_cons_zero, List.getElem_cons_succ, Option.getD_some, List.setIfInBounds_toArray, List.set_cons_zero, List.set_cons_succ])
    refine Reg.takeE 6 _ _ rfl (by kernel_rfl) (by kernel_rfl) (by kernel_rfl) (by decide) (fun _ _ _ h => by first | exact h | exact hP _ _ _ _ h) (by rfl) (fun W hW => by go_simp; with_reducible rfl) ?_; (try simp only [Act.put, Act.eval, List.getElem?_toArray, List.getElem_toArray, List.getElem?_cons_zero, List.getElem?_cons_succ, List.getElem_cons_zero, List.getElem_cons_succ, Option.getD_some, List.setIfInBounds_toArray, List.set_cons_zero, List.set_cons_succ])
    refine Reg.takeE 7 _ _ rfl (by kernel_rfl) (by kernel_rfl) (by kernel_rfl) (by decide) (fun _ _ _ h => by first | exact h | exact hP _ _ _ _ h) (by rfl) (fun W hW => by go_simp; with_reducible rfl) ?_; (try simp only [Act.put, Act.eval, List.getElem?_toArray, List.getElem_toArray, List.getElem?_cons_zero, List.getElem?_cons_succ, List.getElem_cons_zero, List.getElem_cons_succ, Option.getD_some, List.setIfInBounds_toArray, List.set_cons_zero, List.set_cons_succ])
    refine Reg.takeE 8 _ _ rfl (by kernel_rfl) (by kernel_rfl) (by kernel_rfl) (by decide) (fun _ _ _ h => by first | exact h | exact hP _ _ _ _ h) (by rfl) (fun W hW => by go_simp; with_reducible rfl) ?_; (try simp only [Act.put, Act.eval, List.getElem?_toArray, List.getElem_toArray, List.getElem?_cons_zero, List.getElem?_cons_succ, List.getElem_cons_zero, List.getElem_cons_succ, Option.getD_some, List.setIfInBounds_toArray, List.set_cons_zero, List.set_cons_succ])
    refine Reg.takeE 9 _ _ rfl (by kernel_rfl) (by kernel_rfl) (by kernel_rfl) (by decide) (fun _ _ _ h => by first | exact h | exact hP _ _ _ _ h) (by rfl) (fun W hW => by have hbW : Ext w W := (by repeat (first | assumption | exact Ext.refl _ | refine Ext.trans (by assumption) ?_ | apply Ext.drew | apply Ext.drewN | apply Ext.alloc)); go_simp; with_reducible rfl) ?_; (try simp only [Act.put, Act.eval, List.getElem?_toArray, List.getElem_toArray, List.getElem?_cons_zero, List.getElem?_cons_succ, List.getElem_cons_zero, List.getElem_cons_succ, Option.getD_some, List.setIfInBounds_toArray, List.set_cons_zero, List.set_cons_succ])
    refine Reg.takeE 10 _ _ rfl (by kernel_rfl) (by kernel_rfl) (by kernel_rfl) (by decide) (fun _ _ _ h => by first | exact h | exact hP _ _ _ _ h) (by rfl) (fun W hW => by go_simp; with_reducible rfl) ?_; (try simp only [Act.put, Act.eval, List.getElem?_toArray, List.getElem_toArray, List.getElem?_cons_zero, List.getElem?_cons_succ, List.getElem_cons_zero, List.getElem_cons_succ, Option.getD_some, List.setIfInBounds_toArray, List.set_cons_zero, List.set_cons_succ])
    refine Reg.takeE 11 _ _ rfl (by kernel_rfl) (by kernel_rfl) (by kernel_rfl) (by decide) (fun _ _ _ h => by first | exact h | exact hP _ _ _ _ h) (by rfl) (fun W hW => by go_simp; with_reducible rfl) ?_; (try simp only [Act.put, Act.eval, List.getElem?_toArray, List.getElem_toArray, List.getElem?_cons_zero, List.getElem?_cons_succ, List.getElem_cons_zero, List.getElem_cons_succ, Option.getD_some, List.setIfInBounds_toArray, List.set_cons_zero, List.set_cons_succ])
    refine Reg.last 12 _ rfl (by kernel_rfl) (by kernel_rfl) (by kernel_rfl) (by decide) (by rfl) (fun W hW K hK => ?_)
    have hW0 : Ext w W := (by repeat (first | assumption | exact Ext.refl _ | refine Ext.trans (by assumption) ?_ | apply Ext.drew | apply Ext.drewN | apply Ext.alloc))
    have hf1 := (hG.ext hW0).frozen n
    have hc1 := cs W hW0
    go_simp
    refine hK.out _ _ ?_; clear hK K; (try simp only [Act.put, Act.eval, List.getElem?_toArray, List.getElem_toArray, List.getElem?_cons_zero, List.getElem?_cons_succ, List.getElem_cons_zero, List.getElem_cons_succ, Option.getD_some, List.setIfInBounds_toArray, List.set_cons_zero, List.set_cons_succ])
    go_wp2_with fail
    have hst := (hG.ext hW0).set n (.int .u32 (U (S0 + T0)))
    rw [hms] at hst
    refine ⟨⟨n + 1, by omega, ⟨_, rfl, rfl⟩, by rw [hM1.out]; exact hst, grown_set (grown_ext hgr hW0) _ _⟩, ?_⟩
    simp [intOf]
    omega
  · obtain rfl : n = 8 := by omega
    clear hlt
    go_wp2_with fail
    rw [mix_all] at hG
    exact hQ _ _ ⟨_, rfl, rfl⟩ hG hgr
end Go.Proofs.YtdfgjmmdpbgodaaDoor.ShaW
