/- ids: the law IdsActs's walk. -/
import Derived.Test.YtalbjbcomamomaaIdsActsB
namespace Go.Proofs.Ytalbjbcomamomaa.IdsW
open Go.ChangeShapes Go.WideShapes Go.ChangeAt Go.RowKit
open Base Mp Piece Args
set_option linter.unusedVariables false
set_option linter.unusedSimpArgs false

noncomputable def actsBody (n : Nat) : Code := loopBody n Try.f5.body
set_option maxRecDepth 1000000 in
theorem lay55 {v0 v1 v2 v3 v4 v5 v6 v7 : Value} {a : Act} (h : Piece.Fr 55 [v0, v1, v2, v3, v4, v5, v6, v7] a) : ∃ u : Nat → Value, a = ⟨(v0 :: v1 :: v2 :: v3 :: v4 :: v5 :: v6 :: v7 :: u 8 :: u 9 :: u 10 :: u 11 :: u 12 :: u 13 :: u 14 :: u 15 :: u 16 :: u 17 :: u 18 :: u 19 :: u 20 :: u 21 :: u 22 :: u 23 :: u 24 :: u 25 :: u 26 :: u 27 :: u 28 :: u 29 :: u 30 :: u 31 :: u 32 :: u 33 :: u 34 :: u 35 :: u 36 :: u 37 :: u 38 :: u 39 :: u 40 :: u 41 :: u 42 :: u 43 :: u 44 :: u 45 :: u 46 :: u 47 :: u 48 :: u 49 :: u 50 :: u 51 :: u 52 :: u 53 :: u 54 :: []).toArray, []⟩ := by
  obtain ⟨u, hu⟩ := h.spread
  refine ⟨u, hu.trans ?_⟩
  kernel_rfl

theorem inv_do {ts : List ByteArray} {bs : List (Nat × Nat)} (lim : Nat) (x : Int × Nat × ByteArray) (h : Inv ts bs) : Inv (doTs lim ts bs x) (doBs lim ts bs x) := by
  unfold doTs doBs
  split
  · exact inv_mk lim _ h
  · exact inv_bd lim _ _ h
theorem doTs_le (lim : Nat) (ts : List ByteArray) (bs : List (Nat × Nat)) (x : Int × Nat × ByteArray) : (doTs lim ts bs x).length ≤ ts.length + 1 := by
  unfold doTs
  split
  · exact mkTs_le _ _ _
  · exact bdTs_le _ _ _ _ _
theorem doBs_le (lim : Nat) (ts : List ByteArray) (bs : List (Nat × Nat)) (x : Int × Nat × ByteArray) : (doBs lim ts bs x).length ≤ bs.length + 1 := by
  unfold doBs
  split
  · omega
  · exact bdBs_le _ _ _ _ _
theorem act_cells2 {w : World} {A : Option Addr} {l : List (Int × Nat × ByteArray)} (hr : Rd w A (acs l)) (i : Nat) (x : Int × Nat × ByteArray) (hx : l[i]? = some x) : ∃ b off, A = some ⟨b, off, none⟩ ∧ ∀ W, Ext w W → W.cell? ⟨b, off + i * 3, none⟩ = some (.int .i64 x.1) ∧ W.cell? ⟨b, off + i * 3 + 1, none⟩ = some (.int .u64 (x.2.1 : Int)) ∧ W.cell? ⟨b, off + i * 3 + 2, none⟩ = some (.string x.2.2) := by
  have hi := (List.getElem?_eq_some_iff.1 hx).1
  obtain ⟨b, off, e, h⟩ := hr (fun e => by have := acs_length l; rw [e] at this; simp only [List.length_nil] at this; omega)
  refine ⟨b, off, e, fun W hW => ⟨?_, ?_, ?_⟩⟩
  · exact hW.cell (h (i * 3 + 0) _ (by rw [acs_at l i x hx 0 (by omega)]; rfl))
  · rw [Nat.add_assoc]; exact hW.cell (h (i * 3 + 1) _ (by rw [acs_at l i x hx 1 (by omega)]; rfl))
  · rw [Nat.add_assoc]; exact hW.cell (h (i * 3 + 2) _ (by rw [acs_at l i x hx 2 (by omega)]; rfl))

set_option maxRecDepth 1000000 in
set_option maxHeartbeats 2000000 in
/-- the acts, one after the other -/
theorem actsO {Q : Exit → Act → World → Prop} (v0 v2 v3 v4 : Value) (a : Act) (w0 wa : World) (g r lim m n c : Nat) (A : Option Addr) (l : List (Int × Nat × ByteArray))
    (hr : Rd w0 A (acs l)) (hn : l.length = n) (hm : n ≤ maxLen) (hok : ∀ x ∈ l, ActOk x)
    (hT : Two w0.heap.size wa g r lim [] [] (.slice none 0 0) (.slice none 0 0) (.slice none 0 0) (.slice none 0 0) m) (hx : Ext w0 wa)
    (hF : Fr 55 [v0, .slice A n c, v2, v3, v4, .pointer (some ⟨g, 0, none⟩), .pointer (some ⟨r, 0, none⟩), .int .i64 0] a)
    (hP : ∀ c a a2 w, Q (.panic c) a w → Q (.panic c) a2 w)
    (hQ : ∀ a' w' x5 x6 x7, Fr 55 [v0, .slice A n c, v2, v3, v4, x5, x6, x7] a' → Ext w0 w' → Q (.exit 0) a' w') :
    (Code.loop (actsBody 0)).wp Try.prog Q a wa := by
  unfold maxLen at hm
  have Hn := Lib.hid hn
  clear hn
  refine wp_loop (fun a wv => ∃ (i : Nat) (ts : List ByteArray) (bs : List (Nat × Nat)) (vt vb vl vc : Value), i ≤ n ∧ i ≤ 60 ∧ ts.length ≤ i ∧ bs.length ≤ i ∧ Inv ts bs ∧ Fr 55 [v0, .slice A n c, v2, v3, v4, .pointer (some ⟨g, 0, none⟩), .pointer (some ⟨r, 0, none⟩), .int .i64 i] a ∧ Two w0.heap.size wv g r lim ts bs vt vb vl vc m ∧ Ext w0 wv) (fun a _ => (60 - intO (a.tmps.getD 7 undef)).toNat)
    ⟨0, [], [], _, _, _, _, Nat.zero_le _, Nat.zero_le _, Nat.zero_le _, Nat.zero_le _, ⟨List.nodup_nil, List.Pairwise.nil, by simp, List.nodup_nil⟩, hF, hT, hx⟩ ?_
  clear hF hT hx a wa
  rintro a wr ⟨i, ts, bs, vt, vb, vl, vc, hin, hi6, htl, hbl, hI, hF, hT, hx⟩
  obtain ⟨u, rfl⟩ := lay55 hF
  clear hF
  conv => arg 2; whnf
  by_cases hlt : i < n ∧ i < 60
  · clear hQ
    obtain ⟨hln, hl60⟩ := hlt
    obtain ⟨x, hxe⟩ : ∃ x, l[i]? = some x := ⟨_, List.getElem?_eq_getElem (by have := Hn.out; omega)⟩
    obtain ⟨b, off, rfl, hcs⟩ := act_cells2 hr i x hxe
    have hox := hok x (List.mem_of_getElem? hxe)
    have hsz := hx.size
    have hlnI : (i : Int) < (n : Int) := by omega
    have hl60I : (i : Int) < 60 := by omega
    have hcu : IntKind.u64.wrap (i : Int) = (i : Int) := by rw [IntKind.wrap_u64]; omega
    have hI1 := inv_do lim x hI
    have hle := doTs_le lim ts bs x
    have hbe := doBs_le lim ts bs x
    have hdo := fun W hW => does_any w0 W x (hT.ext hW) hI (hx.trans hW) hox (by omega) (by omega)
    obtain ⟨ts1, hts1⟩ : ∃ t, Hid (doTs lim ts bs x = t) := ⟨_, rfl⟩
    obtain ⟨bs1, hbs1⟩ : ∃ t, Hid (doBs lim ts bs x = t) := ⟨_, rfl⟩
    rw [hts1.out] at hI1 hle hdo
    rw [hbs1.out] at hI1 hbe hdo
    obtain ⟨x0, f, s⟩ := x
    simp only at hcs hdo
    have g0 : ∀ W, Ext wr W → W.cell? ⟨b, off + i * 3, none⟩ = some (.int .i64 x0) := fun W hW => (hcs W (hx.trans hW)).1
    have g1 : ∀ W, Ext wr W → W.cell? ⟨b, off + i * 3 + 1, none⟩ = some (.int .u64 (f : Int)) := fun W hW => (hcs W (hx.trans hW)).2.1
    have g2 : ∀ W, Ext wr W → W.cell? ⟨b, off + i * 3 + 2, none⟩ = some (.string s) := fun W hW => (hcs W (hx.trans hW)).2.2
    obtain ⟨nb, hnb⟩ : ∃ z, Hid (bs1.length = z) := ⟨_, rfl⟩
    go_wp2_with fail
    refine Reg.startE (by kernel_rfl) ?_
    refine Reg.takeE 0 _ _ rfl (by kernel_rfl) (by kernel_rfl) (by kernel_rfl) (by decide) (fun _ _ _ h => by first | exact h | exact hP _ _ _ _ h) (by rfl) (fun W hW => by go_simp; with_reducible rfl) ?_; (try simp only [Act.put, Act.eval, List.getElem?_toArray, List.getElem_toArray, List.getElem?_cons_zero, List.getElem?_cons_succ, List.getElem_cons_zero, List.getElem_cons_succ, Option.getD_some, List.setIfInBounds_toArray, List.set_cons_zero, List.set_cons_succ])
    refine Reg.takeE 1 _ _ rfl (by kernel_rfl) (by kernel_rfl) (by kernel_rfl) (by decide) (fun _ _ _ h => by first | exact h | exact hP _ _ _ _ h) (by rfl) (fun W hW => by go_simp; with_reducible rfl) ?_; (try simp only [Act.put, Act.eval, List.getElem?_toArray, List.getElem_toArray, List.getElem?_cons_zero, List.getElem?_cons_succ, List.getElem_cons_zero, List.getElem_cons_succ, Option.getD_some, List.setIfInBounds_toArray, List.set_cons_zero, List.set_cons_succ])
    refine Reg.takeE 2 _ _ rfl (by kernel_rfl) (by kernel_rfl) (by kernel_rfl) (by decide) (fun _ _ _ h => by first | exact h | exact hP _ _ _ _ h) (by rfl) (fun W hW => by go_simp; with_reducible rfl) ?_; (try simp only [Act.put, Act.eval, List.getElem?_toArray, List.getElem_toArray, List.getElem?_cons_zero, List.getElem?_cons_succ, List.getElem_cons_zero, List.getElem_cons_succ, Option.getD_some, List.setIfInBounds_toArray, List.set_cons_zero, List.set_cons_succ])
    refine Reg.takeE 3 _ _ rfl (by kernel_rfl) (by kernel_rfl) (by kernel_rfl) (by decide) (fun _ _ _ h => by first | exact h | exact hP _ _ _ _ h) (by rfl) (fun W hW => by go_simp; with_reducible rfl) ?_; (try simp only [Act.put, Act.eval, List.getElem?_toArray, List.getElem_toArray, List.getElem?_cons_zero, List.getElem?_cons_succ, List.getElem_cons_zero, List.getElem_cons_succ, Option.getD_some, List.setIfInBounds_toArray, List.set_cons_zero, List.set_cons_succ])
    refine Reg.takeE 4 _ _ rfl (by kernel_rfl) (by kernel_rfl) (by kernel_rfl) (by decide) (fun _ _ _ h => by first | exact h | exact hP _ _ _ _ h) (by rfl) (fun W hW => by go_simp; with_reducible rfl) ?_; (try simp only [Act.put, Act.eval, List.getElem?_toArray, List.getElem_toArray, List.getElem?_cons_zero, List.getElem?_cons_succ, List.getElem_cons_zero, List.getElem_cons_succ, Option.getD_some, List.setIfInBounds_toArray, List.set_cons_zero, List.set_cons_succ])
    refine Reg.takeE 5 _ _ rfl (by kernel_rfl) (by kernel_rfl) (by kernel_rfl) (by decide) (fun _ _ _ h => by first | exact h | exact hP _ _ _ _ h) (by rfl) (fun W hW => by go_simp; with_reducible rfl) ?_; (try simp only [Act.put, Act.eval, List.getElem?_toArray, List.getElem_toArray, List.getElem?_cons_zero, List.getElem?_cons_succ, List.getElem_cons_zero, List.getElem_cons_succ, Option.getD_some, List.setIfInBounds_toArray, List.set_cons_zero, List.set_cons_succ])
    refine Reg.onlyS 6 _ rfl (by kernel_rfl) (by kernel_rfl) (by decide) (by rfl) (fun W hW K hK => ?_); go_simp
    refine (hdo W hW).mono ?_
    rintro e w1 ⟨rfl, hx1, vt1, vb1, vl1, vc1, hT1⟩
    clear g0 g1 g2 hdo
    have g0 : ∀ W, Ext w1 W → W.cell? ⟨b, off + i * 3, none⟩ = some (.int .i64 x0) := fun W hW => (hcs W (hx1.trans hW)).1
    have g1 : ∀ W, Ext w1 W → W.cell? ⟨b, off + i * 3 + 1, none⟩ = some (.int .u64 (f : Int)) := fun W hW => (hcs W (hx1.trans hW)).2.1
    have g2 : ∀ W, Ext w1 W → W.cell? ⟨b, off + i * 3 + 2, none⟩ = some (.string s) := fun W hW => (hcs W (hx1.trans hW)).2.2
    refine hK.out _ _ ?_; clear hK K; (try simp only [Act.put, Act.eval, List.getElem?_toArray, List.getElem_toArray, List.getElem?_cons_zero, List.getElem?_cons_succ, List.getElem_cons_zero, List.getElem_cons_succ, Option.getD_some, List.setIfInBounds_toArray, List.set_cons_zero, List.set_cons_succ])
    refine Reg.takeE 7 _ _ rfl (by kernel_rfl) (by kernel_rfl) (by kernel_rfl) (by decide) (fun _ _ _ h => by first | exact h | exact hP _ _ _ _ h) (by rfl) (fun W hW => by go_simp; with_reducible rfl) ?_; (try simp only [Act.put, Act.eval, List.getElem?_toArray, List.getElem_toArray, List.getElem?_cons_zero, List.getElem?_cons_succ, List.getElem_cons_zero, List.getElem_cons_succ, Option.getD_some, List.setIfInBounds_toArray, List.set_cons_zero, List.set_cons_succ])
    refine Reg.takeE 8 _ _ rfl (by kernel_rfl) (by kernel_rfl) (by kernel_rfl) (by decide) (fun _ _ _ h => by first | exact h | exact hP _ _ _ _ h) (by rfl) (fun W hW => by go_simp; with_reducible rfl) ?_; (try simp only [Act.put, Act.eval, List.getElem?_toArray, List.getElem_toArray, List.getElem?_cons_zero, List.getElem?_cons_succ, List.getElem_cons_zero, List.getElem_cons_succ, Option.getD_some, List.setIfInBounds_toArray, List.set_cons_zero, List.set_cons_succ])
    refine Reg.takeE 9 _ _ rfl (by kernel_rfl) (by kernel_rfl) (by kernel_rfl) (by decide) (fun _ _ _ h => by first | exact h | exact hP _ _ _ _ h) (by rfl) (fun W hW => by go_simp; with_reducible rfl) ?_; (try simp only [Act.put, Act.eval, List.getElem?_toArray, List.getElem_toArray, List.getElem?_cons_zero, List.getElem?_cons_succ, List.getElem_cons_zero, List.getElem_cons_succ, Option.getD_some, List.setIfInBounds_toArray, List.set_cons_zero, List.set_cons_succ])
    refine Reg.takeE 10 _ _ rfl (by kernel_rfl) (by kernel_rfl) (by kernel_rfl) (by decide) (fun _ _ _ h => by first | exact h | exact hP _ _ _ _ h) (by rfl) (fun W hW => by go_simp; with_reducible rfl) ?_; (try simp only [Act.put, Act.eval, List.getElem?_toArray, List.getElem_toArray, List.getElem?_cons_zero, List.getElem?_cons_succ, List.getElem_cons_zero, List.getElem_cons_succ, Option.getD_some, List.setIfInBounds_toArray, List.set_cons_zero, List.set_cons_succ])
    refine Reg.takeE 11 _ _ rfl (by kernel_rfl) (by kernel_rfl) (by kernel_rfl) (by decide) (fun _ _ _ h => by first | exact h | exact hP _ _ _ _ h) (by rfl) (fun W hW => by go_simp; with_reducible rfl) ?_; (try simp only [Act.put, Act.eval, List.getElem?_toArray, List.getElem_toArray, List.getElem?_cons_zero, List.getElem?_cons_succ, List.getElem_cons_zero, List.getElem_cons_succ, Option.getD_some, List.setIfInBounds_toArray, List.set_cons_zero, List.set_cons_succ])
    refine Reg.takeE 12 _ _ rfl (by kernel_rfl) (by kernel_rfl) (by kernel_rfl) (by decide) (fun _ _ _ h => by first | exact h | exact hP _ _ _ _ h) (by rfl) (fun W hW => by go_simp; with_reducible rfl) ?_; (try simp only [Act.put, Act.eval, List.getElem?_toArray, List.getElem_toArray, List.getElem?_cons_zero, List.getElem?_cons_succ, List.getElem_cons_zero, List.getElem_cons_succ, Option.getD_some, List.setIfInBounds_toArray, List.set_cons_zero, List.set_cons_succ])
    refine Reg.takeE 13 _ _ rfl (by kernel_rfl) (by kernel_rfl) (by kernel_rfl) (by decide) (fun _ _ _ h => by first | exact h | exact hP _ _ _ _ h) (by rfl) (fun W hW => by go_simp; with_reducible rfl) ?_; (try simp only [Act.put, Act.eval, List.getElem?_toArray, List.getElem_toArray, List.getElem?_cons_zero, List.getElem?_cons_succ, List.getElem_cons_zero, List.getElem_cons_succ, Option.getD_some, List.setIfInBounds_toArray, List.set_cons_zero, List.set_cons_succ])
    refine Reg.takeE 14 _ _ rfl (by kernel_rfl) (by kernel_rfl) (by kernel_rfl) (by decide) (fun _ _ _ h => by first | exact h | exact hP _ _ _ _ h) (by rfl) (fun W hW => by go_simp; with_reducible rfl) ?_; (try simp only [Act.put, Act.eval, List.getElem?_toArray, List.getElem_toArray, List.getElem?_cons_zero, List.getElem?_cons_succ, List.getElem_cons_zero, List.getElem_cons_succ, Option.getD_some, List.setIfInBounds_toArray, List.set_cons_zero, List.set_cons_succ])
    refine Reg.takeE 15 _ _ rfl (by kernel_rfl) (by kernel_rfl) (by kernel_rfl) (by decide) (fun _ _ _ h => by first | exact h | exact hP _ _ _ _ h) (by rfl) (fun W hW => by go_simp; with_reducible rfl) ?_; (try simp only [Act.put, Act.eval, List.getElem?_toArray, List.getElem_toArray, List.getElem?_cons_zero, List.getElem?_cons_succ, List.getElem_cons_zero, List.getElem_cons_succ, Option.getD_some, List.setIfInBounds_toArray, List.set_cons_zero, List.set_cons_succ])
    refine Reg.takeE 16 _ _ rfl (by kernel_rfl) (by kernel_rfl) (by kernel_rfl) (by decide) (fun _ _ _ h => by first | exact h | exact hP _ _ _ _ h) (by rfl) (fun W hW => by go_simp; with_reducible rfl) ?_; (try simp only [Act.put, Act.eval, List.getElem?_toArray, List.getElem_toArray, List.getElem?_cons_zero, List.getElem?_cons_succ, List.getElem_cons_zero, List.getElem_cons_succ, Option.getD_some, List.setIfInBounds_toArray, List.set_cons_zero, List.set_cons_succ])
    refine Reg.onlyE 17 _ rfl (by kernel_rfl) (by decide) (by rfl) (fun W hW K hK => ?_); go_simp
    refine (tells_any w0 W (x0, f, s) i (hT1.ext hW) hI1 hox (by omega) (by omega) (by omega)).mono ?_
    rintro e w2 ⟨rfl, hx2⟩
    have hT2 := hT1.ext (hW.trans hx2)
    have hx02 := hx1.trans (hW.trans hx2)
    obtain ⟨A4, c4, rfl, hr4, _, _⟩ := hT2.r.vb_eq
    have hc4 : ∀ W, Ext w2 W → W.cell? ⟨r, 2, none⟩ = some (.slice A4 nb c4) := fun W hW => by rw [← hnb.out]; exact (hT2.r.ext hW).cells.2.2
    clear g0 g1 g2
    refine hK.out _ _ (hx2) ?_; clear hK K; (try simp only [Act.put, Act.eval, List.getElem?_toArray, List.getElem_toArray, List.getElem?_cons_zero, List.getElem?_cons_succ, List.getElem_cons_zero, List.getElem_cons_succ, Option.getD_some, List.setIfInBounds_toArray, List.set_cons_zero, List.set_cons_succ])
    refine Reg.takeE 18 _ _ rfl (by kernel_rfl) (by kernel_rfl) (by kernel_rfl) (by decide) (fun _ _ _ h => by first | exact h | exact hP _ _ _ _ h) (by rfl) (fun W hW => by go_simp; with_reducible rfl) ?_; (try simp only [Act.put, Act.eval, List.getElem?_toArray, List.getElem_toArray, List.getElem?_cons_zero, List.getElem?_cons_succ, List.getElem_cons_zero, List.getElem_cons_succ, Option.getD_some, List.setIfInBounds_toArray, List.set_cons_zero, List.set_cons_succ])
    refine Reg.takeE 19 _ _ rfl (by kernel_rfl) (by kernel_rfl) (by kernel_rfl) (by decide) (fun _ _ _ h => by first | exact h | exact hP _ _ _ _ h) (by rfl) (fun W hW => by go_simp; with_reducible rfl) ?_; (try simp only [Act.put, Act.eval, List.getElem?_toArray, List.getElem_toArray, List.getElem?_cons_zero, List.getElem?_cons_succ, List.getElem_cons_zero, List.getElem_cons_succ, Option.getD_some, List.setIfInBounds_toArray, List.set_cons_zero, List.set_cons_succ])
    refine Reg.takeE 20 _ _ rfl (by kernel_rfl) (by kernel_rfl) (by kernel_rfl) (by decide) (fun _ _ _ h => by first | exact h | exact hP _ _ _ _ h) (by rfl) (fun W hW => by go_simp; with_reducible rfl) ?_; (try simp only [Act.put, Act.eval, List.getElem?_toArray, List.getElem_toArray, List.getElem?_cons_zero, List.getElem?_cons_succ, List.getElem_cons_zero, List.getElem_cons_succ, Option.getD_some, List.setIfInBounds_toArray, List.set_cons_zero, List.set_cons_succ])
    refine Reg.takeE 21 _ _ rfl (by kernel_rfl) (by kernel_rfl) (by kernel_rfl) (by decide) (fun _ _ _ h => by first | exact h | exact hP _ _ _ _ h) (by rfl) (fun W hW => by go_simp; with_reducible rfl) ?_; (try simp only [Act.put, Act.eval, List.getElem?_toArray, List.getElem_toArray, List.getElem?_cons_zero, List.getElem?_cons_succ, List.getElem_cons_zero, List.getElem_cons_succ, Option.getD_some, List.setIfInBounds_toArray, List.set_cons_zero, List.set_cons_succ])
    refine Reg.takeE 23 _ _ rfl (by kernel_rfl) (by kernel_rfl) (by kernel_rfl) (by decide) (fun _ _ _ h => by first | exact h | exact hP _ _ _ _ h) (by rfl) (fun W hW => by go_simp; with_reducible rfl) ?_; (try simp only [Act.put, Act.eval, List.getElem?_toArray, List.getElem_toArray, List.getElem?_cons_zero, List.getElem?_cons_succ, List.getElem_cons_zero, List.getElem_cons_succ, Option.getD_some, List.setIfInBounds_toArray, List.set_cons_zero, List.set_cons_succ])
    refine Reg.takeE 24 _ _ rfl (by kernel_rfl) (by kernel_rfl) (by kernel_rfl) (by decide) (fun _ _ _ h => by first | exact h | exact hP _ _ _ _ h) (by rfl) (fun W hW => by go_simp; with_reducible rfl) ?_; (try simp only [Act.put, Act.eval, List.getElem?_toArray, List.getElem_toArray, List.getElem?_cons_zero, List.getElem?_cons_succ, List.getElem_cons_zero, List.getElem_cons_succ, Option.getD_some, List.setIfInBounds_toArray, List.set_cons_zero, List.set_cons_succ])
    refine Reg.takeE 25 _ _ rfl (by kernel_rfl) (by kernel_rfl) (by kernel_rfl) (by decide) (fun _ _ _ h => by first | exact h | exact hP _ _ _ _ h) (by rfl) (fun W hW => by go_simp; with_reducible rfl) ?_; (try simp only [Act.put, Act.eval, List.getElem?_toArray, List.getElem_toArray, List.getElem?_cons_zero, List.getElem?_cons_succ, List.getElem_cons_zero, List.getElem_cons_succ, Option.getD_some, List.setIfInBounds_toArray, List.set_cons_zero, List.set_cons_succ])
    refine Reg.takeE 26 _ _ rfl (by kernel_rfl) (by kernel_rfl) (by kernel_rfl) (by decide) (fun _ _ _ h => by first | exact h | exact hP _ _ _ _ h) (by rfl) (fun W hW => by go_simp; with_reducible rfl) ?_; (try simp only [Act.put, Act.eval, List.getElem?_toArray, List.getElem_toArray, List.getElem?_cons_zero, List.getElem?_cons_succ, List.getElem_cons_zero, List.getElem_cons_succ, Option.getD_some, List.setIfInBounds_toArray, List.set_cons_zero, List.set_cons_succ])
    refine Reg.onlyE 22 _ rfl (by kernel_rfl) (by decide) (by rfl) (fun W hW K hK => ?_); go_simp
    refine (Bounds_any W (hT2.t.ext hW) (by omega)).mono ?_
    rintro e w3 ⟨⟨A3, c3, rfl, hr3⟩, hx3⟩
    have hT3 := hT2.ext (hW.trans hx3)
    have hx03 := hx02.trans (hW.trans hx3)
    have hr43 := hr4.ext (hW.trans hx3)
    rw [hnb.out]
    refine hK.out _ _ (hx3) ?_; clear hK K; (try simp only [Act.put, Act.eval, List.getElem?_toArray, List.getElem_toArray, List.getElem?_cons_zero, List.getElem?_cons_succ, List.getElem_cons_zero, List.getElem_cons_succ, Option.getD_some, List.setIfInBounds_toArray, List.set_cons_zero, List.set_cons_succ])
    refine Reg.onlyE 27 _ rfl (by kernel_rfl) (by decide) (by rfl) (fun W hW K hK => ?_); go_simp
    refine (same_any A3 A4 nb c3 c4 bs1 W (hr3.ext hW) (hr43.ext hW) hnb.out (by have := hnb.out; omega)).mono ?_
    rintro e w4 ⟨rfl, hx4⟩
    have hT4 := hT3.ext (hW.trans hx4)
    have hx04 := hx03.trans (hW.trans hx4)
    clear hT1 hT2 hT3 hx1 hx02 hx03 hT hx hr3 hr4 hr43
    refine hK.out _ _ (hx4) ?_; clear hK K; (try simp only [Act.put, Act.eval, List.getElem?_toArray, List.getElem_toArray, List.getElem?_cons_zero, List.getElem?_cons_succ, List.getElem_cons_zero, List.getElem_cons_succ, Option.getD_some, List.setIfInBounds_toArray, List.set_cons_zero, List.set_cons_succ])
    refine Reg.takeE 28 _ _ rfl (by kernel_rfl) (by kernel_rfl) (by kernel_rfl) (by decide) (fun _ _ _ h => by first | exact h | exact hP _ _ _ _ h) (by rfl) (fun W hW => by go_simp; with_reducible rfl) ?_; (try simp only [Act.put, Act.eval, List.getElem?_toArray, List.getElem_toArray, List.getElem?_cons_zero, List.getElem?_cons_succ, List.getElem_cons_zero, List.getElem_cons_succ, Option.getD_some, List.setIfInBounds_toArray, List.set_cons_zero, List.set_cons_succ])
    refine Reg.takeE 29 _ _ rfl (by kernel_rfl) (by kernel_rfl) (by kernel_rfl) (by decide) (fun _ _ _ h => by first | exact h | exact hP _ _ _ _ h) (by rfl) (fun W hW => by go_simp; with_reducible rfl) ?_; (try simp only [Act.put, Act.eval, List.getElem?_toArray, List.getElem_toArray, List.getElem?_cons_zero, List.getElem?_cons_succ, List.getElem_cons_zero, List.getElem_cons_succ, Option.getD_some, List.setIfInBounds_toArray, List.set_cons_zero, List.set_cons_succ])
    refine Reg.fin (by kernel_rfl) (fun W hW => ?_)
    go_wp2_with fail
    refine ⟨⟨i + 1, ts1, bs1, _, _, _, _, by omega, by omega, by omega, by omega, hI1, ⟨_, rfl, by go_num⟩, hT4.ext hW, hx04.trans hW⟩, ?_⟩
    simp [intO]
    omega
  · by_cases hln : i < n
    · have hl60 : ¬ (i : Int) < 60 := fun h => hlt ⟨hln, by omega⟩
      have hlnI : (i : Int) < (n : Int) := by omega
      go_wp2_with fail
      exact hQ _ _ _ _ _ ⟨_, rfl, rfl⟩ hx
    · have hlnI : ¬ (i : Int) < (n : Int) := by omega
      go_wp2_with fail
      exact hQ _ _ _ _ _ ⟨_, rfl, rfl⟩ hx
end Go.Proofs.Ytalbjbcomamomaa.IdsW
