/- ids: the law IdsOnce's walk in pieces: the acts; the whole. -/
import Derived.Test.YtalbjbcomamomaaIdsOnceB
import Derived.Test.YtalbjbcomamomaaArgsActs
namespace Go.Proofs.Ytalbjbcomamomaa.IdsW
open Go.ChangeShapes Go.WideShapes Go.ChangeAt Go.RowKit
open Base Mp Piece Args
set_option linter.unusedVariables false
set_option linter.unusedSimpArgs false

theorem after_step {w0 wr w1 : World} {g lim lim' m n : Nat} {ts ts1 : List ByteArray} {bs : List (Nat × Nat)} {vt vb vt1 vw : Value} {xs : List Value} (hT : Tb w0.heap.size wr g lim ts bs vt vb m) (hw : wr.ownsRow w0.heap.size 9 1 vw n xs) (hsep : ∀ k, vw.ownBlock = some k → ¬ vt.ownBlock = some k) (hx : Ext w0 wr)
    (hch : Chg (fun k => k = g ∨ k = m ∨ vt.ownBlock = some k ∨ vb.ownBlock = some k) wr w1) (hfr : Fresh wr vt vt1) :
    w1.ownsRow w0.heap.size 9 1 vw n xs ∧ (∀ k, vw.ownBlock = some k → ¬ vt1.ownBlock = some k) ∧ Ext w0 w1 := by
  refine ⟨own_chg hw hch ?_, ?_, hx.chg hch ?_⟩
  · rintro k hk (rfl | rfl | e | e)
    · exact own_ne_blk hw hT.blk (by decide) hk.symm
    · exact own_ne_map hw hT.of hk
    · exact hsep k hk e
    · exact own_not hw hT.bound (by decide) k e hk
  · intro k hk e
    rcases hfr with e1 | ⟨k', e1, h1⟩
    · exact hsep k hk (by rw [← e1]; exact e)
    · have h2 := (hw.lt k hk).2
      rw [e1] at e
      injection e with e
      omega
  · rintro k hk (rfl | rfl | e | e)
    · have := hT.hg; omega
    · have := hT.hm; omega
    · have := (hT.texts.lt k e).1; omega
    · have := (hT.bound.lt k e).1; omega

theorem act_cells {w : World} {A : Option Addr} {l : List (Int × Nat × ByteArray)} (hr : Rd w A (acs l)) (i : Nat) (x : Int × Nat × ByteArray) (hx : l[i]? = some x) : ∃ b off, A = some ⟨b, off, none⟩ ∧ ∀ W, Ext w W → W.cell? ⟨b, off + i * 3, none⟩ = some (.int .i64 x.1) ∧ W.cell? ⟨b, off + i * 3 + 1, none⟩ = some (.int .u64 (x.2.1 : Int)) ∧ W.cell? ⟨b, off + i * 3 + 2, none⟩ = some (.string x.2.2) := by
  have hi := (List.getElem?_eq_some_iff.1 hx).1
  obtain ⟨b, off, e, h⟩ := hr (fun e => by have := acs_length l; rw [e] at this; simp only [List.length_nil] at this; omega)
  refine ⟨b, off, e, fun W hW => ⟨?_, ?_, ?_⟩⟩
  · exact hW.cell (h (i * 3 + 0) _ (by rw [acs_at l i x hx 0 (by omega)]; rfl))
  · rw [Nat.add_assoc]; exact hW.cell (h (i * 3 + 1) _ (by rw [acs_at l i x hx 1 (by omega)]; rfl))
  · rw [Nat.add_assoc]; exact hW.cell (h (i * 3 + 2) _ (by rw [acs_at l i x hx 2 (by omega)]; rfl))


set_option maxRecDepth 1000000 in
set_option maxHeartbeats 1000000 in
/-- the acts, one after the other -/
theorem onceO {Q : Exit → Act → World → Prop} (v0 v2 v3 v4 v8 v9 v10 v11 v12 v13 v14 v15 : Value) (a : Act) (w0 wa : World) (g lim m n c : Nat) (A : Option Addr) (l : List (Int × Nat × ByteArray)) (vw : Value)
    (hr : Rd w0 A (acs l)) (hn : l.length = n) (hm : n ≤ maxLen) (hok : ∀ x ∈ l, ActOk x)
    (hT : Tb w0.heap.size wa g lim [] [] (.slice none 0 0) (.slice none 0 0) m) (hw : wa.ownsRow w0.heap.size 9 1 vw 0 []) (hx : Ext w0 wa)
    (hF : Fr 154 [v0, .slice A n c, v2, v3, v4, .pointer (some ⟨g, 0, none⟩), vw, .int .i64 0, v8, v9, v10, v11, v12, v13, v14, v15] a)
    (hP : ∀ c a a2 w, Q (.panic c) a w → Q (.panic c) a2 w)
    (hQ : ∀ a' w' x5 x6 x7 x8 x9 x10 x11 x12 x13 x14 x15, Fr 154 [v0, .slice A n c, v2, v3, v4, x5, x6, x7, x8, x9, x10, x11, x12, x13, x14, x15] a' → Ext w0 w' → Q (.exit 0) a' w') :
    (Code.loop (onceBody 0)).wp Try.prog Q a wa := by
  unfold maxLen at hm
  have Hn := Lib.hid hn
  clear hn
  refine wp_loop (fun a wv => ∃ (i : Nat) (ts : List ByteArray) (bs : List (Nat × Nat)) (vt vb vw x8 x9 x10 x11 x12 x13 x14 x15 : Value), i ≤ n ∧ i ≤ 60 ∧ ts.length ≤ i ∧ bs.length ≤ i ∧ Inv ts bs ∧ Fr 154 [v0, .slice A n c, v2, v3, v4, .pointer (some ⟨g, 0, none⟩), vw, .int .i64 i, x8, x9, x10, x11, x12, x13, x14, x15] a ∧ Tb w0.heap.size wv g lim ts bs vt vb m ∧ wv.ownsRow w0.heap.size 9 1 vw ts.length (txs ts) ∧ (∀ k, vw.ownBlock = some k → ¬ vt.ownBlock = some k) ∧ Ext w0 wv) (fun a _ => (60 - intO (a.tmps.getD 7 undef)).toNat)
    ⟨0, [], [], _, _, vw, v8, v9, v10, v11, v12, v13, v14, v15, Nat.zero_le _, Nat.zero_le _, Nat.zero_le _, Nat.zero_le _, ⟨List.nodup_nil, List.Pairwise.nil, by simp, List.nodup_nil⟩, hF, hT, hw, (fun k _ e => by cases e), hx⟩ ?_
  clear hF hT hw hx a wa vw
  rintro a wr ⟨i, ts, bs, vt, vb, vw, x8, x9, x10, x11, x12, x13, x14, x15, hin, hi6, htl, hbl, hI, hF, hT, hw, hsep, hx⟩
  obtain ⟨u, rfl⟩ := lay154 hF
  clear hF
  conv => arg 2; whnf
  by_cases hlt : i < n ∧ i < 60
  · clear hQ
    obtain ⟨hln, hl60⟩ := hlt
    obtain ⟨x, hxe⟩ : ∃ x, l[i]? = some x := ⟨_, List.getElem?_eq_getElem (by have := Hn.out; omega)⟩
    obtain ⟨b, off, rfl, hcs⟩ := act_cells hr i x hxe
    obtain ⟨ok1, ok2, ok3, ok4⟩ := hok x (List.mem_of_getElem? hxe)
    obtain ⟨x0, f, s⟩ := x
    simp only at ok1 ok2 ok3 ok4 hcs
    obtain ⟨c0, c1, c2⟩ := hcs wr hx
    have hsz := hx.size
    have hlnI : (i : Int) < (n : Int) := by omega
    have hl60I : (i : Int) < 60 := by omega
    by_cases h0 : x0 = 0
    · subst h0
      go_wp2_with fail
      refine (Make_any2 s wr hT ok4 (by omega) hsz).mono ?_
      rintro e w1 ⟨rfl, _, hch, vt1, hT1, hfr⟩
      obtain ⟨ts1, hts1⟩ : ∃ t, Hid (mkTs lim ts s = t) := ⟨_, rfl⟩
      have hI1 := inv_mk lim s hI
      have htt := mkTs_take lim ts s
      have hge := mkTs_ge lim ts s
      have hle := mkTs_le lim ts s
      rw [hts1.out] at hT1 hI1 htt hge hle
      obtain ⟨bs1, hbs1⟩ : ∃ t, t = bs := ⟨_, rfl⟩
      obtain ⟨vb1, hvb1⟩ : ∃ t, t = vb := ⟨_, rfl⟩
      rw [← hbs1, ← hvb1] at hT1
      rw [← hbs1] at hI1
      have hbe : bs1.length ≤ bs.length + 1 := by rw [hbs1]; omega
      clear hbs1 hvb1
      replace hch : Chg (fun k => k = g ∨ k = m ∨ vt.ownBlock = some k ∨ vb.ownBlock = some k) wr w1 := hch.mono (fun k _ e => e.imp (fun z => z) (fun e => e.imp (fun z => z) .inl))
      obtain ⟨hw1, hsep1, hx1⟩ := after_step (lim' := lim) (ts1 := ts1) hT hw hsep hx hch hfr
      have htt' := htt
      rw [show txs ts = txs (ts1.take ts.length) by rw [htt]] at hw1
      clear hw hsep hch hfr hT
      go_wp2_with fail
      refine onceT (w0 := w0) (hT := hT1) (hnd := hI1.nd) (hn0 := hge) (hl := by omega) (hw := hw1) (hsep := hsep1) (hx0 := hx1) (hF := ⟨_, rfl, rfl⟩) (hQ := ?_)
      clear hT1 hw1 hsep1 hx1
      intro a2 w2 vw2 y9 y10 y11 y12 hF2 hT2 hw2 hsep2 hx2
      obtain ⟨u2, rfl⟩ := lay154 hF2
      clear hF2
      go_wp2_with fail
      refine (Bounds_any w2 hT2 (by omega)).mono ?_
      rintro e w3 ⟨⟨A3, c3, rfl, hr3⟩, hx3⟩
      have hT3 := hT2.ext hx3
      have hw3 := own_ext hw2 hx3
      have hx03 := hx2.trans hx3
      clear hT2 hw2
      go_wp2_with fail
      refine onceK (hr := hr3) (hl := by omega) (hi := hI1) (hF := ⟨_, rfl, rfl⟩) (hP := ?_) (hQ := ?_)
      · intro c a a2 w h
        first | exact h | exact hP _ _ _ _ h
      intro a4 w4 y14 y15 hF4 hx4
      obtain ⟨u4, rfl⟩ := lay154 hF4
      clear hF4
      have hT4 := hT3.ext hx4
      have hw4 := own_ext hw3 hx4
      have hx04 := hx03.trans hx4
      obtain ⟨A4, c4, rfl, _, _, _, _⟩ := Rd.of_own hw4
      go_wp2_with fail
      refine (Len_any w4 hT4).mono ?_
      rintro e w5 ⟨rfl, rfl⟩
      go_wp2_with fail
      refine ⟨⟨i + 1, ts1, bs1, vt1, vb1, _, _, _, _, _, _, _, _, _, by omega, by omega, by omega, by omega, hI1, ⟨_, rfl, by go_num⟩, hT4, hw4, hsep2, hx04⟩, ?_⟩
      simp [intO]
      omega
    · have h0b : ((x0 : Int) == 0) = false := by simpa using h0
      go_wp2_with fail
      clear c0 c1 c2
      have c1 : ∀ W, Ext wr W → W.cell? ⟨b, off + i * 3 + 1, none⟩ = some (.int .u64 (f : Int)) := fun W hW => (hcs W (hx.trans hW)).2.1
      have c2 : ∀ W, Ext wr W → W.cell? ⟨b, off + i * 3 + 2, none⟩ = some (.string s) := fun W hW => (hcs W (hx.trans hW)).2.2
      clear hcs
      refine Reg.startE (by kernel_rfl) ?_
      refine Reg.takeE 0 _ _ rfl (by kernel_rfl) (by kernel_rfl) (by kernel_rfl) (by decide) (fun _ _ _ h => by first | exact h | exact hP _ _ _ _ h) (by rfl) (fun W hW => by go_simp; with_reducible rfl) ?_; (try simp only [Act.put, Act.eval, List.getElem?_toArray, List.getElem_toArray, List.getElem?_cons_zero, List.getElem?_cons_succ, List.getElem_cons_zero, List.getElem_cons_succ, Option.getD_some, List.setIfInBounds_toArray, List.set_cons_zero, List.set_cons_succ])
      refine Reg.takeE 1 _ _ rfl (by kernel_rfl) (by kernel_rfl) (by kernel_rfl) (by decide) (fun _ _ _ h => by first | exact h | exact hP _ _ _ _ h) (by rfl) (fun W hW => by go_simp; with_reducible rfl) ?_; (try simp only [Act.put, Act.eval, List.getElem?_toArray, List.getElem_toArray, List.getElem?_cons_zero, List.getElem?_cons_succ, List.getElem_cons_zero, List.getElem_cons_succ, Option.getD_some, List.setIfInBounds_toArray, List.set_cons_zero, List.set_cons_succ])
      refine Reg.takeE 2 _ _ rfl (by kernel_rfl) (by kernel_rfl) (by kernel_rfl) (by decide) (fun _ _ _ h => by first | exact h | exact hP _ _ _ _ h) (by rfl) (fun W hW => by go_simp; with_reducible rfl) ?_; (try simp only [Act.put, Act.eval, List.getElem?_toArray, List.getElem_toArray, List.getElem?_cons_zero, List.getElem?_cons_succ, List.getElem_cons_zero, List.getElem_cons_succ, Option.getD_some, List.setIfInBounds_toArray, List.set_cons_zero, List.set_cons_succ])
      refine Reg.takeE 3 _ _ rfl (by kernel_rfl) (by kernel_rfl) (by kernel_rfl) (by decide) (fun _ _ _ h => by first | exact h | exact hP _ _ _ _ h) (by rfl) (fun W hW => by go_simp; with_reducible rfl) ?_; (try simp only [Act.put, Act.eval, List.getElem?_toArray, List.getElem_toArray, List.getElem?_cons_zero, List.getElem?_cons_succ, List.getElem_cons_zero, List.getElem_cons_succ, Option.getD_some, List.setIfInBounds_toArray, List.set_cons_zero, List.set_cons_succ])
      refine Reg.takeE 4 _ _ rfl (by kernel_rfl) (by kernel_rfl) (by kernel_rfl) (by decide) (fun _ _ _ h => by first | exact h | exact hP _ _ _ _ h) (by rfl) (fun W hW => by go_simp; with_reducible rfl) ?_; (try simp only [Act.put, Act.eval, List.getElem?_toArray, List.getElem_toArray, List.getElem?_cons_zero, List.getElem?_cons_succ, List.getElem_cons_zero, List.getElem_cons_succ, Option.getD_some, List.setIfInBounds_toArray, List.set_cons_zero, List.set_cons_succ])
      refine Reg.takeE 5 _ _ rfl (by kernel_rfl) (by kernel_rfl) (by kernel_rfl) (by decide) (fun _ _ _ h => by first | exact h | exact hP _ _ _ _ h) (by rfl) (fun W hW => by go_simp; with_reducible rfl) ?_; (try simp only [Act.put, Act.eval, List.getElem?_toArray, List.getElem_toArray, List.getElem?_cons_zero, List.getElem?_cons_succ, List.getElem_cons_zero, List.getElem_cons_succ, Option.getD_some, List.setIfInBounds_toArray, List.set_cons_zero, List.set_cons_succ])
      refine Reg.takeE 6 _ _ rfl (by kernel_rfl) (by kernel_rfl) (by kernel_rfl) (by decide) (fun _ _ _ h => by first | exact h | exact hP _ _ _ _ h) (by rfl) (fun W hW => by go_simp; with_reducible rfl) ?_; (try simp only [Act.put, Act.eval, List.getElem?_toArray, List.getElem_toArray, List.getElem?_cons_zero, List.getElem?_cons_succ, List.getElem_cons_zero, List.getElem_cons_succ, Option.getD_some, List.setIfInBounds_toArray, List.set_cons_zero, List.set_cons_succ])
      refine Reg.takeE 7 _ _ rfl (by kernel_rfl) (by kernel_rfl) (by kernel_rfl) (by decide) (fun _ _ _ h => by first | exact h | exact hP _ _ _ _ h) (by rfl) (fun W hW => by go_simp; with_reducible rfl) ?_; (try simp only [Act.put, Act.eval, List.getElem?_toArray, List.getElem_toArray, List.getElem?_cons_zero, List.getElem?_cons_succ, List.getElem_cons_zero, List.getElem_cons_succ, Option.getD_some, List.setIfInBounds_toArray, List.set_cons_zero, List.set_cons_succ])
      refine Reg.takeE 8 _ _ rfl (by kernel_rfl) (by kernel_rfl) (by kernel_rfl) (by decide) (fun _ _ _ h => by first | exact h | exact hP _ _ _ _ h) (by rfl) (fun W hW => by go_simp; with_reducible rfl) ?_; (try simp only [Act.put, Act.eval, List.getElem?_toArray, List.getElem_toArray, List.getElem?_cons_zero, List.getElem?_cons_succ, List.getElem_cons_zero, List.getElem_cons_succ, Option.getD_some, List.setIfInBounds_toArray, List.set_cons_zero, List.set_cons_succ])
      refine Reg.takeE 9 _ _ rfl (by kernel_rfl) (by kernel_rfl) (by kernel_rfl) (by decide) (fun _ _ _ h => by first | exact h | exact hP _ _ _ _ h) (by rfl) (fun W hW => by go_simp; with_reducible rfl) ?_; (try simp only [Act.put, Act.eval, List.getElem?_toArray, List.getElem_toArray, List.getElem?_cons_zero, List.getElem?_cons_succ, List.getElem_cons_zero, List.getElem_cons_succ, Option.getD_some, List.setIfInBounds_toArray, List.set_cons_zero, List.set_cons_succ])
      refine Reg.takeE 10 _ _ rfl (by kernel_rfl) (by kernel_rfl) (by kernel_rfl) (by decide) (fun _ _ _ h => by first | exact h | exact hP _ _ _ _ h) (by rfl) (fun W hW => by go_simp; with_reducible rfl) ?_; (try simp only [Act.put, Act.eval, List.getElem?_toArray, List.getElem_toArray, List.getElem?_cons_zero, List.getElem?_cons_succ, List.getElem_cons_zero, List.getElem_cons_succ, Option.getD_some, List.setIfInBounds_toArray, List.set_cons_zero, List.set_cons_succ])
      refine Reg.last 11 _ rfl (by kernel_rfl) (by kernel_rfl) (by kernel_rfl) (by decide) (by rfl) (fun W hW K hK => ?_)
      go_simp
      refine (bind_any f s W (hT.ext hW) ok4 (by omega) (by omega) hI (Nat.le_trans hsz hW.size)).mono ?_
      rintro e w1 ⟨rfl, hch0, vt1, vb1, hT1, hfr0, hfrb⟩
      have hch : Chg (fun k => k = g ∨ k = m ∨ vt.ownBlock = some k ∨ vb.ownBlock = some k) wr w1 := (Chg.ofExt hW).trans hch0 (fun _ _ e => e)
      refine hK.out _ _ ?_; clear hK K; (try simp only [Act.put, Act.eval, List.getElem?_toArray, List.getElem_toArray, List.getElem?_cons_zero, List.getElem?_cons_succ, List.getElem_cons_zero, List.getElem_cons_succ, Option.getD_some, List.setIfInBounds_toArray, List.set_cons_zero, List.set_cons_succ])
      obtain ⟨ts1, hts1⟩ : ∃ t, Hid (bdTs lim ts bs f s = t) := ⟨_, rfl⟩
      obtain ⟨bs1, hbs1⟩ : ∃ t, Hid (bdBs lim ts bs f s = t) := ⟨_, rfl⟩
      have hI1 := inv_bd lim f s hI
      have htt := bdTs_take lim ts bs f s
      have hge := bdTs_ge lim ts bs f s
      have hle := bdTs_le lim ts bs f s
      have hbe := bdBs_le lim ts bs f s
      rw [hts1.out] at hT1 hI1 htt hge hle
      rw [hbs1.out] at hT1 hI1 hbe
      have hfr : Fresh wr vt vt1 := hfr0.imp (fun e => e) (fun ⟨k, e1, e3⟩ => ⟨k, e1, Nat.le_trans hW.size e3⟩)
      clear hch0 hfr0 hfrb
      obtain ⟨hw1, hsep1, hx1⟩ := after_step (lim' := lim) (ts1 := ts1) hT hw hsep hx hch hfr
      have htt' := htt
      rw [show txs ts = txs (ts1.take ts.length) by rw [htt]] at hw1
      clear hw hsep hch hfr hT
      go_wp2_with fail
      refine onceT (w0 := w0) (hT := hT1) (hnd := hI1.nd) (hn0 := hge) (hl := by omega) (hw := hw1) (hsep := hsep1) (hx0 := hx1) (hF := ⟨_, rfl, rfl⟩) (hQ := ?_)
      clear hT1 hw1 hsep1 hx1
      intro a2 w2 vw2 y9 y10 y11 y12 hF2 hT2 hw2 hsep2 hx2
      obtain ⟨u2, rfl⟩ := lay154 hF2
      clear hF2
      go_wp2_with fail
      refine (Bounds_any w2 hT2 (by omega)).mono ?_
      rintro e w3 ⟨⟨A3, c3, rfl, hr3⟩, hx3⟩
      have hT3 := hT2.ext hx3
      have hw3 := own_ext hw2 hx3
      have hx03 := hx2.trans hx3
      clear hT2 hw2
      go_wp2_with fail
      refine onceK (hr := hr3) (hl := by omega) (hi := hI1) (hF := ⟨_, rfl, rfl⟩) (hP := ?_) (hQ := ?_)
      · intro c a a2 w h
        first | exact h | exact hP _ _ _ _ h
      intro a4 w4 y14 y15 hF4 hx4
      obtain ⟨u4, rfl⟩ := lay154 hF4
      clear hF4
      have hT4 := hT3.ext hx4
      have hw4 := own_ext hw3 hx4
      have hx04 := hx03.trans hx4
      obtain ⟨A4, c4, rfl, _, _, _, _⟩ := Rd.of_own hw4
      go_wp2_with fail
      refine (Len_any w4 hT4).mono ?_
      rintro e w5 ⟨rfl, rfl⟩
      go_wp2_with fail
      refine ⟨⟨i + 1, ts1, bs1, vt1, vb1, _, _, _, _, _, _, _, _, _, by omega, by omega, by omega, by omega, hI1, ⟨_, rfl, by go_num⟩, hT4, hw4, hsep2, hx04⟩, ?_⟩
      simp [intO]
      omega
  · by_cases hln : i < n
    · have hl60 : ¬ (i : Int) < 60 := fun h => hlt ⟨hln, by omega⟩
      have hlnI : (i : Int) < (n : Int) := by omega
      go_wp2_with fail
      exact hQ _ _ _ _ _ _ _ _ _ _ _ _ _ ⟨_, rfl, rfl⟩ hx
    · have hlnI : ¬ (i : Int) < (n : Int) := by omega
      go_wp2_with fail
      exact hQ _ _ _ _ _ _ _ _ _ _ _ _ _ ⟨_, rfl, rfl⟩ hx
end Go.Proofs.Ytalbjbcomamomaa.IdsW
