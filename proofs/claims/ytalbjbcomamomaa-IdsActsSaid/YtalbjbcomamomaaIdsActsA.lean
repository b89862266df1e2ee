/- ids: the reference's Bind, all of it; the law's does, tells, same. -/
import Derived.Test.YtalbjbcomamomaaIdsRefBn
import Derived.Test.YtalbjbcomamomaaArgsActs
namespace Go.Proofs.Ytalbjbcomamomaa.IdsW
open Go.ChangeShapes Go.WideShapes Go.ChangeAt Go.RowKit
open Base Mp Piece Args
set_option linter.unusedVariables false
set_option linter.unusedSimpArgs false

set_option maxRecDepth 1000000 in
set_option maxHeartbeats 1000000 in
theorem rbind_a {B : Nat} {r lim : Nat} {ts : List ByteArray} {bs : List (Nat × Nat)} {vl vb : Value} (f : Nat) (s : ByteArray) (w : World) (h : Rt B w r lim ts bs vl vb) (hi : Inv ts bs) (hl : ts.length ≤ 1000) (hbl : bs.length ≤ 998)
    (hf0 : 1 ≤ f) (hf1 : f ≤ 2147483647) (ht : there bs f = false) (hno : 0 < (idOf ts s).getD 0 ∧ hasTo bs ((idOf ts s).getD 0) = true) :
    Calls Try.prog 25 #[.pointer (some ⟨r, 0, none⟩), .int .u64 (f : Int), .string s] w fun e w' => e = .returned (.tuple #[.int .u64 0, .int .i64 6]) ∧ w = w' := by
  have hof := ROf_any s w h hi.nd hl
  have hmp := RMap_any f w h hi.ri (by omega)
  rw [show mapOf bs f = none by unfold mapOf; rw [ht]; rfl] at hmp
  simp only [Option.getD_none, Option.isSome_none] at hmp
  have h2 : ¬ (2147483647 : Int) < (f : Int) := by omega
  have h3 : ((f : Int) == 0) = false := by simp; omega
  have hhas : (idOf ts s).isSome = true := by
    cases hq : idOf ts s with
    | none => rw [hq] at hno; simp at hno
    | some k => rfl
  obtain ⟨id, hid⟩ : ∃ id, Hid ((idOf ts s).getD 0 = id) := ⟨_, rfl⟩
  have hno2 := hno.2
  rw [hhas, hid.out] at hof
  rw [hid.out] at hno2
  clear hno hhas
  obtain ⟨PO, hPO⟩ : ∃ PO : Ending → World → Prop, Hid ((fun e w' => e = .returned (.tuple #[.int .u64 0, .int .i64 6]) ∧ w = w') = PO) := ⟨_, rfl⟩
  rw [hPO.out]
  go_enter Try.func25, Try.ntmps25
  go_wp2_with fail
  refine hof.mono ?_
  rintro e w1 ⟨rfl, rfl⟩
  go_wp2_with fail
  refine hmp.mono ?_
  rintro e w1 ⟨rfl, rfl⟩
  go_wp2_with fail
  refine rb0 (h := h) (hl := by omega) (hF := ⟨_, rfl, rfl⟩) (hR := ?_) (hQ := ?_)
  · intro _ _ a3 x12 hF3
    obtain ⟨u3, rfl⟩ := lay127 hF3
    clear hF3
    go_wp2_with fail
    first
      | (rw [← hPO.out]; exact ⟨rfl, rfl⟩)
      | (go_ret2; rw [← hPO.out]; exact ⟨rfl, rfl⟩)
  · intro q
    rw [q rfl] at hno2
    cases hno2

theorem RBind_any {B : Nat} {r lim : Nat} {ts : List ByteArray} {bs : List (Nat × Nat)} {vl vb : Value} (f : Nat) (s : ByteArray) (w : World) (h : Rt B w r lim ts bs vl vb) (hi : Inv ts bs) (hl : ts.length ≤ 1000) (hbl : bs.length ≤ 998) (hB : B ≤ w.heap.size) :
    Calls Try.prog 25 #[.pointer (some ⟨r, 0, none⟩), .int .u64 (f : Int), .string s] w fun e w' => e = .returned (.tuple #[.int .u64 ((bdId lim ts bs f s).1 : Int), .int .i64 ((bdId lim ts bs f s).2 : Int)]) ∧ Chg (fun k => k = r ∨ vl.ownBlock = some k) w w' ∧ ∃ vl' vb', Rt B w' r lim (bdTs lim ts bs f s) (bdBs lim ts bs f s) vl' vb' ∧ Fresh w vl vl' ∧ Fresh w vb vb' := by
  by_cases h1 : f = 0 ∨ 2147483647 < f
  · have e2 : bdTs lim ts bs f s = ts := by unfold bdTs; rw [if_pos h1]
    have e3 : bdBs lim ts bs f s = bs := by unfold bdBs; rw [if_pos h1]
    rw [e2, e3]
    exact (rbind_old f s w h hi hl (by omega) (.inl h1)).mono fun e w' ⟨he, hw⟩ => by subst hw; exact ⟨he, Chg.refl _ _, vl, vb, h, .inl rfl, .inl rfl⟩
  · by_cases h2 : there bs f = true
    · have e2 : bdTs lim ts bs f s = ts := by unfold bdTs; rw [if_neg h1, if_pos h2]
      have e3 : bdBs lim ts bs f s = bs := by unfold bdBs; rw [if_neg h1, if_pos h2]
      rw [e2, e3]
      exact (rbind_old f s w h hi hl (by omega) (.inr h2)).mono fun e w' ⟨he, hw⟩ => by subst hw; exact ⟨he, Chg.refl _ _, vl, vb, h, .inl rfl, .inl rfl⟩
    · have h2' : there bs f = false := by simpa using h2
      by_cases h3 : 0 < (idOf ts s).getD 0 ∧ hasTo bs ((idOf ts s).getD 0) = true
      · have e1 : bdId lim ts bs f s = (0, 6) := by unfold bdId; rw [if_neg h1, if_neg h2, if_pos h3]
        have e2 : bdTs lim ts bs f s = ts := by unfold bdTs; rw [if_neg h1, if_neg h2, if_pos h3]
        have e3 : bdBs lim ts bs f s = bs := by unfold bdBs; rw [if_neg h1, if_neg h2, if_pos h3]
        rw [e1, e2, e3]
        exact (rbind_a f s w h hi hl hbl (by omega) (by omega) h2' h3).mono fun e w' ⟨he, hw⟩ => by subst hw; exact ⟨he, Chg.refl _ _, vl, vb, h, .inl rfl, .inl rfl⟩
      · have e1 : bdId lim ts bs f s = mkId lim ts s := by unfold bdId; rw [if_neg h1, if_neg h2, if_neg h3]
        have e2 : bdTs lim ts bs f s = mkTs lim ts s := by unfold bdTs; rw [if_neg h1, if_neg h2, if_neg h3]
        have e3 : bdBs lim ts bs f s = if (mkId lim ts s).2 = 0 then insAt bs (pos bs f) (f, (mkId lim ts s).1) else bs := by unfold bdBs; rw [if_neg h1, if_neg h2, if_neg h3]
        rw [e1, e2, e3]
        exact rbind_new f s w h hi hl hbl hB (by omega) (by omega) h2' h3

/-- both tables, apart -/
structure Two (B : Nat) (w : World) (g r lim : Nat) (ts : List ByteArray) (bs : List (Nat × Nat)) (vt vb vl vc : Value) (m : Nat) : Prop where
  t : Tb B w g lim ts bs vt vb m
  r : Rt B w r lim ts bs vl vc
  s1 : ∀ k, vl.ownBlock = some k → ¬ vt.ownBlock = some k
  s2 : ∀ k, vc.ownBlock = some k → ¬ vb.ownBlock = some k
theorem Two.ext {B : Nat} {w w' : World} {g r lim : Nat} {ts : List ByteArray} {bs : List (Nat × Nat)} {vt vb vl vc : Value} {m : Nat} (h : Two B w g r lim ts bs vt vb vl vc m) (hx : Ext w w') : Two B w' g r lim ts bs vt vb vl vc m := ⟨h.t.ext hx, h.r.ext hx, h.s1, h.s2⟩
/-- the one's step leaves the other as it is -/
theorem Two.first {B : Nat} {w w' : World} {g r lim : Nat} {ts ts' : List ByteArray} {bs bs' : List (Nat × Nat)} {vt vb vl vc vt' vb' : Value} {m : Nat} (h : Two B w g r lim ts bs vt vb vl vc m) (hch : Chg (fun k => k = g ∨ k = m ∨ vt.ownBlock = some k ∨ vb.ownBlock = some k) w w') (hT : Tb B w' g lim ts' bs' vt' vb' m) (hf1 : Fresh w vt vt') (hf2 : Fresh w vb vb') :
    Rt B w' r lim ts bs vl vc ∧ (∀ k, vl.ownBlock = some k → ¬ vt'.ownBlock = some k) ∧ (∀ k, vc.ownBlock = some k → ¬ vb'.ownBlock = some k) := by
  refine ⟨h.r.chg hch ?_ ?_ ?_, ?_, ?_⟩
  · rintro (rfl | rfl | e | e)
    · have h1 := h.t.blk; have h2 := h.r.blk
      unfold Blk at h1 h2
      rw [h1] at h2
      simp at h2
    · exact h.t.of.not_cells h.r.blk rfl
    · exact own_ne_blk h.t.texts h.r.blk (by decide) e.symm
    · exact own_ne_blk h.t.bound h.r.blk (by decide) e.symm
  · rintro k hk (rfl | rfl | e | e)
    · exact own_ne_blk h.r.texts h.t.blk (by decide) hk.symm
    · exact own_ne_map h.r.texts h.t.of hk
    · exact h.s1 k hk e
    · exact own_not h.r.texts h.t.bound (by decide) k e hk
  · rintro k hk (rfl | rfl | e | e)
    · exact own_ne_blk h.r.bound h.t.blk (by decide) hk.symm
    · exact own_ne_map h.r.bound h.t.of hk
    · exact own_not h.r.bound h.t.texts (by decide) k e hk
    · exact h.s2 k hk e
  · intro k hk e
    rcases hf1 with e1 | ⟨k', e1, h1⟩
    · exact h.s1 k hk (by rw [← e1]; exact e)
    · have h2 := (h.r.texts.lt k hk).2
      rw [e1] at e
      injection e with e
      omega
  · intro k hk e
    rcases hf2 with e1 | ⟨k', e1, h1⟩
    · exact h.s2 k hk (by rw [← e1]; exact e)
    · have h2 := (h.r.bound.lt k hk).2
      rw [e1] at e
      injection e with e
      omega
theorem two_second {B : Nat} {w w' : World} {g r lim : Nat} {ts ts' : List ByteArray} {bs bs' : List (Nat × Nat)} {vt vb vl vc vl' vc' : Value} {m : Nat} (hT : Tb B w g lim ts' bs' vt vb m) (hr : Rt B w r lim ts bs vl vc) (s1 : ∀ k, vl.ownBlock = some k → ¬ vt.ownBlock = some k) (s2 : ∀ k, vc.ownBlock = some k → ¬ vb.ownBlock = some k)
    (hch : Chg (fun k => k = r ∨ vl.ownBlock = some k) w w') (hR : Rt B w' r lim ts' bs' vl' vc') (hf1 : Fresh w vl vl') (hf2 : Fresh w vc vc') : Two B w' g r lim ts' bs' vt vb vl' vc' m := by
  have hgr : ¬ g = r := by
    rintro rfl
    have h1 := hT.blk; have h2 := hr.blk
    unfold Blk at h1 h2
    rw [h1] at h2
    simp at h2
  refine ⟨hT.chg hch ?_ ?_ ?_ ?_, hR, ?_, ?_⟩
  · rintro (e | e)
    · exact hgr e
    · exact own_ne_blk hr.texts hT.blk (by decide) e.symm
  · rintro (e | e)
    · exact hT.of.not_cells hr.blk e
    · exact own_ne_map hr.texts hT.of e
  · rintro k hk (rfl | e)
    · exact own_ne_blk hT.texts hr.blk (by decide) hk.symm
    · exact s1 k e hk
  · rintro k hk (rfl | e)
    · exact own_ne_blk hT.bound hr.blk (by decide) hk.symm
    · exact own_not hr.texts hT.bound (by decide) k hk e
  · intro k hk e
    rcases hf1 with e1 | ⟨k', e1, h1⟩
    · exact s1 k (by rw [← e1]; exact hk) e
    · have h2 := (hT.texts.lt k e).2
      rw [e1] at hk
      injection hk with hk
      omega
  · intro k hk e
    rcases hf2 with e1 | ⟨k', e1, h1⟩
    · exact s2 k (by rw [← e1]; exact hk) e
    · have h2 := (hT.bound.lt k e).2
      rw [e1] at hk
      injection hk with hk
      omega
theorem Two.below {w0 w w' : World} {g r lim : Nat} {ts : List ByteArray} {bs : List (Nat × Nat)} {vt vb vl vc : Value} {m : Nat} (h : Two w0.heap.size w g r lim ts bs vt vb vl vc m) (hx : Ext w0 w) (hch : Chg (fun k => k = g ∨ k = m ∨ vt.ownBlock = some k ∨ vb.ownBlock = some k) w w') : Ext w0 w' := by
  refine hx.chg hch ?_
  rintro k hk (rfl | rfl | e | e)
  · have := h.t.hg; omega
  · have := h.t.hm; omega
  · have := (h.t.texts.lt k e).1; omega
  · have := (h.t.bound.lt k e).1; omega
theorem Rt.below {w0 w w' : World} {r lim : Nat} {ts : List ByteArray} {bs : List (Nat × Nat)} {vl vc : Value} (h : Rt w0.heap.size w r lim ts bs vl vc) (hx : Ext w0 w) (hch : Chg (fun k => k = r ∨ vl.ownBlock = some k) w w') : Ext w0 w' := by
  refine hx.chg hch ?_
  rintro k hk (rfl | e)
  · have := h.hr; omega
  · have := (h.texts.lt k e).1; omega

def doTs (lim : Nat) (ts : List ByteArray) (bs : List (Nat × Nat)) (x : Int × Nat × ByteArray) : List ByteArray := if x.1 = 0 then mkTs lim ts x.2.2 else bdTs lim ts bs x.2.1 x.2.2
def doBs (lim : Nat) (ts : List ByteArray) (bs : List (Nat × Nat)) (x : Int × Nat × ByteArray) : List (Nat × Nat) := if x.1 = 0 then bs else bdBs lim ts bs x.2.1 x.2.2

set_option maxRecDepth 100000 in
set_option maxHeartbeats 1000000 in
theorem does_any (w0 w : World) {g r lim : Nat} {ts : List ByteArray} {bs : List (Nat × Nat)} {vt vb vl vc : Value} {m : Nat} (x : Int × Nat × ByteArray) (h : Two w0.heap.size w g r lim ts bs vt vb vl vc m) (hi : Inv ts bs) (hx : Ext w0 w) (hok : ActOk x) (hl : ts.length ≤ 900) (hbl : bs.length ≤ 900) :
    Calls Try.prog 15 #[.pointer (some ⟨g, 0, none⟩), .pointer (some ⟨r, 0, none⟩), .agg #[.int .i64 x.1, .int .u64 (x.2.1 : Int), .string x.2.2]] w fun e w' => e = .returned (.bool true) ∧ Ext w0 w' ∧ ∃ vt' vb' vl' vc', Two w0.heap.size w' g r lim (doTs lim ts bs x) (doBs lim ts bs x) vt' vb' vl' vc' m := by
  obtain ⟨x0, f, s⟩ := x
  obtain ⟨ok1, ok2, ok3, ok4⟩ := hok
  simp only at ok1 ok2 ok3 ok4 ⊢
  obtain ⟨T1, hT1⟩ : ∃ t, Hid (doTs lim ts bs (x0, f, s) = t) := ⟨_, rfl⟩
  obtain ⟨B1, hB1⟩ : ∃ t, Hid (doBs lim ts bs (x0, f, s) = t) := ⟨_, rfl⟩
  rw [hT1.out, hB1.out]
  have hsz := hx.size
  go_enter Try.func15, Try.ntmps15
  have hb : ∀ W, W = w.alloc (.cells #[.int .i64 x0, .int .u64 (f : Int), .string s] 36) → Ext w W ∧ Blk W w.heap.size #[.int .i64 x0, .int .u64 (f : Int), .string s] 36 := fun W hW => by subst hW; exact ⟨(Ext.refl w).alloc _, Blk.new w _ _⟩
  by_cases h0 : x0 = 0
  · subst h0
    have e1 : mkTs lim ts s = T1 := by rw [← hT1.out]; simp [doTs]
    have e2 : bs = B1 := by rw [← hB1.out]; simp [doBs]
    go_wp2_with fail
    generalize hw1 : World.alloc w _ = w1
    obtain ⟨hx1, hb1⟩ := hb w1 hw1.symm
    clear hw1 hb
    have hx01 := hx.trans hx1
    have h1 := h.ext hx1
    have hs1 := hx01.size
    obtain ⟨i2, hi2⟩ : ∃ i2, Hid (mkId lim ts s = i2) := ⟨_, rfl⟩
    have hmk := fun W (hW : Tb w0.heap.size W g lim ts bs vt vb m) hB => Make_any2 s W hW ok4 (by omega) hB
    have hmr := fun W (hW : Rt w0.heap.size W r lim ts bs vl vc) hB => RMake_any s W hW hi.nd (by omega) hB
    rw [hi2.out, e1] at hmk hmr
    refine (hmk w1 h1.t hs1).mono ?_
    rintro e w2 ⟨rfl, _, hch0, vt', hT2, hfa⟩
    have hch : Chg (fun k => k = g ∨ k = m ∨ vt.ownBlock = some k ∨ vb.ownBlock = some k) w1 w2 := hch0.mono (fun k _ e => e.imp (fun z => z) (fun e => e.imp (fun z => z) .inl))
    have hfb : Fresh w1 vb vb := .inl rfl
    obtain ⟨vb', hvb⟩ : ∃ z, z = vb := ⟨_, rfl⟩
    rw [← hvb] at hT2
    have hfb : Fresh w1 vb vb' := .inl (by rw [hvb])
    clear hvb
    have hgw := h.t.blk.lt
    have hmw := h.t.of.lt
    have htw := fun k hk => (h.t.texts.lt k hk).2
    have hbw := fun k hk => (h.t.bound.lt k hk).2
    have hb2 := hch.blk hb1 (by
      rintro (e | e | e | e)
      · omega
      · omega
      · have := htw _ e; omega
      · have := hbw _ e; omega)
    obtain ⟨hR2, s1, s2⟩ := h1.first hch hT2 hfa hfb
    have hx02 := h1.below hx01 hch
    have d1 : w2.cell? ⟨w.heap.size, 1, none⟩ = some (.int .u64 (f : Int)) := hb2.cell 1
    have d2 : w2.cell? ⟨w.heap.size, 2, none⟩ = some (.string s) := hb2.cell 2
    go_wp2_with fail
    refine (hmr w2 hR2 (by have := hch.size; omega)).mono ?_
    rintro e w3 ⟨rfl, hch3, vl', hR3, hf3⟩
    obtain ⟨vc', hvc⟩ : ∃ z, z = vc := ⟨_, rfl⟩
    have hf4 : Fresh w2 vc vc' := .inl (by rw [hvc])
    rw [← hvc] at hR3
    clear hvc
    rw [e2] at hT2 hR3
    have hTw := two_second hT2 hR2 s1 s2 hch3 hR3 hf3 hf4
    have hx03 := hR2.below hx02 hch3
    go_wp2_with fail
    go_ret
    exact ⟨rfl, hx03, _, _, _, _, hTw⟩
  · have h0b : ((x0 : Int) == 0) = false := by simpa using h0
    have e1 : bdTs lim ts bs f s = T1 := by rw [← hT1.out]; simp [doTs, h0]
    have e2 : bdBs lim ts bs f s = B1 := by rw [← hB1.out]; simp [doBs, h0]
    go_wp2_with fail
    generalize hw1 : World.alloc w _ = w1
    obtain ⟨hx1, hb1⟩ := hb w1 hw1.symm
    clear hw1 hb
    have hx01 := hx.trans hx1
    have h1 := h.ext hx1
    have hs1 := hx01.size
    obtain ⟨i2, hi2⟩ : ∃ i2, Hid (bdId lim ts bs f s = i2) := ⟨_, rfl⟩
    have hmk := fun W (hW : Tb w0.heap.size W g lim ts bs vt vb m) hB => bind_any f s W hW ok4 (by omega) (by omega) hi hB
    have hmr := fun W (hW : Rt w0.heap.size W r lim ts bs vl vc) hB => RBind_any f s W hW hi (by omega) (by omega) hB
    rw [hi2.out, e1, e2] at hmk hmr
    refine (hmk w1 h1.t hs1).mono ?_
    rintro e w2 ⟨rfl, hch, vt', vb', hT2, hfa, hfb⟩
    have hgw := h.t.blk.lt
    have hmw := h.t.of.lt
    have htw := fun k hk => (h.t.texts.lt k hk).2
    have hbw := fun k hk => (h.t.bound.lt k hk).2
    have hb2 := hch.blk hb1 (by
      rintro (e | e | e | e)
      · omega
      · omega
      · have := htw _ e; omega
      · have := hbw _ e; omega)
    obtain ⟨hR2, s1, s2⟩ := h1.first hch hT2 hfa hfb
    have hx02 := h1.below hx01 hch
    have d1 : w2.cell? ⟨w.heap.size, 1, none⟩ = some (.int .u64 (f : Int)) := hb2.cell 1
    have d2 : w2.cell? ⟨w.heap.size, 2, none⟩ = some (.string s) := hb2.cell 2
    go_wp2_with fail
    refine (hmr w2 hR2 (by have := hch.size; omega)).mono ?_
    rintro e w3 ⟨rfl, hch3, vl', vc', hR3, hf3, hf4⟩
    have hTw := two_second hT2 hR2 s1 s2 hch3 hR3 hf3 hf4
    have hx03 := hR2.below hx02 hch3
    go_wp2_with fail
    go_ret
    exact ⟨rfl, hx03, _, _, _, _, hTw⟩
end Go.Proofs.Ytalbjbcomamomaa.IdsW
