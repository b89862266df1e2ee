/- ids: the reference's Bind, whole. -/
import Derived.Test.YtalbjbcomamomaaIdsRefBi
namespace Go.Proofs.Ytalbjbcomamomaa.IdsW
open Go.ChangeShapes Go.WideShapes Go.ChangeAt Go.RowKit
open Base Mp Piece
set_option linter.unusedVariables false
set_option linter.unusedSimpArgs false

theorem mkId_none {lim : Nat} {ts : List ByteArray} {s : ByteArray} (h : (mkId lim ts s).2 ≠ 0) : mkId lim ts s = (0, 8) := by
  unfold mkId at *
  split at h
  · exact absurd rfl h
  · split at h
    · next hl => rw [if_pos hl]
    · exact absurd rfl h

set_option maxRecDepth 1000000 in
set_option maxHeartbeats 2000000 in
theorem rbind_new {B : Nat} {r lim : Nat} {ts : List ByteArray} {bs : List (Nat × Nat)} {vl vb : Value} (f : Nat) (s : ByteArray) (w : World) (h : Rt B w r lim ts bs vl vb) (hi : Inv ts bs) (hl : ts.length ≤ 1000) (hbl : bs.length ≤ 998) (hB : B ≤ w.heap.size)
    (hf0 : 1 ≤ f) (hf1 : f ≤ 2147483647) (ht : there bs f = false) (hno : ¬ (0 < (idOf ts s).getD 0 ∧ hasTo bs ((idOf ts s).getD 0) = true)) :
    Calls Try.prog 25 #[.pointer (some ⟨r, 0, none⟩), .int .u64 (f : Int), .string s] w fun e w' => e = .returned (.tuple #[.int .u64 ((mkId lim ts s).1 : Int), .int .i64 ((mkId lim ts s).2 : Int)]) ∧ Chg (fun k => k = r ∨ vl.ownBlock = some k) w w' ∧ ∃ vl' vb', Rt B w' r lim (mkTs lim ts s) (if (mkId lim ts s).2 = 0 then insAt bs (pos bs f) (f, (mkId lim ts s).1) else bs) vl' vb' ∧ Fresh w vl vl' ∧ Fresh w vb vb' := by
  have hof := ROf_any s w h hi.nd hl
  have hmp := RMap_any f w h hi.ri (by omega)
  rw [show mapOf bs f = none by unfold mapOf; rw [ht]; rfl] at hmp
  simp only [Option.getD_none, Option.isSome_none] at hmp
  have hmk := RMake_any s w h hi.nd hl hB
  have h2 : ¬ (2147483647 : Int) < (f : Int) := by omega
  have h3 : ((f : Int) == 0) = false := by simp; omega
  have hhas : (idOf ts s).isSome = true → hasTo bs ((idOf ts s).getD 0) = false := fun hs => by
    cases hq : hasTo bs ((idOf ts s).getD 0) with
    | false => rfl
    | true =>
      obtain ⟨k, hk⟩ := Option.isSome_iff_exists.1 hs
      exact absurd ⟨by rw [hk]; exact (idOf_some hk).1, hq⟩ hno
  obtain ⟨id, hid⟩ : ∃ id, Hid ((idOf ts s).getD 0 = id) := ⟨_, rfl⟩
  obtain ⟨has, hhs⟩ : ∃ has, Hid ((idOf ts s).isSome = has) := ⟨_, rfl⟩
  rw [hid.out, hhs.out] at hof hhas
  obtain ⟨i2, e2, hme⟩ : ∃ i2 e2, Hid (mkId lim ts s = (i2, e2)) := ⟨_, _, rfl⟩
  rw [hme.out] at hmk
  simp only at hmk
  obtain ⟨PO, hPO⟩ : ∃ PO : Ending → World → Prop, Hid ((fun e w' => e = .returned (.tuple #[.int .u64 ((mkId lim ts s).1 : Int), .int .i64 ((mkId lim ts s).2 : Int)]) ∧ Chg (fun k => k = r ∨ vl.ownBlock = some k) w w' ∧ ∃ vl' vb', Rt B w' r lim (mkTs lim ts s) (if (mkId lim ts s).2 = 0 then insAt bs (pos bs f) (f, (mkId lim ts s).1) else bs) vl' vb' ∧ Fresh w vl vl' ∧ Fresh w vb vb') = PO) := ⟨_, rfl⟩
  rw [hPO.out]
  go_enter Try.func25, Try.ntmps25
  go_wp2_with fail
  refine hof.mono ?_
  rintro e w1 ⟨rfl, rfl⟩
  go_wp2_with fail
  refine hmp.mono ?_
  rintro e w1 ⟨rfl, rfl⟩
  go_wp2_with fail
  refine rb0 (h := h) (hl := by omega) (hF := ⟨_, rfl, rfl⟩) (hR := ?_) (hQ := ?_)
  · intro q1 q2
    rw [hhas q1.out] at q2
    cases q2
  intro _ a3 x12 hF3
  obtain ⟨u3, rfl⟩ := lay127 hF3
  clear hF3
  go_wp2_with fail
  refine hmk.mono ?_
  rintro e w3 ⟨rfl, hch3, vl', hT3, hfr3⟩
  by_cases he : e2 = 0
  · subst he
    obtain ⟨n, hn⟩ : ∃ n, Hid (bs.length = n) := ⟨_, rfl⟩
    obtain ⟨p, hp⟩ : ∃ p, Hid (pos bs f = p) := ⟨_, rfl⟩
    have hpn : p ≤ n := by rw [← hp.out, ← hn.out]; exact pos_le bs f
    have hs3 : w.heap.size ≤ w3.heap.size := hch3.size
    go_wp2_with fail
    refine rb2 (h := hT3) (hn := hn.out) (hl := by have := hn.out; omega) (p := p) (hp := hpn) (hp1 := fun j x hx hj => pos_before hx (by rw [hp.out]; exact hj)) (hp2 := fun j x hx hj => pos_after hi.ri ht hx (by rw [hp.out]; exact hj)) (ho := ⟨rfl, .inr ⟨w3.heap.size, 0, #[], rfl, Nat.le_refl _, Blk.new w3 #[] _, Nat.le_refl _, Nat.zero_le _, rfl, rfl⟩⟩) (hx := (Ext.refl w3).alloc _) (hF := ⟨_, rfl, rfl⟩) (hQ := ?_)
    intro a5 w5 vo5 hF5 ho5 hx5
    obtain ⟨u5, rfl⟩ := lay127 hF5
    clear hF5
    obtain ⟨L7, hL7⟩ : ∃ L, Hid ((insAt bs p (f, i2)).length = L) := ⟨_, rfl⟩
    by_cases hpl : p < n
    · have hin : decide (p < n) = true := by simpa using hpl
      obtain ⟨w6, hw6⟩ : ∃ x, x = w5 := ⟨_, rfl⟩
      subst hw6
      have ho6 : w6.ownsRow w3.heap.size 43 2 vo5 L7 (bnds (insAt bs p (f, i2))) := by
        have e : outAt bs p (f, i2) n = insAt bs p (f, i2) := by rw [← hn.out]; exact outAt_end (by have := hn.out; omega)
        rw [e, hL7.out] at ho5
        exact ho5
      have hx6 := hx5
      obtain ⟨A7, c7, rfl, jj1, jj2, jj3, jj4⟩ := Rd.of_own ho6
      clear jj1 jj2 jj3 jj4 ho5
      have hb6 : Blk w6 r #[.int .u64 (lim : Int), vl', vb] 51 := hT3.blk.ext hx6
      have fr6 := hb6.frozen 2
      have cl6 : w6.cell? ⟨r, 2, none⟩ = some vb := hb6.cell 2
      go_wp2_with fail
      have hb7 : Blk (w6.setCell ⟨r, 2, none⟩ (.slice A7 L7 c7)) r #[.int .u64 (lim : Int), vl', .slice A7 L7 c7] 51 := hb6.set 2 _
      rw [← hPO.out, hme.out, hp.out, if_pos rfl]
      refine ⟨rfl, ((hch3.trans (Chg.ofExt hx6) (fun _ _ (e : False) => e.elim)).set (p := ⟨r, 2, none⟩) (.inl (.inl rfl)) _), vl', _, ⟨hb7, own_setCell (i := 2) (own_ext hT3.texts hx6) hb6 (by decide) _, by rw [hL7.out]; exact own_setCell (i := 2) (own_mono ho6 (Nat.le_trans hB hs3)) hb6 (by decide) _, h.hr⟩, hfr3, ?_⟩
      rcases ho6.2 with ⟨e1, e2⟩ | ⟨g, cap, cur, e1, e2, _⟩
      · injection e1 with e1 e3 e4
        have := hL7.out
        rw [insAt_le] at this
        omega
      · exact .inr ⟨g, by rw [e1]; rfl, by omega⟩
    · obtain rfl : p = n := by omega
      have hin : decide (p < p) = false := by simp
      obtain ⟨m, hm⟩ : ∃ m, Hid ((outAt bs p (f, i2) p).length = m) := ⟨_, rfl⟩
      have hm1 : m ≤ 1000 := by rw [← hm.out, outAt_len (by have := hn.out; omega)]; have := hn.out; split <;> omega
      rw [hm.out] at ho5
      have hsz := hx5.size
      obtain ⟨Ao, co, rfl, _, _, _, _⟩ := Rd.of_own ho5
      go_wp2_with (
        refine wpList_app el_bnd _ rfl (.tmp 116) (.tmp 120) rfl w3.heap.size (.slice Ao m co) m (bnds (outAt bs p (f, i2) p)) rfl (own_ext ho5 ((Ext.refl w5).alloc _)) (some ⟨w5.heap.size, 0, none⟩) 1 1 (bnds [(f, i2)]) rfl (Rd.of_block w5 43 (0, 0) rfl) rfl (fun h => by cases h) (bnds_one _) (by omega) (by omega) (by simp; omega) (fun V6 w6 ho6a hg6 hv6 => ?_)
        have hx6 : Ext w3 w6 := (hx5.alloc _).then_grown hg6 (fun k hk => (ho5.lt k hk).1)
        have hins : outAt bs p (f, i2) p ++ [(f, i2)] = insAt bs p (f, i2) := by have e := hn.out; subst e; exact outAt_last
        have ho6 : w6.ownsRow w3.heap.size 43 2 V6 L7 (bnds (insAt bs p (f, i2))) := by
          rw [← bnds_append, hins] at ho6a
          have e : m + 1 = L7 := by rw [← hL7.out, ← hins, List.length_append, hm.out]; rfl
          rw [e] at ho6a
          exact ho6a
        clear ho6a
        obtain ⟨A7, c7, rfl, jj1, jj2, jj3, jj4⟩ := Rd.of_own ho6
        clear jj1 jj2 jj3 jj4
        have hb6 : Blk w6 r #[.int .u64 (lim : Int), vl', vb] 51 := hT3.blk.ext hx6
        have fr6 := hb6.frozen 2
        have cl6 : w6.cell? ⟨r, 2, none⟩ = some vb := hb6.cell 2)
      have hb7 : Blk (w6.setCell ⟨r, 2, none⟩ (.slice A7 L7 c7)) r #[.int .u64 (lim : Int), vl', .slice A7 L7 c7] 51 := hb6.set 2 _
      rw [← hPO.out, hme.out, hp.out, if_pos rfl]
      refine ⟨rfl, ((hch3.trans (Chg.ofExt hx6) (fun _ _ (e : False) => e.elim)).set (p := ⟨r, 2, none⟩) (.inl (.inl rfl)) _), vl', _, ⟨hb7, own_setCell (i := 2) (own_ext hT3.texts hx6) hb6 (by decide) _, by rw [hL7.out]; exact own_setCell (i := 2) (own_mono ho6 (Nat.le_trans hB hs3)) hb6 (by decide) _, h.hr⟩, hfr3, ?_⟩
      rcases ho6.2 with ⟨e1, e2⟩ | ⟨g, cap, cur, e1, e2, _⟩
      · injection e1 with e1 e3 e4
        have := hL7.out
        rw [insAt_le] at this
        omega
      · exact .inr ⟨g, by rw [e1]; rfl, by omega⟩
  · have e8 := mkId_none (lim := lim) (ts := ts) (s := s) (by rw [hme.out]; exact he)
    have e9 := hme.out
    rw [e8] at e9
    obtain ⟨rfl, rfl⟩ := Prod.mk.injEq .. ▸ e9
    go_wp2_with fail
    rw [← hPO.out, e8, if_neg (by decide)]
    exact ⟨rfl, hch3, vl', vb, hT3, hfr3, .inl rfl⟩
end Go.Proofs.Ytalbjbcomamomaa.IdsW
