/- lex: the reference's Words, walked. -/
import Derived.Test.YtejcacbbhijdcaaGreatDoorPzK
namespace Go.Proofs.YtejcacbbhijdcaaGreatDoor.Lx
open Go.ChangeShapes Go.WideShapes Go.ChangeAt Go.RowKit Go.Shelf
open Base
set_option linter.unusedVariables false
set_option linter.unusedSimpArgs false

theorem el_tok : El Tryz.prog 62 71 (.agg #[.int .i64 0, .string ByteArray.empty, .int .i64 0]) 3 32 := ⟨by kernel_rfl, by kernel_rfl, by kernel_rfl, by omega⟩
theorem kindOf_sign (c : UInt8) : kindOf c = if letterP c then 0 else if digitP c then 1 else if signP c then 2 else -1 := by
  unfold kindOf signP
  simp
/-- what a run's loop knows -/
theorem runs_within {p : UInt8 → Bool} {s : ByteArray} {a R i : Nat} (hR : runP p (s.data.toList.drop a) = R) (h1 : a ≤ i) (h2 : i < a + R) : i < s.size ∧ p (byteAt s i) = true := by
  obtain ⟨h3, h4⟩ := runP_lt (p := p) (l := s.data.toList.drop a) (n := i - a) (by omega)
  rw [List.length_drop, size_list] at h3
  refine ⟨by omega, ?_⟩
  rw [List.getElem_drop] at h4
  have hi : i < s.size := by omega
  rw [← byteAt_get s i hi]
  have e : a + (i - a) = i := by omega
  simp only [e] at h4
  exact h4
theorem run_out {p : UInt8 → Bool} {s : ByteArray} {a R : Nat} (hR : runP p (s.data.toList.drop a) = R) (ha : a ≤ s.size) : a + R = s.size ∨ ∃ h : a + R < s.size, p (byteAt s (a + R)) = false := by
  rcases runP_end p (s.data.toList.drop a) with h | ⟨h1, h2⟩
  · rw [List.length_drop, size_list] at h; left; omega
  · rw [hR] at h1
    rw [List.length_drop, size_list] at h1
    right
    refine ⟨by omega, ?_⟩
    rw [List.getElem_drop] at h2
    have hi : a + R < s.size := by omega
    rw [← byteAt_get s _ hi]
    simp only [hR] at h2
    exact h2
theorem run_one {p : UInt8 → Bool} {s : ByteArray} {a R : Nat} (hR : runP p (s.data.toList.drop a) = R) (ha : a < s.size) (hp : p (byteAt s a) = true) : 1 ≤ R := by
  rw [← hR, drop_byteAt s a ha]
  simp [runP, List.takeWhile_cons, hp]
theorem own_away {S : Nat → Prop} {w w' : World} {base : Nat} {e : TypeId} {size n : Nat} {v : Value} {xs : List Value} (h : w.ownsRow base e size v n xs) (hx : Chg S w w') (hS : ∀ k, v.ownBlock = some k → ¬ S k) : w'.ownsRow base e size v n xs := by
  refine ⟨h.1, ?_⟩
  rcases h.2 with h2 | ⟨g, cap, cur, rfl, hb, hg, r⟩
  · exact .inl h2
  · exact .inr ⟨g, cap, cur, rfl, hb, hx.heap hg (hS g rfl), r⟩
def PWd (s : ByteArray) (w : World) (e : Ending) (w' : World) : Prop := ∃ v p er, e = .returned (.tuple #[v, .int .i64 p, .int .i64 er]) ∧ (words s = some (p, er) ∧ v = .slice none 0 0 ∨ words s = none ∧ p = 0 ∧ er = 0 ∧ Rt w' v (toks s)) ∧ Ext w w'

set_option maxRecDepth 100000 in
set_option maxHeartbeats 4000000 in
theorem refWords_any (s : ByteArray) (hs : s.size ≤ 140737488351232) (w : World) : Calls Tryz.prog 25 #[.string s] w fun e w' => PWd s w e w' := by
  obtain ⟨PO, hPO⟩ : ∃ PO : Ending → World → Prop, Hid ((fun e w' => PWd s w e w') = PO) := ⟨_, Lib.hid rfl⟩
  rw [hPO.out]
  have hq : ∀ e w', PWd s w e w' → PO e w' := fun e w' h => by rw [← hPO.out]; exact h
  by_cases hlong : 4096 < s.size
  · have hl : (s.size : Int) > 4096 := by omega
    have hw : words s = some (0, 2) := by rw [words, if_pos hlong]
    have hpz := hq _ _ (⟨.slice none 0 0, _, _, rfl, .inl ⟨hw, rfl⟩, Ext.refl w⟩)
    go_enter Tryz.func25, Tryz.ntmps25
    go_wp2_with fail
    refine bodyPost_ret (results_tmp3 rfl _ _ _) rfl ?_
    exact hpz
  · have hl : ¬ (s.size : Int) > 4096 := by omega
    have hz : s.size ≤ 4096 := by omega
    have hwd : words s = wordsR (toks s) 0 := by rw [words, if_neg hlong]
    have hsk := fun a ha => skipR_any s a hs ha
    go_enter Tryz.func25, Tryz.ntmps25
    go_wp2_with fail
    have hin0 : w.heap.size < (w.alloc (.cells #[] 71)).heap.size := by simp
    have hx0 : Ext w (w.alloc (.cells #[] 71)) := (Ext.refl w).alloc _
    have ho0 : (w.alloc (.cells #[] 71)).ownsRow w.heap.size 71 3 (.slice (some ⟨w.heap.size, 0, none⟩) 0 0) 0 (rows []) := World.ownsRow_lit w #[] 0 (Nat.le_refl _) (Nat.zero_le _) rfl
    obtain ⟨w1, hw1⟩ : ∃ z, Hid (w.alloc (.cells #[] 71) = z) := ⟨_, rfl⟩
    rw [hw1.out] at hin0 hx0 ho0 ⊢
    obtain ⟨B, hB⟩ : ∃ z, Hid (w.heap.size = z) := ⟨_, rfl⟩
    rw [hB.out] at ho0 hin0 ⊢
    have hsk0 := hsk 0 (by omega) w1
    refine hsk0.mono ?_
    rintro e w2 ⟨rfl, hw2⟩
    have hw2 := hw2.symm
    subst hw2
    have ha0 := skp_le s 0 (by omega)
    have ht0 : Hid (toks s = [] ++ tokG s (s.size + 1) (skp s 0)) := Lib.hid rfl
    obtain ⟨a0, hA0⟩ : ∃ z, Hid (skp s 0 = z) := ⟨_, Lib.hid rfl⟩
    rw [hA0.out] at ha0 ht0 ⊢
    clear hsk0
    go_wp2_with fail
    go_loopw [5, 6] (fun v5 v6 wr => ∃ (pre : List Tok) (a f : Nat), v6 = .int .i64 a ∧ a ≤ s.size ∧ s.size < f + a ∧ Hid (toks s = pre ++ tokG s f a) ∧ Hid (wordsR pre 0 = none) ∧ wr.ownsRow B 71 3 v5 pre.length (rows pre) ∧ Ext w wr ∧ B < wr.heap.size) (fun _ v6 _ => s.size - (intOf v6).toNat)
    case atStart => exact ⟨[], a0, s.size + 1, rfl, ha0, by omega, ht0, Lib.hid rfl, ho0, hx0, hin0⟩
    case round =>
      obtain ⟨pre, a, f, rfl, ha, hf, hts, hwr, ho, hx, hin⟩ := hrel
      obtain ⟨A5, c5, rfl, jj1, jj2, jj3, jj4⟩ := Rd.of_own ho
      clear jj1 jj2 jj3 jj4
      have hp15 := wordsR_len pre 0 (by omega) hwr.out
      rw [Nat.zero_add] at hp15
      by_cases hal : a < s.size
      · obtain ⟨f, rfl⟩ : ∃ g, f = g + 1 := ⟨f - 1, by omega⟩
        have hal' : (a : Int) < (s.size : Int) := by omega
        have hts' := hts.out
        rw [tokG_step s f a hal] at hts'
        have hle := lenAt_le s a hal
        have hge := lenAt_pos s a hal
        obtain ⟨ln, hln⟩ : ∃ z, Hid (lenAt s a = z) := ⟨_, Lib.hid rfl⟩
        rw [hln.out] at hle hge
        obtain ⟨E, hE⟩ : ∃ z, Hid (a + ln = z) := ⟨_, Lib.hid rfl⟩
        rw [hE.out] at hle
        have hEa : a + 1 ≤ E := by have := hE.out; omega
        have hb := byteAt_get s a hal
        have hlow := lower_any
        have hnum := num_any
        have hlo := lower_any (byteAt s a)
        have hnu := num_any (byteAt s a)
        have hsi := sign_any (byteAt s a)
        obtain ⟨q, hqs⟩ : ∃ z, Hid (wr.heap.size = z) := ⟨_, rfl⟩
        obtain ⟨np, hnp⟩ : ∃ z, Hid (pre.length = z) := ⟨_, Lib.hid rfl⟩
        have hkz := kindOf_sign (byteAt s a)
        cases h1 : letterP (byteAt s a) with
        | true =>
          rw [h1] at hlo hkz
          have hkk : kindOf (byteAt s a) = 0 := hkz
          obtain ⟨R, hR⟩ : ∃ z, Hid (runP innerP (s.data.toList.drop a) = z) := ⟨_, Lib.hid rfl⟩
          have hRl : Hid (ln = R) := Lib.hid (by rw [← hln.out, lenAt, h1, if_pos rfl]; exact hR.out)
          have KK0 : (0 : Int) = 0 := rfl
          clear hnu hsi hkz
          rw [hnp.out] at ho ⊢
          go_wp2_with fail
          have hbq : Blk (wr.alloc (.cells #[.int .i64 0, .string ⟨#[]⟩, .int .i64 (a : Int)] 71)) q #[.int .i64 0, .string ⟨#[]⟩, .int .i64 (a : Int)] 71 := by rw [← hqs.out]; exact Blk.new wr _ _
          have hxq : Ext w (wr.alloc (.cells #[.int .i64 0, .string ⟨#[]⟩, .int .i64 (a : Int)] 71)) := hx.alloc _
          obtain ⟨w3, hw3⟩ : ∃ z, Hid (wr.alloc (.cells #[.int .i64 0, .string ⟨#[]⟩, .int .i64 (a : Int)] 71) = z) := ⟨_, rfl⟩
          have hx3 : Ext wr w3 := by rw [← hw3.out]; exact (Ext.refl wr).alloc _
          rw [hw3.out, hqs.out]
          rw [hw3.out] at hbq hxq
          have ho3 := own_ext ho hx3
          refine (hlo w3).mono ?_
          rintro e w4 ⟨rfl, hw4⟩
          have hw4 := hw4.symm
          subst hw4
          have g0 : w3.cell? ⟨q, 0, none⟩ = some (.int .i64 0) := hbq.cell 0
          have g1 := hbq.frozen 0
          clear hlo
          go_wp2_with fail
          have hbw : Blk (w3.setCell ⟨q, 0, none⟩ (.int .i64 0)) q #[.int .i64 0, .string ⟨#[]⟩, .int .i64 (a : Int)] 71 := hbq.set 0 (.int .i64 0)
          have hqB : B ≤ q := by have := hqs.out; omega
          have hxw : Ext w (w3.setCell ⟨q, 0, none⟩ (.int .i64 0)) := hxq.setCell (by show w.heap.size ≤ q; have := hB.out; omega) _
          have how := own_away ho3 (Chg.one w3 q 0 (.int .i64 0)) (fun k hk e => by have := (ho.lt k hk).2; have := hqs.out; omega)
          have hqn : ∀ k, (Value.slice A5 np c5).ownBlock = some k → ¬ k = q := fun k hk e => by have := (ho.lt k hk).2; have := hqs.out; omega
          obtain ⟨wq, hwq⟩ : ∃ z, Hid (w3.setCell ⟨q, 0, none⟩ (.int .i64 0) = z) := ⟨_, rfl⟩
          rw [hwq.out] at hbw hxw how ⊢
          have p0 : wq.cell? ⟨q, 0, none⟩ = some (.int .i64 0) := hbw.cell 0
          have p1 : wq.cell? ⟨q, 1, none⟩ = some (.string ⟨#[]⟩) := hbw.cell 1
          have p2 : wq.cell? ⟨q, 2, none⟩ = some (.int .i64 (a : Int)) := hbw.cell 2
          have f1 := hbw.frozen 1
          have hqq : q < wq.heap.size := hbw.lt
          clear hbq g0 g1 hxq ho3 ho hx3 hx hwq hw3
          have hxq := hxw
          go_loopw [8] (fun v8 wv => ∃ to : Nat, a + 1 ≤ to ∧ to ≤ E ∧ v8 = .int .i64 to ∧ wv = wq) (fun v8 _ => E - (intOf v8).toNat)
          case atStart => exact ⟨a + 1, by omega, by omega, by go_num, rfl⟩
          case round =>
            obtain ⟨to, hto1, hto2, rfl, hwv⟩ := hrel
            have hwv := hwv.symm
            subst hwv
            by_cases hlt : to < E
            · obtain ⟨hts1, htp⟩ := runs_within hR.out (i := to) (by omega) (by have := hE.out; have := hRl.out; omega)
              have hts1' : (to : Int) < (s.size : Int) := by omega
              have hbt := byteAt_get s to hts1
              have hl2 := hlow (byteAt s to) wq
              have hn2 := hnum (byteAt s to) wq
              cases k1 : letterP (byteAt s to) with
              | true =>
                rw [k1] at hl2
                clear htp hn2
                go_wp2_with fail
                refine hl2.mono ?_
                rintro e w5 ⟨rfl, hw5⟩
                have hw5 := hw5.symm
                subst hw5
                go_wp2_with fail
                go_roundw
                case rel => exact ⟨to + 1, by omega, by omega, by go_num, by first | rfl | trivial⟩
                case measure => simp [intOf]; omega
              | false =>
                rw [k1] at hl2
                cases k2 : digitP (byteAt s to) with
                | true =>
                  rw [k2] at hn2
                  clear htp
                  go_wp2_with fail
                  refine hl2.mono ?_
                  rintro e w5 ⟨rfl, hw5⟩
                  have hw5 := hw5.symm
                  subst hw5
                  go_wp2_with fail
                  refine hn2.mono ?_
                  rintro e w5 ⟨rfl, hw5⟩
                  have hw5 := hw5.symm
                  subst hw5
                  go_wp2_with fail
                  go_roundw
                  case rel => exact ⟨to + 1, by omega, by omega, by go_num, by first | rfl | trivial⟩
                  case measure => simp [intOf]; omega
                | false =>
                  rw [k2] at hn2
                  have k3 : (byteAt s to).toNat = 95 := by simpa [innerP, k1, k2] using htp
                  have k4 : (((byteAt s to).toNat : Int) == 95) = true := by rw [k3]; rfl
                  clear htp k3
                  go_wp2_with fail
                  refine hl2.mono ?_
                  rintro e w5 ⟨rfl, hw5⟩
                  have hw5 := hw5.symm
                  subst hw5
                  go_wp2_with fail
                  refine hn2.mono ?_
                  rintro e w5 ⟨rfl, hw5⟩
                  have hw5 := hw5.symm
                  subst hw5
                  go_wp2_with fail
                  go_roundw
                  case rel => exact ⟨to + 1, by omega, by omega, by go_num, by first | rfl | trivial⟩
                  case measure => simp [intOf]; omega
            · obtain rfl : E = to := by omega
              have hRE : a + R = E := by have := hE.out; have := hRl.out; omega
              have hro := run_out hR.out ha
              rw [hRE] at hro
              clear hRE
              rcases hro with he | ⟨he, hpf⟩
              · have hnot : ¬ (E : Int) < (s.size : Int) := by omega
                clear hR he
                by_cases hfull : np = 1500
                · have hwe : words s = some (4096, 2) := by
                    rw [hwd, hts', wordsR_append, hwr.out]
                    simp only
                    rw [wordsR, if_neg (by show ¬ (tokAt s a).k < 0; rw [show (tokAt s a).k = kindOf (byteAt s a) from rfl, hkk]; decide), if_pos (by rw [Nat.zero_add, hnp.out]; exact hfull)]
                  have hpz := hq _ _ (⟨.slice none 0 0, _, _, rfl, .inl ⟨hwe, rfl⟩, hxq⟩)
                  subst hfull
                  clear hwe hts hts' hsk hlow hnum
                  go_wp2_with fail
                  refine bodyPost_ret (results_tmp3 rfl _ _ _) rfl ?_
                  exact hpz
                · have hfi : ¬ (np : Int) = 1500 := by omega
                  have hsa : s.extract a E = (tokAt s a).s := by rw [← hE.out, ← hln.out]; rfl
                  have hwr' : Hid (wordsR (pre ++ [tokAt s a]) 0 = none) := Lib.hid (by rw [wordsR_append, hwr.out]; simp only; rw [wordsR, if_neg (by show ¬ (tokAt s a).k < 0; rw [show (tokAt s a).k = kindOf (byteAt s a) from rfl, hkk]; decide), if_neg (by rw [Nat.zero_add, hnp.out]; exact hfull)]; rfl)
                  have hskn := hsk E hle
                  obtain ⟨tx, htx⟩ : ∃ z, Hid (s.extract a E = z) := ⟨_, Lib.hid rfl⟩
                  rw [htx.out] at hsa
                  obtain ⟨an, han⟩ : ∃ z, Hid (skp s E = z) := ⟨_, Lib.hid rfl⟩
                  have hts2 : Hid (toks s = (pre ++ [tokAt s a]) ++ tokG s f an) := Lib.hid (by rw [hts', ← han.out, ← hE.out, ← hln.out, List.append_assoc]; rfl)
                  rw [han.out] at hskn
                  have hage : E ≤ an := by rw [← han.out]; exact skp_ge s _
                  have hale : an ≤ s.size := by rw [← han.out]; exact skp_le s _ hle
                  have hrw : Hid (rows (pre ++ [tokAt s a]) = rows pre ++ [.int .i64 0, .string tx, .int .i64 (a : Int)]) := Lib.hid (by rw [rows_snoc, hsa]; unfold tcells; rw [show (tokAt s a).k = 0 from hkk, show (tokAt s a).a = a from rfl])
                  have hpl : (pre ++ [tokAt s a]).length = np + 1 := by rw [List.length_append, hnp.out]; rfl
                  have hsl1 : (a : Int) ≤ (E : Int) := by omega
                  have hsl2 : (E : Int) ≤ (s.size : Int) := by omega
                  clear hts hts' hsa hfull hwr hsk hlow hnum hkk hwd
                  have howt := own_away how (Chg.one wq q 1 (.string tx)) (fun k hk e => hqn k hk e)
                  have hxwt : Ext w (wq.setCell ⟨q, 1, none⟩ (.string tx)) := hxq.setCell (by show w.heap.size ≤ q; have := hB.out; omega) _
                  have hbt3 : Blk (wq.setCell ⟨q, 1, none⟩ (.string tx)) q #[.int .i64 0, .string tx, .int .i64 (a : Int)] 71 := hbw.set 1 _
                  obtain ⟨wt, hwt⟩ : ∃ z, Hid (wq.setCell ⟨q, 1, none⟩ (.string tx) = z) := ⟨_, rfl⟩
                  rw [hwt.out] at howt hxwt hbt3
                  have hxt : Ext wt (wt.alloc (.cells #[.int .i64 0, .string tx, .int .i64 (a : Int)] 71)) := (Ext.refl wt).alloc _
                  have h1c : ∀ u ∈ ([.int .i64 0, .string tx, .int .i64 (a : Int)] : List Value), u.oneCell' = true := by
                    intro u hu
                    simp only [List.mem_cons, List.not_mem_nil, or_false] at hu
                    rcases hu with rfl | rfl | rfl <;> rfl
                  have c0 : wt.cell? ⟨q, 0, none⟩ = some (.int .i64 0) := hbt3.cell 0
                  have c1 : wt.cell? ⟨q, 1, none⟩ = some (.string tx) := hbt3.cell 1
                  have c2 : wt.cell? ⟨q, 2, none⟩ = some (.int .i64 (a : Int)) := hbt3.cell 2
                  have hset := hwt.out
                  rw [← htx.out] at hset
                  have hqt := hbt3.lt
                  have hnp2 : np ≤ 1500 := by have := hnp.out; omega
                  go_wp2_with (
                    refine wpList_app el_tok _ rfl (.tmp 86) (.tmp 88) rfl B (.slice A5 np c5) np (rows pre) rfl (own_ext howt hxt) (some ⟨wt.heap.size, 0, none⟩) 1 1 [.int .i64 0, .string tx, .int .i64 (a : Int)] rfl (Rd.of_block wt 71 (0, 0) rfl) rfl (fun h => by cases h) h1c (by omega) (by omega) (by simp; omega) (fun V2 w5 ho5 hg5 hv5 => ?_))
                  have hx5 : Ext w w5 := Ext.then_grown (hxwt.trans hxt) hg5 (fun k hk => by have := (howt.lt k hk).1; have := hB.out; omega)
                  have hB5 : B < w5.heap.size := by have h9 := hg5.size; simp only [World.size_alloc] at h9; omega
                  refine (hskn w5).mono ?_
                  rintro e w6 ⟨rfl, hw6⟩
                  have hw6 := hw6.symm
                  subst hw6
                  go_wp2_with fail
                  go_roundw
                  case rel =>
                    refine ⟨pre ++ [tokAt s a], an, f, by go_num, hale, by omega, hts2, hwr', ?_, hx5, ?_⟩
                    · rw [hpl, hrw.out]; exact ho5
                    · exact hB5
                  case measure => simp [intOf]; omega
              · have hbt := byteAt_get s E (by omega)
                have hlt2 : (E : Int) < (s.size : Int) := by omega
                have k0 : letterP (byteAt s E) = false := by revert hpf; unfold innerP; cases letterP (byteAt s E) <;> simp
                have k1 : digitP (byteAt s E) = false := by revert hpf; unfold innerP; cases digitP (byteAt s E) <;> simp
                have k2 : (((byteAt s E).toNat : Int) == 95) = false := by revert hpf; unfold innerP; simp; omega
                have hl2 := hlow (byteAt s E) wq
                have hn2 := hnum (byteAt s E) wq
                rw [k0] at hl2
                rw [k1] at hn2
                clear hpf hR
                go_wp2_with fail
                refine hl2.mono ?_
                rintro e w5 ⟨rfl, hw5⟩
                have hw5 := hw5.symm
                subst hw5
                go_wp2_with fail
                refine hn2.mono ?_
                rintro e w5 ⟨rfl, hw5⟩
                have hw5 := hw5.symm
                subst hw5
                clear hl2 hn2
                by_cases hfull : np = 1500
                · have hwe : words s = some (4096, 2) := by
                    rw [hwd, hts', wordsR_append, hwr.out]
                    simp only
                    rw [wordsR, if_neg (by show ¬ (tokAt s a).k < 0; rw [show (tokAt s a).k = kindOf (byteAt s a) from rfl, hkk]; decide), if_pos (by rw [Nat.zero_add, hnp.out]; exact hfull)]
                  have hpz := hq _ _ (⟨.slice none 0 0, _, _, rfl, .inl ⟨hwe, rfl⟩, hxq⟩)
                  subst hfull
                  clear hwe hts hts' hsk hlow hnum
                  go_wp2_with fail
                  refine bodyPost_ret (results_tmp3 rfl _ _ _) rfl ?_
                  exact hpz
                · have hfi : ¬ (np : Int) = 1500 := by omega
                  have hsa : s.extract a E = (tokAt s a).s := by rw [← hE.out, ← hln.out]; rfl
                  have hwr' : Hid (wordsR (pre ++ [tokAt s a]) 0 = none) := Lib.hid (by rw [wordsR_append, hwr.out]; simp only; rw [wordsR, if_neg (by show ¬ (tokAt s a).k < 0; rw [show (tokAt s a).k = kindOf (byteAt s a) from rfl, hkk]; decide), if_neg (by rw [Nat.zero_add, hnp.out]; exact hfull)]; rfl)
                  have hskn := hsk E hle
                  obtain ⟨tx, htx⟩ : ∃ z, Hid (s.extract a E = z) := ⟨_, Lib.hid rfl⟩
                  rw [htx.out] at hsa
                  obtain ⟨an, han⟩ : ∃ z, Hid (skp s E = z) := ⟨_, Lib.hid rfl⟩
                  have hts2 : Hid (toks s = (pre ++ [tokAt s a]) ++ tokG s f an) := Lib.hid (by rw [hts', ← han.out, ← hE.out, ← hln.out, List.append_assoc]; rfl)
                  rw [han.out] at hskn
                  have hage : E ≤ an := by rw [← han.out]; exact skp_ge s _
                  have hale : an ≤ s.size := by rw [← han.out]; exact skp_le s _ hle
                  have hrw : Hid (rows (pre ++ [tokAt s a]) = rows pre ++ [.int .i64 0, .string tx, .int .i64 (a : Int)]) := Lib.hid (by rw [rows_snoc, hsa]; unfold tcells; rw [show (tokAt s a).k = 0 from hkk, show (tokAt s a).a = a from rfl])
                  have hpl : (pre ++ [tokAt s a]).length = np + 1 := by rw [List.length_append, hnp.out]; rfl
                  have hsl1 : (a : Int) ≤ (E : Int) := by omega
                  have hsl2 : (E : Int) ≤ (s.size : Int) := by omega
                  clear hts hts' hsa hfull hwr hsk hlow hnum hkk hwd
                  have howt := own_away how (Chg.one wq q 1 (.string tx)) (fun k hk e => hqn k hk e)
                  have hxwt : Ext w (wq.setCell ⟨q, 1, none⟩ (.string tx)) := hxq.setCell (by show w.heap.size ≤ q; have := hB.out; omega) _
                  have hbt3 : Blk (wq.setCell ⟨q, 1, none⟩ (.string tx)) q #[.int .i64 0, .string tx, .int .i64 (a : Int)] 71 := hbw.set 1 _
                  obtain ⟨wt, hwt⟩ : ∃ z, Hid (wq.setCell ⟨q, 1, none⟩ (.string tx) = z) := ⟨_, rfl⟩
                  rw [hwt.out] at howt hxwt hbt3
                  have hxt : Ext wt (wt.alloc (.cells #[.int .i64 0, .string tx, .int .i64 (a : Int)] 71)) := (Ext.refl wt).alloc _
                  have h1c : ∀ u ∈ ([.int .i64 0, .string tx, .int .i64 (a : Int)] : List Value), u.oneCell' = true := by
                    intro u hu
                    simp only [List.mem_cons, List.not_mem_nil, or_false] at hu
                    rcases hu with rfl | rfl | rfl <;> rfl
                  have c0 : wt.cell? ⟨q, 0, none⟩ = some (.int .i64 0) := hbt3.cell 0
                  have c1 : wt.cell? ⟨q, 1, none⟩ = some (.string tx) := hbt3.cell 1
                  have c2 : wt.cell? ⟨q, 2, none⟩ = some (.int .i64 (a : Int)) := hbt3.cell 2
                  have hset := hwt.out
                  rw [← htx.out] at hset
                  have hqt := hbt3.lt
                  have hnp2 : np ≤ 1500 := by have := hnp.out; omega
                  go_wp2_with (
                    refine wpList_app el_tok _ rfl (.tmp 86) (.tmp 88) rfl B (.slice A5 np c5) np (rows pre) rfl (own_ext howt hxt) (some ⟨wt.heap.size, 0, none⟩) 1 1 [.int .i64 0, .string tx, .int .i64 (a : Int)] rfl (Rd.of_block wt 71 (0, 0) rfl) rfl (fun h => by cases h) h1c (by omega) (by omega) (by simp; omega) (fun V2 w5 ho5 hg5 hv5 => ?_))
                  have hx5 : Ext w w5 := Ext.then_grown (hxwt.trans hxt) hg5 (fun k hk => by have := (howt.lt k hk).1; have := hB.out; omega)
                  have hB5 : B < w5.heap.size := by have h9 := hg5.size; simp only [World.size_alloc] at h9; omega
                  refine (hskn w5).mono ?_
                  rintro e w6 ⟨rfl, hw6⟩
                  have hw6 := hw6.symm
                  subst hw6
                  go_wp2_with fail
                  go_roundw
                  case rel =>
                    refine ⟨pre ++ [tokAt s a], an, f, by go_num, hale, by omega, hts2, hwr', ?_, hx5, ?_⟩
                    · rw [hpl, hrw.out]; exact ho5
                    · exact hB5
                  case measure => simp [intOf]; omega
        | false =>
          cases h2 : digitP (byteAt s a) with
          | true =>
            rw [h1] at hlo hkz
            rw [h2] at hnu hkz
            have hkk : kindOf (byteAt s a) = 1 := hkz
            obtain ⟨R, hR⟩ : ∃ z, Hid (runP digitP (s.data.toList.drop a) = z) := ⟨_, Lib.hid rfl⟩
            have hRl : Hid (ln = R) := Lib.hid (by rw [← hln.out, lenAt, h1, h2, if_neg (by decide), if_pos rfl]; exact hR.out)
            have KK0 : (0 : Int) = 0 := rfl
            clear hsi hkz
            rw [hnp.out] at ho ⊢
            go_wp2_with fail
            have hbq : Blk (wr.alloc (.cells #[.int .i64 0, .string ⟨#[]⟩, .int .i64 (a : Int)] 71)) q #[.int .i64 0, .string ⟨#[]⟩, .int .i64 (a : Int)] 71 := by rw [← hqs.out]; exact Blk.new wr _ _
            have hxq : Ext w (wr.alloc (.cells #[.int .i64 0, .string ⟨#[]⟩, .int .i64 (a : Int)] 71)) := hx.alloc _
            obtain ⟨w3, hw3⟩ : ∃ z, Hid (wr.alloc (.cells #[.int .i64 0, .string ⟨#[]⟩, .int .i64 (a : Int)] 71) = z) := ⟨_, rfl⟩
            have hx3 : Ext wr w3 := by rw [← hw3.out]; exact (Ext.refl wr).alloc _
            rw [hw3.out, hqs.out]
            rw [hw3.out] at hbq hxq
            have ho3 := own_ext ho hx3
            refine (hlo w3).mono ?_
            rintro e w4 ⟨rfl, hw4⟩
            have hw4 := hw4.symm
            subst hw4
            have g0 : w3.cell? ⟨q, 0, none⟩ = some (.int .i64 0) := hbq.cell 0
            have g1 := hbq.frozen 0
            clear hlo
            go_wp2_with fail
            refine (hnu w3).mono ?_
            rintro e w4 ⟨rfl, hw4⟩
            have hw4 := hw4.symm
            subst hw4
            clear hnu
            go_wp2_with fail
            have hbw : Blk (w3.setCell ⟨q, 0, none⟩ (.int .i64 1)) q #[.int .i64 1, .string ⟨#[]⟩, .int .i64 (a : Int)] 71 := hbq.set 0 (.int .i64 1)
            have hqB : B ≤ q := by have := hqs.out; omega
            have hxw : Ext w (w3.setCell ⟨q, 0, none⟩ (.int .i64 1)) := hxq.setCell (by show w.heap.size ≤ q; have := hB.out; omega) _
            have how := own_away ho3 (Chg.one w3 q 0 (.int .i64 1)) (fun k hk e => by have := (ho.lt k hk).2; have := hqs.out; omega)
            have hqn : ∀ k, (Value.slice A5 np c5).ownBlock = some k → ¬ k = q := fun k hk e => by have := (ho.lt k hk).2; have := hqs.out; omega
            obtain ⟨wq, hwq⟩ : ∃ z, Hid (w3.setCell ⟨q, 0, none⟩ (.int .i64 1) = z) := ⟨_, rfl⟩
            rw [hwq.out] at hbw hxw how ⊢
            have p0 : wq.cell? ⟨q, 0, none⟩ = some (.int .i64 1) := hbw.cell 0
            have p1 : wq.cell? ⟨q, 1, none⟩ = some (.string ⟨#[]⟩) := hbw.cell 1
            have p2 : wq.cell? ⟨q, 2, none⟩ = some (.int .i64 (a : Int)) := hbw.cell 2
            have f1 := hbw.frozen 1
            have hqq : q < wq.heap.size := hbw.lt
            clear hbq g0 g1 hxq ho3 ho hx3 hx hwq hw3
            have hxq := hxw
            go_loopw [8] (fun v8 wv => ∃ to : Nat, a + 1 ≤ to ∧ to ≤ E ∧ v8 = .int .i64 to ∧ wv = wq) (fun v8 _ => E - (intOf v8).toNat)
            case atStart => exact ⟨a + 1, by omega, by omega, by go_num, rfl⟩
            case round =>
              obtain ⟨to, hto1, hto2, rfl, hwv⟩ := hrel
              have hwv := hwv.symm
              subst hwv
              by_cases hlt : to < E
              · obtain ⟨hts1, htp⟩ := runs_within hR.out (i := to) (by omega) (by have := hE.out; have := hRl.out; omega)
                have hts1' : (to : Int) < (s.size : Int) := by omega
                have hbt := byteAt_get s to hts1
                have hn2 := hnum (byteAt s to) wq
                rw [htp] at hn2
                clear htp
                go_wp2_with fail
                refine hn2.mono ?_
                rintro e w5 ⟨rfl, hw5⟩
                have hw5 := hw5.symm
                subst hw5
                go_wp2_with fail
                go_roundw
                case rel => exact ⟨to + 1, by omega, by omega, by go_num, by first | rfl | trivial⟩
                case measure => simp [intOf]; omega
              · obtain rfl : E = to := by omega
                have hRE : a + R = E := by have := hE.out; have := hRl.out; omega
                have hro := run_out hR.out ha
                rw [hRE] at hro
                clear hRE
                rcases hro with he | ⟨he, hpf⟩
                · have hnot : ¬ (E : Int) < (s.size : Int) := by omega
                  clear hR he
                  by_cases hfull : np = 1500
                  · have hwe : words s = some (4096, 2) := by
                      rw [hwd, hts', wordsR_append, hwr.out]
                      simp only
                      rw [wordsR, if_neg (by show ¬ (tokAt s a).k < 0; rw [show (tokAt s a).k = kindOf (byteAt s a) from rfl, hkk]; decide), if_pos (by rw [Nat.zero_add, hnp.out]; exact hfull)]
                    have hpz := hq _ _ (⟨.slice none 0 0, _, _, rfl, .inl ⟨hwe, rfl⟩, hxq⟩)
                    subst hfull
                    clear hwe hts hts' hsk hlow hnum
                    go_wp2_with fail
                    refine bodyPost_ret (results_tmp3 rfl _ _ _) rfl ?_
                    exact hpz
                  · have hfi : ¬ (np : Int) = 1500 := by omega
                    have hsa : s.extract a E = (tokAt s a).s := by rw [← hE.out, ← hln.out]; rfl
                    have hwr' : Hid (wordsR (pre ++ [tokAt s a]) 0 = none) := Lib.hid (by rw [wordsR_append, hwr.out]; simp only; rw [wordsR, if_neg (by show ¬ (tokAt s a).k < 0; rw [show (tokAt s a).k = kindOf (byteAt s a) from rfl, hkk]; decide), if_neg (by rw [Nat.zero_add, hnp.out]; exact hfull)]; rfl)
                    have hskn := hsk E hle
                    obtain ⟨tx, htx⟩ : ∃ z, Hid (s.extract a E = z) := ⟨_, Lib.hid rfl⟩
                    rw [htx.out] at hsa
                    obtain ⟨an, han⟩ : ∃ z, Hid (skp s E = z) := ⟨_, Lib.hid rfl⟩
                    have hts2 : Hid (toks s = (pre ++ [tokAt s a]) ++ tokG s f an) := Lib.hid (by rw [hts', ← han.out, ← hE.out, ← hln.out, List.append_assoc]; rfl)
                    rw [han.out] at hskn
                    have hage : E ≤ an := by rw [← han.out]; exact skp_ge s _
                    have hale : an ≤ s.size := by rw [← han.out]; exact skp_le s _ hle
                    have hrw : Hid (rows (pre ++ [tokAt s a]) = rows pre ++ [.int .i64 1, .string tx, .int .i64 (a : Int)]) := Lib.hid (by rw [rows_snoc, hsa]; unfold tcells; rw [show (tokAt s a).k = 1 from hkk, show (tokAt s a).a = a from rfl])
                    have hpl : (pre ++ [tokAt s a]).length = np + 1 := by rw [List.length_append, hnp.out]; rfl
                    have hsl1 : (a : Int) ≤ (E : Int) := by omega
                    have hsl2 : (E : Int) ≤ (s.size : Int) := by omega
                    clear hts hts' hsa hfull hwr hsk hlow hnum hkk hwd
                    have howt := own_away how (Chg.one wq q 1 (.string tx)) (fun k hk e => hqn k hk e)
                    have hxwt : Ext w (wq.setCell ⟨q, 1, none⟩ (.string tx)) := hxq.setCell (by show w.heap.size ≤ q; have := hB.out; omega) _
                    have hbt3 : Blk (wq.setCell ⟨q, 1, none⟩ (.string tx)) q #[.int .i64 1, .string tx, .int .i64 (a : Int)] 71 := hbw.set 1 _
                    obtain ⟨wt, hwt⟩ : ∃ z, Hid (wq.setCell ⟨q, 1, none⟩ (.string tx) = z) := ⟨_, rfl⟩
                    rw [hwt.out] at howt hxwt hbt3
                    have hxt : Ext wt (wt.alloc (.cells #[.int .i64 1, .string tx, .int .i64 (a : Int)] 71)) := (Ext.refl wt).alloc _
                    have h1c : ∀ u ∈ ([.int .i64 1, .string tx, .int .i64 (a : Int)] : List Value), u.oneCell' = true := by
                      intro u hu
                      simp only [List.mem_cons, List.not_mem_nil, or_false] at hu
                      rcases hu with rfl | rfl | rfl <;> rfl
                    have c0 : wt.cell? ⟨q, 0, none⟩ = some (.int .i64 1) := hbt3.cell 0
                    have c1 : wt.cell? ⟨q, 1, none⟩ = some (.string tx) := hbt3.cell 1
                    have c2 : wt.cell? ⟨q, 2, none⟩ = some (.int .i64 (a : Int)) := hbt3.cell 2
                    have hset := hwt.out
                    rw [← htx.out] at hset
                    have hqt := hbt3.lt
                    have hnp2 : np ≤ 1500 := by have := hnp.out; omega
                    go_wp2_with (
                      refine wpList_app el_tok _ rfl (.tmp 86) (.tmp 88) rfl B (.slice A5 np c5) np (rows pre) rfl (own_ext howt hxt) (some ⟨wt.heap.size, 0, none⟩) 1 1 [.int .i64 1, .string tx, .int .i64 (a : Int)] rfl (Rd.of_block wt 71 (0, 0) rfl) rfl (fun h => by cases h) h1c (by omega) (by omega) (by simp; omega) (fun V2 w5 ho5 hg5 hv5 => ?_))
                    have hx5 : Ext w w5 := Ext.then_grown (hxwt.trans hxt) hg5 (fun k hk => by have := (howt.lt k hk).1; have := hB.out; omega)
                    have hB5 : B < w5.heap.size := by have h9 := hg5.size; simp only [World.size_alloc] at h9; omega
                    refine (hskn w5).mono ?_
                    rintro e w6 ⟨rfl, hw6⟩
                    have hw6 := hw6.symm
                    subst hw6
                    go_wp2_with fail
                    go_roundw
                    case rel =>
                      refine ⟨pre ++ [tokAt s a], an, f, by go_num, hale, by omega, hts2, hwr', ?_, hx5, ?_⟩
                      · rw [hpl, hrw.out]; exact ho5
                      · exact hB5
                    case measure => simp [intOf]; omega
                · have hbt := byteAt_get s E (by omega)
                  have hlt2 : (E : Int) < (s.size : Int) := by omega
                  have hn2 := hnum (byteAt s E) wq
                  rw [hpf] at hn2
                  clear hpf hR
                  go_wp2_with fail
                  refine hn2.mono ?_
                  rintro e w5 ⟨rfl, hw5⟩
                  have hw5 := hw5.symm
                  subst hw5
                  clear hn2
                  by_cases hfull : np = 1500
                  · have hwe : words s = some (4096, 2) := by
                      rw [hwd, hts', wordsR_append, hwr.out]
                      simp only
                      rw [wordsR, if_neg (by show ¬ (tokAt s a).k < 0; rw [show (tokAt s a).k = kindOf (byteAt s a) from rfl, hkk]; decide), if_pos (by rw [Nat.zero_add, hnp.out]; exact hfull)]
                    have hpz := hq _ _ (⟨.slice none 0 0, _, _, rfl, .inl ⟨hwe, rfl⟩, hxq⟩)
                    subst hfull
                    clear hwe hts hts' hsk hlow hnum
                    go_wp2_with fail
                    refine bodyPost_ret (results_tmp3 rfl _ _ _) rfl ?_
                    exact hpz
                  · have hfi : ¬ (np : Int) = 1500 := by omega
                    have hsa : s.extract a E = (tokAt s a).s := by rw [← hE.out, ← hln.out]; rfl
                    have hwr' : Hid (wordsR (pre ++ [tokAt s a]) 0 = none) := Lib.hid (by rw [wordsR_append, hwr.out]; simp only; rw [wordsR, if_neg (by show ¬ (tokAt s a).k < 0; rw [show (tokAt s a).k = kindOf (byteAt s a) from rfl, hkk]; decide), if_neg (by rw [Nat.zero_add, hnp.out]; exact hfull)]; rfl)
                    have hskn := hsk E hle
                    obtain ⟨tx, htx⟩ : ∃ z, Hid (s.extract a E = z) := ⟨_, Lib.hid rfl⟩
                    rw [htx.out] at hsa
                    obtain ⟨an, han⟩ : ∃ z, Hid (skp s E = z) := ⟨_, Lib.hid rfl⟩
                    have hts2 : Hid (toks s = (pre ++ [tokAt s a]) ++ tokG s f an) := Lib.hid (by rw [hts', ← han.out, ← hE.out, ← hln.out, List.append_assoc]; rfl)
                    rw [han.out] at hskn
                    have hage : E ≤ an := by rw [← han.out]; exact skp_ge s _
                    have hale : an ≤ s.size := by rw [← han.out]; exact skp_le s _ hle
                    have hrw : Hid (rows (pre ++ [tokAt s a]) = rows pre ++ [.int .i64 1, .string tx, .int .i64 (a : Int)]) := Lib.hid (by rw [rows_snoc, hsa]; unfold tcells; rw [show (tokAt s a).k = 1 from hkk, show (tokAt s a).a = a from rfl])
                    have hpl : (pre ++ [tokAt s a]).length = np + 1 := by rw [List.length_append, hnp.out]; rfl
                    have hsl1 : (a : Int) ≤ (E : Int) := by omega
                    have hsl2 : (E : Int) ≤ (s.size : Int) := by omega
                    clear hts hts' hsa hfull hwr hsk hlow hnum hkk hwd
                    have howt := own_away how (Chg.one wq q 1 (.string tx)) (fun k hk e => hqn k hk e)
                    have hxwt : Ext w (wq.setCell ⟨q, 1, none⟩ (.string tx)) := hxq.setCell (by show w.heap.size ≤ q; have := hB.out; omega) _
                    have hbt3 : Blk (wq.setCell ⟨q, 1, none⟩ (.string tx)) q #[.int .i64 1, .string tx, .int .i64 (a : Int)] 71 := hbw.set 1 _
                    obtain ⟨wt, hwt⟩ : ∃ z, Hid (wq.setCell ⟨q, 1, none⟩ (.string tx) = z) := ⟨_, rfl⟩
                    rw [hwt.out] at howt hxwt hbt3
                    have hxt : Ext wt (wt.alloc (.cells #[.int .i64 1, .string tx, .int .i64 (a : Int)] 71)) := (Ext.refl wt).alloc _
                    have h1c : ∀ u ∈ ([.int .i64 1, .string tx, .int .i64 (a : Int)] : List Value), u.oneCell' = true := by
                      intro u hu
                      simp only [List.mem_cons, List.not_mem_nil, or_false] at hu
                      rcases hu with rfl | rfl | rfl <;> rfl
                    have c0 : wt.cell? ⟨q, 0, none⟩ = some (.int .i64 1) := hbt3.cell 0
                    have c1 : wt.cell? ⟨q, 1, none⟩ = some (.string tx) := hbt3.cell 1
                    have c2 : wt.cell? ⟨q, 2, none⟩ = some (.int .i64 (a : Int)) := hbt3.cell 2
                    have hset := hwt.out
                    rw [← htx.out] at hset
                    have hqt := hbt3.lt
                    have hnp2 : np ≤ 1500 := by have := hnp.out; omega
                    go_wp2_with (
                      refine wpList_app el_tok _ rfl (.tmp 86) (.tmp 88) rfl B (.slice A5 np c5) np (rows pre) rfl (own_ext howt hxt) (some ⟨wt.heap.size, 0, none⟩) 1 1 [.int .i64 1, .string tx, .int .i64 (a : Int)] rfl (Rd.of_block wt 71 (0, 0) rfl) rfl (fun h => by cases h) h1c (by omega) (by omega) (by simp; omega) (fun V2 w5 ho5 hg5 hv5 => ?_))
                    have hx5 : Ext w w5 := Ext.then_grown (hxwt.trans hxt) hg5 (fun k hk => by have := (howt.lt k hk).1; have := hB.out; omega)
                    have hB5 : B < w5.heap.size := by have h9 := hg5.size; simp only [World.size_alloc] at h9; omega
                    refine (hskn w5).mono ?_
                    rintro e w6 ⟨rfl, hw6⟩
                    have hw6 := hw6.symm
                    subst hw6
                    go_wp2_with fail
                    go_roundw
                    case rel =>
                      refine ⟨pre ++ [tokAt s a], an, f, by go_num, hale, by omega, hts2, hwr', ?_, hx5, ?_⟩
                      · rw [hpl, hrw.out]; exact ho5
                      · exact hB5
                    case measure => simp [intOf]; omega
          | false =>
            cases h3 : signP (byteAt s a) with
            | true =>
              rw [h1] at hlo hkz
              rw [h2] at hnu hkz
              have hsi := hsi
              rw [h3] at hsi hkz
              have hkk : kindOf (byteAt s a) = 2 := hkz
              have hl1 : ln = 1 := by rw [← hln.out, lenAt, h1, h2]; rfl
              obtain rfl : E = a + 1 := by have := hE.out; omega
              clear hl1
              have KK0 : (0 : Int) = 0 := rfl
              clear hkz
              rw [hnp.out] at ho ⊢
              go_wp2_with fail
              have hbq : Blk (wr.alloc (.cells #[.int .i64 0, .string ⟨#[]⟩, .int .i64 (a : Int)] 71)) q #[.int .i64 0, .string ⟨#[]⟩, .int .i64 (a : Int)] 71 := by rw [← hqs.out]; exact Blk.new wr _ _
              have hxq : Ext w (wr.alloc (.cells #[.int .i64 0, .string ⟨#[]⟩, .int .i64 (a : Int)] 71)) := hx.alloc _
              obtain ⟨w3, hw3⟩ : ∃ z, Hid (wr.alloc (.cells #[.int .i64 0, .string ⟨#[]⟩, .int .i64 (a : Int)] 71) = z) := ⟨_, rfl⟩
              have hx3 : Ext wr w3 := by rw [← hw3.out]; exact (Ext.refl wr).alloc _
              rw [hw3.out, hqs.out]
              rw [hw3.out] at hbq hxq
              have ho3 := own_ext ho hx3
              refine (hlo w3).mono ?_
              rintro e w4 ⟨rfl, hw4⟩
              have hw4 := hw4.symm
              subst hw4
              have g0 : w3.cell? ⟨q, 0, none⟩ = some (.int .i64 0) := hbq.cell 0
              have g1 := hbq.frozen 0
              clear hlo
              go_wp2_with fail
              refine (hnu w3).mono ?_
              rintro e w4 ⟨rfl, hw4⟩
              have hw4 := hw4.symm
              subst hw4
              clear hnu
              go_wp2_with fail
              refine (hsi w3).mono ?_
              rintro e w4 ⟨rfl, hw4⟩
              have hw4 := hw4.symm
              subst hw4
              clear hsi
              have hbw : Blk (w3.setCell ⟨q, 0, none⟩ (.int .i64 2)) q #[.int .i64 2, .string ⟨#[]⟩, .int .i64 (a : Int)] 71 := hbq.set 0 (.int .i64 2)
              have hqB : B ≤ q := by have := hqs.out; omega
              have hxw : Ext w (w3.setCell ⟨q, 0, none⟩ (.int .i64 2)) := hxq.setCell (by show w.heap.size ≤ q; have := hB.out; omega) _
              have how := own_away ho3 (Chg.one w3 q 0 (.int .i64 2)) (fun k hk e => by have := (ho.lt k hk).2; have := hqs.out; omega)
              have hqn : ∀ k, (Value.slice A5 np c5).ownBlock = some k → ¬ k = q := fun k hk e => by have := (ho.lt k hk).2; have := hqs.out; omega
              have p0 : (w3.setCell ⟨q, 0, none⟩ (.int .i64 2)).cell? ⟨q, 0, none⟩ = some (.int .i64 2) := hbw.cell 0
              have p1 : (w3.setCell ⟨q, 0, none⟩ (.int .i64 2)).cell? ⟨q, 1, none⟩ = some (.string ⟨#[]⟩) := hbw.cell 1
              have p2 : (w3.setCell ⟨q, 0, none⟩ (.int .i64 2)).cell? ⟨q, 2, none⟩ = some (.int .i64 (a : Int)) := hbw.cell 2
              have f1 := hbw.frozen 1
              have hqq : q < (w3.setCell ⟨q, 0, none⟩ (.int .i64 2)).heap.size := hbw.lt
              clear hbq hxq ho3 ho hx3 hx hw3
              have hxq := hxw
              by_cases hfull : np = 1500
              · have hwe : words s = some (4096, 2) := by
                  rw [hwd, hts', wordsR_append, hwr.out]
                  simp only
                  rw [wordsR, if_neg (by show ¬ (tokAt s a).k < 0; rw [show (tokAt s a).k = kindOf (byteAt s a) from rfl, hkk]; decide), if_pos (by rw [Nat.zero_add, hnp.out]; exact hfull)]
                have hpz := hq _ _ (⟨.slice none 0 0, _, _, rfl, .inl ⟨hwe, rfl⟩, hxq⟩)
                subst hfull
                clear hwe hts hts' hsk hlow hnum
                go_wp2_with fail
                refine bodyPost_ret (results_tmp3 rfl _ _ _) rfl ?_
                exact hpz
              · have hfi : ¬ (np : Int) = 1500 := by omega
                have hsa : s.extract a (a + 1) = (tokAt s a).s := by rw [← hE.out, ← hln.out]; rfl
                have hwr' : Hid (wordsR (pre ++ [tokAt s a]) 0 = none) := Lib.hid (by rw [wordsR_append, hwr.out]; simp only; rw [wordsR, if_neg (by show ¬ (tokAt s a).k < 0; rw [show (tokAt s a).k = kindOf (byteAt s a) from rfl, hkk]; decide), if_neg (by rw [Nat.zero_add, hnp.out]; exact hfull)]; rfl)
                have hskn := hsk (a + 1) hle
                obtain ⟨tx, htx⟩ : ∃ z, Hid (s.extract a (a + 1) = z) := ⟨_, Lib.hid rfl⟩
                rw [htx.out] at hsa
                obtain ⟨an, han⟩ : ∃ z, Hid (skp s (a + 1) = z) := ⟨_, Lib.hid rfl⟩
                have hts2 : Hid (toks s = (pre ++ [tokAt s a]) ++ tokG s f an) := Lib.hid (by rw [hts', ← han.out, ← hE.out, ← hln.out, List.append_assoc]; rfl)
                rw [han.out, show ((a + 1 : Nat) : Int) = (a : Int) + 1 by omega] at hskn
                have hage : a + 1 ≤ an := by rw [← han.out]; exact skp_ge s _
                have hale : an ≤ s.size := by rw [← han.out]; exact skp_le s _ hle
                have hrw : Hid (rows (pre ++ [tokAt s a]) = rows pre ++ [.int .i64 2, .string tx, .int .i64 (a : Int)]) := Lib.hid (by rw [rows_snoc, hsa]; unfold tcells; rw [show (tokAt s a).k = 2 from hkk, show (tokAt s a).a = a from rfl])
                have hpl : (pre ++ [tokAt s a]).length = np + 1 := by rw [List.length_append, hnp.out]; rfl
                have hsl1 : (a : Int) ≤ ((a : Int) + 1) := by omega
                have hsl2 : ((a : Int) + 1) ≤ (s.size : Int) := by omega
                clear hts hts' hsa hfull hwr hsk hlow hnum hkk hwd
                have howt := own_away how (Chg.one (w3.setCell ⟨q, 0, none⟩ (.int .i64 2)) q 1 (.string tx)) (fun k hk e => hqn k hk e)
                have hxwt : Ext w ((w3.setCell ⟨q, 0, none⟩ (.int .i64 2)).setCell ⟨q, 1, none⟩ (.string tx)) := hxq.setCell (by show w.heap.size ≤ q; have := hB.out; omega) _
                have hbt3 : Blk ((w3.setCell ⟨q, 0, none⟩ (.int .i64 2)).setCell ⟨q, 1, none⟩ (.string tx)) q #[.int .i64 2, .string tx, .int .i64 (a : Int)] 71 := hbw.set 1 _
                obtain ⟨wt, hwt⟩ : ∃ z, Hid ((w3.setCell ⟨q, 0, none⟩ (.int .i64 2)).setCell ⟨q, 1, none⟩ (.string tx) = z) := ⟨_, rfl⟩
                rw [hwt.out] at howt hxwt hbt3
                have hxt : Ext wt (wt.alloc (.cells #[.int .i64 2, .string tx, .int .i64 (a : Int)] 71)) := (Ext.refl wt).alloc _
                have h1c : ∀ u ∈ ([.int .i64 2, .string tx, .int .i64 (a : Int)] : List Value), u.oneCell' = true := by
                  intro u hu
                  simp only [List.mem_cons, List.not_mem_nil, or_false] at hu
                  rcases hu with rfl | rfl | rfl <;> rfl
                have c0 : wt.cell? ⟨q, 0, none⟩ = some (.int .i64 2) := hbt3.cell 0
                have c1 : wt.cell? ⟨q, 1, none⟩ = some (.string tx) := hbt3.cell 1
                have c2 : wt.cell? ⟨q, 2, none⟩ = some (.int .i64 (a : Int)) := hbt3.cell 2
                have hset := hwt.out
                rw [← htx.out] at hset
                have hqt := hbt3.lt
                have hnp2 : np ≤ 1500 := by have := hnp.out; omega
                go_wp2_with (
                  refine wpList_app el_tok _ rfl (.tmp 86) (.tmp 88) rfl B (.slice A5 np c5) np (rows pre) rfl (own_ext howt hxt) (some ⟨wt.heap.size, 0, none⟩) 1 1 [.int .i64 2, .string tx, .int .i64 (a : Int)] rfl (Rd.of_block wt 71 (0, 0) rfl) rfl (fun h => by cases h) h1c (by omega) (by omega) (by simp; omega) (fun V2 w5 ho5 hg5 hv5 => ?_))
                have hx5 : Ext w w5 := Ext.then_grown (hxwt.trans hxt) hg5 (fun k hk => by have := (howt.lt k hk).1; have := hB.out; omega)
                have hB5 : B < w5.heap.size := by have h9 := hg5.size; simp only [World.size_alloc] at h9; omega
                refine (hskn w5).mono ?_
                rintro e w6 ⟨rfl, hw6⟩
                have hw6 := hw6.symm
                subst hw6
                go_wp2_with fail
                go_roundw
                case rel =>
                  refine ⟨pre ++ [tokAt s a], an, f, by go_num, hale, by omega, hts2, hwr', ?_, hx5, ?_⟩
                  · rw [hpl, hrw.out]; exact ho5
                  · exact hB5
                case measure => simp [intOf]; omega
            | false =>
              rw [h1] at hlo hkz
              rw [h2] at hnu hkz
              rw [h3] at hsi hkz
              have hkk : kindOf (byteAt s a) = -1 := hkz
              have hwe : words s = some ((a : Int), 4) := by
                rw [hwd, hts', wordsR_append, hwr.out]
                simp only
                rw [wordsR, if_pos (by show (tokAt s a).k < 0; rw [show (tokAt s a).k = kindOf (byteAt s a) from rfl, hkk]; decide)]
                rfl
              have hxq : Ext w (wr.alloc (.cells #[.int .i64 0, .string ⟨#[]⟩, .int .i64 (a : Int)] 71)) := hx.alloc _
              have hpz := hq _ _ (⟨.slice none 0 0, _, _, rfl, .inl ⟨hwe, rfl⟩, hxq⟩)
              clear hwe hts hts' hsk hlow hnum hkk hkz hwd hwr
              go_wp2_with fail
              refine (hlo _).mono ?_
              rintro e w4 ⟨rfl, hw4⟩
              have hw4 := hw4.symm
              subst hw4
              go_wp2_with fail
              refine (hnu _).mono ?_
              rintro e w4 ⟨rfl, hw4⟩
              have hw4 := hw4.symm
              subst hw4
              go_wp2_with fail
              refine (hsi _).mono ?_
              rintro e w4 ⟨rfl, hw4⟩
              have hw4 := hw4.symm
              subst hw4
              go_wp2_with fail
              refine bodyPost_ret (results_tmp3 rfl _ _ _) rfl ?_
              exact hpz
      · have hnot : ¬ (a : Int) < (s.size : Int) := by omega
        have hae : a = s.size := by omega
        obtain ⟨f, rfl⟩ : ∃ g, f = g + 1 := ⟨f - 1, by omega⟩
        have hts' := hts.out
        rw [tokG_end s f a hal] at hts'
        obtain ⟨np, hnp⟩ : ∃ z, Hid (pre.length = z) := ⟨_, Lib.hid rfl⟩
        rw [hnp.out] at ho ⊢
        by_cases hfull : np = 1500
        · have hwe : words s = some (4096, 2) := by
            rw [hwd, hts', wordsR_append, hwr.out]
            simp only
            rw [wordsR, if_neg (show ¬ (3 : Int) < 0 by decide), if_pos (by rw [Nat.zero_add, hnp.out]; exact hfull)]
          have hpz := hq _ _ (⟨.slice none 0 0, _, _, rfl, .inl ⟨hwe, rfl⟩, hx⟩)
          subst hfull
          clear hwe hts hts' hsk hae
          go_wp2_with fail
          refine bodyPost_ret (results_tmp3 rfl _ _ _) rfl ?_
          exact hpz
        · have hfi : ¬ (np : Int) = 1500 := by omega
          have hwe : words s = none := by
            rw [hwd, hts', wordsR_append, hwr.out]
            simp only
            rw [wordsR, if_neg (show ¬ (3 : Int) < 0 by decide), if_neg (by rw [Nat.zero_add, hnp.out]; exact hfull)]
            rfl
          have hnp2 : np ≤ 1500 := by have := hnp.out; omega
          have hrw : Hid (rows (toks s) = rows pre ++ [.int .i64 3, .string ⟨#[]⟩, .int .i64 (s.size : Int)]) := Lib.hid (by rw [hts', rows_snoc]; rfl)
          have hpl : (toks s).length = np + 1 := by rw [hts', List.length_append, hnp.out]; rfl
          have h1c : ∀ u ∈ ([.int .i64 3, .string ⟨#[]⟩, .int .i64 (s.size : Int)] : List Value), u.oneCell' = true := by
            intro u hu
            simp only [List.mem_cons, List.not_mem_nil, or_false] at hu
            rcases hu with rfl | rfl | rfl <;> rfl
          have hxt : Ext wr (wr.alloc (.cells #[.int .i64 3, .string ⟨#[]⟩, .int .i64 (s.size : Int)] 71)) := (Ext.refl wr).alloc _
          clear hts hts' hsk hae hwr hwd hfull
          go_wp2_with (
            refine wpList_app el_tok _ rfl (.tmp 94) (.tmp 98) rfl B (.slice A5 np c5) np (rows pre) rfl (own_ext ho hxt) (some ⟨wr.heap.size, 0, none⟩) 1 1 [.int .i64 3, .string ⟨#[]⟩, .int .i64 (s.size : Int)] rfl (Rd.of_block wr 71 (0, 0) rfl) rfl (fun h => by cases h) h1c (by omega) (by omega) (by simp; omega) (fun V2 w5 ho5 hg5 hv5 => ?_))
          have hx5 : Ext w w5 := Ext.then_grown (hx.trans hxt) hg5 (fun k hk => by have := (ho.lt k hk).1; have := hB.out; omega)
          refine bodyPost_ret (results_tmp3 rfl _ _ _) rfl ?_
          rw [← hrw.out, ← hpl] at ho5
          exact hq _ _ ⟨_, _, _, rfl, .inr ⟨hwe, rfl, rfl, rt_of_own ho5 (toks_ne s)⟩, hx5⟩
end Go.Proofs.YtejcacbbhijdcaaGreatDoor.Lx
/- parse: the reference's reader in memory; its small steps. -/
namespace Go.Proofs.YtejcacbbhijdcaaGreatDoor.Pr
open Go.ChangeShapes Go.WideShapes Go.ChangeAt Go.RowKit
open Base Lx Mi
set_option linter.unusedVariables false
set_option linter.unusedSimpArgs false

/-- no two nodes' rows are one -/
def Ap (vs : List V3) : Prop := ∀ (i j : Nat) (a b : V3), vs[i]? = some a → vs[j]? = some b → i ≠ j → (∀ k, a.1.ownBlock = some k → ¬ b.1.ownBlock = some k) ∧ (∀ k, a.2.1.ownBlock = some k → ¬ b.2.1.ownBlock = some k) ∧ (∀ k, a.2.2.ownBlock = some k → ¬ b.2.2.ownBlock = some k)
structure Rq (B : Nat) (w : World) (R : Nat) (vl vn : Value) (vs : List V3) (L : List Tok) (q : QS) : Prop where
  blk : Blk w R #[vl, .int .i64 (q.at_ : Int), vn, .int .i64 (q.why : Int), .int .i64 (q.bad : Int)] 67
  toks : ∃ tg off cap, vl = .slice (some ⟨tg, off, none⟩) L.length cap ∧ Rd w (some ⟨tg, off, none⟩) (rows L) ∧ L.length ≤ cap ∧ cap ≤ maxLen ∧ tg < B
  nds : Nds B w q.ns vs vn
  lt : q.at_ < L.length
  tl : L.length ≤ 2000
  ts : ∀ t ∈ L, t.s.size ≤ 4096
  nl : q.ns.length ≤ 200
  hR : B ≤ R
  ap : Ap vs
/-- the blocks a reader writes into -/
def Wq (R : Nat) (vn : Value) : Nat → Prop := fun k => k = R ∨ vn.ownBlock = some k
theorem rows_at3 : ∀ (l : List Tok) (j : Nat) (x : Tok), l[j]? = some x → ∀ i, i < 3 → (rows l)[j * 3 + i]? = (tcells x)[i]?
  | [], j, x, h, i, hi => by simp at h
  | y :: l, 0, x, h, i, hi => by
    simp at h; subst h
    rw [rows, List.flatMap_cons, List.getElem?_append_left (by simp [tcells]; omega)]
    congr 1; omega
  | y :: l, j + 1, x, h, i, hi => by
    have ih := rows_at3 l j x (by simpa using h) i hi
    rw [rows, List.flatMap_cons, List.getElem?_append_right (by simp [tcells]; omega), ← ih]
    unfold rows
    congr 1
    simp [tcells]; omega
section
variable {B R : Nat} {vl vn : Value} {vs : List V3} {L : List Tok} {q : QS}
theorem Rq.ext {w w' : World} (h : Rq B w R vl vn vs L q) (hx : Ext w w') : Rq B w' R vl vn vs L q := by
  obtain ⟨tg, off, cap, e, h1, h2, h3, h4⟩ := h.toks
  exact ⟨h.blk.ext hx, ⟨tg, off, cap, e, h1.ext hx, h2, h3, h4⟩, h.nds.ext hx, h.lt, h.tl, h.ts, h.nl, h.hR, h.ap⟩
theorem Rq.sep {w : World} (h : Rq B w R vl vn vs L q) : ¬ vn.ownBlock = some R := fun e => own_ne_blk h.nds.row h.blk (by decide) e.symm
theorem Rq.ne {w : World} (h : Rq B w R vl vn vs L q) {B' : Nat} {e : TypeId} {size n : Nat} {v : Value} {xs : List Value} (ho : w.ownsRow B' e size v n xs) (hne : e ≠ 67) : ∀ k, v.ownBlock = some k → ¬ k = R := fun k hk e => own_ne_blk ho h.blk hne (by rw [← e]; exact hk.symm)
/-- the reader's own cells turned -/
theorem Rq.cells {w w' : World} {at_ why bad : Nat} (h : Rq B w R vl vn vs L q) (hch : Chg (fun k => k = R) w w') (hb : Blk w' R #[vl, .int .i64 (at_ : Int), vn, .int .i64 (why : Int), .int .i64 (bad : Int)] 67) (hlt : at_ < L.length) : Rq B w' R vl vn vs L ⟨at_, q.ns, why, bad⟩ := by
  obtain ⟨tg, off, cap, e, h1, h2, h3, h4⟩ := h.toks
  have hn := h.ne h.nds.row (by decide)
  exact ⟨hb, ⟨tg, off, cap, e, Rd.chg h1 hch (fun a e => by injection e with e; subst e; have := h.hR; show ¬ tg = R; omega), h2, h3, h4⟩,
    ⟨h.nds.len, own_chg h.nds.row hch hn, fun i d v q1 q2 => by
      have hs := h.nds.sub i d v q1 q2
      exact hs.chg hch (h.ne hs.syms (by decide)) (h.ne hs.items (by decide)) (h.ne hs.fields (by decide))⟩, hlt, h.tl, h.ts, h.nl, h.hR, h.ap⟩
/-- the token that stands there -/
theorem Rq.head {w : World} (h : Rq B w R vl vn vs L q) : ∃ tg off cap, vl = .slice (some ⟨tg, off, none⟩) L.length cap ∧ L.length ≤ cap ∧ cap ≤ maxLen ∧ ∀ W, Ext w W → W.cell? ⟨tg, off + q.at_ * 3, none⟩ = some (.int .i64 (tkQ L q).k) ∧ W.cell? ⟨tg, off + q.at_ * 3 + 1, none⟩ = some (.string (tkQ L q).s) ∧ W.cell? ⟨tg, off + q.at_ * 3 + 2, none⟩ = some (.int .i64 ((tkQ L q).a : Int)) := by
  obtain ⟨tg, off, cap, e, h1, h2, h3, h4⟩ := h.toks
  refine ⟨tg, off, cap, e, h2, h3, fun W hW => ?_⟩
  have hl := h.lt
  have hx : L[q.at_]? = some (tkQ L q) := by unfold tkQ; rw [List.getD, List.getElem?_eq_getElem hl]; rfl
  have hr := fun i hi => rows_at3 L q.at_ _ hx i hi
  have hne : rows L ≠ [] := by intro e; have := hr 0 (by omega); rw [e] at this; simp [tcells] at this
  obtain ⟨b, o, e2, hc⟩ := (h1.ext hW) hne
  simp only [Option.some.injEq, Addr.mk.injEq, and_true] at e2
  obtain ⟨rfl, rfl⟩ := e2
  refine ⟨?_, ?_, ?_⟩
  · have := hc (q.at_ * 3 + 0) _ (hr 0 (by omega)); rwa [show off + (q.at_ * 3 + 0) = off + q.at_ * 3 by omega] at this
  · have := hc (q.at_ * 3 + 1) _ (hr 1 (by omega)); rwa [show off + (q.at_ * 3 + 1) = off + q.at_ * 3 + 1 by omega] at this
  · have := hc (q.at_ * 3 + 2) _ (hr 2 (by omega)); rwa [show off + (q.at_ * 3 + 2) = off + q.at_ * 3 + 2 by omega] at this
theorem Rq.size {w : World} (h : Rq B w R vl vn vs L q) : (tkQ L q).s.size ≤ 4096 := by
  refine h.ts _ ?_
  unfold tkQ
  rw [List.getD, List.getElem?_eq_getElem h.lt]
  exact List.getElem_mem h.lt

theorem resTok {w : World} {tmps : Array Value} {a : Nat} {x y z : Value} (ha : tmps[2]?.getD undef = .pointer (some ⟨a, 0, none⟩)) (h0 : w.cell? ⟨a, 0, none⟩ = some x) (h1 : w.cell? ⟨a, 1, none⟩ = some y) (h2 : w.cell? ⟨a, 2, none⟩ = some z) : (results Tryz.f28 tmps).run Tryz.prog w = .ok (.agg #[x, y, z]) w := by
  simp [results, Tryz.f28, go_sem, ha, h0, h1, h2]
def tokV (t : Tok) : Value := .agg #[.int .i64 t.k, .string t.s, .int .i64 (t.a : Int)]
set_option maxRecDepth 100000 in
theorem tok_any (w : World) (h : Rq B w R vl vn vs L q) : Calls Tryz.prog 28 #[.pointer (some ⟨R, 0, none⟩)] w fun e w' => e = .returned (tokV (tkQ L q)) ∧ Ext w w' := by
  obtain ⟨g, hg⟩ : ∃ z, Hid (w.heap.size = z) := ⟨_, rfl⟩
  obtain ⟨w1, hw1⟩ : ∃ z, Hid (w.alloc (.cells #[.int .i64 0, .string ⟨#[]⟩, .int .i64 0] 71) = z) := ⟨_, rfl⟩
  have hx1 : Ext w w1 := by rw [← hw1.out]; exact (Ext.refl w).alloc _
  have hb1 : Blk w1 g #[.int .i64 0, .string ⟨#[]⟩, .int .i64 0] 71 := by rw [← hw1.out, ← hg.out]; exact Blk.new w _ _
  have h1 := h.ext hx1
  go_enter Tryz.func28, Tryz.ntmps28
  go_wp2_with fail
  rw [hw1.out, hg.out]
  refine Reg.startX (R := Ext) (by kernel_rfl) ?_
  have hRl := Reg.rl_ext
  generalize hwq : World.drew _ = wq
  have hxq : Ext w1 wq := by rw [← hwq]; exact (Ext.refl w1).drew
  clear hwq
  have hq := h1.ext hxq
  have hbq := hb1.ext hxq
  obtain ⟨tg, off, cap, rfl, hnc, hcm, hh⟩ := hq.head
  have hlt := hq.lt
  obtain ⟨n, hn⟩ : ∃ z, Hid (L.length = z) := ⟨_, rfl⟩
  obtain ⟨t, ht⟩ : ∃ z, Hid (tkQ L q = z) := ⟨_, rfl⟩
  rw [hn.out] at hnc hlt
  rw [ht.out] at hh
  obtain ⟨i, hi⟩ : ∃ z, Hid (q.at_ = z) := ⟨_, rfl⟩
  rw [hi.out] at hlt
  have c0 : ∀ W, Ext wq W → W.cell? ⟨R, 0, none⟩ = some (.slice (some ⟨tg, off, none⟩) n cap) := fun W hW => by rw [← hn.out]; exact (hq.blk.ext hW).cell 0
  have c1 : ∀ W, Ext wq W → W.cell? ⟨R, 1, none⟩ = some (.int .i64 (i : Int)) := fun W hW => by rw [← hi.out]; exact (hq.blk.ext hW).cell 1
  have k0 : ∀ W, Ext wq W → W.cell? ⟨tg, off + i * 3, none⟩ = some (.int .i64 t.k) := fun W hW => by rw [← hi.out]; exact (hh W hW).1
  have k1 : ∀ W, Ext wq W → W.cell? ⟨tg, off + i * 3 + 1, none⟩ = some (.string t.s) := fun W hW => by rw [← hi.out]; exact (hh W hW).2.1
  have k2 : ∀ W, Ext wq W → W.cell? ⟨tg, off + i * 3 + 2, none⟩ = some (.int .i64 (t.a : Int)) := fun W hW => by rw [← hi.out]; exact (hh W hW).2.2
  have hlt' : (i : Int) < (n : Int) := by omega
  have hin : (0 : Int) ≤ (i : Int) := by omega
  have d0 : wq.cell? ⟨g, 0, none⟩ = some (.int .i64 0) := hbq.cell 0
  have d1 : wq.cell? ⟨g, 1, none⟩ = some (.string ⟨#[]⟩) := hbq.cell 1
  have d2 : wq.cell? ⟨g, 2, none⟩ = some (.int .i64 0) := hbq.cell 2
  have f0 := hbq.frozen 0
  have f1 := hbq.frozen 1
  have f2 := hbq.frozen 2
  have hsz : w.heap.size ≤ g := by rw [hg.out]; exact Nat.le_refl _
  clear hh
  refine Reg.tx hRl 0 ?_; (try simp only [Reg.n1, Reg.n2, Reg.n3, Reg.n4, Reg.n5, Reg.n6, Reg.n7])
  refine Reg.tx hRl 1 ?_; (try simp only [Reg.n1, Reg.n2, Reg.n3, Reg.n4, Reg.n5, Reg.n6, Reg.n7])
  refine Reg.tx hRl 2 ?_; (try simp only [Reg.n1, Reg.n2, Reg.n3, Reg.n4, Reg.n5, Reg.n6, Reg.n7])
  refine Reg.tx hRl 3 ?_; (try simp only [Reg.n1, Reg.n2, Reg.n3, Reg.n4, Reg.n5, Reg.n6, Reg.n7])
  refine Reg.tx hRl 4 ?_; (try simp only [Reg.n1, Reg.n2, Reg.n3, Reg.n4, Reg.n5, Reg.n6, Reg.n7])
  refine Reg.tx hRl 5 ?_; (try simp only [Reg.n1, Reg.n2, Reg.n3, Reg.n4, Reg.n5, Reg.n6, Reg.n7])
  refine Reg.tx hRl 6 ?_; (try simp only [Reg.n1, Reg.n2, Reg.n3, Reg.n4, Reg.n5, Reg.n6, Reg.n7])
  refine Reg.tx hRl 7 ?_; (try simp only [Reg.n1, Reg.n2, Reg.n3, Reg.n4, Reg.n5, Reg.n6, Reg.n7])
  refine Reg.tx hRl 8 ?_; (try simp only [Reg.n1, Reg.n2, Reg.n3, Reg.n4, Reg.n5, Reg.n6, Reg.n7])
  refine Reg.tx hRl 9 ?_; (try simp only [Reg.n1, Reg.n2, Reg.n3, Reg.n4, Reg.n5, Reg.n6, Reg.n7])
  refine Reg.lastX 10 _ rfl (by kernel_rfl) (by kernel_rfl) (by kernel_rfl) (by decide) (by rfl) (fun K hK => ?_)
  go_simp
  refine hK.out _ _ ?_; clear hK K; (try simp only [Reg.n1, Reg.n2, Reg.n3, Reg.n4, Reg.n5, Reg.n6, Reg.n7])
  have hbF : Blk (((wq.setCell ⟨g, 0, none⟩ (.int .i64 t.k)).setCell ⟨g, 1, none⟩ (.string t.s)).setCell ⟨g, 2, none⟩ (.int .i64 (t.a : Int))) g #[.int .i64 t.k, .string t.s, .int .i64 (t.a : Int)] 71 := ((hbq.set 0 _).set 1 _).set 2 _
  have hxF : Ext w (((wq.setCell ⟨g, 0, none⟩ (.int .i64 t.k)).setCell ⟨g, 1, none⟩ (.string t.s)).setCell ⟨g, 2, none⟩ (.int .i64 (t.a : Int))) := (((hx1.trans hxq).setCell hsz _).setCell hsz _).setCell hsz _
  go_wp2_with fail
  refine bodyPost_ret (resTok rfl (hbF.cell 0) (hbF.cell 1) (hbF.cell 2)) rfl ?_
  exact ⟨by rw [ht.out]; rfl, hxF⟩
end
end Go.Proofs.YtejcacbbhijdcaaGreatDoor.Pr
