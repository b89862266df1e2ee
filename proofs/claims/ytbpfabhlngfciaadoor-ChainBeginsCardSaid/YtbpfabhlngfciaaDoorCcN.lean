/- chain: entries put, walked. -/
import Derived.Test.YtbpfabhlngfciaaDoorCcM
import Derived.Deep.Upon
import Derived.Deep.AppendSrc
namespace Go.Proofs.YtbpfabhlngfciaaDoor.Ch
open Go.ChangeShapes Go.WideShapes Go.ChangeAt Go.RowKit
open Base Pf Cn Pr Lx Mi
set_option linter.unusedVariables false
set_option linter.unusedSimpArgs false

def entV (e : Et) : Value := .agg #[.bool e.pol, .int .i64 e.p, .string e.s, .int .u64 (e.id : Int)]
structure EtOk (e : Et) : Prop where
  p1 : -9223372036854775808 ≤ e.p
  p2 : e.p ≤ 9223372036854775807
  s1 : e.s.size ≤ 140737488351232
  id1 : e.id < 18446744073709551616
theorem str_em {s : ByteArray} (h : s = ⟨#[]⟩) : (s.toList == ([] : List UInt8)) = true ∧ s.toList.isEmpty = true ∧ s.toList = [] := by
  subst h
  have h : (⟨#[]⟩ : ByteArray).toList = [] := by rw [ByteArray.toList_eq]
  simp [h]
theorem str_ne0 {s : ByteArray} (h : ¬ s = ⟨#[]⟩) : (s.toList == ([] : List UInt8)) = false ∧ s.toList.isEmpty = false ∧ ¬ s.toList = [] := by
  have h1 : ¬ s.toList = [] := by
    intro e
    rw [ByteArray.toList_eq] at e
    apply h
    cases s
    simp at e
    subst e
    rfl
  refine ⟨by simpa using h1, by simpa using h1, h1⟩
set_option maxRecDepth 100000 in
set_option maxHeartbeats 1000000 in
theorem can_any (e : Et) (he : EtOk e) (w : World) (hwd : Wd w) (hpow : Pow w) : Calls Tryd.prog 15 #[entV e] w fun en w' => en = .returned (.bool (canP e)) ∧ Ext w w' := by
  obtain ⟨p1, p2, s1, id1⟩ := he
  have hcan : canP e = if e.pol = true then decide (0 ≤ e.p) && decide (e.p < 7) && decide (e.s = ⟨#[]⟩) && decide (e.id = 0) else decide (e.p = 0) && decide (1 ≤ e.id) && decide (e.id ≤ 2147483647) && isP e.s := rfl
  obtain ⟨R, hR⟩ : ∃ z, Hid (canP e = z) := ⟨_, Lib.hid rfl⟩
  rw [hR.out] at hcan ⊢
  obtain ⟨pol, p, s, id⟩ := e
  unfold entV
  simp only at *
  obtain ⟨w1, hw1⟩ : ∃ z, Hid (w.alloc (.cells #[.bool pol, .int .i64 p, .string s, .int .u64 (id : Int)] 27) = z) := ⟨_, rfl⟩
  have hx1 : Ext w w1 := by rw [← hw1.out]; exact (Ext.refl w).alloc _
  have his := cIs_any s (by omega) w1 (hwd.ext hx1) (hpow.ext hx1)
  obtain ⟨b, hb⟩ : ∃ z, Hid (isP s = z) := ⟨_, Lib.hid rfl⟩
  rw [hb.out] at his hcan
  have hi0 : (0 : Int) ≤ (id : Int) := by omega
  clear p1 p2 s1 id1
  cases pol with
  | true =>
    rw [if_pos rfl] at hcan
    clear his
    by_cases q1 : 0 ≤ p
    · by_cases q2 : p < 7
      · by_cases q3 : s = ⟨#[]⟩
        · obtain ⟨z1, z2, z3⟩ := str_em q3
          by_cases q4 : id = 0
          · have hR1 : R = true := by rw [hcan]; simp [q1, q2, q3, q4]
            subst hR1
            subst q4
            subst q3
            clear hcan
            go_enter Tryd.func15, Tryd.ntmps15
            go_wp2_with fail
            go_ret
            exact ⟨rfl, (Ext.refl w).alloc _⟩
          · have hR1 : R = false := by rw [hcan]; simp [q4]
            subst hR1
            have q4b : ((id : Int) == 0) = false := by simpa using (by omega : ¬ (id : Int) = 0)
            have q4c : ¬ (id : Int) = 0 := by omega
            subst q3
            clear hcan
            go_enter Tryd.func15, Tryd.ntmps15
            go_wp2_with fail
            go_ret
            exact ⟨rfl, (Ext.refl w).alloc _⟩
        · obtain ⟨z1, z2, z3⟩ := str_ne0 q3
          have hR1 : R = false := by rw [hcan]; simp [q3]
          subst hR1
          clear q3 hcan
          go_enter Tryd.func15, Tryd.ntmps15
          go_wp2_with fail
          go_ret
          exact ⟨rfl, (Ext.refl w).alloc _⟩
      · have hR1 : R = false := by rw [hcan]; simp [q2]
        subst hR1
        clear hcan
        go_enter Tryd.func15, Tryd.ntmps15
        go_wp2_with fail
        go_ret
        exact ⟨rfl, (Ext.refl w).alloc _⟩
    · have hR1 : R = false := by rw [hcan]; simp [q1]
      subst hR1
      clear hcan
      go_enter Tryd.func15, Tryd.ntmps15
      go_wp2_with fail
      go_ret
      exact ⟨rfl, (Ext.refl w).alloc _⟩
  | false =>
    rw [if_neg (by decide)] at hcan
    by_cases q1 : p = 0
    · subst q1
      by_cases q2 : 1 ≤ id
      · have q2i : (1 : Int) ≤ (id : Int) := by omega
        by_cases q3 : id ≤ 2147483647
        · have q3i : (id : Int) ≤ 2147483647 := by omega
          have hR1 : R = b := by rw [hcan]; simp [q2, q3]
          subst hR1
          clear hcan
          go_enter Tryd.func15, Tryd.ntmps15
          go_wp2_with fail
          rw [hw1.out]
          refine his.mono ?_
          rintro en w2 ⟨rfl, hx2⟩
          go_wp2_with fail
          go_ret
          exact ⟨rfl, hx1.trans hx2⟩
        · have q3i : ¬ (id : Int) ≤ 2147483647 := by omega
          have hR1 : R = false := by rw [hcan]; simp [q3]
          subst hR1
          clear hcan his
          go_enter Tryd.func15, Tryd.ntmps15
          go_wp2_with fail
          go_ret
          exact ⟨rfl, (Ext.refl w).alloc _⟩
      · have q2i : ¬ (1 : Int) ≤ (id : Int) := by omega
        have hR1 : R = false := by rw [hcan]; simp [q2]
        subst hR1
        clear hcan his
        go_enter Tryd.func15, Tryd.ntmps15
        go_wp2_with fail
        go_ret
        exact ⟨rfl, (Ext.refl w).alloc _⟩
    · have hR1 : R = false := by rw [hcan]; simp [q1]
      subst hR1
      have q1b : ((p : Int) == 0) = false := by simpa using q1
      clear hcan his
      go_enter Tryd.func15, Tryd.ntmps15
      go_wp2_with fail
      go_ret
      exact ⟨rfl, (Ext.refl w).alloc _⟩
theorem Can_any (e : Et) (he : EtOk e) (w : World) (hwd : Wd w) (hpow : Pow w) : Calls Tryd.prog 13 #[entV e] w fun en w' => en = .returned (.bool (canP e)) ∧ Ext w w' := by
  obtain ⟨w1, hw1⟩ : ∃ z, Hid (w.alloc (.cells #[.bool e.pol, .int .i64 e.p, .string e.s, .int .u64 (e.id : Int)] 27) = z) := ⟨_, rfl⟩
  have hx1 : Ext w w1 := by rw [← hw1.out]; exact (Ext.refl w).alloc _
  have hc := can_any e he w1 (hwd.ext hx1) (hpow.ext hx1)
  obtain ⟨b, hb⟩ : ∃ z, Hid (canP e = z) := ⟨_, Lib.hid rfl⟩
  rw [hb.out] at hc ⊢
  obtain ⟨pol, p, s, id⟩ := e
  unfold entV at hc ⊢
  simp only at *
  go_enter Tryd.func13, Tryd.ntmps13
  go_wp2_with fail
  rw [hw1.out]
  refine hc.mono ?_
  rintro en w2 ⟨rfl, hx2⟩
  go_wp2_with fail
  go_ret
  exact ⟨rfl, hx1.trans hx2⟩
set_option maxRecDepth 100000 in
set_option maxHeartbeats 1000000 in
theorem put_any (B : Nat) (v : Value) (l : List UInt8) (e : Et) (w : World) (ho : Ow B w v l) (hB : B ≤ w.heap.size) (hc : canP e = true) (hm : l.length ≤ 140737488300000) :
    Calls Tryd.prog 16 #[v, entV e] w fun en w' => ∃ v', en = .returned v' ∧ Ow B w' v' (l ++ bytesP e) ∧ Below B w w' := by
  obtain ⟨w1, hw1⟩ : ∃ z, Hid (w.alloc (.cells #[.bool e.pol, .int .i64 e.p, .string e.s, .int .u64 (e.id : Int)] 27) = z) := ⟨_, rfl⟩
  obtain ⟨q, hq⟩ : ∃ z, Hid (w.heap.size = z) := ⟨_, rfl⟩
  have hx1 : Ext w w1 := by rw [← hw1.out]; exact (Ext.refl w).alloc _
  have hbk1 : Blk w1 q #[.bool e.pol, .int .i64 e.p, .string e.s, .int .u64 (e.id : Int)] 27 := by rw [← hw1.out, ← hq.out]; exact Blk.new w _ _
  have ho1 := own_ext ho hx1
  have hB1 : B ≤ w1.heap.size := Nat.le_trans hB hx1.size
  obtain ⟨A, cap, rfl⟩ := own_shape ho
  obtain ⟨m, hml⟩ : ∃ z, Hid (l.length = z) := ⟨_, rfl⟩
  rw [hml.out] at ho1 hm ⊢
  by_cases hp : e.pol = true
  · obtain ⟨h1, h2, h3, h4⟩ := can_pol hp hc
    have hby : bytesP e = [UInt8.ofNat (e.p.toNat + 1)] := by unfold bytesP; rw [if_pos hp]
    rw [hby]
    obtain ⟨pol, p, s, id⟩ := e
    unfold entV
    simp only at *
    subst hp
    obtain ⟨k, rfl⟩ : ∃ k : Nat, p = (k : Int) := ⟨p.toNat, by omega⟩
    rw [Int.toNat_natCast]
    have hk7 : k < 7 := by omega
    have hadd : IntKind.i64.wrap (1 + (k : Int)) = 1 + (k : Int) := by rw [IntKind.wrap_i64]; omega
    have hcv : (1 + (k : Int)) % 256 = 1 + (k : Int) := by omega
    have hcv2 : IntKind.u8.wrap (1 + (k : Int)) = 1 + (k : Int) := by
      have : IntKind.u8.wrap (1 + (k : Int)) = (1 + (k : Int)) % 256 := by rfl
      rw [this]; omega
    have hu : u8s [UInt8.ofNat (k + 1)] = [1 + (k : Int)].map (Value.int .u8) := by
      simp only [u8s, List.map_cons, List.map_nil, List.cons.injEq, Value.int.injEq, true_and, and_true]
      rw [UInt8.toNat_ofNat_of_lt' (by show _ < 256; omega)]
      omega
    have hrow : u8s (l ++ [UInt8.ofNat (k + 1)]) = u8s l ++ [1 + (k : Int)].map (Value.int .u8) := by rw [u8s_append, hu]
    have hlen : (l ++ [UInt8.ofNat (k + 1)]).length = m + 1 := by rw [List.length_append, hml.out]; rfl
    unfold Ow
    rw [hrow, hlen]
    have ho1' := ho1
    rw [← hw1.out] at ho1'
    have hom : w.ownsRow B 5 1 (.slice A m cap) m (u8s l) := by rw [← hml.out]; exact ho
    have hB1' : B ≤ (w.alloc (.cells #[.bool true, .int .i64 (k : Int), .string s, .int .u64 (id : Int)] 27)).heap.size := by rw [hw1.out]; exact hB1
    have hxx : Ext w (w.alloc (.cells #[.bool true, .int .i64 (k : Int), .string s, .int .u64 (id : Int)] 27)) := by rw [hw1.out]; exact hx1
    have hrd : Rd ((w.alloc (.cells #[.bool true, .int .i64 (k : Int), .string s, .int .u64 (id : Int)] 27)).alloc (.cells #[.int .u8 (1 + (k : Int))] 5)) (some ⟨w.heap.size + 1, 0, none⟩) ([1 + (k : Int)].map (Value.int .u8)) := by
      have := Rd.of_block (w.alloc (.cells #[.bool true, .int .i64 (k : Int), .string s, .int .u64 (id : Int)] 27)) 5 (0, 0) (cs := #[.int .u8 (1 + (k : Int))]) (l := [1 + (k : Int)].map (Value.int .u8)) rfl
      simpa using this
    clear hrow hlen hu hby h3 h4 hq hw1
    go_enter Tryd.func16, Tryd.ntmps16
    go_wp2_with (
      refine wpList_app el8 _ rfl (.tmp 7) (.tmp 12) rfl B (.slice A m cap) m (u8s l) rfl (own_ext ho1' ((Ext.refl _).alloc _)) (some ⟨w.heap.size + 1, 0, none⟩) 1 1 ([1 + (k : Int)].map (Value.int .u8)) rfl hrd rfl (fun h => by cases h) (ints8_one _) (by omega) (by omega) (by simp; omega) (fun V2 w2 ho2 hg2 hv2 => ?_))
    go_ret
    exact ⟨_, rfl, ho2, grw hB hom (hxx.alloc _) hg2⟩
  · obtain ⟨h1, h2, h3, h4⟩ := can_txt hp hc
    have hsz := isP_size h4
    have hby : bytesP e = 0 :: (encN e.id ++ encT (bs e.s)) := by unfold bytesP; rw [if_neg hp]
    have hel : (encN e.id).length ≤ 8 := by rcases encN_length e.id with h | h; exact h; omega
    rw [hby, show l ++ 0 :: (encN e.id ++ encT (bs e.s)) = ((l ++ [0]) ++ encN e.id) ++ encT (bs e.s) by simp]
    have hp' : e.pol = false := by simpa using hp
    obtain ⟨pol, p, s, id⟩ := e
    unfold entV
    simp only at *
    subst hp'
    obtain ⟨S, hSd⟩ : ∃ S : Nat → Prop, Hid (S = fun k => (Value.slice A m cap).ownBlock = some k) := ⟨_, Lib.hid rfl⟩
    have hSr : ∀ k, (Value.slice A m cap).ownBlock = some k → S k := fun k hk => by rw [hSd.out]; exact hk
    have hSq : ¬ S q := fun e => by
      rw [hSd.out] at e
      exact own_ne_blk ho1 hbk1 (by decide) e.symm
    have hSB : ∀ k, S k → B ≤ k := fun k e => by
      rw [hSd.out] at e
      exact (ho1.lt k e).1
    obtain ⟨PO, hPO⟩ : ∃ PO : Ending → World → Prop, Hid ((fun en w' => ∃ v', en = .returned v' ∧ Ow B w' v' (((l ++ [0]) ++ encN id) ++ encT (bs s)) ∧ Below B w w') = PO) := ⟨_, Lib.hid rfl⟩
    rw [hPO.out]
    have hfin : ∀ v' w', Ow B w' v' (((l ++ [0]) ++ encN id) ++ encT (bs s)) → Below B w w' → PO (.returned v') w' := fun v' w' q1 q2 => by rw [← hPO.out]; exact ⟨v', rfl, q1, q2⟩
    clear hPO h1 hp hby ho
    go_enter Tryd.func16, Tryd.ntmps16
    go_wp2_with fail
    rw [hw1.out, hq.out]
    refine Reg.startX (R := Chg S) (by kernel_rfl) ?_
    have hRl := Reg.rl_chg S
    generalize hwq : World.drew _ = wq
    have hxq : Ext w1 wq := by rw [← hwq]; exact (Ext.refl w1).drew
    clear hwq
    have hbq := hbk1.ext hxq
    have hoq := own_ext ho1 hxq
    have hBq : B ≤ wq.heap.size := Nat.le_trans hB1 hxq.size
    have r3 : ∀ W, Chg S wq W → W.cell? ⟨q, 3, none⟩ = some (.int .u64 (id : Int)) := fun W hW => hW.cell (p := ⟨q, 3, none⟩) (hbq.cell 3) hSq
    refine Reg.tx hRl 0 ?_; (try simp only [Reg.n1, Reg.n2, Reg.n3, Reg.n4, Reg.n5, Reg.n6, Reg.n7])
    refine Reg.tx hRl 3 ?_; (try simp only [Reg.n1, Reg.n2, Reg.n3, Reg.n4, Reg.n5, Reg.n6, Reg.n7])
    refine Reg.tx hRl 4 ?_; (try simp only [Reg.n1, Reg.n2, Reg.n3, Reg.n4, Reg.n5, Reg.n6, Reg.n7])
    refine Reg.onlyX 1 _ rfl (by kernel_rfl) (by decide) (by rfl) (fun K hK => ?_); go_simp
    have ha : Ext wq (wq.alloc (.cells #[.int .u8 0] 5)) := (Ext.refl wq).alloc _
    refine hK.out _ _ (Chg.ofExt ha) ?_; clear hK K; (try simp only [Reg.n1, Reg.n2, Reg.n3, Reg.n4, Reg.n5, Reg.n6, Reg.n7])
    refine Reg.onlyX 2 _ rfl (by kernel_rfl) (by decide) (by rfl) (fun K hK => ?_)
    refine wp_app el8 _ (.tmp 15) (.tmp 16) rfl B (.slice A m cap) m (u8s l) rfl (own_ext hoq ha) (some ⟨wq.heap.size, 0, none⟩) 1 1 ([(0 : Int)].map (Value.int .u8)) rfl (Rd.of_block wq 5 (0, 0) rfl) rfl (fun h => by cases h) (ints8_one _) (by omega) (by omega) (by simp; omega) ?_
    intro V2 w4 ho4 hg4 hv4
    obtain ⟨A6, c6, rfl, jj1, jj2, jj3, jj4⟩ := Rd.of_own ho4
    have hch3 : Chg S (wq.alloc (.cells #[.int .u8 0] 5)) w4 := (Chg.ofGrown hg4).mono fun k _ e => hSr k e
    have hch4 : Chg S wq w4 := (Chg.ofExt ha).trans hch3 (fun _ _ e => e)
    have hrow : u8s l ++ [(0 : Int)].map (Value.int .u8) = u8s (l ++ [0]) := by rw [u8s_append]; rfl
    rw [hrow] at jj3 ho4
    have hrb : Rb w4 A6 (l ++ [0]) := jj3
    have hA6 : A6 = none → c6 = 0 := own_none ho4
    refine hK.out _ _ hch3 ?_
    clear hK K jj1 jj2 jj3 jj4 hv4
    (try simp only [Reg.n1, Reg.n2, Reg.n3, Reg.n4, Reg.n5, Reg.n6, Reg.n7])
    refine Reg.onlyX 5 _ rfl (by kernel_rfl) (by decide) (by rfl) (fun K hK => ?_); go_simp
    have hput := Put_any A6 (m + 1) c6 (l ++ [0]) id w4 hrb (by rw [List.length_append, hml.out]; rfl) hA6 (by omega) (by omega)
    rw [if_pos (by omega), if_pos (by omega)] at hput
    refine hput.mono ?_
    rintro en w5 ⟨v5, rfl, ho5, hX5⟩
    refine hK.out _ _ (Chg.ofExt hX5) ?_; clear hK K; (try simp only [Reg.n1, Reg.n2, Reg.n3, Reg.n4, Reg.n5, Reg.n6, Reg.n7])
    refine Reg.tx hRl 6 ?_; (try simp only [Reg.n1, Reg.n2, Reg.n3, Reg.n4, Reg.n5, Reg.n6, Reg.n7])
    refine Reg.tx hRl 7 ?_; (try simp only [Reg.n1, Reg.n2, Reg.n3, Reg.n4, Reg.n5, Reg.n6, Reg.n7])
    refine Reg.tx hRl 8 ?_; (try simp only [Reg.n1, Reg.n2, Reg.n3, Reg.n4, Reg.n5, Reg.n6, Reg.n7])
    refine Reg.tx hRl 9 ?_; (try simp only [Reg.n1, Reg.n2, Reg.n3, Reg.n4, Reg.n5, Reg.n6, Reg.n7])
    refine Reg.finX (by kernel_rfl) ?_
    have hlow5 : Below B w w5 := (Below.mono (hx1.trans hxq) hB).trans (Below.trans ⟨hch4.os, hch4.tape, hch4.output, hch4.size, fun k hk => hch4.block k (by omega) (fun e => by have := hSB k e; omega)⟩ (Below.mono hX5 (Nat.le_trans hBq hch4.size)))
    have hbk5 : Blk w5 q #[.bool false, .int .i64 p, .string s, .int .u64 (id : Int)] 27 := (hch4.blk hbq hSq).ext hX5
    obtain ⟨E, hE⟩ : ∃ z, Hid (l ++ [0] ++ encN id = z) := ⟨_, Lib.hid rfl⟩
    have hEl : E.length ≤ m + 9 := by rw [← hE.out, List.length_append, List.length_append, hml.out]; simp only [List.length_cons, List.length_nil]; omega
    rw [hE.out] at ho5 hfin
    obtain ⟨A7, c7, rfl, jj1, jj2, jj3, jj4⟩ := Rd.of_own ho5
    have hA7 : A7 = none → c7 = 0 := own_none ho5
    have hpt := PutText_any A7 E.length c7 E s w5 jj3 rfl hA7 (by omega)
    have z2 : w5.cell? ⟨q, 2, none⟩ = some (.string s) := hbk5.cell 2
    obtain ⟨NE, hNE⟩ : ∃ z, Hid (E.length = z) := ⟨_, rfl⟩
    rw [hNE.out] at hpt ⊢
    have hB5 : B ≤ w5.heap.size := by have := hlow5.size; omega
    clear jj1 jj2 jj3 jj4 hA7 r3 hEl ho5
    go_wp2_with fail
    refine hpt.mono ?_
    rintro en w6 ⟨v6, rfl, ho6, hX6⟩
    have hf6 := hfin v6 w6 (own_base ho6 hB5) (hlow5.trans (Below.mono hX6 hB5))
    clear hfin hpt
    go_wp2_with fail
    first | exact hf6 | (go_ret; exact hf6)
set_option maxRecDepth 100000 in
set_option maxHeartbeats 1000000 in
theorem Put_any (A : Option Addr) (m c : Nat) (l : List UInt8) (e : Et) (he : EtOk e) (w : World) (hr : Rb w A l) (hl : l.length = m) (hA : A = none → c = 0) (hm : m ≤ 140737488300000) (hwd : Wd w) (hpow : Pow w) :
    Calls Tryd.prog 10 #[.slice A m c, entV e] w fun en w' => ∃ v', en = .returned (.tuple #[v', .int .i64 (if canP e = true then 0 else 1)]) ∧ Ow w.heap.size w' v' (if canP e = true then l ++ bytesP e else l) ∧ Ext w w' := by
  obtain ⟨w1, hw1⟩ : ∃ z, Hid (w.alloc (.cells #[.bool e.pol, .int .i64 e.p, .string e.s, .int .u64 (e.id : Int)] 27) = z) := ⟨_, rfl⟩
  obtain ⟨q, hq⟩ : ∃ z, Hid (w.heap.size = z) := ⟨_, rfl⟩
  have hx1 : Ext w w1 := by rw [← hw1.out]; exact (Ext.refl w).alloc _
  have hbk1 : Blk w1 q #[.bool e.pol, .int .i64 e.p, .string e.s, .int .u64 (e.id : Int)] 27 := by rw [← hw1.out, ← hq.out]; exact Blk.new w _ _
  have hcl := clone_any A m c l w1 (hr.ext hx1) hl hA (by omega)
  have hcan := fun W (hW : Ext w W) => can_any e he W (hwd.ext hW) (hpow.ext hW)
  have hput := fun v W (ho : Ow w.heap.size W v l) hB hc => put_any w.heap.size v l e W ho hB hc (by omega)
  have hs1 := hx1.size
  obtain ⟨b, hb⟩ : ∃ z, Hid (canP e = z) := ⟨_, Lib.hid rfl⟩
  rw [hb.out]
  simp only [hb.out] at hcan hput
  obtain ⟨E, hE⟩ : ∃ z, Hid (l ++ bytesP e = z) := ⟨_, Lib.hid rfl⟩
  simp only [hE.out] at hput ⊢
  replace hput := Lib.hid hput
  replace hcan := Lib.hid hcan
  obtain ⟨pol, p, s, id⟩ := e
  unfold entV at *
  simp only at *
  have hent : ∀ W, Ext w1 W → ∀ i, W.cell? ⟨q, i, none⟩ = #[Value.bool pol, .int .i64 p, .string s, .int .u64 (id : Int)][i]? := fun W hW i => (hbk1.ext hW).cell i
  cases b with
  | false =>
    simp only [Bool.false_eq_true, if_false]
    go_enter Tryd.func10, Tryd.ntmps10
    go_wp2_with fail
    rw [hw1.out, hq.out]
    refine hcl.mono ?_
    rintro en w2 ⟨v2, rfl, ho2, hx2⟩
    have k0 := hent w2 hx2 0
    have k1 := hent w2 hx2 1
    have k2 := hent w2 hx2 2
    have k3 := hent w2 hx2 3
    simp only [List.getElem?_toArray, List.getElem?_cons_zero, List.getElem?_cons_succ] at k0 k1 k2 k3
    have hc2 := hcan.out w2 (hx1.trans hx2)
    clear hcl hent
    go_wp2_with fail
    refine hc2.mono ?_
    rintro en w3 ⟨rfl, hx3⟩
    clear hc2
    go_wp2_with fail
    go_ret2
    exact ⟨v2, rfl, own_ext (own_base ho2 hs1) hx3, (hx1.trans hx2).trans hx3⟩
  | true =>
    simp only [if_true]
    go_enter Tryd.func10, Tryd.ntmps10
    go_wp2_with fail
    rw [hw1.out, hq.out]
    refine hcl.mono ?_
    rintro en w2 ⟨v2, rfl, ho2, hx2⟩
    have k0 := hent w2 hx2 0
    have k1 := hent w2 hx2 1
    have k2 := hent w2 hx2 2
    have k3 := hent w2 hx2 3
    simp only [List.getElem?_toArray, List.getElem?_cons_zero, List.getElem?_cons_succ] at k0 k1 k2 k3
    have hc2 := hcan.out w2 (hx1.trans hx2)
    clear hcl
    go_wp2_with fail
    refine hc2.mono ?_
    rintro en w3 ⟨rfl, hx3⟩
    have j0 := hent w3 (hx2.trans hx3) 0
    have j1 := hent w3 (hx2.trans hx3) 1
    have j2 := hent w3 (hx2.trans hx3) 2
    have j3 := hent w3 (hx2.trans hx3) 3
    simp only [List.getElem?_toArray, List.getElem?_cons_zero, List.getElem?_cons_succ] at j0 j1 j2 j3
    have hx03 := (hx1.trans hx2).trans hx3
    have hp3 := hput.out v2 w3 (own_ext (own_base ho2 hs1) hx3) hx03.size trivial
    clear hc2 k0 k1 k2 k3 hent
    go_wp2_with fail
    refine hp3.mono ?_
    rintro en w4 ⟨v4, rfl, ho4, hx4⟩
    clear hp3
    go_wp2_with fail
    go_ret2
    exact ⟨v4, rfl, ho4, Below.trans hx03 hx4⟩
end Go.Proofs.YtbpfabhlngfciaaDoor.Ch
/- chain: entries taken, walked. -/
namespace Go.Proofs.YtbpfabhlngfciaaDoor.Ch
open Go.ChangeShapes Go.WideShapes Go.ChangeAt Go.RowKit
open Base Pf Cn Pr Lx Mi
set_option linter.unusedVariables false
set_option linter.unusedSimpArgs false

/-- what an entry's taking hands back -/
def TeV (w : World) (r : Et × List UInt8 × Nat) (e : Ending) (w' : World) : Prop := ∃ A' c', e = .returned (.tuple #[entV r.1, .slice A' r.2.1.length c', .int .i64 (r.2.2 : Int)]) ∧ Rb w' A' r.2.1 ∧ (A' = none → c' = 0) ∧ r.2.1.length ≤ c' ∧ c' ≤ maxLen ∧ Ext w w'
theorem TeV.no {w w' : World} (n : Nat) (h : Ext w w') : TeV w (e0, [], n) (.returned (.tuple #[.agg #[.bool false, .int .i64 0, .string ⟨#[]⟩, .int .u64 0], .slice none 0 0, .int .i64 (n : Int)])) w' := ⟨none, 0, rfl, Rd.nil _ _, fun _ => rfl, Nat.le_refl _, by unfold maxLen; omega, h⟩
theorem resTake {w : World} {tmps : Array Value} {a : Nat} {u0 u1 u2 u3 v x : Value} (ha : tmps[2]?.getD undef = .pointer (some ⟨a, 0, none⟩)) (hb : tmps[3]?.getD undef = v) (hc : tmps[4]?.getD undef = x)
    (h0 : w.cell? ⟨a, 0, none⟩ = some u0) (h1 : w.cell? ⟨a, 1, none⟩ = some u1) (h2 : w.cell? ⟨a, 2, none⟩ = some u2) (h3 : w.cell? ⟨a, 3, none⟩ = some u3) : (results Tryd.f11 tmps).run Tryd.prog w = .ok (.tuple #[.agg #[u0, u1, u2, u3], v, x]) w := by
  simp [results, Tryd.f11, go_sem, ha, hb, hc, h0, h1, h2, h3]
theorem resE {w : World} {tmps : Array Value} {a : Nat} {u0 u1 u2 u3 v x : Value} (ha : tmps[2]?.getD undef = .pointer (some ⟨a, 0, none⟩)) (hb : tmps[3]?.getD undef = v) (hc : tmps[4]?.getD undef = x)
    (h : Blk w a #[u0, u1, u2, u3] 27) : (results Tryd.f11 tmps).run Tryd.prog w = .ok (.tuple #[.agg #[u0, u1, u2, u3], v, x]) w :=
  resTake ha hb hc (h.cell 0) (h.cell 1) (h.cell 2) (h.cell 3)
set_option maxRecDepth 100000 in
set_option maxHeartbeats 1000000 in
theorem take_nil (A : Option Addr) (c : Nat) (w : World) : Calls Tryd.prog 11 #[.slice A 0 c] w fun e w' => TeV w (e0, [], 3) e w' := by
  obtain ⟨q, hq⟩ : ∃ z, Hid (w.heap.size = z) := ⟨_, rfl⟩
  obtain ⟨w1, hw1⟩ : ∃ z, Hid (w.alloc (.cells #[.bool false, .int .i64 0, .string ⟨#[]⟩, .int .u64 0] 27) = z) := ⟨_, rfl⟩
  have hx1 : Ext w w1 := by rw [← hw1.out]; exact (Ext.refl w).alloc _
  have hb1 : Blk w1 q #[.bool false, .int .i64 0, .string ⟨#[]⟩, .int .u64 0] 27 := by rw [← hw1.out, ← hq.out]; exact Blk.new w _ _
  obtain ⟨PO, hPO⟩ : ∃ PO : Ending → World → Prop, Hid ((fun e w' => TeV w (e0, [], 3) e w') = PO) := ⟨_, Lib.hid rfl⟩
  rw [hPO.out]
  go_enter Tryd.func11, Tryd.ntmps11
  go_wp2_with fail
  rw [hw1.out, hq.out]
  refine bodyPost_ret (resE rfl rfl rfl hb1) rfl ?_
  rw [← hPO.out]
  exact TeV.no 3 hx1
set_option maxRecDepth 100000 in
set_option maxHeartbeats 1000000 in
theorem take_big (A : Option Addr) (m c : Nat) (x : UInt8) (r : List UInt8) (w : World) (hr : Rb w A (x :: r)) (hl : (x :: r).length = m) (hA : A = none → c = 0) (hmc : m ≤ c) (hc : c ≤ maxLen) (h7 : 7 < x.toNat) :
    Calls Tryd.prog 11 #[.slice A m c] w fun e w' => TeV w (e0, [], 4) e w' := by
  obtain ⟨q, hq⟩ : ∃ z, Hid (w.heap.size = z) := ⟨_, rfl⟩
  obtain ⟨w1, hw1⟩ : ∃ z, Hid (w.alloc (.cells #[.bool false, .int .i64 0, .string ⟨#[]⟩, .int .u64 0] 27) = z) := ⟨_, rfl⟩
  have hx1 : Ext w w1 := by rw [← hw1.out]; exact (Ext.refl w).alloc _
  have hb1 : Blk w1 q #[.bool false, .int .i64 0, .string ⟨#[]⟩, .int .u64 0] 27 := by rw [← hw1.out, ← hq.out]; exact Blk.new w _ _
  have hx := x.toNat_lt
  obtain ⟨b, off, rfl, hc0⟩ := hr.at_ (k := 0) (by simp)
  rw [show off + 0 = off from rfl] at hc0
  replace hc0 : w.cell? ⟨b, off, none⟩ = some (.int .u8 (x.toNat : Int)) := hc0
  have hbq : ¬ b = q := by have := World.block_lt_of_cell? w _ hc0; have e : b < w.heap.size := this; have := hq.out; omega
  have hm0 : 0 < m := by rw [← hl]; simp
  have hm0' : ((m : Int) == 0) = false := by simp; omega
  unfold maxLen at hc
  have c1 : w1.cell? ⟨b, off, none⟩ = some (.int .u8 (x.toNat : Int)) := hx1.cell hc0
  rw [← hw1.out] at c1
  have h7i : (7 : Int) < (x.toNat : Int) := by omega
  obtain ⟨PO, hPO⟩ : ∃ PO : Ending → World → Prop, Hid ((fun e w' => TeV w (e0, [], 4) e w') = PO) := ⟨_, Lib.hid rfl⟩
  rw [hPO.out]
  clear hr hl hA
  go_enter Tryd.func11, Tryd.ntmps11
  go_wp2_with fail
  rw [hw1.out, hq.out]
  refine bodyPost_ret (resE rfl rfl rfl hb1) rfl ?_
  rw [← hPO.out]
  exact TeV.no 4 hx1
set_option maxRecDepth 100000 in
set_option maxHeartbeats 1000000 in
theorem take_pol (A : Option Addr) (m c : Nat) (x : UInt8) (r : List UInt8) (w : World) (hr : Rb w A (x :: r)) (hl : (x :: r).length = m) (hA : A = none → c = 0) (hmc : m ≤ c) (hc : c ≤ maxLen) (h7 : x.toNat ≤ 7) (h0 : 0 < x.toNat) :
    Calls Tryd.prog 11 #[.slice A m c] w fun e w' => TeV w (⟨true, (x.toNat : Int) - 1, ⟨#[]⟩, 0⟩, r, 0) e w' := by
  obtain ⟨q, hq⟩ : ∃ z, Hid (w.heap.size = z) := ⟨_, rfl⟩
  obtain ⟨w1, hw1⟩ : ∃ z, Hid (w.alloc (.cells #[.bool false, .int .i64 0, .string ⟨#[]⟩, .int .u64 0] 27) = z) := ⟨_, rfl⟩
  have hx1 : Ext w w1 := by rw [← hw1.out]; exact (Ext.refl w).alloc _
  have hb1 : Blk w1 q #[.bool false, .int .i64 0, .string ⟨#[]⟩, .int .u64 0] 27 := by rw [← hw1.out, ← hq.out]; exact Blk.new w _ _
  have hx := x.toNat_lt
  obtain ⟨b, off, rfl, hc0⟩ := hr.at_ (k := 0) (by simp)
  rw [show off + 0 = off from rfl] at hc0
  replace hc0 : w.cell? ⟨b, off, none⟩ = some (.int .u8 (x.toNat : Int)) := hc0
  have hbq : ¬ b = q := by have := World.block_lt_of_cell? w _ hc0; have e : b < w.heap.size := this; have := hq.out; omega
  have hm0 : 0 < m := by rw [← hl]; simp
  have hm0' : ((m : Int) == 0) = false := by simp; omega
  unfold maxLen at hc
  have c1 : w1.cell? ⟨b, off, none⟩ = some (.int .u8 (x.toNat : Int)) := hx1.cell hc0
  rw [← hw1.out] at c1
  have h7i : ¬ (7 : Int) < (x.toNat : Int) := by omega
  have h0i : (0 : Int) < (x.toNat : Int) := by omega
  obtain ⟨k, hk⟩ : ∃ k : Nat, x.toNat = k + 1 := ⟨x.toNat - 1, by omega⟩
  have hsub : IntKind.u8.wrap ((x.toNat : Int) - 1) = (k : Int) := by
    have : IntKind.u8.wrap ((x.toNat : Int) - 1) = ((x.toNat : Int) - 1) % 256 := by rfl
    rw [this]; omega
  have hsub2 : ((x.toNat : Int) - 1) % 256 = (k : Int) := by omega
  rw [show (x.toNat : Int) - 1 = (k : Int) by omega]
  have hwk : IntKind.i64.wrap (k : Int) = (k : Int) := by rw [IntKind.wrap_i64]; omega
  replace hk := Lib.hid hk
  obtain ⟨PO, hPO⟩ : ∃ PO : Ending → World → Prop, Hid ((fun e w' => TeV w (⟨true, (k : Int), ⟨#[]⟩, 0⟩, r, 0) e w') = PO) := ⟨_, Lib.hid rfl⟩
  rw [hPO.out]
  have hcut := fun W => run_cutAt (P := Tryd.prog) (t := 29) (e := 5) Tryd.underlying29 (by kernel_rfl) W (some ⟨b, off, none⟩) m c 1 m (some (.int .i64 (1 : Int))) none (.inl rfl) (.inr ⟨rfl, rfl⟩) (by omega) (by omega) (fun _ => hmc)
  have hrest : Rb w (cutA (some ⟨b, off, none⟩) c 1) (((x :: r).take m).drop 1) := Rb.cut hr (by omega) (by omega)
  rw [List.take_of_length_le (by omega), List.drop_one, List.tail_cons] at hrest
  have hAn : cutA (some ⟨b, off, none⟩) c 1 = none → c - 1 = 0 := cutA_none (A := some ⟨b, off, none⟩) (fun e => by cases e)
  have hrl : r.length = m - 1 := by rw [← hl]; simp
  obtain ⟨A1, hA1⟩ : ∃ z, Hid (cutA (some ⟨b, off, none⟩) c 1 = z) := ⟨_, Lib.hid rfl⟩
  simp only [hA1.out] at hcut hrest hAn
  have hfin : ∀ W, Ext w W → PO (.returned (.tuple #[.agg #[.bool true, .int .i64 (k : Int), .string ⟨#[]⟩, .int .u64 0], .slice A1 (m - 1) (c - 1), .int .i64 0])) W := fun W hW => by
    rw [← hPO.out]
    refine ⟨A1, c - 1, ?_, hrest.ext hW, hAn, ?_, ?_, hW⟩
    · show _ = Ending.returned (.tuple #[entV ⟨true, (k : Int), ⟨#[]⟩, 0⟩, .slice A1 r.length (c - 1), .int .i64 0])
      rw [hrl]; rfl
    · show r.length ≤ _; omega
    · unfold maxLen; omega
  replace hAn := Lib.hid hAn
  replace hfin := Lib.hid hfin
  clear hr hl hA hrest hPO hAn
  go_enter Tryd.func11, Tryd.ntmps11
  go_wp2_with fail
  rw [hw1.out, hq.out]
  refine Reg.startX (R := Chg (fun k => k = q)) (by kernel_rfl) ?_
  have hRl := Reg.rl_chg (fun k => k = q)
  generalize hwq : World.drew _ = wq
  have hxq : Ext w1 wq := by rw [← hwq]; exact (Ext.refl w1).drew
  clear hwq
  have hbqq := hb1.ext hxq
  have r0 : ∀ W, Chg (fun k => k = q) wq W → W.cell? ⟨b, off, none⟩ = some (.int .u8 (x.toNat : Int)) := fun W hW => hW.cell (p := ⟨b, off, none⟩) (hxq.cell (hx1.cell hc0)) hbq
  have s0 := hbqq.cell 0
  have s1 := hbqq.cell 1
  have s2 := hbqq.cell 2
  have s3 := hbqq.cell 3
  have f0 := hbqq.frozen 0
  have f1 := hbqq.frozen 1
  have f2 := hbqq.frozen 2
  have f3 := hbqq.frozen 3
  refine Reg.tx hRl 0 ?_; (try simp only [Reg.n1, Reg.n2, Reg.n3, Reg.n4, Reg.n5, Reg.n6, Reg.n7])
  refine Reg.tx hRl 1 ?_; (try simp only [Reg.n1, Reg.n2, Reg.n3, Reg.n4, Reg.n5, Reg.n6, Reg.n7])
  refine Reg.tx hRl 2 ?_; (try simp only [Reg.n1, Reg.n2, Reg.n3, Reg.n4, Reg.n5, Reg.n6, Reg.n7])
  refine Reg.tx hRl 3 ?_; (try simp only [Reg.n1, Reg.n2, Reg.n3, Reg.n4, Reg.n5, Reg.n6, Reg.n7])
  refine Reg.tx hRl 4 ?_; (try simp only [Reg.n1, Reg.n2, Reg.n3, Reg.n4, Reg.n5, Reg.n6, Reg.n7])
  refine Reg.tx hRl 5 ?_; (try simp only [Reg.n1, Reg.n2, Reg.n3, Reg.n4, Reg.n5, Reg.n6, Reg.n7])
  refine Reg.tx hRl 6 ?_; (try simp only [Reg.n1, Reg.n2, Reg.n3, Reg.n4, Reg.n5, Reg.n6, Reg.n7])
  refine Reg.tx hRl 7 ?_; (try simp only [Reg.n1, Reg.n2, Reg.n3, Reg.n4, Reg.n5, Reg.n6, Reg.n7])
  refine Reg.onlyX 8 _ rfl (by kernel_rfl) (by decide) (by rfl) (fun K hK => ?_); go_simp
  have hch4 := ((((Chg.refl (fun k => k = q) wq).set (p := ⟨q, 0, none⟩) (.inl rfl) (.bool true)).set (p := ⟨q, 1, none⟩) (.inl rfl) (.int .i64 (k : Int))).set (p := ⟨q, 2, none⟩) (.inl rfl) (.string ⟨#[]⟩)).set (p := ⟨q, 3, none⟩) (.inl rfl) (.int .u64 0)
  go_simp
  refine hK.out _ _ (hch4) ?_; clear hK K; (try simp only [Reg.n1, Reg.n2, Reg.n3, Reg.n4, Reg.n5, Reg.n6, Reg.n7])
  refine Reg.tx hRl 9 ?_; (try simp only [Reg.n1, Reg.n2, Reg.n3, Reg.n4, Reg.n5, Reg.n6, Reg.n7])
  refine Reg.tx hRl 10 ?_; (try simp only [Reg.n1, Reg.n2, Reg.n3, Reg.n4, Reg.n5, Reg.n6, Reg.n7])
  refine Reg.finX (by kernel_rfl) ?_
  have hbF : Blk ((((wq.setCell ⟨q, 0, none⟩ (.bool true)).setCell ⟨q, 1, none⟩ (.int .i64 (k : Int))).setCell ⟨q, 2, none⟩ (.string ⟨#[]⟩)).setCell ⟨q, 3, none⟩ (.int .u64 0)) q #[.bool true, .int .i64 (k : Int), .string ⟨#[]⟩, .int .u64 0] 27 := (((hbqq.set 0 _).set 1 _).set 2 _).set 3 _
  have hxF : Ext w ((((wq.setCell ⟨q, 0, none⟩ (.bool true)).setCell ⟨q, 1, none⟩ (.int .i64 (k : Int))).setCell ⟨q, 2, none⟩ (.string ⟨#[]⟩)).setCell ⟨q, 3, none⟩ (.int .u64 0)) := Ext.chg (hx1.trans hxq) hch4 (fun i hi e => by have e : i = q := e; have := hq.out; omega)
  have hp := hfin.out _ hxF
  clear hch4 hfin r0 s0 s1 s2 s3 f0 f1 f2 f3 hcut
  go_wp2_with fail
  refine bodyPost_ret (resE rfl rfl rfl hbF) rfl ?_
  exact hp
theorem takeTextP_lens (l : List UInt8) (most : Nat) : (takeTextP l most).2.1.length ≤ l.length ∧ (takeTextP l most).1.length ≤ most := by
  refine ⟨takeTextP_len l most, ?_⟩
  unfold takeTextP
  split
  · exact Nat.zero_le _
  · split
    · exact Nat.zero_le _
    · split
      · exact Nat.zero_le _
      · simp only [List.length_take]; omega
theorem ext_out {w w' W : World} {S : Nat → Prop} (h : Ext w w') (hc : Chg S w' W) (hS : ∀ k, S k → w.heap.size ≤ k) : Ext w W := Ext.chg h hc (fun i hi e => by have := hS i e; omega)
set_option maxRecDepth 100000 in
set_option maxHeartbeats 2000000 in
theorem take_txt (A : Option Addr) (m c : Nat) (x : UInt8) (r : List UInt8) (w : World) (hr : Rb w A (x :: r)) (hl : (x :: r).length = m) (hA : A = none → c = 0) (hmc : m ≤ c) (hc : c ≤ maxLen) (hm : m ≤ 140737488355328) (h0 : x.toNat = 0) (hwd : Wd w) (hpow : Pow w) :
    Calls Tryd.prog 11 #[.slice A m c] w fun e w' => TeV w (takeE (x :: r)) e w' := by
  obtain ⟨q, hq⟩ : ∃ z, Hid (w.heap.size = z) := ⟨_, rfl⟩
  obtain ⟨w1, hw1⟩ : ∃ z, Hid (w.alloc (.cells #[.bool false, .int .i64 0, .string ⟨#[]⟩, .int .u64 0] 27) = z) := ⟨_, rfl⟩
  have hx1 : Ext w w1 := by rw [← hw1.out]; exact (Ext.refl w).alloc _
  have hb1 : Blk w1 q #[.bool false, .int .i64 0, .string ⟨#[]⟩, .int .u64 0] 27 := by rw [← hw1.out, ← hq.out]; exact Blk.new w _ _
  have hx := x.toNat_lt
  obtain ⟨b, off, rfl, hc0⟩ := hr.at_ (k := 0) (by simp)
  rw [show off + 0 = off from rfl] at hc0
  replace hc0 : w.cell? ⟨b, off, none⟩ = some (.int .u8 (x.toNat : Int)) := hc0
  have hbq : ¬ b = q := by have := World.block_lt_of_cell? w _ hc0; have e : b < w.heap.size := this; have := hq.out; omega
  have hm0 : 0 < m := by rw [← hl]; simp
  have hm0' : ((m : Int) == 0) = false := by simp; omega
  unfold maxLen at hc
  have c1 : w1.cell? ⟨b, off, none⟩ = some (.int .u8 (x.toNat : Int)) := hx1.cell hc0
  rw [← hw1.out] at c1
  have h7i : ¬ (7 : Int) < (x.toNat : Int) := by omega
  have h0i : ¬ (0 : Int) < (x.toNat : Int) := by omega
  have hcut := fun W => run_cutAt (P := Tryd.prog) (t := 29) (e := 5) Tryd.underlying29 (by kernel_rfl) W (some ⟨b, off, none⟩) m c 1 m (some (.int .i64 (1 : Int))) none (.inl rfl) (.inr ⟨rfl, rfl⟩) (by omega) (by omega) (fun _ => hmc)
  have hrest : Rb w (cutA (some ⟨b, off, none⟩) c 1) (((x :: r).take m).drop 1) := Rb.cut hr (by omega) (by omega)
  rw [List.take_of_length_le (by omega), List.drop_one, List.tail_cons] at hrest
  have hAn : cutA (some ⟨b, off, none⟩) c 1 = none → c - 1 = 0 := cutA_none (A := some ⟨b, off, none⟩) (fun e => by cases e)
  have hrl : r.length = m - 1 := by rw [← hl]; simp
  obtain ⟨A1, hA1⟩ : ∃ z, Hid (cutA (some ⟨b, off, none⟩) c 1 = z) := ⟨_, Lib.hid rfl⟩
  simp only [hA1.out] at hcut hrest hAn
  obtain ⟨w2, hw2⟩ : ∃ z, Hid (w1.alloc (.cells #[.bool false, .int .i64 0, .string ⟨#[]⟩, .int .u64 0] 27) = z) := ⟨_, rfl⟩
  have hs1 : w1.heap.size = q + 1 := by rw [← hw1.out, ← hq.out]; simp
  have hx2 : Ext w1 w2 := by rw [← hw2.out]; exact (Ext.refl w1).alloc _
  have hb2 : Blk w2 (q + 1) #[.bool false, .int .i64 0, .string ⟨#[]⟩, .int .u64 0] 27 := by rw [← hw2.out, ← hs1]; exact Blk.new w1 _ _
  have hbq2 := hb1.ext hx2
  have hqy : ¬ q = q + 1 := by omega
  replace hs1 := Lib.hid hs1
  have htk := Pf.Take_any A1 (m - 1) (c - 1) r w2 (hrest.ext (hx1.trans hx2)) hrl hAn (by omega) (by unfold maxLen; omega) (by omega)
  replace hAn := Lib.hid hAn
  obtain ⟨R, hR⟩ : ∃ z, Hid (takeE (x :: r) = z) := ⟨_, Lib.hid rfl⟩
  have hRd := hR.out
  rw [takeE, if_neg (by omega), if_neg (by omega)] at hRd
  rw [hR.out]
  obtain ⟨b1, b2⟩ := takeP_len r
  obtain ⟨t, ht⟩ : ∃ z, Hid (takeP r = z) := ⟨_, Lib.hid rfl⟩
  rw [ht.out] at hRd htk b1 b2
  obtain ⟨n, rest, er⟩ := t
  simp only at hRd b1 b2
  replace htk : Calls Tryd.prog 17 #[.slice A1 (m - 1) (c - 1)] w2 fun e w' => ∃ A' c', e = .returned (.tuple #[.int .u64 (n : Int), .slice A' rest.length c', .int .i64 (er : Int)]) ∧ Rb w' A' rest ∧ (A' = none → c' = 0) ∧ rest.length ≤ c' ∧ c' ≤ maxLen ∧ Ext w2 w' := htk
  obtain ⟨PO, hPO⟩ : ∃ PO : Ending → World → Prop, Hid ((fun e w' => TeV w R e w') = PO) := ⟨_, Lib.hid rfl⟩
  rw [hPO.out]
  have hno : ∀ W k, R = (e0, [], k) → Ext w W → PO (.returned (.tuple #[.agg #[.bool false, .int .i64 0, .string ⟨#[]⟩, .int .u64 0], .slice none 0 0, .int .i64 (k : Int)])) W := fun W k e hW => by rw [← hPO.out, e]; exact TeV.no k hW
  obtain ⟨N, hN⟩ : ∃ z, Hid (rest.length = z) := ⟨_, Lib.hid rfl⟩
  rw [hN.out] at htk b1
  replace hno := Lib.hid hno
  have hNm : N ≤ m := by omega
  have hyw : w.heap.size ≤ q := by have := hq.out; omega
  replace hRd := Lib.hid hRd
  replace hRR := hRd
  clear hR ht hr hl hA hrest hAn b1 hrl
  go_enter Tryd.func11, Tryd.ntmps11
  go_wp2_with (refine wpList_cut rfl 29 (.tmp 33) (some (.const (.int .i64 1))) none rfl _ _ _ _ rfl rfl rfl (hcut _) ?_)
  rw [hw1.out, hq.out, hw2.out]
  refine htk.mono ?_
  rintro en w3 ⟨A3, c3, rfl, h1, h2, h3, h4, hx3⟩
  have hb3 := hb2.ext hx3
  have hbq3 := hbq2.ext hx3
  have hx03 : Ext w w3 := (hx1.trans hx2).trans hx3
  have q0 := hbq3.cell 0
  have q1 := hbq3.cell 1
  have q2 := hbq3.cell 2
  have q3 := hbq3.cell 3
  have g0 := hbq3.frozen 0
  have g1 := hbq3.frozen 1
  have g2 := hbq3.frozen 2
  have g3 := hbq3.frozen 3
  have y0 := hb3.cell 0
  have y1 := hb3.cell 1
  have y2 := hb3.cell 2
  have y3 := hb3.cell 3
  have z0 := hb3.frozen 0
  have z1 := hb3.frozen 1
  have z2 := hb3.frozen 2
  have z3 := hb3.frozen 3
  simp only [List.getElem?_toArray, List.getElem?_cons_zero, List.getElem?_cons_succ] at q0 q1 q2 q3 y0 y1 y2 y3
  have hlt3 : Wd w3 := hwd.ext hx03
  clear htk hcut hb1 hb2 hbq2
  by_cases he : ¬ er = 0
  · have hRe := hRd.out
    rw [if_pos he] at hRe
    have hcF := (((Chg.one w3 q 0 (.bool false)).trans (Chg.one _ q 1 (.int .i64 0)) (fun _ _ e => e)).trans (Chg.one _ q 2 (.string ⟨#[]⟩)) (fun _ _ e => e)).trans (Chg.one _ q 3 (.int .u64 0)) (fun _ _ e => e)
    have hbF := (((hbq3.set 0 (.bool false)).set 1 (.int .i64 0)).set 2 (.string ⟨#[]⟩)).set 3 (.int .u64 0)
    have hp := hno.out _ er hRe.symm (ext_out hx03 hcF (fun k e => by omega))
    have heb : ((er : Int) == 0) = false := by simpa using (by omega : ¬ (er : Int) = 0)
    have hnb : ((er : Int) != 0) = true := by simpa using (by omega : ¬ (er : Int) = 0)
    clear hno hRd hRR hRe
    go_wp2_with fail
    refine bodyPost_ret (resE rfl rfl rfl hbF) rfl ?_
    exact hp
  replace he := Decidable.not_not.1 he
  subst he
  have heb : (((0 : Nat) : Int) == 0) = true := rfl
  have hRe := hRd.out
  rw [if_neg (by simp)] at hRe
  have hc4 := Chg.one w3 (q + 1) 3 (.int .u64 (n : Int))
  have hb4 : Blk (w3.setCell ⟨q + 1, 3, none⟩ (.int .u64 (n : Int))) (q + 1) #[.bool false, .int .i64 0, .string ⟨#[]⟩, .int .u64 (n : Int)] 27 := hb3.set 3 _
  have hbq4 : Blk (w3.setCell ⟨q + 1, 3, none⟩ (.int .u64 (n : Int))) q #[.bool false, .int .i64 0, .string ⟨#[]⟩, .int .u64 0] 27 := hbq3.far (p := ⟨q + 1, 3, none⟩) hqy _
  have hx4 : Ext w (w3.setCell ⟨q + 1, 3, none⟩ (.int .u64 (n : Int))) := ext_out hx03 hc4 (fun k e => by omega)
  obtain ⟨w4, hw4⟩ : ∃ z, Hid (w3.setCell ⟨q + 1, 3, none⟩ (.int .u64 (n : Int)) = z) := ⟨_, rfl⟩
  have hA3q : rest = [] ∨ ∃ b9 o9, A3 = some ⟨b9, o9, none⟩ ∧ ¬ b9 = q + 1 ∧ ¬ b9 = q := by
    by_cases hne : rest = []
    · exact .inl hne
    · right
      obtain ⟨b9, o9, e9, hc9⟩ := h1.at_ (k := 0) (List.length_pos_iff.2 hne)
      refine ⟨b9, o9, e9, fun e => ?_, fun e => ?_⟩
      · subst e
        have := hb3.cell (o9 + 0)
        rw [hc9] at this
        rcases o9 with _ | _ | _ | _ | o9 <;> simp at this
      · subst e
        have := hbq3.cell (o9 + 0)
        rw [hc9] at this
        rcases o9 with _ | _ | _ | _ | o9 <;> simp at this
  have h14 : Rb (w3.setCell ⟨q + 1, 3, none⟩ (.int .u64 (n : Int))) A3 rest := by
    rcases hA3q with e | ⟨b9, o9, rfl, e1, e2⟩
    · subst e; exact Rd.nil _ _
    · exact Rd.chg h1 hc4 (fun a ha => by injection ha with ha; subst ha; exact e1)
  have htt := Pf.TakeText_any A3 N c3 rest 4096 (w3.setCell ⟨q + 1, 3, none⟩ (.int .u64 (n : Int))) h14 hN.out h2 (by omega) h4 (by omega) (by omega)
  rw [hw4.out] at htt hb4 hbq4 hx4
  obtain ⟨d1, d2⟩ := takeTextP_lens rest 4096
  obtain ⟨t, ht⟩ : ∃ z, Hid (takeTextP rest 4096 = z) := ⟨_, Lib.hid rfl⟩
  rw [ht.out] at hRe htt d1 d2
  obtain ⟨tx, rest2, er2⟩ := t
  simp only at hRe d1 d2
  replace htt : Calls Tryd.prog 18 #[.slice A3 N c3, .int .i64 (4096 : Int)] w4 fun e w' => ∃ A' c', e = .returned (.tuple #[.string (Str tx), .slice A' rest2.length c', .int .i64 (er2 : Int)]) ∧ Rb w' A' rest2 ∧ (A' = none → c' = 0) ∧ rest2.length ≤ c' ∧ c' ≤ maxLen ∧ Ext w4 w' := htt
  obtain ⟨T, hT⟩ : ∃ z, Hid (Str tx = z) := ⟨_, rfl⟩
  have hTs : T.size ≤ 4096 := by rw [← hT.out]; simpa [Str, ByteArray.size] using d2
  rw [hT.out] at htt hRe
  obtain ⟨N2, hN2⟩ : ∃ z, Hid (rest2.length = z) := ⟨_, Lib.hid rfl⟩
  rw [hN2.out] at htt d1
  replace hRe := Lib.hid hRe
  clear ht hA3q h14 h1 hRd hRR h2
  go_wp2_with fail
  rw [hw4.out]
  refine htt.mono ?_
  rintro en w5 ⟨A5, c5, rfl, i1, i2, i3, i4, hx5⟩
  clear htt
  have hb5 := hb4.ext hx5
  have hbq5 := hbq4.ext hx5
  have hx05 : Ext w w5 := hx4.trans hx5
  have q0 := hbq5.cell 0
  have q1 := hbq5.cell 1
  have q2 := hbq5.cell 2
  have q3 := hbq5.cell 3
  have g0 := hbq5.frozen 0
  have g1 := hbq5.frozen 1
  have g2 := hbq5.frozen 2
  have g3 := hbq5.frozen 3
  have y0 := hb5.cell 0
  have y1 := hb5.cell 1
  have y2 := hb5.cell 2
  have y3 := hb5.cell 3
  have z0 := hb5.frozen 0
  have z1 := hb5.frozen 1
  have z2 := hb5.frozen 2
  have z3 := hb5.frozen 3
  simp only [List.getElem?_toArray, List.getElem?_cons_zero, List.getElem?_cons_succ] at q0 q1 q2 q3 y0 y1 y2 y3
  have hc6 := Chg.one w5 (q + 1) 2 (.string T)
  have hb6 : Blk (w5.setCell ⟨q + 1, 2, none⟩ (.string T)) (q + 1) #[.bool false, .int .i64 0, .string T, .int .u64 (n : Int)] 27 := hb5.set 2 _
  have hbq6 : Blk (w5.setCell ⟨q + 1, 2, none⟩ (.string T)) q #[.bool false, .int .i64 0, .string ⟨#[]⟩, .int .u64 0] 27 := hbq5.far (p := ⟨q + 1, 2, none⟩) hqy _
  have hx6 : Ext w (w5.setCell ⟨q + 1, 2, none⟩ (.string T)) := ext_out hx05 hc6 (fun k e => by omega)
  have h16 : Rb (w5.setCell ⟨q + 1, 2, none⟩ (.string T)) A5 rest2 := by
    by_cases hne : rest2 = []
    · subst hne; exact Rd.nil _ _
    · obtain ⟨b9, o9, rfl, hc9⟩ := i1.at_ (k := 0) (List.length_pos_iff.2 hne)
      refine Rd.chg i1 hc6 (fun a ha e => ?_)
      injection ha with ha
      subst ha
      have e : b9 = q + 1 := e
      subst e
      have := hb5.cell (o9 + 0)
      rw [hc9] at this
      rcases o9 with _ | _ | _ | _ | o9 <;> simp at this
  obtain ⟨w6, hw6⟩ : ∃ z, Hid (w5.setCell ⟨q + 1, 2, none⟩ (.string T) = z) := ⟨_, rfl⟩
  rw [hw6.out] at hb6 hbq6 hx6 h16
  have hwd6 : Wd w6 := hwd.ext hx6
  have hcn := can_any ⟨false, 0, T, n⟩ ⟨by simp, by simp, by simp; omega, by simp; omega⟩ w6 hwd6 (hpow.ext hx6)
  unfold entV at hcn
  simp only at hcn
  have e0 := hb6.cell 0
  have e1 := hb6.cell 1
  have e2 := hb6.cell 2
  have e3 := hb6.cell 3
  simp only [List.getElem?_toArray, List.getElem?_cons_zero, List.getElem?_cons_succ] at e0 e1 e2 e3
  have k0 := hbq6.cell 0
  have k1 := hbq6.cell 1
  have k2 := hbq6.cell 2
  have k3 := hbq6.cell 3
  have l0 := hbq6.frozen 0
  have l1 := hbq6.frozen 1
  have l2 := hbq6.frozen 2
  have l3 := hbq6.frozen 3
  simp only [List.getElem?_toArray, List.getElem?_cons_zero, List.getElem?_cons_succ] at k0 k1 k2 k3
  by_cases he2 : ¬ er2 = 0
  · have hRe2 := hRe.out
    rw [if_pos he2] at hRe2
    have heb2 : ((er2 : Int) == 0) = false := by simpa using (by omega : ¬ (er2 : Int) = 0)
    have hnb2 : ((er2 : Int) != 0) = true := by simpa using (by omega : ¬ (er2 : Int) = 0)
    have hcF := (((Chg.one w6 q 0 (.bool false)).trans (Chg.one _ q 1 (.int .i64 0)) (fun _ _ e => e)).trans (Chg.one _ q 2 (.string ⟨#[]⟩)) (fun _ _ e => e)).trans (Chg.one _ q 3 (.int .u64 0)) (fun _ _ e => e)
    have hbF := (((hbq6.set 0 (.bool false)).set 1 (.int .i64 0)).set 2 (.string ⟨#[]⟩)).set 3 (.int .u64 0)
    have hp := hno.out _ er2 hRe2.symm (ext_out hx6 hcF (fun k e => by omega))
    clear hno hRe hRe2 hcn
    go_wp2_with fail
    rw [hw6.out]
    refine bodyPost_ret (resE rfl rfl rfl hbF) rfl ?_
    exact hp
  replace he2 := Decidable.not_not.1 he2
  subst he2
  replace hRe := hRe.out
  rw [if_neg (by simp)] at hRe
  by_cases hc : ¬ canP ⟨false, 0, T, n⟩ = true
  · rw [if_neg hc] at hRe
    rw [show canP ⟨false, 0, T, n⟩ = false by simpa using hc] at hcn
    go_wp2_with fail
    rw [hw6.out]
    refine hcn.mono ?_
    rintro en w7 ⟨rfl, hx7⟩
    have hbq7 := hbq6.ext hx7
    have hb7 := hb6.ext hx7
    have k0 := hbq7.cell 0
    have k1 := hbq7.cell 1
    have k2 := hbq7.cell 2
    have k3 := hbq7.cell 3
    have l0 := hbq7.frozen 0
    have l1 := hbq7.frozen 1
    have l2 := hbq7.frozen 2
    have l3 := hbq7.frozen 3
    simp only [List.getElem?_toArray, List.getElem?_cons_zero, List.getElem?_cons_succ] at k0 k1 k2 k3
    have hcF := (((Chg.one w7 q 0 (.bool false)).trans (Chg.one _ q 1 (.int .i64 0)) (fun _ _ e => e)).trans (Chg.one _ q 2 (.string ⟨#[]⟩)) (fun _ _ e => e)).trans (Chg.one _ q 3 (.int .u64 0)) (fun _ _ e => e)
    have hbF := (((hbq7.set 0 (.bool false)).set 1 (.int .i64 0)).set 2 (.string ⟨#[]⟩)).set 3 (.int .u64 0)
    have hp := hno.out _ 4 hRe.symm (ext_out (hx6.trans hx7) hcF (fun k e => by omega))
    clear hno hRe hcn
    go_wp2_with fail
    refine bodyPost_ret (resE rfl rfl rfl hbF) rfl ?_
    exact hp
  replace hc := Decidable.not_not.1 hc
  rw [if_pos hc] at hRe
  rw [hc] at hcn
  go_wp2_with fail
  rw [hw6.out]
  refine hcn.mono ?_
  rintro en w7 ⟨rfl, hx7⟩
  have hbq7 := hbq6.ext hx7
  have hb7 := hb6.ext hx7
  have hx07 : Ext w w7 := hx6.trans hx7
  have hfin : ∀ W, Chg (fun k => k = q) w7 W → PO (.returned (.tuple #[.agg #[.bool false, .int .i64 0, .string T, .int .u64 (n : Int)], .slice A5 N2 c5, .int .i64 0])) W := fun W hW => by
    rw [← hPO.out, ← hRe]
    refine ⟨A5, c5, ?_, ?_, i2, ?_, i4, ext_out hx07 hW (fun k e => by omega)⟩
    · show _ = Ending.returned (.tuple #[entV ⟨false, 0, T, n⟩, .slice A5 rest2.length c5, .int .i64 0])
      rw [hN2.out]; rfl
    · by_cases hne : rest2 = []
      · subst hne; exact Rd.nil _ _
      · obtain ⟨b9, o9, rfl, hc9⟩ := (h16.ext hx7).at_ (k := 0) (List.length_pos_iff.2 hne)
        refine Rd.chg (h16.ext hx7) hW (fun a ha e => ?_)
        injection ha with ha
        subst ha
        have e : b9 = q := e
        subst e
        have := hbq7.cell (o9 + 0)
        rw [hc9] at this
        rcases o9 with _ | _ | _ | _ | o9 <;> simp at this
    · show rest2.length ≤ c5
      rw [hN2.out]; exact i3
  clear hno hRe hcn
  replace hfin := Lib.hid hfin
  clear q0 q1 q2 q3 g0 g1 g2 g3 y0 y1 y2 y3 z0 z1 z2 z3 e0 e1 e2 e3 k0 k1 k2 k3 l0 l1 l2 l3
  have e0 := hb7.cell 0
  have e1 := hb7.cell 1
  have e2 := hb7.cell 2
  have e3 := hb7.cell 3
  have k0 := hbq7.cell 0
  have k1 := hbq7.cell 1
  have k2 := hbq7.cell 2
  have k3 := hbq7.cell 3
  have l0 := hbq7.frozen 0
  have l1 := hbq7.frozen 1
  have l2 := hbq7.frozen 2
  have l3 := hbq7.frozen 3
  simp only [List.getElem?_toArray, List.getElem?_cons_zero, List.getElem?_cons_succ] at e0 e1 e2 e3 k0 k1 k2 k3
  have hch4 := ((((Chg.refl (fun k => k = q) w7).set (p := ⟨q, 0, none⟩) (.inl rfl) (.bool false)).set (p := ⟨q, 1, none⟩) (.inl rfl) (.int .i64 0)).set (p := ⟨q, 2, none⟩) (.inl rfl) (.string T)).set (p := ⟨q, 3, none⟩) (.inl rfl) (.int .u64 (n : Int))
  have hbF := (((hbq7.set 0 (.bool false)).set 1 (.int .i64 0)).set 2 (.string T)).set 3 (.int .u64 (n : Int))
  have hp := hfin.out _ hch4
  clear hfin hch4
  go_wp2_with fail
  refine bodyPost_ret (resE rfl rfl rfl hbF) rfl ?_
  exact hp
/-- an entry taken from any bytes -/
theorem Take_any (A : Option Addr) (m c : Nat) (l : List UInt8) (w : World) (hr : Rb w A l) (hl : l.length = m) (hA : A = none → c = 0) (hmc : m ≤ c) (hc : c ≤ maxLen) (hm : m ≤ 140737488355328) (hwd : Wd w) (hpow : Pow w) :
    Calls Tryd.prog 11 #[.slice A m c] w fun e w' => TeV w (takeE l) e w' := by
  cases l with
  | nil => have : m = 0 := by rw [← hl]; rfl
           subst this; exact take_nil A c w
  | cons x r =>
    by_cases h7 : 7 < x.toNat
    · rw [show takeE (x :: r) = (e0, [], 4) by rw [takeE, if_pos h7]]
      exact take_big A m c x r w hr hl hA hmc hc h7
    · by_cases h0 : 0 < x.toNat
      · rw [show takeE (x :: r) = (⟨true, (x.toNat : Int) - 1, ⟨#[]⟩, 0⟩, r, 0) by rw [takeE, if_neg h7, if_pos h0]]
        exact take_pol A m c x r w hr hl hA hmc hc (by omega) h0
      · exact take_txt A m c x r w hr hl hA hmc hc hm (by omega) hwd hpow
end Go.Proofs.YtbpfabhlngfciaaDoor.Ch
/- append onto a new empty slice of one's own: nothing that was there changes. -/
namespace Go.Proofs.YtbpfabhlngfciaaDoor.Pr
open Go.ChangeShapes Go.WideShapes Go.ChangeAt Go.RowKit
open Base
set_option linter.unusedVariables false

theorem app0_run {P : Program} {t e : TypeId} {z : Value} {size bytes : Nat} (E : El P t e z size bytes) (w : World) (ty : TypeId) (base : Nat)
    (g : Nat) (hown : w.ownsRow base e size (.slice (some ⟨g, 0, none⟩) 0 0) 0 [])
    (A : Option Addr) (m c : Nat) (news : List Value) (hr : Rd w A news) (hl : news.length = m * size) (hA : A = none → c = 0)
    (hbytes : m * bytes ≤ 140737488355328) (hby : 0 < bytes) (hbase : base ≤ w.heap.size) :
    ∃ v' w', (Builtin.append_ #[t, t] ty #[.slice (some ⟨g, 0, none⟩) 0 0, .slice A m c]).run P w = .ok v' w' ∧ w'.ownsRow base e size v' m news ∧ Ext w w' := by
  obtain ⟨i, hi, hz, hs, hb⟩ := info_parts E.info
  have hpos := E.pos
  by_cases hne : news = []
  · subst hne
    have hm : m = 0 := by
      rcases Nat.eq_zero_or_pos m with h | h
      · exact h
      · have := Nat.mul_pos h hpos; simp at hl; omega
    subst hm
    refine ⟨_, w, ?_, hown, Ext.refl w⟩
    cases A with
    | none =>
      rw [hA rfl]
      exact run_append_nothing (P := P) w t t ty e i E.under hi (some ⟨g, 0, none⟩) 0 0 (Nat.le_refl _) _ (Src.ofNil (P := P) (w := w) E.under 0)
    | some ad =>
      exact run_append_nothing (P := P) w t t ty e i E.under hi (some ⟨g, 0, none⟩) 0 0 (Nat.le_refl _) _ (Src.ofSlice (P := P) (w := w) E.under ad 0 c [] (by simp) (by simp) (fun u hu => by cases hu))
  · obtain ⟨b, off, rfl, hc⟩ := hr hne
    have hm : 0 < m := by
      rcases Nat.eq_zero_or_pos m with h | h
      · subst h; rw [Nat.zero_mul] at hl; exact absurd (List.eq_nil_of_length_eq_zero hl) hne
      · exact h
    have h63 : m ≤ maxLen := by
      have h : m * 1 ≤ m * bytes := Nat.mul_le_mul_left _ hby
      unfold maxLen; omega
    have h63' : ((0 + m : Nat) : Int) ≤ 9223372036854775807 := by unfold maxLen at h63; omega
    have hr := run_append_grow (P := P) w t ty e i z E.under hi hz ⟨g, 0, none⟩ 0 0 [] (by simp) (by simp) ⟨b, off, none⟩ m c news (by rw [hs]; exact hl) (fun j u hj => by
      have hadd : (⟨b, off, none⟩ : Addr).add j = ⟨b, off + j, none⟩ := by unfold Addr.add; split <;> simp_all
      rw [hadd]; exact hc j u hj) (by omega) h63' (growslice_fits (by omega) (by rw [hb, Nat.zero_add]; exact hbytes))
    have hge := grownCap_ge w (0 + m) 0 e
    have hcm : grownCap w (0 + m) 0 e ≤ maxLen := grownCap_le_maxLen w (0 + m) 0 e (by omega)
    refine ⟨_, _, hr, ⟨hl, .inr ⟨w.heap.size, _, _, by rw [Nat.zero_add], hbase, heap_alloc_new w.drew _, by rw [Nat.zero_add] at hge; exact hge, by rw [Nat.zero_add] at hcm; exact hcm, ?_, ?_⟩⟩, ((Ext.refl w).drew).alloc _⟩
    · have e1 : m * size + (grownCap w (0 + m) 0 e - (0 + m)) * size = grownCap w (0 + m) 0 e * size := by
        rw [← Nat.add_mul]; congr 1; omega
      simp only [Array.size_append, List.size_toArray, size_zeroCells, E.cells, hl, List.length_nil, Nat.zero_add] at e1 ⊢
      exact e1
    · simp only [Array.toList_append, List.append_assoc]
      rw [← hl]
      simp
theorem wp_app0 {P : Program} {t e : TypeId} {z : Value} {size bytes : Nat} (E : El P t e z size bytes) (w : World) {o : Oper} {a : Act} {K : Act → World → Prop} {Q : Exit → Act → World → Prop} (s x : Operand)
    (ho : o.op = .call { callee := .builtin .append, args := #[s, x], argTypes := #[t, t] }) (base : Nat)
    (g : Nat) (hs : a.eval s = .slice (some ⟨g, 0, none⟩) 0 0) (hown : w.ownsRow base e size (.slice (some ⟨g, 0, none⟩) 0 0) 0 [])
    (A : Option Addr) (m c : Nat) (news : List Value) (hx : a.eval x = .slice A m c) (hr : Rd w A news) (hl : news.length = m * size) (hA : A = none → c = 0)
    (hbytes : m * bytes ≤ 140737488355328) (hby : 0 < bytes) (hbase : base ≤ w.heap.size)
    (h : ∀ v' w', w'.ownsRow base e size v' m news → Ext w w' → K (a.put o.dst v') w') : o.wp P a w K Q := by
  obtain ⟨v', w', hrun, h2, h3⟩ := app0_run E w o.type base g hown A m c news hr hl hA hbytes hby hbase
  unfold Oper.wp execOp
  simp only [ho, resolve, invoke, builtin, Sem.run_bind, Sem.run_pure, Result.andThen_ok, List.map_toArray, List.map_cons, List.map_nil, hs, hx, hrun]
  exact h v' w' h2 h3
end Go.Proofs.YtbpfabhlngfciaaDoor.Pr
/- chain: what lives; two entries held against each other; append onto a new empty slice. -/
namespace Go.Proofs.YtbpfabhlngfciaaDoor.Ch
open Go.ChangeShapes Go.WideShapes Go.ChangeAt Go.RowKit
open Base Pf Cn Pr Lx Mi
set_option linter.unusedVariables false
set_option linter.unusedSimpArgs false

theorem wpList_app0 {P : Program} {t e : TypeId} {z : Value} {size bytes : Nat} (E : El P t e z size bytes) (w : World) {ops : Array Oper} {rest : List Oper} {o : Oper} {a : Act} {Q : Exit → Act → World → Prop} (hgd : o.guard = none) (s x : Operand)
    (ho : o.op = .call { callee := .builtin .append, args := #[s, x], argTypes := #[t, t] }) (base : Nat)
    (g : Nat) (hs : a.eval s = .slice (some ⟨g, 0, none⟩) 0 0) (hown : w.ownsRow base e size (.slice (some ⟨g, 0, none⟩) 0 0) 0 [])
    (A : Option Addr) (m c : Nat) (news : List Value) (hx : a.eval x = .slice A m c) (hr : Rd w A news) (hl : news.length = m * size) (hA : A = none → c = 0)
    (hbytes : m * bytes ≤ 140737488355328) (hby : 0 < bytes) (hbase : base ≤ w.heap.size)
    (h : ∀ v' w', w'.ownsRow base e size v' m news → Ext w w' → wpList P ops Q rest (a.put o.dst v') w') : wpList P ops Q (o :: rest) a w :=
  wpList_plain hgd fun _ hK => wp_app0 E w s x ho base g hs hown A m c news hx hr hl hA hbytes hby hbase fun v' w' h2 h3 => hK _ _ (h v' w' h2 h3)
theorem hs_str (a b : ByteArray) : a.toList = b.toList ↔ a = b := ⟨fun h => Classical.byContradiction fun hn => by have := str_ne hn; rw [h] at this; simp at this, fun h => by rw [h]⟩
theorem eql_ent (x y : Et) (w : World) : (binOp .eql 27 (entV x) (entV y)).run Tryd.prog w = .ok (.bool (decide (x = y))) w := by
  have hS : Tryd.prog.underlying 27 = some (.struct (Tryd.prog.fieldsOf 27)) := by kernel_rfl
  have hp : Tryd.prog.stoodInHeld 27 = false := by kernel_rfl
  obtain ⟨p1, i1, s1, n1⟩ := x
  obtain ⟨p2, i2, s2, n2⟩ := y
  unfold entV
  rw [run_eql_struct, show (10000 : Nat) = 9999 + 1 from rfl, run_equalIn_agg w 9999 27 _ _ hS hp]
  simp only [Program.fieldsOf, Tryd.underlying27]
  go_simp
  have hs := hs_str s1 s2
  by_cases h1 : p1 = p2 <;> by_cases h2 : i1 = i2 <;> by_cases h3 : s1 = s2 <;> by_cases h4 : n1 = n2 <;> simp [hs, h1, h2, h3, h4] <;> omega
theorem neq_ent (x y : Et) (w : World) : (binOp .neq 27 (entV x) (entV y)).run Tryd.prog w = .ok (.bool (!decide (x = y))) w := by
  have hS : Tryd.prog.underlying 27 = some (.struct (Tryd.prog.fieldsOf 27)) := by kernel_rfl
  have hp : Tryd.prog.stoodInHeld 27 = false := by kernel_rfl
  obtain ⟨p1, i1, s1, n1⟩ := x
  obtain ⟨p2, i2, s2, n2⟩ := y
  unfold entV
  rw [run_neq_struct, show (10000 : Nat) = 9999 + 1 from rfl, run_equalIn_agg w 9999 27 _ _ hS hp]
  simp only [Program.fieldsOf, Tryd.underlying27]
  go_simp
  have hs := hs_str s1 s2
  by_cases h1 : p1 = p2 <;> by_cases h2 : i1 = i2 <;> by_cases h3 : s1 = s2 <;> by_cases h4 : n1 = n2 <;> simp [hs, h1, h2, h3, h4] <;> omega
theorem isP_int : isP ⟨#[105, 110, 116]⟩ = true := by decide +kernel
theorem can_live : canP ⟨false, 0, ⟨#[105, 110, 116]⟩, 1⟩ = true ∧ canP ⟨false, 0, ⟨#[105, 110, 116]⟩, 0⟩ = false ∧ canP ⟨true, 3, ⟨#[]⟩, 0⟩ = true := by
  refine ⟨?_, ?_, ?_⟩
  · simp [canP, isP_int]
  · simp [canP]
  · rfl
set_option maxRecDepth 100000 in
theorem lives_any (w : World) (hwd : Wd w) (hpow : Pow w) : Calls Tryd.prog 9 #[] w fun e w' => e = .returned (.bool true) ∧ Ext w w' := by
  obtain ⟨l1, l2, l3⟩ := can_live
  have hput := Put_any none 0 0 [] ⟨true, 3, ⟨#[]⟩, 0⟩ ⟨by simp, by simp, Nat.zero_le _, by simp⟩ w (Rd.nil _ _) rfl (fun _ => rfl) (by omega) hwd hpow
  rw [l3, if_pos rfl, if_pos rfl] at hput
  replace hput : Calls Tryd.prog 10 #[.slice none 0 0, .agg #[.bool true, .int .i64 3, .string ⟨#[]⟩, .int .u64 0]] w fun en w' => ∃ v', en = .returned (.tuple #[v', .int .i64 0]) ∧ Ow w.heap.size w' v' [4] ∧ Ext w w' := hput
  go_enter Tryd.func9, Tryd.ntmps9
  go_wp2_with fail
  refine hput.mono ?_
  rintro en w1 ⟨v, rfl, ho, hx1⟩
  obtain ⟨A, c, rfl, jj1, jj2, jj3, jj4⟩ := Rd.of_own ho
  have hcv := fun W (hW : Ext w1 W) => conv_rd (P := Tryd.prog) Tryd.underlying29 Tryd.underlying5 Tryd.underlying9 (w := W) (A := A) (l := [4]) (n := 1) c rfl ((show Rb w1 A [4] from jj3).ext hW)
  have hcv0 : (convert 29 9 (.slice A 1 c)).run Tryd.prog w1 = .ok (.string ⟨#[4]⟩) w1 := hcv w1 (Ext.refl _)
  have hc1 := fun W (hW : Ext w W) => can_live.1 ▸ Can_any ⟨false, 0, ⟨#[105, 110, 116]⟩, 1⟩ ⟨by simp, by simp, by simp [ByteArray.size], by simp⟩ W (hwd.ext hW) (hpow.ext hW)
  have hc2 := fun W (hW : Ext w W) => can_live.2.1 ▸ Can_any ⟨false, 0, ⟨#[105, 110, 116]⟩, 0⟩ ⟨by simp, by simp, by simp [ByteArray.size], by simp⟩ W (hwd.ext hW) (hpow.ext hW)
  have hc1' : ∀ W, Ext w W → Calls Tryd.prog 13 #[.agg #[.bool false, .int .i64 0, .string ⟨#[105, 110, 116]⟩, .int .u64 1]] W fun en w' => en = .returned (.bool true) ∧ Ext W w' := fun W hW => hc1 W hW
  have hc2' : ∀ W, Ext w W → Calls Tryd.prog 13 #[.agg #[.bool false, .int .i64 0, .string ⟨#[105, 110, 116]⟩, .int .u64 0]] W fun en w' => en = .returned (.bool false) ∧ Ext W w' := fun W hW => hc2 W hW
  have h1 := hc1' w1 hx1
  replace hc2' := Lib.hid hc2'
  clear jj1 jj2 jj3 jj4 hput hc1 hc2 hc1' hcv ho l1 l2 l3
  go_wp2_with fail
  refine h1.mono ?_
  rintro en w2 ⟨rfl, hx2⟩
  have h2 := hc2'.out w2 (hx1.trans hx2)
  clear h1
  go_wp2_with fail
  refine h2.mono ?_
  rintro en w3 ⟨rfl, hx3⟩
  go_wp2_with fail
  go_ret
  exact ⟨rfl, (hx1.trans hx2).trans hx3⟩
end Go.Proofs.YtbpfabhlngfciaaDoor.Ch
/- chain: the laws ChainCuts, ChainBack. -/
namespace Go.Proofs.YtbpfabhlngfciaaDoor.Ch
open Go.ChangeShapes Go.WideShapes Go.ChangeAt Go.RowKit
open Base Pf Cn Pr Lx Mi
set_option linter.unusedVariables false
set_option linter.unusedSimpArgs false

set_option maxRecDepth 100000 in
set_option maxHeartbeats 1000000 in
theorem cuts_any (e : Et) (he : EtOk e) (w : World) (hwd : Wd w) (hpow : Pow w) : Calls Tryd.prog 5 #[entV e] w fun en w' => en = .returned (.bool true) ∧ Ext w w' := by
  obtain ⟨q, hq⟩ : ∃ z, Hid (w.heap.size = z) := ⟨_, rfl⟩
  obtain ⟨w1, hw1⟩ : ∃ z, Hid (w.alloc (.cells #[.bool e.pol, .int .i64 e.p, .string e.s, .int .u64 (e.id : Int)] 27) = z) := ⟨_, rfl⟩
  have hx1 : Ext w w1 := by rw [← hw1.out]; exact (Ext.refl w).alloc _
  have hbk1 : Blk w1 q #[.bool e.pol, .int .i64 e.p, .string e.s, .int .u64 (e.id : Int)] 27 := by rw [← hw1.out, ← hq.out]; exact Blk.new w _ _
  have hwd1 := hwd.ext hx1
  have hpow1 := hpow.ext hx1
  have hput := Put_any none 0 0 [] e he w1 (Rd.nil _ _) rfl (fun _ => rfl) (by omega) hwd1 hpow1
  rw [List.nil_append] at hput
  by_cases hc : ¬ canP e = true
  · rw [if_neg hc, if_neg hc] at hput
    obtain ⟨pol, p, s, id⟩ := e
    unfold entV at *
    simp only at *
    go_enter Tryd.func5, Tryd.ntmps5
    go_wp2_with fail
    rw [hw1.out, hq.out]
    refine hput.mono ?_
    rintro en w2 ⟨v, rfl, ho, hx2⟩
    obtain ⟨A, c, rfl, jj1, jj2, jj3, jj4⟩ := Rd.of_own ho
    have hl := lives_any w2 (hwd1.ext hx2) (hpow1.ext hx2)
    clear jj1 jj2 jj3 jj4 hput ho
    go_wp2_with fail
    refine hl.mono ?_
    rintro en w3 ⟨rfl, hx3⟩
    go_wp2_with fail
    go_ret
    exact ⟨rfl, (hx1.trans hx2).trans hx3⟩
  replace hc := Decidable.not_not.1 hc
  rw [if_pos hc, if_pos hc] at hput
  have hcut := take_cut e hc
  have hne := bytesP_ne e
  have hbl := bytesP_len e hc
  obtain ⟨E, hE⟩ : ∃ z, Hid (bytesP e = z) := ⟨_, Lib.hid rfl⟩
  rw [hE.out] at hput hcut hne hbl
  obtain ⟨n, hn⟩ : ∃ z, Hid (E.length = z) := ⟨_, Lib.hid rfl⟩
  have hn0 : 0 < n := by rw [← hn.out]; exact List.length_pos_iff.2 hne
  rw [hn.out] at hbl
  have hne' : ((n : Int) == 0) = false := by simp; omega
  obtain ⟨pol, p, s, id⟩ := e
  unfold entV at *
  simp only at *
  go_enter Tryd.func5, Tryd.ntmps5
  go_wp2_with fail
  rw [hw1.out, hq.out]
  refine hput.mono ?_
  rintro en w2 ⟨v, rfl, ho, hx2⟩
  obtain ⟨A, c, rfl, jj1, jj2, jj3, jj4⟩ := Rd.of_own ho
  have hA : A = none → c = 0 := own_none ho
  rw [hn.out] at jj1 ⊢
  have hc2 : c ≤ maxLen := by first | exact jj2 | exact jj4
  unfold maxLen at hc2
  have hcs := fun W => run_cutAt (P := Tryd.prog) (t := 29) (e := 5) Tryd.underlying29 (by kernel_rfl) W A n c 0 (n - 1) none (some (.int .i64 ((n - 1 : Nat) : Int))) (.inr ⟨rfl, rfl⟩) (.inl rfl) (by omega) (by omega) (fun _ => by omega)
  simp only [Nat.sub_zero] at hcs
  have hrest : Rb w2 (cutA A c 0) E.dropLast := by
    have := Rb.cut (l := 0) (k := n - 1) (c := c) (show Rb w2 A E from jj3) (by omega) (by omega)
    rwa [List.drop_zero, ← hn.out, ← List.dropLast_eq_take] at this
  obtain ⟨A1, hA1⟩ : ∃ z, Hid (cutA A c 0 = z) := ⟨_, Lib.hid rfl⟩
  have hA1n : A1 = none → c = 0 := fun e => by rw [← hA1.out] at e; exact cutA_none hA e
  simp only [hA1.out] at hcs hrest
  have hsub : IntKind.i64.wrap ((n : Int) - 1) = ((n - 1 : Nat) : Int) := by rw [IntKind.wrap_i64]; omega
  have hdl : E.dropLast.length = n - 1 := by rw [List.length_dropLast, hn.out]
  obtain ⟨k, hk⟩ : ∃ k, n - 1 = k := ⟨_, rfl⟩
  rw [hk] at hcs hsub hdl
  have hnk : (n : Int) - 1 = (k : Int) := by omega
  have hx3 : Ext w2 (w2.alloc (.cells #[] 5)) := (Ext.refl w2).alloc _
  have hlit : (w2.alloc (.cells #[] 5)).ownsRow w2.heap.size 5 1 (.slice (some ⟨w2.heap.size, 0, none⟩) 0 0) 0 [] := World.ownsRow_lit w2 #[] 0 (Nat.le_refl _) (Nat.zero_le _) rfl
  have hr3 := hrest.ext hx3
  have hb3 := hx3.size
  have hwd2 := hwd1.ext hx2
  have hpow2 := hpow1.ext hx2
  replace hA1n := Lib.hid hA1n
  clear jj1 jj2 jj3 jj4 hput ho hA hrest
  go_wp2_with (first
    | (refine wpList_cut rfl 29 (.tmp 27) none (some (.tmp 30)) rfl _ _ _ _ rfl rfl rfl (hcs _) ?_)
    | (refine wpList_app0 el8 _ rfl (.tmp 26) (.tmp 31) rfl _ _ rfl hlit A1 k c (u8s E.dropLast) rfl hr3 (by rw [u8s_length, hdl, Nat.mul_one]) hA1n.out (by omega) (by omega) hb3 (fun v' w' ho' hx' => ?_)))
  have hx4 : Ext w2 w' := hx3.trans hx'
  obtain ⟨A4, c4, rfl, j1, j2, j3, j4⟩ := Rd.of_own ho'
  have htk := Take_any A4 k c4 E.dropLast w' j3 hdl (own_none ho') j1 j2 (by omega) (hwd2.ext hx4) (hpow2.ext hx4)
  rw [hcut] at htk
  replace htk : Calls Tryd.prog 11 #[.slice A4 k c4] w' fun e w2 => ∃ A' c', e = .returned (.tuple #[.agg #[.bool false, .int .i64 0, .string ⟨#[]⟩, .int .u64 0], .slice A' 0 c', .int .i64 3]) ∧ Rb w2 A' [] ∧ (A' = none → c' = 0) ∧ 0 ≤ c' ∧ c' ≤ maxLen ∧ Ext w' w2 := htk
  have hEq := fun W => eql_ent ⟨false, 0, ⟨#[]⟩, 0⟩ ⟨false, 0, ⟨#[]⟩, 0⟩ W
  unfold entV at hEq
  simp only [decide_true] at hEq
  clear hcs hlit hr3 hA1n j1 j2 j3 j4 ho'
  refine htk.mono ?_
  rintro en w5 ⟨A5, c5, rfl, i1, i2, i3, i4, hx5⟩
  have hxa : Ext w5 (w5.alloc (.cells #[.bool false, .int .i64 0, .string ⟨#[]⟩, .int .u64 0] 27)) := (Ext.refl w5).alloc _
  have hx6 := (hx4.trans hx5).trans hxa
  have hl := lives_any _ (hwd2.ext hx6) (hpow2.ext hx6)
  clear htk i1 i2
  go_wp2_with fail
  refine hl.mono ?_
  rintro en w7 ⟨rfl, hx7⟩
  go_wp2_with fail
  go_ret
  exact ⟨rfl, ((hx1.trans hx2).trans hx6).trans hx7⟩
end Go.Proofs.YtbpfabhlngfciaaDoor.Ch
/- chain: the law ChainBack. -/
namespace Go.Proofs.YtbpfabhlngfciaaDoor.Ch
open Go.ChangeShapes Go.WideShapes Go.ChangeAt Go.RowKit
open Base Pf Cn Pr Lx Mi
set_option linter.unusedVariables false
set_option linter.unusedSimpArgs false

set_option maxRecDepth 100000 in
set_option maxHeartbeats 1000000 in
theorem back_any (e : Et) (he : EtOk e) (Ab : Option Addr) (nb cb : Nat) (bh : List UInt8) (w : World) (hwd : Wd w) (hpow : Pow w) (hl : bh.length = nb) (hrb : Rb w Ab bh) (hcb : nb ≤ cb) (hAb : Ab = none → cb = 0) (hz : nb ≤ 140737488300000) :
    Calls Tryd.prog 4 #[entV e, .slice Ab nb cb] w fun en w' => en = .returned (.bool true) ∧ Ext w w' := by
  obtain ⟨q, hq⟩ : ∃ z, Hid (w.heap.size = z) := ⟨_, rfl⟩
  obtain ⟨w1, hw1⟩ : ∃ z, Hid (w.alloc (.cells #[.bool e.pol, .int .i64 e.p, .string e.s, .int .u64 (e.id : Int)] 27) = z) := ⟨_, rfl⟩
  have hx1 : Ext w w1 := by rw [← hw1.out]; exact (Ext.refl w).alloc _
  have hbk1 : Blk w1 q #[.bool e.pol, .int .i64 e.p, .string e.s, .int .u64 (e.id : Int)] 27 := by rw [← hw1.out, ← hq.out]; exact Blk.new w _ _
  have hwd1 := hwd.ext hx1
  have hpow1 := hpow.ext hx1
  have hput := Put_any none 0 0 [] e he w1 (Rd.nil _ _) rfl (fun _ => rfl) (by omega) hwd1 hpow1
  rw [List.nil_append] at hput
  by_cases hc : ¬ canP e = true
  · rw [if_neg hc, if_neg hc] at hput
    obtain ⟨pol, p, s, id⟩ := e
    unfold entV at *
    simp only at *
    go_enter Tryd.func4, Tryd.ntmps4
    go_wp2_with fail
    rw [hw1.out, hq.out]
    refine hput.mono ?_
    rintro en w2 ⟨v, rfl, ho, hx2⟩
    obtain ⟨A, c, rfl, jj1, jj2, jj3, jj4⟩ := Rd.of_own ho
    have hl := lives_any w2 (hwd1.ext hx2) (hpow1.ext hx2)
    clear jj1 jj2 jj3 jj4 hput ho
    go_wp2_with fail
    refine hl.mono ?_
    rintro en w3 ⟨rfl, hx3⟩
    go_wp2_with fail
    go_ret
    exact ⟨rfl, (hx1.trans hx2).trans hx3⟩
  replace hc := Decidable.not_not.1 hc
  rw [if_pos hc, if_pos hc] at hput
  have hcut := take_back e hc bh
  have hbl := bytesP_len e hc
  obtain ⟨E, hE⟩ : ∃ z, Hid (bytesP e = z) := ⟨_, Lib.hid rfl⟩
  rw [hE.out] at hput hcut hbl
  obtain ⟨n, hn⟩ : ∃ z, Hid (E.length = z) := ⟨_, Lib.hid rfl⟩
  rw [hn.out] at hbl
  have hEq := fun W => eql_ent e e W
  simp only [decide_true] at hEq
  obtain ⟨pol, p, s, id⟩ := e
  unfold entV at *
  simp only at *
  replace hAb := Lib.hid hAb
  go_enter Tryd.func4, Tryd.ntmps4
  go_wp2_with fail
  rw [hw1.out, hq.out]
  refine hput.mono ?_
  rintro en w2 ⟨v, rfl, ho, hx2⟩
  obtain ⟨A, c, rfl, jj1, jj2, jj3, jj4⟩ := Rd.of_own ho
  have hA : A = none → c = 0 := own_none ho
  rw [hn.out] at jj1 ⊢
  have hx3 : Ext w2 (w2.alloc (.cells #[] 5)) := (Ext.refl w2).alloc _
  have hlit : (w2.alloc (.cells #[] 5)).ownsRow w2.heap.size 5 1 (.slice (some ⟨w2.heap.size, 0, none⟩) 0 0) 0 [] := World.ownsRow_lit w2 #[] 0 (Nat.le_refl _) (Nat.zero_le _) rfl
  have hr3 : Rb (w2.alloc (.cells #[] 5)) A E := Rb.ext jj3 hx3
  have hb3 := hx3.size
  have hwd2 := hwd1.ext hx2
  have hpow2 := hpow1.ext hx2
  replace hA := Lib.hid hA
  have hrbF := fun W (hW : Ext w2 W) => hrb.ext (hx1.trans (hx2.trans hW))
  clear jj1 jj2 jj3 jj4 hput ho
  replace hrbF := Lib.hid hrbF
  go_wp2_with (first
    | (refine wpList_app0 el8 _ rfl (.tmp 24) (.tmp 25) rfl _ _ rfl hlit A n c (u8s E) rfl hr3 (by rw [u8s_length, hn.out, Nat.mul_one]) hA.out (by omega) (by omega) hb3 (fun v' w' ho' hx' => ?_))
    | (refine wpList_app el8 _ rfl (.tmp 26) (.tmp 27) rfl w2.heap.size _ n (u8s E) rfl ho' Ab nb cb (u8s bh) rfl (hrbF.out _ (hx3.trans hx')) (by rw [u8s_length, hl, Nat.mul_one]) hAb.out (u8s_one _) (by omega) (by omega) (Nat.le_trans hb3 hx'.size) (fun v2 w4 ho2 hg2 hv2 => ?_)))
  have hx4 : Ext w2 w4 := Ext.then_grown (hx3.trans hx') hg2 (fun k hk => (ho'.lt k hk).1)
  rw [← u8s_append] at ho2
  obtain ⟨A4, c4, rfl, j1, j2, j3, j4⟩ := Rd.of_own ho2
  have htk := Take_any A4 (n + nb) c4 (E ++ bh) w4 j3 (by rw [List.length_append, hn.out, hl]) (own_none ho2) j1 j2 (by omega) (hwd2.ext hx4) (hpow2.ext hx4)
  rw [hcut] at htk
  have htk : Calls Tryd.prog 11 #[.slice A4 (n + nb) c4] w4 fun e w2 => ∃ A' c', e = .returned (.tuple #[.agg #[.bool pol, .int .i64 p, .string s, .int .u64 (id : Int)], .slice A' bh.length c', .int .i64 0]) ∧ Rb w2 A' bh ∧ (A' = none → c' = 0) ∧ bh.length ≤ c' ∧ c' ≤ maxLen ∧ Ext w4 w2 := htk
  clear hlit hr3 j1 j2 j3 j4 ho2 ho'
  refine htk.mono ?_
  rw [hl]
  rintro en w5 ⟨A5, c5, rfl, i1, i2, i3, i4, hx5⟩
  have hxa : Ext w5 (w5.alloc (.cells #[.bool pol, .int .i64 p, .string s, .int .u64 (id : Int)] 27)) := (Ext.refl w5).alloc _
  have hx6 := (hx4.trans hx5).trans hxa
  have hl7 := lives_any _ (hwd2.ext hx6) (hpow2.ext hx6)
  have hbq := hbk1.ext (hx2.trans hx6)
  have d0 := hbq.cell 0
  have d1 := hbq.cell 1
  have d2 := hbq.cell 2
  have d3 := hbq.cell 3
  simp only [List.getElem?_toArray, List.getElem?_cons_zero, List.getElem?_cons_succ] at d0 d1 d2 d3
  have hcv1 := conv_rd (P := Tryd.prog) Tryd.underlying29 Tryd.underlying5 Tryd.underlying9 (w := (w5.alloc (.cells #[.bool pol, .int .i64 p, .string s, .int .u64 (id : Int)] 27))) (A := A5) (l := bh) (n := nb) c5 hl (i1.ext hxa)
  have hcv2 := conv_rd (P := Tryd.prog) Tryd.underlying29 Tryd.underlying5 Tryd.underlying9 (w := (w5.alloc (.cells #[.bool pol, .int .i64 p, .string s, .int .u64 (id : Int)] 27))) (A := Ab) (l := bh) (n := nb) cb hl (hrbF.out _ hx6)
  have hSS : ((Str bh).toList == (Str bh).toList) = true := by simp
  clear htk i1 i2
  go_wp2_with fail
  refine hl7.mono ?_
  rintro en w7 ⟨rfl, hx7⟩
  go_wp2_with fail
  go_ret
  exact ⟨rfl, ((hx1.trans hx2).trans hx6).trans hx7⟩
end Go.Proofs.YtbpfabhlngfciaaDoor.Ch
