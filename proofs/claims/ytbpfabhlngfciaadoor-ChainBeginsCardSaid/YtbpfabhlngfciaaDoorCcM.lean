/- prefix: texts put; numbers and texts taken, walked. -/
import Derived.Test.YtbpfabhlngfciaaDoorCcL
import Derived.Lib.AppendStr
namespace Go.Proofs.YtbpfabhlngfciaaDoor.Pf
open Go.ChangeShapes Go.WideShapes Go.ChangeAt Go.RowKit
open Base
set_option linter.unusedVariables false
set_option linter.unusedSimpArgs false

theorem own_shape {B : Nat} {w : World} {v : Value} {l : List UInt8} (h : Ow B w v l) : ∃ A c, v = .slice A l.length c := by
  obtain ⟨A, c, e, _⟩ := Rd.of_own h
  exact ⟨A, c, e⟩
theorem put_any (B : Nat) (v : Value) (l : List UInt8) (n : Nat) (w : World) (ho : Ow B w v l) (hB : B ≤ w.heap.size) (hn : n < 4611686018427387904) (hm : l.length ≤ 140737488355000) :
    Calls Tryd.prog 26 #[v, .int .u64 (n : Int), .int .i64 (cls n)] w fun e w' => ∃ v', e = .returned v' ∧ Ow B w' v' (l ++ encN n) ∧ Below B w w' := by
  obtain ⟨A, c, rfl⟩ := own_shape ho
  obtain ⟨k, hk, hc⟩ := cls_k hn
  have hlt := cls_lt hk hc
  have he : encN n = putP n k := by unfold encN; rw [hc]; rfl
  have hlen : (l ++ encN n).length = l.length + 2 ^ k := by rw [List.length_append, he, putP, be_length]
  unfold Ow
  rw [hlen, he, hc]
  have h4 : k = 0 ∨ k = 1 ∨ k = 2 ∨ k = 3 := by omega
  rcases h4 with rfl | rfl | rfl | rfl
  · exact (put_0 B A _ c l n w ho hB (by simpa using hlt) hm).mono fun e w' ⟨A', c', h1, h2, h3⟩ => ⟨_, h1, h2, h3⟩
  · exact (put_1 B A _ c l n w ho hB (by simpa using hlt) hm).mono fun e w' ⟨A', c', h1, h2, h3⟩ => ⟨_, h1, h2, h3⟩
  · exact (put_2 B A _ c l n w ho hB (by simpa using hlt) hm).mono fun e w' ⟨A', c', h1, h2, h3⟩ => ⟨_, h1, h2, h3⟩
  · exact (put_3 B A _ c l n w ho hB (by simpa using hlt) hm).mono fun e w' ⟨A', c', h1, h2, h3⟩ => ⟨_, h1, h2, h3⟩
set_option maxRecDepth 100000 in
theorem Put_any (A : Option Addr) (m c : Nat) (l : List UInt8) (n : Nat) (w : World) (hr : Rb w A l) (hl : l.length = m) (hA : A = none → c = 0) (hm : m ≤ 140737488355000) (hn : n < 18446744073709551616) :
    Calls Tryd.prog 20 #[.slice A m c, .int .u64 (n : Int)] w fun e w' => ∃ v', e = .returned (.tuple #[v', .int .i64 (if n < 4611686018427387904 then 0 else 1)]) ∧ Ow w.heap.size w' v' (if n < 4611686018427387904 then l ++ encN n else l) ∧ Ext w w' := by
  have hcl := clone_any A m c l w hr hl hA (by omega)
  have hcs := fun W => class_any n hn W
  by_cases h : n < 4611686018427387904
  · simp only [if_pos h]
    obtain ⟨k, hk, hc⟩ := cls_k h
    have hk0 : ¬ (cls n) < 0 := by rw [hc]; omega
    have hput := fun v W ho hB => put_any w.heap.size v l n W ho hB h (by omega)
    obtain ⟨K, hK⟩ : ∃ z, Hid (cls n = z) := ⟨_, rfl⟩
    rw [hK.out] at hk0
    simp only [hK.out] at hcs hput
    obtain ⟨E, hE⟩ : ∃ z, Hid (l ++ encN n = z) := ⟨_, Lib.hid rfl⟩
    simp only [hE.out] at hput
    rw [hE.out]
    replace hput := Lib.hid hput
    clear hc h
    go_enter Tryd.func20, Tryd.ntmps20
    go_wp2_with fail
    refine hcl.mono ?_
    rintro e w1 ⟨v1, rfl, ho1, hx1⟩
    have hcs1 := hcs w1
    have hput1 := hput.out v1 w1 ho1 hx1.size
    clear hcl hcs hput
    go_wp2_with fail
    refine hcs1.mono ?_
    rintro e w2 ⟨rfl, hw2⟩
    subst hw2
    clear hcs1
    go_wp2_with fail
    refine hput1.mono ?_
    rintro e w3 ⟨v3, rfl, ho3, hg3⟩
    clear hput1
    go_wp2_with fail
    go_ret2
    exact ⟨_, rfl, ho3, Below.trans hx1 hg3⟩
  · simp only [if_neg h]
    have hc : cls n = -1 := by unfold cls; rw [if_pos (by omega)]
    simp only [hc] at hcs
    clear h hc
    go_enter Tryd.func20, Tryd.ntmps20
    go_wp2_with fail
    refine hcl.mono ?_
    rintro e w1 ⟨v1, rfl, ho1, hx1⟩
    have hcs1 := hcs w1
    clear hcl hcs
    go_wp2_with fail
    refine hcs1.mono ?_
    rintro e w2 ⟨rfl, hw2⟩
    subst hw2
    clear hcs1
    go_wp2_with fail
    go_ret2
    exact ⟨_, rfl, ho1, hx1⟩
theorem str_u8s (s : ByteArray) : Lib.strCells s = u8s s.data.toList := by simp [Lib.strCells, u8s]
set_option maxRecDepth 100000 in
theorem text_any (B : Nat) (v : Value) (l : List UInt8) (s : ByteArray) (w : World) (ho : Ow B w v l) (hB : B ≤ w.heap.size) (hm : l.length + s.size ≤ 140737488350000) :
    Calls Tryd.prog 27 #[v, .string s] w fun e w' => ∃ v', e = .returned v' ∧ Ow B w' v' (l ++ encT s.data.toList) ∧ Below B w w' := by
  have hss : s.data.toList.length = s.size := Array.length_toList
  have hcs := fun W => class_any s.size (by omega) W
  have hput := put_any B v l s.size w ho hB (by omega) (by omega)
  obtain ⟨K, hK⟩ : ∃ z, Hid (cls s.size = z) := ⟨_, rfl⟩
  rw [hK.out] at hput
  simp only [hK.out] at hcs
  have henc : encT s.data.toList = encN s.size ++ s.data.toList := by unfold encT; rw [hss]
  have hel : (encN s.size).length ≤ 8 := by rcases encN_length s.size with h | h; exact h; omega
  rw [henc, ← List.append_assoc]
  obtain ⟨E, hE⟩ : ∃ z, Hid (l ++ encN s.size = z) := ⟨_, Lib.hid rfl⟩
  have hEl : E.length ≤ l.length + 8 := by rw [← hE.out, List.length_append]; omega
  rw [hE.out] at hput ⊢
  obtain ⟨i, hi, hz, hs, hby⟩ := info_parts el8.info
  replace hss := Lib.hid hss
  have hcs1 := hcs w
  clear henc hel hcs ho
  go_enter Tryd.func27, Tryd.ntmps27
  go_wp2_with fail
  refine hcs1.mono ?_
  rintro e w1 ⟨rfl, hw1⟩
  subst hw1
  clear hcs1
  go_wp2_with fail
  refine hput.mono ?_
  rintro e w2 ⟨v2, rfl, ho2, hg2⟩
  have hB2 : B ≤ w2.heap.size := by have := hg2.size; omega
  obtain ⟨N2, hN2⟩ : ∃ z, Hid (E.length = z) := ⟨_, rfl⟩
  have ho2' : w2.ownsRow B 5 1 v2 N2 (u8s E) := by rw [← hN2.out]; exact ho2
  have hN2b : N2 ≤ l.length + 8 := by rw [← hN2.out]; exact hEl
  obtain ⟨A2, cap2, rfl, jj1, jj2, jj3, jj4⟩ := Rd.of_own ho2'
  clear jj1 jj2 jj3 jj4 hput ho2 hEl
  go_wp2_with (
    refine Lib.wpList_append_own_string _ rfl (.tmp 13) (.tmp 14) 29 9 rfl B 5 i el8.under Tryd.underlying9 hi hz hs hby (.slice A2 N2 cap2) N2 (u8s E) rfl ho2' s rfl (by unfold maxLen; omega) (by omega) hB2 (fun V3 w3 ho3 hg3 hv3 => ?_))
  go_ret
  refine ⟨V3, rfl, ?_, hg2.trans (grw hB2 ho2' (Ext.refl _) hg3)⟩
  rw [str_u8s, ← u8s_append] at ho3
  unfold Ow
  rw [List.length_append, hss.out, hN2.out]
  exact ho3
set_option maxRecDepth 100000 in
theorem PutText_any (A : Option Addr) (m c : Nat) (l : List UInt8) (s : ByteArray) (w : World) (hr : Rb w A l) (hl : l.length = m) (hA : A = none → c = 0) (hm : m + s.size ≤ 140737488350000) :
    Calls Tryd.prog 21 #[.slice A m c, .string s] w fun e w' => ∃ v', e = .returned v' ∧ Ow w.heap.size w' v' (l ++ encT s.data.toList) ∧ Ext w w' := by
  have hcl := clone_any A m c l w hr hl hA (by omega)
  have htx := fun v W ho hB => text_any w.heap.size v l s W ho hB (by omega)
  obtain ⟨E, hE⟩ : ∃ z, Hid (l ++ encT s.data.toList = z) := ⟨_, Lib.hid rfl⟩
  simp only [hE.out] at htx
  rw [hE.out]
  replace htx := Lib.hid htx
  clear hl hr
  go_enter Tryd.func21, Tryd.ntmps21
  go_wp2_with fail
  refine hcl.mono ?_
  rintro e w1 ⟨v1, rfl, ho1, hx1⟩
  have ht1 := htx.out v1 w1 ho1 hx1.size
  clear hcl htx
  go_wp2_with fail
  refine ht1.mono ?_
  rintro e w2 ⟨v2, rfl, ho2, hg2⟩
  go_wp2_with fail
  go_ret
  exact ⟨_, rfl, ho2, Below.trans hx1 hg2⟩
/-- what a taking hands back -/
def TkV (w : World) (r : Nat × List UInt8 × Nat) (e : Ending) (w' : World) : Prop := ∃ A' c', e = .returned (.tuple #[.int .u64 (r.1 : Int), .slice A' r.2.1.length c', .int .i64 (r.2.2 : Int)]) ∧ Rb w' A' r.2.1 ∧ (A' = none → c' = 0) ∧ r.2.1.length ≤ c' ∧ c' ≤ maxLen ∧ Ext w w'
theorem TkV.no {w w' : World} (n : Nat) (h : Ext w w') : TkV w (0, [], n) (.returned (.tuple #[.int .u64 0, .slice none 0 0, .int .i64 (n : Int)])) w' := ⟨none, 0, rfl, Rd.nil _ _, fun _ => rfl, Nat.le_refl _, by unfold maxLen; omega, h⟩
theorem numB_snoc : ∀ (l : List UInt8) (a : Nat) (c : UInt8), numB a (l ++ [c]) = numB a l * 256 + c.toNat
  | [], a, c => rfl
  | x :: l, a, c => by rw [List.cons_append, numB, numB_snoc l, numB]
theorem numB_lt : ∀ (l : List UInt8) (a : Nat), numB a l < (a + 1) * 256 ^ l.length
  | [], a => by simp [numB]
  | x :: l, a => by
    have h := numB_lt l (a * 256 + x.toNat)
    have hx := x.toNat_lt
    rw [numB, List.length_cons, Nat.pow_succ]
    refine Nat.lt_of_lt_of_le h ?_
    rw [Nat.mul_comm (256 ^ l.length) 256, ← Nat.mul_assoc]
    exact Nat.mul_le_mul_right _ (by omega)
theorem or_byte (x y : Nat) (hx : x < 18014398509481984) (hy : y < 256) : bits BinOp.or IntKind.u64 ((x : Int) * 256) (y : Int) = ((x * 256 + y : Nat) : Int) := by
  rw [show (x : Int) * 256 = ((x * 256 : Nat) : Int) by omega, u64_or_nat _ _ (by omega) (by omega), Nat.or_comm, or_top y x 8 256 rfl hy]
  congr 1; omega
theorem and63 (x : UInt8) : bits BinOp.and IntKind.u8 (x.toNat : Int) 63 = ((x.toNat % 64 : Nat) : Int) := by
  have hx := x.toNat_lt
  rw [show (63 : Int) = ((63 : Nat) : Int) from rfl, u8_and_nat _ _ hx (by decide), show (63 : Nat) = 2 ^ 6 - 1 from rfl, Nat.and_two_pow_sub_one_eq_mod]
set_option maxRecDepth 100000 in
set_option maxHeartbeats 1000000 in
theorem take_k0 (A : Option Addr) (m c : Nat) (x : UInt8) (r : List UInt8) (w : World) (hr : Rb w A (x :: r)) (hl : (x :: r).length = m) (hA : A = none → c = 0) (hmc : m ≤ c) (hc : c ≤ maxLen) (hk : x.toNat / 64 = 0) :
    Calls Tryd.prog 22 #[.slice A m c] w fun e w' => TkV w (takeP (x :: r)) e w' := by
  have hx := x.toNat_lt
  obtain ⟨R, hR⟩ : ∃ z, Hid (takeP (x :: r) = z) := ⟨_, Lib.hid rfl⟩
  have hRd := hR.out
  rw [takeP, hk, hl] at hRd
  rw [hR.out]
  obtain ⟨b, off, rfl, hc0⟩ := hr.at_ (k := 0) (by simp)
  rw [show off + 0 = off from rfl] at hc0
  replace hc0 : w.cell? ⟨b, off, none⟩ = some (.int .u8 (x.toNat : Int)) := hc0
  have hm0 : 0 < m := by rw [← hl]; simp
  have hm0' : ((m : Int) == 0) = false := by simp; omega
  have hkI : (x.toNat : Int) / 64 = 0 := by omega
  have h63 := and63 x
  obtain ⟨a0, ha0⟩ : ∃ z, Hid (x.toNat % 64 = z) := ⟨_, rfl⟩
  have ha64 : a0 < 64 := by rw [← ha0.out]; omega
  rw [ha0.out] at h63 hRd
  unfold maxLen at hc
  obtain ⟨PO, hPO⟩ : ∃ PO : Ending → World → Prop, Hid ((fun e w' => TkV w R e w') = PO) := ⟨_, Lib.hid rfl⟩
  rw [hPO.out]
  by_cases hlt : m < 1
  · have hltI : (m : Int) < 1 := by omega
    rw [if_pos (by simpa using hlt)] at hRd
    have hfin := TkV.no 3 (Ext.refl w)
    rw [hRd] at hfin
    have hfin2 : PO (.returned (.tuple #[.int .u64 0, .slice none 0 0, .int .i64 3])) w := by rw [← hPO.out]; exact hfin
    clear hfin hRd hR hPO h63
    go_enter Tryd.func22, Tryd.ntmps22
    go_wp2_with fail
    refine bodyPost_ret (results_tmp3 rfl _ _ _) rfl ?_
    exact hfin2
  · have hltI : ¬ (m : Int) < 1 := by omega
    rw [if_neg (by simpa using hlt)] at hRd
    simp only [Nat.reducePow, Nat.reduceSub] at hRd
    have hrl : 0 ≤ r.length := by rw [List.length_cons] at hl; omega
    have hrc : Rb w (cutA (some ⟨b, off, none⟩) c 1) (((x :: r).take 1).drop 1) := Rb.cut hr (by omega) (by omega)
    have hte : ((x :: r).take 1).drop 1 = r.take 0 := by simp
    rw [hte] at hrc
    have hrt : (r.take 0).length = 0 := by rw [List.length_take]; omega
    obtain ⟨T, hT⟩ : ∃ z, Hid (r.take 0 = z) := ⟨_, Lib.hid rfl⟩
    rw [hT.out] at hrc hRd hrt
    obtain ⟨Nn, hN⟩ : ∃ z, Hid (numB a0 T = z) := ⟨_, Lib.hid rfl⟩
    have hNlt : Nn < 4611686018427387904 := by
      have := numB_lt T a0
      rw [hN.out, hrt] at this
      simp only [Nat.reducePow] at this
      omega
    rw [hN.out] at hRd
    have hcls := fun W => class_any Nn (by omega) W
    obtain ⟨A1, hA1⟩ : ∃ z, Hid (cutA (some ⟨b, off, none⟩) c 1 = z) := ⟨_, Lib.hid rfl⟩
    have hcut := run_cutAt (P := Tryd.prog) (t := 29) (e := 5) Tryd.underlying29 (by kernel_rfl) w (some ⟨b, off, none⟩) m c 1 1 (some (.int .i64 (1 : Int))) (some (.int .i64 (1 : Int))) (.inl rfl) (.inl rfl) (by omega) (by omega) (fun h => by cases h)
    have hcut2 := fun W => run_cutAt (P := Tryd.prog) (t := 29) (e := 5) Tryd.underlying29 (by kernel_rfl) W (some ⟨b, off, none⟩) m c 1 m (some (.int .i64 (1 : Int))) none (.inl rfl) (.inr ⟨rfl, rfl⟩) (by omega) (by omega) (fun _ => hmc)
    replace hcut := Lib.hid hcut
    rw [hA1.out] at hrc
    replace hcut : (Instr.sliceAt 29 (.slice (some ⟨b, off, none⟩) m c) (some (.int .i64 1)) (some (.int .i64 1)) none).run Tryd.prog w = .ok (.slice A1 0 (c - 1)) w := by rw [← hA1.out]; exact hcut.out
    have hrest : Rb w (cutA (some ⟨b, off, none⟩) c 1) (((x :: r).take m).drop 1) := Rb.cut hr (by omega) (by omega)
    rw [List.take_of_length_le (by omega)] at hrest
    obtain ⟨A2, hA2⟩ : ∃ z, Hid (cutA (some ⟨b, off, none⟩) c 1 = z) := ⟨_, Lib.hid rfl⟩
    have hA2n : A2 = none → c - 1 = 0 := fun h => cutA_none (A := some ⟨b, off, none⟩) (fun e => by cases e) (hA2.out.trans h)
    rw [hA2.out] at hrest
    simp only [hA2.out] at hcut2
    obtain ⟨L2, hL2⟩ : ∃ z, Hid ((x :: r).drop 1 = z) := ⟨_, Lib.hid rfl⟩
    have hL2l : L2.length = m - 1 := by rw [← hL2.out, List.length_drop, hl]
    rw [hL2.out] at hRd hrest
    have hbyte : ∀ (i : Nat), i < 0 → ∃ y : UInt8, T[i]? = some y := fun i hi => ⟨_, List.getElem?_eq_getElem (by omega)⟩
    have hrc' : ∀ (i : Nat) (y : UInt8), T[i]? = some y → ∃ b1 o1, A1 = some ⟨b1, o1, none⟩ ∧ w.cell? ⟨b1, o1 + i, none⟩ = some (.int .u8 (y.toNat : Int)) := fun i y hy => by
      obtain ⟨hi, e⟩ := List.getElem?_eq_some_iff.1 hy
      obtain ⟨b1, o1, e1, e2⟩ := hrc.at_ hi
      exact ⟨b1, o1, e1, by rw [e2, e]⟩
    replace hRd := Lib.hid hRd
    replace hrc' := Lib.hid hrc'
    replace hbyte := Lib.hid hbyte
    replace hA2n := Lib.hid hA2n
    replace hcls := Lib.hid hcls
    replace hL2l := Lib.hid hL2l
    replace hrt := Lib.hid hrt
    clear hR hte hrc hr hl hA hT
    go_enter Tryd.func22, Tryd.ntmps22
    go_wp2_with (refine wpList_cut rfl 29 (.tmp 29) (some (.const (.int .i64 1))) (some (.tmp 30)) rfl _ _ _ _ rfl rfl rfl hcut ?_)
    go_loopw [7, 9, 33] (fun v7 v9 v33 wr => ∃ i : Nat, i ≤ 0 ∧ v33 = .int .i64 i ∧ wr = w ∧ ∃ y : Nat, v7 = .int .u64 (y : Int) ∧ Hid (numB a0 (T.take i) = y) ∧ y < 64 * 256 ^ i) (fun _ _ v33 _ => 0 - (intOf v33).toNat)
    case atStart => exact ⟨0, by omega, rfl, rfl, a0, rfl, Lib.hid (by simp [numB]), by omega⟩
    case round =>
      obtain ⟨i, hi, rfl, rfl, y, rfl, hy, hyl⟩ := hrel
      by_cases hin : i < 0
      · obtain ⟨z, hz⟩ := hbyte.out i hin
        obtain ⟨b1, o1, e1, hcz⟩ := hrc'.out i z hz
        subst e1
        have hzl := z.toNat_lt
        have hpw : 256 ^ i ≤ 256 ^ 6 := Nat.pow_le_pow_right (by omega) (by omega)
        have hy54 : y < 18014398509481984 := by
          simp only [Nat.reducePow] at hpw
          omega
        have hor := or_byte y z.toNat hy54 hzl
        have hyn : numB a0 (T.take (i + 1)) = y * 256 + z.toNat := by rw [List.take_add_one, hz, ← hy.out]; exact numB_snoc _ _ _
        have hyb : y * 256 + z.toNat < 64 * 256 ^ (i + 1) := by
          rw [Nat.pow_succ]
          generalize 256 ^ i = p at hyl
          omega
        have hin' : (i : Int) < 0 := by omega
        have hshl : (y : Int) * 256 % 18446744073709551616 = (y : Int) * 256 := by omega
        obtain ⟨y2, hy2⟩ : ∃ z2, Hid (y * 256 + z.toNat = z2) := ⟨_, rfl⟩
        rw [hy2.out] at hor hyn hyb
        replace hyn := Lib.hid hyn
        clear hz hy hyl hpw hrc' hbyte
        go_wp2_with fail
        go_roundw
        case rel => exact ⟨i + 1, by omega, by go_num, trivial, y2, rfl, hyn, hyb⟩
        case measure => simp [intOf]; omega
      · obtain rfl : i = 0 := by omega
        have hyN : y = Nn := by rw [← hy.out, List.take_of_length_le (by have := hrt.out; omega), hN.out]
        subst hyN
        have hcl := hcls.out wr
        obtain ⟨K, hK⟩ : ∃ z, Hid (cls y = z) := ⟨_, rfl⟩
        rw [hK.out] at hcl
        have hRd2 := hRd.out
        rw [hK.out] at hRd2
        clear hy hcls hrc' hbyte hyl
        by_cases hck : K = 0
        · rw [if_neg (by rw [hck]; simp)] at hRd2
          have hkb : ((K : Int) != 0) = false := by simp [hck]
          have hp : ∀ W, Ext wr W → PO (.returned (.tuple #[.int .u64 (y : Int), .slice A2 (m - 1) (c - 1), .int .i64 0])) W := fun W hW => by
            rw [← hPO.out, ← hRd2]
            refine ⟨A2, c - 1, ?_, hrest.ext hW, hA2n.out, ?_, ?_, hW⟩
            · show _ = Ending.returned (.tuple #[.int .u64 (y : Int), .slice A2 L2.length (c - 1), .int .i64 0]); rw [hL2l.out]
            · show L2.length ≤ _; rw [hL2l.out]; omega
            · unfold maxLen; omega
          clear hrest hRd hRd2 hPO
          go_wp2_with fail
          refine hcl.mono ?_
          rintro e w1 ⟨rfl, hw1⟩
          have hw1 := hw1.symm
          subst hw1
          go_wp2_with fail
          refine Reg.startE (by kernel_rfl) ?_
          refine Reg.tk 0 ?_; (try simp only [Reg.n1, Reg.n2, Reg.n3, Reg.n4, Reg.n5, Reg.n6, Reg.n7])
          refine Reg.tk 1 ?_; (try simp only [Reg.n1, Reg.n2, Reg.n3, Reg.n4, Reg.n5, Reg.n6, Reg.n7])
          refine Reg.tk 2 ?_; (try simp only [Reg.n1, Reg.n2, Reg.n3, Reg.n4, Reg.n5, Reg.n6, Reg.n7])
          refine Reg.tk 3 ?_; (try simp only [Reg.n1, Reg.n2, Reg.n3, Reg.n4, Reg.n5, Reg.n6, Reg.n7])
          refine Reg.tk 4 ?_; (try simp only [Reg.n1, Reg.n2, Reg.n3, Reg.n4, Reg.n5, Reg.n6, Reg.n7])
          refine Reg.tk 5 ?_; (try simp only [Reg.n1, Reg.n2, Reg.n3, Reg.n4, Reg.n5, Reg.n6, Reg.n7])
          refine Reg.tk 6 ?_; (try simp only [Reg.n1, Reg.n2, Reg.n3, Reg.n4, Reg.n5, Reg.n6, Reg.n7])
          refine Reg.fin (by kernel_rfl) (fun W hW => ?_)
          have hp2 := hp W hW
          go_wp2_with fail
          refine bodyPost_ret (results_tmp3 rfl _ _ _) rfl ?_
          exact hp2
        · rw [if_pos (by intro e; exact hck e)] at hRd2
          have hkb : ((K : Int) != 0) = true := by simpa using hck
          have hp : PO (.returned (.tuple #[.int .u64 0, .slice none 0 0, .int .i64 4])) wr := by
            rw [← hPO.out, ← hRd2]
            exact TkV.no 4 (Ext.refl wr)
          clear hrest hRd hRd2 hPO
          go_wp2_with fail
          refine hcl.mono ?_
          rintro e w1 ⟨rfl, hw1⟩
          have hw1 := hw1.symm
          subst hw1
          go_wp2_with fail
          refine bodyPost_ret (results_tmp3 rfl _ _ _) rfl ?_
          exact hp
set_option maxRecDepth 100000 in
set_option maxHeartbeats 1000000 in
theorem take_k1 (A : Option Addr) (m c : Nat) (x : UInt8) (r : List UInt8) (w : World) (hr : Rb w A (x :: r)) (hl : (x :: r).length = m) (hA : A = none → c = 0) (hmc : m ≤ c) (hc : c ≤ maxLen) (hk : x.toNat / 64 = 1) :
    Calls Tryd.prog 22 #[.slice A m c] w fun e w' => TkV w (takeP (x :: r)) e w' := by
  have hx := x.toNat_lt
  obtain ⟨R, hR⟩ : ∃ z, Hid (takeP (x :: r) = z) := ⟨_, Lib.hid rfl⟩
  have hRd := hR.out
  rw [takeP, hk, hl] at hRd
  rw [hR.out]
  obtain ⟨b, off, rfl, hc0⟩ := hr.at_ (k := 0) (by simp)
  rw [show off + 0 = off from rfl] at hc0
  replace hc0 : w.cell? ⟨b, off, none⟩ = some (.int .u8 (x.toNat : Int)) := hc0
  have hm0 : 0 < m := by rw [← hl]; simp
  have hm0' : ((m : Int) == 0) = false := by simp; omega
  have hkI : (x.toNat : Int) / 64 = 1 := by omega
  have h63 := and63 x
  obtain ⟨a0, ha0⟩ : ∃ z, Hid (x.toNat % 64 = z) := ⟨_, rfl⟩
  have ha64 : a0 < 64 := by rw [← ha0.out]; omega
  rw [ha0.out] at h63 hRd
  unfold maxLen at hc
  obtain ⟨PO, hPO⟩ : ∃ PO : Ending → World → Prop, Hid ((fun e w' => TkV w R e w') = PO) := ⟨_, Lib.hid rfl⟩
  rw [hPO.out]
  by_cases hlt : m < 2
  · have hltI : (m : Int) < 2 := by omega
    rw [if_pos (by simpa using hlt)] at hRd
    have hfin := TkV.no 3 (Ext.refl w)
    rw [hRd] at hfin
    have hfin2 : PO (.returned (.tuple #[.int .u64 0, .slice none 0 0, .int .i64 3])) w := by rw [← hPO.out]; exact hfin
    clear hfin hRd hR hPO h63
    go_enter Tryd.func22, Tryd.ntmps22
    go_wp2_with fail
    refine bodyPost_ret (results_tmp3 rfl _ _ _) rfl ?_
    exact hfin2
  · have hltI : ¬ (m : Int) < 2 := by omega
    rw [if_neg (by simpa using hlt)] at hRd
    simp only [Nat.reducePow, Nat.reduceSub] at hRd
    have hrl : 1 ≤ r.length := by rw [List.length_cons] at hl; omega
    have hrc : Rb w (cutA (some ⟨b, off, none⟩) c 1) (((x :: r).take 2).drop 1) := Rb.cut hr (by omega) (by omega)
    have hte : ((x :: r).take 2).drop 1 = r.take 1 := by simp
    rw [hte] at hrc
    have hrt : (r.take 1).length = 1 := by rw [List.length_take]; omega
    obtain ⟨T, hT⟩ : ∃ z, Hid (r.take 1 = z) := ⟨_, Lib.hid rfl⟩
    rw [hT.out] at hrc hRd hrt
    obtain ⟨Nn, hN⟩ : ∃ z, Hid (numB a0 T = z) := ⟨_, Lib.hid rfl⟩
    have hNlt : Nn < 4611686018427387904 := by
      have := numB_lt T a0
      rw [hN.out, hrt] at this
      simp only [Nat.reducePow] at this
      omega
    rw [hN.out] at hRd
    have hcls := fun W => class_any Nn (by omega) W
    obtain ⟨A1, hA1⟩ : ∃ z, Hid (cutA (some ⟨b, off, none⟩) c 1 = z) := ⟨_, Lib.hid rfl⟩
    have hcut := run_cutAt (P := Tryd.prog) (t := 29) (e := 5) Tryd.underlying29 (by kernel_rfl) w (some ⟨b, off, none⟩) m c 1 2 (some (.int .i64 (1 : Int))) (some (.int .i64 (2 : Int))) (.inl rfl) (.inl rfl) (by omega) (by omega) (fun h => by cases h)
    have hcut2 := fun W => run_cutAt (P := Tryd.prog) (t := 29) (e := 5) Tryd.underlying29 (by kernel_rfl) W (some ⟨b, off, none⟩) m c 2 m (some (.int .i64 (2 : Int))) none (.inl rfl) (.inr ⟨rfl, rfl⟩) (by omega) (by omega) (fun _ => hmc)
    replace hcut := Lib.hid hcut
    rw [hA1.out] at hrc
    replace hcut : (Instr.sliceAt 29 (.slice (some ⟨b, off, none⟩) m c) (some (.int .i64 1)) (some (.int .i64 2)) none).run Tryd.prog w = .ok (.slice A1 1 (c - 1)) w := by rw [← hA1.out]; exact hcut.out
    have hrest : Rb w (cutA (some ⟨b, off, none⟩) c 2) (((x :: r).take m).drop 2) := Rb.cut hr (by omega) (by omega)
    rw [List.take_of_length_le (by omega)] at hrest
    obtain ⟨A2, hA2⟩ : ∃ z, Hid (cutA (some ⟨b, off, none⟩) c 2 = z) := ⟨_, Lib.hid rfl⟩
    have hA2n : A2 = none → c - 2 = 0 := fun h => cutA_none (A := some ⟨b, off, none⟩) (fun e => by cases e) (hA2.out.trans h)
    rw [hA2.out] at hrest
    simp only [hA2.out] at hcut2
    obtain ⟨L2, hL2⟩ : ∃ z, Hid ((x :: r).drop 2 = z) := ⟨_, Lib.hid rfl⟩
    have hL2l : L2.length = m - 2 := by rw [← hL2.out, List.length_drop, hl]
    rw [hL2.out] at hRd hrest
    have hbyte : ∀ (i : Nat), i < 1 → ∃ y : UInt8, T[i]? = some y := fun i hi => ⟨_, List.getElem?_eq_getElem (by omega)⟩
    have hrc' : ∀ (i : Nat) (y : UInt8), T[i]? = some y → ∃ b1 o1, A1 = some ⟨b1, o1, none⟩ ∧ w.cell? ⟨b1, o1 + i, none⟩ = some (.int .u8 (y.toNat : Int)) := fun i y hy => by
      obtain ⟨hi, e⟩ := List.getElem?_eq_some_iff.1 hy
      obtain ⟨b1, o1, e1, e2⟩ := hrc.at_ hi
      exact ⟨b1, o1, e1, by rw [e2, e]⟩
    replace hRd := Lib.hid hRd
    replace hrc' := Lib.hid hrc'
    replace hbyte := Lib.hid hbyte
    replace hA2n := Lib.hid hA2n
    replace hcls := Lib.hid hcls
    replace hL2l := Lib.hid hL2l
    replace hrt := Lib.hid hrt
    clear hR hte hrc hr hl hA hT
    go_enter Tryd.func22, Tryd.ntmps22
    go_wp2_with (refine wpList_cut rfl 29 (.tmp 29) (some (.const (.int .i64 1))) (some (.tmp 30)) rfl _ _ _ _ rfl rfl rfl hcut ?_)
    go_loopw [7, 9, 33] (fun v7 v9 v33 wr => ∃ i : Nat, i ≤ 1 ∧ v33 = .int .i64 i ∧ wr = w ∧ ∃ y : Nat, v7 = .int .u64 (y : Int) ∧ Hid (numB a0 (T.take i) = y) ∧ y < 64 * 256 ^ i) (fun _ _ v33 _ => 1 - (intOf v33).toNat)
    case atStart => exact ⟨0, by omega, rfl, rfl, a0, rfl, Lib.hid (by simp [numB]), by omega⟩
    case round =>
      obtain ⟨i, hi, rfl, rfl, y, rfl, hy, hyl⟩ := hrel
      by_cases hin : i < 1
      · obtain ⟨z, hz⟩ := hbyte.out i hin
        obtain ⟨b1, o1, e1, hcz⟩ := hrc'.out i z hz
        subst e1
        have hzl := z.toNat_lt
        have hpw : 256 ^ i ≤ 256 ^ 6 := Nat.pow_le_pow_right (by omega) (by omega)
        have hy54 : y < 18014398509481984 := by
          simp only [Nat.reducePow] at hpw
          omega
        have hor := or_byte y z.toNat hy54 hzl
        have hyn : numB a0 (T.take (i + 1)) = y * 256 + z.toNat := by rw [List.take_add_one, hz, ← hy.out]; exact numB_snoc _ _ _
        have hyb : y * 256 + z.toNat < 64 * 256 ^ (i + 1) := by
          rw [Nat.pow_succ]
          generalize 256 ^ i = p at hyl
          omega
        have hin' : (i : Int) < 1 := by omega
        have hshl : (y : Int) * 256 % 18446744073709551616 = (y : Int) * 256 := by omega
        obtain ⟨y2, hy2⟩ : ∃ z2, Hid (y * 256 + z.toNat = z2) := ⟨_, rfl⟩
        rw [hy2.out] at hor hyn hyb
        replace hyn := Lib.hid hyn
        clear hz hy hyl hpw hrc' hbyte
        go_wp2_with fail
        go_roundw
        case rel => exact ⟨i + 1, by omega, by go_num, trivial, y2, rfl, hyn, hyb⟩
        case measure => simp [intOf]; omega
      · obtain rfl : i = 1 := by omega
        have hyN : y = Nn := by rw [← hy.out, List.take_of_length_le (by have := hrt.out; omega), hN.out]
        subst hyN
        have hcl := hcls.out wr
        obtain ⟨K, hK⟩ : ∃ z, Hid (cls y = z) := ⟨_, rfl⟩
        rw [hK.out] at hcl
        have hRd2 := hRd.out
        rw [hK.out] at hRd2
        clear hy hcls hrc' hbyte hyl
        by_cases hck : K = 1
        · rw [if_neg (by rw [hck]; simp)] at hRd2
          have hkb : ((K : Int) != 1) = false := by simp [hck]
          have hp : ∀ W, Ext wr W → PO (.returned (.tuple #[.int .u64 (y : Int), .slice A2 (m - 2) (c - 2), .int .i64 0])) W := fun W hW => by
            rw [← hPO.out, ← hRd2]
            refine ⟨A2, c - 2, ?_, hrest.ext hW, hA2n.out, ?_, ?_, hW⟩
            · show _ = Ending.returned (.tuple #[.int .u64 (y : Int), .slice A2 L2.length (c - 2), .int .i64 0]); rw [hL2l.out]
            · show L2.length ≤ _; rw [hL2l.out]; omega
            · unfold maxLen; omega
          clear hrest hRd hRd2 hPO
          go_wp2_with fail
          refine hcl.mono ?_
          rintro e w1 ⟨rfl, hw1⟩
          have hw1 := hw1.symm
          subst hw1
          go_wp2_with fail
          refine Reg.startE (by kernel_rfl) ?_
          refine Reg.tk 0 ?_; (try simp only [Reg.n1, Reg.n2, Reg.n3, Reg.n4, Reg.n5, Reg.n6, Reg.n7])
          refine Reg.tk 1 ?_; (try simp only [Reg.n1, Reg.n2, Reg.n3, Reg.n4, Reg.n5, Reg.n6, Reg.n7])
          refine Reg.tk 2 ?_; (try simp only [Reg.n1, Reg.n2, Reg.n3, Reg.n4, Reg.n5, Reg.n6, Reg.n7])
          refine Reg.tk 3 ?_; (try simp only [Reg.n1, Reg.n2, Reg.n3, Reg.n4, Reg.n5, Reg.n6, Reg.n7])
          refine Reg.tk 4 ?_; (try simp only [Reg.n1, Reg.n2, Reg.n3, Reg.n4, Reg.n5, Reg.n6, Reg.n7])
          refine Reg.tk 5 ?_; (try simp only [Reg.n1, Reg.n2, Reg.n3, Reg.n4, Reg.n5, Reg.n6, Reg.n7])
          refine Reg.tk 6 ?_; (try simp only [Reg.n1, Reg.n2, Reg.n3, Reg.n4, Reg.n5, Reg.n6, Reg.n7])
          refine Reg.fin (by kernel_rfl) (fun W hW => ?_)
          have hp2 := hp W hW
          go_wp2_with fail
          refine bodyPost_ret (results_tmp3 rfl _ _ _) rfl ?_
          exact hp2
        · rw [if_pos (by intro e; exact hck e)] at hRd2
          have hkb : ((K : Int) != 1) = true := by simpa using hck
          have hp : PO (.returned (.tuple #[.int .u64 0, .slice none 0 0, .int .i64 4])) wr := by
            rw [← hPO.out, ← hRd2]
            exact TkV.no 4 (Ext.refl wr)
          clear hrest hRd hRd2 hPO
          go_wp2_with fail
          refine hcl.mono ?_
          rintro e w1 ⟨rfl, hw1⟩
          have hw1 := hw1.symm
          subst hw1
          go_wp2_with fail
          refine bodyPost_ret (results_tmp3 rfl _ _ _) rfl ?_
          exact hp
set_option maxRecDepth 100000 in
set_option maxHeartbeats 1000000 in
theorem take_k2 (A : Option Addr) (m c : Nat) (x : UInt8) (r : List UInt8) (w : World) (hr : Rb w A (x :: r)) (hl : (x :: r).length = m) (hA : A = none → c = 0) (hmc : m ≤ c) (hc : c ≤ maxLen) (hk : x.toNat / 64 = 2) :
    Calls Tryd.prog 22 #[.slice A m c] w fun e w' => TkV w (takeP (x :: r)) e w' := by
  have hx := x.toNat_lt
  obtain ⟨R, hR⟩ : ∃ z, Hid (takeP (x :: r) = z) := ⟨_, Lib.hid rfl⟩
  have hRd := hR.out
  rw [takeP, hk, hl] at hRd
  rw [hR.out]
  obtain ⟨b, off, rfl, hc0⟩ := hr.at_ (k := 0) (by simp)
  rw [show off + 0 = off from rfl] at hc0
  replace hc0 : w.cell? ⟨b, off, none⟩ = some (.int .u8 (x.toNat : Int)) := hc0
  have hm0 : 0 < m := by rw [← hl]; simp
  have hm0' : ((m : Int) == 0) = false := by simp; omega
  have hkI : (x.toNat : Int) / 64 = 2 := by omega
  have h63 := and63 x
  obtain ⟨a0, ha0⟩ : ∃ z, Hid (x.toNat % 64 = z) := ⟨_, rfl⟩
  have ha64 : a0 < 64 := by rw [← ha0.out]; omega
  rw [ha0.out] at h63 hRd
  unfold maxLen at hc
  obtain ⟨PO, hPO⟩ : ∃ PO : Ending → World → Prop, Hid ((fun e w' => TkV w R e w') = PO) := ⟨_, Lib.hid rfl⟩
  rw [hPO.out]
  by_cases hlt : m < 4
  · have hltI : (m : Int) < 4 := by omega
    rw [if_pos (by simpa using hlt)] at hRd
    have hfin := TkV.no 3 (Ext.refl w)
    rw [hRd] at hfin
    have hfin2 : PO (.returned (.tuple #[.int .u64 0, .slice none 0 0, .int .i64 3])) w := by rw [← hPO.out]; exact hfin
    clear hfin hRd hR hPO h63
    go_enter Tryd.func22, Tryd.ntmps22
    go_wp2_with fail
    refine bodyPost_ret (results_tmp3 rfl _ _ _) rfl ?_
    exact hfin2
  · have hltI : ¬ (m : Int) < 4 := by omega
    rw [if_neg (by simpa using hlt)] at hRd
    simp only [Nat.reducePow, Nat.reduceSub] at hRd
    have hrl : 3 ≤ r.length := by rw [List.length_cons] at hl; omega
    have hrc : Rb w (cutA (some ⟨b, off, none⟩) c 1) (((x :: r).take 4).drop 1) := Rb.cut hr (by omega) (by omega)
    have hte : ((x :: r).take 4).drop 1 = r.take 3 := by simp
    rw [hte] at hrc
    have hrt : (r.take 3).length = 3 := by rw [List.length_take]; omega
    obtain ⟨T, hT⟩ : ∃ z, Hid (r.take 3 = z) := ⟨_, Lib.hid rfl⟩
    rw [hT.out] at hrc hRd hrt
    obtain ⟨Nn, hN⟩ : ∃ z, Hid (numB a0 T = z) := ⟨_, Lib.hid rfl⟩
    have hNlt : Nn < 4611686018427387904 := by
      have := numB_lt T a0
      rw [hN.out, hrt] at this
      simp only [Nat.reducePow] at this
      omega
    rw [hN.out] at hRd
    have hcls := fun W => class_any Nn (by omega) W
    obtain ⟨A1, hA1⟩ : ∃ z, Hid (cutA (some ⟨b, off, none⟩) c 1 = z) := ⟨_, Lib.hid rfl⟩
    have hcut := run_cutAt (P := Tryd.prog) (t := 29) (e := 5) Tryd.underlying29 (by kernel_rfl) w (some ⟨b, off, none⟩) m c 1 4 (some (.int .i64 (1 : Int))) (some (.int .i64 (4 : Int))) (.inl rfl) (.inl rfl) (by omega) (by omega) (fun h => by cases h)
    have hcut2 := fun W => run_cutAt (P := Tryd.prog) (t := 29) (e := 5) Tryd.underlying29 (by kernel_rfl) W (some ⟨b, off, none⟩) m c 4 m (some (.int .i64 (4 : Int))) none (.inl rfl) (.inr ⟨rfl, rfl⟩) (by omega) (by omega) (fun _ => hmc)
    replace hcut := Lib.hid hcut
    rw [hA1.out] at hrc
    replace hcut : (Instr.sliceAt 29 (.slice (some ⟨b, off, none⟩) m c) (some (.int .i64 1)) (some (.int .i64 4)) none).run Tryd.prog w = .ok (.slice A1 3 (c - 1)) w := by rw [← hA1.out]; exact hcut.out
    have hrest : Rb w (cutA (some ⟨b, off, none⟩) c 4) (((x :: r).take m).drop 4) := Rb.cut hr (by omega) (by omega)
    rw [List.take_of_length_le (by omega)] at hrest
    obtain ⟨A2, hA2⟩ : ∃ z, Hid (cutA (some ⟨b, off, none⟩) c 4 = z) := ⟨_, Lib.hid rfl⟩
    have hA2n : A2 = none → c - 4 = 0 := fun h => cutA_none (A := some ⟨b, off, none⟩) (fun e => by cases e) (hA2.out.trans h)
    rw [hA2.out] at hrest
    simp only [hA2.out] at hcut2
    obtain ⟨L2, hL2⟩ : ∃ z, Hid ((x :: r).drop 4 = z) := ⟨_, Lib.hid rfl⟩
    have hL2l : L2.length = m - 4 := by rw [← hL2.out, List.length_drop, hl]
    rw [hL2.out] at hRd hrest
    have hbyte : ∀ (i : Nat), i < 3 → ∃ y : UInt8, T[i]? = some y := fun i hi => ⟨_, List.getElem?_eq_getElem (by omega)⟩
    have hrc' : ∀ (i : Nat) (y : UInt8), T[i]? = some y → ∃ b1 o1, A1 = some ⟨b1, o1, none⟩ ∧ w.cell? ⟨b1, o1 + i, none⟩ = some (.int .u8 (y.toNat : Int)) := fun i y hy => by
      obtain ⟨hi, e⟩ := List.getElem?_eq_some_iff.1 hy
      obtain ⟨b1, o1, e1, e2⟩ := hrc.at_ hi
      exact ⟨b1, o1, e1, by rw [e2, e]⟩
    replace hRd := Lib.hid hRd
    replace hrc' := Lib.hid hrc'
    replace hbyte := Lib.hid hbyte
    replace hA2n := Lib.hid hA2n
    replace hcls := Lib.hid hcls
    replace hL2l := Lib.hid hL2l
    replace hrt := Lib.hid hrt
    clear hR hte hrc hr hl hA hT
    go_enter Tryd.func22, Tryd.ntmps22
    go_wp2_with (refine wpList_cut rfl 29 (.tmp 29) (some (.const (.int .i64 1))) (some (.tmp 30)) rfl _ _ _ _ rfl rfl rfl hcut ?_)
    go_loopw [7, 9, 33] (fun v7 v9 v33 wr => ∃ i : Nat, i ≤ 3 ∧ v33 = .int .i64 i ∧ wr = w ∧ ∃ y : Nat, v7 = .int .u64 (y : Int) ∧ Hid (numB a0 (T.take i) = y) ∧ y < 64 * 256 ^ i) (fun _ _ v33 _ => 3 - (intOf v33).toNat)
    case atStart => exact ⟨0, by omega, rfl, rfl, a0, rfl, Lib.hid (by simp [numB]), by omega⟩
    case round =>
      obtain ⟨i, hi, rfl, rfl, y, rfl, hy, hyl⟩ := hrel
      by_cases hin : i < 3
      · obtain ⟨z, hz⟩ := hbyte.out i hin
        obtain ⟨b1, o1, e1, hcz⟩ := hrc'.out i z hz
        subst e1
        have hzl := z.toNat_lt
        have hpw : 256 ^ i ≤ 256 ^ 6 := Nat.pow_le_pow_right (by omega) (by omega)
        have hy54 : y < 18014398509481984 := by
          simp only [Nat.reducePow] at hpw
          omega
        have hor := or_byte y z.toNat hy54 hzl
        have hyn : numB a0 (T.take (i + 1)) = y * 256 + z.toNat := by rw [List.take_add_one, hz, ← hy.out]; exact numB_snoc _ _ _
        have hyb : y * 256 + z.toNat < 64 * 256 ^ (i + 1) := by
          rw [Nat.pow_succ]
          generalize 256 ^ i = p at hyl
          omega
        have hin' : (i : Int) < 3 := by omega
        have hshl : (y : Int) * 256 % 18446744073709551616 = (y : Int) * 256 := by omega
        obtain ⟨y2, hy2⟩ : ∃ z2, Hid (y * 256 + z.toNat = z2) := ⟨_, rfl⟩
        rw [hy2.out] at hor hyn hyb
        replace hyn := Lib.hid hyn
        clear hz hy hyl hpw hrc' hbyte
        go_wp2_with fail
        go_roundw
        case rel => exact ⟨i + 1, by omega, by go_num, trivial, y2, rfl, hyn, hyb⟩
        case measure => simp [intOf]; omega
      · obtain rfl : i = 3 := by omega
        have hyN : y = Nn := by rw [← hy.out, List.take_of_length_le (by have := hrt.out; omega), hN.out]
        subst hyN
        have hcl := hcls.out wr
        obtain ⟨K, hK⟩ : ∃ z, Hid (cls y = z) := ⟨_, rfl⟩
        rw [hK.out] at hcl
        have hRd2 := hRd.out
        rw [hK.out] at hRd2
        clear hy hcls hrc' hbyte hyl
        by_cases hck : K = 2
        · rw [if_neg (by rw [hck]; simp)] at hRd2
          have hkb : ((K : Int) != 2) = false := by simp [hck]
          have hp : ∀ W, Ext wr W → PO (.returned (.tuple #[.int .u64 (y : Int), .slice A2 (m - 4) (c - 4), .int .i64 0])) W := fun W hW => by
            rw [← hPO.out, ← hRd2]
            refine ⟨A2, c - 4, ?_, hrest.ext hW, hA2n.out, ?_, ?_, hW⟩
            · show _ = Ending.returned (.tuple #[.int .u64 (y : Int), .slice A2 L2.length (c - 4), .int .i64 0]); rw [hL2l.out]
            · show L2.length ≤ _; rw [hL2l.out]; omega
            · unfold maxLen; omega
          clear hrest hRd hRd2 hPO
          go_wp2_with fail
          refine hcl.mono ?_
          rintro e w1 ⟨rfl, hw1⟩
          have hw1 := hw1.symm
          subst hw1
          go_wp2_with fail
          refine Reg.startE (by kernel_rfl) ?_
          refine Reg.tk 0 ?_; (try simp only [Reg.n1, Reg.n2, Reg.n3, Reg.n4, Reg.n5, Reg.n6, Reg.n7])
          refine Reg.tk 1 ?_; (try simp only [Reg.n1, Reg.n2, Reg.n3, Reg.n4, Reg.n5, Reg.n6, Reg.n7])
          refine Reg.tk 2 ?_; (try simp only [Reg.n1, Reg.n2, Reg.n3, Reg.n4, Reg.n5, Reg.n6, Reg.n7])
          refine Reg.tk 3 ?_; (try simp only [Reg.n1, Reg.n2, Reg.n3, Reg.n4, Reg.n5, Reg.n6, Reg.n7])
          refine Reg.tk 4 ?_; (try simp only [Reg.n1, Reg.n2, Reg.n3, Reg.n4, Reg.n5, Reg.n6, Reg.n7])
          refine Reg.tk 5 ?_; (try simp only [Reg.n1, Reg.n2, Reg.n3, Reg.n4, Reg.n5, Reg.n6, Reg.n7])
          refine Reg.tk 6 ?_; (try simp only [Reg.n1, Reg.n2, Reg.n3, Reg.n4, Reg.n5, Reg.n6, Reg.n7])
          refine Reg.fin (by kernel_rfl) (fun W hW => ?_)
          have hp2 := hp W hW
          go_wp2_with fail
          refine bodyPost_ret (results_tmp3 rfl _ _ _) rfl ?_
          exact hp2
        · rw [if_pos (by intro e; exact hck e)] at hRd2
          have hkb : ((K : Int) != 2) = true := by simpa using hck
          have hp : PO (.returned (.tuple #[.int .u64 0, .slice none 0 0, .int .i64 4])) wr := by
            rw [← hPO.out, ← hRd2]
            exact TkV.no 4 (Ext.refl wr)
          clear hrest hRd hRd2 hPO
          go_wp2_with fail
          refine hcl.mono ?_
          rintro e w1 ⟨rfl, hw1⟩
          have hw1 := hw1.symm
          subst hw1
          go_wp2_with fail
          refine bodyPost_ret (results_tmp3 rfl _ _ _) rfl ?_
          exact hp
set_option maxRecDepth 100000 in
set_option maxHeartbeats 1000000 in
theorem take_k3 (A : Option Addr) (m c : Nat) (x : UInt8) (r : List UInt8) (w : World) (hr : Rb w A (x :: r)) (hl : (x :: r).length = m) (hA : A = none → c = 0) (hmc : m ≤ c) (hc : c ≤ maxLen) (hk : x.toNat / 64 = 3) :
    Calls Tryd.prog 22 #[.slice A m c] w fun e w' => TkV w (takeP (x :: r)) e w' := by
  have hx := x.toNat_lt
  obtain ⟨R, hR⟩ : ∃ z, Hid (takeP (x :: r) = z) := ⟨_, Lib.hid rfl⟩
  have hRd := hR.out
  rw [takeP, hk, hl] at hRd
  rw [hR.out]
  obtain ⟨b, off, rfl, hc0⟩ := hr.at_ (k := 0) (by simp)
  rw [show off + 0 = off from rfl] at hc0
  replace hc0 : w.cell? ⟨b, off, none⟩ = some (.int .u8 (x.toNat : Int)) := hc0
  have hm0 : 0 < m := by rw [← hl]; simp
  have hm0' : ((m : Int) == 0) = false := by simp; omega
  have hkI : (x.toNat : Int) / 64 = 3 := by omega
  have h63 := and63 x
  obtain ⟨a0, ha0⟩ : ∃ z, Hid (x.toNat % 64 = z) := ⟨_, rfl⟩
  have ha64 : a0 < 64 := by rw [← ha0.out]; omega
  rw [ha0.out] at h63 hRd
  unfold maxLen at hc
  obtain ⟨PO, hPO⟩ : ∃ PO : Ending → World → Prop, Hid ((fun e w' => TkV w R e w') = PO) := ⟨_, Lib.hid rfl⟩
  rw [hPO.out]
  by_cases hlt : m < 8
  · have hltI : (m : Int) < 8 := by omega
    rw [if_pos (by simpa using hlt)] at hRd
    have hfin := TkV.no 3 (Ext.refl w)
    rw [hRd] at hfin
    have hfin2 : PO (.returned (.tuple #[.int .u64 0, .slice none 0 0, .int .i64 3])) w := by rw [← hPO.out]; exact hfin
    clear hfin hRd hR hPO h63
    go_enter Tryd.func22, Tryd.ntmps22
    go_wp2_with fail
    refine bodyPost_ret (results_tmp3 rfl _ _ _) rfl ?_
    exact hfin2
  · have hltI : ¬ (m : Int) < 8 := by omega
    rw [if_neg (by simpa using hlt)] at hRd
    simp only [Nat.reducePow, Nat.reduceSub] at hRd
    have hrl : 7 ≤ r.length := by rw [List.length_cons] at hl; omega
    have hrc : Rb w (cutA (some ⟨b, off, none⟩) c 1) (((x :: r).take 8).drop 1) := Rb.cut hr (by omega) (by omega)
    have hte : ((x :: r).take 8).drop 1 = r.take 7 := by simp
    rw [hte] at hrc
    have hrt : (r.take 7).length = 7 := by rw [List.length_take]; omega
    obtain ⟨T, hT⟩ : ∃ z, Hid (r.take 7 = z) := ⟨_, Lib.hid rfl⟩
    rw [hT.out] at hrc hRd hrt
    obtain ⟨Nn, hN⟩ : ∃ z, Hid (numB a0 T = z) := ⟨_, Lib.hid rfl⟩
    have hNlt : Nn < 4611686018427387904 := by
      have := numB_lt T a0
      rw [hN.out, hrt] at this
      simp only [Nat.reducePow] at this
      omega
    rw [hN.out] at hRd
    have hcls := fun W => class_any Nn (by omega) W
    obtain ⟨A1, hA1⟩ : ∃ z, Hid (cutA (some ⟨b, off, none⟩) c 1 = z) := ⟨_, Lib.hid rfl⟩
    have hcut := run_cutAt (P := Tryd.prog) (t := 29) (e := 5) Tryd.underlying29 (by kernel_rfl) w (some ⟨b, off, none⟩) m c 1 8 (some (.int .i64 (1 : Int))) (some (.int .i64 (8 : Int))) (.inl rfl) (.inl rfl) (by omega) (by omega) (fun h => by cases h)
    have hcut2 := fun W => run_cutAt (P := Tryd.prog) (t := 29) (e := 5) Tryd.underlying29 (by kernel_rfl) W (some ⟨b, off, none⟩) m c 8 m (some (.int .i64 (8 : Int))) none (.inl rfl) (.inr ⟨rfl, rfl⟩) (by omega) (by omega) (fun _ => hmc)
    replace hcut := Lib.hid hcut
    rw [hA1.out] at hrc
    replace hcut : (Instr.sliceAt 29 (.slice (some ⟨b, off, none⟩) m c) (some (.int .i64 1)) (some (.int .i64 8)) none).run Tryd.prog w = .ok (.slice A1 7 (c - 1)) w := by rw [← hA1.out]; exact hcut.out
    have hrest : Rb w (cutA (some ⟨b, off, none⟩) c 8) (((x :: r).take m).drop 8) := Rb.cut hr (by omega) (by omega)
    rw [List.take_of_length_le (by omega)] at hrest
    obtain ⟨A2, hA2⟩ : ∃ z, Hid (cutA (some ⟨b, off, none⟩) c 8 = z) := ⟨_, Lib.hid rfl⟩
    have hA2n : A2 = none → c - 8 = 0 := fun h => cutA_none (A := some ⟨b, off, none⟩) (fun e => by cases e) (hA2.out.trans h)
    rw [hA2.out] at hrest
    simp only [hA2.out] at hcut2
    obtain ⟨L2, hL2⟩ : ∃ z, Hid ((x :: r).drop 8 = z) := ⟨_, Lib.hid rfl⟩
    have hL2l : L2.length = m - 8 := by rw [← hL2.out, List.length_drop, hl]
    rw [hL2.out] at hRd hrest
    have hbyte : ∀ (i : Nat), i < 7 → ∃ y : UInt8, T[i]? = some y := fun i hi => ⟨_, List.getElem?_eq_getElem (by omega)⟩
    have hrc' : ∀ (i : Nat) (y : UInt8), T[i]? = some y → ∃ b1 o1, A1 = some ⟨b1, o1, none⟩ ∧ w.cell? ⟨b1, o1 + i, none⟩ = some (.int .u8 (y.toNat : Int)) := fun i y hy => by
      obtain ⟨hi, e⟩ := List.getElem?_eq_some_iff.1 hy
      obtain ⟨b1, o1, e1, e2⟩ := hrc.at_ hi
      exact ⟨b1, o1, e1, by rw [e2, e]⟩
    replace hRd := Lib.hid hRd
    replace hrc' := Lib.hid hrc'
    replace hbyte := Lib.hid hbyte
    replace hA2n := Lib.hid hA2n
    replace hcls := Lib.hid hcls
    replace hL2l := Lib.hid hL2l
    replace hrt := Lib.hid hrt
    clear hR hte hrc hr hl hA hT
    go_enter Tryd.func22, Tryd.ntmps22
    go_wp2_with (refine wpList_cut rfl 29 (.tmp 29) (some (.const (.int .i64 1))) (some (.tmp 30)) rfl _ _ _ _ rfl rfl rfl hcut ?_)
    go_loopw [7, 9, 33] (fun v7 v9 v33 wr => ∃ i : Nat, i ≤ 7 ∧ v33 = .int .i64 i ∧ wr = w ∧ ∃ y : Nat, v7 = .int .u64 (y : Int) ∧ Hid (numB a0 (T.take i) = y) ∧ y < 64 * 256 ^ i) (fun _ _ v33 _ => 7 - (intOf v33).toNat)
    case atStart => exact ⟨0, by omega, rfl, rfl, a0, rfl, Lib.hid (by simp [numB]), by omega⟩
    case round =>
      obtain ⟨i, hi, rfl, rfl, y, rfl, hy, hyl⟩ := hrel
      by_cases hin : i < 7
      · obtain ⟨z, hz⟩ := hbyte.out i hin
        obtain ⟨b1, o1, e1, hcz⟩ := hrc'.out i z hz
        subst e1
        have hzl := z.toNat_lt
        have hpw : 256 ^ i ≤ 256 ^ 6 := Nat.pow_le_pow_right (by omega) (by omega)
        have hy54 : y < 18014398509481984 := by
          simp only [Nat.reducePow] at hpw
          omega
        have hor := or_byte y z.toNat hy54 hzl
        have hyn : numB a0 (T.take (i + 1)) = y * 256 + z.toNat := by rw [List.take_add_one, hz, ← hy.out]; exact numB_snoc _ _ _
        have hyb : y * 256 + z.toNat < 64 * 256 ^ (i + 1) := by
          rw [Nat.pow_succ]
          generalize 256 ^ i = p at hyl
          omega
        have hin' : (i : Int) < 7 := by omega
        have hshl : (y : Int) * 256 % 18446744073709551616 = (y : Int) * 256 := by omega
        obtain ⟨y2, hy2⟩ : ∃ z2, Hid (y * 256 + z.toNat = z2) := ⟨_, rfl⟩
        rw [hy2.out] at hor hyn hyb
        replace hyn := Lib.hid hyn
        clear hz hy hyl hpw hrc' hbyte
        go_wp2_with fail
        go_roundw
        case rel => exact ⟨i + 1, by omega, by go_num, trivial, y2, rfl, hyn, hyb⟩
        case measure => simp [intOf]; omega
      · obtain rfl : i = 7 := by omega
        have hyN : y = Nn := by rw [← hy.out, List.take_of_length_le (by have := hrt.out; omega), hN.out]
        subst hyN
        have hcl := hcls.out wr
        obtain ⟨K, hK⟩ : ∃ z, Hid (cls y = z) := ⟨_, rfl⟩
        rw [hK.out] at hcl
        have hRd2 := hRd.out
        rw [hK.out] at hRd2
        clear hy hcls hrc' hbyte hyl
        by_cases hck : K = 3
        · rw [if_neg (by rw [hck]; simp)] at hRd2
          have hkb : ((K : Int) != 3) = false := by simp [hck]
          have hp : ∀ W, Ext wr W → PO (.returned (.tuple #[.int .u64 (y : Int), .slice A2 (m - 8) (c - 8), .int .i64 0])) W := fun W hW => by
            rw [← hPO.out, ← hRd2]
            refine ⟨A2, c - 8, ?_, hrest.ext hW, hA2n.out, ?_, ?_, hW⟩
            · show _ = Ending.returned (.tuple #[.int .u64 (y : Int), .slice A2 L2.length (c - 8), .int .i64 0]); rw [hL2l.out]
            · show L2.length ≤ _; rw [hL2l.out]; omega
            · unfold maxLen; omega
          clear hrest hRd hRd2 hPO
          go_wp2_with fail
          refine hcl.mono ?_
          rintro e w1 ⟨rfl, hw1⟩
          have hw1 := hw1.symm
          subst hw1
          go_wp2_with fail
          refine Reg.startE (by kernel_rfl) ?_
          refine Reg.tk 0 ?_; (try simp only [Reg.n1, Reg.n2, Reg.n3, Reg.n4, Reg.n5, Reg.n6, Reg.n7])
          refine Reg.tk 1 ?_; (try simp only [Reg.n1, Reg.n2, Reg.n3, Reg.n4, Reg.n5, Reg.n6, Reg.n7])
          refine Reg.tk 2 ?_; (try simp only [Reg.n1, Reg.n2, Reg.n3, Reg.n4, Reg.n5, Reg.n6, Reg.n7])
          refine Reg.tk 3 ?_; (try simp only [Reg.n1, Reg.n2, Reg.n3, Reg.n4, Reg.n5, Reg.n6, Reg.n7])
          refine Reg.tk 4 ?_; (try simp only [Reg.n1, Reg.n2, Reg.n3, Reg.n4, Reg.n5, Reg.n6, Reg.n7])
          refine Reg.tk 5 ?_; (try simp only [Reg.n1, Reg.n2, Reg.n3, Reg.n4, Reg.n5, Reg.n6, Reg.n7])
          refine Reg.tk 6 ?_; (try simp only [Reg.n1, Reg.n2, Reg.n3, Reg.n4, Reg.n5, Reg.n6, Reg.n7])
          refine Reg.fin (by kernel_rfl) (fun W hW => ?_)
          have hp2 := hp W hW
          go_wp2_with fail
          refine bodyPost_ret (results_tmp3 rfl _ _ _) rfl ?_
          exact hp2
        · rw [if_pos (by intro e; exact hck e)] at hRd2
          have hkb : ((K : Int) != 3) = true := by simpa using hck
          have hp : PO (.returned (.tuple #[.int .u64 0, .slice none 0 0, .int .i64 4])) wr := by
            rw [← hPO.out, ← hRd2]
            exact TkV.no 4 (Ext.refl wr)
          clear hrest hRd hRd2 hPO
          go_wp2_with fail
          refine hcl.mono ?_
          rintro e w1 ⟨rfl, hw1⟩
          have hw1 := hw1.symm
          subst hw1
          go_wp2_with fail
          refine bodyPost_ret (results_tmp3 rfl _ _ _) rfl ?_
          exact hp
theorem take_any (A : Option Addr) (m c : Nat) (l : List UInt8) (w : World) (hr : Rb w A l) (hl : l.length = m) (hA : A = none → c = 0) (hmc : m ≤ c) (hc : c ≤ maxLen) :
    Calls Tryd.prog 22 #[.slice A m c] w fun e w' => TkV w (takeP l) e w' := by
  cases l with
  | nil =>
    obtain rfl : m = 0 := by simpa using hl.symm
    have hp := TkV.no 3 (Ext.refl w)
    obtain ⟨PO, hPO⟩ : ∃ PO : Ending → World → Prop, Hid ((fun e w' => TkV w (takeP []) e w') = PO) := ⟨_, Lib.hid rfl⟩
    rw [hPO.out]
    have hp2 : PO (.returned (.tuple #[.int .u64 0, .slice none 0 0, .int .i64 3])) w := by rw [← hPO.out]; exact hp
    clear hp hPO hr
    go_enter Tryd.func22, Tryd.ntmps22
    go_wp2_with fail
    refine bodyPost_ret (results_tmp3 rfl _ _ _) rfl ?_
    exact hp2
  | cons x r =>
    have hx := x.toNat_lt
    have h4 : x.toNat / 64 = 0 ∨ x.toNat / 64 = 1 ∨ x.toNat / 64 = 2 ∨ x.toNat / 64 = 3 := by omega
    rcases h4 with h | h | h | h
    · exact take_k0 A m c x r w hr hl hA hmc hc h
    · exact take_k1 A m c x r w hr hl hA hmc hc h
    · exact take_k2 A m c x r w hr hl hA hmc hc h
    · exact take_k3 A m c x r w hr hl hA hmc hc h
theorem takeP_len (l : List UInt8) : (takeP l).2.1.length ≤ l.length ∧ (takeP l).1 < 4611686018427387904 := by
  cases l with
  | nil => exact ⟨Nat.le_refl _, by decide⟩
  | cons x r =>
    rw [takeP]
    split
    · exact ⟨Nat.zero_le _, by simp⟩
    · split
      · exact ⟨Nat.zero_le _, by simp⟩
      · next h1 h2 =>
        refine ⟨by simp only [List.length_drop]; exact Nat.sub_le _ _, ?_⟩
        simp only [ne_eq, Decidable.not_not] at h2
        simp only
        generalize numB (x.toNat % 64) (r.take (2 ^ (x.toNat / 64) - 1)) = n at h2
        unfold cls at h2
        split at h2
        · omega
        · omega
theorem run_cutU {P : Program} {t e : TypeId} (ht : P.underlying t = some (.slice e)) (he : (P.info? e).map (·.size) = some 1) (w : World) (A : Option Addr) (n c l k : Nat) (lo hi : Option Value)
    (hlo : lo = some (.int .u64 (l : Int)) ∨ lo = none ∧ l = 0) (hhi : hi = some (.int .u64 (k : Int)) ∨ hi = none ∧ k = n) (hl : l ≤ k) (hk : k ≤ c) (hn : hi = none → n ≤ c) :
    (Instr.sliceAt t (.slice A n c) lo hi none).run P w = .ok (.slice (cutA A c l) (k - l) (c - l)) w := by
  have h1 : (0 : Int) ≤ (l : Int) ∧ (l : Int) ≤ (k : Int) := by omega
  have h2 : (0 : Int) ≤ (k : Int) ∧ (k : Int) ≤ (c : Int) := by omega
  cases hq : P.info? e with
  | none => simp [hq] at he
  | some i =>
    have hi1 : i.size = 1 := by simpa [hq] using he
    rcases hlo with rfl | ⟨rfl, rfl⟩ <;> rcases hhi with rfl | ⟨rfl, rfl⟩ <;>
      simp [Instr.sliceAt, run_underlying ht, Instr.slice, Instr.sliceBounds, Instr.sliceBound, asIntOf, h1, h2, sizeOf, typeInfo, hq, hi1, cutA, go_sem] <;>
      (try rw [if_pos hk, if_pos hl]) <;> (try (intro h; omega))
/-- what a text's taking hands back -/
def TtV (w : World) (r : List UInt8 × List UInt8 × Nat) (e : Ending) (w' : World) : Prop := ∃ A' c', e = .returned (.tuple #[.string (Str r.1), .slice A' r.2.1.length c', .int .i64 (r.2.2 : Int)]) ∧ Rb w' A' r.2.1 ∧ (A' = none → c' = 0) ∧ r.2.1.length ≤ c' ∧ c' ≤ maxLen ∧ Ext w w'
theorem TtV.no {w w' : World} (n : Nat) (h : Ext w w') : TtV w ([], [], n) (.returned (.tuple #[.string ⟨#[]⟩, .slice none 0 0, .int .i64 (n : Int)])) w' := ⟨none, 0, rfl, Rd.nil _ _, fun _ => rfl, Nat.le_refl _, by unfold maxLen; omega, h⟩
set_option maxRecDepth 100000 in
set_option maxHeartbeats 1000000 in
theorem takeText_any (A : Option Addr) (m c : Nat) (l : List UInt8) (most : Nat) (w : World) (hr : Rb w A l) (hl : l.length = m) (hA : A = none → c = 0) (hmc : m ≤ c) (hc : c ≤ maxLen) (hmo : most < 4611686018427387904) :
    Calls Tryd.prog 23 #[.slice A m c, .int .i64 (most : Int)] w fun e w' => TtV w (takeTextP l most) e w' := by
  have ht := take_any A m c l w hr hl hA hmc hc
  obtain ⟨b1, b2⟩ := takeP_len l
  obtain ⟨R, hR⟩ : ∃ z, Hid (takeTextP l most = z) := ⟨_, Lib.hid rfl⟩
  have hRd := hR.out
  unfold takeTextP at hRd
  rw [hR.out]
  obtain ⟨PO, hPO⟩ : ∃ PO : Ending → World → Prop, Hid ((fun e w' => TtV w R e w') = PO) := ⟨_, Lib.hid rfl⟩
  rw [hPO.out]
  obtain ⟨r, hr0⟩ : ∃ z, Hid (takeP l = z) := ⟨_, Lib.hid rfl⟩
  rw [hr0.out] at ht hRd b1 b2
  obtain ⟨n, rest, er⟩ := r
  simp only at b1 b2 hRd
  replace ht : Calls Tryd.prog 22 #[.slice A m c] w fun e w' => ∃ A' c', e = .returned (.tuple #[.int .u64 (n : Int), .slice A' rest.length c', .int .i64 (er : Int)]) ∧ Rb w' A' rest ∧ (A' = none → c' = 0) ∧ rest.length ≤ c' ∧ c' ≤ maxLen ∧ Ext w w' := ht
  obtain ⟨N, hN⟩ : ∃ z, Hid (rest.length = z) := ⟨_, Lib.hid rfl⟩
  rw [hN.out] at ht hRd b1
  have hmo0 : ¬ (most : Int) < 0 := by omega
  have hmow : IntKind.u64.wrap (most : Int) = (most : Int) := by
    have : IntKind.u64.wrap (most : Int) = (most : Int) % 18446744073709551616 := by rfl
    rw [this]; omega
  replace hRd := Lib.hid hRd
  clear hR hr0 hr hl hA
  by_cases he : er = 0
  · subst he
    have heb : (((0 : Nat) : Int) != 0) = false := rfl
    by_cases hlong : most < n
    · have hlI : (most : Int) < (n : Int) := by omega
      have hRd2 := hRd.out
      rw [if_neg (by simp), if_pos hlong] at hRd2
      have hp : ∀ W, Ext w W → PO (.returned (.tuple #[.string ⟨#[]⟩, .slice none 0 0, .int .i64 2])) W := fun W hW => by rw [← hPO.out, ← hRd2]; exact TtV.no 2 hW
      clear hRd hRd2 hPO
      go_enter Tryd.func23, Tryd.ntmps23
      go_wp2_with fail
      refine ht.mono ?_
      rintro e w1 ⟨A1, c1, rfl, h1, h2, h3, h4, hx1⟩
      have hp2 := hp w1 hx1
      clear ht h2
      go_wp2_with fail
      refine bodyPost_ret (results_tmp3 rfl _ _ _) rfl ?_
      exact hp2
    · have hlI : ¬ (most : Int) < (n : Int) := by omega
      by_cases hsh : N < n
      · have hsI : (N : Int) < (n : Int) := by omega
        have hRd2 := hRd.out
        rw [if_neg (by simp), if_neg hlong, if_pos hsh] at hRd2
        have hp : ∀ W, Ext w W → PO (.returned (.tuple #[.string ⟨#[]⟩, .slice none 0 0, .int .i64 3])) W := fun W hW => by rw [← hPO.out, ← hRd2]; exact TtV.no 3 hW
        clear hRd hRd2 hPO
        go_enter Tryd.func23, Tryd.ntmps23
        go_wp2_with fail
        refine ht.mono ?_
        rintro e w1 ⟨A1, c1, rfl, h1, h2, h3, h4, hx1⟩
        have hp2 := hp w1 hx1
        unfold maxLen at h4
        clear ht h2
        go_wp2_with fail
        refine bodyPost_ret (results_tmp3 rfl _ _ _) rfl ?_
        exact hp2
      · have hsI : ¬ (N : Int) < (n : Int) := by omega
        have hRd2 := hRd.out
        rw [if_neg (by simp), if_neg hlong, if_neg hsh] at hRd2
        have hl1 : (rest.take n).length = n := by rw [List.length_take]; have := hN.out; omega
        have hl2 : (rest.drop n).length = N - n := by rw [List.length_drop]; have := hN.out; omega
        have hNr := hN.out
        replace hNr := Lib.hid hNr
        go_enter Tryd.func23, Tryd.ntmps23
        go_wp2_with fail
        refine ht.mono ?_
        rintro e w1 ⟨A1, c1, rfl, h1, h2, h3, h4, hx1⟩
        have hcA := fun W => run_cutU (P := Tryd.prog) (t := 29) (e := 5) Tryd.underlying29 (by kernel_rfl) W A1 N c1 0 n none (some (.int .u64 (n : Int))) (.inr ⟨rfl, rfl⟩) (.inl rfl) (by omega) (by omega) (fun h => by cases h)
        have hcB := fun W => run_cutU (P := Tryd.prog) (t := 29) (e := 5) Tryd.underlying29 (by kernel_rfl) W A1 N c1 n N (some (.int .u64 (n : Int))) none (.inl rfl) (.inr ⟨rfl, rfl⟩) (by omega) h3 (fun _ => h3)
        have hrA : Rb w1 (cutA A1 c1 0) ((rest.take n).drop 0) := Rb.cut h1 (by omega) (by omega)
        have hrB : Rb w1 (cutA A1 c1 n) ((rest.take N).drop n) := Rb.cut h1 (by omega) h3
        rw [List.drop_zero] at hrA
        rw [List.take_of_length_le (by have := hNr.out; omega)] at hrB
        have hB0 : cutA A1 c1 n = none → c1 - n = 0 := cutA_none h2
        obtain ⟨AA, hAA⟩ : ∃ z, Hid (cutA A1 c1 0 = z) := ⟨_, Lib.hid rfl⟩
        obtain ⟨AB, hAB⟩ : ∃ z, Hid (cutA A1 c1 n = z) := ⟨_, Lib.hid rfl⟩
        simp only [hAA.out, Nat.sub_zero] at hcA hrA
        rw [hAB.out] at hrB hB0
        simp only [hAB.out] at hcB
        have hcv := fun W (hW : Ext w1 W) => conv_rd (P := Tryd.prog) (src := 29) (dst := 9) Tryd.underlying29 Tryd.underlying5 Tryd.underlying9 (n := n) c1 hl1 (hrA.ext hW)
        unfold maxLen at h4
        have hp : ∀ W, Ext w1 W → PO (.returned (.tuple #[.string (Str (rest.take n)), .slice AB (N - n) (c1 - n), .int .i64 0])) W := fun W hW => by
          rw [← hPO.out, ← hRd2]
          refine ⟨AB, c1 - n, ?_, hrB.ext hW, hB0, ?_, ?_, hx1.trans hW⟩
          · show _ = Ending.returned (.tuple #[.string (Str (rest.take n)), .slice AB (rest.drop n).length (c1 - n), .int .i64 0]); rw [hl2]
          · show (rest.drop n).length ≤ _; rw [hl2]; omega
          · unfold maxLen; omega
        obtain ⟨ST, hST⟩ : ∃ z, Hid (Str (rest.take n) = z) := ⟨_, Lib.hid rfl⟩
        rw [hST.out] at hp
        simp only [hST.out] at hcv
        clear ht h2 hrA hrB hB0 h1 hRd hRd2 hPO hl1 hl2
        go_wp2_with fail
        refine Reg.startE (by kernel_rfl) ?_
        refine Reg.tk 0 ?_; (try simp only [Reg.n1, Reg.n2, Reg.n3, Reg.n4, Reg.n5, Reg.n6, Reg.n7])
        refine Reg.tk 1 ?_; (try simp only [Reg.n1, Reg.n2, Reg.n3, Reg.n4, Reg.n5, Reg.n6, Reg.n7])
        refine Reg.tk 2 ?_; (try simp only [Reg.n1, Reg.n2, Reg.n3, Reg.n4, Reg.n5, Reg.n6, Reg.n7])
        refine Reg.tk 3 ?_; (try simp only [Reg.n1, Reg.n2, Reg.n3, Reg.n4, Reg.n5, Reg.n6, Reg.n7])
        refine Reg.tk 4 ?_; (try simp only [Reg.n1, Reg.n2, Reg.n3, Reg.n4, Reg.n5, Reg.n6, Reg.n7])
        refine Reg.tk 5 ?_; (try simp only [Reg.n1, Reg.n2, Reg.n3, Reg.n4, Reg.n5, Reg.n6, Reg.n7])
        refine Reg.tk 6 ?_; (try simp only [Reg.n1, Reg.n2, Reg.n3, Reg.n4, Reg.n5, Reg.n6, Reg.n7])
        refine Reg.tk 7 ?_; (try simp only [Reg.n1, Reg.n2, Reg.n3, Reg.n4, Reg.n5, Reg.n6, Reg.n7])
        refine Reg.tk 8 ?_; (try simp only [Reg.n1, Reg.n2, Reg.n3, Reg.n4, Reg.n5, Reg.n6, Reg.n7])
        refine Reg.tk 9 ?_; (try simp only [Reg.n1, Reg.n2, Reg.n3, Reg.n4, Reg.n5, Reg.n6, Reg.n7])
        refine Reg.fin (by kernel_rfl) (fun W hW => ?_)
        have hp2 := hp W hW
        clear hcv hp hcA hcB
        go_wp2_with fail
        refine bodyPost_ret (results_tmp3 rfl _ _ _) rfl ?_
        exact hp2
  · have hRd2 := hRd.out
    rw [if_pos he] at hRd2
    have heb : ((er : Int) != 0) = true := by simpa using (by omega : ¬ (er : Int) = 0)
    have hp : ∀ W, Ext w W → PO (.returned (.tuple #[.string ⟨#[]⟩, .slice none 0 0, .int .i64 (er : Int)])) W := fun W hW => by rw [← hPO.out, ← hRd2]; exact TtV.no er hW
    clear hRd hRd2 hPO
    go_enter Tryd.func23, Tryd.ntmps23
    go_wp2_with fail
    refine ht.mono ?_
    rintro e w1 ⟨A1, c1, rfl, h1, h2, h3, h4, hx1⟩
    have hp2 := hp w1 hx1
    clear ht h2
    go_wp2_with fail
    refine bodyPost_ret (results_tmp3 rfl _ _ _) rfl ?_
    exact hp2
end Go.Proofs.YtbpfabhlngfciaaDoor.Pf
/- prefix: numbers and texts taken, the rest one's own. -/
namespace Go.Proofs.YtbpfabhlngfciaaDoor.Pf
open Go.ChangeShapes Go.WideShapes Go.ChangeAt Go.RowKit
open Base
set_option linter.unusedVariables false
set_option linter.unusedSimpArgs false

theorem own_none {B : Nat} {w : World} {n : Nat} {xs : List Value} {A : Option Addr} {c : Nat} {t : TypeId} {z : Nat} (h : w.ownsRow B t z (.slice A n c) n xs) : A = none → c = 0 := fun e => by
  rcases h.2 with ⟨e2, _⟩ | ⟨g, cap2, cur, e2, _⟩
  · injection e2
  · rw [e] at e2; injection e2 with e2; cases e2
set_option maxRecDepth 100000 in
theorem Take_any (A : Option Addr) (m c : Nat) (l : List UInt8) (w : World) (hr : Rb w A l) (hl : l.length = m) (hA : A = none → c = 0) (hmc : m ≤ c) (hc : c ≤ maxLen) (hm : m ≤ 140737488355328) :
    Calls Tryd.prog 17 #[.slice A m c] w fun e w' => TkV w (takeP l) e w' := by
  have ht := take_any A m c l w hr hl hA hmc hc
  obtain ⟨b1, b2⟩ := takeP_len l
  obtain ⟨r, hr0⟩ : ∃ z, Hid (takeP l = z) := ⟨_, Lib.hid rfl⟩
  rw [hr0.out] at ht b1 b2 ⊢
  obtain ⟨n, rest, er⟩ := r
  replace ht : Calls Tryd.prog 22 #[.slice A m c] w fun e w' => ∃ A' c', e = .returned (.tuple #[.int .u64 (n : Int), .slice A' rest.length c', .int .i64 (er : Int)]) ∧ Rb w' A' rest ∧ (A' = none → c' = 0) ∧ rest.length ≤ c' ∧ c' ≤ maxLen ∧ Ext w w' := ht
  obtain ⟨PO, hPO⟩ : ∃ PO : Ending → World → Prop, Hid ((fun e w' => TkV w (n, rest, er) e w') = PO) := ⟨_, Lib.hid rfl⟩
  rw [hPO.out]
  simp only at b1 b2
  obtain ⟨N, hN⟩ : ∃ z, Hid (rest.length = z) := ⟨_, Lib.hid rfl⟩
  rw [hN.out] at ht b1
  have hNm : N ≤ m := by omega
  clear hr0 hr b1 hl
  go_enter Tryd.func17, Tryd.ntmps17
  go_wp2_with fail
  refine ht.mono ?_
  rintro e w1 ⟨A1, c1, rfl, h1, h2, h3, h4, hx1⟩
  have hcl := clone_any A1 N c1 rest w1 h1 hN.out h2 (by omega)
  clear ht h2 h1
  go_wp2_with fail
  refine hcl.mono ?_
  rintro e w2 ⟨v2, rfl, ho2, hx2⟩
  obtain ⟨A2, c2, rfl, q1, q2, q3, q4⟩ := Rd.of_own ho2
  have hp : PO (.returned (.tuple #[.int .u64 (n : Int), .slice A2 rest.length c2, .int .i64 (er : Int)])) w2 := by
    rw [← hPO.out]
    exact ⟨A2, c2, rfl, q3, own_none ho2, q1, q2, hx1.trans hx2⟩
  clear hcl q1 q2 q3 q4 ho2
  go_wp2_with fail
  refine bodyPost_ret (results_tmp3 rfl _ _ _) rfl ?_
  exact hp
theorem takeTextP_len (l : List UInt8) (most : Nat) : (takeTextP l most).2.1.length ≤ l.length := by
  have := takeP_len l
  unfold takeTextP
  split
  · exact Nat.zero_le _
  · split
    · exact Nat.zero_le _
    · split
      · exact Nat.zero_le _
      · simp only [List.length_drop]; omega
set_option maxRecDepth 100000 in
theorem TakeText_any (A : Option Addr) (m c : Nat) (l : List UInt8) (most : Nat) (w : World) (hr : Rb w A l) (hl : l.length = m) (hA : A = none → c = 0) (hmc : m ≤ c) (hc : c ≤ maxLen) (hm : m ≤ 140737488355328) (hmo : most < 4611686018427387904) :
    Calls Tryd.prog 18 #[.slice A m c, .int .i64 (most : Int)] w fun e w' => TtV w (takeTextP l most) e w' := by
  have ht := takeText_any A m c l most w hr hl hA hmc hc hmo
  have b1 := takeTextP_len l most
  obtain ⟨r, hr0⟩ : ∃ z, Hid (takeTextP l most = z) := ⟨_, Lib.hid rfl⟩
  rw [hr0.out] at ht b1 ⊢
  obtain ⟨s, rest, er⟩ := r
  replace ht : Calls Tryd.prog 23 #[.slice A m c, .int .i64 (most : Int)] w fun e w' => ∃ A' c', e = .returned (.tuple #[.string (Str s), .slice A' rest.length c', .int .i64 (er : Int)]) ∧ Rb w' A' rest ∧ (A' = none → c' = 0) ∧ rest.length ≤ c' ∧ c' ≤ maxLen ∧ Ext w w' := ht
  obtain ⟨PO, hPO⟩ : ∃ PO : Ending → World → Prop, Hid ((fun e w' => TtV w (s, rest, er) e w') = PO) := ⟨_, Lib.hid rfl⟩
  rw [hPO.out]
  simp only at b1
  obtain ⟨N, hN⟩ : ∃ z, Hid (rest.length = z) := ⟨_, Lib.hid rfl⟩
  rw [hN.out] at ht b1
  have hNm : N ≤ m := by omega
  obtain ⟨S, hS⟩ : ∃ z, Hid (Str s = z) := ⟨_, Lib.hid rfl⟩
  rw [hS.out] at ht
  clear hr0 hr b1 hl
  go_enter Tryd.func18, Tryd.ntmps18
  go_wp2_with fail
  refine ht.mono ?_
  rintro e w1 ⟨A1, c1, rfl, h1, h2, h3, h4, hx1⟩
  have hcl := clone_any A1 N c1 rest w1 h1 hN.out h2 (by omega)
  clear ht h2 h1
  go_wp2_with fail
  refine hcl.mono ?_
  rintro e w2 ⟨v2, rfl, ho2, hx2⟩
  obtain ⟨A2, c2, rfl, q1, q2, q3, q4⟩ := Rd.of_own ho2
  have hp : PO (.returned (.tuple #[.string S, .slice A2 rest.length c2, .int .i64 (er : Int)])) w2 := by
    rw [← hPO.out, ← hS.out]
    exact ⟨A2, c2, rfl, q3, own_none ho2, q1, q2, hx1.trans hx2⟩
  clear hcl q1 q2 q3 q4 ho2
  go_wp2_with fail
  refine bodyPost_ret (results_tmp3 rfl _ _ _) rfl ?_
  exact hp
end Go.Proofs.YtbpfabhlngfciaaDoor.Pf
