/- sha: the law of the parts, walked. -/
import Derived.Test.YtdfgjmmdpbgodaaDoorShaApi
import Derived.Test.YtdfgjmmdpbgodaaDoorCut
import Derived.Test.YtdfgjmmdpbgodaaDoorShaEq
namespace Go.Proofs.YtdfgjmmdpbgodaaDoor.ShaW
open Go.ChangeShapes Go.WideShapes Go.ChangeAt Go.RowKit
open ShaP Base
set_option linter.unusedVariables false
set_option linter.unusedSimpArgs false

theorem take_more (l : List UInt8) (k n : Nat) (h : k ≤ n) : l.take k ++ (l.take n).drop k = l.take n := by
  have : l.take k = (l.take n).take k := by rw [List.take_take, Nat.min_eq_left h]
  rw [this, List.take_append_drop]

theorem own_le {A : Option Addr} {n c : Nat} {B k : Nat} (hA : ∀ a, A = some a → B ≤ a.block) (hk : (Value.slice A n c).ownBlock = some k) : B ≤ k := by
  cases A with
  | none => cases hk
  | some a =>
    have h := hA a rfl
    simp only [Value.ownBlock, Option.some.injEq] at hk
    omega
theorem own_lt {A A' : Option Addr} {n c n' c' : Nat} {S S' : Nat} (hA : ∀ a, A = some a → a.block < S') (hv : (Value.slice A' n' c').ownBlock = (Value.slice A n c).ownBlock ∨ (Value.slice A' n' c').ownBlock = some S ∧ S < S') : ∀ a, A' = some a → a.block < S' := by
  rintro a rfl
  rcases hv with e | ⟨e, h⟩
  · cases A with
    | none => cases e
    | some b =>
      have := hA b rfl
      simp only [Value.ownBlock, Option.some.injEq] at e
      omega
  · simp only [Value.ownBlock, Option.some.injEq] at e
    omega

set_option maxHeartbeats 10000000 in
theorem shaParts_any (w : World) (ht : Tabs w) (Ab Ac Au : Option Addr) (cb cc cu : Nat) (lb lc lu : List UInt8) (nb nc nu : Nat) (hlb : lb.length = nb) (hlc : lc.length = nc) (hlu : lu.length = nu)
    (hrb : Rb w Ab lb) (hrc : Rb w Ac lc) (hru : Rb w Au lu) (hAb : Ab = none → cb = 0) (hAc : Ac = none → cc = 0) (hcb : nb ≤ cb) (hcc : nc ≤ cc) (hcu : nu ≤ cu) (hsb : nb ≤ 1048576) (hsc : nc ≤ 1048576) (hsu : nu ≤ 1048576) :
    Calls Tryd.prog 4 #[.slice Ab nb cb, .slice Ac nc cc, .slice Au nu cu] w fun e w' => e = .returned (.bool true) ∧ Ext w w' := by
  have Hlb := (⟨hlb⟩ : Held _)
  have Hlc := (⟨hlc⟩ : Held _)
  have Hlu := (⟨hlu⟩ : Held _)
  have Hsb := Lib.hid hsb
  have Hsc := Lib.hid hsc
  have HAb := Lib.hid hAb
  have HAc := Lib.hid hAc
  have Hsu := Lib.hid hsu
  clear hlb hlc hlu hsb hsc hsu hAb hAc
  obtain ⟨G, hG⟩ : ∃ x, Held (w.heap.size = x) := ⟨_, ⟨rfl⟩⟩
  have hG1 : 1 < G := by rw [← hG.out]; exact ht.lt
  have hnew := new_any w ht.first
  rw [hG.out] at hnew
  go_enter Tryd.func4, Tryd.ntmps4
  go_wp2_with fail
  refine hnew.mono ?_
  rintro e w1 ⟨rfl, hh, hx⟩
  clear hnew
  go_wp2_with fail
  go_loopw [8, 9, 10, 14, 15, 16, 17, 18, 19, 20, 21, 22, 24, 25, 26, 27, 28, 29, 30, 31, 32, 33, 34, 35, 36, 37, 38, 39, 40, 41, 42, 43, 44, 45, 46, 47] (fun v8 v9 v10 v14 v15 v16 v17 v18 v19 v20 v21 v22 v24 v25 v26 v27 v28 v29 v30 v31 v32 v33 v34 v35 v36 v37 v38 v39 v40 v41 v42 v43 v44 v45 v46 v47 wv => ∃ (i k : Nat) (b1 : Option Nat), v9 = .int .i64 i ∧ i ≤ nu ∧ v8 = .int .i64 k ∧ k ≤ nb ∧ HInv wv G b1 (lb.take k) ∧ (∀ j, b1 = some j → G < j) ∧ Ext w wv) (fun _ v9 _ _ _ _ _ _ _ _ _ _ _ _ _ _ _ _ _ _ _ _ _ _ _ _ _ _ _ _ _ _ _ _ _ _ _ => nu - (intOf v9).toNat)
  case atStart => exact ⟨0, 0, none, rfl, Nat.zero_le _, rfl, Nat.zero_le _, hh, by simp, hx⟩
  case round =>
    clear hh hx
    obtain ⟨i, k, b1, rfl, hi, rfl, hk, hh, hb1, hx⟩ := hrel
    by_cases hc : i < nu ∧ k < nb
    · obtain ⟨hin, hkn⟩ := hc
      have hin' : (i : Int) < nu := by omega
      have hkn' : (k : Int) < nb := by omega
      obtain ⟨bu, ou, rfl, hcell⟩ := (hru.ext hx).at_ (k := i) (by rw [Hlu.out]; exact hin)
      obtain ⟨x, hx8⟩ : ∃ x, Held (lu[i]'(by rw [Hlu.out]; exact hin) = x) := ⟨_, ⟨rfl⟩⟩
      rw [hx8.out] at hcell
      obtain ⟨d, hd⟩ : ∃ d : Nat, Held (x.toNat % 80 = d) := ⟨_, ⟨rfl⟩⟩
      have hd' : (x.toNat : Int) % 80 = (d : Int) := by have := hd.out; omega
      have hd80 : (d : Int) < 80 := by have := hd.out; omega
      obtain ⟨s, hs⟩ : ∃ s : Nat, Held (k + d = s) := ⟨_, ⟨rfl⟩⟩
      have hs' : wrap64 ((k : Int) + (d : Int)) = (s : Int) := by have := hs.out; have := Hsb.out; unfold wrap64; omega
      have hks : k ≤ s := by have := hs.out; omega
      obtain ⟨i1, hi1e⟩ : ∃ x : Nat, Held (i + 1 = x) := ⟨_, ⟨rfl⟩⟩
      have hi1 : wrap64 ((i : Int) + 1) = (i1 : Int) := by have := Hsu.out; have := hi1e.out; unfold wrap64; omega
      by_cases hsn : nb < s
      · have hsn' : (nb : Int) < s := by omega
        go_wp2_with (refine wpList_cut rfl 22 (.tmp 41) (some (.tmp 42)) (some (.tmp 43)) rfl _ _ _ _ rfl rfl rfl (run_cutAt Tryd.underlying22 (by kernel_rfl) _ Ab nb cb k nb _ _ (.inl rfl) (.inl rfl) (by omega) (by omega) (fun h => by cases h)) ?_)
        have hln : ((lb.take nb).drop k).length = nb - k := by rw [List.length_drop, List.length_take, Hlb.out]; omega
        have hrp : Rb wr (cutA Ab cb k) ((lb.take nb).drop k) := Rb.cut (hrb.ext hx) (by omega) (by omega)
        have hown := own_any (cutA Ab cb k) (cb - k) ((lb.take nb).drop k) wr (by have := Hsb.out; rw [hln]; omega) (cutA_none HAb.out) hrp
        have htm := take_more lb k nb (by omega)
        obtain ⟨PP, hPP⟩ : ∃ x, Held ((lb.take nb).drop k = x) := ⟨_, ⟨rfl⟩⟩
        rw [hPP.out] at hln hown htm
        rw [hln] at hown
        refine hown.mono ?_
        clear hown
        rintro e w2 ⟨A', c', rfl, ho, hA', hx2⟩
        go_wp2_with fail
        obtain ⟨A'', c'', e, hrd, _, _, hAn⟩ := ho.rd
        injection e with e1 e2 e3
        subst e1; subst e3
        have hG2 := hh.lt
        have hh2 := hh.keep (S := fun _ => False) (Chg.ofExt hx2) (fun x => x) (fun _ _ x => x)
        have hwr := write_any w2 G b1 (lb.take k) PP A' c' (ht.ext (hx.trans hx2)).roots hh2 hrd hAn (fun a ha e => by have := hA' a ha; omega) (by have := Hsb.out; rw [hln]; omega) (by omega) (fun e => by have := hb1 1 e; omega)
        rw [hln, htm] at hwr
        refine hwr.mono ?_
        clear hwr
        rintro e w3 ⟨rfl, b2, hh3, hb2, hc3⟩
        have hx3 : Ext w w3 := (hx.trans hx2).chg hc3 (fun i hi e => by have := hG.out; rcases e with e | e; omega; have := hb1 i e; omega)
        have hb2' : ∀ j, b2 = some j → G < j := fun j hj => by
          rcases hb2 with e | ⟨k', e, hk'⟩
          · exact hb1 j (by rw [← e, hj])
          · rw [hj] at e; injection e with e; have := hx2.size; omega
        clear hb2 hc3 hh2 ho hrd hAn hA' e2 hrp
        go_wp2_with fail
        rw [hi1]
        refine ⟨⟨i1, nb, b2, rfl, by have := hi1e.out; omega, rfl, by omega, hh3, hb2', hx3⟩, by have := hi1e.out; simp only [intOf]; omega⟩
      · have hsn' : ¬ (nb : Int) < s := by omega
        go_wp2_with (refine wpList_cut rfl 22 (.tmp 41) (some (.tmp 42)) (some (.tmp 43)) rfl _ _ _ _ rfl rfl rfl (run_cutAt Tryd.underlying22 (by kernel_rfl) _ Ab nb cb k s _ _ (.inl rfl) (by first | exact .inl rfl | exact .inl (by rw [hs']; rfl)) (by omega) (by omega) (fun h => by cases h)) ?_)
        have hln : ((lb.take s).drop k).length = s - k := by rw [List.length_drop, List.length_take, Hlb.out]; omega
        have hrp : Rb wr (cutA Ab cb k) ((lb.take s).drop k) := Rb.cut (hrb.ext hx) (by omega) (by omega)
        have hown := own_any (cutA Ab cb k) (cb - k) ((lb.take s).drop k) wr (by have := Hsb.out; rw [hln]; omega) (cutA_none HAb.out) hrp
        have htm := take_more lb k s (by omega)
        obtain ⟨PP, hPP⟩ : ∃ x, Held ((lb.take s).drop k = x) := ⟨_, ⟨rfl⟩⟩
        rw [hPP.out] at hln hown htm
        rw [hln] at hown
        refine hown.mono ?_
        clear hown
        rintro e w2 ⟨A', c', rfl, ho, hA', hx2⟩
        go_wp2_with fail
        obtain ⟨A'', c'', e, hrd, _, _, hAn⟩ := ho.rd
        injection e with e1 e2 e3
        subst e1; subst e3
        have hG2 := hh.lt
        have hh2 := hh.keep (S := fun _ => False) (Chg.ofExt hx2) (fun x => x) (fun _ _ x => x)
        have hwr := write_any w2 G b1 (lb.take k) PP A' c' (ht.ext (hx.trans hx2)).roots hh2 hrd hAn (fun a ha e => by have := hA' a ha; omega) (by have := Hsb.out; rw [hln]; omega) (by omega) (fun e => by have := hb1 1 e; omega)
        rw [hln, htm] at hwr
        refine hwr.mono ?_
        clear hwr
        rintro e w3 ⟨rfl, b2, hh3, hb2, hc3⟩
        have hx3 : Ext w w3 := (hx.trans hx2).chg hc3 (fun i hi e => by have := hG.out; rcases e with e | e; omega; have := hb1 i e; omega)
        have hb2' : ∀ j, b2 = some j → G < j := fun j hj => by
          rcases hb2 with e | ⟨k', e, hk'⟩
          · exact hb1 j (by rw [← e, hj])
          · rw [hj] at e; injection e with e; have := hx2.size; omega
        clear hb2 hc3 hh2 ho hrd hAn hA' e2 hrp
        go_wp2_with fail
        rw [hi1]
        refine ⟨⟨i1, s, b2, rfl, by have := hi1e.out; omega, rfl, by omega, hh3, hb2', hx3⟩, by have := hi1e.out; simp only [intOf]; omega⟩
    · go_wp2_with (refine wpList_cut rfl 22 (.tmp 49) (some (.tmp 50)) none rfl _ _ _ _ rfl rfl rfl (run_cutAt Tryd.underlying22 (by kernel_rfl) _ Ab nb cb k nb _ _ (.inl rfl) (.inr ⟨rfl, rfl⟩) (by omega) (by omega) (fun _ => hcb)) ?_)
      all_goals
        have hln : (lb.drop k).length = nb - k := by rw [List.length_drop, Hlb.out]
        have hrp : Rb wr (cutA Ab cb k) (lb.drop k) := by
          have := Rb.cut (hrb.ext hx) (c := cb) (l := k) (k := nb) (by omega) (by omega)
          rwa [List.take_of_length_le (by rw [Hlb.out]; omega)] at this
        have hown := own_any (cutA Ab cb k) (cb - k) (lb.drop k) wr (by have := Hsb.out; rw [hln]; omega) (cutA_none HAb.out) hrp
        have htm : lb.take k ++ lb.drop k = lb := List.take_append_drop k lb
        obtain ⟨PP, hPP⟩ : ∃ x, Held (lb.drop k = x) := ⟨_, ⟨rfl⟩⟩
        rw [hPP.out] at hln hown htm
        rw [hln] at hown
        refine hown.mono ?_
        clear hown
        rintro e w2 ⟨A', c', rfl, ho, hA', hx2⟩
        go_wp2_with fail
        obtain ⟨A'', c'', e, hrd, _, _, hAn⟩ := ho.rd
        injection e with e1 e2 e3
        subst e1; subst e3
        have hh2 := hh.keep (S := fun _ => False) (Chg.ofExt hx2) (fun x => x) (fun _ _ x => x)
        have hG2 := hh.lt
        have hwr := write_any w2 G b1 (lb.take k) PP A' c' (ht.ext (hx.trans hx2)).roots hh2 hrd hAn (fun a ha e => by have := hA' a ha; omega) (by have := Hsb.out; rw [hln]; omega) (by omega) (fun e => by have := hb1 1 e; omega)
        rw [hln, htm] at hwr
        refine hwr.mono ?_
        clear hwr
        rintro e w3 ⟨rfl, b2, hh3, hb2, hc3⟩
        have hx3 : Ext w w3 := (hx.trans hx2).chg hc3 (fun i hi e => by have := hG.out; rcases e with e | e; omega; have := hb1 i e; omega)
        have hb2' : ∀ j, b2 = some j → G < j := fun j hj => by
          rcases hb2 with e | ⟨k', e, hk'⟩
          · exact hb1 j (by rw [← e, hj])
          · rw [hj] at e; injection e with e; have := hx2.size; omega
        clear hb2 hc3 hh2 ho hrd hAn hA' e2 hrp hb1 hh hx hx2
        have ht3 := ht.ext hx3
        have hsum := sum_any w3 G b2 lb ht3.roots hh3 ht3.lt
        go_wp2_with fail
        refine hsum.mono ?_
        clear hsum
        rintro e w4 ⟨rfl, hx4⟩
        have hown := own_any Ab cb lb w4 (by have := Hsb.out; rw [Hlb.out]; omega) HAb.out (hrb.ext (hx3.trans hx4))
        rw [Hlb.out] at hown
        go_wp2_with fail
        refine hown.mono ?_
        clear hown
        rintro e w5 ⟨A5, c5, rfl, ho, hA5, hx5⟩
        go_wp2_with fail
        obtain ⟨A'', c'', e, hrd5, _, _, hAn5⟩ := ho.rd
        injection e with e1 e2 e3
        subst e1; subst e3
        clear e2
        have hst := sumTop_any w5 A5 c5 lb (ht.ext ((hx3.trans hx4).trans hx5)) hrd5 hAn5 (fun a ha => (hA5 a ha).2) (by have := Hsb.out; rw [Hlb.out]; omega)
        rw [Hlb.out] at hst
        refine hst.mono ?_
        clear hst
        rintro e w6 ⟨rfl, hx6⟩
        obtain ⟨SB, hSB⟩ : ∃ x, Held (sha lb = x) := ⟨_, ⟨rfl⟩⟩
        rw [hSB.out]
        have hh6 := hh3.keep (S := fun _ => False) (Chg.ofExt ((hx4.trans hx5).trans hx6)) (fun x => x) (fun _ _ x => x)
        have hx36 := ((hx3.trans hx4).trans hx5).trans hx6
        clear hx4 hx5 hx6 ho hrd5 hAn5 hA5 hh3
        have hSl : SB.length = 32 := by rw [← hSB.out]; exact sha_length lb
        have hEq : ∀ w, (Op.equalIn 10000 25 (.agg (u8s SB).toArray) (.agg (u8s SB).toArray)).run Tryd.prog w = .ok true w := fun w => by rw [eq_sum SB SB hSl hSl]; simp
        go_wp2_with fail
        have ht6 := ht.ext hx36
        have hsum := sum_any w6 G b2 lb ht6.roots hh6 ht6.lt
        rw [hSB.out] at hsum
        refine hsum.mono ?_
        clear hsum
        rintro e w7 ⟨rfl, hx7⟩
        have hown := own_any Ab cb lb w7 (by have := Hsb.out; rw [Hlb.out]; omega) HAb.out (hrb.ext (hx36.trans hx7))
        rw [Hlb.out] at hown
        go_wp2_with fail
        refine hown.mono ?_
        clear hown
        rintro e w8 ⟨A5, c5, rfl, ho, hA5, hx8⟩
        obtain ⟨A'', c'', e, hrd5, _, _, hAn5⟩ := ho.rd
        injection e with e1 e2 e3
        subst e1; subst e3
        clear e2
        have hst := sumTop_any w8 A5 c5 lb (ht.ext ((hx36.trans hx7).trans hx8)) hrd5 hAn5 (fun a ha => (hA5 a ha).2) (by have := Hsb.out; rw [Hlb.out]; omega)
        rw [Hlb.out, hSB.out] at hst
        go_wp2_with fail
        refine hst.mono ?_
        clear hst
        rintro e w9 ⟨rfl, hx9⟩
        have hh9 := hh6.keep (S := fun _ => False) (Chg.ofExt ((hx7.trans hx8).trans hx9)) (fun x => x) (fun _ _ x => x)
        have hx39 := ((hx36.trans hx7).trans hx8).trans hx9
        clear hx7 hx8 hx9 ho hrd5 hAn5 hA5 hh6 hx36
        have hown := own_any Ac cc lc w9 (by have := Hsc.out; rw [Hlc.out]; omega) HAc.out (hrc.ext hx39)
        rw [Hlc.out] at hown
        go_wp2_with fail
        refine hown.mono ?_
        clear hown
        rintro e w10 ⟨A6, c6, rfl, ho, hA6, hx10⟩
        obtain ⟨A'', c'', e, hrd6, _, _, hAn6⟩ := ho.rd
        injection e with e1 e2 e3
        subst e1; subst e3
        clear e2
        have hh10 := hh9.keep (S := fun _ => False) (Chg.ofExt hx10) (fun x => x) (fun _ _ x => x)
        have hG10 := hh9.lt
        have hwr := write_any w10 G b2 lb lc A6 c6 (ht.ext (hx39.trans hx10)).roots hh10 hrd6 hAn6 (fun a ha e => by have := hA6 a ha; omega) (by have := Hsc.out; rw [Hlc.out]; omega) (by omega) (fun e => by have := hb2' 1 e; omega)
        rw [Hlc.out] at hwr
        go_wp2_with fail
        refine hwr.mono ?_
        clear hwr
        rintro e w11 ⟨rfl, b3, hh11, _, hc11⟩
        have hx11 : Ext w w11 := (hx39.trans hx10).chg hc11 (fun i hi e => by have := hG.out; rcases e with e | e; omega; have := hb2' i e; omega)
        clear hc11 hh10 hh9 ho hrd6 hAn6 hA6 hx39 hx10
        have ht11 := ht.ext hx11
        have hsum := sum_any w11 G b3 (lb ++ lc) ht11.roots hh11 ht11.lt
        obtain ⟨SC, hSC⟩ : ∃ x, Held (sha (lb ++ lc) = x) := ⟨_, ⟨rfl⟩⟩
        rw [hSC.out] at hsum
        go_wp2_with fail
        refine hsum.mono ?_
        clear hsum
        rintro e w12 ⟨rfl, hx12⟩
        have hown := own_any Ab cb lb w12 (by have := Hsb.out; rw [Hlb.out]; omega) HAb.out (hrb.ext (hx11.trans hx12))
        rw [Hlb.out] at hown
        go_wp2_with fail
        refine hown.mono ?_
        clear hown
        rintro e w13 ⟨A7, c7, rfl, ho, hA7, hx13⟩
        have hx13' := (hx11.trans hx12).trans hx13
        have hsz := hx13.size
        obtain ⟨nbc, hnbc⟩ : ∃ x, Held ((lb ++ lc).length = x) := ⟨_, ⟨rfl⟩⟩
        go_wp2_with (
          refine wpList_oapp el_u8 _ rfl (.tmp 75) (.tmp 76) rfl _ (u8s lb) rfl ho (u8s_one _) Ac nc cc (u8s lc) rfl (hrc.ext hx13') (by rw [u8s_length, Hlc.out]) HAc.out (u8s_one _) (by have := Hsb.out; have := Hsc.out; rw [u8s_length, Hlb.out]; omega) (by omega) (fun v1 w14 ho1 hg1 hv1 => ?_)
          have hx14 : Ext w w14 := hx13'.then_grown hg1 (fun k hk => own_le (fun a ha => Nat.le_trans (hx11.trans hx12).size (hA7 a ha).1) hk)
          rw [← u8s_append] at ho1
          obtain ⟨A8, c8, rfl, hrd8, _, _, hAn8⟩ := ho1.rd
          have hlen8 : (u8s (lb ++ lc)).length = (lb ++ lc).length := u8s_length _
          have hA8 : ∀ a, A8 = some a → a.block < w14.heap.size := own_lt (fun a ha => Nat.lt_of_lt_of_le (hA7 a ha).2 hg1.size) hv1
          rw [hlen8, hnbc.out]
          clear hlen8 hg1 hv1)
        have hst := sumTop_any w14 A8 c8 (lb ++ lc) (ht.ext hx14) hrd8 hAn8 hA8 (by have := Hsb.out; have := Hsc.out; rw [List.length_append, Hlb.out, Hlc.out]; omega)
        rw [hnbc.out, hSC.out] at hst
        refine hst.mono ?_
        clear hst
        rintro e w15 ⟨rfl, hx15⟩
        have hSCl : SC.length = 32 := by rw [← hSC.out]; exact sha_length _
        have hEqC : ∀ w, (Op.equalIn 10000 25 (.agg (u8s SC).toArray) (.agg (u8s SC).toArray)).run Tryd.prog w = .ok true w := fun w => by rw [eq_sum SC SC hSCl hSCl]; simp
        go_wp2_with fail
        refine (lives_any w15 (ht.ext (hx14.trans hx15))).mono ?_
        rintro e w16 ⟨rfl, hx16⟩
        go_wp2_with fail
        go_ret
        exact ⟨rfl, (hx14.trans hx15).trans hx16⟩
end Go.Proofs.YtdfgjmmdpbgodaaDoor.ShaW
