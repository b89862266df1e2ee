/- ids: Make; the law IdsFull's walk. -/
import Derived.Test.YtalbjbcomamomaaIdsTab
namespace Go.Proofs.Ytalbjbcomamomaa.IdsW
open Go.ChangeShapes Go.WideShapes Go.ChangeAt Go.RowKit
open Base Mp
set_option linter.unusedVariables false
set_option linter.unusedSimpArgs false

/-- what Make gives: the id, the reason -/
def mkId (lim : Nat) (ts : List ByteArray) (s : ByteArray) : Nat × Nat :=
  match idOf ts s with
  | some k => (k, 0)
  | none => if lim ≤ ts.length then (0, 8) else (ts.length + 1, 0)
/-- the texts behind it -/
def mkTs (lim : Nat) (ts : List ByteArray) (s : ByteArray) : List ByteArray :=
  match idOf ts s with
  | some _ => ts
  | none => if lim ≤ ts.length then ts else ts ++ [s]

theorem mkTs_le (lim : Nat) (ts : List ByteArray) (s : ByteArray) : (mkTs lim ts s).length ≤ ts.length + 1 := by
  unfold mkTs
  split
  · omega
  · split
    · omega
    · simp
theorem mkTs_lim (lim : Nat) (ts : List ByteArray) (s : ByteArray) (h : ts.length ≤ lim) : (mkTs lim ts s).length ≤ lim := by
  unfold mkTs
  split
  · omega
  · split
    · omega
    · simp; omega

theorem made_any2 {B : Nat} {g lim : Nat} {ts : List ByteArray} {bs : List (Nat × Nat)} {vt vb : Value} {m : Nat} (s : ByteArray) (w : World) (h : Tb B w g lim ts bs vt vb m) (hs : s.size ≤ maxLen) (hsm : ts.length ≤ 1000) (hB : B ≤ w.heap.size) :
    Calls Try.prog 18 #[.pointer (some ⟨g, 0, none⟩), .string s] w fun e w' => e = .returned (.tuple #[.int .u64 ((mkId lim ts s).1 : Int), .int .i64 ((mkId lim ts s).2 : Int)]) ∧ Below B w w' ∧ Chg (fun k => k = g ∨ k = m ∨ vt.ownBlock = some k) w w' ∧ ∃ vt', Tb B w' g lim (mkTs lim ts s) bs vt' vb m ∧ Fresh w vt vt' := by
  cases hk : idOf ts s with
  | some k =>
    have e1 : mkId lim ts s = (k, 0) := by simp [mkId, hk]
    have e2 : mkTs lim ts s = ts := by simp [mkTs, hk]
    rw [e1, e2]
    exact (made_there s k w h hs hk).mono fun e w' ⟨he, hw⟩ => by subst hw; exact ⟨he, Below.refl _ _, Chg.refl _ _, vt, h, .inl rfl⟩
  | none =>
    by_cases hl : lim ≤ ts.length
    · have e1 : mkId lim ts s = (0, 8) := by simp [mkId, hk, hl]
      have e2 : mkTs lim ts s = ts := by simp [mkTs, hk, hl]
      rw [e1, e2]
      exact (made_full s w h hs hk hl hsm).mono fun e w' ⟨he, n, hw⟩ => by
        subst hw
        exact ⟨he, Below.mono ((Ext.refl w).drewN n) hB, Chg.ofExt ((Ext.refl w).drewN n), vt, h.ext ((Ext.refl w).drewN n), .inl rfl⟩
    · have e1 : mkId lim ts s = (ts.length + 1, 0) := by simp [mkId, hk, hl]
      have e2 : mkTs lim ts s = ts ++ [s] := by simp [mkTs, hk, hl]
      rw [e1, e2]
      exact made_new s w h hs hk (by omega) hsm hB

set_option maxHeartbeats 400000 in
theorem Make_any2 {B : Nat} {g lim : Nat} {ts : List ByteArray} {bs : List (Nat × Nat)} {vt vb : Value} {m : Nat} (s : ByteArray) (w : World) (h : Tb B w g lim ts bs vt vb m) (hs : s.size ≤ maxLen) (hsm : ts.length ≤ 1000) (hB : B ≤ w.heap.size) :
    Calls Try.prog 9 #[.pointer (some ⟨g, 0, none⟩), .string s] w fun e w' => e = .returned (.tuple #[.int .u64 ((mkId lim ts s).1 : Int), .int .i64 ((mkId lim ts s).2 : Int)]) ∧ Below B w w' ∧ Chg (fun k => k = g ∨ k = m ∨ vt.ownBlock = some k) w w' ∧ ∃ vt', Tb B w' g lim (mkTs lim ts s) bs vt' vb m ∧ Fresh w vt vt' := by
  go_enter Try.func9, Try.ntmps9
  go_wp2_with fail
  refine (made_any2 s _ h hs hsm hB).mono ?_
  rintro e w1 ⟨rfl, hb, hT⟩
  go_wp2_with fail
  go_ret2
  exact ⟨rfl, hb, hT⟩
theorem Make_any {B : Nat} {g lim : Nat} {ts : List ByteArray} {bs : List (Nat × Nat)} {vt vb : Value} {m : Nat} (s : ByteArray) (w : World) (h : Tb B w g lim ts bs vt vb m) (hs : s.size ≤ maxLen) (hsm : ts.length ≤ 1000) (hB : B ≤ w.heap.size) :
    Calls Try.prog 9 #[.pointer (some ⟨g, 0, none⟩), .string s] w fun e w' => e = .returned (.tuple #[.int .u64 ((mkId lim ts s).1 : Int), .int .i64 ((mkId lim ts s).2 : Int)]) ∧ Below B w w' ∧ ∃ vt', Tb B w' g lim (mkTs lim ts s) bs vt' vb m :=
  (Make_any2 s w h hs hsm hB).mono fun e w' ⟨he, hb, _, vt', hT, _⟩ => ⟨he, hb, vt', hT⟩

def sa : ByteArray := Str [97]
def sb : ByteArray := Str [98]

set_option maxHeartbeats 800000 in
theorem lives_any (w : World) : Calls Try.prog 10 #[] w fun e w' => e = .returned (.bool true) ∧ Ext w w' := by
  have i1 : mkId 9 [] sa = (1, 0) := by decide
  have t1 : mkTs 9 [] sa = [sa] := by decide
  have i2 : mkId 9 [sa] sb = (2, 0) := by decide
  have t2 : mkTs 9 [sa] sb = [sa, sb] := by decide
  have i3 : mkId 9 [sa, sb] sa = (1, 0) := by decide
  have t3 : mkTs 9 [sa, sb] sa = [sa, sb] := by decide
  have I1 := Lib.hid i1
  have T1 := Lib.hid t1
  have I2 := Lib.hid i2
  have T2 := Lib.hid t2
  have I3 := Lib.hid i3
  have T3 := Lib.hid t3
  clear i1 t1 i2 t2 i3 t3
  go_enter Try.func10, Try.ntmps10
  go_wp2_with fail
  refine (New_any 9 (by omega) (by omega) w.heap.size w (Nat.le_refl _)).mono ?_
  rintro e w1 ⟨g, m, rfl, hT1, hx1⟩
  rw [show (9 : Int).toNat = 9 from rfl] at hT1
  go_wp2_with fail
  refine (Make_any sa _ hT1 (by decide) (by simp) hx1.size).mono ?_
  rintro e w2 ⟨rfl, hb2, v2, hT2⟩
  rw [I1.out]
  rw [T1.out] at hT2
  go_wp2_with fail
  refine (Make_any sb _ hT2 (by decide) (by simp) (Nat.le_trans hx1.size hb2.size)).mono ?_
  rintro e w3 ⟨rfl, hb3, v3, hT3⟩
  rw [I2.out]
  rw [T2.out] at hT3
  go_wp2_with fail
  refine (Make_any sa _ hT3 (by decide) (by simp) (Nat.le_trans hx1.size (Nat.le_trans hb2.size hb3.size))).mono ?_
  rintro e w4 ⟨rfl, hb4, v4, hT4⟩
  rw [I3.out]
  rw [T3.out] at hT4
  go_wp2_with fail
  refine (Len_any _ hT4).mono ?_
  rintro e w5 ⟨rfl, rfl⟩
  rw [show (([sa, sb] : List ByteArray).length : Int) = 2 from rfl]
  go_wp2_with fail
  go_ret
  exact ⟨rfl, ((Below.trans hx1 hb2).trans hb3).trans hb4⟩


set_option maxRecDepth 100000 in
set_option maxHeartbeats 4000000 in
theorem idsFull_any (a : Int) (h0 : 0 ≤ a) (h1 : a ≤ 255) (A : Option Addr) (n c : Nat) (l : List ByteArray) (w : World) (hn : l.length = n) (hm : n ≤ maxLen) (hr : Rd w A (txs l)) (hs : ∀ s ∈ l, s.size ≤ maxLen) :
    Calls Try.prog 3 #[.int .u8 a, .slice A n c] w fun e w' => e = .returned (.bool true) ∧ Ext w w' := by
  unfold maxLen at hm
  have Hn := Lib.hid hn
  clear hn
  have ha0 : 0 ≤ a % 6 := by omega
  have ha1 : a % 6 ≤ 5 := by omega
  obtain ⟨lim, Hlim⟩ : ∃ lim : Nat, Hid ((a % 6) = (lim : Int)) := ⟨(a % 6).toNat, by show _ = _; omega⟩
  go_enter Try.func3, Try.ntmps3
  go_wp2_with fail
  refine (New_any (a % 6) ha0 (by omega) w.heap.size w (Nat.le_refl _)).mono ?_
  rintro e w1 ⟨g, m, rfl, hT1, hx1⟩
  have el : (a % 6).toNat = lim := by have := Hlim.out; omega
  rw [el] at hT1
  clear el
  go_wp2_with fail
  go_loopw [6, 7, 8, 9, 10, 11, 18, 19, 20, 21, 22, 23, 24, 25, 26, 27, 28, 29, 30, 31, 32, 33, 34, 35, 36, 37, 38, 39, 40, 41, 42, 43, 44, 45, 46, 47, 48, 49, 50, 51, 52, 53, 54, 55, 56, 57, 58, 59, 60, 61, 62, 63, 64, 65, 66, 67, 68, 69, 70, 71, 72, 73, 74, 75, 76, 77, 78, 79, 80, 81, 82, 83, 84, 85, 86, 87, 88, 89]
    (fun i v1 v2 v3 v4 v5 v6 v7 v8 v9 v10 v11 v12 v13 v14 v15 v16 v17 v18 v19 v20 v21 v22 v23 v24 v25 v26 v27 v28 v29 v30 v31 v32 v33 v34 v35 v36 v37 v38 v39 v40 v41 v42 v43 v44 v45 v46 v47 v48 v49 v50 v51 v52 v53 v54 v55 v56 v57 v58 v59 v60 v61 v62 v63 v64 v65 v66 v67 v68 v69 v70 v71 v72 v73 v74 v75 v76 v77 wr => ∃ k : Nat, k ≤ n ∧ k ≤ 60 ∧ i = .int .i64 k ∧ ∃ ts vt, ts.length ≤ k ∧ ts.length ≤ lim ∧ Tb w.heap.size wr g lim ts [] vt (.slice none 0 0) m ∧ Ext w wr)
    (fun i v1 v2 v3 v4 v5 v6 v7 v8 v9 v10 v11 v12 v13 v14 v15 v16 v17 v18 v19 v20 v21 v22 v23 v24 v25 v26 v27 v28 v29 v30 v31 v32 v33 v34 v35 v36 v37 v38 v39 v40 v41 v42 v43 v44 v45 v46 v47 v48 v49 v50 v51 v52 v53 v54 v55 v56 v57 v58 v59 v60 v61 v62 v63 v64 v65 v66 v67 v68 v69 v70 v71 v72 v73 v74 v75 v76 v77 wr => 60 - (intOf i).toNat)
  case atStart => exact ⟨0, Nat.zero_le _, Nat.zero_le _, rfl, [], _, Nat.zero_le _, Nat.zero_le _, hT1, hx1⟩
  case round =>
    obtain ⟨k, hk, hk6, rfl, ts, vt, hts, htl, hT, hx⟩ := hrel
    by_cases hlt : k < n ∧ k < 60
    · obtain ⟨hkn, hk60⟩ := hlt
      have hkl : k < l.length := by have := Hn.out; omega
      obtain ⟨b, off, rfl, hc, _⟩ := (hr.ext hx).at_ (k := k) (by rw [txs_length]; exact hkl)
      obtain ⟨s, hsl⟩ : ∃ s, s = l[k] := ⟨_, rfl⟩
      have hss : s.size ≤ maxLen := by rw [hsl]; exact hs _ (List.getElem_mem _)
      replace hc : wr.cell? ⟨b, off + k, none⟩ = some (.string s) := by rw [hc, hsl]; simp [txs]
      clear hsl
      have hsm : ts.length ≤ 1000 := by omega
      have hof := Lib.hid (Of_any s wr hT hss)
      have hmk := Lib.hid (Make_any s wr hT hss hsm hx.size)
      have hcase : (∃ j, idOf ts s = some j) ∨ (idOf ts s = none ∧ lim ≤ ts.length) ∨ (idOf ts s = none ∧ ts.length < lim) := by
        cases hi : idOf ts s with
        | some j => exact .inl ⟨j, rfl⟩
        | none => rcases Nat.lt_or_ge ts.length lim with h | h
                  · exact .inr (.inr ⟨rfl, h⟩)
                  · exact .inr (.inl ⟨rfl, h⟩)
      rcases hcase with ⟨j, hj⟩ | ⟨hj, hl⟩ | ⟨hj, hl⟩
      · have e1 : mkId lim ts s = (j, 0) := by simp [mkId, hj]
        have e2 : mkTs lim ts s = ts := by simp [mkTs, hj]
        rw [e1, e2] at hmk
        rw [hj] at hof
        clear e1 e2 hj
        go_wp2_with fail
        refine (Len_any _ hT).mono ?_
        rintro e w2 ⟨rfl, rfl⟩
        go_wp2_with fail
        refine hof.out.mono ?_
        rintro e w2 ⟨rfl, rfl⟩
        simp only [Option.getD_some, Option.isSome_some]
        go_wp2_with fail
        refine hmk.out.mono ?_
        rintro e w3 ⟨rfl, hb3, vt3, hT3⟩
        have hx3 : Ext w w3 := Below.trans hx hb3
        go_wp2_with fail
        refine (Len_any _ hT3).mono ?_
        rintro e w4 ⟨rfl, rfl⟩
        go_wp2_with fail
        go_roundw
        case rel => exact ⟨k + 1, by omega, by omega, by go_num, ts, vt3, by omega, htl, hT3, hx3⟩
        case measure => simp [intOf]; omega
      · have e1 : mkId lim ts s = (0, 8) := by simp [mkId, hj, hl]
        have e2 : mkTs lim ts s = ts := by simp [mkTs, hj, hl]
        rw [e1, e2] at hmk
        rw [hj] at hof
        clear e1 e2 hj
        have hla : ¬ (ts.length : Int) < a % 6 := by have := Hlim.out; omega
        go_wp2_with fail
        refine (Len_any _ hT).mono ?_
        rintro e w2 ⟨rfl, rfl⟩
        go_wp2_with fail
        refine hof.out.mono ?_
        rintro e w2 ⟨rfl, rfl⟩
        simp only [Option.getD_none, Option.isSome_none]
        go_wp2_with fail
        refine hmk.out.mono ?_
        rintro e w3 ⟨rfl, hb3, vt3, hT3⟩
        have hx3 : Ext w w3 := Below.trans hx hb3
        go_wp2_with fail
        refine (Len_any _ hT3).mono ?_
        rintro e w4 ⟨rfl, rfl⟩
        go_wp2_with fail
        go_roundw
        case rel => exact ⟨k + 1, by omega, by omega, by go_num, ts, vt3, by omega, htl, hT3, hx3⟩
        case measure => simp [intOf]; omega
      · have hl' : ¬ lim ≤ ts.length := by omega
        have e1 : mkId lim ts s = (ts.length + 1, 0) := by simp [mkId, hj, hl']
        have e2 : mkTs lim ts s = ts ++ [s] := by simp [mkTs, hj, hl']
        rw [e1, e2] at hmk
        rw [hj] at hof
        clear e1 e2 hj
        have hla : (ts.length : Int) < a % 6 := by have := Hlim.out; omega
        have hlen : Hid ((ts ++ [s]).length = ts.length + 1) := by show _ = _; simp
        go_wp2_with fail
        refine (Len_any _ hT).mono ?_
        rintro e w2 ⟨rfl, rfl⟩
        go_wp2_with fail
        refine hof.out.mono ?_
        rintro e w2 ⟨rfl, rfl⟩
        simp only [Option.getD_none, Option.isSome_none]
        go_wp2_with fail
        refine hmk.out.mono ?_
        rintro e w3 ⟨rfl, hb3, vt3, hT3⟩
        have hx3 : Ext w w3 := Below.trans hx hb3
        generalize hq : ts ++ [s] = ts' at *
        have Hq := Lib.hid hq
        clear hq
        go_wp2_with fail
        refine (Len_any _ hT3).mono ?_
        rintro e w4 ⟨rfl, rfl⟩
        have hne : ((ts'.length : Int) == (ts.length : Int)) = false := by have := hlen.out; simp; omega
        go_wp2_with fail
        go_roundw
        case rel => exact ⟨k + 1, by omega, by omega, by go_num, ts', vt3, by have := hlen.out; omega, by have := hlen.out; omega, hT3, hx3⟩
        case measure => simp [intOf]; omega
    · have hla : (ts.length : Int) ≤ a % 6 := by have := Hlim.out; omega
      by_cases hkn : k < n
      · have hk60 : ¬ k < 60 := fun h => hlt ⟨hkn, h⟩
        go_wp2_with fail
        refine (Len_any _ hT).mono ?_
        rintro e w2 ⟨rfl, rfl⟩
        go_wp2_with fail
        refine (lives_any _).mono ?_
        rintro e w3 ⟨rfl, hx3⟩
        go_wp2_with fail
        go_ret
        exact ⟨rfl, hx.trans hx3⟩
      · go_wp2_with fail
        refine (Len_any _ hT).mono ?_
        rintro e w2 ⟨rfl, rfl⟩
        go_wp2_with fail
        refine (lives_any _).mono ?_
        rintro e w3 ⟨rfl, hx3⟩
        go_wp2_with fail
        go_ret
        exact ⟨rfl, hx.trans hx3⟩
end Go.Proofs.Ytalbjbcomamomaa.IdsW
