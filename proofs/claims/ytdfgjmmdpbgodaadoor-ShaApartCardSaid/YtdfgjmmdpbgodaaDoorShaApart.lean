/- sha: two hashes that are written in turn, walked. -/
import Derived.Test.YtdfgjmmdpbgodaaDoorShaParts
namespace Go.Proofs.YtdfgjmmdpbgodaaDoor.ShaW
open Go.ChangeShapes Go.WideShapes Go.ChangeAt Go.RowKit
open ShaP Base
set_option linter.unusedVariables false
set_option linter.unusedSimpArgs false

/-- two hashes' blocks are apart -/
structure Sepa (G1 G2 : Nat) (b1 b2 : Option Nat) : Prop where
  one : 1 < G1
  two : G1 < G2
  f1 : ∀ j, b1 = some j → G1 < j ∧ j ≠ G2
  f2 : ∀ j, b2 = some j → G1 < j ∧ j ≠ G2
  ap : ∀ j, b1 = some j → b2 ≠ some j
theorem Sepa.n1 {G1 G2 : Nat} {b1 b2 : Option Nat} (h : Sepa G1 G2 b1 b2) : ¬ (G2 = G1 ∨ b1 = some G2) := fun e => by
  have := h.two
  rcases e with e | e
  · omega
  · exact (h.f1 G2 e).2 rfl
theorem Sepa.m1 {G1 G2 : Nat} {b1 b2 : Option Nat} (h : Sepa G1 G2 b1 b2) : ∀ k, b2 = some k → ¬ (k = G1 ∨ b1 = some k) := fun k hk e => by
  rcases e with e | e
  · have := (h.f2 k hk).1; omega
  · exact h.ap k e hk
theorem Sepa.n2 {G1 G2 : Nat} {b1 b2 : Option Nat} (h : Sepa G1 G2 b1 b2) : ¬ (G1 = G2 ∨ b2 = some G1) := fun e => by
  have := h.two
  rcases e with e | e
  · omega
  · have := (h.f2 G1 e).1; omega
theorem Sepa.m2 {G1 G2 : Nat} {b1 b2 : Option Nat} (h : Sepa G1 G2 b1 b2) : ∀ k, b1 = some k → ¬ (k = G2 ∨ b2 = some k) := fun k hk e => by
  rcases e with e | e
  · exact (h.f1 k hk).2 e
  · exact h.ap k hk e
theorem HInv.blt {w : World} {g : Nat} {lb : Option Nat} {m : List UInt8} (h : HInv w g lb m) : ∀ k, lb = some k → k < w.heap.size := by
  obtain ⟨v, _, _, _, _, h⟩ := h; exact h
theorem Sepa.step1 {G1 G2 B : Nat} {b1 b2 bn : Option Nat} (h : Sepa G1 G2 b1 b2) (h2 : ∀ j, b2 = some j → j < B) (hB : G2 < B) (hn : bn = b1 ∨ ∃ k, bn = some k ∧ B ≤ k) : Sepa G1 G2 bn b2 := by
  rcases hn with rfl | ⟨k, rfl, hk⟩
  · exact h
  · have := h.two
    exact ⟨h.one, h.two, fun j hj => by injection hj with hj; omega, h.f2, fun j hj e => by injection hj with hj; have := h2 j e; omega⟩
theorem Sepa.step2 {G1 G2 B : Nat} {b1 b2 bn : Option Nat} (h : Sepa G1 G2 b1 b2) (h1 : ∀ j, b1 = some j → j < B) (hB : G2 < B) (hn : bn = b2 ∨ ∃ k, bn = some k ∧ B ≤ k) : Sepa G1 G2 b1 bn := by
  rcases hn with rfl | ⟨k, rfl, hk⟩
  · exact h
  · have := h.two
    exact ⟨h.one, h.two, h.f1, fun j hj => by injection hj with hj; omega, fun j hj e => by injection e with e; have := h1 j hj; omega⟩

set_option maxHeartbeats 10000000 in
theorem shaApart_any (w : World) (ht : Tabs w) (Aa Ab : Option Addr) (ca cb : Nat) (la lb : List UInt8) (na nb : Nat) (hla : la.length = na) (hlb : lb.length = nb)
    (hra : Rb w Aa la) (hrb : Rb w Ab lb) (hAa : Aa = none → ca = 0) (hAb : Ab = none → cb = 0) (hca : na ≤ ca) (hcb : nb ≤ cb) (hsa : na ≤ 140737488351232) (hsb : nb ≤ 140737488351232) :
    Calls Tryd.prog 5 #[.slice Aa na ca, .slice Ab nb cb] w fun e w' => e = .returned (.bool true) ∧ Ext w w' := by
  have Hla := (⟨hla⟩ : Held _)
  have Hlb := (⟨hlb⟩ : Held _)
  have Hsa := Lib.hid hsa
  have Hsb := Lib.hid hsb
  have HAa := Lib.hid hAa
  have HAb := Lib.hid hAb
  clear hla hlb hsa hsb hAa hAb
  obtain ⟨G1, hG1⟩ : ∃ x, Held (w.heap.size = x) := ⟨_, ⟨rfl⟩⟩
  have hG : 1 < G1 := by rw [← hG1.out]; exact ht.lt
  have hnew := new_any w ht.first
  rw [hG1.out] at hnew
  go_enter Tryd.func5, Tryd.ntmps5
  go_wp2_with fail
  refine hnew.mono ?_
  clear hnew
  rintro e w1 ⟨rfl, hh, hx⟩
  obtain ⟨G2, hG2⟩ : ∃ x, Held (w1.heap.size = x) := ⟨_, ⟨rfl⟩⟩
  have hG12 : G1 < G2 := by rw [← hG2.out]; exact hh.lt
  have hnew := new_any w1 (ht.ext hx).first
  rw [hG2.out] at hnew
  go_wp2_with fail
  refine hnew.mono ?_
  clear hnew
  rintro e w2 ⟨rfl, hh2, hx2⟩
  have hh1 := hh.keep (S := fun _ => False) (Chg.ofExt hx2) (fun x => x) (fun _ _ x => x)
  have hx' := hx.trans hx2
  have hsep0 : Sepa G1 G2 none none := ⟨hG, hG12, (fun _ h => by cases h), (fun _ h => by cases h), (fun _ h => by cases h)⟩
  clear hh hx hx2
  go_wp2_with fail
  go_loopw [7, 16, 17, 18, 19, 20, 21, 22, 23, 24, 26, 27, 28, 29, 30, 31, 32, 33, 34, 35, 36, 37, 38, 39, 40, 41, 42, 43, 44, 45, 46, 47, 48, 49, 50, 51, 52, 53, 54, 55, 56, 57] (fun v7 v16 v17 v18 v19 v20 v21 v22 v23 v24 v26 v27 v28 v29 v30 v31 v32 v33 v34 v35 v36 v37 v38 v39 v40 v41 v42 v43 v44 v45 v46 v47 v48 v49 v50 v51 v52 v53 v54 v55 v56 v57 wv => ∃ (p : Nat) (b1 b2 : Option Nat), v7 = .int .i64 p ∧ p ≤ na + nb + 7 ∧ HInv wv G1 b1 (la.take p) ∧ HInv wv G2 b2 (lb.take p) ∧ Sepa G1 G2 b1 b2 ∧ Ext w wv) (fun v7 _ _ _ _ _ _ _ _ _ _ _ _ _ _ _ _ _ _ _ _ _ _ _ _ _ _ _ _ _ _ _ _ _ _ _ _ _ _ _ _ _ _ => (na + nb + 14) - (intOf v7).toNat)
  case atStart => exact ⟨0, none, none, rfl, Nat.zero_le _, hh1, hh2, hsep0, hx'⟩
  case round =>
    clear hh1 hh2 hsep0 hx'
    obtain ⟨p, b1, b2, rfl, hp, h1, h2, hsep, hxwr⟩ := hrel
    obtain ⟨p7, hp7e⟩ : ∃ x : Nat, Held (p + 7 = x) := ⟨_, ⟨rfl⟩⟩
    have hp7 : wrap64 ((p : Int) + 7) = (p7 : Int) := by have := Hsa.out; have := Hsb.out; have := hp7e.out; unfold wrap64; omega
    by_cases hpa : p < na
    · have hpa' : (p : Int) < na := by omega
      obtain ⟨ea, hea⟩ : ∃ x, Held (min p7 na = x) := ⟨_, ⟨rfl⟩⟩
      by_cases hpb : p < nb
      · have hpb' : (p : Int) < nb := by omega
        obtain ⟨eb, heb⟩ : ∃ x, Held (min p7 nb = x) := ⟨_, ⟨rfl⟩⟩
        have hlna : ((la.take ea).drop p).length = ea - p := by rw [List.length_drop, List.length_take, Hla.out]; have := hea.out; omega
        have hpea : p ≤ ea := by have := hea.out; have := hp7e.out; omega
        have hena : ea ≤ na := by have := hea.out; omega
        have hma : min (p7 : Int) (na : Int) = (ea : Int) := by have := hea.out; omega
        go_wp2_with fail
        try rw [hp7]
        refine (least_any p7 na wr).mono ?_
        rintro e wl ⟨rfl, hwl⟩
        have hwl := hwl.symm
        subst hwl
        rw [hma]
        go_wp2_with (refine wpList_cut rfl 22 (.tmp 33) (some (.tmp 34)) (some (.tmp 39)) rfl _ _ _ _ rfl rfl rfl (run_cutAt Tryd.underlying22 (by kernel_rfl) _ Aa na ca p ea _ _ (.inl rfl) (.inl rfl) hpea (by omega) (fun h => by cases h)) ?_)
        have hrp : Rb wr (cutA Aa ca p) ((la.take ea).drop p) := Rb.cut (hra.ext hxwr) hpea (by omega)
        have hown := own_any (cutA Aa ca p) (ca - p) ((la.take ea).drop p) wr (by have := Hsa.out; rw [hlna]; omega) (cutA_none HAa.out) hrp
        have htm : la.take p ++ (la.take ea).drop p = la.take p7 := by
          rw [take_more la p ea hpea]
          have h1 := hea.out
          rcases Nat.le_total p7 na with h | h
          · rw [show ea = p7 by omega]
          · rw [List.take_of_length_le (by rw [Hla.out]; omega), List.take_of_length_le (by rw [Hla.out]; omega)]
        obtain ⟨PPa, hPPa⟩ : ∃ x, Held ((la.take ea).drop p = x) := ⟨_, ⟨rfl⟩⟩
        rw [hPPa.out] at hlna hown htm
        rw [hlna] at hown
        refine hown.mono ?_
        clear hown
        rintro e vw3 ⟨A', c', rfl, ho, hA', hxo⟩
        go_wp2_with fail
        obtain ⟨A'', c'', e, hrd, _, _, hAn⟩ := ho.rd
        injection e with e1 e2 e3
        subst e1; subst e3
        have hGs := h1.lt
        have h1' := h1.keep (S := fun _ => False) (Chg.ofExt hxo) (fun x => x) (fun _ _ x => x)
        have h2' := h2.keep (S := fun _ => False) (Chg.ofExt hxo) (fun x => x) (fun _ _ x => x)
        have hwr := write_any vw3 G1 b1 (la.take p) PPa A' c' (ht.ext (hxwr.trans hxo)).roots h1' hrd hAn (fun a ha e => by have := hA' a ha; omega) (by have := Hsa.out; rw [hlna]; omega) (by have := hsep.one; have := hsep.two; omega) (fun e => by have := (hsep.f1 1 e).1; have := hsep.one; omega)
        rw [hlna, htm] at hwr
        refine hwr.mono ?_
        clear hwr
        rintro e w3 ⟨rfl, bn, hn1, hbn, hcn⟩
        have hxw3 : Ext w w3 := (hxwr.trans hxo).chg hcn (fun i hi e => by have := hsep.two; have := hG1.out; rcases e with e | e; omega; have := (hsep.f1 i e).1; omega)
        have hn2 := h2'.keep hcn hsep.n1 hsep.m1
        have hsepn := hsep.step1 h2'.blt (by have := h1'.lt; have := h2'.lt; omega) hbn
        clear hbn hcn h1' h2' ho hrd hAn hA' e2 hrp hxo hsep h1 h2 hGs htm
        have h1 := hn1
        have h2 := hn2
        have hsep := hsepn
        have hlnb : ((lb.take eb).drop p).length = eb - p := by rw [List.length_drop, List.length_take, Hlb.out]; have := heb.out; omega
        have hpeb : p ≤ eb := by have := heb.out; have := hp7e.out; omega
        have henb : eb ≤ nb := by have := heb.out; omega
        have hmb : min (p7 : Int) (nb : Int) = (eb : Int) := by have := heb.out; omega
        go_wp2_with fail
        try rw [hp7]
        refine (least_any p7 nb w3).mono ?_
        rintro e wl ⟨rfl, hwl⟩
        have hwl := hwl.symm
        subst hwl
        rw [hmb]
        go_wp2_with (refine wpList_cut rfl 22 (.tmp 48) (some (.tmp 49)) (some (.tmp 54)) rfl _ _ _ _ rfl rfl rfl (run_cutAt Tryd.underlying22 (by kernel_rfl) _ Ab nb cb p eb _ _ (.inl rfl) (.inl rfl) hpeb (by omega) (fun h => by cases h)) ?_)
        have hrp : Rb w3 (cutA Ab cb p) ((lb.take eb).drop p) := Rb.cut (hrb.ext hxw3) hpeb (by omega)
        have hown := own_any (cutA Ab cb p) (cb - p) ((lb.take eb).drop p) w3 (by have := Hsb.out; rw [hlnb]; omega) (cutA_none HAb.out) hrp
        have htm : lb.take p ++ (lb.take eb).drop p = lb.take p7 := by
          rw [take_more lb p eb hpeb]
          have h1 := heb.out
          rcases Nat.le_total p7 nb with h | h
          · rw [show eb = p7 by omega]
          · rw [List.take_of_length_le (by rw [Hlb.out]; omega), List.take_of_length_le (by rw [Hlb.out]; omega)]
        obtain ⟨PPb, hPPb⟩ : ∃ x, Held ((lb.take eb).drop p = x) := ⟨_, ⟨rfl⟩⟩
        rw [hPPb.out] at hlnb hown htm
        rw [hlnb] at hown
        refine hown.mono ?_
        clear hown
        rintro e vw4 ⟨A', c', rfl, ho, hA', hxo⟩
        go_wp2_with fail
        obtain ⟨A'', c'', e, hrd, _, _, hAn⟩ := ho.rd
        injection e with e1 e2 e3
        subst e1; subst e3
        have hGs := h2.lt
        have h1' := h1.keep (S := fun _ => False) (Chg.ofExt hxo) (fun x => x) (fun _ _ x => x)
        have h2' := h2.keep (S := fun _ => False) (Chg.ofExt hxo) (fun x => x) (fun _ _ x => x)
        have hwr := write_any vw4 G2 b2 (lb.take p) PPb A' c' (ht.ext (hxw3.trans hxo)).roots h2' hrd hAn (fun a ha e => by have := hA' a ha; omega) (by have := Hsb.out; rw [hlnb]; omega) (by have := hsep.one; have := hsep.two; omega) (fun e => by have := (hsep.f2 1 e).1; have := hsep.one; omega)
        rw [hlnb, htm] at hwr
        refine hwr.mono ?_
        clear hwr
        rintro e w4 ⟨rfl, bm, hm2, hbn, hcn⟩
        have hxw4 : Ext w w4 := (hxw3.trans hxo).chg hcn (fun i hi e => by have := hsep.two; have := hG1.out; rcases e with e | e; omega; have := (hsep.f2 i e).1; omega)
        have hm1 := h1'.keep hcn hsep.n2 hsep.m2
        have hsepm := hsep.step2 h1'.blt (by have := h1'.lt; have := h2'.lt; omega) hbn
        clear hbn hcn h1' h2' ho hrd hAn hA' e2 hrp hxo hsep h1 h2 hGs htm
        go_wp2_with fail
        try rw [hp7]
        refine ⟨⟨p7, _, _, rfl, by have := hp7e.out; omega, hm1, hm2, hsepm, hxw4⟩, by have := hp7e.out; simp only [intOf]; omega⟩
      · have hpb' : ¬ (p : Int) < nb := by omega
        have hsb : lb.take p = lb.take p7 := by rw [List.take_of_length_le (by rw [Hlb.out]; omega), List.take_of_length_le (by rw [Hlb.out]; have := hp7e.out; omega)]

        have hlna : ((la.take ea).drop p).length = ea - p := by rw [List.length_drop, List.length_take, Hla.out]; have := hea.out; omega
        have hpea : p ≤ ea := by have := hea.out; have := hp7e.out; omega
        have hena : ea ≤ na := by have := hea.out; omega
        have hma : min (p7 : Int) (na : Int) = (ea : Int) := by have := hea.out; omega
        go_wp2_with fail
        try rw [hp7]
        refine (least_any p7 na wr).mono ?_
        rintro e wl ⟨rfl, hwl⟩
        have hwl := hwl.symm
        subst hwl
        rw [hma]
        go_wp2_with (refine wpList_cut rfl 22 (.tmp 33) (some (.tmp 34)) (some (.tmp 39)) rfl _ _ _ _ rfl rfl rfl (run_cutAt Tryd.underlying22 (by kernel_rfl) _ Aa na ca p ea _ _ (.inl rfl) (.inl rfl) hpea (by omega) (fun h => by cases h)) ?_)
        have hrp : Rb wr (cutA Aa ca p) ((la.take ea).drop p) := Rb.cut (hra.ext hxwr) hpea (by omega)
        have hown := own_any (cutA Aa ca p) (ca - p) ((la.take ea).drop p) wr (by have := Hsa.out; rw [hlna]; omega) (cutA_none HAa.out) hrp
        have htm : la.take p ++ (la.take ea).drop p = la.take p7 := by
          rw [take_more la p ea hpea]
          have h1 := hea.out
          rcases Nat.le_total p7 na with h | h
          · rw [show ea = p7 by omega]
          · rw [List.take_of_length_le (by rw [Hla.out]; omega), List.take_of_length_le (by rw [Hla.out]; omega)]
        obtain ⟨PPa, hPPa⟩ : ∃ x, Held ((la.take ea).drop p = x) := ⟨_, ⟨rfl⟩⟩
        rw [hPPa.out] at hlna hown htm
        rw [hlna] at hown
        refine hown.mono ?_
        clear hown
        rintro e vw3 ⟨A', c', rfl, ho, hA', hxo⟩
        go_wp2_with fail
        obtain ⟨A'', c'', e, hrd, _, _, hAn⟩ := ho.rd
        injection e with e1 e2 e3
        subst e1; subst e3
        have hGs := h1.lt
        have h1' := h1.keep (S := fun _ => False) (Chg.ofExt hxo) (fun x => x) (fun _ _ x => x)
        have h2' := h2.keep (S := fun _ => False) (Chg.ofExt hxo) (fun x => x) (fun _ _ x => x)
        have hwr := write_any vw3 G1 b1 (la.take p) PPa A' c' (ht.ext (hxwr.trans hxo)).roots h1' hrd hAn (fun a ha e => by have := hA' a ha; omega) (by have := Hsa.out; rw [hlna]; omega) (by have := hsep.one; have := hsep.two; omega) (fun e => by have := (hsep.f1 1 e).1; have := hsep.one; omega)
        rw [hlna, htm] at hwr
        refine hwr.mono ?_
        clear hwr
        rintro e w3 ⟨rfl, bn, hn1, hbn, hcn⟩
        have hxw3 : Ext w w3 := (hxwr.trans hxo).chg hcn (fun i hi e => by have := hsep.two; have := hG1.out; rcases e with e | e; omega; have := (hsep.f1 i e).1; omega)
        have hn2 := h2'.keep hcn hsep.n1 hsep.m1
        have hsepn := hsep.step1 h2'.blt (by have := h1'.lt; have := h2'.lt; omega) hbn
        clear hbn hcn h1' h2' ho hrd hAn hA' e2 hrp hxo hsep h1 h2 hGs htm

        rw [hsb] at hn2

        go_wp2_with fail
        try rw [hp7]
        refine ⟨⟨p7, _, _, rfl, by have := hp7e.out; omega, hn1, hn2, hsepn, hxw3⟩, by have := hp7e.out; simp only [intOf]; omega⟩
    · have hpa' : ¬ (p : Int) < na := by omega
      by_cases hpb : p < nb
      · have hpb' : (p : Int) < nb := by omega
        obtain ⟨eb, heb⟩ : ∃ x, Held (min p7 nb = x) := ⟨_, ⟨rfl⟩⟩

        have hsa : la.take p = la.take p7 := by rw [List.take_of_length_le (by rw [Hla.out]; omega), List.take_of_length_le (by rw [Hla.out]; have := hp7e.out; omega)]

        have hlnb : ((lb.take eb).drop p).length = eb - p := by rw [List.length_drop, List.length_take, Hlb.out]; have := heb.out; omega
        have hpeb : p ≤ eb := by have := heb.out; have := hp7e.out; omega
        have henb : eb ≤ nb := by have := heb.out; omega
        have hmb : min (p7 : Int) (nb : Int) = (eb : Int) := by have := heb.out; omega
        go_wp2_with fail
        try rw [hp7]
        refine (least_any p7 nb wr).mono ?_
        rintro e wl ⟨rfl, hwl⟩
        have hwl := hwl.symm
        subst hwl
        rw [hmb]
        go_wp2_with (refine wpList_cut rfl 22 (.tmp 48) (some (.tmp 49)) (some (.tmp 54)) rfl _ _ _ _ rfl rfl rfl (run_cutAt Tryd.underlying22 (by kernel_rfl) _ Ab nb cb p eb _ _ (.inl rfl) (.inl rfl) hpeb (by omega) (fun h => by cases h)) ?_)
        have hrp : Rb wr (cutA Ab cb p) ((lb.take eb).drop p) := Rb.cut (hrb.ext hxwr) hpeb (by omega)
        have hown := own_any (cutA Ab cb p) (cb - p) ((lb.take eb).drop p) wr (by have := Hsb.out; rw [hlnb]; omega) (cutA_none HAb.out) hrp
        have htm : lb.take p ++ (lb.take eb).drop p = lb.take p7 := by
          rw [take_more lb p eb hpeb]
          have h1 := heb.out
          rcases Nat.le_total p7 nb with h | h
          · rw [show eb = p7 by omega]
          · rw [List.take_of_length_le (by rw [Hlb.out]; omega), List.take_of_length_le (by rw [Hlb.out]; omega)]
        obtain ⟨PPb, hPPb⟩ : ∃ x, Held ((lb.take eb).drop p = x) := ⟨_, ⟨rfl⟩⟩
        rw [hPPb.out] at hlnb hown htm
        rw [hlnb] at hown
        refine hown.mono ?_
        clear hown
        rintro e vw3 ⟨A', c', rfl, ho, hA', hxo⟩
        go_wp2_with fail
        obtain ⟨A'', c'', e, hrd, _, _, hAn⟩ := ho.rd
        injection e with e1 e2 e3
        subst e1; subst e3
        have hGs := h2.lt
        have h1' := h1.keep (S := fun _ => False) (Chg.ofExt hxo) (fun x => x) (fun _ _ x => x)
        have h2' := h2.keep (S := fun _ => False) (Chg.ofExt hxo) (fun x => x) (fun _ _ x => x)
        have hwr := write_any vw3 G2 b2 (lb.take p) PPb A' c' (ht.ext (hxwr.trans hxo)).roots h2' hrd hAn (fun a ha e => by have := hA' a ha; omega) (by have := Hsb.out; rw [hlnb]; omega) (by have := hsep.one; have := hsep.two; omega) (fun e => by have := (hsep.f2 1 e).1; have := hsep.one; omega)
        rw [hlnb, htm] at hwr
        refine hwr.mono ?_
        clear hwr
        rintro e w3 ⟨rfl, bn, hn2, hbn, hcn⟩
        have hxw3 : Ext w w3 := (hxwr.trans hxo).chg hcn (fun i hi e => by have := hsep.two; have := hG1.out; rcases e with e | e; omega; have := (hsep.f2 i e).1; omega)
        have hn1 := h1'.keep hcn hsep.n2 hsep.m2
        have hsepn := hsep.step2 h1'.blt (by have := h1'.lt; have := h2'.lt; omega) hbn
        clear hbn hcn h1' h2' ho hrd hAn hA' e2 hrp hxo hsep h1 h2 hGs htm

        rw [hsa] at hn1

        go_wp2_with fail
        try rw [hp7]
        refine ⟨⟨p7, _, _, rfl, by have := hp7e.out; omega, hn1, hn2, hsepn, hxw3⟩, by have := hp7e.out; simp only [intOf]; omega⟩
      · have hpb' : ¬ (p : Int) < nb := by omega
        rw [List.take_of_length_le (by rw [Hla.out]; omega)] at h1
        rw [List.take_of_length_le (by rw [Hlb.out]; omega)] at h2
        obtain ⟨SA, hSA⟩ : ∃ x, Held (sha la = x) := ⟨_, ⟨rfl⟩⟩
        obtain ⟨SB, hSB⟩ : ∃ x, Held (sha lb = x) := ⟨_, ⟨rfl⟩⟩
        have hSal : SA.length = 32 := by rw [← hSA.out]; exact sha_length _
        have hSbl : SB.length = 32 := by rw [← hSB.out]; exact sha_length _
        have hEqA : ∀ w, (Op.equalIn 10000 25 (.agg (u8s SA).toArray) (.agg (u8s SA).toArray)).run Tryd.prog w = .ok true w := fun w => by rw [eq_sum SA SA hSal hSal]; simp
        have hEqB : ∀ w, (Op.equalIn 10000 25 (.agg (u8s SB).toArray) (.agg (u8s SB).toArray)).run Tryd.prog w = .ok true w := fun w => by rw [eq_sum SB SB hSbl hSbl]; simp

        have hsum := sum_any wr G1 b1 la (ht.ext hxwr).roots h1 (ht.ext hxwr).lt
        rw [hSA.out] at hsum
        go_wp2_with fail
        refine hsum.mono ?_
        clear hsum
        rintro e w3 ⟨rfl, hy⟩
        have hxw3 := hxwr.trans hy

        have h2 := h2.keep (S := fun _ => False) (Chg.ofExt hy) (fun x => x) (fun _ _ x => x)

        have hown := own_any Aa ca la w3 (by have := Hsa.out; rw [Hla.out]; omega) HAa.out (hra.ext hxw3)
        rw [Hla.out] at hown
        go_wp2_with fail
        refine hown.mono ?_
        clear hown
        rintro e w4 ⟨A5, c5, rfl, ho, hA5, hy⟩
        have hxw4 := hxw3.trans hy
        obtain ⟨A'', c'', e, hrd5, _, _, hAn5⟩ := ho.rd
        injection e with e1 e2 e3
        subst e1; subst e3
        clear e2
        have hst := sumTop_any w4 A5 c5 la (ht.ext hxw4) hrd5 hAn5 (fun a ha => (hA5 a ha).2) (by have := Hsa.out; rw [Hla.out]; omega)
        rw [Hla.out, hSA.out] at hst
        go_wp2_with fail
        refine hst.mono ?_
        clear hst
        rintro e w5 ⟨rfl, hz⟩
        have hxw5 := hxw4.trans hz
        have h2 := h2.keep (S := fun _ => False) (Chg.ofExt (hy.trans hz)) (fun x => x) (fun _ _ x => x)

        have hsum := sum_any w5 G2 b2 lb (ht.ext hxw5).roots h2 (ht.ext hxw5).lt
        rw [hSB.out] at hsum
        go_wp2_with fail
        refine hsum.mono ?_
        clear hsum
        rintro e w6 ⟨rfl, hy⟩
        have hxw6 := hxw5.trans hy
        clear hy

        have hown := own_any Ab cb lb w6 (by have := Hsb.out; rw [Hlb.out]; omega) HAb.out (hrb.ext hxw6)
        rw [Hlb.out] at hown
        go_wp2_with fail
        refine hown.mono ?_
        clear hown
        rintro e w7 ⟨A5, c5, rfl, ho, hA5, hy⟩
        have hxw7 := hxw6.trans hy
        obtain ⟨A'', c'', e, hrd5, _, _, hAn5⟩ := ho.rd
        injection e with e1 e2 e3
        subst e1; subst e3
        clear e2
        have hst := sumTop_any w7 A5 c5 lb (ht.ext hxw7) hrd5 hAn5 (fun a ha => (hA5 a ha).2) (by have := Hsb.out; rw [Hlb.out]; omega)
        rw [Hlb.out, hSB.out] at hst
        go_wp2_with fail
        refine hst.mono ?_
        clear hst
        rintro e w8 ⟨rfl, hz⟩
        have hxw8 := hxw7.trans hz
        clear ho hrd5 hAn5 hA5 hy hz

        go_wp2_with fail
        refine (lives_any w8 (ht.ext hxw8)).mono ?_
        rintro e w9 ⟨rfl, hx9⟩
        go_wp2_with fail
        go_ret
        exact ⟨rfl, hxw8.trans hx9⟩
end Go.Proofs.YtdfgjmmdpbgodaaDoor.ShaW
