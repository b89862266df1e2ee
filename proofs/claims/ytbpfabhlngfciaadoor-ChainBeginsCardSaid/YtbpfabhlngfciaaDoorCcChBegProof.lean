/- suffragan/suffraganlaw17.ChainBegins: the given statement, out of the contract of its walk. No condition. -/
import Derived.Test.YtbpfabhlngfciaaDoorCcP
namespace Go.Proofs.YtbpfabhlngfciaaDoor.Ch
open Go.ChangeShapes Go.WideShapes Go.ChangeAt Go.RowKit
open Base Pf Cn Pr Lx Mi
set_option linter.unusedVariables false
set_option linter.unusedSimpArgs false

def entsZ (l : List Et) : List Value := l.flatMap entC
theorem entsZ_at (l : List Et) (i : Nat) (x : Et) (h : l[i]? = some x) (j : Nat) (hj : j < 4) : (entsZ l)[i * 4 + j]? = (entC x)[j]? := Args.flatMap_at (s := 4) (fun _ => rfl) l i x h j hj
theorem entsZ_length (l : List Et) : (entsZ l).length = l.length * 4 := Args.flatMap_len (s := 4) (fun _ => rfl) l
structure Com (a b : List Et) (n : Nat) : Prop where
  la : n ≤ a.length
  lb : n ≤ b.length
  eq : Pr.EqAt a b n
  ne : ∀ x y, a[n]? = some x → b[n]? = some y → x ≠ y
def Pre (a b : List Et) : Prop := b.length ≤ a.length ∧ Pr.EqAt a b b.length
theorem Com.pre {a b : List Et} {n : Nat} (h : Com a b n) : n = b.length ↔ Pre a b := by
  constructor
  · rintro rfl
    exact ⟨h.la, h.eq⟩
  · rintro ⟨h1, h2⟩
    have := h.lb
    have := h.la
    rcases Nat.lt_or_ge n b.length with hlt | hge
    · have e := h2 n hlt
      exact absurd rfl (h.ne a[n] a[n] (List.getElem?_eq_getElem (by omega)) (by rw [← e]; exact List.getElem?_eq_getElem (by omega)))
    · omega
theorem Com.take {a b : List Et} {n : Nat} (h : Com a b n) : Pre a (b.take n) := by
  have := h.lb
  have := h.la
  refine ⟨by rw [List.length_take]; omega, fun j hj => ?_⟩
  rw [List.length_take] at hj
  rw [List.getElem?_take, if_pos (by omega)]
  exact h.eq j (by omega)
set_option maxRecDepth 100000 in
set_option maxHeartbeats 1000000 in
theorem common_any {B : Nat} {w : World} {v1 v2 : Value} {l1 l2 : List Et} (h1 : Sl B w v1 l1.length (entsZ l1)) (h2 : Sl B w v2 l2.length (entsZ l2)) (hB : B ≤ w.heap.size) :
    Calls Tryd.prog 12 #[v1, v2] w fun e w' => ∃ n : Nat, e = .returned (.int .i64 (n : Int)) ∧ Com l1 l2 n ∧ Ext w w' := by
  obtain ⟨A1, c1, rfl, hn1, hm1, _, hat1⟩ := h1.at_
  obtain ⟨A2, c2, rfl, hn2, hm2, _, hat2⟩ := h2.at_
  unfold maxLen at hm1 hm2
  obtain ⟨n1, hn⟩ : ∃ z, Hid (l1.length = z) := ⟨_, rfl⟩
  obtain ⟨n2, hn2'⟩ : ∃ z, Hid (l2.length = z) := ⟨_, rfl⟩
  rw [hn.out] at hn1 ⊢
  rw [hn2'.out] at hn2 ⊢
  obtain ⟨PO, hPO⟩ : ∃ PO : Ending → World → Prop, Hid ((fun e w' => ∃ n : Nat, e = .returned (.int .i64 (n : Int)) ∧ Com l1 l2 n ∧ Ext w w') = PO) := ⟨_, Lib.hid rfl⟩
  rw [hPO.out]
  have hfin : ∀ (n : Nat) W, Com l1 l2 n → Ext w W → PO (.returned (.int .i64 (n : Int))) W := fun n W h1 h2 => by rw [← hPO.out]; exact ⟨n, rfl, h1, h2⟩
  go_enter Tryd.func12, Tryd.ntmps12
  go_wp2_with fail
  go_loopw [5, 6, 7, 8, 9, 10, 11, 12, 13, 14, 15, 16, 17, 18, 19, 20, 21, 22, 23, 24, 25, 26, 27, 28] (fun v5 v6 v7 v8 v9 v10 v11 v12 v13 v14 v15 v16 v17 v18 v19 v20 v21 v22 v23 v24 v25 v26 v27 v28 wr => ∃ i : Nat, i ≤ n1 ∧ i ≤ n2 ∧ v5 = .int .i64 i ∧ Pr.EqAt l1 l2 i ∧ Ext w wr) (fun v5 _ _ _ _ _ _ _ _ _ _ _ _ _ _ _ _ _ _ _ _ _ _ _ _ => n1 - (intOf v5).toNat)
  case atStart => exact ⟨0, by omega, by omega, rfl, fun j hj => by omega, Ext.refl w⟩
  case round =>
    obtain ⟨i, hi1, hi2, rfl, heq, hx⟩ := hrel
    by_cases hin : i < n1
    · have hin' : (i : Int) < (n1 : Int) := by omega
      have hind : decide ((i : Int) < (n1 : Int)) = true := by simpa using hin
      by_cases hin2 : i < n2
      · have hin2' : (i : Int) < (n2 : Int) := by omega
        have hind2 : decide ((i : Int) < (n2 : Int)) = true := by simpa using hin2
        obtain ⟨x, hx1⟩ : ∃ x, l1[i]? = some x := ⟨_, List.getElem?_eq_getElem (by have := hn.out; omega)⟩
        obtain ⟨y, hx2⟩ : ∃ x, l2[i]? = some x := ⟨_, List.getElem?_eq_getElem (by have := hn2'.out; omega)⟩
        have hz1 := entsZ_at l1 i _ hx1
        have hz2 := entsZ_at l2 i _ hx2
        obtain ⟨b1, o1, rfl, hb1, hc1⟩ := hat1 (i * 4 + 0) (.bool x.pol) (by rw [hz1 0 (by omega)]; rfl)
        obtain ⟨b2, o2, rfl, hb2, hc2⟩ := hat2 (i * 4 + 0) (.bool y.pol) (by rw [hz2 0 (by omega)]; rfl)
        have d10 : ∀ W, Ext wr W → W.cell? ⟨b1, o1 + i * 4, none⟩ = some (.bool x.pol) := fun W hW => by have := hc1 W (Below.mono (hx.trans hW) hB) (i * 4 + 0) _ (by rw [hz1 0 (by omega)]; rfl); simpa [Nat.add_assoc] using this
        have d11 : ∀ W, Ext wr W → W.cell? ⟨b1, o1 + i * 4 + 1, none⟩ = some (.int .i64 x.p) := fun W hW => by have := hc1 W (Below.mono (hx.trans hW) hB) (i * 4 + 1) _ (by rw [hz1 1 (by omega)]; rfl); simpa [Nat.add_assoc] using this
        have d12 : ∀ W, Ext wr W → W.cell? ⟨b1, o1 + i * 4 + 2, none⟩ = some (.string x.s) := fun W hW => by have := hc1 W (Below.mono (hx.trans hW) hB) (i * 4 + 2) _ (by rw [hz1 2 (by omega)]; rfl); simpa [Nat.add_assoc] using this
        have d13 : ∀ W, Ext wr W → W.cell? ⟨b1, o1 + i * 4 + 3, none⟩ = some (.int .u64 (x.id : Int)) := fun W hW => by have := hc1 W (Below.mono (hx.trans hW) hB) (i * 4 + 3) _ (by rw [hz1 3 (by omega)]; rfl); simpa [Nat.add_assoc] using this
        have d20 : ∀ W, Ext wr W → W.cell? ⟨b2, o2 + i * 4, none⟩ = some (.bool y.pol) := fun W hW => by have := hc2 W (Below.mono (hx.trans hW) hB) (i * 4 + 0) _ (by rw [hz2 0 (by omega)]; rfl); simpa [Nat.add_assoc] using this
        have d21 : ∀ W, Ext wr W → W.cell? ⟨b2, o2 + i * 4 + 1, none⟩ = some (.int .i64 y.p) := fun W hW => by have := hc2 W (Below.mono (hx.trans hW) hB) (i * 4 + 1) _ (by rw [hz2 1 (by omega)]; rfl); simpa [Nat.add_assoc] using this
        have d22 : ∀ W, Ext wr W → W.cell? ⟨b2, o2 + i * 4 + 2, none⟩ = some (.string y.s) := fun W hW => by have := hc2 W (Below.mono (hx.trans hW) hB) (i * 4 + 2) _ (by rw [hz2 2 (by omega)]; rfl); simpa [Nat.add_assoc] using this
        have d23 : ∀ W, Ext wr W → W.cell? ⟨b2, o2 + i * 4 + 3, none⟩ = some (.int .u64 (y.id : Int)) := fun W hW => by have := hc2 W (Below.mono (hx.trans hW) hB) (i * 4 + 3) _ (by rw [hz2 3 (by omega)]; rfl); simpa [Nat.add_assoc] using this
        clear hz1 hz2 hc1 hc2 hat1 hat2
        have hcmp := fun W => eql_ent x y W
        by_cases he : x = y
        · have hd : decide (x = y) = true := by simpa using he
          rw [hd] at hcmp
          rw [← he] at hx2
          have hE := heq.next hx1 hx2
          clear hx1 hx2
          obtain ⟨pol, p, s, id⟩ := x
          obtain ⟨pol2, p2, s2, id2⟩ := y
          unfold entV at *
          simp only at *
          go_wp2_with fail
          refine Reg.startE (by kernel_rfl) ?_
          refine Reg.tk 0 ?_; (try simp only [Reg.n1, Reg.n2, Reg.n3, Reg.n4, Reg.n5, Reg.n6, Reg.n7])
          refine Reg.tk 1 ?_; (try simp only [Reg.n1, Reg.n2, Reg.n3, Reg.n4, Reg.n5, Reg.n6, Reg.n7])
          refine Reg.tk 2 ?_; (try simp only [Reg.n1, Reg.n2, Reg.n3, Reg.n4, Reg.n5, Reg.n6, Reg.n7])
          refine Reg.tk 3 ?_; (try simp only [Reg.n1, Reg.n2, Reg.n3, Reg.n4, Reg.n5, Reg.n6, Reg.n7])
          refine Reg.tk 4 ?_; (try simp only [Reg.n1, Reg.n2, Reg.n3, Reg.n4, Reg.n5, Reg.n6, Reg.n7])
          refine Reg.tk 5 ?_; (try simp only [Reg.n1, Reg.n2, Reg.n3, Reg.n4, Reg.n5, Reg.n6, Reg.n7])
          refine Reg.tk 6 ?_; (try simp only [Reg.n1, Reg.n2, Reg.n3, Reg.n4, Reg.n5, Reg.n6, Reg.n7])
          refine Reg.tk 7 ?_; (try simp only [Reg.n1, Reg.n2, Reg.n3, Reg.n4, Reg.n5, Reg.n6, Reg.n7])
          refine Reg.tk 8 ?_; (try simp only [Reg.n1, Reg.n2, Reg.n3, Reg.n4, Reg.n5, Reg.n6, Reg.n7])
          refine Reg.tk 9 ?_; (try simp only [Reg.n1, Reg.n2, Reg.n3, Reg.n4, Reg.n5, Reg.n6, Reg.n7])
          refine Reg.tk 10 ?_; (try simp only [Reg.n1, Reg.n2, Reg.n3, Reg.n4, Reg.n5, Reg.n6, Reg.n7])
          refine Reg.tk 11 ?_; (try simp only [Reg.n1, Reg.n2, Reg.n3, Reg.n4, Reg.n5, Reg.n6, Reg.n7])
          refine Reg.tk 12 ?_; (try simp only [Reg.n1, Reg.n2, Reg.n3, Reg.n4, Reg.n5, Reg.n6, Reg.n7])
          refine Reg.tk 13 ?_; (try simp only [Reg.n1, Reg.n2, Reg.n3, Reg.n4, Reg.n5, Reg.n6, Reg.n7])
          refine Reg.tk 14 ?_; (try simp only [Reg.n1, Reg.n2, Reg.n3, Reg.n4, Reg.n5, Reg.n6, Reg.n7])
          refine Reg.tk 15 ?_; (try simp only [Reg.n1, Reg.n2, Reg.n3, Reg.n4, Reg.n5, Reg.n6, Reg.n7])
          refine Reg.tk 16 ?_; (try simp only [Reg.n1, Reg.n2, Reg.n3, Reg.n4, Reg.n5, Reg.n6, Reg.n7])
          refine Reg.tk 17 ?_; (try simp only [Reg.n1, Reg.n2, Reg.n3, Reg.n4, Reg.n5, Reg.n6, Reg.n7])
          refine Reg.tk 18 ?_; (try simp only [Reg.n1, Reg.n2, Reg.n3, Reg.n4, Reg.n5, Reg.n6, Reg.n7])
          refine Reg.tk 19 ?_; (try simp only [Reg.n1, Reg.n2, Reg.n3, Reg.n4, Reg.n5, Reg.n6, Reg.n7])
          refine Reg.tk 20 ?_; (try simp only [Reg.n1, Reg.n2, Reg.n3, Reg.n4, Reg.n5, Reg.n6, Reg.n7])
          refine Reg.fin (by kernel_rfl) (fun W hW => ?_)
          go_wp2_with fail
          go_roundw
          case rel => exact ⟨i + 1, by omega, by omega, by go_num, hE, hx.trans hW⟩
          case measure => simp [intOf]; omega
        · have hd : decide (x = y) = false := by simpa using he
          rw [hd] at hcmp
          have hC : Com l1 l2 i := ⟨by rw [hn.out]; omega, by rw [hn2'.out]; omega, heq, fun x' y' e1 e2 => by rw [hx1] at e1; rw [hx2] at e2; injection e1 with e1; injection e2 with e2; subst e1; subst e2; exact he⟩
          clear hx1 hx2 he hd
          obtain ⟨pol, p, s, id⟩ := x
          obtain ⟨pol2, p2, s2, id2⟩ := y
          unfold entV at *
          simp only at *
          go_wp2_with fail
          refine Reg.startE (by kernel_rfl) ?_
          refine Reg.tk 0 ?_; (try simp only [Reg.n1, Reg.n2, Reg.n3, Reg.n4, Reg.n5, Reg.n6, Reg.n7])
          refine Reg.tk 1 ?_; (try simp only [Reg.n1, Reg.n2, Reg.n3, Reg.n4, Reg.n5, Reg.n6, Reg.n7])
          refine Reg.tk 2 ?_; (try simp only [Reg.n1, Reg.n2, Reg.n3, Reg.n4, Reg.n5, Reg.n6, Reg.n7])
          refine Reg.tk 3 ?_; (try simp only [Reg.n1, Reg.n2, Reg.n3, Reg.n4, Reg.n5, Reg.n6, Reg.n7])
          refine Reg.tk 4 ?_; (try simp only [Reg.n1, Reg.n2, Reg.n3, Reg.n4, Reg.n5, Reg.n6, Reg.n7])
          refine Reg.tk 5 ?_; (try simp only [Reg.n1, Reg.n2, Reg.n3, Reg.n4, Reg.n5, Reg.n6, Reg.n7])
          refine Reg.tk 6 ?_; (try simp only [Reg.n1, Reg.n2, Reg.n3, Reg.n4, Reg.n5, Reg.n6, Reg.n7])
          refine Reg.tk 7 ?_; (try simp only [Reg.n1, Reg.n2, Reg.n3, Reg.n4, Reg.n5, Reg.n6, Reg.n7])
          refine Reg.tk 8 ?_; (try simp only [Reg.n1, Reg.n2, Reg.n3, Reg.n4, Reg.n5, Reg.n6, Reg.n7])
          refine Reg.tk 9 ?_; (try simp only [Reg.n1, Reg.n2, Reg.n3, Reg.n4, Reg.n5, Reg.n6, Reg.n7])
          refine Reg.tk 10 ?_; (try simp only [Reg.n1, Reg.n2, Reg.n3, Reg.n4, Reg.n5, Reg.n6, Reg.n7])
          refine Reg.tk 11 ?_; (try simp only [Reg.n1, Reg.n2, Reg.n3, Reg.n4, Reg.n5, Reg.n6, Reg.n7])
          refine Reg.tk 12 ?_; (try simp only [Reg.n1, Reg.n2, Reg.n3, Reg.n4, Reg.n5, Reg.n6, Reg.n7])
          refine Reg.tk 13 ?_; (try simp only [Reg.n1, Reg.n2, Reg.n3, Reg.n4, Reg.n5, Reg.n6, Reg.n7])
          refine Reg.tk 14 ?_; (try simp only [Reg.n1, Reg.n2, Reg.n3, Reg.n4, Reg.n5, Reg.n6, Reg.n7])
          refine Reg.tk 15 ?_; (try simp only [Reg.n1, Reg.n2, Reg.n3, Reg.n4, Reg.n5, Reg.n6, Reg.n7])
          refine Reg.tk 16 ?_; (try simp only [Reg.n1, Reg.n2, Reg.n3, Reg.n4, Reg.n5, Reg.n6, Reg.n7])
          refine Reg.tk 17 ?_; (try simp only [Reg.n1, Reg.n2, Reg.n3, Reg.n4, Reg.n5, Reg.n6, Reg.n7])
          refine Reg.tk 18 ?_; (try simp only [Reg.n1, Reg.n2, Reg.n3, Reg.n4, Reg.n5, Reg.n6, Reg.n7])
          refine Reg.tk 19 ?_; (try simp only [Reg.n1, Reg.n2, Reg.n3, Reg.n4, Reg.n5, Reg.n6, Reg.n7])
          refine Reg.tk 20 ?_; (try simp only [Reg.n1, Reg.n2, Reg.n3, Reg.n4, Reg.n5, Reg.n6, Reg.n7])
          refine Reg.fin (by kernel_rfl) (fun W hW => ?_)
          have hp := hfin i _ hC (hx.trans hW)
          go_wp2_with fail
          exact hp
      · have hin2' : ¬ (i : Int) < (n2 : Int) := by omega
        have hind2 : decide ((i : Int) < (n2 : Int)) = false := by simpa using hin2
        have hC : Com l1 l2 i := ⟨by rw [hn.out]; omega, by rw [hn2'.out]; omega, heq, fun x' y' e1 e2 => by rw [List.getElem?_eq_none (by rw [hn2'.out]; omega)] at e2; cases e2⟩
        go_wp2_with fail
        refine Reg.startE (by kernel_rfl) ?_
        refine Reg.tk 0 ?_; (try simp only [Reg.n1, Reg.n2, Reg.n3, Reg.n4, Reg.n5, Reg.n6, Reg.n7])
        refine Reg.tk 1 ?_; (try simp only [Reg.n1, Reg.n2, Reg.n3, Reg.n4, Reg.n5, Reg.n6, Reg.n7])
        refine Reg.tk 2 ?_; (try simp only [Reg.n1, Reg.n2, Reg.n3, Reg.n4, Reg.n5, Reg.n6, Reg.n7])
        refine Reg.tk 3 ?_; (try simp only [Reg.n1, Reg.n2, Reg.n3, Reg.n4, Reg.n5, Reg.n6, Reg.n7])
        refine Reg.tk 4 ?_; (try simp only [Reg.n1, Reg.n2, Reg.n3, Reg.n4, Reg.n5, Reg.n6, Reg.n7])
        refine Reg.tk 5 ?_; (try simp only [Reg.n1, Reg.n2, Reg.n3, Reg.n4, Reg.n5, Reg.n6, Reg.n7])
        refine Reg.tk 6 ?_; (try simp only [Reg.n1, Reg.n2, Reg.n3, Reg.n4, Reg.n5, Reg.n6, Reg.n7])
        refine Reg.tk 7 ?_; (try simp only [Reg.n1, Reg.n2, Reg.n3, Reg.n4, Reg.n5, Reg.n6, Reg.n7])
        refine Reg.tk 8 ?_; (try simp only [Reg.n1, Reg.n2, Reg.n3, Reg.n4, Reg.n5, Reg.n6, Reg.n7])
        refine Reg.tk 9 ?_; (try simp only [Reg.n1, Reg.n2, Reg.n3, Reg.n4, Reg.n5, Reg.n6, Reg.n7])
        refine Reg.tk 10 ?_; (try simp only [Reg.n1, Reg.n2, Reg.n3, Reg.n4, Reg.n5, Reg.n6, Reg.n7])
        refine Reg.sk 11 ?_; (try simp only [Reg.n1, Reg.n2, Reg.n3, Reg.n4, Reg.n5, Reg.n6, Reg.n7])
        refine Reg.sk 12 ?_; (try simp only [Reg.n1, Reg.n2, Reg.n3, Reg.n4, Reg.n5, Reg.n6, Reg.n7])
        refine Reg.sk 13 ?_; (try simp only [Reg.n1, Reg.n2, Reg.n3, Reg.n4, Reg.n5, Reg.n6, Reg.n7])
        refine Reg.sk 14 ?_; (try simp only [Reg.n1, Reg.n2, Reg.n3, Reg.n4, Reg.n5, Reg.n6, Reg.n7])
        refine Reg.sk 15 ?_; (try simp only [Reg.n1, Reg.n2, Reg.n3, Reg.n4, Reg.n5, Reg.n6, Reg.n7])
        refine Reg.sk 16 ?_; (try simp only [Reg.n1, Reg.n2, Reg.n3, Reg.n4, Reg.n5, Reg.n6, Reg.n7])
        refine Reg.sk 17 ?_; (try simp only [Reg.n1, Reg.n2, Reg.n3, Reg.n4, Reg.n5, Reg.n6, Reg.n7])
        refine Reg.sk 18 ?_; (try simp only [Reg.n1, Reg.n2, Reg.n3, Reg.n4, Reg.n5, Reg.n6, Reg.n7])
        refine Reg.sk 19 ?_; (try simp only [Reg.n1, Reg.n2, Reg.n3, Reg.n4, Reg.n5, Reg.n6, Reg.n7])
        refine Reg.tk 20 ?_; (try simp only [Reg.n1, Reg.n2, Reg.n3, Reg.n4, Reg.n5, Reg.n6, Reg.n7])
        refine Reg.fin (by kernel_rfl) (fun W hW => ?_)
        have hp := hfin i _ hC (hx.trans hW)
        go_wp2_with fail
        exact hp
    · have hin' : ¬ (i : Int) < (n1 : Int) := by omega
      have hind : decide ((i : Int) < (n1 : Int)) = false := by simpa using hin
      have hC : Com l1 l2 i := ⟨by rw [hn.out]; omega, by rw [hn2'.out]; omega, heq, fun x' y' e1 e2 => by rw [List.getElem?_eq_none (by rw [hn.out]; omega)] at e1; cases e1⟩
      go_wp2_with fail
      refine Reg.startE (by kernel_rfl) ?_
      refine Reg.tk 0 ?_; (try simp only [Reg.n1, Reg.n2, Reg.n3, Reg.n4, Reg.n5, Reg.n6, Reg.n7])
      refine Reg.tk 1 ?_; (try simp only [Reg.n1, Reg.n2, Reg.n3, Reg.n4, Reg.n5, Reg.n6, Reg.n7])
      refine Reg.tk 2 ?_; (try simp only [Reg.n1, Reg.n2, Reg.n3, Reg.n4, Reg.n5, Reg.n6, Reg.n7])
      refine Reg.tk 3 ?_; (try simp only [Reg.n1, Reg.n2, Reg.n3, Reg.n4, Reg.n5, Reg.n6, Reg.n7])
      refine Reg.tk 4 ?_; (try simp only [Reg.n1, Reg.n2, Reg.n3, Reg.n4, Reg.n5, Reg.n6, Reg.n7])
      refine Reg.sk 5 ?_; (try simp only [Reg.n1, Reg.n2, Reg.n3, Reg.n4, Reg.n5, Reg.n6, Reg.n7])
      refine Reg.sk 6 ?_; (try simp only [Reg.n1, Reg.n2, Reg.n3, Reg.n4, Reg.n5, Reg.n6, Reg.n7])
      refine Reg.sk 7 ?_; (try simp only [Reg.n1, Reg.n2, Reg.n3, Reg.n4, Reg.n5, Reg.n6, Reg.n7])
      refine Reg.sk 8 ?_; (try simp only [Reg.n1, Reg.n2, Reg.n3, Reg.n4, Reg.n5, Reg.n6, Reg.n7])
      refine Reg.tk 9 ?_; (try simp only [Reg.n1, Reg.n2, Reg.n3, Reg.n4, Reg.n5, Reg.n6, Reg.n7])
      refine Reg.tk 10 ?_; (try simp only [Reg.n1, Reg.n2, Reg.n3, Reg.n4, Reg.n5, Reg.n6, Reg.n7])
      refine Reg.sk 11 ?_; (try simp only [Reg.n1, Reg.n2, Reg.n3, Reg.n4, Reg.n5, Reg.n6, Reg.n7])
      refine Reg.sk 12 ?_; (try simp only [Reg.n1, Reg.n2, Reg.n3, Reg.n4, Reg.n5, Reg.n6, Reg.n7])
      refine Reg.sk 13 ?_; (try simp only [Reg.n1, Reg.n2, Reg.n3, Reg.n4, Reg.n5, Reg.n6, Reg.n7])
      refine Reg.sk 14 ?_; (try simp only [Reg.n1, Reg.n2, Reg.n3, Reg.n4, Reg.n5, Reg.n6, Reg.n7])
      refine Reg.sk 15 ?_; (try simp only [Reg.n1, Reg.n2, Reg.n3, Reg.n4, Reg.n5, Reg.n6, Reg.n7])
      refine Reg.sk 16 ?_; (try simp only [Reg.n1, Reg.n2, Reg.n3, Reg.n4, Reg.n5, Reg.n6, Reg.n7])
      refine Reg.sk 17 ?_; (try simp only [Reg.n1, Reg.n2, Reg.n3, Reg.n4, Reg.n5, Reg.n6, Reg.n7])
      refine Reg.sk 18 ?_; (try simp only [Reg.n1, Reg.n2, Reg.n3, Reg.n4, Reg.n5, Reg.n6, Reg.n7])
      refine Reg.sk 19 ?_; (try simp only [Reg.n1, Reg.n2, Reg.n3, Reg.n4, Reg.n5, Reg.n6, Reg.n7])
      refine Reg.tk 20 ?_; (try simp only [Reg.n1, Reg.n2, Reg.n3, Reg.n4, Reg.n5, Reg.n6, Reg.n7])
      refine Reg.fin (by kernel_rfl) (fun W hW => ?_)
      have hp := hfin i _ hC (hx.trans hW)
      go_wp2_with fail
      exact hp
end Go.Proofs.YtbpfabhlngfciaaDoor.Ch
/- chain: which logs begin with which. -/
namespace Go.Proofs.YtbpfabhlngfciaaDoor.Ch
open Go.ChangeShapes Go.WideShapes Go.ChangeAt Go.RowKit
open Base Pf Cn Pr Lx Mi
set_option linter.unusedVariables false
set_option linter.unusedSimpArgs false

set_option maxRecDepth 100000 in
theorem Common_any {B : Nat} {w : World} {v1 v2 : Value} {l1 l2 : List Et} (h1 : Sl B w v1 l1.length (entsZ l1)) (h2 : Sl B w v2 l2.length (entsZ l2)) (hB : B ≤ w.heap.size) :
    Calls Tryd.prog 6 #[v1, v2] w fun e w' => ∃ n : Nat, e = .returned (.int .i64 (n : Int)) ∧ Com l1 l2 n ∧ Ext w w' := by
  have hc := common_any h1 h2 hB
  clear h1 h2
  go_enter Tryd.func6, Tryd.ntmps6
  go_wp2_with fail
  refine hc.mono ?_
  rintro e w1 ⟨n, rfl, hC, hx⟩
  go_wp2_with fail
  go_ret
  exact ⟨n, rfl, hC, hx⟩
set_option maxRecDepth 100000 in
set_option maxHeartbeats 1000000 in
theorem Begins_any {B : Nat} {w : World} {v1 v2 : Value} {l1 l2 : List Et} (h1 : Sl B w v1 l1.length (entsZ l1)) (h2 : Sl B w v2 l2.length (entsZ l2)) (hB : B ≤ w.heap.size) :
    Calls Tryd.prog 8 #[v1, v2] w fun e w' => ∃ R : Bool, e = .returned (.bool R) ∧ (R = true ↔ Pre l1 l2) ∧ Ext w w' := by
  have hc := common_any h1 h2 hB
  obtain ⟨A1, c1, rfl, hn1, hm1, _, hat1⟩ := h1.at_
  obtain ⟨A2, c2, rfl, hn2, hm2, _, hat2⟩ := h2.at_
  unfold maxLen at hm1 hm2
  obtain ⟨n1, hn⟩ : ∃ z, Hid (l1.length = z) := ⟨_, rfl⟩
  obtain ⟨n2, hn2'⟩ : ∃ z, Hid (l2.length = z) := ⟨_, rfl⟩
  rw [hn.out] at hn1 ⊢
  rw [hn2'.out] at hn2 ⊢
  rw [hn.out, hn2'.out] at hc
  clear h1 h2 hat1 hat2
  go_enter Tryd.func8, Tryd.ntmps8
  go_wp2_with fail
  refine hc.mono ?_
  rintro e w1 ⟨n, rfl, hC, hx⟩
  have hp := hC.pre
  rw [hn2'.out] at hp
  obtain ⟨b, hb⟩ : ∃ b, ((n : Int) == (n2 : Int)) = b := ⟨_, rfl⟩
  have hbp : b = true ↔ Pre l1 l2 := by
    rw [← hp, ← hb]
    simp
    try omega
  clear hc hp hn hn2' hC
  go_wp2_with fail
  go_ret
  exact ⟨b, rfl, hbp, hx⟩
set_option maxRecDepth 100000 in
set_option maxHeartbeats 1000000 in
theorem refBegins_any {B : Nat} {w : World} {v1 v2 : Value} {l1 l2 : List Et} (h1 : Sl B w v1 l1.length (entsZ l1)) (h2 : Sl B w v2 l2.length (entsZ l2)) (hB : B ≤ w.heap.size) :
    Calls Tryd.prog 7 #[v1, v2] w fun e w' => ∃ R : Bool, e = .returned (.bool R) ∧ (R = true ↔ Pre l1 l2) ∧ Ext w w' := by
  obtain ⟨A1, c1, rfl, hn1, hm1, _, hat1⟩ := h1.at_
  obtain ⟨A2, c2, rfl, hn2, hm2, _, hat2⟩ := h2.at_
  unfold maxLen at hm1 hm2
  obtain ⟨n1, hn⟩ : ∃ z, Hid (l1.length = z) := ⟨_, rfl⟩
  obtain ⟨n2, hn2'⟩ : ∃ z, Hid (l2.length = z) := ⟨_, rfl⟩
  rw [hn.out] at hn1 ⊢
  rw [hn2'.out] at hn2 ⊢
  obtain ⟨PO, hPO⟩ : ∃ PO : Ending → World → Prop, Hid ((fun e w' => ∃ R : Bool, e = .returned (.bool R) ∧ (R = true ↔ Pre l1 l2) ∧ Ext w w') = PO) := ⟨_, Lib.hid rfl⟩
  rw [hPO.out]
  have hT : ∀ W, Pre l1 l2 → Ext w W → PO (.returned (.bool true)) W := fun W h1 h2 => by rw [← hPO.out]; exact ⟨true, rfl, ⟨fun _ => h1, fun _ => rfl⟩, h2⟩
  have hF : ∀ W, ¬ Pre l1 l2 → Ext w W → PO (.returned (.bool false)) W := fun W h1 h2 => by rw [← hPO.out]; exact ⟨false, rfl, ⟨fun e => (by cases e), fun e => absurd e h1⟩, h2⟩
  by_cases hlen : n1 < n2
  · have hl' : (n1 : Int) < (n2 : Int) := by omega
    have hp := hF w (fun h => by have := h.1; rw [hn.out, hn2'.out] at this; omega) (Ext.refl w)
    clear hat1 hat2
    go_enter Tryd.func7, Tryd.ntmps7
    go_wp2_with fail
    exact hp
  have hl' : ¬ (n1 : Int) < (n2 : Int) := by omega
  go_enter Tryd.func7, Tryd.ntmps7
  go_wp2_with fail
  go_loopw [5, 11, 12, 13, 14, 15, 16, 17, 18, 19, 20, 21, 22, 23, 24, 25] (fun v5 v11 v12 v13 v14 v15 v16 v17 v18 v19 v20 v21 v22 v23 v24 v25 wr => ∃ i : Nat, i ≤ n2 ∧ v5 = .int .i64 i ∧ Pr.EqAt l1 l2 i ∧ Ext w wr) (fun v5 _ _ _ _ _ _ _ _ _ _ _ _ _ _ _ _ => n2 - (intOf v5).toNat)
  case atStart => exact ⟨0, by omega, rfl, fun j hj => by omega, Ext.refl w⟩
  case round =>
    obtain ⟨i, hi2, rfl, heq, hx⟩ := hrel
    by_cases hin : i < n2
    · have hin' : (i : Int) < (n2 : Int) := by omega
      have hin1 : (i : Int) < (n1 : Int) := by omega
      obtain ⟨x, hx1⟩ : ∃ x, l1[i]? = some x := ⟨_, List.getElem?_eq_getElem (by have := hn.out; omega)⟩
      obtain ⟨y, hx2⟩ : ∃ x, l2[i]? = some x := ⟨_, List.getElem?_eq_getElem (by have := hn2'.out; omega)⟩
      have hz1 := entsZ_at l1 i _ hx1
      have hz2 := entsZ_at l2 i _ hx2
      obtain ⟨b1, o1, rfl, hb1, hc1⟩ := hat1 (i * 4 + 0) (.bool x.pol) (by rw [hz1 0 (by omega)]; rfl)
      obtain ⟨b2, o2, rfl, hb2, hc2⟩ := hat2 (i * 4 + 0) (.bool y.pol) (by rw [hz2 0 (by omega)]; rfl)
      have d10 : ∀ W, Ext wr W → W.cell? ⟨b1, o1 + i * 4, none⟩ = some (.bool x.pol) := fun W hW => by have := hc1 W (Below.mono (hx.trans hW) hB) (i * 4 + 0) _ (by rw [hz1 0 (by omega)]; rfl); simpa [Nat.add_assoc] using this
      have d11 : ∀ W, Ext wr W → W.cell? ⟨b1, o1 + i * 4 + 1, none⟩ = some (.int .i64 x.p) := fun W hW => by have := hc1 W (Below.mono (hx.trans hW) hB) (i * 4 + 1) _ (by rw [hz1 1 (by omega)]; rfl); simpa [Nat.add_assoc] using this
      have d12 : ∀ W, Ext wr W → W.cell? ⟨b1, o1 + i * 4 + 2, none⟩ = some (.string x.s) := fun W hW => by have := hc1 W (Below.mono (hx.trans hW) hB) (i * 4 + 2) _ (by rw [hz1 2 (by omega)]; rfl); simpa [Nat.add_assoc] using this
      have d13 : ∀ W, Ext wr W → W.cell? ⟨b1, o1 + i * 4 + 3, none⟩ = some (.int .u64 (x.id : Int)) := fun W hW => by have := hc1 W (Below.mono (hx.trans hW) hB) (i * 4 + 3) _ (by rw [hz1 3 (by omega)]; rfl); simpa [Nat.add_assoc] using this
      have d20 : ∀ W, Ext wr W → W.cell? ⟨b2, o2 + i * 4, none⟩ = some (.bool y.pol) := fun W hW => by have := hc2 W (Below.mono (hx.trans hW) hB) (i * 4 + 0) _ (by rw [hz2 0 (by omega)]; rfl); simpa [Nat.add_assoc] using this
      have d21 : ∀ W, Ext wr W → W.cell? ⟨b2, o2 + i * 4 + 1, none⟩ = some (.int .i64 y.p) := fun W hW => by have := hc2 W (Below.mono (hx.trans hW) hB) (i * 4 + 1) _ (by rw [hz2 1 (by omega)]; rfl); simpa [Nat.add_assoc] using this
      have d22 : ∀ W, Ext wr W → W.cell? ⟨b2, o2 + i * 4 + 2, none⟩ = some (.string y.s) := fun W hW => by have := hc2 W (Below.mono (hx.trans hW) hB) (i * 4 + 2) _ (by rw [hz2 2 (by omega)]; rfl); simpa [Nat.add_assoc] using this
      have d23 : ∀ W, Ext wr W → W.cell? ⟨b2, o2 + i * 4 + 3, none⟩ = some (.int .u64 (y.id : Int)) := fun W hW => by have := hc2 W (Below.mono (hx.trans hW) hB) (i * 4 + 3) _ (by rw [hz2 3 (by omega)]; rfl); simpa [Nat.add_assoc] using this
      clear hz1 hz2 hc1 hc2 hat1 hat2
      have hcmp := fun W => neq_ent y x W
      by_cases he : x = y
      · have hd : decide (y = x) = true := by simp [he]
        rw [hd] at hcmp
        rw [← he] at hx2
        have hE := heq.next hx1 hx2
        clear hx1 hx2
        obtain ⟨pol, p, s, id⟩ := x
        obtain ⟨pol2, p2, s2, id2⟩ := y
        unfold entV at *
        simp only at *
        go_wp2_with fail
        refine Reg.startE (by kernel_rfl) ?_
        refine Reg.tk 0 ?_; (try simp only [Reg.n1, Reg.n2, Reg.n3, Reg.n4, Reg.n5, Reg.n6, Reg.n7])
        refine Reg.tk 1 ?_; (try simp only [Reg.n1, Reg.n2, Reg.n3, Reg.n4, Reg.n5, Reg.n6, Reg.n7])
        refine Reg.tk 2 ?_; (try simp only [Reg.n1, Reg.n2, Reg.n3, Reg.n4, Reg.n5, Reg.n6, Reg.n7])
        refine Reg.tk 3 ?_; (try simp only [Reg.n1, Reg.n2, Reg.n3, Reg.n4, Reg.n5, Reg.n6, Reg.n7])
        refine Reg.tk 4 ?_; (try simp only [Reg.n1, Reg.n2, Reg.n3, Reg.n4, Reg.n5, Reg.n6, Reg.n7])
        refine Reg.tk 5 ?_; (try simp only [Reg.n1, Reg.n2, Reg.n3, Reg.n4, Reg.n5, Reg.n6, Reg.n7])
        refine Reg.tk 6 ?_; (try simp only [Reg.n1, Reg.n2, Reg.n3, Reg.n4, Reg.n5, Reg.n6, Reg.n7])
        refine Reg.tk 7 ?_; (try simp only [Reg.n1, Reg.n2, Reg.n3, Reg.n4, Reg.n5, Reg.n6, Reg.n7])
        refine Reg.tk 8 ?_; (try simp only [Reg.n1, Reg.n2, Reg.n3, Reg.n4, Reg.n5, Reg.n6, Reg.n7])
        refine Reg.fin (by kernel_rfl) (fun W hW => ?_)
        go_wp2_with fail
        go_roundw
        case rel => exact ⟨i + 1, by omega, by go_num, hE, hx.trans hW⟩
        case measure => simp [intOf]; omega
      · have hd : decide (y = x) = false := by simpa using (fun e => he e.symm)
        rw [hd] at hcmp
        have hno : ¬ Pre l1 l2 := fun h => by
          have := h.2 i (by rw [hn2'.out]; exact hin)
          rw [hx1, hx2] at this
          injection this with this
          exact he this
        clear hx1 hx2 he hd
        obtain ⟨pol, p, s, id⟩ := x
        obtain ⟨pol2, p2, s2, id2⟩ := y
        unfold entV at *
        simp only at *
        go_wp2_with fail
        refine Reg.startE (by kernel_rfl) ?_
        refine Reg.tk 0 ?_; (try simp only [Reg.n1, Reg.n2, Reg.n3, Reg.n4, Reg.n5, Reg.n6, Reg.n7])
        refine Reg.tk 1 ?_; (try simp only [Reg.n1, Reg.n2, Reg.n3, Reg.n4, Reg.n5, Reg.n6, Reg.n7])
        refine Reg.tk 2 ?_; (try simp only [Reg.n1, Reg.n2, Reg.n3, Reg.n4, Reg.n5, Reg.n6, Reg.n7])
        refine Reg.tk 3 ?_; (try simp only [Reg.n1, Reg.n2, Reg.n3, Reg.n4, Reg.n5, Reg.n6, Reg.n7])
        refine Reg.tk 4 ?_; (try simp only [Reg.n1, Reg.n2, Reg.n3, Reg.n4, Reg.n5, Reg.n6, Reg.n7])
        refine Reg.tk 5 ?_; (try simp only [Reg.n1, Reg.n2, Reg.n3, Reg.n4, Reg.n5, Reg.n6, Reg.n7])
        refine Reg.tk 6 ?_; (try simp only [Reg.n1, Reg.n2, Reg.n3, Reg.n4, Reg.n5, Reg.n6, Reg.n7])
        refine Reg.tk 7 ?_; (try simp only [Reg.n1, Reg.n2, Reg.n3, Reg.n4, Reg.n5, Reg.n6, Reg.n7])
        refine Reg.tk 8 ?_; (try simp only [Reg.n1, Reg.n2, Reg.n3, Reg.n4, Reg.n5, Reg.n6, Reg.n7])
        refine Reg.fin (by kernel_rfl) (fun W hW => ?_)
        have hp := hF _ hno (hx.trans hW)
        go_wp2_with fail
        exact hp
    · have hin' : ¬ (i : Int) < (n2 : Int) := by omega
      have hp := hT wr ⟨by rw [hn.out, hn2'.out]; omega, by rw [hn2'.out]; obtain rfl : i = n2 := by omega
                                                            exact heq⟩ hx
      clear hat1 hat2
      go_wp2_with fail
      exact hp
end Go.Proofs.YtbpfabhlngfciaaDoor.Ch
/- chain: the law ChainBegins. -/
namespace Go.Proofs.YtbpfabhlngfciaaDoor.Ch
open Go.ChangeShapes Go.WideShapes Go.ChangeAt Go.RowKit
open Base Pf Cn Pr Lx Mi
set_option linter.unusedVariables false
set_option linter.unusedSimpArgs false

theorem el_ent : El Tryd.prog 22 27 (.agg #[.bool false, .int .i64 0, .string ByteArray.empty, .int .u64 0]) 4 40 := ⟨by kernel_rfl, by kernel_rfl, by kernel_rfl, by omega⟩
theorem run_cutZ {P : Program} {t e : TypeId} {s : Nat} (ht : P.underlying t = some (.slice e)) (he : (P.info? e).map (·.size) = some s) (w : World) (A : Option Addr) (n c k : Nat) (hk : k ≤ c) :
    (Instr.sliceAt t (.slice A n c) none (some (.int .i64 (k : Int))) none).run P w = .ok (.slice A k c) w := by
  have h2 : (0 : Int) ≤ (k : Int) ∧ (k : Int) ≤ (c : Int) := by omega
  cases hq : P.info? e with
  | none => simp [hq] at he
  | some i =>
    have hA : A.map (fun a => a.add 0) = A := by cases A <;> simp [Addr.add]
    simp [Instr.sliceAt, Instr.slice, Instr.sliceBounds, Instr.sliceBound, run_underlying ht, asIntOf, h2, sizeOf, typeInfo, hq, go_sem, hA, hk]
theorem eql_bool (R : Bool) (W : World) : (binOp .eql 4 (.bool R) (.bool R)).run Tryd.prog W = .ok (.bool true) W := by cases R <;> kernel_rfl
theorem ents_take (l : List Et) : ∀ n, (entsZ l).take (n * 4) = entsZ (l.take n) := by
  induction l with
  | nil => intro n; simp [entsZ]
  | cons x l ih =>
    intro n
    cases n with
    | zero => simp [entsZ]
    | succ n =>
      have h := ih n
      show (entC x ++ entsZ l).take ((n + 1) * 4) = entC x ++ entsZ (l.take n)
      rw [← h, List.take_append, List.take_of_length_le (by show 4 ≤ _; omega)]
      congr 2
      show (n + 1) * 4 - 4 = n * 4
      omega
theorem ents_one (l : List Et) : ∀ u ∈ entsZ l, u.oneCell' = true := by
  intro u hu
  obtain ⟨x, _, hx⟩ := List.mem_flatMap.1 hu
  simp only [entC, List.mem_cons, List.not_mem_nil, or_false] at hx
  rcases hx with rfl | rfl | rfl | rfl <;> rfl
set_option maxRecDepth 100000 in
set_option maxHeartbeats 2000000 in
theorem lawBegins_any {v1 v2 : Value} {l1 l2 : List Et} (w : World) (hwd : Wd w) (hpow : Pow w) (h1 : Sl w.heap.size w v1 l1.length (entsZ l1)) (h2 : Sl w.heap.size w v2 l2.length (entsZ l2)) (hz1 : l1.length * 40 ≤ 140737488351232) (hz2 : l2.length * 40 ≤ 140737488351232) :
    Calls Tryd.prog 3 #[v1, v2] w fun en w' => en = .returned (.bool true) ∧ Ext w w' := by
  have hS1 := fun W (hW : Ext w W) => h1.below hW
  have hS2 := fun W (hW : Ext w W) => h2.below hW
  have hb12 := fun W (hW : Ext w W) => Begins_any (hS1 W hW) (hS2 W hW) hW.size
  have hb21 := fun W (hW : Ext w W) => Begins_any (hS2 W hW) (hS1 W hW) hW.size
  have hr12 := fun W (hW : Ext w W) => refBegins_any (hS1 W hW) (hS2 W hW) hW.size
  have hr21 := fun W (hW : Ext w W) => refBegins_any (hS2 W hW) (hS1 W hW) hW.size
  have hB := Nat.le_refl w.heap.size
  obtain ⟨A1', c1', ev1, _, _, _, hat1⟩ := h1.at_
  obtain ⟨A2', c2', ev2, _, _, _, hat2⟩ := h2.at_
  obtain ⟨A1, c1, rfl, ra1, rlt1, hn1, hm1, hA1⟩ := h1
  obtain ⟨A2, c2, rfl, ra2, rlt2, hn2, hm2, hA2⟩ := h2
  injection ev1 with ev1 _ ev1c
  injection ev2 with ev2 _ ev2c
  subst ev1; subst ev1c; subst ev2; subst ev2c
  replace hat1 := Lib.hid hat1
  replace hat2 := Lib.hid hat2
  have hrt := fun (n : Nat) (hn : n ≤ l2.length) W (hW : Ext w W) => refBegins_any (hS1 W hW) (B := w.heap.size) (v2 := .slice A2 n c2) (l2 := l2.take n) ⟨A2, c2, by rw [List.length_take, Nat.min_eq_left hn], by
    have := (ra2.ext hW).take (n * 4)
    rwa [show (entsZ l2).take (n * 4) = entsZ (l2.take n) from ents_take l2 n] at this, fun hne => rlt2 (by intro e; apply hne; rw [← ents_take, e]; simp), by rw [List.length_take]; omega, hm2, hA2⟩ hW.size
  unfold maxLen at hm1 hm2
  obtain ⟨n1, hn⟩ : ∃ z, Hid (l1.length = z) := ⟨_, rfl⟩
  obtain ⟨n2, hn2'⟩ : ∃ z, Hid (l2.length = z) := ⟨_, rfl⟩
  have el1 := entsZ_length l1
  have el2 := entsZ_length l2
  rw [hn.out] at hn1 hz1 el1 hb12 hb21 hr12 hr21 hrt ⊢
  rw [hn2'.out] at hn2 hz2 el2 hb12 hb21 hr12 hr21 hrt ⊢
  replace hb12 := Lib.hid hb12
  replace hb21 := Lib.hid hb21
  replace hr12 := Lib.hid hr12
  replace hr21 := Lib.hid hr21
  replace hrt := Lib.hid hrt
  replace hA1 := Lib.hid hA1
  replace hA2 := Lib.hid hA2
  obtain ⟨PO, hPO⟩ : ∃ PO : Ending → World → Prop, Hid ((fun en w' => en = .returned (.bool true) ∧ Ext w w') = PO) := ⟨_, Lib.hid rfl⟩
  rw [hPO.out]
  have hfin : ∀ W, Ext w W → PO (.returned (.bool true)) W := fun W h => by rw [← hPO.out]; exact ⟨rfl, h⟩
  replace hfin := Lib.hid hfin
  have hlit : (w.alloc (.cells #[] 27)).ownsRow w.heap.size 27 4 (.slice (some ⟨w.heap.size, 0, none⟩) 0 0) 0 [] := World.ownsRow_lit w #[] 0 (Nat.le_refl _) (Nat.zero_le _) rfl
  have hx1 : Ext w (w.alloc (.cells #[] 27)) := (Ext.refl w).alloc _
  have hb1 := hx1.size
  have hra1 := ra1.ext hx1
  have hra2 := fun W (hW : Ext w W) => ra2.ext hW
  replace hra2 := Lib.hid hra2
  clear ra1 ra2 rlt1 rlt2
  go_enter Tryd.func3, Tryd.ntmps3
  go_wp2_with (first
    | (refine wpList_app0 el_ent _ rfl (.tmp 6) (.tmp 7) rfl _ _ rfl hlit A1 n1 c1 (entsZ l1) rfl hra1 el1 hA1.out (by omega) (by omega) hb1 (fun v' w' ho' hx' => ?_))
    | (refine wpList_app0 el_ent _ rfl (.tmp 9) (.tmp 10) rfl w'.heap.size w'.heap.size rfl (World.ownsRow_lit w' #[] 0 (Nat.le_refl _) (Nat.zero_le _) rfl) A2 n2 c2 (entsZ l2) rfl (hra2.out _ ((hx1.trans hx').alloc _)) el2 hA2.out (by omega) (by omega) ((Ext.refl w').alloc _).size (fun v2' w3 ho3 hx3 => ?_)))
  have hx23 : Ext w' w3 := ((Ext.refl w').alloc _).trans hx3
  have hx03 : Ext w w3 := (hx1.trans hx').trans hx23
  have hcm := Common_any (l1 := l1) (l2 := l2) (by rw [hn.out]; exact Sl.ofOwn (own_ext ho' hx23) (Nat.le_refl _)) (by rw [hn2'.out]; exact Sl.ofOwn ho3 (Nat.le_refl _)) (Nat.le_refl _)
  clear ho' ho3 hlit hra1 el1 el2 hx' hb1 hx3
  refine hcm.mono ?_
  rintro en w4 ⟨n, rfl, hC, hx4⟩
  have hx04 := hx03.trans hx4
  have hl1 := hC.la
  have hl2 := hC.lb
  rw [hn.out] at hl1
  rw [hn2'.out] at hl2
  have hpt := hC.take
  have hr1t := fun W (hW : Ext w W) => hrt.out n hl2 W hW
  have hcut := fun W => run_cutZ (P := Tryd.prog) (t := 22) (e := 27) (s := 4) Tryd.underlying22 (by kernel_rfl) W A2 n2 c2 n (by omega)
  replace hr1t := Lib.hid hr1t
  have i0 : ¬ (n : Int) < 0 := by omega
  have i1 : ¬ (n1 : Int) < (n : Int) := by omega
  have i2 : ¬ (n2 : Int) < (n : Int) := by omega
  have i0d : decide ((n : Int) < 0) = false := by simp
  have i3 : ¬ n1 < n := by omega
  have i4 : ¬ n2 < n := by omega
  have i3d : decide (n1 < n) = false := by simpa using i3
  have i4d : decide (n2 < n) = false := by simpa using i4
  have i1d : decide ((n1 : Int) < (n : Int)) = false := by simpa using i1
  have i2d : decide ((n2 : Int) < (n : Int)) = false := by simpa using i2
  clear hcm hrt hS1 hS2 hA1 hA2
  by_cases hin1 : n < n1
  · have j1 : (n : Int) < (n1 : Int) := by omega
    have j1d : decide ((n : Int) < (n1 : Int)) = true := by simpa using j1
    have j1n : decide (n < n1) = true := by simpa using hin1
    by_cases hin2 : n < n2
    · have j2 : (n : Int) < (n2 : Int) := by omega
      have j2d : decide ((n : Int) < (n2 : Int)) = true := by simpa using j2
      have j2n : decide (n < n2) = true := by simpa using hin2
      obtain ⟨x, hx1⟩ : ∃ x, l1[n]? = some x := ⟨_, List.getElem?_eq_getElem (by have := hn.out; omega)⟩
      obtain ⟨y, hx2⟩ : ∃ x, l2[n]? = some x := ⟨_, List.getElem?_eq_getElem (by have := hn2'.out; omega)⟩
      have hne := hC.ne x y hx1 hx2
      have hx := hx04
      replace hat1 := hat1.out
      replace hat2 := hat2.out
      obtain ⟨wr, hwr⟩ : ∃ z, z = w4 := ⟨_, rfl⟩
      subst hwr
      obtain ⟨i, hi⟩ : ∃ i, i = n := ⟨_, rfl⟩
      subst hi
      have hz1 := entsZ_at l1 i _ hx1
      have hz2 := entsZ_at l2 i _ hx2
      obtain ⟨b1, o1, rfl, hb1, hc1⟩ := hat1 (i * 4 + 0) (.bool x.pol) (by rw [hz1 0 (by omega)]; rfl)
      obtain ⟨b2, o2, rfl, hb2, hc2⟩ := hat2 (i * 4 + 0) (.bool y.pol) (by rw [hz2 0 (by omega)]; rfl)
      have d10 : ∀ W, Ext wr W → W.cell? ⟨b1, o1 + i * 4, none⟩ = some (.bool x.pol) := fun W hW => by have := hc1 W (Below.mono (hx.trans hW) hB) (i * 4 + 0) _ (by rw [hz1 0 (by omega)]; rfl); simpa [Nat.add_assoc] using this
      have d11 : ∀ W, Ext wr W → W.cell? ⟨b1, o1 + i * 4 + 1, none⟩ = some (.int .i64 x.p) := fun W hW => by have := hc1 W (Below.mono (hx.trans hW) hB) (i * 4 + 1) _ (by rw [hz1 1 (by omega)]; rfl); simpa [Nat.add_assoc] using this
      have d12 : ∀ W, Ext wr W → W.cell? ⟨b1, o1 + i * 4 + 2, none⟩ = some (.string x.s) := fun W hW => by have := hc1 W (Below.mono (hx.trans hW) hB) (i * 4 + 2) _ (by rw [hz1 2 (by omega)]; rfl); simpa [Nat.add_assoc] using this
      have d13 : ∀ W, Ext wr W → W.cell? ⟨b1, o1 + i * 4 + 3, none⟩ = some (.int .u64 (x.id : Int)) := fun W hW => by have := hc1 W (Below.mono (hx.trans hW) hB) (i * 4 + 3) _ (by rw [hz1 3 (by omega)]; rfl); simpa [Nat.add_assoc] using this
      have d20 : ∀ W, Ext wr W → W.cell? ⟨b2, o2 + i * 4, none⟩ = some (.bool y.pol) := fun W hW => by have := hc2 W (Below.mono (hx.trans hW) hB) (i * 4 + 0) _ (by rw [hz2 0 (by omega)]; rfl); simpa [Nat.add_assoc] using this
      have d21 : ∀ W, Ext wr W → W.cell? ⟨b2, o2 + i * 4 + 1, none⟩ = some (.int .i64 y.p) := fun W hW => by have := hc2 W (Below.mono (hx.trans hW) hB) (i * 4 + 1) _ (by rw [hz2 1 (by omega)]; rfl); simpa [Nat.add_assoc] using this
      have d22 : ∀ W, Ext wr W → W.cell? ⟨b2, o2 + i * 4 + 2, none⟩ = some (.string y.s) := fun W hW => by have := hc2 W (Below.mono (hx.trans hW) hB) (i * 4 + 2) _ (by rw [hz2 2 (by omega)]; rfl); simpa [Nat.add_assoc] using this
      have d23 : ∀ W, Ext wr W → W.cell? ⟨b2, o2 + i * 4 + 3, none⟩ = some (.int .u64 (y.id : Int)) := fun W hW => by have := hc2 W (Below.mono (hx.trans hW) hB) (i * 4 + 3) _ (by rw [hz2 3 (by omega)]; rfl); simpa [Nat.add_assoc] using this
      clear hz1 hz2 hc1 hc2 hat1 hat2
      have hcmp := fun W => eql_ent x y W
      have hd : decide (x = y) = false := by simpa using hne
      rw [hd] at hcmp
      have hcmp0 := hcmp
      clear hx1 hx2 hne hd
      obtain ⟨pol, p, s, id⟩ := x
      obtain ⟨pol2, p2, s2, id2⟩ := y
      unfold entV at *
      simp only at *
      go_wp2_with fail
      refine Reg.startE (by kernel_rfl) ?_
      refine Reg.tk 0 ?_; (try simp only [Reg.n1, Reg.n2, Reg.n3, Reg.n4, Reg.n5, Reg.n6, Reg.n7])
      refine Reg.tk 1 ?_; (try simp only [Reg.n1, Reg.n2, Reg.n3, Reg.n4, Reg.n5, Reg.n6, Reg.n7])
      refine Reg.tk 2 ?_; (try simp only [Reg.n1, Reg.n2, Reg.n3, Reg.n4, Reg.n5, Reg.n6, Reg.n7])
      refine Reg.tk 3 ?_; (try simp only [Reg.n1, Reg.n2, Reg.n3, Reg.n4, Reg.n5, Reg.n6, Reg.n7])
      refine Reg.tk 4 ?_; (try simp only [Reg.n1, Reg.n2, Reg.n3, Reg.n4, Reg.n5, Reg.n6, Reg.n7])
      refine Reg.tk 5 ?_; (try simp only [Reg.n1, Reg.n2, Reg.n3, Reg.n4, Reg.n5, Reg.n6, Reg.n7])
      refine Reg.tk 6 ?_; (try simp only [Reg.n1, Reg.n2, Reg.n3, Reg.n4, Reg.n5, Reg.n6, Reg.n7])
      refine Reg.tk 7 ?_; (try simp only [Reg.n1, Reg.n2, Reg.n3, Reg.n4, Reg.n5, Reg.n6, Reg.n7])
      refine Reg.tk 8 ?_; (try simp only [Reg.n1, Reg.n2, Reg.n3, Reg.n4, Reg.n5, Reg.n6, Reg.n7])
      refine Reg.tk 9 ?_; (try simp only [Reg.n1, Reg.n2, Reg.n3, Reg.n4, Reg.n5, Reg.n6, Reg.n7])
      refine Reg.tk 10 ?_; (try simp only [Reg.n1, Reg.n2, Reg.n3, Reg.n4, Reg.n5, Reg.n6, Reg.n7])
      refine Reg.tk 11 ?_; (try simp only [Reg.n1, Reg.n2, Reg.n3, Reg.n4, Reg.n5, Reg.n6, Reg.n7])
      refine Reg.tk 12 ?_; (try simp only [Reg.n1, Reg.n2, Reg.n3, Reg.n4, Reg.n5, Reg.n6, Reg.n7])
      refine Reg.tk 13 ?_; (try simp only [Reg.n1, Reg.n2, Reg.n3, Reg.n4, Reg.n5, Reg.n6, Reg.n7])
      refine Reg.tk 14 ?_; (try simp only [Reg.n1, Reg.n2, Reg.n3, Reg.n4, Reg.n5, Reg.n6, Reg.n7])
      refine Reg.tk 15 ?_; (try simp only [Reg.n1, Reg.n2, Reg.n3, Reg.n4, Reg.n5, Reg.n6, Reg.n7])
      refine Reg.tk 16 ?_; (try simp only [Reg.n1, Reg.n2, Reg.n3, Reg.n4, Reg.n5, Reg.n6, Reg.n7])
      refine Reg.tk 17 ?_; (try simp only [Reg.n1, Reg.n2, Reg.n3, Reg.n4, Reg.n5, Reg.n6, Reg.n7])
      refine Reg.tk 18 ?_; (try simp only [Reg.n1, Reg.n2, Reg.n3, Reg.n4, Reg.n5, Reg.n6, Reg.n7])
      refine Reg.onlyE 19 _ rfl (by kernel_rfl) (by decide) (by rfl) (fun W hW K hK => ?_); go_simp
      refine (hr1t.out _ (hx04.trans hW)).mono ?_
      rintro e wX ⟨R, rfl, hR, hxX⟩
      obtain rfl : R = true := hR.2 hpt
      have hx0X := (hx04.trans hW).trans hxX
      have t10 := fun W' (h : Ext wX W') => d10 W' ((hW.trans hxX).trans h)
      have t11 := fun W' (h : Ext wX W') => d11 W' ((hW.trans hxX).trans h)
      have t12 := fun W' (h : Ext wX W') => d12 W' ((hW.trans hxX).trans h)
      have t13 := fun W' (h : Ext wX W') => d13 W' ((hW.trans hxX).trans h)
      have t20 := fun W' (h : Ext wX W') => d20 W' ((hW.trans hxX).trans h)
      have t21 := fun W' (h : Ext wX W') => d21 W' ((hW.trans hxX).trans h)
      have t22 := fun W' (h : Ext wX W') => d22 W' ((hW.trans hxX).trans h)
      have t23 := fun W' (h : Ext wX W') => d23 W' ((hW.trans hxX).trans h)
      refine hK.out _ _ (hxX) ?_; clear hK K; (try simp only [Reg.n1, Reg.n2, Reg.n3, Reg.n4, Reg.n5, Reg.n6, Reg.n7])
      refine Reg.tk 20 ?_; (try simp only [Reg.n1, Reg.n2, Reg.n3, Reg.n4, Reg.n5, Reg.n6, Reg.n7])
      refine Reg.tk 21 ?_; (try simp only [Reg.n1, Reg.n2, Reg.n3, Reg.n4, Reg.n5, Reg.n6, Reg.n7])
      refine Reg.tk 22 ?_; (try simp only [Reg.n1, Reg.n2, Reg.n3, Reg.n4, Reg.n5, Reg.n6, Reg.n7])
      refine Reg.tk 23 ?_; (try simp only [Reg.n1, Reg.n2, Reg.n3, Reg.n4, Reg.n5, Reg.n6, Reg.n7])
      refine Reg.tk 24 ?_; (try simp only [Reg.n1, Reg.n2, Reg.n3, Reg.n4, Reg.n5, Reg.n6, Reg.n7])
      refine Reg.tk 25 ?_; (try simp only [Reg.n1, Reg.n2, Reg.n3, Reg.n4, Reg.n5, Reg.n6, Reg.n7])
      refine Reg.tk 26 ?_; (try simp only [Reg.n1, Reg.n2, Reg.n3, Reg.n4, Reg.n5, Reg.n6, Reg.n7])
      refine Reg.tk 27 ?_; (try simp only [Reg.n1, Reg.n2, Reg.n3, Reg.n4, Reg.n5, Reg.n6, Reg.n7])
      refine Reg.tk 28 ?_; (try simp only [Reg.n1, Reg.n2, Reg.n3, Reg.n4, Reg.n5, Reg.n6, Reg.n7])
      refine Reg.tk 29 ?_; (try simp only [Reg.n1, Reg.n2, Reg.n3, Reg.n4, Reg.n5, Reg.n6, Reg.n7])
      refine Reg.tk 30 ?_; (try simp only [Reg.n1, Reg.n2, Reg.n3, Reg.n4, Reg.n5, Reg.n6, Reg.n7])
      refine Reg.tk 31 ?_; (try simp only [Reg.n1, Reg.n2, Reg.n3, Reg.n4, Reg.n5, Reg.n6, Reg.n7])
      refine Reg.tk 32 ?_; (try simp only [Reg.n1, Reg.n2, Reg.n3, Reg.n4, Reg.n5, Reg.n6, Reg.n7])
      refine Reg.tk 33 ?_; (try simp only [Reg.n1, Reg.n2, Reg.n3, Reg.n4, Reg.n5, Reg.n6, Reg.n7])
      refine Reg.tk 34 ?_; (try simp only [Reg.n1, Reg.n2, Reg.n3, Reg.n4, Reg.n5, Reg.n6, Reg.n7])
      refine Reg.tk 35 ?_; (try simp only [Reg.n1, Reg.n2, Reg.n3, Reg.n4, Reg.n5, Reg.n6, Reg.n7])
      refine Reg.tk 36 ?_; (try simp only [Reg.n1, Reg.n2, Reg.n3, Reg.n4, Reg.n5, Reg.n6, Reg.n7])
      refine Reg.tk 37 ?_; (try simp only [Reg.n1, Reg.n2, Reg.n3, Reg.n4, Reg.n5, Reg.n6, Reg.n7])
      refine Reg.tk 38 ?_; (try simp only [Reg.n1, Reg.n2, Reg.n3, Reg.n4, Reg.n5, Reg.n6, Reg.n7])
      refine Reg.tk 39 ?_; (try simp only [Reg.n1, Reg.n2, Reg.n3, Reg.n4, Reg.n5, Reg.n6, Reg.n7])
      refine Reg.tk 40 ?_; (try simp only [Reg.n1, Reg.n2, Reg.n3, Reg.n4, Reg.n5, Reg.n6, Reg.n7])
      refine Reg.tk 41 ?_; (try simp only [Reg.n1, Reg.n2, Reg.n3, Reg.n4, Reg.n5, Reg.n6, Reg.n7])
      refine Reg.tk 42 ?_; (try simp only [Reg.n1, Reg.n2, Reg.n3, Reg.n4, Reg.n5, Reg.n6, Reg.n7])
      refine Reg.tk 43 ?_; (try simp only [Reg.n1, Reg.n2, Reg.n3, Reg.n4, Reg.n5, Reg.n6, Reg.n7])
      refine Reg.tk 44 ?_; (try simp only [Reg.n1, Reg.n2, Reg.n3, Reg.n4, Reg.n5, Reg.n6, Reg.n7])
      refine Reg.fin (by kernel_rfl) (fun W hW => ?_)
      have ht1 := hb12.out _ (hx0X.trans hW)
      clear hcmp0
      go_wp2_with fail
      refine ht1.mono ?_
      rintro en w5 ⟨R1, rfl, hR1, hx5⟩
      have hx05 := (hx0X.trans hW).trans hx5
      have ht2 := hr12.out _ hx05
      clear ht1
      go_wp2_with fail
      refine ht2.mono ?_
      rintro en w6 ⟨R2, rfl, hR2, hx6⟩
      obtain rfl : R1 = R2 := Bool.eq_iff_iff.2 (hR1.trans hR2.symm)
      have hRR := fun W => eql_bool R1 W
      have hx06 := hx05.trans hx6
      have ht3 := hb21.out _ hx06
      clear ht2 hR1 hR2
      go_wp2_with fail
      refine ht3.mono ?_
      rintro en w7 ⟨R3, rfl, hR3, hx7⟩
      have hx07 := hx06.trans hx7
      have ht4 := hr21.out _ hx07
      clear ht3
      go_wp2_with fail
      refine ht4.mono ?_
      rintro en w8 ⟨R4, rfl, hR4, hx8⟩
      obtain rfl : R3 = R4 := Bool.eq_iff_iff.2 (hR3.trans hR4.symm)
      have hRR3 := fun W => eql_bool R3 W
      have hx08 := hx07.trans hx8
      have ht5 := lives_any _ (hwd.ext hx08) (hpow.ext hx08)
      clear ht4 hR3 hR4
      go_wp2_with fail
      refine ht5.mono ?_
      rintro en w9 ⟨rfl, hx9⟩
      have hf := hfin.out _ (hx08.trans hx9)
      clear ht5
      go_wp2_with fail
      exact hf
    · have j2 : ¬ (n : Int) < (n2 : Int) := by omega
      have j2d : decide ((n : Int) < (n2 : Int)) = false := by simpa using j2
      have j2n : decide (n < n2) = false := by simpa using hin2
      have hcmp0 : True := trivial
      go_wp2_with fail
      refine Reg.startE (by kernel_rfl) ?_
      refine Reg.tk 0 ?_; (try simp only [Reg.n1, Reg.n2, Reg.n3, Reg.n4, Reg.n5, Reg.n6, Reg.n7])
      refine Reg.tk 1 ?_; (try simp only [Reg.n1, Reg.n2, Reg.n3, Reg.n4, Reg.n5, Reg.n6, Reg.n7])
      refine Reg.tk 2 ?_; (try simp only [Reg.n1, Reg.n2, Reg.n3, Reg.n4, Reg.n5, Reg.n6, Reg.n7])
      refine Reg.tk 3 ?_; (try simp only [Reg.n1, Reg.n2, Reg.n3, Reg.n4, Reg.n5, Reg.n6, Reg.n7])
      refine Reg.tk 4 ?_; (try simp only [Reg.n1, Reg.n2, Reg.n3, Reg.n4, Reg.n5, Reg.n6, Reg.n7])
      refine Reg.tk 5 ?_; (try simp only [Reg.n1, Reg.n2, Reg.n3, Reg.n4, Reg.n5, Reg.n6, Reg.n7])
      refine Reg.tk 6 ?_; (try simp only [Reg.n1, Reg.n2, Reg.n3, Reg.n4, Reg.n5, Reg.n6, Reg.n7])
      refine Reg.tk 7 ?_; (try simp only [Reg.n1, Reg.n2, Reg.n3, Reg.n4, Reg.n5, Reg.n6, Reg.n7])
      refine Reg.tk 8 ?_; (try simp only [Reg.n1, Reg.n2, Reg.n3, Reg.n4, Reg.n5, Reg.n6, Reg.n7])
      refine Reg.tk 9 ?_; (try simp only [Reg.n1, Reg.n2, Reg.n3, Reg.n4, Reg.n5, Reg.n6, Reg.n7])
      refine Reg.tk 10 ?_; (try simp only [Reg.n1, Reg.n2, Reg.n3, Reg.n4, Reg.n5, Reg.n6, Reg.n7])
      refine Reg.tk 11 ?_; (try simp only [Reg.n1, Reg.n2, Reg.n3, Reg.n4, Reg.n5, Reg.n6, Reg.n7])
      refine Reg.tk 12 ?_; (try simp only [Reg.n1, Reg.n2, Reg.n3, Reg.n4, Reg.n5, Reg.n6, Reg.n7])
      refine Reg.tk 13 ?_; (try simp only [Reg.n1, Reg.n2, Reg.n3, Reg.n4, Reg.n5, Reg.n6, Reg.n7])
      refine Reg.tk 14 ?_; (try simp only [Reg.n1, Reg.n2, Reg.n3, Reg.n4, Reg.n5, Reg.n6, Reg.n7])
      refine Reg.tk 15 ?_; (try simp only [Reg.n1, Reg.n2, Reg.n3, Reg.n4, Reg.n5, Reg.n6, Reg.n7])
      refine Reg.tk 16 ?_; (try simp only [Reg.n1, Reg.n2, Reg.n3, Reg.n4, Reg.n5, Reg.n6, Reg.n7])
      refine Reg.tk 17 ?_; (try simp only [Reg.n1, Reg.n2, Reg.n3, Reg.n4, Reg.n5, Reg.n6, Reg.n7])
      refine Reg.tk 18 ?_; (try simp only [Reg.n1, Reg.n2, Reg.n3, Reg.n4, Reg.n5, Reg.n6, Reg.n7])
      refine Reg.onlyE 19 _ rfl (by kernel_rfl) (by decide) (by rfl) (fun W hW K hK => ?_); go_simp
      refine (hr1t.out _ (hx04.trans hW)).mono ?_
      rintro e wX ⟨R, rfl, hR, hxX⟩
      obtain rfl : R = true := hR.2 hpt
      have hx0X := (hx04.trans hW).trans hxX
      refine hK.out _ _ (hxX) ?_; clear hK K; (try simp only [Reg.n1, Reg.n2, Reg.n3, Reg.n4, Reg.n5, Reg.n6, Reg.n7])
      refine Reg.tk 20 ?_; (try simp only [Reg.n1, Reg.n2, Reg.n3, Reg.n4, Reg.n5, Reg.n6, Reg.n7])
      refine Reg.tk 21 ?_; (try simp only [Reg.n1, Reg.n2, Reg.n3, Reg.n4, Reg.n5, Reg.n6, Reg.n7])
      refine Reg.tk 22 ?_; (try simp only [Reg.n1, Reg.n2, Reg.n3, Reg.n4, Reg.n5, Reg.n6, Reg.n7])
      refine Reg.tk 23 ?_; (try simp only [Reg.n1, Reg.n2, Reg.n3, Reg.n4, Reg.n5, Reg.n6, Reg.n7])
      refine Reg.tk 24 ?_; (try simp only [Reg.n1, Reg.n2, Reg.n3, Reg.n4, Reg.n5, Reg.n6, Reg.n7])
      refine Reg.tk 25 ?_; (try simp only [Reg.n1, Reg.n2, Reg.n3, Reg.n4, Reg.n5, Reg.n6, Reg.n7])
      refine Reg.tk 26 ?_; (try simp only [Reg.n1, Reg.n2, Reg.n3, Reg.n4, Reg.n5, Reg.n6, Reg.n7])
      refine Reg.tk 27 ?_; (try simp only [Reg.n1, Reg.n2, Reg.n3, Reg.n4, Reg.n5, Reg.n6, Reg.n7])
      refine Reg.tk 28 ?_; (try simp only [Reg.n1, Reg.n2, Reg.n3, Reg.n4, Reg.n5, Reg.n6, Reg.n7])
      refine Reg.tk 29 ?_; (try simp only [Reg.n1, Reg.n2, Reg.n3, Reg.n4, Reg.n5, Reg.n6, Reg.n7])
      refine Reg.tk 30 ?_; (try simp only [Reg.n1, Reg.n2, Reg.n3, Reg.n4, Reg.n5, Reg.n6, Reg.n7])
      refine Reg.tk 31 ?_; (try simp only [Reg.n1, Reg.n2, Reg.n3, Reg.n4, Reg.n5, Reg.n6, Reg.n7])
      refine Reg.tk 32 ?_; (try simp only [Reg.n1, Reg.n2, Reg.n3, Reg.n4, Reg.n5, Reg.n6, Reg.n7])
      refine Reg.tk 33 ?_; (try simp only [Reg.n1, Reg.n2, Reg.n3, Reg.n4, Reg.n5, Reg.n6, Reg.n7])
      refine Reg.sk 34 ?_; (try simp only [Reg.n1, Reg.n2, Reg.n3, Reg.n4, Reg.n5, Reg.n6, Reg.n7])
      refine Reg.sk 35 ?_; (try simp only [Reg.n1, Reg.n2, Reg.n3, Reg.n4, Reg.n5, Reg.n6, Reg.n7])
      refine Reg.sk 36 ?_; (try simp only [Reg.n1, Reg.n2, Reg.n3, Reg.n4, Reg.n5, Reg.n6, Reg.n7])
      refine Reg.sk 37 ?_; (try simp only [Reg.n1, Reg.n2, Reg.n3, Reg.n4, Reg.n5, Reg.n6, Reg.n7])
      refine Reg.sk 38 ?_; (try simp only [Reg.n1, Reg.n2, Reg.n3, Reg.n4, Reg.n5, Reg.n6, Reg.n7])
      refine Reg.sk 39 ?_; (try simp only [Reg.n1, Reg.n2, Reg.n3, Reg.n4, Reg.n5, Reg.n6, Reg.n7])
      refine Reg.sk 40 ?_; (try simp only [Reg.n1, Reg.n2, Reg.n3, Reg.n4, Reg.n5, Reg.n6, Reg.n7])
      refine Reg.sk 41 ?_; (try simp only [Reg.n1, Reg.n2, Reg.n3, Reg.n4, Reg.n5, Reg.n6, Reg.n7])
      refine Reg.sk 42 ?_; (try simp only [Reg.n1, Reg.n2, Reg.n3, Reg.n4, Reg.n5, Reg.n6, Reg.n7])
      refine Reg.tk 43 ?_; (try simp only [Reg.n1, Reg.n2, Reg.n3, Reg.n4, Reg.n5, Reg.n6, Reg.n7])
      refine Reg.tk 44 ?_; (try simp only [Reg.n1, Reg.n2, Reg.n3, Reg.n4, Reg.n5, Reg.n6, Reg.n7])
      refine Reg.fin (by kernel_rfl) (fun W hW => ?_)
      have ht1 := hb12.out _ (hx0X.trans hW)
      clear hcmp0
      go_wp2_with fail
      refine ht1.mono ?_
      rintro en w5 ⟨R1, rfl, hR1, hx5⟩
      have hx05 := (hx0X.trans hW).trans hx5
      have ht2 := hr12.out _ hx05
      clear ht1
      go_wp2_with fail
      refine ht2.mono ?_
      rintro en w6 ⟨R2, rfl, hR2, hx6⟩
      obtain rfl : R1 = R2 := Bool.eq_iff_iff.2 (hR1.trans hR2.symm)
      have hRR := fun W => eql_bool R1 W
      have hx06 := hx05.trans hx6
      have ht3 := hb21.out _ hx06
      clear ht2 hR1 hR2
      go_wp2_with fail
      refine ht3.mono ?_
      rintro en w7 ⟨R3, rfl, hR3, hx7⟩
      have hx07 := hx06.trans hx7
      have ht4 := hr21.out _ hx07
      clear ht3
      go_wp2_with fail
      refine ht4.mono ?_
      rintro en w8 ⟨R4, rfl, hR4, hx8⟩
      obtain rfl : R3 = R4 := Bool.eq_iff_iff.2 (hR3.trans hR4.symm)
      have hRR3 := fun W => eql_bool R3 W
      have hx08 := hx07.trans hx8
      have ht5 := lives_any _ (hwd.ext hx08) (hpow.ext hx08)
      clear ht4 hR3 hR4
      go_wp2_with fail
      refine ht5.mono ?_
      rintro en w9 ⟨rfl, hx9⟩
      have hf := hfin.out _ (hx08.trans hx9)
      clear ht5
      go_wp2_with fail
      exact hf
  · have j1 : ¬ (n : Int) < (n1 : Int) := by omega
    have j1d : decide ((n : Int) < (n1 : Int)) = false := by simpa using j1
    have hcmp0 : True := trivial
    have j1n : decide (n < n1) = false := by simpa using hin1
    go_wp2_with fail
    refine Reg.startE (by kernel_rfl) ?_
    refine Reg.tk 0 ?_; (try simp only [Reg.n1, Reg.n2, Reg.n3, Reg.n4, Reg.n5, Reg.n6, Reg.n7])
    refine Reg.tk 1 ?_; (try simp only [Reg.n1, Reg.n2, Reg.n3, Reg.n4, Reg.n5, Reg.n6, Reg.n7])
    refine Reg.tk 2 ?_; (try simp only [Reg.n1, Reg.n2, Reg.n3, Reg.n4, Reg.n5, Reg.n6, Reg.n7])
    refine Reg.tk 3 ?_; (try simp only [Reg.n1, Reg.n2, Reg.n3, Reg.n4, Reg.n5, Reg.n6, Reg.n7])
    refine Reg.tk 4 ?_; (try simp only [Reg.n1, Reg.n2, Reg.n3, Reg.n4, Reg.n5, Reg.n6, Reg.n7])
    refine Reg.tk 5 ?_; (try simp only [Reg.n1, Reg.n2, Reg.n3, Reg.n4, Reg.n5, Reg.n6, Reg.n7])
    refine Reg.tk 6 ?_; (try simp only [Reg.n1, Reg.n2, Reg.n3, Reg.n4, Reg.n5, Reg.n6, Reg.n7])
    refine Reg.tk 7 ?_; (try simp only [Reg.n1, Reg.n2, Reg.n3, Reg.n4, Reg.n5, Reg.n6, Reg.n7])
    refine Reg.tk 8 ?_; (try simp only [Reg.n1, Reg.n2, Reg.n3, Reg.n4, Reg.n5, Reg.n6, Reg.n7])
    refine Reg.tk 9 ?_; (try simp only [Reg.n1, Reg.n2, Reg.n3, Reg.n4, Reg.n5, Reg.n6, Reg.n7])
    refine Reg.tk 10 ?_; (try simp only [Reg.n1, Reg.n2, Reg.n3, Reg.n4, Reg.n5, Reg.n6, Reg.n7])
    refine Reg.tk 11 ?_; (try simp only [Reg.n1, Reg.n2, Reg.n3, Reg.n4, Reg.n5, Reg.n6, Reg.n7])
    refine Reg.tk 12 ?_; (try simp only [Reg.n1, Reg.n2, Reg.n3, Reg.n4, Reg.n5, Reg.n6, Reg.n7])
    refine Reg.tk 13 ?_; (try simp only [Reg.n1, Reg.n2, Reg.n3, Reg.n4, Reg.n5, Reg.n6, Reg.n7])
    refine Reg.tk 14 ?_; (try simp only [Reg.n1, Reg.n2, Reg.n3, Reg.n4, Reg.n5, Reg.n6, Reg.n7])
    refine Reg.tk 15 ?_; (try simp only [Reg.n1, Reg.n2, Reg.n3, Reg.n4, Reg.n5, Reg.n6, Reg.n7])
    refine Reg.tk 16 ?_; (try simp only [Reg.n1, Reg.n2, Reg.n3, Reg.n4, Reg.n5, Reg.n6, Reg.n7])
    refine Reg.tk 17 ?_; (try simp only [Reg.n1, Reg.n2, Reg.n3, Reg.n4, Reg.n5, Reg.n6, Reg.n7])
    refine Reg.tk 18 ?_; (try simp only [Reg.n1, Reg.n2, Reg.n3, Reg.n4, Reg.n5, Reg.n6, Reg.n7])
    refine Reg.onlyE 19 _ rfl (by kernel_rfl) (by decide) (by rfl) (fun W hW K hK => ?_); go_simp
    refine (hr1t.out _ (hx04.trans hW)).mono ?_
    rintro e wX ⟨R, rfl, hR, hxX⟩
    obtain rfl : R = true := hR.2 hpt
    have hx0X := (hx04.trans hW).trans hxX
    refine hK.out _ _ (hxX) ?_; clear hK K; (try simp only [Reg.n1, Reg.n2, Reg.n3, Reg.n4, Reg.n5, Reg.n6, Reg.n7])
    refine Reg.tk 20 ?_; (try simp only [Reg.n1, Reg.n2, Reg.n3, Reg.n4, Reg.n5, Reg.n6, Reg.n7])
    refine Reg.tk 21 ?_; (try simp only [Reg.n1, Reg.n2, Reg.n3, Reg.n4, Reg.n5, Reg.n6, Reg.n7])
    refine Reg.tk 22 ?_; (try simp only [Reg.n1, Reg.n2, Reg.n3, Reg.n4, Reg.n5, Reg.n6, Reg.n7])
    refine Reg.tk 23 ?_; (try simp only [Reg.n1, Reg.n2, Reg.n3, Reg.n4, Reg.n5, Reg.n6, Reg.n7])
    refine Reg.tk 24 ?_; (try simp only [Reg.n1, Reg.n2, Reg.n3, Reg.n4, Reg.n5, Reg.n6, Reg.n7])
    refine Reg.tk 25 ?_; (try simp only [Reg.n1, Reg.n2, Reg.n3, Reg.n4, Reg.n5, Reg.n6, Reg.n7])
    refine Reg.tk 26 ?_; (try simp only [Reg.n1, Reg.n2, Reg.n3, Reg.n4, Reg.n5, Reg.n6, Reg.n7])
    refine Reg.tk 27 ?_; (try simp only [Reg.n1, Reg.n2, Reg.n3, Reg.n4, Reg.n5, Reg.n6, Reg.n7])
    refine Reg.sk 28 ?_; (try simp only [Reg.n1, Reg.n2, Reg.n3, Reg.n4, Reg.n5, Reg.n6, Reg.n7])
    refine Reg.sk 29 ?_; (try simp only [Reg.n1, Reg.n2, Reg.n3, Reg.n4, Reg.n5, Reg.n6, Reg.n7])
    refine Reg.sk 30 ?_; (try simp only [Reg.n1, Reg.n2, Reg.n3, Reg.n4, Reg.n5, Reg.n6, Reg.n7])
    refine Reg.sk 31 ?_; (try simp only [Reg.n1, Reg.n2, Reg.n3, Reg.n4, Reg.n5, Reg.n6, Reg.n7])
    refine Reg.tk 32 ?_; (try simp only [Reg.n1, Reg.n2, Reg.n3, Reg.n4, Reg.n5, Reg.n6, Reg.n7])
    refine Reg.tk 33 ?_; (try simp only [Reg.n1, Reg.n2, Reg.n3, Reg.n4, Reg.n5, Reg.n6, Reg.n7])
    refine Reg.sk 34 ?_; (try simp only [Reg.n1, Reg.n2, Reg.n3, Reg.n4, Reg.n5, Reg.n6, Reg.n7])
    refine Reg.sk 35 ?_; (try simp only [Reg.n1, Reg.n2, Reg.n3, Reg.n4, Reg.n5, Reg.n6, Reg.n7])
    refine Reg.sk 36 ?_; (try simp only [Reg.n1, Reg.n2, Reg.n3, Reg.n4, Reg.n5, Reg.n6, Reg.n7])
    refine Reg.sk 37 ?_; (try simp only [Reg.n1, Reg.n2, Reg.n3, Reg.n4, Reg.n5, Reg.n6, Reg.n7])
    refine Reg.sk 38 ?_; (try simp only [Reg.n1, Reg.n2, Reg.n3, Reg.n4, Reg.n5, Reg.n6, Reg.n7])
    refine Reg.sk 39 ?_; (try simp only [Reg.n1, Reg.n2, Reg.n3, Reg.n4, Reg.n5, Reg.n6, Reg.n7])
    refine Reg.sk 40 ?_; (try simp only [Reg.n1, Reg.n2, Reg.n3, Reg.n4, Reg.n5, Reg.n6, Reg.n7])
    refine Reg.sk 41 ?_; (try simp only [Reg.n1, Reg.n2, Reg.n3, Reg.n4, Reg.n5, Reg.n6, Reg.n7])
    refine Reg.sk 42 ?_; (try simp only [Reg.n1, Reg.n2, Reg.n3, Reg.n4, Reg.n5, Reg.n6, Reg.n7])
    refine Reg.tk 43 ?_; (try simp only [Reg.n1, Reg.n2, Reg.n3, Reg.n4, Reg.n5, Reg.n6, Reg.n7])
    refine Reg.tk 44 ?_; (try simp only [Reg.n1, Reg.n2, Reg.n3, Reg.n4, Reg.n5, Reg.n6, Reg.n7])
    refine Reg.fin (by kernel_rfl) (fun W hW => ?_)
    have ht1 := hb12.out _ (hx0X.trans hW)
    clear hcmp0
    go_wp2_with fail
    refine ht1.mono ?_
    rintro en w5 ⟨R1, rfl, hR1, hx5⟩
    have hx05 := (hx0X.trans hW).trans hx5
    have ht2 := hr12.out _ hx05
    clear ht1
    go_wp2_with fail
    refine ht2.mono ?_
    rintro en w6 ⟨R2, rfl, hR2, hx6⟩
    obtain rfl : R1 = R2 := Bool.eq_iff_iff.2 (hR1.trans hR2.symm)
    have hRR := fun W => eql_bool R1 W
    have hx06 := hx05.trans hx6
    have ht3 := hb21.out _ hx06
    clear ht2 hR1 hR2
    go_wp2_with fail
    refine ht3.mono ?_
    rintro en w7 ⟨R3, rfl, hR3, hx7⟩
    have hx07 := hx06.trans hx7
    have ht4 := hr21.out _ hx07
    clear ht3
    go_wp2_with fail
    refine ht4.mono ?_
    rintro en w8 ⟨R4, rfl, hR4, hx8⟩
    obtain rfl : R3 = R4 := Bool.eq_iff_iff.2 (hR3.trans hR4.symm)
    have hRR3 := fun W => eql_bool R3 W
    have hx08 := hx07.trans hx8
    have ht5 := lives_any _ (hwd.ext hx08) (hpow.ext hx08)
    clear ht4 hR3 hR4
    go_wp2_with fail
    refine ht5.mono ?_
    rintro en w9 ⟨rfl, hx9⟩
    have hf := hfin.out _ (hx08.trans hx9)
    clear ht5
    go_wp2_with fail
    exact hf
end Go.Proofs.YtbpfabhlngfciaaDoor.Ch
namespace Go.Proofs.YtbpfabhlngfciaaDoor.chainBegins
open Go.ChangeShapes Go.WideShapes Go.ChangeAt Go.RowKit
open Go.ChangeMaps (open_string shut_string)
open Base Args
set_option linter.unusedVariables false
set_option linter.unusedSimpArgs false

theorem own : ownKnob Tryd.prog.godebug = none := by kernel_rfl
theorem laidOut : laidOutB Tryd.prog = true := by kernel_rfl

theorem laid_met (os : Os) : laidMet Tryd.prog Rows.chainBeginsRow.laid ((Pr.laidWorld os).forCall (fun _ _ => 0) ⟨#[], #[.slice none 0 0, .slice none 0 0], []⟩).memory :=
  laidMet_of_run' 8 (by kernel_rfl) (by kernel_rfl)
theorem reads (os : Os) {H : Type} (enc : TypeId × Value → H) : ∃ places, DataW.whole enc Tryd.prog ((Pr.laidWorld os).forCall (fun _ _ => 0) ⟨#[], #[.slice none 0 0, .slice none 0 0], []⟩).memory Tryd.f3.params.toList Rows.chainBeginsSpec.vars false (#[.slice none 0 0, .slice none 0 0] : Array Value).toList 8 = some ([.nil, .nil], [], places) :=
  ⟨[], by kernel_rfl⟩

set_option maxRecDepth 100000 in
theorem lifted (os : Os) (started : os.Started) (H : Type) (enc : TypeId × Value → H) (F : Stop.Interp) :
    ReturnsInHanded {} Tryd.checked os 3 .any ((OpenSpec.ofChange Rows.chainBeginsSpec).preRow enc Tryd.prog Tryd.f3 Rows.chainBeginsRow.domain false Rows.chainBeginsRow.laid) (((OpenSpec.ofChange Rows.chainBeginsSpec).at F).post enc Tryd.prog Tryd.f3 false true false false) := by
  obtain ⟨places, hx⟩ := reads os enc
  refine returnsInHanded_of_row (C := Tryd.checked) (s := (OpenSpec.ofChange Rows.chainBeginsSpec)) own started (by kernel_rfl) Tryd.func3
    (witness_row_at (enc := enc) (C := Tryd.checked) false (Pr.laidWorld os) #[.slice none 0 0, .slice none 0 0] rfl (by kernel_rfl) (by kernel_rfl) (by kernel_rfl)
      (OpenSpec.preRow_of_cond 8 hx (by kernel_rfl) (fun k hk => by cases hk) (by kernel_rfl) (laid_met os))) ?_
  intro W base args ds gs before hval0 hW hcnd hk0 hsz0 hL _ _
  have hval : ∀ (j : Nat) t v, Tryd.f3.params[j]? = some t → args[j]? = some v → Value.okWide Tryd.prog W .any base t v := hval0
  have hW' := hW
  obtain ⟨p, q, hAz, hV, rfl, hfz, hnd⟩ := hW
  have hA : DataW.TrodAll enc Tryd.prog W 0 (fun _ => true) true Tryd.f3.params.toList args.toList ds p := hAz
  have hsz : (DataW.weightsEach Tryd.prog (Tryd.f3.params.toList ++ Rows.chainBeginsSpec.plain.varTypes Tryd.prog) (ds ++ gs)).all (· ≤ reachBytes) = true := hsz0
  rw [Tryd.params3] at hA hval hsz
  obtain ⟨v0, vs0, d0, ds0, p0, q0, hargs, rfl, rfl, h0, r0⟩ := trodAll_cons hA
  obtain ⟨v1, vs1, d1, ds1, p1, q1, rfl, rfl, rfl, h1, r1⟩ := trodAll_cons r0
  obtain ⟨rfl, rfl, rfl⟩ := trodAll_nil r1
  obtain rfl : args = #[v0, v1] := by cases args; simp_all
  obtain ⟨rfl, rfl⟩ := trodVars_none hV
  have k0 := h0
  have lt0 : ∀ x ∈ p0, x.block < W.heap.size := by obtain ⟨m, hm⟩ := k0; exact DataW.trod_lt m _ _ _ hm
  obtain ⟨l0, hS0, hk0⟩ := ents_arg (hval 0 22 v0 rfl rfl) h0
  have hz0 : l0.length * 40 ≤ 140737488351232 := ents_reach hsz (j := 0) rfl rfl hk0
  have k1 := h1
  have lt1 : ∀ x ∈ p1, x.block < W.heap.size := by obtain ⟨m, hm⟩ := k1; exact DataW.trod_lt m _ _ _ hm
  obtain ⟨l1, hS1, hk1⟩ := ents_arg (hval 1 22 v1 rfl rfl) h1
  have hz1 : l1.length * 40 ≤ 140737488351232 := ents_reach hsz (j := 1) rfl rfl hk1
  clear hAz hval0
  refine (Ch.lawBegins_any W (Pr.tabs hL).1 (Pr.tabs hL).2 hS0 hS1 hz0 hz1).mono fun e W' ⟨he, bel⟩ => ?_
  have bel : Below W.heap.size W W' := bel
  subst he
  exact ⟨_, rfl, _, _, _, [], _, [], hW', trodAll_mk1 (shut_bool Tryd.underlying4 _), (trodAll_cons_mk (Below.trod laidOut (by kernel_rfl) (of_decide_eq_true (by kernel_rfl)) k0 bel lt0) (trodAll_cons_mk (Below.trod laidOut (by kernel_rfl) (of_decide_eq_true (by kernel_rfl)) k1 bel lt1) trodAll_mk0)), rfl, bel.frame _, fun h => by cases h⟩

theorem said : Rows.ChainBeginsSaid :=
  OpenClaim.holds_of_cond 3 Tryd.f3 rfl rfl rfl rfl rfl rfl rfl ⟨rfl, rfl, rfl, rfl, rfl⟩ rfl rfl rfl rfl rfl (by kernel_rfl) Tryd.func3 (by kernel_rfl)
    (of_decide_eq_true (by kernel_rfl)) (by unfold Func.isWrapper; first | (rw [if_pos (by decide +kernel)]; kernel_rfl) | (rw [if_neg (by decide +kernel)]; exact ⟨rfl, rfl⟩))
    (fun os started H enc _ F => by rw [OpenClaim.pre_eq_preRow]; exact lifted os started H enc F)

theorem plain (f : FuncId) (fn : Func) (hf : Tryd.pinned.checked.prog.funcNamed "suffragan/suffraganlaw17.ChainBegins" = some f) (hfn : Tryd.pinned.checked.prog.funcs[f]? = some fn) :
    true = Tryd.pinned.checked.prog.looks [] ∧ ∀ (j : Nat) t, fn.params[j]? = some t → Tryd.pinned.checked.prog.wantsStandIn t = false := by
  obtain rfl : f = 3 := Option.some.inj ((show Tryd.prog.funcNamed "suffragan/suffraganlaw17.ChainBegins" = some 3 by kernel_rfl).symm.trans hf) |>.symm
  obtain rfl : fn = Tryd.f3 := (Option.some.inj (Tryd.func3.symm.trans hfn)).symm
  refine ⟨by kernel_rfl, fun j t ht => ?_⟩
  rw [Tryd.params3] at ht
  have hm := Array.mem_of_getElem? ht
  simp only [Array.mem_def, List.mem_cons, List.mem_nil_iff, or_false, or_self] at hm
  subst hm
  exact (show Tryd.prog.wantsStandIn 22 = false by kernel_rfl)

theorem proved : Rows.ChainBeginsCardSaid :=
  Claim7.holds_tied_plain_at .later [] _ _ _ _ said (fun _ h => by cases h) (by kernel_rfl) (fun _ h => by cases h) chainBegins_row_tie rfl ⟨rfl, rfl⟩ (by kernel_rfl) rfl plain (by kernel_rfl)
#print axioms proved
end Go.Proofs.YtbpfabhlngfciaaDoor.chainBegins
