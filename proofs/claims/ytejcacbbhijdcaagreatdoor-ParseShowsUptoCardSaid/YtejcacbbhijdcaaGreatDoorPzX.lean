/- parse: the reference's Show, walked. -/
import Derived.Test.YtejcacbbhijdcaaGreatDoorPzW
import Derived.Deep.Upon
import Derived.Deep.AppendSrc
namespace Go.Proofs.YtejcacbbhijdcaaGreatDoor.Pr
open Go.ChangeShapes Go.WideShapes Go.ChangeAt Go.RowKit
open Base Lx Mi Piece
set_option linter.unusedVariables false
set_option linter.unusedSimpArgs false

theorem bs_eq {S : ByteArray} {l : List UInt8} (h : bs S = l) : S = ⟨l.toArray⟩ := by
  rw [← h]
  cases S
  simp [bs]
set_option maxRecDepth 100000 in
set_option maxHeartbeats 2000000 in
theorem refShow_any (v : Value) (ns : List Ne) (w : World) (hS : Sch w.heap.size w v ns) (hL : showRLen ns ≤ 100000000) :
    Calls Tryz.prog 8 #[.agg #[v]] w fun e w' => e = .returned (shV (showP ns)) ∧ Ext w w' := by
  rw [← show_r]
  obtain ⟨A, c, rfl⟩ := hS.slice
  obtain ⟨n, hn⟩ : ∃ z, Hid (ns.length = z) := ⟨_, rfl⟩
  obtain ⟨q, hq⟩ : ∃ z, Hid (w.heap.size = z) := ⟨_, rfl⟩
  obtain ⟨w1, hw1⟩ : ∃ z, Hid (w.alloc (.cells #[.slice A n c] 24) = z) := ⟨_, rfl⟩
  obtain ⟨w2, hw2⟩ : ∃ z, Hid (w1.alloc (.cells #[.slice A n c, .string ⟨#[]⟩, .int .i64 0, .bool false] 41) = z) := ⟨_, rfl⟩
  have hx1 : Ext w w1 := by rw [← hw1.out]; exact (Ext.refl w).alloc _
  have hs1 : w1.heap.size = q + 1 := by rw [← hw1.out, ← hq.out]; simp
  have hb1 : Blk w1 q #[.slice A n c] 24 := by rw [← hw1.out, ← hq.out]; exact Blk.new w _ _
  have hx2 : Ext w1 w2 := by rw [← hw2.out]; exact (Ext.refl w1).alloc _
  have hb2 : Blk w2 (q + 1) #[.slice A n c, .string ⟨#[]⟩, .int .i64 0, .bool false] 41 := by rw [← hw2.out, ← hs1]; exact Blk.new w1 _ _
  have hbq2 := hb1.ext hx2
  have hI : RInv q w2 (q + 1) (.slice A n c) ⟨[], 0, false⟩ := ⟨⟨⟨#[]⟩, rfl, hb2⟩, by omega⟩
  have hxw2 := hx1.trans hx2
  rw [hq.out] at hS
  rw [hn.out] at hS
  have hbe2 : Below q w w2 := by rw [← hq.out]; exact hxw2
  have hT := rtyped_all 20 0 rfl 0 ⟨[], 0, false⟩ w2 hI (hS.below hbe2) hL
  rw [show ((0 : Nat) : Int) = 0 from rfl] at hT
  obtain ⟨st, hst⟩ : ∃ z, Hid (rtyp ns 20 0 ⟨[], 0, false⟩ = z) := ⟨_, Lib.hid rfl⟩
  have hsh : showR ns = if st.bad = true ∨ st.next ≠ ns.length then none else if (parseP ⟨st.s.toArray⟩).2.2 ≠ 0 ∨ (parseP ⟨st.s.toArray⟩).1.map Nd.toE ≠ ns then none else some st.s := by rw [← hst.out]; rfl
  rw [hst.out] at hT
  have hL : st.s.length ≤ 100000000 := by have : showRLen ns = st.s.length := by rw [← hst.out]; rfl
                                          omega
  obtain ⟨o, ho⟩ : ∃ z, Hid (showR ns = z) := ⟨_, Lib.hid rfl⟩
  rw [ho.out] at hsh ⊢
  replace hsh := Lib.hid hsh
  obtain ⟨PO, hPO⟩ : ∃ PO : Ending → World → Prop, Hid ((fun e w' => e = .returned (shV o) ∧ Ext w w') = PO) := ⟨_, Lib.hid rfl⟩
  rw [hPO.out, hn.out]
  clear hb2 hI
  go_enter Tryz.func8, Tryz.ntmps8
  go_wp2_with fail
  rw [hw1.out, hq.out, hw2.out]
  refine hT.mono ?_
  rintro e w3 ⟨rfl, hk3, h3⟩
  have hx3 : Ext w w3 := Ext.chg hxw2 hk3 (fun i hi e => by have e : i = q + 1 := e; have := hq.out; omega)
  have hbq3 := hk3.blk hbq2 (by omega)
  obtain ⟨S, hSs, hb3⟩ := h3.blk
  have c1 : w3.cell? ⟨q + 1, 1, none⟩ = some (.string S) := hb3.cell 1
  have c2 : w3.cell? ⟨q + 1, 2, none⟩ = some (.int .i64 (st.next : Int)) := hb3.cell 2
  have c3 : w3.cell? ⟨q + 1, 3, none⟩ = some (.bool st.bad) := hb3.cell 3
  have e1 : ∀ W, Ext w3 W → W.cell? ⟨q, 0, none⟩ = some (.slice A n c) := fun W hW => (hbq3.ext hW).cell 0
  have e0 : ∀ W, Ext w3 W → W.cell? ⟨q + 1, 1, none⟩ = some (.string S) := fun W hW => hW.cell c1
  obtain ⟨nx, hnx⟩ : ∃ z, Hid (st.next = z) := ⟨_, rfl⟩
  have e3 : ∀ W, Ext w3 W → W.cell? ⟨q + 1, 2, none⟩ = some (.int .i64 (nx : Int)) := fun W hW => by rw [← hnx.out]; exact hW.cell c2
  clear hT
  by_cases hbad : st.bad = true
  · have ho0 : o = none := by rw [hsh.out, if_pos (.inl hbad)]
    have e4 : ∀ W, Ext w3 W → W.cell? ⟨q + 1, 3, none⟩ = some (.bool true) := fun W hW => by rw [← hbad]; exact hW.cell c3
    clear c1 c2 c3 hbad hb3 h3 hSs
    go_wp2_with fail
    refine Reg.startE (by kernel_rfl) ?_
    refine Reg.tk 0 ?_; (try simp only [Reg.n1, Reg.n2, Reg.n3, Reg.n4, Reg.n5, Reg.n6, Reg.n7])
    refine Reg.tk 1 ?_; (try simp only [Reg.n1, Reg.n2, Reg.n3, Reg.n4, Reg.n5, Reg.n6, Reg.n7])
    refine Reg.tk 2 ?_; (try simp only [Reg.n1, Reg.n2, Reg.n3, Reg.n4, Reg.n5, Reg.n6, Reg.n7])
    refine Reg.tk 3 ?_; (try simp only [Reg.n1, Reg.n2, Reg.n3, Reg.n4, Reg.n5, Reg.n6, Reg.n7])
    refine Reg.tk 4 ?_; (try simp only [Reg.n1, Reg.n2, Reg.n3, Reg.n4, Reg.n5, Reg.n6, Reg.n7])
    refine Reg.sk 5 ?_; (try simp only [Reg.n1, Reg.n2, Reg.n3, Reg.n4, Reg.n5, Reg.n6, Reg.n7])
    refine Reg.sk 6 ?_; (try simp only [Reg.n1, Reg.n2, Reg.n3, Reg.n4, Reg.n5, Reg.n6, Reg.n7])
    refine Reg.sk 7 ?_; (try simp only [Reg.n1, Reg.n2, Reg.n3, Reg.n4, Reg.n5, Reg.n6, Reg.n7])
    refine Reg.sk 8 ?_; (try simp only [Reg.n1, Reg.n2, Reg.n3, Reg.n4, Reg.n5, Reg.n6, Reg.n7])
    refine Reg.sk 9 ?_; (try simp only [Reg.n1, Reg.n2, Reg.n3, Reg.n4, Reg.n5, Reg.n6, Reg.n7])
    refine Reg.sk 10 ?_; (try simp only [Reg.n1, Reg.n2, Reg.n3, Reg.n4, Reg.n5, Reg.n6, Reg.n7])
    refine Reg.sk 11 ?_; (try simp only [Reg.n1, Reg.n2, Reg.n3, Reg.n4, Reg.n5, Reg.n6, Reg.n7])
    refine Reg.sk 12 ?_; (try simp only [Reg.n1, Reg.n2, Reg.n3, Reg.n4, Reg.n5, Reg.n6, Reg.n7])
    refine Reg.tk 13 ?_; (try simp only [Reg.n1, Reg.n2, Reg.n3, Reg.n4, Reg.n5, Reg.n6, Reg.n7])
    refine Reg.fin (by kernel_rfl) (fun W hW => ?_)
    clear e0 e1 e3 e4
    go_wp2_with fail
    rw [← hPO.out, ho0]
    exact ⟨rfl, hx3.trans hW⟩
  · have hbad' : st.bad = false := by simpa using hbad
    have e4 : ∀ W, Ext w3 W → W.cell? ⟨q + 1, 3, none⟩ = some (.bool false) := fun W hW => by rw [← hbad']; exact hW.cell c3
    clear c1 c2 c3 h3
    by_cases hnn : nx = n
    · have hnb : ((nx : Int) != (n : Int)) = false := by simp [hnn]
      obtain ⟨r, hr⟩ : ∃ z, Hid (parseP ⟨st.s.toArray⟩ = z) := ⟨_, Lib.hid rfl⟩
      have hSS : S = ⟨st.s.toArray⟩ := bs_eq hSs
      have hsz : (⟨st.s.toArray⟩ : ByteArray).size = st.s.length := by simp [ByteArray.size]
      have hpar := fun W => refParse_any ⟨st.s.toArray⟩ (by rw [hsz]; omega) W
      simp only [parse_q] at hpar
      have hres : o = if r.2.2 ≠ 0 ∨ r.1.map Nd.toE ≠ ns then none else some st.s := by
        rw [hsh.out, if_neg (by rintro (e | e); exact hbad e; exact e (by rw [hnx.out, hnn, hn.out])), hr.out]
      simp only [hr.out] at hpar
      have hrg : ∀ d ∈ r.1, -9223372036854775808 ≤ d.size ∧ d.size ≤ 9223372036854775807 := by rw [← hr.out]; exact parse_rng _
      simp only [← hSS] at hpar
      replace hSS := Lib.hid hSS
      clear hsz hSs
      have Hres := Lib.hid hres
      clear hres hsh
      go_wp2_with fail
      refine Reg.startE (by kernel_rfl) ?_
      refine Reg.tk 0 ?_; (try simp only [Reg.n1, Reg.n2, Reg.n3, Reg.n4, Reg.n5, Reg.n6, Reg.n7])
      refine Reg.tk 1 ?_; (try simp only [Reg.n1, Reg.n2, Reg.n3, Reg.n4, Reg.n5, Reg.n6, Reg.n7])
      refine Reg.tk 2 ?_; (try simp only [Reg.n1, Reg.n2, Reg.n3, Reg.n4, Reg.n5, Reg.n6, Reg.n7])
      refine Reg.tk 3 ?_; (try simp only [Reg.n1, Reg.n2, Reg.n3, Reg.n4, Reg.n5, Reg.n6, Reg.n7])
      refine Reg.tk 4 ?_; (try simp only [Reg.n1, Reg.n2, Reg.n3, Reg.n4, Reg.n5, Reg.n6, Reg.n7])
      refine Reg.tk 5 ?_; (try simp only [Reg.n1, Reg.n2, Reg.n3, Reg.n4, Reg.n5, Reg.n6, Reg.n7])
      refine Reg.tk 6 ?_; (try simp only [Reg.n1, Reg.n2, Reg.n3, Reg.n4, Reg.n5, Reg.n6, Reg.n7])
      refine Reg.tk 7 ?_; (try simp only [Reg.n1, Reg.n2, Reg.n3, Reg.n4, Reg.n5, Reg.n6, Reg.n7])
      refine Reg.tk 8 ?_; (try simp only [Reg.n1, Reg.n2, Reg.n3, Reg.n4, Reg.n5, Reg.n6, Reg.n7])
      refine Reg.tk 9 ?_; (try simp only [Reg.n1, Reg.n2, Reg.n3, Reg.n4, Reg.n5, Reg.n6, Reg.n7])
      refine Reg.tk 10 ?_; (try simp only [Reg.n1, Reg.n2, Reg.n3, Reg.n4, Reg.n5, Reg.n6, Reg.n7])
      refine Reg.tk 11 ?_; (try simp only [Reg.n1, Reg.n2, Reg.n3, Reg.n4, Reg.n5, Reg.n6, Reg.n7])
      refine Reg.tk 12 ?_; (try simp only [Reg.n1, Reg.n2, Reg.n3, Reg.n4, Reg.n5, Reg.n6, Reg.n7])
      refine Reg.tk 13 ?_; (try simp only [Reg.n1, Reg.n2, Reg.n3, Reg.n4, Reg.n5, Reg.n6, Reg.n7])
      refine Reg.fin (by kernel_rfl) (fun W hW => ?_)
      have hp := hpar W
      have d1 := e0 W hW
      have hbqW := hbq3.ext hW
      have hxW := hx3.trans hW
      have hb3W := hb3.ext hW
      clear e0 e1 e3 e4 hpar
      go_wp2_with fail
      go_fit hp
      rintro e w5 ⟨v5, vs5, rfl, hnd, hx5⟩
      obtain ⟨A5, c5, rfl, jj1, jj2, jj3, jj4⟩ := Rd.of_own hnd.row
      clear jj1 jj2 jj3 jj4 hp
      obtain ⟨n5, hn5⟩ : ∃ z, Hid (r.1.length = z) := ⟨_, Lib.hid rfl⟩
      rw [hn5.out] at hnd ⊢
      obtain ⟨w6, hw6⟩ : ∃ z, Hid (w5.alloc (.cells #[.slice A5 n5 c5] 24) = z) := ⟨_, rfl⟩
      have hx6 : Ext w5 w6 := by rw [← hw6.out]; exact (Ext.refl w5).alloc _
      obtain ⟨q6, hq6⟩ : ∃ z, Hid (w5.heap.size = z) := ⟨_, rfl⟩
      have hb6 : Blk w6 q6 #[.slice A5 n5 c5] 24 := by rw [← hw6.out, ← hq6.out]; exact Blk.new w5 _ _
      have hbq6 : w6.cell? ⟨q, 0, none⟩ = some (.slice A n c) := ((hbqW.ext hx5).ext hx6).cell 0
      have hbs6 : ∀ W', Ext w6 W' → W'.cell? ⟨q + 1, 1, none⟩ = some (.string S) := fun W' hW' => (((hb3W.ext hx5).ext hx6).ext hW').cell 1
      have hc6 : w6.cell? ⟨q6, 0, none⟩ = some (.slice A5 n5 c5) := hb6.cell 0
      rw [← hw6.out] at hbq6
      have hx06 : Ext w w6 := (hxW.trans hx5).trans hx6
      have hSo : Sch w5.heap.size w6 (.slice A n c) ns := (hS.below (by rw [← hq.out]; exact hx06)).mono (by have := (hxW.trans hx5).size; have := hq.out; omega)
      have hSp : Sch w5.heap.size w6 (.slice A5 n5 c5) (r.1.map Nd.toE) := (Sch.ofNds hnd (Nat.le_refl _) hrg).below hx6
      have hcmp := rsame_any (w := w6) hSp hSo hx6.size
      clear d1 hb3W hbqW hb3 hbq3
      by_cases her : r.2.2 = 0
      · have hrb : (r.2.2 != 0) = false := by simpa using her
        by_cases hqq : r.1.map Nd.toE = ns
        · have ho0 : o = some st.s := by rw [Hres.out, if_neg (by rintro (e | e); exact e her; exact e hqq)]
          rw [show decide (r.1.map Nd.toE = ns) = true by simpa using hqq] at hcmp
          clear hSo hSp hqq
          go_wp2_with fail
          rw [hw6.out]
          refine hcmp.mono ?_
          rintro e w7 ⟨rfl, hx7⟩
          have g7 := hbs6 w7 hx7
          clear hbs6
          go_wp2_with fail
          rw [← hPO.out, ho0, hSS.out]
          exact ⟨rfl, hx06.trans hx7⟩
        · have ho0 : o = none := by rw [Hres.out, if_pos (.inr hqq)]
          rw [show decide (r.1.map Nd.toE = ns) = false by simpa using hqq] at hcmp
          clear hSo hSp hqq hbs6
          go_wp2_with fail
          rw [hw6.out]
          refine hcmp.mono ?_
          rintro e w7 ⟨rfl, hx7⟩
          go_wp2_with fail
          rw [← hPO.out, ho0]
          exact ⟨rfl, hx06.trans hx7⟩
      · have hrb : (r.2.2 != 0) = true := by simpa using her
        have ho0 : o = none := by rw [Hres.out, if_pos (.inl her)]
        clear hcmp hSo hSp hbs6
        go_wp2_with fail
        rw [hw6.out]
        rw [← hPO.out, ho0]
        exact ⟨rfl, hx06⟩
    · have hnb : ((nx : Int) != (n : Int)) = true := by simpa using (by omega : ¬ (nx : Int) = (n : Int))
      have ho0 : o = none := by rw [hsh.out, if_pos (.inr (by rw [hnx.out, hn.out]; exact hnn))]
      clear hb3 hSs
      go_wp2_with fail
      refine Reg.startE (by kernel_rfl) ?_
      refine Reg.tk 0 ?_; (try simp only [Reg.n1, Reg.n2, Reg.n3, Reg.n4, Reg.n5, Reg.n6, Reg.n7])
      refine Reg.tk 1 ?_; (try simp only [Reg.n1, Reg.n2, Reg.n3, Reg.n4, Reg.n5, Reg.n6, Reg.n7])
      refine Reg.tk 2 ?_; (try simp only [Reg.n1, Reg.n2, Reg.n3, Reg.n4, Reg.n5, Reg.n6, Reg.n7])
      refine Reg.tk 3 ?_; (try simp only [Reg.n1, Reg.n2, Reg.n3, Reg.n4, Reg.n5, Reg.n6, Reg.n7])
      refine Reg.tk 4 ?_; (try simp only [Reg.n1, Reg.n2, Reg.n3, Reg.n4, Reg.n5, Reg.n6, Reg.n7])
      refine Reg.tk 5 ?_; (try simp only [Reg.n1, Reg.n2, Reg.n3, Reg.n4, Reg.n5, Reg.n6, Reg.n7])
      refine Reg.tk 6 ?_; (try simp only [Reg.n1, Reg.n2, Reg.n3, Reg.n4, Reg.n5, Reg.n6, Reg.n7])
      refine Reg.tk 7 ?_; (try simp only [Reg.n1, Reg.n2, Reg.n3, Reg.n4, Reg.n5, Reg.n6, Reg.n7])
      refine Reg.tk 8 ?_; (try simp only [Reg.n1, Reg.n2, Reg.n3, Reg.n4, Reg.n5, Reg.n6, Reg.n7])
      refine Reg.tk 9 ?_; (try simp only [Reg.n1, Reg.n2, Reg.n3, Reg.n4, Reg.n5, Reg.n6, Reg.n7])
      refine Reg.tk 10 ?_; (try simp only [Reg.n1, Reg.n2, Reg.n3, Reg.n4, Reg.n5, Reg.n6, Reg.n7])
      refine Reg.tk 11 ?_; (try simp only [Reg.n1, Reg.n2, Reg.n3, Reg.n4, Reg.n5, Reg.n6, Reg.n7])
      refine Reg.tk 12 ?_; (try simp only [Reg.n1, Reg.n2, Reg.n3, Reg.n4, Reg.n5, Reg.n6, Reg.n7])
      refine Reg.tk 13 ?_; (try simp only [Reg.n1, Reg.n2, Reg.n3, Reg.n4, Reg.n5, Reg.n6, Reg.n7])
      refine Reg.fin (by kernel_rfl) (fun W hW => ?_)
      clear e0 e1 e3 e4
      go_wp2_with fail
      rw [← hPO.out, ho0]
      exact ⟨rfl, hx3.trans hW⟩
end Go.Proofs.YtejcacbbhijdcaaGreatDoor.Pr
/- append onto a new empty slice of one's own: nothing that was there changes. -/
namespace Go.Proofs.YtejcacbbhijdcaaGreatDoor.Pr
open Go.ChangeShapes Go.WideShapes Go.ChangeAt Go.RowKit
open Base
set_option linter.unusedVariables false

theorem app0_run {P : Program} {t e : TypeId} {z : Value} {size bytes : Nat} (E : El P t e z size bytes) (w : World) (ty : TypeId) (base : Nat)
    (g : Nat) (hown : w.ownsRow base e size (.slice (some ⟨g, 0, none⟩) 0 0) 0 [])
    (A : Option Addr) (m c : Nat) (news : List Value) (hr : Rd w A news) (hl : news.length = m * size) (hA : A = none → c = 0)
    (hbytes : m * bytes ≤ 140737488355328) (hby : 0 < bytes) (hbase : base ≤ w.heap.size) :
    ∃ v' w', (Builtin.append_ #[t, t] ty #[.slice (some ⟨g, 0, none⟩) 0 0, .slice A m c]).run P w = .ok v' w' ∧ w'.ownsRow base e size v' m news ∧ Ext w w' := by
  obtain ⟨i, hi, hz, hs, hb⟩ := info_parts E.info
  have hpos := E.pos
  by_cases hne : news = []
  · subst hne
    have hm : m = 0 := by
      rcases Nat.eq_zero_or_pos m with h | h
      · exact h
      · have := Nat.mul_pos h hpos; simp at hl; omega
    subst hm
    refine ⟨_, w, ?_, hown, Ext.refl w⟩
    cases A with
    | none =>
      rw [hA rfl]
      exact run_append_nothing (P := P) w t t ty e i E.under hi (some ⟨g, 0, none⟩) 0 0 (Nat.le_refl _) _ (Src.ofNil (P := P) (w := w) E.under 0)
    | some ad =>
      exact run_append_nothing (P := P) w t t ty e i E.under hi (some ⟨g, 0, none⟩) 0 0 (Nat.le_refl _) _ (Src.ofSlice (P := P) (w := w) E.under ad 0 c [] (by simp) (by simp) (fun u hu => by cases hu))
  · obtain ⟨b, off, rfl, hc⟩ := hr hne
    have hm : 0 < m := by
      rcases Nat.eq_zero_or_pos m with h | h
      · subst h; rw [Nat.zero_mul] at hl; exact absurd (List.eq_nil_of_length_eq_zero hl) hne
      · exact h
    have h63 : m ≤ maxLen := by
      have h : m * 1 ≤ m * bytes := Nat.mul_le_mul_left _ hby
      unfold maxLen; omega
    have h63' : ((0 + m : Nat) : Int) ≤ 9223372036854775807 := by unfold maxLen at h63; omega
    have hr := run_append_grow (P := P) w t ty e i z E.under hi hz ⟨g, 0, none⟩ 0 0 [] (by simp) (by simp) ⟨b, off, none⟩ m c news (by rw [hs]; exact hl) (fun j u hj => by
      have hadd : (⟨b, off, none⟩ : Addr).add j = ⟨b, off + j, none⟩ := by unfold Addr.add; split <;> simp_all
      rw [hadd]; exact hc j u hj) (by omega) h63' (growslice_fits (by omega) (by rw [hb, Nat.zero_add]; exact hbytes))
    have hge := grownCap_ge w (0 + m) 0 e
    have hcm : grownCap w (0 + m) 0 e ≤ maxLen := grownCap_le_maxLen w (0 + m) 0 e (by omega)
    refine ⟨_, _, hr, ⟨hl, .inr ⟨w.heap.size, _, _, by rw [Nat.zero_add], hbase, heap_alloc_new w.drew _, by rw [Nat.zero_add] at hge; exact hge, by rw [Nat.zero_add] at hcm; exact hcm, ?_, ?_⟩⟩, ((Ext.refl w).drew).alloc _⟩
    · have e1 : m * size + (grownCap w (0 + m) 0 e - (0 + m)) * size = grownCap w (0 + m) 0 e * size := by
        rw [← Nat.add_mul]; congr 1; omega
      simp only [Array.size_append, List.size_toArray, size_zeroCells, E.cells, hl, List.length_nil, Nat.zero_add] at e1 ⊢
      exact e1
    · simp only [Array.toList_append, List.append_assoc]
      rw [← hl]
      simp
theorem wp_app0 {P : Program} {t e : TypeId} {z : Value} {size bytes : Nat} (E : El P t e z size bytes) (w : World) {o : Oper} {a : Act} {K : Act → World → Prop} {Q : Exit → Act → World → Prop} (s x : Operand)
    (ho : o.op = .call { callee := .builtin .append, args := #[s, x], argTypes := #[t, t] }) (base : Nat)
    (g : Nat) (hs : a.eval s = .slice (some ⟨g, 0, none⟩) 0 0) (hown : w.ownsRow base e size (.slice (some ⟨g, 0, none⟩) 0 0) 0 [])
    (A : Option Addr) (m c : Nat) (news : List Value) (hx : a.eval x = .slice A m c) (hr : Rd w A news) (hl : news.length = m * size) (hA : A = none → c = 0)
    (hbytes : m * bytes ≤ 140737488355328) (hby : 0 < bytes) (hbase : base ≤ w.heap.size)
    (h : ∀ v' w', w'.ownsRow base e size v' m news → Ext w w' → K (a.put o.dst v') w') : o.wp P a w K Q := by
  obtain ⟨v', w', hrun, h2, h3⟩ := app0_run E w o.type base g hown A m c news hr hl hA hbytes hby hbase
  unfold Oper.wp execOp
  simp only [ho, resolve, invoke, builtin, Sem.run_bind, Sem.run_pure, Result.andThen_ok, List.map_toArray, List.map_cons, List.map_nil, hs, hx, hrun]
  exact h v' w' h2 h3
end Go.Proofs.YtejcacbbhijdcaaGreatDoor.Pr
/- parse: how deep a schema is, by the reference, walked. -/
namespace Go.Proofs.YtejcacbbhijdcaaGreatDoor.Pr
open Go.ChangeShapes Go.WideShapes Go.ChangeAt Go.RowKit
open Base Lx Mi Piece
set_option linter.unusedVariables false
set_option linter.unusedSimpArgs false

theorem dlist_append {D : DT} : ∀ (a b : List Int) (next most : Nat) {m nx : Nat}, dlist D a next most = some (m, nx) → dlist D (a ++ b) next most = dlist D b nx m
  | [], b, next, most, m, nx, e => by rw [dlist] at e; injection e with e; injection e with e1 e2; subst e1; subst e2; rfl
  | n :: a, b, next, most, m, nx, e => by
    rw [dlist] at e
    rw [List.cons_append, dlist]
    split at e
    · cases e
    · next d nx2 hd => exact dlist_append a b _ _ e
theorem intsZ_append (a b : List Int) : intsZ (a ++ b) = intsZ a ++ intsZ b := by simp [intsZ]
theorem intsZ_one (l : List Int) : ∀ u ∈ intsZ l, u.oneCell' = true := by
  intro u hu
  obtain ⟨x, _, rfl⟩ := List.mem_map.1 hu
  rfl
def LenL (M : Nat) (d : Ne) : Prop := d.items.length ≤ M ∧ d.fields.length ≤ M
def RdC (B : Nat) (v : Value) (ns : List Ne) (f : Nat) : Prop := ∀ (n : Int) (next d nx p : Nat) (w : World), Sch B w v ns → Blk w p #[v, .int .i64 (next : Int)] 48 → B ≤ p → dtyp ns f n next = some (d, nx) →
  Calls Tryz.prog 17 #[.pointer (some ⟨p, 0, none⟩), .int .i64 n] w fun e w' => e = .returned (.int .i64 (d : Int)) ∧ Chg (fun k => k = p) w w' ∧ Blk w' p #[v, .int .i64 (nx : Int)] 48
def RdA (B0 ni : Nat) (items types : List Int) (w2 : World) (i : Nat) (v5 : Value) (wr : World) : Prop := ∃ A5 c5, v5 = .slice A5 (ni + i) c5 ∧ Ext w2 wr ∧ wr.ownsRow B0 3 1 (.slice A5 (ni + i) c5) (ni + i) (intsZ (items ++ types.take i))
def RdB (p : Nat) (v : Value) (w3 : World) (D : DT) (l : List Int) (m nx : Nat) (i : Nat) (v6 : Value) (wr : World) : Prop := Chg (fun k => k = p) w3 wr ∧ ∃ next most : Nat, v6 = .int .i64 (most : Int) ∧ Blk wr p #[v, .int .i64 (next : Int)] 48 ∧ Hid (dlist D (l.drop i) next most = some (m, nx))
theorem chgp_below {B p : Nat} {w w' : World} (h : Chg (fun k => k = p) w w') (hp : B ≤ p) (hB : B ≤ w.heap.size) : Below B w w' := chg_below h (fun k e => by rw [e]; exact hp) hB

set_option maxRecDepth 100000 in
set_option maxHeartbeats 4000000 in
theorem rdeep_any {B : Nat} {v : Value} {ns : List Ne} {f : Nat} (hln1 : ∀ d ∈ ns, LenL 1500 d) (hf : f ≤ 19) (H : RdC B v ns f) : RdC B v ns (f + 1) := by
  intro n next d nx p w hS hb hBp hd
  have hBw : B ≤ w.heap.size := by have := hb.lt; omega
  rw [dtyp] at hd
  split at hd
  · cases hd
  next hrg =>
  simp only [not_or, Int.not_lt, Int.not_le] at hrg
  obtain ⟨hr0, hr1, hr2⟩ := hrg
  obtain ⟨j, rfl⟩ := Int.eq_ofNat_of_zero_le hr0
  have hjl : j < ns.length := by omega
  obtain ⟨x, hx⟩ : ∃ x, ns[j]? = some x := ⟨_, List.getElem?_eq_getElem hjl⟩
  have hLx := hln1 x (List.mem_of_getElem? hx)
  have hg : ns.getD j neD = x := by simp [List.getD, hx]
  obtain ⟨b, off, c, As, cs, Ai, ci, Af, cf, rfl, hbB, hsub, hcell⟩ := hS.node2 j x hx
  have hcm : ns.length ≤ 9223372036854775807 := by obtain ⟨vs, _, ⟨A, c, e, _, _, q1, q2, _⟩, _⟩ := hS; unfold maxLen at q2; omega
  obtain ⟨ln, hln⟩ : ∃ z, Hid (ns.length = z) := ⟨_, rfl⟩
  rw [hln.out] at hjl hcm H hS hb ⊢
  have cp0 : w.cell? ⟨p, 0, none⟩ = some (.slice (some ⟨b, off, none⟩) ln c) := hb.cell 0
  have cp1 : w.cell? ⟨p, 1, none⟩ = some (.int .i64 (next : Int)) := hb.cell 1
  split at hd
  · next hlt =>
    injection hd with hd; injection hd with hd hd2
    subst hd; subst hd2
    clear hcell
    go_enter Tryz.func17, Tryz.ntmps17
    go_wp2_with fail
    go_ret
    exact ⟨rfl, Chg.refl _ _, hb⟩
  · next hge =>
    rw [Int.toNat_natCast, hg] at hd
    obtain rfl : next = j := by omega
    split at hd
    · cases hd
    next m1 nx1 h1 =>
    split at hd
    · cases hd
    next m2 nx2 h2 =>
    injection hd with hd; injection hd with hd hd2
    subst hd; subst hd2
    have hm1 := dlist_le (F := f) (dtyp_le ns f) _ _ 0 (Nat.zero_le _) h1
    have hm2 := dlist_le (F := f) (dtyp_le ns f) _ _ m1 hm1 h2
    rw [← dlist_append _ _ _ _ h1] at h2
    obtain ⟨D, hD⟩ : ∃ D, D = dtyp ns f := ⟨_, rfl⟩
    have H : ∀ (n : Int) (next d nx p : Nat) (w : World), Sch B w (.slice (some ⟨b, off, none⟩) ln c) ns → Blk w p #[.slice (some ⟨b, off, none⟩) ln c, .int .i64 (next : Int)] 48 → B ≤ p → D n next = some (d, nx) → Calls Tryz.prog 17 #[.pointer (some ⟨p, 0, none⟩), .int .i64 n] w fun e w' => e = .returned (.int .i64 (d : Int)) ∧ Chg (fun k => k = p) w w' ∧ Blk w' p #[.slice (some ⟨b, off, none⟩) ln c, .int .i64 (nx : Int)] 48 := by rw [hD]; exact H
    rw [← hD] at h2
    have hDle : ∀ n next d nx, D n next = some (d, nx) → d ≤ f := by rw [hD]; exact dtyp_le ns f
    clear hD h1
    obtain ⟨types, hty⟩ : ∃ z, z = x.fields.map fun f => f.2.2 := ⟨_, rfl⟩
    rw [← hty] at h2
    have htl0 : types.length = x.fields.length := by rw [hty, List.length_map]
    replace hty := Lib.hid hty
    have hjnI : ¬ (next : Int) < (next : Int) := by omega
    have hwr : IntKind.i64.wrap ((next : Int) + 1) = (next : Int) + 1 := by rw [IntKind.wrap_i64]; omega
    have fp1 := hb.frozen 1
    obtain ⟨w2, hw2⟩ : ∃ z, Hid (w.setCell ⟨p, 1, none⟩ (.int .i64 ((next : Int) + 1)) = z) := ⟨_, rfl⟩
    have hch2 : Chg (fun k => k = p) w w2 := by rw [← hw2.out]; exact Chg.one w p 1 _
    have hb2 : Blk w2 p #[.slice (some ⟨b, off, none⟩) ln c, .int .i64 ((next + 1 : Nat) : Int)] 48 := by rw [← hw2.out]; exact hb.set 1 _
    have hlow2 := chgp_below hch2 hBp hBw
    have hBw2 : B ≤ w2.heap.size := by have := hch2.size; omega
    have hitems : Sl B w2 (.slice Ai x.items.length ci) x.items.length (intsZ x.items) := hsub.items.below hlow2
    have hfields : Sl B w2 (.slice Af x.fields.length cf) x.fields.length (fldsZ x.fields) := hsub.fields.below hlow2
    have hcell2 : ∀ W, Ext w2 W → W.cell? ⟨b, off + next * 6 + 4, none⟩ = some (.slice Ai x.items.length ci) ∧ W.cell? ⟨b, off + next * 6 + 5, none⟩ = some (.slice Af x.fields.length cf) := fun W hW => (hcell W (hlow2.trans (Below.mono hW hBw2))).2.2.2.2
    obtain ⟨ni, hni⟩ : ∃ z, Hid (x.items.length = z) := ⟨_, rfl⟩
    obtain ⟨nf, hnf⟩ : ∃ z, Hid (x.fields.length = z) := ⟨_, rfl⟩
    have hni2 : ni ≤ 1500 := by have := hni.out; have := hLx.1; omega
    have hnf2 : nf ≤ 1500 := by have := hnf.out; have := hLx.2; omega
    rw [hni.out] at hitems
    simp only [hni.out, hnf.out] at hcell2
    rw [hnf.out] at hfields
    have htl : types.length = nf := by rw [htl0]; exact hnf.out
    clear htl0
    replace htl := Lib.hid htl
    obtain ⟨B0, hB0⟩ : ∃ z, Hid (w2.heap.size = z) := ⟨_, rfl⟩
    have hpB0 : p < B0 := by have := hb2.lt; have := hB0.out; omega
    have hS5 : ∀ W, Ext w2 W → Sch B W (.slice (some ⟨b, off, none⟩) ln c) ns := fun W hW => hS.below (hlow2.trans (Below.mono hW hBw2))
    obtain ⟨A1, c1, e1, hnc1, hcm1, hA1, hat1⟩ := hitems.at_
    injection e1 with e1 _ e1'
    subst e1; subst e1'
    have hitA : Rd (w2.alloc (.cells #[] 3)) Ai (intsZ x.items) := by
      obtain ⟨A9, c9, e9, hrd9, _⟩ := hitems
      injection e9 with e9 _ _
      subst e9
      exact hrd9.ext ((Ext.refl w2).alloc _)
    have hxa : Ext w2 (w2.alloc (.cells #[] 3)) := (Ext.refl w2).alloc _
    have hlit : (w2.alloc (.cells #[] 3)).ownsRow B0 3 1 (.slice (some ⟨w2.heap.size, 0, none⟩) 0 0) 0 [] := World.ownsRow_lit w2 #[] 0 (by have := hB0.out; omega) (Nat.zero_le _) rfl
    have g4 := (hcell2 (w2.alloc (.cells #[] 3)) hxa).1
    have gp : (w2.alloc (.cells #[] 3)).cell? ⟨p, 0, none⟩ = some (.slice (some ⟨b, off, none⟩) ln c) := (hb2.ext hxa).cell 0
    rw [← hw2.out] at hitA hlit g4 gp hxa
    have hzw : (w.setCell ⟨p, 1, none⟩ (.int .i64 ((next : Int) + 1))).heap.size = w.heap.size := by simp
    rw [hzw] at hlit
    replace hA1 := Lib.hid hA1
    have hjI : (next : Int) < (ln : Int) := by omega
    have hszw : (w.setCell ⟨p, 1, none⟩ (.int .i64 ((next : Int) + 1))).heap.size = B0 := by rw [hw2.out, hB0.out]
    have hnil : (intsZ x.items).length = ni * 1 := by have := hni.out; simp [intsZ]; omega
    have hxaE : Ext w2 ((w.setCell ⟨p, 1, none⟩ (.int .i64 ((next : Int) + 1))).alloc (.cells #[] 3)) := by rw [hw2.out]; exact (Ext.refl w2).alloc _
    go_enter Tryz.func17, Tryz.ntmps17
    go_wp2_with (
      refine wpList_app el_int _ rfl (.tmp 24) (.tmp 33) rfl B0 _ 0 [] rfl hlit Ai ni ci (intsZ x.items) rfl hitA hnil hA1.out (intsZ_one _) (by omega) (by omega) (by simp; omega) (fun V1 w3 ho3 hg3 hv3 => ?_))
    have hx3 : Ext w2 w3 := Ext.then_grown hxaE hg3 (fun k hk => by
      have hk : some w.heap.size = some k := hk
      injection hk with hk
      have := hB0.out; omega)
    obtain ⟨A5, c5, rfl, jj1, jj2, jj3, jj4⟩ := Rd.of_own ho3
    clear jj1 jj2 jj3 jj4
    have hstart : RdA B0 ni x.items types w2 0 (.slice A5 (0 + ni) c5) w3 := ⟨A5, c5, by rw [Nat.add_comm], hx3, by rw [Nat.add_comm ni 0, List.take_zero, List.append_nil]; simpa using ho3⟩
    clear ho3 hg3 hv3 hlit hitA g4 gp hxa hcell hat1 hitems hxaE hw2 hS hx3
    go_wp2_with fail
    go_loopw [5, 7] (fun v5 v7 wr => ∃ i : Nat, i ≤ nf ∧ v7 = .int .i64 i ∧ RdA B0 ni x.items types w2 i v5 wr) (fun _ v7 _ => nf - (intOf v7).toNat)
    case atStart => exact ⟨0, by omega, rfl, hstart⟩
    case round =>
      obtain ⟨i, hi, rfl, A6, c6, rfl, hxr, hor⟩ := hrel
      clear hstart
      have z5 := (hcell2 wr hxr).2
      have zp : wr.cell? ⟨p, 0, none⟩ = some (.slice (some ⟨b, off, none⟩) ln c) := (hb2.ext hxr).cell 0
      by_cases hin : i < nf
      · have hin' : (i : Int) < (nf : Int) := by omega
        obtain ⟨A1, c1, e1, hnc1, hcm1, hA1, hat1⟩ := hfields.at_
        injection e1 with e1 _ e1'
        subst e1; subst e1'
        obtain ⟨⟨fn, fh, y⟩, hy⟩ : ∃ y, x.fields[i]? = some y := ⟨_, List.getElem?_eq_getElem (by have := hnf.out; omega)⟩
        have hyz := fldsZ_at x.fields i _ hy
        obtain ⟨b1, o1, rfl, hb1, hc1⟩ := hat1 (i * 3 + 2) (.int .i64 y) (by rw [hyz 2 (by omega)]; rfl)
        have d2 : wr.cell? ⟨b1, o1 + i * 3 + 2, none⟩ = some (.int .i64 y) := by have := hc1 wr (Below.mono hxr hBw2) (i * 3 + 2) (.int .i64 y) (by rw [hyz 2 (by omega)]; rfl); simpa [Nat.add_assoc] using this
        have hte : types[i]? = some y := by rw [hty.out, List.getElem?_map, hy]; rfl
        have htk : types.take (i + 1) = types.take i ++ [y] := by rw [List.take_add_one, hte]; rfl
        have hapd : x.items ++ types.take (i + 1) = (x.items ++ types.take i) ++ [y] := by rw [htk, List.append_assoc]
        have hszr := hxr.size
        have hBr : B0 ≤ wr.heap.size := by have := hB0.out; omega
        have ho1 := own_ext hor ((Ext.refl wr).alloc (.cells #[.int .i64 y] 3))
        obtain ⟨IT, hIT⟩ : ∃ z, Hid (intsZ (x.items ++ types.take i) = z) := ⟨_, rfl⟩
        have hIT1 : ∀ u ∈ IT, u.oneCell' = true := by rw [← hIT.out]; exact intsZ_one _
        have hap2 : intsZ (x.items ++ types.take (i + 1)) = IT ++ [.int .i64 y] := by rw [hapd, intsZ_append, hIT.out]; rfl
        rw [hIT.out] at ho1
        replace hap2 := Lib.hid hap2
        obtain ⟨N6, hN6⟩ : ∃ N6, N6 = ni + i := ⟨_, rfl⟩
        rw [← hN6] at ho1 ⊢
        have hN6b : N6 ≤ 3000 := by omega
        replace hN6 := Lib.hid hN6
        clear hy hyz hc1 hat1 hte htk hapd hor
        go_wp2_with (
          refine wpList_app el_int _ rfl (.tmp 49) (.tmp 63) rfl B0 (.slice A6 N6 c6) N6 IT rfl ho1 (some ⟨wr.heap.size, 0, none⟩) 1 1 [.int .i64 y] rfl (Rd.of_block wr 3 (0, 0) rfl) rfl (fun h => by cases h) (intsZ_one [y]) (by omega) (by omega) (by simp; omega) (fun V4 w4 ho4 hg4 hv4 => ?_))
        have hx4 : Ext w2 w4 := Ext.then_grown (hxr.alloc _) hg4 (fun k hk => by have := (ho1.lt k hk).1; have := hB0.out; omega)
        obtain ⟨A7, c7, rfl, jj1, jj2, jj3, jj4⟩ := Rd.of_own ho4
        clear jj1 jj2 jj3 jj4
        have hrel' : RdA B0 ni x.items types w2 (i + 1) (.slice A7 (N6 + 1) c7) w4 := by
          have e : N6 + 1 = ni + (i + 1) := by rw [hN6.out]; omega
          rw [e] at ho4 ⊢
          exact ⟨A7, c7, rfl, hx4, by rw [hap2.out]; exact ho4⟩
        clear ho1 ho4 hg4 hv4
        go_wp2_with fail
        go_roundw
        case rel => exact ⟨i + 1, by omega, by go_num, hrel'⟩
        case measure => simp [intOf]; omega
      · obtain rfl : i = nf := by omega
        obtain ⟨w5, hw5⟩ : ∃ z, z = wr := ⟨_, rfl⟩
        subst hw5
        rw [List.take_of_length_le (by rw [htl.out]; omega)] at hor
        obtain ⟨L, hL⟩ : ∃ L, Hid (x.items ++ types = L) := ⟨_, Lib.hid rfl⟩
        rw [hL.out] at hor h2
        obtain ⟨M, hM⟩ : ∃ M, M = ni + i := ⟨_, rfl⟩
        rw [← hM] at hor ⊢
        have hLM : L.length = M := by rw [← hL.out, List.length_append, htl.out, hM]; have := hni.out; omega
        have hMb : M ≤ 3000 := by omega
        have hstart : RdB p (.slice (some ⟨b, off, none⟩) ln c) w5 D L m2 nx2 0 (.int .i64 0) w5 := ⟨Chg.refl _ _, next + 1, 0, rfl, hb2.ext hxr, by rw [List.drop_zero]; exact Lib.hid h2⟩
        have hSl := Sl.ofOwn hor (Nat.le_refl _)
        have hpw5 : p < w5.heap.size := by have := hxr.size; have := hB0.out; omega
        have hSw5 : Sch B w5 (.slice (some ⟨b, off, none⟩) ln c) ns := hS5 w5 hxr
        have hBw5 : B ≤ w5.heap.size := by have := hxr.size; omega
        have hop : ∀ k, (Value.slice A6 M c6).ownBlock = some k → ¬ k = p := fun k hk e => by have := (hor.lt k hk).1; omega
        have hch5 : Chg (fun k => k = p) w w5 := hch2.trans (Chg.ofExt (S := fun k => k = p) hxr) (fun _ _ e => e)
        obtain ⟨A9, c9, e9, hrd9, hbl9, hnc9, hcm9, hA9⟩ := hSl
        injection e9 with e9a e9b e9c
        subst e9a; subst e9c
        unfold maxLen at hcm9
        have hLM2 := Lib.hid hLM
        clear hM hLM h2 hor htl
        go_wp2_with fail
        go_loopw [6, 8] (fun v6 v8 wr => ∃ i : Nat, i ≤ M ∧ v8 = .int .i64 i ∧ RdB p (.slice (some ⟨b, off, none⟩) ln c) w5 D L m2 nx2 i v6 wr) (fun _ v8 _ => M - (intOf v8).toNat)
        case atStart => exact ⟨0, by omega, rfl, hstart⟩
        case round =>
          clear hin hi
          obtain ⟨i, hi, rfl, hch, nxt, most, rfl, hbp, hdl⟩ := hrel
          clear hstart
          have hmm := dlist_mono _ _ _ hdl.out
          by_cases hin : i < M
          · have hin' : (i : Int) < (M : Int) := by omega
            obtain ⟨y, hy⟩ : ∃ y, L[i]? = some y := ⟨_, List.getElem?_eq_getElem (by have := hLM2.out; omega)⟩
            have hyz : (intsZ L)[i]? = some (.int .i64 y) := by unfold intsZ; rw [List.getElem?_map, hy]; rfl
            obtain ⟨b1, o1, rfl, hc1⟩ := hrd9 (by intro e; rw [e] at hyz; simp at hyz)
            have hb1p : ¬ b1 = p := hop b1 rfl
            have d1 : wr.cell? ⟨b1, o1 + i, none⟩ = some (.int .i64 y) := hch.cell (hc1 i _ hyz) hb1p
            have hdrop : L.drop i = y :: L.drop (i + 1) := List.drop_eq_getElem?_toList_append .. |>.trans (by rw [hy]; rfl)
            have hd2 := hdl.out
            rw [hdrop, dlist] at hd2
            split at hd2
            · cases hd2
            next dd nx3 hdd =>
            have hcall := H y nxt dd nx3 p wr (hSw5.below (chgp_below hch hBp hBw5)) hbp hBp hdd
            have hdd2 := hDle _ _ _ _ hdd
            have hd3 := Lib.hid hd2
            clear hd2 hdd hdrop hdl hy hyz hc1
            go_wp2_with fail
            refine hcall.mono ?_
            rintro e w6 ⟨rfl, hch6, hbp6⟩
            have hchT : Chg (fun k => k = p) w5 w6 := hch.trans hch6 (fun _ _ e => e)
            clear hcall
            by_cases hmx : most < dd
            · have hmxI : (most : Int) < (dd : Int) := by omega
              go_wp2_with fail
              go_roundw
              case rel => exact ⟨i + 1, by omega, by go_num, hchT, nx3, dd, rfl, hbp6, by rw [show max most dd = dd by omega] at hd3; exact hd3⟩
              case measure => simp [intOf]; omega
            · have hmxI : ¬ (most : Int) < (dd : Int) := by omega
              go_wp2_with fail
              go_roundw
              case rel => exact ⟨i + 1, by omega, by go_num, hchT, nx3, most, rfl, hbp6, by rw [show max most dd = most by omega] at hd3; exact hd3⟩
              case measure => simp [intOf]; omega
          · obtain rfl : i = M := by omega
            have hfin : some (most, nxt) = some (m2, nx2) := by have := hdl.out; rw [List.drop_eq_nil_of_le (by have := hLM2.out; omega), dlist] at this; exact this
            injection hfin with hfin; injection hfin with hfin hfin2
            subst hfin; subst hfin2
            have hwr2 : IntKind.i64.wrap ((most : Int) + 1) = (most : Int) + 1 := by rw [IntKind.wrap_i64]; omega
            clear hdl
            go_wp2_with fail
            go_ret
            exact ⟨rfl, hch5.trans hch (fun _ _ e => e), hbp⟩
theorem rdeep_all {B : Nat} {v : Value} {ns : List Ne} (hln1 : ∀ d ∈ ns, LenL 1500 d) : ∀ f, f ≤ 20 → RdC B v ns f
  | 0, _ => fun n next d nx p w hS hb hBp hd => by cases hd
  | f + 1, h => rdeep_any hln1 (by omega) (rdeep_all hln1 f (by omega))
theorem show_lens {ns : List Ne} {t : List UInt8} (h : showP ns = some t) : ∀ d ∈ ns, LenL 1500 d := by
  unfold showP at h
  simp only at h
  split at h
  · cases h
  · split at h
    · cases h
    · next hn =>
      simp only [not_or, ne_eq, Decidable.not_not] at hn
      intro d hd
      rw [← hn.2] at hd
      obtain ⟨e, he, rfl⟩ := List.mem_map.1 hd
      have := (parse_lens _).2 e he
      refine ⟨?_, ?_⟩
      · show (e.items.map _).length ≤ _; rw [List.length_map]; exact this.2.1
      · show (e.fields.map _).length ≤ _; rw [List.length_map]; exact this.2.2
set_option maxRecDepth 100000 in
theorem refDepth_any (v : Value) (ns : List Ne) (w : World) (hS : Sch w.heap.size w v ns) (hL : showRLen ns ≤ 100000000) :
    Calls Tryz.prog 10 #[.agg #[v]] w fun e w' => e = .returned (.int .i64 (depthP ns : Int)) ∧ Ext w w' := by
  obtain ⟨A, c, rfl⟩ := hS.slice
  obtain ⟨n, hn⟩ : ∃ z, Hid (ns.length = z) := ⟨_, Lib.hid rfl⟩
  rw [hn.out] at hS ⊢
  obtain ⟨w1, hw1⟩ : ∃ z, Hid (w.alloc (.cells #[.slice A n c] 24) = z) := ⟨_, rfl⟩
  obtain ⟨q, hq⟩ : ∃ z, Hid (w.heap.size = z) := ⟨_, rfl⟩
  have hx1 : Ext w w1 := by rw [← hw1.out]; exact (Ext.refl w).alloc _
  have hb1 : Blk w1 q #[.slice A n c] 24 := by rw [← hw1.out, ← hq.out]; exact Blk.new w _ _
  have hc := refShow_any _ ns w1 ((hS.below hx1).mono hx1.size) hL
  obtain ⟨o, ho⟩ : ∃ z, Hid (showP ns = z) := ⟨_, Lib.hid rfl⟩
  rw [ho.out] at hc
  obtain ⟨D, hD⟩ : ∃ z, Hid (depthP ns = z) := ⟨_, Lib.hid rfl⟩
  rw [hD.out]
  cases o with
  | none =>
    have hD0 : D = 0 := by rw [← hD.out, depthP, ho.out]
    subst hD0
    go_enter Tryz.func10, Tryz.ntmps10
    go_wp2_with fail
    rw [hw1.out]
    refine hc.mono ?_
    rintro e w2 ⟨rfl, hx2⟩
    rw [show shV none = Value.tuple #[.string ⟨#[]⟩, .int .i64 1] from rfl]
    go_wp2_with fail
    go_ret
    exact ⟨rfl, hx1.trans hx2⟩
  | some s =>
    obtain ⟨d, hd1, hd2⟩ := show_deep ho.out
    have hln1 := show_lens ho.out
    have hDd : D = d := by rw [← hD.out, hd2]
    subst hDd
    have hd1 := Lib.hid hd1
    clear hd2 hD
    have cq : (w.alloc (.cells #[.slice A n c] 24)).cell? ⟨q, 0, none⟩ = some (.slice A n c) := by rw [hw1.out]; exact hb1.cell 0
    go_enter Tryz.func10, Tryz.ntmps10
    go_wp2_with fail
    rw [hw1.out, hq.out]
    refine hc.mono ?_
    rintro e w2 ⟨rfl, hx2⟩
    rw [show shV (some s) = Value.tuple #[.string ⟨s.toArray⟩, .int .i64 0] from rfl]
    have cq2 : w2.cell? ⟨q, 0, none⟩ = some (.slice A n c) := (hb1.ext hx2).cell 0
    obtain ⟨p, hp⟩ : ∃ z, Hid (w2.heap.size = z) := ⟨_, rfl⟩
    obtain ⟨w3, hw3⟩ : ∃ z, Hid (w2.alloc (.cells #[.slice A n c, .int .i64 0] 48) = z) := ⟨_, rfl⟩
    have hx3 : Ext w2 w3 := by rw [← hw3.out]; exact (Ext.refl w2).alloc _
    have hb3 : Blk w3 p #[.slice A n c, .int .i64 0] 48 := by rw [← hw3.out, ← hp.out]; exact Blk.new w2 _ _
    have hxT := (hx1.trans hx2).trans hx3
    have hdp := rdeep_all (B := w.heap.size) hln1 20 (Nat.le_refl _) 0 0 D ns.length p w3 (hS.below hxT) hb3 (by rw [← hp.out]; exact (hx1.trans hx2).size) hd1.out
    rw [hn.out] at hdp
    go_wp2_with fail
    rw [hw3.out, hp.out]
    refine hdp.mono ?_
    rintro e w4 ⟨rfl, hch4, _⟩
    have hx4 : Ext w w4 := Ext.chg hxT hch4 (fun i hi e => by have e : i = p := e; have := hp.out; have := (hx1.trans hx2).size; omega)
    go_wp2_with fail
    go_ret
    exact ⟨rfl, hx4⟩
end Go.Proofs.YtejcacbbhijdcaaGreatDoor.Pr
/- parse: which schemas have not too many parts, by the document. -/
namespace Go.Proofs.YtejcacbbhijdcaaGreatDoor.Pr
open Go.ChangeShapes Go.WideShapes Go.ChangeAt Go.RowKit
open Base Lx Mi
set_option linter.unusedVariables false
set_option linter.unusedSimpArgs false

def nodeP (d : Ne) : Nat := d.syms.length + d.items.length + d.fields.length
def partsN (ns : List Ne) : Nat := ns.length + (ns.map nodeP).sum
theorem sum_take_le : ∀ (l : List Nat) (i : Nat), (l.take i).sum ≤ l.sum
  | [], i => by simp
  | x :: l, 0 => by simp
  | x :: l, i + 1 => by
    have := sum_take_le l i
    simp only [List.take_succ_cons, List.sum_cons]
    omega
theorem sum_take_succ (l : List Nat) (i x : Nat) (h : l[i]? = some x) : (l.take (i + 1)).sum = (l.take i).sum + x := by
  rw [List.take_add_one, h, List.sum_append]
  simp
set_option maxRecDepth 100000 in
set_option maxHeartbeats 1000000 in
theorem small_any {B : Nat} {w : World} {v : Value} {ns : List Ne} (h : Sch B w v ns) (hB : B ≤ w.heap.size) (hl : ns.length ≤ 2000000) (hd : ∀ d ∈ ns, nodeP d ≤ 2000000) :
    Calls Tryz.prog 4 #[.agg #[v]] w fun e w' => e = .returned (.bool (decide (partsN ns ≤ 3000))) ∧ Ext w w' := by
  obtain ⟨A, c, rfl⟩ := h.slice
  obtain ⟨n, hn⟩ : ∃ z, Hid (ns.length = z) := ⟨_, Lib.hid rfl⟩
  rw [hn.out] at hl ⊢
  obtain ⟨T, hT⟩ : ∃ z, Hid (partsN ns = z) := ⟨_, Lib.hid rfl⟩
  rw [hT.out]
  obtain ⟨q, hq⟩ : ∃ z, Hid (w.heap.size = z) := ⟨_, rfl⟩
  obtain ⟨w1, hw1⟩ : ∃ z, Hid (w.alloc (.cells #[.slice A n c] 24) = z) := ⟨_, rfl⟩
  have hx1 : Ext w w1 := by rw [← hw1.out]; exact (Ext.refl w).alloc _
  have hb1 : Blk w1 q #[.slice A n c] 24 := by rw [← hw1.out, ← hq.out]; exact Blk.new w _ _
  have hc1 : w1.cell? ⟨q, 0, none⟩ = some (.slice A n c) := hb1.cell 0
  go_enter Tryz.func4, Tryz.ntmps4
  go_wp2_with fail
  rw [hw1.out, hq.out]
  have hc0 : (w.alloc (.cells #[.slice A n c] 24)).cell? ⟨q, 0, none⟩ = some (.slice A n c) := by rw [hw1.out]; exact hc1
  go_wp2_with fail
  go_loopw [3, 4] (fun v3 v4 wr => ∃ i m : Nat, i ≤ n ∧ v4 = .int .i64 i ∧ v3 = .int .i64 m ∧ Hid (m = n + ((ns.map nodeP).take i).sum) ∧ m ≤ 2003000 ∧ Ext w1 wr) (fun _ v4 _ => n - (intOf v4).toNat)
  case atStart => exact ⟨0, n, by omega, rfl, rfl, Lib.hid (by simp), by omega, by first | exact Ext.refl _ | exact (by rw [hw1.out]; exact Ext.refl _)⟩
  case round =>
    obtain ⟨i, m, hi, rfl, rfl, hm, hmb, hx⟩ := hrel
    have hcr : ∀ W, Ext wr W → W.cell? ⟨q, 0, none⟩ = some (.slice A n c) := fun W hW => (hx.trans hW).cell hc1
    have hcr0 := hcr wr (Ext.refl wr)
    have hmT : m ≤ T := by
      have := sum_take_le (ns.map nodeP) i
      rw [← hT.out, partsN, hn.out, hm.out]; omega
    by_cases hin : i < n
    · by_cases hbig : m ≤ 3000
      · have hin' : (i : Int) < (n : Int) := by omega
        have hbig' : (m : Int) ≤ 3000 := by omega
        obtain ⟨x, hxi⟩ : ∃ x, ns[i]? = some x := ⟨_, List.getElem?_eq_getElem (by have := hn.out; omega)⟩
        obtain ⟨b1, o1, d1, As1, cs1, Ai1, ci1, Af1, cf1, e1, hb1, hs1, hcc⟩ := h.node2 i x hxi
        injection e1 with e1 _ e1'
        subst e1; subst e1'
        have p3 : ∀ W, Ext wr W → W.cell? ⟨b1, o1 + i * 6 + 3, none⟩ = some (.slice As1 x.syms.length cs1) := fun W hW => (hcc W (Below.mono ((hx1.trans hx).trans hW) hB)).2.2.2.1
        have p4 : ∀ W, Ext wr W → W.cell? ⟨b1, o1 + i * 6 + 4, none⟩ = some (.slice Ai1 x.items.length ci1) := fun W hW => (hcc W (Below.mono ((hx1.trans hx).trans hW) hB)).2.2.2.2.1
        have p5 : ∀ W, Ext wr W → W.cell? ⟨b1, o1 + i * 6 + 5, none⟩ = some (.slice Af1 x.fields.length cf1) := fun W hW => (hcc W (Below.mono ((hx1.trans hx).trans hW) hB)).2.2.2.2.2
        have hp := hd x (List.mem_of_getElem? hxi)
        have hm2 : Hid (m + x.syms.length + x.items.length + x.fields.length = n + ((ns.map nodeP).take (i + 1)).sum) := Lib.hid (by
          rw [sum_take_succ (ns.map nodeP) i (nodeP x) (by rw [List.getElem?_map, hxi]; rfl), hm.out]; unfold nodeP; omega)
        have hb2 : x.syms.length + x.items.length + x.fields.length ≤ 2000000 := hp
        obtain ⟨sa, hsa⟩ : ∃ z, Hid (x.syms.length = z) := ⟨_, Lib.hid rfl⟩
        obtain ⟨sb, hsb⟩ : ∃ z, Hid (x.items.length = z) := ⟨_, Lib.hid rfl⟩
        obtain ⟨sc, hsc⟩ : ∃ z, Hid (x.fields.length = z) := ⟨_, Lib.hid rfl⟩
        rw [hsa.out] at p3 hm2 hb2
        rw [hsb.out] at p4 hm2 hb2
        rw [hsc.out] at p5 hm2 hb2
        have hw1' : IntKind.i64.wrap ((m : Int) + (sa : Int)) = (m : Int) + (sa : Int) := by rw [IntKind.wrap_i64]; omega
        have hw2' : IntKind.i64.wrap ((m : Int) + (sa : Int) + (sb : Int)) = (m : Int) + (sa : Int) + (sb : Int) := by rw [IntKind.wrap_i64]; omega
        have hw3' : IntKind.i64.wrap ((m : Int) + (sa : Int) + (sb : Int) + (sc : Int)) = (m : Int) + (sa : Int) + (sb : Int) + (sc : Int) := by rw [IntKind.wrap_i64]; omega
        clear hcc hp hs1 hmT hm
        go_wp2_with fail
        refine Reg.startE (by kernel_rfl) ?_
        refine Reg.tk 0 ?_; (try simp only [Reg.n1, Reg.n2, Reg.n3, Reg.n4, Reg.n5, Reg.n6, Reg.n7])
        refine Reg.tk 1 ?_; (try simp only [Reg.n1, Reg.n2, Reg.n3, Reg.n4, Reg.n5, Reg.n6, Reg.n7])
        refine Reg.tk 2 ?_; (try simp only [Reg.n1, Reg.n2, Reg.n3, Reg.n4, Reg.n5, Reg.n6, Reg.n7])
        refine Reg.tk 3 ?_; (try simp only [Reg.n1, Reg.n2, Reg.n3, Reg.n4, Reg.n5, Reg.n6, Reg.n7])
        refine Reg.tk 4 ?_; (try simp only [Reg.n1, Reg.n2, Reg.n3, Reg.n4, Reg.n5, Reg.n6, Reg.n7])
        refine Reg.tk 5 ?_; (try simp only [Reg.n1, Reg.n2, Reg.n3, Reg.n4, Reg.n5, Reg.n6, Reg.n7])
        refine Reg.tk 6 ?_; (try simp only [Reg.n1, Reg.n2, Reg.n3, Reg.n4, Reg.n5, Reg.n6, Reg.n7])
        refine Reg.tk 7 ?_; (try simp only [Reg.n1, Reg.n2, Reg.n3, Reg.n4, Reg.n5, Reg.n6, Reg.n7])
        refine Reg.tk 8 ?_; (try simp only [Reg.n1, Reg.n2, Reg.n3, Reg.n4, Reg.n5, Reg.n6, Reg.n7])
        refine Reg.tk 9 ?_; (try simp only [Reg.n1, Reg.n2, Reg.n3, Reg.n4, Reg.n5, Reg.n6, Reg.n7])
        refine Reg.tk 10 ?_; (try simp only [Reg.n1, Reg.n2, Reg.n3, Reg.n4, Reg.n5, Reg.n6, Reg.n7])
        refine Reg.tk 11 ?_; (try simp only [Reg.n1, Reg.n2, Reg.n3, Reg.n4, Reg.n5, Reg.n6, Reg.n7])
        refine Reg.tk 12 ?_; (try simp only [Reg.n1, Reg.n2, Reg.n3, Reg.n4, Reg.n5, Reg.n6, Reg.n7])
        refine Reg.tk 13 ?_; (try simp only [Reg.n1, Reg.n2, Reg.n3, Reg.n4, Reg.n5, Reg.n6, Reg.n7])
        refine Reg.tk 14 ?_; (try simp only [Reg.n1, Reg.n2, Reg.n3, Reg.n4, Reg.n5, Reg.n6, Reg.n7])
        refine Reg.tk 15 ?_; (try simp only [Reg.n1, Reg.n2, Reg.n3, Reg.n4, Reg.n5, Reg.n6, Reg.n7])
        refine Reg.tk 16 ?_; (try simp only [Reg.n1, Reg.n2, Reg.n3, Reg.n4, Reg.n5, Reg.n6, Reg.n7])
        refine Reg.tk 17 ?_; (try simp only [Reg.n1, Reg.n2, Reg.n3, Reg.n4, Reg.n5, Reg.n6, Reg.n7])
        refine Reg.tk 18 ?_; (try simp only [Reg.n1, Reg.n2, Reg.n3, Reg.n4, Reg.n5, Reg.n6, Reg.n7])
        refine Reg.tk 19 ?_; (try simp only [Reg.n1, Reg.n2, Reg.n3, Reg.n4, Reg.n5, Reg.n6, Reg.n7])
        refine Reg.tk 20 ?_; (try simp only [Reg.n1, Reg.n2, Reg.n3, Reg.n4, Reg.n5, Reg.n6, Reg.n7])
        refine Reg.tk 21 ?_; (try simp only [Reg.n1, Reg.n2, Reg.n3, Reg.n4, Reg.n5, Reg.n6, Reg.n7])
        refine Reg.tk 22 ?_; (try simp only [Reg.n1, Reg.n2, Reg.n3, Reg.n4, Reg.n5, Reg.n6, Reg.n7])
        refine Reg.tk 23 ?_; (try simp only [Reg.n1, Reg.n2, Reg.n3, Reg.n4, Reg.n5, Reg.n6, Reg.n7])
        refine Reg.tk 24 ?_; (try simp only [Reg.n1, Reg.n2, Reg.n3, Reg.n4, Reg.n5, Reg.n6, Reg.n7])
        refine Reg.tk 25 ?_; (try simp only [Reg.n1, Reg.n2, Reg.n3, Reg.n4, Reg.n5, Reg.n6, Reg.n7])
        refine Reg.fin (by kernel_rfl) (fun W hW => ?_)
        go_wp2_with fail
        go_roundw
        case rel => exact ⟨i + 1, m + sa + sb + sc, by omega, by go_num, by go_num, hm2, by omega, hx.trans hW⟩
        case measure => simp [intOf]; omega
      · have hin' : (i : Int) < (n : Int) := by omega
        have hbig' : ¬ (m : Int) ≤ 3000 := by omega
        have hTf : decide (T ≤ 3000) = false := decide_eq_false (by omega)
        go_wp2_with fail
        go_ret
        exact ⟨by first | rfl | rw [hTf], hx1.trans hx⟩
    · obtain rfl : i = n := by omega
      have hmT2 : m = T := by rw [hm.out, ← hT.out, partsN, hn.out, List.take_of_length_le (by rw [List.length_map]; have := hn.out; omega)]
      subst hmT2
      have hnot : ¬ (i : Int) < (i : Int) := by omega
      by_cases hbig : m ≤ 3000
      · have hbig' : (m : Int) ≤ 3000 := by omega
        have hTf := decide_eq_true hbig
        go_wp2_with fail
        go_ret
        exact ⟨by first | rfl | rw [hTf], hx1.trans hx⟩
      · have hbig' : ¬ (m : Int) ≤ 3000 := by omega
        have hTf := decide_eq_false hbig
        go_wp2_with fail
        go_ret
        exact ⟨by first | rfl | rw [hTf], hx1.trans hx⟩
end Go.Proofs.YtejcacbbhijdcaaGreatDoor.Pr
/- A region that draws its order: any number of operations, each of which lays new blocks alone, in any order that they allow. -/
namespace Go.Proofs.YtejcacbbhijdcaaGreatDoor.Reg
open Base
set_option linter.unusedVariables false

/-- a region by its number -/
def rgn (n : Nat) : Code → Option Code
  | .region m o b => bif Nat.beq m n then some (.region m o b) else none
  | .block m c => rgn n c
  | .seq a b => match rgn n a with
    | some c => some c
    | none => rgn n b
  | .cond _ a b => match rgn n a with
    | some c => some c
    | none => rgn n b
  | .loop c => rgn n c
  | .scope c => rgn n c
  | .rangeFunc _ _ a b => match rgn n a with
    | some c => some c
    | none => rgn n b
  | _ => none
def regionOf (n : Nat) (c : Option Code) : Code := match c with
  | some c => (rgn n c).getD .skip
  | none => .skip

section
variable {P : Program} {ops : Array Oper} {Q : Exit → Act → World → Prop}

/-- a frame with what some operations have yielded: which operation, where to -/
def frameN (a : Act) : List (Nat × Nat) → (Nat → Value) → Act
  | [], f => a
  | i :: l, f => (frameN a l f).put (some i.2) (f i.1)
def updN (f : Nat → Value) (i : Nat) (x : Value) : Nat → Value := fun j => if j = i then x else f j
theorem put_put (a : Act) (d : Option Nat) (u v : Value) : (a.put d u).put d v = a.put d v := by
  cases d with
  | none => rfl
  | some d => simp [Act.put]
theorem frameN_upd_no (a : Act) (f : Nat → Value) (i : Nat) (x : Value) : ∀ (l : List (Nat × Nat)), (∀ p ∈ l, p.1 ≠ i) → frameN a l (updN f i x) = frameN a l f
  | [], _ => rfl
  | j :: l, h => by
    have hj := h j (.head _)
    rw [frameN, frameN, frameN_upd_no a f i x l (fun p hp => h p (.tail _ hp))]
    simp [updN, hj]
theorem frameN_upd (a : Act) (f : Nat → Value) (i d : Nat) (x : Value) : ∀ (l : List (Nat × Nat)), (i, d) ∈ l → (l.map (·.1)).Nodup → (∀ p ∈ l, p.1 ≠ i → p.2 ≠ d) → frameN a l (updN f i x) = (frameN a l f).put (some d) x
  | [], h, _, _ => by cases h
  | j :: l, h, hn, hd => by
    rw [List.map_cons, List.nodup_cons] at hn
    rw [frameN, frameN]
    by_cases hji : j.1 = i
    · have hj : j = (i, d) := by
        rcases List.mem_cons.1 h with e | e
        · exact e.symm
        · exact absurd (List.mem_map.2 ⟨_, e, rfl⟩) (by rw [← hji] at *; exact hn.1)
      subst hj
      rw [frameN_upd_no a f i x l (fun p hp e => hn.1 (List.mem_map.2 ⟨p, hp, e⟩)), put_put]
      simp [updN]
    · have hm : (i, d) ∈ l := by
        rcases List.mem_cons.1 h with e | e
        · exact absurd (by rw [← e]) hji
        · exact e
      rw [frameN_upd a f i d x l hm hn.2 (fun k hk => hd k (.tail _ hk))]
      rw [put_comm _ (fun e => hd j (.head _) hji (by injection e with e; exact e.symm))]
      simp [updN, hji]
/-- every order that comes up is one of these operations, behind those that it asks for -/
def okN (ops : Array Oper) (done L : List Nat) (prd : Nat → List Nat) : Nat → List Nat → Bool
  | 0, S => decide (marked ops.size (S ++ done) = marked ops.size (L ++ done)) && L.all S.contains
  | n + 1, S => !(Region.ready .any ops (marked ops.size (S ++ done))).isEmpty && (Region.ready .any ops (marked ops.size (S ++ done))).all fun i => L.contains i && !S.contains i && (prd i).all S.contains && okN ops done L prd n (i :: S)
/-- the operations, none with a guard, each with a place of its own -/
def distN (ops : Array Oper) (L : List (Nat × Nat)) : Bool := decide (L.map (·.1)).Nodup && (L.all fun i => (match ops[i.1]? with | some o => o.guard.isNone && o.dst == some i.2 | none => false) && L.all fun j => j.1 == i.1 || !(j.2 == i.2))
theorem layN {B : Nat} (L : List (Nat × Nat)) (prd : Nat → List Nat) {done : List Nat} {a : Act} {w : World} (hB : B ≤ w.heap.size) (hok : okN ops done (L.map (·.1)) prd L.length [] = true) (hdist : distN ops L = true) (hn : done.length + L.length ≤ ops.size)
    (f0 : Nat → Value) (hu : frameN a L f0 = a) (F : Nat → Value → World → Prop) (stab : ∀ p ∈ L, ∀ v w1 w2, F p.1 v w1 → Ext w1 w2 → F p.1 v w2)
    (step : ∀ p ∈ L, ∀ oi, ops[p.1]? = some oi → ∀ f X, Ext w X → (∀ j ∈ prd p.1, F j (f j) X) → ∀ K : Act → World → Prop, Shut (∀ x X2, Ext X X2 → F p.1 x X2 → K ((frameN a L f).put (some p.2) x) X2) → oi.wp P (frameN a L f) X K Q)
    (h : ∀ f X, Ext w X → (∀ p ∈ L, F p.1 (f p.1) X) → At P ops Q (Go.RowKit.Below B) (L.map (·.1) ++ done) (frameN a L f) X) : At P ops Q (Go.RowKit.Below B) done a w := by
  simp only [distN, Bool.and_eq_true, decide_eq_true_eq, List.all_eq_true, Bool.or_eq_true, beq_iff_eq, Bool.not_eq_true'] at hdist
  obtain ⟨hnd, hds⟩ := hdist
  have main : ∀ (n : Nat) (S : List Nat) (f : Nat → Value) (X : World), n + S.length = L.length → okN ops done (L.map (·.1)) prd n S = true → Ext w X → (∀ j ∈ S, ∃ p ∈ L, p.1 = j) → (∀ j ∈ S, F j (f j) X) → At P ops Q (Go.RowKit.Below B) (S ++ done) (frameN a L f) X := by
    intro n
    induction n with
    | zero =>
      intro S f X hl ho hX hSL hF
      simp only [okN, Bool.and_eq_true, decide_eq_true_eq, List.all_eq_true] at ho
      refine At.perm ho.1 (by rw [List.length_append, List.length_append, List.length_map]; omega) (h f X hX fun p hp => hF p.1 (by simpa using ho.2 p.1 (List.mem_map.2 ⟨p, hp, rfl⟩)))
    | succ n ih =>
      intro S f X hl ho hX hSL hF
      simp only [okN, Bool.and_eq_true, List.all_eq_true] at ho
      obtain ⟨hne, hall⟩ := ho
      intro hcl
      have e : ops.size - (S ++ done).length = (ops.size - (S ++ done).length - 1) + 1 := by rw [List.length_append]; omega
      rw [e]
      refine ⟨fun h0 => (by rw [h0] at hne; cases hne), fun i hi => ?_⟩
      obtain ⟨⟨⟨hiL, hiS⟩, hpr⟩, hnext⟩ := hall i hi
      have hiL : i ∈ L.map (·.1) := by simpa using hiL
      have hiS : i ∉ S := by simpa using hiS
      obtain ⟨p, hpL, rfl⟩ := List.mem_map.1 hiL
      obtain ⟨hg, hdd⟩ := hds p hpL
      cases hoi : ops[p.1]? with
      | none => rw [hoi] at hg; cases hg
      | some oi =>
        rw [hoi] at hg
        simp only [Bool.and_eq_true, beq_iff_eq] at hg
        obtain ⟨hg, hdst⟩ := hg
        have hgn : oi.guard = none := by simpa using hg
        unfold wpOp
        simp only [hoi, show ∀ t, Region.wanted oi t = true from fun t => by simp [Region.wanted, hgn], if_true]
        refine .inl (step p hpL oi hoi f X hX (fun j hj => hF j (by simpa using hpr j hj)) _ (fun x X2 hx hFx => ⟨.inl (Go.RowKit.Below.mono hx (Nat.le_trans hB hX.size)), ?_⟩))
        have := ih (p.1 :: S) (updN f p.1 x) X2 (by rw [List.length_cons]; omega) hnext (hX.trans hx) (fun j hj => by
          rcases List.mem_cons.1 hj with rfl | hj
          · exact ⟨p, hpL, rfl⟩
          · exact hSL j hj) (fun j hj => by
          rcases List.mem_cons.1 hj with rfl | hj
          · simpa [updN] using hFx
          · have hji : ¬ j = p.1 := fun e => hiS (e ▸ hj)
            simp only [updN, hji, if_false]
            obtain ⟨p', hp', rfl⟩ := hSL j hj
            exact stab p' hp' _ _ _ (hF _ hj) hx)
        rw [frameN_upd a f p.1 p.2 x L hpL hnd (fun j hj hji => by
          rcases hdd j hj with e | e
          · exact absurd e hji
          · simpa using e)] at this
        have h2 := this (hcl.set hi)
        rw [show ops.size - (p.1 :: S ++ done).length = ops.size - (S ++ done).length - 1 by rw [List.cons_append, List.length_cons]; omega] at h2
        exact h2
  have := main L.length [] f0 w (by simp) hok (Ext.refl w) (fun j hj => by cases hj) (fun j hj => by cases hj)
  rw [hu] at this
  exact this
end
end Go.Proofs.YtejcacbbhijdcaaGreatDoor.Reg
