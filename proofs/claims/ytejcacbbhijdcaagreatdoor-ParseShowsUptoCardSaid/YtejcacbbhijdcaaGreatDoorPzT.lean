/- parse: the reference's writer: a type's beginning, walked; the whole. -/
import Derived.Test.YtejcacbbhijdcaaGreatDoorPzS
namespace Go.Proofs.YtejcacbbhijdcaaGreatDoor.Pr
open Go.ChangeShapes Go.WideShapes Go.ChangeAt Go.RowKit
open Base Lx Mi Piece
set_option linter.unusedVariables false
set_option linter.unusedSimpArgs false

theorem rtyp_stop {ns : List Ne} {f : Nat} {n : Int} {st : WSt} (h : wstop ns f n st) : rtyp ns f n st = { st with bad := true } := by
  cases f with
  | zero => rfl
  | succ f => rw [rtyp, if_pos h]
theorem rtyp_go {ns : List Ne} {f : Nat} {n : Int} {st : WSt} (h : ¬ wstop ns (f + 1) n st) : rtyp ns (f + 1) n st = if n < st.next then { (st.put (bs (ns.getD n.toNat neD).name)) with bad := decide ((ns.getD n.toNat neD).k < 9) } else rbody (rtyp ns f) (ns.getD n.toNat neD) { st with next := st.next + 1 } := by rw [rtyp, if_neg h]
/-- the frame at a type's beginning -/
def F0 (R : Nat) (n : Int) (deep : Nat) (a : Act) : Prop := Fr 269 [.pointer (some ⟨R, 0, none⟩), .int .i64 n, .int .i64 (deep : Int), undef, undef, undef, undef, undef, undef] a
def F1 (R X : Nat) (n : Int) (deep : Nat) (s7 s8 : Value) (a : Act) : Prop := Fr 269 [.pointer (some ⟨R, 0, none⟩), .int .i64 n, .int .i64 (deep : Int), undef, undef, undef, .pointer (some ⟨X, 0, none⟩), s7, s8] a
section
variable {B R deep : Nat} {no : Value} {ns : List Ne}
set_option maxRecDepth 1000000 in
set_option maxHeartbeats 4000000 in
/-- whether the writer goes on -/
theorem rt0 {f : Nat} (hdf : deep + f = 20) (n : Int) (st : WSt) (w : World) (h : RInv B w R no st) (hS : Sch B w no ns) (hs46 : st.s.length ≤ 100000000) (a : Act) (hF : F0 R n deep a) (PO : Ending → World → Prop) (K : Act → World → Prop)
    (hK : ∀ a' w', F0 R n deep a' ∧ w' = w.setCell ⟨R, 3, none⟩ (.bool (decide (wstop ns f n st))) → K a' w') :
    (fstC (tlC 0 Tryz.f13.body)).wp Tryz.prog (Exit.then K (bodyPost Tryz.prog Tryz.f13 PO)) a w := by
  obtain ⟨A, c, rfl⟩ := hS.slice
  have hcm : ns.length ≤ c ∧ c ≤ maxLen := by obtain ⟨vs, _, ⟨A1, c1, e, _, _, q1, q2, _⟩, _⟩ := hS; injection e with e1 e2 e3; subst e3; exact ⟨q1, q2⟩
  unfold maxLen at hcm
  obtain ⟨S, hSs, hb⟩ := h.blk
  have hsz : S.size = st.s.length := by rw [← bs_size, hSs]
  obtain ⟨b, hbd⟩ : ∃ b, Hid (decide (wstop ns f n st) = b) := ⟨_, Lib.hid rfl⟩
  rw [hbd.out] at hK
  have hw : wstop ns f n st ↔ (st.bad = true ∨ n < 0 ∨ (ns.length : Int) ≤ n ∨ (st.next : Int) < n ∨ f = 0 ∨ 4096 < S.size) := by unfold wstop; rw [hsz]
  obtain ⟨ln, hln⟩ : ∃ z, Hid (ns.length = z) := ⟨_, rfl⟩
  rw [hln.out] at hb hw hcm
  obtain ⟨nx, hnx⟩ : ∃ z, Hid (st.next = z) := ⟨_, rfl⟩
  rw [hnx.out] at hb hw
  obtain ⟨bd, hbad⟩ : ∃ z, Hid (st.bad = z) := ⟨_, rfl⟩
  rw [hbad.out] at hb hw
  have c0 : w.cell? ⟨R, 0, none⟩ = some (.slice A ln c) := hb.cell 0
  have c1 : w.cell? ⟨R, 1, none⟩ = some (.string S) := hb.cell 1
  have c2 : w.cell? ⟨R, 2, none⟩ = some (.int .i64 (nx : Int)) := hb.cell 2
  have c3 : w.cell? ⟨R, 3, none⟩ = some (.bool bd) := hb.cell 3
  have f3 := hb.frozen 3
  obtain ⟨u, rfl⟩ := lay269 hF
  clear hF
  conv => arg 2; whnf
  have yes : wstop ns f n st → b = true := fun e => by rw [← hbd.out]; exact decide_eq_true e
  have noo : ¬ wstop ns f n st → b = false := fun e => by rw [← hbd.out]; exact decide_eq_false e
  clear hSs hsz hS h hs46 hbd
  by_cases g1 : bd = true
  · obtain rfl := yes (hw.2 (.inl g1))
    subst g1
    clear hw yes noo hb
    go_wp2_with fail
    first | exact ⟨⟨_, rfl, rfl⟩, rfl⟩ | exact ⟨_, rfl, rfl⟩
  have g1' : bd = false := by simpa using g1
  subst g1'
  by_cases g2 : n < 0
  · obtain rfl := yes (hw.2 (.inr (.inl g2)))
    clear hw yes noo hb
    go_wp2_with fail
    first | exact ⟨⟨_, rfl, rfl⟩, rfl⟩ | exact ⟨_, rfl, rfl⟩
  by_cases g3 : (ln : Int) ≤ n
  · obtain rfl := yes (hw.2 (.inr (.inr (.inl g3))))
    clear hw yes noo hb
    go_wp2_with fail
    first | exact ⟨⟨_, rfl, rfl⟩, rfl⟩ | exact ⟨_, rfl, rfl⟩
  by_cases g4 : (nx : Int) < n
  · obtain rfl := yes (hw.2 (.inr (.inr (.inr (.inl g4)))))
    clear hw yes noo hb
    go_wp2_with fail
    first | exact ⟨⟨_, rfl, rfl⟩, rfl⟩ | exact ⟨_, rfl, rfl⟩
  by_cases g5 : (20 : Int) ≤ (deep : Int)
  · obtain rfl := yes (hw.2 (.inr (.inr (.inr (.inr (.inl (by omega)))))))
    clear hw yes noo hb
    go_wp2_with fail
    first | exact ⟨⟨_, rfl, rfl⟩, rfl⟩ | exact ⟨_, rfl, rfl⟩
  by_cases g6 : (4096 : Int) < (S.size : Int)
  · obtain rfl := yes (hw.2 (.inr (.inr (.inr (.inr (.inr (by omega)))))))
    clear hw yes noo hb
    go_wp2_with fail
    first | exact ⟨⟨_, rfl, rfl⟩, rfl⟩ | exact ⟨_, rfl, rfl⟩
  · obtain rfl := noo (fun e => by
      rcases hw.1 e with e | e | e | e | e | e
      · cases e
      · exact g2 e
      · exact g3 e
      · exact g4 e
      · omega
      · omega)
    clear hw yes noo hb g1
    go_wp2_with fail
    first | exact ⟨⟨_, rfl, rfl⟩, rfl⟩ | exact ⟨_, rfl, rfl⟩
set_option maxRecDepth 1000000 in
set_option maxHeartbeats 8000000 in
theorem rtyped_step {f : Nat} (hdf : deep + f = 20) (H' : ∀ f', f = f' + 1 → RTypC B R no ns f' (deep + 1)) : RTypC B R no ns f deep := by
  intro n st w h hSc hL
  have hG := rtyp_len ns f
  have hs46 : st.s.length ≤ 100000000 := Nat.le_trans (hG n st) hL
  obtain ⟨PO, hPO⟩ : ∃ PO : Ending → World → Prop, Hid ((fun e w' => RsP B R no w (rtyp ns f n st) e w') = PO) := ⟨_, Lib.hid rfl⟩
  rw [hPO.out]
  have hfin : ∀ w', Chg (fun k => k = R) w w' → RInv B w' R no (rtyp ns f n st) → PO (.returned (.tuple #[])) w' := fun w' h1 h2 => by rw [← hPO.out]; exact ⟨rfl, h1, h2⟩
  have hR := h.hR
  have hBw := h.size
  have h0 := fun a hF K hK => rt0 hdf n st w h hSc hs46 a hF PO K hK
  have hI1 := h.setBad (decide (wstop ns f n st))
  have hc1 := Chg.one w R 3 (.bool (decide (wstop ns f n st)))
  obtain ⟨w1, hw1⟩ : ∃ z, Hid (w.setCell ⟨R, 3, none⟩ (.bool (decide (wstop ns f n st))) = z) := ⟨_, Lib.hid rfl⟩
  rw [hw1.out] at hI1 hc1
  simp only [hw1.out] at h0
  clear hPO
  go_enter Tryz.func13, Tryz.ntmps13
  refine seq_mid (fun a' w' => F0 R n deep a' ∧ w' = w1) (fun K hK => h0 _ ⟨_, rfl, rfl⟩ K hK) ?_
  clear h0
  rintro a1 w' ⟨hF1, hw'⟩
  subst hw'
  by_cases hst : wstop ns f n st
  · rw [rtyp_stop hst] at hfin
    rw [decide_eq_true hst] at hI1
    have hp := hfin w' hc1 hI1
    obtain ⟨S, hSs, hb⟩ := hI1.blk
    have c3 : w'.cell? ⟨R, 3, none⟩ = some (.bool true) := hb.cell 3
    obtain ⟨u, rfl⟩ := lay269 hF1
    clear hF1 hfin hSs hb hst hI1
    go_wp2_with fail
    go_end0
    exact hp
  rw [decide_eq_false hst] at hI1
  have hstp := hst
  unfold wstop at hst
  simp only [not_or, Int.not_lt, Int.not_le, Nat.not_lt, Bool.not_eq_true] at hst
  obtain ⟨g1, g2, g3, g4, g5, g6⟩ := hst
  obtain ⟨f, rfl⟩ : ∃ g, f = g + 1 := ⟨f - 1, by omega⟩
  rw [rtyp_go hstp] at hfin hL
  replace H' := H' f rfl
  have hIb : ({ st with bad := false } : WSt) = st := by rw [← g1]
  rw [hIb] at hI1
  obtain ⟨j, rfl⟩ : ∃ j : Nat, n = (j : Int) := ⟨n.toNat, by omega⟩
  rw [Int.toNat_natCast] at hfin hL
  have hj : j < ns.length := by omega
  have hS1 := hSc.below (chgR_below hc1 hR hBw)
  have hBw1 := hI1.size
  obtain ⟨v, b, off, c, rfl, hbB, hsub, hnc, hcm, hcell⟩ := hS1.node j hj
  obtain ⟨d, hd⟩ : ∃ z, z = ns.getD j neD := ⟨_, rfl⟩
  rw [← hd] at hsub hcell hfin hL
  obtain ⟨k, name, size, syms, items, fields⟩ := d
  obtain ⟨va, vb, vc⟩ := v
  have hSy : Sl B w' va syms.length (txs syms) := hsub.syms
  have hSi : Sl B w' vb items.length (intsZ items) := hsub.items
  have hSf : Sl B w' vc fields.length (fldsZ fields) := hsub.fields
  have hrng : -9223372036854775808 ≤ size ∧ size ≤ 9223372036854775807 := hsub.rng
  obtain ⟨As, ca, rfl, hs1⟩ := id hSy
  obtain ⟨Ai, ci, rfl, hs2⟩ := id hSi
  obtain ⟨Af, cf, rfl, hs3⟩ := id hSf
  clear hs1 hs2 hs3 hsub
  obtain ⟨ny, hny⟩ : ∃ z, Hid (syms.length = z) := ⟨_, rfl⟩
  obtain ⟨ni, hni⟩ : ∃ z, Hid (items.length = z) := ⟨_, rfl⟩
  obtain ⟨nf, hnf⟩ : ∃ z, Hid (fields.length = z) := ⟨_, rfl⟩
  rw [hny.out] at hSy hcell
  rw [hni.out] at hSi hcell
  rw [hnf.out] at hSf hcell
  have k0 : w'.cell? ⟨b, off + j * 6, none⟩ = some (.int .i64 k) := by have := hcell 0 (by omega); simpa [neC] using this
  have k1 : w'.cell? ⟨b, off + j * 6 + 1, none⟩ = some (.string name) := by have := hcell 1 (by omega); simpa [neC, Nat.add_assoc] using this
  have k2 : w'.cell? ⟨b, off + j * 6 + 2, none⟩ = some (.int .i64 size) := by have := hcell 2 (by omega); simpa [neC, Nat.add_assoc] using this
  have k3 : w'.cell? ⟨b, off + j * 6 + 3, none⟩ = some (.slice As ny ca) := by have := hcell 3 (by omega); simpa [neC, Nat.add_assoc] using this
  have k4 : w'.cell? ⟨b, off + j * 6 + 4, none⟩ = some (.slice Ai ni ci) := by have := hcell 4 (by omega); simpa [neC, Nat.add_assoc] using this
  have k5 : w'.cell? ⟨b, off + j * 6 + 5, none⟩ = some (.slice Af nf cf) := by have := hcell 5 (by omega); simpa [neC, Nat.add_assoc] using this
  clear hcell
  obtain ⟨ln, hln⟩ : ∃ z, Hid (ns.length = z) := ⟨_, rfl⟩
  obtain ⟨S, hSs, hb⟩ := hI1.blk
  have hsz : S.size ≤ st.s.length := by rw [← bs_size, hSs]; exact Nat.le_refl _
  have c0 : w'.cell? ⟨R, 0, none⟩ = some (.slice (some ⟨b, off, none⟩) ln c) := by rw [← hln.out]; exact hb.cell 0
  have c3 : w'.cell? ⟨R, 3, none⟩ = some (.bool false) := by rw [← g1]; exact hb.cell 3
  rw [hln.out] at hj
  have hjI : (j : Int) < (ln : Int) := by omega
  have hcN : ln ≤ c := by rw [← hln.out]; exact hnc
  unfold maxLen at hcm
  obtain ⟨nx, hnx⟩ : ∃ z, Hid (st.next = z) := ⟨_, rfl⟩
  have c2 : w'.cell? ⟨R, 2, none⟩ = some (.int .i64 (nx : Int)) := by rw [← hnx.out]; exact hb.cell 2
  rw [hnx.out] at g4
  refine seq_mid (fun a' w2 => F0 R j deep a' ∧ w2 = w') ?_ ?_
  · intro K hK
    obtain ⟨u, rfl⟩ := lay269 hF1
    clear hF1 hfin hSc hS1 hSy hSi hSf hI1 h hb hw1
    go_wp2_with fail
    first | exact ⟨⟨_, rfl, rfl⟩, rfl⟩ | exact ⟨_, rfl, rfl⟩
  rintro a2 w2 ⟨hF2, hw2⟩
  subst hw2
  clear c3 hF1
  refine seq_mid (fun a' w3 => F1 R w2.heap.size j deep undef undef a' ∧ w3 = w2.alloc (.cells #[.int .i64 k, .string name, .int .i64 size, .slice As ny ca, .slice Ai ni ci, .slice Af nf cf] 36)) ?_ ?_
  · intro K hK
    obtain ⟨u, rfl⟩ := lay269 hF2
    clear hF2 hfin hSc hS1 hSy hSi hSf hI1 h hb hw1 c2
    go_wp2_with fail
    first | exact ⟨⟨_, rfl, rfl⟩, rfl⟩ | exact ⟨_, rfl, rfl⟩
  rintro a3 w3 ⟨hF3, hw3⟩
  have hx3 : Ext w2 w3 := by rw [hw3]; exact (Ext.refl w2).alloc _
  obtain ⟨X, hX⟩ : ∃ z, Hid (w2.heap.size = z) := ⟨_, rfl⟩
  have hbX : Blk w3 X #[.int .i64 k, .string name, .int .i64 size, .slice As ny ca, .slice Ai ni ci, .slice Af nf cf] 36 := by rw [hw3, ← hX.out]; exact Blk.new w2 _ _
  rw [hX.out] at hF3
  have hXR : ¬ X = R := by have := hb.lt; have := hX.out; omega
  clear hw3 k0 k1 k2 k3 k4 k5 c0 hF2
  have hI3 := hI1.ext hx3
  have hb3 := hb.ext hx3
  rw [hnx.out] at hb3
  have d2 : w3.cell? ⟨R, 2, none⟩ = some (.int .i64 (nx : Int)) := hb3.cell 2
  have hc3 := hc1.trans (Chg.ofExt (S := fun k => k = R) hx3) (fun _ _ e => e)
  by_cases hjn : j < nx
  · rw [if_pos (by rw [hnx.out]; omega)] at hfin hL
    have hjnI : (j : Int) < (nx : Int) := by omega
    have q0 : w3.cell? ⟨X, 0, none⟩ = some (.int .i64 k) := hbX.cell 0
    have f3 := hb3.frozen 3
    have hz : ¬ 9223372036854775807 < S.size + name.size := by
      have : (({ (st.put (bs name)) with bad := decide (k < 9) } : WSt)).s.length = (st.put (bs name)).s.length := rfl
      rw [this, WSt.put_len, bs_size] at hL
      omega
    obtain ⟨bk, hbk⟩ : ∃ z, Hid (decide (k < 9) = z) := ⟨_, Lib.hid rfl⟩
    have hkb : (decide (k < 9)) = bk := hbk.out
    have z3 : w3.cell? ⟨R, 3, none⟩ = some (.bool st.bad) := hb3.cell 3
    have hb4 : Blk (w3.setCell ⟨R, 3, none⟩ (.bool bk)) R #[.slice (some ⟨b, off, none⟩) ns.length c, .string S, .int .i64 (nx : Int), .bool bk] 41 := hb3.set 3 _
    have hc4 := hc3.trans (Chg.one w3 R 3 (.bool bk)) (fun _ _ e => e)
    obtain ⟨w4, hw4⟩ : ∃ z, Hid (w3.setCell ⟨R, 3, none⟩ (.bool bk) = z) := ⟨_, rfl⟩
    have hbX4 : Blk w4 X #[.int .i64 k, .string name, .int .i64 size, .slice As ny ca, .slice Ai ni ci, .slice Af nf cf] 36 := by rw [← hw4.out]; exact hbX.far (p := ⟨R, 3, none⟩) hXR _
    rw [hw4.out] at hb4 hc4
    have hfin2 : ∀ W, Ext w4 W → PO (.returned (.tuple #[])) (W.setCell ⟨R, 1, none⟩ (.string (S ++ name))) := fun W hW => by
      refine hfin _ ((hc4.trans (Chg.ofExt (S := fun k => k = R) hW) (fun _ _ e => e)).trans (Chg.one W R 1 _) (fun _ _ e => e)) ?_
      refine ⟨⟨S ++ name, ?_, ?_⟩, hR⟩
      · rw [bs_append, hSs]; rfl
      · have := (hb4.ext hW).set 1 (.string (S ++ name))
        rw [show ({ (st.put (bs name)) with bad := decide (k < 9) } : WSt).next = nx from hnx.out, show ({ (st.put (bs name)) with bad := decide (k < 9) } : WSt).bad = bk from hkb]
        exact this
    have r1 : ∀ W, Ext w4 W → W.cell? ⟨R, 1, none⟩ = some (.string S) := fun W hW => (hb4.ext hW).cell 1
    have rf : ∀ W, Ext w4 W → W.frozen? ⟨R, 1, none⟩ = false := fun W hW => (hb4.ext hW).frozen 1
    have rn : ∀ W, Ext w4 W → W.cell? ⟨X, 1, none⟩ = some (.string name) := fun W hW => (hbX4.ext hW).cell 1
    obtain ⟨u, rfl⟩ := lay269 hF3
    clear hF3 hfin hSc hS1 hSy hSi hSf hI1 hI3 h hb hb3 hb4 hw1 c2 hbX hbX4 hL hsz hbk hSs
    go_wp2_with fail
    rw [hw4.out]
    refine Reg.startE (by kernel_rfl) ?_
    refine Reg.tk 0 ?_; (try simp only [Reg.n1, Reg.n2, Reg.n3, Reg.n4, Reg.n5, Reg.n6, Reg.n7])
    refine Reg.tk 1 ?_; (try simp only [Reg.n1, Reg.n2, Reg.n3, Reg.n4, Reg.n5, Reg.n6, Reg.n7])
    refine Reg.tk 2 ?_; (try simp only [Reg.n1, Reg.n2, Reg.n3, Reg.n4, Reg.n5, Reg.n6, Reg.n7])
    refine Reg.tk 3 ?_; (try simp only [Reg.n1, Reg.n2, Reg.n3, Reg.n4, Reg.n5, Reg.n6, Reg.n7])
    refine Reg.tk 4 ?_; (try simp only [Reg.n1, Reg.n2, Reg.n3, Reg.n4, Reg.n5, Reg.n6, Reg.n7])
    refine Reg.tk 5 ?_; (try simp only [Reg.n1, Reg.n2, Reg.n3, Reg.n4, Reg.n5, Reg.n6, Reg.n7])
    refine Reg.tk 6 ?_; (try simp only [Reg.n1, Reg.n2, Reg.n3, Reg.n4, Reg.n5, Reg.n6, Reg.n7])
    refine Reg.tk 7 ?_; (try simp only [Reg.n1, Reg.n2, Reg.n3, Reg.n4, Reg.n5, Reg.n6, Reg.n7])
    refine Reg.tk 8 ?_; (try simp only [Reg.n1, Reg.n2, Reg.n3, Reg.n4, Reg.n5, Reg.n6, Reg.n7])
    refine Reg.tk 9 ?_; (try simp only [Reg.n1, Reg.n2, Reg.n3, Reg.n4, Reg.n5, Reg.n6, Reg.n7])
    refine Reg.last 10 _ rfl (by kernel_rfl) (by kernel_rfl) (by kernel_rfl) (by decide) (by rfl) (fun W hW K hK => ?_)
    have fW := rf W hW
    have cW := r1 W hW
    go_simp
    refine hK.out _ _ ?_; clear hK K; (try simp only [Reg.n1, Reg.n2, Reg.n3, Reg.n4, Reg.n5, Reg.n6, Reg.n7])
    have hp := hfin2 W hW
    clear hfin2 r1 rf rn
    go_wp2_with fail
    go_end0
    exact hp
  · obtain rfl : j = nx := by omega
    rw [if_neg (by rw [hnx.out]; omega)] at hfin hL
    have hjnI : ¬ (j : Int) < (j : Int) := by omega
    refine seq_mid (fun a' w4 => F1 R X j deep undef undef a' ∧ w4 = w3) ?_ ?_
    · intro K hK
      obtain ⟨u, rfl⟩ := lay269 hF3
      clear hF3 hfin hSc hS1 hSy hSi hSf hI1 hI3 h hb hb3 hw1 c2 hbX
      go_wp2_with fail
      first | exact ⟨⟨_, rfl, rfl⟩, rfl⟩ | exact ⟨_, rfl, rfl⟩
    rintro a4 w4 ⟨hF4, hw4⟩
    subst hw4
    clear hF3
    have hwr : IntKind.i64.wrap ((j : Int) + 1) = (j : Int) + 1 := by rw [IntKind.wrap_i64]; omega
    have hI5 := hI3.setNext (j + 1)
    have hc5 := hc3.trans (Chg.one w4 R 2 (.int .i64 ((j : Int) + 1))) (fun _ _ e => e)
    rw [show ((j + 1 : Nat) : Int) = (j : Int) + 1 by omega] at hI5
    have hx5 := Chg.one w4 R 2 (.int .i64 ((j : Int) + 1))
    have hbX5 : Blk (w4.setCell ⟨R, 2, none⟩ (.int .i64 ((j : Int) + 1))) X #[.int .i64 k, .string name, .int .i64 size, .slice As ny ca, .slice Ai ni ci, .slice Af nf cf] 36 := hbX.far (p := ⟨R, 2, none⟩) hXR _
    obtain ⟨w5, hw5⟩ : ∃ z, Hid (w4.setCell ⟨R, 2, none⟩ (.int .i64 ((j : Int) + 1)) = z) := ⟨_, rfl⟩
    rw [hw5.out] at hI5 hc5 hbX5 hx5
    refine seq_mid (fun a' w' => F1 R X j deep undef undef a' ∧ w' = w5) ?_ ?_
    · intro K hK
      have f2 := hb3.frozen 2
      have hw5' := hw5.out
      obtain ⟨u, rfl⟩ := lay269 hF4
      clear hF4 hfin hSc hS1 hSy hSi hSf hI1 hI3 hI5 h hb hb3 hw1 c2 hbX hbX5 hx5 hc5 hw5
      replace hw5' := Lib.hid hw5'
      go_wp2_with fail
      exact ⟨⟨_, rfl, rfl⟩, hw5'.out⟩
    rintro a5 w6 ⟨hF5, hw6⟩
    subst hw6
    clear hF4 d2 hb3
    have q0 : w6.cell? ⟨X, 0, none⟩ = some (.int .i64 k) := hbX5.cell 0
    by_cases hkb : k < 0 ∨ 12 ≤ k
    · have hre : rbody (rtyp ns f) ⟨k, name, size, syms, items, fields⟩ { st with next := st.next + 1 } = { st with next := j + 1, bad := true } := by
        rw [rbody, if_neg (by simp only; omega), if_neg (by simp only; omega), if_neg (by simp only; omega), if_neg (by simp only; omega), if_neg (by simp only; omega), if_neg (by simp only; omega), if_pos (by simp only; omega), hnx.out]
      rw [hre] at hfin
      have hp := hfin _ (hc5.trans (Chg.one w6 R 3 (.bool true)) (fun _ _ e => e)) (hI5.setBad true)
      obtain ⟨S6, hS6, hb6⟩ := hI5.blk
      have z3 : w6.cell? ⟨R, 3, none⟩ = some _ := hb6.cell 3
      have f3 := hb6.frozen 3
      obtain ⟨u, rfl⟩ := lay269 hF5
      clear hF5 hfin hSc hS1 hSy hSi hSf hI1 hI3 hI5 h hb hb6 hw1 c2 hbX hbX5 hx5 hc5 hw5 hre hS6
      rcases hkb with hkb | hkb
      · go_wp2_with fail
        go_end0
        exact hp
      · have hk11 : (11 : Int) < k := by omega
        have hk0 : ¬ k < 0 := by omega
        go_wp2_with fail
        go_end0
        exact hp
    have hk0 : ¬ k < 0 := by omega
    have hk11 : ¬ (11 : Int) < k := by omega
    refine seq_mid (fun a' w' => F1 R X j deep undef undef a' ∧ w' = w6) ?_ ?_
    · intro K hK
      obtain ⟨u, rfl⟩ := lay269 hF5
      clear hF5 hfin hSc hS1 hSy hSi hSf hI1 hI3 hI5 h hb hw1 c2 hbX hbX5 hx5 hc5 hw5
      go_wp2_with fail
      first | exact ⟨⟨_, rfl, rfl⟩, rfl⟩ | exact ⟨_, rfl, rfl⟩
    rintro a6 w7 ⟨hF6, hw7⟩
    subst hw7
    clear hF5
    refine seq_mid (fun a' w' => F1 R X j deep (.slice (some ⟨w7.heap.size, 0, none⟩) 12 12) undef a' ∧ w' = w7.alloc (.cells opA 9)) ?_ ?_
    · intro K hK
      unfold opA at hK
      obtain ⟨u, rfl⟩ := lay269 hF6
      clear hF6 hfin hSc hS1 hSy hSi hSf hI1 hI3 hI5 h hb hw1 c2 hbX hbX5 hx5 hc5 hw5
      go_wp2_with fail
      first | exact ⟨⟨_, rfl, rfl⟩, rfl⟩ | exact ⟨_, rfl, rfl⟩
    rintro a7 w8 ⟨hF7, hw8⟩
    clear hF6
    have hx8 : Ext w7 w8 := by rw [hw8]; exact (Ext.refl w7).alloc _
    obtain ⟨O, hO⟩ : ∃ z, Hid (w7.heap.size = z) := ⟨_, rfl⟩
    have hbO : Blk w8 O opA 9 := by rw [hw8, ← hO.out]; exact Blk.new w7 _ _
    rw [hO.out] at hF7
    have hR7 : R < w7.heap.size := by obtain ⟨S7, _, hb7⟩ := hI5.blk; exact hb7.lt
    have hOR : ¬ O = R := by have := hO.out; omega
    clear hw8
    refine seq_mid (fun a' w' => F1 R X j deep (.slice (some ⟨O, 0, none⟩) 12 12) (.slice (some ⟨w8.heap.size, 0, none⟩) 12 12) a' ∧ w' = w8.alloc (.cells shA 9)) ?_ ?_
    · intro K hK
      unfold shA at hK
      obtain ⟨u, rfl⟩ := lay269 hF7
      clear hF7 hfin hSc hS1 hSy hSi hSf hI1 hI3 hI5 h hb hw1 c2 hbX hbX5 hx5 hc5 hw5 hbO
      go_wp2_with fail
      first | exact ⟨⟨_, rfl, rfl⟩, rfl⟩ | exact ⟨_, rfl, rfl⟩
    rintro a8 w9 ⟨hF8, hw9⟩
    clear hF7
    have hx9 : Ext w8 w9 := by rw [hw9]; exact (Ext.refl w8).alloc _
    obtain ⟨Hh, hHh⟩ : ∃ z, Hid (w8.heap.size = z) := ⟨_, rfl⟩
    have hbH : Blk w9 Hh shA 9 := by rw [hw9, ← hHh.out]; exact Blk.new w8 _ _
    rw [hHh.out] at hF8
    have hHR : ¬ Hh = R := by have := hHh.out; have := hx8.size; omega
    clear hw9
    obtain ⟨kk, rfl⟩ : ∃ kk : Nat, k = (kk : Int) := ⟨k.toNat, by omega⟩
    have hx79 := hx8.trans hx9
    have hc9 := hc5.trans (Chg.ofExt (S := fun k => k = R) hx79) (fun _ _ e => e)
    have hst' : ({ st with next := st.next + 1 } : WSt) = { st with next := j + 1 } := by rw [hnx.out]
    rw [hst'] at hfin hL
    have hMs : Ms B R X O Hh (.slice (some ⟨b, off, none⟩) ns.length c) #[.int .i64 (kk : Int), .string name, .int .i64 size, .slice As ny ca, .slice Ai ni ci, .slice Af nf cf] w { st with next := j + 1 } w9 :=
      ⟨hc9, hI5.ext hx79, hbX5.ext hx79, hbO.ext hx9, hbH, hXR, hOR, hHR, hBw⟩
    have hsl := hMs.below
    have hlow : ∀ {v : Value} {m : Nat} {cs : List Value}, Sl B w2 v m cs → Sl B w9 v m cs := fun hs => hs.below (chgR_below (((Chg.ofExt (S := fun k => k = R) hx3).trans hx5 (fun _ _ e => e)).trans (Chg.ofExt (S := fun k => k = R) hx79) (fun _ _ e => e)) hR hBw1)
    have hMs9 : Ms B R X O Hh (.slice (some ⟨b, off, none⟩) ns.length c) #[.int .i64 (kk : Int), .string name, .int .i64 size, .slice As ny ca, .slice Ai ni ci, .slice Af nf cf] w9 { st with next := j + 1 } w9 :=
      ⟨Chg.refl _ _, hMs.inv, hMs.nd, hMs.op, hMs.sh, hXR, hOR, hHR, hMs.inv.size⟩
    exact rt11_all H' (by omega) (by omega) syms items fields (by rw [hny.out]; exact hlow hSy) (by rw [hni.out]; exact hlow hSi) (by rw [hnf.out]; exact hlow hSf) hrng (hSc.below hsl) _ a8 w9 ⟨hF8, hMs9⟩ hL PO (fun w' hc hi => hfin w' (hc9.trans hc (fun _ _ e => e)) hi)
end
theorem rtyped_all {B R : Nat} {no : Value} {ns : List Ne} : ∀ (f deep : Nat), deep + f = 20 → RTypC B R no ns f deep
  | 0, deep, hdf => rtyped_step hdf (fun f e => by omega)
  | f + 1, deep, hdf => rtyped_step hdf (fun g e => by
    obtain rfl : g = f := by omega
    exact rtyped_all g (deep + 1) (by omega))
end Go.Proofs.YtejcacbbhijdcaaGreatDoor.Pr
/- parse: the reference's reader: the gates ahead of a type, walked. -/
namespace Go.Proofs.YtejcacbbhijdcaaGreatDoor.Pr
open Go.ChangeShapes Go.WideShapes Go.ChangeAt Go.RowKit
open Base Lx Mi Piece
set_option linter.unusedVariables false
set_option linter.unusedSimpArgs false

/-- the frame and the reader between two gates -/
def GM (B R : Nat) (vl vn : Value) (vs : List V3) (L : List Tok) (sl : List Value) (w : World) (q : QS) (a : Act) (w' : World) : Prop := Fr 161 sl a ∧ Chg (fun k => k = R) w w' ∧ Rq B w' R vl vn vs L q
section
variable {B R : Nat} {vl vn : Value} {vs : List V3} {L : List Tok} {q : QS}
theorem bad_n (b : Bool) (er : Nat) (i : Int) (hi : (er : Int) = i) (w : World) (h : Rq B w R vl vn vs L q) : Calls Tryz.prog 27 #[.pointer (some ⟨R, 0, none⟩), .bool b, .int .i64 i] w fun e w' => PQ B R vl vn vs L w (badQ L q b er) e w' := by
  subst hi; exact bad_any b er w h
theorem Rq.castB {w : World} {b b' : Bool} {e : Nat} (h : Rq B w R vl vn vs L (badQ L q b e)) (hb : b = b') : Rq B w R vl vn vs L (badQ L q b' e) := by rw [← hb]; exact h
set_option maxRecDepth 1000000 in
set_option maxHeartbeats 8000000 in
theorem gate7 {deep fuel : Nat} (hdf : deep + fuel = 20) (k nn : Int) (v2 v3 v4 v5 v6 v7 v9 : Value) (w0 : World) (Q : Exit → Act → World → Prop) (a : Act) (w : World)
    (hM : GM B R vl vn vs L [.pointer (some ⟨R, 0, none⟩), .int .i64 (deep : Int), v2, v3, v4, v5, v6, v7, .int .i64 0, v9, .int .i64 k, .int .i64 nn] w0 q a w)
    (hQ : ∀ a' w', GM B R vl vn vs L [.pointer (some ⟨R, 0, none⟩), .int .i64 (deep : Int), v2, v3, v4, v5, v6, v7, .int .i64 0, v9, .int .i64 k, .int .i64 nn] w0 (badQ L q (decide (fuel = 0) || (decide (0 ≤ k) && decide (200 ≤ q.ns.length))) 2) a' w' → (tlC 8 Tryz.f26.body).wp Tryz.prog Q a' w') :
    (tlC 7 Tryz.f26.body).wp Tryz.prog Q a w := by
  conv => arg 2; whnf
  refine seq_mid _ ?_ hQ
  intro K hK
  clear hQ
  obtain ⟨hF, hc, h⟩ := hM
  obtain ⟨u, rfl⟩ := lay161 hF
  clear hF
  obtain ⟨A, c, rfl, hnc, hcm⟩ := h.slice
  have c2 : w.cell? ⟨R, 2, none⟩ = some (.slice A q.ns.length c) := h.blk.cell 2
  obtain ⟨n, hn⟩ : ∃ z, Hid (q.ns.length = z) := ⟨_, Lib.hid rfl⟩
  rw [hn.out] at c2 hK h
  have hbd := fun b => bad_n b 2 2 rfl w h
  by_cases hf : fuel = 0
  · have hd : (20 : Int) ≤ (deep : Int) := by omega
    go_wp2_with fail
    refine (hbd _).mono ?_
    rintro e w2 ⟨rfl, hc2, h2⟩
    have hc02 := hc.trans hc2 (fun _ _ e => e)
    have h2 := h2.castB (b' := decide (fuel = 0) || (decide (0 ≤ k) && decide (200 ≤ n))) (by simp [hf, hd])
    go_wp2_with fail
    exact ⟨⟨_, rfl, rfl⟩, hc02, h2⟩
  · have hd : ¬ (20 : Int) ≤ (deep : Int) := by omega
    by_cases hk : 0 ≤ k
    · have hn2 : ((200 : Int) ≤ (n : Int)) = (200 ≤ n) := by simp only [eq_iff_iff]; omega
      go_wp2_with fail
      refine (hbd _).mono ?_
      rintro e w2 ⟨rfl, hc2, h2⟩
      have hc02 := hc.trans hc2 (fun _ _ e => e)
      have h2 := h2.castB (b' := decide (fuel = 0) || (decide (0 ≤ k) && decide (200 ≤ n))) (by first | (simp [hf, hk]; done) | (simp [hf]; omega))
      go_wp2_with fail
      exact ⟨⟨_, rfl, rfl⟩, hc02, h2⟩
    · have hk' : k < 0 := by omega
      go_wp2_with fail
      refine (hbd _).mono ?_
      rintro e w2 ⟨rfl, hc2, h2⟩
      have hc02 := hc.trans hc2 (fun _ _ e => e)
      have h2 := h2.castB (b' := decide (fuel = 0) || (decide (0 ≤ k) && decide (200 ≤ n))) (by first | (simp [hf, hk]; done) | (simp [hf]; omega))
      go_wp2_with fail
      exact ⟨⟨_, rfl, rfl⟩, hc02, h2⟩
set_option maxRecDepth 1000000 in
set_option maxHeartbeats 8000000 in
theorem gate8 {deep : Nat} (k nn : Int) (v2 v3 v4 v5 v6 v7 v9 : Value) (w0 : World) (Q : Exit → Act → World → Prop) (a : Act) (w : World)
    (hM : GM B R vl vn vs L [.pointer (some ⟨R, 0, none⟩), .int .i64 (deep : Int), v2, v3, v4, v5, v6, v7, .int .i64 0, v9, .int .i64 k, .int .i64 nn] w0 q a w)
    (hQ : ∀ a' w', GM B R vl vn vs L [.pointer (some ⟨R, 0, none⟩), .int .i64 (deep : Int), v2, v3, v4, v5, v6, v7, .int .i64 0, v9, .int .i64 k, .int .i64 nn] w0 (badQ L q (decide (k < 0) && decide (nn < 0)) 5) a' w' → (tlC 9 Tryz.f26.body).wp Tryz.prog Q a' w') :
    (tlC 8 Tryz.f26.body).wp Tryz.prog Q a w := by
  conv => arg 2; whnf
  refine seq_mid _ ?_ hQ
  intro K hK
  clear hQ
  obtain ⟨hF, hc, h⟩ := hM
  obtain ⟨u, rfl⟩ := lay161 hF
  clear hF
  have hbd := fun b => bad_n b 5 5 rfl w h
  by_cases hk : k < 0
  · go_wp2_with fail
    refine (hbd _).mono ?_
    rintro e w2 ⟨rfl, hc2, h2⟩
    have hc02 := hc.trans hc2 (fun _ _ e => e)
    have h2 := h2.castB (b' := decide (k < 0) && decide (nn < 0)) (by first | (simp [hk]; done) | (simp; omega))
    go_wp2_with fail
    exact ⟨⟨_, rfl, rfl⟩, hc02, h2⟩
  · go_wp2_with fail
    refine (hbd _).mono ?_
    rintro e w2 ⟨rfl, hc2, h2⟩
    have hc02 := hc.trans hc2 (fun _ _ e => e)
    have h2 := h2.castB (b' := decide (k < 0) && decide (nn < 0)) (by first | (simp [hk]; done) | (simp; omega))
    go_wp2_with fail
    exact ⟨⟨_, rfl, rfl⟩, hc02, h2⟩
set_option maxRecDepth 1000000 in
set_option maxHeartbeats 8000000 in
theorem gate9 {deep : Nat} (k nn : Int) (union : Bool) (v3 v4 v5 v6 v7 v9 : Value) (w0 : World) (Q : Exit → Act → World → Prop) (a : Act) (w : World)
    (hM : GM B R vl vn vs L [.pointer (some ⟨R, 0, none⟩), .int .i64 (deep : Int), .bool union, v3, v4, v5, v6, v7, .int .i64 0, v9, .int .i64 k, .int .i64 nn] w0 q a w)
    (hQ : ∀ a' w', GM B R vl vn vs L [.pointer (some ⟨R, 0, none⟩), .int .i64 (deep : Int), .bool union, v3, v4, v5, v6, v7, .int .i64 0, v9, .int .i64 k, .int .i64 nn] w0 (badQ L q (union && decide (k = 8)) 4) a' w' → (tlC 10 Tryz.f26.body).wp Tryz.prog Q a' w') :
    (tlC 9 Tryz.f26.body).wp Tryz.prog Q a w := by
  conv => arg 2; whnf
  refine seq_mid _ ?_ hQ
  intro K hK
  clear hQ
  obtain ⟨hF, hc, h⟩ := hM
  obtain ⟨u, rfl⟩ := lay161 hF
  clear hF
  have hbd := fun b => bad_n b 4 4 rfl w h
  cases union with
  | true =>
    go_wp2_with fail
    refine (hbd _).mono ?_
    rintro e w2 ⟨rfl, hc2, h2⟩
    have hc02 := hc.trans hc2 (fun _ _ e => e)
    have h2 := h2.castB (b' := true && decide (k = 8)) (by first | rfl | simp)
    go_wp2_with fail
    exact ⟨⟨_, rfl, rfl⟩, hc02, h2⟩
  | false =>
    go_wp2_with fail
    refine (hbd _).mono ?_
    rintro e w2 ⟨rfl, hc2, h2⟩
    have hc02 := hc.trans hc2 (fun _ _ e => e)
    have h2 := h2.castB (b' := false && decide (k = 8)) (by rfl)
    go_wp2_with fail
    exact ⟨⟨_, rfl, rfl⟩, hc02, h2⟩
set_option maxRecDepth 1000000 in
set_option maxHeartbeats 8000000 in
theorem gate10 {deep : Nat} (k nn : Int) (union : Bool) (ahead : List Nat) (A : Option Addr) (na ca : Nat) (v4 v5 v6 v7 v9 : Value) (w0 : World) (Q : Exit → Act → World → Prop) (a : Act) (w : World)
    (hM : GM B R vl vn vs L [.pointer (some ⟨R, 0, none⟩), .int .i64 (deep : Int), .bool union, .slice A na ca, v4, v5, v6, v7, .int .i64 0, v9, .int .i64 k, .int .i64 nn] w0 q a w) (hA : Rd w A (ints ahead)) (hna : ahead.length = na) (hna2 : na ≤ 100000) (hm : ∀ m ∈ ahead, m < q.ns.length)
    (hQ : ∀ a' w', GM B R vl vn vs L [.pointer (some ⟨R, 0, none⟩), .int .i64 (deep : Int), .bool union, .slice A na ca, v4, v5, v6, v7, .int .i64 0, v9, .int .i64 k, .int .i64 nn] w0 (badQ L q (union && sameQ q.ns ahead k nn && (decide (0 ≤ k) || decide (0 ≤ nn))) 6) a' w' → (upC 11 Tryz.f26.body).wp Tryz.prog Q a' w') :
    (tlC 10 Tryz.f26.body).wp Tryz.prog Q a w := by
  conv => arg 2; whnf
  refine seq_mid _ ?_ hQ
  intro K hK
  clear hQ
  obtain ⟨hF, hc, h⟩ := hM
  obtain ⟨u, rfl⟩ := lay161 hF
  clear hF
  have hbd := fun b => bad_n b 6 6 rfl w h
  have hsm := same_any A na ca ahead k nn w h hA hna hna2 hm
  cases union with
  | true =>
    obtain ⟨sm, hsm'⟩ : ∃ z, Hid (sameQ q.ns ahead k nn = z) := ⟨_, Lib.hid rfl⟩
    rw [hsm'.out] at hsm hK
    go_wp2_with fail
    refine hsm.mono ?_
    rintro e w1 ⟨rfl, hx1⟩
    have hbd1 := fun b => bad_n b 6 6 rfl w1 (h.ext hx1)
    have hc1 := hc.trans (Chg.ofExt hx1) (fun _ _ e => e)
    clear hbd hsm
    cases sm with
    | false =>
      go_wp2_with fail
      refine (hbd1 _).mono ?_
      rintro e w2 ⟨rfl, hc2, h2⟩
      have hc02 := hc1.trans hc2 (fun _ _ e => e)
      have h2 := h2.castB (b' := true && false && (decide (0 ≤ k) || decide (0 ≤ nn))) (by simp)
      go_wp2_with fail
      exact ⟨⟨_, rfl, rfl⟩, hc02, h2⟩
    | true =>
      by_cases hk : 0 ≤ k
      · go_wp2_with fail
        refine (hbd1 _).mono ?_
        rintro e w2 ⟨rfl, hc2, h2⟩
        have hc02 := hc1.trans hc2 (fun _ _ e => e)
        have h2 := h2.castB (b' := true && true && (decide (0 ≤ k) || decide (0 ≤ nn))) (by first | (simp [hk]; done) | (simp; omega))
        go_wp2_with fail
        exact ⟨⟨_, rfl, rfl⟩, hc02, h2⟩
      · go_wp2_with fail
        refine (hbd1 _).mono ?_
        rintro e w2 ⟨rfl, hc2, h2⟩
        have hc02 := hc1.trans hc2 (fun _ _ e => e)
        have h2 := h2.castB (b' := true && true && (decide (0 ≤ k) || decide (0 ≤ nn))) (by first | (simp [hk]; done) | (simp; omega))
        go_wp2_with fail
        exact ⟨⟨_, rfl, rfl⟩, hc02, h2⟩
  | false =>
    go_wp2_with fail
    refine (hbd _).mono ?_
    rintro e w2 ⟨rfl, hc2, h2⟩
    have hc02 := hc.trans hc2 (fun _ _ e => e)
    have h2 := h2.castB (b' := false && sameQ q.ns ahead k nn && (decide (0 ≤ k) || decide (0 ≤ nn))) (by rfl)
    go_wp2_with fail
    exact ⟨⟨_, rfl, rfl⟩, hc02, h2⟩
end
end Go.Proofs.YtejcacbbhijdcaaGreatDoor.Pr
/- parse: the reference's reader: a type, walked whole. -/
namespace Go.Proofs.YtejcacbbhijdcaaGreatDoor.Pr
open Go.ChangeShapes Go.WideShapes Go.ChangeAt Go.RowKit
open Base Lx Mi Piece
set_option linter.unusedVariables false
set_option linter.unusedSimpArgs false

set_option maxRecDepth 1000000 in
theorem lay161b {v0 v1 v2 v3 v4 v5 v6 v7 v8 : Value} {a : Act} (h : Piece.Fr 161 [v0, v1, v2, v3, v4, v5, v6, v7, v8] a) : ∃ u : Nat → Value, a = ⟨(v0 :: v1 :: v2 :: v3 :: v4 :: v5 :: v6 :: v7 :: v8 :: u 9 :: u 10 :: u 11 :: u 12 :: u 13 :: u 14 :: u 15 :: u 16 :: u 17 :: u 18 :: u 19 :: u 20 :: u 21 :: u 22 :: u 23 :: u 24 :: u 25 :: u 26 :: u 27 :: u 28 :: u 29 :: u 30 :: u 31 :: u 32 :: u 33 :: u 34 :: u 35 :: u 36 :: u 37 :: u 38 :: u 39 :: u 40 :: u 41 :: u 42 :: u 43 :: u 44 :: u 45 :: u 46 :: u 47 :: u 48 :: u 49 :: u 50 :: u 51 :: u 52 :: u 53 :: u 54 :: u 55 :: u 56 :: u 57 :: u 58 :: u 59 :: u 60 :: u 61 :: u 62 :: u 63 :: u 64 :: u 65 :: u 66 :: u 67 :: u 68 :: u 69 :: u 70 :: u 71 :: u 72 :: u 73 :: u 74 :: u 75 :: u 76 :: u 77 :: u 78 :: u 79 :: u 80 :: u 81 :: u 82 :: u 83 :: u 84 :: u 85 :: u 86 :: u 87 :: u 88 :: u 89 :: u 90 :: u 91 :: u 92 :: u 93 :: u 94 :: u 95 :: u 96 :: u 97 :: u 98 :: u 99 :: u 100 :: u 101 :: u 102 :: u 103 :: u 104 :: u 105 :: u 106 :: u 107 :: u 108 :: u 109 :: u 110 :: u 111 :: u 112 :: u 113 :: u 114 :: u 115 :: u 116 :: u 117 :: u 118 :: u 119 :: u 120 :: u 121 :: u 122 :: u 123 :: u 124 :: u 125 :: u 126 :: u 127 :: u 128 :: u 129 :: u 130 :: u 131 :: u 132 :: u 133 :: u 134 :: u 135 :: u 136 :: u 137 :: u 138 :: u 139 :: u 140 :: u 141 :: u 142 :: u 143 :: u 144 :: u 145 :: u 146 :: u 147 :: u 148 :: u 149 :: u 150 :: u 151 :: u 152 :: u 153 :: u 154 :: u 155 :: u 156 :: u 157 :: u 158 :: u 159 :: u 160 :: []).toArray, []⟩ := by
  obtain ⟨u, hu⟩ := h.spread
  refine ⟨u, hu.trans ?_⟩
  kernel_rfl
def M1 (sl : List Value) (w : World) (g : Nat) (t : Tok) (R : Nat) (a : Act) (w' : World) : Prop := Fr 161 sl a ∧ Ext w w' ∧ Blk w' g #[.int .i64 t.k, .string t.s, .int .i64 (t.a : Int)] 71 ∧ ¬ g = R
section
variable {B R : Nat} {vl vn : Value} {vs : List V3} {L : List Tok} {q : QS}
set_option maxRecDepth 1000000 in
set_option maxHeartbeats 8000000 in
theorem typed7 {deep fuel : Nat} (hTk : TokOk L) (hdf : deep + fuel = 20) (H : ∀ f, fuel = f + 1 → TypQ B R L (deep + 1) f) (union : Bool) (ahead : List Nat) (A : Option Addr) (na ca : Nat) (v4 v5 v6 v7 v9 : Value) (w : World) (h : Rq B w R vl vn vs L q) (hw : q.why = 0) (hW : WQ L q.at_ q) (hA : Rd w A (ints ahead)) (hna : ahead.length = na) (hna2 : na ≤ 100000) (hm : ∀ m ∈ ahead, m < q.ns.length) (hB : B ≤ w.heap.size) (hAR : ∀ a, A = some a → ¬ a.block = R) (PO : Ending → World → Prop)
    (hQ : ∀ w', PT B R vl vn vs L w (typedQ L fuel union ahead q).2 w' → PO (.returned (.int .i64 ((typedQ L fuel union ahead q).1 : Int))) w') (a : Act) (w' : World)
    (hM : GM B R vl vn vs L [.pointer (some ⟨R, 0, none⟩), .int .i64 (deep : Int), .bool union, .slice A na ca, v4, v5, v6, v7, .int .i64 0, v9, .int .i64 (kOf (tkQ L q)), .int .i64 (calledQ L q)] w (gate1 L q) a w') :
    (tlC 7 Tryz.f26.body).wp Tryz.prog (bodyPost Tryz.prog Tryz.f26 PO) a w' := by
  refine gate7 hdf _ _ _ _ _ _ _ _ _ w _ a w' hM (fun a1 w1 hM => ?_)
  refine gate8 _ _ _ _ _ _ _ _ _ w _ a1 w1 hM (fun a2 w2 hM => ?_)
  refine gate9 _ _ _ _ _ _ _ _ _ w _ a2 w2 hM (fun a3 w3 hM => ?_)
  have hn3 : ∀ (x y z : Bool), (badQ L (badQ L (badQ L (gate1 L q) x 2) y 5) z 4).ns = q.ns := fun x y z => by rw [badQ_ns, badQ_ns, badQ_ns, gate1_ns]
  refine gate10 _ _ _ ahead _ _ _ _ _ _ _ _ w _ a3 w3 hM (hA.chg hM.2.1 (fun a ha e => hAR a ha e)) hna hna2 (fun m h => by rw [hn3]; exact hm m h) (fun a4 w4 hM => ?_)
  rw [hn3] at hM
  have hg : gateQ L fuel union ahead q = badQ L (badQ L (badQ L (badQ L (gate1 L q) (decide (fuel = 0) || (decide (0 ≤ kOf (tkQ L q)) && decide (200 ≤ (gate1 L q).ns.length))) 2) (decide (kOf (tkQ L q) < 0) && decide (calledQ L q < 0)) 5) (union && decide (kOf (tkQ L q) = 8)) 4) (union && sameQ q.ns ahead (kOf (tkQ L q)) (calledQ L q) && (decide (0 ≤ kOf (tkQ L q)) || decide (0 ≤ calledQ L q))) 6 := by rw [gate1_ns]; rfl
  rw [← hg] at hM
  obtain ⟨hF, hc, h4⟩ := hM
  exact typed11 hTk hdf H union ahead hw hW _ _ rfl (fun _ => rfl) _ _ _ _ _ _ _ a4 w4 h4 (Nat.le_trans hB hc.size) PO hF (fun w5 hp => hQ w5 (PT.after (q2 := gateQ L fuel union ahead q) (hc.mono fun k _ e => .inl e) (.inl rfl) (SF.refl w vs) hp))
set_option maxRecDepth 1000000 in
set_option maxHeartbeats 8000000 in
theorem typed_step {deep fuel : Nat} (hTk : TokOk L) (hdf : deep + fuel = 20) (H : ∀ f, fuel = f + 1 → TypQ B R L (deep + 1) f) : TypQ B R L deep fuel := by
  intro union ahead A na ca q w vl vn vs h hw hW hA hna hna2 hm hB hAR
  obtain ⟨PO, hPO⟩ : ∃ PO : Ending → World → Prop, Hid ((fun e w' => e = .returned (.int .i64 ((typedQ L fuel union ahead q).1 : Int)) ∧ PT B R vl vn vs L w (typedQ L fuel union ahead q).2 w') = PO) := ⟨_, rfl⟩
  have hfin : ∀ w', PT B R vl vn vs L w (typedQ L fuel union ahead q).2 w' → PO (.returned (.int .i64 ((typedQ L fuel union ahead q).1 : Int))) w' := fun w' hp => by rw [← hPO.out]; exact ⟨rfl, hp⟩
  rw [hPO.out]
  have h7 := fun v4 v5 v6 v7 v9 => typed7 hTk hdf H union ahead A na ca v4 v5 v6 v7 v9 w h hw hW hA hna hna2 hm hB hAR PO hfin
  clear hPO H hfin
  have htk := tok_any w h
  have hnm := fun W hW => nameQ_any W (h.ext (w' := W) hW)
  have hg1 : gate1 L q = if kOf (tkQ L q) < 0 then nameQ L q else q := rfl
  have hcl : calledQ L q = if kOf (tkQ L q) < 0 then optI (calledN q.ns (tkQ L q).s) else -1 := rfl
  have hko : kOf (tkQ L q) = if (tkQ L q).k = 0 ∨ (tkQ L q).k = 2 then idxOf refL (tkQ L q).s else -1 := rfl
  obtain ⟨t, ht⟩ : ∃ z, Hid (tkQ L q = z) := ⟨_, Lib.hid rfl⟩
  rw [ht.out] at htk hg1 hcl hko h7
  simp only [ht.out] at hnm
  unfold tokV at htk
  obtain ⟨k, hk⟩ : ∃ z, Hid (kOf t = z) := ⟨_, Lib.hid rfl⟩
  rw [hk.out] at hg1 hcl hko h7
  obtain ⟨nn, hnn⟩ : ∃ z, Hid (calledQ L q = z) := ⟨_, Lib.hid rfl⟩
  rw [hnn.out] at hcl h7
  go_enter Tryz.func26, Tryz.ntmps26
  refine seq_mid (fun a' w' => Fr 161 [.pointer (some ⟨R, 0, none⟩), .int .i64 (deep : Int), .bool union, .slice A na ca, undef, undef, undef, undef, .int .i64 0] a' ∧ w' = w) ?_ ?_
  · intro K hK
    clear htk hnm h7 hg1 hcl hko
    go_wp2_with fail
    first | exact ⟨⟨_, rfl, rfl⟩, rfl⟩ | exact ⟨_, rfl, rfl⟩
  rintro a1 w' ⟨hF, hw'⟩
  subst hw'
  refine seq_mid (fun a' w1 => ∃ g, M1 [.pointer (some ⟨R, 0, none⟩), .int .i64 (deep : Int), .bool union, .slice A na ca, undef, undef, undef, undef, .int .i64 0, .pointer (some ⟨g, 0, none⟩), .int .i64 (-1), .int .i64 (-1)] w' g t R a' w1) ?_ ?_
  · intro K hK
    clear hnm h7 hg1 hcl hko
    obtain ⟨u, rfl⟩ := lay161b hF
    clear hF
    go_wp2_with fail
    refine htk.mono ?_
    rintro e w1 ⟨rfl, hx1⟩
    have hb : Blk (w1.alloc (.cells #[.int .i64 t.k, .string t.s, .int .i64 (t.a : Int)] 71)) w1.heap.size #[.int .i64 t.k, .string t.s, .int .i64 (t.a : Int)] 71 := Blk.new w1 _ _
    have hxa := hx1.alloc (.cells #[.int .i64 t.k, .string t.s, .int .i64 (t.a : Int)] 71)
    have hgR : ¬ w1.heap.size = R := by have := hx1.size; have := h.blk.lt; omega
    clear htk
    go_wp2_with fail
    exact ⟨w1.heap.size, ⟨_, rfl, rfl⟩, hxa, hb, hgR⟩
  rintro a1 w1 ⟨g, hF1, hx1, hb1, hgR⟩
  clear htk
  refine seq_mid (fun a' w2 => M1 [.pointer (some ⟨R, 0, none⟩), .int .i64 (deep : Int), .bool union, .slice A na ca, undef, undef, undef, undef, .int .i64 0, .pointer (some ⟨g, 0, none⟩), .int .i64 k, .int .i64 (-1)] w' g t R a' w2) ?_ ?_
  · intro K hK
    clear hnm h7 hg1 hcl
    obtain ⟨u, rfl⟩ := lay161 hF1
    clear hF1
    have z0 := hb1.cell 0
    have z1 := hb1.cell 1
    have hwd := word_any t.s w1
    by_cases h0 : t.k = 0
    · rw [if_pos (.inl h0)] at hko
      rw [← hko] at hwd
      have e0 : (t.k == 0) = true := by simpa using h0
      clear hko
      go_wp2_with fail
      refine hwd.mono ?_
      rintro e w2 ⟨rfl, hx2⟩
      go_wp2_with fail
      exact ⟨⟨_, rfl, rfl⟩, hx1.trans hx2, hb1.ext hx2, hgR⟩
    · have e0 : (t.k == 0) = false := by simpa using h0
      by_cases h2 : t.k = 2
      · rw [if_pos (.inr h2)] at hko
        rw [← hko] at hwd
        have e2 : (t.k == 2) = true := by simpa using h2
        clear hko
        go_wp2_with fail
        refine hwd.mono ?_
        rintro e w2 ⟨rfl, hx2⟩
        go_wp2_with fail
        exact ⟨⟨_, rfl, rfl⟩, hx1.trans hx2, hb1.ext hx2, hgR⟩
      · have e2 : (t.k == 2) = false := by simpa using h2
        rw [if_neg (by omega)] at hko
        subst hko
        go_wp2_with fail
        exact ⟨⟨_, rfl, rfl⟩, hx1, hb1, hgR⟩
  rintro a2 w2 ⟨hF2, hx2, hb2, _⟩
  refine seq_mid (fun a' w3 => GM B R vl vn vs L [.pointer (some ⟨R, 0, none⟩), .int .i64 (deep : Int), .bool union, .slice A na ca, undef, undef, undef, undef, .int .i64 0, .pointer (some ⟨g, 0, none⟩), .int .i64 k, .int .i64 nn] w' (gate1 L q) a' w3) ?_ (fun a3 w3 hM => h7 _ _ _ _ _ a3 w3 hM)
  intro K hK
  clear h7 hko
  obtain ⟨u, rfl⟩ := lay161 hF2
  clear hF2
  by_cases hk0 : k < 0
  · rw [if_pos hk0] at hg1 hcl
    have hnm2 := hnm w2 hx2
    clear hnm
    rw [hg1] at hK
    clear hg1
    go_wp2_with fail
    refine hnm2.mono ?_
    rintro e w3 ⟨rfl, hc3, h3⟩
    have hb3 := hc3.blk hb2 hgR
    have z1 := hb3.cell 1
    have hcd := called_any t.s w3 h3
    rw [nameQ_ns, ← hcl] at hcd
    clear hcl
    go_wp2_with fail
    refine hcd.mono ?_
    rintro e w4 ⟨rfl, hw4⟩
    have hw4 := hw4.symm
    subst hw4
    go_wp2_with fail
    exact ⟨⟨_, rfl, rfl⟩, (Chg.ofExt hx2).trans hc3 (fun _ _ e => e), h3⟩
  · rw [if_neg hk0] at hg1 hcl
    subst hcl
    rw [hg1] at hK
    clear hg1
    have h2 := h.ext hx2
    have hcx := Chg.ofExt (S := fun k => k = R) hx2
    go_wp2_with fail
    exact ⟨⟨_, rfl, rfl⟩, hcx, h2⟩
theorem typedQ_any (hTk : TokOk L) : ∀ (fuel deep : Nat), deep + fuel = 20 → TypQ B R L deep fuel
  | 0, deep, hdf => typed_step hTk hdf (fun f e => by omega)
  | fuel + 1, deep, hdf => typed_step hTk hdf (fun f e => by
    obtain rfl : f = fuel := by omega
    exact typedQ_any hTk f (deep + 1) (by omega))
end
end Go.Proofs.YtejcacbbhijdcaaGreatDoor.Pr
/- parse: the reference's Parse, walked. -/
namespace Go.Proofs.YtejcacbbhijdcaaGreatDoor.Pr
open Go.ChangeShapes Go.WideShapes Go.ChangeAt Go.RowKit
open Base Lx Mi Piece
set_option linter.unusedVariables false
set_option linter.unusedSimpArgs false

theorem resRef {w : World} {tmps : Array Value} {a : Nat} {u v x : Value} (ha : tmps[2]?.getD undef = .pointer (some ⟨a, 0, none⟩)) (hb : tmps[3]?.getD undef = v) (hc : tmps[4]?.getD undef = x) (h0 : w.cell? ⟨a, 0, none⟩ = some u) : (results Tryz.f14 tmps).run Tryz.prog w = .ok (.tuple #[.agg #[u], v, x]) w := by
  simp [results, Tryz.f14, go_sem, ha, hb, hc, h0]
set_option maxRecDepth 1000000 in
set_option maxHeartbeats 4000000 in
theorem refParse_any (s : ByteArray) (hs : s.size ≤ 140737488351232) (w : World) : Calls Tryz.prog 14 #[.string s] w fun e w' => PP (parseQ s) w e w' := by
  obtain ⟨w1, hw1⟩ : ∃ z, Hid (w.alloc (.cells #[.slice none 0 0] 24) = z) := ⟨_, rfl⟩
  obtain ⟨q, hq⟩ : ∃ z, Hid (w.heap.size = z) := ⟨_, rfl⟩
  have hx1 : Ext w w1 := by rw [← hw1.out]; exact (Ext.refl w).alloc _
  have hb1 : Blk w1 q #[.slice none 0 0] 24 := by rw [← hw1.out, ← hq.out]; exact Blk.new w _ _
  have hc := refWords_any s hs w1
  obtain ⟨r, hr⟩ : ∃ z, Hid (parseQ s = z) := ⟨_, Lib.hid rfl⟩
  rw [hr.out]
  obtain ⟨PO, hPO⟩ : ∃ PO : Ending → World → Prop, Hid ((fun e w' => PP r w e w') = PO) := ⟨_, Lib.hid rfl⟩
  rw [hPO.out]
  have hfin : ∀ e w', PP r w e w' → PO e w' := fun e w' h => by rw [← hPO.out]; exact h
  go_enter Tryz.func14, Tryz.ntmps14
  go_wp2_with fail
  rw [hw1.out, hq.out]
  refine hc.mono ?_
  rintro e w2 ⟨v, p, er, rfl, hv, hx2⟩
  have hb2 := hb1.ext hx2
  have c2 : w2.cell? ⟨q, 0, none⟩ = some (.slice none 0 0) := hb2.cell 0
  have f2 := hb2.frozen 0
  rcases hv with ⟨hwd, rfl⟩ | ⟨hwd, rfl, rfl, hRt⟩
  · have hne : (er != 0) = true := by rcases words_er hwd with rfl | rfl <;> rfl
    have hrr : r = ([], p, er) := by rw [← hr.out]; unfold parseQ; rw [hwd]
    clear hc hwd
    go_wp2_with fail
    have hb3 : Blk (w2.setCell ⟨q, 0, none⟩ (.slice none 0 0)) q #[.slice none 0 0] 24 := hb2.set 0 _
    refine bodyPost_ret (resRef rfl rfl rfl (hb3.cell 0)) rfl ?_
    refine hfin _ _ ?_
    rw [hrr]
    exact ⟨.slice none 0 0, [], rfl, nds_nil _ _, (hx1.trans hx2).setCell (by show w.heap.size ≤ q; have := hq.out; omega) _⟩
  · obtain ⟨g, cap, rfl, hcl, h1, h2⟩ := hRt
    obtain ⟨hs4, hlen, hts⟩ := words_ok hwd
    have hTk := toks_ok s
    have hlt : 0 < (toks s).length := by
      obtain ⟨pre, e, h, _⟩ := hTk
      rw [h]; simp
    have hg : g < w2.heap.size := by
      obtain ⟨t, l, e⟩ : ∃ t l, toks s = t :: l := by
        cases h : toks s with
        | nil => rw [h] at hlt; simp at hlt
        | cons t l => exact ⟨t, l, rfl⟩
      have := hcl 0 (.int .i64 t.k) (by rw [e]; rfl)
      exact World.block_lt_of_cell? w2 ⟨g, 0, none⟩ this
    have hrr := hr.out
    unfold parseQ at hrr
    rw [hwd] at hrr
    simp only at hrr
    obtain ⟨L, hL⟩ : ∃ z, Hid (toks s = z) := ⟨_, Lib.hid rfl⟩
    rw [hL.out] at hcl h1 hlen hts hTk hlt hrr ⊢
    have hx3 : Ext w2 (w2.alloc (.cells #[.slice (some ⟨g, 0, none⟩) L.length cap, .int .i64 0, .slice none 0 0, .int .i64 0, .int .i64 0] 67)) := (Ext.refl w2).alloc _
    have hb := Blk.new w2 #[.slice (some ⟨g, 0, none⟩) L.length cap, .int .i64 0, .slice none 0 0, .int .i64 0, .int .i64 0] 67
    obtain ⟨w3, hw3⟩ : ∃ z, Hid (w2.alloc (.cells #[.slice (some ⟨g, 0, none⟩) L.length cap, .int .i64 0, .slice none 0 0, .int .i64 0, .int .i64 0] 67) = z) := ⟨_, rfl⟩
    rw [hw3.out] at hx3 hb
    obtain ⟨R, hR⟩ : ∃ z, Hid (w2.heap.size = z) := ⟨_, rfl⟩
    rw [hR.out] at hb hg
    have hsz3 := hx3.size
    have hq0 : Rq R w3 R (.slice (some ⟨g, 0, none⟩) L.length cap) (.slice none 0 0) [] L ⟨0, [], 0, 0⟩ := ⟨hb, ⟨g, 0, cap, rfl, Rd.ext (fun _ => ⟨g, 0, rfl, fun j u hj => by rw [Nat.zero_add]; exact hcl j u hj⟩) hx3, h1, h2, hg⟩, nds_nil _ _, hlt, by omega, hts, Nat.zero_le _, Nat.le_refl _, fun i j a b h => by simp at h⟩
    have hT := typedQ_any hTk 20 0 rfl false [] none 0 0 ⟨0, [], 0, 0⟩ w3 _ _ [] hq0 rfl ⟨hlt, (fun d h => by simp at h), (fun d h => by simp at h)⟩ (Rd.nil _ _) rfl (by omega) (fun m h => by cases h) (by have := hR.out; omega) (fun a ha => by cases ha)
    rw [show ((0 : Nat) : Int) = 0 from rfl] at hT
    obtain ⟨x, hx⟩ : ∃ z, Hid (typedQ L 20 false [] ⟨0, [], 0, 0⟩ = z) := ⟨_, rfl⟩
    rw [hx.out] at hT hrr
    obtain ⟨x, q1⟩ := x
    simp only at hT hrr
    clear hc hwd hx
    go_wp2_with fail
    rw [hw3.out, hR.out]
    refine hT.mono ?_
    rintro e w4 ⟨rfl, hc4, vn4, vs4, h4, hf4, hg4⟩
    have htk := tok_any w4 h4
    unfold tokV at htk
    have htt := tok_k
    obtain ⟨t, ht⟩ : ∃ z, Hid (tkQ L q1 = z) := ⟨_, Lib.hid rfl⟩
    rw [ht.out] at htk hrr
    clear hT
    go_wp2_with fail
    refine htk.mono ?_
    rintro e w5 ⟨rfl, hx5⟩
    have hbd := fun b => bad_n b 4 4 rfl w5 (h4.ext hx5)
    clear htk
    go_wp2_with fail
    refine (hbd _).mono ?_
    rintro e w6 ⟨rfl, hc6, h6⟩
    have h6 := h6.castB (b' := decide (t.k ≠ 3)) (by by_cases e3 : t.k = 3 <;> simp [e3])
    obtain ⟨q2, hq2⟩ : ∃ z, Hid (badQ L q1 (decide (t.k ≠ 3)) 4 = z) := ⟨_, rfl⟩
    rw [hq2.out] at h6 hrr
    have hs2 := hx2.size
    have hRo := hR.out
    have hxF : Ext w1 w6 := (((hx2.trans hx3).chg hc4 (fun i hi e => by rcases e with e | e; omega; cases e)).trans hx5).chg hc6 (fun i hi e => by have e : i = R := e; omega)
    have hqR : ¬ q = R := by have := hb2.lt; omega
    have hw06 : Ext w w6 := hx1.trans hxF
    have hbq6 : Blk w6 q #[.slice none 0 0] 24 := hb1.ext hxF
    have cq6 := hbq6.cell 0
    have fq6 := hbq6.frozen 0
    have hy6 := h6.why_cell
    have hbad6 : w6.cell? ⟨R, 4, none⟩ = some (.int .i64 (q2.bad : Int)) := h6.blk.cell 4
    obtain ⟨A, c, rfl, hnc, hcm⟩ := h6.slice
    have hns6 : w6.cell? ⟨R, 2, none⟩ = some (.slice A q2.ns.length c) := h6.blk.cell 2
    have hnd := h6.nds
    by_cases hz : q2.why = 0
    · rw [if_neg (by rw [hz]; simp)] at hrr
      have hyb : ((q2.why : Int) == 0) = true := by rw [hz]; rfl
      obtain ⟨y, hyy⟩ : ∃ z, Hid (q2.why = z) := ⟨_, Lib.hid rfl⟩
      obtain ⟨n, hn⟩ : ∃ z, Hid (q2.ns.length = z) := ⟨_, Lib.hid rfl⟩
      rw [hyy.out] at hy6 hyb
      rw [hn.out] at hns6 hnd
      have hy0 : ((y : Nat) : Int) = 0 := by have := hyy.out; omega
      have hlow : ∀ k, k = q → k < R := fun k e => by have := hb2.lt; omega
      have hnF := (hnd.low (Chg.one w6 q 0 (.slice A n c)) hlow).mono (B' := w.heap.size) (by have := hx1.size; omega)
      have hxG : Ext w (w6.setCell ⟨q, 0, none⟩ (.slice A n c)) := hw06.setCell (by show w.heap.size ≤ q; have := hq.out; omega) _
      have hbG : Blk (w6.setCell ⟨q, 0, none⟩ (.slice A n c)) q #[.slice A n c] 24 := hbq6.set 0 _
      clear hz hyy hnd h6 hbd
      go_wp2_with fail
      refine bodyPost_ret (resRef rfl rfl rfl (hbG.cell 0)) rfl ?_
      refine hfin _ _ ?_
      rw [← hrr]
      exact ⟨_, _, rfl, hnF, hxG⟩
    · rw [if_pos hz] at hrr
      have hneb : ((q2.why : Int) == 0) = false := by simpa using (by omega : ¬ (q2.why : Int) = 0)
      have hne : ¬ (q2.why : Int) = 0 := by omega
      obtain ⟨y, hyy⟩ : ∃ z, Hid (q2.why = z) := ⟨_, Lib.hid rfl⟩
      rw [hyy.out] at hy6 hneb hne hrr
      obtain ⟨yb, hyb⟩ : ∃ z, Hid (q2.bad = z) := ⟨_, Lib.hid rfl⟩
      rw [hyb.out] at hbad6 hrr
      clear hnd h6 hbd hns6
      go_wp2_with fail
      refine Reg.startX (R := Chg (fun k => k = q)) (by kernel_rfl) ?_
      have hRl := Reg.rl_chg (fun k => k = q)
      generalize hwq : World.drew _ = wq
      have hxq : Ext w6 wq := by rw [← hwq]; exact (Ext.refl w6).drew
      clear hwq
      have hRq : ¬ R = q := fun e => hqR e.symm
      have r3 : ∀ W, Chg (fun k => k = q) wq W → W.cell? ⟨R, 3, none⟩ = some (.int .i64 (y : Int)) := fun W hW => hW.cell (hxq.cell hy6) hRq
      have r4 : ∀ W, Chg (fun k => k = q) wq W → W.cell? ⟨R, 4, none⟩ = some (.int .i64 (yb : Int)) := fun W hW => hW.cell (hxq.cell hbad6) hRq
      have hbqq := hbq6.ext hxq
      have cqq := hbqq.cell 0
      have fqq := hbqq.frozen 0
      have hch : Chg (fun k => k = q) wq (wq.setCell ⟨q, 0, none⟩ (.slice none 0 0)) := Chg.one wq q 0 _
      clear cq6 fq6 hy6 hbad6
      refine Reg.tx hRl 0 ?_; (try simp only [Reg.n1, Reg.n2, Reg.n3, Reg.n4, Reg.n5, Reg.n6, Reg.n7])
      refine Reg.tx hRl 1 ?_; (try simp only [Reg.n1, Reg.n2, Reg.n3, Reg.n4, Reg.n5, Reg.n6, Reg.n7])
      refine Reg.tx hRl 2 ?_; (try simp only [Reg.n1, Reg.n2, Reg.n3, Reg.n4, Reg.n5, Reg.n6, Reg.n7])
      refine Reg.tx hRl 3 ?_; (try simp only [Reg.n1, Reg.n2, Reg.n3, Reg.n4, Reg.n5, Reg.n6, Reg.n7])
      refine Reg.tx hRl 4 ?_; (try simp only [Reg.n1, Reg.n2, Reg.n3, Reg.n4, Reg.n5, Reg.n6, Reg.n7])
      refine Reg.tx hRl 5 ?_; (try simp only [Reg.n1, Reg.n2, Reg.n3, Reg.n4, Reg.n5, Reg.n6, Reg.n7])
      refine Reg.tx hRl 6 ?_; (try simp only [Reg.n1, Reg.n2, Reg.n3, Reg.n4, Reg.n5, Reg.n6, Reg.n7])
      refine Reg.tx hRl 7 ?_; (try simp only [Reg.n1, Reg.n2, Reg.n3, Reg.n4, Reg.n5, Reg.n6, Reg.n7])
      refine Reg.tx hRl 8 ?_; (try simp only [Reg.n1, Reg.n2, Reg.n3, Reg.n4, Reg.n5, Reg.n6, Reg.n7])
      refine Reg.onlyX 9 _ rfl (by kernel_rfl) (by decide) (by rfl) (fun K hK => ?_); go_simp
      go_simp
      refine hK.out _ _ (hch) ?_; clear hK K; (try simp only [Reg.n1, Reg.n2, Reg.n3, Reg.n4, Reg.n5, Reg.n6, Reg.n7])
      refine Reg.tx hRl 10 ?_; (try simp only [Reg.n1, Reg.n2, Reg.n3, Reg.n4, Reg.n5, Reg.n6, Reg.n7])
      refine Reg.tx hRl 11 ?_; (try simp only [Reg.n1, Reg.n2, Reg.n3, Reg.n4, Reg.n5, Reg.n6, Reg.n7])
      refine Reg.finX (by kernel_rfl) ?_
      have hbG : Blk (wq.setCell ⟨q, 0, none⟩ (.slice none 0 0)) q #[.slice none 0 0] 24 := hbqq.set 0 _
      have hxG : Ext w (wq.setCell ⟨q, 0, none⟩ (.slice none 0 0)) := (hw06.trans hxq).setCell (by show w.heap.size ≤ q; have := hq.out; omega) _
      clear hch r3 r4
      go_wp2_with fail
      refine bodyPost_ret (resRef rfl rfl rfl (hbG.cell 0)) rfl ?_
      refine hfin _ _ ?_
      rw [← hrr]
      exact ⟨_, [], rfl, nds_nil _ _, hxG⟩
end Go.Proofs.YtejcacbbhijdcaaGreatDoor.Pr
/- parse: reading asks no places: plain. -/
namespace Go.Proofs.YtejcacbbhijdcaaGreatDoor.Pr
open Lx
set_option linter.unusedVariables false

/-- a token without its place -/
def er (t : Tok) : Tok := ⟨t.k, t.s, 0⟩
def PS.er (s : PS) : PS := { s with l := s.l.map Pr.er }
def Res.er {α : Type} : Res α → Res α
  | .ok a s => .ok a s.er
  | .bad _ w => .bad 0 w
theorem hd_er (l : List Tok) : hd (l.map er) = er (hd l) := by cases l <;> rfl
theorem isT_er (s : PS) (x : ByteArray) : isT s.er x = isT s x := by
  unfold isT
  rw [show s.er.l = s.l.map Pr.er from rfl, hd_er]
  rfl
theorem on_er (s : PS) : s.er.on = s.on.er := by
  unfold PS.on PS.er
  simp [List.map_tail]
theorem failR_er {α : Type} (s : PS) (w : Nat) : (failR s.er w : Res α) = (failR s w).er := by
  unfold failR
  rw [show s.er.l = s.l.map Pr.er from rfl, hd_er]
  rfl
theorem bind_er {α β : Type} {r r' : Res α} {f f' : α → PS → Res β} (h : r' = r.er) (hf : ∀ a s, f' a s.er = (f a s).er) : r'.bind f' = (r.bind f).er := by
  subst h
  cases r with
  | ok a s => exact hf a s
  | bad a w => rfl
theorem mustR_er (s : PS) (x : ByteArray) : mustR s.er x = (mustR s x).er := by
  unfold mustR
  rw [isT_er, on_er, failR_er]
  split <;> rfl
theorem goesR_er (s : PS) (x : ByteArray) : goesR s.er x = ((goesR s x).1, (goesR s x).2.er) := by
  unfold goesR
  rw [isT_er, on_er]
  split <;> rfl
theorem nameR_er (s : PS) (th : ByteArray → Bool) : nameR s.er th = (nameR s th).er := by
  unfold nameR
  rw [failR_er, failR_er, on_er, show s.er.l = s.l.map Pr.er from rfl, hd_er, show (Pr.er (hd s.l)).k = (hd s.l).k from rfl, show (Pr.er (hd s.l)).s = (hd s.l).s from rfl]
  split
  · rfl
  · split <;> rfl
theorem kindR_er (s : PS) : kindR s.er = kindR s := by
  unfold kindR
  rw [isT_er, isT_er, isT_er, show s.er.l = s.l.map Pr.er from rfl, hd_er]
  rfl
theorem setN_er (s : PS) (n : Nat) (f : Nd → Nd) : s.er.setN n f = (s.setN n f).er := rfl
def TE (T : Bool → List Nat → PS → Res Nat) : Prop := ∀ u a s, T u a s.er = (T u a s).er
section
variable {T : Bool → List Nat → PS → Res Nat}
theorem itemR_er (hT : TE T) (s : PS) (n : Nat) (x : ByteArray) : itemR T s.er n x = (itemR T s n x).er := by
  unfold itemR
  refine bind_er (hT _ _ _) fun a s1 => ?_
  rw [setN_er, mustR_er]
theorem unionR_er (hT : TE T) (n : Nat) : ∀ (m : Nat) (l : List Nat) (s : PS), unionR T n m l s.er = (unionR T n m l s).er
  | 0, l, s => by rw [unionR, unionR, failR_er]
  | m + 1, l, s => by
    rw [unionR, unionR]
    refine bind_er (hT _ _ _) fun a s1 => ?_
    rw [isT_er, on_er, setN_er]
    split
    · rfl
    · exact bind_er (mustR_er _ _) fun _ s2 => unionR_er hT n m _ s2
theorem symsR_er (n : Nat) : ∀ (m : Nat) (l : List ByteArray) (s : PS), symsR n m l s.er = (symsR n m l s).er
  | 0, l, s => by rw [symsR, symsR, failR_er]
  | m + 1, l, s => by
    rw [symsR, symsR]
    refine bind_er (nameR_er _ _) fun a s1 => ?_
    rw [isT_er, on_er, setN_er]
    split
    · rfl
    · exact bind_er (mustR_er _ _) fun _ s2 => symsR_er n m _ s2
theorem fieldsR_er (hT : TE T) (n : Nat) : ∀ (m : Nat) (l : List (ByteArray × Bool × Nat)) (s : PS), fieldsR T n m l s.er = (fieldsR T n m l s).er
  | 0, l, s => by rw [fieldsR, fieldsR, failR_er]
  | m + 1, l, s => by
    rw [fieldsR, fieldsR, isT_er, on_er, setN_er]
    split
    · rfl
    · refine bind_er (nameR_er _ _) fun x s1 => ?_
      rw [goesR_er]
      refine bind_er (mustR_er _ _) fun _ s2 => ?_
      refine bind_er (hT _ _ _) fun t s3 => ?_
      exact bind_er (mustR_er _ _) fun _ s4 => fieldsR_er hT n m _ s4
theorem er_len (s : PS) : s.er.l.length = s.l.length := by show (s.l.map Pr.er).length = _; rw [List.length_map]
theorem definedR_er (hT : TE T) (s : PS) (n : Nat) (k : Int) : definedR T s.er n k = (definedR T s n k).er := by
  unfold definedR
  refine bind_er (nameR_er _ _) fun x s1 => ?_
  rw [show s1.er.called n x = (s1.called n x).er from rfl]
  generalize s1.called n x = s2
  simp only
  split
  · refine bind_er (mustR_er _ _) fun _ s3 => ?_
    rw [er_len, symsR_er]
  · split
    · rw [failR_er, on_er, setN_er, show s2.er.l = s2.l.map Pr.er from rfl, hd_er, show (Pr.er (hd s2.l)).k = (hd s2.l).k from rfl, show (Pr.er (hd s2.l)).s = (hd s2.l).s from rfl]
      split <;> rfl
    · refine bind_er (mustR_er _ _) fun _ s3 => ?_
      rw [er_len, fieldsR_er hT]
end
theorem typedR_er : ∀ (fuel : Nat), TE (typedR fuel)
  | fuel, u, a, s => by
    rw [typedR.eq_def, typedR.eq_def fuel u a s]
    simp only
    rw [kindR_er]
    split
    · exact failR_er _ _
    · next k hk =>
      rw [show s.er.l = s.l.map Pr.er from rfl, hd_er, show (Pr.er (hd s.l)).s = (hd s.l).s from rfl, show s.er.nm = s.nm from rfl, show gateR fuel u a s.er k (s.nm (hd s.l).s) = gateR fuel u a s k (s.nm (hd s.l).s) from rfl]
      split
      · exact failR_er _ _
      · split
        · show Res.ok _ s.er.on = _
          rw [on_er]; rfl
        · rw [on_er, show s.er.ns = s.ns from rfl, show ({ s.on.er with ns := s.ns ++ [Nd.ofKind k] } : PS) = ({ s.on with ns := s.ns ++ [Nd.ofKind k] } : PS).er from rfl]
          generalize ({ s.on with ns := s.ns ++ [Nd.ofKind k] } : PS) = s1
          cases fuel with
          | zero => exact failR_er _ _
          | succ fuel =>
            have ih := typedR_er fuel
            simp only
            split
            · exact bind_er (itemR_er ih _ _ _) fun _ s2 => rfl
            · split
              · exact bind_er (itemR_er ih _ _ _) fun _ s2 => rfl
              · split
                · rw [er_len]
                  exact bind_er (unionR_er ih _ _ _ _) fun _ s2 => rfl
                · split
                  · exact bind_er (definedR_er ih _ _ _) fun _ s2 => rfl
                  · rfl
/-- two lists of tokens that are the same but for places read the same -/
theorem typedR_same {l l' : List Tok} (h : l.map er = l'.map er) {fuel : Nat} {u : Bool} {a : List Nat} {ns : List Nd} {nm : ByteArray → Option Nat} {n : Nat} {s' : PS} (e : typedR fuel u a ⟨l, ns, nm⟩ = .ok n s') :
    ∃ s'', typedR fuel u a ⟨l', ns, nm⟩ = .ok n s'' ∧ s''.ns = s'.ns ∧ s''.l.map er = s'.l.map er := by
  have h1 := typedR_er fuel u a ⟨l, ns, nm⟩
  have h2 := typedR_er fuel u a ⟨l', ns, nm⟩
  rw [show PS.er ⟨l, ns, nm⟩ = PS.er ⟨l', ns, nm⟩ by unfold PS.er; rw [h], h2, e] at h1
  cases hr : typedR fuel u a ⟨l', ns, nm⟩ with
  | bad x y => rw [hr] at h1; cases h1
  | ok m s'' =>
    rw [hr] at h1
    injection h1 with h3 h4
    subst h3
    have a : s''.er.ns = s'.er.ns := by rw [h4]
    have b : s''.er.l = s'.er.l := by rw [h4]
    exact ⟨s'', rfl, a, b⟩
end Go.Proofs.YtejcacbbhijdcaaGreatDoor.Pr
