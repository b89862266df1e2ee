/- parse: how deep a schema is, walked. -/
import Derived.Test.YtejcacbbhijdcaaGreatDoorPzQ
namespace Go.Proofs.YtejcacbbhijdcaaGreatDoor.Pr
open Go.ChangeShapes Go.WideShapes Go.ChangeAt Go.RowKit
open Base Lx Mi
set_option linter.unusedVariables false
set_option linter.unusedSimpArgs false

theorem dlist_le {D : DT} {F : Nat} (h : ∀ n next d nx, D n next = some (d, nx) → d ≤ F) : ∀ (l : List Int) (next most : Nat) {m nx : Nat}, most ≤ F → dlist D l next most = some (m, nx) → m ≤ F
  | [], next, most, m, nx, hm, e => by rw [dlist] at e; injection e with e; injection e with e _; omega
  | n :: l, next, most, m, nx, hm, e => by
    rw [dlist] at e
    split at e
    · cases e
    · next d nx2 hd => exact dlist_le h l nx2 (max most d) (by have := h _ _ _ _ hd; omega) e
theorem dtyp_le (ns : List Ne) : ∀ (f : Nat) (n : Int) (next d nx : Nat), dtyp ns f n next = some (d, nx) → d ≤ f
  | 0, n, next, d, nx, e => by cases e
  | f + 1, n, next, d, nx, e => by
    rw [dtyp] at e
    split at e
    · cases e
    · split at e
      · injection e with e; injection e with e _; omega
      · have ih := dtyp_le ns f
        split at e
        · cases e
        · next m1 nx1 h1 =>
          have hm1 := dlist_le (F := f) ih _ _ 0 (Nat.zero_le _) h1
          split at e
          · cases e
          · next m2 nx2 h2 =>
            have hm2 := dlist_le (F := f) ih _ _ m1 hm1 h2
            injection e with e; injection e with e _; omega
theorem dlist_mono {D : DT} : ∀ (l : List Int) (next most : Nat) {m nx : Nat}, dlist D l next most = some (m, nx) → most ≤ m
  | [], next, most, m, nx, e => by rw [dlist] at e; injection e with e; injection e with e _; omega
  | n :: l, next, most, m, nx, e => by
    rw [dlist] at e
    split at e
    · cases e
    · have := dlist_mono l _ _ e; omega
/-- the contract of deep, of so much fuel -/
def DpC (B : Nat) (v : Value) (ns : List Ne) (f : Nat) : Prop := ∀ (n : Int) (next d nx p : Nat) (w : World), Sch B w v ns → Blk w p #[.int .i64 (next : Int)] 3 → B ≤ p → dtyp ns f n next = some (d, nx) →
  Calls Tryz.prog 16 #[.agg #[v], .int .i64 n, .pointer (some ⟨p, 0, none⟩)] w fun e w' => e = .returned (.int .i64 (d : Int)) ∧ Chg (fun k => k = p) w w' ∧ Blk w' p #[.int .i64 (nx : Int)] 3
theorem chg_below {B : Nat} {S : Nat → Prop} {w w' : World} (h : Chg S w w') (hS : ∀ k, S k → B ≤ k) (hB : B ≤ w.heap.size) : Below B w w' := ⟨h.os, h.tape, h.output, h.size, fun k hk => h.block k (by omega) (fun e => by have := hS k e; omega)⟩
def DlAt (p q : Nat) (v : Value) (w0 : World) (D : DT) (l : List Int) (m nx : Nat) (i : Nat) (v7 : Value) (wr : World) : Prop := Chg (fun k => k = p) w0 wr ∧ Blk wr q #[v] 24 ∧ ∃ next most : Nat, v7 = .int .i64 (most : Int) ∧ Blk wr p #[.int .i64 (next : Int)] 3 ∧ Hid (dlist D (l.drop i) next most = some (m, nx))

set_option maxRecDepth 100000 in
set_option maxHeartbeats 2000000 in
theorem deep_any {B : Nat} {v : Value} {ns : List Ne} {f : Nat} (hf : f ≤ 19) (H : DpC B v ns f) : DpC B v ns (f + 1) := by
  intro n next d nx p w hS hb hBp hd
  have hBw : B ≤ w.heap.size := by have := hb.lt; omega
  rw [dtyp] at hd
  split at hd
  · cases hd
  next hrg =>
  simp only [not_or, Int.not_lt, Int.not_le] at hrg
  obtain ⟨hr0, hr1, hr2⟩ := hrg
  obtain ⟨j, rfl⟩ := Int.eq_ofNat_of_zero_le hr0
  have hjl : j < ns.length := by omega
  obtain ⟨x, hx⟩ : ∃ x, ns[j]? = some x := ⟨_, List.getElem?_eq_getElem hjl⟩
  have hg : ns.getD j neD = x := by simp [List.getD, hx]
  obtain ⟨b, off, c, As, cs, Ai, ci, Af, cf, rfl, hbB, hsub, hcell⟩ := hS.node2 j x hx
  have hcm : ns.length ≤ 9223372036854775807 := by obtain ⟨vs, _, ⟨A, c, e, _, _, q1, q2, _⟩, _⟩ := hS; unfold maxLen at q2; omega
  obtain ⟨ln, hln⟩ : ∃ z, Hid (ns.length = z) := ⟨_, rfl⟩
  rw [hln.out] at hjl hcm H hS ⊢
  obtain ⟨q, hq⟩ : ∃ z, Hid (w.heap.size = z) := ⟨_, rfl⟩
  obtain ⟨w1, hw1⟩ : ∃ z, Hid (w.alloc (.cells #[.slice (some ⟨b, off, none⟩) ln c] 24) = z) := ⟨_, rfl⟩
  have hx1 : Ext w w1 := by rw [← hw1.out]; exact (Ext.refl w).alloc _
  have hbq1 : Blk w1 q #[.slice (some ⟨b, off, none⟩) ln c] 24 := by rw [← hw1.out, ← hq.out]; exact Blk.new w _ _
  have hb1 := hb.ext hx1
  have hqp : ¬ q = p := blk_ne hbq1 hb1 (by decide)
  have cp1 : (w.alloc (.cells #[.slice (some ⟨b, off, none⟩) ln c] 24)).cell? ⟨p, 0, none⟩ = some (.int .i64 (next : Int)) := by rw [hw1.out]; exact hb1.cell 0
  split at hd
  · next hlt =>
    injection hd with hd; injection hd with hd hd2
    subst hd; subst hd2
    clear hcell
    go_enter Tryz.func16, Tryz.ntmps16
    go_wp2_with fail
    rw [hw1.out]
    go_ret
    exact ⟨rfl, Chg.ofExt hx1, hb1⟩
  · next hge =>
    rw [Int.toNat_natCast, hg] at hd
    obtain rfl : next = j := by omega
    split at hd
    · cases hd
    next m1 nx1 h1 =>
    split at hd
    · cases hd
    next m2 nx2 h2 =>
    injection hd with hd; injection hd with hd hd2
    subst hd; subst hd2
    have hm1 := dlist_le (F := f) (dtyp_le ns f) _ _ 0 (Nat.zero_le _) h1
    have hm2 := dlist_le (F := f) (dtyp_le ns f) _ _ m1 hm1 h2
    obtain ⟨D, hD⟩ : ∃ D, D = dtyp ns f := ⟨_, rfl⟩
    have H : ∀ (n : Int) (next d nx p : Nat) (w : World), Sch B w (.slice (some ⟨b, off, none⟩) ln c) ns → Blk w p #[.int .i64 (next : Int)] 3 → B ≤ p → D n next = some (d, nx) → Calls Tryz.prog 16 #[.agg #[.slice (some ⟨b, off, none⟩) ln c], .int .i64 n, .pointer (some ⟨p, 0, none⟩)] w fun e w' => e = .returned (.int .i64 (d : Int)) ∧ Chg (fun k => k = p) w w' ∧ Blk w' p #[.int .i64 (nx : Int)] 3 := by rw [hD]; exact H
    rw [← hD] at h1 h2
    have hDle : ∀ n next d nx, D n next = some (d, nx) → d ≤ f := by rw [hD]; exact dtyp_le ns f
    clear hD
    have hjnI : ¬ (next : Int) < (next : Int) := by omega
    have hwr : IntKind.i64.wrap ((next : Int) + 1) = (next : Int) + 1 := by rw [IntKind.wrap_i64]; omega
    have fp1 : (w.alloc (.cells #[.slice (some ⟨b, off, none⟩) ln c] 24)).frozen? ⟨p, 0, none⟩ = false := by rw [hw1.out]; exact hb1.frozen 0
    obtain ⟨w2, hw2⟩ : ∃ z, Hid (w1.setCell ⟨p, 0, none⟩ (.int .i64 ((next : Int) + 1)) = z) := ⟨_, rfl⟩
    have hch2 : Chg (fun k => k = p) w w2 := by rw [← hw2.out]; exact (Chg.ofExt hx1).set (S := fun k => k = p) (p := ⟨p, 0, none⟩) (.inl rfl) _
    have hb2 : Blk w2 p #[.int .i64 ((next + 1 : Nat) : Int)] 3 := by rw [← hw2.out]; exact hb1.set 0 _
    have hbq2 : Blk w2 q #[.slice (some ⟨b, off, none⟩) ln c] 24 := by rw [← hw2.out]; exact hbq1.far (p := ⟨p, 0, none⟩) hqp _
    have hlowS : ∀ W, Chg (fun k => k = p) w W → Below B w W := fun W hW => chg_below hW (fun k e => by rw [e]; exact hBp) hBw
    have hitems : Sl B w (.slice Ai x.items.length ci) x.items.length (intsZ x.items) := hsub.items
    have hfields : Sl B w (.slice Af x.fields.length cf) x.fields.length (fldsZ x.fields) := hsub.fields
    obtain ⟨ni, hni⟩ : ∃ z, Hid (x.items.length = z) := ⟨_, rfl⟩
    obtain ⟨nf, hnf⟩ : ∃ z, Hid (x.fields.length = z) := ⟨_, rfl⟩
    rw [hni.out] at hitems hcell
    rw [hnf.out] at hfields hcell
    have hc4 := (hcell w2 (hlowS w2 hch2)).2.2.2.2.1
    have hcq : w2.cell? ⟨q, 0, none⟩ = some (.slice (some ⟨b, off, none⟩) ln c) := hbq2.cell 0
    rw [← hw2.out, ← hw1.out] at hc4 hcq
    rw [← hq.out] at hcq
    have hjI : (next : Int) < (ln : Int) := by omega
    have hstart : DlAt p q (.slice (some ⟨b, off, none⟩) ln c) w D x.items m1 nx1 0 (.int .i64 0) w2 := ⟨hch2, hbq2, next + 1, 0, rfl, hb2, by rw [List.drop_zero]; exact Lib.hid h1⟩
    have hni2 : ni ≤ 9223372036854775807 := by obtain ⟨A, c, e, _, _, q1, q2, _⟩ := hitems; unfold maxLen at q2; omega
    have hnf2 : nf ≤ 9223372036854775807 := by obtain ⟨A, c, e, _, _, q1, q2, _⟩ := hfields; unfold maxLen at q2; omega
    clear hb2 hbq2 hb1 hbq1
    go_enter Tryz.func16, Tryz.ntmps16
    go_wp2_with fail
    rw [hw1.out, hq.out, hw2.out]
    go_loopw [7, 9, 29, 30, 31, 32, 33, 34, 35, 36, 37, 38, 39] (fun v7 v9 v29 v30 v31 v32 v33 v34 v35 v36 v37 v38 v39 wr => ∃ i : Nat, i ≤ ni ∧ v29 = .int .i64 i ∧ DlAt p q (.slice (some ⟨b, off, none⟩) ln c) w D x.items m1 nx1 i v7 wr) (fun _ _ v29 _ _ _ _ _ _ _ _ _ _ _ => ni - (intOf v29).toNat)
    case atStart => exact ⟨0, by omega, rfl, hstart⟩
    case round =>
      obtain ⟨i, hi, rfl, hch, hbq, nxt, most, rfl, hbp, hdl⟩ := hrel
      clear hstart
      have hlow := hlowS wr hch
      obtain ⟨A1, c1, e1, hnc, hcm1, _, hat⟩ := hitems.at_
      injection e1 with e1 _ e1'
      subst e1; subst e1'
      have hmm := dlist_mono _ _ _ hdl.out
      by_cases hin : i < ni
      · have hin' : (i : Int) < (ni : Int) := by omega
        obtain ⟨y, hy⟩ : ∃ y, x.items[i]? = some y := ⟨_, List.getElem?_eq_getElem (by have := hni.out; omega)⟩
        have hyz : (intsZ x.items)[i]? = some (.int .i64 y) := by unfold intsZ; rw [List.getElem?_map, hy]; rfl
        obtain ⟨b1, o1, rfl, hb1, hc1⟩ := hat i _ hyz
        have d1 : wr.cell? ⟨b1, o1 + i, none⟩ = some (.int .i64 y) := hc1 wr hlow i _ hyz
        have hdrop : x.items.drop i = y :: x.items.drop (i + 1) := List.drop_eq_getElem?_toList_append .. |>.trans (by rw [hy]; rfl)
        have hd2 := hdl.out
        rw [hdrop, dlist] at hd2
        split at hd2
        · cases hd2
        next dd nx3 hdd =>
        have hcall := H y nxt dd nx3 p wr (hS.below hlow) hbp hBp hdd
        have hdd2 := hDle _ _ _ _ hdd
        have cq : wr.cell? ⟨q, 0, none⟩ = some (.slice (some ⟨b, off, none⟩) ln c) := hbq.cell 0
        have hd3 := Lib.hid hd2
        clear hd2 hdd hdrop hdl hy hyz hc1
        go_wp2_with fail
        refine hcall.mono ?_
        rintro e w4 ⟨rfl, hch4, hbp4⟩
        have hbq4 := hch4.blk hbq hqp
        have hchT : Chg (fun k => k = p) w w4 := hch.trans hch4 (fun _ _ e => e)
        go_wp2_with fail
        exact ⟨⟨i + 1, by omega, by go_num, hchT, hbq4, nx3, max most dd, by congr 1; omega, hbp4, hd3⟩, by simp [intOf]; omega⟩
      · obtain rfl : i = ni := by omega
        have hfin : some (most, nxt) = some (m1, nx1) := by have := hdl.out; rw [← hni.out, List.drop_length, dlist] at this; exact this
        injection hfin with hfin; injection hfin with hfin hfin2
        subst hfin; subst hfin2
        have hstart : DlAt p q (.slice (some ⟨b, off, none⟩) ln c) w D (x.fields.map fun f => f.2.2) m2 nx2 0 (.int .i64 (most : Int)) wr := ⟨hch, hbq, nxt, most, rfl, hbp, by rw [List.drop_zero]; exact Lib.hid h2⟩
        have hc5 := (hcell wr hlow).2.2.2.2.2
        have cq : wr.cell? ⟨q, 0, none⟩ = some (.slice (some ⟨b, off, none⟩) ln c) := hbq.cell 0
        clear hdl hbp hbq hch hlow
        go_wp2_with fail
        go_loopw [7, 11, 47, 48, 49, 50, 51, 52, 53, 54, 55, 56, 57, 58] (fun v7 v11 v47 v48 v49 v50 v51 v52 v53 v54 v55 v56 v57 v58 wz => ∃ i : Nat, i ≤ nf ∧ v47 = .int .i64 i ∧ DlAt p q (.slice (some ⟨b, off, none⟩) ln c) w D (x.fields.map fun f => f.2.2) m2 nx2 i v7 wz) (fun _ _ v47 _ _ _ _ _ _ _ _ _ _ _ _ => nf - (intOf v47).toNat)
        case atStart => exact ⟨0, by omega, rfl, hstart⟩
        case round =>
          clear hat hmm
          obtain ⟨i, hi, rfl, hch, hbq, nxt, most, rfl, hbp, hdl⟩ := hrel
          clear hstart
          have hlow := hlowS _ hch
          obtain ⟨A1, c1, e1, hnc, hcm1, _, hat⟩ := hfields.at_
          injection e1 with e1 _ e1'
          subst e1; subst e1'
          have hmm := dlist_mono _ _ _ hdl.out
          by_cases hin : i < nf
          · have hin' : (i : Int) < (nf : Int) := by omega
            obtain ⟨⟨fn, fh, y⟩, hy⟩ : ∃ y, x.fields[i]? = some y := ⟨_, List.getElem?_eq_getElem (by have := hnf.out; omega)⟩
            have hyz := fldsZ_at x.fields i _ hy
            obtain ⟨b1, o1, rfl, hb1, hc1⟩ := hat (i * 3 + 0) (.string fn) (by rw [hyz 0 (by omega)]; rfl)
            have d0 : wr.cell? ⟨b1, o1 + i * 3, none⟩ = some (.string fn) := by have := hc1 wr hlow (i * 3 + 0) (.string fn) (by rw [hyz 0 (by omega)]; rfl); simpa [Nat.add_assoc] using this
            have d1 : wr.cell? ⟨b1, o1 + i * 3 + 1, none⟩ = some (.bool fh) := by have := hc1 wr hlow (i * 3 + 1) (.bool fh) (by rw [hyz 1 (by omega)]; rfl); simpa [Nat.add_assoc] using this
            have d2 : wr.cell? ⟨b1, o1 + i * 3 + 2, none⟩ = some (.int .i64 y) := by have := hc1 wr hlow (i * 3 + 2) (.int .i64 y) (by rw [hyz 2 (by omega)]; rfl); simpa [Nat.add_assoc] using this
            have hdrop : (x.fields.map fun f => f.2.2).drop i = y :: (x.fields.map fun f => f.2.2).drop (i + 1) := List.drop_eq_getElem?_toList_append .. |>.trans (by rw [List.getElem?_map, hy]; rfl)
            have hd2 := hdl.out
            rw [hdrop, dlist] at hd2
            split at hd2
            · cases hd2
            next dd nx3 hdd =>
            obtain ⟨q7, hq7⟩ : ∃ z, Hid (wr.heap.size = z) := ⟨_, rfl⟩
            obtain ⟨wy, hwy⟩ : ∃ z, Hid (wr.alloc (.cells #[.string fn, .bool fh, .int .i64 y] 74) = z) := ⟨_, rfl⟩
            have hxy : Ext wr wy := by rw [← hwy.out]; exact (Ext.refl wr).alloc _
            have hchy : Chg (fun k => k = p) w wy := hch.trans (Chg.ofExt (S := fun _ => False) hxy) (fun _ _ e => e.elim)
            have hcall := H y nxt dd nx3 p wy (hS.below (hlowS _ hchy)) (hbp.ext hxy) hBp hdd
            have hdd2 := hDle _ _ _ _ hdd
            have cq : (wr.alloc (.cells #[.string fn, .bool fh, .int .i64 y] 74)).cell? ⟨q, 0, none⟩ = some (.slice (some ⟨b, off, none⟩) ln c) := by rw [hwy.out]; exact (hbq.ext hxy).cell 0
            have hd3 := Lib.hid hd2
            clear hd2 hdd hdrop hdl hy hyz hc1
            go_wp2_with fail
            rw [hwy.out]
            refine hcall.mono ?_
            rintro e w4 ⟨rfl, hch4, hbp4⟩
            have hbq4 := hch4.blk (hbq.ext hxy) hqp
            have hchT : Chg (fun k => k = p) w w4 := hchy.trans hch4 (fun _ _ e => e)
            go_wp2_with fail
            exact ⟨⟨i + 1, by omega, by go_num, hchT, hbq4, nx3, max most dd, by congr 1; omega, hbp4, hd3⟩, by simp [intOf]; omega⟩
          · obtain rfl : i = nf := by omega
            have hfin : some (most, nxt) = some (m2, nx2) := by have := hdl.out; rw [List.drop_eq_nil_of_le (by rw [List.length_map]; have := hnf.out; omega), dlist] at this; exact this
            injection hfin with hfin; injection hfin with hfin hfin2
            subst hfin; subst hfin2
            have hwr2 : IntKind.i64.wrap ((most : Int) + 1) = (most : Int) + 1 := by rw [IntKind.wrap_i64]; omega
            clear hdl
            go_wp2_with fail
            go_ret
            exact ⟨rfl, hch, hbp⟩
theorem deep_all {B : Nat} {v : Value} {ns : List Ne} : ∀ f, f ≤ 20 → DpC B v ns f
  | 0, _ => fun n next d nx p w hS hb hBp hd => by cases hd
  | f + 1, h => deep_any (by omega) (deep_all f (by omega))
end Go.Proofs.YtejcacbbhijdcaaGreatDoor.Pr
/- parse: what is exported; what lives. -/
namespace Go.Proofs.YtejcacbbhijdcaaGreatDoor.Pr
open Go.ChangeShapes Go.WideShapes Go.ChangeAt Go.RowKit
open Base Lx Mi
set_option linter.unusedVariables false
set_option linter.unusedSimpArgs false

theorem resParse {w : World} {tmps : Array Value} {a : Nat} {u v x : Value} (ha : tmps[2]?.getD undef = .pointer (some ⟨a, 0, none⟩)) (hb : tmps[3]?.getD undef = v) (hc : tmps[4]?.getD undef = x)
    (h1 : w.cell? ⟨a, 0, none⟩ = some u) : (results Tryz.f11 tmps).run Tryz.prog w = .ok (.tuple #[.agg #[u], v, x]) w := by
  simp [results, Tryz.f11, go_sem, ha, hb, hc, h1]
set_option maxRecDepth 100000 in
theorem parse_any (s : ByteArray) (hs : s.size ≤ 140737488351232) (w : World) (hwd : Wd w) (h0 : 0 < w.heap.size) : Calls Tryz.prog 11 #[.string s] w fun e w' => PP (parseP s) w e w' := by
  obtain ⟨r, hr⟩ : ∃ z, Hid (parseP s = z) := ⟨_, Lib.hid rfl⟩
  obtain ⟨w1, hw1⟩ : ∃ z, Hid (w.alloc (.cells #[.slice none 0 0] 24) = z) := ⟨_, rfl⟩
  obtain ⟨q, hq⟩ : ∃ z, Hid (w.heap.size = z) := ⟨_, rfl⟩
  have hx1 : Ext w w1 := by rw [← hw1.out]; exact (Ext.refl w).alloc _
  have hb1 : Blk w1 q #[.slice none 0 0] 24 := by rw [← hw1.out, ← hq.out]; exact Blk.new w _ _
  have hc := parsed_any s hs w1 (hwd.ext hx1) (by have := hx1.size; omega)
  rw [hr.out] at hc ⊢
  obtain ⟨PO, hPO⟩ : ∃ PO : Ending → World → Prop, Hid ((fun e w' => PP r w e w') = PO) := ⟨_, Lib.hid rfl⟩
  rw [hPO.out]
  go_enter Tryz.func11, Tryz.ntmps11
  go_wp2_with fail
  rw [hw1.out, hq.out]
  refine hc.mono ?_
  rintro e w2 ⟨v, vs, rfl, hnd, hx2⟩
  obtain ⟨A, c, rfl, jj1, jj2, jj3, jj4⟩ := Rd.of_own hnd.row
  clear jj1 jj2 jj3 jj4 hc
  obtain ⟨n, hn⟩ : ∃ z, Hid (r.1.length = z) := ⟨_, Lib.hid rfl⟩
  rw [hn.out] at hnd ⊢
  have hb2 := hb1.ext hx2
  have c2 : w2.cell? ⟨q, 0, none⟩ = some (.slice none 0 0) := hb2.cell 0
  have f2 := hb2.frozen 0
  have hb3 : Blk (w2.setCell ⟨q, 0, none⟩ (.slice A n c)) q #[.slice A n c] 24 := hb2.set 0 _
  have hsz := hx1.size
  have hqs := hq.out
  have hs1 : w1.heap.size = w.heap.size + 1 := by rw [← hw1.out]; simp
  have hlow : ∀ k, k = q → k < w1.heap.size := fun k e => by omega
  have hnF := (hnd.low (Chg.one w2 q 0 (.slice A n c)) hlow).mono hsz
  have hxF : Ext w (w2.setCell ⟨q, 0, none⟩ (.slice A n c)) := (hx1.trans hx2).setCell (by show w.heap.size ≤ q; omega) _
  clear hsz hqs hs1 hlow
  go_wp2_with fail
  refine bodyPost_ret (resParse rfl rfl rfl (hb3.cell 0)) rfl ?_
  rw [← hPO.out]
  exact ⟨_, _, rfl, hnF, hxF⟩
set_option maxRecDepth 100000 in
theorem show_any (v : Value) (ns : List Ne) (w : World) (hS : Sch w.heap.size w v ns) (hwd : Wd w) (hpow : Pow w) (hL : showLen ns ≤ 100000000) :
    Calls Tryz.prog 6 #[.agg #[v]] w fun e w' => e = .returned (shV (showP ns)) ∧ Ext w w' := by
  obtain ⟨w1, hw1⟩ : ∃ z, Hid (w.alloc (.cells #[v] 24) = z) := ⟨_, rfl⟩
  have hx1 : Ext w w1 := by rw [← hw1.out]; exact (Ext.refl w).alloc _
  have hc := shown_any v ns w1 ((hS.below hx1).mono hx1.size) (hwd.ext hx1) (hpow.ext hx1) hL
  obtain ⟨o, ho⟩ : ∃ z, Hid (showP ns = z) := ⟨_, Lib.hid rfl⟩
  rw [ho.out] at hc ⊢
  obtain ⟨A, c, rfl⟩ := hS.slice
  go_enter Tryz.func6, Tryz.ntmps6
  go_wp2_with fail
  rw [hw1.out]
  refine hc.mono ?_
  rintro e w2 ⟨rfl, hx2⟩
  cases o with
  | none =>
    rw [show shV none = Value.tuple #[.string ⟨#[]⟩, .int .i64 1] from rfl]
    go_wp2_with fail
    go_ret2
    exact ⟨rfl, hx1.trans hx2⟩
  | some s =>
    rw [show shV (some s) = Value.tuple #[.string ⟨s.toArray⟩, .int .i64 0] from rfl]
    go_wp2_with fail
    go_ret2
    exact ⟨rfl, hx1.trans hx2⟩
set_option maxRecDepth 100000 in
theorem depth_any (v : Value) (ns : List Ne) (w : World) (hS : Sch w.heap.size w v ns) (hwd : Wd w) (hpow : Pow w) (hL : showLen ns ≤ 100000000) :
    Calls Tryz.prog 9 #[.agg #[v]] w fun e w' => e = .returned (.int .i64 (depthP ns : Int)) ∧ Ext w w' := by
  obtain ⟨A, c, rfl⟩ := hS.slice
  obtain ⟨n, hn⟩ : ∃ z, Hid (ns.length = z) := ⟨_, Lib.hid rfl⟩
  rw [hn.out] at hS ⊢
  obtain ⟨w1, hw1⟩ : ∃ z, Hid (w.alloc (.cells #[.slice A n c] 24) = z) := ⟨_, rfl⟩
  obtain ⟨q, hq⟩ : ∃ z, Hid (w.heap.size = z) := ⟨_, rfl⟩
  have hx1 : Ext w w1 := by rw [← hw1.out]; exact (Ext.refl w).alloc _
  have hb1 : Blk w1 q #[.slice A n c] 24 := by rw [← hw1.out, ← hq.out]; exact Blk.new w _ _
  have hc := shown_any _ ns w1 ((hS.below hx1).mono hx1.size) (hwd.ext hx1) (hpow.ext hx1) hL
  obtain ⟨o, ho⟩ : ∃ z, Hid (showP ns = z) := ⟨_, Lib.hid rfl⟩
  rw [ho.out] at hc
  obtain ⟨D, hD⟩ : ∃ z, Hid (depthP ns = z) := ⟨_, Lib.hid rfl⟩
  rw [hD.out]
  cases o with
  | none =>
    have hD0 : D = 0 := by rw [← hD.out, depthP, ho.out]
    subst hD0
    go_enter Tryz.func9, Tryz.ntmps9
    go_wp2_with fail
    rw [hw1.out]
    refine hc.mono ?_
    rintro e w2 ⟨rfl, hx2⟩
    rw [show shV none = Value.tuple #[.string ⟨#[]⟩, .int .i64 1] from rfl]
    go_wp2_with fail
    go_ret
    exact ⟨rfl, hx1.trans hx2⟩
  | some s =>
    obtain ⟨d, hd1, hd2⟩ := show_deep ho.out
    have hDd : D = d := by rw [← hD.out, hd2]
    subst hDd
    have hd1 := Lib.hid hd1
    clear hd2 hD
    go_enter Tryz.func9, Tryz.ntmps9
    go_wp2_with fail
    rw [hw1.out, hq.out]
    refine hc.mono ?_
    rintro e w2 ⟨rfl, hx2⟩
    rw [show shV (some s) = Value.tuple #[.string ⟨s.toArray⟩, .int .i64 0] from rfl]
    obtain ⟨p, hp⟩ : ∃ z, Hid (w2.heap.size = z) := ⟨_, rfl⟩
    obtain ⟨w3, hw3⟩ : ∃ z, Hid (w2.alloc (.cells #[.int .i64 0] 3) = z) := ⟨_, rfl⟩
    have hx3 : Ext w2 w3 := by rw [← hw3.out]; exact (Ext.refl w2).alloc _
    have hb3 : Blk w3 p #[.int .i64 0] 3 := by rw [← hw3.out, ← hp.out]; exact Blk.new w2 _ _
    have hxT := (hx1.trans hx2).trans hx3
    have hq3 : (w2.alloc (.cells #[.int .i64 0] 3)).cell? ⟨q, 0, none⟩ = some (.slice A n c) := by rw [hw3.out]; exact ((hb1.ext hx2).ext hx3).cell 0
    have hdp := deep_all (B := w.heap.size) 20 (Nat.le_refl _) 0 0 D ns.length p w3 (hS.below hxT) hb3 (by rw [← hp.out]; exact (hx1.trans hx2).size) hd1.out
    rw [hn.out] at hdp
    go_wp2_with fail
    rw [hw3.out, hp.out]
    refine hdp.mono ?_
    rintro e w4 ⟨rfl, hch4, _⟩
    have hx4 : Ext w w4 := ((Chg.ofExt (S := fun _ => False) hxT).trans hch4 (fun i hi e => by have := hp.out; have := (hx1.trans hx2).size; omega)).toExt (fun _ _ e => e)
    go_wp2_with fail
    go_ret
    exact ⟨rfl, hx4⟩

theorem live_show : showP ((parseP tLive).1.map Nd.toE) = some (bs tLive) := by decide +kernel
theorem live_depth : depthP ((parseP tLive).1.map Nd.toE) = 3 := by decide +kernel
theorem live_len : showLen ((parseP tLive).1.map Nd.toE) ≤ 100000000 := by decide +kernel
theorem live_n : (parseP tLive).1.length = 3 ∧ (parseP tLive).2.1 = 0 ∧ (parseP tLive).2.2 = 0 := by decide +kernel
set_option maxRecDepth 100000 in
theorem lives_any (w : World) (hwd : Wd w) (hpow : Pow w) : Calls Tryz.prog 5 #[] w fun e w' => e = .returned (.bool true) ∧ Ext w w' := by
  have hpar := parse_any tLive (by decide) w hwd (by have := hpow.lt; omega)
  obtain ⟨r, hr⟩ : ∃ z, Hid (parseP tLive = z) := ⟨_, Lib.hid rfl⟩
  obtain ⟨l1, l2, l3⟩ := live_n
  have l4 := live_show
  have l5 := live_depth
  have l6 := live_len
  have l7 := parse_rng tLive
  rw [hr.out] at hpar l1 l2 l3 l4 l5 l6 l7
  replace l1 := Lib.hid l1
  replace l2 := Lib.hid l2
  replace l3 := Lib.hid l3
  replace l4 := Lib.hid l4
  replace l5 := Lib.hid l5
  replace l7 := Lib.hid l7
  go_enter Tryz.func5, Tryz.ntmps5
  go_wp2_with fail
  refine hpar.mono ?_
  rintro e w1 ⟨v, vs, rfl, hnd, hx1⟩
  have hS1 := Sch.ofNds hnd (Nat.le_refl _) l7.out
  obtain ⟨A, c, rfl, jj1, jj2, jj3, jj4⟩ := Rd.of_own hnd.row
  clear jj1 jj2 jj3 jj4 hpar hnd
  rw [l1.out] at hS1
  rw [l1.out, l2.out, l3.out]
  obtain ⟨q, hq⟩ : ∃ z, Hid (w1.heap.size = z) := ⟨_, rfl⟩
  obtain ⟨w2, hw2⟩ : ∃ z, Hid (w1.alloc (.cells #[.slice A 3 c] 24) = z) := ⟨_, rfl⟩
  have hx2 : Ext w1 w2 := by rw [← hw2.out]; exact (Ext.refl w1).alloc _
  have hb2 : Blk w2 q #[.slice A 3 c] 24 := by rw [← hw2.out, ← hq.out]; exact Blk.new w1 _ _
  have hS2 : Sch w2.heap.size w2 (.slice A 3 c) (r.1.map Nd.toE) := (hS1.below hx2).mono hx2.size
  have hx02 := hx1.trans hx2
  have hsh := show_any _ _ w2 hS2 (hwd.ext hx02) (hpow.ext hx02) l6
  rw [l4.out] at hsh
  go_wp2_with fail
  rw [hw2.out, hq.out]
  refine hsh.mono ?_
  rintro e w3 ⟨rfl, hx3⟩
  rw [show shV (some (bs tLive)) = Value.tuple #[.string ⟨#[114, 101, 99, 111, 114, 100, 32, 112, 123, 97, 63, 58, 40, 110, 117, 108, 108, 124, 112, 41, 59, 125]⟩, .int .i64 0] from rfl]
  have hx03 := hx02.trans hx3
  have hdp := depth_any _ _ w3 ((hS2.below hx3).mono hx3.size) (hwd.ext hx03) (hpow.ext hx03) l6
  rw [l5.out] at hdp
  have hc3 : w3.cell? ⟨q, 0, none⟩ = some (.slice A 3 c) := (hb2.ext hx3).cell 0
  clear hsh hS1 hS2
  go_wp2_with fail
  refine hdp.mono ?_
  rintro e w4 ⟨rfl, hx4⟩
  go_wp2_with fail
  go_ret
  exact ⟨rfl, hx03.trans hx4⟩
end Go.Proofs.YtejcacbbhijdcaaGreatDoor.Pr
/- parse: the reference's writer in memory; numbers' digits, walked. -/
namespace Go.Proofs.YtejcacbbhijdcaaGreatDoor.Pr
open Go.ChangeShapes Go.WideShapes Go.ChangeAt Go.RowKit
open Base Lx Mi Piece
set_option linter.unusedVariables false
set_option linter.unusedSimpArgs false

/-- the reference's writer -/
structure RInv (B : Nat) (w : World) (R : Nat) (no : Value) (st : WSt) : Prop where
  blk : ∃ S, bs S = st.s ∧ Blk w R #[no, .string S, .int .i64 (st.next : Int), .bool st.bad] 41
  hR : B ≤ R
theorem RInv.size {B : Nat} {w : World} {R : Nat} {no : Value} {st : WSt} (h : RInv B w R no st) : B ≤ w.heap.size := by
  obtain ⟨S, _, hb⟩ := h.blk
  have := hb.lt; have := h.hR; omega
theorem RInv.ext {B : Nat} {w w' : World} {R : Nat} {no : Value} {st : WSt} (h : RInv B w R no st) (hx : Ext w w') : RInv B w' R no st := by
  obtain ⟨S, h1, h2⟩ := h.blk
  exact ⟨⟨S, h1, h2.ext hx⟩, h.hR⟩
theorem RInv.off {B : Nat} {w w' : World} {R : Nat} {no : Value} {st : WSt} {S : Nat → Prop} (h : RInv B w R no st) (hx : Chg S w w') (hn : ¬ S R) : RInv B w' R no st := by
  obtain ⟨S, h1, h2⟩ := h.blk
  exact ⟨⟨S, h1, hx.blk h2 hn⟩, h.hR⟩
theorem RInv.putS {B : Nat} {w : World} {R : Nat} {no : Value} {st : WSt} {S : ByteArray} (hR : B ≤ R) (hS : bs S = st.s) (hb : Blk w R #[no, .string S, .int .i64 (st.next : Int), .bool st.bad] 41) (t : ByteArray) :
    RInv B (w.setCell ⟨R, 1, none⟩ (.string (S ++ t))) R no (st.put (bs t)) := by
  refine ⟨⟨S ++ t, ?_, hb.set 1 _⟩, hR⟩
  rw [bs_append, hS]; rfl
theorem RInv.setBad {B : Nat} {w : World} {R : Nat} {no : Value} {st : WSt} (h : RInv B w R no st) (b : Bool) : RInv B (w.setCell ⟨R, 3, none⟩ (.bool b)) R no { st with bad := b } := by
  obtain ⟨S, h1, h2⟩ := h.blk
  exact ⟨⟨S, h1, h2.set 3 _⟩, h.hR⟩
theorem RInv.setNext {B : Nat} {w : World} {R : Nat} {no : Value} {st : WSt} (h : RInv B w R no st) (n : Nat) : RInv B (w.setCell ⟨R, 2, none⟩ (.int .i64 (n : Int))) R no { st with next := n } := by
  obtain ⟨S, h1, h2⟩ := h.blk
  exact ⟨⟨S, h1, h2.set 2 _⟩, h.hR⟩
/-- what a step of the writer is -/
def RsP (B R : Nat) (no : Value) (w : World) (st : WSt) (e : Ending) (w' : World) : Prop := e = .returned (.tuple #[]) ∧ Chg (fun k => k = R) w w' ∧ RInv B w' R no st
def RTypC (B R : Nat) (no : Value) (ns : List Ne) (f deep : Nat) : Prop := ∀ (n : Int) (st : WSt) (w : World), RInv B w R no st → Sch B w no ns → (rtyp ns f n st).s.length ≤ 100000000 →
  Calls Tryz.prog 13 #[.pointer (some ⟨R, 0, none⟩), .int .i64 n, .int .i64 (deep : Int)] w fun e w' => RsP B R no w (rtyp ns f n st) e w'

theorem digR_small (n : Nat) (h : n < 10) : digR n = [UInt8.ofNat (48 + n)] := by
  unfold digR
  rw [if_neg (by omega)]
  unfold Lib.itoa
  rw [if_neg (by omega), Int.toNat_natCast, Lib.decDigits_one h]
theorem digR_big (n : Nat) (h : 10 ≤ n) (h2 : n ≤ 4096) : digR n = digR ((n / 10 : Nat) : Int) ++ digR ((n % 10 : Nat) : Int) := by
  rw [digR_small (n % 10) (by omega)]
  unfold digR
  rw [if_neg (by omega), if_neg (by omega)]
  unfold Lib.itoa
  rw [if_neg (by omega), if_neg (by omega), Int.toNat_natCast, Int.toNat_natCast]
  conv => lhs; rw [Lib.decDigits, dif_neg (by omega)]
theorem u8_of (n : Nat) (h : n < 10) : u8s [UInt8.ofNat (48 + n)] = [.int .u8 (48 + (n : Int))] := by
  simp only [u8s, List.map_cons, List.map_nil, List.cons.injEq, and_true, Value.int.injEq, true_and]
  rw [UInt8.toNat_ofNat_of_lt' (by show 48 + n < 256; omega)]
  omega
set_option maxRecDepth 100000 in
set_option maxHeartbeats 1000000 in
theorem digits_small (n : Nat) (h : n < 10) (w : World) : Calls Tryz.prog 23 #[.int .i64 (n : Int)] w fun e w' => e = .returned (.string ⟨(digR n).toArray⟩) ∧ Ext w w' := by
  have hb : Rb (w.alloc (.cells #[.int .u8 (48 + (n : Int))] 5)) (some ⟨w.heap.size, 0, none⟩) [UInt8.ofNat (48 + n)] := by
    show Rd _ _ (u8s _)
    rw [u8_of n h]
    exact Rd.of_block w 5 (0, 0) rfl
  have hcv := conv_rd (P := Tryz.prog) (src := 52) (dst := 9) Tryz.underlying52 Tryz.underlying5 Tryz.underlying9 (n := 1) 1 rfl hb
  have hx := (Ext.refl w).alloc (.cells #[.int .u8 (48 + (n : Int))] 5)
  rw [digR_small n h]
  have h0 : ¬ (n : Int) < 0 := by omega
  have h1 : ¬ (4096 : Int) < (n : Int) := by omega
  have h2 : (n : Int) < 10 := by omega
  have hw8 : IntKind.u8.wrap (n : Int) = (n : Int) := by
    have : IntKind.u8.wrap (n : Int) = (n : Int) % 256 := by rfl
    rw [this]; omega
  have hw9 : IntKind.u8.wrap (48 + (n : Int)) = 48 + (n : Int) := by
    have : IntKind.u8.wrap (48 + (n : Int)) = (48 + (n : Int)) % 256 := by rfl
    rw [this]; omega
  obtain ⟨S, hS⟩ : ∃ S : ByteArray, S = Str [UInt8.ofNat (48 + n)] := ⟨_, rfl⟩
  rw [← hS] at hcv
  rw [show (⟨[UInt8.ofNat (48 + n)].toArray⟩ : ByteArray) = S from hS.symm]
  clear hb hS
  go_enter Tryz.func23, Tryz.ntmps23
  go_wp2_with fail
  go_ret
  exact ⟨rfl, hx⟩
set_option maxRecDepth 100000 in
set_option maxHeartbeats 1000000 in
theorem digits_bad (n : Int) (h : n < 0 ∨ 4096 < n) (w : World) : Calls Tryz.prog 23 #[.int .i64 n] w fun e w' => e = .returned (.string ⟨(digR n).toArray⟩) ∧ Ext w w' := by
  have e : digR n = [120] := by unfold digR; rw [if_pos h]
  rw [e]
  rcases h with h | h
  · go_enter Tryz.func23, Tryz.ntmps23
    go_wp2_with fail
    go_ret
    exact ⟨rfl, Ext.refl w⟩
  · have h0 : ¬ n < 0 := by omega
    go_enter Tryz.func23, Tryz.ntmps23
    go_wp2_with fail
    go_ret
    exact ⟨rfl, Ext.refl w⟩
set_option maxRecDepth 100000 in
set_option maxHeartbeats 1000000 in
theorem digits_nat : ∀ (k n : Nat), n ≤ k → n ≤ 4096 → ∀ w : World, Calls Tryz.prog 23 #[.int .i64 (n : Int)] w fun e w' => e = .returned (.string ⟨(digR n).toArray⟩) ∧ Ext w w'
  | k, n, hk, h4, w => by
    by_cases h : n < 10
    · exact digits_small n h w
    · obtain ⟨k, rfl⟩ : ∃ j, k = j + 1 := ⟨k - 1, by omega⟩
      have hA := digits_nat k (n / 10) (by omega) (by omega) w
      have hB := fun W => digits_small (n % 10) (by omega) W
      rw [digR_big n (by omega) h4]
      have hlA : (digR ((n / 10 : Nat) : Int)).length ≤ 21 := digR_len _ (by omega)
      have hlB : (digR ((n % 10 : Nat) : Int)).length ≤ 21 := digR_len _ (by omega)
      obtain ⟨SA, hSA⟩ : ∃ S : ByteArray, S = ⟨(digR ((n / 10 : Nat) : Int)).toArray⟩ := ⟨_, rfl⟩
      obtain ⟨SB, hSB⟩ : ∃ S : ByteArray, S = ⟨(digR ((n % 10 : Nat) : Int)).toArray⟩ := ⟨_, rfl⟩
      have e : (⟨(digR ((n / 10 : Nat) : Int) ++ digR ((n % 10 : Nat) : Int)).toArray⟩ : ByteArray) = SA ++ SB := by
        rw [hSA, hSB]
        apply ByteArray.ext
        simp
      have hz : ¬ 9223372036854775807 < SA.size + SB.size := by
        have h1 : SA.size = (digR ((n / 10 : Nat) : Int)).length := by rw [hSA]; simp [ByteArray.size]
        have h2 : SB.size = (digR ((n % 10 : Nat) : Int)).length := by rw [hSB]; simp [ByteArray.size]
        omega
      rw [e]
      rw [← hSA] at hA
      simp only [← hSB] at hB
      have h0 : ¬ (n : Int) < 0 := by omega
      have h1 : ¬ (4096 : Int) < (n : Int) := by omega
      have h2 : ¬ (n : Int) < 10 := by omega
      have hq : (n : Int) / 10 = ((n / 10 : Nat) : Int) := by omega
      have hr : (n : Int) % 10 = ((n % 10 : Nat) : Int) := by omega
      have hq2 : (n : Int).tdiv 10 = ((n / 10 : Nat) : Int) := by rw [Int.tdiv_eq_ediv_of_nonneg (by omega)]; omega
      have hr2 : (n : Int).tmod 10 = ((n % 10 : Nat) : Int) := by rw [Int.tmod_eq_emod_of_nonneg (by omega)]; omega
      clear hlA hlB hSA hSB e
      obtain ⟨a, ha⟩ : ∃ a : Int, a = ((n / 10 : Nat) : Int) := ⟨_, rfl⟩
      obtain ⟨b, hb⟩ : ∃ b : Int, b = ((n % 10 : Nat) : Int) := ⟨_, rfl⟩
      rw [← ha] at hA hq hq2
      rw [← hb] at hr hr2
      simp only [← hb] at hB
      clear ha hb
      go_enter Tryz.func23, Tryz.ntmps23
      go_wp2_with fail
      refine hA.mono ?_
      rintro e w1 ⟨rfl, hx1⟩
      have hB1 := hB w1
      go_wp2_with fail
      refine hB1.mono ?_
      rintro e w2 ⟨rfl, hx2⟩
      go_wp2_with fail
      go_ret
      exact ⟨rfl, hx1.trans hx2⟩
theorem digits_any (n : Int) (w : World) : Calls Tryz.prog 23 #[.int .i64 n] w fun e w' => e = .returned (.string ⟨(digR n).toArray⟩) ∧ Ext w w' := by
  by_cases h : n < 0 ∨ 4096 < n
  · exact digits_bad n h w
  · obtain ⟨m, rfl⟩ : ∃ m : Nat, n = m := ⟨n.toNat, by omega⟩
    exact digits_nat m m (Nat.le_refl _) (by omega) w
end Go.Proofs.YtejcacbbhijdcaaGreatDoor.Pr
/- parse: the reference's writer: a record's fields, walked. -/
namespace Go.Proofs.YtejcacbbhijdcaaGreatDoor.Pr
open Go.ChangeShapes Go.WideShapes Go.ChangeAt Go.RowKit
open Base Lx Mi Piece
set_option linter.unusedVariables false
set_option linter.unusedSimpArgs false

def RfAt (B R : Nat) (no : Value) (w0 : World) (T : WT) (l : List (ByteArray × Bool × Int)) (fin : WSt) (i : Nat) (wr : World) : Prop := Chg (fun k => k = R) w0 wr ∧ ∃ st, RInv B wr R no st ∧ Hid (rflds T (l.drop i) st = fin)
theorem chgR_below {B R : Nat} {w w' : World} (h : Chg (fun k => k = R) w w') (hR : B ≤ R) (hB : B ≤ w.heap.size) : Below B w w' := ⟨h.os, h.tape, h.output, h.size, fun k hk => h.block k (by omega) (fun e => by have e : k = R := e; omega)⟩
set_option maxRecDepth 100000 in
set_option maxHeartbeats 2000000 in
theorem rfields_any {B R f deep : Nat} {no : Value} {ns : List Ne} (H : RTypC B R no ns f (deep + 1)) (hd : deep ≤ 100) (l : List (ByteArray × Bool × Int)) (vl : Value) (st : WSt) (w : World) (h : RInv B w R no st) (hS : Sch B w no ns) (hl : Sl B w vl l.length (fldsZ l)) (hL : (rflds (rtyp ns f) l st).s.length ≤ 100000000) :
    Calls Tryz.prog 24 #[.pointer (some ⟨R, 0, none⟩), vl, .int .i64 (deep : Int)] w fun e w' => RsP B R no w (rflds (rtyp ns f) l st) e w' := by
  obtain ⟨T, hT⟩ : ∃ T, T = rtyp ns f := ⟨_, rfl⟩
  have hG : WG T := by rw [hT]; exact rtyp_len ns f
  have H : ∀ (n : Int) (st : WSt) (w : World), RInv B w R no st → Sch B w no ns → (T n st).s.length ≤ 100000000 → Calls Tryz.prog 13 #[.pointer (some ⟨R, 0, none⟩), .int .i64 n, .int .i64 ((deep : Int) + 1)] w fun e w' => RsP B R no w (T n st) e w' := by
    rw [hT]; intro n st w; have := H n st w; rw [show ((deep + 1 : Nat) : Int) = (deep : Int) + 1 by omega] at this; exact this
  rw [← hT] at hL ⊢
  clear hT
  obtain ⟨fin, hfin⟩ : ∃ z, Hid (rflds T l st = z) := ⟨_, Lib.hid rfl⟩
  rw [hfin.out] at hL ⊢
  have hR := h.hR
  have hBw := h.size
  obtain ⟨A, c, rfl, hnc, hcm, hA, hat⟩ := hl.at_
  obtain ⟨n, hn⟩ : ∃ z, Hid (l.length = z) := ⟨_, rfl⟩
  rw [hn.out] at hnc ⊢
  unfold maxLen at hcm
  have hdw : IntKind.i64.wrap ((deep : Int) + 1) = (deep : Int) + 1 := by rw [IntKind.wrap_i64]; omega
  have hstart : RfAt B R no w T l fin 0 w := ⟨Chg.refl _ w, _, h, by rw [List.drop_zero]; exact hfin⟩
  obtain ⟨PO, hPO⟩ : ∃ PO : Ending → World → Prop, Hid ((fun e w' => RsP B R no w fin e w') = PO) := ⟨_, Lib.hid rfl⟩
  rw [hPO.out]
  have hend : ∀ w', Chg (fun k => k = R) w w' → RInv B w' R no fin → PO (.returned (.tuple #[])) w' := fun w' h1 h2 => by rw [← hPO.out]; exact ⟨rfl, h1, h2⟩
  clear hfin h
  go_enter Tryz.func24, Tryz.ntmps24
  go_wp2_with fail
  go_loopw [6] (fun v6 wr => ∃ i : Nat, i ≤ n ∧ v6 = .int .i64 i ∧ RfAt B R no w T l fin i wr) (fun v6 _ => n - (intOf v6).toNat)
  case atStart => exact ⟨0, by omega, rfl, hstart⟩
  case round =>
    obtain ⟨i, hi, rfl, hbw, st1, hw1, hf1⟩ := hrel
    clear hstart
    obtain ⟨S1, hS1, hb1⟩ := hw1.blk
    have c1 : wr.cell? ⟨R, 1, none⟩ = some (.string S1) := hb1.cell 1
    have c3 : wr.cell? ⟨R, 3, none⟩ = some (.bool st1.bad) := hb1.cell 3
    by_cases hin : i < n
    · have hin' : (i : Int) < (n : Int) := by omega
      by_cases hbad : st1.bad = true
      · rw [hbad] at c3
        have hf2 : st1 = fin := by
          rw [← hf1.out]
          cases hdl : l.drop i with
          | nil => rfl
          | cons f r => rw [rflds, if_pos hbad]
        subst hf2
        have hfin := hend wr hbw hw1
        clear hend hbad
        go_wp2_with fail
        refine bodyPost_ret (results_none rfl _ _ _) rfl ?_
        exact hfin
      · have hbad' : st1.bad = false := by simpa using hbad
        rw [hbad'] at c3
        obtain ⟨⟨fn, fh, ft⟩, hxe⟩ : ∃ x, l[i]? = some x := ⟨_, List.getElem?_eq_getElem (by have := hn.out; omega)⟩
        have hxz := fldsZ_at l i _ hxe
        obtain ⟨b, off, rfl, hbB, hc⟩ := hat (i * 3 + 0) (.string fn) (by rw [hxz 0 (by omega)]; rfl)
        have hbR : ¬ b = R := by omega
        have hlow := chgR_below hbw hR hBw
        have d0 : ∀ W, Ext wr W → W.cell? ⟨b, off + i * 3, none⟩ = some (.string fn) := fun W hW => hW.cell (by have := hc wr hlow (i * 3 + 0) (.string fn) (by rw [hxz 0 (by omega)]; rfl); simpa [Nat.add_assoc] using this)
        have d1 : ∀ W, Ext wr W → W.cell? ⟨b, off + i * 3 + 1, none⟩ = some (.bool fh) := fun W hW => hW.cell (by have := hc wr hlow (i * 3 + 1) (.bool fh) (by rw [hxz 1 (by omega)]; rfl); simpa [Nat.add_assoc] using this)
        have d2 : ∀ W, Ext wr W → W.cell? ⟨b, off + i * 3 + 2, none⟩ = some (.int .i64 ft) := fun W hW => hW.cell (by have := hc wr hlow (i * 3 + 2) (.int .i64 ft) (by rw [hxz 2 (by omega)]; rfl); simpa [Nat.add_assoc] using this)
        have hdrop : l.drop i = (fn, fh, ft) :: l.drop (i + 1) := List.drop_eq_getElem?_toList_append .. |>.trans (by rw [hxe]; rfl)
        obtain ⟨stb, hstb⟩ : ∃ z, Hid ((if fh then (st1.put (bs fn)).put [63] else st1.put (bs fn)) = z) := ⟨_, Lib.hid rfl⟩
        have hf2 : rflds T (l.drop (i + 1)) ((T ft (stb.put [58])).put [59]) = fin := by rw [← hf1.out, hdrop, rflds, if_neg hbad, wfield, hstb.out]
        have hl2 := rflds_len hG (l.drop (i + 1)) ((T ft (stb.put [58])).put [59])
        rw [hf2, WSt.put_len] at hl2
        have hl3 := hG ft (stb.put [58])
        have hl3b := WSt.put_len stb [58]
        simp only [List.length_cons, List.length_nil] at hl2 hl3b hL
        have hl4 : st1.s.length + fn.size ≤ stb.s.length := by
          have e1 := WSt.put_len st1 (bs fn)
          have e2 := WSt.put_len (st1.put (bs fn)) [63]
          rw [bs_size] at e1
          rw [← hstb.out]
          split
          · omega
          · omega
        have hsz1 : S1.size ≤ st1.s.length := by rw [← bs_size, hS1]; exact Nat.le_refl _
        have Hf3 := Lib.hid hf2
        have hz1 : ¬ 9223372036854775807 < S1.size + fn.size := by omega
        have hz2 : ¬ 9223372036854775807 < S1.size + fn.size + 1 := by omega
        have hz3 : ¬ 9223372036854775807 < S1.size + fn.size + 1 + 1 := by omega
        have r1 : ∀ W, Ext wr W → W.cell? ⟨R, 1, none⟩ = some (.string S1) := fun W hW => hW.cell c1
        have hBr : B ≤ wr.heap.size := hw1.size
        have hSw := hS.below hlow
        clear hf2 hxe hxz hc hdrop hf1 hbad hend
        go_wp2_with fail
        refine Reg.startE (by kernel_rfl) ?_
        refine Reg.tk 0 ?_; (try simp only [Reg.n1, Reg.n2, Reg.n3, Reg.n4, Reg.n5, Reg.n6, Reg.n7])
        refine Reg.tk 1 ?_; (try simp only [Reg.n1, Reg.n2, Reg.n3, Reg.n4, Reg.n5, Reg.n6, Reg.n7])
        refine Reg.tk 2 ?_; (try simp only [Reg.n1, Reg.n2, Reg.n3, Reg.n4, Reg.n5, Reg.n6, Reg.n7])
        refine Reg.tk 3 ?_; (try simp only [Reg.n1, Reg.n2, Reg.n3, Reg.n4, Reg.n5, Reg.n6, Reg.n7])
        refine Reg.tk 4 ?_; (try simp only [Reg.n1, Reg.n2, Reg.n3, Reg.n4, Reg.n5, Reg.n6, Reg.n7])
        refine Reg.tk 5 ?_; (try simp only [Reg.n1, Reg.n2, Reg.n3, Reg.n4, Reg.n5, Reg.n6, Reg.n7])
        refine Reg.tk 6 ?_; (try simp only [Reg.n1, Reg.n2, Reg.n3, Reg.n4, Reg.n5, Reg.n6, Reg.n7])
        refine Reg.tk 7 ?_; (try simp only [Reg.n1, Reg.n2, Reg.n3, Reg.n4, Reg.n5, Reg.n6, Reg.n7])
        refine Reg.tk 8 ?_; (try simp only [Reg.n1, Reg.n2, Reg.n3, Reg.n4, Reg.n5, Reg.n6, Reg.n7])
        refine Reg.tk 9 ?_; (try simp only [Reg.n1, Reg.n2, Reg.n3, Reg.n4, Reg.n5, Reg.n6, Reg.n7])
        refine Reg.tk 10 ?_; (try simp only [Reg.n1, Reg.n2, Reg.n3, Reg.n4, Reg.n5, Reg.n6, Reg.n7])
        refine Reg.tk 11 ?_; (try simp only [Reg.n1, Reg.n2, Reg.n3, Reg.n4, Reg.n5, Reg.n6, Reg.n7])
        refine Reg.tk 12 ?_; (try simp only [Reg.n1, Reg.n2, Reg.n3, Reg.n4, Reg.n5, Reg.n6, Reg.n7])
        refine Reg.last 13 _ rfl (by kernel_rfl) (by kernel_rfl) (by kernel_rfl) (by decide) (by rfl) (fun W hW K hK => ?_)
        have bW := hb1.ext hW
        have fW := bW.frozen 1
        have cW := bW.cell 1
        go_simp
        refine hK.out _ _ ?_; clear hK K; (try simp only [Reg.n1, Reg.n2, Reg.n3, Reg.n4, Reg.n5, Reg.n6, Reg.n7])
        have bW := hb1.ext hW
        have x1 := d1 W hW
        have x2 := d2 W hW
        have fW := bW.frozen 1
        have cW := bW.cell 1
        have p1 := RInv.putS hR hS1 bW fn
        have b1 : Blk (W.setCell ⟨R, 1, none⟩ (.string (S1 ++ fn))) R #[no, .string (S1 ++ fn), .int .i64 (st1.next : Int), .bool st1.bad] 41 := bW.set 1 _
        have e1 : bs (S1 ++ fn) = (st1.put (bs fn)).s := by rw [bs_append, hS1]; rfl
        have hch1 : Chg (fun k => k = R) wr (W.setCell ⟨R, 1, none⟩ (.string (S1 ++ fn))) := (Chg.ofExt hW).trans (Chg.one W R 1 _) (fun _ _ e => e)
        obtain ⟨w2, hw2⟩ : ∃ z, Hid (W.setCell ⟨R, 1, none⟩ (.string (S1 ++ fn)) = z) := ⟨_, rfl⟩
        have y1 : w2.cell? ⟨b, off + i * 3 + 1, none⟩ = some (.bool fh) := by rw [← hw2.out]; exact (Chg.one W R 1 _).cell x1 hbR
        have y2 : w2.cell? ⟨b, off + i * 3 + 2, none⟩ = some (.int .i64 ft) := by rw [← hw2.out]; exact (Chg.one W R 1 _).cell x2 hbR
        rw [hw2.out] at p1 b1 hch1 ⊢
        have k1 := b1.cell 1
        have g1 := b1.frozen 1
        obtain ⟨S2, hS2⟩ : ∃ S2, Hid (S1 ++ fn = S2) := ⟨_, rfl⟩
        have hz12 : S2.size = S1.size + fn.size := by rw [← hS2.out, ByteArray.size_append]
        rw [hS2.out] at b1 k1 e1
        rw [← hz12] at hz1 hz2 hz3
        clear hz12 d0 d1 d2 r1 cW fW x1 x2 bW c1 hb1 hS1 hS2
        have hbR' : ¬ R = b := fun e => hbR e.symm
        cases fh with
        | true =>
          have hstb' : (st1.put (bs fn)).put [63] = stb := hstb.out
          have p2 := RInv.putS hR e1 b1 ⟨#[63]⟩
          have b2 : Blk (w2.setCell ⟨R, 1, none⟩ (.string (S2 ++ ⟨#[63]⟩))) R #[no, .string (S2 ++ ⟨#[63]⟩), .int .i64 (st1.next : Int), .bool st1.bad] 41 := b1.set 1 _
          have e2 : bs (S2 ++ ⟨#[63]⟩) = stb.s := by rw [bs_append, e1, ← hstb']; rfl
          have p3 := RInv.putS (st := stb) (no := no) hR e2 (by rw [← hstb']; exact b2) ⟨#[58]⟩
          have hch3 := ((hbw.trans hch1 (fun _ _ e => e)).trans (Chg.one w2 R 1 (.string (S2 ++ ⟨#[63]⟩))) (fun _ _ e => e)).trans (Chg.one _ R 1 (.string (S2 ++ ⟨#[63]⟩ ++ ⟨#[58]⟩))) (fun _ _ e => e)
          obtain ⟨w3, hw3⟩ : ∃ z, Hid ((w2.setCell ⟨R, 1, none⟩ (.string (S2 ++ ⟨#[63]⟩))).setCell ⟨R, 1, none⟩ (.string (S2 ++ ⟨#[63]⟩ ++ ⟨#[58]⟩)) = z) := ⟨_, rfl⟩
          rw [hw3.out] at p3 hch3
          have p3 : RInv B w3 R no (stb.put [58]) := p3
          have hcall := H ft (stb.put [58]) w3 p3 (hS.below (chgR_below hch3 hR hBw)) (by omega)
          clear p1 p2 b2 e2 hstb'
          go_wp2_with fail
          rw [hw3.out]
          refine hcall.mono ?_
          rintro e w4 ⟨rfl, hc4, h4⟩
          obtain ⟨S4, hS4, b4⟩ := h4.blk
          have k4 := b4.cell 1
          have g4 := b4.frozen 1
          have hsz4 : S4.size ≤ (T ft (stb.put [58])).s.length := by rw [← bs_size, hS4]; exact Nat.le_refl _
          have hz4 : ¬ 9223372036854775807 < S4.size + 1 := by omega
          have p5 := RInv.putS hR hS4 b4 ⟨#[59]⟩
          have p5 : RInv B (w4.setCell ⟨R, 1, none⟩ (.string (S4 ++ ⟨#[59]⟩))) R no ((T ft (stb.put [58])).put [59]) := p5
          have hch5 := (hch3.trans hc4 (fun _ _ e => e)).trans (Chg.one w4 R 1 (.string (S4 ++ ⟨#[59]⟩))) (fun _ _ e => e)
          clear hcall hw3 k1 g1
          go_wp2_with fail
          go_roundw
          case rel => exact ⟨i + 1, by omega, by go_num, hch5, _, p5, Hf3⟩
          case measure => simp [intOf]; omega
        | false =>
          have hstb' : st1.put (bs fn) = stb := hstb.out
          have p3 := RInv.putS (st := stb) (no := no) hR (by rw [e1, hstb']) (by rw [← hstb']; exact b1) ⟨#[58]⟩
          have hch3 := (hbw.trans hch1 (fun _ _ e => e)).trans (Chg.one w2 R 1 (.string (S2 ++ ⟨#[58]⟩))) (fun _ _ e => e)
          obtain ⟨w3, hw3⟩ : ∃ z, Hid (w2.setCell ⟨R, 1, none⟩ (.string (S2 ++ ⟨#[58]⟩)) = z) := ⟨_, rfl⟩
          rw [hw3.out] at p3 hch3
          have p3 : RInv B w3 R no (stb.put [58]) := p3
          have hcall := H ft (stb.put [58]) w3 p3 (hS.below (chgR_below hch3 hR hBw)) (by omega)
          clear p1 hstb'
          go_wp2_with fail
          rw [hw3.out]
          refine hcall.mono ?_
          rintro e w4 ⟨rfl, hc4, h4⟩
          obtain ⟨S4, hS4, b4⟩ := h4.blk
          have k4 := b4.cell 1
          have g4 := b4.frozen 1
          have hsz4 : S4.size ≤ (T ft (stb.put [58])).s.length := by rw [← bs_size, hS4]; exact Nat.le_refl _
          have hz4 : ¬ 9223372036854775807 < S4.size + 1 := by omega
          have p5 := RInv.putS hR hS4 b4 ⟨#[59]⟩
          have p5 : RInv B (w4.setCell ⟨R, 1, none⟩ (.string (S4 ++ ⟨#[59]⟩))) R no ((T ft (stb.put [58])).put [59]) := p5
          have hch5 := (hch3.trans hc4 (fun _ _ e => e)).trans (Chg.one w4 R 1 (.string (S4 ++ ⟨#[59]⟩))) (fun _ _ e => e)
          clear hcall hw3 k1 g1
          go_wp2_with fail
          go_roundw
          case rel => exact ⟨i + 1, by omega, by go_num, hch5, _, p5, Hf3⟩
          case measure => simp [intOf]; omega
    · obtain rfl : i = n := by omega
      have hf2 : st1 = fin := by rw [← hf1.out, ← hn.out, List.drop_length, rflds]
      subst hf2
      have hfin := hend wr hbw hw1
      clear hend
      go_wp2_with fail
      refine bodyPost_ret (results_none rfl _ _ _) rfl ?_
      exact hfin
end Go.Proofs.YtejcacbbhijdcaaGreatDoor.Pr
