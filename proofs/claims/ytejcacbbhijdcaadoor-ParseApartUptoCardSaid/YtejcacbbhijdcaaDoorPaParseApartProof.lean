/- suffragan/suffraganlaw07.ParseApart: the given statement, out of the contract of its walk. Of what reads up to the bound. -/
import Derived.Test.YtejcacbbhijdcaaDoorPaR
import Derived.Lib.ItoaLen
namespace Go.Proofs.YtejcacbbhijdcaaDoor.Pr
open Go.ChangeShapes Go.WideShapes Go.ChangeAt Go.RowKit
open Base Lx Mi
set_option linter.unusedVariables false
set_option linter.unusedSimpArgs false

def nodeP (d : Ne) : Nat := d.syms.length + d.items.length + d.fields.length
def partsN (ns : List Ne) : Nat := ns.length + (ns.map nodeP).sum
theorem sum_take_le : ∀ (l : List Nat) (i : Nat), (l.take i).sum ≤ l.sum
  | [], i => by simp
  | x :: l, 0 => by simp
  | x :: l, i + 1 => by
    have := sum_take_le l i
    simp only [List.take_succ_cons, List.sum_cons]
    omega
theorem sum_take_succ (l : List Nat) (i x : Nat) (h : l[i]? = some x) : (l.take (i + 1)).sum = (l.take i).sum + x := by
  rw [List.take_add_one, h, List.sum_append]
  simp
set_option maxRecDepth 100000 in
set_option maxHeartbeats 1000000 in
theorem small_any {B : Nat} {w : World} {v : Value} {ns : List Ne} (h : Sch B w v ns) (hB : B ≤ w.heap.size) (hl : ns.length ≤ 2000000) (hd : ∀ d ∈ ns, nodeP d ≤ 2000000) :
    Calls Tryd.prog 11 #[.agg #[v]] w fun e w' => e = .returned (.bool (decide (partsN ns ≤ 3000))) ∧ Ext w w' := by
  obtain ⟨A, c, rfl⟩ := h.slice
  obtain ⟨n, hn⟩ : ∃ z, Hid (ns.length = z) := ⟨_, Lib.hid rfl⟩
  rw [hn.out] at hl ⊢
  obtain ⟨T, hT⟩ : ∃ z, Hid (partsN ns = z) := ⟨_, Lib.hid rfl⟩
  rw [hT.out]
  obtain ⟨q, hq⟩ : ∃ z, Hid (w.heap.size = z) := ⟨_, rfl⟩
  obtain ⟨w1, hw1⟩ : ∃ z, Hid (w.alloc (.cells #[.slice A n c] 24) = z) := ⟨_, rfl⟩
  have hx1 : Ext w w1 := by rw [← hw1.out]; exact (Ext.refl w).alloc _
  have hb1 : Blk w1 q #[.slice A n c] 24 := by rw [← hw1.out, ← hq.out]; exact Blk.new w _ _
  have hc1 : w1.cell? ⟨q, 0, none⟩ = some (.slice A n c) := hb1.cell 0
  go_enter Tryd.func11, Tryd.ntmps11
  go_wp2_with fail
  rw [hw1.out, hq.out]
  have hc0 : (w.alloc (.cells #[.slice A n c] 24)).cell? ⟨q, 0, none⟩ = some (.slice A n c) := by rw [hw1.out]; exact hc1
  go_wp2_with fail
  go_loopw [3, 4] (fun v3 v4 wr => ∃ i m : Nat, i ≤ n ∧ v4 = .int .i64 i ∧ v3 = .int .i64 m ∧ Hid (m = n + ((ns.map nodeP).take i).sum) ∧ m ≤ 2003000 ∧ Ext w1 wr) (fun _ v4 _ => n - (intOf v4).toNat)
  case atStart => exact ⟨0, n, by omega, rfl, rfl, Lib.hid (by simp), by omega, by first | exact Ext.refl _ | exact (by rw [hw1.out]; exact Ext.refl _)⟩
  case round =>
    obtain ⟨i, m, hi, rfl, rfl, hm, hmb, hx⟩ := hrel
    have hcr : ∀ W, Ext wr W → W.cell? ⟨q, 0, none⟩ = some (.slice A n c) := fun W hW => (hx.trans hW).cell hc1
    have hcr0 := hcr wr (Ext.refl wr)
    have hmT : m ≤ T := by
      have := sum_take_le (ns.map nodeP) i
      rw [← hT.out, partsN, hn.out, hm.out]; omega
    by_cases hin : i < n
    · by_cases hbig : m ≤ 3000
      · have hin' : (i : Int) < (n : Int) := by omega
        have hbig' : (m : Int) ≤ 3000 := by omega
        obtain ⟨x, hxi⟩ : ∃ x, ns[i]? = some x := ⟨_, List.getElem?_eq_getElem (by have := hn.out; omega)⟩
        obtain ⟨b1, o1, d1, As1, cs1, Ai1, ci1, Af1, cf1, e1, hb1, hs1, hcc⟩ := h.node2 i x hxi
        injection e1 with e1 _ e1'
        subst e1; subst e1'
        have p3 : ∀ W, Ext wr W → W.cell? ⟨b1, o1 + i * 6 + 3, none⟩ = some (.slice As1 x.syms.length cs1) := fun W hW => (hcc W (Below.mono ((hx1.trans hx).trans hW) hB)).2.2.2.1
        have p4 : ∀ W, Ext wr W → W.cell? ⟨b1, o1 + i * 6 + 4, none⟩ = some (.slice Ai1 x.items.length ci1) := fun W hW => (hcc W (Below.mono ((hx1.trans hx).trans hW) hB)).2.2.2.2.1
        have p5 : ∀ W, Ext wr W → W.cell? ⟨b1, o1 + i * 6 + 5, none⟩ = some (.slice Af1 x.fields.length cf1) := fun W hW => (hcc W (Below.mono ((hx1.trans hx).trans hW) hB)).2.2.2.2.2
        have hp := hd x (List.mem_of_getElem? hxi)
        have hm2 : Hid (m + x.syms.length + x.items.length + x.fields.length = n + ((ns.map nodeP).take (i + 1)).sum) := Lib.hid (by
          rw [sum_take_succ (ns.map nodeP) i (nodeP x) (by rw [List.getElem?_map, hxi]; rfl), hm.out]; unfold nodeP; omega)
        have hb2 : x.syms.length + x.items.length + x.fields.length ≤ 2000000 := hp
        obtain ⟨sa, hsa⟩ : ∃ z, Hid (x.syms.length = z) := ⟨_, Lib.hid rfl⟩
        obtain ⟨sb, hsb⟩ : ∃ z, Hid (x.items.length = z) := ⟨_, Lib.hid rfl⟩
        obtain ⟨sc, hsc⟩ : ∃ z, Hid (x.fields.length = z) := ⟨_, Lib.hid rfl⟩
        rw [hsa.out] at p3 hm2 hb2
        rw [hsb.out] at p4 hm2 hb2
        rw [hsc.out] at p5 hm2 hb2
        have hw1' : IntKind.i64.wrap ((m : Int) + (sa : Int)) = (m : Int) + (sa : Int) := by rw [IntKind.wrap_i64]; omega
        have hw2' : IntKind.i64.wrap ((m : Int) + (sa : Int) + (sb : Int)) = (m : Int) + (sa : Int) + (sb : Int) := by rw [IntKind.wrap_i64]; omega
        have hw3' : IntKind.i64.wrap ((m : Int) + (sa : Int) + (sb : Int) + (sc : Int)) = (m : Int) + (sa : Int) + (sb : Int) + (sc : Int) := by rw [IntKind.wrap_i64]; omega
        clear hcc hp hs1 hmT hm
        go_wp2_with fail
        refine Reg.startE (by kernel_rfl) ?_
        refine Reg.takeE 0 _ _ rfl (by kernel_rfl) (by kernel_rfl) (by kernel_rfl) (by decide) (fun _ _ _ h => by first | exact h | exact hP _ _ _ _ h) (by rfl) (fun W hW => by go_simp; with_reducible rfl) ?_; (try simp only [Act.put, Act.eval, List.getElem?_toArray, List.getElem_toArray, List.getElem?_cons_zero, List.getElem?_cons_succ, List.getElem_cons_zero, List.getElem_cons_succ, Option.getD_some, List.setIfInBounds_toArray, List.set_cons_zero, List.set_cons_succ])
        refine Reg.takeE 1 _ _ rfl (by kernel_rfl) (by kernel_rfl) (by kernel_rfl) (by decide) (fun _ _ _ h => by first | exact h | exact hP _ _ _ _ h) (by rfl) (fun W hW => by go_simp; with_reducible rfl) ?_; (try simp only [Act.put, Act.eval, List.getElem?_toArray, List.getElem_toArray, List.getElem?_cons_zero, List.getElem?_cons_succ, List.getElem_cons_zero, List.getElem_cons_succ, Option.getD_some, List.setIfInBounds_toArray, List.set_cons_zero, List.set_cons_succ])
        refine Reg.takeE 2 _ _ rfl (by kernel_rfl) (by kernel_rfl) (by kernel_rfl) (by decide) (fun _ _ _ h => by first | exact h | exact hP _ _ _ _ h) (by rfl) (fun W hW => by go_simp; with_reducible rfl) ?_; (try simp only [Act.put, Act.eval, List.getElem?_toArray, List.getElem_toArray, List.getElem?_cons_zero, List.getElem?_cons_succ, List.getElem_cons_zero, List.getElem_cons_succ, Option.getD_some, List.setIfInBounds_toArray, List.set_cons_zero, List.set_cons_succ])
        refine Reg.takeE 3 _ _ rfl (by kernel_rfl) (by kernel_rfl) (by kernel_rfl) (by decide) (fun _ _ _ h => by first | exact h | exact hP _ _ _ _ h) (by rfl) (fun W hW => by go_simp; with_reducible rfl) ?_; (try simp only [Act.put, Act.eval, List.getElem?_toArray, List.getElem_toArray, List.getElem?_cons_zero, List.getElem?_cons_succ, List.getElem_cons_zero, List.getElem_cons_succ, Option.getD_some, List.setIfInBounds_toArray, List.set_cons_zero, List.set_cons_succ])
        refine Reg.takeE 4 _ _ rfl (by kernel_rfl) (by kernel_rfl) (by kernel_rfl) (by decide) (fun _ _ _ h => by first | exact h | exact hP _ _ _ _ h) (by rfl) (fun W hW => by go_simp; with_reducible rfl) ?_; (try simp only [Act.put, Act.eval, List.getElem?_toArray, List.getElem_toArray, List.getElem?_cons_zero, List.getElem?_cons_succ, List.getElem_cons_zero, List.getElem_cons_succ, Option.getD_some, List.setIfInBounds_toArray, List.set_cons_zero, List.set_cons_succ])
        refine Reg.takeE 5 _ _ rfl (by kernel_rfl) (by kernel_rfl) (by kernel_rfl) (by decide) (fun _ _ _ h => by first | exact h | exact hP _ _ _ _ h) (by rfl) (fun W hW => by go_simp; with_reducible rfl) ?_; (try simp only [Act.put, Act.eval, List.getElem?_toArray, List.getElem_toArray, List.getElem?_cons_zero, List.getElem?_cons_succ, List.getElem_cons_zero, List.getElem_cons_succ, Option.getD_some, List.setIfInBounds_toArray, List.set_cons_zero, List.set_cons_succ])
        refine Reg.takeE 6 _ _ rfl (by kernel_rfl) (by kernel_rfl) (by kernel_rfl) (by decide) (fun _ _ _ h => by first | exact h | exact hP _ _ _ _ h) (by rfl) (fun W hW => by go_simp; with_reducible rfl) ?_; (try simp only [Act.put, Act.eval, List.getElem?_toArray, List.getElem_toArray, List.getElem?_cons_zero, List.getElem?_cons_succ, List.getElem_cons_zero, List.getElem_cons_succ, Option.getD_some, List.setIfInBounds_toArray, List.set_cons_zero, List.set_cons_succ])
        refine Reg.takeE 7 _ _ rfl (by kernel_rfl) (by kernel_rfl) (by kernel_rfl) (by decide) (fun _ _ _ h => by first | exact h | exact hP _ _ _ _ h) (by rfl) (fun W hW => by go_simp; with_reducible rfl) ?_; (try simp only [Act.put, Act.eval, List.getElem?_toArray, List.getElem_toArray, List.getElem?_cons_zero, List.getElem?_cons_succ, List.getElem_cons_zero, List.getElem_cons_succ, Option.getD_some, List.setIfInBounds_toArray, List.set_cons_zero, List.set_cons_succ])
        refine Reg.takeE 8 _ _ rfl (by kernel_rfl) (by kernel_rfl) (by kernel_rfl) (by decide) (fun _ _ _ h => by first | exact h | exact hP _ _ _ _ h) (by rfl) (fun W hW => by go_simp; with_reducible rfl) ?_; (try simp only [Act.put, Act.eval, List.getElem?_toArray, List.getElem_toArray, List.getElem?_cons_zero, List.getElem?_cons_succ, List.getElem_cons_zero, List.getElem_cons_succ, Option.getD_some, List.setIfInBounds_toArray, List.set_cons_zero, List.set_cons_succ])
        refine Reg.takeE 9 _ _ rfl (by kernel_rfl) (by kernel_rfl) (by kernel_rfl) (by decide) (fun _ _ _ h => by first | exact h | exact hP _ _ _ _ h) (by rfl) (fun W hW => by go_simp; with_reducible rfl) ?_; (try simp only [Act.put, Act.eval, List.getElem?_toArray, List.getElem_toArray, List.getElem?_cons_zero, List.getElem?_cons_succ, List.getElem_cons_zero, List.getElem_cons_succ, Option.getD_some, List.setIfInBounds_toArray, List.set_cons_zero, List.set_cons_succ])
        refine Reg.takeE 10 _ _ rfl (by kernel_rfl) (by kernel_rfl) (by kernel_rfl) (by decide) (fun _ _ _ h => by first | exact h | exact hP _ _ _ _ h) (by rfl) (fun W hW => by go_simp; with_reducible rfl) ?_; (try simp only [Act.put, Act.eval, List.getElem?_toArray, List.getElem_toArray, List.getElem?_cons_zero, List.getElem?_cons_succ, List.getElem_cons_zero, List.getElem_cons_succ, Option.getD_some, List.setIfInBounds_toArray, List.set_cons_zero, List.set_cons_succ])
        refine Reg.takeE 11 _ _ rfl (by kernel_rfl) (by kernel_rfl) (by kernel_rfl) (by decide) (fun _ _ _ h => by first | exact h | exact hP _ _ _ _ h) (by rfl) (fun W hW => by go_simp; with_reducible rfl) ?_; (try simp only [Act.put, Act.eval, List.getElem?_toArray, List.getElem_toArray, List.getElem?_cons_zero, List.getElem?_cons_succ, List.getElem_cons_zero, List.getElem_cons_succ, Option.getD_some, List.setIfInBounds_toArray, List.set_cons_zero, List.set_cons_succ])
        refine Reg.takeE 12 _ _ rfl (by kernel_rfl) (by kernel_rfl) (by kernel_rfl) (by decide) (fun _ _ _ h => by first | exact h | exact hP _ _ _ _ h) (by rfl) (fun W hW => by go_simp; with_reducible rfl) ?_; (try simp only [Act.put, Act.eval, List.getElem?_toArray, List.getElem_toArray, List.getElem?_cons_zero, List.getElem?_cons_succ, List.getElem_cons_zero, List.getElem_cons_succ, Option.getD_some, List.setIfInBounds_toArray, List.set_cons_zero, List.set_cons_succ])
        refine Reg.takeE 13 _ _ rfl (by kernel_rfl) (by kernel_rfl) (by kernel_rfl) (by decide) (fun _ _ _ h => by first | exact h | exact hP _ _ _ _ h) (by rfl) (fun W hW => by go_simp; with_reducible rfl) ?_; (try simp only [Act.put, Act.eval, List.getElem?_toArray, List.getElem_toArray, List.getElem?_cons_zero, List.getElem?_cons_succ, List.getElem_cons_zero, List.getElem_cons_succ, Option.getD_some, List.setIfInBounds_toArray, List.set_cons_zero, List.set_cons_succ])
        refine Reg.takeE 14 _ _ rfl (by kernel_rfl) (by kernel_rfl) (by kernel_rfl) (by decide) (fun _ _ _ h => by first | exact h | exact hP _ _ _ _ h) (by rfl) (fun W hW => by go_simp; with_reducible rfl) ?_; (try simp only [Act.put, Act.eval, List.getElem?_toArray, List.getElem_toArray, List.getElem?_cons_zero, List.getElem?_cons_succ, List.getElem_cons_zero, List.getElem_cons_succ, Option.getD_some, List.setIfInBounds_toArray, List.set_cons_zero, List.set_cons_succ])
        refine Reg.takeE 15 _ _ rfl (by kernel_rfl) (by kernel_rfl) (by kernel_rfl) (by decide) (fun _ _ _ h => by first | exact h | exact hP _ _ _ _ h) (by rfl) (fun W hW => by go_simp; with_reducible rfl) ?_; (try simp only [Act.put, Act.eval, List.getElem?_toArray, List.getElem_toArray, List.getElem?_cons_zero, List.getElem?_cons_succ, List.getElem_cons_zero, List.getElem_cons_succ, Option.getD_some, List.setIfInBounds_toArray, List.set_cons_zero, List.set_cons_succ])
        refine Reg.takeE 16 _ _ rfl (by kernel_rfl) (by kernel_rfl) (by kernel_rfl) (by decide) (fun _ _ _ h => by first | exact h | exact hP _ _ _ _ h) (by rfl) (fun W hW => by go_simp; with_reducible rfl) ?_; (try simp only [Act.put, Act.eval, List.getElem?_toArray, List.getElem_toArray, List.getElem?_cons_zero, List.getElem?_cons_succ, List.getElem_cons_zero, List.getElem_cons_succ, Option.getD_some, List.setIfInBounds_toArray, List.set_cons_zero, List.set_cons_succ])
        refine Reg.takeE 17 _ _ rfl (by kernel_rfl) (by kernel_rfl) (by kernel_rfl) (by decide) (fun _ _ _ h => by first | exact h | exact hP _ _ _ _ h) (by rfl) (fun W hW => by go_simp; with_reducible rfl) ?_; (try simp only [Act.put, Act.eval, List.getElem?_toArray, List.getElem_toArray, List.getElem?_cons_zero, List.getElem?_cons_succ, List.getElem_cons_zero, List.getElem_cons_succ, Option.getD_some, List.setIfInBounds_toArray, List.set_cons_zero, List.set_cons_succ])
        refine Reg.takeE 18 _ _ rfl (by kernel_rfl) (by kernel_rfl) (by kernel_rfl) (by decide) (fun _ _ _ h => by first | exact h | exact hP _ _ _ _ h) (by rfl) (fun W hW => by go_simp; with_reducible rfl) ?_; (try simp only [Act.put, Act.eval, List.getElem?_toArray, List.getElem_toArray, List.getElem?_cons_zero, List.getElem?_cons_succ, List.getElem_cons_zero, List.getElem_cons_succ, Option.getD_some, List.setIfInBounds_toArray, List.set_cons_zero, List.set_cons_succ])
        refine Reg.takeE 19 _ _ rfl (by kernel_rfl) (by kernel_rfl) (by kernel_rfl) (by decide) (fun _ _ _ h => by first | exact h | exact hP _ _ _ _ h) (by rfl) (fun W hW => by go_simp; with_reducible rfl) ?_; (try simp only [Act.put, Act.eval, List.getElem?_toArray, List.getElem_toArray, List.getElem?_cons_zero, List.getElem?_cons_succ, List.getElem_cons_zero, List.getElem_cons_succ, Option.getD_some, List.setIfInBounds_toArray, List.set_cons_zero, List.set_cons_succ])
        refine Reg.takeE 20 _ _ rfl (by kernel_rfl) (by kernel_rfl) (by kernel_rfl) (by decide) (fun _ _ _ h => by first | exact h | exact hP _ _ _ _ h) (by rfl) (fun W hW => by go_simp; with_reducible rfl) ?_; (try simp only [Act.put, Act.eval, List.getElem?_toArray, List.getElem_toArray, List.getElem?_cons_zero, List.getElem?_cons_succ, List.getElem_cons_zero, List.getElem_cons_succ, Option.getD_some, List.setIfInBounds_toArray, List.set_cons_zero, List.set_cons_succ])
        refine Reg.takeE 21 _ _ rfl (by kernel_rfl) (by kernel_rfl) (by kernel_rfl) (by decide) (fun _ _ _ h => by first | exact h | exact hP _ _ _ _ h) (by rfl) (fun W hW => by go_simp; with_reducible rfl) ?_; (try simp only [Act.put, Act.eval, List.getElem?_toArray, List.getElem_toArray, List.getElem?_cons_zero, List.getElem?_cons_succ, List.getElem_cons_zero, List.getElem_cons_succ, Option.getD_some, List.setIfInBounds_toArray, List.set_cons_zero, List.set_cons_succ])
        refine Reg.takeE 22 _ _ rfl (by kernel_rfl) (by kernel_rfl) (by kernel_rfl) (by decide) (fun _ _ _ h => by first | exact h | exact hP _ _ _ _ h) (by rfl) (fun W hW => by go_simp; with_reducible rfl) ?_; (try simp only [Act.put, Act.eval, List.getElem?_toArray, List.getElem_toArray, List.getElem?_cons_zero, List.getElem?_cons_succ, List.getElem_cons_zero, List.getElem_cons_succ, Option.getD_some, List.setIfInBounds_toArray, List.set_cons_zero, List.set_cons_succ])
        refine Reg.takeE 23 _ _ rfl (by kernel_rfl) (by kernel_rfl) (by kernel_rfl) (by decide) (fun _ _ _ h => by first | exact h | exact hP _ _ _ _ h) (by rfl) (fun W hW => by go_simp; with_reducible rfl) ?_; (try simp only [Act.put, Act.eval, List.getElem?_toArray, List.getElem_toArray, List.getElem?_cons_zero, List.getElem?_cons_succ, List.getElem_cons_zero, List.getElem_cons_succ, Option.getD_some, List.setIfInBounds_toArray, List.set_cons_zero, List.set_cons_succ])
        refine Reg.takeE 24 _ _ rfl (by kernel_rfl) (by kernel_rfl) (by kernel_rfl) (by decide) (fun _ _ _ h => by first | exact h | exact hP _ _ _ _ h) (by rfl) (fun W hW => by go_simp; with_reducible rfl) ?_; (try simp only [Act.put, Act.eval, List.getElem?_toArray, List.getElem_toArray, List.getElem?_cons_zero, List.getElem?_cons_succ, List.getElem_cons_zero, List.getElem_cons_succ, Option.getD_some, List.setIfInBounds_toArray, List.set_cons_zero, List.set_cons_succ])
        refine Reg.takeE 25 _ _ rfl (by kernel_rfl) (by kernel_rfl) (by kernel_rfl) (by decide) (fun _ _ _ h => by first | exact h | exact hP _ _ _ _ h) (by rfl) (fun W hW => by go_simp; with_reducible rfl) ?_; (try simp only [Act.put, Act.eval, List.getElem?_toArray, List.getElem_toArray, List.getElem?_cons_zero, List.getElem?_cons_succ, List.getElem_cons_zero, List.getElem_cons_succ, Option.getD_some, List.setIfInBounds_toArray, List.set_cons_zero, List.set_cons_succ])
        refine Reg.fin (by kernel_rfl) (fun W hW => ?_)
        go_wp2_with fail
        go_roundw
        case rel => exact ⟨i + 1, m + sa + sb + sc, by omega, by go_num, by go_num, hm2, by omega, hx.trans hW⟩
        case measure => simp [intOf]; omega
      · have hin' : (i : Int) < (n : Int) := by omega
        have hbig' : ¬ (m : Int) ≤ 3000 := by omega
        have hTf : decide (T ≤ 3000) = false := decide_eq_false (by omega)
        go_wp2_with fail
        go_ret
        exact ⟨by first | rfl | rw [hTf], hx1.trans hx⟩
    · obtain rfl : i = n := by omega
      have hmT2 : m = T := by rw [hm.out, ← hT.out, partsN, hn.out, List.take_of_length_le (by rw [List.length_map]; have := hn.out; omega)]
      subst hmT2
      have hnot : ¬ (i : Int) < (i : Int) := by omega
      by_cases hbig : m ≤ 3000
      · have hbig' : (m : Int) ≤ 3000 := by omega
        have hTf := decide_eq_true hbig
        go_wp2_with fail
        go_ret
        exact ⟨by first | rfl | rw [hTf], hx1.trans hx⟩
      · have hbig' : ¬ (m : Int) ≤ 3000 := by omega
        have hTf := decide_eq_false hbig
        go_wp2_with fail
        go_ret
        exact ⟨by first | rfl | rw [hTf], hx1.trans hx⟩
end Go.Proofs.YtejcacbbhijdcaaDoor.Pr
/- parse: how long a schema's text can become: plain. -/
namespace Go.Proofs.YtejcacbbhijdcaaDoor.Pr
open Lx
set_option linter.unusedVariables false

/-- what a node alone writes at most -/
def nodeW (d : Ne) : Nat := d.name.size + (d.syms.map fun s => s.size + 1).sum + d.items.length + (d.fields.map fun f => f.1.size + 3).sum + 40
def wsum (ns : List Ne) (k : Nat) : Nat := ((ns.take k).map nodeW).sum
theorem wsum_succ {ns : List Ne} {k : Nat} {d : Ne} (h : ns[k]? = some d) : wsum ns (k + 1) = wsum ns k + nodeW d := by
  unfold wsum
  rw [List.take_add_one, h, List.map_append, List.sum_append]
  simp
theorem wsum_mono (ns : List Ne) {a b : Nat} (h : a ≤ b) : wsum ns a ≤ wsum ns b := by
  induction b with
  | zero => obtain rfl : a = 0 := by omega
            exact Nat.le_refl _
  | succ b ih =>
    rcases Nat.eq_or_lt_of_le h with e | e
    · rw [e]; exact Nat.le_refl _
    · refine Nat.le_trans (ih (by omega)) ?_
      cases hd : ns[b]? with
      | some d => rw [wsum_succ hd]; omega
      | none => unfold wsum; rw [List.take_add_one, hd]; simp
theorem bs_len (t : ByteArray) : (bs t).length = t.size := size_list t
/-- how a text may grow -/
structure Gr (ns : List Ne) (B c : Nat) (st st' : WSt) : Prop where
  up : st.next ≤ st'.next
  top : st'.next ≤ ns.length
  len : max st'.s.length B + wsum ns st.next ≤ max st.s.length B + c + wsum ns st'.next
section
variable {ns : List Ne} {B : Nat}
theorem Gr.trans {c1 c2 : Nat} {a b d : WSt} (h : Gr ns B c1 a b) (k : Gr ns B c2 b d) : Gr ns B (c1 + c2) a d := ⟨Nat.le_trans h.up k.up, k.top, by have := h.len; have := k.len; omega⟩
theorem Gr.le {c1 c2 : Nat} {a b : WSt} (h : Gr ns B c1 a b) (k : c1 ≤ c2) : Gr ns B c2 a b := ⟨h.up, h.top, by have := h.len; omega⟩
theorem Gr.put {st : WSt} (h : st.next ≤ ns.length) (t : List UInt8) : Gr ns B t.length st (st.put t) := ⟨Nat.le_refl _, h, by rw [WSt.put_len]; show _ + wsum ns st.next ≤ _ + wsum ns st.next; omega⟩
def GT (ns : List Ne) (B : Nat) (T : WT) : Prop := ∀ n st, st.next ≤ ns.length → Gr ns B 0 st (T n st)
theorem wlist_gr {T : WT} (h : GT ns B T) : ∀ (b : Bool) (l : List Int) (st : WSt), st.next ≤ ns.length → Gr ns B l.length st (wlist T b l st)
  | _, [], st, hn => ⟨Nat.le_refl _, hn, by rw [wlist]; omega⟩
  | b, n :: l, st, hn => by
    rw [wlist]
    have h1 : Gr ns B 1 st (if b then st else st.put [124]) := by
      split
      · exact ⟨Nat.le_refl _, hn, by omega⟩
      · exact Gr.put hn [124]
    have h2 := h n _ h1.top
    exact ((h1.trans h2).trans (wlist_gr h false l _ h2.top)).le (by simp only [List.length_cons]; omega)
theorem witems_gr {T : WT} (h : GT ns B T) (op : List UInt8) (l : List Int) (sh : List UInt8) (st : WSt) (hn : st.next ≤ ns.length) : Gr ns B (op.length + l.length + sh.length) st (witems T op l sh st) := by
  unfold witems
  have h1 := Gr.put (B := B) hn op
  have h2 := wlist_gr h true l _ h1.top
  exact (h1.trans h2).trans (Gr.put h2.top sh)
theorem wfield_gr {T : WT} (h : GT ns B T) (f : ByteArray × Bool × Int) (st : WSt) (hn : st.next ≤ ns.length) : Gr ns B (f.1.size + 3) st (wfield T f st) := by
  unfold wfield
  have h1 := Gr.put (B := B) hn (bs f.1)
  have h2 : Gr ns B (f.1.size + 1) st (if f.2.1 then (st.put (bs f.1)).put [63] else st.put (bs f.1)) := by
    split
    · exact (h1.trans (Gr.put h1.top [63])).le (by rw [bs_len]; simp)
    · exact h1.le (by rw [bs_len]; omega)
  have h3 := h2.trans (Gr.put h2.top [58])
  have h4 := h3.trans (h f.2.2 _ h3.top)
  exact (h4.trans (Gr.put h4.top [59])).le (by simp only [List.length_cons, List.length_nil]; omega)
theorem wflds_gr {T : WT} (h : GT ns B T) : ∀ (l : List (ByteArray × Bool × Int)) (st : WSt), st.next ≤ ns.length → Gr ns B (l.map fun f => f.1.size + 3).sum st (wflds T l st)
  | [], st, hn => ⟨Nat.le_refl _, hn, by rw [wflds]; omega⟩
  | f :: l, st, hn => by
    rw [wflds]
    have h1 := wfield_gr h f st hn
    exact (h1.trans (wflds_gr h l _ h1.top)).le (by simp)
theorem inter_le (l : List ByteArray) : (([44] : List UInt8).intercalate (l.map bs)).length ≤ (l.map fun s => s.size + 1).sum := by
  induction l with
  | nil => simp
  | cons x l ih =>
    cases l with
    | nil =>
      have : bs x = x.data.toList := rfl
      simp [List.intercalate, bs_len]
    | cons y l =>
      have e : ([44] : List UInt8).intercalate ((x :: y :: l).map bs) = bs x ++ [44] ++ ([44] : List UInt8).intercalate ((y :: l).map bs) := by simp [List.intercalate]
      rw [e]
      have e2 : ((x :: y :: l).map fun s => s.size + 1).sum = (x.size + 1) + ((y :: l).map fun s => s.size + 1).sum := by rw [List.map_cons, List.sum_cons]
      rw [e2]
      simp only [List.length_append, bs_len, List.length_cons, List.length_nil] at ih ⊢
      omega
theorem wbody_gr {T : WT} (h : GT ns B T) (x : Ne) (st : WSt) (hn : st.next ≤ ns.length) (hz : -9223372036854775808 ≤ x.size ∧ x.size ≤ 9223372036854775807) : Gr ns B (nodeW x) st (wbody T x st) := by
  unfold wbody
  have hi : ∀ (a b : UInt8), Gr ns B (nodeW x) st (witems T [a] x.items [b] st) := fun a b => (witems_gr h _ _ _ st hn).le (by unfold nodeW; simp only [List.length_cons, List.length_nil]; omega)
  split
  · exact hi _ _
  · split
    · exact hi _ _
    · split
      · exact hi _ _
      · split
        · refine (Gr.put hn _).le ?_
          have := inter_le x.syms
          unfold nodeW
          simp only [List.length_append, bs_len, sEn, List.length_cons, List.length_nil]
          omega
        · split
          · refine (Gr.put hn _).le ?_
            have := Lib.itoa_length_le x.size hz.1 hz.2
            unfold nodeW
            simp only [List.length_append, bs_len, sFix, List.length_cons, List.length_nil]
            omega
          · split
            · unfold wrecord
              have h1 := Gr.put (B := B) hn (sRec ++ bs x.name ++ [123])
              have h2 := h1.trans (wflds_gr h x.fields _ h1.top)
              refine (h2.trans (Gr.put h2.top [125])).le ?_
              unfold nodeW
              simp only [List.length_append, bs_len, sRec, List.length_cons, List.length_nil]
              omega
            · split
              · exact ⟨Nat.le_refl _, hn, by show max st.s.length B + wsum ns st.next ≤ max st.s.length B + nodeW x + wsum ns st.next; omega⟩
              · refine (Gr.put hn _).le ?_
                next h1 h2 h3 h4 h5 h6 h7 =>
                have hk : x.k.toNat < 12 := by omega
                have : ∀ k, k < 12 → (bs (wordsL.getD k ⟨#[]⟩)).length ≤ 6 := by decide
                have := this _ hk
                unfold nodeW
                omega
theorem wtyp_gr (hB : ∀ d ∈ ns, 4096 + d.name.size ≤ B) (hz : ∀ d ∈ ns, -9223372036854775808 ≤ d.size ∧ d.size ≤ 9223372036854775807) : ∀ f, GT ns B (wtyp ns f)
  | 0, n, st, hn => ⟨Nat.le_refl _, hn, by rw [wtyp]; simp⟩
  | f + 1, n, st, hn => by
    rw [wtyp]
    split
    · exact ⟨Nat.le_refl _, hn, by simp⟩
    · next hs =>
      unfold wstop at hs
      simp only [not_or, Int.not_lt, Int.not_le, Nat.not_lt] at hs
      obtain ⟨h1, h2, h3, h4, h5, h6⟩ := hs
      obtain ⟨m, rfl⟩ : ∃ m : Nat, n = m := ⟨n.toNat, by omega⟩
      have hm : m < ns.length := by omega
      have hg : ns.getD m neD = ns[m] := by rw [List.getD, List.getElem?_eq_getElem hm]; rfl
      have hmem : ns[m] ∈ ns := List.getElem_mem hm
      rw [Int.toNat_natCast, hg]
      split
      · refine ⟨Nat.le_refl _, hn, ?_⟩
        show max (st.put _).s.length B + wsum ns st.next ≤ max st.s.length B + 0 + wsum ns st.next
        rw [WSt.put_len, bs_len]
        have := hB _ hmem
        omega
      · next hlt =>
        obtain rfl : m = st.next := by omega
        have hb := wbody_gr (wtyp_gr hB hz f) ns[st.next] { st with next := st.next + 1 } (by show st.next + 1 ≤ _; omega) (hz _ hmem)
        have e := wsum_succ (ns := ns) (k := st.next) (List.getElem?_eq_getElem hm)
        refine ⟨by have := hb.up; simp only at this; omega, hb.top, ?_⟩
        have := hb.len
        simp only at this
        rw [e] at this
        omega
end
theorem sum_mem (l : List Nat) (x : Nat) (h : x ∈ l) : x ≤ l.sum := by
  induction l with
  | nil => cases h
  | cons y l ih =>
    rcases List.mem_cons.1 h with e | e
    · subst e; simp
    · have := ih e; simp; omega
theorem nodeW_le (d : Ne) : nodeW d ≤ 40 * Args.nodeB d := by
  have h1 : (d.fields.map fun f => f.1.size + 3).sum ≤ (d.fields.map Args.fldB).sum := by
    generalize d.fields = l
    induction l with
    | nil => simp
    | cons f l ih => simp only [List.map_cons, List.sum_cons, Args.fldB]; omega
  unfold nodeW Args.nodeB
  omega
theorem sum_nodeW (l : List Ne) : (l.map nodeW).sum ≤ 40 * (l.map Args.nodeB).sum := by
  induction l with
  | nil => simp
  | cons d l ih => have := nodeW_le d; simp only [List.map_cons, List.sum_cons]; omega
/-- a schema of bounded bulk has a text of bounded length -/
theorem show_bound {ns : List Ne} (hb : Args.schB ns ≤ 1048576) (hz : ∀ d ∈ ns, -9223372036854775808 ≤ d.size ∧ d.size ≤ 9223372036854775807) : showLen ns ≤ 100000000 := by
  have hM : ∀ d ∈ ns, 4096 + d.name.size ≤ 2000000 := fun d hd => by
    have := sum_mem (ns.map Args.nodeB) (Args.nodeB d) (List.mem_map_of_mem hd)
    unfold Args.schB at hb
    have : d.name.size ≤ Args.nodeB d := by unfold Args.nodeB; omega
    omega
  have h := wtyp_gr hM hz 20 0 ⟨[], 0, false⟩ (Nat.zero_le _)
  have h1 := h.len
  have h2 := wsum_mono ns h.top
  have h3 : wsum ns ns.length ≤ 40 * Args.schB ns := by
    unfold wsum Args.schB
    rw [List.take_length]
    exact sum_nodeW ns
  show (wtyp ns 20 0 ⟨[], 0, false⟩).s.length ≤ _
  have h4 : ([] : List UInt8).length = 0 := rfl
  simp only [List.length_nil] at h1
  omega
theorem sch_lens {ns : List Ne} (hb : Args.schB ns ≤ 1048576) : ns.length ≤ 1000000 ∧ ∀ d ∈ ns, d.syms.length ≤ 1048576 ∧ d.items.length ≤ 1048576 ∧ d.fields.length ≤ 1048576 ∧ d.syms.length + d.items.length + d.fields.length ≤ 1048576 := by
  have h1 : ∀ l : List Ne, 7 * l.length ≤ (l.map Args.nodeB).sum := by
    intro l
    induction l with
    | nil => simp
    | cons d l ih => simp only [List.map_cons, List.sum_cons, List.length_cons, Args.nodeB]; omega
  refine ⟨by have := h1 ns; unfold Args.schB at hb; omega, fun d hd => ?_⟩
  have h2 := sum_mem (ns.map Args.nodeB) (Args.nodeB d) (List.mem_map_of_mem hd)
  unfold Args.schB at hb
  have h3 : d.syms.length ≤ (d.syms.map fun s => s.size + 1).sum := by
    generalize d.syms = l
    induction l with
    | nil => simp
    | cons f l ih => simp only [List.map_cons, List.sum_cons, List.length_cons]; omega
  have h4 : d.fields.length ≤ (d.fields.map Args.fldB).sum := by
    generalize d.fields = l
    induction l with
    | nil => simp
    | cons f l ih => simp only [List.map_cons, List.sum_cons, List.length_cons, Args.fldB]; omega
  have : d.syms.length + d.items.length + d.fields.length ≤ Args.nodeB d := by unfold Args.nodeB; omega
  omega
/-- two schemas that have texts are the same just if these are -/
theorem show_inj {a b : List Ne} {s t : List UInt8} (h : showP a = some s) (k : showP b = some t) : s = t ↔ a = b := by
  have q : ∀ {a : List Ne} {s : List UInt8}, showP a = some s → (parseP ⟨s.toArray⟩).1.map Nd.toE = a := by
    intro a s h
    unfold showP at h
    simp only at h
    split at h
    · cases h
    · split at h
      · cases h
      · next hn =>
        injection h with h
        subst h
        simp only [not_or, ne_eq, Decidable.not_not] at hn
        exact hn.2
  constructor
  · intro e
    rw [← q h, ← q k, e]
  · intro e
    rw [e, k] at h
    injection h with h
    exact h.symm
end Go.Proofs.YtejcacbbhijdcaaDoor.Pr
/- parse: two schemas of one text. -/
namespace Go.Proofs.YtejcacbbhijdcaaDoor.Pr
open Go.ChangeShapes Go.WideShapes Go.ChangeAt Go.RowKit
open Base Lx Mi
set_option linter.unusedVariables false
set_option linter.unusedSimpArgs false

theorem sch_rng {B : Nat} {w : World} {v : Value} {ns : List Ne} (h : Sch B w v ns) : ∀ d ∈ ns, -9223372036854775808 ≤ d.size ∧ d.size ≤ 9223372036854775807 := by
  intro d hd
  obtain ⟨vs, h1, h2, h3⟩ := h
  obtain ⟨i, hi, rfl⟩ := List.mem_iff_getElem.1 hd
  exact (h3 i _ _ (List.getElem?_eq_getElem hi) (List.getElem?_eq_getElem (by rw [h1]; exact hi))).rng
theorem beq_texts (s t : List UInt8) : ((⟨s.toArray⟩ : ByteArray).toList == (⟨t.toArray⟩ : ByteArray).toList) = decide (s = t) := by
  rw [str_beq]
  by_cases h : s = t
  · subst h; simp
  · rw [decide_eq_false h, decide_eq_false]
    intro e
    injection e with e
    exact h (by simpa using congrArg Array.toList e)
set_option maxRecDepth 100000 in
set_option maxHeartbeats 2000000 in
theorem parseApart_any (u1 u2 : Value) (n1 n2 : List Ne) (w : World) (h1 : Sch w.heap.size w u1 n1) (h2 : Sch w.heap.size w u2 n2) (hb1 : Args.schB n1 ≤ 1048576) (hb2 : Args.schB n2 ≤ 1048576) (hwd : Wd w) (hpow : Pow w) :
    Calls Tryd.prog 4 #[.agg #[u1], .agg #[u2]] w fun e w' => e = .returned (.bool true) ∧ Ext w w' := by
  obtain ⟨l1, d1⟩ := sch_lens hb1
  obtain ⟨l2, d2⟩ := sch_lens hb2
  have L1 := show_bound hb1 (sch_rng h1)
  have L2 := show_bound hb2 (sch_rng h2)
  have hinj : ∀ s t, showP n1 = some s → showP n2 = some t → (s = t ↔ n1 = n2) := fun s t => show_inj
  obtain ⟨A1, c1, rfl⟩ := h1.slice
  obtain ⟨A2, c2, rfl⟩ := h2.slice
  obtain ⟨k1, hk1⟩ : ∃ z, Hid (n1.length = z) := ⟨_, Lib.hid rfl⟩
  obtain ⟨k2, hk2⟩ : ∃ z, Hid (n2.length = z) := ⟨_, Lib.hid rfl⟩
  rw [hk1.out] at h1 ⊢
  rw [hk2.out] at h2 ⊢
  obtain ⟨q, hq⟩ : ∃ z, Hid (w.heap.size = z) := ⟨_, rfl⟩
  obtain ⟨w1, hw1⟩ : ∃ z, Hid ((w.alloc (.cells #[.slice A1 k1 c1] 24)).alloc (.cells #[.slice A2 k2 c2] 24) = z) := ⟨_, rfl⟩
  have hx1 : Ext w w1 := by rw [← hw1.out]; exact ((Ext.refl w).alloc _).alloc _
  have hbA : Blk w1 q #[.slice A1 k1 c1] 24 := by rw [← hw1.out, ← hq.out]; exact (Blk.new w _ _).alloc _
  have hbB : Blk w1 (q + 1) #[.slice A2 k2 c2] 24 := by
    rw [← hw1.out, ← hq.out]
    have := Blk.new (w.alloc (.cells #[.slice A1 k1 c1] 24)) #[.slice A2 k2 c2] 24
    simpa using this
  have S1 : ∀ W, Ext w1 W → Sch W.heap.size W (.slice A1 k1 c1) n1 := fun W hW => (h1.below (hx1.trans hW)).mono (hx1.trans hW).size
  have S2 : ∀ W, Ext w1 W → Sch W.heap.size W (.slice A2 k2 c2) n2 := fun W hW => (h2.below (hx1.trans hW)).mono (hx1.trans hW).size
  have cA : ∀ W, Ext w1 W → W.cell? ⟨q, 0, none⟩ = some (.slice A1 k1 c1) := fun W hW => (hbA.ext hW).cell 0
  have cB : ∀ W, Ext w1 W → W.cell? ⟨q + 1, 0, none⟩ = some (.slice A2 k2 c2) := fun W hW => (hbB.ext hW).cell 0
  have hs1 := small_any (S1 w1 (Ext.refl _)) (Nat.le_refl _) (by omega) (fun d hd => by have := (d1 d hd).2.2.2; unfold nodeP; omega)
  have hs2 := fun W hW => small_any (S2 W hW) (Nat.le_refl _) (by omega) (fun d hd => by have := (d2 d hd).2.2.2; unfold nodeP; omega)
  have hli := fun W (hW : Ext w1 W) => lives_any W (hwd.ext (hx1.trans hW)) (hpow.ext (hx1.trans hW))
  obtain ⟨m1, hm1⟩ : ∃ z, Hid (decide (partsN n1 ≤ 3000) = z) := ⟨_, Lib.hid rfl⟩
  obtain ⟨m2, hm2⟩ : ∃ z, Hid (decide (partsN n2 ≤ 3000) = z) := ⟨_, Lib.hid rfl⟩
  rw [hm1.out] at hs1
  simp only [hm2.out] at hs2
  have g1 := cA w1 (Ext.refl _)
  clear d1 d2 hb1 hb2 l1 l2
  go_enter Tryd.func4, Tryd.ntmps4
  go_wp2_with fail
  rw [hw1.out, hq.out]
  refine hs1.mono ?_
  rintro e w2 ⟨rfl, hx2⟩
  have b2 := cB w2 hx2
  have a2 := cA w2 hx2
  have hs2' := hs2 w2 hx2
  have hli2 := hli w2 hx2
  cases m1 with
  | false =>
    go_wp2_with fail
    refine hli2.mono ?_
    rintro e w3 ⟨rfl, hx3⟩
    go_wp2_with fail
    go_ret
    exact ⟨rfl, (hx1.trans hx2).trans hx3⟩
  | true =>
    go_wp2_with fail
    refine hs2'.mono ?_
    rintro e w3 ⟨rfl, hx3⟩
    have hx13 := hx2.trans hx3
    have a3 := cA w3 hx13
    have hli3 := hli w3 hx13
    have hsh := show_any _ _ w3 (S1 w3 hx13) (hwd.ext (hx1.trans hx13)) (hpow.ext (hx1.trans hx13)) L1
    cases m2 with
    | false =>
      go_wp2_with fail
      refine hli3.mono ?_
      rintro e w4 ⟨rfl, hx4⟩
      go_wp2_with fail
      go_ret
      exact ⟨rfl, (hx1.trans hx13).trans hx4⟩
    | true =>
      go_wp2_with fail
      refine hsh.mono ?_
      rintro e w4 ⟨rfl, hx4⟩
      have hx14 := hx13.trans hx4
      have b4 := cB w4 hx14
      have hsh2 := show_any _ _ w4 (S2 w4 hx14) (hwd.ext (hx1.trans hx14)) (hpow.ext (hx1.trans hx14)) L2
      obtain ⟨o1, ho1⟩ : ∃ z, Hid (showP n1 = z) := ⟨_, Lib.hid rfl⟩
      obtain ⟨o2, ho2⟩ : ∃ z, Hid (showP n2 = z) := ⟨_, Lib.hid rfl⟩
      rw [ho1.out]
      rw [ho2.out] at hsh2
      rw [ho1.out, ho2.out] at hinj
      cases o1 with
      | none =>
        rw [show shV none = Value.tuple #[.string ⟨#[]⟩, .int .i64 1] from rfl]
        clear hsh hinj
        cases o2 with
        | none =>
          go_wp2_with fail
          refine hsh2.mono ?_
          rintro e w5 ⟨rfl, hx5⟩
          rw [show shV none = Value.tuple #[.string ⟨#[]⟩, .int .i64 1] from rfl]
          have hli5 := hli w5 (hx14.trans hx5)
          go_wp2_with fail
          refine hli5.mono ?_
          rintro e w6 ⟨rfl, hx6⟩
          go_wp2_with fail
          go_ret
          exact ⟨rfl, (hx1.trans (hx14.trans hx5)).trans hx6⟩
        | some t =>
          go_wp2_with fail
          refine hsh2.mono ?_
          rintro e w5 ⟨rfl, hx5⟩
          rw [show shV (some t) = Value.tuple #[.string ⟨t.toArray⟩, .int .i64 0] from rfl]
          have hli5 := hli w5 (hx14.trans hx5)
          go_wp2_with fail
          refine hli5.mono ?_
          rintro e w6 ⟨rfl, hx6⟩
          go_wp2_with fail
          go_ret
          exact ⟨rfl, (hx1.trans (hx14.trans hx5)).trans hx6⟩
      | some s =>
        rw [show shV (some s) = Value.tuple #[.string ⟨s.toArray⟩, .int .i64 0] from rfl]
        cases o2 with
        | none =>
          clear hsh hinj
          obtain ⟨sa, hsa⟩ : ∃ z, Hid (s.toArray = z) := ⟨_, Lib.hid rfl⟩
          rw [hsa.out]
          go_wp2_with fail
          refine hsh2.mono ?_
          rintro e w5 ⟨rfl, hx5⟩
          rw [show shV none = Value.tuple #[.string ⟨#[]⟩, .int .i64 1] from rfl]
          have hli5 := hli w5 (hx14.trans hx5)
          go_wp2_with fail
          refine hli5.mono ?_
          rintro e w6 ⟨rfl, hx6⟩
          go_wp2_with fail
          go_ret
          exact ⟨rfl, (hx1.trans (hx14.trans hx5)).trans hx6⟩
        | some t =>
          have hiff := hinj s t rfl rfl
          have hbt := beq_texts s t
          rw [show decide (s = t) = decide (n1 = n2) by by_cases h : s = t <;> simp [h, hiff.symm]] at hbt
          obtain ⟨sa, hsa⟩ : ∃ z, Hid (s.toArray = z) := ⟨_, Lib.hid rfl⟩
          obtain ⟨ta, hta⟩ : ∃ z, Hid (t.toArray = z) := ⟨_, Lib.hid rfl⟩
          rw [hsa.out, hta.out] at hbt
          rw [hsa.out]
          clear hsh hinj hiff
          go_wp2_with fail
          refine hsh2.mono ?_
          rintro e w5 ⟨rfl, hx5⟩
          rw [show shV (some t) = Value.tuple #[.string ⟨t.toArray⟩, .int .i64 0] from rfl, hta.out]
          have hx15 := hx14.trans hx5
          have hsm := rsame_any (S1 w5 hx15) (S2 w5 hx15) (Nat.le_refl _)
          have a5 := cA w5 hx15
          have b5 := cB w5 hx15
          obtain ⟨R, hR⟩ : ∃ z, Hid (decide (n1 = n2) = z) := ⟨_, Lib.hid rfl⟩
          rw [hR.out] at hbt hsm
          have hRR : (R == R) = true := by simp
          go_wp2_with fail
          refine hsm.mono ?_
          rintro e w6 ⟨rfl, hx6⟩
          have hli6 := hli w6 (hx15.trans hx6)
          go_wp2_with fail
          refine hli6.mono ?_
          rintro e w7 ⟨rfl, hx7⟩
          go_wp2_with fail
          go_ret
          exact ⟨rfl, (hx1.trans (hx15.trans hx6)).trans hx7⟩
end Go.Proofs.YtejcacbbhijdcaaDoor.Pr
namespace Go.Proofs.YtejcacbbhijdcaaDoor.parseApartUpto
open Go.ChangeShapes Go.WideShapes Go.ChangeAt Go.RowKit
open Go.ChangeMaps (open_string shut_string)
open Base Args
set_option linter.unusedVariables false
set_option linter.unusedSimpArgs false

theorem own : ownKnob Tryd.prog.godebug = none := by kernel_rfl
theorem laidOut : laidOutB Tryd.prog = true := by kernel_rfl

theorem laid_met (os : Os) : laidMet Tryd.prog Rows.parseApartUptoRow.laid ((Pr.laidWorld os).forCall (fun _ _ => 0) ⟨#[], #[.agg #[.slice none 0 0], .agg #[.slice none 0 0]], []⟩).memory :=
  laidMet_of_run' 8 (by kernel_rfl) (by kernel_rfl)
theorem reads (os : Os) {H : Type} (enc : TypeId × Value → H) : ∃ places, DataW.whole enc Tryd.prog ((Pr.laidWorld os).forCall (fun _ _ => 0) ⟨#[], #[.agg #[.slice none 0 0], .agg #[.slice none 0 0]], []⟩).memory Tryd.f4.params.toList Rows.parseApartSpec.vars false (#[.agg #[.slice none 0 0], .agg #[.slice none 0 0]] : Array Value).toList 8 = some ([.agg [.nil], .agg [.nil]], [], places) :=
  ⟨[], by kernel_rfl⟩

set_option maxRecDepth 100000 in
theorem lifted (os : Os) (started : os.Started) (H : Type) (enc : TypeId × Value → H) (F : Stop.Interp) :
    ReturnsInHanded {} Tryd.checked os 4 .any ((Rows.OpenSpec.upto Rows.parseApartSpec).preRow enc Tryd.prog Tryd.f4 Rows.parseApartUptoRow.domain false Rows.parseApartUptoRow.laid) (((Rows.OpenSpec.upto Rows.parseApartSpec).at F).post enc Tryd.prog Tryd.f4 false true false false) := by
  obtain ⟨places, hx⟩ := reads os enc
  refine returnsInHanded_of_row (C := Tryd.checked) (s := (Rows.OpenSpec.upto Rows.parseApartSpec)) own started (by kernel_rfl) Tryd.func4
    (witness_row_at (enc := enc) (C := Tryd.checked) false (Pr.laidWorld os) #[.agg #[.slice none 0 0], .agg #[.slice none 0 0]] rfl (by kernel_rfl) (by kernel_rfl) (by kernel_rfl)
      (OpenSpec.preRow_of_cond 8 hx (by kernel_rfl) (fun k hk => by cases hk; kernel_rfl) (by kernel_rfl) (laid_met os))) ?_
  intro W base args ds gs before hval0 hW hcnd hk0 hsz0 hL _ _
  have hk := hk0 _ rfl
  have hval : ∀ (j : Nat) t v, Tryd.f4.params[j]? = some t → args[j]? = some v → Value.okWide Tryd.prog W .any base t v := hval0
  have hW' := hW
  obtain ⟨p, q, hAz, hV, rfl, hfz, hnd⟩ := hW
  have hA : DataW.TrodAll enc Tryd.prog W 0 (fun _ => true) true Tryd.f4.params.toList args.toList ds p := hAz
  rw [Tryd.params4] at hA hval
  obtain ⟨v0, vs0, d0, ds0, p0, q0, hargs, rfl, rfl, h0, r0⟩ := trodAll_cons hA
  obtain ⟨v1, vs1, d1, ds1, p1, q1, rfl, rfl, rfl, h1, r1⟩ := trodAll_cons r0
  obtain ⟨rfl, rfl, rfl⟩ := trodAll_nil r1
  obtain rfl : args = #[v0, v1] := by cases args; simp_all
  obtain ⟨rfl, rfl⟩ := trodVars_none hV
  have hbulk := bulk_le hk
  have k0 := h0
  have lt0 : ∀ x ∈ p0, x.block < W.heap.size := by obtain ⟨m, hm⟩ := k0; exact DataW.trod_lt m _ _ _ hm
  obtain ⟨u0, n0, rfl, hS0, hB0⟩ := sch_arg (hval 0 24 v0 rfl rfl) h0
  have hz0 : schB n0 ≤ 1048576 := Nat.le_trans hB0 (bulk_at hbulk (j := 0) rfl)
  have k1 := h1
  have lt1 : ∀ x ∈ p1, x.block < W.heap.size := by obtain ⟨m, hm⟩ := k1; exact DataW.trod_lt m _ _ _ hm
  obtain ⟨u1, n1, rfl, hS1, hB1⟩ := sch_arg (hval 1 24 v1 rfl rfl) h1
  have hz1 : schB n1 ≤ 1048576 := Nat.le_trans hB1 (bulk_at hbulk (j := 1) rfl)
  clear hAz hval0
  refine (Pr.parseApart_any u0 u1 n0 n1 W hS0 hS1 hz0 hz1 (Pr.tabs hL).1 (Pr.tabs hL).2).mono fun e W' ⟨he, bel⟩ => ?_
  have bel : Below W.heap.size W W' := bel
  subst he
  exact ⟨_, rfl, _, _, _, [], _, [], hW', trodAll_mk1 (shut_bool Tryd.underlying4 _), (trodAll_cons_mk (Below.trod laidOut (by kernel_rfl) (of_decide_eq_true (by kernel_rfl)) k0 bel lt0) (trodAll_cons_mk (Below.trod laidOut (by kernel_rfl) (of_decide_eq_true (by kernel_rfl)) k1 bel lt1) trodAll_mk0)), rfl, bel.frame _, fun h => by cases h⟩

theorem said : Rows.ParseApartUptoSaid :=
  OpenClaim.holds_of_cond 4 Tryd.f4 rfl rfl rfl rfl rfl rfl rfl ⟨rfl, rfl, rfl, rfl, rfl⟩ rfl rfl rfl rfl rfl (by kernel_rfl) Tryd.func4 (by kernel_rfl)
    (of_decide_eq_true (by kernel_rfl)) (by unfold Func.isWrapper; first | (rw [if_pos (by decide +kernel)]; kernel_rfl) | (rw [if_neg (by decide +kernel)]; exact ⟨rfl, rfl⟩))
    (fun os started H enc _ F => by rw [OpenClaim.pre_eq_preRow]; exact lifted os started H enc F)

theorem plain (f : FuncId) (fn : Func) (hf : Tryd.pinned.checked.prog.funcNamed "suffragan/suffraganlaw07.ParseApart" = some f) (hfn : Tryd.pinned.checked.prog.funcs[f]? = some fn) :
    true = Tryd.pinned.checked.prog.looks [] ∧ ∀ (j : Nat) t, fn.params[j]? = some t → Tryd.pinned.checked.prog.wantsStandIn t = false := by
  obtain rfl : f = 4 := Option.some.inj ((show Tryd.prog.funcNamed "suffragan/suffraganlaw07.ParseApart" = some 4 by kernel_rfl).symm.trans hf) |>.symm
  obtain rfl : fn = Tryd.f4 := (Option.some.inj (Tryd.func4.symm.trans hfn)).symm
  refine ⟨by kernel_rfl, fun j t ht => ?_⟩
  rw [Tryd.params4] at ht
  have hm := Array.mem_of_getElem? ht
  simp only [Array.mem_def, List.mem_cons, List.mem_nil_iff, or_false, or_self] at hm
  subst hm
  exact (show Tryd.prog.wantsStandIn 24 = false by kernel_rfl)

theorem proved : Rows.ParseApartUptoCardSaid :=
  Claim7.holds_tied_plain_at .later [] _ _ _ _ said (fun _ h => by cases h) (by kernel_rfl) (fun _ h => by cases h) parseApartUpto_row_tie rfl ⟨rfl, rfl⟩ (by kernel_rfl) rfl plain (by kernel_rfl)
#print axioms proved
end Go.Proofs.YtejcacbbhijdcaaDoor.parseApartUpto
