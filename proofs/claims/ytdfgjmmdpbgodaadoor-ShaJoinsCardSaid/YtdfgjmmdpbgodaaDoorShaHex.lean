/- sha: strings.Builder, walked. -/
import Derived.Test.YtdfgjmmdpbgodaaDoorShaApi
import Derived.Lib.Builder
import Derived.Lib.UnsafeStr
namespace Go.Proofs.YtdfgjmmdpbgodaaDoor.ShaW
open Go.ChangeShapes Go.WideShapes Go.ChangeAt Go.RowKit
open ShaP Base
set_option linter.unusedVariables false
set_option linter.unusedSimpArgs false

/-- a builder of ours that holds bs -/
def BInv (w0 w : World) (b : Nat) (bs : List UInt8) : Prop :=
  ∃ p v, (p = none ∨ p = some (⟨b, 0, none⟩ : Addr)) ∧ Blk w b #[.pointer p, v] 51 ∧ w.ownsRow w0.heap.size 5 1 v bs.length (u8s bs) ∧ w0.heap.size ≤ b ∧ Ext w0 w
theorem check_any (w0 w : World) (b : Nat) (v : Value) (p : Option Addr) (hp : p = none ∨ p = some (⟨b, 0, none⟩ : Addr)) (hb : Blk w b #[.pointer p, v] 51) :
    Calls Tryd.prog 25 #[.pointer (some ⟨b, 0, none⟩)] w fun e w' => e = .returned (.tuple #[]) ∧ w' = (if p = none then w.setCell ⟨b, 0, none⟩ (.pointer (some ⟨b, 0, none⟩)) else w) := by
  have c0 := hb.cell 0
  have f0 := hb.frozen 0
  rcases hp with rfl | rfl
  · have c0 : w.cell? ⟨b, 0, none⟩ = some (.pointer none) := c0
    have hsh : w.shape? b = some (51, 2) := by simp [World.shape?, show w.heap[b]? = _ from hb]
    obtain ⟨j, hj, hjs⟩ := Option.map_eq_some_iff.1 (show (Tryd.prog.info? 51).map (·.size) = some 2 by kernel_rfl)
    have k1 := Lib.run_to_unsafe (P := Tryd.prog) (w := w) (src := 49) (dst := 59) ⟨b, 0, none⟩ Tryd.underlying49 Tryd.underlying59 hj (by rw [hjs]; decide) hsh (Nat.zero_lt_succ 1)
    have k2 := @run_callFunc_extern Tryd.prog 27 _ Extern.AbiNoEscape.same Tryd.func27 (by kernel_rfl) (by kernel_rfl) (by kernel_rfl) (by kernel_rfl)
    have k3 := Lib.run_noEscape (P := Tryd.prog) (w := w) (.pointer (some ⟨b, 0, none⟩))
    have k4 := Lib.run_from_unsafe (P := Tryd.prog) (w := w) (src := 59) (dst := 49) ⟨b, 0, none⟩ Tryd.underlying59 Tryd.underlying49 hj hsh (by kernel_rfl)
    go_enter Tryd.func25, Tryd.ntmps25
    go_wp2_with fail
    go_end0
    exact ⟨rfl, rfl⟩
  · have c0 : w.cell? ⟨b, 0, none⟩ = some (.pointer (some ⟨b, 0, none⟩)) := c0
    obtain ⟨j, hj, _⟩ := Option.map_eq_some_iff.1 (show (Tryd.prog.info? 51).map (·.size) = some 2 by kernel_rfl)
    have k5 := Lib.run_neq_ptr_same (P := Tryd.prog) w ⟨b, 0, none⟩ Tryd.underlying49 hj
    go_enter Tryd.func25, Tryd.ntmps25
    go_wp2_with fail
    go_end0
    exact ⟨rfl, rfl⟩
theorem own_slice {w : World} {base : Nat} {e : TypeId} {size n : Nat} {v : Value} {xs : List Value} (h : w.ownsRow base e size v n xs) : ∃ A cap, v = .slice A n cap := by
  rcases h.2 with ⟨rfl, rfl⟩ | ⟨g, cap, cur, rfl, _⟩
  · exact ⟨none, 0, rfl⟩
  · exact ⟨_, cap, rfl⟩
theorem own_base_ge {w : World} {base : Nat} {e : TypeId} {size n : Nat} {v : Value} {xs : List Value} (h : w.ownsRow base e size v n xs) : ∀ k, v.ownBlock = some k → base ≤ k := fun k hk => by
  rcases h.2 with ⟨rfl, _⟩ | ⟨g, cap, cur, rfl, hb, _⟩
  · cases hk
  · injection hk with hk
    have hk : g = k := hk
    omega
theorem el_u8b : El Tryd.prog 22 5 (.int .u8 0) 1 1 := ⟨by kernel_rfl, by kernel_rfl, rfl, by omega⟩
theorem writeByte_any (w0 w : World) (b : Nat) (bs : List UInt8) (c : UInt8) (hl : bs.length ≤ 1000) (h : BInv w0 w b bs) :
    Calls Tryd.prog 22 #[.pointer (some ⟨b, 0, none⟩), .int .u8 (c.toNat : Int)] w fun e w' => e = .returned .nilIface ∧ BInv w0 w' b (bs ++ [c]) := by
  obtain ⟨p, v, hp, hb, ho, hbb, hx⟩ := h
  have hck := check_any w0 w b v p hp hb
  generalize hw1 : (if p = none then w.setCell ⟨b, 0, none⟩ (.pointer (some ⟨b, 0, none⟩)) else w) = w1 at hck
  have hb1 : Blk w1 b #[.pointer (some ⟨b, 0, none⟩), v] 51 := by
    rw [← hw1]
    rcases hp with rfl | rfl
    · have := hb.set 0 (.pointer (some ⟨b, 0, none⟩)); simpa using this
    · simpa using hb
  have ho1 : w1.ownsRow w0.heap.size 5 1 v bs.length (u8s bs) := by
    rw [← hw1]
    split
    · exact own_setCell ho hb (by decide) _
    · exact ho
  have hx1 : Ext w0 w1 := by
    rw [← hw1]
    split
    · exact hx.setCell hbb _
    · exact hx
  clear hw1 hb ho hx hp
  obtain ⟨A, cap, rfl⟩ : ∃ A cap, v = .slice A bs.length cap := by
    rcases ho1.2 with ⟨rfl, h0⟩ | ⟨g, cap, cur, rfl, _⟩
    · exact ⟨none, 0, by rw [h0]⟩
    · exact ⟨_, cap, rfl⟩
  obtain ⟨n, hn⟩ : ∃ n, Hid (bs.length = n) := ⟨_, rfl⟩
  have hn2 : n ≤ 1000 := by have := hn.out; omega
  rw [hn.out] at hb1 ho1
  have c1 : w1.cell? ⟨b, 1, none⟩ = some (.slice A n cap) := hb1.cell 1
  have hsz := hx1.size
  go_enter Tryd.func22, Tryd.ntmps22
  go_wp2_with fail
  refine hck.mono ?_
  rintro e w' ⟨rfl, hw⟩
  have hw := hw.symm
  subst hw
  go_wp2_with (
    refine wpList_app el_u8b _ rfl (.tmp 11) (.tmp 13) rfl w0.heap.size (.slice A n cap) n (u8s bs) rfl (own_ext ho1 ((Ext.refl w1).alloc _)) (some ⟨w1.heap.size, 0, none⟩) 1 1 (u8s [c]) rfl (Rd.of_block _ 5 (0, 0) rfl) rfl (fun h => by cases h) (u8s_one _) (by omega) (by omega) (by simp; omega) (fun V2 w2 ho2 hg2 hv2 => ?_)
    obtain ⟨A2, cap2, rfl⟩ := own_slice ho2
    have hb2 : Blk w2 b #[.pointer (some ⟨b, 0, none⟩), .slice A n cap] 51 := (hb1.alloc _).grown hg2 (own_ne_blk ho1 hb1 (by decide))
    have f2 := hb2.frozen 1
    have c2 : w2.cell? ⟨b, 1, none⟩ = some (.slice A n cap) := hb2.cell 1
    have hx2 : Ext w0 w2 := (hx1.alloc _).then_grown hg2 (own_base_ge ho1)
    have hbq := hb2.set 1 (.slice A2 (n + 1) cap2)
    have hoq := own_setCell (i := 1) ho2 hb2 (by decide) (.slice A2 (n + 1) cap2))
  go_ret
  refine ⟨rfl, _, .slice A2 (n + 1) cap2, .inr rfl, hbq, ?_, hbb, hx2.setCell hbb _⟩
  rw [List.length_append, hn.out, u8s_append]
  exact hoq
theorem bstring_any (w0 w : World) (b : Nat) (bs : List UInt8) (hl : bs.length ≤ 1000) (hne : bs ≠ []) (h : BInv w0 w b bs) :
    Calls Tryd.prog 23 #[.pointer (some ⟨b, 0, none⟩)] w fun e w' => e = .returned (.string ⟨bs.toArray⟩) ∧ Ext w0 w' := by
  obtain ⟨p, v, hp, hb, ho, hbb, hx⟩ := h
  have hn0 : bs.length ≠ 0 := fun e => hne (List.eq_nil_of_length_eq_zero e)
  obtain ⟨g, cap, cur, rfl, hbg, hg, hnc, hcm, hcs, htake⟩ : ∃ g cap cur, v = .slice (some ⟨g, 0, none⟩) bs.length cap ∧ w0.heap.size ≤ g ∧ w.heap[g]? = some (.cells cur 5 (0, 0)) ∧ bs.length ≤ cap ∧ cap ≤ maxLen ∧ cur.size = cap * 1 ∧ cur.toList.take (bs.length * 1) = u8s bs := by
    rcases ho.2 with ⟨_, h0⟩ | ⟨g, cap, cur, hv, r⟩
    · exact absurd h0 hn0
    · exact ⟨g, cap, cur, hv, r⟩
  obtain ⟨n, hn⟩ : ∃ n, Hid (bs.length = n) := ⟨_, rfl⟩
  have hn1 : 1 ≤ n := by have := hn.out; omega
  have hn2 : n ≤ 1000 := by have := hn.out; omega
  have hsh : w.drew.shape? g = some (5, cur.size) := by simp [World.shape?, show w.drew.heap[g]? = _ from hg]
  have hcell : ∀ j x, bs[j]? = some x → w.drew.cell? ((⟨g, 0, none⟩ : Addr).add j) = some (.int .u8 (x.toNat : Int)) := fun j x hj => by
    have hadd : (⟨g, 0, none⟩ : Addr).add j = ⟨g, j, none⟩ := by unfold Addr.add; split <;> simp_all
    have hj2 : (u8s bs)[j]? = some (.int .u8 (x.toNat : Int)) := by simp [u8s, hj]
    rw [hadd, show w.drew.cell? ⟨g, j, none⟩ = cur[j]? from cell_of_row w.drew g j cur 5 (0, 0) hg]
    rw [← htake, List.getElem?_take] at hj2
    split at hj2
    · simpa using hj2
    · cases hj2
  have hUS := Lib.run_unsafeString_row (P := Tryd.prog) w.drew 58 3 9 5 Tryd.underlying58 (by kernel_rfl) g cur.size hsh bs hne (by omega) (by omega) hcell
  have hSD := Lib.run_unsafeSliceData_row (P := Tryd.prog) w.drew #[22] 58 ⟨g, 0, none⟩ n cap (by omega)
  rw [hn.out] at hUS hb
  have c1 : w.drew.cell? ⟨b, 1, none⟩ = some (.slice (some ⟨g, 0, none⟩) n cap) := hb.cell 1
  have hxf : Ext w0 (w.drew.freeze ⟨g, 0, none⟩ n) := Lib.below_freeze hx.drew (p := ⟨g, 0, none⟩) hbg _
  clear hcell hsh htake hcs hg ho hn0 hnc hcm
  go_enter Tryd.func23, Tryd.ntmps23
  go_wp2_with fail
  go_region
  all_goals go_wp2_with fail
  all_goals go_ret
  all_goals exact ⟨rfl, hxf⟩
end Go.Proofs.YtdfgjmmdpbgodaaDoor.ShaW
