/- parse: a schema shown. -/
import Derived.Test.YtejcacbbhijdcaaDoorPaK
namespace Go.Proofs.YtejcacbbhijdcaaDoor.Pr
open Go.ChangeShapes Go.WideShapes Go.ChangeAt Go.RowKit
open Base Lx Mi
set_option linter.unusedVariables false
set_option linter.unusedSimpArgs false

/-- what Show hands back -/
def shV : Option (List UInt8) → Value
  | some s => .tuple #[.string ⟨s.toArray⟩, .int .i64 0]
  | none => .tuple #[.string ⟨#[]⟩, .int .i64 1]
def showLen (ns : List Ne) : Nat := (wtyp ns 20 0 ⟨[], 0, false⟩).s.length

set_option maxRecDepth 100000 in
set_option maxHeartbeats 2000000 in
theorem shown_any (v : Value) (ns : List Ne) (w : World) (hS : Sch w.heap.size w v ns) (hwd : Wd w) (hpow : Pow w) (hL : showLen ns ≤ 100000000) :
    Calls Tryd.prog 16 #[.agg #[v]] w fun e w' => e = .returned (shV (showP ns)) ∧ Ext w w' := by
  have h5 := hpow.lt
  obtain ⟨A, c, rfl⟩ := hS.slice
  obtain ⟨n, hn⟩ : ∃ z, Hid (ns.length = z) := ⟨_, rfl⟩
  obtain ⟨q, hq⟩ : ∃ z, Hid (w.heap.size = z) := ⟨_, rfl⟩
  obtain ⟨w1, hw1⟩ : ∃ z, Hid (w.alloc (.cells #[.slice A n c] 24) = z) := ⟨_, rfl⟩
  obtain ⟨w2, hw2⟩ : ∃ z, Hid (w1.alloc (.cells #[.pointer none, .slice none 0 0, .slice A n c, .int .i64 0, .bool false] 65) = z) := ⟨_, rfl⟩
  have hx1 : Ext w w1 := by rw [← hw1.out]; exact (Ext.refl w).alloc _
  have hs1 : w1.heap.size = q + 1 := by rw [← hw1.out, ← hq.out]; simp
  have hb1 : Blk w1 q #[.slice A n c] 24 := by rw [← hw1.out, ← hq.out]; exact Blk.new w _ _
  have hx2 : Ext w1 w2 := by rw [← hw2.out]; exact (Ext.refl w1).alloc _
  have hb2 : Blk w2 (q + 1) #[.pointer none, .slice none 0 0, .slice A n c, .int .i64 0, .bool false] 65 := by rw [← hw2.out, ← hs1]; exact Blk.new w1 _ _
  have hbq2 := hb1.ext hx2
  have hI : WInv q w2 (q + 1) (.slice A n c) ⟨[], 0, false⟩ := ⟨⟨none, .slice none 0 0, .inl rfl, hb2, World.ownsRow_nil _ _ _ _⟩, by omega⟩
  have hxw2 := hx1.trans hx2
  rw [hq.out] at hS h5
  rw [hn.out] at hS
  have hbe2 : Below q w w2 := by rw [← hq.out]; exact hxw2
  have hE : En q w2 (.slice A n c) ns := ⟨hS.below hbe2, hwd.ext hxw2, hpow.ext hxw2, h5⟩
  have hT := wtyped_all 20 0 rfl 0 ⟨[], 0, false⟩ w2 hI hE hL
  rw [show ((0 : Nat) : Int) = 0 from rfl] at hT
  obtain ⟨st, hst⟩ : ∃ z, Hid (wtyp ns 20 0 ⟨[], 0, false⟩ = z) := ⟨_, Lib.hid rfl⟩
  have hne := show_ne ns
  have hsh : showP ns = if st.bad = true ∨ st.next ≠ ns.length then none else if (parseP ⟨st.s.toArray⟩).2.2 ≠ 0 ∨ (parseP ⟨st.s.toArray⟩).1.map Nd.toE ≠ ns then none else some st.s := by rw [← hst.out]; rfl
  rw [hst.out] at hT hne
  have hL : st.s.length ≤ 100000000 := by have : showLen ns = st.s.length := by rw [← hst.out]; rfl
                                          omega
  replace hne := Lib.hid hne
  obtain ⟨o, ho⟩ : ∃ z, Hid (showP ns = z) := ⟨_, Lib.hid rfl⟩
  rw [ho.out] at hsh ⊢
  replace hsh := Lib.hid hsh
  obtain ⟨PO, hPO⟩ : ∃ PO : Ending → World → Prop, Hid ((fun e w' => e = .returned (shV o) ∧ Ext w w') = PO) := ⟨_, Lib.hid rfl⟩
  rw [hPO.out, hn.out]
  clear hb2
  go_enter Tryd.func16, Tryd.ntmps16
  go_wp2_with fail
  rw [hw1.out, hq.out, hw2.out]
  refine hT.mono ?_
  rintro e w3 ⟨rfl, hk3, h3⟩
  have hx3 : Ext w w3 := Below.trans (B := w.heap.size) hxw2 (by rw [hq.out]; exact hk3.below)
  have hbq3 := hk3.keep q _ _ hbq2 (by decide) (by decide)
  obtain ⟨c2, c3, c4, f3, f4⟩ := h3.cells
  have e1 : ∀ W, Ext w3 W → W.cell? ⟨q, 0, none⟩ = some (.slice A n c) := fun W hW => (hbq3.ext hW).cell 0
  obtain ⟨nx, hnx⟩ : ∃ z, Hid (st.next = z) := ⟨_, rfl⟩
  have e3 : ∀ W, Ext w3 W → W.cell? ⟨q + 1, 3, none⟩ = some (.int .i64 (nx : Int)) := fun W hW => by rw [← hnx.out]; exact hW.cell c3
  by_cases hbad : st.bad = true
  · have ho0 : o = none := by rw [hsh.out, if_pos (.inl hbad)]
    have e4 : ∀ W, Ext w3 W → W.cell? ⟨q + 1, 4, none⟩ = some (.bool true) := fun W hW => by rw [← hbad]; exact hW.cell c4
    clear c2 c3 c4 f3 f4 hbad
    go_wp2_with fail
    refine Reg.startE (by kernel_rfl) ?_
    refine Reg.takeE 0 _ _ rfl (by kernel_rfl) (by kernel_rfl) (by kernel_rfl) (by decide) (fun _ _ _ h => by first | exact h | exact hP _ _ _ _ h) (by rfl) (fun W hW => by go_simp; with_reducible rfl) ?_; (try simp only [Act.put, Act.eval, List.getElem?_toArray, List.getElem_toArray, List.getElem?_cons_zero, List.getElem?_cons_succ, List.getElem_cons_zero, List.getElem_cons_succ, Option.getD_some, List.setIfInBounds_toArray, List.set_cons_zero, List.set_cons_succ])
    refine Reg.takeE 1 _ _ rfl (by kernel_rfl) (by kernel_rfl) (by kernel_rfl) (by decide) (fun _ _ _ h => by first | exact h | exact hP _ _ _ _ h) (by rfl) (fun W hW => by go_simp; with_reducible rfl) ?_; (try simp only [Act.put, Act.eval, List.getElem?_toArray, List.getElem_toArray, List.getElem?_cons_zero, List.getElem?_cons_succ, List.getElem_cons_zero, List.getElem_cons_succ, Option.getD_some, List.setIfInBounds_toArray, List.set_cons_zero, List.set_cons_succ])
    refine Reg.takeE 2 _ _ rfl (by kernel_rfl) (by kernel_rfl) (by kernel_rfl) (by decide) (fun _ _ _ h => by first | exact h | exact hP _ _ _ _ h) (by rfl) (fun W hW => by go_simp; with_reducible rfl) ?_; (try simp only [Act.put, Act.eval, List.getElem?_toArray, List.getElem_toArray, List.getElem?_cons_zero, List.getElem?_cons_succ, List.getElem_cons_zero, List.getElem_cons_succ, Option.getD_some, List.setIfInBounds_toArray, List.set_cons_zero, List.set_cons_succ])
    refine Reg.takeE 3 _ _ rfl (by kernel_rfl) (by kernel_rfl) (by kernel_rfl) (by decide) (fun _ _ _ h => by first | exact h | exact hP _ _ _ _ h) (by rfl) (fun W hW => by go_simp; with_reducible rfl) ?_; (try simp only [Act.put, Act.eval, List.getElem?_toArray, List.getElem_toArray, List.getElem?_cons_zero, List.getElem?_cons_succ, List.getElem_cons_zero, List.getElem_cons_succ, Option.getD_some, List.setIfInBounds_toArray, List.set_cons_zero, List.set_cons_succ])
    refine Reg.takeE 4 _ _ rfl (by kernel_rfl) (by kernel_rfl) (by kernel_rfl) (by decide) (fun _ _ _ h => by first | exact h | exact hP _ _ _ _ h) (by rfl) (fun W hW => by go_simp; with_reducible rfl) ?_; (try simp only [Act.put, Act.eval, List.getElem?_toArray, List.getElem_toArray, List.getElem?_cons_zero, List.getElem?_cons_succ, List.getElem_cons_zero, List.getElem_cons_succ, Option.getD_some, List.setIfInBounds_toArray, List.set_cons_zero, List.set_cons_succ])
    refine Reg.skipE 5 _ rfl (by kernel_rfl) (by kernel_rfl) (by kernel_rfl) (by decide) (fun _ _ _ h => by first | exact h | exact hP _ _ _ _ h) (by rfl) ?_; (try simp only [Act.put, Act.eval, List.getElem?_toArray, List.getElem_toArray, List.getElem?_cons_zero, List.getElem?_cons_succ, List.getElem_cons_zero, List.getElem_cons_succ, Option.getD_some, List.setIfInBounds_toArray, List.set_cons_zero, List.set_cons_succ])
    refine Reg.skipE 6 _ rfl (by kernel_rfl) (by kernel_rfl) (by kernel_rfl) (by decide) (fun _ _ _ h => by first | exact h | exact hP _ _ _ _ h) (by rfl) ?_; (try simp only [Act.put, Act.eval, List.getElem?_toArray, List.getElem_toArray, List.getElem?_cons_zero, List.getElem?_cons_succ, List.getElem_cons_zero, List.getElem_cons_succ, Option.getD_some, List.setIfInBounds_toArray, List.set_cons_zero, List.set_cons_succ])
    refine Reg.skipE 7 _ rfl (by kernel_rfl) (by kernel_rfl) (by kernel_rfl) (by decide) (fun _ _ _ h => by first | exact h | exact hP _ _ _ _ h) (by rfl) ?_; (try simp only [Act.put, Act.eval, List.getElem?_toArray, List.getElem_toArray, List.getElem?_cons_zero, List.getElem?_cons_succ, List.getElem_cons_zero, List.getElem_cons_succ, Option.getD_some, List.setIfInBounds_toArray, List.set_cons_zero, List.set_cons_succ])
    refine Reg.skipE 8 _ rfl (by kernel_rfl) (by kernel_rfl) (by kernel_rfl) (by decide) (fun _ _ _ h => by first | exact h | exact hP _ _ _ _ h) (by rfl) ?_; (try simp only [Act.put, Act.eval, List.getElem?_toArray, List.getElem_toArray, List.getElem?_cons_zero, List.getElem?_cons_succ, List.getElem_cons_zero, List.getElem_cons_succ, Option.getD_some, List.setIfInBounds_toArray, List.set_cons_zero, List.set_cons_succ])
    refine Reg.skipE 9 _ rfl (by kernel_rfl) (by kernel_rfl) (by kernel_rfl) (by decide) (fun _ _ _ h => by first | exact h | exact hP _ _ _ _ h) (by rfl) ?_; (try simp only [Act.put, Act.eval, List.getElem?_toArray, List.getElem_toArray, List.getElem?_cons_zero, List.getElem?_cons_succ, List.getElem_cons_zero, List.getElem_cons_succ, Option.getD_some, List.setIfInBounds_toArray, List.set_cons_zero, List.set_cons_succ])
    refine Reg.skipE 10 _ rfl (by kernel_rfl) (by kernel_rfl) (by kernel_rfl) (by decide) (fun _ _ _ h => by first | exact h | exact hP _ _ _ _ h) (by rfl) ?_; (try simp only [Act.put, Act.eval, List.getElem?_toArray, List.getElem_toArray, List.getElem?_cons_zero, List.getElem?_cons_succ, List.getElem_cons_zero, List.getElem_cons_succ, Option.getD_some, List.setIfInBounds_toArray, List.set_cons_zero, List.set_cons_succ])
    refine Reg.skipE 11 _ rfl (by kernel_rfl) (by kernel_rfl) (by kernel_rfl) (by decide) (fun _ _ _ h => by first | exact h | exact hP _ _ _ _ h) (by rfl) ?_; (try simp only [Act.put, Act.eval, List.getElem?_toArray, List.getElem_toArray, List.getElem?_cons_zero, List.getElem?_cons_succ, List.getElem_cons_zero, List.getElem_cons_succ, Option.getD_some, List.setIfInBounds_toArray, List.set_cons_zero, List.set_cons_succ])
    refine Reg.skipE 12 _ rfl (by kernel_rfl) (by kernel_rfl) (by kernel_rfl) (by decide) (fun _ _ _ h => by first | exact h | exact hP _ _ _ _ h) (by rfl) ?_; (try simp only [Act.put, Act.eval, List.getElem?_toArray, List.getElem_toArray, List.getElem?_cons_zero, List.getElem?_cons_succ, List.getElem_cons_zero, List.getElem_cons_succ, Option.getD_some, List.setIfInBounds_toArray, List.set_cons_zero, List.set_cons_succ])
    refine Reg.takeE 13 _ _ rfl (by kernel_rfl) (by kernel_rfl) (by kernel_rfl) (by decide) (fun _ _ _ h => by first | exact h | exact hP _ _ _ _ h) (by rfl) (fun W hW => by go_simp; with_reducible rfl) ?_; (try simp only [Act.put, Act.eval, List.getElem?_toArray, List.getElem_toArray, List.getElem?_cons_zero, List.getElem?_cons_succ, List.getElem_cons_zero, List.getElem_cons_succ, Option.getD_some, List.setIfInBounds_toArray, List.set_cons_zero, List.set_cons_succ])
    refine Reg.fin (by kernel_rfl) (fun W hW => ?_)
    go_wp2_with fail
    rw [← hPO.out, ho0]
    exact ⟨rfl, hx3.trans hW⟩
  · have hbad' : st.bad = false := by simpa using hbad
    have e4 : ∀ W, Ext w3 W → W.cell? ⟨q + 1, 4, none⟩ = some (.bool false) := fun W hW => by rw [← hbad']; exact hW.cell c4
    have hsne := hne.out hbad'
    clear c2 c3 c4 f3 f4 hne
    by_cases hnn : nx = n
    · have hnb : ((nx : Int) != (n : Int)) = false := by simp [hnn]
      have hstr := fun W (hW : Ext w3 W) => wstring_any (h3.ext hW) hL hsne
      obtain ⟨r, hr⟩ : ∃ z, Hid (parseP ⟨st.s.toArray⟩ = z) := ⟨_, Lib.hid rfl⟩
      have hsz : (⟨st.s.toArray⟩ : ByteArray).size = st.s.length := by simp [ByteArray.size]
      have hpar := fun W (hW : Ext w W) => parsed_any ⟨st.s.toArray⟩ (by rw [hsz]; omega) W (hwd.ext hW) (by have := hW.size; have := hq.out; omega)
      have hres : o = if r.2.2 ≠ 0 ∨ r.1.map Nd.toE ≠ ns then none else some st.s := by
        rw [hsh.out, if_neg (by rintro (e | e); exact hbad e; exact e (by rw [hnx.out, hnn, hn.out])), hr.out]
      rw [hr.out] at hpar
      have hrg : ∀ d ∈ r.1, -9223372036854775808 ≤ d.size ∧ d.size ≤ 9223372036854775807 := by rw [← hr.out]; exact parse_rng _
      obtain ⟨S, hS'⟩ : ∃ S : ByteArray, S = ⟨st.s.toArray⟩ := ⟨_, rfl⟩
      rw [← hS'] at hpar hstr
      replace hS' := Lib.hid hS'
      clear hsz
      have Hres := Lib.hid hres
      clear hres hsh
      go_wp2_with fail
      refine Reg.startE (by kernel_rfl) ?_
      refine Reg.takeE 0 _ _ rfl (by kernel_rfl) (by kernel_rfl) (by kernel_rfl) (by decide) (fun _ _ _ h => by first | exact h | exact hP _ _ _ _ h) (by rfl) (fun W hW => by go_simp; with_reducible rfl) ?_; (try simp only [Act.put, Act.eval, List.getElem?_toArray, List.getElem_toArray, List.getElem?_cons_zero, List.getElem?_cons_succ, List.getElem_cons_zero, List.getElem_cons_succ, Option.getD_some, List.setIfInBounds_toArray, List.set_cons_zero, List.set_cons_succ])
      refine Reg.takeE 1 _ _ rfl (by kernel_rfl) (by kernel_rfl) (by kernel_rfl) (by decide) (fun _ _ _ h => by first | exact h | exact hP _ _ _ _ h) (by rfl) (fun W hW => by go_simp; with_reducible rfl) ?_; (try simp only [Act.put, Act.eval, List.getElem?_toArray, List.getElem_toArray, List.getElem?_cons_zero, List.getElem?_cons_succ, List.getElem_cons_zero, List.getElem_cons_succ, Option.getD_some, List.setIfInBounds_toArray, List.set_cons_zero, List.set_cons_succ])
      refine Reg.takeE 2 _ _ rfl (by kernel_rfl) (by kernel_rfl) (by kernel_rfl) (by decide) (fun _ _ _ h => by first | exact h | exact hP _ _ _ _ h) (by rfl) (fun W hW => by go_simp; with_reducible rfl) ?_; (try simp only [Act.put, Act.eval, List.getElem?_toArray, List.getElem_toArray, List.getElem?_cons_zero, List.getElem?_cons_succ, List.getElem_cons_zero, List.getElem_cons_succ, Option.getD_some, List.setIfInBounds_toArray, List.set_cons_zero, List.set_cons_succ])
      refine Reg.takeE 3 _ _ rfl (by kernel_rfl) (by kernel_rfl) (by kernel_rfl) (by decide) (fun _ _ _ h => by first | exact h | exact hP _ _ _ _ h) (by rfl) (fun W hW => by go_simp; with_reducible rfl) ?_; (try simp only [Act.put, Act.eval, List.getElem?_toArray, List.getElem_toArray, List.getElem?_cons_zero, List.getElem?_cons_succ, List.getElem_cons_zero, List.getElem_cons_succ, Option.getD_some, List.setIfInBounds_toArray, List.set_cons_zero, List.set_cons_succ])
      refine Reg.takeE 4 _ _ rfl (by kernel_rfl) (by kernel_rfl) (by kernel_rfl) (by decide) (fun _ _ _ h => by first | exact h | exact hP _ _ _ _ h) (by rfl) (fun W hW => by go_simp; with_reducible rfl) ?_; (try simp only [Act.put, Act.eval, List.getElem?_toArray, List.getElem_toArray, List.getElem?_cons_zero, List.getElem?_cons_succ, List.getElem_cons_zero, List.getElem_cons_succ, Option.getD_some, List.setIfInBounds_toArray, List.set_cons_zero, List.set_cons_succ])
      refine Reg.takeE 5 _ _ rfl (by kernel_rfl) (by kernel_rfl) (by kernel_rfl) (by decide) (fun _ _ _ h => by first | exact h | exact hP _ _ _ _ h) (by rfl) (fun W hW => by go_simp; with_reducible rfl) ?_; (try simp only [Act.put, Act.eval, List.getElem?_toArray, List.getElem_toArray, List.getElem?_cons_zero, List.getElem?_cons_succ, List.getElem_cons_zero, List.getElem_cons_succ, Option.getD_some, List.setIfInBounds_toArray, List.set_cons_zero, List.set_cons_succ])
      refine Reg.takeE 6 _ _ rfl (by kernel_rfl) (by kernel_rfl) (by kernel_rfl) (by decide) (fun _ _ _ h => by first | exact h | exact hP _ _ _ _ h) (by rfl) (fun W hW => by go_simp; with_reducible rfl) ?_; (try simp only [Act.put, Act.eval, List.getElem?_toArray, List.getElem_toArray, List.getElem?_cons_zero, List.getElem?_cons_succ, List.getElem_cons_zero, List.getElem_cons_succ, Option.getD_some, List.setIfInBounds_toArray, List.set_cons_zero, List.set_cons_succ])
      refine Reg.takeE 7 _ _ rfl (by kernel_rfl) (by kernel_rfl) (by kernel_rfl) (by decide) (fun _ _ _ h => by first | exact h | exact hP _ _ _ _ h) (by rfl) (fun W hW => by go_simp; with_reducible rfl) ?_; (try simp only [Act.put, Act.eval, List.getElem?_toArray, List.getElem_toArray, List.getElem?_cons_zero, List.getElem?_cons_succ, List.getElem_cons_zero, List.getElem_cons_succ, Option.getD_some, List.setIfInBounds_toArray, List.set_cons_zero, List.set_cons_succ])
      refine Reg.takeE 8 _ _ rfl (by kernel_rfl) (by kernel_rfl) (by kernel_rfl) (by decide) (fun _ _ _ h => by first | exact h | exact hP _ _ _ _ h) (by rfl) (fun W hW => by go_simp; with_reducible rfl) ?_; (try simp only [Act.put, Act.eval, List.getElem?_toArray, List.getElem_toArray, List.getElem?_cons_zero, List.getElem?_cons_succ, List.getElem_cons_zero, List.getElem_cons_succ, Option.getD_some, List.setIfInBounds_toArray, List.set_cons_zero, List.set_cons_succ])
      refine Reg.takeE 9 _ _ rfl (by kernel_rfl) (by kernel_rfl) (by kernel_rfl) (by decide) (fun _ _ _ h => by first | exact h | exact hP _ _ _ _ h) (by rfl) (fun W hW => by go_simp; with_reducible rfl) ?_; (try simp only [Act.put, Act.eval, List.getElem?_toArray, List.getElem_toArray, List.getElem?_cons_zero, List.getElem?_cons_succ, List.getElem_cons_zero, List.getElem_cons_succ, Option.getD_some, List.setIfInBounds_toArray, List.set_cons_zero, List.set_cons_succ])
      refine Reg.takeE 10 _ _ rfl (by kernel_rfl) (by kernel_rfl) (by kernel_rfl) (by decide) (fun _ _ _ h => by first | exact h | exact hP _ _ _ _ h) (by rfl) (fun W hW => by go_simp; with_reducible rfl) ?_; (try simp only [Act.put, Act.eval, List.getElem?_toArray, List.getElem_toArray, List.getElem?_cons_zero, List.getElem?_cons_succ, List.getElem_cons_zero, List.getElem_cons_succ, Option.getD_some, List.setIfInBounds_toArray, List.set_cons_zero, List.set_cons_succ])
      refine Reg.takeE 11 _ _ rfl (by kernel_rfl) (by kernel_rfl) (by kernel_rfl) (by decide) (fun _ _ _ h => by first | exact h | exact hP _ _ _ _ h) (by rfl) (fun W hW => by go_simp; with_reducible rfl) ?_; (try simp only [Act.put, Act.eval, List.getElem?_toArray, List.getElem_toArray, List.getElem?_cons_zero, List.getElem?_cons_succ, List.getElem_cons_zero, List.getElem_cons_succ, Option.getD_some, List.setIfInBounds_toArray, List.set_cons_zero, List.set_cons_succ])
      refine Reg.takeE 12 _ _ rfl (by kernel_rfl) (by kernel_rfl) (by kernel_rfl) (by decide) (fun _ _ _ h => by first | exact h | exact hP _ _ _ _ h) (by rfl) (fun W hW => by go_simp; with_reducible rfl) ?_; (try simp only [Act.put, Act.eval, List.getElem?_toArray, List.getElem_toArray, List.getElem?_cons_zero, List.getElem?_cons_succ, List.getElem_cons_zero, List.getElem_cons_succ, Option.getD_some, List.setIfInBounds_toArray, List.set_cons_zero, List.set_cons_succ])
      refine Reg.takeE 13 _ _ rfl (by kernel_rfl) (by kernel_rfl) (by kernel_rfl) (by decide) (fun _ _ _ h => by first | exact h | exact hP _ _ _ _ h) (by rfl) (fun W hW => by go_simp; with_reducible rfl) ?_; (try simp only [Act.put, Act.eval, List.getElem?_toArray, List.getElem_toArray, List.getElem?_cons_zero, List.getElem?_cons_succ, List.getElem_cons_zero, List.getElem_cons_succ, Option.getD_some, List.setIfInBounds_toArray, List.set_cons_zero, List.set_cons_succ])
      refine Reg.fin (by kernel_rfl) (fun W hW => ?_)
      have hstr := hstr W hW
      clear e1 e3 e4
      have hxW := hx3.trans hW
      go_wp2_with fail
      refine hstr.mono ?_
      rintro e w4 ⟨rfl, hb4⟩
      have hx4 : Ext w w4 := Below.trans (B := w.heap.size) hxW (by rw [hq.out]; exact hb4.below)
      have hp := hpar w4 hx4
      clear hpar hstr
      go_wp2_with fail
      go_fit hp
      rintro e w5 ⟨v5, vs5, rfl, hnd, hx5⟩
      obtain ⟨A5, c5, rfl, jj1, jj2, jj3, jj4⟩ := Rd.of_own hnd.row
      clear jj1 jj2 jj3 jj4 hp
      obtain ⟨n5, hn5⟩ : ∃ z, Hid (r.1.length = z) := ⟨_, Lib.hid rfl⟩
      rw [hn5.out] at hnd ⊢
      obtain ⟨w6, hw6⟩ : ∃ z, Hid (w5.alloc (.cells #[.slice A5 n5 c5] 24) = z) := ⟨_, rfl⟩
      have hx6 : Ext w5 w6 := by rw [← hw6.out]; exact (Ext.refl w5).alloc _
      obtain ⟨q6, hq6⟩ : ∃ z, Hid (w5.heap.size = z) := ⟨_, rfl⟩
      have hb6 : Blk w6 q6 #[.slice A5 n5 c5] 24 := by rw [← hw6.out, ← hq6.out]; exact Blk.new w5 _ _
      have hbq6 : w6.cell? ⟨q, 0, none⟩ = some (.slice A n c) := (((hb4.keep q _ _ (hbq3.ext hW) (by decide) (by decide)).ext hx5).ext hx6).cell 0
      have hc6 : w6.cell? ⟨q6, 0, none⟩ = some (.slice A5 n5 c5) := hb6.cell 0
      rw [← hw6.out] at hbq6
      have hx06 : Ext w w6 := (hx4.trans hx5).trans hx6
      have hSo : Sch w5.heap.size w6 (.slice A n c) ns := (hS.below (by rw [← hq.out]; exact hx06)).mono (by have := (hx4.trans hx5).size; have := hq.out; omega)
      have hSp : Sch w5.heap.size w6 (.slice A5 n5 c5) (r.1.map Nd.toE) := (Sch.ofNds hnd (Nat.le_refl _) hrg).below hx6
      have hcmp := equalF_any (w := w6) hSp hSo hx6.size
      by_cases her : r.2.2 = 0
      · have hrb : (r.2.2 != 0) = false := by simpa using her
        by_cases hqq : r.1.map Nd.toE = ns
        · have ho0 : o = some st.s := by rw [Hres.out, if_neg (by rintro (e | e); exact e her; exact e hqq)]
          rw [show decide (r.1.map Nd.toE = ns) = true by simpa using hqq] at hcmp
          clear hSo hSp hqq
          go_wp2_with fail
          rw [hw6.out]
          refine hcmp.mono ?_
          rintro e w7 ⟨rfl, hx7⟩
          go_wp2_with fail
          rw [← hPO.out, ho0, hS'.out]
          exact ⟨rfl, hx06.trans hx7⟩
        · have ho0 : o = none := by rw [Hres.out, if_pos (.inr hqq)]
          rw [show decide (r.1.map Nd.toE = ns) = false by simpa using hqq] at hcmp
          clear hSo hSp hqq
          go_wp2_with fail
          rw [hw6.out]
          refine hcmp.mono ?_
          rintro e w7 ⟨rfl, hx7⟩
          go_wp2_with fail
          rw [← hPO.out, ho0]
          exact ⟨rfl, hx06.trans hx7⟩
      · have hrb : (r.2.2 != 0) = true := by simpa using her
        have ho0 : o = none := by rw [Hres.out, if_pos (.inl her)]
        clear hcmp hSo hSp
        go_wp2_with fail
        rw [hw6.out]
        rw [← hPO.out, ho0]
        exact ⟨rfl, hx06⟩
    · have hnb : ((nx : Int) != (n : Int)) = true := by simpa using (by omega : ¬ (nx : Int) = (n : Int))
      have ho0 : o = none := by rw [hsh.out, if_pos (.inr (by rw [hnx.out, hn.out]; exact hnn))]
      go_wp2_with fail
      refine Reg.startE (by kernel_rfl) ?_
      refine Reg.takeE 0 _ _ rfl (by kernel_rfl) (by kernel_rfl) (by kernel_rfl) (by decide) (fun _ _ _ h => by first | exact h | exact hP _ _ _ _ h) (by rfl) (fun W hW => by go_simp; with_reducible rfl) ?_; (try simp only [Act.put, Act.eval, List.getElem?_toArray, List.getElem_toArray, List.getElem?_cons_zero, List.getElem?_cons_succ, List.getElem_cons_zero, List.getElem_cons_succ, Option.getD_some, List.setIfInBounds_toArray, List.set_cons_zero, List.set_cons_succ])
      refine Reg.takeE 1 _ _ rfl (by kernel_rfl) (by kernel_rfl) (by kernel_rfl) (by decide) (fun _ _ _ h => by first | exact h | exact hP _ _ _ _ h) (by rfl) (fun W hW => by go_simp; with_reducible rfl) ?_; (try simp only [Act.put, Act.eval, List.getElem?_toArray, List.getElem_toArray, List.getElem?_cons_zero, List.getElem?_cons_succ, List.getElem_cons_zero, List.getElem_cons_succ, Option.getD_some, List.setIfInBounds_toArray, List.set_cons_zero, List.set_cons_succ])
      refine Reg.takeE 2 _ _ rfl (by kernel_rfl) (by kernel_rfl) (by kernel_rfl) (by decide) (fun _ _ _ h => by first | exact h | exact hP _ _ _ _ h) (by rfl) (fun W hW => by go_simp; with_reducible rfl) ?_; (try simp only [Act.put, Act.eval, List.getElem?_toArray, List.getElem_toArray, List.getElem?_cons_zero, List.getElem?_cons_succ, List.getElem_cons_zero, List.getElem_cons_succ, Option.getD_some, List.setIfInBounds_toArray, List.set_cons_zero, List.set_cons_succ])
      refine Reg.takeE 3 _ _ rfl (by kernel_rfl) (by kernel_rfl) (by kernel_rfl) (by decide) (fun _ _ _ h => by first | exact h | exact hP _ _ _ _ h) (by rfl) (fun W hW => by go_simp; with_reducible rfl) ?_; (try simp only [Act.put, Act.eval, List.getElem?_toArray, List.getElem_toArray, List.getElem?_cons_zero, List.getElem?_cons_succ, List.getElem_cons_zero, List.getElem_cons_succ, Option.getD_some, List.setIfInBounds_toArray, List.set_cons_zero, List.set_cons_succ])
      refine Reg.takeE 4 _ _ rfl (by kernel_rfl) (by kernel_rfl) (by kernel_rfl) (by decide) (fun _ _ _ h => by first | exact h | exact hP _ _ _ _ h) (by rfl) (fun W hW => by go_simp; with_reducible rfl) ?_; (try simp only [Act.put, Act.eval, List.getElem?_toArray, List.getElem_toArray, List.getElem?_cons_zero, List.getElem?_cons_succ, List.getElem_cons_zero, List.getElem_cons_succ, Option.getD_some, List.setIfInBounds_toArray, List.set_cons_zero, List.set_cons_succ])
      refine Reg.takeE 5 _ _ rfl (by kernel_rfl) (by kernel_rfl) (by kernel_rfl) (by decide) (fun _ _ _ h => by first | exact h | exact hP _ _ _ _ h) (by rfl) (fun W hW => by go_simp; with_reducible rfl) ?_; (try simp only [Act.put, Act.eval, List.getElem?_toArray, List.getElem_toArray, List.getElem?_cons_zero, List.getElem?_cons_succ, List.getElem_cons_zero, List.getElem_cons_succ, Option.getD_some, List.setIfInBounds_toArray, List.set_cons_zero, List.set_cons_succ])
      refine Reg.takeE 6 _ _ rfl (by kernel_rfl) (by kernel_rfl) (by kernel_rfl) (by decide) (fun _ _ _ h => by first | exact h | exact hP _ _ _ _ h) (by rfl) (fun W hW => by go_simp; with_reducible rfl) ?_; (try simp only [Act.put, Act.eval, List.getElem?_toArray, List.getElem_toArray, List.getElem?_cons_zero, List.getElem?_cons_succ, List.getElem_cons_zero, List.getElem_cons_succ, Option.getD_some, List.setIfInBounds_toArray, List.set_cons_zero, List.set_cons_succ])
      refine Reg.takeE 7 _ _ rfl (by kernel_rfl) (by kernel_rfl) (by kernel_rfl) (by decide) (fun _ _ _ h => by first | exact h | exact hP _ _ _ _ h) (by rfl) (fun W hW => by go_simp; with_reducible rfl) ?_; (try simp only [Act.put, Act.eval, List.getElem?_toArray, List.getElem_toArray, List.getElem?_cons_zero, List.getElem?_cons_succ, List.getElem_cons_zero, List.getElem_cons_succ, Option.getD_some, List.setIfInBounds_toArray, List.set_cons_zero, List.set_cons_succ])
      refine Reg.takeE 8 _ _ rfl (by kernel_rfl) (by kernel_rfl) (by kernel_rfl) (by decide) (fun _ _ _ h => by first | exact h | exact hP _ _ _ _ h) (by rfl) (fun W hW => by go_simp; with_reducible rfl) ?_; (try simp only [Act.put, Act.eval, List.getElem?_toArray, List.getElem_toArray, List.getElem?_cons_zero, List.getElem?_cons_succ, List.getElem_cons_zero, List.getElem_cons_succ, Option.getD_some, List.setIfInBounds_toArray, List.set_cons_zero, List.set_cons_succ])
      refine Reg.takeE 9 _ _ rfl (by kernel_rfl) (by kernel_rfl) (by kernel_rfl) (by decide) (fun _ _ _ h => by first | exact h | exact hP _ _ _ _ h) (by rfl) (fun W hW => by go_simp; with_reducible rfl) ?_; (try simp only [Act.put, Act.eval, List.getElem?_toArray, List.getElem_toArray, List.getElem?_cons_zero, List.getElem?_cons_succ, List.getElem_cons_zero, List.getElem_cons_succ, Option.getD_some, List.setIfInBounds_toArray, List.set_cons_zero, List.set_cons_succ])
      refine Reg.takeE 10 _ _ rfl (by kernel_rfl) (by kernel_rfl) (by kernel_rfl) (by decide) (fun _ _ _ h => by first | exact h | exact hP _ _ _ _ h) (by rfl) (fun W hW => by go_simp; with_reducible rfl) ?_; (try simp only [Act.put, Act.eval, List.getElem?_toArray, List.getElem_toArray, List.getElem?_cons_zero, List.getElem?_cons_succ, List.getElem_cons_zero, List.getElem_cons_succ, Option.getD_some, List.setIfInBounds_toArray, List.set_cons_zero, List.set_cons_succ])
      refine Reg.takeE 11 _ _ rfl (by kernel_rfl) (by kernel_rfl) (by kernel_rfl) (by decide) (fun _ _ _ h => by first | exact h | exact hP _ _ _ _ h) (by rfl) (fun W hW => by go_simp; with_reducible rfl) ?_; (try simp only [Act.put, Act.eval, List.getElem?_toArray, List.getElem_toArray, List.getElem?_cons_zero, List.getElem?_cons_succ, List.getElem_cons_zero, List.getElem_cons_succ, Option.getD_some, List.setIfInBounds_toArray, List.set_cons_zero, List.set_cons_succ])
      refine Reg.takeE 12 _ _ rfl (by kernel_rfl) (by kernel_rfl) (by kernel_rfl) (by decide) (fun _ _ _ h => by first | exact h | exact hP _ _ _ _ h) (by rfl) (fun W hW => by go_simp; with_reducible rfl) ?_; (try simp only [Act.put, Act.eval, List.getElem?_toArray, List.getElem_toArray, List.getElem?_cons_zero, List.getElem?_cons_succ, List.getElem_cons_zero, List.getElem_cons_succ, Option.getD_some, List.setIfInBounds_toArray, List.set_cons_zero, List.set_cons_succ])
      refine Reg.takeE 13 _ _ rfl (by kernel_rfl) (by kernel_rfl) (by kernel_rfl) (by decide) (fun _ _ _ h => by first | exact h | exact hP _ _ _ _ h) (by rfl) (fun W hW => by go_simp; with_reducible rfl) ?_; (try simp only [Act.put, Act.eval, List.getElem?_toArray, List.getElem_toArray, List.getElem?_cons_zero, List.getElem?_cons_succ, List.getElem_cons_zero, List.getElem_cons_succ, Option.getD_some, List.setIfInBounds_toArray, List.set_cons_zero, List.set_cons_succ])
      refine Reg.fin (by kernel_rfl) (fun W hW => ?_)
      go_wp2_with fail
      rw [← hPO.out, ho0]
      exact ⟨rfl, hx3.trans hW⟩
end Go.Proofs.YtejcacbbhijdcaaDoor.Pr
/- parse: how deep a schema is, walked. -/
namespace Go.Proofs.YtejcacbbhijdcaaDoor.Pr
open Go.ChangeShapes Go.WideShapes Go.ChangeAt Go.RowKit
open Base Lx Mi
set_option linter.unusedVariables false
set_option linter.unusedSimpArgs false

theorem dlist_le {D : DT} {F : Nat} (h : ∀ n next d nx, D n next = some (d, nx) → d ≤ F) : ∀ (l : List Int) (next most : Nat) {m nx : Nat}, most ≤ F → dlist D l next most = some (m, nx) → m ≤ F
  | [], next, most, m, nx, hm, e => by rw [dlist] at e; injection e with e; injection e with e _; omega
  | n :: l, next, most, m, nx, hm, e => by
    rw [dlist] at e
    split at e
    · cases e
    · next d nx2 hd => exact dlist_le h l nx2 (max most d) (by have := h _ _ _ _ hd; omega) e
theorem dtyp_le (ns : List Ne) : ∀ (f : Nat) (n : Int) (next d nx : Nat), dtyp ns f n next = some (d, nx) → d ≤ f
  | 0, n, next, d, nx, e => by cases e
  | f + 1, n, next, d, nx, e => by
    rw [dtyp] at e
    split at e
    · cases e
    · split at e
      · injection e with e; injection e with e _; omega
      · have ih := dtyp_le ns f
        split at e
        · cases e
        · next m1 nx1 h1 =>
          have hm1 := dlist_le (F := f) ih _ _ 0 (Nat.zero_le _) h1
          split at e
          · cases e
          · next m2 nx2 h2 =>
            have hm2 := dlist_le (F := f) ih _ _ m1 hm1 h2
            injection e with e; injection e with e _; omega
theorem dlist_mono {D : DT} : ∀ (l : List Int) (next most : Nat) {m nx : Nat}, dlist D l next most = some (m, nx) → most ≤ m
  | [], next, most, m, nx, e => by rw [dlist] at e; injection e with e; injection e with e _; omega
  | n :: l, next, most, m, nx, e => by
    rw [dlist] at e
    split at e
    · cases e
    · have := dlist_mono l _ _ e; omega
/-- the contract of deep, of so much fuel -/
def DpC (B : Nat) (v : Value) (ns : List Ne) (f : Nat) : Prop := ∀ (n : Int) (next d nx p : Nat) (w : World), Sch B w v ns → Blk w p #[.int .i64 (next : Int)] 3 → B ≤ p → dtyp ns f n next = some (d, nx) →
  Calls Tryd.prog 24 #[.agg #[v], .int .i64 n, .pointer (some ⟨p, 0, none⟩)] w fun e w' => e = .returned (.int .i64 (d : Int)) ∧ Chg (fun k => k = p) w w' ∧ Blk w' p #[.int .i64 (nx : Int)] 3
theorem chg_below {B : Nat} {S : Nat → Prop} {w w' : World} (h : Chg S w w') (hS : ∀ k, S k → B ≤ k) (hB : B ≤ w.heap.size) : Below B w w' := ⟨h.os, h.tape, h.output, h.size, fun k hk => h.block k (by omega) (fun e => by have := hS k e; omega)⟩
def DlAt (p q : Nat) (v : Value) (w0 : World) (D : DT) (l : List Int) (m nx : Nat) (i : Nat) (v7 : Value) (wr : World) : Prop := Chg (fun k => k = p) w0 wr ∧ Blk wr q #[v] 24 ∧ ∃ next most : Nat, v7 = .int .i64 (most : Int) ∧ Blk wr p #[.int .i64 (next : Int)] 3 ∧ Hid (dlist D (l.drop i) next most = some (m, nx))

set_option maxRecDepth 100000 in
set_option maxHeartbeats 2000000 in
theorem deep_any {B : Nat} {v : Value} {ns : List Ne} {f : Nat} (hf : f ≤ 19) (H : DpC B v ns f) : DpC B v ns (f + 1) := by
  intro n next d nx p w hS hb hBp hd
  have hBw : B ≤ w.heap.size := by have := hb.lt; omega
  rw [dtyp] at hd
  split at hd
  · cases hd
  next hrg =>
  simp only [not_or, Int.not_lt, Int.not_le] at hrg
  obtain ⟨hr0, hr1, hr2⟩ := hrg
  obtain ⟨j, rfl⟩ := Int.eq_ofNat_of_zero_le hr0
  have hjl : j < ns.length := by omega
  obtain ⟨x, hx⟩ : ∃ x, ns[j]? = some x := ⟨_, List.getElem?_eq_getElem hjl⟩
  have hg : ns.getD j neD = x := by simp [List.getD, hx]
  obtain ⟨b, off, c, As, cs, Ai, ci, Af, cf, rfl, hbB, hsub, hcell⟩ := hS.node2 j x hx
  have hcm : ns.length ≤ 9223372036854775807 := by obtain ⟨vs, _, ⟨A, c, e, _, _, q1, q2, _⟩, _⟩ := hS; unfold maxLen at q2; omega
  obtain ⟨ln, hln⟩ : ∃ z, Hid (ns.length = z) := ⟨_, rfl⟩
  rw [hln.out] at hjl hcm H hS ⊢
  obtain ⟨q, hq⟩ : ∃ z, Hid (w.heap.size = z) := ⟨_, rfl⟩
  obtain ⟨w1, hw1⟩ : ∃ z, Hid (w.alloc (.cells #[.slice (some ⟨b, off, none⟩) ln c] 24) = z) := ⟨_, rfl⟩
  have hx1 : Ext w w1 := by rw [← hw1.out]; exact (Ext.refl w).alloc _
  have hbq1 : Blk w1 q #[.slice (some ⟨b, off, none⟩) ln c] 24 := by rw [← hw1.out, ← hq.out]; exact Blk.new w _ _
  have hb1 := hb.ext hx1
  have hqp : ¬ q = p := blk_ne hbq1 hb1 (by decide)
  have cp1 : (w.alloc (.cells #[.slice (some ⟨b, off, none⟩) ln c] 24)).cell? ⟨p, 0, none⟩ = some (.int .i64 (next : Int)) := by rw [hw1.out]; exact hb1.cell 0
  split at hd
  · next hlt =>
    injection hd with hd; injection hd with hd hd2
    subst hd; subst hd2
    clear hcell
    go_enter Tryd.func24, Tryd.ntmps24
    go_wp2_with fail
    rw [hw1.out]
    go_ret
    exact ⟨rfl, Chg.ofExt hx1, hb1⟩
  · next hge =>
    rw [Int.toNat_natCast, hg] at hd
    obtain rfl : next = j := by omega
    split at hd
    · cases hd
    next m1 nx1 h1 =>
    split at hd
    · cases hd
    next m2 nx2 h2 =>
    injection hd with hd; injection hd with hd hd2
    subst hd; subst hd2
    have hm1 := dlist_le (F := f) (dtyp_le ns f) _ _ 0 (Nat.zero_le _) h1
    have hm2 := dlist_le (F := f) (dtyp_le ns f) _ _ m1 hm1 h2
    obtain ⟨D, hD⟩ : ∃ D, D = dtyp ns f := ⟨_, rfl⟩
    have H : ∀ (n : Int) (next d nx p : Nat) (w : World), Sch B w (.slice (some ⟨b, off, none⟩) ln c) ns → Blk w p #[.int .i64 (next : Int)] 3 → B ≤ p → D n next = some (d, nx) → Calls Tryd.prog 24 #[.agg #[.slice (some ⟨b, off, none⟩) ln c], .int .i64 n, .pointer (some ⟨p, 0, none⟩)] w fun e w' => e = .returned (.int .i64 (d : Int)) ∧ Chg (fun k => k = p) w w' ∧ Blk w' p #[.int .i64 (nx : Int)] 3 := by rw [hD]; exact H
    rw [← hD] at h1 h2
    have hDle : ∀ n next d nx, D n next = some (d, nx) → d ≤ f := by rw [hD]; exact dtyp_le ns f
    clear hD
    have hjnI : ¬ (next : Int) < (next : Int) := by omega
    have hwr : IntKind.i64.wrap ((next : Int) + 1) = (next : Int) + 1 := by rw [IntKind.wrap_i64]; omega
    have fp1 : (w.alloc (.cells #[.slice (some ⟨b, off, none⟩) ln c] 24)).frozen? ⟨p, 0, none⟩ = false := by rw [hw1.out]; exact hb1.frozen 0
    obtain ⟨w2, hw2⟩ : ∃ z, Hid (w1.setCell ⟨p, 0, none⟩ (.int .i64 ((next : Int) + 1)) = z) := ⟨_, rfl⟩
    have hch2 : Chg (fun k => k = p) w w2 := by rw [← hw2.out]; exact (Chg.ofExt hx1).set (S := fun k => k = p) (p := ⟨p, 0, none⟩) (.inl rfl) _
    have hb2 : Blk w2 p #[.int .i64 ((next + 1 : Nat) : Int)] 3 := by rw [← hw2.out]; exact hb1.set 0 _
    have hbq2 : Blk w2 q #[.slice (some ⟨b, off, none⟩) ln c] 24 := by rw [← hw2.out]; exact hbq1.far (p := ⟨p, 0, none⟩) hqp _
    have hlowS : ∀ W, Chg (fun k => k = p) w W → Below B w W := fun W hW => chg_below hW (fun k e => by rw [e]; exact hBp) hBw
    have hitems : Sl B w (.slice Ai x.items.length ci) x.items.length (intsZ x.items) := hsub.items
    have hfields : Sl B w (.slice Af x.fields.length cf) x.fields.length (fldsZ x.fields) := hsub.fields
    obtain ⟨ni, hni⟩ : ∃ z, Hid (x.items.length = z) := ⟨_, rfl⟩
    obtain ⟨nf, hnf⟩ : ∃ z, Hid (x.fields.length = z) := ⟨_, rfl⟩
    rw [hni.out] at hitems hcell
    rw [hnf.out] at hfields hcell
    have hc4 := (hcell w2 (hlowS w2 hch2)).2.2.2.2.1
    have hcq : w2.cell? ⟨q, 0, none⟩ = some (.slice (some ⟨b, off, none⟩) ln c) := hbq2.cell 0
    rw [← hw2.out, ← hw1.out] at hc4 hcq
    rw [← hq.out] at hcq
    have hjI : (next : Int) < (ln : Int) := by omega
    have hstart : DlAt p q (.slice (some ⟨b, off, none⟩) ln c) w D x.items m1 nx1 0 (.int .i64 0) w2 := ⟨hch2, hbq2, next + 1, 0, rfl, hb2, by rw [List.drop_zero]; exact Lib.hid h1⟩
    have hni2 : ni ≤ 9223372036854775807 := by obtain ⟨A, c, e, _, _, q1, q2, _⟩ := hitems; unfold maxLen at q2; omega
    have hnf2 : nf ≤ 9223372036854775807 := by obtain ⟨A, c, e, _, _, q1, q2, _⟩ := hfields; unfold maxLen at q2; omega
    clear hb2 hbq2 hb1 hbq1
    go_enter Tryd.func24, Tryd.ntmps24
    go_wp2_with fail
    rw [hw1.out, hq.out, hw2.out]
    go_loopw [7, 9, 29, 30, 31, 32, 33, 34, 35, 36, 37, 38, 39] (fun v7 v9 v29 v30 v31 v32 v33 v34 v35 v36 v37 v38 v39 wr => ∃ i : Nat, i ≤ ni ∧ v29 = .int .i64 i ∧ DlAt p q (.slice (some ⟨b, off, none⟩) ln c) w D x.items m1 nx1 i v7 wr) (fun _ _ v29 _ _ _ _ _ _ _ _ _ _ _ => ni - (intOf v29).toNat)
    case atStart => exact ⟨0, by omega, rfl, hstart⟩
    case round =>
      obtain ⟨i, hi, rfl, hch, hbq, nxt, most, rfl, hbp, hdl⟩ := hrel
      clear hstart
      have hlow := hlowS wr hch
      obtain ⟨A1, c1, e1, hnc, hcm1, _, hat⟩ := hitems.at_
      injection e1 with e1 _ e1'
      subst e1; subst e1'
      have hmm := dlist_mono _ _ _ hdl.out
      by_cases hin : i < ni
      · have hin' : (i : Int) < (ni : Int) := by omega
        obtain ⟨y, hy⟩ : ∃ y, x.items[i]? = some y := ⟨_, List.getElem?_eq_getElem (by have := hni.out; omega)⟩
        have hyz : (intsZ x.items)[i]? = some (.int .i64 y) := by unfold intsZ; rw [List.getElem?_map, hy]; rfl
        obtain ⟨b1, o1, rfl, hb1, hc1⟩ := hat i _ hyz
        have d1 : wr.cell? ⟨b1, o1 + i, none⟩ = some (.int .i64 y) := hc1 wr hlow i _ hyz
        have hdrop : x.items.drop i = y :: x.items.drop (i + 1) := List.drop_eq_getElem?_toList_append .. |>.trans (by rw [hy]; rfl)
        have hd2 := hdl.out
        rw [hdrop, dlist] at hd2
        split at hd2
        · cases hd2
        next dd nx3 hdd =>
        have hcall := H y nxt dd nx3 p wr (hS.below hlow) hbp hBp hdd
        have hdd2 := hDle _ _ _ _ hdd
        have cq : wr.cell? ⟨q, 0, none⟩ = some (.slice (some ⟨b, off, none⟩) ln c) := hbq.cell 0
        have hd3 := Lib.hid hd2
        clear hd2 hdd hdrop hdl hy hyz hc1
        go_wp2_with fail
        refine hcall.mono ?_
        rintro e w4 ⟨rfl, hch4, hbp4⟩
        have hbq4 := hch4.blk hbq hqp
        have hchT : Chg (fun k => k = p) w w4 := hch.trans hch4 (fun _ _ e => e)
        go_wp2_with fail
        exact ⟨⟨i + 1, by omega, by go_num, hchT, hbq4, nx3, max most dd, by congr 1; omega, hbp4, hd3⟩, by simp [intOf]; omega⟩
      · obtain rfl : i = ni := by omega
        have hfin : some (most, nxt) = some (m1, nx1) := by have := hdl.out; rw [← hni.out, List.drop_length, dlist] at this; exact this
        injection hfin with hfin; injection hfin with hfin hfin2
        subst hfin; subst hfin2
        have hstart : DlAt p q (.slice (some ⟨b, off, none⟩) ln c) w D (x.fields.map fun f => f.2.2) m2 nx2 0 (.int .i64 (most : Int)) wr := ⟨hch, hbq, nxt, most, rfl, hbp, by rw [List.drop_zero]; exact Lib.hid h2⟩
        have hc5 := (hcell wr hlow).2.2.2.2.2
        have cq : wr.cell? ⟨q, 0, none⟩ = some (.slice (some ⟨b, off, none⟩) ln c) := hbq.cell 0
        clear hdl hbp hbq hch hlow
        go_wp2_with fail
        go_loopw [7, 11, 47, 48, 49, 50, 51, 52, 53, 54, 55, 56, 57, 58] (fun v7 v11 v47 v48 v49 v50 v51 v52 v53 v54 v55 v56 v57 v58 wz => ∃ i : Nat, i ≤ nf ∧ v47 = .int .i64 i ∧ DlAt p q (.slice (some ⟨b, off, none⟩) ln c) w D (x.fields.map fun f => f.2.2) m2 nx2 i v7 wz) (fun _ _ v47 _ _ _ _ _ _ _ _ _ _ _ _ => nf - (intOf v47).toNat)
        case atStart => exact ⟨0, by omega, rfl, hstart⟩
        case round =>
          clear hat hmm
          obtain ⟨i, hi, rfl, hch, hbq, nxt, most, rfl, hbp, hdl⟩ := hrel
          clear hstart
          have hlow := hlowS _ hch
          obtain ⟨A1, c1, e1, hnc, hcm1, _, hat⟩ := hfields.at_
          injection e1 with e1 _ e1'
          subst e1; subst e1'
          have hmm := dlist_mono _ _ _ hdl.out
          by_cases hin : i < nf
          · have hin' : (i : Int) < (nf : Int) := by omega
            obtain ⟨⟨fn, fh, y⟩, hy⟩ : ∃ y, x.fields[i]? = some y := ⟨_, List.getElem?_eq_getElem (by have := hnf.out; omega)⟩
            have hyz := fldsZ_at x.fields i _ hy
            obtain ⟨b1, o1, rfl, hb1, hc1⟩ := hat (i * 3 + 0) (.string fn) (by rw [hyz 0 (by omega)]; rfl)
            have d0 : wr.cell? ⟨b1, o1 + i * 3, none⟩ = some (.string fn) := by have := hc1 wr hlow (i * 3 + 0) (.string fn) (by rw [hyz 0 (by omega)]; rfl); simpa [Nat.add_assoc] using this
            have d1 : wr.cell? ⟨b1, o1 + i * 3 + 1, none⟩ = some (.bool fh) := by have := hc1 wr hlow (i * 3 + 1) (.bool fh) (by rw [hyz 1 (by omega)]; rfl); simpa [Nat.add_assoc] using this
            have d2 : wr.cell? ⟨b1, o1 + i * 3 + 2, none⟩ = some (.int .i64 y) := by have := hc1 wr hlow (i * 3 + 2) (.int .i64 y) (by rw [hyz 2 (by omega)]; rfl); simpa [Nat.add_assoc] using this
            have hdrop : (x.fields.map fun f => f.2.2).drop i = y :: (x.fields.map fun f => f.2.2).drop (i + 1) := List.drop_eq_getElem?_toList_append .. |>.trans (by rw [List.getElem?_map, hy]; rfl)
            have hd2 := hdl.out
            rw [hdrop, dlist] at hd2
            split at hd2
            · cases hd2
            next dd nx3 hdd =>
            obtain ⟨q7, hq7⟩ : ∃ z, Hid (wr.heap.size = z) := ⟨_, rfl⟩
            obtain ⟨wy, hwy⟩ : ∃ z, Hid (wr.alloc (.cells #[.string fn, .bool fh, .int .i64 y] 70) = z) := ⟨_, rfl⟩
            have hxy : Ext wr wy := by rw [← hwy.out]; exact (Ext.refl wr).alloc _
            have hchy : Chg (fun k => k = p) w wy := hch.trans (Chg.ofExt (S := fun _ => False) hxy) (fun _ _ e => e.elim)
            have hcall := H y nxt dd nx3 p wy (hS.below (hlowS _ hchy)) (hbp.ext hxy) hBp hdd
            have hdd2 := hDle _ _ _ _ hdd
            have cq : (wr.alloc (.cells #[.string fn, .bool fh, .int .i64 y] 70)).cell? ⟨q, 0, none⟩ = some (.slice (some ⟨b, off, none⟩) ln c) := by rw [hwy.out]; exact (hbq.ext hxy).cell 0
            have hd3 := Lib.hid hd2
            clear hd2 hdd hdrop hdl hy hyz hc1
            go_wp2_with fail
            rw [hwy.out]
            refine hcall.mono ?_
            rintro e w4 ⟨rfl, hch4, hbp4⟩
            have hbq4 := hch4.blk (hbq.ext hxy) hqp
            have hchT : Chg (fun k => k = p) w w4 := hchy.trans hch4 (fun _ _ e => e)
            go_wp2_with fail
            exact ⟨⟨i + 1, by omega, by go_num, hchT, hbq4, nx3, max most dd, by congr 1; omega, hbp4, hd3⟩, by simp [intOf]; omega⟩
          · obtain rfl : i = nf := by omega
            have hfin : some (most, nxt) = some (m2, nx2) := by have := hdl.out; rw [List.drop_eq_nil_of_le (by rw [List.length_map]; have := hnf.out; omega), dlist] at this; exact this
            injection hfin with hfin; injection hfin with hfin hfin2
            subst hfin; subst hfin2
            have hwr2 : IntKind.i64.wrap ((most : Int) + 1) = (most : Int) + 1 := by rw [IntKind.wrap_i64]; omega
            clear hdl
            go_wp2_with fail
            go_ret
            exact ⟨rfl, hch, hbp⟩
theorem deep_all {B : Nat} {v : Value} {ns : List Ne} : ∀ f, f ≤ 20 → DpC B v ns f
  | 0, _ => fun n next d nx p w hS hb hBp hd => by cases hd
  | f + 1, h => deep_any (by omega) (deep_all f (by omega))
end Go.Proofs.YtejcacbbhijdcaaDoor.Pr
/- parse: what is exported; what lives. -/
namespace Go.Proofs.YtejcacbbhijdcaaDoor.Pr
open Go.ChangeShapes Go.WideShapes Go.ChangeAt Go.RowKit
open Base Lx Mi
set_option linter.unusedVariables false
set_option linter.unusedSimpArgs false

theorem resParse {w : World} {tmps : Array Value} {a : Nat} {u v x : Value} (ha : tmps[2]?.getD undef = .pointer (some ⟨a, 0, none⟩)) (hb : tmps[3]?.getD undef = v) (hc : tmps[4]?.getD undef = x)
    (h1 : w.cell? ⟨a, 0, none⟩ = some u) : (results Tryd.f6 tmps).run Tryd.prog w = .ok (.tuple #[.agg #[u], v, x]) w := by
  simp [results, Tryd.f6, go_sem, ha, hb, hc, h1]
set_option maxRecDepth 100000 in
theorem parse_any (s : ByteArray) (hs : s.size ≤ 140737488351232) (w : World) (hwd : Wd w) (h0 : 0 < w.heap.size) : Calls Tryd.prog 6 #[.string s] w fun e w' => PP (parseP s) w e w' := by
  obtain ⟨r, hr⟩ : ∃ z, Hid (parseP s = z) := ⟨_, Lib.hid rfl⟩
  obtain ⟨w1, hw1⟩ : ∃ z, Hid (w.alloc (.cells #[.slice none 0 0] 24) = z) := ⟨_, rfl⟩
  obtain ⟨q, hq⟩ : ∃ z, Hid (w.heap.size = z) := ⟨_, rfl⟩
  have hx1 : Ext w w1 := by rw [← hw1.out]; exact (Ext.refl w).alloc _
  have hb1 : Blk w1 q #[.slice none 0 0] 24 := by rw [← hw1.out, ← hq.out]; exact Blk.new w _ _
  have hc := parsed_any s hs w1 (hwd.ext hx1) (by have := hx1.size; omega)
  rw [hr.out] at hc ⊢
  obtain ⟨PO, hPO⟩ : ∃ PO : Ending → World → Prop, Hid ((fun e w' => PP r w e w') = PO) := ⟨_, Lib.hid rfl⟩
  rw [hPO.out]
  go_enter Tryd.func6, Tryd.ntmps6
  go_wp2_with fail
  rw [hw1.out, hq.out]
  refine hc.mono ?_
  rintro e w2 ⟨v, vs, rfl, hnd, hx2⟩
  obtain ⟨A, c, rfl, jj1, jj2, jj3, jj4⟩ := Rd.of_own hnd.row
  clear jj1 jj2 jj3 jj4 hc
  obtain ⟨n, hn⟩ : ∃ z, Hid (r.1.length = z) := ⟨_, Lib.hid rfl⟩
  rw [hn.out] at hnd ⊢
  have hb2 := hb1.ext hx2
  have c2 : w2.cell? ⟨q, 0, none⟩ = some (.slice none 0 0) := hb2.cell 0
  have f2 := hb2.frozen 0
  have hb3 : Blk (w2.setCell ⟨q, 0, none⟩ (.slice A n c)) q #[.slice A n c] 24 := hb2.set 0 _
  have hsz := hx1.size
  have hqs := hq.out
  have hs1 : w1.heap.size = w.heap.size + 1 := by rw [← hw1.out]; simp
  have hlow : ∀ k, k = q → k < w1.heap.size := fun k e => by omega
  have hnF := (hnd.low (Chg.one w2 q 0 (.slice A n c)) hlow).mono hsz
  have hxF : Ext w (w2.setCell ⟨q, 0, none⟩ (.slice A n c)) := (hx1.trans hx2).setCell (by show w.heap.size ≤ q; omega) _
  clear hsz hqs hs1 hlow
  go_wp2_with fail
  refine bodyPost_ret (resParse rfl rfl rfl (hb3.cell 0)) rfl ?_
  rw [← hPO.out]
  exact ⟨_, _, rfl, hnF, hxF⟩
set_option maxRecDepth 100000 in
theorem show_any (v : Value) (ns : List Ne) (w : World) (hS : Sch w.heap.size w v ns) (hwd : Wd w) (hpow : Pow w) (hL : showLen ns ≤ 100000000) :
    Calls Tryd.prog 8 #[.agg #[v]] w fun e w' => e = .returned (shV (showP ns)) ∧ Ext w w' := by
  obtain ⟨w1, hw1⟩ : ∃ z, Hid (w.alloc (.cells #[v] 24) = z) := ⟨_, rfl⟩
  have hx1 : Ext w w1 := by rw [← hw1.out]; exact (Ext.refl w).alloc _
  have hc := shown_any v ns w1 ((hS.below hx1).mono hx1.size) (hwd.ext hx1) (hpow.ext hx1) hL
  obtain ⟨o, ho⟩ : ∃ z, Hid (showP ns = z) := ⟨_, Lib.hid rfl⟩
  rw [ho.out] at hc ⊢
  obtain ⟨A, c, rfl⟩ := hS.slice
  go_enter Tryd.func8, Tryd.ntmps8
  go_wp2_with fail
  rw [hw1.out]
  refine hc.mono ?_
  rintro e w2 ⟨rfl, hx2⟩
  cases o with
  | none =>
    rw [show shV none = Value.tuple #[.string ⟨#[]⟩, .int .i64 1] from rfl]
    go_wp2_with fail
    go_ret2
    exact ⟨rfl, hx1.trans hx2⟩
  | some s =>
    rw [show shV (some s) = Value.tuple #[.string ⟨s.toArray⟩, .int .i64 0] from rfl]
    go_wp2_with fail
    go_ret2
    exact ⟨rfl, hx1.trans hx2⟩
set_option maxRecDepth 100000 in
theorem depth_any (v : Value) (ns : List Ne) (w : World) (hS : Sch w.heap.size w v ns) (hwd : Wd w) (hpow : Pow w) (hL : showLen ns ≤ 100000000) :
    Calls Tryd.prog 15 #[.agg #[v]] w fun e w' => e = .returned (.int .i64 (depthP ns : Int)) ∧ Ext w w' := by
  obtain ⟨A, c, rfl⟩ := hS.slice
  obtain ⟨n, hn⟩ : ∃ z, Hid (ns.length = z) := ⟨_, Lib.hid rfl⟩
  rw [hn.out] at hS ⊢
  obtain ⟨w1, hw1⟩ : ∃ z, Hid (w.alloc (.cells #[.slice A n c] 24) = z) := ⟨_, rfl⟩
  obtain ⟨q, hq⟩ : ∃ z, Hid (w.heap.size = z) := ⟨_, rfl⟩
  have hx1 : Ext w w1 := by rw [← hw1.out]; exact (Ext.refl w).alloc _
  have hb1 : Blk w1 q #[.slice A n c] 24 := by rw [← hw1.out, ← hq.out]; exact Blk.new w _ _
  have hc := shown_any _ ns w1 ((hS.below hx1).mono hx1.size) (hwd.ext hx1) (hpow.ext hx1) hL
  obtain ⟨o, ho⟩ : ∃ z, Hid (showP ns = z) := ⟨_, Lib.hid rfl⟩
  rw [ho.out] at hc
  obtain ⟨D, hD⟩ : ∃ z, Hid (depthP ns = z) := ⟨_, Lib.hid rfl⟩
  rw [hD.out]
  cases o with
  | none =>
    have hD0 : D = 0 := by rw [← hD.out, depthP, ho.out]
    subst hD0
    go_enter Tryd.func15, Tryd.ntmps15
    go_wp2_with fail
    rw [hw1.out]
    refine hc.mono ?_
    rintro e w2 ⟨rfl, hx2⟩
    rw [show shV none = Value.tuple #[.string ⟨#[]⟩, .int .i64 1] from rfl]
    go_wp2_with fail
    go_ret
    exact ⟨rfl, hx1.trans hx2⟩
  | some s =>
    obtain ⟨d, hd1, hd2⟩ := show_deep ho.out
    have hDd : D = d := by rw [← hD.out, hd2]
    subst hDd
    have hd1 := Lib.hid hd1
    clear hd2 hD
    go_enter Tryd.func15, Tryd.ntmps15
    go_wp2_with fail
    rw [hw1.out, hq.out]
    refine hc.mono ?_
    rintro e w2 ⟨rfl, hx2⟩
    rw [show shV (some s) = Value.tuple #[.string ⟨s.toArray⟩, .int .i64 0] from rfl]
    obtain ⟨p, hp⟩ : ∃ z, Hid (w2.heap.size = z) := ⟨_, rfl⟩
    obtain ⟨w3, hw3⟩ : ∃ z, Hid (w2.alloc (.cells #[.int .i64 0] 3) = z) := ⟨_, rfl⟩
    have hx3 : Ext w2 w3 := by rw [← hw3.out]; exact (Ext.refl w2).alloc _
    have hb3 : Blk w3 p #[.int .i64 0] 3 := by rw [← hw3.out, ← hp.out]; exact Blk.new w2 _ _
    have hxT := (hx1.trans hx2).trans hx3
    have hq3 : (w2.alloc (.cells #[.int .i64 0] 3)).cell? ⟨q, 0, none⟩ = some (.slice A n c) := by rw [hw3.out]; exact ((hb1.ext hx2).ext hx3).cell 0
    have hdp := deep_all (B := w.heap.size) 20 (Nat.le_refl _) 0 0 D ns.length p w3 (hS.below hxT) hb3 (by rw [← hp.out]; exact (hx1.trans hx2).size) hd1.out
    rw [hn.out] at hdp
    go_wp2_with fail
    rw [hw3.out, hp.out]
    refine hdp.mono ?_
    rintro e w4 ⟨rfl, hch4, _⟩
    have hx4 : Ext w w4 := ((Chg.ofExt (S := fun _ => False) hxT).trans hch4 (fun i hi e => by have := hp.out; have := (hx1.trans hx2).size; omega)).toExt (fun _ _ e => e)
    go_wp2_with fail
    go_ret
    exact ⟨rfl, hx4⟩

theorem live_show : showP ((parseP tLive).1.map Nd.toE) = some (bs tLive) := by decide +kernel
theorem live_depth : depthP ((parseP tLive).1.map Nd.toE) = 3 := by decide +kernel
theorem live_len : showLen ((parseP tLive).1.map Nd.toE) ≤ 100000000 := by decide +kernel
theorem live_n : (parseP tLive).1.length = 3 ∧ (parseP tLive).2.1 = 0 ∧ (parseP tLive).2.2 = 0 := by decide +kernel
set_option maxRecDepth 100000 in
theorem lives_any (w : World) (hwd : Wd w) (hpow : Pow w) : Calls Tryd.prog 7 #[] w fun e w' => e = .returned (.bool true) ∧ Ext w w' := by
  have hpar := parse_any tLive (by decide) w hwd (by have := hpow.lt; omega)
  obtain ⟨r, hr⟩ : ∃ z, Hid (parseP tLive = z) := ⟨_, Lib.hid rfl⟩
  obtain ⟨l1, l2, l3⟩ := live_n
  have l4 := live_show
  have l5 := live_depth
  have l6 := live_len
  have l7 := parse_rng tLive
  rw [hr.out] at hpar l1 l2 l3 l4 l5 l6 l7
  replace l1 := Lib.hid l1
  replace l2 := Lib.hid l2
  replace l3 := Lib.hid l3
  replace l4 := Lib.hid l4
  replace l5 := Lib.hid l5
  replace l7 := Lib.hid l7
  go_enter Tryd.func7, Tryd.ntmps7
  go_wp2_with fail
  refine hpar.mono ?_
  rintro e w1 ⟨v, vs, rfl, hnd, hx1⟩
  have hS1 := Sch.ofNds hnd (Nat.le_refl _) l7.out
  obtain ⟨A, c, rfl, jj1, jj2, jj3, jj4⟩ := Rd.of_own hnd.row
  clear jj1 jj2 jj3 jj4 hpar hnd
  rw [l1.out] at hS1
  rw [l1.out, l2.out, l3.out]
  obtain ⟨q, hq⟩ : ∃ z, Hid (w1.heap.size = z) := ⟨_, rfl⟩
  obtain ⟨w2, hw2⟩ : ∃ z, Hid (w1.alloc (.cells #[.slice A 3 c] 24) = z) := ⟨_, rfl⟩
  have hx2 : Ext w1 w2 := by rw [← hw2.out]; exact (Ext.refl w1).alloc _
  have hb2 : Blk w2 q #[.slice A 3 c] 24 := by rw [← hw2.out, ← hq.out]; exact Blk.new w1 _ _
  have hS2 : Sch w2.heap.size w2 (.slice A 3 c) (r.1.map Nd.toE) := (hS1.below hx2).mono hx2.size
  have hx02 := hx1.trans hx2
  have hsh := show_any _ _ w2 hS2 (hwd.ext hx02) (hpow.ext hx02) l6
  rw [l4.out] at hsh
  go_wp2_with fail
  rw [hw2.out, hq.out]
  refine hsh.mono ?_
  rintro e w3 ⟨rfl, hx3⟩
  rw [show shV (some (bs tLive)) = Value.tuple #[.string ⟨#[114, 101, 99, 111, 114, 100, 32, 112, 123, 97, 63, 58, 40, 110, 117, 108, 108, 124, 112, 41, 59, 125]⟩, .int .i64 0] from rfl]
  have hx03 := hx02.trans hx3
  have hdp := depth_any _ _ w3 ((hS2.below hx3).mono hx3.size) (hwd.ext hx03) (hpow.ext hx03) l6
  rw [l5.out] at hdp
  have hc3 : w3.cell? ⟨q, 0, none⟩ = some (.slice A 3 c) := (hb2.ext hx3).cell 0
  clear hsh hS1 hS2
  go_wp2_with fail
  refine hdp.mono ?_
  rintro e w4 ⟨rfl, hx4⟩
  go_wp2_with fail
  go_ret
  exact ⟨rfl, hx03.trans hx4⟩
end Go.Proofs.YtejcacbbhijdcaaDoor.Pr
/- parse: reading asks no places: plain. -/
namespace Go.Proofs.YtejcacbbhijdcaaDoor.Pr
open Lx
set_option linter.unusedVariables false

/-- a token without its place -/
def er (t : Tok) : Tok := ⟨t.k, t.s, 0⟩
def PS.er (s : PS) : PS := { s with l := s.l.map Pr.er }
def Res.er {α : Type} : Res α → Res α
  | .ok a s => .ok a s.er
  | .bad _ w => .bad 0 w
theorem hd_er (l : List Tok) : hd (l.map er) = er (hd l) := by cases l <;> rfl
theorem isT_er (s : PS) (x : ByteArray) : isT s.er x = isT s x := by
  unfold isT
  rw [show s.er.l = s.l.map Pr.er from rfl, hd_er]
  rfl
theorem on_er (s : PS) : s.er.on = s.on.er := by
  unfold PS.on PS.er
  simp [List.map_tail]
theorem failR_er {α : Type} (s : PS) (w : Nat) : (failR s.er w : Res α) = (failR s w).er := by
  unfold failR
  rw [show s.er.l = s.l.map Pr.er from rfl, hd_er]
  rfl
theorem bind_er {α β : Type} {r r' : Res α} {f f' : α → PS → Res β} (h : r' = r.er) (hf : ∀ a s, f' a s.er = (f a s).er) : r'.bind f' = (r.bind f).er := by
  subst h
  cases r with
  | ok a s => exact hf a s
  | bad a w => rfl
theorem mustR_er (s : PS) (x : ByteArray) : mustR s.er x = (mustR s x).er := by
  unfold mustR
  rw [isT_er, on_er, failR_er]
  split <;> rfl
theorem goesR_er (s : PS) (x : ByteArray) : goesR s.er x = ((goesR s x).1, (goesR s x).2.er) := by
  unfold goesR
  rw [isT_er, on_er]
  split <;> rfl
theorem nameR_er (s : PS) (th : ByteArray → Bool) : nameR s.er th = (nameR s th).er := by
  unfold nameR
  rw [failR_er, failR_er, on_er, show s.er.l = s.l.map Pr.er from rfl, hd_er, show (Pr.er (hd s.l)).k = (hd s.l).k from rfl, show (Pr.er (hd s.l)).s = (hd s.l).s from rfl]
  split
  · rfl
  · split <;> rfl
theorem kindR_er (s : PS) : kindR s.er = kindR s := by
  unfold kindR
  rw [isT_er, isT_er, isT_er, show s.er.l = s.l.map Pr.er from rfl, hd_er]
  rfl
theorem setN_er (s : PS) (n : Nat) (f : Nd → Nd) : s.er.setN n f = (s.setN n f).er := rfl
def TE (T : Bool → List Nat → PS → Res Nat) : Prop := ∀ u a s, T u a s.er = (T u a s).er
section
variable {T : Bool → List Nat → PS → Res Nat}
theorem itemR_er (hT : TE T) (s : PS) (n : Nat) (x : ByteArray) : itemR T s.er n x = (itemR T s n x).er := by
  unfold itemR
  refine bind_er (hT _ _ _) fun a s1 => ?_
  rw [setN_er, mustR_er]
theorem unionR_er (hT : TE T) (n : Nat) : ∀ (m : Nat) (l : List Nat) (s : PS), unionR T n m l s.er = (unionR T n m l s).er
  | 0, l, s => by rw [unionR, unionR, failR_er]
  | m + 1, l, s => by
    rw [unionR, unionR]
    refine bind_er (hT _ _ _) fun a s1 => ?_
    rw [isT_er, on_er, setN_er]
    split
    · rfl
    · exact bind_er (mustR_er _ _) fun _ s2 => unionR_er hT n m _ s2
theorem symsR_er (n : Nat) : ∀ (m : Nat) (l : List ByteArray) (s : PS), symsR n m l s.er = (symsR n m l s).er
  | 0, l, s => by rw [symsR, symsR, failR_er]
  | m + 1, l, s => by
    rw [symsR, symsR]
    refine bind_er (nameR_er _ _) fun a s1 => ?_
    rw [isT_er, on_er, setN_er]
    split
    · rfl
    · exact bind_er (mustR_er _ _) fun _ s2 => symsR_er n m _ s2
theorem fieldsR_er (hT : TE T) (n : Nat) : ∀ (m : Nat) (l : List (ByteArray × Bool × Nat)) (s : PS), fieldsR T n m l s.er = (fieldsR T n m l s).er
  | 0, l, s => by rw [fieldsR, fieldsR, failR_er]
  | m + 1, l, s => by
    rw [fieldsR, fieldsR, isT_er, on_er, setN_er]
    split
    · rfl
    · refine bind_er (nameR_er _ _) fun x s1 => ?_
      rw [goesR_er]
      refine bind_er (mustR_er _ _) fun _ s2 => ?_
      refine bind_er (hT _ _ _) fun t s3 => ?_
      exact bind_er (mustR_er _ _) fun _ s4 => fieldsR_er hT n m _ s4
theorem er_len (s : PS) : s.er.l.length = s.l.length := by show (s.l.map Pr.er).length = _; rw [List.length_map]
theorem definedR_er (hT : TE T) (s : PS) (n : Nat) (k : Int) : definedR T s.er n k = (definedR T s n k).er := by
  unfold definedR
  refine bind_er (nameR_er _ _) fun x s1 => ?_
  rw [show s1.er.called n x = (s1.called n x).er from rfl]
  generalize s1.called n x = s2
  simp only
  split
  · refine bind_er (mustR_er _ _) fun _ s3 => ?_
    rw [er_len, symsR_er]
  · split
    · rw [failR_er, on_er, setN_er, show s2.er.l = s2.l.map Pr.er from rfl, hd_er, show (Pr.er (hd s2.l)).k = (hd s2.l).k from rfl, show (Pr.er (hd s2.l)).s = (hd s2.l).s from rfl]
      split <;> rfl
    · refine bind_er (mustR_er _ _) fun _ s3 => ?_
      rw [er_len, fieldsR_er hT]
end
theorem typedR_er : ∀ (fuel : Nat), TE (typedR fuel)
  | fuel, u, a, s => by
    rw [typedR.eq_def, typedR.eq_def fuel u a s]
    simp only
    rw [kindR_er]
    split
    · exact failR_er _ _
    · next k hk =>
      rw [show s.er.l = s.l.map Pr.er from rfl, hd_er, show (Pr.er (hd s.l)).s = (hd s.l).s from rfl, show s.er.nm = s.nm from rfl, show gateR fuel u a s.er k (s.nm (hd s.l).s) = gateR fuel u a s k (s.nm (hd s.l).s) from rfl]
      split
      · exact failR_er _ _
      · split
        · show Res.ok _ s.er.on = _
          rw [on_er]; rfl
        · rw [on_er, show s.er.ns = s.ns from rfl, show ({ s.on.er with ns := s.ns ++ [Nd.ofKind k] } : PS) = ({ s.on with ns := s.ns ++ [Nd.ofKind k] } : PS).er from rfl]
          generalize ({ s.on with ns := s.ns ++ [Nd.ofKind k] } : PS) = s1
          cases fuel with
          | zero => exact failR_er _ _
          | succ fuel =>
            have ih := typedR_er fuel
            simp only
            split
            · exact bind_er (itemR_er ih _ _ _) fun _ s2 => rfl
            · split
              · exact bind_er (itemR_er ih _ _ _) fun _ s2 => rfl
              · split
                · rw [er_len]
                  exact bind_er (unionR_er ih _ _ _ _) fun _ s2 => rfl
                · split
                  · exact bind_er (definedR_er ih _ _ _) fun _ s2 => rfl
                  · rfl
/-- two lists of tokens that are the same but for places read the same -/
theorem typedR_same {l l' : List Tok} (h : l.map er = l'.map er) {fuel : Nat} {u : Bool} {a : List Nat} {ns : List Nd} {nm : ByteArray → Option Nat} {n : Nat} {s' : PS} (e : typedR fuel u a ⟨l, ns, nm⟩ = .ok n s') :
    ∃ s'', typedR fuel u a ⟨l', ns, nm⟩ = .ok n s'' ∧ s''.ns = s'.ns ∧ s''.l.map er = s'.l.map er := by
  have h1 := typedR_er fuel u a ⟨l, ns, nm⟩
  have h2 := typedR_er fuel u a ⟨l', ns, nm⟩
  rw [show PS.er ⟨l, ns, nm⟩ = PS.er ⟨l', ns, nm⟩ by unfold PS.er; rw [h], h2, e] at h1
  cases hr : typedR fuel u a ⟨l', ns, nm⟩ with
  | bad x y => rw [hr] at h1; cases h1
  | ok m s'' =>
    rw [hr] at h1
    injection h1 with h3 h4
    subst h3
    have a : s''.er.ns = s'.er.ns := by rw [h4]
    have b : s''.er.l = s'.er.l := by rw [h4]
    exact ⟨s'', rfl, a, b⟩
end Go.Proofs.YtejcacbbhijdcaaDoor.Pr
