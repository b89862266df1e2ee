/- ids.Table: what a table is in memory; New, Len, Of, Make. -/
import Derived.Test.YtalbjbcomamomaaMaps
import Derived.Test.YtalbjbcomamomaaReg
import Derived.Test.YtalbjbcomamomaaOwn
import Derived.BigQuiet
namespace Go.Proofs.Ytalbjbcomamomaa.IdsW
open Go.ChangeShapes Go.WideShapes Go.ChangeAt Go.RowKit
open Base Mp
set_option linter.unusedVariables false
set_option linter.unusedSimpArgs false

theorem mt : Mt Try.prog 52 9 25 := ⟨Try.underlying52, Try.underlying9, Try.underlying25, fun w => by kernel_rfl⟩
theorem el_str : El Try.prog 22 9 (.string ByteArray.empty) 1 16 := ⟨Try.underlying22, by kernel_rfl, rfl, by decide⟩

/-- the place of a text, from 1 on -/
def idOf : List ByteArray → ByteArray → Option Nat
  | [], _ => none
  | x :: r, s => if x = s then some 1 else (idOf r s).map (· + 1)

theorem idOf_le (l : List ByteArray) (s : ByteArray) : (idOf l s).getD 0 ≤ l.length := by
  induction l with
  | nil => simp [idOf]
  | cons x r ih =>
    unfold idOf
    by_cases h : x = s
    · simp [h]
    · rw [if_neg h]
      cases hi : idOf r s with
      | none => simp
      | some k => rw [hi] at ih; simp at ih ⊢; omega

theorem idOf_snoc (l : List ByteArray) (s x : ByteArray) (h : idOf l s = none) : idOf (l ++ [s]) x = if x = s then some (l.length + 1) else idOf l x := by
  induction l with
  | nil =>
    simp only [List.nil_append, idOf, List.length_nil, Option.map_none]
    by_cases hx : x = s
    · simp [hx]
    · have hx' : ¬ s = x := fun e => hx e.symm
      simp [hx, hx']
  | cons y r ih =>
    simp only [idOf] at h
    by_cases hy : y = s
    · simp [hy] at h
    · simp only [if_neg hy, Option.map_eq_none_iff] at h
      simp only [List.cons_append, idOf, ih h, List.length_cons]
      by_cases hyx : y = x
      · have hxs : x ≠ s := by rw [← hyx]; exact hy
        simp [hyx, hxs]
      · by_cases hx : x = s
        · subst hx; simp [hyx]
        · simp [hyx, hx]

theorem idOf_some {l : List ByteArray} {s : ByteArray} {k : Nat} (h : idOf l s = some k) : 1 ≤ k ∧ k ≤ l.length := by
  induction l generalizing k with
  | nil => simp [idOf] at h
  | cons x r ih =>
    unfold idOf at h
    by_cases hx : x = s
    · simp [hx] at h; simp; omega
    · rw [if_neg hx] at h
      obtain ⟨j, hj, rfl⟩ := Option.map_eq_some_iff.1 h
      have := ih hj
      simp; omega

/-- what foreign ids are bound to, as cells -/
def bnds (l : List (Nat × Nat)) : List Value := l.flatMap fun p => [.int .u64 (p.1 : Int), .int .u64 (p.2 : Int)]

/-- a table in memory: all its blocks lie from B on -/
structure Tb (B : Nat) (w : World) (g lim : Nat) (ts : List ByteArray) (bs : List (Nat × Nat)) (vt vb : Value) (m : Nat) : Prop where
  blk : Blk w g #[.int .u64 (lim : Int), vt, .map (some m), vb] 54
  texts : w.ownsRow B 9 1 vt ts.length (txs ts)
  of : MapU Try.prog 9 25 w m ts.length (idOf ts)
  bound : w.ownsRow B 43 2 vb bs.length (bnds bs)
  hg : B ≤ g
  hm : B ≤ m
  small : ∀ s ∈ ts, s.size ≤ maxLen

section
variable {B : Nat} {w w' : World} {g lim : Nat} {ts : List ByteArray} {bs : List (Nat × Nat)} {vt vb : Value} {m : Nat}

theorem Tb.ext (h : Tb B w g lim ts bs vt vb m) (hx : Ext w w') : Tb B w' g lim ts bs vt vb m :=
  ⟨h.blk.ext hx, own_ext h.texts hx, h.of.ext hx, own_ext h.bound hx, h.hg, h.hm, h.small⟩
theorem Tb.cells (h : Tb B w g lim ts bs vt vb m) : w.cell? ⟨g, 0, none⟩ = some (.int .u64 (lim : Int)) ∧ w.cell? ⟨g, 1, none⟩ = some vt ∧ w.cell? ⟨g, 2, none⟩ = some (.map (some m)) ∧ w.cell? ⟨g, 3, none⟩ = some vb :=
  ⟨h.blk.cell 0, h.blk.cell 1, h.blk.cell 2, h.blk.cell 3⟩
theorem Tb.vt_eq (h : Tb B w g lim ts bs vt vb m) : ∃ A c, vt = .slice A ts.length c := by
  obtain ⟨A, c, e, _⟩ := Rd.of_own h.texts
  exact ⟨A, c, e⟩
end

set_option maxHeartbeats 400000 in
theorem New_any (lim : Int) (h0 : 0 ≤ lim) (h1 : lim ≤ 2147483647) (B : Nat) (w : World) (hB : B ≤ w.heap.size) :
    Calls Try.prog 6 #[.int .u64 lim] w fun e w' => ∃ g m, e = .returned (.pointer (some ⟨g, 0, none⟩)) ∧ Tb B w' g lim.toNat [] [] (.slice none 0 0) (.slice none 0 0) m ∧ Ext w w' := by
  obtain ⟨n, rfl⟩ := Int.eq_ofNat_of_zero_le h0
  have hmm := @run_makeMap Try.prog
  go_enter Try.func6, Try.ntmps6
  go_wp2_with fail
  go_ret
  have hx1 : Ext w (w.alloc (.map #[] 0)) := (Ext.refl w).alloc _
  have hb := Blk.new (w.alloc (.map #[] 0)) #[.int .u64 (n : Int), .slice none 0 0, .map (some w.heap.size), .slice none 0 0] 54
  rw [World.size_alloc] at hb
  refine ⟨_, _, rfl, ⟨hb, World.ownsRow_nil _ _ _ _, (MapU.made Try.prog _ _ w).alloc _, World.ownsRow_nil _ _ _ _, by omega, hB, by simp⟩, hx1.alloc _⟩

set_option maxHeartbeats 400000 in
theorem Len_any {B : Nat} {g lim : Nat} {ts : List ByteArray} {bs : List (Nat × Nat)} {vt vb : Value} {m : Nat} (w : World) (h : Tb B w g lim ts bs vt vb m) :
    Calls Try.prog 7 #[.pointer (some ⟨g, 0, none⟩)] w fun e w' => e = .returned (.int .i64 (ts.length : Int)) ∧ w = w' := by
  obtain ⟨A, c, rfl⟩ := h.vt_eq
  obtain ⟨h0, h1, h2, h3⟩ := h.cells
  go_enter Try.func7, Try.ntmps7
  go_wp2_with fail
  go_ret
  exact ⟨rfl, rfl⟩

set_option maxHeartbeats 400000 in
theorem Of_any {B : Nat} {g lim : Nat} {ts : List ByteArray} {bs : List (Nat × Nat)} {vt vb : Value} {m : Nat} (s : ByteArray) (w : World) (h : Tb B w g lim ts bs vt vb m) (hs : s.size ≤ maxLen) :
    Calls Try.prog 8 #[.pointer (some ⟨g, 0, none⟩), .string s] w fun e w' => e = .returned (.tuple #[.int .u64 (((idOf ts s).getD 0 : Nat) : Int), .bool (idOf ts s).isSome]) ∧ w = w' := by
  obtain ⟨h0, h1, h2, h3⟩ := h.cells
  have hl := h.of.look_ok mt s hs
  go_enter Try.func8, Try.ntmps8
  go_wp2_with fail
  go_ret2
  exact ⟨rfl, rfl⟩

set_option maxHeartbeats 400000 in
theorem made_there {B : Nat} {g lim : Nat} {ts : List ByteArray} {bs : List (Nat × Nat)} {vt vb : Value} {m : Nat} (s : ByteArray) (k : Nat) (w : World) (h : Tb B w g lim ts bs vt vb m) (hs : s.size ≤ maxLen) (hk : idOf ts s = some k) :
    Calls Try.prog 18 #[.pointer (some ⟨g, 0, none⟩), .string s] w fun e w' => e = .returned (.tuple #[.int .u64 (k : Int), .int .i64 0]) ∧ w = w' := by
  obtain ⟨h0, h1, h2, h3⟩ := h.cells
  have hl := h.of.look_ok mt s hs
  rw [hk] at hl
  simp only [Option.getD_some, Option.isSome_some] at hl
  clear hk
  go_enter Try.func18, Try.ntmps18
  go_wp2_with fail
  go_ret2
  exact ⟨rfl, rfl⟩

set_option maxHeartbeats 400000 in
theorem made_full {B : Nat} {g lim : Nat} {ts : List ByteArray} {bs : List (Nat × Nat)} {vt vb : Value} {m : Nat} (s : ByteArray) (w : World) (h : Tb B w g lim ts bs vt vb m) (hs : s.size ≤ maxLen) (hk : idOf ts s = none) (hlim : lim ≤ ts.length) (hsm : ts.length ≤ 1000) :
    Calls Try.prog 18 #[.pointer (some ⟨g, 0, none⟩), .string s] w fun e w' => e = .returned (.tuple #[.int .u64 0, .int .i64 8]) ∧ ∃ n, w' = w.drewN n := by
  obtain ⟨h0, h1, h2, h3⟩ := h.cells
  obtain ⟨A, c, rfl⟩ := h.vt_eq
  have hl := h.of.look_ok mt s hs
  rw [hk] at hl
  simp only [Option.getD_none, Option.isSome_none] at hl
  clear hk
  go_enter Try.func18, Try.ntmps18
  go_wp2_with fail
  go_quiet (fail)
  go_wp2_with fail
  go_ret2
  exact ⟨rfl, _, rfl⟩

/-- the same row, or a new one -/
def Fresh (w : World) (v v' : Value) : Prop := v'.ownBlock = v.ownBlock ∨ ∃ k, v'.ownBlock = some k ∧ w.heap.size ≤ k

set_option maxRecDepth 100000 in
set_option maxHeartbeats 800000 in
theorem made_new {B : Nat} {g lim : Nat} {ts : List ByteArray} {bs : List (Nat × Nat)} {vt vb : Value} {m : Nat} (s : ByteArray) (w : World) (h : Tb B w g lim ts bs vt vb m) (hs : s.size ≤ maxLen) (hk : idOf ts s = none) (hlim : ts.length < lim) (hsm : ts.length ≤ 1000) (hB : B ≤ w.heap.size) :
    Calls Try.prog 18 #[.pointer (some ⟨g, 0, none⟩), .string s] w fun e w' => e = .returned (.tuple #[.int .u64 ((ts.length + 1 : Nat) : Int), .int .i64 0]) ∧ Below B w w' ∧ Chg (fun k => k = g ∨ k = m ∨ vt.ownBlock = some k) w w' ∧ ∃ vt', Tb B w' g lim (ts ++ [s]) bs vt' vb m ∧ Fresh w vt vt' := by
  obtain ⟨h0, h1, h2, h3⟩ := h.cells
  obtain ⟨A, c, rfl⟩ := h.vt_eq
  have hfr := h.blk.frozen 1
  have hl := h.of.look_ok mt s hs
  have Hk := Lib.hid hk
  rw [hk] at hl
  simp only [Option.getD_none, Option.isSome_none] at hl
  clear hk
  have hlen : (ts.length : Int) + 1 ≤ 2000 := by omega
  go_enter Try.func18, Try.ntmps18
  go_wp2_with fail
  go_quiet (fail)
  have hxa : Ext w (((w.drewN nq).alloc (.cells #[.string s] 9))) := ((Ext.refl w).drewN nq).alloc _
  go_wp2_with (at_builtin
               refine wpList_app el_str _ rfl (.tmp 34) (.tmp 36) rfl B (.slice A ts.length c) ts.length (txs ts) rfl (own_ext h.texts hxa) (some ⟨w.heap.size, 0, none⟩) 1 1 [.string s] rfl (Rd.of_block _ _ _ rfl) rfl (fun e => by cases e) (txs_one [s]) (by omega) (by omega) (Nat.le_trans hB (Ext.size hxa)) ?_
               intro v1 w1 hown hg hat
               obtain ⟨A1, c1, rfl, _⟩ := Rd.of_own hown
               have hb1 := (h.blk.ext hxa).grown hg (own_ne_blk (own_ext h.texts hxa) (h.blk.ext hxa) (by decide))
               have hf1 := hb1.frozen 1
               have hc1 := hb1.cell 1)
  have hne1 := own_ne_blk (own_ext h.texts hxa) (h.blk.ext hxa) (by decide)
  have hb2 : Blk (w1.setCell ⟨g, 1, none⟩ (.slice A1 (ts.length + 1) c1)) g #[.int .u64 (lim : Int), .slice A1 (ts.length + 1) c1, .map (some m), vb] 54 := hb1.set 1 _
  have ho2 := own_setCell (i := 1) hown hb1 (by decide) (.slice A1 (ts.length + 1) c1)
  have hmg : m ≠ g := h.of.not_cells h.blk
  have hm1 : MapU Try.prog 9 25 w1 m ts.length (idOf ts) := (h.of.ext hxa).kept hg (fun e => by
    rcases h.texts.2 with ⟨e1, _⟩ | ⟨g', cap, cur, e1, _, hh, _⟩
    · rw [e1] at e; simp [Value.ownBlock] at e
    · rw [e1] at e
      simp only [Value.ownBlock, Option.some.injEq] at e
      exact h.of.not_cells hh e)
  have hm2 := hm1.setCell (a := ⟨g, 1, none⟩) hmg (.slice A1 (ts.length + 1) c1)
  have hv1 : w1.ownsRow B 43 2 vb bs.length (bnds bs) := (own_ext h.bound hxa).kept hg (own_ne_own (own_ext h.texts hxa) (own_ext h.bound hxa) (by decide))
  have hv2 := own_setCell (i := 1) hv1 hb1 (by decide) (.slice A1 (ts.length + 1) c1)
  have hbl1 : Below B w w1 := ((Below.mono (Ext.trans hxa (Ext.refl _)) hB).grown hg (Nat.le_trans hB (Ext.size hxa)) (fun k hk => (h.texts.lt k hk).1))
  have hbl2 := hbl1.setCell (p := ⟨g, 1, none⟩) h.hg (.slice A1 (ts.length + 1) c1)
  have hch2 : Chg (fun k => k = g ∨ k = m ∨ (Value.slice A ts.length c).ownBlock = some k) w (w1.setCell ⟨g, 1, none⟩ (.slice A1 (ts.length + 1) c1)) := (Chg.trans (S := fun k => k = g ∨ k = m ∨ (Value.slice A ts.length c).ownBlock = some k) (Chg.ofExt hxa) (Chg.ofGrown hg) (fun i _ e => .inr (.inr e))).set (p := ⟨g, 1, none⟩) (.inl (.inl rfl)) _
  have hfresh : Fresh w (.slice A ts.length c) (.slice A1 (ts.length + 1) c1) := hat.imp id (fun e => ⟨_, e, Ext.size hxa⟩)
  obtain ⟨w2, hw2⟩ : ∃ w2, w1.setCell ⟨g, 1, none⟩ (.slice A1 (ts.length + 1) c1) = w2 := ⟨_, rfl⟩
  rw [hw2] at hb2 ho2 hm2 hv2 hbl2 hch2 ⊢
  clear hw2 hv1 hm1 hb1 hf1 hc1 hl h0 h1 h2 h3 hfr hbl1
  have hbase : ∀ W, Ext w2 W → W.cell? ⟨g, 1, none⟩ = some (.slice A1 (ts.length + 1) c1) ∧ W.cell? ⟨g, 2, none⟩ = some (.map (some m)) := fun W hW =>
    have hbW := hb2.ext hW
    ⟨hbW.cell 1, hbW.cell 2⟩
  have hwr : IntKind.u64.wrap ((ts.length : Int) + 1) = (((ts.length + 1 : Nat)) : Int) := by rw [IntKind.wrap_u64]; omega
  have hRl := Reg.rl_ext
  refine Reg.startB hRl (by kernel_rfl) ?_
  refine Reg.takeB hRl 0 _ _ rfl (by kernel_rfl) (by kernel_rfl) (by kernel_rfl) (by decide) (fun _ _ _ h => by first | exact h | exact hP _ _ _ _ h) (by rfl) (fun W hW => by go_simp; with_reducible rfl) ?_; (try simp only [Act.put, Act.eval, List.getElem?_toArray, List.getElem_toArray, List.getElem?_cons_zero, List.getElem?_cons_succ, List.getElem_cons_zero, List.getElem_cons_succ, Option.getD_some, List.setIfInBounds_toArray, List.set_cons_zero, List.set_cons_succ])
  refine Reg.takeB hRl 1 _ _ rfl (by kernel_rfl) (by kernel_rfl) (by kernel_rfl) (by decide) (fun _ _ _ h => by first | exact h | exact hP _ _ _ _ h) (by rfl) (fun W hW => by go_simp; with_reducible rfl) ?_; (try simp only [Act.put, Act.eval, List.getElem?_toArray, List.getElem_toArray, List.getElem?_cons_zero, List.getElem?_cons_succ, List.getElem_cons_zero, List.getElem_cons_succ, Option.getD_some, List.setIfInBounds_toArray, List.set_cons_zero, List.set_cons_succ])
  refine Reg.takeB hRl 2 _ _ rfl (by kernel_rfl) (by kernel_rfl) (by kernel_rfl) (by decide) (fun _ _ _ h => by first | exact h | exact hP _ _ _ _ h) (by rfl) (fun W hW => by go_simp; with_reducible rfl) ?_; (try simp only [Act.put, Act.eval, List.getElem?_toArray, List.getElem_toArray, List.getElem?_cons_zero, List.getElem?_cons_succ, List.getElem_cons_zero, List.getElem_cons_succ, Option.getD_some, List.setIfInBounds_toArray, List.set_cons_zero, List.set_cons_succ])
  refine Reg.takeB hRl 3 _ _ rfl (by kernel_rfl) (by kernel_rfl) (by kernel_rfl) (by decide) (fun _ _ _ h => by first | exact h | exact hP _ _ _ _ h) (by rfl) (fun W hW => by have hbW := hbase W (by repeat (first | assumption | exact hRl.refl _ | refine hRl.trans (by assumption) ?_ | apply hRl.drew)); go_simp; with_reducible rfl) ?_; (try simp only [Act.put, Act.eval, List.getElem?_toArray, List.getElem_toArray, List.getElem?_cons_zero, List.getElem?_cons_succ, List.getElem_cons_zero, List.getElem_cons_succ, Option.getD_some, List.setIfInBounds_toArray, List.set_cons_zero, List.set_cons_succ])
  refine Reg.takeB hRl 4 _ _ rfl (by kernel_rfl) (by kernel_rfl) (by kernel_rfl) (by decide) (fun _ _ _ h => by first | exact h | exact hP _ _ _ _ h) (by rfl) (fun W hW => by go_simp; with_reducible rfl) ?_; (try simp only [Act.put, Act.eval, List.getElem?_toArray, List.getElem_toArray, List.getElem?_cons_zero, List.getElem?_cons_succ, List.getElem_cons_zero, List.getElem_cons_succ, Option.getD_some, List.setIfInBounds_toArray, List.set_cons_zero, List.set_cons_succ])
  refine Reg.takeB hRl 5 _ _ rfl (by kernel_rfl) (by kernel_rfl) (by kernel_rfl) (by decide) (fun _ _ _ h => by first | exact h | exact hP _ _ _ _ h) (by rfl) (fun W hW => by go_simp; with_reducible rfl) ?_; (try simp only [Act.put, Act.eval, List.getElem?_toArray, List.getElem_toArray, List.getElem?_cons_zero, List.getElem?_cons_succ, List.getElem_cons_zero, List.getElem_cons_succ, Option.getD_some, List.setIfInBounds_toArray, List.set_cons_zero, List.set_cons_succ])
  refine Reg.takeB hRl 6 _ _ rfl (by kernel_rfl) (by kernel_rfl) (by kernel_rfl) (by decide) (fun _ _ _ h => by first | exact h | exact hP _ _ _ _ h) (by rfl) (fun W hW => by go_simp; with_reducible rfl) ?_; (try simp only [Act.put, Act.eval, List.getElem?_toArray, List.getElem_toArray, List.getElem?_cons_zero, List.getElem?_cons_succ, List.getElem_cons_zero, List.getElem_cons_succ, Option.getD_some, List.setIfInBounds_toArray, List.set_cons_zero, List.set_cons_succ])
  refine Reg.takeB hRl 7 _ _ rfl (by kernel_rfl) (by kernel_rfl) (by kernel_rfl) (by decide) (fun _ _ _ h => by first | exact h | exact hP _ _ _ _ h) (by rfl) (fun W hW => by go_simp; with_reducible rfl) ?_; (try simp only [Act.put, Act.eval, List.getElem?_toArray, List.getElem_toArray, List.getElem?_cons_zero, List.getElem?_cons_succ, List.getElem_cons_zero, List.getElem_cons_succ, Option.getD_some, List.setIfInBounds_toArray, List.set_cons_zero, List.set_cons_succ])
  refine Reg.takeB hRl 8 _ _ rfl (by kernel_rfl) (by kernel_rfl) (by kernel_rfl) (by decide) (fun _ _ _ h => by first | exact h | exact hP _ _ _ _ h) (by rfl) (fun W hW => by have hbW := hbase W (by repeat (first | assumption | exact hRl.refl _ | refine hRl.trans (by assumption) ?_ | apply hRl.drew)); go_simp; with_reducible rfl) ?_; (try simp only [Act.put, Act.eval, List.getElem?_toArray, List.getElem_toArray, List.getElem?_cons_zero, List.getElem?_cons_succ, List.getElem_cons_zero, List.getElem_cons_succ, Option.getD_some, List.setIfInBounds_toArray, List.set_cons_zero, List.set_cons_succ])
  refine Reg.takeB hRl 9 _ _ rfl (by kernel_rfl) (by kernel_rfl) (by kernel_rfl) (by decide) (fun _ _ _ h => by first | exact h | exact hP _ _ _ _ h) (by rfl) (fun W hW => by go_simp; with_reducible rfl) ?_; (try simp only [Act.put, Act.eval, List.getElem?_toArray, List.getElem_toArray, List.getElem?_cons_zero, List.getElem?_cons_succ, List.getElem_cons_zero, List.getElem_cons_succ, Option.getD_some, List.setIfInBounds_toArray, List.set_cons_zero, List.set_cons_succ])
  refine Reg.takeB hRl 10 _ _ rfl (by kernel_rfl) (by kernel_rfl) (by kernel_rfl) (by decide) (fun _ _ _ h => by first | exact h | exact hP _ _ _ _ h) (by rfl) (fun W hW => by go_simp; with_reducible rfl) ?_; (try simp only [Act.put, Act.eval, List.getElem?_toArray, List.getElem_toArray, List.getElem?_cons_zero, List.getElem?_cons_succ, List.getElem_cons_zero, List.getElem_cons_succ, Option.getD_some, List.setIfInBounds_toArray, List.set_cons_zero, List.set_cons_succ])
  refine Reg.last 11 _ rfl (by kernel_rfl) (by kernel_rfl) (by kernel_rfl) (by decide) (by rfl) (fun W hW K hK => ?_)
  obtain ⟨w3, hrun, hm3, hg3⟩ := (hm2.ext hW).store mt (by unfold maxLen; omega) s hs (ts.length + 1) (by omega)
  have hrun : (Instr.mapUpdate 52 (.map (some m)) (.string s) (.int .u64 ((ts.length : Int) + 1))).run Try.prog W = .ok () w3 := hrun
  go_simp
  refine hK.out _ _ ?_; clear hK K; (try simp only [Act.put, Act.eval, List.getElem?_toArray, List.getElem_toArray, List.getElem?_cons_zero, List.getElem?_cons_succ, List.getElem_cons_zero, List.getElem_cons_succ, Option.getD_some, List.setIfInBounds_toArray, List.set_cons_zero, List.set_cons_succ])
  have hf3 : (fun x => if x = s then some (ts.length + 1) else idOf ts x) = idOf (ts ++ [s]) := by funext x; rw [idOf_snoc _ _ _ Hk.out]
  rw [hf3] at hm3
  have hb3 := (hb2.ext hW).grown hg3 (fun e => hmg (Option.some.inj e).symm)
  have hl3 := hm3.look mt s hs
  have hid : (idOf (ts ++ [s]) s).getD 0 = ts.length + 1 := by rw [idOf_snoc _ _ _ Hk.out]; simp
  rw [hid] at hl3
  have hc3 : w3.cell? ⟨g, 2, none⟩ = some (.map (some m)) := hb3.cell 2
  go_wp2_with fail
  go_ret2
  have hcm : ∀ {cs : Array Value} {ty : TypeId} {fr : Nat × Nat} {k : Nat}, W.heap[k]? = some (.cells cs ty fr) → some k ≠ some m := fun hk e => by
    have := (hm2.ext hW).not_cells hk
    exact this (Option.some.inj e).symm
  have hkeep : ∀ {e : TypeId} {size n : Nat} {v : Value} {xs : List Value}, W.ownsRow B e size v n xs → w3.ownsRow B e size v n xs := fun h => h.kept hg3 (by
    rcases h.2 with ⟨rfl, _⟩ | ⟨g', cap, cur, rfl, _, hh, _⟩
    · exact .inl rfl
    · exact .inr (fun e => hcm hh e))
  have ho3 := hkeep (own_ext ho2 hW)
  have hv3 := hkeep (own_ext hv2 hW)
  have hln : (ts ++ [s]).length = ts.length + 1 := by simp
  refine ⟨rfl, ?_, (hch2.trans (Chg.ofExt hW (S := fun k => k = g ∨ k = m ∨ (Value.slice A ts.length c).ownBlock = some k)) (fun _ _ x => x)).trans (Chg.ofGrown hg3) (fun i _ e => .inr (.inl (Option.some.inj e).symm)), _, ⟨hb3, ?_, ?_, hv3, h.hg, h.hm, ?_⟩, hfresh⟩
  · exact ((hbl2.trans (Below.mono hW (Nat.le_trans hB hbl2.size))).grown hg3 (Nat.le_trans hB (Nat.le_trans hbl2.size (Ext.size hW))) (fun k hk => by
      have : m = k := Option.some.inj hk
      rw [← this]; exact h.hm))
  · rw [hln]; simpa [txs] using ho3
  · rw [hln]; exact hm3
  · intro x hx
    rcases List.mem_append.1 hx with hx | hx
    · exact h.small x hx
    · simp at hx; rw [hx]; exact hs
end Go.Proofs.Ytalbjbcomamomaa.IdsW
