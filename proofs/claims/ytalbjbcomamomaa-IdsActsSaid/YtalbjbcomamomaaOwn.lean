/- A slice of one's own of one-cell elements, at any place of its array; worlds that differ in some blocks alone. -/
import Derived.Test.YtalbjbcomamomaaBase
import Derived.Deep.Upon
namespace Go.Proofs.Ytalbjbcomamomaa.Base
open Go.ChangeShapes Go.WideShapes Go.ChangeAt Go.RowKit
set_option linter.unusedVariables false

/-- all but the blocks of S is as it was -/
structure Chg (S : Nat → Prop) (w w' : World) : Prop where
  os : w'.os = w.os
  tape : w'.tape = w.tape
  output : w'.output = w.output
  size : w.heap.size ≤ w'.heap.size
  block : ∀ k, k < w.heap.size → ¬ S k → w'.heap[k]? = w.heap[k]?
theorem Chg.refl (S : Nat → Prop) (w : World) : Chg S w w := ⟨rfl, rfl, rfl, Nat.le_refl _, fun _ _ _ => rfl⟩
theorem Chg.trans {S T : Nat → Prop} {a b c : World} (h : Chg S a b) (k : Chg T b c) (hT : ∀ i, i < a.heap.size → T i → S i) : Chg S a c :=
  ⟨k.os.trans h.os, k.tape.trans h.tape, k.output.trans h.output, Nat.le_trans h.size k.size, fun i hi hs => (k.block i (Nat.lt_of_lt_of_le hi h.size) (fun ht => hs (hT i hi ht))).trans (h.block i hi hs)⟩
theorem Chg.mono {S T : Nat → Prop} {a b : World} (h : Chg S a b) (hT : ∀ i, i < a.heap.size → S i → T i) : Chg T a b :=
  ⟨h.os, h.tape, h.output, h.size, fun i hi hs => h.block i hi (fun x => hs (hT i hi x))⟩
theorem Chg.ofGrown {a b : World} {r : Option Nat} (h : a.grownBy b r) : Chg (fun k => r = some k) a b := ⟨h.os, h.tape, h.output, h.size, fun i hi hs => h.block i hi (fun e => hs e.symm)⟩
theorem Chg.ofExt {S : Nat → Prop} {a b : World} (h : Ext a b) : Chg S a b := ⟨h.os, h.tape, h.output, h.size, fun i hi _ => h.block i hi⟩
theorem Chg.toExt {S : Nat → Prop} {a b : World} (h : Chg S a b) (hn : ∀ k, k < a.heap.size → ¬ S k) : Ext a b := ⟨h.os, h.tape, h.output, h.size, fun i hi => h.block i hi (hn i hi)⟩
theorem Ext.chg {S : Nat → Prop} {a b c : World} (h : Ext a b) (k : Chg S b c) (hn : ∀ i, i < a.heap.size → ¬ S i) : Ext a c :=
  (Chg.toExt (S := S) ((Chg.ofExt h).trans k (fun _ _ x => x)) hn)
theorem Chg.set {S : Nat → Prop} {a b : World} (h : Chg S a b) {p : Addr} (hp : S p.block ∨ a.heap.size ≤ p.block) (u : Value) : Chg S a (b.setCell p u) :=
  ⟨h.os, h.tape, h.output, by simpa using h.size, fun i hi hs => (heap_setCell_other b p i u (fun e => by rcases hp with x | x; exact hs (e ▸ x); omega)).trans (h.block i hi hs)⟩
theorem Chg.blk {S : Nat → Prop} {a b : World} (h : Chg S a b) {g : Nat} {cs : Array Value} {t : TypeId} (hb : Blk a g cs t) (hg : ¬ S g) : Blk b g cs t := (h.block g hb.lt hg).trans hb
theorem Chg.cell {S : Nat → Prop} {a b : World} (h : Chg S a b) {p : Addr} {v : Value} (hc : a.cell? p = some v) (hn : ¬ S p.block) : b.cell? p = some v :=
  (World.cell?_of_block (h.block p.block (World.block_lt_of_cell? a p hc) hn)).trans hc
theorem Chg.heap {S : Nat → Prop} {a b : World} (h : Chg S a b) {g : Nat} {o : Obj} (hg : a.heap[g]? = some o) (hn : ¬ S g) : b.heap[g]? = some o :=
  (h.block g (Array.getElem?_eq_some_iff.1 hg).1 hn).trans hg

/-- a slice of one's own -/
def OwnS (w : World) (v : Value) (cs : List Value) : Prop := ∃ ao b off cap, v = .slice ao cs.length cap ∧ Came w 1 ao b off cs.length cap cs ∧ cap ≤ maxLen
theorem OwnS.nil (w : World) : OwnS w (.slice none 0 0) [] :=
  ⟨none, 0, 0, 0, rfl, ⟨Nat.le_refl _, fun h => absurd h (Nat.lt_irrefl _), fun h => absurd h (Nat.lt_irrefl _), rfl, fun j u h => by simp at h, fun j h => by simp at h⟩, Nat.zero_le _⟩
theorem OwnS.zero (w : World) (ao : Option Addr) : OwnS w (.slice ao 0 0) [] :=
  ⟨ao, 0, 0, 0, rfl, ⟨Nat.le_refl _, fun h => absurd h (Nat.lt_irrefl _), fun h => absurd h (Nat.lt_irrefl _), rfl, fun j u h => by simp at h, fun j h => by simp at h⟩, Nat.zero_le _⟩
theorem OwnS.rd {w : World} {v : Value} {cs : List Value} (h : OwnS w v cs) : ∃ A c, v = .slice A cs.length c ∧ Rd w A cs ∧ cs.length ≤ c ∧ c ≤ maxLen ∧ (A = none → c = 0) := by
  obtain ⟨ao, b, off, cap, rfl, hc, hm⟩ := h
  refine ⟨ao, cap, rfl, fun hne => ?_, hc.le, hm, fun e => ?_⟩
  · have hp : 0 < cap := by have := List.length_pos_iff.2 hne; have := hc.le; omega
    exact ⟨b, off, hc.addr hp, hc.olds⟩
  · rcases Nat.eq_zero_or_pos cap with h0 | h0
    · exact h0
    · have := hc.addr h0; rw [e] at this; cases this
theorem OwnS.lt {w : World} {v : Value} {cs : List Value} (h : OwnS w v cs) (hn : cs ≠ []) : ∀ k, v.ownBlock = some k → k < w.heap.size := by
  obtain ⟨ao, b, off, cap, rfl, hc, hm⟩ := h
  intro k hk
  have hp : 0 < cap := by have := List.length_pos_iff.2 hn; have := hc.le; omega
  rw [hc.addr hp] at hk
  simp only [Value.ownBlock, Option.some.injEq] at hk
  exact hk ▸ hc.lt hp
theorem OwnS.keep {S : Nat → Prop} {w w' : World} {v : Value} {cs : List Value} (h : OwnS w v cs) (hx : Chg S w w') (hn : ∀ k, v.ownBlock = some k → ¬ S k) : OwnS w' v cs := by
  obtain ⟨ao, b, off, cap, rfl, hc, hm⟩ := h
  refine ⟨ao, b, off, cap, rfl, ?_, hm⟩
  have hb : 0 < cap → w'.heap[b]? = w.heap[b]? := fun hp => hx.block b (hc.lt hp) (hn b (by rw [hc.addr hp]; rfl))
  refine ⟨hc.le, hc.addr, fun hp => Nat.lt_of_lt_of_le (hc.lt hp) hx.size, hc.oldsLen, fun j u hj => ?_, fun j hj => ?_⟩
  · have hp : 0 < cap := by have := (List.getElem?_eq_some_iff.1 hj).1; have := hc.le; omega
    exact (World.cell?_of_block (a := ⟨b, off + j, none⟩) (hb hp)).trans (hc.olds j u hj)
  · have hp : 0 < cap := by omega
    rw [World.cell?_of_block (a := ⟨b, off + cs.length * 1 + j, none⟩) (hb hp), World.frozen?_of_block (a := ⟨b, off + cs.length * 1 + j, none⟩) (hb hp)]
    exact hc.spare j hj
theorem OwnS.ext {w w' : World} {v : Value} {cs : List Value} (h : OwnS w v cs) (hx : Ext w w') : OwnS w' v cs := h.keep (S := fun _ => False) (Chg.ofExt hx) (fun _ _ x => x)
/-- without its first k elements -/
theorem OwnS.drop {w : World} {b off n cap : Nat} {cs : List Value} (h : OwnS w (.slice (some ⟨b, off, none⟩) n cap) cs) (k : Nat) (hk : k ≤ n) : OwnS w (.slice (some ⟨b, off + k, none⟩) (n - k) (cap - k)) (cs.drop k) := by
  obtain ⟨ao, b', off', cap', e, hc, hm⟩ := h
  injection e with e1 e2 e3
  subst e1; subst e2; subst e3
  have hl : (cs.drop k).length = cs.length - k := List.length_drop
  refine ⟨_, b, off + k, cap - k, by rw [hl], ?_, by omega⟩
  have hb : 0 < cap → b = b' ∧ off = off' := fun hp => by
    have := hc.addr hp
    simp only [Option.some.injEq, Addr.mk.injEq, and_true] at this
    exact this
  have hle := hc.le
  refine ⟨by omega, fun _ => rfl, fun hp => by rw [(hb (by omega)).1]; exact hc.lt (by omega), by omega, fun j u hj => ?_, fun j hj => ?_⟩
  · have hj2 := (List.getElem?_eq_some_iff.1 hj).1
    rw [List.getElem?_drop] at hj
    have hx := hc.olds (k + j) u hj
    obtain ⟨rfl, rfl⟩ := hb (by omega)
    rwa [← Nat.add_assoc] at hx
  · obtain ⟨rfl, rfl⟩ := hb (by omega)
    have hx := hc.spare j (by omega)
    rwa [show off + k + (cs.drop k).length * 1 + j = off + cs.length * 1 + j by omega]
/-- the same as the model says it: an empty rest stays at its place -/
theorem OwnS.cut {w : World} {b off n cap : Nat} {cs : List Value} (h : OwnS w (.slice (some ⟨b, off, none⟩) n cap) cs) (k : Nat) (hk : k ≤ n) : OwnS w (.slice (if cap = k then some ⟨b, off, none⟩ else some ⟨b, off + k, none⟩) (n - k) (cap - k)) (cs.drop k) := by
  split
  · next hc =>
    obtain ⟨A, c, e, _, hle, _⟩ := h.rd
    injection e with e1 e2 e3
    have hl : (cs.drop k).length = 0 := by rw [List.length_drop]; omega
    have hnil : cs.drop k = [] := List.eq_nil_of_length_eq_zero hl
    have hn : n - k = 0 := by omega
    have hcap : cap - k = 0 := by omega
    rw [hnil, hn, hcap]
    exact ⟨_, b, off, 0, rfl, ⟨Nat.le_refl _, fun h => absurd h (Nat.lt_irrefl _), fun h => absurd h (Nat.lt_irrefl _), rfl, fun j u h => by simp at h, fun j h => by simp at h⟩, Nat.zero_le _⟩
  · exact h.drop k hk
theorem block_cut (c : Prop) [Decidable c] (b o o' n m : Nat) : (Value.slice (if c then some ⟨b, o, none⟩ else some ⟨b, o', none⟩) n m).ownBlock = some b := by split <;> rfl
theorem tape_setCells (g : Nat) : ∀ (vs : List Value) (o : Nat) (w : World), (w.setCells g o vs).tape = w.tape ∧ (w.setCells g o vs).heap.size = w.heap.size
  | [], _, _ => ⟨rfl, rfl⟩
  | v :: r, o, w => by
    rw [World.setCells]
    have := tape_setCells g r (o + 1) (w.setCell ⟨g, o, none⟩ v)
    exact ⟨this.1.trans rfl, this.2.trans (by simp)⟩

theorem src_of {P : Program} {t e : TypeId} (ht : P.underlying t = some (.slice e)) {w : World} {A : Option Addr} {m c : Nat} {news : List Value} (hr : Rd w A news) (hl : news.length = m) (hA : A = none → c = 0) (h1 : ∀ u ∈ news, u.oneCell' = true) :
    Src P 1 t (.slice A m c) m news w := by
  cases A with
  | none =>
    have hn : news = [] := by
      apply Classical.byContradiction
      intro hne
      obtain ⟨b, off, e, _⟩ := hr hne
      cases e
    subst hn
    obtain rfl : m = 0 := by simpa using hl.symm
    exact Src.ofNil w ht c
  | some a =>
    refine Src.ofSlice w ht a m c news (by omega) (fun j u hj => ?_) h1
    have hne : news ≠ [] := by rintro rfl; simp at hj
    obtain ⟨b, off, e, hc⟩ := hr hne
    cases e
    have hadd : (⟨b, off, none⟩ : Addr).add j = ⟨b, off + j, none⟩ := by unfold Addr.add; split <;> simp_all
    rw [hadd]; exact hc j u hj

/-- append onto it, from any slice -/
theorem OwnS.app {P : Program} {t et : TypeId} {z : Value} {bytes : Nat} (E : El P t et z 1 bytes) {w : World} (ty : TypeId) {v : Value} {cs : List Value} (h : OwnS w v cs) (hcs : ∀ u ∈ cs, u.oneCell' = true)
    {A : Option Addr} {m c : Nat} {news : List Value} (hr : Rd w A news) (hl : news.length = m) (hA : A = none → c = 0) (h1 : ∀ u ∈ news, u.oneCell' = true)
    (hbytes : (cs.length + m) * bytes ≤ 140737488355328) (hby : 0 < bytes) :
    ∃ v' w', (Builtin.append_ #[t, t] ty #[v, .slice A m c]).run P w = .ok v' w' ∧ OwnS w' v' (cs ++ news) ∧ w.grownBy w' v.ownBlock ∧ (v'.ownBlock = v.ownBlock ∨ v'.ownBlock = some w.heap.size ∧ w.heap.size < w'.heap.size) := by
  obtain ⟨i, hi, hz, hs, hb⟩ := info_parts E.info
  have hs' := src_of E.under hr hl hA h1
  rw [← hs] at hs'
  have h63 : cs.length + m ≤ maxLen := by
    have h : (cs.length + m) * 1 ≤ (cs.length + m) * bytes := Nat.mul_le_mul_left _ hby
    unfold maxLen; omega
  obtain ⟨A', c', rfl, hrd, hle, hmx, hA'⟩ := h.rd
  have hsv := src_of E.under hrd rfl hA' hcs
  rw [← hs] at hsv
  obtain ⟨ao, b, off, cap, e, hc, hm⟩ := h
  injection e with e1 e2 e3
  subst e1; subst e3
  by_cases hfit : cs.length + m ≤ c'
  · rcases Nat.eq_zero_or_pos c' with h0 | hp
    · have hm0 : m = 0 := by omega
      subst hm0
      have hn : news = [] := List.eq_nil_of_length_eq_zero hl
      subst hn
      exact ⟨_, w, run_append_nothing (P := P) w t t ty _ i E.under hi _ _ _ hle _ hs', by rw [List.append_nil]; exact ⟨A', b, off, c', rfl, hc, hm⟩, World.grownBy.refl w _, .inl rfl⟩
    · have ha := hc.addr hp
      subst ha
      have hsp : ∀ j, j < news.length → (w.cell? ⟨b, off + cs.length * i.size + j, none⟩).isSome = true ∧ w.frozen? ⟨b, off + cs.length * i.size + j, none⟩ = false := fun j hj => by
        rw [hs]; exact hc.spare j (by omega)
      have hrun := run_append_room_src (P := P) w t t ty _ i E.under hi b off cs.length c' _ m news hs' hfit (fun j hj => (hsp j hj).1) (fun j hj => (hsp j hj).2)
      refine ⟨_, _, hrun, ⟨_, b, off, c', by rw [List.length_append, hl], ?_, hm⟩, ⟨World.os_setCells _ _ _ _, (tape_setCells _ _ _ _).1, World.output_setCells _ _ _ _, Nat.le_of_eq (tape_setCells _ _ _ _).2.symm, fun k hk hne => World.heap_setCells_other w b _ _ hk (fun e => hne (by rw [e]; rfl))⟩, .inl rfl⟩
      rw [hs]
      refine ⟨by rw [List.length_append]; omega, fun _ => rfl, fun _ => by rw [(tape_setCells _ _ _ _).2]; exact hc.lt hp, by omega, fun j u hj => ?_, fun j hj => ?_⟩
      · by_cases hjc : j < cs.length
        · rw [List.getElem?_append_left hjc] at hj
          rw [World.cell?_setCells_out b news _ w _ (fun _ _ => .inl (by show off + j < _; omega))]
          exact hc.olds j u hj
        · rw [List.getElem?_append_right (by omega)] at hj
          have hlt := (List.getElem?_eq_some_iff.1 hj).1
          have := World.cell?_setCells_in b news (off + cs.length * 1) w (fun j hj => by have := hsp j hj; rw [hs] at this; exact this.1) (j - cs.length) hlt
          rw [show off + cs.length * 1 + (j - cs.length) = off + j by omega] at this
          rw [this, ← hj, List.getElem?_eq_getElem hlt]
      · have hx := hc.spare (m + j) (by rw [List.length_append] at hj; omega)
        rw [show off + cs.length * 1 + (m + j) = off + (cs ++ news).length * 1 + j by rw [List.length_append]; omega] at hx
        exact ⟨World.isSome_setCells b news _ w _ hx.1, by rw [World.frozen?_setCells]; exact hx.2⟩
  · have hrun := run_append_grow_src (P := P) w t t ty _ i z E.under hi hz A' cs.length c' cs hsv.cellsD _ m news hs' (by omega) (by unfold maxLen at h63; omega) (by rw [hb]; exact growslice_fits (by omega) hbytes)
    have hge := grownCap_ge w (cs.length + m) c' et
    have hcm := grownCap_le_maxLen w (cs.length + m) c' et h63
    refine ⟨_, _, hrun, ⟨_, w.heap.size, 0, _, by rw [List.length_append, hl], ?_, hcm⟩, ⟨rfl, rfl, rfl, by simp, fun k hk _ => Below.heap_alloc w.drew _ k hk⟩, .inr ⟨rfl, by simp⟩⟩
    have hsz : ((cs ++ news).toArray ++ Builtin.zeroCells z.cells (grownCap w (cs.length + m) c' et - (cs.length + m))).size = grownCap w (cs.length + m) c' et := by
      rw [Array.size_append, List.size_toArray, List.length_append, size_zeroCells, E.cells]; omega
    refine ⟨by rw [List.length_append]; omega, fun _ => rfl, fun _ => by simp, by omega, fun j u hj => ?_, fun j hj => ⟨?_, ?_⟩⟩
    · have e1 := World.cell?_alloc_new w.drew ((cs ++ news).toArray ++ Builtin.zeroCells z.cells (grownCap w (cs.length + m) c' et - (cs.length + m))) et j
      rw [Nat.zero_add]
      refine Eq.trans e1 ?_
      rw [Array.getElem?_append_left (by have := (List.getElem?_eq_some_iff.1 hj).1; simpa using this), List.getElem?_toArray]
      exact hj
    · have e1 := World.cell?_alloc_new w.drew ((cs ++ news).toArray ++ Builtin.zeroCells z.cells (grownCap w (cs.length + m) c' et - (cs.length + m))) et (0 + (cs ++ news).length * 1 + j)
      have hlt : 0 + (cs ++ news).length * 1 + j < ((cs ++ news).toArray ++ Builtin.zeroCells z.cells (grownCap w (cs.length + m) c' et - (cs.length + m))).size := by rw [hsz]; omega
      have e2 := e1.trans (Array.getElem?_eq_getElem hlt)
      exact Option.isSome_iff_exists.2 ⟨_, e2⟩
    · exact World.frozen?_alloc_new w.drew _ _ _
theorem Chg.one (w : World) (g i : Nat) (u : Value) : Chg (fun k => k = g) w (w.setCell ⟨g, i, none⟩ u) := Chg.set (S := fun k => k = g) (p := ⟨g, i, none⟩) (Chg.refl _ w) (.inl rfl) u
theorem Rd.chg {S : Nat → Prop} {w w' : World} {A : Option Addr} {cs : List Value} (h : Rd w A cs) (hx : Chg S w w') (hn : ∀ a, A = some a → ¬ S a.block) : Rd w' A cs := fun hne =>
  let ⟨b, off, e, hc⟩ := h hne
  ⟨b, off, e, fun j u hj => hx.cell (hc j u hj) (hn ⟨b, off, none⟩ e)⟩
theorem wp_oapp {P : Program} {t et : TypeId} {z : Value} {bytes : Nat} (E : El P t et z 1 bytes) (w : World) {o : Oper} {a : Act} {K : Act → World → Prop} {Q : Exit → Act → World → Prop} (s x : Operand)
    (ho : o.op = .call { callee := .builtin .append, args := #[s, x], argTypes := #[t, t] }) (v : Value) (cs : List Value) (hs : a.eval s = v) (hown : OwnS w v cs) (hcs : ∀ u ∈ cs, u.oneCell' = true)
    (A : Option Addr) (m c : Nat) (news : List Value) (hx : a.eval x = .slice A m c) (hr : Rd w A news) (hl : news.length = m) (hA : A = none → c = 0) (h1 : ∀ u ∈ news, u.oneCell' = true)
    (hbytes : (cs.length + m) * bytes ≤ 140737488355328) (hby : 0 < bytes)
    (h : ∀ v' w', OwnS w' v' (cs ++ news) → w.grownBy w' v.ownBlock → (v'.ownBlock = v.ownBlock ∨ v'.ownBlock = some w.heap.size ∧ w.heap.size < w'.heap.size) → K (a.put o.dst v') w') : o.wp P a w K Q := by
  obtain ⟨v', w', hrun, h2, h3, h4⟩ := hown.app E o.type hcs hr hl hA h1 hbytes hby
  unfold Oper.wp execOp
  simp only [ho, resolve, invoke, builtin, Sem.run_bind, Sem.run_pure, Result.andThen_ok, List.map_toArray, List.map_cons, List.map_nil, hs, hx, hrun]
  exact h v' w' h2 h3 h4
theorem wpList_oapp {P : Program} {t et : TypeId} {z : Value} {bytes : Nat} (E : El P t et z 1 bytes) (w : World) {ops : Array Oper} {rest : List Oper} {o : Oper} {a : Act} {Q : Exit → Act → World → Prop} (hgd : o.guard = none) (s x : Operand)
    (ho : o.op = .call { callee := .builtin .append, args := #[s, x], argTypes := #[t, t] }) (v : Value) (cs : List Value) (hs : a.eval s = v) (hown : OwnS w v cs) (hcs : ∀ u ∈ cs, u.oneCell' = true)
    (A : Option Addr) (m c : Nat) (news : List Value) (hx : a.eval x = .slice A m c) (hr : Rd w A news) (hl : news.length = m) (hA : A = none → c = 0) (h1 : ∀ u ∈ news, u.oneCell' = true)
    (hbytes : (cs.length + m) * bytes ≤ 140737488355328) (hby : 0 < bytes)
    (h : ∀ v' w', OwnS w' v' (cs ++ news) → w.grownBy w' v.ownBlock → (v'.ownBlock = v.ownBlock ∨ v'.ownBlock = some w.heap.size ∧ w.heap.size < w'.heap.size) → wpList P ops Q rest (a.put o.dst v') w') : wpList P ops Q (o :: rest) a w :=
  wpList_plain hgd fun _ hK => wp_oapp E w s x ho v cs hs hown hcs A m c news hx hr hl hA h1 hbytes hby fun v' w' h2 h3 h4 => hK _ _ (h v' w' h2 h3 h4)
end Go.Proofs.Ytalbjbcomamomaa.Base
