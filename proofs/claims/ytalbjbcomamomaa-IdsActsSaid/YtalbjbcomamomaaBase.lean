/- Words for memory that this seat's walks share: a slice that reads as cells, worlds that keep what was there. -/
import Derived.Test.YtalbjbcomamomaaRows
import Derived.WalkKit
import Derived.ProofKit
import Derived.OpenShut
import Derived.Lib.Hide
import Derived.WalkSpells
import Derived.WalkLawsBesides
import Derived.Deep.RegionHeld3
import Derived.Deep.DeepFit
import Derived.Deep.DeepMust
import Derived.Deep.LoopGhost
import Derived.JoinedCond
import Derived.Maps.AppendAt
import Derived.Lib.SlBytesConst
import Derived.Laws.BytesArg
namespace Go.Proofs.Ytalbjbcomamomaa.Base
open Go.ChangeShapes Go.WideShapes Go.ChangeAt Go.RowKit
set_option linter.unusedVariables false

/-- what there was is as it was -/
def Ext (w w' : World) : Prop := Below w.heap.size w w'

theorem Ext.refl (w : World) : Ext w w := Below.refl _ _
theorem Ext.size {w w' : World} (h : Ext w w') : w.heap.size ≤ w'.heap.size := Below.size h
theorem Ext.trans {a b c : World} (h : Ext a b) (k : Ext b c) : Ext a c := Below.trans h (Below.mono k h.size)
theorem Ext.drew {a w : World} (h : Ext a w) : Ext a w.drew := Below.drew h
theorem Ext.drewN {a w : World} (h : Ext a w) (n : Nat) : Ext a (w.drewN n) := by
  have h' : Below a.heap.size a w := h
  exact ⟨h'.os, h'.tape, h'.output, h'.size, h'.block⟩
theorem Ext.alloc {a w : World} (h : Ext a w) (o : Obj) : Ext a (w.alloc o) := Below.alloc h h.size o
theorem Ext.undrew {w x : World} (h : Ext w.drew x) : Ext w x := Ext.trans ((Ext.refl w).drew) h
theorem Ext.undrewN {w x : World} {n : Nat} (h : Ext (w.drewN n) x) : Ext w x := Ext.trans ((Ext.refl w).drewN n) h
theorem Ext.unalloc {w x : World} {o : Obj} (h : Ext (w.alloc o) x) : Ext w x := Ext.trans ((Ext.refl w).alloc o) h
theorem Ext.setCell {a w : World} (h : Ext a w) {p : Addr} (hp : a.heap.size ≤ p.block) (u : Value) : Ext a (w.setCell p u) := Below.setCell h hp u
theorem Ext.cell {w w' : World} (h : Ext w w') {p : Addr} {v : Value} (hc : w.cell? p = some v) : w'.cell? p = some v :=
  (Below.cell h (World.block_lt_of_cell? w p hc)).trans hc
theorem Ext.heap {w w' : World} (h : Ext w w') {g : Nat} {o : Obj} (hg : w.heap[g]? = some o) : w'.heap[g]? = some o :=
  (Below.block h g (Array.getElem?_eq_some_iff.1 hg).1).trans hg
theorem Ext.grown {w w' : World} {row : Option Nat} (hg : w.grownBy w' row) (hr : ∀ k, row = some k → w.heap.size ≤ k) : Ext w w' :=
  Below.grown (Below.refl _ _) hg (Nat.le_refl _) hr
theorem Ext.then_grown {a w w' : World} {row : Option Nat} (h : Ext a w) (hg : w.grownBy w' row) (hr : ∀ k, row = some k → a.heap.size ≤ k) : Ext a w' :=
  Below.grown h hg h.size hr

/-- the cells cs from an address on, in a slice's places -/
def Rd (w : World) (A : Option Addr) (cs : List Value) : Prop :=
  cs ≠ [] → ∃ b off, A = some ⟨b, off, none⟩ ∧ ∀ (j : Nat) (u : Value), cs[j]? = some u → w.cell? ⟨b, off + j, none⟩ = some u

theorem Rd.ext {w w' : World} {A : Option Addr} {cs : List Value} (h : Rd w A cs) (hx : Ext w w') : Rd w' A cs := fun hne =>
  let ⟨b, off, e, hc⟩ := h hne
  ⟨b, off, e, fun j u hj => hx.cell (hc j u hj)⟩
theorem Rd.nil (w : World) (A : Option Addr) : Rd w A [] := fun h => absurd rfl h
theorem Rd.keep {w w' : World} {A : Option Addr} {cs : List Value} (h : Rd w A cs) (hx : ∀ p v, w.cell? p = some v → w'.cell? p = some v) : Rd w' A cs := fun hne =>
  let ⟨b, off, e, hc⟩ := h hne
  ⟨b, off, e, fun j u hj => hx _ _ (hc j u hj)⟩
theorem Rd.at_ {w : World} {A : Option Addr} {cs : List Value} (h : Rd w A cs) {k : Nat} (hk : k < cs.length) :
    ∃ b off, A = some ⟨b, off, none⟩ ∧ w.cell? ⟨b, off + k, none⟩ = some cs[k] ∧ ∀ (j : Nat) (u : Value), cs[j]? = some u → w.cell? ⟨b, off + j, none⟩ = some u := by
  have hne : cs ≠ [] := by rintro rfl; simp at hk
  obtain ⟨b, off, e, hc⟩ := h hne
  exact ⟨b, off, e, hc k _ (List.getElem?_eq_getElem hk), hc⟩

theorem Rd.drop {w : World} {b off : Nat} {cs : List Value} (h : Rd w (some ⟨b, off, none⟩) cs) (k : Nat) : Rd w (some ⟨b, off + k, none⟩) (cs.drop k) := fun hne => by
  have hne' : cs ≠ [] := by rintro rfl; simp at hne
  obtain ⟨b', off', e, hc⟩ := h hne'
  simp only [Option.some.injEq, Addr.mk.injEq, and_true] at e
  obtain ⟨rfl, rfl⟩ := e
  exact ⟨b, off + k, rfl, fun j u hj => by rw [List.getElem?_drop] at hj; rw [Nat.add_assoc]; exact hc _ u hj⟩
theorem Rd.take {w : World} {A : Option Addr} {cs : List Value} (h : Rd w A cs) (k : Nat) : Rd w A (cs.take k) := fun hne => by
  have hne' : cs ≠ [] := by rintro rfl; simp at hne
  obtain ⟨b, off, e, hc⟩ := h hne'
  refine ⟨b, off, e, fun j u hj => hc j u ?_⟩
  rw [List.getElem?_take] at hj
  split at hj
  · exact hj
  · cases hj

/-- bytes as cells -/
def u8s (l : List UInt8) : List Value := l.map fun c => .int .u8 (c.toNat : Int)
theorem u8s_length (l : List UInt8) : (u8s l).length = l.length := by simp [u8s]
theorem u8s_append (a b : List UInt8) : u8s (a ++ b) = u8s a ++ u8s b := by simp [u8s]
theorem u8s_inj {a b : List UInt8} (h : u8s a = u8s b) : a = b := by
  induction a generalizing b with
  | nil => cases b with
    | nil => rfl
    | cons c b => simp [u8s] at h
  | cons c a ih => cases b with
    | nil => simp [u8s] at h
    | cons d b =>
      simp only [u8s, List.map_cons, List.cons.injEq, Value.int.injEq, true_and] at h
      have e : c = d := UInt8.toNat_inj.1 (by omega)
      rw [e, ih (b := b) h.2]
theorem u8s_one (l : List UInt8) : ∀ u ∈ u8s l, u.oneCell' = true := by
  intro u hu
  simp only [u8s, List.mem_map] at hu
  obtain ⟨c, _, rfl⟩ := hu
  rfl

/-- a slice of bytes that reads as l -/
def Rb (w : World) (A : Option Addr) (l : List UInt8) : Prop := Rd w A (u8s l)
theorem Rb.ext {w w' : World} {A : Option Addr} {l : List UInt8} (h : Rb w A l) (hx : Ext w w') : Rb w' A l := Rd.ext h hx
theorem Rb.at_ {w : World} {A : Option Addr} {l : List UInt8} (h : Rb w A l) {k : Nat} (hk : k < l.length) :
    ∃ b off, A = some ⟨b, off, none⟩ ∧ w.cell? ⟨b, off + k, none⟩ = some (.int .u8 (l[k].toNat : Int)) := by
  obtain ⟨b, off, e, hc, _⟩ := Rd.at_ (k := k) h (by rw [u8s_length]; exact hk)
  exact ⟨b, off, e, by rw [hc]; simp [u8s]⟩

theorem Rb.drop {w : World} {b off : Nat} {l : List UInt8} (h : Rb w (some ⟨b, off, none⟩) l) (k : Nat) : Rb w (some ⟨b, off + k, none⟩) (l.drop k) := by
  have := Rd.drop h k
  rwa [u8s, ← List.map_drop] at this
theorem Rb.take {w : World} {A : Option Addr} {l : List UInt8} (h : Rb w A l) (k : Nat) : Rb w A (l.take k) := by
  have := Rd.take h k
  rwa [u8s, ← List.map_take] at this
theorem Rb.some_ {w : World} {A : Option Addr} {l : List UInt8} (h : Rb w A l) (hl : 0 < l.length) : ∃ b off, A = some ⟨b, off, none⟩ := by
  obtain ⟨b, off, e, _⟩ := h.at_ hl
  exact ⟨b, off, e⟩

theorem Rd.of_own {w : World} {base : Nat} {e : TypeId} {size n : Nat} {v : Value} {xs : List Value} (h : w.ownsRow base e size v n xs) :
    ∃ A c, v = .slice A n c ∧ n ≤ c ∧ c ≤ maxLen ∧ Rd w A xs ∧ xs.length = n * size := by
  rcases h.2 with ⟨rfl, rfl⟩ | ⟨g, cap, cur, rfl, hb, hg, h1, h2, h3, h4⟩
  · have hx : xs = [] := List.eq_nil_of_length_eq_zero (by simpa using h.1)
    subst hx
    exact ⟨none, 0, rfl, Nat.le_refl _, Nat.zero_le _, Rd.nil _ _, h.1⟩
  · refine ⟨_, cap, rfl, h1, h2, fun _ => ⟨g, 0, rfl, fun j u hj => ?_⟩, h.1⟩
    have := World.ownsRow.cells h (g := g) rfl j u hj
    have hadd : (⟨g, 0, none⟩ : Addr).add j = ⟨g, 0 + j, none⟩ := by unfold Addr.add; split <;> simp_all
    rw [hadd] at this
    exact this

theorem own_ext {w w' : World} {base : Nat} {e : TypeId} {size n : Nat} {v : Value} {xs : List Value} (h : w.ownsRow base e size v n xs) (hx : Ext w w') : w'.ownsRow base e size v n xs := by
  refine ⟨h.1, ?_⟩
  rcases h.2 with h2 | ⟨g, cap, cur, hv, hb, hg, r⟩
  · exact .inl h2
  · exact .inr ⟨g, cap, cur, hv, hb, hx.heap hg, r⟩
theorem own_base {w : World} {base base' : Nat} {e : TypeId} {size n : Nat} {v : Value} {xs : List Value} (h : w.ownsRow base e size v n xs) (hx : base' ≤ base) : w.ownsRow base' e size v n xs := by
  refine ⟨h.1, ?_⟩
  rcases h.2 with h2 | ⟨g, cap, cur, hv, hb, hg, r⟩
  · exact .inl h2
  · exact .inr ⟨g, cap, cur, hv, Nat.le_trans hx hb, hg, r⟩

/-- a block that is known whole, none of it frozen -/
def Blk (w : World) (g : Nat) (cs : Array Value) (t : TypeId) : Prop := w.heap[g]? = some (.cells cs t (0, 0))

theorem Blk.lt {w : World} {g : Nat} {cs : Array Value} {t : TypeId} (h : Blk w g cs t) : g < w.heap.size := (Array.getElem?_eq_some_iff.1 h).1
theorem Blk.cell {w : World} {g : Nat} {cs : Array Value} {t : TypeId} (h : Blk w g cs t) (i : Nat) : w.cell? ⟨g, i, none⟩ = cs[i]? := cell_of_row w g i cs t (0, 0) h
theorem Blk.frozen {w : World} {g : Nat} {cs : Array Value} {t : TypeId} (h : Blk w g cs t) (i : Nat) : w.frozen? ⟨g, i, none⟩ = false := by
  unfold Blk at h
  simp [World.frozen?, h]
theorem Blk.new (w : World) (cs : Array Value) (t : TypeId) : Blk (w.alloc (.cells cs t)) w.heap.size cs t := heap_alloc_new w _
theorem Blk.ext {w w' : World} {g : Nat} {cs : Array Value} {t : TypeId} (h : Blk w g cs t) (hx : Ext w w') : Blk w' g cs t := hx.heap h
theorem Blk.drew {w : World} {g : Nat} {cs : Array Value} {t : TypeId} (h : Blk w g cs t) : Blk w.drew g cs t := h
theorem Blk.alloc {w : World} {g : Nat} {cs : Array Value} {t : TypeId} (h : Blk w g cs t) (o : Obj) : Blk (w.alloc o) g cs t := (Below.heap_alloc w o g h.lt).trans h
theorem Blk.set {w : World} {g : Nat} {cs : Array Value} {t : TypeId} (h : Blk w g cs t) (i : Nat) (u : Value) : Blk (w.setCell ⟨g, i, none⟩ u) g (cs.setIfInBounds i u) t := by
  unfold Blk at h ⊢
  simp [World.setCell, Array.getElem?_modify, h]
theorem Blk.far {w : World} {g : Nat} {cs : Array Value} {t : TypeId} (h : Blk w g cs t) {p : Addr} (hp : g ≠ p.block) (u : Value) : Blk (w.setCell p u) g cs t := (Below.heap_setCell w p u g hp).trans h
theorem Blk.grown {w w' : World} {row : Option Nat} {g : Nat} {cs : Array Value} {t : TypeId} (h : Blk w g cs t) (hb : w.grownBy w' row) (hg : some g ≠ row) : Blk w' g cs t := (hb.block g h.lt hg).trans h

/-- a new block's cells, as a slice of the whole -/
theorem Rd.of_block (w : World) (t : TypeId) (fr : Nat × Nat) {cs : Array Value} {l : List Value} (h : cs.toList = l) : Rd (w.alloc (.cells cs t fr)) (some ⟨w.heap.size, 0, none⟩) l := fun _ =>
  ⟨_, 0, rfl, fun j u hj => by
    subst h
    rw [Nat.zero_add, cell_of_row _ _ j cs t fr (heap_alloc_new w _)]
    simpa using hj⟩

/-- a slice type t of elements e: the zero element, how many cells and bytes one has -/
structure El (P : Program) (t e : TypeId) (z : Value) (size bytes : Nat) : Prop where
  under : P.underlying t = some (.slice e)
  info : (P.info? e).map (fun i => (i.zero, i.size, i.bytes)) = some (some z, size, bytes)
  cells : z.cells.size = size
  pos : 0 < size

/-- append onto a row of one's own, from any slice -/
theorem app_run {P : Program} {t e : TypeId} {z : Value} {size bytes : Nat} (E : El P t e z size bytes) (w : World) (ty : TypeId) (base : Nat)
    (v : Value) (n : Nat) (xs : List Value) (hown : w.ownsRow base e size v n xs)
    (A : Option Addr) (m c : Nat) (news : List Value) (hr : Rd w A news) (hl : news.length = m * size) (hA : A = none → c = 0) (h1 : ∀ u ∈ news, u.oneCell' = true)
    (hbytes : (n + m) * bytes ≤ 140737488355328) (hby : 0 < bytes) (hbase : base ≤ w.heap.size) :
    ∃ v' w', (Builtin.append_ #[t, t] ty #[v, .slice A m c]).run P w = .ok v' w' ∧ w'.ownsRow base e size v' (n + m) (xs ++ news) ∧ w.grownBy w' v.ownBlock ∧
      (v'.ownBlock = v.ownBlock ∨ v'.ownBlock = some w.heap.size) := by
  obtain ⟨i, hi, hz, hs, hb⟩ := info_parts E.info
  have hpos := E.pos
  have h63 : n + m ≤ maxLen := by
    have h : (n + m) * 1 ≤ (n + m) * bytes := Nat.mul_le_mul_left _ hby
    unfold maxLen; omega
  by_cases hne : news = []
  · subst hne
    have hm : m = 0 := by
      rcases Nat.eq_zero_or_pos m with h | h
      · exact h
      · have := Nat.mul_pos h hpos; simp at hl; omega
    subst hm
    cases A with
    | none =>
      rw [hA rfl]
      have := run_append_owned_none (P := P) w base t ty e i size E.under hi v n xs hown
      exact ⟨v, w, this, by simpa using hown, World.grownBy.refl w _, .inl rfl⟩
    | some ad =>
      obtain ⟨v', w', r, r2, r3, _, r4⟩ := run_append_own_at (P := P) w base t ty e i z size bytes E.under hi hz hs hb E.cells hpos v n xs hown ad 0 c [] (by simp) (by simp) h1 h63 hbytes hbase
      exact ⟨v', w', r, r2, r3, r4⟩
  · obtain ⟨b, off, rfl, hc⟩ := hr hne
    obtain ⟨v', w', r, r2, r3, _, r4⟩ := run_append_own_at (P := P) w base t ty e i z size bytes E.under hi hz hs hb E.cells hpos v n xs hown ⟨b, off, none⟩ m c news hl (fun j u hj => by
      have hadd : (⟨b, off, none⟩ : Addr).add j = ⟨b, off + j, none⟩ := by unfold Addr.add; split <;> simp_all
      rw [hadd]; exact hc j u hj) h1 h63 hbytes hbase
    exact ⟨v', w', r, r2, r3, r4⟩

theorem wp_app {P : Program} {t e : TypeId} {z : Value} {size bytes : Nat} (E : El P t e z size bytes) (w : World) {o : Oper} {a : Act} {K : Act → World → Prop} {Q : Exit → Act → World → Prop} (s x : Operand)
    (ho : o.op = .call { callee := .builtin .append, args := #[s, x], argTypes := #[t, t] }) (base : Nat)
    (v : Value) (n : Nat) (xs : List Value) (hs : a.eval s = v) (hown : w.ownsRow base e size v n xs)
    (A : Option Addr) (m c : Nat) (news : List Value) (hx : a.eval x = .slice A m c) (hr : Rd w A news) (hl : news.length = m * size) (hA : A = none → c = 0) (h1 : ∀ u ∈ news, u.oneCell' = true)
    (hbytes : (n + m) * bytes ≤ 140737488355328) (hby : 0 < bytes) (hbase : base ≤ w.heap.size)
    (h : ∀ v' w', w'.ownsRow base e size v' (n + m) (xs ++ news) → w.grownBy w' v.ownBlock → (v'.ownBlock = v.ownBlock ∨ v'.ownBlock = some w.heap.size) → K (a.put o.dst v') w') : o.wp P a w K Q := by
  obtain ⟨v', w', hrun, h2, h3, h4⟩ := app_run E w o.type base v n xs hown A m c news hr hl hA h1 hbytes hby hbase
  unfold Oper.wp execOp
  simp only [ho, resolve, invoke, builtin, Sem.run_bind, Sem.run_pure, Result.andThen_ok, List.map_toArray, List.map_cons, List.map_nil, hs, hx, hrun]
  exact h v' w' h2 h3 h4

theorem wpList_app {P : Program} {t e : TypeId} {z : Value} {size bytes : Nat} (E : El P t e z size bytes) (w : World) {ops : Array Oper} {rest : List Oper} {o : Oper} {a : Act} {Q : Exit → Act → World → Prop} (hgd : o.guard = none) (s x : Operand)
    (ho : o.op = .call { callee := .builtin .append, args := #[s, x], argTypes := #[t, t] }) (base : Nat)
    (v : Value) (n : Nat) (xs : List Value) (hs : a.eval s = v) (hown : w.ownsRow base e size v n xs)
    (A : Option Addr) (m c : Nat) (news : List Value) (hx : a.eval x = .slice A m c) (hr : Rd w A news) (hl : news.length = m * size) (hA : A = none → c = 0) (h1 : ∀ u ∈ news, u.oneCell' = true)
    (hbytes : (n + m) * bytes ≤ 140737488355328) (hby : 0 < bytes) (hbase : base ≤ w.heap.size)
    (h : ∀ v' w', w'.ownsRow base e size v' (n + m) (xs ++ news) → w.grownBy w' v.ownBlock → (v'.ownBlock = v.ownBlock ∨ v'.ownBlock = some w.heap.size) → wpList P ops Q rest (a.put o.dst v') w') : wpList P ops Q (o :: rest) a w :=
  wpList_plain hgd fun _ hK => wp_app E w s x ho base v n xs hs hown A m c news hx hr hl hA h1 hbytes hby hbase fun v' w' h2 h3 h4 => hK _ _ (h v' w' h2 h3 h4)

/-- a row of one element type is no block of another -/
theorem own_ne_blk {w : World} {base : Nat} {e t : TypeId} {size n : Nat} {v : Value} {xs : List Value} {g : Nat} {cs : Array Value} (h : w.ownsRow base e size v n xs) (hb : Blk w g cs t) (hne : e ≠ t) : some g ≠ v.ownBlock := by
  intro heq
  rcases h.2 with ⟨rfl, _⟩ | ⟨g', cap, cur, rfl, _, hh, _⟩
  · simp [Value.ownBlock] at heq
  · simp only [Value.ownBlock, Option.some.injEq] at heq
    subst heq
    unfold Blk at hb
    rw [hh] at hb
    injection hb with hb
    injection hb with _ ht
    exact hne ht
theorem own_ne_own {w : World} {base base' : Nat} {e e' : TypeId} {size size' n n' : Nat} {v v' : Value} {xs xs' : List Value} (h : w.ownsRow base e size v n xs) (h' : w.ownsRow base' e' size' v' n' xs') (hne : e ≠ e') :
    v'.ownBlock = none ∨ v'.ownBlock ≠ v.ownBlock := by
  rcases h'.2 with ⟨rfl, _⟩ | ⟨g', cap, cur, rfl, _, hh, _⟩
  · exact .inl rfl
  · exact .inr (own_ne_blk h (show Blk w g' cur e' from hh) hne)
theorem own_setCell {w : World} {base : Nat} {e t : TypeId} {size n : Nat} {v : Value} {xs : List Value} {g i : Nat} {cs : Array Value} (h : w.ownsRow base e size v n xs) (hb : Blk w g cs t) (hne : e ≠ t) (u : Value) : (w.setCell ⟨g, i, none⟩ u).ownsRow base e size v n xs := by
  refine ⟨h.1, ?_⟩
  rcases h.2 with h2 | ⟨g', cap, cur, hv, hb', hh, r⟩
  · exact .inl h2
  · refine .inr ⟨g', cap, cur, hv, hb', ?_, r⟩
    have hgg : g' ≠ g := fun e => by
      have h3 := own_ne_blk h hb hne
      subst hv
      exact h3 (by simp [Value.ownBlock, e])
    exact (Below.heap_setCell w ⟨g, i, none⟩ u g' hgg).trans hh

/-- texts as cells -/
def txs (l : List ByteArray) : List Value := l.map Value.string
theorem txs_length (l : List ByteArray) : (txs l).length = l.length := by simp [txs]
theorem txs_one (l : List ByteArray) : ∀ u ∈ txs l, u.oneCell' = true := by
  intro u hu
  simp only [txs, List.mem_map] at hu
  obtain ⟨c, _, rfl⟩ := hu
  rfl
/-- bytes as a string -/
def Str (l : List UInt8) : ByteArray := ⟨l.toArray⟩
theorem Str_inj {a b : List UInt8} (h : Str a = Str b) : a = b := by
  have := congrArg (fun s => s.data.toList) h
  simpa [Str] using this

/-- string(b) -/
theorem conv_rd {P : Program} {src dst e : TypeId} (hs : P.underlying src = some (.slice e)) (he : P.underlying e = some (.int .u8)) (hd : P.underlying dst = some .string) {w : World} {A : Option Addr} {l : List UInt8} {n : Nat} (c : Nat) (hn : l.length = n) (h : Rb w A l) :
    (convert src dst (.slice A n c)).run P w = .ok (.string (Str l)) w := by
  by_cases hl : l = []
  · subst hl
    simp at hn
    subst hn
    rw [run_convert_bytes_string w src dst e A 0 c hs he hd]
    cases A with
    | none => simp [Conv.bytesToString, Str]; rfl
    | some ad => simp [Conv.bytesToString, loadCells, loadCellsFrom, Str]; rfl
  · obtain ⟨b, off, rfl, hc⟩ := h (by simpa [u8s] using hl)
    rw [run_convert_bytes_arg w src e hs he b off n c (l.map fun x => (x.toNat : Int)) (by simpa using hn) (fun i hi => by
      rw [hc i (.int .u8 (l[i]'(by omega)).toNat) (by simp [u8s, List.getElem?_eq_getElem (show i < l.length by omega)])]
      simp [List.getD, List.getElem?_eq_getElem (show i < l.length by omega)]) dst hd]
    congr 2
    simp [strOfNums, Str, Function.comp_def]

end Go.Proofs.Ytalbjbcomamomaa.Base
