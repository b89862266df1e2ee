/- The walk of a region that draws its order, at exact worlds: what only reads comes as early as it may; the worlds are those of the operations that turn something. -/
import Derived.Test.YtdfgjmmdpbgodaaDoorReg
namespace Go.Proofs.YtdfgjmmdpbgodaaDoor.Reg
open Base
set_option linter.unusedVariables false

section
variable {P : Program} {ops : Array Oper} {Q : Exit → Act → World → Prop} {R : World → World → Prop}

/-- the walk's state: these operations have come up (the last one first), the frame, the world -/
def At (P : Program) (ops : Array Oper) (Q : Exit → Act → World → Prop) (R : World → World → Prop) (done : List Nat) (a : Act) (w : World) : Prop :=
  Closed ops (marked ops.size done) → wpAll P ops Q R (ops.size - done.length) (marked ops.size done) a w

theorem startX {id : Nat} {a : Act} {w : World} (hm : P.follows .mixedOrders = true) (h : At P ops Q R [] a w.drew) : (Code.region id ops true).wp P Q a w :=
  wp_region_any hm (wpAny_of_wpAll _ _ _ _ (h (Closed.none ops)))
theorem takeX (hR : Rl R) (i : Nat) (oi : Oper) (v : Value) {done : List Nat} {a : Act} {w : World} (hi : ops[i]? = some oi)
    (hs : Region.noSelect ops = true) (hf : Region.free .any ops (marked ops.size done) i = true) (hr : (Region.ready .any ops (marked ops.size done)).contains i = true) (hn : done.length < ops.size)
    (hQ : ∀ c a w, Q (.panic c) (a.put oi.dst v) w → Q (.panic c) a w) (hw : Region.wanted oi (yielded ops a.tmps) = true)
    (hy : ∀ w', R w w' → (execOp a.eval oi).run P w' = .ok (.value v) w')
    (h : At P ops Q R (i :: done) (a.put oi.dst v) w) : At P ops Q R done a w := by
  intro hcl
  have e : ops.size - done.length = (ops.size - (i :: done).length) + 1 := by simp only [List.length_cons]; omega
  rw [e]
  exact wpAll_first hR.refl hR.trans hi (Region.noSelect_spec hs) hQ _ _ a w (Region.free_spec hi hf) hcl (by simpa using hr) (.inl ⟨hw, hy⟩) (hR.refl w) (h (hcl.set (i := i) (by simpa using hr)))
theorem skipX (hR : Rl R) (i : Nat) (oi : Oper) {done : List Nat} {a : Act} {w : World} (hi : ops[i]? = some oi)
    (hs : Region.noSelect ops = true) (hf : Region.free .any ops (marked ops.size done) i = true) (hr : (Region.ready .any ops (marked ops.size done)).contains i = true) (hn : done.length < ops.size)
    (hQ : ∀ c a w, Q (.panic c) (a.put oi.dst undef) w → Q (.panic c) a w) (hw : Region.wanted oi (yielded ops a.tmps) = false)
    (h : At P ops Q R (i :: done) (a.put oi.dst undef) w) : At P ops Q R done a w := by
  intro hcl
  have e : ops.size - done.length = (ops.size - (i :: done).length) + 1 := by simp only [List.length_cons]; omega
  rw [e]
  exact wpAll_first hR.refl hR.trans hi (Region.noSelect_spec hs) hQ _ _ a w (Region.free_spec hi hf) hcl (by simpa using hr) (.inr ⟨hw, rfl⟩) (hR.refl w) (h (hcl.set (i := i) (by simpa using hr)))
/-- the one operation that may come up now -/
theorem onlyX (i : Nat) (oi : Oper) {done : List Nat} {a : Act} {w : World} (hi : ops[i]? = some oi)
    (hr : Region.ready .any ops (marked ops.size done) = [i]) (hn : done.length < ops.size) (hw : Region.wanted oi (yielded ops a.tmps) = true)
    (h : ∀ K : Act → World → Prop, Shut (∀ a' w'', R w w'' → At P ops Q R (i :: done) a' w'' → K a' w'') → oi.wp P a w K Q) : At P ops Q R done a w := by
  intro hcl
  have e : ops.size - done.length = (ops.size - (i :: done).length) + 1 := by simp only [List.length_cons]; omega
  rw [e]
  refine ⟨fun h0 => (by rw [h0] at hr; cases hr), fun j hj => ?_⟩
  rw [hr] at hj
  obtain rfl : j = i := by simpa using hj
  unfold wpOp
  simp only [hi, hw, if_true]
  exact .inl (h _ (fun a' w'' hx hst => ⟨.inl hx, hst (hcl.set (by rw [hr]; simp))⟩))
/-- two operations that may come up now, each of which turns something: both ways -/
theorem bothX (i j : Nat) (oi oj : Oper) {done : List Nat} {a : Act} {w : World} (hi : ops[i]? = some oi) (hj : ops[j]? = some oj)
    (hr : Region.ready .any ops (marked ops.size done) = [i, j]) (hn : done.length < ops.size) (hwi : Region.wanted oi (yielded ops a.tmps) = true) (hwj : Region.wanted oj (yielded ops a.tmps) = true)
    (h1 : ∀ K : Act → World → Prop, Shut (∀ a' w'', R w w'' → At P ops Q R (i :: done) a' w'' → K a' w'') → oi.wp P a w K Q)
    (h2 : ∀ K : Act → World → Prop, Shut (∀ a' w'', R w w'' → At P ops Q R (j :: done) a' w'' → K a' w'') → oj.wp P a w K Q) : At P ops Q R done a w := by
  intro hcl
  have e : ops.size - done.length = (ops.size - (i :: done).length) + 1 := by simp only [List.length_cons]; omega
  rw [e]
  refine ⟨fun h0 => (by rw [h0] at hr; cases hr), fun k hk => ?_⟩
  have hk2 := hk
  rw [hr] at hk
  simp only [List.mem_cons, List.mem_nil_iff, or_false] at hk
  unfold wpOp
  rcases hk with rfl | rfl
  · simp only [hi, hwi, if_true]
    exact .inl (h1 _ (fun a' w'' hx hst => ⟨.inl hx, hst (hcl.set hk2)⟩))
  · simp only [hj, hwj, if_true]
    exact .inl (h2 _ (fun a' w'' hx hst => ⟨.inl hx, hst (hcl.set hk2)⟩))
/-- the last operation, which waits for all the others: it may turn what it likes -/
theorem lastX (i : Nat) (oi : Oper) {done : List Nat} {a : Act} {w : World} (hi : ops[i]? = some oi)
    (hr : Region.ready .any ops (marked ops.size done) = [i]) (hr2 : Region.ready .any ops (marked ops.size (i :: done)) = []) (hs : soleB ops i = true) (hn : done.length < ops.size) (hw : Region.wanted oi (yielded ops a.tmps) = true)
    (h : ∀ K : Act → World → Prop, Shut (∀ a' w'', Q .normal a' w'' → K a' w'') → oi.wp P a w K Q) : At P ops Q R done a w := by
  intro hcl
  have e : ops.size - done.length = (ops.size - (i :: done).length) + 1 := by simp only [List.length_cons]; omega
  rw [e]
  refine ⟨fun h0 => (by rw [h0] at hr; cases hr), fun j hj => ?_⟩
  rw [hr] at hj
  obtain rfl : j = i := by simpa using hj
  unfold wpOp
  simp only [hi, hw, if_true]
  refine .inl (h _ (fun a' w'' hq => ⟨.inr (sole_of hs), ?_⟩))
  cases hk : ops.size - (j :: done).length with
  | zero => exact ⟨hr2, hq⟩
  | succ k => exact ⟨fun _ => hq, by rw [← marked_cons, hr2]; simp⟩
theorem finX {done : List Nat} {a : Act} {w : World} (hr : Region.ready .any ops (marked ops.size done) = []) (h : Q .normal a w) : At P ops Q R done a w := by
  intro hcl
  cases hk : ops.size - done.length with
  | zero => exact ⟨hr, h⟩
  | succ k => exact ⟨fun _ => h, by rw [hr]; simp⟩
/-- the order in which they have come up does not matter -/
theorem At.perm {done done' : List Nat} {a : Act} {w : World} (hm : marked ops.size done = marked ops.size done') (hl : done.length = done'.length) (h : At P ops Q R done' a w) : At P ops Q R done a w := by
  unfold At at h ⊢
  rw [hm, hl]; exact h

theorem put_comm (a : Act) {d e : Option Nat} (h : d ≠ e) (u v : Value) : (a.put d u).put e v = (a.put e v).put d u := by
  cases d with
  | none => rfl
  | some d =>
    cases e with
    | none => rfl
    | some e =>
      have : d ≠ e := fun x => h (by rw [x])
      simp only [Act.put, Act.mk.injEq, and_true]
      exact Array.setIfInBounds_comm _ _ this
/-- two operations that may come up now, each of which lays new blocks alone: what they yield is told by two predicates that stand wherever all stays as it is -/
theorem bothY {B : Nat} (i j : Nat) (oi oj : Oper) {done : List Nat} {a : Act} {w : World} (hB : B ≤ w.heap.size) (hi : ops[i]? = some oi) (hj : ops[j]? = some oj) (hgi : oi.guard = none) (hgj : oj.guard = none) (hd : oi.dst ≠ oj.dst) (hij : i ≠ j)
    (hr : Region.ready .any ops (marked ops.size done) = [i, j]) (hri : Region.ready .any ops (marked ops.size (i :: done)) = [j]) (hrj : Region.ready .any ops (marked ops.size (j :: done)) = [i]) (hn : done.length + 1 < ops.size)
    (Fi Fj : Value → World → Prop) (si : ∀ v w1 w2, Fi v w1 → Ext w1 w2 → Fi v w2) (sj : ∀ v w1 w2, Fj v w1 → Ext w1 w2 → Fj v w2)
    (h1 : ∀ a' w1, (a' = a ∨ ∃ v, a' = a.put oj.dst v) → Ext w w1 → ∀ K : Act → World → Prop, Shut (∀ v w2, Ext w1 w2 → Fi v w2 → K (a'.put oi.dst v) w2) → oi.wp P a' w1 K Q)
    (h2 : ∀ a' w1, (a' = a ∨ ∃ v, a' = a.put oi.dst v) → Ext w w1 → ∀ K : Act → World → Prop, Shut (∀ v w2, Ext w1 w2 → Fj v w2 → K (a'.put oj.dst v) w2) → oj.wp P a' w1 K Q)
    (h : ∀ vi vj X, Ext w X → Fi vi X → Fj vj X → At P ops Q (Go.RowKit.Below B) (j :: i :: done) ((a.put oi.dst vi).put oj.dst vj) X) : At P ops Q (Go.RowKit.Below B) done a w := by
  have wi : ∀ t, Region.wanted oi t = true := fun t => by simp [Region.wanted, hgi]
  have wj : ∀ t, Region.wanted oj t = true := fun t => by simp [Region.wanted, hgj]
  have low : ∀ {x y : World}, Ext w x → Ext x y → Go.RowKit.Below B x y := fun hx hy => Go.RowKit.Below.mono hy (Nat.le_trans hB hx.size)
  refine bothX i j oi oj hi hj hr (by omega) (wi _) (wj _) (fun K hK => ?_) (fun K hK => ?_)
  · refine h1 a w (.inl rfl) (Ext.refl w) K (fun vi w2 hx hf => hK _ _ (low (Ext.refl w) hx) ?_)
    refine onlyX j oj hj hri (by simp only [List.length_cons]; omega) (wj _) (fun K hK => ?_)
    exact h2 _ w2 (.inr ⟨vi, rfl⟩) hx K (fun vj w3 hx3 hfj => hK _ _ (low hx hx3) (h vi vj w3 (hx.trans hx3) (si _ _ _ hf hx3) hfj))
  · refine h2 a w (.inl rfl) (Ext.refl w) K (fun vj w2 hx hf => hK _ _ (low (Ext.refl w) hx) ?_)
    refine onlyX i oi hi hrj (by simp only [List.length_cons]; omega) (wi _) (fun K hK => ?_)
    refine h1 _ w2 (.inr ⟨vj, rfl⟩) hx K (fun vi w3 hx3 hfi => hK _ _ (low hx hx3) ?_)
    have hm : marked ops.size (i :: j :: done) = marked ops.size (j :: i :: done) := by
      rw [marked_cons, marked_cons, marked_cons, marked_cons]
      exact Array.setIfInBounds_comm _ _ (Ne.symm hij)
    refine At.perm hm rfl ?_
    rw [put_comm a (Ne.symm hd)]
    exact h vi vj w3 (hx.trans hx3) hfi (sj _ _ _ hf hx3)
end
end Go.Proofs.YtdfgjmmdpbgodaaDoor.Reg
