/- A region that draws its order: one walk, in an order in which what only reads comes as early as it may, serves every order. The class of worlds moves on with the walk. -/
import Derived.OrdersHeld
import Derived.Deep.RegionHeld3
namespace Go.Proofs.Ytalbjbcomamomaa.Reg
set_option linter.unusedVariables false

/-- the operations that have come up -/
def marked (n : Nat) (l : List Nat) : Array Bool := l.foldr (fun i acc => acc.setIfInBounds i true) (Array.replicate n false)
theorem marked_cons (n i : Nat) (l : List Nat) : marked n (i :: l) = (marked n l).setIfInBounds i true := rfl

section
variable {P : Program} {ops : Array Oper} {Q : Exit → Act → World → Prop} {R : World → World → Prop}

/-- what has come up has come up behind what it waits for -/
def Closed (ops : Array Oper) (listed : Array Bool) : Prop := ∀ (k : Nat) (ok : Oper), ops[k]? = some ok → listed.getD k false = true → ∀ e ∈ ok.after, Region.binds .any e = true → listed.getD e.on false = true
theorem Closed.set {ops : Array Oper} {listed : Array Bool} {i : Nat} (h : Closed ops listed) (hi : i ∈ Region.ready .any ops listed) : Closed ops (listed.setIfInBounds i true) := by
  intro k ok hk hl e he hb
  by_cases hik : i = k
  · subst hik
    obtain ⟨_, oi, hoi, hall⟩ := mem_ready.1 hi
    rw [hk] at hoi
    cases hoi
    exact getD_set_true (hall e he hb)
  · rw [getD_set_ne false hik] at hl
    exact getD_set_true (h k ok hk hl e he hb)
theorem Closed.none (ops : Array Oper) : Closed ops (marked ops.size []) := by
  intro k ok hk hl
  have hlt := (Array.getElem?_eq_some_iff.1 hk).1
  simp [marked, hlt] at hl
/-- an operation that waits for all the others -/
def Sole (ops : Array Oper) (j : Nat) : Prop := ∀ (listed : Array Bool) (i : Nat), Closed ops listed → j ∈ Region.ready .any ops listed → i ∈ Region.ready .any ops listed → i = j
/-- j waits for k, or for one that does -/
def waits (ops : Array Oper) : Nat → Nat → Nat → Bool
  | 0, _, _ => false
  | f + 1, j, k => match ops[j]? with
    | none => false
    | some oj => oj.after.any fun e => Region.binds .any e && (e.on == k || waits ops f e.on k)
theorem waits_listed {ops : Array Oper} {listed : Array Bool} (hc : Closed ops listed) {k : Nat} : ∀ (f j : Nat), waits ops f j k = true → (∀ oj, ops[j]? = some oj → ∀ e ∈ oj.after, Region.binds .any e = true → listed.getD e.on false = true) → listed.getD k false = true
  | 0, _, h, _ => by simp [waits] at h
  | f + 1, j, h, hj => by
    unfold waits at h
    cases hoj : ops[j]? with
    | none => simp [hoj] at h
    | some oj =>
      simp only [hoj] at h
      obtain ⟨e, he, hb⟩ := Array.any_eq_true'.1 h
      simp only [Bool.and_eq_true, Bool.or_eq_true, beq_iff_eq] at hb
      have hl := hj oj hoj e he hb.1
      rcases hb.2 with h2 | h2
      · rw [← h2]; exact hl
      · exact waits_listed hc f e.on h2 (fun oe hoe => hc e.on oe hoe hl)
def soleB (ops : Array Oper) (j : Nat) : Bool :=
  match ops[j]? with
  | none => false
  | some _ => (List.range ops.size).all fun k => k == j || waits ops 4 j k
theorem sole_of {ops : Array Oper} {j : Nat} (h : soleB ops j = true) : Sole ops j := by
  intro listed i hc hj hi
  obtain ⟨_, oj, hoj, hall⟩ := mem_ready.1 hj
  obtain ⟨hun, oi, hoi, _⟩ := mem_ready.1 hi
  unfold soleB at h
  simp only [hoj, List.all_eq_true, List.mem_range] at h
  have h1 := h i (Array.getElem?_eq_some_iff.1 hoi).1
  simp only [Bool.or_eq_true, beq_iff_eq] at h1
  rcases h1 with h1 | h1
  · exact h1
  · have h2 := waits_listed hc _ _ h1 (fun o ho => by rw [hoj] at ho; cases ho; exact hall)
    rcases Nat.lt_or_ge i listed.size with h' | h'
    · simp [h'] at h2 hun; rw [hun] at h2; cases h2
    · simp [Array.getElem?_eq_none h'] at h2

/-- whatever order is picked from here on, each operation leads to a world that is related to the one before it, but for one that waits for all the others -/
def wpAll (P : Program) (ops : Array Oper) (Q : Exit → Act → World → Prop) (R : World → World → Prop) : Nat → Array Bool → Act → World → Prop
  | 0, listed, a, w => Region.ready .any ops listed = [] ∧ Q .normal a w
  | fuel + 1, listed, a, w =>
    (Region.ready .any ops listed = [] → Q .normal a w) ∧
    ∀ i ∈ Region.ready .any ops listed, wpOp P ops Q i (fun a' w' => (R w w' ∨ Sole ops i) ∧ wpAll P ops Q R fuel (listed.setIfInBounds i true) a' w') a w

theorem wpAny_of_wpAll : ∀ (fuel : Nat) (listed : Array Bool) (a : Act) (w : World), wpAll P ops Q R fuel listed a w → wpAny P .any ops Q fuel listed a w
  | 0, _, _, _, h => h
  | fuel + 1, _, _, _, h => ⟨h.1, fun i hi => wpOp_mono (fun a' w' h' => wpAny_of_wpAll fuel _ a' w' h'.2) (h.2 i hi)⟩

theorem wpAll_first (hrefl : ∀ w, R w w) (htrans : ∀ {a b c}, R a b → R b c → R a c) {w0 : World} {i : Nat} {oi : Oper} {v : Value} (hi : ops[i]? = some oi) (hsel : ∀ (j : Nat) (o : Oper) cs b, ops[j]? = some o → o.op ≠ .select cs b)
    (hQ : ∀ c a w, Q (.panic c) (a.put oi.dst v) w → Q (.panic c) a w) :
    ∀ (fuel : Nat) (listed : Array Bool) (a : Act) (w : World),
      (∀ j oj, ops[j]? = some oj → j ≠ i → listed.getD j true = false → (∀ e ∈ oj.after, Region.binds .any e = true → e.on ≠ i) → oi.apart ops oj = true) →
      Closed ops listed → i ∈ Region.ready .any ops listed → YieldsIf P ops (R w0) oi v a → R w0 w →
      wpAll P ops Q R fuel (listed.setIfInBounds i true) (a.put oi.dst v) w → wpAll P ops Q R (fuel + 1) listed a w := by
  intro fuel
  induction fuel with
  | zero =>
    intro listed a w _ hcl hr hy hw H
    refine ⟨fun h => (by rw [h] at hr; cases hr), fun j hj => ?_⟩
    by_cases hji : j = i
    · subst hji; exact hy.wpOp hi hw ⟨.inl (hrefl w), H⟩
    · have := ready_mono hj hji
      rw [H.1] at this
      cases this
  | succ fuel ih =>
    intro listed a w hfree hcl hr hy hw H
    refine ⟨fun h => (by rw [h] at hr; cases hr), fun j hj => ?_⟩
    by_cases hji : j = i
    · subst hji; exact hy.wpOp hi hw ⟨.inl (hrefl w), H⟩
    · have h1 := H.2 j (ready_mono hj hji)
      obtain ⟨hjun, oj, hoj, hall⟩ := mem_ready.1 hj
      have hnot : ∀ e ∈ oj.after, Region.binds .any e = true → e.on ≠ i := fun e he hb heq => by
        have h1 := hall e he hb
        have h0 := (mem_ready.1 hr).1
        rw [heq] at h1
        rcases Nat.lt_or_ge i listed.size with h' | h'
        · simp [h'] at h0 h1; rw [h0] at h1; cases h1
        · simp [Array.getElem?_eq_none h'] at h1
      have h2 := wpOp_putIf hoj (hfree j oj hoj hji hjun hnot) (fun cs b => hsel i oi cs b hi) (fun cs b => hsel j oj cs b hoj) hQ hy h1
      have hfree' : ∀ k ok, ops[k]? = some ok → k ≠ i → (listed.setIfInBounds j true).getD k true = false →
          (∀ e ∈ ok.after, Region.binds .any e = true → e.on ≠ i) → oi.apart ops ok = true := fun k ok hk hki hun hno => by
        refine hfree k ok hk hki ?_ hno
        by_cases hjk : j = k
        · subst hjk; exact hjun
        · rw [getD_set_ne true hjk] at hun; exact hun
      refine wpOp_mono (fun a' w' h3 => ?_) h2
      have hrel : R w w' := h3.2.1.resolve_right (fun hs => hji (hs listed i hcl hj hr).symm)
      refine ⟨.inl hrel, ih (listed.setIfInBounds j true) a' w' hfree' (hcl.set hj) (ready_mono hr (Ne.symm hji)) h3.1 (htrans hw hrel) ?_⟩
      rw [Array.setIfInBounds_comm _ _ hji]
      exact h3.2.2

/-- the walk's state: these operations have come up (the last one first), the frame, and the least of the worlds -/
def St (P : Program) (ops : Array Oper) (Q : Exit → Act → World → Prop) (R : World → World → Prop) (done : List Nat) (a : Act) (w : World) : Prop :=
  Closed ops (marked ops.size done) → ∀ w', R w w' → wpAll P ops Q R (ops.size - done.length) (marked ops.size done) a w'

/-- an operation that yields one value in every world from here on, and leaves it as it is -/
theorem take (hrefl : ∀ w, R w w) (htrans : ∀ {a b c}, R a b → R b c → R a c) (i : Nat) (oi : Oper) (v : Value) {done : List Nat} {a : Act} {w : World} (hi : ops[i]? = some oi)
    (hs : Region.noSelect ops = true) (hf : Region.free .any ops (marked ops.size done) i = true) (hr : (Region.ready .any ops (marked ops.size done)).contains i = true) (hn : done.length < ops.size)
    (hQ : ∀ c a w, Q (.panic c) (a.put oi.dst v) w → Q (.panic c) a w) (hw : Region.wanted oi (yielded ops a.tmps) = true)
    (hy : ∀ w', R w w' → (execOp a.eval oi).run P w' = .ok (.value v) w')
    (h : St P ops Q R (i :: done) (a.put oi.dst v) w) : St P ops Q R done a w := by
  intro hcl w' hw'
  have e : ops.size - done.length = (ops.size - (i :: done).length) + 1 := by simp only [List.length_cons]; omega
  rw [e]
  exact wpAll_first hrefl htrans hi (Region.noSelect_spec hs) hQ _ _ a w' (Region.free_spec hi hf) hcl (by simpa using hr) (.inl ⟨hw, hy⟩) hw' (h (hcl.set (i := i) (by simpa using hr)) w' hw')

/-- an operation whose guard says no -/
theorem skip (hrefl : ∀ w, R w w) (htrans : ∀ {a b c}, R a b → R b c → R a c) (i : Nat) (oi : Oper) {done : List Nat} {a : Act} {w : World} (hi : ops[i]? = some oi)
    (hs : Region.noSelect ops = true) (hf : Region.free .any ops (marked ops.size done) i = true) (hr : (Region.ready .any ops (marked ops.size done)).contains i = true) (hn : done.length < ops.size)
    (hQ : ∀ c a w, Q (.panic c) (a.put oi.dst undef) w → Q (.panic c) a w) (hw : Region.wanted oi (yielded ops a.tmps) = false)
    (h : St P ops Q R (i :: done) (a.put oi.dst undef) w) : St P ops Q R done a w := by
  intro hcl w' hw'
  have e : ops.size - done.length = (ops.size - (i :: done).length) + 1 := by simp only [List.length_cons]; omega
  rw [e]
  exact wpAll_first hrefl htrans hi (Region.noSelect_spec hs) hQ _ _ a w' (Region.free_spec hi hf) hcl (by simpa using hr) (.inr ⟨hw, rfl⟩) hw' (h (hcl.set (i := i) (by simpa using hr)) w' hw')

/-- the one operation that may come up now -/
theorem only (i : Nat) (oi : Oper) {done : List Nat} {a : Act} {w : World} (hi : ops[i]? = some oi)
    (hr : Region.ready .any ops (marked ops.size done) = [i]) (hn : done.length < ops.size) (hw : Region.wanted oi (yielded ops a.tmps) = true)
    (h : ∀ w', R w w' → ∀ K : Act → World → Prop, Shut (∀ a' w'', R w' w'' → St P ops Q R (i :: done) a' w'' → K a' w'') → oi.wp P a w' K Q)
    (hrefl : ∀ w, R w w) : St P ops Q R done a w := by
  intro hcl w' hw'
  have e : ops.size - done.length = (ops.size - (i :: done).length) + 1 := by simp only [List.length_cons]; omega
  rw [e]
  refine ⟨fun h0 => (by rw [h0] at hr; cases hr), fun j hj => ?_⟩
  rw [hr] at hj
  obtain rfl : j = i := by simpa using hj
  unfold wpOp
  simp only [hi, hw, if_true]
  exact .inl (h w' hw' _ (fun a' w'' hx hst => ⟨.inl hx, hst (hcl.set (by rw [hr]; simp)) w'' (hrefl _)⟩))

/-- the last operation, which waits for all the others: it may turn what it likes -/
theorem last (i : Nat) (oi : Oper) {done : List Nat} {a : Act} {w : World} (hi : ops[i]? = some oi)
    (hr : Region.ready .any ops (marked ops.size done) = [i]) (hr2 : Region.ready .any ops (marked ops.size (i :: done)) = []) (hs : soleB ops i = true) (hn : done.length < ops.size) (hw : Region.wanted oi (yielded ops a.tmps) = true)
    (h : ∀ w', R w w' → ∀ K : Act → World → Prop, Shut (∀ a' w'', Q .normal a' w'' → K a' w'') → oi.wp P a w' K Q) : St P ops Q R done a w := by
  intro hcl w' hw'
  have e : ops.size - done.length = (ops.size - (i :: done).length) + 1 := by simp only [List.length_cons]; omega
  rw [e]
  refine ⟨fun h0 => (by rw [h0] at hr; cases hr), fun j hj => ?_⟩
  rw [hr] at hj
  obtain rfl : j = i := by simpa using hj
  unfold wpOp
  simp only [hi, hw, if_true]
  refine .inl (h w' hw' _ (fun a' w'' hq => ⟨.inr (sole_of hs), ?_⟩))
  cases hk : ops.size - (j :: done).length with
  | zero => exact ⟨hr2, hq⟩
  | succ k => exact ⟨fun _ => hq, by rw [← marked_cons, hr2]; simp⟩

/-- all have come up -/
theorem fin {done : List Nat} {a : Act} {w : World} (hr : Region.ready .any ops (marked ops.size done) = []) (h : ∀ w', R w w' → Q .normal a w') : St P ops Q R done a w := by
  intro hcl w' hw'
  cases hk : ops.size - done.length with
  | zero => exact ⟨hr, h w' hw'⟩
  | succ k => exact ⟨fun _ => h w' hw', by rw [hr]; simp⟩

/-- the beginning -/
theorem start {id : Nat} {a : Act} {w : World} (hm : P.follows .mixedOrders = true) (hd : R w w.drew) (h : St P ops Q R [] a w) : (Code.region id ops true).wp P Q a w :=
  wp_region_any hm (wpAny_of_wpAll _ _ _ _ (h (Closed.none ops) w.drew hd))

end
end Go.Proofs.Ytalbjbcomamomaa.Reg
