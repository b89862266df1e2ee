/- parse: how deep a schema is; nodes' shapes: plain. -/
import Derived.Test.YtejcacbbhijdcaaDoorPaB
import Derived.Deep.Upon
import Derived.OrdersHeld
import Derived.Deep.RegionHeld3
namespace Go.Proofs.YtejcacbbhijdcaaDoor.Pr
open Lx
set_option linter.unusedVariables false

abbrev DT := Int → Nat → Option (Nat × Nat)
def dlist (D : DT) : List Int → Nat → Nat → Option (Nat × Nat)
  | [], next, most => some (most, next)
  | n :: l, next, most => match D n next with
    | none => none
    | some (d, nx) => dlist D l nx (max most d)
/-- how deep a node is, and which one begins next; none: it is not one that is shown -/
def dtyp (ns : List Ne) : Nat → DT
  | 0, _, _ => none
  | f + 1, n, next =>
    if n < 0 ∨ (ns.length : Int) ≤ n ∨ (next : Int) < n then none
    else if n < (next : Int) then some (1, next)
    else match dlist (dtyp ns f) (ns.getD n.toNat neD).items (next + 1) 0 with
      | none => none
      | some (m, nx) => match dlist (dtyp ns f) ((ns.getD n.toNat neD).fields.map fun f => f.2.2) nx m with
        | none => none
        | some (m, nx) => some (m + 1, nx)
/-- what a node of a kind has -/
def Shp (d : Ne) : Prop := (d.items = [] ∨ d.k = 6 ∨ d.k = 7 ∨ d.k = 8) ∧ (d.fields = [] ∨ d.k = 11)
/-- bad once, bad ever -/
def WB (T : WT) : Prop := ∀ n st, st.bad = true → (T n st).bad = true
theorem wlist_bad {T : WT} (h : WB T) : ∀ (b : Bool) (l : List Int) (st : WSt), st.bad = true → (wlist T b l st).bad = true
  | _, [], st, hb => hb
  | b, n :: l, st, hb => by
    rw [wlist]
    refine wlist_bad h false l _ (h n _ ?_)
    split
    · exact hb
    · exact hb
theorem wflds_bad {T : WT} (h : WB T) : ∀ (l : List (ByteArray × Bool × Int)) (st : WSt), st.bad = true → (wflds T l st).bad = true
  | [], st, hb => hb
  | f :: l, st, hb => by
    rw [wflds]
    refine wflds_bad h l _ ?_
    unfold wfield
    refine h f.2.2 _ ?_
    show (if f.2.1 then (st.put (bs f.1)).put [63] else st.put (bs f.1)).bad = true
    split
    · exact hb
    · exact hb
theorem wtyp_bad (ns : List Ne) : ∀ f, WB (wtyp ns f)
  | 0, n, st, hb => rfl
  | f + 1, n, st, hb => by
    rw [wtyp, if_pos (.inl hb)]
/-- what is written without fault is gone through -/
def DW (T : WT) (D : DT) : Prop := ∀ n st, (T n st).bad = false → ∃ d, D n st.next = some (d, (T n st).next)
theorem wlist_deep {T : WT} {D : DT} (hb : WB T) (h : DW T D) : ∀ (b : Bool) (l : List Int) (st : WSt) (most : Nat), (wlist T b l st).bad = false → ∃ d, dlist D l st.next most = some (d, (wlist T b l st).next)
  | _, [], st, most, _ => ⟨most, rfl⟩
  | b, n :: l, st, most, he => by
    rw [wlist] at he ⊢
    have h1 : (T n (if b then st else st.put [124])).bad = false := by
      cases hq : (T n (if b then st else st.put [124])).bad with
      | false => rfl
      | true => rw [wlist_bad hb false l _ hq] at he; cases he
    obtain ⟨d, hd⟩ := h n _ h1
    have hn : (if b then st else st.put [124]).next = st.next := by split <;> rfl
    rw [hn] at hd
    obtain ⟨d2, hd2⟩ := wlist_deep hb h false l (T n (if b then st else st.put [124])) (max most d) he
    exact ⟨d2, by rw [dlist, hd]; exact hd2⟩
theorem wflds_deep {T : WT} {D : DT} (hb : WB T) (h : DW T D) : ∀ (l : List (ByteArray × Bool × Int)) (st : WSt) (most : Nat), (wflds T l st).bad = false → ∃ d, dlist D (l.map fun f => f.2.2) st.next most = some (d, (wflds T l st).next)
  | [], st, most, _ => ⟨most, rfl⟩
  | f :: l, st, most, he => by
    rw [wflds] at he ⊢
    obtain ⟨st2, hst2⟩ : ∃ z, z = ((if f.2.1 then (st.put (bs f.1)).put [63] else st.put (bs f.1)).put [58]) := ⟨_, rfl⟩
    have hw : wfield T f st = (T f.2.2 st2).put [59] := by rw [hst2]; rfl
    have hn : st2.next = st.next := by rw [hst2]; show (if f.2.1 then (st.put (bs f.1)).put [63] else st.put (bs f.1)).next = _; split <;> rfl
    rw [hw] at he ⊢
    have h1 : (T f.2.2 st2).bad = false := by
      cases hq : (T f.2.2 st2).bad with
      | false => rfl
      | true => have hz := wflds_bad hb l ((T f.2.2 st2).put [59]) hq; rw [hz] at he; cases he
    obtain ⟨d, hd⟩ := h f.2.2 _ h1
    rw [hn] at hd
    obtain ⟨d2, hd2⟩ := wflds_deep hb h l ((T f.2.2 st2).put [59]) (max most d) he
    refine ⟨d2, ?_⟩
    rw [List.map_cons, dlist, hd]
    exact hd2
theorem wtyp_deep {ns : List Ne} (hs : ∀ d ∈ ns, Shp d) : ∀ f, DW (wtyp ns f) (dtyp ns f)
  | 0, n, st, h => by cases h
  | f + 1, n, st, h => by
    rw [wtyp] at h ⊢
    split at h
    · cases h
    · next hst =>
      rw [if_neg hst] at ⊢
      have hst2 := hst
      unfold wstop at hst2
      simp only [not_or, Int.not_lt, Int.not_le, Nat.not_lt] at hst2
      obtain ⟨q1, q2, q3, q4, q5, q6⟩ := hst2
      rw [dtyp, if_neg (by omega)]
      split at h
      · next hlt => rw [if_pos hlt, if_pos hlt]; exact ⟨1, rfl⟩
      · next hlt =>
        rw [if_neg hlt, if_neg hlt]
        have hmem : ns.getD n.toNat neD ∈ ns := by
          have : n.toNat < ns.length := by omega
          rw [show ns.getD n.toNat neD = ns[n.toNat] by simp [List.getD, List.getElem?_eq_getElem this]]
          exact List.getElem_mem this
        obtain ⟨h1, h2⟩ := hs _ hmem
        generalize ns.getD n.toNat neD = x at h h1 h2
        have ih := wtyp_deep hs f
        have hb := wtyp_bad ns f
        have hitem : ∀ (a c : List UInt8), x.fields = [] → (witems (wtyp ns f) a x.items c { st with next := st.next + 1 }).bad = false → ∃ d, (match dlist (dtyp ns f) x.items (st.next + 1) 0 with
            | none => none
            | some (m, nx) => match dlist (dtyp ns f) (x.fields.map fun f => f.2.2) nx m with
              | none => none
              | some (m, nx) => some (m + 1, nx)) = some (d, (witems (wtyp ns f) a x.items c { st with next := st.next + 1 }).next) := fun a c hf he => by
          obtain ⟨d, hd⟩ := wlist_deep hb ih true x.items (({ st with next := st.next + 1 } : WSt).put a) 0 he
          have hd : dlist (dtyp ns f) x.items (st.next + 1) 0 = _ := hd
          rw [hd, hf]
          exact ⟨d + 1, rfl⟩
        unfold wbody at h ⊢
        split at h
        · next hk => rw [if_pos hk]; exact hitem _ _ (h2.resolve_right (by omega)) h
        · next k6 =>
          rw [if_neg k6]
          split at h
          · next hk => rw [if_pos hk]; exact hitem _ _ (h2.resolve_right (by omega)) h
          · next k7 =>
            rw [if_neg k7]
            split at h
            · next hk => rw [if_pos hk]; exact hitem _ _ (h2.resolve_right (by omega)) h
            · next k8 =>
              rw [if_neg k8]
              have hi0 : x.items = [] := h1.resolve_right (by omega)
              rw [hi0]
              simp only [dlist]
              split at h
              · next hk => rw [if_pos hk, h2.resolve_right (by omega)]; exact ⟨1, rfl⟩
              · next k9 =>
                rw [if_neg k9]
                split at h
                · next hk => rw [if_pos hk, h2.resolve_right (by omega)]; exact ⟨1, rfl⟩
                · next k10 =>
                  rw [if_neg k10]
                  split at h
                  · next hk =>
                    rw [if_pos hk]
                    unfold wrecord at h ⊢
                    obtain ⟨d, hd⟩ := wflds_deep hb ih x.fields (({ st with next := st.next + 1 } : WSt).put (sRec ++ bs x.name ++ [123])) 0 h
                    have hd : dlist (dtyp ns f) (x.fields.map fun f => f.2.2) (st.next + 1) 0 = _ := hd
                    rw [hd]
                    exact ⟨d + 1, rfl⟩
                  · next k11 =>
                    rw [if_neg k11, h2.resolve_right (by omega)]
                    split at h
                    · cases h
                    · next hk => rw [if_neg hk]; exact ⟨1, rfl⟩
/-- how deep a schema is; 0: it has no text -/
def depthP (ns : List Ne) : Nat := match showP ns with
  | none => 0
  | some _ => match dtyp ns 20 0 0 with
    | none => 0
    | some (d, _) => d

/-! ### What is read has nodes of such shapes, and what was there stays -/
def ShN (d : Nd) : Prop := (d.items = [] ∨ d.k = 6 ∨ d.k = 7 ∨ d.k = 8) ∧ (d.fields = [] ∨ d.k = 11)
theorem ShN.toE {d : Nd} (h : ShN d) : Shp d.toE := by
  refine ⟨h.1.imp (fun e => by show d.items.map _ = []; rw [e]; rfl) (fun e => e), h.2.imp (fun e => by show d.fields.map _ = []; rw [e]; rfl) (fun e => e)⟩
/-- nodes as they were, up to a place -/
def Pre (s s' : PS) : Prop := ∀ i, i < s.ns.length → s'.ns[i]? = s.ns[i]?
theorem Pre.len {s s' : PS} (h : Pre s s') : s.ns.length ≤ s'.ns.length := by
  rcases Nat.lt_or_ge s'.ns.length s.ns.length with h1 | h1
  · have := h s'.ns.length h1
    rw [List.getElem?_eq_none (Nat.le_refl _), List.getElem?_eq_getElem h1] at this
    cases this
  · exact h1
theorem Pre.trans {a b c : PS} (h : Pre a b) (k : Pre b c) : Pre a c := fun i hi => (k i (Nat.lt_of_lt_of_le hi h.len)).trans (h i hi)
theorem Pre.same {s s' : PS} (e : s'.ns = s.ns) : Pre s s' := fun i _ => by rw [e]
/-- all but the node n as they were -/
def PreB (n : Nat) (s s' : PS) : Prop := ∀ i, i < s.ns.length → i ≠ n → s'.ns[i]? = s.ns[i]?
theorem setN_at (s : PS) (n : Nat) (f : Nd → Nd) (i : Nat) (h : i ≠ n) : (s.setN n f).ns[i]? = s.ns[i]? := by
  show (s.ns.modify n f)[i]? = _
  have h' : ¬ n = i := fun e => h e.symm
  rw [List.getElem?_modify]; simp [h']
theorem AllN.setAt {p : Nd → Prop} {s : PS} (h : AllN p s) (n : Nat) {f : Nd → Nd} (hf : ∀ d, s.ns[n]? = some d → p d → p (f d)) : AllN p (s.setN n f) := fun d hd => by
  obtain ⟨i, hi⟩ := List.mem_iff_getElem?.1 hd
  have hi : (s.ns.modify n f)[i]? = some d := hi
  rw [List.getElem?_modify] at hi
  obtain ⟨d0, h0, rfl⟩ := Option.map_eq_some_iff.1 hi
  have := h d0 (List.mem_of_getElem? h0)
  split
  · next e => subst e; exact hf d0 h0 this
  · exact this
/-- a reader of types keeps shapes, and what was there -/
def TS (T : Bool → List Nat → PS → Res Nat) : Prop := ∀ u a s n s', T u a s = .ok n s' → AllN ShN s → AllN ShN s' ∧ Pre s s'
/-- a node of a kind -/
def KAt (s : PS) (n : Nat) (k : Int) : Prop := ∃ d, s.ns[n]? = some d ∧ d.k = k
theorem KAt.pre {s s' : PS} {n : Nat} {k : Int} (h : KAt s n k) (hp : Pre s s') : KAt s' n k := by
  obtain ⟨d, h1, h2⟩ := h
  exact ⟨d, by rw [hp n (List.getElem?_eq_some_iff.1 h1).1]; exact h1, h2⟩
theorem PreB.of {n : Nat} {s s1 s' : PS} (h : Pre s s1) (k : ∀ i, i ≠ n → s'.ns[i]? = s1.ns[i]?) : PreB n s s' := fun i hi hne => (k i hne).trans (h i hi)
theorem itemR_shp {T : Bool → List Nat → PS → Res Nat} (hT : TS T) {s s' : PS} {n : Nat} {k : Int} {x : ByteArray} {u : Unit} (h : itemR T s n x = .ok u s') (hp : AllN ShN s) (hk : KAt s n k) (hkk : k = 6 ∨ k = 7 ∨ k = 8) : AllN ShN s' ∧ PreB n s s' := by
  obtain ⟨a, s1, h1, h2⟩ := Res.bind_ok h
  obtain ⟨h5, rfl⟩ := mustR_ok h2
  obtain ⟨p1, p2⟩ := hT _ _ _ _ _ h1 hp
  obtain ⟨d0, e0, e1⟩ := hk.pre p2
  refine ⟨(p1.setAt n fun d hd hs => ?_).same rfl, PreB.of p2 fun i hi => setN_at s1 n _ i hi⟩
  rw [e0] at hd; injection hd with hd; subst hd
  exact ⟨.inr (by show d0.k = 6 ∨ d0.k = 7 ∨ d0.k = 8; rw [e1]; exact hkk), hs.2⟩
theorem PreB.trans {n : Nat} {a b c : PS} (h : Pre a b) (k : PreB n b c) : PreB n a c := fun i hi hne => (k i (Nat.lt_of_lt_of_le hi h.len) hne).trans (h i hi)
theorem unionR_shp {T : Bool → List Nat → PS → Res Nat} (hT : TS T) (n : Nat) : ∀ (m : Nat) (l : List Nat) {s s' : PS} {u : Unit}, unionR T n m l s = .ok u s' → AllN ShN s → KAt s n 8 → AllN ShN s' ∧ PreB n s s'
  | 0, l, s, s', u, h, _, _ => by cases h
  | m + 1, l, s, s', u, h, hp, hk => by
    rw [unionR] at h
    obtain ⟨a, s1, h1, h2⟩ := Res.bind_ok h
    obtain ⟨p1, p2⟩ := hT _ _ _ _ _ h1 hp
    have hk1 := hk.pre p2
    split at h2
    · injection h2 with _ h2
      subst h2
      obtain ⟨d0, e0, e1⟩ := hk1
      refine ⟨(p1.same (s' := s1.on) rfl).setAt n fun d hd hs => ?_, PreB.of p2 fun i hi => setN_at s1.on n _ i hi⟩
      rw [show s1.on.ns = s1.ns from rfl, e0] at hd; injection hd with hd; subst hd
      exact ⟨.inr (.inr (.inr e1)), hs.2⟩
    · obtain ⟨v, s2, h5, h6⟩ := Res.bind_ok h2
      obtain ⟨h7, rfl⟩ := mustR_ok h5
      obtain ⟨q1, q2⟩ := unionR_shp hT n m _ h6 (p1.same rfl) hk1
      exact ⟨q1, PreB.trans (b := s1.on) p2 q2⟩
theorem fieldsR_shp {T : Bool → List Nat → PS → Res Nat} (hT : TS T) (n : Nat) : ∀ (m : Nat) (l : List (ByteArray × Bool × Nat)) {s s' : PS} {u : Unit}, fieldsR T n m l s = .ok u s' → AllN ShN s → KAt s n 11 → AllN ShN s' ∧ PreB n s s'
  | 0, l, s, s', u, h, _, _ => by cases h
  | m + 1, l, s, s', u, h, hp, hk => by
    rw [fieldsR] at h
    split at h
    · injection h with _ h
      subst h
      obtain ⟨d0, e0, e1⟩ := hk
      refine ⟨(hp.same (s' := s.on) rfl).setAt n fun d hd hs => ?_, fun i _ hi => setN_at s.on n _ i hi⟩
      rw [show s.on.ns = s.ns from rfl, e0] at hd; injection hd with hd; subst hd
      exact ⟨hs.1, .inr e1⟩
    · obtain ⟨x, s1, h1, h2⟩ := Res.bind_ok h
      obtain ⟨_, _, _, _, _, rfl⟩ := nameR_ok h1
      obtain ⟨v, s2, h3, h4⟩ := Res.bind_ok h2
      obtain ⟨h5, rfl⟩ := mustR_ok h3
      obtain ⟨t, s3, h6, h7⟩ := Res.bind_ok h4
      obtain ⟨v2, s4, h10, h11⟩ := Res.bind_ok h7
      obtain ⟨h12, rfl⟩ := mustR_ok h10
      have e2 : (goesR s.on cQ).2.on.ns = s.ns := by show (goesR s.on cQ).2.ns = _; rw [goes_ns]; rfl
      obtain ⟨p1, p2⟩ := hT _ _ _ _ _ h6 (hp.same e2)
      have p3 : Pre s s3 := (Pre.same e2).trans p2
      obtain ⟨q1, q2⟩ := fieldsR_shp hT n m _ h11 (p1.same rfl) (hk.pre (p3.trans (Pre.same (s' := s3.on) rfl)))
      exact ⟨q1, PreB.trans (b := s3.on) p3 q2⟩
theorem symsR_shp (n : Nat) : ∀ (m : Nat) (l : List ByteArray) {s s' : PS} {u : Unit}, symsR n m l s = .ok u s' → AllN ShN s → AllN ShN s' ∧ PreB n s s'
  | 0, l, s, s', u, h, _ => by cases h
  | m + 1, l, s, s', u, h, hp => by
    rw [symsR] at h
    obtain ⟨x, s1, h1, h2⟩ := Res.bind_ok h
    obtain ⟨_, _, _, _, _, rfl⟩ := nameR_ok h1
    split at h2
    · injection h2 with _ h2
      subst h2
      exact ⟨(hp.same (s' := s.on.on) rfl).setN n fun d hd => hd, fun i _ hi => setN_at s.on.on n _ i hi⟩
    · obtain ⟨v, s2, h5, h6⟩ := Res.bind_ok h2
      obtain ⟨h7, rfl⟩ := mustR_ok h5
      obtain ⟨q1, q2⟩ := symsR_shp n m _ h6 (hp.same (s' := s.on.on) rfl)
      exact ⟨q1, q2⟩
theorem definedR_shp {T : Bool → List Nat → PS → Res Nat} (hT : TS T) {s s' : PS} {n : Nat} {k : Int} {u : Unit} (hkk : k = 9 ∨ k = 10 ∨ k = 11) (h : definedR T s n k = .ok u s') (hp : AllN ShN s) (hk : KAt s n k) : AllN ShN s' ∧ PreB n s s' := by
  unfold definedR at h
  obtain ⟨x, s1, h1, h2⟩ := Res.bind_ok h
  obtain ⟨_, _, _, _, _, rfl⟩ := nameR_ok h1
  simp only at h2
  have hp2 : AllN ShN (s.on.called n x) := ((hp.same (s' := s.on) rfl).setN n (f := fun d => { d with name := x }) fun d hd => hd).same rfl
  have hb2 : PreB n s (s.on.called n x) := fun i _ hi => setN_at s.on n _ i hi
  have hl2 : (s.on.called n x).ns.length = s.ns.length := setN_len s.on n _
  have hk2 : KAt (s.on.called n x) n k := by
    obtain ⟨d, e1, e2⟩ := hk
    refine ⟨{ d with name := x }, ?_, e2⟩
    show (s.ns.modify n _)[n]? = _
    rw [List.getElem?_modify, e1]; simp
  generalize hs2 : s.on.called n x = s2 at h2 hp2 hb2 hl2 hk2
  have tr : ∀ s3, PreB n s2 s3 → PreB n s s3 := fun s3 h3 i hi hne => (h3 i (by omega) hne).trans (hb2 i hi hne)
  split at h2
  · obtain ⟨v, s3, h5, h6⟩ := Res.bind_ok h2
    obtain ⟨h7, rfl⟩ := mustR_ok h5
    obtain ⟨q1, q2⟩ := symsR_shp n _ _ h6 (hp2.same rfl)
    exact ⟨q1, tr _ q2⟩
  · split at h2
    · split at h2
      · cases h2
      · injection h2 with _ h2
        subst h2
        exact ⟨(hp2.same (s' := s2.on) rfl).setN n fun d hd => hd, tr _ fun i _ hi => setN_at s2.on n _ i hi⟩
    · next k9 k10 =>
      obtain ⟨v, s3, h5, h6⟩ := Res.bind_ok h2
      obtain ⟨h7, rfl⟩ := mustR_ok h5
      have hk11 : k = 11 := by omega
      subst hk11
      obtain ⟨q1, q2⟩ := fieldsR_shp hT n _ _ h6 (hp2.same rfl) hk2
      exact ⟨q1, tr _ q2⟩
theorem typedR_shp : ∀ (fuel : Nat), TS (typedR fuel)
  | fuel, u, a, s, n, s', h, hp => by
    rw [typedR.eq_def] at h
    simp only at h
    split at h
    · cases h
    · next k hk =>
      split at h
      · cases h
      · split at h
        · injection h with _ h
          subst h
          exact ⟨hp.same rfl, Pre.same rfl⟩
        · cases fuel with
          | zero => cases h
          | succ fuel =>
            have ih := typedR_shp fuel
            simp only at h
            have hp1 : AllN ShN ({ s.on with ns := s.ns ++ [Nd.ofKind k] } : PS) := fun d hd => by
              rcases List.mem_append.1 hd with hd | hd
              · exact hp d hd
              · rw [List.mem_singleton] at hd; subst hd; exact ⟨.inl rfl, .inl rfl⟩
            have hpre : Pre s ({ s.on with ns := s.ns ++ [Nd.ofKind k] } : PS) := fun i hi => List.getElem?_append_left hi
            have hka : KAt ({ s.on with ns := s.ns ++ [Nd.ofKind k] } : PS) s.ns.length k := ⟨Nd.ofKind k, by simp, rfl⟩
            generalize hs1 : ({ s.on with ns := s.ns ++ [Nd.ofKind k] } : PS) = s1 at h hp1 hpre hka
            have fin : ∀ s2, PreB s.ns.length s1 s2 → Pre s s2 := fun s2 hb i hi => (hb i (Nat.lt_of_lt_of_le hi hpre.len) (by omega)).trans (hpre i hi)
            split at h
            · next k6 =>
              obtain ⟨_, s2, h1, h2⟩ := Res.bind_ok h
              injection h2 with _ h2; subst h2
              obtain ⟨q1, q2⟩ := itemR_shp ih h1 hp1 hka (.inl k6)
              exact ⟨q1, fin _ q2⟩
            · split at h
              · next k7 =>
                obtain ⟨_, s2, h1, h2⟩ := Res.bind_ok h
                injection h2 with _ h2; subst h2
                obtain ⟨q1, q2⟩ := itemR_shp ih h1 hp1 hka (.inr (.inl k7))
                exact ⟨q1, fin _ q2⟩
              · split at h
                · next k8 =>
                  obtain ⟨_, s2, h1, h2⟩ := Res.bind_ok h
                  injection h2 with _ h2; subst h2
                  subst k8
                  obtain ⟨q1, q2⟩ := unionR_shp ih _ _ _ h1 hp1 hka
                  exact ⟨q1, fin _ q2⟩
                · split at h
                  · next kd =>
                    obtain ⟨_, s2, h1, h2⟩ := Res.bind_ok h
                    injection h2 with _ h2; subst h2
                    obtain ⟨q1, q2⟩ := definedR_shp ih kd h1 hp1 hka
                    exact ⟨q1, fin _ q2⟩
                  · injection h with _ h; subst h
                    exact ⟨hp1, hpre⟩
theorem parse_shp (s : ByteArray) : ∀ d ∈ (parseP s).1, ShN d := by
  unfold parseP
  split
  · intro d hd; cases hd
  · split
    · intro d hd; cases hd
    · next s' he =>
      split
      · intro d hd; cases hd
      · exact (typedR_shp 20 _ _ _ _ _ he (fun d hd => by cases hd)).1
/-- a schema that is shown is gone through -/
theorem show_deep {ns : List Ne} {t : List UInt8} (h : showP ns = some t) : ∃ d, dtyp ns 20 0 0 = some (d, ns.length) ∧ depthP ns = d := by
  have h0 := h
  unfold showP at h
  simp only at h
  split at h
  · cases h
  · next hb =>
    split at h
    · cases h
    · next hp =>
      simp only [not_or, Bool.not_eq_true, ne_eq, Decidable.not_not] at hb hp
      have hs : ∀ d ∈ ns, Shp d := by
        rw [← hp.2]
        intro d hd
        obtain ⟨d0, h1, rfl⟩ := List.mem_map.1 hd
        exact (parse_shp _ d0 h1).toE
      obtain ⟨d, hd⟩ := wtyp_deep hs 20 0 ⟨[], 0, false⟩ hb.1
      rw [hb.2] at hd
      refine ⟨d, hd, ?_⟩
      unfold depthP
      have hd : dtyp ns 20 0 0 = some (d, ns.length) := hd
      rw [h0, hd]
end Go.Proofs.YtejcacbbhijdcaaDoor.Pr
/- A slice of one's own of one-cell elements, at any place of its array; worlds that differ in some blocks alone. -/
namespace Go.Proofs.YtejcacbbhijdcaaDoor.Base
open Go.ChangeShapes Go.WideShapes Go.ChangeAt Go.RowKit
set_option linter.unusedVariables false

/-- all but the blocks of S is as it was -/
structure Chg (S : Nat → Prop) (w w' : World) : Prop where
  os : w'.os = w.os
  tape : w'.tape = w.tape
  output : w'.output = w.output
  size : w.heap.size ≤ w'.heap.size
  block : ∀ k, k < w.heap.size → ¬ S k → w'.heap[k]? = w.heap[k]?
theorem Chg.refl (S : Nat → Prop) (w : World) : Chg S w w := ⟨rfl, rfl, rfl, Nat.le_refl _, fun _ _ _ => rfl⟩
theorem Chg.trans {S T : Nat → Prop} {a b c : World} (h : Chg S a b) (k : Chg T b c) (hT : ∀ i, i < a.heap.size → T i → S i) : Chg S a c :=
  ⟨k.os.trans h.os, k.tape.trans h.tape, k.output.trans h.output, Nat.le_trans h.size k.size, fun i hi hs => (k.block i (Nat.lt_of_lt_of_le hi h.size) (fun ht => hs (hT i hi ht))).trans (h.block i hi hs)⟩
theorem Chg.mono {S T : Nat → Prop} {a b : World} (h : Chg S a b) (hT : ∀ i, i < a.heap.size → S i → T i) : Chg T a b :=
  ⟨h.os, h.tape, h.output, h.size, fun i hi hs => h.block i hi (fun x => hs (hT i hi x))⟩
theorem Chg.ofGrown {a b : World} {r : Option Nat} (h : a.grownBy b r) : Chg (fun k => r = some k) a b := ⟨h.os, h.tape, h.output, h.size, fun i hi hs => h.block i hi (fun e => hs e.symm)⟩
theorem Chg.ofExt {S : Nat → Prop} {a b : World} (h : Ext a b) : Chg S a b := ⟨h.os, h.tape, h.output, h.size, fun i hi _ => h.block i hi⟩
theorem Chg.toExt {S : Nat → Prop} {a b : World} (h : Chg S a b) (hn : ∀ k, k < a.heap.size → ¬ S k) : Ext a b := ⟨h.os, h.tape, h.output, h.size, fun i hi => h.block i hi (hn i hi)⟩
theorem Ext.chg {S : Nat → Prop} {a b c : World} (h : Ext a b) (k : Chg S b c) (hn : ∀ i, i < a.heap.size → ¬ S i) : Ext a c :=
  (Chg.toExt (S := S) ((Chg.ofExt h).trans k (fun _ _ x => x)) hn)
theorem Chg.set {S : Nat → Prop} {a b : World} (h : Chg S a b) {p : Addr} (hp : S p.block ∨ a.heap.size ≤ p.block) (u : Value) : Chg S a (b.setCell p u) :=
  ⟨h.os, h.tape, h.output, by simpa using h.size, fun i hi hs => (heap_setCell_other b p i u (fun e => by rcases hp with x | x; exact hs (e ▸ x); omega)).trans (h.block i hi hs)⟩
theorem Chg.blk {S : Nat → Prop} {a b : World} (h : Chg S a b) {g : Nat} {cs : Array Value} {t : TypeId} (hb : Blk a g cs t) (hg : ¬ S g) : Blk b g cs t := (h.block g hb.lt hg).trans hb
theorem Chg.cell {S : Nat → Prop} {a b : World} (h : Chg S a b) {p : Addr} {v : Value} (hc : a.cell? p = some v) (hn : ¬ S p.block) : b.cell? p = some v :=
  (World.cell?_of_block (h.block p.block (World.block_lt_of_cell? a p hc) hn)).trans hc
theorem Chg.heap {S : Nat → Prop} {a b : World} (h : Chg S a b) {g : Nat} {o : Obj} (hg : a.heap[g]? = some o) (hn : ¬ S g) : b.heap[g]? = some o :=
  (h.block g (Array.getElem?_eq_some_iff.1 hg).1 hn).trans hg

/-- a slice of one's own -/
def OwnS (w : World) (v : Value) (cs : List Value) : Prop := ∃ ao b off cap, v = .slice ao cs.length cap ∧ Came w 1 ao b off cs.length cap cs ∧ cap ≤ maxLen
theorem OwnS.nil (w : World) : OwnS w (.slice none 0 0) [] :=
  ⟨none, 0, 0, 0, rfl, ⟨Nat.le_refl _, fun h => absurd h (Nat.lt_irrefl _), fun h => absurd h (Nat.lt_irrefl _), rfl, fun j u h => by simp at h, fun j h => by simp at h⟩, Nat.zero_le _⟩
theorem OwnS.zero (w : World) (ao : Option Addr) : OwnS w (.slice ao 0 0) [] :=
  ⟨ao, 0, 0, 0, rfl, ⟨Nat.le_refl _, fun h => absurd h (Nat.lt_irrefl _), fun h => absurd h (Nat.lt_irrefl _), rfl, fun j u h => by simp at h, fun j h => by simp at h⟩, Nat.zero_le _⟩
theorem OwnS.rd {w : World} {v : Value} {cs : List Value} (h : OwnS w v cs) : ∃ A c, v = .slice A cs.length c ∧ Rd w A cs ∧ cs.length ≤ c ∧ c ≤ maxLen ∧ (A = none → c = 0) := by
  obtain ⟨ao, b, off, cap, rfl, hc, hm⟩ := h
  refine ⟨ao, cap, rfl, fun hne => ?_, hc.le, hm, fun e => ?_⟩
  · have hp : 0 < cap := by have := List.length_pos_iff.2 hne; have := hc.le; omega
    exact ⟨b, off, hc.addr hp, hc.olds⟩
  · rcases Nat.eq_zero_or_pos cap with h0 | h0
    · exact h0
    · have := hc.addr h0; rw [e] at this; cases this
theorem OwnS.lt {w : World} {v : Value} {cs : List Value} (h : OwnS w v cs) (hn : cs ≠ []) : ∀ k, v.ownBlock = some k → k < w.heap.size := by
  obtain ⟨ao, b, off, cap, rfl, hc, hm⟩ := h
  intro k hk
  have hp : 0 < cap := by have := List.length_pos_iff.2 hn; have := hc.le; omega
  rw [hc.addr hp] at hk
  simp only [Value.ownBlock, Option.some.injEq] at hk
  exact hk ▸ hc.lt hp
theorem OwnS.keep {S : Nat → Prop} {w w' : World} {v : Value} {cs : List Value} (h : OwnS w v cs) (hx : Chg S w w') (hn : ∀ k, v.ownBlock = some k → ¬ S k) : OwnS w' v cs := by
  obtain ⟨ao, b, off, cap, rfl, hc, hm⟩ := h
  refine ⟨ao, b, off, cap, rfl, ?_, hm⟩
  have hb : 0 < cap → w'.heap[b]? = w.heap[b]? := fun hp => hx.block b (hc.lt hp) (hn b (by rw [hc.addr hp]; rfl))
  refine ⟨hc.le, hc.addr, fun hp => Nat.lt_of_lt_of_le (hc.lt hp) hx.size, hc.oldsLen, fun j u hj => ?_, fun j hj => ?_⟩
  · have hp : 0 < cap := by have := (List.getElem?_eq_some_iff.1 hj).1; have := hc.le; omega
    exact (World.cell?_of_block (a := ⟨b, off + j, none⟩) (hb hp)).trans (hc.olds j u hj)
  · have hp : 0 < cap := by omega
    rw [World.cell?_of_block (a := ⟨b, off + cs.length * 1 + j, none⟩) (hb hp), World.frozen?_of_block (a := ⟨b, off + cs.length * 1 + j, none⟩) (hb hp)]
    exact hc.spare j hj
theorem OwnS.ext {w w' : World} {v : Value} {cs : List Value} (h : OwnS w v cs) (hx : Ext w w') : OwnS w' v cs := h.keep (S := fun _ => False) (Chg.ofExt hx) (fun _ _ x => x)
/-- without its first k elements -/
theorem OwnS.drop {w : World} {b off n cap : Nat} {cs : List Value} (h : OwnS w (.slice (some ⟨b, off, none⟩) n cap) cs) (k : Nat) (hk : k ≤ n) : OwnS w (.slice (some ⟨b, off + k, none⟩) (n - k) (cap - k)) (cs.drop k) := by
  obtain ⟨ao, b', off', cap', e, hc, hm⟩ := h
  injection e with e1 e2 e3
  subst e1; subst e2; subst e3
  have hl : (cs.drop k).length = cs.length - k := List.length_drop
  refine ⟨_, b, off + k, cap - k, by rw [hl], ?_, by omega⟩
  have hb : 0 < cap → b = b' ∧ off = off' := fun hp => by
    have := hc.addr hp
    simp only [Option.some.injEq, Addr.mk.injEq, and_true] at this
    exact this
  have hle := hc.le
  refine ⟨by omega, fun _ => rfl, fun hp => by rw [(hb (by omega)).1]; exact hc.lt (by omega), by omega, fun j u hj => ?_, fun j hj => ?_⟩
  · have hj2 := (List.getElem?_eq_some_iff.1 hj).1
    rw [List.getElem?_drop] at hj
    have hx := hc.olds (k + j) u hj
    obtain ⟨rfl, rfl⟩ := hb (by omega)
    rwa [← Nat.add_assoc] at hx
  · obtain ⟨rfl, rfl⟩ := hb (by omega)
    have hx := hc.spare j (by omega)
    rwa [show off + k + (cs.drop k).length * 1 + j = off + cs.length * 1 + j by omega]
/-- the same as the model says it: an empty rest stays at its place -/
theorem OwnS.cut {w : World} {b off n cap : Nat} {cs : List Value} (h : OwnS w (.slice (some ⟨b, off, none⟩) n cap) cs) (k : Nat) (hk : k ≤ n) : OwnS w (.slice (if cap = k then some ⟨b, off, none⟩ else some ⟨b, off + k, none⟩) (n - k) (cap - k)) (cs.drop k) := by
  split
  · next hc =>
    obtain ⟨A, c, e, _, hle, _⟩ := h.rd
    injection e with e1 e2 e3
    have hl : (cs.drop k).length = 0 := by rw [List.length_drop]; omega
    have hnil : cs.drop k = [] := List.eq_nil_of_length_eq_zero hl
    have hn : n - k = 0 := by omega
    have hcap : cap - k = 0 := by omega
    rw [hnil, hn, hcap]
    exact ⟨_, b, off, 0, rfl, ⟨Nat.le_refl _, fun h => absurd h (Nat.lt_irrefl _), fun h => absurd h (Nat.lt_irrefl _), rfl, fun j u h => by simp at h, fun j h => by simp at h⟩, Nat.zero_le _⟩
  · exact h.drop k hk
theorem block_cut (c : Prop) [Decidable c] (b o o' n m : Nat) : (Value.slice (if c then some ⟨b, o, none⟩ else some ⟨b, o', none⟩) n m).ownBlock = some b := by split <;> rfl
theorem tape_setCells (g : Nat) : ∀ (vs : List Value) (o : Nat) (w : World), (w.setCells g o vs).tape = w.tape ∧ (w.setCells g o vs).heap.size = w.heap.size
  | [], _, _ => ⟨rfl, rfl⟩
  | v :: r, o, w => by
    rw [World.setCells]
    have := tape_setCells g r (o + 1) (w.setCell ⟨g, o, none⟩ v)
    exact ⟨this.1.trans rfl, this.2.trans (by simp)⟩

theorem src_of {P : Program} {t e : TypeId} (ht : P.underlying t = some (.slice e)) {w : World} {A : Option Addr} {m c : Nat} {news : List Value} (hr : Rd w A news) (hl : news.length = m) (hA : A = none → c = 0) (h1 : ∀ u ∈ news, u.oneCell' = true) :
    Src P 1 t (.slice A m c) m news w := by
  cases A with
  | none =>
    have hn : news = [] := by
      apply Classical.byContradiction
      intro hne
      obtain ⟨b, off, e, _⟩ := hr hne
      cases e
    subst hn
    obtain rfl : m = 0 := by simpa using hl.symm
    exact Src.ofNil w ht c
  | some a =>
    refine Src.ofSlice w ht a m c news (by omega) (fun j u hj => ?_) h1
    have hne : news ≠ [] := by rintro rfl; simp at hj
    obtain ⟨b, off, e, hc⟩ := hr hne
    cases e
    have hadd : (⟨b, off, none⟩ : Addr).add j = ⟨b, off + j, none⟩ := by unfold Addr.add; split <;> simp_all
    rw [hadd]; exact hc j u hj

/-- append onto it, from any slice -/
theorem OwnS.app {P : Program} {t et : TypeId} {z : Value} {bytes : Nat} (E : El P t et z 1 bytes) {w : World} (ty : TypeId) {v : Value} {cs : List Value} (h : OwnS w v cs) (hcs : ∀ u ∈ cs, u.oneCell' = true)
    {A : Option Addr} {m c : Nat} {news : List Value} (hr : Rd w A news) (hl : news.length = m) (hA : A = none → c = 0) (h1 : ∀ u ∈ news, u.oneCell' = true)
    (hbytes : (cs.length + m) * bytes ≤ 140737488355328) (hby : 0 < bytes) :
    ∃ v' w', (Builtin.append_ #[t, t] ty #[v, .slice A m c]).run P w = .ok v' w' ∧ OwnS w' v' (cs ++ news) ∧ w.grownBy w' v.ownBlock ∧ (v'.ownBlock = v.ownBlock ∨ v'.ownBlock = some w.heap.size ∧ w.heap.size < w'.heap.size) := by
  obtain ⟨i, hi, hz, hs, hb⟩ := info_parts E.info
  have hs' := src_of E.under hr hl hA h1
  rw [← hs] at hs'
  have h63 : cs.length + m ≤ maxLen := by
    have h : (cs.length + m) * 1 ≤ (cs.length + m) * bytes := Nat.mul_le_mul_left _ hby
    unfold maxLen; omega
  obtain ⟨A', c', rfl, hrd, hle, hmx, hA'⟩ := h.rd
  have hsv := src_of E.under hrd rfl hA' hcs
  rw [← hs] at hsv
  obtain ⟨ao, b, off, cap, e, hc, hm⟩ := h
  injection e with e1 e2 e3
  subst e1; subst e3
  by_cases hfit : cs.length + m ≤ c'
  · rcases Nat.eq_zero_or_pos c' with h0 | hp
    · have hm0 : m = 0 := by omega
      subst hm0
      have hn : news = [] := List.eq_nil_of_length_eq_zero hl
      subst hn
      exact ⟨_, w, run_append_nothing (P := P) w t t ty _ i E.under hi _ _ _ hle _ hs', by rw [List.append_nil]; exact ⟨A', b, off, c', rfl, hc, hm⟩, World.grownBy.refl w _, .inl rfl⟩
    · have ha := hc.addr hp
      subst ha
      have hsp : ∀ j, j < news.length → (w.cell? ⟨b, off + cs.length * i.size + j, none⟩).isSome = true ∧ w.frozen? ⟨b, off + cs.length * i.size + j, none⟩ = false := fun j hj => by
        rw [hs]; exact hc.spare j (by omega)
      have hrun := run_append_room_src (P := P) w t t ty _ i E.under hi b off cs.length c' _ m news hs' hfit (fun j hj => (hsp j hj).1) (fun j hj => (hsp j hj).2)
      refine ⟨_, _, hrun, ⟨_, b, off, c', by rw [List.length_append, hl], ?_, hm⟩, ⟨World.os_setCells _ _ _ _, (tape_setCells _ _ _ _).1, World.output_setCells _ _ _ _, Nat.le_of_eq (tape_setCells _ _ _ _).2.symm, fun k hk hne => World.heap_setCells_other w b _ _ hk (fun e => hne (by rw [e]; rfl))⟩, .inl rfl⟩
      rw [hs]
      refine ⟨by rw [List.length_append]; omega, fun _ => rfl, fun _ => by rw [(tape_setCells _ _ _ _).2]; exact hc.lt hp, by omega, fun j u hj => ?_, fun j hj => ?_⟩
      · by_cases hjc : j < cs.length
        · rw [List.getElem?_append_left hjc] at hj
          rw [World.cell?_setCells_out b news _ w _ (fun _ _ => .inl (by show off + j < _; omega))]
          exact hc.olds j u hj
        · rw [List.getElem?_append_right (by omega)] at hj
          have hlt := (List.getElem?_eq_some_iff.1 hj).1
          have := World.cell?_setCells_in b news (off + cs.length * 1) w (fun j hj => by have := hsp j hj; rw [hs] at this; exact this.1) (j - cs.length) hlt
          rw [show off + cs.length * 1 + (j - cs.length) = off + j by omega] at this
          rw [this, ← hj, List.getElem?_eq_getElem hlt]
      · have hx := hc.spare (m + j) (by rw [List.length_append] at hj; omega)
        rw [show off + cs.length * 1 + (m + j) = off + (cs ++ news).length * 1 + j by rw [List.length_append]; omega] at hx
        exact ⟨World.isSome_setCells b news _ w _ hx.1, by rw [World.frozen?_setCells]; exact hx.2⟩
  · have hrun := run_append_grow_src (P := P) w t t ty _ i z E.under hi hz A' cs.length c' cs hsv.cellsD _ m news hs' (by omega) (by unfold maxLen at h63; omega) (by rw [hb]; exact growslice_fits (by omega) hbytes)
    have hge := grownCap_ge w (cs.length + m) c' et
    have hcm := grownCap_le_maxLen w (cs.length + m) c' et h63
    refine ⟨_, _, hrun, ⟨_, w.heap.size, 0, _, by rw [List.length_append, hl], ?_, hcm⟩, ⟨rfl, rfl, rfl, by simp, fun k hk _ => Below.heap_alloc w.drew _ k hk⟩, .inr ⟨rfl, by simp⟩⟩
    have hsz : ((cs ++ news).toArray ++ Builtin.zeroCells z.cells (grownCap w (cs.length + m) c' et - (cs.length + m))).size = grownCap w (cs.length + m) c' et := by
      rw [Array.size_append, List.size_toArray, List.length_append, size_zeroCells, E.cells]; omega
    refine ⟨by rw [List.length_append]; omega, fun _ => rfl, fun _ => by simp, by omega, fun j u hj => ?_, fun j hj => ⟨?_, ?_⟩⟩
    · have e1 := World.cell?_alloc_new w.drew ((cs ++ news).toArray ++ Builtin.zeroCells z.cells (grownCap w (cs.length + m) c' et - (cs.length + m))) et j
      rw [Nat.zero_add]
      refine Eq.trans e1 ?_
      rw [Array.getElem?_append_left (by have := (List.getElem?_eq_some_iff.1 hj).1; simpa using this), List.getElem?_toArray]
      exact hj
    · have e1 := World.cell?_alloc_new w.drew ((cs ++ news).toArray ++ Builtin.zeroCells z.cells (grownCap w (cs.length + m) c' et - (cs.length + m))) et (0 + (cs ++ news).length * 1 + j)
      have hlt : 0 + (cs ++ news).length * 1 + j < ((cs ++ news).toArray ++ Builtin.zeroCells z.cells (grownCap w (cs.length + m) c' et - (cs.length + m))).size := by rw [hsz]; omega
      have e2 := e1.trans (Array.getElem?_eq_getElem hlt)
      exact Option.isSome_iff_exists.2 ⟨_, e2⟩
    · exact World.frozen?_alloc_new w.drew _ _ _
theorem Chg.one (w : World) (g i : Nat) (u : Value) : Chg (fun k => k = g) w (w.setCell ⟨g, i, none⟩ u) := Chg.set (S := fun k => k = g) (p := ⟨g, i, none⟩) (Chg.refl _ w) (.inl rfl) u
theorem Rd.chg {S : Nat → Prop} {w w' : World} {A : Option Addr} {cs : List Value} (h : Rd w A cs) (hx : Chg S w w') (hn : ∀ a, A = some a → ¬ S a.block) : Rd w' A cs := fun hne =>
  let ⟨b, off, e, hc⟩ := h hne
  ⟨b, off, e, fun j u hj => hx.cell (hc j u hj) (hn ⟨b, off, none⟩ e)⟩
theorem wp_oapp {P : Program} {t et : TypeId} {z : Value} {bytes : Nat} (E : El P t et z 1 bytes) (w : World) {o : Oper} {a : Act} {K : Act → World → Prop} {Q : Exit → Act → World → Prop} (s x : Operand)
    (ho : o.op = .call { callee := .builtin .append, args := #[s, x], argTypes := #[t, t] }) (v : Value) (cs : List Value) (hs : a.eval s = v) (hown : OwnS w v cs) (hcs : ∀ u ∈ cs, u.oneCell' = true)
    (A : Option Addr) (m c : Nat) (news : List Value) (hx : a.eval x = .slice A m c) (hr : Rd w A news) (hl : news.length = m) (hA : A = none → c = 0) (h1 : ∀ u ∈ news, u.oneCell' = true)
    (hbytes : (cs.length + m) * bytes ≤ 140737488355328) (hby : 0 < bytes)
    (h : ∀ v' w', OwnS w' v' (cs ++ news) → w.grownBy w' v.ownBlock → (v'.ownBlock = v.ownBlock ∨ v'.ownBlock = some w.heap.size ∧ w.heap.size < w'.heap.size) → K (a.put o.dst v') w') : o.wp P a w K Q := by
  obtain ⟨v', w', hrun, h2, h3, h4⟩ := hown.app E o.type hcs hr hl hA h1 hbytes hby
  unfold Oper.wp execOp
  simp only [ho, resolve, invoke, builtin, Sem.run_bind, Sem.run_pure, Result.andThen_ok, List.map_toArray, List.map_cons, List.map_nil, hs, hx, hrun]
  exact h v' w' h2 h3 h4
theorem wpList_oapp {P : Program} {t et : TypeId} {z : Value} {bytes : Nat} (E : El P t et z 1 bytes) (w : World) {ops : Array Oper} {rest : List Oper} {o : Oper} {a : Act} {Q : Exit → Act → World → Prop} (hgd : o.guard = none) (s x : Operand)
    (ho : o.op = .call { callee := .builtin .append, args := #[s, x], argTypes := #[t, t] }) (v : Value) (cs : List Value) (hs : a.eval s = v) (hown : OwnS w v cs) (hcs : ∀ u ∈ cs, u.oneCell' = true)
    (A : Option Addr) (m c : Nat) (news : List Value) (hx : a.eval x = .slice A m c) (hr : Rd w A news) (hl : news.length = m) (hA : A = none → c = 0) (h1 : ∀ u ∈ news, u.oneCell' = true)
    (hbytes : (cs.length + m) * bytes ≤ 140737488355328) (hby : 0 < bytes)
    (h : ∀ v' w', OwnS w' v' (cs ++ news) → w.grownBy w' v.ownBlock → (v'.ownBlock = v.ownBlock ∨ v'.ownBlock = some w.heap.size ∧ w.heap.size < w'.heap.size) → wpList P ops Q rest (a.put o.dst v') w') : wpList P ops Q (o :: rest) a w :=
  wpList_plain hgd fun _ hK => wp_oapp E w s x ho v cs hs hown hcs A m c news hx hr hl hA h1 hbytes hby fun v' w' h2 h3 h4 => hK _ _ (h v' w' h2 h3 h4)
end Go.Proofs.YtejcacbbhijdcaaDoor.Base
/- A region that draws its order: one walk, in an order in which what only reads comes as early as it may, serves every order. The class of worlds moves on with the walk. -/
namespace Go.Proofs.YtejcacbbhijdcaaDoor.Reg
set_option linter.unusedVariables false

/-- the operations that have come up -/
def marked (n : Nat) (l : List Nat) : Array Bool := l.foldr (fun i acc => acc.setIfInBounds i true) (Array.replicate n false)
theorem marked_cons (n i : Nat) (l : List Nat) : marked n (i :: l) = (marked n l).setIfInBounds i true := rfl

section
variable {P : Program} {ops : Array Oper} {Q : Exit → Act → World → Prop} {R : World → World → Prop}

/-- what has come up has come up behind what it waits for -/
def Closed (ops : Array Oper) (listed : Array Bool) : Prop := ∀ (k : Nat) (ok : Oper), ops[k]? = some ok → listed.getD k false = true → ∀ e ∈ ok.after, Region.binds .any e = true → listed.getD e.on false = true
theorem Closed.set {ops : Array Oper} {listed : Array Bool} {i : Nat} (h : Closed ops listed) (hi : i ∈ Region.ready .any ops listed) : Closed ops (listed.setIfInBounds i true) := by
  intro k ok hk hl e he hb
  by_cases hik : i = k
  · subst hik
    obtain ⟨_, oi, hoi, hall⟩ := mem_ready.1 hi
    rw [hk] at hoi
    cases hoi
    exact getD_set_true (hall e he hb)
  · rw [getD_set_ne false hik] at hl
    exact getD_set_true (h k ok hk hl e he hb)
theorem Closed.none (ops : Array Oper) : Closed ops (marked ops.size []) := by
  intro k ok hk hl
  have hlt := (Array.getElem?_eq_some_iff.1 hk).1
  simp [marked, hlt] at hl
/-- an operation that waits for all the others -/
def Sole (ops : Array Oper) (j : Nat) : Prop := ∀ (listed : Array Bool) (i : Nat), Closed ops listed → j ∈ Region.ready .any ops listed → i ∈ Region.ready .any ops listed → i = j
/-- j waits for k, or for one that does -/
def waits (ops : Array Oper) : Nat → Nat → Nat → Bool
  | 0, _, _ => false
  | f + 1, j, k => match ops[j]? with
    | none => false
    | some oj => oj.after.any fun e => Region.binds .any e && (e.on == k || waits ops f e.on k)
theorem waits_listed {ops : Array Oper} {listed : Array Bool} (hc : Closed ops listed) {k : Nat} : ∀ (f j : Nat), waits ops f j k = true → (∀ oj, ops[j]? = some oj → ∀ e ∈ oj.after, Region.binds .any e = true → listed.getD e.on false = true) → listed.getD k false = true
  | 0, _, h, _ => by simp [waits] at h
  | f + 1, j, h, hj => by
    unfold waits at h
    cases hoj : ops[j]? with
    | none => simp [hoj] at h
    | some oj =>
      simp only [hoj] at h
      obtain ⟨e, he, hb⟩ := Array.any_eq_true'.1 h
      simp only [Bool.and_eq_true, Bool.or_eq_true, beq_iff_eq] at hb
      have hl := hj oj hoj e he hb.1
      rcases hb.2 with h2 | h2
      · rw [← h2]; exact hl
      · exact waits_listed hc f e.on h2 (fun oe hoe => hc e.on oe hoe hl)
def soleB (ops : Array Oper) (j : Nat) : Bool :=
  match ops[j]? with
  | none => false
  | some _ => (List.range ops.size).all fun k => k == j || waits ops 4 j k
theorem sole_of {ops : Array Oper} {j : Nat} (h : soleB ops j = true) : Sole ops j := by
  intro listed i hc hj hi
  obtain ⟨_, oj, hoj, hall⟩ := mem_ready.1 hj
  obtain ⟨hun, oi, hoi, _⟩ := mem_ready.1 hi
  unfold soleB at h
  simp only [hoj, List.all_eq_true, List.mem_range] at h
  have h1 := h i (Array.getElem?_eq_some_iff.1 hoi).1
  simp only [Bool.or_eq_true, beq_iff_eq] at h1
  rcases h1 with h1 | h1
  · exact h1
  · have h2 := waits_listed hc _ _ h1 (fun o ho => by rw [hoj] at ho; cases ho; exact hall)
    rcases Nat.lt_or_ge i listed.size with h' | h'
    · simp [h'] at h2 hun; rw [hun] at h2; cases h2
    · simp [Array.getElem?_eq_none h'] at h2

/-- whatever order is picked from here on, each operation leads to a world that is related to the one before it, but for one that waits for all the others -/
def wpAll (P : Program) (ops : Array Oper) (Q : Exit → Act → World → Prop) (R : World → World → Prop) : Nat → Array Bool → Act → World → Prop
  | 0, listed, a, w => Region.ready .any ops listed = [] ∧ Q .normal a w
  | fuel + 1, listed, a, w =>
    (Region.ready .any ops listed = [] → Q .normal a w) ∧
    ∀ i ∈ Region.ready .any ops listed, wpOp P ops Q i (fun a' w' => (R w w' ∨ Sole ops i) ∧ wpAll P ops Q R fuel (listed.setIfInBounds i true) a' w') a w

theorem wpAny_of_wpAll : ∀ (fuel : Nat) (listed : Array Bool) (a : Act) (w : World), wpAll P ops Q R fuel listed a w → wpAny P .any ops Q fuel listed a w
  | 0, _, _, _, h => h
  | fuel + 1, _, _, _, h => ⟨h.1, fun i hi => wpOp_mono (fun a' w' h' => wpAny_of_wpAll fuel _ a' w' h'.2) (h.2 i hi)⟩

theorem wpAll_first (hrefl : ∀ w, R w w) (htrans : ∀ {a b c}, R a b → R b c → R a c) {w0 : World} {i : Nat} {oi : Oper} {v : Value} (hi : ops[i]? = some oi) (hsel : ∀ (j : Nat) (o : Oper) cs b, ops[j]? = some o → o.op ≠ .select cs b)
    (hQ : ∀ c a w, Q (.panic c) (a.put oi.dst v) w → Q (.panic c) a w) :
    ∀ (fuel : Nat) (listed : Array Bool) (a : Act) (w : World),
      (∀ j oj, ops[j]? = some oj → j ≠ i → listed.getD j true = false → (∀ e ∈ oj.after, Region.binds .any e = true → e.on ≠ i) → oi.apart ops oj = true) →
      Closed ops listed → i ∈ Region.ready .any ops listed → YieldsIf P ops (R w0) oi v a → R w0 w →
      wpAll P ops Q R fuel (listed.setIfInBounds i true) (a.put oi.dst v) w → wpAll P ops Q R (fuel + 1) listed a w := by
  intro fuel
  induction fuel with
  | zero =>
    intro listed a w _ hcl hr hy hw H
    refine ⟨fun h => (by rw [h] at hr; cases hr), fun j hj => ?_⟩
    by_cases hji : j = i
    · subst hji; exact hy.wpOp hi hw ⟨.inl (hrefl w), H⟩
    · have := ready_mono hj hji
      rw [H.1] at this
      cases this
  | succ fuel ih =>
    intro listed a w hfree hcl hr hy hw H
    refine ⟨fun h => (by rw [h] at hr; cases hr), fun j hj => ?_⟩
    by_cases hji : j = i
    · subst hji; exact hy.wpOp hi hw ⟨.inl (hrefl w), H⟩
    · have h1 := H.2 j (ready_mono hj hji)
      obtain ⟨hjun, oj, hoj, hall⟩ := mem_ready.1 hj
      have hnot : ∀ e ∈ oj.after, Region.binds .any e = true → e.on ≠ i := fun e he hb heq => by
        have h1 := hall e he hb
        have h0 := (mem_ready.1 hr).1
        rw [heq] at h1
        rcases Nat.lt_or_ge i listed.size with h' | h'
        · simp [h'] at h0 h1; rw [h0] at h1; cases h1
        · simp [Array.getElem?_eq_none h'] at h1
      have h2 := wpOp_putIf hoj (hfree j oj hoj hji hjun hnot) (fun cs b => hsel i oi cs b hi) (fun cs b => hsel j oj cs b hoj) hQ hy h1
      have hfree' : ∀ k ok, ops[k]? = some ok → k ≠ i → (listed.setIfInBounds j true).getD k true = false →
          (∀ e ∈ ok.after, Region.binds .any e = true → e.on ≠ i) → oi.apart ops ok = true := fun k ok hk hki hun hno => by
        refine hfree k ok hk hki ?_ hno
        by_cases hjk : j = k
        · subst hjk; exact hjun
        · rw [getD_set_ne true hjk] at hun; exact hun
      refine wpOp_mono (fun a' w' h3 => ?_) h2
      have hrel : R w w' := h3.2.1.resolve_right (fun hs => hji (hs listed i hcl hj hr).symm)
      refine ⟨.inl hrel, ih (listed.setIfInBounds j true) a' w' hfree' (hcl.set hj) (ready_mono hr (Ne.symm hji)) h3.1 (htrans hw hrel) ?_⟩
      rw [Array.setIfInBounds_comm _ _ hji]
      exact h3.2.2

/-- the walk's state: these operations have come up (the last one first), the frame, and the least of the worlds -/
def St (P : Program) (ops : Array Oper) (Q : Exit → Act → World → Prop) (R : World → World → Prop) (done : List Nat) (a : Act) (w : World) : Prop :=
  Closed ops (marked ops.size done) → ∀ w', R w w' → wpAll P ops Q R (ops.size - done.length) (marked ops.size done) a w'

/-- an operation that yields one value in every world from here on, and leaves it as it is -/
theorem take (hrefl : ∀ w, R w w) (htrans : ∀ {a b c}, R a b → R b c → R a c) (i : Nat) (oi : Oper) (v : Value) {done : List Nat} {a : Act} {w : World} (hi : ops[i]? = some oi)
    (hs : Region.noSelect ops = true) (hf : Region.free .any ops (marked ops.size done) i = true) (hr : (Region.ready .any ops (marked ops.size done)).contains i = true) (hn : done.length < ops.size)
    (hQ : ∀ c a w, Q (.panic c) (a.put oi.dst v) w → Q (.panic c) a w) (hw : Region.wanted oi (yielded ops a.tmps) = true)
    (hy : ∀ w', R w w' → (execOp a.eval oi).run P w' = .ok (.value v) w')
    (h : St P ops Q R (i :: done) (a.put oi.dst v) w) : St P ops Q R done a w := by
  intro hcl w' hw'
  have e : ops.size - done.length = (ops.size - (i :: done).length) + 1 := by simp only [List.length_cons]; omega
  rw [e]
  exact wpAll_first hrefl htrans hi (Region.noSelect_spec hs) hQ _ _ a w' (Region.free_spec hi hf) hcl (by simpa using hr) (.inl ⟨hw, hy⟩) hw' (h (hcl.set (i := i) (by simpa using hr)) w' hw')

/-- an operation whose guard says no -/
theorem skip (hrefl : ∀ w, R w w) (htrans : ∀ {a b c}, R a b → R b c → R a c) (i : Nat) (oi : Oper) {done : List Nat} {a : Act} {w : World} (hi : ops[i]? = some oi)
    (hs : Region.noSelect ops = true) (hf : Region.free .any ops (marked ops.size done) i = true) (hr : (Region.ready .any ops (marked ops.size done)).contains i = true) (hn : done.length < ops.size)
    (hQ : ∀ c a w, Q (.panic c) (a.put oi.dst undef) w → Q (.panic c) a w) (hw : Region.wanted oi (yielded ops a.tmps) = false)
    (h : St P ops Q R (i :: done) (a.put oi.dst undef) w) : St P ops Q R done a w := by
  intro hcl w' hw'
  have e : ops.size - done.length = (ops.size - (i :: done).length) + 1 := by simp only [List.length_cons]; omega
  rw [e]
  exact wpAll_first hrefl htrans hi (Region.noSelect_spec hs) hQ _ _ a w' (Region.free_spec hi hf) hcl (by simpa using hr) (.inr ⟨hw, rfl⟩) hw' (h (hcl.set (i := i) (by simpa using hr)) w' hw')

/-- the one operation that may come up now -/
theorem only (i : Nat) (oi : Oper) {done : List Nat} {a : Act} {w : World} (hi : ops[i]? = some oi)
    (hr : Region.ready .any ops (marked ops.size done) = [i]) (hn : done.length < ops.size) (hw : Region.wanted oi (yielded ops a.tmps) = true)
    (h : ∀ w', R w w' → ∀ K : Act → World → Prop, Shut (∀ a' w'', R w' w'' → St P ops Q R (i :: done) a' w'' → K a' w'') → oi.wp P a w' K Q)
    (hrefl : ∀ w, R w w) : St P ops Q R done a w := by
  intro hcl w' hw'
  have e : ops.size - done.length = (ops.size - (i :: done).length) + 1 := by simp only [List.length_cons]; omega
  rw [e]
  refine ⟨fun h0 => (by rw [h0] at hr; cases hr), fun j hj => ?_⟩
  rw [hr] at hj
  obtain rfl : j = i := by simpa using hj
  unfold wpOp
  simp only [hi, hw, if_true]
  exact .inl (h w' hw' _ (fun a' w'' hx hst => ⟨.inl hx, hst (hcl.set (by rw [hr]; simp)) w'' (hrefl _)⟩))

/-- the last operation, which waits for all the others: it may turn what it likes -/
theorem last (i : Nat) (oi : Oper) {done : List Nat} {a : Act} {w : World} (hi : ops[i]? = some oi)
    (hr : Region.ready .any ops (marked ops.size done) = [i]) (hr2 : Region.ready .any ops (marked ops.size (i :: done)) = []) (hs : soleB ops i = true) (hn : done.length < ops.size) (hw : Region.wanted oi (yielded ops a.tmps) = true)
    (h : ∀ w', R w w' → ∀ K : Act → World → Prop, Shut (∀ a' w'', Q .normal a' w'' → K a' w'') → oi.wp P a w' K Q) : St P ops Q R done a w := by
  intro hcl w' hw'
  have e : ops.size - done.length = (ops.size - (i :: done).length) + 1 := by simp only [List.length_cons]; omega
  rw [e]
  refine ⟨fun h0 => (by rw [h0] at hr; cases hr), fun j hj => ?_⟩
  rw [hr] at hj
  obtain rfl : j = i := by simpa using hj
  unfold wpOp
  simp only [hi, hw, if_true]
  refine .inl (h w' hw' _ (fun a' w'' hq => ⟨.inr (sole_of hs), ?_⟩))
  cases hk : ops.size - (j :: done).length with
  | zero => exact ⟨hr2, hq⟩
  | succ k => exact ⟨fun _ => hq, by rw [← marked_cons, hr2]; simp⟩

/-- all have come up -/
theorem fin {done : List Nat} {a : Act} {w : World} (hr : Region.ready .any ops (marked ops.size done) = []) (h : ∀ w', R w w' → Q .normal a w') : St P ops Q R done a w := by
  intro hcl w' hw'
  cases hk : ops.size - done.length with
  | zero => exact ⟨hr, h w' hw'⟩
  | succ k => exact ⟨fun _ => h w' hw', by rw [hr]; simp⟩

/-- the beginning -/
theorem start {id : Nat} {a : Act} {w : World} (hm : P.follows .mixedOrders = true) (hd : R w w.drew) (h : St P ops Q R [] a w) : (Code.region id ops true).wp P Q a w :=
  wp_region_any hm (wpAny_of_wpAll _ _ _ _ (h (Closed.none ops) w.drew hd))

end
end Go.Proofs.YtejcacbbhijdcaaDoor.Reg
/- The walk of a region that draws its order, where what was there stays as it was. -/
namespace Go.Proofs.YtejcacbbhijdcaaDoor.Reg
open Base
set_option linter.unusedVariables false

section
variable {P : Program} {ops : Array Oper} {Q : Exit → Act → World → Prop}

theorem takeE (i : Nat) (oi : Oper) (v : Value) {done : List Nat} {a : Act} {w : World} (hi : ops[i]? = some oi)
    (hs : Region.noSelect ops = true) (hf : Region.free .any ops (marked ops.size done) i = true) (hr : (Region.ready .any ops (marked ops.size done)).contains i = true) (hn : done.length < ops.size)
    (hQ : ∀ c a w, Q (.panic c) (a.put oi.dst v) w → Q (.panic c) a w) (hw : Region.wanted oi (yielded ops a.tmps) = true)
    (hy : ∀ w', Ext w w' → (execOp a.eval oi).run P w' = .ok (.value v) w')
    (h : St P ops Q Ext (i :: done) (a.put oi.dst v) w) : St P ops Q Ext done a w :=
  take Ext.refl (fun h k => h.trans k) i oi v hi hs hf hr hn hQ hw hy h

theorem skipE (i : Nat) (oi : Oper) {done : List Nat} {a : Act} {w : World} (hi : ops[i]? = some oi)
    (hs : Region.noSelect ops = true) (hf : Region.free .any ops (marked ops.size done) i = true) (hr : (Region.ready .any ops (marked ops.size done)).contains i = true) (hn : done.length < ops.size)
    (hQ : ∀ c a w, Q (.panic c) (a.put oi.dst undef) w → Q (.panic c) a w) (hw : Region.wanted oi (yielded ops a.tmps) = false)
    (h : St P ops Q Ext (i :: done) (a.put oi.dst undef) w) : St P ops Q Ext done a w :=
  skip Ext.refl (fun h k => h.trans k) i oi hi hs hf hr hn hQ hw h

theorem onlyE (i : Nat) (oi : Oper) {done : List Nat} {a : Act} {w : World} (hi : ops[i]? = some oi)
    (hr : Region.ready .any ops (marked ops.size done) = [i]) (hn : done.length < ops.size) (hw : Region.wanted oi (yielded ops a.tmps) = true)
    (h : ∀ w', Ext w w' → ∀ K : Act → World → Prop, Shut (∀ a' w'', Ext w' w'' → St P ops Q Ext (i :: done) a' w'' → K a' w'') → oi.wp P a w' K Q) : St P ops Q Ext done a w :=
  only i oi hi hr hn hw h Ext.refl

theorem startE {id : Nat} {a : Act} {w : World} (hm : P.follows .mixedOrders = true) (h : St P ops Q Ext [] a w) : (Code.region id ops true).wp P Q a w :=
  start hm ((Ext.refl w).drew) h

/-- a relation of worlds that a walk may go by -/
structure Rl (R : World → World → Prop) : Prop where
  refl : ∀ w, R w w
  trans : ∀ {a b c}, R a b → R b c → R a c
  drew : ∀ {a b}, R a b → R a b.drew

variable {R : World → World → Prop}
theorem takeB (hR : Rl R) (i : Nat) (oi : Oper) (v : Value) {done : List Nat} {a : Act} {w : World} (hi : ops[i]? = some oi)
    (hs : Region.noSelect ops = true) (hf : Region.free .any ops (marked ops.size done) i = true) (hr : (Region.ready .any ops (marked ops.size done)).contains i = true) (hn : done.length < ops.size)
    (hQ : ∀ c a w, Q (.panic c) (a.put oi.dst v) w → Q (.panic c) a w) (hw : Region.wanted oi (yielded ops a.tmps) = true)
    (hy : ∀ w', R w w' → (execOp a.eval oi).run P w' = .ok (.value v) w')
    (h : St P ops Q R (i :: done) (a.put oi.dst v) w) : St P ops Q R done a w :=
  take hR.refl hR.trans i oi v hi hs hf hr hn hQ hw hy h
theorem skipB (hR : Rl R) (i : Nat) (oi : Oper) {done : List Nat} {a : Act} {w : World} (hi : ops[i]? = some oi)
    (hs : Region.noSelect ops = true) (hf : Region.free .any ops (marked ops.size done) i = true) (hr : (Region.ready .any ops (marked ops.size done)).contains i = true) (hn : done.length < ops.size)
    (hQ : ∀ c a w, Q (.panic c) (a.put oi.dst undef) w → Q (.panic c) a w) (hw : Region.wanted oi (yielded ops a.tmps) = false)
    (h : St P ops Q R (i :: done) (a.put oi.dst undef) w) : St P ops Q R done a w :=
  skip hR.refl hR.trans i oi hi hs hf hr hn hQ hw h
theorem onlyB (hR : Rl R) (i : Nat) (oi : Oper) {done : List Nat} {a : Act} {w : World} (hi : ops[i]? = some oi)
    (hr : Region.ready .any ops (marked ops.size done) = [i]) (hn : done.length < ops.size) (hw : Region.wanted oi (yielded ops a.tmps) = true)
    (h : ∀ w', R w w' → ∀ K : Act → World → Prop, Shut (∀ a' w'', R w' w'' → St P ops Q R (i :: done) a' w'' → K a' w'') → oi.wp P a w' K Q) : St P ops Q R done a w :=
  only i oi hi hr hn hw h hR.refl
theorem startB (hR : Rl R) {id : Nat} {a : Act} {w : World} (hm : P.follows .mixedOrders = true) (h : St P ops Q R [] a w) : (Code.region id ops true).wp P Q a w :=
  start hm (hR.drew (hR.refl w)) h

theorem rl_below (B : Nat) : Rl (Go.RowKit.Below B) := ⟨fun w => Go.RowKit.Below.refl B w, fun h k => h.trans k, fun h => h.drew⟩
theorem rl_ext : Rl Ext := ⟨Ext.refl, fun h k => h.trans k, fun h => h.drew⟩
/-- all but one block as they were -/
theorem rl_but (m : Nat) : Rl (fun w w' => w.grownBy w' (some m)) :=
  ⟨fun w => World.grownBy.refl w _, fun {a b c} h k => ⟨k.os.trans h.os, k.tape.trans h.tape, k.output.trans h.output, Nat.le_trans h.size k.size,
    fun i hi hne => (k.block i (Nat.lt_of_lt_of_le hi h.size) hne).trans (h.block i hi hne)⟩, fun h => ⟨h.os, h.tape, h.output, h.size, h.block⟩⟩
end
end Go.Proofs.YtejcacbbhijdcaaDoor.Reg
/- parse: slices.Index, Contains; keyword. -/
namespace Go.Proofs.YtejcacbbhijdcaaDoor.Pr
open Go.ChangeShapes Go.WideShapes Go.ChangeAt Go.RowKit
open Base Lx
set_option linter.unusedVariables false
set_option linter.unusedSimpArgs false

theorem str_ne {x s : ByteArray} (h : x ≠ s) : (x.toList == s.toList) = false := by
  rw [ByteArray.toList_eq, ByteArray.toList_eq]
  simp only [beq_eq_false_iff_ne]
  intro e
  apply h
  cases x; cases s; congr 1; exact Array.toList_inj.1 e

section
variable {α : Type} [DecidableEq α]
theorem idxOf_none {l : List α} {s : α} (h : ∀ (j : Nat) x, l[j]? = some x → x ≠ s) : idxOf l s = -1 := by
  induction l with
  | nil => rfl
  | cons x r ih =>
    have h0 := h 0 x rfl
    have hr := ih fun j y hy => h (j + 1) y (by simpa using hy)
    rw [idxOf, if_neg (fun e => h0 e.symm), hr]; rfl
theorem idxOf_at {l : List α} {s : α} {k : Nat} (hk : l[k]? = some s) (h : ∀ (j : Nat) x, j < k → l[j]? = some x → x ≠ s) : idxOf l s = (k : Int) := by
  induction l generalizing k with
  | nil => simp at hk
  | cons x r ih =>
    cases k with
    | zero => simp at hk; subst hk; simp [idxOf]
    | succ k =>
      have h0 := h 0 x (by omega) rfl
      have hr := ih (k := k) (by simpa using hk) fun j y hj hy => h (j + 1) y (by omega) (by simpa using hy)
      rw [idxOf, if_neg (fun e => h0 e.symm), hr, if_neg (by omega)]; omega
theorem idxOf_in (l : List α) (s : α) : decide (0 ≤ idxOf l s) = l.any fun y => decide (y = s) := by
  induction l with
  | nil => rfl
  | cons x r ih =>
    rw [List.any_cons, ← ih, idxOf]
    by_cases h : s = x
    · simp [h]
    · have h' : ¬ x = s := fun e => h e.symm
      simp only [if_neg h, h', decide_false, Bool.false_or]
      by_cases h2 : idxOf r s < 0
      · rw [if_pos h2]; simp; omega
      · rw [if_neg h2]; simp; omega
theorem idxOf_rng (l : List α) (s : α) : -1 ≤ idxOf l s ∧ idxOf l s < l.length := by
  induction l with
  | nil => simp [idxOf]
  | cons x r ih =>
    rw [idxOf]
    split
    · simp
    · split
      · simp; omega
      · simp only [List.length_cons]; omega
end

def NoAt {α : Type} (l : List α) (k : Nat) (s : α) : Prop := ∀ (j : Nat) x, j < k → l[j]? = some x → x ≠ s
theorem NoAt.next {α : Type} {l : List α} {k : Nat} {s x : α} (h : NoAt l k s) (hx : l[k]? = some x) (hn : x ≠ s) : NoAt l (k + 1) s := fun j y hj hy => by
  rcases Nat.lt_or_ge j k with h2 | h2
  · exact h j y h2 hy
  · obtain rfl : j = k := by omega
    rw [hx] at hy; injection hy with hy; subst hy; exact hn
theorem NoAt.zero {α : Type} (l : List α) (s : α) : NoAt l 0 s := fun j x hj => by omega

set_option maxHeartbeats 800000 in
theorem index_str (A : Option Addr) (n c : Nat) (l : List ByteArray) (s : ByteArray) (w : World) (hr : Rd w A (txs l)) (hn : l.length = n) (hl : n ≤ 100000) :
    Calls Tryd.prog 50 #[.slice A n c, .string s] w fun e w' => e = .returned (.int .i64 (idxOf l s)) ∧ w = w' := by
  have Hn := Lib.hid hn
  clear hn
  obtain ⟨R, hR⟩ : ∃ R, Hid (idxOf l s = R) := ⟨_, rfl⟩
  rw [hR.out]
  go_enter Tryd.func50, Tryd.ntmps50
  go_wp2_with fail
  go_loopw [5, 8, 9, 10, 11, 12, 13, 14, 15, 16, 18] (fun v5 v8 v9 v10 v11 v12 v13 v14 v15 v16 v18 wr => ∃ i : Nat, i ≤ n ∧ v8 = .int .i64 i ∧ NoAt l i s ∧ wr = w) (fun _ v8 _ _ _ _ _ _ _ _ _ _ => n - (intOf v8).toNat)
  case atStart => exact ⟨0, by omega, rfl, NoAt.zero l s, rfl⟩
  case round =>
    obtain ⟨i, hi, rfl, h1, rfl⟩ := hrel
    by_cases hin : i < n
    · have hin' : (i : Int) < (n : Int) := by omega
      obtain ⟨x, hxe⟩ : ∃ x, l[i]? = some x := ⟨_, List.getElem?_eq_getElem (by have := Hn.out; omega)⟩
      obtain ⟨b, off, rfl, hz, hc⟩ := hr.at_ (k := i) (by rw [txs_length]; have := Hn.out; omega)
      clear hz
      have hck : wr.cell? ⟨b, off + i, none⟩ = some (.string x) := hc i _ (by simp [txs, hxe])
      clear hc
      by_cases he : s = x
      · subst he
        have hq := idxOf_at hxe h1
        rw [hR.out] at hq
        subst hq
        go_wp2_with fail
        go_ret
        exact ⟨rfl, rfl⟩
      · have hbq := str_ne he
        have h2 := h1.next hxe (fun e => he e.symm)
        have Hxe := Lib.hid hxe
        clear hxe
        go_wp2_with fail
        go_roundw
        case rel => exact ⟨i + 1, by omega, by go_num, h2, by first | rfl | trivial⟩
        case measure => simp [intOf]; omega
    · obtain rfl : i = n := by omega
      have hq : R = -1 := by
        rw [← hR.out]
        exact idxOf_none fun j x hx => h1 j x (by have := (List.getElem?_eq_some_iff.1 hx).1; have := Hn.out; omega) hx
      subst hq
      go_wp2_with fail
      go_ret
      exact ⟨rfl, rfl⟩

theorem contains_str (A : Option Addr) (n c : Nat) (l : List ByteArray) (s : ByteArray) (w : World) (hr : Rd w A (txs l)) (hn : l.length = n) (hl : n ≤ 100000) :
    Calls Tryd.prog 31 #[.slice A n c, .string s] w fun e w' => e = .returned (.bool (l.any fun y => decide (y = s))) ∧ w = w' := by
  have hi := index_str A n c l s w hr hn hl
  have hb := idxOf_in l s
  obtain ⟨R, hR⟩ : ∃ R, Hid (idxOf l s = R) := ⟨_, rfl⟩
  rw [hR.out] at hi hb
  rw [← hb]
  clear hb hn hr
  go_enter Tryd.func31, Tryd.ntmps31
  go_wp2_with fail
  refine hi.mono ?_
  rintro e w1 ⟨rfl, rfl⟩
  go_wp2_with fail
  go_ret
  exact ⟨rfl, rfl⟩

def ints (l : List Nat) : List Value := l.map fun (n : Nat) => Value.int .i64 (n : Int)
theorem ints_length (l : List Nat) : (ints l).length = l.length := by simp [ints]

set_option maxHeartbeats 800000 in
theorem index_int (A : Option Addr) (n c : Nat) (l : List Nat) (s : Nat) (w : World) (hr : Rd w A (ints l)) (hn : l.length = n) (hl : n ≤ 100000) :
    Calls Tryd.prog 60 #[.slice A n c, .int .i64 (s : Int)] w fun e w' => e = .returned (.int .i64 (idxOf l s)) ∧ w = w' := by
  have Hn := Lib.hid hn
  clear hn
  obtain ⟨R, hR⟩ : ∃ R, Hid (idxOf l s = R) := ⟨_, rfl⟩
  rw [hR.out]
  go_enter Tryd.func60, Tryd.ntmps60
  go_wp2_with fail
  go_loopw [5, 8, 9, 10, 11, 12, 13, 14, 15, 16, 18] (fun v5 v8 v9 v10 v11 v12 v13 v14 v15 v16 v18 wr => ∃ i : Nat, i ≤ n ∧ v8 = .int .i64 i ∧ NoAt l i s ∧ wr = w) (fun _ v8 _ _ _ _ _ _ _ _ _ _ => n - (intOf v8).toNat)
  case atStart => exact ⟨0, by omega, rfl, NoAt.zero l s, rfl⟩
  case round =>
    obtain ⟨i, hi, rfl, h1, rfl⟩ := hrel
    by_cases hin : i < n
    · have hin' : (i : Int) < (n : Int) := by omega
      obtain ⟨x, hxe⟩ : ∃ x, l[i]? = some x := ⟨_, List.getElem?_eq_getElem (by have := Hn.out; omega)⟩
      obtain ⟨b, off, rfl, hz, hc⟩ := hr.at_ (k := i) (by rw [ints_length]; have := Hn.out; omega)
      clear hz
      have hck : wr.cell? ⟨b, off + i, none⟩ = some (.int .i64 (x : Int)) := hc i _ (by simp [ints, hxe])
      clear hc
      by_cases he : s = x
      · subst he
        have hq := idxOf_at hxe h1
        rw [hR.out] at hq
        subst hq
        go_wp2_with fail
        go_ret
        exact ⟨rfl, rfl⟩
      · have hbq : ((s : Int) == (x : Int)) = false := by simpa using (fun e : (s : Int) = x => he (by omega))
        have h2 := h1.next hxe (fun e => he e.symm)
        have Hxe := Lib.hid hxe
        clear hxe
        go_wp2_with fail
        go_roundw
        case rel => exact ⟨i + 1, by omega, by go_num, h2, by first | rfl | trivial⟩
        case measure => simp [intOf]; omega
    · obtain rfl : i = n := by omega
      have hq : R = -1 := by
        rw [← hR.out]
        exact idxOf_none fun j x hx => h1 j x (by have := (List.getElem?_eq_some_iff.1 hx).1; have := Hn.out; omega) hx
      subst hq
      go_wp2_with fail
      go_ret
      exact ⟨rfl, rfl⟩

theorem contains_int (A : Option Addr) (n c : Nat) (l : List Nat) (s : Nat) (w : World) (hr : Rd w A (ints l)) (hn : l.length = n) (hl : n ≤ 100000) :
    Calls Tryd.prog 34 #[.slice A n c, .int .i64 (s : Int)] w fun e w' => e = .returned (.bool (l.any fun y => decide (y = s))) ∧ w = w' := by
  have hi := index_int A n c l s w hr hn hl
  have hb := idxOf_in l s
  obtain ⟨R, hR⟩ : ∃ R, Hid (idxOf l s = R) := ⟨_, rfl⟩
  rw [hR.out] at hi hb
  rw [← hb]
  clear hb hn hr
  go_enter Tryd.func34, Tryd.ntmps34
  go_wp2_with fail
  refine hi.mono ?_
  rintro e w1 ⟨rfl, rfl⟩
  go_wp2_with fail
  go_ret
  exact ⟨rfl, rfl⟩

/-- the words' cells -/
def Wd (w : World) : Prop := Rd w (some ⟨0, 0, none⟩) (txs wordsL)
theorem Wd.ext {w w' : World} (h : Wd w) (hx : Ext w w') : Wd w' := Rd.ext h hx

theorem keyword_any (s : ByteArray) (w : World) (hg : Wd w) : Calls Tryd.prog 18 #[.string s] w fun e w' => e = .returned (.bool (kwP s)) ∧ w = w' := by
  have hc := contains_str (some ⟨0, 0, none⟩) 12 12 wordsL s w hg rfl (by omega)
  have hb := idxOf_in wordsL s
  rw [← hb] at hc
  by_cases h0 : s = ⟨#[]⟩
  · have e : kwP s = false := by simp [kwP, h0]
    rw [e]
    subst h0
    go_enter Tryd.func18, Tryd.ntmps18
    go_wp2_with fail
    go_ret
    exact ⟨rfl, rfl⟩
  · have e : kwP s = decide (0 ≤ idxOf wordsL s) := by simp [kwP, h0]
    rw [e]
    obtain ⟨R, hR⟩ : ∃ R, Hid (decide (0 ≤ idxOf wordsL s) = R) := ⟨_, rfl⟩
    rw [hR.out] at hc ⊢
    clear hb e
    have hne : ¬ s.toList = [] := fun e => h0 (by rw [ByteArray.toList_eq] at e; cases s; congr 1; exact Array.toList_inj.1 e)
    have hne2 : s.toList.isEmpty = false := by simpa using hne
    go_enter Tryd.func18, Tryd.ntmps18
    go_wp2_with fail
    refine hc.mono ?_
    rintro e w1 ⟨rfl, rfl⟩
    go_wp2_with fail
    go_ret
    exact ⟨rfl, rfl⟩
end Go.Proofs.YtejcacbbhijdcaaDoor.Pr
