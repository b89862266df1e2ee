/- parse: what is read is written, no longer than it was, and read as the same: plain. -/
import Derived.Test.YtejcacbbhijdcaaGreatDoorPzU
namespace Go.Proofs.YtejcacbbhijdcaaGreatDoor.Pr
open Lx
set_option linter.unusedVariables false

/-! ### What goes wrong has a number -/
def NZ {α : Type} (r : Res α) : Prop := ∀ a w, r = .bad a w → w ≠ 0
theorem NZ.ok {α : Type} (a : α) (s : PS) : NZ (.ok a s) := fun _ _ h => by cases h
theorem NZ.fail {α : Type} (s : PS) (w : Nat) (h : w ≠ 0) : NZ (failR s w : Res α) := fun a v e => by injection e with _ e; omega
theorem NZ.bind {α β : Type} {r : Res α} {f : α → PS → Res β} (h : NZ r) (hf : ∀ a s, NZ (f a s)) : NZ (r.bind f) := by
  cases r with
  | ok a s => exact hf a s
  | bad a w => exact fun a' w' e => by injection e with e1 e2; rw [← e2]; exact h a w rfl
theorem NZ.must (s : PS) (x : ByteArray) : NZ (mustR s x) := by
  unfold mustR
  split
  · exact .ok _ _
  · exact .fail _ _ (by decide)
theorem NZ.name (s : PS) (th : ByteArray → Bool) : NZ (nameR s th) := by
  unfold nameR
  split
  · exact .fail _ _ (by decide)
  · split
    · exact .fail _ _ (by decide)
    · exact .ok _ _
def TZ (T : Bool → List Nat → PS → Res Nat) : Prop := ∀ u a s, NZ (T u a s)
theorem NZ.union {T : Bool → List Nat → PS → Res Nat} (hT : TZ T) (n : Nat) : ∀ (m : Nat) (l : List Nat) (s : PS), NZ (unionR T n m l s)
  | 0, l, s => .fail _ _ (by decide)
  | m + 1, l, s => by
    rw [unionR]
    refine (hT _ _ _).bind fun x s1 => ?_
    split
    · exact .ok _ _
    · exact (NZ.must _ _).bind fun _ s2 => NZ.union hT n m _ s2
theorem NZ.syms (n : Nat) : ∀ (m : Nat) (l : List ByteArray) (s : PS), NZ (symsR n m l s)
  | 0, l, s => .fail _ _ (by decide)
  | m + 1, l, s => by
    rw [symsR]
    refine (NZ.name _ _).bind fun x s1 => ?_
    split
    · exact .ok _ _
    · exact (NZ.must _ _).bind fun _ s2 => NZ.syms n m _ s2
theorem NZ.fields {T : Bool → List Nat → PS → Res Nat} (hT : TZ T) (n : Nat) : ∀ (m : Nat) (l : List (ByteArray × Bool × Nat)) (s : PS), NZ (fieldsR T n m l s)
  | 0, l, s => .fail _ _ (by decide)
  | m + 1, l, s => by
    rw [fieldsR]
    split
    · exact .ok _ _
    · exact (NZ.name _ _).bind fun x s1 => (NZ.must _ _).bind fun _ s2 => (hT _ _ _).bind fun t s3 => (NZ.must _ _).bind fun _ s4 => NZ.fields hT n m _ s4
theorem gate_nz {fuel : Nat} {u : Bool} {a : List Nat} {s : PS} {k : Int} {n : Option Nat} {w : Nat} (h : gateR fuel u a s k n = some w) : w ≠ 0 := by
  unfold gateR at h
  split at h
  · injection h with h; omega
  · split at h
    · injection h with h; omega
    · split at h
      · injection h with h; omega
      · split at h
        · injection h with h; omega
        · split at h
          · injection h with h; omega
          · cases h
theorem typedR_nz : ∀ (fuel : Nat), TZ (typedR fuel)
  | fuel, u, a, s => by
    rw [typedR.eq_def]
    simp only
    split
    · exact .fail _ _ (by decide)
    · split
      · next w hw => exact .fail _ _ (gate_nz hw)
      · split
        · exact .ok _ _
        · cases fuel with
          | zero => exact .fail _ _ (by decide)
          | succ fuel =>
            have ih := typedR_nz fuel
            simp only
            split
            · exact NZ.bind ((ih _ _ _).bind fun _ _ => NZ.must _ _) fun _ _ => .ok _ _
            · split
              · exact NZ.bind ((ih _ _ _).bind fun _ _ => NZ.must _ _) fun _ _ => .ok _ _
              · split
                · exact (NZ.union ih _ _ _ _).bind fun _ _ => .ok _ _
                · split
                  · refine NZ.bind ?_ fun _ _ => .ok _ _
                    unfold definedR
                    refine (NZ.name _ _).bind fun x s1 => ?_
                    simp only
                    split
                    · exact (NZ.must _ _).bind fun _ s3 => NZ.syms _ _ _ _
                    · split
                      · split
                        · exact .fail _ _ (by decide)
                        · exact .ok _ _
                      · exact (NZ.must _ _).bind fun _ s3 => NZ.fields ih _ _ _ _
                  · exact .ok _ _
/-- what reading gives: nodes, or a reason -/
theorem parse_cases (s : ByteArray) : ((parseP s).1 = [] ∧ (parseP s).2.2 ≠ 0) ∨ (words s = none ∧ ∃ n s', typedR 20 false [] ⟨toks s, [], fun _ => none⟩ = .ok n s' ∧ (hd s'.l).k = 3 ∧ parseP s = (s'.ns, 0, 0)) := by
  unfold parseP
  cases hw : words s with
  | some r =>
    obtain ⟨p, q⟩ := r
    refine .inl ⟨rfl, ?_⟩
    show q ≠ 0
    unfold words at hw
    have hr : ∀ (l : List Tok) (n : Nat) (p q : Int), wordsR l n = some (p, q) → q ≠ 0 := by
      intro l
      induction l with
      | nil => intro n p q h; cases h
      | cons t l ih =>
        intro n p q h
        rw [wordsR] at h
        split at h
        · injection h with h; injection h with _ h; omega
        · split at h
          · injection h with h; injection h with _ h; omega
          · exact ih _ _ _ h
    split at hw
    · injection hw with hw; injection hw with _ hw; omega
    · exact hr _ _ _ _ hw
  | none =>
    simp only
    cases ht : typedR 20 false [] ⟨toks s, [], fun _ => none⟩ with
    | bad a w => exact .inl ⟨rfl, by have := typedR_nz 20 false [] _ a w ht; simp only; omega⟩
    | ok n s' =>
      simp only
      by_cases hk : (hd s'.l).k = 3
      · rw [if_neg (by simp [hk])]
        exact .inr ⟨trivial, n, s', rfl, hk, rfl⟩
      · rw [if_pos hk]
        exact .inl ⟨rfl, by show (4 : Int) ≠ 0; decide⟩

/-! ### A type -/
theorem idxOf_get {α : Type} [DecidableEq α] : ∀ (l : List α) (s d : α), 0 ≤ idxOf l s → l.getD (idxOf l s).toNat d = s
  | [], s, d, h => by simp [idxOf] at h
  | x :: l, s, d, h => by
    rw [idxOf] at h ⊢
    split
    · next e => subst e; rfl
    · next e =>
      rw [if_neg e] at h
      split at h
      · omega
      · next h2 =>
        rw [if_neg h2]
        have := idxOf_get l s d (by omega)
        rw [show (idxOf l s + 1).toNat = (idxOf l s).toNat + 1 by omega]
        exact this
theorem kind_cases {s : PS} {k : Int} (h : kindR s = some k) : (k = 6 ∧ isT s cSqO = true) ∨ (k = 7 ∧ isT s cCuO = true) ∨ (k = 8 ∧ isT s cPaO = true) ∨ ((hd s.l).k = 0 ∧ (hd s.l).s ≠ ⟨#[]⟩ ∧ 0 ≤ k ∧ k = idxOf wordsL (hd s.l).s) ∨ ((hd s.l).k = 0 ∧ k = -1) := by
  unfold kindR at h
  split at h
  · next ht => injection h with h; exact .inl ⟨h.symm, ht⟩
  · split at h
    · next ht => injection h with h; exact .inr (.inl ⟨h.symm, ht⟩)
    · split at h
      · next ht => injection h with h; exact .inr (.inr (.inl ⟨h.symm, ht⟩))
      · split at h
        · cases h
        · next hk =>
          simp only [ne_eq, Decidable.not_not] at hk
          split at h
          · next hq =>
            injection h with h
            simp only [kwP, Bool.and_eq_true, decide_eq_true_eq] at hq
            exact .inr (.inr (.inr (.inl ⟨hk, hq.1, by omega, h.symm⟩)))
          · split at h
            · injection h with h; exact .inr (.inr (.inr (.inr ⟨hk, h.symm⟩)))
            · cases h
/-- a word that is a kind's -/
theorem kind_word {s : PS} {k : Int} (h0 : (hd s.l).s ≠ ⟨#[]⟩) (h1 : 0 ≤ k) (h2 : k = idxOf wordsL (hd s.l).s) : (hd s.l).s = wordsL.getD k.toNat ⟨#[]⟩ ∧ k ≠ 6 ∧ k ≠ 7 ∧ k ≠ 8 := by
  have := idxOf_get wordsL (hd s.l).s ⟨#[]⟩ (by omega)
  rw [← h2] at this
  refine ⟨this.symm, ?_, ?_, ?_⟩ <;> intro e <;> rw [e] at this <;> exact h0 this.symm
theorem wtyp_new {N : List Ne} {f n : Nat} {S : List UInt8} {d : Ne} (h : N[n]? = some d) (hS : S.length ≤ 4096) : wtyp N (f + 1) (n : Int) ⟨S, n, false⟩ = wbody (wtyp N f) d ⟨S, n + 1, false⟩ := by
  have hl : n < N.length := (List.getElem?_eq_some_iff.1 h).1
  rw [wtyp, if_neg, if_neg (by simp)]
  · have : N.getD (n : Int).toNat neD = d := by rw [Int.toNat_natCast, List.getD, h]; rfl
    rw [this]
  · unfold wstop
    simp
    omega
theorem wtyp_ref {N : List Ne} {f i n : Nat} {S : List UInt8} {d : Ne} (h : N[i]? = some d) (hi : i < n) (h9 : 9 ≤ d.k) (hS : S.length ≤ 4096) : wtyp N (f + 1) (i : Int) ⟨S, n, false⟩ = ⟨S ++ bs d.name, n, false⟩ := by
  have hl : i < N.length := (List.getElem?_eq_some_iff.1 h).1
  rw [wtyp, if_neg, if_pos (by simp only; omega)]
  · have : N.getD (i : Int).toNat neD = d := by rw [Int.toNat_natCast, List.getD, h]; rfl
    rw [this, decide_eq_false (by omega)]
    rfl
  · unfold wstop
    simp
    omega
theorem typedR_sh (N : List Ne) : ∀ (fuel : Nat), TR N (typedR fuel) (wtyp N fuel)
  | fuel, u, a, s, n, s', S, h, hw, ha, hm, hF, hb => by
    rw [typedR.eq_def] at h
    simp only at h
    split at h
    · cases h
    · next k hk =>
      split at h
      · cases h
      · next hgate =>
        have hf0 : fuel ≠ 0 := by
          intro e
          unfold gateR at hgate
          rw [if_pos (.inl e)] at hgate
          cases hgate
        obtain ⟨f, rfl⟩ := Nat.exists_eq_succ_of_ne_zero hf0
        split at h
        · next hneg =>
          have hk0 : (hd s.l).k = 0 := by
            rcases kind_cases hk with ⟨e, _⟩ | ⟨e, _⟩ | ⟨e, _⟩ | ⟨e, _, e2, _⟩ | ⟨e, _⟩
            · omega
            · omega
            · omega
            · exact e
            · exact e
          injection h with h1 h2
          have hsome : ∃ i, s.nm (hd s.l).s = some i := by
            cases hq : s.nm (hd s.l).s with
            | some i => exact ⟨i, rfl⟩
            | none =>
              unfold gateR at hgate
              rw [hq] at hgate
              split at hgate
              · cases hgate
              · rw [if_pos ⟨hneg, rfl⟩] at hgate; cases hgate
          obtain ⟨i, hi⟩ := hsome
          rw [hi] at h1
          have h1 : i = n := h1
          subst h1
          obtain ⟨hlt, d, e1, e2, e3⟩ := hm _ _ hi
          obtain ⟨_, hw1, g, q1, _, q3, _⟩ := hw.step (by omega)
          refine ⟨bs (hd s.l).s, ?_, fun h2k => ?_, by rw [← h2]; exact hw1, hm.same (by rw [← h2]; rfl) (by rw [← h2]; exact Nat.le_refl _)⟩
          · rw [wtyp_ref e1 hlt e3 (by omega), e2, ← h2]; rfl
          · rw [q1, q3 (by rw [← h2] at h2k; exact h2k), ← h2]; rfl
        · next hneg =>
          have ih := typedR_sh N f
          have hS := typedR_shp f
          have hG := typedR_len f
          simp only at h
          have hn1 : s.ns.length < (s.ns ++ [Nd.ofKind k]).length := by simp
          have ha1 : AllN ShN ({ s.on with ns := s.ns ++ [Nd.ofKind k] } : PS) := fun d hd => by
            rcases List.mem_append.1 hd with hd | hd
            · exact ha d hd
            · rw [List.mem_singleton] at hd; subst hd; exact ⟨.inl rfl, .inl rfl⟩
          have hl1 : ({ s.on with ns := s.ns ++ [Nd.ofKind k] } : PS).ns.length = s.ns.length + 1 := by simp
          have hd1 : ({ s.on with ns := s.ns ++ [Nd.ofKind k] } : PS).ns[s.ns.length]? = some (Nd.ofKind k) := by simp
          have hll1 : ({ s.on with ns := s.ns ++ [Nd.ofKind k] } : PS).l = s.on.l := rfl
          have hmm1 : ({ s.on with ns := s.ns ++ [Nd.ofKind k] } : PS).nm = s.nm := rfl
          generalize hs1 : ({ s.on with ns := s.ns ++ [Nd.ofKind k] } : PS) = s1 at h ha1 hl1 hd1 hll1 hmm1
          have hm1 : Nam N s1 := hm.same hmm1 (by omega)
          have er1 : sr s1 = sr s.on := by unfold sr; rw [hll1]
          have hN : s.ns.length < s'.ns.length → N[s.ns.length]? = (s'.ns[s.ns.length]?).map Nd.toE := fun hlt => hF _ (Nat.le_refl _) hlt
          have late : FnW N s1 s' := hF.late (by omega)
          have wnew : ∀ d, s'.ns[s.ns.length]? = some d → wtyp N (f + 1) (s.ns.length : Int) ⟨S, s.ns.length, false⟩ = wbody (wtyp N f) d.toE ⟨S, s1.ns.length, false⟩ := fun d hd => by
            have hlt : s.ns.length < s'.ns.length := (List.getElem?_eq_some_iff.1 hd).1
            rw [wtyp_new (d := d.toE) (by rw [hN hlt, hd]; rfl) (by omega), hl1]
          -- the sign ahead of brackets
          have sgn : ∀ c : UInt8, kindOf c = 2 → isT s ⟨#[c]⟩ = true → sr s = c :: sr s1 ∧ WS s1 := fun c hc ht => by
            obtain ⟨_, e, w⟩ := sign_step hc hw ht
            exact ⟨by rw [er1]; exact e, by show WTs (s1.l.map tk); rw [hll1]; exact w⟩
          -- a word ahead
          have wrd : (hd s.l).k = 0 → ∃ g, sr s = bs (hd s.l).s ++ (g ++ sr s1) ∧ (2 ≤ (hd s1.l).k → g = []) ∧ ((hd s1.l).k = 0 → g = [32]) ∧ WS s1 := fun hk0 => by
            obtain ⟨_, hw1, g, q1, _, q3, q4⟩ := hw.step (by omega)
            exact ⟨g, by rw [er1]; exact q1, by rw [hll1]; exact q3, by rw [hll1]; exact fun e => q4 hk0 (by omega) (by omega), by show WTs (s1.l.map tk); rw [hll1]; exact hw1⟩
          split at h
          · next k6 =>
            subst k6
            obtain ⟨_, s2, h1, h2⟩ := Res.bind_ok h
            injection h2 with h3 h4
            subst h3; subst h4
            have ht : isT s cSqO = true := by
              rcases kind_cases hk with ⟨e, e2⟩ | ⟨e, _⟩ | ⟨e, _⟩ | ⟨_, e0, e1, e2⟩ | ⟨_, e⟩
              · exact e2
              · omega
              · omega
              · exact absurd rfl (kind_word e0 e1 e2).2.1
              · omega
            obtain ⟨e, w1⟩ := sgn 91 (by decide +kernel) ht
            obtain ⟨x, out, q1, q2, q3, q4, q5⟩ := itemR_sh ih hS hG (S := S ++ [91]) h1 (by decide +kernel) w1 ha1 hm1 (by omega) late (by rw [e] at hb; simp at hb ⊢; omega)
            refine ⟨91 :: out ++ [93], ?_, fun _ => by rw [e, q3]; simp, q4, q5⟩
            rw [wnew _ (q1 _ hd1)]
            show wbody (wtyp N f) ⟨6, ⟨#[]⟩, 0, [], [(x : Int)], []⟩ _ = _
            rw [wbody, if_pos rfl, witems, wlist, wlist]
            simp only [if_true]
            rw [show (WSt.put ⟨S, s1.ns.length, false⟩ [91]) = ⟨S ++ [91], s1.ns.length, false⟩ from rfl, q2]
            simp [WSt.put]
          · split at h
            · next k6 k7 =>
              subst k7
              obtain ⟨_, s2, h1, h2⟩ := Res.bind_ok h
              injection h2 with h3 h4
              subst h3; subst h4
              have ht : isT s cCuO = true := by
                rcases kind_cases hk with ⟨e, _⟩ | ⟨e, e2⟩ | ⟨e, _⟩ | ⟨_, e0, e1, e2⟩ | ⟨_, e⟩
                · omega
                · exact e2
                · omega
                · exact absurd rfl (kind_word e0 e1 e2).2.2.1
                · omega
              obtain ⟨e, w1⟩ := sgn 123 (by decide +kernel) ht
              obtain ⟨x, out, q1, q2, q3, q4, q5⟩ := itemR_sh ih hS hG (S := S ++ [123]) h1 (by decide +kernel) w1 ha1 hm1 (by omega) late (by rw [e] at hb; simp at hb ⊢; omega)
              refine ⟨123 :: out ++ [125], ?_, fun _ => by rw [e, q3]; simp, q4, q5⟩
              rw [wnew _ (q1 _ hd1)]
              show wbody (wtyp N f) ⟨7, ⟨#[]⟩, 0, [], [(x : Int)], []⟩ _ = _
              rw [wbody, if_neg (show ¬ (7 : Int) = 6 by decide), if_pos rfl, witems, wlist, wlist]
              simp only [if_true]
              rw [show (WSt.put ⟨S, s1.ns.length, false⟩ [123]) = ⟨S ++ [123], s1.ns.length, false⟩ from rfl, q2]
              simp [WSt.put]
            · split at h
              · next k6 k7 k8 =>
                subst k8
                obtain ⟨_, s2, h1, h2⟩ := Res.bind_ok h
                injection h2 with h3 h4
                subst h3; subst h4
                have ht : isT s cPaO = true := by
                  rcases kind_cases hk with ⟨e, _⟩ | ⟨e, _⟩ | ⟨e, e2⟩ | ⟨_, e0, e1, e2⟩ | ⟨_, e⟩
                  · omega
                  · omega
                  · exact e2
                  · exact absurd rfl (kind_word e0 e1 e2).2.2.2
                  · omega
                obtain ⟨e, w1⟩ := sgn 40 (by decide +kernel) ht
                obtain ⟨x, more, out, q1, q2, q3, q4, q5⟩ := unionR_sh ih hS hG s.ns.length _ _ (S := S ++ [40]) h1 w1 ha1 ⟨_, hd1, rfl⟩ hm1 (by omega) late (by rw [e] at hb; simp at hb ⊢; omega)
                refine ⟨40 :: out ++ [41], ?_, fun _ => by rw [e, q3]; simp, q4, q5⟩
                rw [wnew _ (q1 _ hd1)]
                show wbody (wtyp N f) ⟨8, ⟨#[]⟩, 0, [], ([] ++ x :: more).map (fun (n : Nat) => (n : Int)), []⟩ _ = _
                rw [wbody, if_neg (show ¬ (8 : Int) = 6 by decide), if_neg (show ¬ (8 : Int) = 7 by decide), if_pos rfl, List.nil_append, List.map_cons, witems, wlist]
                simp only [if_true]
                rw [show (WSt.put ⟨S, s1.ns.length, false⟩ [40]) = ⟨S ++ [40], s1.ns.length, false⟩ from rfl, q2]
                simp [WSt.put]
              · next k6 k7 k8 =>
                have hwd : (hd s.l).k = 0 ∧ (hd s.l).s = wordsL.getD k.toNat ⟨#[]⟩ := by
                  rcases kind_cases hk with ⟨e, _⟩ | ⟨e, _⟩ | ⟨e, _⟩ | ⟨h0, e0, e1, e2⟩ | ⟨_, e⟩
                  · exact absurd e k6
                  · exact absurd e k7
                  · exact absurd e k8
                  · exact ⟨h0, (kind_word e0 e1 e2).1⟩
                  · omega
                obtain ⟨g, e, g1, g2, w1⟩ := wrd hwd.1
                split at h
                · next hkk =>
                  obtain ⟨_, s2, h1, h2⟩ := Res.bind_ok h
                  injection h2 with h3 h4
                  subst h3; subst h4
                  have hlen := (definedR_len hG h1).1
                  have hk0 : (hd s1.l).k = 0 := by
                    unfold definedR at h1
                    obtain ⟨x, s3, h5, _⟩ := Res.bind_ok h1
                    exact (nameR_ok h5).1
                  rw [g2 hk0] at e
                  have hpre : bs (hd s.l).s ++ [32] = (if k = 10 then sFix else if k = 9 then sEn else sRec) := by
                    rw [hwd.2]
                    rcases hkk with e | e | e <;> subst e <;> rfl
                  have hb1 : S.length + (if k = 10 then 6 else if k = 9 then 5 else 7) + (sr s1).length ≤ 4096 := by
                    have hl : (bs (hd s.l).s ++ [32]).length = if k = 10 then 6 else if k = 9 then 5 else 7 := by
                      rw [hpre]
                      rcases hkk with e | e | e <;> subst e <;> rfl
                    rw [← hl]
                    rw [e] at hb
                    simp only [List.length_append] at hb ⊢
                    omega
                  obtain ⟨d, out, q1, q2, q3, q4, q5, q6, q7⟩ := definedR_sh ih hS hG (S := S) hkk h1 w1 ha1 hd1 hm1 (by omega) late (hN (by omega)) hb1
                  refine ⟨(if k = 10 then sFix else if k = 9 then sEn else sRec) ++ out, ?_, fun h2k => ?_, q6, q7⟩
                  · rw [wnew _ q1, q4]
                  · rw [e, q5 h2k, ← hpre]; simp
                · next hkk =>
                  injection h with h3 h4
                  subst h3; subst h4
                  refine ⟨bs (hd s.l).s, ?_, fun h2k => by rw [e, g1 h2k]; rfl, w1, hm1⟩
                  rw [wnew _ hd1]
                  have hr := kindR_rng hk
                  show wbody (wtyp N f) ⟨k, ⟨#[]⟩, 0, [], [], []⟩ _ = _
                  rw [wbody]
                  simp only
                  rw [if_neg k6, if_neg k7, if_neg k8, if_neg (fun e => hkk (.inl e)), if_neg (fun e => hkk (.inr (.inl e))), if_neg (fun e => hkk (.inr (.inr e))), if_neg (by omega), hwd.2]
                  rfl
/-- WHAT IS READ HAS A TEXT, NO LONGER THAN IT CAME IN, AND THAT TEXT READS THE SAME -/
theorem show_back (s : ByteArray) (h : (parseP s).2.2 = 0) : ∃ t, showP ((parseP s).1.map Nd.toE) = some t ∧ t.length ≤ s.size ∧ parseP ⟨t.toArray⟩ = parseP s := by
  rcases parse_cases s with ⟨_, h1⟩ | ⟨hw, n, s', ht, hk, hp⟩
  · exact absurd h h1
  have hsz : s.size ≤ 4096 ∧ wordsR (toks s) 0 = none := by
    unfold words at hw
    split at hw
    · cases hw
    · exact ⟨by omega, hw⟩
  have hpos : ∀ (l : List Tok) (n : Nat), wordsR l n = none → ∀ t ∈ l, 0 ≤ t.k := by
    intro l
    induction l with
    | nil => intro n _ t ht; cases ht
    | cons x l ih =>
      intro n h t ht
      rw [wordsR] at h
      split at h
      · cases h
      · split at h
        · cases h
        · rcases List.mem_cons.1 ht with rfl | ht
          · omega
          · exact ih _ h t ht
  obtain ⟨r1, r2, r3⟩ := relex s (hpos _ _ hsz.2)
  have hn0 : n = 0 := by
    have hk' := ht
    rw [typedR.eq_def] at hk'
    simp only at hk'
    split at hk'
    · cases hk'
    · split at hk'
      · cases hk'
      · next hg =>
        split at hk'
        · injection hk' with e _; rw [← e]; rfl
        · repeat' split at hk'
          all_goals first
            | cases hk'; done
            | (obtain ⟨_, s2, _, h2⟩ := Res.bind_ok hk'; injection h2 with e _; exact e.symm)
            | (injection hk' with e _; exact e.symm)
  subst hn0
  obtain ⟨out, q1, q2, q3, q4⟩ := typedR_sh (s'.ns.map Nd.toE) 20 false [] ⟨toks s, [], fun _ => none⟩ 0 s' [] ht r1 (fun d hd => by cases hd) (fun y i hy => by cases hy) (fun i _ hi => by rw [List.getElem?_map]) (by
    show 0 + (ser ((toks s).map tk)).length ≤ 4096
    omega)
  have hend : sr s' = [] := by
    obtain ⟨l, ns, nm⟩ := s'
    cases l with
    | nil => cases q3
    | cons t r =>
      change WTs (tk t :: r.map tk) at q3
      rcases wts_cons q3 with ⟨e, e2⟩ | ⟨hx, _⟩
      · unfold sr
        show ser (tk t :: r.map tk) = []
        rw [e, e2]; rfl
      · have := hx.rng
        have hk : t.k = 3 := hk
        have : (tk t).1 = t.k := rfl
        omega
  have hout : ser ((toks s).map tk) = out := by
    have := q2 (by omega)
    rw [hend, List.append_nil] at this
    exact this
  have hq : wtyp (s'.ns.map Nd.toE) 20 0 ⟨[], 0, false⟩ = ⟨out, s'.ns.length, false⟩ := by
    have := q1
    rw [List.nil_append] at this
    exact this
  -- the text read
  have hsz2 : (ByteArray.mk out.toArray).size = out.length := by simp [ByteArray.size]
  have her : (toks s).map er = (toks ⟨out.toArray⟩).map er := by
    have hinj : ∀ (l m : List Tok), l.map tk = m.map tk → l.map er = m.map er := by
      intro l
      induction l with
      | nil => intro m e; cases m with
        | nil => rfl
        | cons => cases e
      | cons x l ih => intro m e; cases m with
        | nil => cases e
        | cons y m =>
          rw [List.map_cons, List.map_cons] at e ⊢
          injection e with e1 e2
          rw [ih m e2]
          congr 1
          have e3 : x.k = y.k := congrArg Prod.fst e1
          have e4 : bs x.s = bs y.s := congrArg Prod.snd e1
          have e5 : x.s = y.s := by
            have : x.s.data = y.s.data := Array.toList_inj.1 e4
            cases hx : x.s; cases hy : y.s
            rw [hx, hy] at this
            simp only at this
            rw [this]
          unfold er
          rw [e3, e5]
    rw [hout] at r3
    exact hinj _ _ r3.symm
  have hw2 : words ⟨out.toArray⟩ = none := by
    have hwe : ∀ (l m : List Tok) (n : Nat), l.map er = m.map er → wordsR l n = none → wordsR m n = none := by
      intro l
      induction l with
      | nil => intro m n e _; cases m with
        | nil => rfl
        | cons => cases e
      | cons x l ih => intro m n e h; cases m with
        | nil => rfl
        | cons y m =>
          rw [List.map_cons, List.map_cons] at e
          injection e with e1 e2
          have e3 : (er x).k = (er y).k := by rw [e1]
          have e3 : x.k = y.k := e3
          rw [wordsR] at h ⊢
          rw [← e3]
          split at h
          · cases h
          · next h1 =>
            rw [if_neg h1]
            split at h
            · cases h
            · next h2 => rw [if_neg h2]; exact ih m _ e2 h
    unfold words
    rw [if_neg (by rw [hsz2, ← hout]; omega)]
    exact hwe _ _ 0 her hsz.2
  obtain ⟨s'', t1, t2, t3⟩ := typedR_same her ht
  have hk2 : (hd s''.l).k = 3 := by
    have e := hd_er s''.l
    rw [t3, hd_er] at e
    have := congrArg Tok.k e
    exact this.symm.trans hk
  have hp2 : parseP ⟨out.toArray⟩ = (s'.ns, 0, 0) := by
    unfold parseP
    rw [hw2]
    simp only
    rw [t1]
    simp only
    rw [if_neg (by simp [hk2]), t2]
  refine ⟨out, ?_, by rw [← hout]; exact r2, by rw [hp2, hp]⟩
  rw [hp]
  unfold showP
  simp only
  rw [hq]
  simp only
  rw [if_neg (by simp), hp2]
  simp
end Go.Proofs.YtejcacbbhijdcaaGreatDoor.Pr
/- parse: what is read has no long lists: plain. -/
namespace Go.Proofs.YtejcacbbhijdcaaGreatDoor.Pr
open Lx
set_option linter.unusedVariables false

def LN (M : Nat) (d : Nd) : Prop := d.syms.length ≤ M ∧ d.items.length ≤ M ∧ d.fields.length ≤ M
def LB (M : Nat) (s : PS) : Prop := AllN (LN M) s ∧ s.ns.length + s.l.length ≤ M
def TB (M : Nat) (T : Bool → List Nat → PS → Res Nat) : Prop := ∀ u a s n s', T u a s = .ok n s' → LB M s → LB M s'
theorem on_le (s : PS) : s.on.l.length ≤ s.l.length := by show s.l.tail.length ≤ _; rw [List.length_tail]; omega
theorem LB.on {M : Nat} {s : PS} (h : LB M s) : LB M s.on := ⟨h.1.same rfl, by have := on_le s; have := h.2; show s.ns.length + s.on.l.length ≤ M; omega⟩
theorem LB.setN {M : Nat} {s : PS} (h : LB M s) (n : Nat) {f : Nd → Nd} (hf : ∀ d, LN M d → LN M (f d)) : LB M (s.setN n f) := ⟨h.1.setN n hf, by rw [setN_len]; exact h.2⟩
section
variable {M : Nat} {T : Bool → List Nat → PS → Res Nat}
theorem itemR_lb (hT : TB M T) {s s' : PS} {n : Nat} {x : ByteArray} {u : Unit} (h : itemR T s n x = .ok u s') (hp : LB M s) (hM : 1 ≤ M) : LB M s' := by
  obtain ⟨a, s1, h1, h2⟩ := Res.bind_ok h
  obtain ⟨h5, rfl⟩ := mustR_ok h2
  exact ((hT _ _ _ _ _ h1 hp).setN n (f := fun d => { d with items := [a] }) fun d hd => ⟨hd.1, by simpa using hM, hd.2.2⟩).on
theorem unionR_lb (hT : TB M T) (n : Nat) : ∀ (m : Nat) (l : List Nat) {s s' : PS} {u : Unit}, unionR T n m l s = .ok u s' → LB M s → l.length + m ≤ M → LB M s'
  | 0, l, s, s', u, h, _, _ => by cases h
  | m + 1, l, s, s', u, h, hp, hm => by
    rw [unionR] at h
    obtain ⟨a, s1, h1, h2⟩ := Res.bind_ok h
    have hp1 := hT _ _ _ _ _ h1 hp
    split at h2
    · injection h2 with _ h2
      subst h2
      exact hp1.on.setN n fun d hd => ⟨hd.1, by simp; omega, hd.2.2⟩
    · obtain ⟨v, s2, h5, h6⟩ := Res.bind_ok h2
      obtain ⟨h7, rfl⟩ := mustR_ok h5
      exact unionR_lb hT n m _ h6 hp1.on (by simp; omega)
theorem symsR_lb (n : Nat) : ∀ (m : Nat) (l : List ByteArray) {s s' : PS} {u : Unit}, symsR n m l s = .ok u s' → LB M s → l.length + m ≤ M → LB M s'
  | 0, l, s, s', u, h, _, _ => by cases h
  | m + 1, l, s, s', u, h, hp, hm => by
    rw [symsR] at h
    obtain ⟨x, s1, h1, h2⟩ := Res.bind_ok h
    obtain ⟨_, _, _, _, _, rfl⟩ := nameR_ok h1
    split at h2
    · injection h2 with _ h2
      subst h2
      exact hp.on.on.setN n fun d hd => ⟨by simp; omega, hd.2⟩
    · obtain ⟨v, s2, h5, h6⟩ := Res.bind_ok h2
      obtain ⟨h7, rfl⟩ := mustR_ok h5
      exact symsR_lb n m _ h6 hp.on.on (by simp; omega)
theorem LB.goes {M : Nat} {s : PS} (h : LB M s) (x : ByteArray) : LB M (goesR s x).2 := by
  unfold goesR
  split
  · exact h.on
  · exact h
theorem fieldsR_lb (hT : TB M T) (n : Nat) : ∀ (m : Nat) (l : List (ByteArray × Bool × Nat)) {s s' : PS} {u : Unit}, fieldsR T n m l s = .ok u s' → LB M s → l.length + m ≤ M → LB M s'
  | 0, l, s, s', u, h, _, _ => by cases h
  | m + 1, l, s, s', u, h, hp, hm => by
    rw [fieldsR] at h
    split at h
    · injection h with _ h
      subst h
      exact hp.on.setN n fun d hd => ⟨hd.1, hd.2.1, by show l.length ≤ M; omega⟩
    · obtain ⟨x, s1, h1, h2⟩ := Res.bind_ok h
      obtain ⟨_, _, _, _, _, rfl⟩ := nameR_ok h1
      obtain ⟨v, s2, h3, h4⟩ := Res.bind_ok h2
      obtain ⟨h5, rfl⟩ := mustR_ok h3
      obtain ⟨t, s3, h6, h7⟩ := Res.bind_ok h4
      obtain ⟨v2, s4, h10, h11⟩ := Res.bind_ok h7
      obtain ⟨h12, rfl⟩ := mustR_ok h10
      exact fieldsR_lb hT n m _ h11 (hT _ _ _ _ _ h6 (hp.on.goes cQ).on).on (by simp; omega)
theorem definedR_lb (hT : TB M T) {s s' : PS} {n : Nat} {k : Int} {u : Unit} (h : definedR T s n k = .ok u s') (hp : LB M s) : LB M s' := by
  unfold definedR at h
  obtain ⟨x, s1, h1, h2⟩ := Res.bind_ok h
  obtain ⟨_, _, _, _, _, rfl⟩ := nameR_ok h1
  simp only at h2
  have hp2 : LB M (s.on.called n x) := by
    have := hp.on.setN n (f := fun d => { d with name := x }) fun d hd => hd
    exact ⟨this.1.same rfl, this.2⟩
  generalize s.on.called n x = s2 at h2 hp2
  have hl := hp2.2
  have ho := on_le s2
  split at h2
  · obtain ⟨v, s3, h5, h6⟩ := Res.bind_ok h2
    obtain ⟨h7, rfl⟩ := mustR_ok h5
    exact symsR_lb n _ _ h6 hp2.on (by simp; omega)
  · split at h2
    · split at h2
      · cases h2
      · injection h2 with _ h2
        subst h2
        exact hp2.on.setN n fun d hd => hd
    · obtain ⟨v, s3, h5, h6⟩ := Res.bind_ok h2
      obtain ⟨h7, rfl⟩ := mustR_ok h5
      exact fieldsR_lb hT n _ _ h6 hp2.on (by simp; omega)
end
theorem typedR_lb (M : Nat) : ∀ (fuel : Nat), TB M (typedR fuel)
  | fuel, u, a, s, n, s', h, hp => by
    rw [typedR.eq_def] at h
    simp only at h
    split at h
    · cases h
    · next k hk =>
      split at h
      · cases h
      · split at h
        · injection h with _ h
          subst h
          exact hp.on
        · have hpos := on_len (kindR_pos hk)
          have hl := hp.2
          have hp1 : LB M ({ s.on with ns := s.ns ++ [Nd.ofKind k] } : PS) := ⟨fun d hd => by
            rcases List.mem_append.1 hd with hd | hd
            · exact hp.1 d hd
            · rw [List.mem_singleton] at hd; subst hd; exact ⟨Nat.zero_le _, Nat.zero_le _, Nat.zero_le _⟩, by simp only [List.length_append, List.length_cons, List.length_nil]; omega⟩
          have hM : 1 ≤ M := by omega
          have hm : s.on.l.length ≤ M := by omega
          generalize ({ s.on with ns := s.ns ++ [Nd.ofKind k] } : PS) = s1 at h hp1
          cases fuel with
          | zero => cases h
          | succ fuel =>
            have ih := typedR_lb M fuel
            simp only at h
            split at h
            · obtain ⟨_, s2, h1, h2⟩ := Res.bind_ok h
              injection h2 with _ h2; subst h2
              exact itemR_lb ih h1 hp1 hM
            · split at h
              · obtain ⟨_, s2, h1, h2⟩ := Res.bind_ok h
                injection h2 with _ h2; subst h2
                exact itemR_lb ih h1 hp1 hM
              · split at h
                · obtain ⟨_, s2, h1, h2⟩ := Res.bind_ok h
                  injection h2 with _ h2; subst h2
                  exact unionR_lb ih _ _ _ h1 hp1 (by simpa using hm)
                · split at h
                  · obtain ⟨_, s2, h1, h2⟩ := Res.bind_ok h
                    injection h2 with _ h2; subst h2
                    exact definedR_lb ih h1 hp1
                  · injection h with _ h
                    subst h
                    exact hp1
theorem parse_lens (s : ByteArray) : (parseP s).1.length ≤ 1500 ∧ ∀ d ∈ (parseP s).1, LN 1500 d := by
  rcases parse_cases s with ⟨h1, _⟩ | ⟨hw, n, s', ht, _, hp⟩
  · rw [h1]; exact ⟨by simp, fun d hd => by cases hd⟩
  · have hl : (toks s).length ≤ 1500 := by
      unfold words at hw
      split at hw
      · cases hw
      · have := wordsR_len _ _ (by omega) hw; omega
    have := typedR_lb 1500 20 _ _ _ _ _ ht ⟨fun d hd => (by cases hd), by simpa using hl⟩
    rw [hp]
    exact ⟨by have := this.2; show s'.ns.length ≤ 1500; omega, this.1⟩
end Go.Proofs.YtejcacbbhijdcaaGreatDoor.Pr
/- parse: the reference reads what the program reads: plain. -/
namespace Go.Proofs.YtejcacbbhijdcaaGreatDoor.Pr
open Lx
set_option linter.unusedVariables false
set_option linter.unusedSimpArgs false

/-- tokens as a text has them -/
def TF (L : List Tok) : Prop := ∀ t ∈ L, (t.k = 3 ∧ bs t.s = []) ∨ WTk (tk t)
/-- what stands in nodes that are not done -/
def PtK (pt : Nat → Nd → Nd) : Prop := ∀ i d, (pt i d).k = d.k ∧ (pt i d).name = d.name
structure RQ (L : List Tok) (pt : Nat → Nd → Nd) (s : PS) (q : QS) : Prop where
  l : s.l = L.drop q.at_
  lt : q.at_ < L.length
  ns : ∀ i : Nat, q.ns[i]? = (s.ns[i]?).map (pt i)
  why : q.why = 0
  nm : ∀ x, nameP x = true → s.nm x = calledN q.ns x
  kn : PtK pt
  new : ∀ i, s.ns.length ≤ i → pt i = id
section
variable {L : List Tok} {pt : Nat → Nd → Nd} {s : PS} {q : QS}
theorem RQ.len (h : RQ L pt s q) : q.ns.length = s.ns.length := by
  have h1 := h.ns q.ns.length
  have h2 := h.ns s.ns.length
  rcases Nat.lt_trichotomy q.ns.length s.ns.length with e | e | e
  · rw [List.getElem?_eq_none (Nat.le_refl _), List.getElem?_eq_getElem e] at h1; cases h1
  · exact e
  · rw [List.getElem?_eq_getElem e, List.getElem?_eq_none (Nat.le_refl _)] at h2; cases h2
theorem drop_hd (L : List Tok) (i : Nat) : hd (L.drop i) = L.getD i ⟨3, ⟨#[]⟩, 0⟩ := by
  unfold hd
  rw [List.headD_eq_head?_getD, List.head?_drop, List.getD]
theorem RQ.hd_ (h : RQ L pt s q) : hd s.l = tkQ L q := by rw [h.l, drop_hd]; rfl
theorem RQ.on (h : RQ L pt s q) (hT : TokOk L) (hk : (tkQ L q).k ≠ 3) : RQ L pt s.on (onQ L q) := by
  rw [onQ_adv hT h.lt hk h.why]
  exact ⟨by show s.l.tail = _; rw [h.l, List.tail_drop], tok_next hT h.lt hk, h.ns, h.why, h.nm, h.kn, h.new⟩
theorem RQ.bad {e : Nat} (h : RQ L pt s q) : badQ L q true e = { q with why := e, bad := (hd s.l).a } := by rw [badQ_true h.why, h.hd_]
theorem RQ.tf (h : RQ L pt s q) (hF : TF L) : ((tkQ L q).k = 3 ∧ bs (tkQ L q).s = []) ∨ WTk (tk (tkQ L q)) := by
  refine hF _ ?_
  unfold tkQ
  rw [List.getD, List.getElem?_eq_getElem h.lt]
  exact List.getElem_mem h.lt
theorem bs_inj {a b : ByteArray} (h : bs a = bs b) : a = b := by
  have : a.data = b.data := Array.toList_inj.1 h
  cases a; cases b
  simp only at this
  rw [this]
theorem sign_tok {t : Tok} {c : UInt8} (hc : kindOf c = 2) (hF : (t.k = 3 ∧ bs t.s = []) ∨ WTk (tk t)) (hs : t.s = ⟨#[c]⟩) : t.k = 2 := by
  have hb : bs t.s = [c] := by rw [hs]; rfl
  rcases hF with ⟨_, h⟩ | h
  · rw [hb] at h; cases h
  · rcases h with ⟨hk, d, r, e, hl, _⟩ | ⟨hk, d, r, e, hl, _⟩ | ⟨hk, _⟩
    · have e : bs t.s = d :: r := e
      rw [hb] at e; injection e with e _; subst e
      have := ((byte_sorts c).1 hl).1; omega
    · have e : bs t.s = d :: r := e
      rw [hb] at e; injection e with e _; subst e
      have := ((byte_sorts c).2.1 hl).1; omega
    · exact hk
theorem RQ.here (h : RQ L pt s q) (hF : TF L) {c : UInt8} (hc : kindOf c = 2) : isT s ⟨#[c]⟩ = hereQ L q ⟨#[c]⟩ := by
  unfold isT hereQ
  rw [h.hd_]
  by_cases hs : (tkQ L q).s = ⟨#[c]⟩
  · have := sign_tok hc (h.tf hF) hs
    rw [this]; simp [hs]
  · simp [hs]
/-- how a step ends -/
def OQ {α : Type} (L : List Tok) (pt : Nat → Nd → Nd) (r : Res α) (q' : QS) : Prop := match r with
  | .ok _ s' => RQ L pt s' q'
  | .bad a w => q'.why = w ∧ q'.bad = a ∧ w ≠ 0
theorem RQ.must (h : RQ L pt s q) (hT : TokOk L) (hF : TF L) {c : UInt8} (hc : kindOf c = 2) : OQ L pt (mustR s ⟨#[c]⟩) (signQ L q ⟨#[c]⟩) := by
  have he := h.here hF hc
  unfold mustR
  by_cases ht : isT s ⟨#[c]⟩ = true
  · rw [if_pos ht]
    rw [he] at ht
    rw [signQ_good ht]
    exact h.on hT (by rw [(here_k ht).1]; decide)
  · rw [if_neg ht]
    have hf : hereQ L q ⟨#[c]⟩ = false := by rw [← he]; simpa using ht
    rw [signQ_bad h.why hf, ← h.hd_]
    exact ⟨rfl, rfl, by decide⟩
theorem RQ.goes (h : RQ L pt s q) (hT : TokOk L) (hF : TF L) {c : UInt8} (hc : kindOf c = 2) : (goesR s ⟨#[c]⟩).1 = hereQ L q ⟨#[c]⟩ ∧ RQ L pt (goesR s ⟨#[c]⟩).2 (if hereQ L q ⟨#[c]⟩ = true then onQ L q else q) := by
  have he := h.here hF hc
  unfold goesR
  by_cases ht : isT s ⟨#[c]⟩ = true
  · rw [if_pos ht]
    rw [he] at ht
    rw [if_pos ht]
    exact ⟨ht.symm, h.on hT (by rw [(here_k ht).1]; decide)⟩
  · rw [if_neg ht]
    have hf : hereQ L q ⟨#[c]⟩ = false := by rw [← he]; simpa using ht
    rw [hf]
    exact ⟨rfl, h⟩
/-- a name: where it is one, and none of some bears it -/
theorem RQ.name (h : RQ L pt s q) (th : ByteArray → Bool) (b : Bool) (hb : nameP (tkQ L q).s = true → b = th (tkQ L q).s) :
    (∃ x, nameR s th = .ok x s.on ∧ x = (tkQ L q).s ∧ (tkQ L q).k = 0 ∧ nameP x = true ∧ th x = false ∧ badQ L (nameQ L q) b 6 = q) ∨ (∃ w, nameR s th = .bad (hd s.l).a w ∧ w ≠ 0 ∧ badQ L (nameQ L q) b 6 = { q with why := w, bad := (hd s.l).a }) := by
  unfold nameR
  rw [h.hd_]
  have hkw := kw_eq (tkQ L q).s
  by_cases h1 : (tkQ L q).k ≠ 0 ∨ kwP (tkQ L q).s = true ∨ nameP (tkQ L q).s = false
  · rw [if_pos h1]
    refine .inr ⟨4, by unfold failR; rw [h.hd_], by decide, ?_⟩
    have hbt : (decide ((tkQ L q).k ≠ 0) || !nameP (tkQ L q).s || refKw (tkQ L q).s) = true := by
      rw [← hkw]
      rcases h1 with h1 | h1 | h1 <;> simp [h1]
    unfold nameQ
    rw [hbt, badQ_true h.why, badQ_why (by simp)]
  · rw [if_neg h1]
    simp only [not_or, ne_eq, Decidable.not_not, Bool.not_eq_true, Bool.not_eq_false] at h1
    obtain ⟨a1, a2, a3⟩ := h1
    have hbt : (decide ((tkQ L q).k ≠ 0) || !nameP (tkQ L q).s || refKw (tkQ L q).s) = false := by
      rw [← hkw]
      simp [a1, a2, a3]
    have hnq : nameQ L q = q := by unfold nameQ; rw [hbt, badQ_false]
    rw [hnq, hb a3]
    by_cases h2 : th (tkQ L q).s = true
    · rw [if_pos h2, h2]
      exact .inr ⟨6, by unfold failR; rw [h.hd_], by decide, by rw [badQ_true h.why]⟩
    · rw [if_neg h2]
      have h2 : th (tkQ L q).s = false := by simpa using h2
      rw [h2, badQ_false]
      exact .inl ⟨_, rfl, rfl, a1, a3, h2, rfl⟩
def upd (pt : Nat → Nd → Nd) (n : Nat) (f : Nd → Nd) : Nat → Nd → Nd := fun i => if i = n then f else pt i
theorem upd_k (h : PtK pt) (n : Nat) {f : Nd → Nd} (hf : ∀ d, (f d).k = d.k ∧ (f d).name = d.name) : PtK (upd pt n f) := fun i d => by
  unfold upd
  split
  · exact hf d
  · exact h i d
theorem calledN_congr {a b : List Nd} (h : ∀ i : Nat, (a[i]?).map (fun d => (d.k, d.name)) = (b[i]?).map fun d => (d.k, d.name)) (x : ByteArray) : calledN a x = calledN b x := by
  have e : a.map (fun d => (d.k, d.name)) = b.map fun d => (d.k, d.name) := by
    apply List.ext_getElem?
    intro i
    rw [List.getElem?_map, List.getElem?_map]
    exact h i
  have key : ∀ l : List Nd, calledN l x = (l.map fun d => (d.k, d.name)).findIdx? fun p => decide (9 ≤ p.1) && decide (p.2 = x) := by
    intro l
    unfold calledN
    rw [List.findIdx?_map]
    rfl
  rw [key, key, e]
/-- a node turned on the reference's side alone -/
theorem RQ.openN (h : RQ L pt s q) (n : Nat) (hn : n < s.ns.length) (g f : Nd → Nd) (hf : ∀ d, (f d).k = d.k ∧ (f d).name = d.name) (hg : ∀ d, g (pt n d) = f d) : RQ L (upd pt n f) s (q.setN n g) := by
  have hns : ∀ i : Nat, (q.setN n g).ns[i]? = (s.ns[i]?).map (upd pt n f i) := fun i => by
    show (q.ns.modify n g)[i]? = _
    rw [List.getElem?_modify, h.ns i]
    unfold upd
    by_cases hi : n = i
    · subst hi
      simp only [if_true]
      cases s.ns[n]? with
      | none => rfl
      | some d => simp [hg d]
    · rw [if_neg (fun e => hi e.symm)]
      cases s.ns[i]? <;> simp [hi]
  refine ⟨h.l, h.lt, hns, h.why, fun x hx => ?_, upd_k h.kn n hf, fun i hi => ?_⟩
  · rw [h.nm x hx]
    refine calledN_congr (fun i => ?_) x
    rw [hns i, h.ns i]
    cases s.ns[i]? with
    | none => rfl
    | some d =>
      simp only [Option.map_some, Option.some.injEq, Prod.mk.injEq]
      have h1 := h.kn i d
      have h2 := upd_k h.kn n hf i d
      exact ⟨h1.1.trans h2.1.symm, h1.2.trans h2.2.symm⟩
  · unfold upd
    rw [if_neg (by omega)]
    exact h.new i hi
/-- .. and done on both -/
theorem RQ.shutN {n : Nat} {f : Nd → Nd} (h : RQ L (upd pt n f) s q) (hp : PtK pt) (hn : n < s.ns.length) (hid : pt n = id) (hnew : ∀ i, s.ns.length ≤ i → pt i = id) (hf : ∀ d, (f d).k = d.k ∧ (f d).name = d.name) : RQ L pt (s.setN n f) q := by
  refine ⟨h.l, h.lt, fun i => ?_, h.why, h.nm, hp, fun i hi => hnew i (by rw [setN_len] at hi; exact hi)⟩
  rw [h.ns i]
  show _ = ((s.ns.modify n f)[i]?).map (pt i)
  rw [List.getElem?_modify]
  unfold upd
  by_cases hi : n = i
  · subst hi
    simp only [if_true, hid]
    cases s.ns[n]? <;> rfl
  · rw [if_neg (fun e => hi e.symm)]
    cases s.ns[i]? <;> simp [hi]
theorem RQ.nd (h : RQ L pt s q) {n : Nat} (hn : n < s.ns.length) : q.nd n = pt n (s.ns.getD n (Nd.ofKind 0)) := by
  unfold QS.nd
  rw [List.getD, h.ns n, List.getD, List.getElem?_eq_getElem hn]
  rfl
/-- what readers of types do alike -/
def HTQ (L : List Tok) (T : Bool → List Nat → PS → Res Nat) (TQ : QT) : Prop := ∀ u l pt s q, RQ L pt s q → (∀ n s', T u l s = .ok n s' → (TQ u l q).1 = n ∧ s.ns.length ≤ s'.ns.length) ∧ OQ L pt (T u l s) (TQ u l q).2
section
variable {T : Bool → List Nat → PS → Res Nat} {TQ : QT}
theorem oq_bad {α : Type} {a w : Nat} {q' : QS} (h1 : q'.why = w) (h2 : q'.bad = a) (h3 : w ≠ 0) : OQ L pt (.bad a w : Res α) q' := ⟨h1, h2, h3⟩
theorem item_q (hT : TokOk L) (hF : TF L) (H : HTQ L T TQ) {n : Nat} {c : UInt8} (hc : kindOf c = 2) (h : RQ L pt s q) (hn : n < s.ns.length) (hid : pt n = id) : OQ L pt (itemR T s n ⟨#[c]⟩) (itemQ L TQ n ⟨#[c]⟩ q) := by
  obtain ⟨h1, h2⟩ := H false [] pt s q h
  unfold itemR itemQ
  cases hr : T false [] s with
  | bad a w =>
    rw [hr] at h2
    obtain ⟨e1, e2, e3⟩ := h2
    rw [signQ_no (by show (TQ false [] q).2.why ≠ 0; rw [e1]; exact e3)]
    exact ⟨e1, e2, e3⟩
  | ok x s1 =>
    rw [hr] at h2
    obtain ⟨e1, e2⟩ := h1 x s1 hr
    rw [e1]
    have h2 : RQ L pt s1 (TQ false [] q).2 := h2
    have ho := h2.openN n (by omega) (fun d => { d with items := [x] }) (fun d => { d with items := [x] }) (fun d => ⟨rfl, rfl⟩) (fun d => by rw [hid]; rfl)
    have hs := ho.shutN h2.kn (by omega) hid h2.new (fun d => ⟨rfl, rfl⟩)
    exact hs.must hT hF hc
theorem union_q (hT : TokOk L) (hF : TF L) (H : HTQ L T TQ) {n : Nat} : ∀ (m : Nat) (l : List Nat) (s : PS) (q : QS) (m2 : Nat), RQ L (upd pt n fun d => { d with items := l }) s q → n < s.ns.length → PtK pt → pt n = id → (∀ i, s.ns.length ≤ i → pt i = id) → s.l.length ≤ m → s.l.length ≤ m2 → (∀ u a s n s', T u a s = .ok n s' → s'.l.length < s.l.length) → OQ L pt (unionR T n m l s) (allQ L TQ n m2 q)
  | 0, l, s, q, m2, h, _, _, _, _, hm, _, _ => by
    have := h.lt
    rw [h.l, List.length_drop] at hm
    omega
  | m + 1, l, s, q, 0, h, _, _, _, _, _, hm2, _ => by
    have := h.lt
    rw [h.l, List.length_drop] at hm2
    omega
  | m + 1, l, s, q, m2 + 1, h, hn, hp, hid, hnew, hm, hm2, hlen => by
    rw [unionR, allQ, if_neg (by rw [h.why]; simp)]
    have hit : (q.nd n).items = l := by rw [h.nd hn]; unfold upd; rw [if_pos rfl]
    rw [hit]
    obtain ⟨h1, h2⟩ := H true l _ s q h
    cases hr : T true l s with
    | bad a w =>
      rw [hr] at h2
      obtain ⟨e1, e2, e3⟩ := h2
      have hw : ((TQ true l q).2.setN n fun d => { d with items := d.items ++ [(TQ true l q).1] }).why ≠ 0 := by show (TQ true l q).2.why ≠ 0; rw [e1]; exact e3
      have hfin : ∀ q' : QS, q' = ((TQ true l q).2.setN n fun d => { d with items := d.items ++ [(TQ true l q).1] }) → OQ L pt ((Res.bad a w : Res Nat).bind fun x s1 => if isT s1 cPaC then .ok () (s1.on.setN n fun d => { d with items := l ++ [x] }) else (mustR s1 cBar).bind fun _ s2 => unionR T n m (l ++ [x]) s2) q' := fun q' e => by rw [e]; exact ⟨e1, e2, e3⟩
      split
      · exact hfin _ (onQ_no hw)
      · refine hfin _ ?_
        rw [signQ_no hw]
        cases m2 with
        | zero => rfl
        | succ m2 => rw [allQ, if_pos hw]
    | ok x s1 =>
      rw [hr] at h2
      obtain ⟨e1, e2⟩ := h1 x s1 hr
      have hl1 := hlen _ _ _ _ _ hr
      rw [e1]
      have h2 : RQ L (upd pt n fun d => { d with items := l }) s1 (TQ true l q).2 := h2
      have ho : RQ L (upd pt n fun d => { d with items := l ++ [x] }) s1 ((TQ true l q).2.setN n fun d => { d with items := d.items ++ [x] }) := by
        have := h2.openN n (by omega) (fun d => { d with items := d.items ++ [x] }) (fun d => { d with items := l ++ [x] }) (fun d => ⟨rfl, rfl⟩) (fun d => by unfold upd; rw [if_pos rfl])
        have e : upd (upd pt n fun d => { d with items := l }) n (fun d => { d with items := l ++ [x] }) = upd pt n fun d => { d with items := l ++ [x] } := by
          funext i; unfold upd; split <;> rfl
        rwa [e] at this
      generalize ((TQ true l q).2.setN n fun d => { d with items := d.items ++ [x] }) = q1 at ho ⊢
      show OQ L pt (if isT s1 cPaC then .ok () (s1.on.setN n fun d => { d with items := l ++ [x] }) else (mustR s1 cBar).bind fun _ s2 => unionR T n m (l ++ [x]) s2) _
      have hh := ho.here hF (c := 41) (by decide)
      rw [show (⟨#[41]⟩ : ByteArray) = cPaC from rfl] at hh
      by_cases ht : isT s1 cPaC = true
      · rw [if_pos ht, if_pos (by rw [← hh]; exact ht)]
        rw [hh] at ht
        have hon := ho.on hT (by rw [(here_k ht).1]; decide)
        exact hon.shutN hp (by show n < s1.ns.length; omega) hid (fun i hi => hnew i (by have hi : s1.ns.length ≤ i := hi; omega)) (fun d => ⟨rfl, rfl⟩)
      · rw [if_neg ht, if_neg (by rw [← hh]; exact ht)]
        have hmu := ho.must hT hF (c := 124) (by decide)
        rw [show (⟨#[124]⟩ : ByteArray) = cBar from rfl] at hmu
        cases hm1 : mustR s1 cBar with
        | bad a w =>
          rw [hm1] at hmu
          obtain ⟨e1, e2, e3⟩ := hmu
          have hw : (signQ L q1 cBar).why ≠ 0 := by rw [e1]; exact e3
          have : allQ L TQ n m2 (signQ L q1 cBar) = signQ L q1 cBar := by
            cases m2 with
            | zero => rfl
            | succ m2 => rw [allQ, if_pos hw]
          rw [this]
          exact ⟨e1, e2, e3⟩
        | ok u s2 =>
          rw [hm1] at hmu
          obtain ⟨a1, a2⟩ := mustR_ok hm1
          have hon := on_le s1
          exact union_q hT hF H m (l ++ [x]) s2 _ m2 hmu (by rw [a2]; show n < s1.ns.length; omega) hp hid (fun i hi => hnew i (by rw [a2] at hi; have hi : s1.ns.length ≤ i := hi; omega)) (by rw [a2]; omega) (by rw [a2]; omega) hlen
end
end
end Go.Proofs.YtejcacbbhijdcaaGreatDoor.Pr
/- parse: the reference reads what the program reads: plain, whole. -/
namespace Go.Proofs.YtejcacbbhijdcaaGreatDoor.Pr
open Lx
set_option linter.unusedVariables false
set_option linter.unusedSimpArgs false

section
variable {L : List Tok} {pt : Nat → Nd → Nd} {s : PS} {q : QS}
theorem upd_upd (pt : Nat → Nd → Nd) (n : Nat) (f g : Nd → Nd) : upd (upd pt n f) n g = upd pt n g := by funext i; unfold upd; split <;> rfl
theorem RQ.openId (h : RQ L pt s q) {n : Nat} {f : Nd → Nd} (hn : n < s.ns.length) (hid : pt n = id) (hf : ∀ d, (f d).k = d.k ∧ (f d).name = d.name) (hd : ∀ d, s.ns[n]? = some d → f d = d) : RQ L (upd pt n f) s q := by
  refine ⟨h.l, h.lt, fun i => ?_, h.why, h.nm, upd_k h.kn n hf, fun i hi => by unfold upd; rw [if_neg (by omega)]; exact h.new i hi⟩
  rw [h.ns i]
  unfold upd
  by_cases hi : i = n
  · subst hi
    simp only [if_true, hid]
    cases hx : s.ns[i]? with
    | none => rfl
    | some d => simp [hd d hx]
  · rw [if_neg hi]
theorem tk_set (L : List Tok) (q : QS) (n : Nat) (f : Nd → Nd) : tkQ L (q.setN n f) = tkQ L q := rfl
theorem syms_q (hT : TokOk L) (hF : TF L) {n : Nat} : ∀ (m : Nat) (l : List ByteArray) (s : PS) (q : QS) (m2 : Nat), RQ L (upd pt n fun d => { d with syms := l }) s q → n < s.ns.length → PtK pt → pt n = id → (∀ i, s.ns.length ≤ i → pt i = id) → s.l.length ≤ m → s.l.length ≤ m2 → OQ L pt (symsR n m l s) (symsQ L n m2 q)
  | 0, l, s, q, m2, h, _, _, _, _, hm, _ => by
    have := h.lt
    rw [h.l, List.length_drop] at hm
    omega
  | m + 1, l, s, q, 0, h, _, _, _, _, _, hm2 => by
    have := h.lt
    rw [h.l, List.length_drop] at hm2
    omega
  | m + 1, l, s, q, m2 + 1, h, hn, hp, hid, hnew, hm, hm2 => by
    rw [symsR, symsQ, if_neg (by rw [h.why]; simp)]
    have hit : (q.nd n).syms = l := by rw [h.nd hn]; unfold upd; rw [if_pos rfl]
    unfold symQ
    rw [hit]
    rcases h.name (fun x => l.any fun y => decide (y = x)) (l.any fun y => decide (y = (tkQ L q).s)) (fun _ => rfl) with ⟨x, h1, h2, h3, h4, h5, h6⟩ | ⟨w, h1, h2, h3⟩
    · rw [h1, h6, ← h2]
      have ho : RQ L (upd pt n fun d => { d with syms := l ++ [x] }) s (q.setN n fun d => { d with syms := d.syms ++ [x] }) := by
        have := h.openN n hn (fun d => { d with syms := d.syms ++ [x] }) (fun d => { d with syms := l ++ [x] }) (fun d => ⟨rfl, rfl⟩) (fun d => by unfold upd; rw [if_pos rfl])
        rwa [upd_upd] at this
      have ho := ho.on hT (by rw [tk_set, h3]; decide)
      generalize onQ L (q.setN n fun d => { d with syms := d.syms ++ [x] }) = q1 at ho ⊢
      have hpos : s.l ≠ [] := by
        intro e
        have := h.lt
        have h9 := h.l
        rw [e] at h9
        have : (L.drop q.at_).length = 0 := by rw [← h9]; rfl
        rw [List.length_drop] at this
        omega
      have hol := on_len hpos
      show OQ L pt (if isT s.on cGt then .ok () (s.on.on.setN n fun d => { d with syms := l ++ [x] }) else (mustR s.on cCom).bind fun _ s2 => symsR n m (l ++ [x]) s2) _
      have hh := ho.here hF (c := 62) (by decide)
      rw [show (⟨#[62]⟩ : ByteArray) = cGt from rfl] at hh
      by_cases ht : isT s.on cGt = true
      · rw [if_pos ht, if_pos (by rw [← hh]; exact ht)]
        rw [hh] at ht
        have hon := ho.on hT (by rw [(here_k ht).1]; decide)
        exact hon.shutN hp (by show n < s.ns.length; omega) hid (fun i hi => hnew i hi) (fun d => ⟨rfl, rfl⟩)
      · rw [if_neg ht, if_neg (by rw [← hh]; exact ht)]
        have hmu := ho.must hT hF (c := 44) (by decide)
        rw [show (⟨#[44]⟩ : ByteArray) = cCom from rfl] at hmu
        cases hm1 : mustR s.on cCom with
        | bad a w =>
          rw [hm1] at hmu
          obtain ⟨e1, e2, e3⟩ := hmu
          have hw : (signQ L q1 cCom).why ≠ 0 := by rw [e1]; exact e3
          have : symsQ L n m2 (signQ L q1 cCom) = signQ L q1 cCom := by
            cases m2 with
            | zero => rfl
            | succ m2 => rw [symsQ, if_pos hw]
          rw [this]
          exact ⟨e1, e2, e3⟩
        | ok u s2 =>
          rw [hm1] at hmu
          obtain ⟨a1, a2⟩ := mustR_ok hm1
          have hon := on_le s.on
          exact syms_q hT hF m (l ++ [x]) s2 _ m2 hmu (by rw [a2]; show n < s.ns.length; omega) hp hid (fun i hi => hnew i (by rw [a2] at hi; exact hi)) (by rw [a2]; omega) (by rw [a2]; omega)
    · rw [h1, h3]
      have hfin : ∀ q' : QS, q' = (({ q with why := w, bad := (hd s.l).a } : QS).setN n fun d => { d with syms := d.syms ++ [(tkQ L q).s] }) → OQ L pt ((Res.bad (hd s.l).a w : Res ByteArray).bind fun x s1 => if isT s1 cGt then .ok () (s1.on.setN n fun d => { d with syms := l ++ [x] }) else (mustR s1 cCom).bind fun _ s2 => symsR n m (l ++ [x]) s2) q' := fun q' e => by rw [e]; exact ⟨rfl, rfl, h2⟩
      have hw : (({ q with why := w, bad := (hd s.l).a } : QS).setN n fun d => { d with syms := d.syms ++ [(tkQ L q).s] }).why ≠ 0 := h2
      rw [onQ_no hw]
      split
      · exact hfin _ (onQ_no hw)
      · refine hfin _ ?_
        rw [signQ_no hw]
        cases m2 with
        | zero => rfl
        | succ m2 => rw [symsQ, if_pos hw]
variable {T : Bool → List Nat → PS → Res Nat} {TQ : QT}
theorem fields_q (hT : TokOk L) (hF : TF L) (H : HTQ L T TQ) {n : Nat} : ∀ (m : Nat) (l : List (ByteArray × Bool × Nat)) (s : PS) (q : QS) (m2 : Nat), RQ L (upd pt n fun d => { d with fields := l }) s q → n < s.ns.length → PtK pt → pt n = id → (∀ i, s.ns.length ≤ i → pt i = id) → s.l.length ≤ m → s.l.length ≤ m2 → (∀ u a s n s', T u a s = .ok n s' → s'.l.length < s.l.length) → OQ L pt (fieldsR T n m l s) (fieldsQ L TQ n m2 q)
  | 0, l, s, q, m2, h, _, _, _, _, hm, _, _ => by
    have := h.lt
    rw [h.l, List.length_drop] at hm
    omega
  | m + 1, l, s, q, 0, h, _, _, _, _, _, hm2, _ => by
    have := h.lt
    rw [h.l, List.length_drop] at hm2
    omega
  | m + 1, l, s, q, m2 + 1, h, hn, hp, hid, hnew, hm, hm2, hlen => by
    rw [fieldsR, fieldsQ]
    have hh := h.here hF (c := 125) (by decide)
    rw [show (⟨#[125]⟩ : ByteArray) = cCuC from rfl] at hh
    by_cases ht : isT s cCuC = true
    · rw [if_pos ht, if_pos (.inr (by rw [← hh]; exact ht))]
      rw [hh] at ht
      rw [signQ_good ht]
      have hon := h.on hT (by rw [(here_k ht).1]; decide)
      exact hon.shutN hp (by show n < s.ns.length; omega) hid (fun i hi => hnew i hi) (fun d => ⟨rfl, rfl⟩)
    · rw [if_neg ht, if_neg (by rw [← hh, h.why]; simp [ht])]
      have hit : (q.nd n).fields = l := by rw [h.nd hn]; unfold upd; rw [if_pos rfl]
      have hfa : fldA L n q = onQ L (badQ L (nameQ L q) (l.any fun f => decide (f.1 = (tkQ L q).s)) 6) := by unfold fldA; rw [hit]
      rcases h.name (fun x => l.any fun f => decide (f.1 = x)) (l.any fun f => decide (f.1 = (tkQ L q).s)) (fun _ => rfl) with ⟨x, h1, h2, h3, h4, h5, h6⟩ | ⟨w, h1, h2, h3⟩
      · rw [h6] at hfa
        rw [h1, ← h2]
        have h1s := h.on hT (by rw [h3]; decide)
        rw [← hfa] at h1s
        obtain ⟨g1, g2⟩ := h1s.goes hT hF (c := 63) (by decide)
        rw [show (⟨#[63]⟩ : ByteArray) = cQ from rfl] at g1 g2
        have hmu := g2.must hT hF (c := 58) (by decide)
        rw [show (⟨#[58]⟩ : ByteArray) = cCol from rfl] at hmu
        have hfq : signQ L (if hereQ L (fldA L n q) cQ = true then onQ L (fldA L n q) else fldA L n q) cCol = fldQ L n q := rfl
        rw [hfq] at hmu
        rw [← g1]
        have hpos : s.l ≠ [] := by
          intro e
          have := h.lt
          have h9 := h.l
          rw [e] at h9
          have : (L.drop q.at_).length = 0 := by rw [← h9]; rfl
          rw [List.length_drop] at this
          omega
        have hol := on_len hpos
        show OQ L pt ((mustR (goesR s.on cQ).2 cCol).bind fun _ s2 => (T false [] s2).bind fun t s3 => (mustR s3 cSem).bind fun _ s4 => fieldsR T n m (l ++ [(x, (goesR s.on cQ).1, t)]) s4) _
        have hgl : (goesR s.on cQ).2.l.length ≤ s.on.l.length ∧ (goesR s.on cQ).2.ns.length = s.ns.length := by
          unfold goesR
          split
          · exact ⟨on_le _, rfl⟩
          · exact ⟨Nat.le_refl _, rfl⟩
        cases hm1 : mustR (goesR s.on cQ).2 cCol with
        | bad a w =>
          rw [hm1] at hmu
          obtain ⟨e1, e2, e3⟩ := hmu
          rw [if_pos (by rw [e1]; exact e3)]
          exact ⟨e1, e2, e3⟩
        | ok u s2 =>
          rw [hm1] at hmu
          obtain ⟨a1, a2⟩ := mustR_ok hm1
          have hmu : RQ L _ s2 (fldQ L n q) := hmu
          rw [if_neg (by rw [hmu.why]; simp)]
          obtain ⟨t1, t2⟩ := H false [] _ s2 (fldQ L n q) hmu
          show OQ L pt ((T false [] s2).bind fun t s3 => (mustR s3 cSem).bind fun _ s4 => fieldsR T n m (l ++ [(x, (goesR s.on cQ).1, t)]) s4) _
          have hon2 := on_le (goesR s.on cQ).2
          have hs2l : s2.l.length < s.l.length := by rw [a2]; omega
          have hs2n : s2.ns.length = s.ns.length := by rw [a2]; exact hgl.2
          cases hr : T false [] s2 with
          | bad a w =>
            rw [hr] at t2
            obtain ⟨e1, e2, e3⟩ := t2
            rw [signQ_no (by rw [e1]; exact e3)]
            have hw : ((TQ false [] (fldQ L n q)).2.setN n fun d => { d with fields := d.fields ++ [(x, (goesR s.on cQ).1, (TQ false [] (fldQ L n q)).1)] }).why ≠ 0 := by show (TQ false [] (fldQ L n q)).2.why ≠ 0; rw [e1]; exact e3
            have : fieldsQ L TQ n m2 ((TQ false [] (fldQ L n q)).2.setN n fun d => { d with fields := d.fields ++ [(x, (goesR s.on cQ).1, (TQ false [] (fldQ L n q)).1)] }) = ((TQ false [] (fldQ L n q)).2.setN n fun d => { d with fields := d.fields ++ [(x, (goesR s.on cQ).1, (TQ false [] (fldQ L n q)).1)] }) := by
              cases m2 with
              | zero => rfl
              | succ m2 => rw [fieldsQ, if_pos (.inl hw), signQ_no hw]
            rw [this]
            exact ⟨e1, e2, e3⟩
          | ok t s3 =>
            rw [hr] at t2
            obtain ⟨e1, e2⟩ := t1 t s3 hr
            have hl3 := hlen _ _ _ _ _ hr
            have t2 : RQ L _ s3 (TQ false [] (fldQ L n q)).2 := t2
            rw [e1]
            have hmu3 := t2.must hT hF (c := 59) (by decide)
            rw [show (⟨#[59]⟩ : ByteArray) = cSem from rfl] at hmu3
            show OQ L pt ((mustR s3 cSem).bind fun _ s4 => fieldsR T n m (l ++ [(x, (goesR s.on cQ).1, t)]) s4) _
            cases hm4 : mustR s3 cSem with
            | bad a w =>
              rw [hm4] at hmu3
              obtain ⟨f1, f2, f3⟩ := hmu3
              have hw : ((signQ L (TQ false [] (fldQ L n q)).2 cSem).setN n fun d => { d with fields := d.fields ++ [(x, (goesR s.on cQ).1, t)] }).why ≠ 0 := by show (signQ L (TQ false [] (fldQ L n q)).2 cSem).why ≠ 0; rw [f1]; exact f3
              have : fieldsQ L TQ n m2 ((signQ L (TQ false [] (fldQ L n q)).2 cSem).setN n fun d => { d with fields := d.fields ++ [(x, (goesR s.on cQ).1, t)] }) = ((signQ L (TQ false [] (fldQ L n q)).2 cSem).setN n fun d => { d with fields := d.fields ++ [(x, (goesR s.on cQ).1, t)] }) := by
                cases m2 with
                | zero => rfl
                | succ m2 => rw [fieldsQ, if_pos (.inl hw), signQ_no hw]
              rw [this]
              exact ⟨f1, f2, f3⟩
            | ok u s4 =>
              rw [hm4] at hmu3
              obtain ⟨b1, b2⟩ := mustR_ok hm4
              have hmu3 : RQ L _ s4 (signQ L (TQ false [] (fldQ L n q)).2 cSem) := hmu3
              have hon4 := on_le s3
              have hs4 : s4.ns.length = s3.ns.length := by rw [b2]; rfl
              have ho : RQ L (upd pt n fun d => { d with fields := l ++ [(x, (goesR s.on cQ).1, t)] }) s4 ((signQ L (TQ false [] (fldQ L n q)).2 cSem).setN n fun d => { d with fields := d.fields ++ [(x, (goesR s.on cQ).1, t)] }) := by
                have := hmu3.openN n (by omega) (fun d => { d with fields := d.fields ++ [(x, (goesR s.on cQ).1, t)] }) (fun d => { d with fields := l ++ [(x, (goesR s.on cQ).1, t)] }) (fun d => ⟨rfl, rfl⟩) (fun d => by unfold upd; rw [if_pos rfl])
                rwa [upd_upd] at this
              exact fields_q hT hF H m _ s4 _ m2 ho (by omega) hp hid (fun i hi => hnew i (by omega)) (by rw [b2]; omega) (by rw [b2]; omega) hlen
      · rw [h1]
        rw [h3] at hfa
        have hwa : (fldA L n q) = { q with why := w, bad := (hd s.l).a } := by rw [hfa]; exact onQ_no h2
        have hwf : fldQ L n q = { q with why := w, bad := (hd s.l).a } := by
          unfold fldQ
          rw [hwa]
          have e : ∀ b : Bool, (if b = true then onQ L { q with why := w, bad := (hd s.l).a } else { q with why := w, bad := (hd s.l).a }) = { q with why := w, bad := (hd s.l).a } := fun b => by
            split
            · exact onQ_no h2
            · rfl
          rw [e]
          exact signQ_no h2 _
        rw [hwf, if_pos h2]
        exact ⟨rfl, rfl, h2⟩
theorem calledN_at' {ns : List Nd} {x : ByteArray} {i : Nat} {d : Nd} (h : ns[i]? = some d) (hp : (decide (9 ≤ d.k) && decide (d.name = x)) = true) (hn : ∀ (j : Nat), j < i → ∀ d, ns[j]? = some d → (decide (9 ≤ d.k) && decide (d.name = x)) = false) : calledN ns x = some i := by
  unfold calledN
  rw [List.findIdx?_eq_some_iff_getElem]
  obtain ⟨hi, he⟩ := List.getElem?_eq_some_iff.1 h
  refine ⟨hi, by rw [he]; exact hp, fun j hj => ?_⟩
  have := hn j hj _ (List.getElem?_eq_getElem (by omega))
  rw [this]; simp
/-- a node gets its name, on both sides -/
theorem RQ.called (h : RQ L pt s q) {n : Nat} {k : Int} {x : ByteArray} (hid : pt n = id) (hd : s.ns[n]? = some (Nd.ofKind k)) (hk : 9 ≤ k) (hx : nameP x = true) (hno : s.nm x = none) : RQ L pt (s.called n x) (q.setN n fun d => { d with name := x }) := by
  have hq : q.ns[n]? = some (Nd.ofKind k) := by rw [h.ns n, hd, hid]; rfl
  have hn : n < q.ns.length := (List.getElem?_eq_some_iff.1 hq).1
  have hns : ∀ i : Nat, (q.setN n fun d => { d with name := x }).ns[i]? = ((s.called n x).ns[i]?).map (pt i) := fun i => by
    show (q.ns.modify n _)[i]? = ((s.ns.modify n _)[i]?).map _
    rw [List.getElem?_modify, List.getElem?_modify, h.ns i]
    by_cases hi : n = i
    · subst hi
      simp only [if_true, hid]
      cases s.ns[n]? <;> rfl
    · cases s.ns[i]? <;> simp [hi]
  refine ⟨h.l, h.lt, hns, h.why, fun y hy => ?_, h.kn, fun i hi => h.new i (by have e : (s.called n x).ns.length = s.ns.length := setN_len _ _ _; omega)⟩
  have hxe : x ≠ ⟨#[]⟩ := by rintro rfl; revert hx; decide
  have hye : y ≠ ⟨#[]⟩ := by rintro rfl; revert hy; decide
  have hcx : calledN q.ns x = none := by rw [← h.nm x hx]; exact hno
  have hcn : ∀ d ∈ q.ns, (decide (9 ≤ d.k) && decide (d.name = x)) = false := by
    unfold calledN at hcx
    rw [List.findIdx?_eq_none_iff] at hcx
    exact hcx
  show (if y = x then some n else s.nm y) = _
  by_cases hyx : y = x
  · rw [if_pos hyx, hyx]
    refine (calledN_at' (d := { Nd.ofKind k with name := x }) ?_ ?_ ?_).symm
    · show (q.ns.modify n _)[n]? = _
      rw [List.getElem?_modify, hq]; simp
    · have : decide (9 ≤ (Nd.ofKind k).k) = true := decide_eq_true hk
      show (decide (9 ≤ k) && decide (x = x)) = true
      simp [hk]
    · intro j hj d hdj
      have hdj : (q.ns.modify n _)[j]? = some d := hdj
      rw [List.getElem?_modify] at hdj
      have hne : ¬ n = j := by omega
      simp [hne] at hdj
      exact hcn d (List.mem_of_getElem? hdj)
  · rw [if_neg hyx, h.nm y hy]
    have key : ∀ l : List Nd, l[n]? = some (Nd.ofKind k) → calledN (l.modify n fun d => { d with name := x }) y = calledN l y := by
      intro l hl
      have hp : ∀ i : Nat, ((l.modify n fun d => { d with name := x })[i]?).map (fun d => decide (9 ≤ d.k) && decide (d.name = y)) = (l[i]?).map fun d => decide (9 ≤ d.k) && decide (d.name = y) := fun i => by
        rw [List.getElem?_modify]
        by_cases hi : n = i
        · subst hi
          rw [hl]
          simp only [if_true, Option.map_some, Nd.ofKind]
          have e1 : decide (x = y) = false := decide_eq_false (fun e => hyx e.symm)
          have e2 : decide ((⟨#[]⟩ : ByteArray) = y) = false := decide_eq_false (fun e => hye e.symm)
          show some (decide (9 ≤ k) && decide (x = y)) = some (decide (9 ≤ k) && decide ((⟨#[]⟩ : ByteArray) = y))
          rw [e1, e2]
        · cases l[i]? <;> simp [hi]
      have e : (l.modify n fun d => { d with name := x }).map (fun d => decide (9 ≤ d.k) && decide (d.name = y)) = l.map fun d => decide (9 ≤ d.k) && decide (d.name = y) := by
        apply List.ext_getElem?
        intro i
        rw [List.getElem?_map, List.getElem?_map]
        exact hp i
      have k2 : ∀ l : List Nd, calledN l y = (l.map fun d => decide (9 ≤ d.k) && decide (d.name = y)).findIdx? id := by
        intro l
        unfold calledN
        rw [List.findIdx?_map]
        rfl
      rw [k2, k2, e]
    exact (key q.ns hq).symm
end
end Go.Proofs.YtejcacbbhijdcaaGreatDoor.Pr
