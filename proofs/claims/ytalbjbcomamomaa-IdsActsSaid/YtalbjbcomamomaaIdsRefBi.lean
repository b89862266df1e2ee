/- ids: the reference's Bind. -/
import Derived.Test.YtalbjbcomamomaaIdsRefBe
namespace Go.Proofs.Ytalbjbcomamomaa.IdsW
open Go.ChangeShapes Go.WideShapes Go.ChangeAt Go.RowKit
open Base Mp Piece
set_option linter.unusedVariables false
set_option linter.unusedSimpArgs false

theorem mapOf_some {bs : List (Nat × Nat)} {f : Nat} (ht : there bs f = true) : ∃ x, bs[pos bs f]? = some x ∧ mapOf bs f = some x.2 := by
  unfold there at ht
  cases hq : bs[pos bs f]? with
  | none => rw [hq] at ht; cases ht
  | some x => exact ⟨x, rfl, by unfold mapOf there; rw [hq]; rw [hq] at ht; simp at ht; simp [ht]⟩
theorem own_mono {w : World} {B B' : Nat} {e : TypeId} {size n : Nat} {v : Value} {xs : List Value} (h : w.ownsRow B e size v n xs) (hB : B' ≤ B) : w.ownsRow B' e size v n xs := by
  refine ⟨h.1, ?_⟩
  rcases h.2 with h2 | ⟨g, cap, cur, rfl, hb, r⟩
  · exact .inl h2
  · exact .inr ⟨g, cap, cur, rfl, Nat.le_trans hB hb, r⟩
theorem outAt_end {bs : List (Nat × Nat)} {p : Nat} {y : Nat × Nat} (hp : p < bs.length) : outAt bs p y bs.length = insAt bs p y := by
  unfold outAt
  rw [if_pos hp, List.take_length]
theorem outAt_last {bs : List (Nat × Nat)} {y : Nat × Nat} : outAt bs bs.length y bs.length ++ [y] = insAt bs bs.length y := by
  unfold outAt
  rw [if_neg (by omega)]
  simp [insAt]

set_option maxRecDepth 1000000 in
set_option maxHeartbeats 1000000 in
/-- Bind, where it gives nothing new -/
theorem rbind_old {B : Nat} {r lim : Nat} {ts : List ByteArray} {bs : List (Nat × Nat)} {vl vb : Value} (f : Nat) (s : ByteArray) (w : World) (h : Rt B w r lim ts bs vl vb) (hi : Inv ts bs) (hl : ts.length ≤ 1000) (hbl : bs.length ≤ 999)
    (hc : (f = 0 ∨ 2147483647 < f) ∨ there bs f = true) :
    Calls Try.prog 25 #[.pointer (some ⟨r, 0, none⟩), .int .u64 (f : Int), .string s] w fun e w' => e = .returned (.tuple #[.int .u64 ((bdId lim ts bs f s).1 : Int), .int .i64 ((bdId lim ts bs f s).2 : Int)]) ∧ w = w' := by
  by_cases h1 : f = 0 ∨ 2147483647 < f
  · have e1 : bdId lim ts bs f s = (0, 1) := by unfold bdId; rw [if_pos h1]
    rw [e1]
    by_cases h0 : f = 0
    · subst h0
      go_enter Try.func25, Try.ntmps25
      go_wp2_with fail
      go_ret2
      exact ⟨rfl, rfl⟩
    · have h2 : (2147483647 : Int) < (f : Int) := by omega
      have h3 : ((f : Int) == 0) = false := by simpa using h0
      go_enter Try.func25, Try.ntmps25
      go_wp2_with fail
      go_ret2
      exact ⟨rfl, rfl⟩
  · have ht := hc.resolve_left h1
    obtain ⟨x, hx, hm⟩ := mapOf_some ht
    have hrg := hi.rg x (List.mem_of_getElem? hx)
    have hof := ROf_any s w h hi.nd hl
    have hmp := RMap_any f w h hi.ri (by omega)
    rw [hm] at hmp
    simp only [Option.getD_some, Option.isSome_some] at hmp
    have h2 : ¬ (2147483647 : Int) < (f : Int) := by omega
    have h3 : ((f : Int) == 0) = false := by simp; omega
    cases hk : idOf ts s with
    | none =>
      have e1 : bdId lim ts bs f s = (0, 6) := by
        unfold bdId
        rw [if_neg h1, if_pos ht, hm, hk, if_neg (by simp; omega)]
      rw [e1]
      rw [hk] at hof
      simp only [Option.getD_none, Option.isSome_none] at hof
      go_enter Try.func25, Try.ntmps25
      go_wp2_with fail
      refine hof.mono ?_
      rintro e w1 ⟨rfl, rfl⟩
      go_wp2_with fail
      refine hmp.mono ?_
      rintro e w1 ⟨rfl, rfl⟩
      go_wp2_with fail
      go_ret2
      exact ⟨rfl, rfl⟩
    | some k =>
      rw [hk] at hof
      simp only [Option.getD_some, Option.isSome_some] at hof
      by_cases hxk : x.2 = k
      · have e1 : bdId lim ts bs f s = (k, 0) := by
          unfold bdId
          rw [if_neg h1, if_pos ht, hm, hk, if_pos (by simp [hxk])]; rfl
        rw [e1]
        rw [hxk] at hmp
        go_enter Try.func25, Try.ntmps25
        go_wp2_with fail
        refine hof.mono ?_
        rintro e w1 ⟨rfl, rfl⟩
        go_wp2_with fail
        refine hmp.mono ?_
        rintro e w1 ⟨rfl, rfl⟩
        go_wp2_with fail
        go_ret2
        exact ⟨rfl, rfl⟩
      · have e1 : bdId lim ts bs f s = (0, 6) := by
          unfold bdId
          rw [if_neg h1, if_pos ht, hm, hk, if_neg (by simpa using hxk)]
        rw [e1]
        have hne : ((x.2 : Int) == (k : Int)) = false := by simpa using (fun e : (x.2 : Int) = k => hxk (by omega))
        go_enter Try.func25, Try.ntmps25
        go_wp2_with fail
        refine hof.mono ?_
        rintro e w1 ⟨rfl, rfl⟩
        go_wp2_with fail
        refine hmp.mono ?_
        rintro e w1 ⟨rfl, rfl⟩
        go_wp2_with fail
        go_ret2
        exact ⟨rfl, rfl⟩
end Go.Proofs.Ytalbjbcomamomaa.IdsW
