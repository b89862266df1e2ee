import Derived.Test.YtghfdeebpcjcpaaCrcSums
import Derived.BigQuiet
import Derived.Deep.RegionWith
namespace Go.Proofs.Ytghfdeebpcjcpaa.CrcW
open Go.ChangeShapes Go.WideShapes Go.ChangeAt Go.RowKit
open CrcP Base
set_option linter.unusedVariables false

/-- bytes as a number, the first one on top -/
def tk (l : List UInt8) : Nat := l.foldl (fun n c => n * 256 + c.toNat) 0
theorem tk_snoc (l : List UInt8) (c : UInt8) : tk (l ++ [c]) = tk l * 256 + c.toNat := by simp [tk]
theorem tk_lt (l : List UInt8) : tk l < 256 ^ l.length := by
  have gen : ∀ (l : List UInt8) (a : Nat), l.foldl (fun n c => n * 256 + c.toNat) a < (a + 1) * 256 ^ l.length := by
    intro l
    induction l with
    | nil => intro a; simp
    | cons c l ih =>
      intro a
      have h := ih (a * 256 + c.toNat)
      have hc := c.toNat_lt
      have h2 : (a * 256 + c.toNat + 1) * 256 ^ l.length ≤ (a + 1) * 256 * 256 ^ l.length := Nat.mul_le_mul_right _ (by omega)
      rw [List.foldl_cons, List.length_cons, Nat.pow_succ, Nat.mul_comm (256 ^ l.length), ← Nat.mul_assoc]
      exact Nat.lt_of_lt_of_le h h2
  have := gen l 0
  simpa [tk] using this

theorem or_forms (x : Nat) (hx : x < 16777216) (c : UInt8) : bits BinOp.or IntKind.u32 ((x : Int) * 256) (c.toNat : Int) = ((x * 256 + c.toNat : Nat) : Int) := by
  have hc := c.toNat_lt
  have h := u32_or_nat (x * 256) c.toNat (by omega) (by omega)
  have e : x * 256 ||| c.toNat = x * 256 + c.toNat := by
    have := Nat.two_pow_add_eq_or_of_lt (i := 8) (b := c.toNat) hc x
    rw [Nat.mul_comm x 256]
    exact this.symm
  rw [e] at h
  rw [← h]
  rfl

theorem take_snoc {α : Type} (l : List α) (k : Nat) (h : k < l.length) : l.take (k + 1) = l.take k ++ [l[k]] := List.take_succ_eq_append_getElem h

set_option maxRecDepth 100000 in
set_option maxHeartbeats 800000 in
theorem of_core (b off n c : Nat) (q : List UInt8) (w : World) (hq : q.length = 4) (hm : n ≤ maxLen) (hc : n ≤ c) (h4 : 4 ≤ n) (hr : Rb w (some ⟨b, off + (n - 4), none⟩) q) :
    Calls Try.prog 18 #[.slice (some ⟨b, off, none⟩) n c] w fun e w' => e = .returned (.tuple #[.int .u32 (tk q : Int), .bool true]) ∧ w = w' := by
  unfold maxLen at hm
  have Hq := Lib.hid hq
  clear hq
  have hlt : ¬ (n : Int) < 4 := by omega
  go_enter Try.func18, Try.ntmps18
  go_wp2_with fail
  go_loop [4, 6, 16, 17, 18, 19, 20, 21, 22, 23, 24, 25] (fun s c k v1 v2 v3 v4 v5 v6 v7 v8 v9 => ∃ k' : Nat, k' ≤ 4 ∧ k = .int .i64 k' ∧ s = .int .u32 ((tk (q.take k') : Nat) : Int)) (fun s c k v1 v2 v3 v4 v5 v6 v7 v8 v9 => 4 - (intOf k).toNat)
  case atStart => exact ⟨0, by omega, rfl, rfl⟩
  case round =>
    obtain ⟨k, hk, rfl, rfl⟩ := hrel
    by_cases hlt : k < 4
    · have hkq : k < q.length := by have := Hq.out; omega
      obtain ⟨b', off', e, hcl⟩ := hr.at_ hkq
      simp only [Option.some.injEq, Addr.mk.injEq, and_true] at e
      obtain ⟨rfl, rfl⟩ := e
      have hsn : Hid (tk (q.take (k + 1)) = tk (q.take k) * 256 + q[k].toNat) := by show _ = _; rw [take_snoc q k hkq, tk_snoc]
      have hX : tk (q.take k) < 16777216 := by
        have h := tk_lt (q.take k)
        have h2 : (256 : Nat) ^ (q.take k).length ≤ 256 ^ 3 := Nat.pow_le_pow_right (by omega) (by rw [List.length_take]; omega)
        simp only [Nat.reducePow] at h2
        omega
      generalize tk (q.take k) = X at *
      generalize q[k] = ch at *
      have hch : (ch.toNat : Int) < 256 := by have := ch.toNat_lt; omega
      have hor := or_forms X hX ch
      go_wp2_with fail
      go_round
      case rel => exact ⟨k + 1, by omega, by go_num, by rw [hsn.out]; rfl⟩
      case measure => simp [intOf]; omega
    · have hk4 : 4 ≤ k := by omega
      go_wp2_with fail
      go_ret2
      exact ⟨by rw [List.take_of_length_le (by have := Hq.out; omega)]; rfl, rfl⟩

theorem of_any (A : Option Addr) (n c : Nat) (l : List UInt8) (w : World) (hn : l.length = n) (hm : n ≤ maxLen) (hc : n ≤ c) (hr : Rb w A l) (h4 : 4 ≤ n) :
    Calls Try.prog 18 #[.slice A n c] w fun e w' => e = .returned (.tuple #[.int .u32 (tk (l.drop (n - 4)) : Int), .bool true]) ∧ w = w' := by
  obtain ⟨b, off, rfl⟩ := hr.some_ (by omega)
  exact of_core b off n c _ w (by rw [List.length_drop]; omega) hm hc h4 (hr.drop (n - 4))
set_option maxHeartbeats 800000 in
theorem of_short (A : Option Addr) (n c : Nat) (w : World) (h4 : n < 4) :
    Calls Try.prog 18 #[.slice A n c] w fun e w' => e = .returned (.tuple #[.int .u32 0, .bool false]) ∧ w = w' := by
  have hlt : (n : Int) < 4 := by omega
  go_enter Try.func18, Try.ntmps18
  go_wp2_with fail
  go_ret2
  exact ⟨rfl, rfl⟩

theorem tk_put (q : List UInt8) (h : q.length = 4) : put (W32 (tk q : Int)) = q := by
  match q, h with
  | [a, b, c, d], _ =>
    have e : W32 (tk [a, b, c, d] : Int) = take a b c d := by
      apply BitVec.eq_of_toNat_eq
      have h1 := tk_lt [a, b, c, d]
      have h2 := toNat_W32 (x := (tk [a, b, c, d] : Int)) (by omega) (by simp at h1; omega)
      rw [take_toNat]
      have : (W32 (tk [a, b, c, d] : Int)).toNat = tk [a, b, c, d] := by omega
      rw [this]
      simp only [tk, List.foldl_cons, List.foldl_nil, Nat.reducePow]
      omega
    rw [e, put_take]
theorem tk_le (q : List UInt8) (h : q.length = 4) : (tk q : Int) ≤ 4294967295 := by
  have := tk_lt q
  rw [h] at this
  simp only [Nat.reducePow] at this
  omega

/-- do bytes end with their sum? -/
def goodB (l : List UInt8) : Bool := decide (4 ≤ l.length ∧ put (CrcP.bytes all1 (l.take (l.length - 4))) = l.drop (l.length - 4))
theorem goodB_short (l : List UInt8) (h : l.length < 4) : goodB l = false := by
  unfold goodB
  exact decide_eq_false (fun h' => by omega)
theorem goodB_sum (l : List UInt8) (n : Nat) (hn : l.length = n) (h : 4 ≤ n) : ((tk (l.drop (n - 4)) : Int) == ((CrcP.bytes all1 (l.take (n - 4))).toNat : Int)) = goodB l := by
  subst hn
  have hq : (l.drop (l.length - 4)).length = 4 := by rw [List.length_drop]; omega
  have hp := tk_put _ hq
  have hle := tk_le _ hq
  unfold goodB
  generalize l.drop (l.length - 4) = q at *
  generalize CrcP.bytes all1 (l.take (l.length - 4)) = S at *
  rw [Bool.eq_iff_iff, beq_iff_eq, decide_eq_true_iff]
  constructor
  · intro e
    refine ⟨h, ?_⟩
    rw [← hp, e, W32_toNat]
  · rintro ⟨_, e⟩
    have := put_inj (e.trans hp.symm)
    rw [this, toNat_W32 (by omega) hle]

set_option maxHeartbeats 400000 in
theorem Of_any (A : Option Addr) (n c : Nat) (l : List UInt8) (w : World) (hn : l.length = n) (hm : n ≤ maxLen) (hc : n ≤ c) (hr : Rb w A l) (h4 : 4 ≤ n) :
    Calls Try.prog 12 #[.slice A n c] w fun e w' => e = .returned (.tuple #[.int .u32 (tk (l.drop (n - 4)) : Int), .bool true]) ∧ w = w' := by
  have Hn := Lib.hid hn
  clear hn
  go_enter Try.func12, Try.ntmps12
  go_wp2_with fail
  refine (of_any _ _ _ l _ Hn.out hm hc hr h4).mono ?_
  rintro e w1 ⟨rfl, rfl⟩
  go_wp2_with fail
  go_ret2
  exact ⟨rfl, rfl⟩
set_option maxHeartbeats 400000 in
theorem Of_short (A : Option Addr) (n c : Nat) (w : World) (h4 : n < 4) :
    Calls Try.prog 12 #[.slice A n c] w fun e w' => e = .returned (.tuple #[.int .u32 0, .bool false]) ∧ w = w' := by
  go_enter Try.func12, Try.ntmps12
  go_wp2_with fail
  refine (of_short _ _ _ _ h4).mono ?_
  rintro e w1 ⟨rfl, rfl⟩
  go_wp2_with fail
  go_ret2
  exact ⟨rfl, rfl⟩

set_option maxHeartbeats 400000 in
theorem Good_any (A : Option Addr) (n c : Nat) (l : List UInt8) (w : World) (hn : l.length = n) (hm : n ≤ maxLen) (hc : n ≤ c) (hr : Rb w A l) :
    Calls Try.prog 13 #[.slice A n c] w fun e w' => e = .returned (.bool (goodB l)) ∧ Ext w w' := by
  by_cases h4 : 4 ≤ n
  · have Hb := Lib.hid (goodB_sum l n hn h4)
    have Hn := Lib.hid hn
    have Ht : Hid ((l.take (n - 4)).length = n - 4) := by show _ = _; rw [List.length_take]; omega
    clear hn
    have hml : n - 4 ≤ maxLen := by unfold maxLen at *; omega
    have hmx : n ≤ 9223372036854775807 := by unfold maxLen at hm; omega
    go_enter Try.func13, Try.ntmps13
    go_wp2_with fail
    refine (of_any _ _ _ l _ Hn.out hm hc hr h4).mono ?_
    rintro e w1 ⟨rfl, rfl⟩
    go_wp2_with fail
    refine (on_any _ (by omega) (by omega) _ _ _ (l.take (n - 4)) _ Ht.out hml (hr.take _)).mono ?_
    rintro e w2 ⟨rfl, hx⟩
    rw [show W32 4294967295 = all1 from rfl]
    have hb := Hb.out
    go_wp2_with fail
    go_ret
    exact ⟨rfl, hx⟩
  · have hb := goodB_short l (by omega)
    have h4' : n < 4 := by omega
    clear hn
    go_enter Try.func13, Try.ntmps13
    go_wp2_with fail
    refine (of_short _ _ _ _ h4').mono ?_
    rintro e w1 ⟨rfl, rfl⟩
    go_wp2_with fail
    go_ret
    exact ⟨by rw [hb]; rfl, Ext.refl _⟩
end Go.Proofs.Ytghfdeebpcjcpaa.CrcW
