/- ids: the reference's table: what it is in memory; New, Of, Text, Map, Make. -/
import Derived.Test.YtalbjbcomamomaaIdsLaws
import Derived.Test.YtalbjbcomamomaaRegS
namespace Go.Proofs.Ytalbjbcomamomaa.IdsW
open Go.ChangeShapes Go.WideShapes Go.ChangeAt Go.RowKit
open Base Mp
set_option linter.unusedVariables false
set_option linter.unusedSimpArgs false

structure Rt (B : Nat) (w : World) (r lim : Nat) (ts : List ByteArray) (bs : List (Nat × Nat)) (vl vb : Value) : Prop where
  blk : Blk w r #[.int .u64 (lim : Int), vl, vb] 51
  texts : w.ownsRow B 9 1 vl ts.length (txs ts)
  bound : w.ownsRow B 43 2 vb bs.length (bnds bs)
  hr : B ≤ r

section
variable {B : Nat} {w w' : World} {r lim : Nat} {ts : List ByteArray} {bs : List (Nat × Nat)} {vl vb : Value}
theorem Rt.ext (h : Rt B w r lim ts bs vl vb) (hx : Ext w w') : Rt B w' r lim ts bs vl vb := ⟨h.blk.ext hx, own_ext h.texts hx, own_ext h.bound hx, h.hr⟩
theorem Rt.chg {S : Nat → Prop} (h : Rt B w r lim ts bs vl vb) (hx : Chg S w w') (h1 : ¬ S r) (h3 : ∀ k, vl.ownBlock = some k → ¬ S k) (h4 : ∀ k, vb.ownBlock = some k → ¬ S k) : Rt B w' r lim ts bs vl vb :=
  ⟨hx.blk h.blk h1, own_chg h.texts hx h3, own_chg h.bound hx h4, h.hr⟩
theorem Rt.cells (h : Rt B w r lim ts bs vl vb) : w.cell? ⟨r, 0, none⟩ = some (.int .u64 (lim : Int)) ∧ w.cell? ⟨r, 1, none⟩ = some vl ∧ w.cell? ⟨r, 2, none⟩ = some vb := ⟨h.blk.cell 0, h.blk.cell 1, h.blk.cell 2⟩
theorem Rt.vl_eq (h : Rt B w r lim ts bs vl vb) : ∃ A c, vl = .slice A ts.length c ∧ Rd w A (txs ts) ∧ ts.length ≤ c ∧ c ≤ maxLen := by
  obtain ⟨A, c, e, h1, h2, h3, _⟩ := Rd.of_own h.texts
  exact ⟨A, c, e, h3, h1, h2⟩
theorem Rt.vb_eq (h : Rt B w r lim ts bs vl vb) : ∃ A c, vb = .slice A bs.length c ∧ Rd w A (bnds bs) ∧ bs.length ≤ c ∧ c ≤ maxLen := by
  obtain ⟨A, c, e, h1, h2, h3, _⟩ := Rd.of_own h.bound
  exact ⟨A, c, e, h3, h1, h2⟩
end

theorem RNew_any (lim : Int) (h0 : 0 ≤ lim) (B : Nat) (w : World) (hB : B ≤ w.heap.size) :
    Calls Try.prog 14 #[.int .u64 lim] w fun e w' => ∃ r, e = .returned (.pointer (some ⟨r, 0, none⟩)) ∧ Rt B w' r (min lim.toNat 2147483647) [] [] (.slice none 0 0) (.slice none 0 0) ∧ Ext w w' := by
  obtain ⟨n, rfl⟩ := Int.eq_ofNat_of_zero_le h0
  have hb : ∀ k : Nat, Blk (w.alloc (.cells #[.int .u64 (k : Int), .slice none 0 0, .slice none 0 0] 51)) w.heap.size #[.int .u64 (k : Int), .slice none 0 0, .slice none 0 0] 51 := fun k => Blk.new w _ _
  go_enter Try.func14, Try.ntmps14
  by_cases h1 : n ≤ 2147483647
  · have h1' : ¬ (2147483647 : Int) < (n : Int) := by omega
    have e1 : min ((n : Int)).toNat 2147483647 = n := by omega
    rw [e1]
    go_wp2_with fail
    go_ret
    exact ⟨_, rfl, ⟨hb n, World.ownsRow_nil _ _ _ _, World.ownsRow_nil _ _ _ _, hB⟩, (Ext.refl w).alloc _⟩
  · have h1' : (2147483647 : Int) < (n : Int) := by omega
    have e1 : min ((n : Int)).toNat 2147483647 = 2147483647 := by omega
    rw [e1]
    go_wp2_with fail
    go_ret
    exact ⟨_, rfl, ⟨hb 2147483647, World.ownsRow_nil _ _ _ _, World.ownsRow_nil _ _ _ _, hB⟩, (Ext.refl w).alloc _⟩

theorem idOf_get {ts : List ByteArray} {s : ByteArray} {k : Nat} (h : idOf ts s = some k) : ts[k - 1]? = some s := by
  induction ts generalizing k with
  | nil => simp [idOf] at h
  | cons x r ih =>
    unfold idOf at h
    by_cases hx : x = s
    · simp [hx] at h; subst h; simp [hx]
    · rw [if_neg hx] at h
      obtain ⟨j, hj, rfl⟩ := Option.map_eq_some_iff.1 h
      obtain ⟨j', rfl⟩ : ∃ j', j = j' + 1 := ⟨j - 1, by have := idOf_some hj; omega⟩
      have := ih hj
      simpa using this

theorem str_ne {x s : ByteArray} (h : x ≠ s) : (x.toList == s.toList) = false := by
  rw [ByteArray.toList_eq, ByteArray.toList_eq]
  simp only [beq_eq_false_iff_ne]
  intro e
  apply h
  cases x; cases s; congr 1; exact Array.toList_inj.1 e
set_option maxHeartbeats 800000 in
theorem ROf_any {B : Nat} {r lim : Nat} {ts : List ByteArray} {bs : List (Nat × Nat)} {vl vb : Value} (s : ByteArray) (w : World) (h : Rt B w r lim ts bs vl vb) (hnd : ts.Nodup) (hl : ts.length ≤ 1000) :
    Calls Try.prog 26 #[.pointer (some ⟨r, 0, none⟩), .string s] w fun e w' => e = .returned (.tuple #[.int .u64 (((idOf ts s).getD 0 : Nat) : Int), .bool (idOf ts s).isSome]) ∧ w = w' := by
  obtain ⟨A, c, rfl, hr, _⟩ := h.vl_eq
  obtain ⟨h0, h1, h2⟩ := h.cells
  obtain ⟨n, hn⟩ : ∃ n, Hid (ts.length = n) := ⟨_, rfl⟩
  obtain ⟨R, hR⟩ : ∃ R, Hid (idOf ts s = R) := ⟨_, rfl⟩
  rw [hn.out] at h1 hl
  rw [hR.out]
  go_enter Try.func26, Try.ntmps26
  go_wp2_with fail
  go_loopw [6, 7, 8, 9, 10, 11, 12, 13, 14, 15, 16, 17, 18, 19, 20, 21, 22, 23, 24]
    (fun i v1 v2 v3 v4 v5 v6 v7 v8 v9 v10 v11 v12 v13 v14 v15 v16 v17 v18 wr => ∃ k : Nat, k ≤ n ∧ i = .int .i64 k ∧ (∀ j : Nat, j < k → ts[j]? ≠ some s) ∧ w = wr)
    (fun i v1 v2 v3 v4 v5 v6 v7 v8 v9 v10 v11 v12 v13 v14 v15 v16 v17 v18 wr => n - (intOf i).toNat)
  case atStart => exact ⟨0, Nat.zero_le _, rfl, fun j hj => by omega, rfl⟩
  case round =>
    obtain ⟨k, hk, rfl, hno, rfl⟩ := hrel
    by_cases hlt : k < n
    · obtain ⟨x, hxe⟩ : ∃ x, ts[k]? = some x := ⟨_, List.getElem?_eq_getElem (by have := hn.out; omega)⟩
      obtain ⟨b, off, rfl, hz, hc⟩ := hr.at_ (k := k) (by rw [txs_length]; have := hn.out; omega)
      clear hz
      have hck : w.cell? ⟨b, off + k, none⟩ = some (.string x) := hc k _ (by simp [txs, hxe])
      clear hc
      have hkn : (k : Int) < (n : Int) := by omega
      have hcw : IntKind.i64.wrap ((k : Int) + 1) = (k : Int) + 1 := by rw [IntKind.wrap_i64]; omega
      have hcu : IntKind.u64.wrap ((k : Int) + 1) = (k : Int) + 1 := by rw [IntKind.wrap_u64]; omega
      by_cases hxs : x = s
      · subst hxs
        have hio := idOf_at hnd hxe
        rw [hR.out] at hio
        subst hio
        go_wp2_with fail
        go_ret2
        exact ⟨by simp, rfl⟩
      · have hbq := str_ne hxs
        go_wp2_with fail
        go_roundw
        case rel => exact ⟨k + 1, by omega, by go_num, fun j hj => (by
          rcases Nat.lt_or_ge j k with h | h
          · exact hno j h
          · obtain rfl : j = k := by omega
            rw [hxe]; intro e; injection e with e; exact hxs e), by first | rfl | trivial⟩
        case measure => simp [intOf]; omega
    · have hkn : ¬ (k : Int) < (n : Int) := by omega
      have hio : R = none := by
        cases hq : R with
        | none => rfl
        | some j =>
          have h3 := hR.out
          rw [hq] at h3
          have h4 := idOf_get h3
          have h5 := idOf_some h3
          exact absurd h4 (hno (j - 1) (by have := hn.out; omega))
      subst hio
      go_wp2_with fail
      go_ret2
      exact ⟨rfl, rfl⟩

theorem RText_any {B : Nat} {r lim : Nat} {ts : List ByteArray} {bs : List (Nat × Nat)} {vl vb : Value} (k : Nat) (w : World) (h : Rt B w r lim ts bs vl vb) (hl : ts.length ≤ 1000) (hk : k ≤ 18446744073709551615) :
    Calls Try.prog 27 #[.pointer (some ⟨r, 0, none⟩), .int .u64 (k : Int)] w fun e w' => e = .returned (.tuple #[.string (textOf ts k), .bool (textIs ts k)]) ∧ w = w' := by
  obtain ⟨A, c, rfl, hr, _⟩ := h.vl_eq
  obtain ⟨h0, h1, h2⟩ := h.cells
  obtain ⟨n, hn⟩ : ∃ n, Hid (ts.length = n) := ⟨_, rfl⟩
  rw [hn.out] at h1 hl
  have hcu : IntKind.u64.wrap (n : Int) = (n : Int) := by rw [IntKind.wrap_u64]; omega
  go_enter Try.func27, Try.ntmps27
  by_cases hin : 1 ≤ k ∧ k ≤ n
  · obtain ⟨j, hj⟩ : ∃ j, Hid (k = j + 1) := ⟨k - 1, by show _ = _; omega⟩
    obtain ⟨x, hxe⟩ : ∃ x, ts[j]? = some x := ⟨_, List.getElem?_eq_getElem (by have := hn.out; have := hj.out; omega)⟩
    obtain ⟨b, off, rfl, hz, hc⟩ := hr.at_ (k := j) (by rw [txs_length]; have := hn.out; have := hj.out; omega)
    clear hz
    have hck : w.cell? ⟨b, off + j, none⟩ = some (.string x) := hc j _ (by simp [txs, hxe])
    clear hc
    obtain ⟨t1, t2⟩ := textOf_in hxe
    rw [← hj.out] at t1 t2
    rw [t1, t2]
    clear t1 t2
    have hjo := hj.out
    have k1 : ¬ (k : Int) < 1 := by omega
    have k2 : ¬ (n : Int) < (k : Int) := by omega
    have kw : IntKind.u64.wrap ((k : Int) - 1) = (j : Int) := by rw [IntKind.wrap_u64]; omega
    have kn : (j : Int) < (n : Int) := by omega
    have kt : ((j : Int)).toNat = j := by omega
    clear hjo
    go_wp2_with fail
    go_ret2
    exact ⟨rfl, rfl⟩
  · obtain ⟨t1, t2⟩ := textOf_out (ts := ts) (k := k) (by have := hn.out; omega)
    rw [t1, t2]
    by_cases hk0 : k = 0
    · subst hk0
      go_wp2_with fail
      go_ret2
      exact ⟨rfl, rfl⟩
    · have k1 : ¬ (k : Int) < 1 := by omega
      have k2 : (n : Int) < (k : Int) := by omega
      go_wp2_with fail
      go_ret2
      exact ⟨rfl, rfl⟩

theorem mapOf_at {bs : List (Nat × Nat)} {f k : Nat} {x : Nat × Nat} (hr : bs.Pairwise fun a b => a.1 < b.1) (hx : bs[k]? = some x) (hf : x.1 = f) : mapOf bs f = some x.2 := by
  obtain ⟨hk, rfl⟩ := List.getElem?_eq_some_iff.1 hx
  have hp : pos bs f = k := pos_of bs f k (by omega) (fun j hj h => by have := (rise_iff bs).2 hr j k hj hk h; omega) (fun j hj h => by
    rcases Nat.lt_or_ge k j with h2 | h2
    · have := (rise_iff bs).2 hr k j hk hj h2; omega
    · obtain rfl : j = k := by omega
      omega)
  unfold mapOf there
  rw [hp, List.getElem?_eq_getElem hk]
  simp [hf]
theorem mapOf_no {bs : List (Nat × Nat)} {f : Nat} (h : ∀ (j : Nat) x, bs[j]? = some x → x.1 ≠ f) : mapOf bs f = none := by
  unfold mapOf there
  cases hq : bs[pos bs f]? with
  | none => simp
  | some x => simp [h _ x hq]

set_option maxHeartbeats 800000 in
theorem RMap_any {B : Nat} {r lim : Nat} {ts : List ByteArray} {bs : List (Nat × Nat)} {vl vb : Value} (f : Nat) (w : World) (h : Rt B w r lim ts bs vl vb) (hri : bs.Pairwise fun a b => a.1 < b.1) (hl : bs.length ≤ 1000) :
    Calls Try.prog 29 #[.pointer (some ⟨r, 0, none⟩), .int .u64 (f : Int)] w fun e w' => e = .returned (.tuple #[.int .u64 (((mapOf bs f).getD 0 : Nat) : Int), .bool (mapOf bs f).isSome]) ∧ w = w' := by
  obtain ⟨A, c, rfl, hr, _⟩ := h.vb_eq
  obtain ⟨h0, h1, h2⟩ := h.cells
  obtain ⟨n, hn⟩ : ∃ n, Hid (bs.length = n) := ⟨_, rfl⟩
  obtain ⟨R, hR⟩ : ∃ R, Hid (mapOf bs f = R) := ⟨_, rfl⟩
  rw [hn.out] at h2 hl
  rw [hR.out]
  go_enter Try.func29, Try.ntmps29
  go_wp2_with fail
  go_loopw [6, 7, 8, 9, 10, 11, 12, 13, 14, 15, 16, 17, 18, 19, 20, 21, 22, 23, 24, 25]
    (fun i v1 v2 v3 v4 v5 v6 v7 v8 v9 v10 v11 v12 v13 v14 v15 v16 v17 v18 v19 wr => ∃ k : Nat, k ≤ n ∧ i = .int .i64 k ∧ (∀ (j : Nat) x, j < k → bs[j]? = some x → x.1 ≠ f) ∧ w = wr)
    (fun i v1 v2 v3 v4 v5 v6 v7 v8 v9 v10 v11 v12 v13 v14 v15 v16 v17 v18 v19 wr => n - (intOf i).toNat)
  case atStart => exact ⟨0, Nat.zero_le _, rfl, fun j x hj => by omega, rfl⟩
  case round =>
    obtain ⟨k, hk, rfl, hno, rfl⟩ := hrel
    by_cases hlt : k < n
    · obtain ⟨x, hxe⟩ : ∃ x, bs[k]? = some x := ⟨_, List.getElem?_eq_getElem (by have := hn.out; omega)⟩
      obtain ⟨b, off, rfl⟩ := bnds_some hr (by have := hn.out; omega)
      obtain ⟨c1, c2⟩ := bnds_cell hr k x hxe
      have hkn : (k : Int) < (n : Int) := by omega
      by_cases hxs : x.1 = f
      · have hio := mapOf_at hri hxe hxs
        rw [hR.out] at hio
        subst hio
        rw [hxs] at c1
        go_wp2_with fail
        go_ret2
        exact ⟨by simp, rfl⟩
      · have hne : ((x.1 : Int) == (f : Int)) = false := by simpa using (fun e : (x.1 : Int) = f => hxs (by omega))
        go_wp2_with fail
        go_roundw
        case rel => exact ⟨k + 1, by omega, by go_num, fun j y hj hy => (by
          rcases Nat.lt_or_ge j k with h | h
          · exact hno j y h hy
          · obtain rfl : j = k := by omega
            rw [hxe] at hy; injection hy with hy; subst hy; exact hxs), by first | rfl | trivial⟩
        case measure => simp [intOf]; omega
    · have hkn : ¬ (k : Int) < (n : Int) := by omega
      have hio : R = none := by
        rw [← hR.out]
        exact mapOf_no fun j x hx => hno j x (by have := (List.getElem?_eq_some_iff.1 hx).1; have := hn.out; omega) hx
      subst hio
      go_wp2_with fail
      go_ret2
      exact ⟨rfl, rfl⟩
end Go.Proofs.Ytalbjbcomamomaa.IdsW
