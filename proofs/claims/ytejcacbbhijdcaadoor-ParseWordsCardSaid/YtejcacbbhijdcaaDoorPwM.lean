/- How arguments that come in read: bytes; and what bounds their sizes. -/
import Derived.Test.YtejcacbbhijdcaaDoorPwL
import Derived.SizedLaws
import Derived.ShutString
import Derived.ChangeOld
import Derived.SliceStrings
namespace Go.Proofs.YtejcacbbhijdcaaDoor.Args
open Go.ChangeShapes Go.WideShapes Go.ChangeAt Go.RowKit
open Go.ChangeMaps (open_string shut_string)
open Base
set_option linter.unusedVariables false

/-- a slice of bytes that came in -/
theorem bytes_arg {H : Type} {enc : TypeId × Value → H} {P : Program} {W : World} {base t e : Nat} (hu : P.underlying t = some (.slice e)) (he : P.underlying e = some (.int .u8)) (hc : P.cellsOf e = 1)
    {v : Value} {d : DataW H} {p : List MemPlace} (hv : Value.okWide P W .any base t v) (h : DataW.Trod enc P W 0 (fun _ => true) true t v d p) :
    ∃ A n c l, v = .slice A n c ∧ l.length = n ∧ Rb W A l ∧ n ≤ c ∧ c ≤ maxLen ∧ (A = none → c = 0) ∧ ((d = .nil ∧ n = 0) ∨ ∃ el sp, d = .slice el sp ∧ el.length = n ∧ sp.length = c - n) := by
  obtain ⟨A, n, c, rfl⟩ := okWide_slice hu hv
  obtain ⟨fuel, hf⟩ := h
  rcases open_ints hu he hc hf with ⟨hcs, hx⟩ | ⟨x, l, c', zs, hcs, _, hl, hm, hz, hx, hcell, hwz⟩
  · simp [Value.cells] at hcs
    obtain ⟨rfl, rfl, rfl⟩ := hcs
    exact ⟨none, 0, 0, [], rfl, rfl, Rd.nil _ _, Nat.le_refl _, Nat.zero_le _, fun _ => rfl, .inl ⟨by simpa using congrArg Prod.fst hx, rfl⟩⟩
  · simp [Value.cells] at hcs
    obtain ⟨rfl, rfl, rfl⟩ := hcs
    simp at hz
    have hd := congrArg Prod.fst hx
    simp only at hd
    have hb : ∀ z ∈ zs, 0 ≤ z ∧ z ≤ 255 := fun z hz => by simpa [Lit.wf, IntKind.min, IntKind.max, IntKind.signed, IntKind.bits] using hwz z hz
    refine ⟨some x, n, c, (zs.take n).map fun z => UInt8.ofNat z.toNat, rfl, by simp; omega, ?_, hl, hm, (fun e => by cases e), .inr ⟨_, _, hd, by simp [lits]; omega, by simp [lits]; omega⟩⟩
    intro hne
    have hpos : 0 < n := by
      rcases Nat.eq_zero_or_pos n with h | h
      · subst h; simp [u8s] at hne
      · exact h
    obtain ⟨b, off, rfl, hc'⟩ := ints_at hcell (by omega)
    refine ⟨b, off, rfl, fun j u hj => ?_⟩
    have hjl : j < n := by
      rcases Nat.lt_or_ge j n with h | h
      · exact h
      · rw [List.getElem?_eq_none (by simp [u8s]; omega)] at hj; cases hj
    have h1 := hc' j (by omega)
    rw [h1]
    have h2 : zs[j]? = some zs[j] := List.getElem?_eq_getElem (by omega)
    have h3 := hb zs[j] (List.getElem_mem _)
    simp only [u8s, List.getElem?_map, List.getElem?_take, hjl, if_true, h2, Option.map_some, Option.some.injEq] at hj
    rw [← hj]
    simp only [List.getD, h2, Option.getD_some, UInt8.toNat_ofNat']
    congr 1
    congr 1
    omega

/-- the reach: a slice's places of one byte -/
theorem bytes_reach {H : Type} {P : Program} {ts : List TypeId} {ds : List (DataW H)} (h : (DataW.weightsEach P ts ds).all (· ≤ reachBytes) = true) {j t e : Nat} {d : DataW H} {n c : Nat}
    (ht : ts[j]? = some t) (hd : ds[j]? = some d) (hu : P.underlying t = some (.slice e)) (hb : P.bytesOf e = 1) (hw : (d = .nil ∧ n = 0) ∨ ∃ el sp, d = .slice el sp ∧ el.length = n ∧ sp.length = c - n) : n ≤ 140737488351232 := by
  rcases hw with ⟨_, rfl⟩ | ⟨el, sp, rfl, h1, h2⟩
  · omega
  · have := sized_slice h ht hd hu
    rw [hb] at this
    simp only [reachBytes] at this
    omega

/-- the reach: a string's letters -/
theorem string_reach {H : Type} {P : Program} {ts : List TypeId} {ds : List (DataW H)} (h : (DataW.weightsEach P ts ds).all (· ≤ reachBytes) = true) {j t : Nat} {s : ByteArray}
    (ht : ts[j]? = some t) (hd : ds[j]? = some (.lit (.string s.data.toList))) : s.size ≤ 140737488351232 := by
  have := sized_string h ht hd
  simp only [reachBytes] at this
  have e : s.data.toList.length = s.size := Array.length_toList
  omega

/-- the bound of the second form -/
theorem bulk_le {H : Type} {l : List (DataW H)} (hk : Rows.uptoSmall H l = true) : Rows.uptoBulkAll l ≤ 1048576 := of_decide_eq_true hk
theorem bulk_one {H : Type} (d : DataW H) : 1 ≤ Rows.uptoBulk d := by
  cases d with
  | lit l => cases l <;> simp [Rows.uptoBulk]
  | nil => simp [Rows.uptoBulk]
  | ptr d => simp [Rows.uptoBulk]
  | slice elems spare => simp [Rows.uptoBulk]
  | agg parts => simp [Rows.uptoBulk]
  | iface t d => simp [Rows.uptoBulk]
  | map entries => simp [Rows.uptoBulk]
  | held h => simp [Rows.uptoBulk]
theorem bulk_at {H : Type} {l : List (DataW H)} {b : Nat} (h : Rows.uptoBulkAll l ≤ b) {j : Nat} {d : DataW H} (hd : l[j]? = some d) : Rows.uptoBulk d ≤ b := by
  induction l generalizing j b with
  | nil => simp at hd
  | cons x r ih =>
    simp only [Rows.uptoBulkAll] at h
    cases j with
    | zero => simp only [List.getElem?_cons_zero, Option.some.injEq] at hd; subst hd; omega
    | succ j => simp only [List.getElem?_cons_succ] at hd; have := ih (b := b - Rows.uptoBulk x) (by omega) hd; omega
theorem bulk_length {H : Type} (l : List (DataW H)) : l.length ≤ Rows.uptoBulkAll l := by
  induction l with
  | nil => simp [Rows.uptoBulkAll]
  | cons x r ih => have := bulk_one x; simp only [Rows.uptoBulkAll, List.length_cons]; omega
theorem bytes_bulk {H : Type} {ds : List (DataW H)} {b : Nat} (h : Rows.uptoBulkAll ds ≤ b) {j : Nat} {d : DataW H} {n c : Nat} (hd : ds[j]? = some d)
    (hw : (d = .nil ∧ n = 0) ∨ ∃ el sp, d = .slice el sp ∧ el.length = n ∧ sp.length = c - n) : n ≤ b := by
  have h1 := bulk_at h hd
  rcases hw with ⟨_, rfl⟩ | ⟨el, sp, rfl, h2, h3⟩
  · omega
  · have := bulk_length el
    simp only [Rows.uptoBulk] at h1
    omega
theorem string_bulk {H : Type} {ds : List (DataW H)} {b : Nat} (h : Rows.uptoBulkAll ds ≤ b) {j : Nat} {s : ByteArray} (hd : ds[j]? = some (.lit (.string s.data.toList))) : s.size ≤ b := by
  have h1 := bulk_at h hd
  simp only [Rows.uptoBulk] at h1
  have e : s.data.toList.length = s.size := Array.length_toList
  omega

theorem plain_addr {w : World} {a : Addr} {v : Value} (h : w.cell? a = some v) : a = ⟨a.block, a.off, none⟩ := by
  unfold World.cell? at h
  cases hs : a.spot with
  | none => cases a; simp at hs; subst hs; rfl
  | some k => simp [hs] at h; split at h <;> simp at h
theorem Addr.add_zero' (a : Addr) : a.add 0 = a := by simp [Addr.add]

/-- a slice of texts that came in -/
theorem strs_arg {H : Type} {enc : TypeId × Value → H} {P : Program} {W : World} {base t e : Nat} (hu : P.underlying t = some (.slice e)) (he : P.underlying e = some .string) (hc : P.cellsOf e = 1)
    {v : Value} {d : DataW H} {p : List MemPlace} (hv : Value.okWide P W .any base t v) (h : DataW.Trod enc P W 0 (fun _ => true) true t v d p) :
    ∃ A n c l, v = .slice A n c ∧ l.length = n ∧ Rd W A (txs l) ∧ n ≤ c ∧ c ≤ maxLen ∧ (A = none → c = 0) ∧ (∀ s ∈ l, s.size ≤ maxLen) ∧ ((d = .nil ∧ n = 0) ∨ ∃ sp, d = .slice (l.map fun s => .lit (.string s.data.toList)) sp ∧ sp.length = c - n) := by
  obtain ⟨A, n, c, rfl⟩ := okWide_slice hu hv
  obtain ⟨fuel, hf⟩ := h
  rcases open_strings hu he hc hf with ⟨hcs, hx⟩ | ⟨x, l, c', ss, hcs, _, hl, hm, hz, hx, hcell, hws⟩
  · simp [Value.cells] at hcs
    obtain ⟨rfl, rfl, rfl⟩ := hcs
    exact ⟨none, 0, 0, [], rfl, rfl, Rd.nil _ _, Nat.le_refl _, Nat.zero_le _, fun _ => rfl, by simp, .inl ⟨by simpa using congrArg Prod.fst hx, rfl⟩⟩
  · simp [Value.cells] at hcs
    obtain ⟨rfl, rfl, rfl⟩ := hcs
    simp at hz
    have hd := congrArg Prod.fst hx
    simp only at hd
    refine ⟨some x, n, c, ss.take n, rfl, by simp; omega, ?_, hl, hm, (fun e => by cases e), (fun s hs => hws s (List.mem_of_mem_take hs)), .inr ⟨_, by rw [hd]; rfl, by rw [← hz]; simp [ChangeShapes.strs]⟩⟩
    intro hne
    have hpos : 0 < ss.length := by
      rcases Nat.eq_zero_or_pos ss.length with h | h
      · have : ss = [] := List.eq_nil_of_length_eq_zero h
        subst this; simp [txs] at hne
      · exact h
    obtain ⟨b, o, sp⟩ := x
    have hx0 := plain_addr (hcell 0 hpos)
    rw [Addr.add_zero'] at hx0
    simp only [Addr.mk.injEq, true_and] at hx0
    subst hx0
    refine ⟨b, o, rfl, fun j u hj => ?_⟩
    have hjl : j < n ∧ j < ss.length := by
      have := (List.getElem?_eq_some_iff.1 hj).1
      simp [txs] at this
      omega
    have h1 := hcell j hjl.2
    have h2 : (⟨b, o, none⟩ : Addr).add j = ⟨b, o + j, none⟩ := by
      unfold Addr.add; split <;> simp_all
    rw [← h2, h1]
    simp only [txs, List.getElem?_map, List.getElem?_take, hjl.1, if_true, List.getElem?_eq_getElem hjl.2, Option.map_some, Option.some.injEq] at hj
    rw [← hj]
    simp [List.getD, List.getElem?_eq_getElem hjl.2]

/-- two words by value -/
theorem arr2_arg {H : Type} {enc : TypeId × Value → H} {P : Program} {W : World} {base t e : Nat} (hu : P.underlying t = some (.array 2 e)) (he : P.underlying e = some (.int .u32)) (hc : P.cellsOf e = 1) (hc2 : P.cellsOf t = 2)
    {v : Value} {d : DataW H} {p : List MemPlace} (hv : Value.okWide P W .any base t v) (h : DataW.Trod enc P W 0 (fun _ => true) true t v d p) :
    ∃ x y, v = .agg #[.int .u32 x, .int .u32 y] ∧ (0 ≤ x ∧ x ≤ 4294967295) ∧ (0 ≤ y ∧ y ≤ 4294967295) := by
  obtain ⟨cs, rfl, hsz, _⟩ : ∃ cs, v = .agg cs ∧ cs.size = P.cellsOf t ∧ True := by
    unfold Value.okWide at hv
    rw [hu] at hv
    obtain ⟨cs, h1, h2, _⟩ := hv
    exact ⟨cs, h1, h2, trivial⟩
  obtain ⟨c0, c1, rfl⟩ : ∃ c0 c1, cs = #[c0, c1] := by
    rw [hc2] at hsz
    match cs, hsz with
    | ⟨[a, b]⟩, _ => exact ⟨a, b, rfl⟩
  obtain ⟨fuel, hf⟩ := h
  obtain ⟨xs, m, _, _, _, hxl, hx⟩ := DataW.trod_array hu hf
  have h0 := hx 0 (by omega)
  have h1 := hx 1 (by omega)
  rw [hc] at h0 h1
  simp only [Value.cells, Nat.zero_mul, Nat.one_mul, List.drop_zero, List.drop_succ_cons, List.take_succ_cons, List.take_zero] at h0 h1
  match xs, hxl with
  | [y0, y1], _ =>
    obtain ⟨a, e0, _, wa⟩ := DataW.trod_int he h0
    obtain ⟨b, e1, _, wb⟩ := DataW.trod_int he h1
    simp only [List.cons.injEq, and_true] at e0 e1
    subst e0 e1
    exact ⟨a, b, rfl, by simpa [Lit.wf, IntKind.min, IntKind.max, IntKind.signed, IntKind.bits] using wa, by simpa [Lit.wf, IntKind.min, IntKind.max, IntKind.signed, IntKind.bits] using wb⟩

end Go.Proofs.YtejcacbbhijdcaaDoor.Args
