/- How arguments that come in read: bytes; and what bounds their sizes. -/
import Derived.Test.YtbpfabhlngfciaaDoorCcN
import Derived.SizedLaws
import Derived.ShutString
import Derived.ChangeOld
import Derived.SliceStrings
import Derived.Deep.Slices
import Derived.OpenShut
namespace Go.Proofs.YtbpfabhlngfciaaDoor.Args
open Go.ChangeShapes Go.WideShapes Go.ChangeAt Go.RowKit
open Go.ChangeMaps (open_string shut_string)
open Base
set_option linter.unusedVariables false

/-- a slice of bytes that came in -/
theorem bytes_arg {H : Type} {enc : TypeId × Value → H} {P : Program} {W : World} {base t e : Nat} (hu : P.underlying t = some (.slice e)) (he : P.underlying e = some (.int .u8)) (hc : P.cellsOf e = 1)
    {v : Value} {d : DataW H} {p : List MemPlace} (hv : Value.okWide P W .any base t v) (h : DataW.Trod enc P W 0 (fun _ => true) true t v d p) :
    ∃ A n c l, v = .slice A n c ∧ l.length = n ∧ Rb W A l ∧ n ≤ c ∧ c ≤ maxLen ∧ (A = none → c = 0) ∧ ((d = .nil ∧ n = 0) ∨ ∃ el sp, d = .slice el sp ∧ el.length = n ∧ sp.length = c - n) := by
  obtain ⟨A, n, c, rfl⟩ := okWide_slice hu hv
  obtain ⟨fuel, hf⟩ := h
  rcases open_ints hu he hc hf with ⟨hcs, hx⟩ | ⟨x, l, c', zs, hcs, _, hl, hm, hz, hx, hcell, hwz⟩
  · simp [Value.cells] at hcs
    obtain ⟨rfl, rfl, rfl⟩ := hcs
    exact ⟨none, 0, 0, [], rfl, rfl, Rd.nil _ _, Nat.le_refl _, Nat.zero_le _, fun _ => rfl, .inl ⟨by simpa using congrArg Prod.fst hx, rfl⟩⟩
  · simp [Value.cells] at hcs
    obtain ⟨rfl, rfl, rfl⟩ := hcs
    simp at hz
    have hd := congrArg Prod.fst hx
    simp only at hd
    have hb : ∀ z ∈ zs, 0 ≤ z ∧ z ≤ 255 := fun z hz => by simpa [Lit.wf, IntKind.min, IntKind.max, IntKind.signed, IntKind.bits] using hwz z hz
    refine ⟨some x, n, c, (zs.take n).map fun z => UInt8.ofNat z.toNat, rfl, by simp; omega, ?_, hl, hm, (fun e => by cases e), .inr ⟨_, _, hd, by simp [lits]; omega, by simp [lits]; omega⟩⟩
    intro hne
    have hpos : 0 < n := by
      rcases Nat.eq_zero_or_pos n with h | h
      · subst h; simp [u8s] at hne
      · exact h
    obtain ⟨b, off, rfl, hc'⟩ := ints_at hcell (by omega)
    refine ⟨b, off, rfl, fun j u hj => ?_⟩
    have hjl : j < n := by
      rcases Nat.lt_or_ge j n with h | h
      · exact h
      · rw [List.getElem?_eq_none (by simp [u8s]; omega)] at hj; cases hj
    have h1 := hc' j (by omega)
    rw [h1]
    have h2 : zs[j]? = some zs[j] := List.getElem?_eq_getElem (by omega)
    have h3 := hb zs[j] (List.getElem_mem _)
    simp only [u8s, List.getElem?_map, List.getElem?_take, hjl, if_true, h2, Option.map_some, Option.some.injEq] at hj
    rw [← hj]
    simp only [List.getD, h2, Option.getD_some, UInt8.toNat_ofNat']
    congr 1
    congr 1
    omega

/-- the reach: a slice's places of one byte -/
theorem bytes_reach {H : Type} {P : Program} {ts : List TypeId} {ds : List (DataW H)} (h : (DataW.weightsEach P ts ds).all (· ≤ reachBytes) = true) {j t e : Nat} {d : DataW H} {n c : Nat}
    (ht : ts[j]? = some t) (hd : ds[j]? = some d) (hu : P.underlying t = some (.slice e)) (hb : P.bytesOf e = 1) (hw : (d = .nil ∧ n = 0) ∨ ∃ el sp, d = .slice el sp ∧ el.length = n ∧ sp.length = c - n) : n ≤ 140737488351232 := by
  rcases hw with ⟨_, rfl⟩ | ⟨el, sp, rfl, h1, h2⟩
  · omega
  · have := sized_slice h ht hd hu
    rw [hb] at this
    simp only [reachBytes] at this
    omega

/-- the reach: a string's letters -/
theorem string_reach {H : Type} {P : Program} {ts : List TypeId} {ds : List (DataW H)} (h : (DataW.weightsEach P ts ds).all (· ≤ reachBytes) = true) {j t : Nat} {s : ByteArray}
    (ht : ts[j]? = some t) (hd : ds[j]? = some (.lit (.string s.data.toList))) : s.size ≤ 140737488351232 := by
  have := sized_string h ht hd
  simp only [reachBytes] at this
  have e : s.data.toList.length = s.size := Array.length_toList
  omega

/-- the bound of the second form -/
theorem bulk_le {H : Type} {l : List (DataW H)} (hk : Rows.uptoSmall H l = true) : Rows.uptoBulkAll l ≤ 1048576 := of_decide_eq_true hk
theorem bulk_one {H : Type} (d : DataW H) : 1 ≤ Rows.uptoBulk d := by
  cases d with
  | lit l => cases l <;> simp [Rows.uptoBulk]
  | nil => simp [Rows.uptoBulk]
  | ptr d => simp [Rows.uptoBulk]
  | slice elems spare => simp [Rows.uptoBulk]
  | agg parts => simp [Rows.uptoBulk]
  | iface t d => simp [Rows.uptoBulk]
  | map entries => simp [Rows.uptoBulk]
  | held h => simp [Rows.uptoBulk]
theorem bulk_at {H : Type} {l : List (DataW H)} {b : Nat} (h : Rows.uptoBulkAll l ≤ b) {j : Nat} {d : DataW H} (hd : l[j]? = some d) : Rows.uptoBulk d ≤ b := by
  induction l generalizing j b with
  | nil => simp at hd
  | cons x r ih =>
    simp only [Rows.uptoBulkAll] at h
    cases j with
    | zero => simp only [List.getElem?_cons_zero, Option.some.injEq] at hd; subst hd; omega
    | succ j => simp only [List.getElem?_cons_succ] at hd; have := ih (b := b - Rows.uptoBulk x) (by omega) hd; omega
theorem bulk_length {H : Type} (l : List (DataW H)) : l.length ≤ Rows.uptoBulkAll l := by
  induction l with
  | nil => simp [Rows.uptoBulkAll]
  | cons x r ih => have := bulk_one x; simp only [Rows.uptoBulkAll, List.length_cons]; omega
theorem bytes_bulk {H : Type} {ds : List (DataW H)} {b : Nat} (h : Rows.uptoBulkAll ds ≤ b) {j : Nat} {d : DataW H} {n c : Nat} (hd : ds[j]? = some d)
    (hw : (d = .nil ∧ n = 0) ∨ ∃ el sp, d = .slice el sp ∧ el.length = n ∧ sp.length = c - n) : n ≤ b := by
  have h1 := bulk_at h hd
  rcases hw with ⟨_, rfl⟩ | ⟨el, sp, rfl, h2, h3⟩
  · omega
  · have := bulk_length el
    simp only [Rows.uptoBulk] at h1
    omega
theorem string_bulk {H : Type} {ds : List (DataW H)} {b : Nat} (h : Rows.uptoBulkAll ds ≤ b) {j : Nat} {s : ByteArray} (hd : ds[j]? = some (.lit (.string s.data.toList))) : s.size ≤ b := by
  have h1 := bulk_at h hd
  simp only [Rows.uptoBulk] at h1
  have e : s.data.toList.length = s.size := Array.length_toList
  omega

theorem plain_addr {w : World} {a : Addr} {v : Value} (h : w.cell? a = some v) : a = ⟨a.block, a.off, none⟩ := by
  unfold World.cell? at h
  cases hs : a.spot with
  | none => cases a; simp at hs; subst hs; rfl
  | some k => simp [hs] at h; split at h <;> simp at h
theorem Addr.add_zero' (a : Addr) : a.add 0 = a := by simp [Addr.add]

/-- a slice of texts that came in -/
theorem strs_arg {H : Type} {enc : TypeId × Value → H} {P : Program} {W : World} {base t e : Nat} (hu : P.underlying t = some (.slice e)) (he : P.underlying e = some .string) (hc : P.cellsOf e = 1)
    {v : Value} {d : DataW H} {p : List MemPlace} (hv : Value.okWide P W .any base t v) (h : DataW.Trod enc P W 0 (fun _ => true) true t v d p) :
    ∃ A n c l, v = .slice A n c ∧ l.length = n ∧ Rd W A (txs l) ∧ n ≤ c ∧ c ≤ maxLen ∧ (A = none → c = 0) ∧ (∀ s ∈ l, s.size ≤ maxLen) ∧ ((d = .nil ∧ n = 0) ∨ ∃ sp, d = .slice (l.map fun s => .lit (.string s.data.toList)) sp ∧ sp.length = c - n) := by
  obtain ⟨A, n, c, rfl⟩ := okWide_slice hu hv
  obtain ⟨fuel, hf⟩ := h
  rcases open_strings hu he hc hf with ⟨hcs, hx⟩ | ⟨x, l, c', ss, hcs, _, hl, hm, hz, hx, hcell, hws⟩
  · simp [Value.cells] at hcs
    obtain ⟨rfl, rfl, rfl⟩ := hcs
    exact ⟨none, 0, 0, [], rfl, rfl, Rd.nil _ _, Nat.le_refl _, Nat.zero_le _, fun _ => rfl, by simp, .inl ⟨by simpa using congrArg Prod.fst hx, rfl⟩⟩
  · simp [Value.cells] at hcs
    obtain ⟨rfl, rfl, rfl⟩ := hcs
    simp at hz
    have hd := congrArg Prod.fst hx
    simp only at hd
    refine ⟨some x, n, c, ss.take n, rfl, by simp; omega, ?_, hl, hm, (fun e => by cases e), (fun s hs => hws s (List.mem_of_mem_take hs)), .inr ⟨_, by rw [hd]; rfl, by rw [← hz]; simp [ChangeShapes.strs]⟩⟩
    intro hne
    have hpos : 0 < ss.length := by
      rcases Nat.eq_zero_or_pos ss.length with h | h
      · have : ss = [] := List.eq_nil_of_length_eq_zero h
        subst this; simp [txs] at hne
      · exact h
    obtain ⟨b, o, sp⟩ := x
    have hx0 := plain_addr (hcell 0 hpos)
    rw [Addr.add_zero'] at hx0
    simp only [Addr.mk.injEq, true_and] at hx0
    subst hx0
    refine ⟨b, o, rfl, fun j u hj => ?_⟩
    have hjl : j < n ∧ j < ss.length := by
      have := (List.getElem?_eq_some_iff.1 hj).1
      simp [txs] at this
      omega
    have h1 := hcell j hjl.2
    have h2 : (⟨b, o, none⟩ : Addr).add j = ⟨b, o + j, none⟩ := by
      unfold Addr.add; split <;> simp_all
    rw [← h2, h1]
    simp only [txs, List.getElem?_map, List.getElem?_take, hjl.1, if_true, List.getElem?_eq_getElem hjl.2, Option.map_some, Option.some.injEq] at hj
    rw [← hj]
    simp [List.getD, List.getElem?_eq_getElem hjl.2]

/-- two words by value -/
theorem arr2_arg {H : Type} {enc : TypeId × Value → H} {P : Program} {W : World} {base t e : Nat} (hu : P.underlying t = some (.array 2 e)) (he : P.underlying e = some (.int .u32)) (hc : P.cellsOf e = 1) (hc2 : P.cellsOf t = 2)
    {v : Value} {d : DataW H} {p : List MemPlace} (hv : Value.okWide P W .any base t v) (h : DataW.Trod enc P W 0 (fun _ => true) true t v d p) :
    ∃ x y, v = .agg #[.int .u32 x, .int .u32 y] ∧ (0 ≤ x ∧ x ≤ 4294967295) ∧ (0 ≤ y ∧ y ≤ 4294967295) := by
  obtain ⟨cs, rfl, hsz, _⟩ : ∃ cs, v = .agg cs ∧ cs.size = P.cellsOf t ∧ True := by
    unfold Value.okWide at hv
    rw [hu] at hv
    obtain ⟨cs, h1, h2, _⟩ := hv
    exact ⟨cs, h1, h2, trivial⟩
  obtain ⟨c0, c1, rfl⟩ : ∃ c0 c1, cs = #[c0, c1] := by
    rw [hc2] at hsz
    match cs, hsz with
    | ⟨[a, b]⟩, _ => exact ⟨a, b, rfl⟩
  obtain ⟨fuel, hf⟩ := h
  obtain ⟨xs, m, _, _, _, hxl, hx⟩ := DataW.trod_array hu hf
  have h0 := hx 0 (by omega)
  have h1 := hx 1 (by omega)
  rw [hc] at h0 h1
  simp only [Value.cells, Nat.zero_mul, Nat.one_mul, List.drop_zero, List.drop_succ_cons, List.take_succ_cons, List.take_zero] at h0 h1
  match xs, hxl with
  | [y0, y1], _ =>
    obtain ⟨a, e0, _, wa⟩ := DataW.trod_int he h0
    obtain ⟨b, e1, _, wb⟩ := DataW.trod_int he h1
    simp only [List.cons.injEq, and_true] at e0 e1
    subst e0 e1
    exact ⟨a, b, rfl, by simpa [Lit.wf, IntKind.min, IntKind.max, IntKind.signed, IntKind.bits] using wa, by simpa [Lit.wf, IntKind.min, IntKind.max, IntKind.signed, IntKind.bits] using wb⟩

end Go.Proofs.YtbpfabhlngfciaaDoor.Args
/- How slices that came in read, of whatever elements. -/
namespace Go.Proofs.YtbpfabhlngfciaaDoor.Args
open Go.ChangeShapes Go.WideShapes Go.ChangeAt Go.RowKit
open Base Pr
set_option linter.unusedVariables false

/-- cells of a type read as things x, by their cells and by what they say of the datum -/
structure Rdr {H α : Type} (enc : TypeId × Value → H) (P : Program) (W : World) (e : TypeId) (cells : α → List Value) (G : α → DataW H → Prop) : Prop where
  rd : ∀ fuel cs D pl, DataW.trod enc P W 0 (fun _ => true) true fuel e cs = some (D, pl) → ∃ x, cs = cells x ∧ G x D
/-- a slice's datum -/
def Bk {H α : Type} (G : α → DataW H → Prop) (l : List α) (D : DataW H) : Prop := (D = .nil ∧ l = []) ∨ ∃ ds sp, D = .slice ds sp ∧ ds.length = l.length ∧ ∀ (i : Nat) x d, l[i]? = some x → ds[i]? = some d → G x d
theorem Bk.mono {H α : Type} {G G' : α → DataW H → Prop} {l : List α} {D : DataW H} (h : Bk G l D) (hg : ∀ x d, G x d → G' x d) : Bk G' l D := by
  rcases h with h | ⟨ds, sp, h1, h2, h3⟩
  · exact .inl h
  · exact .inr ⟨ds, sp, h1, h2, fun i x d a b => hg _ _ (h3 i x d a b)⟩
theorem Bk.all {H α : Type} {G : α → DataW H → Prop} {l : List α} {D : DataW H} (h : Bk G l D) : ∀ (i : Nat) x, l[i]? = some x → ∃ d, G x d := by
  intro i x hx
  rcases h with ⟨_, rfl⟩ | ⟨ds, sp, h1, h2, h3⟩
  · simp at hx
  · have hi : i < ds.length := by rw [h2]; exact (List.getElem?_eq_some_iff.1 hx).1
    exact ⟨ds[i], h3 i x _ hx (List.getElem?_eq_getElem hi)⟩
theorem bulkAll_ge {H α : Type} {G : α → DataW H → Prop} {g : α → Nat} (hg : ∀ x d, G x d → g x ≤ Rows.uptoBulk d) : ∀ (l : List α) (ds : List (DataW H)), ds.length = l.length → (∀ (i : Nat) x d, l[i]? = some x → ds[i]? = some d → G x d) → (l.map g).sum ≤ Rows.uptoBulkAll ds
  | [], ds, _, _ => by simp
  | x :: l, [], h, _ => by simp at h
  | x :: l, d :: ds, h, k => by
    have h1 := hg x d (k 0 x d rfl rfl)
    have h2 := bulkAll_ge hg l ds (by simpa using h) (fun i y e a b => k (i + 1) y e (by simpa using a) (by simpa using b))
    simp only [List.map_cons, List.sum_cons, Rows.uptoBulkAll]
    omega
theorem Bk.bulk {H α : Type} {G : α → DataW H → Prop} {g : α → Nat} (hg : ∀ x d, G x d → g x ≤ Rows.uptoBulk d) {l : List α} {D : DataW H} (h : Bk G l D) : (l.map g).sum + 1 ≤ Rows.uptoBulk D := by
  rcases h with ⟨rfl, rfl⟩ | ⟨ds, sp, rfl, h2, h3⟩
  · simp [Rows.uptoBulk]
  · have := bulkAll_ge hg l ds h2 h3
    simp only [Rows.uptoBulk]
    omega
/-- the i-th thing's cells stand where they should -/
theorem flatMap_at {α : Type} {cells : α → List Value} {s : Nat} (hs : ∀ x, (cells x).length = s) : ∀ (l : List α) (j : Nat) (x : α), l[j]? = some x → ∀ i, i < s → (l.flatMap cells)[j * s + i]? = (cells x)[i]?
  | [], j, x, h, i, hi => by simp at h
  | y :: l, 0, x, h, i, hi => by
    simp at h; subst h
    rw [List.flatMap_cons, List.getElem?_append_left (by rw [hs]; omega)]
    congr 1; omega
  | y :: l, j + 1, x, h, i, hi => by
    have ih := flatMap_at hs l j x (by simpa using h) i hi
    have e : (j + 1) * s = j * s + s := Nat.succ_mul j s
    rw [List.flatMap_cons, List.getElem?_append_right (by rw [hs]; omega), ← ih]
    congr 1
    rw [hs]; omega
theorem flatMap_len {α : Type} {cells : α → List Value} {s : Nat} (hs : ∀ x, (cells x).length = s) (l : List α) : (l.flatMap cells).length = l.length * s := by
  induction l with
  | nil => simp
  | cons x l ih => rw [List.flatMap_cons, List.length_append, hs, ih, List.length_cons, Nat.succ_mul]; omega

theorem Rdr.slice {H α : Type} [Inhabited α] {enc : TypeId × Value → H} {P : Program} {W : World} {t e : TypeId} {cells : α → List Value} {G : α → DataW H → Prop} (h : Rdr enc P W e cells G) (hu : P.underlying t = some (.slice e)) {s : Nat} (hce : P.cellsOf e = s) (hs : ∀ x, (cells x).length = s) (hp : 0 < s) :
    Rdr enc P W t (fun x : Value × List α => [x.1]) (fun x D => Sl W.heap.size W x.1 x.2.length (x.2.flatMap cells) ∧ Bk G x.2 D) := by
  refine ⟨fun fuel cs D pl hf => ?_⟩
  rcases Deep.open_slice hu hf with ⟨rfl, hx⟩ | ⟨a, n, c, m, k, Ds, Pl, rfl, _, hl, hm, hmm, hx, hel⟩
  · injection hx with hx _
    exact ⟨(.slice none 0 0, []), rfl, ⟨none, 0, rfl, Rd.nil _ _, fun h => absurd rfl h, Nat.le_refl _, Nat.zero_le _, fun _ => rfl⟩, .inl ⟨hx, rfl⟩⟩
  · have hmm : m = c := by simpa using hmm
    subst hmm
    injection hx with hx _
    have hcell : ∀ j, j < n → ∃ x : α, (∀ i, i < s → W.cell? (a.add (j * s + i)) = (cells x)[i]?) ∧ G x (Ds j) := by
      intro j hj
      obtain ⟨cs', g1, g2⟩ := hel j (by omega)
      rw [hce] at g1
      obtain ⟨_, hlen, hc⟩ := World.cells?_some g1
      obtain ⟨x, rfl, hg⟩ := h.rd _ _ _ _ g2
      refine ⟨x, fun i hi => ?_, hg⟩
      have h4 := hc i hi
      rwa [Deep.add_add] at h4
    obtain ⟨f, hfz⟩ := Deep.choose_lt hcell
    have hrd : Rd W (some a) (((List.range n).map f).flatMap cells) := by
      intro hne
      have hpos : 0 < n := by
        rcases Nat.eq_zero_or_pos n with h | h
        · rw [h] at hne; simp at hne
        · exact h
      obtain ⟨b, off, spot⟩ := a
      have hspot : spot = none := by
        have h9 := (hfz 0 hpos).1 0 hp
        rw [List.getElem?_eq_getElem (by rw [hs]; exact hp)] at h9
        simpa [Addr.add] using World.cell?_spot h9
      subst hspot
      refine ⟨b, off, rfl, fun j u hj => ?_⟩
      have hjl : j < n * s := by
        have := (List.getElem?_eq_some_iff.1 hj).1
        rw [flatMap_len hs] at this
        simpa using this
      have hd : j / s < n := by rw [Nat.div_lt_iff_lt_mul hp]; exact hjl
      have hr : j % s < s := Nat.mod_lt _ hp
      have hje : j / s * s + j % s = j := by rw [Nat.mul_comm]; exact Nat.div_add_mod j s
      have h5 := (hfz (j / s) hd).1 (j % s) hr
      rw [hje] at h5
      rw [← Go.WideShapes.add_plain, h5]
      have h6 := flatMap_at hs ((List.range n).map f) (j / s) (f (j / s)) (by simp [hd]) (j % s) hr
      rw [hje] at h6
      rw [← h6]
      exact hj
    refine ⟨(.slice (some a) n m, (List.range n).map f), rfl, ⟨some a, m, by simp, hrd, fun hne a' ha => ?_, by simpa using hl, hm, fun e => by cases e⟩, .inr ⟨_, _, hx, by simp, fun i x d h1 h2 => ?_⟩⟩
    · injection ha with ha
      subst ha
      obtain ⟨b, off, e1, h7⟩ := hrd hne
      injection e1 with e1
      subst e1
      have h8 : 0 < (((List.range n).map f).flatMap cells).length := List.length_pos_iff.2 hne
      have h9 := h7 0 _ (List.getElem?_eq_getElem h8)
      exact World.block_lt_of_cell? W _ h9
    · have hi : i < n := by have := (List.getElem?_eq_some_iff.1 h1).1; simpa using this
      simp only [List.getElem?_map, List.getElem?_range hi, Option.map_some, Option.some.injEq] at h1 h2
      subst h1; subst h2
      exact (hfz i hi).2
theorem rdr_int {H : Type} {enc : TypeId × Value → H} {P : Program} {W : World} {t : TypeId} {k : IntKind} (hu : P.underlying t = some (.int k)) : Rdr enc P W t (fun n : Int => [.int k n]) (fun n D => D = .lit (.int k n) ∧ (Lit.int k n).wf = true) :=
  ⟨fun fuel cs D pl hf => by
    obtain ⟨z, e0, e1, w0⟩ := DataW.trod_int hu hf
    injection e1 with e1 _
    exact ⟨z, e0, e1, w0⟩⟩
theorem rdr_string {H : Type} {enc : TypeId × Value → H} {P : Program} {W : World} {t : TypeId} (hu : P.underlying t = some .string) : Rdr enc P W t (fun s : ByteArray => [.string s]) (fun s D => D = .lit (.string s.data.toList) ∧ s.size ≤ maxLen) :=
  ⟨fun fuel cs D pl hf => by
    obtain ⟨z, e0, e1, w0⟩ := DataW.trod_string hu hf
    injection e1 with e1 _
    exact ⟨z, e0, e1, w0⟩⟩
theorem rdr_bool {H : Type} {enc : TypeId × Value → H} {P : Program} {W : World} {t : TypeId} (hu : P.underlying t = some .bool) : Rdr enc P W t (fun b : Bool => [.bool b]) (fun b D => D = .lit (.bool b)) :=
  ⟨fun fuel cs D pl hf => by
    obtain ⟨z, e0, e1⟩ := DataW.trod_bool hu hf
    injection e1 with e1 _
    exact ⟨z, e0, e1⟩⟩
end Go.Proofs.YtbpfabhlngfciaaDoor.Args
/- How entries that came in read, and slices of them. -/
namespace Go.Proofs.YtbpfabhlngfciaaDoor.Args
open Go.ChangeShapes Go.WideShapes Go.ChangeAt Go.RowKit
open Base Pr Ch
set_option linter.unusedVariables false
set_option linter.unusedSimpArgs false

instance : Inhabited Et := ⟨e0⟩
theorem cells_ent : Tryd.prog.cellsOf 27 = 4 := by kernel_rfl
def entD {H : Type} (e : Et) : DataW H := .agg [.lit (.bool e.pol), .lit (.int .i64 e.p), .lit (.string e.s.data.toList), .lit (.int .u64 (e.id : Int))]
structure EtIn (e : Et) : Prop where
  p1 : -9223372036854775808 ≤ e.p
  p2 : e.p ≤ 9223372036854775807
  id1 : e.id < 18446744073709551616
set_option maxRecDepth 100000 in
theorem rdr_ent {H : Type} {enc : TypeId × Value → H} {W : World} : Rdr enc Tryd.prog W 27 entC (fun e D => D = entD e ∧ EtIn e) := by
  refine ⟨fun fuel cs D pl hf => ?_⟩
  obtain ⟨xs, m, _, hx, hl, hlen, hfs⟩ := DataW.trod_struct Tryd.underlying27 hf
  injection hx with hD _
  match xs, hlen with
  | [y0, y1, y2, y3], _ =>
    have g0 := hfs 0 _ rfl
    have g1 := hfs 1 _ rfl
    have g2 := hfs 2 _ rfl
    have g3 := hfs 3 _ rfl
    have hl4 : cs.length = 4 := hl.trans cells_ent
    match cs, hl4 with
    | [c0, c1, c2, c3], _ =>
      have g0 : DataW.trod enc Tryd.prog W 0 (fun _ => true) true m 4 [c0] = some y0 := g0
      have g1 : DataW.trod enc Tryd.prog W 0 (fun _ => true) true m 3 [c1] = some y1 := g1
      have g2 : DataW.trod enc Tryd.prog W 0 (fun _ => true) true m 9 [c2] = some y2 := g2
      have g3 : DataW.trod enc Tryd.prog W 0 (fun _ => true) true m 25 [c3] = some y3 := g3
      obtain ⟨z0, e0, f0⟩ := (rdr_bool Tryd.underlying4).rd _ _ _ _ g0
      obtain ⟨z1, e1, f1, b1⟩ := (rdr_int Tryd.underlying3).rd _ _ _ _ g1
      obtain ⟨z2, e2, f2, _⟩ := (rdr_string Tryd.underlying9).rd _ _ _ _ g2
      obtain ⟨z3, e3, f3, b3⟩ := (rdr_int Tryd.underlying25).rd _ _ _ _ g3
      injection e0 with e0 _
      injection e1 with e1 _
      injection e2 with e2 _
      injection e3 with e3 _
      subst e0; subst e1; subst e2; subst e3
      have b1 : -9223372036854775808 ≤ z1 ∧ z1 ≤ 9223372036854775807 := by simpa [Lit.wf, IntKind.min, IntKind.max, IntKind.signed, IntKind.bits] using b1
      have b3 : 0 ≤ z3 ∧ z3 ≤ 18446744073709551615 := by simpa [Lit.wf, IntKind.min, IntKind.max, IntKind.signed, IntKind.bits] using b3
      obtain ⟨k, rfl⟩ : ∃ k : Nat, z3 = (k : Int) := ⟨z3.toNat, by omega⟩
      refine ⟨⟨z0, z1, z2, k⟩, rfl, ?_, ⟨b1.1, b1.2, by show k < _; omega⟩⟩
      rw [hD]
      simp only [List.map_cons, List.map_nil, f0, f1, f2, f3, entD]
set_option maxRecDepth 100000 in
theorem ent_arg {H : Type} {enc : TypeId × Value → H} {W : World} {base : Nat} {v : Value} {d : DataW H} {p : List MemPlace} (hv : Value.okWide Tryd.prog W .any base 27 v) (h : DataW.Trod enc Tryd.prog W 0 (fun _ => true) true 27 v d p) :
    ∃ e, v = entV e ∧ d = entD e ∧ EtIn e := by
  obtain ⟨cs, rfl, hsz⟩ : ∃ cs, v = .agg cs ∧ cs.size = 4 := by
    unfold Value.okWide at hv
    rw [Tryd.underlying27] at hv
    obtain ⟨cs, h1, h2, _⟩ := hv
    exact ⟨cs, h1, h2.trans cells_ent⟩
  obtain ⟨fuel, hf⟩ := h
  obtain ⟨e, he, h1, h2⟩ := rdr_ent.rd _ _ _ _ hf
  refine ⟨e, ?_, h1, h2⟩
  have : cs.toList = entC e := he
  unfold entV
  congr 1
  exact Array.ext' (by rw [this]; rfl)
set_option maxRecDepth 100000 in
theorem ent_reach {H : Type} {ts : List TypeId} {ds : List (DataW H)} (h : (DataW.weightsEach Tryd.prog ts ds).all (· ≤ reachBytes) = true) {j : Nat} {e : Et}
    (ht : ts[j]? = some 27) (hd : ds[j]? = some (entD e)) : e.s.size ≤ 140737488351232 := by
  have hm : e.s.data.toList.length ∈ (entD (H := H) e).weights Tryd.prog 27 := by
    unfold entD
    unfold DataW.weights
    rw [Tryd.underlying27]
    simp [DataW.weightsEach, DataW.weights]
  have := of_decide_eq_true (List.all_eq_true.1 h _ (DataW.weights_mem_each ht hd _ hm))
  simp only [reachBytes] at this
  have e1 : e.s.data.toList.length = e.s.size := Array.length_toList
  omega
theorem ent_bulk {H : Type} {ds : List (DataW H)} {b : Nat} (h : Rows.uptoBulkAll ds ≤ b) {j : Nat} {e : Et} (hd : ds[j]? = some (entD e)) : e.s.size ≤ b := by
  have h1 := bulk_at h hd
  unfold entD at h1
  simp only [Rows.uptoBulk, Rows.uptoBulkAll] at h1
  have e1 : e.s.data.toList.length = e.s.size := Array.length_toList
  omega
set_option maxRecDepth 100000 in
/-- a slice of entries that came in -/
theorem ents_arg {H : Type} {enc : TypeId × Value → H} {W : World} {base : Nat} {v : Value} {d : DataW H} {p : List MemPlace} (hv : Value.okWide Tryd.prog W .any base 22 v) (h : DataW.Trod enc Tryd.prog W 0 (fun _ => true) true 22 v d p) :
    ∃ l, Sl W.heap.size W v l.length (l.flatMap entC) ∧ Bk (fun e D => D = entD e ∧ EtIn e) l d := by
  obtain ⟨fuel, hf⟩ := h
  obtain ⟨A, n, c, rfl⟩ := okWide_slice (e := 27) (by kernel_rfl) hv
  obtain ⟨⟨v3, l3⟩, e3, s3, f3⟩ := (rdr_ent.slice (t := 22) (by kernel_rfl) (s := 4) (by kernel_rfl) (fun _ => rfl) (by omega)).rd _ _ _ _ hf
  have e3 : Value.slice A n c = v3 := by simpa [Value.cells] using e3
  subst e3
  exact ⟨l3, s3, f3⟩
set_option maxRecDepth 100000 in
theorem ents_reach {H : Type} {ts : List TypeId} {ds : List (DataW H)} (h : (DataW.weightsEach Tryd.prog ts ds).all (· ≤ reachBytes) = true) {j : Nat} {l : List Et} {d : DataW H}
    (ht : ts[j]? = some 22) (hd : ds[j]? = some d) (hb : Bk (fun e D => D = entD e ∧ EtIn e) l d) : l.length * 40 ≤ 140737488351232 := by
  rcases hb with ⟨_, rfl⟩ | ⟨es, sp, rfl, h2, h3⟩
  · simp
  · have := sized_slice h ht hd (e := 27) (by kernel_rfl)
    have hby : Tryd.prog.bytesOf 27 = 40 := by kernel_rfl
    rw [hby] at this
    simp only [reachBytes] at this
    rw [← h2]
    have h5 : es.length * 40 ≤ (es.length + sp.length) * 40 := Nat.mul_le_mul_right _ (Nat.le_add_right _ _)
    omega
end Go.Proofs.YtbpfabhlngfciaaDoor.Args
