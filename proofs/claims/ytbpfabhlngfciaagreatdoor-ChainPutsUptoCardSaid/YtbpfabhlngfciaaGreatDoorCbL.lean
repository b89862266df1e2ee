/- How slices that came in read, of whatever elements. -/
import Derived.Test.YtbpfabhlngfciaaGreatDoorCbK
import Derived.Deep.Slices
import Derived.OpenShut
import Derived.ChangeSame
import Derived.Lib.ItoaLen
set_option linter.unusedVariables false
set_option linter.unusedSimpArgs false
set_option maxRecDepth 100000
set_option maxHeartbeats 1000000
namespace Go.Proofs.YtbpfabhlngfciaaGreatDoor.Args
open Go.ChangeShapes Go.WideShapes Go.ChangeAt Go.RowKit
open Base Pr
structure Rdr {H α : Type} (enc : TypeId × Value → H) (P : Program) (W : World) (e : TypeId) (cells : α → List Value) (G : α → DataW H → Prop) : Prop where
 rd : ∀ fuel cs D pl, DataW.trod enc P W 0 (fun _ => true) true fuel e cs = some (D, pl) → ∃ x, cs = cells x ∧ G x D
def Bk {H α : Type} (G : α → DataW H → Prop) (l : List α) (D : DataW H) : Prop := (D = .nil ∧ l = []) ∨ ∃ ds sp, D = .slice ds sp ∧ ds.length = l.length ∧ ∀ (i : Nat) x d, l[i]? = some x → ds[i]? = some d → G x d
theorem Bk.mono {H α : Type} {G G' : α → DataW H → Prop} {l : List α} {D : DataW H} (h : Bk G l D) (hg : ∀ x d, G x d → G' x d) : Bk G' l D := by
 rcases h with h | ⟨ds, sp, h1, h2, h3⟩
 ·exact .inl h
 ·exact .inr ⟨ds, sp, h1, h2, fun i x d a b => hg _ _ (h3 i x d a b)⟩
theorem Bk.all {H α : Type} {G : α → DataW H → Prop} {l : List α} {D : DataW H} (h : Bk G l D) : ∀ (i : Nat) x, l[i]? = some x → ∃ d, G x d := by
 intro i x hx
 rcases h with ⟨_, rfl⟩ | ⟨ds, sp, h1, h2, h3⟩
 ·simp at hx
 ·have hi : i < ds.length := by rw [h2]; exact (List.getElem?_eq_some_iff.1 hx).1
  exact ⟨ds[i], h3 i x _ hx (List.getElem?_eq_getElem hi)⟩
theorem bulkAll_ge {H α : Type} {G : α → DataW H → Prop} {g : α → Nat} (hg : ∀ x d, G x d → g x ≤ Rows.uptoBulk d) : ∀ (l : List α) (ds : List (DataW H)), ds.length = l.length → (∀ (i : Nat) x d, l[i]? = some x → ds[i]? = some d → G x d) → (l.map g).sum ≤ Rows.uptoBulkAll ds
 | [], ds, _, _ => by simp
 | x :: l, [], h, _ => by simp at h
 | x :: l, d :: ds, h, k => by
  have h1 := hg x d (k 0 x d rfl rfl)
  have h2 := bulkAll_ge hg l ds (by simpa using h) (fun i y e a b => k (i + 1) y e (by simpa using a) (by simpa using b))
  simp only [List.map_cons, List.sum_cons, Rows.uptoBulkAll]
  omega
theorem Bk.bulk {H α : Type} {G : α → DataW H → Prop} {g : α → Nat} (hg : ∀ x d, G x d → g x ≤ Rows.uptoBulk d) {l : List α} {D : DataW H} (h : Bk G l D) : (l.map g).sum + 1 ≤ Rows.uptoBulk D := by
 rcases h with ⟨rfl, rfl⟩ | ⟨ds, sp, rfl, h2, h3⟩
 ·simp [Rows.uptoBulk]
 ·have := bulkAll_ge hg l ds h2 h3
  simp only [Rows.uptoBulk]
  omega
theorem flatMap_at {α : Type} {cells : α → List Value} {s : Nat} (hs : ∀ x, (cells x).length = s) : ∀ (l : List α) (j : Nat) (x : α), l[j]? = some x → ∀ i, i < s → (l.flatMap cells)[j * s + i]? = (cells x)[i]?
 | [], j, x, h, i, hi => by simp at h
 | y :: l, 0, x, h, i, hi => by
  simp at h; subst h
  rw [List.flatMap_cons, List.getElem?_append_left (by rw [hs]; omega)]
  congr 1; omega
 | y :: l, j + 1, x, h, i, hi => by
  have ih := flatMap_at hs l j x (by simpa using h) i hi
  have e : (j + 1) * s = j * s + s := Nat.succ_mul j s
  rw [List.flatMap_cons, List.getElem?_append_right (by rw [hs]; omega), ← ih]
  congr 1
  rw [hs]; omega
theorem flatMap_len {α : Type} {cells : α → List Value} {s : Nat} (hs : ∀ x, (cells x).length = s) (l : List α) : (l.flatMap cells).length = l.length * s := by
 induction l with
 | nil => simp
 | cons x l ih => rw [List.flatMap_cons, List.length_append, hs, ih, List.length_cons, Nat.succ_mul]; omega
theorem Rdr.slice {H α : Type} [Inhabited α] {enc : TypeId × Value → H} {P : Program} {W : World} {t e : TypeId} {cells : α → List Value} {G : α → DataW H → Prop} (h : Rdr enc P W e cells G) (hu : P.underlying t = some (.slice e)) {s : Nat} (hce : P.cellsOf e = s) (hs : ∀ x, (cells x).length = s) (hp : 0 < s) :
  Rdr enc P W t (fun x : Value × List α => [x.1]) (fun x D => Sl W.heap.size W x.1 x.2.length (x.2.flatMap cells) ∧ Bk G x.2 D) := by
 refine ⟨fun fuel cs D pl hf => ?_⟩
 rcases Deep.open_slice hu hf with ⟨rfl, hx⟩ | ⟨a, n, c, m, k, Ds, Pl, rfl, _, hl, hm, hmm, hx, hel⟩
 ·injection hx with hx _
  exact ⟨(.slice none 0 0, []), rfl, ⟨none, 0, rfl, Rd.nil _ _, fun h => absurd rfl h, Nat.le_refl _, Nat.zero_le _, fun _ => rfl⟩, .inl ⟨hx, rfl⟩⟩
 ·have hmm : m = c := by simpa using hmm
  subst hmm
  injection hx with hx _
  have hcell : ∀ j, j < n → ∃ x : α, (∀ i, i < s → W.cell? (a.add (j * s + i)) = (cells x)[i]?) ∧ G x (Ds j) := by
   intro j hj
   obtain ⟨cs', g1, g2⟩ := hel j (by omega)
   rw [hce] at g1
   obtain ⟨_, hlen, hc⟩ := World.cells?_some g1
   obtain ⟨x, rfl, hg⟩ := h.rd _ _ _ _ g2
   refine ⟨x, fun i hi => ?_, hg⟩
   have h4 := hc i hi
   rwa [Deep.add_add] at h4
  obtain ⟨f, hfz⟩ := Deep.choose_lt hcell
  have hrd : Rd W (some a) (((List.range n).map f).flatMap cells) := by
   intro hne
   have hpos : 0 < n := by
    rcases Nat.eq_zero_or_pos n with h | h
    ·rw [h] at hne; simp at hne
    ·exact h
   obtain ⟨b, off, spot⟩ := a
   have hspot : spot = none := by
    have h9 := (hfz 0 hpos).1 0 hp
    rw [List.getElem?_eq_getElem (by rw [hs]; exact hp)] at h9
    simpa [Addr.add] using World.cell?_spot h9
   subst hspot
   refine ⟨b, off, rfl, fun j u hj => ?_⟩
   have hjl : j < n * s := by
    have := (List.getElem?_eq_some_iff.1 hj).1
    rw [flatMap_len hs] at this
    simpa using this
   have hd : j / s < n := by rw [Nat.div_lt_iff_lt_mul hp]; exact hjl
   have hr : j % s < s := Nat.mod_lt _ hp
   have hje : j / s * s + j % s = j := by rw [Nat.mul_comm]; exact Nat.div_add_mod j s
   have h5 := (hfz (j / s) hd).1 (j % s) hr
   rw [hje] at h5
   rw [← Go.WideShapes.add_plain, h5]
   have h6 := flatMap_at hs ((List.range n).map f) (j / s) (f (j / s)) (by simp [hd]) (j % s) hr
   rw [hje] at h6
   rw [← h6]
   exact hj
  refine ⟨(.slice (some a) n m, (List.range n).map f), rfl, ⟨some a, m, by simp, hrd, fun hne a' ha => ?_, by simpa using hl, hm, fun e => by cases e⟩, .inr ⟨_, _, hx, by simp, fun i x d h1 h2 => ?_⟩⟩
  ·injection ha with ha
   subst ha
   obtain ⟨b, off, e1, h7⟩ := hrd hne
   injection e1 with e1
   subst e1
   have h8 : 0 < (((List.range n).map f).flatMap cells).length := List.length_pos_iff.2 hne
   have h9 := h7 0 _ (List.getElem?_eq_getElem h8)
   exact World.block_lt_of_cell? W _ h9
  ·have hi : i < n := by have := (List.getElem?_eq_some_iff.1 h1).1; simpa using this
   simp only [List.getElem?_map, List.getElem?_range hi, Option.map_some, Option.some.injEq] at h1 h2
   subst h1; subst h2
   exact (hfz i hi).2
theorem rdr_int {H : Type} {enc : TypeId × Value → H} {P : Program} {W : World} {t : TypeId} {k : IntKind} (hu : P.underlying t = some (.int k)) : Rdr enc P W t (fun n : Int => [.int k n]) (fun n D => D = .lit (.int k n) ∧ (Lit.int k n).wf = true) :=
 ⟨fun fuel cs D pl hf => by
  obtain ⟨z, e0, e1, w0⟩ := DataW.trod_int hu hf
  injection e1 with e1 _
  exact ⟨z, e0, e1, w0⟩⟩
theorem rdr_string {H : Type} {enc : TypeId × Value → H} {P : Program} {W : World} {t : TypeId} (hu : P.underlying t = some .string) : Rdr enc P W t (fun s : ByteArray => [.string s]) (fun s D => D = .lit (.string s.data.toList) ∧ s.size ≤ maxLen) :=
 ⟨fun fuel cs D pl hf => by
  obtain ⟨z, e0, e1, w0⟩ := DataW.trod_string hu hf
  injection e1 with e1 _
  exact ⟨z, e0, e1, w0⟩⟩
theorem rdr_bool {H : Type} {enc : TypeId × Value → H} {P : Program} {W : World} {t : TypeId} (hu : P.underlying t = some .bool) : Rdr enc P W t (fun b : Bool => [.bool b]) (fun b D => D = .lit (.bool b)) :=
 ⟨fun fuel cs D pl hf => by
  obtain ⟨z, e0, e1⟩ := DataW.trod_bool hu hf
  injection e1 with e1 _
  exact ⟨z, e0, e1⟩⟩
def fldB (f : ByteArray × Bool × Int) : Nat := f.1.size + 4
def nodeB (d : Ne) : Nat := d.name.size + (d.syms.map fun s => s.size + 1).sum + d.items.length + (d.fields.map fldB).sum + 7
theorem sum_one {α : Type} (l : List α) : (l.map fun _ => 1).sum = l.length := by
 induction l with
 | nil => rfl
 | cons x l ih => simp [ih]; omega
theorem flat_one {α : Type} (l : List α) (f : α → Value) : (l.flatMap fun x => [f x]) = l.map f := by
 induction l with
 | nil => rfl
 | cons x l ih => rw [List.flatMap_cons, ih]; rfl
instance : Inhabited (Ne × V3) := ⟨(neD, v0)⟩
theorem cells_fld : Tryz.prog.cellsOf 120 = 3 := by kernel_rfl
theorem cells_node : Tryz.prog.cellsOf 87 = 6 := by kernel_rfl
theorem cells_sch : Tryz.prog.cellsOf 42 = 1 := by kernel_rfl
theorem rdr_fld {H : Type} {enc : TypeId × Value → H} {W : World} : Rdr enc Tryz.prog W 120 fldZ (fun f D => fldB f ≤ Rows.uptoBulk D) := by
 refine ⟨fun fuel cs D pl hf => ?_⟩
 obtain ⟨xs, m, _, hx, hl, hlen, hfs⟩ := DataW.trod_struct Tryz.underlying120 hf
 injection hx with hD _
 match xs, hlen with
 | [y0, y1, y2], _ =>
  have g0 := hfs 0 _ rfl
  have g1 := hfs 1 _ rfl
  have g2 := hfs 2 _ rfl
  have hl3 : cs.length = 3 := hl.trans cells_fld
  match cs, hl3 with
  | [c0, c1, c2], _ =>
   have g0 : DataW.trod enc Tryz.prog W 0 (fun _ => true) true m 9 [c0] = some y0 := g0
   have g1 : DataW.trod enc Tryz.prog W 0 (fun _ => true) true m 4 [c1] = some y1 := g1
   have g2 : DataW.trod enc Tryz.prog W 0 (fun _ => true) true m 3 [c2] = some y2 := g2
   obtain ⟨z0, e0, f0, _⟩ := (rdr_string Tryz.underlying9).rd _ _ _ _ g0
   obtain ⟨z1, e1, f1⟩ := (rdr_bool Tryz.underlying4).rd _ _ _ _ g1
   obtain ⟨z2, e2, f2, _⟩ := (rdr_int Tryz.underlying3).rd _ _ _ _ g2
   injection e0 with e0 _
   injection e1 with e1 _
   injection e2 with e2 _
   subst e0; subst e1; subst e2
   refine ⟨(z0, z1, z2), rfl, ?_⟩
   rw [hD]
   simp only [List.map_cons, List.map_nil, f0, f1, f2, Rows.uptoBulk, Rows.uptoBulkAll]
   have : z0.data.toList.length = z0.size := Array.length_toList
   show z0.size + 4 ≤ _
   omega
theorem rdr_node {H : Type} {enc : TypeId × Value → H} {W : World} : Rdr enc Tryz.prog W 87 (fun x : Ne × V3 => neC x.1 x.2) (fun x D => SubE W.heap.size W x.1 x.2 ∧ nodeB x.1 ≤ Rows.uptoBulk D) := by
 refine ⟨fun fuel cs D pl hf => ?_⟩
 obtain ⟨xs, m, _, hx, hl, hlen, hfs⟩ := DataW.trod_struct Tryz.underlying87 hf
 injection hx with hD _
 match xs, hlen with
 | [y0, y1, y2, y3, y4, y5], _ =>
  have g0 := hfs 0 _ rfl
  have g1 := hfs 1 _ rfl
  have g2 := hfs 2 _ rfl
  have g3 := hfs 3 _ rfl
  have g4 := hfs 4 _ rfl
  have g5 := hfs 5 _ rfl
  have hl6 : cs.length = 6 := hl.trans cells_node
  match cs, hl6 with
  | [c0, c1, c2, c3, c4, c5], _ =>
   have g0 : DataW.trod enc Tryz.prog W 0 (fun _ => true) true m 3 [c0] = some y0 := g0
   have g1 : DataW.trod enc Tryz.prog W 0 (fun _ => true) true m 9 [c1] = some y1 := g1
   have g2 : DataW.trod enc Tryz.prog W 0 (fun _ => true) true m 3 [c2] = some y2 := g2
   have g3 : DataW.trod enc Tryz.prog W 0 (fun _ => true) true m 48 [c3] = some y3 := g3
   have g4 : DataW.trod enc Tryz.prog W 0 (fun _ => true) true m 84 [c4] = some y4 := g4
   have g5 : DataW.trod enc Tryz.prog W 0 (fun _ => true) true m 85 [c5] = some y5 := g5
   obtain ⟨z0, e0, f0, _⟩ := (rdr_int Tryz.underlying3).rd _ _ _ _ g0
   obtain ⟨z1, e1, f1, _⟩ := (rdr_string Tryz.underlying9).rd _ _ _ _ g1
   obtain ⟨z2, e2, f2, w2⟩ := (rdr_int Tryz.underlying3).rd _ _ _ _ g2
   obtain ⟨⟨v3, l3⟩, e3, s3, f3⟩ := ((rdr_string Tryz.underlying9).slice (t := 48) (by kernel_rfl) (s := 1) (by kernel_rfl) (fun _ => rfl) (by omega)).rd _ _ _ _ g3
   obtain ⟨⟨v4, l4⟩, e4, s4, f4⟩ := ((rdr_int Tryz.underlying3).slice (t := 84) (by kernel_rfl) (s := 1) (by kernel_rfl) (fun _ => rfl) (by omega)).rd _ _ _ _ g4
   obtain ⟨⟨v5, l5⟩, e5, s5, f5⟩ := (rdr_fld.slice (t := 85) (by kernel_rfl) (s := 3) (by kernel_rfl) (fun _ => rfl) (by omega)).rd _ _ _ _ g5
   injection e0 with e0 _
   injection e1 with e1 _
   injection e2 with e2 _
   injection e3 with e3 _
   injection e4 with e4 _
   injection e5 with e5 _
   subst e0; subst e1; subst e2; subst e3; subst e4; subst e5
   have w2' : -9223372036854775808 ≤ z2 ∧ z2 ≤ 9223372036854775807 := by simpa [Lit.wf, IntKind.min, IntKind.max, IntKind.signed, IntKind.bits] using w2
   have q3 := flat_one l3 Value.string
   have q4 := flat_one l4 (Value.int .i64)
   simp only at s3 s4 s5 f3 f4 f5
   rw [q3] at s3
   rw [q4] at s4
   replace s3 : Sl W.heap.size W c3 l3.length (txs l3) := s3
   replace s4 : Sl W.heap.size W c4 l4.length (intsZ l4) := s4
   refine ⟨(⟨z0, z1, z2, l3, l4, l5⟩, (c3, c4, c5)), rfl, ⟨s3, s4, s5, w2'⟩, ?_⟩
   have b3 := f3.bulk (g := fun s : ByteArray => s.size + 1) (fun x d h => by rw [h.1]; simp only [Rows.uptoBulk]; have : x.data.toList.length = x.size := Array.length_toList; omega)
   have b4 := f4.bulk (g := fun _ : Int => 1) (fun x d h => by rw [h.1]; simp [Rows.uptoBulk])
   have b5 := f5.bulk (g := fldB) (fun x d h => h)
   rw [sum_one] at b4
   rw [hD]
   simp only [List.map_cons, List.map_nil, f0, f1, f2, Rows.uptoBulk, Rows.uptoBulkAll]
   show z1.size + (l3.map fun s => s.size + 1).sum + l4.length + (l5.map fldB).sum + 7 ≤ _
   have : z1.data.toList.length = z1.size := Array.length_toList
   omega
theorem nesC_zip : ∀ (l : List (Ne × V3)), l.flatMap (fun x => neC x.1 x.2) = nesC (l.map (·.1)) (l.map (·.2))
 | [] => rfl
 | x :: l => by rw [List.flatMap_cons, nesC_zip l]; rfl
def schB (ns : List Ne) : Nat := (ns.map nodeB).sum
theorem sch_arg {H : Type} {enc : TypeId × Value → H} {W : World} {base : Nat} {v : Value} {d : DataW H} {p : List MemPlace} (hv : Value.okWide Tryz.prog W .any base 42 v) (h : DataW.Trod enc Tryz.prog W 0 (fun _ => true) true 42 v d p) :
  ∃ u ns, v = .agg #[u] ∧ Sch W.heap.size W u ns ∧ schB ns ≤ Rows.uptoBulk d := by
 obtain ⟨cs, rfl, hsz⟩ : ∃ cs, v = .agg cs ∧ cs.size = 1 := by
  unfold Value.okWide at hv
  rw [Tryz.underlying42] at hv
  obtain ⟨cs, h1, h2, _⟩ := hv
  exact ⟨cs, h1, h2.trans cells_sch⟩
 obtain ⟨u, rfl⟩ : ∃ u, cs = #[u] := by
  match cs, hsz with
  | ⟨[a]⟩, _ => exact ⟨a, rfl⟩
 obtain ⟨fuel, hf⟩ := h
 obtain ⟨y0, m, hx, _, g⟩ := trod_struct1 Tryz.underlying42 hf
 injection hx with hD _
 have g : DataW.trod enc Tryz.prog W 0 (fun _ => true) true m 40 [u] = some y0 := g
 obtain ⟨⟨v3, l3⟩, e3, s3, f3⟩ := (rdr_node.slice (t := 40) (by kernel_rfl) (s := 6) (by kernel_rfl) (fun _ => rfl) (by omega)).rd _ _ _ _ g
 injection e3 with e3 _
 subst e3
 simp only at s3 f3
 rw [nesC_zip] at s3
 refine ⟨u, l3.map (·.1), rfl, ⟨l3.map (·.2), by simp, by rw [List.length_map]; exact s3, fun i d v h1 h2 => ?_⟩, ?_⟩
 ·rw [List.getElem?_map] at h1 h2
  cases hx : l3[i]? with
  | none => rw [hx] at h1; cases h1
  | some x =>
   rw [hx] at h1 h2
   injection h1 with h1
   injection h2 with h2
   subst h1; subst h2
   obtain ⟨d, hd⟩ := f3.all i x hx
   exact hd.1
 ·have := f3.bulk (g := fun x => nodeB x.1) (fun x d h => h.2)
  rw [hD]
  simp only [Rows.uptoBulk, Rows.uptoBulkAll, schB, List.map_map, Function.comp_def]
  omega
end Go.Proofs.YtbpfabhlngfciaaGreatDoor.Args
namespace Go.Proofs.YtbpfabhlngfciaaGreatDoor.Pr
open Lx
def nodeW (d : Ne) : Nat := d.name.size + (d.syms.map fun s => s.size + 1).sum + d.items.length + (d.fields.map fun f => f.1.size + 3).sum + 40
def wsum (ns : List Ne) (k : Nat) : Nat := ((ns.take k).map nodeW).sum
theorem wsum_succ {ns : List Ne} {k : Nat} {d : Ne} (h : ns[k]? = some d) : wsum ns (k + 1) = wsum ns k + nodeW d := by
 unfold wsum
 rw [List.take_add_one, h, List.map_append, List.sum_append]
 simp
theorem wsum_mono (ns : List Ne) {a b : Nat} (h : a ≤ b) : wsum ns a ≤ wsum ns b := by
 induction b with
 | zero => obtain rfl : a = 0 := by omega
           exact Nat.le_refl _
 | succ b ih =>
  rcases Nat.eq_or_lt_of_le h with e | e
  ·rw [e]; exact Nat.le_refl _
  ·refine Nat.le_trans (ih (by omega)) ?_
   cases hd : ns[b]? with
   | some d => rw [wsum_succ hd]; omega
   | none => unfold wsum; rw [List.take_add_one, hd]; simp
theorem bs_len (t : ByteArray) : (bs t).length = t.size := size_list t
structure Gr (ns : List Ne) (B c : Nat) (st st' : WSt) : Prop where
 up : st.next ≤ st'.next
 top : st'.next ≤ ns.length
 len : max st'.s.length B + wsum ns st.next ≤ max st.s.length B + c + wsum ns st'.next
section
variable {ns : List Ne} {B : Nat}
theorem Gr.trans {c1 c2 : Nat} {a b d : WSt} (h : Gr ns B c1 a b) (k : Gr ns B c2 b d) : Gr ns B (c1 + c2) a d := ⟨Nat.le_trans h.up k.up, k.top, by have := h.len; have := k.len; omega⟩
theorem Gr.le {c1 c2 : Nat} {a b : WSt} (h : Gr ns B c1 a b) (k : c1 ≤ c2) : Gr ns B c2 a b := ⟨h.up, h.top, by have := h.len; omega⟩
theorem Gr.put {st : WSt} (h : st.next ≤ ns.length) (t : List UInt8) : Gr ns B t.length st (st.put t) := ⟨Nat.le_refl _, h, by rw [WSt.put_len]; show _ + wsum ns st.next ≤ _ + wsum ns st.next; omega⟩
def GT (ns : List Ne) (B : Nat) (T : WT) : Prop := ∀ n st, st.next ≤ ns.length → Gr ns B 0 st (T n st)
theorem wlist_gr {T : WT} (h : GT ns B T) : ∀ (b : Bool) (l : List Int) (st : WSt), st.next ≤ ns.length → Gr ns B l.length st (wlist T b l st)
 | _, [], st, hn => ⟨Nat.le_refl _, hn, by rw [wlist]; omega⟩
 | b, n :: l, st, hn => by
  rw [wlist]
  have h1 : Gr ns B 1 st (if b then st else st.put [124]) := by
   split
   ·exact ⟨Nat.le_refl _, hn, by omega⟩
   ·exact Gr.put hn [124]
  have h2 := h n _ h1.top
  exact ((h1.trans h2).trans (wlist_gr h false l _ h2.top)).le (by simp only [List.length_cons]; omega)
theorem witems_gr {T : WT} (h : GT ns B T) (op : List UInt8) (l : List Int) (sh : List UInt8) (st : WSt) (hn : st.next ≤ ns.length) : Gr ns B (op.length + l.length + sh.length) st (witems T op l sh st) := by
 unfold witems
 have h1 := Gr.put (B := B) hn op
 have h2 := wlist_gr h true l _ h1.top
 exact (h1.trans h2).trans (Gr.put h2.top sh)
theorem wfield_gr {T : WT} (h : GT ns B T) (f : ByteArray × Bool × Int) (st : WSt) (hn : st.next ≤ ns.length) : Gr ns B (f.1.size + 3) st (wfield T f st) := by
 unfold wfield
 have h1 := Gr.put (B := B) hn (bs f.1)
 have h2 : Gr ns B (f.1.size + 1) st (if f.2.1 then (st.put (bs f.1)).put [63] else st.put (bs f.1)) := by
  split
  ·exact (h1.trans (Gr.put h1.top [63])).le (by rw [bs_len]; simp)
  ·exact h1.le (by rw [bs_len]; omega)
 have h3 := h2.trans (Gr.put h2.top [58])
 have h4 := h3.trans (h f.2.2 _ h3.top)
 exact (h4.trans (Gr.put h4.top [59])).le (by simp only [List.length_cons, List.length_nil]; omega)
theorem wflds_gr {T : WT} (h : GT ns B T) : ∀ (l : List (ByteArray × Bool × Int)) (st : WSt), st.next ≤ ns.length → Gr ns B (l.map fun f => f.1.size + 3).sum st (wflds T l st)
 | [], st, hn => ⟨Nat.le_refl _, hn, by rw [wflds]; omega⟩
 | f :: l, st, hn => by
  rw [wflds]
  have h1 := wfield_gr h f st hn
  exact (h1.trans (wflds_gr h l _ h1.top)).le (by simp)
theorem inter_le (l : List ByteArray) : (([44] : List UInt8).intercalate (l.map bs)).length ≤ (l.map fun s => s.size + 1).sum := by
 induction l with
 | nil => simp
 | cons x l ih =>
  cases l with
  | nil =>
   have : bs x = x.data.toList := rfl
   simp [List.intercalate, bs_len]
  | cons y l =>
   have e : ([44] : List UInt8).intercalate ((x :: y :: l).map bs) = bs x ++ [44] ++ ([44] : List UInt8).intercalate ((y :: l).map bs) := by simp [List.intercalate]
   rw [e]
   have e2 : ((x :: y :: l).map fun s => s.size + 1).sum = (x.size + 1) + ((y :: l).map fun s => s.size + 1).sum := by rw [List.map_cons, List.sum_cons]
   rw [e2]
   simp only [List.length_append, bs_len, List.length_cons, List.length_nil] at ih ⊢
   omega
theorem wbody_gr {T : WT} (h : GT ns B T) (x : Ne) (st : WSt) (hn : st.next ≤ ns.length) (hz : -9223372036854775808 ≤ x.size ∧ x.size ≤ 9223372036854775807) : Gr ns B (nodeW x) st (wbody T x st) := by
 unfold wbody
 have hi : ∀ (a b : UInt8), Gr ns B (nodeW x) st (witems T [a] x.items [b] st) := fun a b => (witems_gr h _ _ _ st hn).le (by unfold nodeW; simp only [List.length_cons, List.length_nil]; omega)
 split
 ·exact hi _ _
 ·split
  ·exact hi _ _
  ·split
   ·exact hi _ _
   ·split
    ·refine (Gr.put hn _).le ?_
     have := inter_le x.syms
     unfold nodeW
     simp only [List.length_append, bs_len, sEn, List.length_cons, List.length_nil]
     omega
    ·split
     ·refine (Gr.put hn _).le ?_
      have := Lib.itoa_length_le x.size hz.1 hz.2
      unfold nodeW
      simp only [List.length_append, bs_len, sFix, List.length_cons, List.length_nil]
      omega
     ·split
      ·unfold wrecord
       have h1 := Gr.put (B := B) hn (sRec ++ bs x.name ++ [123])
       have h2 := h1.trans (wflds_gr h x.fields _ h1.top)
       refine (h2.trans (Gr.put h2.top [125])).le ?_
       unfold nodeW
       simp only [List.length_append, bs_len, sRec, List.length_cons, List.length_nil]
       omega
      ·split
       ·exact ⟨Nat.le_refl _, hn, by show max st.s.length B + wsum ns st.next ≤ max st.s.length B + nodeW x + wsum ns st.next; omega⟩
       ·refine (Gr.put hn _).le ?_
        next h1 h2 h3 h4 h5 h6 h7 =>
        have hk : x.k.toNat < 12 := by omega
        have : ∀ k, k < 12 → (bs (wordsL.getD k ⟨#[]⟩)).length ≤ 6 := by decide
        have := this _ hk
        unfold nodeW
        omega
theorem wtyp_gr (hB : ∀ d ∈ ns, 4096 + d.name.size ≤ B) (hz : ∀ d ∈ ns, -9223372036854775808 ≤ d.size ∧ d.size ≤ 9223372036854775807) : ∀ f, GT ns B (wtyp ns f)
 | 0, n, st, hn => ⟨Nat.le_refl _, hn, by rw [wtyp]; simp⟩
 | f + 1, n, st, hn => by
  rw [wtyp]
  split
  ·exact ⟨Nat.le_refl _, hn, by simp⟩
  ·next hs =>
   unfold wstop at hs
   simp only [not_or, Int.not_lt, Int.not_le, Nat.not_lt] at hs
   obtain ⟨h1, h2, h3, h4, h5, h6⟩ := hs
   obtain ⟨m, rfl⟩ : ∃ m : Nat, n = m := ⟨n.toNat, by omega⟩
   have hm : m < ns.length := by omega
   have hg : ns.getD m neD = ns[m] := by rw [List.getD, List.getElem?_eq_getElem hm]; rfl
   have hmem : ns[m] ∈ ns := List.getElem_mem hm
   rw [Int.toNat_natCast, hg]
   split
   ·refine ⟨Nat.le_refl _, hn, ?_⟩
    show max (st.put _).s.length B + wsum ns st.next ≤ max st.s.length B + 0 + wsum ns st.next
    rw [WSt.put_len, bs_len]
    have := hB _ hmem
    omega
   ·next hlt =>
    obtain rfl : m = st.next := by omega
    have hb := wbody_gr (wtyp_gr hB hz f) ns[st.next] { st with next := st.next + 1 } (by show st.next + 1 ≤ _; omega) (hz _ hmem)
    have e := wsum_succ (ns := ns) (k := st.next) (List.getElem?_eq_getElem hm)
    refine ⟨by have := hb.up; simp only at this; omega, hb.top, ?_⟩
    have := hb.len
    simp only at this
    rw [e] at this
    omega
end
theorem sum_mem (l : List Nat) (x : Nat) (h : x ∈ l) : x ≤ l.sum := by
 induction l with
 | nil => cases h
 | cons y l ih =>
  rcases List.mem_cons.1 h with e | e
  ·subst e; simp
  ·have := ih e; simp; omega
theorem nodeW_le (d : Ne) : nodeW d ≤ 40 * Args.nodeB d := by
 have h1 : (d.fields.map fun f => f.1.size + 3).sum ≤ (d.fields.map Args.fldB).sum := by
  generalize d.fields = l
  induction l with
  | nil => simp
  | cons f l ih => simp only [List.map_cons, List.sum_cons, Args.fldB]; omega
 unfold nodeW Args.nodeB
 omega
theorem sum_nodeW (l : List Ne) : (l.map nodeW).sum ≤ 40 * (l.map Args.nodeB).sum := by
 induction l with
 | nil => simp
 | cons d l ih => have := nodeW_le d; simp only [List.map_cons, List.sum_cons]; omega
theorem show_bound {ns : List Ne} (hb : Args.schB ns ≤ 1048576) (hz : ∀ d ∈ ns, -9223372036854775808 ≤ d.size ∧ d.size ≤ 9223372036854775807) : showLen ns ≤ 100000000 := by
 have hM : ∀ d ∈ ns, 4096 + d.name.size ≤ 2000000 := fun d hd => by
  have := sum_mem (ns.map Args.nodeB) (Args.nodeB d) (List.mem_map_of_mem hd)
  unfold Args.schB at hb
  have : d.name.size ≤ Args.nodeB d := by unfold Args.nodeB; omega
  omega
 have h := wtyp_gr hM hz 20 0 ⟨[], 0, false⟩ (Nat.zero_le _)
 have h1 := h.len
 have h2 := wsum_mono ns h.top
 have h3 : wsum ns ns.length ≤ 40 * Args.schB ns := by
  unfold wsum Args.schB
  rw [List.take_length]
  exact sum_nodeW ns
 show (wtyp ns 20 0 ⟨[], 0, false⟩).s.length ≤ _
 have h4 : ([] : List UInt8).length = 0 := rfl
 simp only [List.length_nil] at h1
 omega
theorem sch_lens {ns : List Ne} (hb : Args.schB ns ≤ 1048576) : ns.length ≤ 1000000 ∧ ∀ d ∈ ns, d.syms.length ≤ 1048576 ∧ d.items.length ≤ 1048576 ∧ d.fields.length ≤ 1048576 ∧ d.syms.length + d.items.length + d.fields.length ≤ 1048576 := by
 have h1 : ∀ l : List Ne, 7 * l.length ≤ (l.map Args.nodeB).sum := by
  intro l
  induction l with
  | nil => simp
  | cons d l ih => simp only [List.map_cons, List.sum_cons, List.length_cons, Args.nodeB]; omega
 refine ⟨by have := h1 ns; unfold Args.schB at hb; omega, fun d hd => ?_⟩
 have h2 := sum_mem (ns.map Args.nodeB) (Args.nodeB d) (List.mem_map_of_mem hd)
 unfold Args.schB at hb
 have h3 : d.syms.length ≤ (d.syms.map fun s => s.size + 1).sum := by
  generalize d.syms = l
  induction l with
  | nil => simp
  | cons f l ih => simp only [List.map_cons, List.sum_cons, List.length_cons]; omega
 have h4 : d.fields.length ≤ (d.fields.map Args.fldB).sum := by
  generalize d.fields = l
  induction l with
  | nil => simp
  | cons f l ih => simp only [List.map_cons, List.sum_cons, List.length_cons, Args.fldB]; omega
 have : d.syms.length + d.items.length + d.fields.length ≤ Args.nodeB d := by unfold Args.nodeB; omega
 omega
theorem show_inj {a b : List Ne} {s t : List UInt8} (h : showP a = some s) (k : showP b = some t) : s = t ↔ a = b := by
 have q : ∀ {a : List Ne} {s : List UInt8}, showP a = some s → (parseP ⟨s.toArray⟩).1.map Nd.toE = a := by
  intro a s h
  unfold showP at h
  simp only at h
  split at h
  ·cases h
  ·split at h
   ·cases h
   ·next hn =>
    injection h with h
    subst h
    simp only [not_or, ne_eq, Decidable.not_not] at hn
    exact hn.2
 constructor
 ·intro e
  rw [← q h, ← q k, e]
 ·intro e
  rw [e, k] at h
  injection h with h
  exact h.symm
def digR (n : Int) : List UInt8 := if n < 0 ∨ 4096 < n then [120] else Lib.itoa n
def rlist (T : WT) : Bool → List Int → WSt → WSt
 | _, [], st => st
 | first, n :: l, st => if st.bad = true then st else rlist T false l (T n (if first then st else st.put [124]))
def ritems (T : WT) (op : List UInt8) (l : List Int) (sh : List UInt8) (st : WSt) : WSt := (rlist T true l (st.put op)).put sh
def rflds (T : WT) : List (ByteArray × Bool × Int) → WSt → WSt
 | [], st => st
 | f :: l, st => if st.bad = true then st else rflds T l (wfield T f st)
def rsyms : Bool → List ByteArray → WSt → WSt
 | _, [], st => st
 | first, x :: l, st => if 4096 < st.s.length then st else rsyms false l ((if first then st else st.put [44]).put (bs x))
def rrecord (T : WT) (x : Ne) (st : WSt) : WSt := (rflds T x.fields (((st.put sRec).put (bs x.name)).put [123])).put [125]
def renum (x : Ne) (st : WSt) : WSt := (rsyms true x.syms (((st.put sEn).put (bs x.name)).put [60])).put [62]
def rfix (x : Ne) (st : WSt) : WSt := ((st.put sFix).put (bs x.name)).put ([32] ++ digR x.size)
def rbody (T : WT) (x : Ne) (st : WSt) : WSt :=
 if x.k = 6 then ritems T [91] x.items [93] st
 else if x.k = 7 then ritems T [123] x.items [125] st
 else if x.k = 8 then ritems T [40] x.items [41] st
 else if x.k = 9 then renum x st
 else if x.k = 10 then rfix x st
 else if x.k = 11 then rrecord T x st
 else if x.k < 0 ∨ 12 ≤ x.k then { st with bad := true }
 else st.put (bs (wordsL.getD x.k.toNat ⟨#[]⟩))
def rtyp (ns : List Ne) : Nat → WT
 | 0, n, st => { st with bad := true }
 | f + 1, n, st =>
  if wstop ns (f + 1) n st then { st with bad := true }
  else if n < st.next then { (st.put (bs (ns.getD n.toNat neD).name)) with bad := decide ((ns.getD n.toNat neD).k < 9) }
  else rbody (rtyp ns f) (ns.getD n.toNat neD) { st with next := st.next + 1 }
def showR (ns : List Ne) : Option (List UInt8) :=
 let st := rtyp ns 20 0 ⟨[], 0, false⟩
 if st.bad = true ∨ st.next ≠ ns.length then none
 else
  let r := parseP ⟨st.s.toArray⟩
  if r.2.2 ≠ 0 ∨ r.1.map Nd.toE ≠ ns then none else some st.s
def Dm (st : WSt) : Prop := st.bad = true ∨ 4096 < st.s.length
theorem Dm.put {st : WSt} (h : Dm st) (t : List UInt8) : Dm (st.put t) := by
 rcases h with h | h
 ·exact .inl h
 ·right; rw [WSt.put_len]; omega
def Sync (a b : WSt) : Prop := a = b ∨ (Dm a ∧ Dm b)
theorem Sync.put {a b : WSt} (h : Sync a b) (t : List UInt8) : Sync (a.put t) (b.put t) := by
 rcases h with rfl | ⟨h, k⟩
 ·exact .inl rfl
 ·exact .inr ⟨h.put t, k.put t⟩
theorem WSt.put_put (st : WSt) (a b : List UInt8) : (st.put a).put b = st.put (a ++ b) := by simp [WSt.put]
def TD (T : WT) : Prop := ∀ n st, Dm st → Dm (T n st)
theorem wtyp_dm (ns : List Ne) (f : Nat) : TD (wtyp ns f) := fun n st h => by
 cases f with
 | zero => exact .inl rfl
 | succ f =>
  rw [wtyp, if_pos]
  ·exact .inl rfl
  ·rcases h with h | h
   ·exact .inl h
   ·exact .inr (.inr (.inr (.inr (.inr h))))
theorem rtyp_dm (ns : List Ne) (f : Nat) : TD (rtyp ns f) := fun n st h => by
 cases f with
 | zero => exact .inl rfl
 | succ f =>
  rw [rtyp, if_pos]
  ·exact .inl rfl
  ·rcases h with h | h
   ·exact .inl h
   ·exact .inr (.inr (.inr (.inr (.inr h))))
theorem wlist_dm {T : WT} (hT : TD T) : ∀ (b : Bool) (l : List Int) (st : WSt), Dm st → Dm (wlist T b l st)
 | _, [], st, h => h
 | b, n :: l, st, h => by
  rw [wlist]
  refine wlist_dm hT false l _ (hT _ _ ?_)
  split
  ·exact h
  ·exact h.put _
theorem rlist_dm {T : WT} (hT : TD T) : ∀ (b : Bool) (l : List Int) (st : WSt), Dm st → Dm (rlist T b l st)
 | _, [], st, h => h
 | b, n :: l, st, h => by
  rw [rlist]
  split
  ·exact h
  ·refine rlist_dm hT false l _ (hT _ _ ?_)
   split
   ·exact h
   ·exact h.put _
theorem wfield_dm {T : WT} (hT : TD T) (f : ByteArray × Bool × Int) (st : WSt) (h : Dm st) : Dm (wfield T f st) := by
 unfold wfield
 refine (hT _ _ (Dm.put ?_ _)).put _
 split
 ·exact (h.put _).put _
 ·exact h.put _
theorem wflds_dm {T : WT} (hT : TD T) : ∀ (l : List (ByteArray × Bool × Int)) (st : WSt), Dm st → Dm (wflds T l st)
 | [], st, h => h
 | f :: l, st, h => by rw [wflds]; exact wflds_dm hT l _ (wfield_dm hT f st h)
theorem rflds_dm {T : WT} (hT : TD T) : ∀ (l : List (ByteArray × Bool × Int)) (st : WSt), Dm st → Dm (rflds T l st)
 | [], st, h => h
 | f :: l, st, h => by
  rw [rflds]
  split
  ·exact h
  ·exact rflds_dm hT l _ (wfield_dm hT f st h)
section
variable {T U : WT}
def TSy (T U : WT) : Prop := ∀ n a b, Sync a b → Sync (T n a) (U n b)
theorem list_sync (h : TSy T U) (hT : TD T) (hU : TD U) : ∀ (first : Bool) (l : List Int) (a b : WSt), Sync a b → Sync (wlist T first l a) (rlist U first l b)
 | _, [], a, b, hs => hs
 | first, n :: l, a, b, hs => by
  rw [wlist, rlist]
  have h1 : Sync (if first = true then a else a.put [124]) (if first = true then b else b.put [124]) := by
   split
   ·exact hs
   ·exact hs.put _
  by_cases hbb : b.bad = true
  ·rw [if_pos hbb]
   have hb : Dm b := .inl hbb
   have ha : Dm a := by
    rcases hs with rfl | hs
    ·exact hb
    ·exact hs.1
   refine .inr ⟨?_, hb⟩
   refine wlist_dm hT false l _ (hT _ _ ?_)
   split
   ·exact ha
   ·exact ha.put _
  ·rw [if_neg hbb]
   exact list_sync h hT hU false l _ _ (h n _ _ h1)
theorem items_sync (h : TSy T U) (hT : TD T) (hU : TD U) (op : List UInt8) (l : List Int) (sh : List UInt8) (a b : WSt) (hs : Sync a b) : Sync (witems T op l sh a) (ritems U op l sh b) :=
 (list_sync h hT hU true l _ _ (hs.put op)).put sh
theorem field_sync (h : TSy T U) (f : ByteArray × Bool × Int) (a b : WSt) (hs : Sync a b) : Sync (wfield T f a) (wfield U f b) := by
 unfold wfield
 refine (h _ _ _ (Sync.put ?_ _)).put _
 split
 ·exact (hs.put _).put _
 ·exact hs.put _
theorem flds_sync (h : TSy T U) (hT : TD T) (hU : TD U) : ∀ (l : List (ByteArray × Bool × Int)) (a b : WSt), Sync a b → Sync (wflds T l a) (rflds U l b)
 | [], a, b, hs => hs
 | f :: l, a, b, hs => by
  rw [wflds, rflds]
  split
  ·next hb =>
   have hb : Dm b := .inl hb
   have ha : Dm a := by
    rcases hs with rfl | hs
    ·exact hb
    ·exact hs.1
   exact .inr ⟨wflds_dm hT l _ (wfield_dm hT f a ha), hb⟩
  ·exact flds_sync h hT hU l _ _ (field_sync h f a b hs)
theorem rsyms_dm : ∀ (first : Bool) (l : List ByteArray) (st : WSt), Dm st → Dm (rsyms first l st)
 | _, [], st, h => h
 | b, n :: l, st, h => by
  rw [rsyms]
  split
  ·exact h
  ·refine rsyms_dm false l _ (Dm.put ?_ _)
   split
   ·exact h
   ·exact h.put _
theorem syms_sync : ∀ (first : Bool) (l : List ByteArray) (a : WSt), Sync (a.put ((if first = true ∨ l = [] then [] else [44]) ++ ([44] : List UInt8).intercalate (l.map bs))) (rsyms first l a)
 | first, [], a => .inl (by simp [rsyms, WSt.put])
 | first, x :: l, a => by
  rw [rsyms]
  by_cases hbb : 4096 < a.s.length
  ·have hb : Dm a := .inr hbb
   rw [if_pos hbb]
   exact .inr ⟨hb.put _, hb⟩
  ·rw [if_neg hbb]
   have ih := syms_sync false l ((if first = true then a else a.put [44]).put (bs x))
   have e : a.put ((if first = true ∨ x :: l = [] then [] else [44]) ++ ([44] : List UInt8).intercalate ((x :: l).map bs)) = ((if first = true then a else a.put [44]).put (bs x)).put ((if false = true ∨ l = [] then [] else [44]) ++ ([44] : List UInt8).intercalate (l.map bs)) := by
    cases first <;> cases l <;> simp [WSt.put, List.intercalate]
   rw [e]
   exact ih
theorem enum_sync (x : Ne) (a b : WSt) (hs : Sync a b) : Sync (a.put (sEn ++ bs x.name ++ [60] ++ ([44] : List UInt8).intercalate (x.syms.map bs) ++ [62])) (renum x b) := by
 rcases hs with rfl | ⟨ha, hb⟩
 ·have h := (syms_sync true x.syms (((a.put sEn).put (bs x.name)).put [60])).put [62]
  have e : ((((a.put sEn).put (bs x.name)).put [60]).put ((if true = true ∨ x.syms = [] then [] else [44]) ++ ([44] : List UInt8).intercalate (x.syms.map bs))).put [62] = a.put (sEn ++ bs x.name ++ [60] ++ ([44] : List UInt8).intercalate (x.syms.map bs) ++ [62]) := by
   simp [WSt.put_put]
  rw [e] at h
  exact h
 ·exact .inr ⟨ha.put _, (rsyms_dm _ _ _ (((hb.put _).put _).put _)).put _⟩
theorem record_sync (h : TSy T U) (hT : TD T) (hU : TD U) (x : Ne) (a b : WSt) (hs : Sync a b) : Sync (wrecord T x a) (rrecord U x b) := by
 unfold wrecord rrecord
 refine (flds_sync h hT hU x.fields _ _ ?_).put _
 rw [show a.put (sRec ++ bs x.name ++ [123]) = ((a.put sRec).put (bs x.name)).put [123] by simp [WSt.put_put]]
 exact ((hs.put _).put _).put _
theorem body_sync (h : TSy T U) (hT : TD T) (hU : TD U) (x : Ne) (a b : WSt) (hs : Sync a b) (hz : 0 ≤ x.size ∧ x.size ≤ 4096) : Sync (wbody T x a) (rbody U x b) := by
 unfold wbody rbody
 split
 ·exact items_sync h hT hU _ _ _ _ _ hs
 ·split
  ·exact items_sync h hT hU _ _ _ _ _ hs
  ·split
   ·exact items_sync h hT hU _ _ _ _ _ hs
   ·split
    ·exact enum_sync x a b hs
    ·split
     ·unfold rfix digR
      rw [if_neg (by omega), WSt.put_put, WSt.put_put]
      have := hs.put (sFix ++ bs x.name ++ [32] ++ Lib.itoa x.size)
      simpa using this
     ·split
      ·exact record_sync h hT hU x a b hs
      ·split
       ·exact .inr ⟨.inl rfl, .inl rfl⟩
       ·exact hs.put _
end
theorem typ_sync (ns : List Ne) (hz : ∀ d ∈ ns, 0 ≤ d.size ∧ d.size ≤ 4096) : ∀ f, TSy (wtyp ns f) (rtyp ns f)
 | 0, n, a, b, hs => .inr ⟨.inl rfl, .inl rfl⟩
 | f + 1, n, a, b, hs => by
  rcases hs with rfl | ⟨ha, hb⟩
  ·rw [wtyp, rtyp]
   split
   ·exact .inl rfl
   ·next hst =>
    split
    ·exact .inl rfl
    ·have hx : ns.getD n.toNat neD ∈ ns := by
      unfold wstop at hst
      simp only [not_or, Int.not_lt, Int.not_le] at hst
      have hlt : n.toNat < ns.length := by omega
      rw [List.getD, List.getElem?_eq_getElem hlt]
      exact List.getElem_mem hlt
     exact body_sync (typ_sync ns hz f) (wtyp_dm ns f) (rtyp_dm ns f) _ _ _ (.inl rfl) (hz _ hx)
  ·exact .inr ⟨wtyp_dm ns _ n a ha, rtyp_dm ns _ n b hb⟩
theorem parse_long {s : List UInt8} (h : 4096 < s.length) : (parseP ⟨s.toArray⟩).2.2 ≠ 0 := by
 have hs : 4096 < (⟨s.toArray⟩ : ByteArray).size := by simpa [ByteArray.size] using h
 unfold parseP
 cases hw : words ⟨s.toArray⟩ with
 | some r =>
  obtain ⟨p, er⟩ := r
  rcases words_er hw with rfl | rfl <;> simp
 | none =>
  have := (words_ok hw).1
  omega
theorem show_dm {ns : List Ne} {st : WSt} (h : Dm st) (o : Option (List UInt8)) (ho : o = if st.bad = true ∨ st.next ≠ ns.length then none else if (parseP ⟨st.s.toArray⟩).2.2 ≠ 0 ∨ (parseP ⟨st.s.toArray⟩).1.map Nd.toE ≠ ns then none else some st.s) : o = none := by
 rw [ho]
 rcases h with h | h
 ·rw [if_pos (.inl h)]
 ·split
  ·rfl
  ·rw [if_pos (.inl (parse_long h))]
theorem show_szs {ns : List Ne} {st : WSt} {t : List UInt8} (h : (if st.bad = true ∨ st.next ≠ ns.length then none else if (parseP ⟨st.s.toArray⟩).2.2 ≠ 0 ∨ (parseP ⟨st.s.toArray⟩).1.map Nd.toE ≠ ns then none else some st.s) = some t) : ∀ d ∈ ns, 0 ≤ d.size ∧ d.size ≤ 4096 := by
 split at h
 ·cases h
 ·split at h
  ·cases h
  ·next hn =>
   simp only [not_or, ne_eq, Decidable.not_not] at hn
   intro d hd
   rw [← hn.2] at hd
   obtain ⟨e, he, rfl⟩ := List.mem_map.1 hd
   exact parse_sizes _ e he
theorem show_r (ns : List Ne) : showR ns = showP ns := by
 by_cases hz : ∀ d ∈ ns, 0 ≤ d.size ∧ d.size ≤ 4096
 ·rcases typ_sync ns hz 20 0 ⟨[], 0, false⟩ ⟨[], 0, false⟩ (.inl rfl) with h | ⟨h, k⟩
  ·unfold showR showP
   rw [h]
  ·rw [show_dm (ns := ns) h (showP ns) rfl, show_dm (ns := ns) k (showR ns) rfl]
 ·have h1 : showP ns = none := by
   cases h : showP ns with
   | none => rfl
   | some t => exact absurd (show_szs h) hz
  have h2 : showR ns = none := by
   cases h : showR ns with
   | none => rfl
   | some t => exact absurd (show_szs h) hz
  rw [h1, h2]
/- how long it can become -/
section
variable {ns : List Ne} {B : Nat}
theorem rlist_gr {T : WT} (h : GT ns B T) : ∀ (b : Bool) (l : List Int) (st : WSt), st.next ≤ ns.length → Gr ns B l.length st (rlist T b l st)
 | _, [], st, hn => ⟨Nat.le_refl _, hn, by rw [rlist]; omega⟩
 | b, n :: l, st, hn => by
  rw [rlist]
  split
  ·exact ⟨Nat.le_refl _, hn, by omega⟩
  ·have h1 : Gr ns B 1 st (if b then st else st.put [124]) := by
    split
    ·exact ⟨Nat.le_refl _, hn, by omega⟩
    ·exact Gr.put hn [124]
   have h2 := h n _ h1.top
   exact ((h1.trans h2).trans (rlist_gr h false l _ h2.top)).le (by simp only [List.length_cons]; omega)
theorem ritems_gr {T : WT} (h : GT ns B T) (op : List UInt8) (l : List Int) (sh : List UInt8) (st : WSt) (hn : st.next ≤ ns.length) : Gr ns B (op.length + l.length + sh.length) st (ritems T op l sh st) := by
 unfold ritems
 have h1 := Gr.put (B := B) hn op
 have h2 := rlist_gr h true l _ h1.top
 exact (h1.trans h2).trans (Gr.put h2.top sh)
theorem rflds_gr {T : WT} (h : GT ns B T) : ∀ (l : List (ByteArray × Bool × Int)) (st : WSt), st.next ≤ ns.length → Gr ns B (l.map fun f => f.1.size + 3).sum st (rflds T l st)
 | [], st, hn => ⟨Nat.le_refl _, hn, by rw [rflds]; omega⟩
 | f :: l, st, hn => by
  rw [rflds]
  split
  ·exact ⟨Nat.le_refl _, hn, by omega⟩
  ·have h1 := wfield_gr h f st hn
   exact (h1.trans (rflds_gr h l _ h1.top)).le (by simp)
theorem rsyms_gr : ∀ (b : Bool) (l : List ByteArray) (st : WSt), st.next ≤ ns.length → Gr ns B (l.map fun s => s.size + 1).sum st (rsyms b l st)
 | _, [], st, hn => ⟨Nat.le_refl _, hn, by rw [rsyms]; omega⟩
 | b, x :: l, st, hn => by
  rw [rsyms]
  split
  ·exact ⟨Nat.le_refl _, hn, by omega⟩
  ·have h1 : Gr ns B 1 st (if b then st else st.put [44]) := by
    split
    ·exact ⟨Nat.le_refl _, hn, by omega⟩
    ·exact Gr.put hn [44]
   have h2 := h1.trans (Gr.put h1.top (bs x))
   exact (h2.trans (rsyms_gr false l _ h2.top)).le (by simp only [List.map_cons, List.sum_cons, bs_len]; omega)
theorem digR_len (n : Int) (hz : -9223372036854775808 ≤ n ∧ n ≤ 9223372036854775807) : (digR n).length ≤ 21 := by
 unfold digR
 split
 ·simp
 ·exact Lib.itoa_length_le n hz.1 hz.2
theorem rbody_gr {T : WT} (h : GT ns B T) (x : Ne) (st : WSt) (hn : st.next ≤ ns.length) (hz : -9223372036854775808 ≤ x.size ∧ x.size ≤ 9223372036854775807) : Gr ns B (nodeW x) st (rbody T x st) := by
 unfold rbody
 have hi : ∀ (a b : UInt8), Gr ns B (nodeW x) st (ritems T [a] x.items [b] st) := fun a b => (ritems_gr h _ _ _ st hn).le (by unfold nodeW; simp only [List.length_cons, List.length_nil]; omega)
 split
 ·exact hi _ _
 ·split
  ·exact hi _ _
  ·split
   ·exact hi _ _
   ·split
    ·unfold renum
     have h1 := Gr.put (B := B) hn sEn
     have h2 := h1.trans (Gr.put h1.top (bs x.name))
     have h3 := h2.trans (Gr.put h2.top [60])
     have h4 := h3.trans (rsyms_gr true x.syms _ h3.top)
     refine (h4.trans (Gr.put h4.top [62])).le ?_
     unfold nodeW
     simp only [bs_len, sEn, List.length_cons, List.length_nil]
     omega
    ·split
     ·unfold rfix
      have h1 := Gr.put (B := B) hn sFix
      have h2 := h1.trans (Gr.put h1.top (bs x.name))
      refine (h2.trans (Gr.put h2.top _)).le ?_
      have := digR_len x.size hz
      unfold nodeW
      simp only [List.length_append, bs_len, sFix, List.length_cons, List.length_nil]
      omega
     ·split
      ·unfold rrecord
       have h1 := Gr.put (B := B) hn sRec
       have h2 := h1.trans (Gr.put h1.top (bs x.name))
       have h3 := h2.trans (Gr.put h2.top [123])
       have h4 := h3.trans (rflds_gr h x.fields _ h3.top)
       refine (h4.trans (Gr.put h4.top [125])).le ?_
       unfold nodeW
       simp only [bs_len, sRec, List.length_cons, List.length_nil]
       omega
      ·split
       ·exact ⟨Nat.le_refl _, hn, by show max st.s.length B + wsum ns st.next ≤ max st.s.length B + nodeW x + wsum ns st.next; omega⟩
       ·refine (Gr.put hn _).le ?_
        next h1 h2 h3 h4 h5 h6 h7 =>
        have hk : x.k.toNat < 12 := by omega
        have : ∀ k, k < 12 → (bs (wordsL.getD k ⟨#[]⟩)).length ≤ 6 := by decide
        have := this _ hk
        unfold nodeW
        omega
theorem rtyp_gr (hB : ∀ d ∈ ns, 4096 + d.name.size ≤ B) (hz : ∀ d ∈ ns, -9223372036854775808 ≤ d.size ∧ d.size ≤ 9223372036854775807) : ∀ f, GT ns B (rtyp ns f)
 | 0, n, st, hn => ⟨Nat.le_refl _, hn, by rw [rtyp]; simp⟩
 | f + 1, n, st, hn => by
  rw [rtyp]
  split
  ·exact ⟨Nat.le_refl _, hn, by simp⟩
  ·next hs =>
   unfold wstop at hs
   simp only [not_or, Int.not_lt, Int.not_le, Nat.not_lt] at hs
   obtain ⟨h1, h2, h3, h4, h5, h6⟩ := hs
   obtain ⟨m, rfl⟩ : ∃ m : Nat, n = m := ⟨n.toNat, by omega⟩
   have hm : m < ns.length := by omega
   have hg : ns.getD m neD = ns[m] := by rw [List.getD, List.getElem?_eq_getElem hm]; rfl
   have hmem : ns[m] ∈ ns := List.getElem_mem hm
   rw [Int.toNat_natCast, hg]
   split
   ·refine ⟨Nat.le_refl _, hn, ?_⟩
    show max (st.put _).s.length B + wsum ns st.next ≤ max st.s.length B + 0 + wsum ns st.next
    rw [WSt.put_len, bs_len]
    have := hB _ hmem
    omega
   ·next hlt =>
    obtain rfl : m = st.next := by omega
    have hb := rbody_gr (rtyp_gr hB hz f) ns[st.next] { st with next := st.next + 1 } (by show st.next + 1 ≤ _; omega) (hz _ hmem)
    have e := wsum_succ (ns := ns) (k := st.next) (List.getElem?_eq_getElem hm)
    refine ⟨by have := hb.up; simp only at this; omega, hb.top, ?_⟩
    have := hb.len
    simp only at this
    rw [e] at this
    omega
end
def showRLen (ns : List Ne) : Nat := (rtyp ns 20 0 ⟨[], 0, false⟩).s.length
theorem showR_bound {ns : List Ne} (hb : Args.schB ns ≤ 1048576) (hz : ∀ d ∈ ns, -9223372036854775808 ≤ d.size ∧ d.size ≤ 9223372036854775807) : showRLen ns ≤ 100000000 := by
 have hM : ∀ d ∈ ns, 4096 + d.name.size ≤ 2000000 := fun d hd => by
  have := sum_mem (ns.map Args.nodeB) (Args.nodeB d) (List.mem_map_of_mem hd)
  unfold Args.schB at hb
  have : d.name.size ≤ Args.nodeB d := by unfold Args.nodeB; omega
  omega
 have h := rtyp_gr hM hz 20 0 ⟨[], 0, false⟩ (Nat.zero_le _)
 have h1 := h.len
 have h2 := wsum_mono ns h.top
 have h3 : wsum ns ns.length ≤ 40 * Args.schB ns := by
  unfold wsum Args.schB
  rw [List.take_length]
  exact sum_nodeW ns
 show (rtyp ns 20 0 ⟨[], 0, false⟩).s.length ≤ _
 have h4 : ([] : List UInt8).length = 0 := rfl
 simp only [List.length_nil] at h1
 omega
theorem rlist_len {T : WT} (h : WG T) : ∀ (b : Bool) (l : List Int) (st : WSt), st.s.length ≤ (rlist T b l st).s.length
 | _, [], st => Nat.le_refl _
 | b, n :: l, st => by
  rw [rlist]
  split
  ·exact Nat.le_refl _
  ·refine Nat.le_trans ?_ (rlist_len h false l _)
   refine Nat.le_trans ?_ (h n _)
   split
   ·exact Nat.le_refl _
   ·rw [WSt.put_len]; omega
theorem rflds_len {T : WT} (h : WG T) : ∀ (l : List (ByteArray × Bool × Int)) (st : WSt), st.s.length ≤ (rflds T l st).s.length
 | [], st => Nat.le_refl _
 | f :: l, st => by
  rw [rflds]
  split
  ·exact Nat.le_refl _
  ·exact Nat.le_trans (wfield_len h f st) (rflds_len h l _)
theorem rsyms_len : ∀ (b : Bool) (l : List ByteArray) (st : WSt), st.s.length ≤ (rsyms b l st).s.length
 | _, [], st => Nat.le_refl _
 | b, x :: l, st => by
  rw [rsyms]
  split
  ·exact Nat.le_refl _
  ·refine Nat.le_trans ?_ (rsyms_len false l _)
   rw [WSt.put_len]
   split
   ·omega
   ·rw [WSt.put_len]; omega
theorem rbody_len {T : WT} (h : WG T) (x : Ne) (st : WSt) : st.s.length ≤ (rbody T x st).s.length := by
 unfold rbody
 have hi : ∀ (a b : UInt8), st.s.length ≤ (ritems T [a] x.items [b] st).s.length := fun a b => by
  unfold ritems
  rw [WSt.put_len]
  have := rlist_len h true x.items (st.put [a])
  rw [WSt.put_len] at this
  omega
 split
 ·exact hi _ _
 ·split
  ·exact hi _ _
  ·split
   ·exact hi _ _
   ·split
    ·unfold renum
     rw [WSt.put_len]
     have := rsyms_len true x.syms (((st.put sEn).put (bs x.name)).put [60])
     rw [WSt.put_len, WSt.put_len, WSt.put_len] at this
     omega
    ·split
     ·unfold rfix; rw [WSt.put_len, WSt.put_len, WSt.put_len]; omega
     ·split
      ·unfold rrecord
       rw [WSt.put_len]
       have := rflds_len h x.fields (((st.put sRec).put (bs x.name)).put [123])
       rw [WSt.put_len, WSt.put_len, WSt.put_len] at this
       omega
      ·split
       ·exact Nat.le_refl _
       ·rw [WSt.put_len]; omega
theorem rtyp_len (ns : List Ne) : ∀ f, WG (rtyp ns f)
 | 0, n, st => Nat.le_refl _
 | f + 1, n, st => by
  rw [rtyp]
  split
  ·exact Nat.le_refl _
  ·split
   ·show _ ≤ (st.put _).s.length
    rw [WSt.put_len]; omega
   ·exact rbody_len (rtyp_len ns f) _ { st with next := st.next + 1 }
end Go.Proofs.YtbpfabhlngfciaaGreatDoor.Pr
namespace Go.Proofs.YtbpfabhlngfciaaGreatDoor.Pr
open Go.ChangeShapes Go.WideShapes Go.ChangeAt Go.RowKit
open Base Lx Mi
def refL : List ByteArray := [sNull, sBool, sInt, sLong, sBytes, sText, cSqO, cCuO, cPaO, sEnum, sFixed, sRecord]
def refKw (s : ByteArray) : Bool := decide (0 ≤ idxOf refL s) && (decide (idxOf refL s < 6) || decide (8 < idxOf refL s))
theorem idxOf_mem {l : List ByteArray} {s : ByteArray} : 0 ≤ idxOf l s ↔ s ∈ l := by
 have h := idxOf_in l s
 constructor
 ·intro h0
  rw [decide_eq_true h0] at h
  simpa using h.symm
 ·intro hm
  have : (l.any fun y => decide (y = s)) = true := by simpa using hm
  rw [this] at h
  simpa using h
theorem kw_eq (s : ByteArray) : kwP s = refKw s := by
 by_cases h : s ∈ refL
 ·simp only [refL, List.mem_cons, List.not_mem_nil, or_false] at h
  rcases h with rfl | rfl | rfl | rfl | rfl | rfl | rfl | rfl | rfl | rfl | rfl | rfl <;> decide +kernel
 ·have h1 : ¬ 0 ≤ idxOf refL s := fun e => h (idxOf_mem.1 e)
  have h2 : refKw s = false := by simp [refKw, h1]
  rw [h2]
  unfold kwP
  by_cases h3 : 0 ≤ idxOf wordsL s
  ·have h4 := idxOf_mem.1 h3
   simp only [wordsL, List.mem_cons, List.not_mem_nil, or_false] at h4
   simp only [refL, List.mem_cons, List.not_mem_nil, or_false, not_or] at h
   have : s = ⟨#[]⟩ := by
    rcases h4 with e | e | e | e | e | e | e | e | e | e | e | e
    ·exact absurd e h.1
    ·exact absurd e h.2.1
    ·exact absurd e h.2.2.1
    ·exact absurd e h.2.2.2.1
    ·exact absurd e h.2.2.2.2.1
    ·exact absurd e h.2.2.2.2.2.1
    ·exact e
    ·exact e
    ·exact e
    ·exact absurd e h.2.2.2.2.2.2.2.2.2.1
    ·exact absurd e h.2.2.2.2.2.2.2.2.2.2.1
    ·exact absurd e h.2.2.2.2.2.2.2.2.2.2.2
   simp [this]
  ·simp [h3]
theorem word_any (s : ByteArray) (w : World) : Calls Tryz.prog 73 #[.string s] w fun e w' => e = .returned (.int .i64 (idxOf refL s)) ∧ Ext w w' := by
 obtain ⟨R, hR⟩ : ∃ R, Hid (idxOf refL s = R) := ⟨_, Lib.hid rfl⟩
 rw [hR.out]
 obtain ⟨w1, hw1⟩ : ∃ z, Hid (w.alloc (.cells (txs refL).toArray 9) = z) := ⟨_, Lib.hid rfl⟩
 have hx1 : Ext w w1 := by rw [← hw1.out]; exact (Ext.refl w).alloc _
 have hr1 : Rd w1 (some ⟨w.heap.size, 0, none⟩) (txs refL) := by rw [← hw1.out]; exact Rd.of_block w 9 (0, 0) rfl
 obtain ⟨q, hq⟩ : ∃ z, Hid (w.heap.size = z) := ⟨_, rfl⟩
 rw [hq.out] at hr1
 have hw2 : Hid (w.alloc (.cells #[.string ⟨#[110, 117, 108, 108]⟩, .string ⟨#[98, 111, 111, 108]⟩, .string ⟨#[105, 110, 116]⟩, .string ⟨#[108, 111, 110, 103]⟩, .string ⟨#[98, 121, 116, 101, 115]⟩, .string ⟨#[116, 101, 120, 116]⟩, .string ⟨#[91]⟩, .string ⟨#[123]⟩, .string ⟨#[40]⟩, .string ⟨#[101, 110, 117, 109]⟩, .string ⟨#[102, 105, 120, 101, 100]⟩, .string ⟨#[114, 101, 99, 111, 114, 100]⟩] 9) = w1) := hw1
 clear hw1
 go_enter Tryz.func73, Tryz.ntmps73
 go_wp2_with fail
 rw [hw2.out, hq.out]
 go_loopw [4, 6, 7, 8, 9, 10, 11, 12, 13, 14, 15, 16, 17, 18] (fun v4 v6 v7 v8 v9 v10 v11 v12 v13 v14 v15 v16 v17 v18 wr => ∃ i : Nat, i ≤ 12 ∧ v4 = .int .i64 i ∧ NoAt refL i s ∧ wr = w1) (fun v4 _ _ _ _ _ _ _ _ _ _ _ _ _ _ => 12 - (intOf v4).toNat)
 case atStart => exact ⟨0, by omega, rfl, NoAt.zero refL s, rfl⟩
 case round =>
  obtain ⟨i, hi, rfl, h1, rfl⟩ := hrel
  by_cases hin : i < 12
  ·have hin' : (i : Int) < 12 := by omega
   obtain ⟨x, hxe⟩ : ∃ x, refL[i]? = some x := ⟨_, List.getElem?_eq_getElem (by show i < 12; exact hin)⟩
   have hxz : (txs refL)[i]? = some (.string x) := by unfold txs; rw [List.getElem?_map, hxe]; rfl
   obtain ⟨b0, o0, e0, hc0⟩ := hr1 (by simp [txs, refL])
   simp only [Option.some.injEq, Addr.mk.injEq, and_true] at e0
   obtain ⟨rfl, rfl⟩ := e0
   have hck : wr.cell? ⟨q, i, none⟩ = some (.string x) := by have := hc0 i _ hxz; rwa [Nat.zero_add] at this
   clear hc0 hxz
   by_cases he : x = s
   ·subst he
    have hq := idxOf_at hxe h1
    rw [hR.out] at hq
    subst hq
    clear hxe
    go_wp2_with fail
    go_ret
    exact ⟨rfl, hx1⟩
   ·have hbq := str_ne he
    have h2 := h1.next hxe he
    clear hxe
    go_wp2_with fail
    go_roundw
    case rel => exact ⟨i + 1, by omega, by go_num, h2, by first | rfl | trivial⟩
    case measure => simp [intOf]; omega
  ·obtain rfl : i = 12 := by omega
   have hq : R = -1 := by
    rw [← hR.out]
    exact idxOf_none fun j x hx => h1 j x (by have := (List.getElem?_eq_some_iff.1 hx).1; exact this) hx
   subst hq
   go_wp2_with fail
   go_ret
   exact ⟨rfl, hx1⟩
theorem refKeyword_any (s : ByteArray) (w : World) : Calls Tryz.prog 103 #[.string s] w fun e w' => e = .returned (.bool (refKw s)) ∧ Ext w w' := by
 have hc := word_any s w
 obtain ⟨k, hk⟩ : ∃ k, Hid (idxOf refL s = k) := ⟨_, Lib.hid rfl⟩
 have hr : refKw s = (decide (0 ≤ k) && (decide (k < 6) || decide (8 < k))) := by rw [← hk.out]; rfl
 rw [hk.out] at hc
 rw [hr]
 clear hr
 by_cases h0 : 0 ≤ k
 ·by_cases h6 : k < 6
  ·rw [show (decide (0 ≤ k) && (decide (k < 6) || decide (8 < k))) = true by simp [h0, h6]]
   go_enter Tryz.func103, Tryz.ntmps103
   go_wp2_with fail
   refine hc.mono ?_
   rintro e w2 ⟨rfl, hx⟩
   go_wp2_with fail
   go_ret
   exact ⟨by first | rfl | simp [*], hx⟩
  ·by_cases h8 : 8 < k
   ·rw [show (decide (0 ≤ k) && (decide (k < 6) || decide (8 < k))) = true by simp [h0, h8]]
    go_enter Tryz.func103, Tryz.ntmps103
    go_wp2_with fail
    refine hc.mono ?_
    rintro e w2 ⟨rfl, hx⟩
    go_wp2_with fail
    go_ret
    exact ⟨by first | rfl | simp [*], hx⟩
   ·rw [show (decide (0 ≤ k) && (decide (k < 6) || decide (8 < k))) = false by simp [h6, h8]]
    go_enter Tryz.func103, Tryz.ntmps103
    go_wp2_with fail
    refine hc.mono ?_
    rintro e w2 ⟨rfl, hx⟩
    go_wp2_with fail
    go_ret
    exact ⟨by first | rfl | simp [*], hx⟩
 ·rw [show (decide (0 ≤ k) && (decide (k < 6) || decide (8 < k))) = false by simp [h0]]
  go_enter Tryz.func103, Tryz.ntmps103
  go_wp2_with fail
  refine hc.mono ?_
  rintro e w2 ⟨rfl, hx⟩
  go_wp2_with fail
  go_ret
  exact ⟨by first | rfl | simp [*], hx⟩
end Go.Proofs.YtbpfabhlngfciaaGreatDoor.Pr
namespace Go.Proofs.YtbpfabhlngfciaaGreatDoor.Pr
open Lx
structure QS where
 at_ : Nat
 ns : List Nd
 why : Nat
 bad : Nat
def tkQ (L : List Tok) (q : QS) : Tok := L.getD q.at_ ⟨3, ⟨#[]⟩, 0⟩
def badQ (L : List Tok) (q : QS) (b : Bool) (e : Nat) : QS := if b = true ∧ q.why = 0 then { q with why := e, bad := (tkQ L q).a } else q
def onQ (L : List Tok) (q : QS) : QS := if q.why = 0 ∧ q.at_ + 1 < L.length then { q with at_ := q.at_ + 1 } else q
def hereQ (L : List Tok) (q : QS) (x : ByteArray) : Bool := decide ((tkQ L q).k = 2) && decide ((tkQ L q).s = x)
def signQ (L : List Tok) (q : QS) (x : ByteArray) : QS := onQ L (badQ L q (!hereQ L q x) 4)
def calledN (ns : List Nd) (x : ByteArray) : Option Nat := ns.findIdx? fun d => decide (9 ≤ d.k) && decide (d.name = x)
def optI : Option Nat → Int
 | some n => (n : Int)
 | none => -1
def nameQ (L : List Tok) (q : QS) : QS := badQ L q (decide ((tkQ L q).k ≠ 0) || !nameP (tkQ L q).s || refKw (tkQ L q).s) 4
def sameQ (ns : List Nd) (l : List Nat) (k n : Int) : Bool := l.any fun (m : Nat) => decide ((m : Int) = n) || (decide (0 ≤ k) && decide (k < 9) && decide (ns[m]?.map (·.k) = some k))
def QS.setN (q : QS) (n : Nat) (f : Nd → Nd) : QS := { q with ns := q.ns.modify n f }
def QS.nd (q : QS) (n : Nat) : Nd := q.ns.getD n (Nd.ofKind 0)
abbrev QT := Bool → List Nat → QS → Nat × QS
def itemQ (L : List Tok) (T : QT) (n : Nat) (sh : ByteArray) (q : QS) : QS := signQ L ((T false [] q).2.setN n fun d => { d with items := [(T false [] q).1] }) sh
def allQ (L : List Tok) (T : QT) (n : Nat) : Nat → QS → QS
 | 0, q => q
 | m + 1, q => if q.why ≠ 0 then q else
  if hereQ L ((T true (q.nd n).items q).2.setN n fun d => { d with items := d.items ++ [(T true (q.nd n).items q).1] }) cPaC = true
  then onQ L ((T true (q.nd n).items q).2.setN n fun d => { d with items := d.items ++ [(T true (q.nd n).items q).1] })
  else allQ L T n m (signQ L ((T true (q.nd n).items q).2.setN n fun d => { d with items := d.items ++ [(T true (q.nd n).items q).1] }) cBar)
def symQ (L : List Tok) (n : Nat) (q : QS) : QS :=
 onQ L ((badQ L (nameQ L q) ((q.nd n).syms.any fun y => decide (y = (tkQ L q).s)) 6).setN n fun d => { d with syms := d.syms ++ [(tkQ L q).s] })
def symsQ (L : List Tok) (n : Nat) : Nat → QS → QS
 | 0, q => q
 | m + 1, q => if q.why ≠ 0 then q else
  if hereQ L (symQ L n q) cGt = true then onQ L (symQ L n q) else symsQ L n m (signQ L (symQ L n q) cCom)
def fldA (L : List Tok) (n : Nat) (q : QS) : QS := onQ L (badQ L (nameQ L q) ((q.nd n).fields.any fun f => decide (f.1 = (tkQ L q).s)) 6)
def fldQ (L : List Tok) (n : Nat) (q : QS) : QS := signQ L (if hereQ L (fldA L n q) cQ = true then onQ L (fldA L n q) else fldA L n q) cCol
def fieldsQ (L : List Tok) (T : QT) (n : Nat) : Nat → QS → QS
 | 0, q => q
 | m + 1, q => if q.why ≠ 0 ∨ hereQ L q cCuC = true then signQ L q cCuC else
  if (fldQ L n q).why ≠ 0 then fldQ L n q else
  fieldsQ L T n m ((signQ L (T false [] (fldQ L n q)).2 cSem).setN n fun d => { d with fields := d.fields ++ [((tkQ L q).s, hereQ L (fldA L n q) cQ, (T false [] (fldQ L n q)).1)] })
def defQ (L : List Tok) (n : Nat) (q : QS) : QS := onQ L ((badQ L (nameQ L q) ((calledN q.ns (tkQ L q).s).isSome) 6).setN n fun d => { d with name := (tkQ L q).s })
def sizeQ (L : List Tok) (n : Nat) (q : QS) : QS := onQ L ((badQ L q (decide ((tkQ L q).k ≠ 1) || (numO (tkQ L q).s.data.toList).isNone) 4).setN n fun d => { d with size := (((numO (tkQ L q).s.data.toList).getD 0 : Nat) : Int) })
def definedQ (L : List Tok) (T : QT) (n : Nat) (k : Int) (q : QS) : QS :=
 if k = 10 then sizeQ L n (defQ L n q)
 else if k = 11 then fieldsQ L T n L.length (signQ L (defQ L n q) cCuO)
 else symsQ L n L.length (signQ L (defQ L n q) cLt)
def kOf (t : Tok) : Int := if t.k = 0 ∨ t.k = 2 then idxOf refL t.s else -1
def gate1 (L : List Tok) (q : QS) : QS := if kOf (tkQ L q) < 0 then nameQ L q else q
def calledQ (L : List Tok) (q : QS) : Int := if kOf (tkQ L q) < 0 then optI (calledN q.ns (tkQ L q).s) else -1
def gateQ (L : List Tok) (fuel : Nat) (union : Bool) (l : List Nat) (q : QS) : QS :=
 badQ L (badQ L (badQ L (badQ L (gate1 L q) (decide (fuel = 0) || (decide (0 ≤ kOf (tkQ L q)) && decide (200 ≤ q.ns.length))) 2)
  (decide (kOf (tkQ L q) < 0) && decide (calledQ L q < 0)) 5) (union && decide (kOf (tkQ L q) = 8)) 4)
  (union && sameQ q.ns l (kOf (tkQ L q)) (calledQ L q) && (decide (0 ≤ kOf (tkQ L q)) || decide (0 ≤ calledQ L q))) 6
def newQ (L : List Tok) (k : Int) (q : QS) : QS := { onQ L q with ns := q.ns ++ [Nd.ofKind k] }
def restQ (L : List Tok) (T : QT) (k : Int) (n : Nat) (q : QS) : QS :=
 if k = 6 then itemQ L T n cSqC q else if k = 7 then itemQ L T n cCuC q else if k = 8 then allQ L T n L.length q
 else if k = 9 ∨ k = 10 ∨ k = 11 then definedQ L T n k q else q
def typedQ (L : List Tok) : Nat → QT
 | 0, union, l, q => (0, gateQ L 0 union l q)
 | fuel + 1, union, l, q =>
  if (gateQ L (fuel + 1) union l q).why ≠ 0 then (0, gateQ L (fuel + 1) union l q)
  else if kOf (tkQ L q) < 0 then ((calledQ L q).toNat, onQ L (gateQ L (fuel + 1) union l q))
  else (q.ns.length, restQ L (typedQ L fuel) (kOf (tkQ L q)) q.ns.length (newQ L (kOf (tkQ L q)) (gateQ L (fuel + 1) union l q)))
def parseQ (s : ByteArray) : List Nd × Int × Int := match words s with
 | some (p, er) => ([], p, er)
 | none => let r := (typedQ (toks s) 20 false [] ⟨0, [], 0, 0⟩).2
  let r2 := badQ (toks s) r (decide ((tkQ (toks s) r).k ≠ 3)) 4
  if r2.why ≠ 0 then ([], r2.bad, r2.why) else (r2.ns, 0, 0)
def tTry : List ByteArray := [tLive, ⟨#[91, 105, 110, 116, 93]⟩, ⟨#[40, 105, 110, 116, 124, 105, 110, 116, 41]⟩, ⟨#[101, 110, 117, 109, 32, 97, 60, 98, 44, 98, 62]⟩, ⟨#[102, 105, 120, 101, 100, 32, 97, 32, 52]⟩, ⟨#[123, 120, 125]⟩]
theorem try_same : tTry.map parseQ = tTry.map parseP := by decide +kernel
end Go.Proofs.YtbpfabhlngfciaaGreatDoor.Pr
