/- How a schema that came in reads; what bounds its text. -/
import Derived.Test.YtejcacbbhijdcaaDoorPaP
import Derived.ChangeSame
namespace Go.Proofs.YtejcacbbhijdcaaDoor.Args
open Go.ChangeShapes Go.WideShapes Go.ChangeAt Go.RowKit
open Base Pr
set_option linter.unusedVariables false
set_option linter.unusedSimpArgs false

def fldB (f : ByteArray × Bool × Int) : Nat := f.1.size + 4
def nodeB (d : Ne) : Nat := d.name.size + (d.syms.map fun s => s.size + 1).sum + d.items.length + (d.fields.map fldB).sum + 7
theorem sum_one {α : Type} (l : List α) : (l.map fun _ => 1).sum = l.length := by
  induction l with
  | nil => rfl
  | cons x l ih => simp [ih]; omega
theorem flat_one {α : Type} (l : List α) (f : α → Value) : (l.flatMap fun x => [f x]) = l.map f := by
  induction l with
  | nil => rfl
  | cons x l ih => rw [List.flatMap_cons, ih]; rfl
instance : Inhabited (Ne × V3) := ⟨(neD, v0)⟩
theorem cells_fld : Tryd.prog.cellsOf 70 = 3 := by kernel_rfl
theorem cells_node : Tryd.prog.cellsOf 40 = 6 := by kernel_rfl
theorem cells_sch : Tryd.prog.cellsOf 24 = 1 := by kernel_rfl
set_option maxRecDepth 100000 in
theorem rdr_fld {H : Type} {enc : TypeId × Value → H} {W : World} : Rdr enc Tryd.prog W 70 fldZ (fun f D => fldB f ≤ Rows.uptoBulk D) := by
  refine ⟨fun fuel cs D pl hf => ?_⟩
  obtain ⟨xs, m, _, hx, hl, hlen, hfs⟩ := DataW.trod_struct Tryd.underlying70 hf
  injection hx with hD _
  match xs, hlen with
  | [y0, y1, y2], _ =>
    have g0 := hfs 0 _ rfl
    have g1 := hfs 1 _ rfl
    have g2 := hfs 2 _ rfl
    have hl3 : cs.length = 3 := hl.trans cells_fld
    match cs, hl3 with
    | [c0, c1, c2], _ =>
      have g0 : DataW.trod enc Tryd.prog W 0 (fun _ => true) true m 9 [c0] = some y0 := g0
      have g1 : DataW.trod enc Tryd.prog W 0 (fun _ => true) true m 4 [c1] = some y1 := g1
      have g2 : DataW.trod enc Tryd.prog W 0 (fun _ => true) true m 3 [c2] = some y2 := g2
      obtain ⟨z0, e0, f0, _⟩ := (rdr_string Tryd.underlying9).rd _ _ _ _ g0
      obtain ⟨z1, e1, f1⟩ := (rdr_bool Tryd.underlying4).rd _ _ _ _ g1
      obtain ⟨z2, e2, f2, _⟩ := (rdr_int Tryd.underlying3).rd _ _ _ _ g2
      injection e0 with e0 _
      injection e1 with e1 _
      injection e2 with e2 _
      subst e0; subst e1; subst e2
      refine ⟨(z0, z1, z2), rfl, ?_⟩
      rw [hD]
      simp only [List.map_cons, List.map_nil, f0, f1, f2, Rows.uptoBulk, Rows.uptoBulkAll]
      have : z0.data.toList.length = z0.size := Array.length_toList
      show z0.size + 4 ≤ _
      omega
set_option maxRecDepth 100000 in
theorem rdr_node {H : Type} {enc : TypeId × Value → H} {W : World} : Rdr enc Tryd.prog W 40 (fun x : Ne × V3 => neC x.1 x.2) (fun x D => SubE W.heap.size W x.1 x.2 ∧ nodeB x.1 ≤ Rows.uptoBulk D) := by
  refine ⟨fun fuel cs D pl hf => ?_⟩
  obtain ⟨xs, m, _, hx, hl, hlen, hfs⟩ := DataW.trod_struct Tryd.underlying40 hf
  injection hx with hD _
  match xs, hlen with
  | [y0, y1, y2, y3, y4, y5], _ =>
    have g0 := hfs 0 _ rfl
    have g1 := hfs 1 _ rfl
    have g2 := hfs 2 _ rfl
    have g3 := hfs 3 _ rfl
    have g4 := hfs 4 _ rfl
    have g5 := hfs 5 _ rfl
    have hl6 : cs.length = 6 := hl.trans cells_node
    match cs, hl6 with
    | [c0, c1, c2, c3, c4, c5], _ =>
      have g0 : DataW.trod enc Tryd.prog W 0 (fun _ => true) true m 3 [c0] = some y0 := g0
      have g1 : DataW.trod enc Tryd.prog W 0 (fun _ => true) true m 9 [c1] = some y1 := g1
      have g2 : DataW.trod enc Tryd.prog W 0 (fun _ => true) true m 3 [c2] = some y2 := g2
      have g3 : DataW.trod enc Tryd.prog W 0 (fun _ => true) true m 36 [c3] = some y3 := g3
      have g4 : DataW.trod enc Tryd.prog W 0 (fun _ => true) true m 37 [c4] = some y4 := g4
      have g5 : DataW.trod enc Tryd.prog W 0 (fun _ => true) true m 38 [c5] = some y5 := g5
      obtain ⟨z0, e0, f0, _⟩ := (rdr_int Tryd.underlying3).rd _ _ _ _ g0
      obtain ⟨z1, e1, f1, _⟩ := (rdr_string Tryd.underlying9).rd _ _ _ _ g1
      obtain ⟨z2, e2, f2, w2⟩ := (rdr_int Tryd.underlying3).rd _ _ _ _ g2
      obtain ⟨⟨v3, l3⟩, e3, s3, f3⟩ := ((rdr_string Tryd.underlying9).slice (t := 36) (by kernel_rfl) (s := 1) (by kernel_rfl) (fun _ => rfl) (by omega)).rd _ _ _ _ g3
      obtain ⟨⟨v4, l4⟩, e4, s4, f4⟩ := ((rdr_int Tryd.underlying3).slice (t := 37) (by kernel_rfl) (s := 1) (by kernel_rfl) (fun _ => rfl) (by omega)).rd _ _ _ _ g4
      obtain ⟨⟨v5, l5⟩, e5, s5, f5⟩ := (rdr_fld.slice (t := 38) (by kernel_rfl) (s := 3) (by kernel_rfl) (fun _ => rfl) (by omega)).rd _ _ _ _ g5
      injection e0 with e0 _
      injection e1 with e1 _
      injection e2 with e2 _
      injection e3 with e3 _
      injection e4 with e4 _
      injection e5 with e5 _
      subst e0; subst e1; subst e2; subst e3; subst e4; subst e5
      have w2' : -9223372036854775808 ≤ z2 ∧ z2 ≤ 9223372036854775807 := by simpa [Lit.wf, IntKind.min, IntKind.max, IntKind.signed, IntKind.bits] using w2
      have q3 := flat_one l3 Value.string
      have q4 := flat_one l4 (Value.int .i64)
      simp only at s3 s4 s5 f3 f4 f5
      rw [q3] at s3
      rw [q4] at s4
      replace s3 : Sl W.heap.size W c3 l3.length (txs l3) := s3
      replace s4 : Sl W.heap.size W c4 l4.length (intsZ l4) := s4
      refine ⟨(⟨z0, z1, z2, l3, l4, l5⟩, (c3, c4, c5)), rfl, ⟨s3, s4, s5, w2'⟩, ?_⟩
      have b3 := f3.bulk (g := fun s : ByteArray => s.size + 1) (fun x d h => by rw [h.1]; simp only [Rows.uptoBulk]; have : x.data.toList.length = x.size := Array.length_toList; omega)
      have b4 := f4.bulk (g := fun _ : Int => 1) (fun x d h => by rw [h.1]; simp [Rows.uptoBulk])
      have b5 := f5.bulk (g := fldB) (fun x d h => h)
      rw [sum_one] at b4
      rw [hD]
      simp only [List.map_cons, List.map_nil, f0, f1, f2, Rows.uptoBulk, Rows.uptoBulkAll]
      show z1.size + (l3.map fun s => s.size + 1).sum + l4.length + (l5.map fldB).sum + 7 ≤ _
      have : z1.data.toList.length = z1.size := Array.length_toList
      omega
theorem nesC_zip : ∀ (l : List (Ne × V3)), l.flatMap (fun x => neC x.1 x.2) = nesC (l.map (·.1)) (l.map (·.2))
  | [] => rfl
  | x :: l => by rw [List.flatMap_cons, nesC_zip l]; rfl
/-- a schema's bulk -/
def schB (ns : List Ne) : Nat := (ns.map nodeB).sum
set_option maxRecDepth 100000 in
theorem sch_arg {H : Type} {enc : TypeId × Value → H} {W : World} {base : Nat} {v : Value} {d : DataW H} {p : List MemPlace} (hv : Value.okWide Tryd.prog W .any base 24 v) (h : DataW.Trod enc Tryd.prog W 0 (fun _ => true) true 24 v d p) :
    ∃ u ns, v = .agg #[u] ∧ Sch W.heap.size W u ns ∧ schB ns ≤ Rows.uptoBulk d := by
  obtain ⟨cs, rfl, hsz⟩ : ∃ cs, v = .agg cs ∧ cs.size = 1 := by
    unfold Value.okWide at hv
    rw [Tryd.underlying24] at hv
    obtain ⟨cs, h1, h2, _⟩ := hv
    exact ⟨cs, h1, h2.trans cells_sch⟩
  obtain ⟨u, rfl⟩ : ∃ u, cs = #[u] := by
    match cs, hsz with
    | ⟨[a]⟩, _ => exact ⟨a, rfl⟩
  obtain ⟨fuel, hf⟩ := h
  obtain ⟨y0, m, hx, _, g⟩ := trod_struct1 Tryd.underlying24 hf
  injection hx with hD _
  have g : DataW.trod enc Tryd.prog W 0 (fun _ => true) true m 22 [u] = some y0 := g
  obtain ⟨⟨v3, l3⟩, e3, s3, f3⟩ := (rdr_node.slice (t := 22) (by kernel_rfl) (s := 6) (by kernel_rfl) (fun _ => rfl) (by omega)).rd _ _ _ _ g
  injection e3 with e3 _
  subst e3
  simp only at s3 f3
  rw [nesC_zip] at s3
  refine ⟨u, l3.map (·.1), rfl, ⟨l3.map (·.2), by simp, by rw [List.length_map]; exact s3, fun i d v h1 h2 => ?_⟩, ?_⟩
  · rw [List.getElem?_map] at h1 h2
    cases hx : l3[i]? with
    | none => rw [hx] at h1; cases h1
    | some x =>
      rw [hx] at h1 h2
      injection h1 with h1
      injection h2 with h2
      subst h1; subst h2
      obtain ⟨d, hd⟩ := f3.all i x hx
      exact hd.1
  · have := f3.bulk (g := fun x => nodeB x.1) (fun x d h => h.2)
    rw [hD]
    simp only [Rows.uptoBulk, Rows.uptoBulkAll, schB, List.map_map, Function.comp_def]
    omega
end Go.Proofs.YtejcacbbhijdcaaDoor.Args
