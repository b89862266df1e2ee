/- parse: the document's copy of a schema: a node's lists. -/
import Derived.Test.YtejcacbbhijdcaaGreatDoorPzX
namespace Go.Proofs.YtejcacbbhijdcaaGreatDoor.Pr
open Go.ChangeShapes Go.WideShapes Go.ChangeAt Go.RowKit
open Base Lx Mi
set_option linter.unusedVariables false
set_option linter.unusedSimpArgs false

/-- what lies behind a node's slices, each our own -/
structure SubO (B : Nat) (w : World) (d : Ne) (v : V3) : Prop where
  syms : w.ownsRow B 9 1 v.1 d.syms.length (txs d.syms)
  items : w.ownsRow B 3 1 v.2.1 d.items.length (intsZ d.items)
  fields : w.ownsRow B 74 3 v.2.2 d.fields.length (fldsZ d.fields)
  rng : -9223372036854775808 ≤ d.size ∧ d.size ≤ 9223372036854775807
structure NeO (B : Nat) (w : World) (ns : List Ne) (vs : List V3) (vn : Value) : Prop where
  len : vs.length = ns.length
  row : w.ownsRow B 36 6 vn ns.length (nesC ns vs)
  sub : ∀ (i : Nat) d v, ns[i]? = some d → vs[i]? = some v → SubO B w d v
theorem SubO.ext {B : Nat} {w w' : World} {d : Ne} {v : V3} (h : SubO B w d v) (hx : Ext w w') : SubO B w' d v := ⟨own_ext h.syms hx, own_ext h.items hx, own_ext h.fields hx, h.rng⟩
theorem NeO.ext {B : Nat} {w w' : World} {ns : List Ne} {vs : List V3} {vn : Value} (h : NeO B w ns vs vn) (hx : Ext w w') : NeO B w' ns vs vn := ⟨h.len, own_ext h.row hx, fun i d v h1 h2 => (h.sub i d v h1 h2).ext hx⟩
theorem SubO.toE {B B' : Nat} {w : World} {d : Ne} {v : V3} (h : SubO B w d v) (hB : w.heap.size ≤ B') : SubE B' w d v := ⟨Sl.ofOwn h.syms hB, Sl.ofOwn h.items hB, Sl.ofOwn h.fields hB, h.rng⟩
theorem NeO.sch {B B' : Nat} {w : World} {ns : List Ne} {vs : List V3} {vn : Value} (h : NeO B w ns vs vn) (hB : w.heap.size ≤ B') : Sch B' w vn ns :=
  ⟨vs, h.len, Sl.ofOwn h.row hB, fun i d v h1 h2 => (h.sub i d v h1 h2).toE hB⟩
theorem nesC_snoc : ∀ (ns : List Ne) (vs : List V3) (d : Ne) (v : V3), vs.length = ns.length → nesC (ns ++ [d]) (vs ++ [v]) = nesC ns vs ++ neC d v
  | [], [], d, v, _ => by simp [nesC]
  | [], _ :: _, d, v, h => by simp at h
  | _ :: _, [], d, v, h => by simp at h
  | x :: ns, y :: vs, d, v, h => by
    simp only [List.cons_append, nesC]
    rw [nesC_snoc ns vs d v (by simpa using h), List.append_assoc]
theorem fldsZ_one (l : List (ByteArray × Bool × Int)) : ∀ u ∈ fldsZ l, u.oneCell' = true := by
  intro u hu
  obtain ⟨x, _, hx⟩ := List.mem_flatMap.1 hu
  simp only [fldZ, List.mem_cons, List.not_mem_nil, or_false] at hx
  rcases hx with rfl | rfl | rfl <;> rfl
theorem fldsZ_length (l : List (ByteArray × Bool × Int)) : (fldsZ l).length = l.length * 3 := by
  induction l with
  | nil => rfl
  | cons x l ih => rw [fldsZ, List.flatMap_cons, List.length_append]; unfold fldsZ at ih; rw [ih]; simp [fldZ]; omega
/-- rows of other types stay where a row of nodes, or a box of another type, is turned -/
theorem SubO.chg {S : Nat → Prop} {B : Nat} {w w' : World} {d : Ne} {v : V3} (h : SubO B w d v) (hx : Chg S w w') (h1 : ∀ k, v.1.ownBlock = some k → ¬ S k) (h2 : ∀ k, v.2.1.ownBlock = some k → ¬ S k) (h3 : ∀ k, v.2.2.ownBlock = some k → ¬ S k) : SubO B w' d v :=
  ⟨own_chg h.syms hx h1, own_chg h.items hx h2, own_chg h.fields hx h3, h.rng⟩
/-- not too long for a copy -/
def Len6 (d : Ne) : Prop := d.syms.length ≤ 1000000 ∧ d.items.length ≤ 1000000 ∧ d.fields.length ≤ 1000000

/-- the frame of Own's loop -/
abbrev ownA (q b1 o1 n c i q5 : Nat) (x : Ne) (As1 Ai1 Af1 : Option Addr) (cs1 ci1 cf1 : Nat) (u : Nat → Value) (v19 v20 v21 v22 v23 v24 v25 v26 v27 v28 v29 v30 v31 v32 v33 : Value) : Act := ⟨#[.agg #[.slice (some ⟨b1, o1, none⟩) n c], .pointer (some ⟨q, 0, none⟩), .pointer (some ⟨q + 1, 0, none⟩), .pointer (some ⟨q + 1 + 1, 0, none⟩), .int .i64 i, .pointer (some ⟨q5, 0, none⟩), .agg #[.slice none 0 0], .int .i64 i, .pointer (some ⟨q, 0, none⟩), .slice (some ⟨b1, o1, none⟩) n c, .int .i64 n, .bool true, u 12, u 13, .pointer (some ⟨q, 0, none⟩), .slice (some ⟨b1, o1, none⟩) n c, .int .i64 i, .pointer (some ⟨b1, o1 + i * 6, none⟩), .agg #[.int .i64 x.k, .string x.name, .int .i64 x.size, .slice As1 x.syms.length cs1, .slice Ai1 x.items.length ci1, .slice Af1 x.fields.length cf1], v19, v20, v21, v22, v23, v24, v25, v26, v27, v28, v29, v30, v31, v32, v33, u 34, u 35, u 36, u 37, u 38, u 39, undef], []⟩
set_option maxRecDepth 100000 in
set_option maxHeartbeats 400000 in
theorem own_lists {q b1 o1 n c i q5 B0 : Nat} {x : Ne} {As1 Ai1 Af1 : Option Addr} {cs1 ci1 cf1 : Nat} {u : Nat → Value} {wr w0 : World} {Q : Exit → Act → World → Prop} (hw0 : Ext wr w0) (hq5 : wr.heap.size = q5)
    (hb50 : Blk w0 q5 #[.int .i64 x.k, .string x.name, .int .i64 x.size, .slice As1 x.syms.length cs1, .slice Ai1 x.items.length ci1, .slice Af1 x.fields.length cf1] 36) (hs0 : w0.heap.size = q5 + 1) (hsz : q + 3 ≤ q5)
    (r3 : ∀ X, Ext w0 X → Rd X As1 (txs x.syms)) (r4 : ∀ X, Ext w0 X → Rd X Ai1 (intsZ x.items)) (r5 : ∀ X, Ext w0 X → Rd X Af1 (fldsZ x.fields))
    (z3 : Hid (As1 = none → cs1 = 0)) (z4 : Hid (Ai1 = none → ci1 = 0)) (z5 : Hid (Af1 = none → cf1 = 0)) (hl1 : x.syms.length ≤ 1000000) (hl2 : x.items.length ≤ 1000000) (hl3 : x.fields.length ≤ 1000000)
    (hP : ∀ c (a a2 : Act) w, Q (.panic c) a w → ∀ (hd : a2.defers = a.defers := by rfl), Q (.panic c) a2 w)
    (hQ : ∀ v19 v20 v21 v22 v23 v24 v25 v26 v27 v28 v29 v30 v31 v32 v33 A3 c3 A7 c7 A11 c11 X, Ext w0 X → X.ownsRow (q + 3) 9 1 (.slice A3 x.syms.length c3) x.syms.length (txs x.syms) → X.ownsRow (q + 3) 3 1 (.slice A7 x.items.length c7) x.items.length (intsZ x.items) → X.ownsRow (q + 3) 74 3 (.slice A11 x.fields.length c11) x.fields.length (fldsZ x.fields) →
      Q .normal (ownA q b1 o1 n c i q5 x As1 Ai1 Af1 cs1 ci1 cf1 u v19 v20 v21 v22 v23 v24 v25 v26 v27 v28 v29 v30 v31 v32 v33) (((X.setCell ⟨q5, 3, none⟩ (.slice A3 x.syms.length c3)).setCell ⟨q5, 4, none⟩ (.slice A7 x.items.length c7)).setCell ⟨q5, 5, none⟩ (.slice A11 x.fields.length c11))) :
    (Reg.regionOf 6 Tryz.f7.body).wp Tryz.prog Q (ownA q b1 o1 n c i q5 x As1 Ai1 Af1 cs1 ci1 cf1 u (u 19) (u 20) (u 21) (u 22) (u 23) (u 24) (u 25) (u 26) (u 27) (u 28) (u 29) (u 30) (u 31) (u 32) (u 33)) w0 := by
  refine Reg.startX (R := Go.RowKit.Below (q5 + 1)) (by kernel_rfl) ?_
  generalize hwd : World.drew _ = wd
  have hxd : Ext w0 wd := by rw [← hwd]; exact (Ext.refl w0).drew
  have hb5 : Blk wd q5 #[.int .i64 x.k, .string x.name, .int .i64 x.size, .slice As1 x.syms.length cs1, .slice Ai1 x.items.length ci1, .slice Af1 x.fields.length cf1] 36 := hb50.ext hxd
  have hsd : wd.heap.size = q5 + 1 := by rw [← hwd]; exact hs0
  clear hwd
  have hlow : ∀ {W}, Go.RowKit.Below (q5 + 1) wd W → Ext wd W := fun hW => below_ext hW (by omega)
  have k3 : ∀ W, Go.RowKit.Below (q5 + 1) wd W → W.cell? ⟨q5, 3, none⟩ = some (.slice As1 x.syms.length cs1) := fun W hW => (hb5.ext (hlow hW)).cell 3
  have k4 : ∀ W, Go.RowKit.Below (q5 + 1) wd W → W.cell? ⟨q5, 4, none⟩ = some (.slice Ai1 x.items.length ci1) := fun W hW => (hb5.ext (hlow hW)).cell 4
  have k5 : ∀ W, Go.RowKit.Below (q5 + 1) wd W → W.cell? ⟨q5, 5, none⟩ = some (.slice Af1 x.fields.length cf1) := fun W hW => (hb5.ext (hlow hW)).cell 5
  have r3X : ∀ X, Ext wd X → Rd X As1 (txs x.syms) := fun X hX => r3 X (hxd.trans hX)
  have r4X : ∀ X, Ext wd X → Rd X Ai1 (intsZ x.items) := fun X hX => r4 X (hxd.trans hX)
  have r5X : ∀ X, Ext wd X → Rd X Af1 (fldsZ x.fields) := fun X hX => r5 X (hxd.trans hX)
  replace r3X := Lib.hid r3X
  replace r4X := Lib.hid r4X
  replace r5X := Lib.hid r5X
  clear r3 r4 r5
  refine Reg.tx (Reg.rl_below _) 1 ?_; (try simp only [Reg.n1, Reg.n2, Reg.n3, Reg.n4, Reg.n5, Reg.n6, Reg.n7])
  refine Reg.tx (Reg.rl_below _) 2 ?_; (try simp only [Reg.n1, Reg.n2, Reg.n3, Reg.n4, Reg.n5, Reg.n6, Reg.n7])
  refine Reg.tx (Reg.rl_below _) 5 ?_; (try simp only [Reg.n1, Reg.n2, Reg.n3, Reg.n4, Reg.n5, Reg.n6, Reg.n7])
  refine Reg.tx (Reg.rl_below _) 6 ?_; (try simp only [Reg.n1, Reg.n2, Reg.n3, Reg.n4, Reg.n5, Reg.n6, Reg.n7])
  refine Reg.tx (Reg.rl_below _) 9 ?_; (try simp only [Reg.n1, Reg.n2, Reg.n3, Reg.n4, Reg.n5, Reg.n6, Reg.n7])
  refine Reg.tx (Reg.rl_below _) 10 ?_; (try simp only [Reg.n1, Reg.n2, Reg.n3, Reg.n4, Reg.n5, Reg.n6, Reg.n7])
  refine Reg.layN [(0, 19), (3, 22), (4, 23), (7, 26), (8, 27), (11, 30), (12, 31)] (fun i => if i = 3 then [0] else if i = 7 then [3, 4] else if i = 11 then [7, 8] else []) (by omega) (by kernel_rfl) (by kernel_rfl) (by decide)
    (fun i => if i = 0 then u 19 else if i = 3 then u 22 else if i = 4 then u 23 else if i = 7 then u 26 else if i = 8 then u 27 else if i = 11 then u 30 else u 31) (by rfl)
    (fun i v X => if i = 0 then ∃ g, v = .slice (some ⟨g, 0, none⟩) 0 0 ∧ X.ownsRow (q + 3) 9 1 (.slice (some ⟨g, 0, none⟩) 0 0) 0 [] else if i = 3 then X.ownsRow (q + 3) 9 1 v x.syms.length (txs x.syms)
      else if i = 4 then ∃ g, v = .slice (some ⟨g, 0, none⟩) 0 0 ∧ X.ownsRow (q + 3) 3 1 (.slice (some ⟨g, 0, none⟩) 0 0) 0 [] else if i = 7 then X.ownsRow (q + 3) 3 1 v x.items.length (intsZ x.items)
      else if i = 8 then ∃ g, v = .slice (some ⟨g, 0, none⟩) 0 0 ∧ X.ownsRow (q + 3) 74 3 (.slice (some ⟨g, 0, none⟩) 0 0) 0 [] else if i = 11 then X.ownsRow (q + 3) 74 3 v x.fields.length (fldsZ x.fields)
      else v = .pointer (some ⟨q5, 3, none⟩)) ?_ ?_ ?_
  · intro p hp v w1 w2 h0 hx0
    simp only [List.mem_cons, List.not_mem_nil, or_false] at hp
    rcases hp with rfl | rfl | rfl | rfl | rfl | rfl | rfl
    all_goals first | exact own_ext h0 hx0 | exact Exists.imp (fun g h => ⟨h.1, own_ext h.2 hx0⟩) h0 | exact h0
  · intro p hp
    simp only [List.mem_cons, List.not_mem_nil, or_false] at hp
    rcases hp with rfl | rfl | rfl | rfl | rfl | rfl | rfl
    · rintro oi hoi f X hX - K hK
      obtain rfl := Option.some.inj hoi
      simp only [Reg.frameN]
      (try simp only [Reg.n1, Reg.n2, Reg.n3, Reg.n4, Reg.n5, Reg.n6, Reg.n7])
      go_simp
      replace hK := hK.out
      simp only [Reg.frameN, Act.put, List.setIfInBounds_toArray, List.set_cons_zero, List.set_cons_succ] at hK
      exact hK _ _ ((Ext.refl X).alloc _) ⟨X.heap.size, rfl, World.ownsRow_lit X #[] 0 (by have := hX.size; omega) (Nat.zero_le _) rfl⟩
    · rintro oi hoi f X hX hp K hK
      obtain rfl := Option.some.inj hoi
      obtain ⟨g, e0, h0⟩ := hp 0 (by decide)
      replace e0 := Lib.hid e0
      have hsX := hX.size
      simp only [Reg.frameN]
      (try simp only [Reg.n1, Reg.n2, Reg.n3, Reg.n4, Reg.n5, Reg.n6, Reg.n7])
      refine wp_app0 el_str X (.tmp 19) (.tmp 21) rfl (q + 3) g e0.out h0 As1 _ _ _ rfl (r3X.out X hX) (by simp [txs]) z3.out (by omega) (by omega) (by omega) (fun v' w' ho hg => ?_)
      replace hK := hK.out
      simp only [Reg.frameN, Act.put, List.setIfInBounds_toArray, List.set_cons_zero, List.set_cons_succ] at hK
      simp only [Act.put, List.setIfInBounds_toArray, List.set_cons_zero, List.set_cons_succ]
      exact hK _ _ hg ho
    · rintro oi hoi f X hX - K hK
      obtain rfl := Option.some.inj hoi
      simp only [Reg.frameN]
      (try simp only [Reg.n1, Reg.n2, Reg.n3, Reg.n4, Reg.n5, Reg.n6, Reg.n7])
      go_simp
      replace hK := hK.out
      simp only [Reg.frameN, Act.put, List.setIfInBounds_toArray, List.set_cons_zero, List.set_cons_succ] at hK
      exact hK _ _ ((Ext.refl X).alloc _) ⟨X.heap.size, rfl, World.ownsRow_lit X #[] 0 (by have := hX.size; omega) (Nat.zero_le _) rfl⟩
    · rintro oi hoi f X hX hp K hK
      obtain rfl := Option.some.inj hoi
      obtain ⟨g, e0, h0⟩ := hp 4 (by decide)
      replace e0 := Lib.hid e0
      have hsX := hX.size
      simp only [Reg.frameN]
      (try simp only [Reg.n1, Reg.n2, Reg.n3, Reg.n4, Reg.n5, Reg.n6, Reg.n7])
      refine wp_app0 el_int X (.tmp 23) (.tmp 25) rfl (q + 3) g e0.out h0 Ai1 _ _ _ rfl (r4X.out X hX) (by simp [intsZ]) z4.out (by omega) (by omega) (by omega) (fun v' w' ho hg => ?_)
      replace hK := hK.out
      simp only [Reg.frameN, Act.put, List.setIfInBounds_toArray, List.set_cons_zero, List.set_cons_succ] at hK
      simp only [Act.put, List.setIfInBounds_toArray, List.set_cons_zero, List.set_cons_succ]
      exact hK _ _ hg ho
    · rintro oi hoi f X hX - K hK
      obtain rfl := Option.some.inj hoi
      simp only [Reg.frameN]
      (try simp only [Reg.n1, Reg.n2, Reg.n3, Reg.n4, Reg.n5, Reg.n6, Reg.n7])
      go_simp
      replace hK := hK.out
      simp only [Reg.frameN, Act.put, List.setIfInBounds_toArray, List.set_cons_zero, List.set_cons_succ] at hK
      exact hK _ _ ((Ext.refl X).alloc _) ⟨X.heap.size, rfl, World.ownsRow_lit X #[] 0 (by have := hX.size; omega) (Nat.zero_le _) rfl⟩
    · rintro oi hoi f X hX hp K hK
      obtain rfl := Option.some.inj hoi
      obtain ⟨g, e0, h0⟩ := hp 8 (by decide)
      replace e0 := Lib.hid e0
      have hsX := hX.size
      simp only [Reg.frameN]
      (try simp only [Reg.n1, Reg.n2, Reg.n3, Reg.n4, Reg.n5, Reg.n6, Reg.n7])
      refine wp_app0 el_fld X (.tmp 27) (.tmp 29) rfl (q + 3) g e0.out h0 Af1 _ _ _ rfl (r5X.out X hX) (by rw [fldsZ_length]) z5.out (by omega) (by omega) (by omega) (fun v' w' ho hg => ?_)
      replace hK := hK.out
      simp only [Reg.frameN, Act.put, List.setIfInBounds_toArray, List.set_cons_zero, List.set_cons_succ] at hK
      simp only [Act.put, List.setIfInBounds_toArray, List.set_cons_zero, List.set_cons_succ]
      exact hK _ _ hg ho
    · rintro oi hoi f X hX - K hK
      obtain rfl := Option.some.inj hoi
      simp only [Reg.frameN]
      (try simp only [Reg.n1, Reg.n2, Reg.n3, Reg.n4, Reg.n5, Reg.n6, Reg.n7])
      go_simp
      replace hK := hK.out
      simp only [Reg.frameN, Act.put, List.setIfInBounds_toArray, List.set_cons_zero, List.set_cons_succ] at hK
      exact hK _ _ (Ext.refl X) rfl
  · intro f X hX hF
    have ho3 : X.ownsRow (q + 3) 9 1 (f 3) x.syms.length (txs x.syms) := hF (3, 22) (by decide)
    have ho7 : X.ownsRow (q + 3) 3 1 (f 7) x.items.length (intsZ x.items) := hF (7, 26) (by decide)
    have ho11 : X.ownsRow (q + 3) 74 3 (f 11) x.fields.length (fldsZ x.fields) := hF (11, 30) (by decide)
    have hp12 : f 12 = .pointer (some ⟨q5, 3, none⟩) := hF (12, 31) (by decide)
    clear hF
    simp only [Reg.frameN]
    rw [hp12]
    generalize f 3 = v3 at ho3 ⊢
    generalize f 7 = v7 at ho7 ⊢
    generalize f 11 = v11 at ho11 ⊢
    generalize f 0 = v0
    generalize f 4 = v4
    generalize f 8 = v8
    clear hp12 f
    obtain ⟨A3', c3', rfl, jj1, jj2, jj3, jj4⟩ := Rd.of_own ho3
    clear jj1 jj2 jj3 jj4
    obtain ⟨A7', c7', rfl, jj1, jj2, jj3, jj4⟩ := Rd.of_own ho7
    clear jj1 jj2 jj3 jj4
    obtain ⟨A11', c11', rfl, jj1, jj2, jj3, jj4⟩ := Rd.of_own ho11
    clear jj1 jj2 jj3 jj4
    (try simp only [Reg.n1, Reg.n2, Reg.n3, Reg.n4, Reg.n5, Reg.n6, Reg.n7])
    have hb5X := hb5.ext hX
    have g3 : X.cell? ⟨q5, 3, none⟩ = some (.slice As1 x.syms.length cs1) := hb5X.cell 3
    have fr3 := hb5X.frozen 3
    refine Reg.onlyXS 13 _ rfl (by kernel_rfl) (by kernel_rfl) (by decide) (by rfl) (fun K hK => ?_)
    go_simp
    refine hK.out _ _ ?_; clear hK K; (try simp only [Reg.n1, Reg.n2, Reg.n3, Reg.n4, Reg.n5, Reg.n6, Reg.n7])
    clear g3 fr3
    obtain ⟨Y1, hY1⟩ : ∃ z, Hid (X.setCell ⟨q5, 3, none⟩ (.slice A3' x.syms.length c3') = z) := ⟨_, rfl⟩
    have hb1Y : Blk Y1 q5 #[.int .i64 x.k, .string x.name, .int .i64 x.size, .slice A3' x.syms.length c3', .slice Ai1 x.items.length ci1, .slice Af1 x.fields.length cf1] 36 := by rw [← hY1.out]; exact hb5X.set 3 _
    rw [hY1.out]
    have g4 : Y1.cell? ⟨q5, 4, none⟩ = some (.slice Ai1 x.items.length ci1) := hb1Y.cell 4
    have fr4 := hb1Y.frozen 4
    clear k3 k4 k5
    refine Reg.tx (Reg.rl_below _) 14 ?_; (try simp only [Reg.n1, Reg.n2, Reg.n3, Reg.n4, Reg.n5, Reg.n6, Reg.n7])
    refine Reg.onlyXS 15 _ rfl (by kernel_rfl) (by kernel_rfl) (by decide) (by rfl) (fun K hK => ?_)
    go_simp
    refine hK.out _ _ ?_; clear hK K; (try simp only [Reg.n1, Reg.n2, Reg.n3, Reg.n4, Reg.n5, Reg.n6, Reg.n7])
    clear g4 fr4
    obtain ⟨Y2, hY2⟩ : ∃ z, Hid (Y1.setCell ⟨q5, 4, none⟩ (.slice A7' x.items.length c7') = z) := ⟨_, rfl⟩
    have hb2Y : Blk Y2 q5 #[.int .i64 x.k, .string x.name, .int .i64 x.size, .slice A3' x.syms.length c3', .slice A7' x.items.length c7', .slice Af1 x.fields.length cf1] 36 := by rw [← hY2.out]; exact hb1Y.set 4 _
    rw [hY2.out]
    have g5 : Y2.cell? ⟨q5, 5, none⟩ = some (.slice Af1 x.fields.length cf1) := hb2Y.cell 5
    have fr5 := hb2Y.frozen 5
    refine Reg.tx (Reg.rl_below _) 16 ?_; (try simp only [Reg.n1, Reg.n2, Reg.n3, Reg.n4, Reg.n5, Reg.n6, Reg.n7])
    refine Reg.lastXD 17 _ rfl (by kernel_rfl) (by kernel_rfl) (by kernel_rfl) (by decide) (by rfl) (fun K hK => ?_)
    go_simp
    refine hK.out _ _ ?_; clear hK K; (try simp only [Reg.n1, Reg.n2, Reg.n3, Reg.n4, Reg.n5, Reg.n6, Reg.n7])
    rw [← hY2.out, ← hY1.out]
    exact hQ _ _ _ _ _ _ _ _ _ _ _ _ _ _ _ _ _ _ _ _ _ X (hxd.trans hX) ho3 ho7 ho11
end Go.Proofs.YtejcacbbhijdcaaGreatDoor.Pr
/- parse: the document's copy of a schema. -/
namespace Go.Proofs.YtejcacbbhijdcaaGreatDoor.Pr
open Go.ChangeShapes Go.WideShapes Go.ChangeAt Go.RowKit
open Base Lx Mi
set_option linter.unusedVariables false
set_option linter.unusedSimpArgs false

theorem resOwn {w : World} {tmps : Array Value} {a : Nat} {u : Value} (ha : tmps[2]?.getD undef = .pointer (some ⟨a, 0, none⟩)) (h1 : w.cell? ⟨a, 0, none⟩ = some u) : (results Tryz.f7 tmps).run Tryz.prog w = .ok (.agg #[u]) w := by
  simp [results, Tryz.f7, go_sem, ha, h1]
set_option maxRecDepth 100000 in
set_option maxHeartbeats 1000000 in
theorem own_any {B : Nat} {w : World} {v : Value} {ns : List Ne} (h : Sch B w v ns) (hB : B ≤ w.heap.size) (hl : ns.length ≤ 1000000) (hd : ∀ d ∈ ns, Len6 d) :
    Calls Tryz.prog 7 #[.agg #[v]] w fun e w' => ∃ v' vs, e = .returned (.agg #[v']) ∧ NeO w.heap.size w' ns vs v' ∧ Ext w w' := by
  obtain ⟨A, c, rfl⟩ := h.slice
  obtain ⟨n, hn⟩ : ∃ z, Hid (ns.length = z) := ⟨_, Lib.hid rfl⟩
  rw [hn.out] at hl ⊢
  obtain ⟨w1, hw1⟩ : ∃ z, Hid (((w.alloc (.cells #[.slice A n c] 24)).alloc (.cells #[.slice none 0 0] 24)).alloc (.cells #[.slice none 0 0] 24) = z) := ⟨_, rfl⟩
  have hx1 : Ext w w1 := by rw [← hw1.out]; exact (((Ext.refl w).alloc _).alloc _).alloc _
  obtain ⟨q, hq⟩ : ∃ z, Hid (w.heap.size = z) := ⟨_, rfl⟩
  have hbA : Blk w1 q #[.slice A n c] 24 := by rw [← hw1.out, ← hq.out]; exact ((Blk.new w _ _).alloc _).alloc _
  go_enter Tryz.func7, Tryz.ntmps7
  go_wp2_with fail
  rw [hw1.out, hq.out]
  have hbC : Blk w1 (q + 1 + 1) #[.slice none 0 0] 24 := by
    rw [← hw1.out, ← hq.out]
    have := Blk.new ((w.alloc (.cells #[.slice A n c] 24)).alloc (.cells #[.slice none 0 0] 24)) #[.slice none 0 0] 24
    simpa using this
  have hbB : Blk w1 (q + 1) #[.slice none 0 0] 24 := by
    rw [← hw1.out, ← hq.out]
    have := (Blk.new (w.alloc (.cells #[.slice A n c] 24)) #[.slice none 0 0] 24).alloc (.cells #[.slice none 0 0] 24)
    simpa using this
  have hs1 : w1.heap.size = q + 3 := by rw [← hw1.out, ← hq.out]; simp
  go_loopw [4, 5, 7, 8, 9, 10, 11, 12, 13, 14, 15, 16, 17, 18, 19, 20, 21, 22, 23, 24, 25, 26, 27, 28, 29, 30, 31, 32, 33, 34, 35, 36, 37, 38, 39] (fun v4 v5 v7 v8 v9 v10 v11 v12 v13 v14 v15 v16 v17 v18 v19 v20 v21 v22 v23 v24 v25 v26 v27 v28 v29 v30 v31 v32 v33 v34 v35 v36 v37 v38 v39 wr => ∃ (i : Nat) (vn : Value) (vs : List V3), i ≤ n ∧ v4 = .int .i64 i ∧ Blk wr (q + 1 + 1) #[vn] 24 ∧ NeO (q + 3) wr (ns.take i) vs vn ∧ Blk wr q #[.slice A n c] 24 ∧ Blk wr (q + 1) #[.slice none 0 0] 24 ∧ Ext w wr ∧ q + 3 ≤ wr.heap.size) (fun v4 _ _ _ _ _ _ _ _ _ _ _ _ _ _ _ _ _ _ _ _ _ _ _ _ _ _ _ _ _ _ _ _ _ _ _ => n - (intOf v4).toNat)
  case atStart => exact ⟨0, _, [], by omega, rfl, hbC, ⟨rfl, World.ownsRow_nil _ _ _ _, fun i d v h1 _ => by simp at h1⟩, hbA, hbB, hx1, by omega⟩
  case round =>
    obtain ⟨i, vn, vs, hi, rfl, hbo, hO, hbA, hbB, hx, hsz⟩ := hrel
    have pA := hbA.cell 0
    by_cases hin : i < n
    · have hin' : (i : Int) < (n : Int) := by omega
      obtain ⟨x, hx1'⟩ : ∃ x, ns[i]? = some x := ⟨_, List.getElem?_eq_getElem (by have := hn.out; omega)⟩
      obtain ⟨b1, o1, d1, As1, cs1, Ai1, ci1, Af1, cf1, e1, hb1, hs1', hc1⟩ := h.node2 i x hx1'
      injection e1 with e1 _ e1'
      subst e1; subst e1'
      obtain ⟨p0, p1, p2, p3, p4, p5⟩ := hc1 wr (Below.mono hx hB)
      have hmem : x ∈ ns := List.mem_of_getElem? hx1'
      obtain ⟨hl1, hl2, hl3⟩ := hd x hmem
      obtain ⟨A3, c3, e3, r3, lt3, n3, m3, z3⟩ := hs1'.syms
      injection e3 with e3 _ e3'
      subst e3; subst e3'
      obtain ⟨A4, c4, e4, r4, lt4, n4, m4, z4⟩ := hs1'.items
      injection e4 with e4 _ e4'
      subst e4; subst e4'
      obtain ⟨A5, c5, e5, r5, lt5, n5, m5, z5⟩ := hs1'.fields
      injection e5 with e5 _ e5'
      subst e5; subst e5'
      have hrng := hs1'.rng
      go_wp2_with fail
      obtain ⟨q5, hq5⟩ : ∃ z, Hid (wr.heap.size = z) := ⟨_, rfl⟩
      rw [hq5.out]
      have hb50 : Blk (wr.alloc (.cells #[.int .i64 x.k, .string x.name, .int .i64 x.size, .slice As1 x.syms.length cs1, .slice Ai1 x.items.length ci1, .slice Af1 x.fields.length cf1] 36)) q5 #[.int .i64 x.k, .string x.name, .int .i64 x.size, .slice As1 x.syms.length cs1, .slice Ai1 x.items.length ci1, .slice Af1 x.fields.length cf1] 36 := by rw [← hq5.out]; exact Blk.new wr _ _
      have hx0 : Ext wr (wr.alloc (.cells #[.int .i64 x.k, .string x.name, .int .i64 x.size, .slice As1 x.syms.length cs1, .slice Ai1 x.items.length ci1, .slice Af1 x.fields.length cf1] 36)) := (Ext.refl wr).alloc _
      have hs0 : (wr.alloc (.cells #[.int .i64 x.k, .string x.name, .int .i64 x.size, .slice As1 x.syms.length cs1, .slice Ai1 x.items.length ci1, .slice Af1 x.fields.length cf1] 36)).heap.size = q5 + 1 := by rw [← hq5.out]; simp
      refine own_lists (B0 := 0) (wr := wr) (u := fun k => match k with | 12 => u12 | 13 => u13 | 19 => u19 | 20 => u20 | 21 => u21 | 22 => u22 | 23 => u23 | 24 => u24 | 25 => u25 | 26 => u26 | 27 => u27 | 28 => u28 | 29 => u29 | 30 => u30 | 31 => u31 | 32 => u32 | 33 => u33 | 34 => u34 | 35 => u35 | 36 => u36 | 37 => u37 | 38 => u38 | 39 => u39 | _ => undef) hx0 hq5.out hb50 hs0 (by have := hq5.out; omega)
        (fun X hX => Rd.below r3 lt3 (Below.mono (hx.trans (hx0.trans hX)) hB)) (fun X hX => Rd.below r4 lt4 (Below.mono (hx.trans (hx0.trans hX)) hB)) (fun X hX => Rd.below r5 lt5 (Below.mono (hx.trans (hx0.trans hX)) hB))
        z3 z4 z5 hl1 hl2 hl3 (fun c a a2 w h hd => ⟨hd.trans h.1, h.2⟩) ?_
      intro v19 v20 v21 v22 v23 v24 v25 v26 v27 v28 v29 v30 v31 v32 v33 A3 c3 A7 c7 A11 c11 X hX ho3 ho7 ho11
      obtain ⟨Y, hY⟩ : ∃ z, Hid ((((X.setCell ⟨q5, 3, none⟩ (.slice A3 x.syms.length c3)).setCell ⟨q5, 4, none⟩ (.slice A7 x.items.length c7)).setCell ⟨q5, 5, none⟩ (.slice A11 x.fields.length c11)) = z) := ⟨_, rfl⟩
      have hq5' := hq5.out
      have hb5X := hb50.ext hX
      have hb5Y : Blk Y q5 #[.int .i64 x.k, .string x.name, .int .i64 x.size, .slice A3 x.syms.length c3, .slice A7 x.items.length c7, .slice A11 x.fields.length c11] 36 := by rw [← hY.out]; exact ((hb5X.set 3 _).set 4 _).set 5 _
      have hxY : Ext wr Y := by rw [← hY.out]; exact (((hx0.trans hX).setCell (by show wr.heap.size ≤ q5; omega) _).setCell (by show wr.heap.size ≤ q5; omega) _).setCell (by show wr.heap.size ≤ q5; omega) _
      have hcXY : Chg (fun k => k = q5) X Y := by rw [← hY.out]; exact ((Chg.one X q5 3 _).set (p := ⟨q5, 4, none⟩) (.inl rfl) _).set (p := ⟨q5, 5, none⟩) (.inl rfl) _
      have hsY : SubO (q + 3) Y x (.slice A3 x.syms.length c3, .slice A7 x.items.length c7, .slice A11 x.fields.length c11) :=
        SubO.chg (S := fun k => k = q5) (w := X) ⟨ho3, ho7, ho11, hrng⟩ hcXY (fun k hk e => own_ne_blk ho3 hb5X (by decide) (by rw [← e]; exact hk.symm)) (fun k hk e => own_ne_blk ho7 hb5X (by decide) (by rw [← e]; exact hk.symm)) (fun k hk e => own_ne_blk ho11 hb5X (by decide) (by rw [← e]; exact hk.symm))
      have hti : (ns.take i).length = i := by rw [List.length_take]; have := hn.out; omega
      have hOr := hO.row
      rw [hti] at hOr
      obtain ⟨An, cn, rfl, jj1, jj2, jj3, jj4⟩ := Rd.of_own hOr
      clear jj1 jj2 jj3 jj4
      have hOrY := own_ext hOr hxY
      have hboY := hbo.ext hxY
      have d0 : Y.cell? ⟨q5, 0, none⟩ = some (.int .i64 x.k) := hb5Y.cell 0
      have d1 : Y.cell? ⟨q5, 1, none⟩ = some (.string x.name) := hb5Y.cell 1
      have d2 : Y.cell? ⟨q5, 2, none⟩ = some (.int .i64 x.size) := hb5Y.cell 2
      have d3 : Y.cell? ⟨q5, 3, none⟩ = some (.slice A3 x.syms.length c3) := hb5Y.cell 3
      have d4 : Y.cell? ⟨q5, 4, none⟩ = some (.slice A7 x.items.length c7) := hb5Y.cell 4
      have d5 : Y.cell? ⟨q5, 5, none⟩ = some (.slice A11 x.fields.length c11) := hb5Y.cell 5
      have do_ : Y.cell? ⟨q + 1 + 1, 0, none⟩ = some (.slice An i cn) := hboY.cell 0
      have hone : ∀ u ∈ ([.int .i64 x.k, .string x.name, .int .i64 x.size, .slice A3 x.syms.length c3, .slice A7 x.items.length c7, .slice A11 x.fields.length c11] : List Value), u.oneCell' = true := by
        intro u hu
        simp only [List.mem_cons, List.not_mem_nil, or_false] at hu
        rcases hu with rfl | rfl | rfl | rfl | rfl | rfl <;> rfl
      have hsY' := hxY.size
      have haY : Ext Y (Y.alloc (.cells #[.int .i64 x.k, .string x.name, .int .i64 x.size, .slice A3 x.syms.length c3, .slice A7 x.items.length c7, .slice A11 x.fields.length c11] 36)) := (Ext.refl Y).alloc _
      rw [hY.out]
      dsimp only [ownA]
      clear hX ho3 ho7 ho11 hb5X hcXY hY p0 p1 p2 p3 p4 p5 pA r3 r4 r5 m3 m4 m5
      go_wp2_with (
        refine wpList_app el_nd _ rfl (.tmp 35) (.tmp 37) rfl (q + 3) (.slice An i cn) i (nesC (ns.take i) vs) rfl (own_ext hOrY haY) (some ⟨Y.heap.size, 0, none⟩) 1 1 [.int .i64 x.k, .string x.name, .int .i64 x.size, .slice A3 x.syms.length c3, .slice A7 x.items.length c7, .slice A11 x.fields.length c11] rfl (Rd.of_block Y 36 (0, 0) rfl) rfl (fun h => by cases h) hone (by omega) (by omega) (by simp; omega) (fun V1 w6 ho6 hg6 hv6 => ?_)
        obtain ⟨A6, c6, rfl, jj1, jj2, jj3, jj4⟩ := Rd.of_own ho6
        clear jj1 jj2 jj3 jj4
        have hch6 : Chg (fun k => (Value.slice An i cn).ownBlock = some k) Y w6 := (Chg.ofExt haY).trans (Chg.ofGrown hg6) (fun _ _ e => e)
        have hbo6 := hch6.blk hboY (fun e => own_ne_blk hOrY hboY (by decide) e.symm)
        have fr6 := hbo6.frozen 0
        have cl6 : w6.cell? ⟨q + 1 + 1, 0, none⟩ = some (.slice An i cn) := hbo6.cell 0)
      go_roundw
      case rel =>
        have hx6 : Ext w w6 := (hx.trans hxY).chg hch6 (fun k hk e => by have := (hOrY.lt k e).1; have := hq.out; omega)
        have hA6 := hch6.blk (hbA.ext hxY) (fun e => own_ne_blk hOrY (hbA.ext hxY) (by decide) e.symm)
        have hB6 := hch6.blk (hbB.ext hxY) (fun e => own_ne_blk hOrY (hbB.ext hxY) (by decide) e.symm)
        have hcW := Chg.one w6 (q + 1 + 1) 0 (.slice A6 (i + 1) c6)
        have hqo := hq.out
        have hstep : ∀ d v, SubO (q + 3) Y d v → SubO (q + 3) (w6.setCell ⟨q + 1 + 1, 0, none⟩ (.slice A6 (i + 1) c6)) d v := fun d v hs => by
          have h6 : SubO (q + 3) w6 d v := SubO.chg hs hch6 (fun k hk => own_not hOrY hs.syms (by decide) k hk) (fun k hk => own_not hOrY hs.items (by decide) k hk) (fun k hk => own_not hOrY hs.fields (by decide) k hk)
          exact SubO.chg h6 hcW (fun k hk e => own_ne_blk h6.syms hbo6 (by decide) (by rw [← e]; exact hk.symm)) (fun k hk e => own_ne_blk h6.items hbo6 (by decide) (by rw [← e]; exact hk.symm)) (fun k hk e => own_ne_blk h6.fields hbo6 (by decide) (by rw [← e]; exact hk.symm))
        have htk : ns.take (i + 1) = ns.take i ++ [x] := by rw [List.take_add_one, hx1']; rfl
        have hvl : vs.length = i := hO.len.trans hti
        refine ⟨i + 1, .slice A6 (i + 1) c6, vs ++ [(.slice A3 x.syms.length c3, .slice A7 x.items.length c7, .slice A11 x.fields.length c11)], by omega, by go_num, hbo6.set 0 _, ?_, hcW.blk hA6 (by omega), hcW.blk hB6 (by omega), hx6.setCell (by show w.heap.size ≤ q + 1 + 1; omega) _, ?_⟩
        · rw [htk]
          refine ⟨by rw [List.length_append, List.length_append, hO.len]; rfl, ?_, fun j d v e1 e2 => ?_⟩
          · rw [nesC_snoc _ _ _ _ hO.len, List.length_append, hti]
            exact own_setCell (i := 0) ho6 hbo6 (by decide) _
          · rcases Nat.lt_or_ge j i with hj | hj
            · rw [List.getElem?_append_left (by rw [hti]; exact hj)] at e1
              rw [List.getElem?_append_left (by rw [hvl]; exact hj)] at e2
              exact hstep d v ((hO.sub j d v e1 e2).ext hxY)
            · rw [List.getElem?_append_right (by rw [hti]; exact hj), hti] at e1
              rw [List.getElem?_append_right (by rw [hvl]; exact hj), hvl] at e2
              have hj0 : j - i = 0 := by
                rcases Nat.eq_zero_or_pos (j - i) with h0 | h0
                · exact h0
                · rw [List.getElem?_eq_none (by simp; omega)] at e1; cases e1
              rw [hj0] at e1 e2
              injection e1 with e1; injection e2 with e2
              subst e1; subst e2
              exact hstep _ _ hsY
        · have := hch6.size; simp; omega
      case measure => simp [intOf]; omega
    · obtain rfl : i = n := by omega
      have htk : ns.take i = ns := List.take_of_length_le (by have := hn.out; omega)
      rw [htk] at hO
      have hOr := hO.row
      rw [hn.out] at hOr
      obtain ⟨An, cn, rfl, jj1, jj2, jj3, jj4⟩ := Rd.of_own hOr
      clear jj1 jj2 jj3 jj4
      have pC := hbo.cell 0
      have pB := hbB.cell 0
      have fB := hbB.frozen 0
      have hqo := hq.out
      go_wp2_with fail
      have hOF : NeO w.heap.size (wr.setCell ⟨q + 1, 0, none⟩ (.slice An i cn)) ns vs (.slice An i cn) := by
        have hcW := Chg.one wr (q + 1) 0 (.slice An i cn)
        refine ⟨hO.len, own_mono (own_setCell (i := 0) hO.row hbB (by decide) _) (by omega), fun j d v e1 e2 => ?_⟩
        have hs := hO.sub j d v e1 e2
        have h6 := SubO.chg hs hcW (fun k hk e => own_ne_blk hs.syms hbB (by decide) (by rw [← e]; exact hk.symm)) (fun k hk e => own_ne_blk hs.items hbB (by decide) (by rw [← e]; exact hk.symm)) (fun k hk e => own_ne_blk hs.fields hbB (by decide) (by rw [← e]; exact hk.symm))
        exact ⟨own_mono h6.syms (by omega), own_mono h6.items (by omega), own_mono h6.fields (by omega), h6.rng⟩
      refine bodyPost_ret (resOwn rfl ((hbB.set 0 (.slice An i cn)).cell 0)) rfl ?_
      exact ⟨_, _, rfl, hOF, hx.setCell (by show w.heap.size ≤ q + 1; omega) _⟩
end Go.Proofs.YtejcacbbhijdcaaGreatDoor.Pr
/- parse: which text each schema has, and how deep it is: the program and the document. -/
namespace Go.Proofs.YtejcacbbhijdcaaGreatDoor.Pr
open Go.ChangeShapes Go.WideShapes Go.ChangeAt Go.RowKit
open Base Lx Mi
set_option linter.unusedVariables false
set_option linter.unusedSimpArgs false

theorem sch_rng' {B : Nat} {w : World} {v : Value} {ns : List Ne} (h : Sch B w v ns) : ∀ d ∈ ns, -9223372036854775808 ≤ d.size ∧ d.size ≤ 9223372036854775807 := by
  intro d hd
  obtain ⟨vs, h1, h2, h3⟩ := h
  obtain ⟨i, hi, rfl⟩ := List.mem_iff_getElem.1 hd
  exact (h3 i _ _ (List.getElem?_eq_getElem hi) (List.getElem?_eq_getElem (by rw [h1]; exact hi))).rng
theorem beq_str' (t : ByteArray) : (t.toList == t.toList) = true := by simp
theorem parts_len6 {ns : List Ne} (h : partsN ns ≤ 3000) : ∀ d ∈ ns, Len6 d := fun d hd => by
  have h1 := sum_mem (ns.map nodeP) (nodeP d) (List.mem_map_of_mem hd)
  unfold partsN at h
  have h2 : nodeP d ≤ 3000 := by omega
  unfold nodeP at h2
  clear h h1
  refine ⟨?_, ?_, ?_⟩ <;> omega
theorem shV_pair (o : Option (List UInt8)) : ∃ S e, shV o = .tuple #[.string S, .int .i64 e] := by
  cases o with
  | none => exact ⟨_, _, rfl⟩
  | some s => exact ⟨_, _, rfl⟩
set_option maxRecDepth 100000 in
set_option maxHeartbeats 2000000 in
theorem parseShows_any (u1 : Value) (n1 : List Ne) (w : World) (h1 : Sch w.heap.size w u1 n1) (hb1 : Args.schB n1 ≤ 1048576) (hwd : Wd w) (hpow : Pow w) :
    Calls Tryz.prog 3 #[.agg #[u1]] w fun e w' => e = .returned (.bool true) ∧ Ext w w' := by
  obtain ⟨l1, d1⟩ := sch_lens hb1
  have L1 := show_bound hb1 (sch_rng' h1)
  have L2 := showR_bound hb1 (sch_rng' h1)
  have hl6 : decide (partsN n1 ≤ 3000) = true → ∀ d ∈ n1, Len6 d := fun h => parts_len6 (of_decide_eq_true h)
  obtain ⟨A1, c1, rfl⟩ := h1.slice
  obtain ⟨k1, hk1⟩ : ∃ z, Hid (n1.length = z) := ⟨_, Lib.hid rfl⟩
  rw [hk1.out] at h1 ⊢
  obtain ⟨q, hq⟩ : ∃ z, Hid (w.heap.size = z) := ⟨_, rfl⟩
  obtain ⟨w1, hw1⟩ : ∃ z, Hid (w.alloc (.cells #[.slice A1 k1 c1] 24) = z) := ⟨_, rfl⟩
  have hx1 : Ext w w1 := by rw [← hw1.out]; exact (Ext.refl w).alloc _
  have hbA : Blk w1 q #[.slice A1 k1 c1] 24 := by rw [← hw1.out, ← hq.out]; exact Blk.new w _ _
  have S1 : ∀ W, Ext w1 W → Sch W.heap.size W (.slice A1 k1 c1) n1 := fun W hW => (h1.below (hx1.trans hW)).mono (hx1.trans hW).size
  have cA : ∀ W, Ext w1 W → W.cell? ⟨q, 0, none⟩ = some (.slice A1 k1 c1) := fun W hW => (hbA.ext hW).cell 0
  have hs1 := small_any (S1 w1 (Ext.refl _)) (Nat.le_refl _) (by omega) (fun d hd => by have := (d1 d hd).2.2.2; unfold nodeP; omega)
  have hli := fun W (hW : Ext w1 W) => lives_any W (hwd.ext (hx1.trans hW)) (hpow.ext (hx1.trans hW))
  have hown := fun W hW => own_any (S1 W hW) (Nat.le_refl _) l1
  have hrsh := fun W hW => refShow_any _ _ W (S1 W hW) L2
  have hrdp := fun W hW => refDepth_any _ _ W (S1 W hW) L2
  have hpsh := fun W v (hW : Ext w1 W) hS => show_any v n1 W hS (hwd.ext (hx1.trans hW)) (hpow.ext (hx1.trans hW)) L1
  have hpdp := fun W v (hW : Ext w1 W) hS => depth_any v n1 W hS (hwd.ext (hx1.trans hW)) (hpow.ext (hx1.trans hW)) L1
  obtain ⟨S, er, hSe⟩ := shV_pair (showP n1)
  simp only [hSe] at hrsh hpsh
  obtain ⟨D, hD⟩ : ∃ z, Hid (depthP n1 = z) := ⟨_, Lib.hid rfl⟩
  simp only [hD.out] at hrdp hpdp
  obtain ⟨m1, hm1⟩ : ∃ z, Hid (decide (partsN n1 ≤ 3000) = z) := ⟨_, Lib.hid rfl⟩
  rw [hm1.out] at hs1 hl6
  have hbS := beq_str' S
  have hbe : (er == er) = true := by simp
  have hbD : ((D : Int) == (D : Int)) = true := by simp
  have g1 := cA w1 (Ext.refl _)
  rw [← hw1.out] at g1
  clear d1 hb1 l1 hSe
  replace hl6 := Lib.hid hl6
  replace hown := Lib.hid hown
  replace hrsh := Lib.hid hrsh
  replace hrdp := Lib.hid hrdp
  replace hpsh := Lib.hid hpsh
  replace hpdp := Lib.hid hpdp
  replace hli := Lib.hid hli
  go_enter Tryz.func3, Tryz.ntmps3
  go_wp2_with fail
  rw [hw1.out, hq.out]
  refine hs1.mono ?_
  rintro e w2 ⟨rfl, hx2⟩
  have a2 := cA w2 hx2
  cases m1 with
  | false =>
    have hli2 := hli.out w2 hx2
    go_wp2_with fail
    refine hli2.mono ?_
    rintro e w3 ⟨rfl, hx3⟩
    go_wp2_with fail
    go_ret
    exact ⟨rfl, (hx1.trans hx2).trans hx3⟩
  | true =>
    have hl6' := hl6.out rfl
    have hown : Hid _ := Lib.hid (fun W hW => hown.out W hW hl6')
    have ho2 := hown.out w2 hx2
    clear hl6' hl6
    clear hs1
    go_wp2_with fail
    refine ho2.mono ?_
    rintro e w3 ⟨v3, vs3, rfl, hO3, hx3⟩
    have hx13 := hx2.trans hx3
    have hS3 := hO3.sch (Nat.le_refl _)
    obtain ⟨A3, c3, rfl⟩ := hS3.slice
    have hsh3 := hpsh.out w3 _ hx13 hS3
    clear ho2 hO3 hS3
    go_wp2_with fail
    refine hsh3.mono ?_
    rintro e w4 ⟨rfl, hx4⟩
    have hx14 := hx13.trans hx4
    have a4 := cA w4 hx14
    have hsh4 := hrsh.out w4 hx14
    clear hsh3
    go_wp2_with fail
    refine hsh4.mono ?_
    rintro e w5 ⟨rfl, hx5⟩
    have hx15 := hx14.trans hx5
    clear hsh4 g1 a2 a4
    have cA5 : ∀ W, Ext w5 W → W.cell? ⟨q, 0, none⟩ = some (.slice A1 k1 c1) := fun W hW => cA W (hx15.trans hW)
    clear cA
    go_wp2_with fail
    refine Reg.startE (by kernel_rfl) ?_
    refine Reg.tk 0 ?_; (try simp only [Reg.n1, Reg.n2, Reg.n3, Reg.n4, Reg.n5, Reg.n6, Reg.n7])
    refine Reg.tk 1 ?_; (try simp only [Reg.n1, Reg.n2, Reg.n3, Reg.n4, Reg.n5, Reg.n6, Reg.n7])
    refine Reg.tk 2 ?_; (try simp only [Reg.n1, Reg.n2, Reg.n3, Reg.n4, Reg.n5, Reg.n6, Reg.n7])
    refine Reg.tk 3 ?_; (try simp only [Reg.n1, Reg.n2, Reg.n3, Reg.n4, Reg.n5, Reg.n6, Reg.n7])
    refine Reg.tk 4 ?_; (try simp only [Reg.n1, Reg.n2, Reg.n3, Reg.n4, Reg.n5, Reg.n6, Reg.n7])
    refine Reg.tk 5 ?_; (try simp only [Reg.n1, Reg.n2, Reg.n3, Reg.n4, Reg.n5, Reg.n6, Reg.n7])
    refine Reg.tk 6 ?_; (try simp only [Reg.n1, Reg.n2, Reg.n3, Reg.n4, Reg.n5, Reg.n6, Reg.n7])
    refine Reg.tk 7 ?_; (try simp only [Reg.n1, Reg.n2, Reg.n3, Reg.n4, Reg.n5, Reg.n6, Reg.n7])
    refine Reg.tk 8 ?_; (try simp only [Reg.n1, Reg.n2, Reg.n3, Reg.n4, Reg.n5, Reg.n6, Reg.n7])
    refine Reg.tk 9 ?_; (try simp only [Reg.n1, Reg.n2, Reg.n3, Reg.n4, Reg.n5, Reg.n6, Reg.n7])
    refine Reg.tk 12 ?_; (try simp only [Reg.n1, Reg.n2, Reg.n3, Reg.n4, Reg.n5, Reg.n6, Reg.n7])
    refine Reg.onlyE 10 _ rfl (by kernel_rfl) (by decide) (by rfl) (fun W hW K hK => ?_); go_simp
    refine (hown.out W ((by repeat (first | assumption | exact Ext.refl _ | refine Ext.trans (by assumption) ?_ | apply Ext.drew | apply Ext.drewN | apply Ext.alloc)))).mono ?_
    rintro e wX ⟨v6, vs6, rfl, hO6, hX⟩
    have hS6 := hO6.sch (Nat.le_refl _)
    obtain ⟨A6, c6, rfl⟩ := hS6.slice
    refine hK.out _ _ (hX) ?_; clear hK K; (try simp only [Reg.n1, Reg.n2, Reg.n3, Reg.n4, Reg.n5, Reg.n6, Reg.n7])
    refine Reg.onlyE 11 _ rfl (by kernel_rfl) (by decide) (by rfl) (fun W hW K hK => ?_); go_simp
    refine (hpdp.out W _ ((by repeat (first | assumption | exact Ext.refl _ | refine Ext.trans (by assumption) ?_ | apply Ext.drew | apply Ext.drewN | apply Ext.alloc))) ((hS6.below (Below.mono hW (Nat.le_refl _))).mono hW.size)).mono ?_
    rintro e wY ⟨rfl, hY⟩
    refine hK.out _ _ (hY) ?_; clear hK K; (try simp only [Reg.n1, Reg.n2, Reg.n3, Reg.n4, Reg.n5, Reg.n6, Reg.n7])
    refine Reg.onlyE 13 _ rfl (by kernel_rfl) (by decide) (by rfl) (fun W hW K hK => ?_); go_simp
    refine (hrdp.out W ((by repeat (first | assumption | exact Ext.refl _ | refine Ext.trans (by assumption) ?_ | apply Ext.drew | apply Ext.drewN | apply Ext.alloc)))).mono ?_
    rintro e wZ ⟨rfl, hZ⟩
    refine hK.out _ _ (hZ) ?_; clear hK K; (try simp only [Reg.n1, Reg.n2, Reg.n3, Reg.n4, Reg.n5, Reg.n6, Reg.n7])
    refine Reg.tk 14 ?_; (try simp only [Reg.n1, Reg.n2, Reg.n3, Reg.n4, Reg.n5, Reg.n6, Reg.n7])
    refine Reg.tk 15 ?_; (try simp only [Reg.n1, Reg.n2, Reg.n3, Reg.n4, Reg.n5, Reg.n6, Reg.n7])
    refine Reg.tk 16 ?_; (try simp only [Reg.n1, Reg.n2, Reg.n3, Reg.n4, Reg.n5, Reg.n6, Reg.n7])
    refine Reg.onlyE 17 _ rfl (by kernel_rfl) (by decide) (by rfl) (fun W hW K hK => ?_); go_simp
    refine (hli.out W ((by repeat (first | assumption | exact Ext.refl _ | refine Ext.trans (by assumption) ?_ | apply Ext.drew | apply Ext.drewN | apply Ext.alloc)))).mono ?_
    rintro e wV ⟨rfl, hV⟩
    refine hK.out _ _ (hV) ?_; clear hK K; (try simp only [Reg.n1, Reg.n2, Reg.n3, Reg.n4, Reg.n5, Reg.n6, Reg.n7])
    refine Reg.tk 18 ?_; (try simp only [Reg.n1, Reg.n2, Reg.n3, Reg.n4, Reg.n5, Reg.n6, Reg.n7])
    refine Reg.tk 19 ?_; (try simp only [Reg.n1, Reg.n2, Reg.n3, Reg.n4, Reg.n5, Reg.n6, Reg.n7])
    refine Reg.fin (by kernel_rfl) (fun W hW => ?_)
    go_wp2_with fail
    go_ret
    exact ⟨rfl, (by repeat (first | assumption | exact Ext.refl _ | refine Ext.trans (by assumption) ?_ | apply Ext.drew | apply Ext.drewN | apply Ext.alloc))⟩
end Go.Proofs.YtejcacbbhijdcaaGreatDoor.Pr
