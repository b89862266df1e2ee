/- ids: slices.Insert of one bound. -/
import Derived.Test.YtalbjbcomamomaaIdsHas
import Derived.Test.YtalbjbcomamomaaSets
import Derived.Deep.RegionLaw
import Derived.Shelf.Spec.SlicesInsertGrow
namespace Go.Proofs.Ytalbjbcomamomaa.IdsW
open Go.ChangeShapes Go.WideShapes Go.ChangeAt Go.RowKit
open Base Mp
set_option linter.unusedVariables false
set_option linter.unusedSimpArgs false

theorem ins_list1 (C X E : List Value) (i2 n2 : Nat) (hX : C.take n2 = X) (hXl : X.length = n2) (hi : i2 + 2 ≤ n2) (hE : E.length = 2) (hC : n2 + 2 ≤ C.length) :
    ((C.take (i2 + 2) ++ X.drop i2 ++ C.drop (i2 + 2 + (X.drop i2).length)).take i2 ++ E ++ (C.take (i2 + 2) ++ X.drop i2 ++ C.drop (i2 + 2 + (X.drop i2).length)).drop (i2 + 2)).take (n2 + 2) = X.take i2 ++ E ++ X.drop i2 := by
  have hd : (X.drop i2).length = n2 - i2 := by rw [List.length_drop, hXl]
  have e1 : (C.take (i2 + 2) ++ X.drop i2 ++ C.drop (i2 + 2 + (X.drop i2).length)).take i2 = X.take i2 := by
    rw [List.append_assoc, List.take_append_of_le_length (by simp; omega), List.take_take, ← hX, List.take_take]
    congr 1; omega
  have e2 : (C.take (i2 + 2) ++ X.drop i2 ++ C.drop (i2 + 2 + (X.drop i2).length)).drop (i2 + 2) = X.drop i2 ++ C.drop (i2 + 2 + (X.drop i2).length) := by
    rw [List.append_assoc, List.drop_append, List.drop_eq_nil_of_le (by simp; omega), List.nil_append, List.length_take, Nat.min_eq_left (by omega), Nat.sub_self, List.drop_zero]
  rw [e1, e2, ← List.append_assoc, List.take_append_of_le_length (by simp; omega), List.take_of_length_le (by simp; omega)]
theorem ins_list2 (X Z E : List Value) (i2 n2 : Nat) (hXl : X.length = n2) (hi : i2 + 2 ≤ n2) (hE : E.length = 2) (hZ : n2 + 2 - i2 ≤ Z.length) :
    (((X.take i2 ++ Z).take i2 ++ E ++ (X.take i2 ++ Z).drop (i2 + 2)).take (i2 + 2) ++ X.drop i2 ++ ((X.take i2 ++ Z).take i2 ++ E ++ (X.take i2 ++ Z).drop (i2 + 2)).drop (i2 + 2 + (X.drop i2).length)).take (n2 + 2) = X.take i2 ++ E ++ X.drop i2 := by
  have ht : (X.take i2).length = i2 := by rw [List.length_take]; omega
  have e1 : (X.take i2 ++ Z).take i2 = X.take i2 := by rw [List.take_append_of_le_length (by omega), List.take_of_length_le (by omega)]
  have e2 : (X.take i2 ++ E ++ (X.take i2 ++ Z).drop (i2 + 2)).take (i2 + 2) = X.take i2 ++ E := by
    rw [List.take_append_of_le_length (by simp; omega), List.take_of_length_le (by simp; omega)]
  rw [e1, e2, List.take_append_of_le_length (by simp; omega), List.take_of_length_le (by simp; omega)]
theorem bnds_take (bs : List (Nat × Nat)) (i : Nat) : bnds (bs.take i) = (bnds bs).take (i * 2) := by
  induction bs generalizing i with
  | nil => simp [bnds]
  | cons x r ih =>
    cases i with
    | zero => simp [bnds]
    | succ i => rw [List.take_succ_cons, bnds_cons, bnds_cons, ih, show (i + 1) * 2 = i * 2 + 1 + 1 by omega]; rfl
theorem bnds_drop (bs : List (Nat × Nat)) (i : Nat) : bnds (bs.drop i) = (bnds bs).drop (i * 2) := by
  induction bs generalizing i with
  | nil => simp [bnds]
  | cons x r ih =>
    cases i with
    | zero => simp
    | succ i => rw [List.drop_succ_cons, bnds_cons, ih, show (i + 1) * 2 = i * 2 + 1 + 1 by omega]; rfl
/-- with one more at place i -/
def insAt (bs : List (Nat × Nat)) (i : Nat) (x : Nat × Nat) : List (Nat × Nat) := bs.take i ++ [x] ++ bs.drop i
theorem bnds_ins (bs : List (Nat × Nat)) (i : Nat) (x : Nat × Nat) : bnds (insAt bs i x) = (bnds bs).take (i * 2) ++ bnds [x] ++ (bnds bs).drop (i * 2) := by
  rw [insAt, bnds_append, bnds_append, bnds_take, bnds_drop]
theorem insAt_length (bs : List (Nat × Nat)) (i : Nat) (x : Nat × Nat) (hi : i ≤ bs.length) : (insAt bs i x).length = bs.length + 1 := by simp [insAt]; omega

set_option maxRecDepth 100000 in
set_option maxHeartbeats 2000000 in
/-- at the end -/
theorem ins_end (w : World) (B n vb : Nat) (v : Value) (bs : List (Nat × Nat)) (x : Nat × Nat) (hown : w.ownsRow B 43 2 v n (bnds bs)) (hn : bs.length = n) (hv : Blk w vb (bnds [x]).toArray 43) (hl : n ≤ 1000) (hB : B ≤ w.heap.size) :
    Calls Try.prog 22 #[v, .int .i64 (n : Int), .slice (some ⟨vb, 0, none⟩) 1 1] w fun e w' => ∃ v', e = .returned v' ∧ w'.ownsRow B 43 2 v' (n + 1) (bnds (insAt bs n x)) ∧ Chg (fun k => v.ownBlock = some k) w w' ∧ Fresh w v v' := by
  have hvr : Rd w (some ⟨vb, 0, none⟩) (bnds [x]) := fun _ => ⟨_, _, rfl, fun j u hj => by rw [Nat.zero_add, hv.cell j, List.getElem?_toArray]; exact hj⟩
  obtain ⟨A, c, rfl, hnc, hcm, hr, hxl⟩ := Rd.of_own hown
  have hcm' : c ≤ 9223372036854775807 := hcm
  have hkc : (n : Int) ≤ (c : Int) := by omega
  cases A with
  | none =>
    have hn0 : n = 0 ∧ c = 0 := by
      rcases hown.2 with ⟨e, e2⟩ | ⟨g', cap, cur, e, _⟩
      · injection e with e e3 e4; exact ⟨e2, e4⟩
      · injection e with e; cases e
    obtain ⟨rfl, rfl⟩ := hn0
    go_enter Try.func22, Try.ntmps22
    go_wp2_with (
      refine wpList_app el_bnd _ rfl (.tmp 23) (.tmp 24) rfl B (.slice none 0 0) 0 (bnds bs) rfl hown (some ⟨vb, 0, none⟩) 1 1 (bnds [x]) rfl hvr rfl (fun h => by cases h) (bnds_one [x]) (by omega) (by omega) hB (fun V1 w1 ho1 hg1 hv1 => ?_))
    go_ret
    have hbs : bs = [] := List.eq_nil_of_length_eq_zero hn
    subst hbs
    exact ⟨_, rfl, ho1, Chg.ofGrown hg1, hv1.imp id (fun e => ⟨_, e, Nat.le_refl _⟩)⟩
  | some a =>
    obtain ⟨b, rfl⟩ : ∃ b, a = ⟨b, 0, none⟩ := by
      rcases hown.2 with ⟨e, e2⟩ | ⟨g', cap, cur, e, _⟩
      · cases e
      · injection e with e; injection e with e; exact ⟨g', e⟩
    have hins : bnds (insAt bs n x) = bnds bs ++ bnds [x] := by
      rw [insAt, List.take_of_length_le (by omega), List.drop_eq_nil_of_le (by omega), List.append_nil, bnds_append]
    rw [hins]
    go_enter Try.func22, Try.ntmps22
    go_wp2_with (
      refine wpList_app el_bnd _ rfl (.tmp 23) (.tmp 24) rfl B (.slice (some ⟨b, 0, none⟩) n c) n (bnds bs) rfl hown (some ⟨vb, 0, none⟩) 1 1 (bnds [x]) rfl hvr rfl (fun h => by cases h) (bnds_one [x]) (by omega) (by omega) hB (fun V1 w1 ho1 hg1 hv1 => ?_))
    all_goals (go_ret; exact ⟨_, rfl, ho1, Chg.ofGrown hg1, hv1.imp id (fun e => ⟨_, e, Nat.le_refl _⟩)⟩)

theorem zero_size (k : Nat) : (Builtin.zeroCells (Value.agg #[.int .u64 0, .int .u64 0]).cells k).size = k * 2 := by simp [Builtin.zeroCells, Value.cells]

set_option maxRecDepth 100000 in
set_option maxHeartbeats 2000000 in
/-- in place -/
theorem ins_room (w : World) (B n c i vb b : Nat) (cur : Array Value) (bs : List (Nat × Nat)) (x : Nat × Nat) (hBb : B ≤ b) (hb : Blk w b cur 43) (hcs : cur.size = c * 2) (htk : cur.toList.take (n * 2) = bnds bs) (hcm : c ≤ maxLen) (hn : bs.length = n) (hv : Blk w vb (bnds [x]).toArray 43) (hbv : vb ≠ b) (hl : n ≤ 1000) (hi : i < n) (hroom : n + 1 ≤ c) :
    Calls Try.prog 22 #[.slice (some ⟨b, 0, none⟩) n c, .int .i64 (i : Int), .slice (some ⟨vb, 0, none⟩) 1 1] w fun e w' => ∃ v', e = .returned v' ∧ w'.ownsRow B 43 2 v' (n + 1) (bnds (insAt bs i x)) ∧ Chg (fun k => some b = some k) w w' ∧ Fresh w (.slice (some ⟨b, 0, none⟩) n c) v' := by
  have mixed : Try.prog.follows .mixedOrders = true := by kernel_rfl
  have hcm' : c ≤ 9223372036854775807 := hcm
  have hz2 : ¬ ((i : Int) = (n : Int)) := by omega
  have hz3 : ¬ (c : Int) < (n : Int) + 1 := by omega
  have hci : ¬ (c = i) := by omega
  have hci1 : ¬ (c = i + 1) := by omega
  have hsz : (Try.prog.info? 43).map (·.size) = some 2 := by kernel_rfl
  have hxl := bnds_length bs
  rw [hn] at hxl
  have hE : (bnds [x]).length = 2 := rfl
  obtain ⟨E, hEd⟩ : ∃ E, Hid (bnds [x] = E) := ⟨_, rfl⟩
  have hE1 : ∀ u ∈ E, u.oneCell' = true := by rw [← hEd.out]; exact bnds_one _
  rw [hEd.out] at hv hE
  obtain ⟨X, hX⟩ : ∃ X, Hid (bnds bs = X) := ⟨_, rfl⟩
  have hX1 : ∀ u ∈ X, u.oneCell' = true := by rw [← hX.out]; exact bnds_one _
  rw [hX.out] at htk hxl
  have hXc : ∀ j u, X[j]? = some u → cur[j]? = some u := fun j u hj => by
    rw [← htk, List.getElem?_take] at hj
    split at hj
    · rw [← Array.getElem?_toList]; exact hj
    · cases hj
  have hins : bnds (insAt bs i x) = X.take (i * 2) ++ E ++ X.drop (i * 2) := by rw [bnds_ins, hX.out, hEd.out]
  obtain ⟨D, hD⟩ : ∃ D, Hid (X.drop (i * 2) = D) := ⟨_, rfl⟩
  have hDl : D.length = (n - i) * 2 := by rw [← hD.out, List.length_drop, hxl, Nat.sub_mul]
  have hD1 : ∀ u ∈ D, u.oneCell' = true := by rw [← hD.out]; exact fun u hu => hX1 u (List.mem_of_mem_drop hu)
  obtain ⟨W1, hW1⟩ : ∃ W1, Hid (w.setCells b ((i + 1) * 2) D = W1) := ⟨_, rfl⟩
  have hb1 : Blk W1 b (setMany cur ((i + 1) * 2) D) 43 := by rw [← hW1.out]; exact Blk_sets D _ _ _ hb
  have hv1 : Blk W1 vb E.toArray 43 := by rw [← hW1.out]; exact Blk_far hbv _ _ hv
  have hs1 : (setMany cur ((i + 1) * 2) D).size = c * 2 := by rw [setMany_size, hcs]
  have hov : ∀ lb cb, (callFunc 34 #[.slice (some ⟨vb, 0, none⟩) 1 1, .slice (some ⟨b, (i + 1) * 2, none⟩) lb cb]).run Try.prog w = .ok (.value (.bool false)) w := fun lb cb => by
    rw [run_callFunc_extern Try.func34 (by kernel_rfl) (by kernel_rfl) (by kernel_rfl) (e := Extern.SlicesOverlaps.overlaps #[40, 40] #[4]) (by kernel_rfl),
      Lib.run_overlaps_apart w 40 4 43 Try.underlying40 2 (fun w => by kernel_rfl) ⟨vb, 0, none⟩ ⟨b, (i + 1) * 2, none⟩ 1 1 lb cb hbv 43 43 2 (c * 2) (by simp [World.shape?, show w.heap[vb]? = _ from hv, hE]) (by simp [World.shape?, show w.heap[b]? = _ from hb, hcs]) (by omega) (hv.frozen 0) (hv.frozen 2)]
    rfl
  have hcp1 : ∀ (W : World), (∀ y, W.cell? y = w.cell? y) → (∀ y, W.frozen? y = w.frozen? y) → ∀ ty dc sc, (Builtin.copy_ #[40, 40] ty #[.slice (some ⟨b, (i + 1) * 2, none⟩) (n + 1 - (i + 1)) dc, .slice (some ⟨b, i * 2, none⟩) (n + 1 - i) sc]).run Try.prog W = .ok (goInt (Nat.min (n + 1 - i) (n + 1 - (i + 1)) : Nat)) (W.setCells b ((i + 1) * 2) D) := fun W hWc hWf ty dc sc =>
    run_copy_many W _ _ ty 43 2 b ((i + 1) * 2) (n + 1 - (i + 1)) dc ⟨b, i * 2, none⟩ (n + 1 - i) sc D Try.underlying40 hsz (by rw [hDl]; simp only [Nat.min_def]; split <;> omega)
      (fun j u hj => by rw [← hD.out, List.getElem?_drop] at hj; rw [Go.WideShapes.add_plain, hWc, hb.cell]; exact hXc _ u hj)
      (fun j hj => by rw [hWc, hb.cell, Array.getElem?_eq_getElem (by omega)]; rfl) (fun j hj => by rw [hWf]; exact hb.frozen _) hD1
  have hcp2 : ∀ (W : World), (∀ y, W.cell? y = W1.cell? y) → (∀ y, W.frozen? y = W1.frozen? y) → ∀ ty dc, (Builtin.copy_ #[40, 40] ty #[.slice (some ⟨b, i * 2, none⟩) (n + 1 - i) dc, .slice (some ⟨vb, 0, none⟩) 1 1]).run Try.prog W = .ok (goInt (Nat.min 1 (n + 1 - i) : Nat)) (W.setCells b (i * 2) E) := fun W hWc hWf ty dc =>
    run_copy_many W _ _ ty 43 2 b (i * 2) (n + 1 - i) dc ⟨vb, 0, none⟩ 1 1 E Try.underlying40 hsz (by rw [hE]; simp only [Nat.min_def]; split <;> omega)
      (fun j u hj => by rw [Go.WideShapes.add_plain, Nat.zero_add, hWc, hv1.cell, List.getElem?_toArray]; exact hj)
      (fun j hj => by rw [hWc, hb1.cell, Array.getElem?_eq_getElem (by omega)]; rfl) (fun j hj => by rw [hWf]; exact hb1.frozen _) hE1
  go_enter Try.func22, Try.ntmps22
  go_wp2_with (simp only [hov])
  have hw1 : IntKind.i64.wrap ((i : Int) + 1) = (i : Int) + 1 := by rw [IntKind.wrap_i64]; omega
  have hw0 : (0 : Int) ≤ (i : Int) + 1 := by omega
  have hwn : (i : Int) + 1 ≤ (n : Int) + 1 := by omega
  have hin : (i : Int) ≤ (n : Int) := by omega
  have hin2 : i ≤ n := by omega
  have hin3 : (i : Int) ≤ (n : Int) + 1 := by omega
  have htn : ((i : Int) + 1).toNat = i + 1 := by omega
  go_region_law (refine step_copy_runI rfl _ _ 40 40 rfl (.slice (some ⟨b, (i + 1) * 2, none⟩) (n + 1 - (i + 1)) (c - (i + 1))) (.slice (some ⟨b, i * 2, none⟩) (n + 1 - i) (c - i)) (by simp [Act.eval, Act.put]) (by simp [Act.eval, Act.put]) (hcp1 w.drew (fun _ => rfl) (fun _ => rfl) _ _ _) ?_)
  have hq2 := hcp2 (w.drew.setCells b ((i + 1) * 2) D) (fun y => by rw [← hW1.out, ← drew_setCells]; rfl) (fun y => by rw [← hW1.out, ← drew_setCells]; rfl)
  go_wp2_with (at_builtin; refine wpList_copy_runI _ rfl _ _ 40 40 rfl _ _ rfl rfl (hq2 _ _) ?_)
  go_ret
  have hlist : (setMany (setMany cur ((i + 1) * 2) D) (i * 2) E).toList.take ((n + 1) * 2) = bnds (insAt bs i x) := by
    rw [hins, setMany_list _ _ _ (by rw [hs1]; omega), setMany_list _ _ _ (by rw [hcs]; omega), ← hD.out, hE]
    have h := ins_list1 cur.toList X E (i * 2) (n * 2) htk hxl (by omega) hE (by simp [hcs]; omega)
    rw [show (i + 1) * 2 = i * 2 + 2 by omega, show (n + 1) * 2 = n * 2 + 2 by omega]
    exact h
  have hlen : (bnds (insAt bs i x)).length = (n + 1) * 2 := by rw [bnds_length, insAt_length _ _ _ (by omega), hn]
  exact ⟨_, rfl, ⟨hlen, .inr ⟨b, c, _, rfl, hBb, Blk_sets E _ _ _ (Blk_sets D _ _ _ hb.drew), by omega, hcm, by rw [setMany_size, setMany_size, hcs], hlist⟩⟩, Chg_sets (S := fun k => some b = some k) rfl _ _ (Chg_sets (S := fun k => some b = some k) rfl _ _ (Chg.ofExt (Ext.refl w).drew)), .inl rfl⟩

set_option maxRecDepth 100000 in
set_option maxHeartbeats 400000 in
/-- into a new row -/
theorem ins_grow (w : World) (B n i vb b : Nat) (cur : Array Value) (bs : List (Nat × Nat)) (x : Nat × Nat) (hBw : B ≤ w.heap.size) (hb : Blk w b cur 43) (hcs : cur.size = n * 2) (htk : cur.toList = bnds bs) (hn : bs.length = n) (hv : Blk w vb (bnds [x]).toArray 43) (hl : n ≤ 1000) (hi : i < n) :
    Calls Try.prog 22 #[.slice (some ⟨b, 0, none⟩) n n, .int .i64 (i : Int), .slice (some ⟨vb, 0, none⟩) 1 1] w fun e w' => ∃ v', e = .returned v' ∧ w'.ownsRow B 43 2 v' (n + 1) (bnds (insAt bs i x)) ∧ Chg (fun k => some b = some k) w w' ∧ Fresh w (.slice (some ⟨b, 0, none⟩) n n) v' := by
  have mixed : Try.prog.follows .mixedOrders = true := by kernel_rfl
  have hz2 : ¬ ((i : Int) = (n : Int)) := by omega
  have hz3 : (n : Int) < (n : Int) + 1 := by omega
  have hci : ¬ (n = i) := by omega
  have hkk : (n : Int) + 1 - (i : Int) = ((n + 1 - i : Nat) : Int) := by omega
  have hik : i + (n + 1 - i) = n + 1 := by omega
  have hsz : (Try.prog.info? 43).map (·.size) = some 2 := by kernel_rfl
  obtain ⟨i0, hi0, hz0, hzs, hzb⟩ := info_parts el_bnd.info
  have hxl := bnds_length bs
  rw [hn] at hxl
  have hE : (bnds [x]).length = 2 := rfl
  obtain ⟨E, hEd⟩ : ∃ E, Hid (bnds [x] = E) := ⟨_, rfl⟩
  have hE1 : ∀ u ∈ E, u.oneCell' = true := by rw [← hEd.out]; exact bnds_one _
  rw [hEd.out] at hv hE
  obtain ⟨X, hX⟩ : ∃ X, Hid (bnds bs = X) := ⟨_, rfl⟩
  have hX1 : ∀ u ∈ X, u.oneCell' = true := by rw [← hX.out]; exact bnds_one _
  rw [hX.out] at htk hxl
  have hXc : ∀ j u, X[j]? = some u → cur[j]? = some u := fun j u hj => by rw [← Array.getElem?_toList, htk]; exact hj
  have hins : bnds (insAt bs i x) = X.take (i * 2) ++ E ++ X.drop (i * 2) := by rw [bnds_ins, hX.out, hEd.out]
  have hlen : (bnds (insAt bs i x)).length = (n + 1) * 2 := by rw [bnds_length, insAt_length _ _ _ (by omega), hn]
  obtain ⟨D, hD⟩ : ∃ D, Hid (X.drop (i * 2) = D) := ⟨_, rfl⟩
  have hDl : D.length = (n - i) * 2 := by rw [← hD.out, List.length_drop, hxl, Nat.sub_mul]
  have hD1 : ∀ u ∈ D, u.oneCell' = true := by rw [← hD.out]; exact fun u hu => hX1 u (List.mem_of_mem_drop hu)
  have hbw := hb.lt
  have hvw := hv.lt
  have hold : (Builtin.firstCells i0.size i (.slice (some ⟨b, 0, none⟩) i n)).run Try.prog w.drew = .ok (X.take (i * 2)).toArray w.drew := by
    rw [hzs]
    exact run_firstCells_some w.drew 2 i ⟨b, 0, none⟩ i n (X.take (i * 2)) (by rw [List.length_take]; omega) (fun j u hj => by
      rw [Go.WideShapes.add_plain, Nat.zero_add, hb.drew.cell]
      rw [List.getElem?_take] at hj
      split at hj
      · exact hXc j u hj
      · cases hj)
  have hrz : ∀ ty, (Builtin.append_ #[40, 3] ty #[.slice (some ⟨b, 0, none⟩) i n, .int .i64 ((n + 1 - i : Nat) : Int)]).run Try.prog w =
      .ok (.slice (some ⟨w.heap.size, 0, none⟩) (n + 1) (grownCap w (n + 1) n 43)) (w.drew.alloc (.cells ((X.take (i * 2)).toArray ++ Builtin.zeroCells (Value.agg #[.int .u64 0, .int .u64 0]).cells (n + 1 - i) ++ Builtin.zeroCells (Value.agg #[.int .u64 0, .int .u64 0]).cells (grownCap w (n + 1) n 43 - (n + 1))) 43)) := fun ty => by
    have h := Lib.run_append_grow_zeros w 40 3 ty 43 i0 _ .i64 .i64 Try.underlying40 Try.underlying3 hi0 hz0 (some ⟨b, 0, none⟩) i n ((X.take (i * 2))) hold (n + 1 - i) (by omega) (by omega) (by omega) (by omega) (by rw [hzb]; omega) (by rw [hzb, hik]; exact growslice_fits (by omega) (by omega))
    rw [hik] at h
    exact h
  have hGn : n + 1 ≤ grownCap w (n + 1) n 43 := grownCap_ge w _ _ _
  have hG63 := grownCap_le_maxLen w (n + 1) n 43 (by unfold maxLen; omega)
  obtain ⟨G, hG⟩ : ∃ G, grownCap w (n + 1) n 43 = G := ⟨_, rfl⟩
  rw [hG] at hrz hGn hG63
  have hG63' : G ≤ 9223372036854775807 := hG63
  obtain ⟨ROW, hROW⟩ : ∃ ROW : Array Value, Hid ((X.take (i * 2)).toArray ++ Builtin.zeroCells (Value.agg #[.int .u64 0, .int .u64 0]).cells (n + 1 - i) ++ Builtin.zeroCells (Value.agg #[.int .u64 0, .int .u64 0]).cells (G - (n + 1)) = ROW) := ⟨_, rfl⟩
  have hRs : ROW.size = G * 2 := by
    rw [← hROW.out, Array.size_append, Array.size_append, zero_size, zero_size, List.size_toArray, List.length_take]
    omega
  obtain ⟨Z, hZ, hZl⟩ : ∃ Z : List Value, ROW.toList = X.take (i * 2) ++ Z ∧ n * 2 + 2 - i * 2 ≤ Z.length := by
    refine ⟨(Builtin.zeroCells (Value.agg #[.int .u64 0, .int .u64 0]).cells (n + 1 - i)).toList ++ (Builtin.zeroCells (Value.agg #[.int .u64 0, .int .u64 0]).cells (G - (n + 1))).toList, by rw [← hROW.out]; simp, ?_⟩
    rw [List.length_append, Array.length_toList, Array.length_toList, zero_size, zero_size]
    omega
  rw [hROW.out] at hrz
  have hGi : ¬ (G = i) := by omega
  have hGi1 : ¬ (G = i + 1) := by omega
  obtain ⟨N, hN⟩ : ∃ N, Hid (w.heap.size = N) := ⟨_, rfl⟩
  have hbN : b ≠ N := by have := hN.out; omega
  have hvN : vb ≠ N := by have := hN.out; omega
  rw [hN.out] at hrz
  obtain ⟨W0, hW0⟩ : ∃ W0, Hid (w.drew.alloc (.cells ROW 43) = W0) := ⟨_, rfl⟩
  rw [hW0.out] at hrz
  have hN0 : Blk W0 N ROW 43 := by rw [← hW0.out, ← hN.out]; exact Blk.new w.drew ROW _
  have hx0 : Ext w W0 := by rw [← hW0.out]; exact ((Ext.refl w).drew).alloc _
  have hb0 := hb.ext hx0
  have hv0 := hv.ext hx0
  have hcpA : ∀ ty dc, (Builtin.copy_ #[40, 40] ty #[.slice (some ⟨N, i * 2, none⟩) (n + 1 - i) dc, .slice (some ⟨vb, 0, none⟩) 1 1]).run Try.prog W0 = .ok (goInt (Nat.min 1 (n + 1 - i) : Nat)) (W0.setCells N (i * 2) E) := fun ty dc =>
    run_copy_many W0 _ _ ty 43 2 N (i * 2) (n + 1 - i) dc ⟨vb, 0, none⟩ 1 1 E Try.underlying40 hsz (by rw [hE]; simp only [Nat.min_def]; split <;> omega)
      (fun j u hj => by rw [Go.WideShapes.add_plain, Nat.zero_add, hv0.cell, List.getElem?_toArray]; exact hj)
      (fun j hj => by rw [hN0.cell, Array.getElem?_eq_getElem (by omega)]; rfl) (fun j hj => hN0.frozen _) hE1
  obtain ⟨W1, hW1⟩ : ∃ W1, Hid (W0.setCells N (i * 2) E = W1) := ⟨_, rfl⟩
  rw [hW1.out] at hcpA
  have hN1 : Blk W1 N (setMany ROW (i * 2) E) 43 := by rw [← hW1.out]; exact Blk_sets E _ _ _ hN0
  have hb1 : Blk W1 b cur 43 := by rw [← hW1.out]; exact Blk_far hbN _ _ hb0
  have hx1 : Ext w W1 := by rw [← hW1.out]; exact Ext_sets (Nat.le_of_eq hN.out) _ _ hx0
  have hs1 : (setMany ROW (i * 2) E).size = G * 2 := by rw [setMany_size, hRs]
  have hcpB : ∀ ty dc sc, (Builtin.copy_ #[40, 40] ty #[.slice (some ⟨N, (i + 1) * 2, none⟩) (n - i) dc, .slice (some ⟨b, i * 2, none⟩) (n - i) sc]).run Try.prog W1.drew = .ok (goInt (Nat.min (n - i) (n - i) : Nat)) (W1.drew.setCells N ((i + 1) * 2) D) := fun ty dc sc =>
    run_copy_many W1.drew _ _ ty 43 2 N ((i + 1) * 2) (n - i) dc ⟨b, i * 2, none⟩ (n - i) sc D Try.underlying40 hsz (by rw [hDl]; simp only [Nat.min_def]; split <;> rfl)
      (fun j u hj => by rw [← hD.out, List.getElem?_drop] at hj; rw [Go.WideShapes.add_plain, hb1.drew.cell]; exact hXc _ u hj)
      (fun j hj => by rw [hN1.drew.cell, Array.getElem?_eq_getElem (by omega)]; rfl) (fun j hj => hN1.drew.frozen _) hD1
  have hlist : (setMany (setMany ROW (i * 2) E) ((i + 1) * 2) D).toList.take ((n + 1) * 2) = bnds (insAt bs i x) := by
    rw [hins, setMany_list _ _ _ (by rw [hs1]; omega), setMany_list _ _ _ (by rw [hRs]; omega), hE, hZ, ← hD.out]
    have h := ins_list2 X Z E (i * 2) (n * 2) hxl (by omega) hE hZl
    rw [show (i + 1) * 2 = i * 2 + 2 by omega, show (n + 1) * 2 = n * 2 + 2 by omega]
    exact h
  have hNb : Blk (W1.drew.setCells N ((i + 1) * 2) D) N (setMany (setMany ROW (i * 2) E) ((i + 1) * 2) D) 43 := Blk_sets D _ _ _ hN1.drew
  have hxf : Ext w (W1.drew.setCells N ((i + 1) * 2) D) := Ext_sets (Nat.le_of_eq hN.out) _ _ hx1.drew
  have hBN : B ≤ N := by rw [← hN.out]; exact hBw
  have hwN : w.heap.size ≤ N := Nat.le_of_eq hN.out
  have hSz : (setMany (setMany ROW (i * 2) E) ((i + 1) * 2) D).size = G * 2 := by rw [setMany_size, setMany_size, hRs]
  clear hins hb1 hN1 hb0 hv0 hN0 hx0 hx1 hRs hZ hW0 hW1 hN hROW hold hXc hs1 hX1 hD1 hE1 hxl hDl hE hcs htk hb hv
  go_enter Try.func22, Try.ntmps22
  go_wp2_with (first
    | (at_builtin; refine Lib.wpList_append_run _ rfl _ _ _ _ rfl _ _ rfl rfl _ _ (hrz _) ?_)
    | (at_builtin; refine wpList_copy_runI _ rfl _ _ 40 40 rfl _ _ rfl rfl (hcpA _ _) ?_))
  have hw1 : IntKind.i64.wrap ((i : Int) + 1) = (i : Int) + 1 := by rw [IntKind.wrap_i64]; omega
  have hw0 : (0 : Int) ≤ (i : Int) + 1 := by omega
  have hwn : (i : Int) + 1 ≤ (n : Int) + 1 := by omega
  have hin : (i : Int) ≤ (n : Int) := by omega
  have hin2 : i ≤ n := by omega
  have hin3 : (i : Int) ≤ (n : Int) + 1 := by omega
  have htn : ((i : Int) + 1).toNat = i + 1 := by omega
  go_region_law (refine step_copy_runI rfl _ _ 40 40 rfl (.slice (some ⟨N, (i + 1) * 2, none⟩) (n - i) (G - (i + 1))) (.slice (some ⟨b, i * 2, none⟩) (n - i) (n - i)) (by simp [Act.eval, Act.put]) (by simp [Act.eval, Act.put]) (hcpB _ _ _) ?_)
  go_wp2_with fail
  go_ret
  exact ⟨_, rfl, ⟨hlen, .inr ⟨N, G, _, rfl, hBN, hNb, hGn, hG63, hSz, hlist⟩⟩, Chg.ofExt hxf, .inr ⟨N, rfl, hwN⟩⟩

theorem ins_any (w : World) (B n i vb : Nat) (v : Value) (bs : List (Nat × Nat)) (x : Nat × Nat) (hown : w.ownsRow B 43 2 v n (bnds bs)) (hn : bs.length = n) (hv : Blk w vb (bnds [x]).toArray 43) (hne : v.ownBlock ≠ some vb) (hl : n ≤ 1000) (hi : i ≤ n) (hB : B ≤ w.heap.size) :
    Calls Try.prog 22 #[v, .int .i64 (i : Int), .slice (some ⟨vb, 0, none⟩) 1 1] w fun e w' => ∃ v', e = .returned v' ∧ w'.ownsRow B 43 2 v' (n + 1) (bnds (insAt bs i x)) ∧ Chg (fun k => v.ownBlock = some k) w w' ∧ Fresh w v v' := by
  rcases Nat.lt_or_ge i n with h | h
  · rcases hown.2 with ⟨rfl, e2⟩ | ⟨b, c, cur, rfl, hBb, hb, hnc, hcm, hcs, htk⟩
    · omega
    · rcases Nat.lt_or_ge n c with h2 | h2
      · exact ins_room w B n c i vb b cur bs x hBb hb hcs htk hcm hn hv (fun e => hne (by rw [e]; rfl)) hl h h2
      · obtain rfl : n = c := by omega
        exact ins_grow w B n i vb b cur bs x hB hb hcs (by rw [← htk, List.take_of_length_le (by rw [Array.length_toList, hcs]; exact Nat.le_refl _)]) hn hv hl h
  · obtain rfl : i = n := by omega
    exact ins_end w B i vb v bs x hown hn hv hl hB
end Go.Proofs.Ytalbjbcomamomaa.IdsW
