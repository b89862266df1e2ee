/- lex: Words, walked. -/
import Derived.Maps.AppendAt
import Derived.Maps.OwnIn
import Derived.Test.YtgbfoklgejdegaaLexIter
namespace Go.Proofs.Ytgbfoklgejdegaa.Lx
open Go.RowKit Go.Shelf
open Base
set_option linter.unusedVariables false
set_option linter.unusedSimpArgs false
attribute [local go_sem] Oper.semAt_some

def tcells (x : Tok) : List Value := [.int .i64 x.k, .string x.s, .int .i64 (x.a : Int)]
def rows (l : List Tok) : List Value := l.flatMap tcells
theorem rows_snoc (l : List Tok) (x : Tok) : rows (l ++ [x]) = rows l ++ tcells x := by simp [rows]
theorem rows_length (l : List Tok) : (rows l).length = l.length * 3 := by
  induction l with
  | nil => rfl
  | cons x l ih => simp only [rows, List.flatMap_cons, List.length_append, List.length_cons] at *; rw [ih]; simp [tcells]; omega
/-- where Words leaves off, and why; n: how many there are -/
def wordsR : List Tok → Nat → Option (Int × Int)
  | [], _ => none
  | x :: l, n => if x.k < 0 then some (x.a, 4) else if n = 1500 then some (4096, 2) else wordsR l (n + 1)
theorem wordsR_append : ∀ (l m : List Tok) (n : Nat), wordsR (l ++ m) n = match wordsR l n with | some r => some r | none => wordsR m (n + l.length)
  | [], m, n => rfl
  | x :: l, m, n => by
    rw [List.cons_append, wordsR, wordsR]
    split
    · rfl
    · split
      · rfl
      · rw [wordsR_append l m (n + 1), List.length_cons, show n + 1 + l.length = n + (l.length + 1) by omega]
theorem wordsR_len : ∀ (l : List Tok) (n : Nat), n ≤ 1500 → wordsR l n = none → n + l.length ≤ 1500
  | [], n, h, _ => h
  | x :: l, n, h, e => by
    rw [wordsR] at e
    split at e
    · cases e
    · split at e
      · cases e
      · have := wordsR_len l (n + 1) (by omega) e
        rw [List.length_cons]; omega
def words (s : ByteArray) : Option (Int × Int) := if 4096 < s.size then some (0, 2) else wordsR (toks s) 0
/-- a slice of tokens that reads as l -/
def Rt (w : World) (v : Value) (l : List Tok) : Prop := ∃ g cap, v = .slice (some ⟨g, 0, none⟩) l.length cap ∧ ∀ j u, (rows l)[j]? = some u → w.cell? ⟨g, j, none⟩ = some u

theorem blk_own {β : Type} (B : Nat) (t : TypeId) (f : β → Array Value) : Own (fun s W => Blk W B (f s) t) := fun s X Y row hs hg hrow =>
  (hg.block B hs.lt (fun e' => by obtain ⟨o, ho, hc⟩ := hrow B e'.symm; rw [show X.heap[B]? = _ from hs] at ho; cases ho; cases hc)).trans hs

theorem infoTok : (Try.prog.info? 28).map (fun i => (i.zero, i.size, i.bytes)) = some (some (.agg #[.int .i64 0, .string ByteArray.empty, .int .i64 0]), 3, 32) := by kernel_rfl

theorem Kp.turn {Bn : Nat} {w : World} (hB : Bn < w.heap.size) (W : World) (l : Nat) (o o' : Obj) (hl : w.heap.size ≤ l) (h : W.heap[l]? = some o) (_ : o.isCells = false) (_ : o.isWalk = false) : Kp Bn W (W.putObj l o') :=
  ⟨by simp, fun o2 h2 => ((grownBy_putObj' W l o').block Bn (Array.getElem?_eq_some_iff.1 h2).1 (fun e => by injection e with e; omega)).trans h2⟩
theorem Kp.of_box {Bn : Nat} {t : TypeId} {v : Value} {W W' : World} (h : W.heap.size ≤ W'.heap.size) (b : Boxed W Bn t v) (b' : Boxed W' Bn t v) : Kp Bn W W' := ⟨h, fun o ho => by rw [show W.heap[Bn]? = _ from b] at ho; rw [← ho]; exact b'⟩
theorem toks_ne (s : ByteArray) : toks s ≠ [] := by
  unfold toks
  rw [tokG]
  split <;> simp
theorem rt_of_own {w : World} {base : Nat} {v : Value} {l : List Tok} (h : w.ownsRow base 28 3 v l.length (rows l)) (hl : l ≠ []) : Rt w v l := by
  rcases h.2 with ⟨rfl, h0⟩ | ⟨g, cap, cur, rfl, _, hg, _, _, hc, ht⟩
  · exact absurd (List.eq_nil_of_length_eq_zero h0) hl
  · refine ⟨g, cap, rfl, fun j u hj => ?_⟩
    rw [show w.cell? ⟨g, j, none⟩ = cur[j]? from cell_of_row w g j cur 28 (0, 0) hg]
    rw [← ht, List.getElem?_take] at hj
    split at hj
    · simpa using hj
    · cases hj
theorem own_slice {w : World} {base : Nat} {e : TypeId} {size n : Nat} {v : Value} {xs : List Value} (h : w.ownsRow base e size v n xs) : ∃ A cap, v = .slice A n cap := by
  rcases h.2 with ⟨rfl, rfl⟩ | ⟨g, cap, cur, rfl, _⟩
  · exact ⟨none, 0, rfl⟩
  · exact ⟨_, cap, rfl⟩
theorem cells_new (w : World) (cs : List Value) (t : TypeId) : ∀ j u, cs[j]? = some u → (w.alloc (.cells cs.toArray t)).cell? ((⟨w.heap.size, 0, none⟩ : Addr).add j) = some u := fun j u hj => by
  have hadd : (⟨w.heap.size, 0, none⟩ : Addr).add j = ⟨w.heap.size, j, none⟩ := by unfold Addr.add; split <;> simp_all
  rw [hadd, (Blk.new w cs.toArray t).cell j, List.getElem?_toArray, hj]
theorem three {w W : World} {B : Nat} {t2 t3 t4 : TypeId} {v2 v3 v4 : Value} (x y z : Value) (c2 : Boxed W B t2 v2) (c3 : Boxed W (B + 1) t3 v3) (c4 : Boxed W (B + 1 + 1) t4 v4) (hB : Below B w W) :
    Boxed (((W.setCell ⟨B, 0, none⟩ x).setCell ⟨B + 1, 0, none⟩ y).setCell ⟨B + 1 + 1, 0, none⟩ z) B t2 x ∧ Boxed (((W.setCell ⟨B, 0, none⟩ x).setCell ⟨B + 1, 0, none⟩ y).setCell ⟨B + 1 + 1, 0, none⟩ z) (B + 1) t3 y ∧
    Boxed (((W.setCell ⟨B, 0, none⟩ x).setCell ⟨B + 1, 0, none⟩ y).setCell ⟨B + 1 + 1, 0, none⟩ z) (B + 1 + 1) t4 z ∧ KeepsOthers W (((W.setCell ⟨B, 0, none⟩ x).setCell ⟨B + 1, 0, none⟩ y).setCell ⟨B + 1 + 1, 0, none⟩ z) ∧
    Below B w (((W.setCell ⟨B, 0, none⟩ x).setCell ⟨B + 1, 0, none⟩ y).setCell ⟨B + 1 + 1, 0, none⟩ z) :=
  ⟨((c2.set x).other (by omega) _).other (by omega) _, ((c3.other (by omega) _).set y).other (by omega) _, ((c4.other (by omega) _).other (by omega) _).set z,
    ((KeepsOthers.setCell _ _ _).trans (KeepsOthers.setCell _ _ _)).trans (KeepsOthers.setCell _ _ _),
    ((hB.setCell (p := ⟨B, 0, none⟩) (Nat.le_refl _) _).setCell (p := ⟨B + 1, 0, none⟩) (by show B ≤ B + 1; omega) _).setCell (p := ⟨B + 1 + 1, 0, none⟩) (by show B ≤ B + 1 + 1; omega) _⟩
theorem res3 {w : World} {tmps : Array Value} {a b c : Nat} {u v x : Value} (ha : tmps[2]?.getD undef = .pointer (some ⟨a, 0, none⟩)) (hb : tmps[3]?.getD undef = .pointer (some ⟨b, 0, none⟩)) (hc : tmps[4]?.getD undef = .pointer (some ⟨c, 0, none⟩))
    (h1 : w.cell? ⟨a, 0, none⟩ = some u) (h2 : w.cell? ⟨b, 0, none⟩ = some v) (h3 : w.cell? ⟨c, 0, none⟩ = some x) : (results Try.f6 tmps).run Try.prog w = .ok (.tuple #[u, v, x]) w := by
  simp [results, Try.f6, go_sem, ha, hb, hc, h1, h2, h3]

set_option maxRecDepth 100000 in
set_option maxHeartbeats 4000000 in
theorem words_any (s : ByteArray) (hs : s.size ≤ 140737488351232) (w : World) :
    Calls Try.prog 6 #[.string s] w fun e w' => ∃ v p er, e = .returned (.tuple #[v, .int .i64 p, .int .i64 er]) ∧ (words s = some (p, er) ∧ v = .slice none 0 0 ∨ words s = none ∧ p = 0 ∧ er = 0 ∧ Rt w' v (toks s)) ∧ Ext w w' := by
  obtain ⟨i0, hi, hz0, hz1, hz2⟩ := info_parts infoTok
  have htok := tokens_any s
  refine (callsIn_wide (n := 10)).1 ?_
  refine callsIn_of_wp_marks Try.func6 rfl trivial ?_ rfl
  simp only [Try.ntmps6, List.size_toArray, List.length_cons, List.length_nil, Nat.reduceAdd, Nat.reduceSub, Array.replicate_succ, Array.replicate_zero, List.push_toArray, List.append_toArray, List.nil_append, List.cons_append]
  by_cases hlong : 4096 < s.size
  · have hl : (s.size : Int) > 4096 := by omega
    have hw : words s = some (0, 2) := by rw [words, if_pos hlong]
    gi_wp2
    have b2 : Boxed (((w.alloc (.cells #[.slice none 0 0] 22)).alloc (.cells #[.int .i64 0] 3)).alloc (.cells #[.int .i64 2] 23)) w.heap.size 22 (.slice none 0 0) := ((Boxed.new w _ _).alloc _).alloc _
    have b3 : Boxed (((w.alloc (.cells #[.slice none 0 0] 22)).alloc (.cells #[.int .i64 0] 3)).alloc (.cells #[.int .i64 2] 23)) (w.heap.size + 1) 3 (.int .i64 0) := by
      have h := (Boxed.new (w.alloc (.cells #[.slice none 0 0] 22)) 3 (.int .i64 0)).alloc (.cells #[.int .i64 2] 23)
      rwa [World.size_alloc] at h
    have b4 : Boxed (((w.alloc (.cells #[.slice none 0 0] 22)).alloc (.cells #[.int .i64 0] 3)).alloc (.cells #[.int .i64 2] 23)) (w.heap.size + 1 + 1) 23 (.int .i64 2) := by
      have h := Boxed.new ((w.alloc (.cells #[.slice none 0 0] 22)).alloc (.cells #[.int .i64 0] 3)) 23 (.int .i64 2)
      rwa [World.size_alloc, World.size_alloc] at h
    refine ⟨_, res3 rfl rfl rfl b2.cell b3.cell b4.cell, _, _, _, rfl, .inl ⟨hw, rfl⟩, ?_⟩
    exact (((Ext.refl w).alloc _).alloc _).alloc _
  · have hl : ¬ (s.size : Int) > 4096 := by omega
    gi_wp2_with (refine ⟨trivial, ?_⟩; gi_at_call 12; refine (callsIn_wide.2 (htok _)).mono ?_; rintro e w' ⟨rfl, rfl⟩)
    have hwd : words s = wordsR (toks s) 0 := by rw [words, if_neg hlong]
    have hB0 : Below w.heap.size w (((((w.alloc (.cells #[.slice none 0 0] 22)).alloc (.cells #[.int .i64 0] 3)).alloc (.cells #[.int .i64 0] 23)).alloc (.cells #[.slice none 0 0] 22)).alloc (.cells #[.string s] 9)) := (((((Below.refl _ w).alloc (Nat.le_refl _) _).alloc (by simp) _).alloc (by simp; omega) _).alloc (by simp; omega) _).alloc (by simp; omega) _
    have hsz : (((((w.alloc (.cells #[.slice none 0 0] 22)).alloc (.cells #[.int .i64 0] 3)).alloc (.cells #[.int .i64 0] 23)).alloc (.cells #[.slice none 0 0] 22)).alloc (.cells #[.string s] 9)).heap.size = w.heap.size + 5 := by simp
    have b2 : Boxed (((((w.alloc (.cells #[.slice none 0 0] 22)).alloc (.cells #[.int .i64 0] 3)).alloc (.cells #[.int .i64 0] 23)).alloc (.cells #[.slice none 0 0] 22)).alloc (.cells #[.string s] 9)) w.heap.size 22 (.slice none 0 0) := ((((Boxed.new w _ _).alloc _).alloc _).alloc _).alloc _
    have b3 : Boxed (((((w.alloc (.cells #[.slice none 0 0] 22)).alloc (.cells #[.int .i64 0] 3)).alloc (.cells #[.int .i64 0] 23)).alloc (.cells #[.slice none 0 0] 22)).alloc (.cells #[.string s] 9)) (w.heap.size + 1) 3 (.int .i64 0) := by
      have h := (((Boxed.new (w.alloc (.cells #[.slice none 0 0] 22)) 3 (.int .i64 0)).alloc (.cells #[.int .i64 0] 23)).alloc (.cells #[.slice none 0 0] 22)).alloc (.cells #[.string s] 9)
      rwa [World.size_alloc] at h
    have b4 : Boxed (((((w.alloc (.cells #[.slice none 0 0] 22)).alloc (.cells #[.int .i64 0] 3)).alloc (.cells #[.int .i64 0] 23)).alloc (.cells #[.slice none 0 0] 22)).alloc (.cells #[.string s] 9)) (w.heap.size + 1 + 1) 23 (.int .i64 0) := by
      have h := ((Boxed.new ((w.alloc (.cells #[.slice none 0 0] 22)).alloc (.cells #[.int .i64 0] 3)) 23 (.int .i64 0)).alloc (.cells #[.slice none 0 0] 22)).alloc (.cells #[.string s] 9)
      rwa [World.size_alloc, World.size_alloc] at h
    have b5 : Boxed (((((w.alloc (.cells #[.slice none 0 0] 22)).alloc (.cells #[.int .i64 0] 3)).alloc (.cells #[.int .i64 0] 23)).alloc (.cells #[.slice none 0 0] 22)).alloc (.cells #[.string s] 9)) (w.heap.size + 1 + 1 + 1) 22 (.slice none 0 0) := by
      have h := (Boxed.new (((w.alloc (.cells #[.slice none 0 0] 22)).alloc (.cells #[.int .i64 0] 3)).alloc (.cells #[.int .i64 0] 23)) 22 (.slice none 0 0)).alloc (.cells #[.string s] 9)
      rwa [World.size_alloc, World.size_alloc, World.size_alloc] at h
    have b9 : Boxed (((((w.alloc (.cells #[.slice none 0 0] 22)).alloc (.cells #[.int .i64 0] 3)).alloc (.cells #[.int .i64 0] 23)).alloc (.cells #[.slice none 0 0] 22)).alloc (.cells #[.string s] 9)) (w.heap.size + 1 + 1 + 1 + 1) 9 (.string s) := by
      have h := Boxed.new ((((w.alloc (.cells #[.slice none 0 0] 22)).alloc (.cells #[.int .i64 0] 3)).alloc (.cells #[.int .i64 0] 23)).alloc (.cells #[.slice none 0 0] 22)) 9 (.string s)
      rwa [World.size_alloc, World.size_alloc, World.size_alloc, World.size_alloc] at h
    obtain ⟨W0, hW0⟩ : ∃ W0, ((((w.alloc (.cells #[.slice none 0 0] 22)).alloc (.cells #[.int .i64 0] 3)).alloc (.cells #[.int .i64 0] 23)).alloc (.cells #[.slice none 0 0] 22)).alloc (.cells #[.string s] 9) = W0 := ⟨_, rfl⟩
    rw [hW0] at b2 b3 b4 b5 b9 hB0 hsz ⊢
    clear hW0
    refine wpIn_rangeFunc_ownH rfl (by omega) (gf := 19) (lb := #[.pointer (some ⟨w.heap.size + 1 + 1 + 1 + 1, 0, none⟩)]) rfl trivial (enters_of Try.func19 (by kernel_rfl) rfl)
      (iter_stops _ (by omega) (w.heap.size + 1 + 1 + 1 + 1) s hs W0 b9) Kp.trans (Kp.turn (by omega)) (Below.refl _ _) (fun _ => rfl)
      (fun pre W => (((((∃ v, Boxed W (w.heap.size + 1 + 1 + 1) 22 v ∧ W.ownsRow w.heap.size 28 3 v pre.length (rows pre) ∧ wordsR pre 0 = none) ∧ Boxed W w.heap.size 22 (.slice none 0 0)) ∧ Boxed W (w.heap.size + 1) 3 (.int .i64 0)) ∧ Boxed W (w.heap.size + 1 + 1) 23 (.int .i64 0)) ∧ Boxed W (w.heap.size + 1 + 1 + 1 + 1) 9 (.string s)) ∧ Below w.heap.size w W)
      (fun c pre W => (∃ r : Int × Int, c = .ret ∧ wordsR pre 0 = some r ∧ Boxed W w.heap.size 22 (.slice none 0 0) ∧ Boxed W (w.heap.size + 1) 3 (.int .i64 r.1) ∧ Boxed W (w.heap.size + 1 + 1) 23 (.int .i64 r.2)) ∧ Below w.heap.size w W)
      (OwnFrom.and (OwnFrom.and (OwnFrom.and (OwnFrom.and (OwnFrom.and (Own.from (holdsRow_own w.heap.size (w.heap.size + 1 + 1 + 1) 22 28 3 (fun pre : List Tok => pre.length) rows (fun pre v => wordsR pre 0 = none)) _) (Own.from (boxed_own _ _ _) _)) (Own.from (boxed_own _ _ _) _)) (Own.from (boxed_own _ _ _) _)) (Own.from (boxed_own _ _ _) _)) (ownFrom_below (Nat.le_refl _) (by omega)))
      (fun c => OwnFrom.and (Own.from (fun pre X Y row hs hg hr => by
        obtain ⟨r, h1, h2, h3, h4, h5⟩ := hs
        exact ⟨r, h1, h2, boxed_own w.heap.size 22 (fun (_ : Unit) => Value.slice none 0 0) () X Y row h3 hg hr, boxed_own (w.heap.size + 1) 3 (fun (_ : Unit) => Value.int .i64 r.1) () X Y row h4 hg hr, boxed_own (w.heap.size + 1 + 1) 23 (fun (_ : Unit) => Value.int .i64 r.2) () X Y row h5 hg hr⟩) _) (ownFrom_below (Nat.le_refl _) (by omega)))
      ⟨⟨⟨⟨⟨⟨_, b5, World.ownsRow_nil _ _ _ _, rfl⟩, b2⟩, b3⟩, b4⟩, b9⟩, hB0⟩
      (fun x a' W => ∃ Bx, w.heap.size + 1 + 1 + 1 + 1 < Bx ∧ Blk W Bx (tcells x).toArray 28 ∧ a' = { tmps := #[.string s, undef, .pointer (some ⟨w.heap.size, 0, none⟩), .pointer (some ⟨w.heap.size + 1, 0, none⟩), .pointer (some ⟨w.heap.size + 1 + 1, 0, none⟩), .pointer (some ⟨w.heap.size + 1 + 1 + 1, 0, none⟩), .pointer (some ⟨Bx, 0, none⟩), .string s, .int .i64 (s.size : Int), .bool false, .string s, .func (.func 19) #[] #[.pointer (some ⟨w.heap.size + 1 + 1 + 1 + 1, 0, none⟩)], encT x, undef, undef, undef, undef, undef, undef, undef, undef, undef, undef, undef, undef, undef, undef, undef], defers := [] })
      (fun x a' _ X Y row hs hg hr => by obtain ⟨Bx, h1, h2, h3⟩ := hs; exact ⟨Bx, h1, blk_own Bx 28 (fun (_ : Unit) => (tcells x).toArray) () X Y row h2 hg (fun r e => (hr r e).2), h3⟩)
      ?assign ?body ?done ?stop
    case assign =>
      rintro l pre x W K ⟨⟨⟨⟨⟨⟨v, hv, hrow, hok⟩, c2⟩, c3⟩, c4⟩, c9⟩, hB⟩ hK
      have hex : encT x = .agg #[.int .i64 x.k, .string x.s, .int .i64 (x.a : Int)] := rfl
      rw [hex]
      gi_wp2
      refine hK _ _ ((KeepsOthers.alloc _ _).from _) (Kp.of_box (by simp) c9 (c9.alloc _)) ⟨⟨⟨⟨⟨⟨v, hv.alloc _, hrow.alloc _, hok⟩, c2.alloc _⟩, c3.alloc _⟩, c4.alloc _⟩, c9.alloc _⟩, hB.alloc hB.size _⟩ ⟨W.heap.size, c9.lt, Blk.new W _ _, rfl⟩
    case body =>
      rintro l pre x a' W hl2 ⟨r, hr⟩ ⟨⟨⟨⟨⟨⟨v, hv, hrow, hok⟩, c2⟩, c3⟩, c4⟩, c9⟩, hB⟩ ⟨Bx, hBx, bX, rfl⟩ hlt
      have ck : W.cell? ⟨Bx, 0, none⟩ = some (.int .i64 x.k) := bX.cell 0
      have cs : W.cell? ⟨Bx, 1, none⟩ = some (.string x.s) := bX.cell 1
      have ca : W.cell? ⟨Bx, 2, none⟩ = some (.int .i64 (x.a : Int)) := bX.cell 2
      have d2 := c2.cell; have d3 := c3.cell; have d4 := c4.cell; have dv := hv.cell
      have f2 := c2.frozen; have f3 := c3.frozen; have f4 := c4.frozen; have fv := hv.frozen
      by_cases hk : x.k < 0
      · gi_wp2
        have hre : wordsR (pre ++ [x]) 0 = some ((x.a : Int), 4) := by rw [wordsR_append, hok]; simp [wordsR, hk]
        obtain ⟨e2, e3, e4, hko, hbe⟩ := three (w := w) (.slice none 0 0) (.int .i64 (x.a : Int)) (.int .i64 4) c2 c3 c4 hB
        gi_region
        all_goals gi_wp2
        all_goals exact ⟨(hko.trans (KeepsOthers.drew _)).from _, ⟨_, rfl, hre, e2, e3, e4⟩, hbe.drew⟩
      · have hk0 : 0 ≤ x.k := by omega
        by_cases h15 : pre.length = 1500
        · have hre : wordsR (pre ++ [x]) 0 = some (4096, 2) := by rw [wordsR_append, hok]; simp [wordsR, hk, h15]
          obtain ⟨e2, e3, e4, hko, hbe⟩ := three (w := w) (.slice none 0 0) (.int .i64 4096) (.int .i64 2) c2 c3 c4 hB
          obtain ⟨A, cap, rfl⟩ := own_slice hrow
          have hb15 : ((pre.length : Int) == 1500) = true := by rw [h15]; rfl
          gi_wp2
          exact ⟨hko.from _, ⟨rfl, _, _, hre, e2, e3, e4⟩, hbe⟩
        · have hre : wordsR (pre ++ [x]) 0 = none := by rw [wordsR_append, hok]; simp [wordsR, hk, h15]
          have hpl := wordsR_len pre 0 (by omega) hok
          have hpl2 : pre.length ≤ 1499 := by omega
          obtain ⟨A, cap, rfl⟩ := own_slice hrow
          have hb15 : ((pre.length : Int) == 1500) = false := by simp; omega
          have hrl := rows_snoc pre x
          have hone : ∀ u ∈ tcells x, u.oneCell' = true := by intro u hu; simp only [tcells, List.mem_cons, List.not_mem_nil, or_false] at hu; rcases hu with rfl | rfl | rfl <;> rfl
          have hWs := hB.size
          gi_wp2_with (gi_at_builtin; refine wpListIn_append_own _ rfl _ _ 22 rfl w.heap.size 28 i0 _ 3 32 Try.underlying22 hi hz0 hz1 hz2 rfl (by decide) _ _ _ rfl (hrow.alloc _) ⟨W.heap.size, 0, none⟩ 1 1 (tcells x) rfl rfl (cells_new W (tcells x) 28) hone (by unfold maxLen; omega) (by omega) (by simp; omega) ?_; intro v' w1 hown' hgrow _; obtain ⟨g', cap', rfl⟩ := ownsRow_succ hown'; obtain ⟨hv1, hv2, hr2, hk2, hb2⟩ := hv.appended (by decide) hrow hB.size (by omega) hown' hgrow; have hc1 := hv1.cell; have hf1 := hv1.frozen)
          have q2 := ((c2.alloc _).kept hgrow (c2.not_row (by decide) hrow)).other (show w.heap.size ≠ w.heap.size + 1 + 1 + 1 by omega) (.slice (some ⟨g', 0, none⟩) (pre.length + 1) cap')
          have q3 := ((c3.alloc _).kept hgrow (c3.not_row (by decide) hrow)).other (show w.heap.size + 1 ≠ w.heap.size + 1 + 1 + 1 by omega) (.slice (some ⟨g', 0, none⟩) (pre.length + 1) cap')
          have q4 := ((c4.alloc _).kept hgrow (c4.not_row (by decide) hrow)).other (show w.heap.size + 1 + 1 ≠ w.heap.size + 1 + 1 + 1 by omega) (.slice (some ⟨g', 0, none⟩) (pre.length + 1) cap')
          have q9 := ((c9.alloc _).kept hgrow (c9.not_row (by decide) hrow)).other (show w.heap.size + 1 + 1 + 1 + 1 ≠ w.heap.size + 1 + 1 + 1 by omega) (.slice (some ⟨g', 0, none⟩) (pre.length + 1) cap')
          rw [← hrl] at hr2
          refine ⟨hk2.from _, Kp.of_box hb2.size c9 q9, ⟨⟨⟨⟨⟨_, hv2, by rw [List.length_append]; exact hr2, hre⟩, q2⟩, q3⟩, q4⟩, q9⟩, hB.trans hb2⟩
    case done =>
      rintro D ys W hD rfl ⟨⟨⟨⟨⟨⟨v, hv, hrow, hok⟩, c2⟩, c3⟩, c4⟩, c9⟩, hB⟩ hK
      have d2 := c2.cell; have d3 := c3.cell; have d4 := c4.cell; have dv := hv.cell
      have f2 := c2.frozen; have f3 := c3.frozen; have f4 := c4.frozen
      obtain ⟨A, cap, rfl⟩ := own_slice hrow
      obtain ⟨e2, e3, e4, hko, hbe⟩ := three (w := w) (.slice A (toks s).length cap) (.int .i64 0) (.int .i64 0) c2 c3 c4 hB
      have hrow3 := ((hrow.kept (grownBy_setCell' W w.heap.size (.slice A (toks s).length cap)) (.inr (c2.not_row (by decide) hrow).symm)).kept (grownBy_setCell' _ (w.heap.size + 1) (.int .i64 0)) (.inr ((c3.other (by omega) _).not_row (by decide) (hrow.kept (grownBy_setCell' W w.heap.size (.slice A (toks s).length cap)) (.inr (c2.not_row (by decide) hrow).symm))).symm)).kept (grownBy_setCell' _ (w.heap.size + 1 + 1) (.int .i64 0)) (.inr (((c4.other (by omega) _).other (by omega) _).not_row (by decide) ((hrow.kept (grownBy_setCell' W w.heap.size (.slice A (toks s).length cap)) (.inr (c2.not_row (by decide) hrow).symm)).kept (grownBy_setCell' _ (w.heap.size + 1) (.int .i64 0)) (.inr ((c3.other (by omega) _).not_row (by decide) (hrow.kept (grownBy_setCell' W w.heap.size (.slice A (toks s).length cap)) (.inr (c2.not_row (by decide) hrow).symm))).symm))).symm)
      have hK' := hko.same D _ hK rfl
      gi_wp2
      refine ⟨by simp, .inl ⟨_, _, rfl, run_takeDeferred hK', ?_⟩⟩
      have hkc : ∀ {a : Addr} {u : Value}, World.cell? _ a = some u → World.cell? _ a = some u := fun h => cell_kept h (grownBy_putObj' _ D (.deferred none)) (fun r e => by cases e; exact ⟨_, hK', rfl⟩)
      refine ⟨_, res3 rfl rfl rfl (hkc e2.cell) (hkc e3.cell) (hkc e4.cell), _, _, _, rfl, .inr ⟨by rw [hwd]; exact hok, rfl, rfl, rt_of_own (ownsRow_putObj hrow3 _ hK' rfl) (toks_ne s)⟩, hbe.trans (belowK_b (w := w) (Nat.le_refl _) _ D _ _ (by omega) hK' rfl rfl)⟩
    case stop =>
      rintro D c pre W hD hpre ⟨⟨r, rfl, hr, c2, c3, c4⟩, hB⟩ hK
      gi_wp2
      refine ⟨by simp, .inl ⟨_, _, rfl, run_takeDeferred hK, ?_⟩⟩
      have hkc : ∀ {a : Addr} {u : Value}, World.cell? _ a = some u → World.cell? _ a = some u := fun h => cell_kept h (grownBy_putObj' W D (.deferred none)) (fun r e => by cases e; exact ⟨_, hK, rfl⟩)
      have hw : words s = some (r.1, r.2) := by
        obtain ⟨rest, he⟩ := hpre
        rw [hwd, ← he, wordsR_append, hr]
      refine ⟨_, res3 rfl rfl rfl (hkc c2.cell) (hkc c3.cell) (hkc c4.cell), _, _, _, rfl, .inl ⟨hw, rfl⟩, hB.trans (belowK_b (w := w) (Nat.le_refl _) _ D _ _ (by omega) hK rfl rfl)⟩
end Go.Proofs.Ytgbfoklgejdegaa.Lx
