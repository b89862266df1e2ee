/- sha: a hash as it grows: New, Write. -/
import Derived.Test.YtbpfabhlngfciaaGreatDoorCpM
import Derived.Lib.Builder
import Derived.Lib.UnsafeStr
set_option linter.unusedVariables false
set_option linter.unusedSimpArgs false
set_option maxRecDepth 100000
set_option maxHeartbeats 1000000
namespace Go.Proofs.YtbpfabhlngfciaaGreatDoor.ShaW
open Go.ChangeShapes Go.WideShapes Go.ChangeAt Go.RowKit
open ShaP Base
theorem blocks_succ (l : List UInt8) : ∀ (k : Nat) (s : ShaP.St) (l : List UInt8), blocks s l (k + 1) = block (blocks s l k) ((l.drop (64 * k)).take 64)
 | 0, s, l => by simp [blocks]
 | k + 1, s, l => by
  rw [blocks, blocks_succ l k, blocks]
  congr 2
  rw [List.drop_drop]; congr 1; omega
theorem blocks_append (l r : List UInt8) : ∀ (k : Nat) (s : ShaP.St) (l : List UInt8), 64 * k ≤ l.length → blocks s (l ++ r) k = blocks s l k
 | 0, s, l, _ => rfl
 | k + 1, s, l, h => by
  rw [blocks, blocks, List.take_append_of_le_length (by omega), List.drop_append_of_le_length (by omega)]
  exact blocks_append l r k _ _ (by rw [List.length_drop]; omega)
theorem blocks_add (l : List UInt8) : ∀ (j k : Nat) (s : ShaP.St) (l : List UInt8), blocks s l (j + k) = blocks (blocks s l j) (l.drop (64 * j)) k
 | 0, k, s, l => by simp [blocks]
 | j + 1, k, s, l => by
  rw [show j + 1 + k = (j + k) + 1 by omega, blocks, blocks_add l j k, blocks, List.drop_drop]
  congr 2; omega
def cnt (m : List UInt8) : Int := ((m.length % 18446744073709551616 : Nat) : Int)
theorem cnt_nil : cnt [] = 0 := rfl
def HInv (w : World) (g : Nat) (lb : Option Nat) (m : List UInt8) : Prop :=
 ∃ v, Blk w g ((us (blocks begin_ m (m.length / 64)).list).toArray ++ #[v, .int .u64 (cnt m)]) 144 ∧ OwnS w v (u8s (m.drop (64 * (m.length / 64)))) ∧ v.ownBlock = lb ∧ lb ≠ some g ∧ ∀ k, lb = some k → k < w.heap.size
theorem HInv.keep {S : Nat → Prop} {w w' : World} {g : Nat} {lb : Option Nat} {m : List UInt8} (h : HInv w g lb m) (hx : Chg S w w') (hg : ¬ S g) (hn : ∀ k, lb = some k → ¬ S k) : HInv w' g lb m := by
 obtain ⟨v, hb, ho, rfl, hne, hlt⟩ := h
 exact ⟨v, hx.blk hb hg, ho.keep hx hn, rfl, hne, fun k hk => Nat.lt_of_lt_of_le (hlt k hk) hx.size⟩
theorem HInv.lt {w : World} {g : Nat} {lb : Option Nat} {m : List UInt8} (h : HInv w g lb m) : g < w.heap.size := by
 obtain ⟨v, hb, _⟩ := h; exact hb.lt
theorem new_any (w : World) (hfirst : ∀ j v, (us first)[j]? = some v → w.cell? ⟨0, j, none⟩ = some v) :
  Calls Tryz.prog 83 #[] w fun e w' => e = .returned (.pointer (some ⟨w.heap.size, 0, none⟩)) ∧ HInv w' w.heap.size none [] ∧ Ext w w' := by
 go_enter Tryz.func83, Tryz.ntmps83
 go_wp2_with (refine wpList_load_mid rfl 142 (.global 0) rfl 0 0 rfl (us first) (.array 8 102) (fun j v hj => by rw [Nat.zero_add]; exact hfirst j v hj) (by kernel_rfl) rfl (by kernel_rfl) ?_)
 go_ret
 refine ⟨rfl, ⟨.slice none 0 0, ?_, OwnS.nil _, rfl, by simp, by simp⟩, (Ext.refl w).alloc _⟩
 have e : List.foldl (fun cs x => cs.setIfInBounds x.snd x.fst) #[Value.int IntKind.u32 0, Value.int IntKind.u32 0, Value.int IntKind.u32 0, Value.int IntKind.u32 0, Value.int IntKind.u32 0, Value.int IntKind.u32 0, Value.int IntKind.u32 0, Value.int IntKind.u32 0, Value.slice none 0 0, Value.int IntKind.u64 0] (us first).zipIdx
  = (us (blocks begin_ [] (([] : List UInt8).length / 64)).list).toArray ++ #[.slice none 0 0, .int .u64 (cnt [])] := by
  simp [us, first, blocks, begin_, St.list, cnt, List.zipIdx]
 rw [e]
 exact Blk.new w _ _
theorem el_u8 : El Tryz.prog 50 5 (.int .u8 0) 1 1 := ⟨by kernel_rfl, by kernel_rfl, rfl, by omega⟩
theorem cnt_add (m l : List UInt8) : IntKind.u64.wrap (cnt m + (l.length : Int)) = cnt (m ++ l) := by
 rw [IntKind.wrap_u64]
 simp only [cnt, List.length_append]
 omega
theorem cnt_add2 (m l : List UInt8) (N : Nat) (h : l.length = N) : IntKind.u64.wrap (cnt m + IntKind.u64.wrap (N : Int)) = cnt (m ++ l) := by
 rw [IntKind.wrap_u64, IntKind.wrap_u64]
 simp only [cnt, List.length_append, h]
 omega
def lenAt (w : World) (g i : Nat) : Nat := match w.cell? ⟨g, i, none⟩ with
 | some (.slice _ n _) => n
 | _ => 0
theorem lenAt_of {w : World} {g i n c : Nat} {A : Option Addr} (h : w.cell? ⟨g, i, none⟩ = some (.slice A n c)) : lenAt w g i = n := by rw [lenAt, h]
theorem words8 (s : ShaP.St) (x y z : Value) : ((us s.list).toArray ++ #[x, y]).setIfInBounds 8 z = (us s.list).toArray ++ #[z, y] := by
 simp [us, St.list]
theorem words9 (s : ShaP.St) (x y z : Value) : ((us s.list).toArray ++ #[x, y]).setIfInBounds 9 z = (us s.list).toArray ++ #[x, z] := by
 simp [us, St.list]
theorem hash_step (m l Lf T : List UInt8) (h1 : m.drop (64 * (m.length / 64)) = Lf) (h2 : Lf ++ l = T) (k : Nat) (hk : 64 * k ≤ T.length) (hlt : T.length - 64 * k < 64) :
  blocks begin_ (m ++ l) ((m ++ l).length / 64) = blocks (blocks begin_ m (m.length / 64)) T k ∧ (m ++ l).drop (64 * ((m ++ l).length / 64)) = T.drop (64 * k) := by
 have hT : T.length = m.length - 64 * (m.length / 64) + l.length := by rw [← h2, ← h1]; simp
 have hq : (m ++ l).length / 64 = m.length / 64 + k := by rw [List.length_append]; omega
 have hd : (m ++ l).drop (64 * (m.length / 64)) = T := by rw [List.drop_append_of_le_length (by omega), h1, h2]
 rw [hq, blocks_add m, blocks_append m l _ _ m (by omega), hd]
 refine ⟨rfl, ?_⟩
 rw [Nat.mul_add, ← List.drop_drop, hd]
theorem write_any (w : World) (g : Nat) (lb : Option Nat) (m l : List UInt8) (A : Option Addr) (c : Nat) (hroots : ∀ j v, (us roots)[j]? = some v → w.cell? ⟨1, j, none⟩ = some v)
  (h : HInv w g lb m) (hr : Rb w A l) (hA : A = none → c = 0) (hAg : ∀ a, A = some a → a.block ≠ g) (hl : l.length ≤ 140737488351232) (hg1 : g ≠ 1) (hl1 : lb ≠ some 1) :
  Calls Tryz.prog 84 #[.pointer (some ⟨g, 0, none⟩), .slice A l.length c] w fun e w' => e = .returned (.tuple #[]) ∧ ∃ lb', HInv w' g lb' (m ++ l) ∧ (lb' = lb ∨ ∃ k, lb' = some k ∧ w.heap.size ≤ k) ∧ Chg (fun k => k = g ∨ lb = some k) w w' := by
 obtain ⟨v, hb, ho, hv, hne, hlb⟩ := h
 obtain ⟨Lf, hLf⟩ : ∃ x, Held (m.drop (64 * (m.length / 64)) = x) := ⟨_, ⟨rfl⟩⟩
 rw [hLf.out] at ho
 have hLl : Lf.length < 64 := by rw [← hLf.out, List.length_drop]; omega
 obtain ⟨N, hN⟩ : ∃ x, Held (l.length = x) := ⟨_, ⟨rfl⟩⟩
 rw [hN.out]
 have Hl := Lib.hid hl
 clear hl
 have c8 : w.cell? ⟨g, 8, none⟩ = some v := hb.cell 8
 have c9 : w.cell? ⟨g, 9, none⟩ = some (.int .u64 (cnt m)) := hb.cell 9
 have f8 := hb.frozen 8
 have f9 := hb.frozen 9
 have hrn : Rd w A (u8s l) := hr
 have hoW : ∀ u, OwnS (w.setCell ⟨g, 9, none⟩ u) v (u8s Lf) := fun u => ho.keep (Chg.one w g 9 u) (fun k hk e => hne (by rw [← hv, hk, e]))
 have hrW : ∀ u, Rd (w.setCell ⟨g, 9, none⟩ u) A (u8s l) := fun u => hrn.chg (Chg.one w g 9 u) (fun a ha e => hAg a ha e)
 go_enter Tryz.func84, Tryz.ntmps84
 obtain ⟨T, hT⟩ : ∃ x, Held (Lf ++ l = x) := ⟨_, ⟨rfl⟩⟩
 obtain ⟨s0, hs0⟩ : ∃ x, Held (blocks begin_ m (m.length / 64) = x) := ⟨_, ⟨rfl⟩⟩
 rw [hs0.out] at hb
 obtain ⟨H, hH⟩ : ∃ x, Held (w.heap.size = x) := ⟨_, ⟨rfl⟩⟩
 go_wp2_with (
  refine wpList_oapp el_u8 _ rfl (.tmp 18) (.tmp 19) rfl v (u8s Lf) rfl (hoW _) (u8s_one _) A N c (u8s l) rfl (hrW _) (by rw [u8s_length, hN.out]) hA (u8s_one _) (by have := Hl.out; rw [u8s_length, ← hN.out]; omega) (by omega) (fun v1 w1 ho1 hgr1 hv1 => ?_)
  rw [cnt_add2 m l N hN.out] at hgr1
  have hb0 := hb.set 9 (.int .u64 (cnt (m ++ l)))
  rw [words9] at hb0
  have hb1 := hb0.grown hgr1 (by rw [hv]; exact fun e => hne e.symm)
  have hx1 : Chg (fun k => k = g ∨ lb = some k) w w1 := Chg.trans (S := fun k => k = g ∨ lb = some k) ((Chg.one w g 9 _).mono (fun _ _ e => .inl e)) (Chg.ofGrown hgr1) (fun i _ e => .inr (by rw [← hv]; exact e))
  have hf1 : v1.ownBlock = lb ∨ v1.ownBlock = some H := (hv1.imp (fun e => e.trans hv) (fun e => by rw [e.1, ← hH.out]; simp))
  have hz1 : ∀ k, v1.ownBlock = some k → k < w1.heap.size := by
   rcases hv1 with e | ⟨e, e2⟩
   ·intro k hk
    exact Nat.lt_of_lt_of_le (hlb k (by rw [← hv, ← e, hk])) hx1.size
   ·intro k hk
    rw [e] at hk
    injection hk with hk
    omega
  rw [← u8s_append, hT.out] at ho1
  obtain ⟨A1, cp1, rfl, hrd1, hle1, hmx1, hA1⟩ := ho1.rd
  have f8 := hb1.frozen 8
  have e8 : w1.cell? ⟨g, 8, none⟩ = some v := hb1.cell 8
  clear hgr1 hv1 hb0)
 have hb2 := hb1.set 8 (.slice A1 (u8s T).length cp1)
 rw [words8] at hb2
 have hne1 : (Value.slice A1 (u8s T).length cp1).ownBlock ≠ some g := by
  rcases hf1 with e | e
  ·rw [e]; exact hne
  ·rw [e, ← hH.out]; intro e; have := hb.lt; injection e with e; omega
 have ho2 : OwnS (w1.setCell ⟨g, 8, none⟩ (.slice A1 (u8s T).length cp1)) (.slice A1 (u8s T).length cp1) (u8s T) := ho1.keep (Chg.one w1 g 8 _) (fun k hk e => hne1 (by rw [hk, e]))
 have hx2 : Chg (fun k => k = g ∨ lb = some k) w (w1.setCell ⟨g, 8, none⟩ (.slice A1 (u8s T).length cp1)) := hx1.set (p := ⟨g, 8, none⟩) (.inl (.inl rfl)) _
 have hz2 : ∀ k, (Value.slice A1 (u8s T).length cp1).ownBlock = some k → k < (w1.setCell ⟨g, 8, none⟩ (.slice A1 (u8s T).length cp1)).heap.size := fun k hk => by simpa using hz1 k hk
 rw [u8s_length] at hf1 hne1 ho2 hb2 hx2 hz2 ⊢
 clear hb1 e8 f8 hz1 ho1 hrd1 hle1 hmx1 hA1 hx1 hoW hrW hrn hr c8 c9 f9 ho hb
 go_loopw [23, 24, 25, 26, 27, 29, 30, 31, 32, 33, 34, 35, 36, 37, 38, 39, 40, 41, 42, 43] (fun v23 v24 v25 v26 v27 v29 v30 v31 v32 v33 v34 v35 v36 v37 v38 v39 v40 v41 v42 v43 wv => ∃ k A2 c2, 64 * k ≤ T.length ∧ Blk wv g ((us (blocks s0 T k).list).toArray ++ #[.slice A2 (T.length - 64 * k) c2, .int .u64 (cnt (m ++ l))]) 144 ∧ OwnS wv (.slice A2 (T.length - 64 * k) c2) (u8s (T.drop (64 * k))) ∧ ((Value.slice A2 (T.length - 64 * k) c2).ownBlock = lb ∨ (Value.slice A2 (T.length - 64 * k) c2).ownBlock = some H) ∧ (Value.slice A2 (T.length - 64 * k) c2).ownBlock ≠ some g ∧ (∀ j, (Value.slice A2 (T.length - 64 * k) c2).ownBlock = some j → j < wv.heap.size) ∧ Chg (fun k => k = g ∨ lb = some k) w wv) (fun _ _ _ _ _ _ _ _ _ _ _ _ _ _ _ _ _ _ _ _ wv => lenAt wv g 8)
 case atStart => exact ⟨0, A1, cp1, by omega, hb2, ho2, hf1, hne1, hz2, hx2⟩
 case round =>
  clear hb2 ho2 hf1 hne1 hz2 hx2
  obtain ⟨k, A2, c2, hk, hb, ho, hf, hne2, hz, hx⟩ := hrel
  obtain ⟨s1, hs1⟩ : ∃ x, Held (blocks s0 T k = x) := ⟨_, ⟨rfl⟩⟩
  obtain ⟨U, hU⟩ : ∃ x, Held (T.drop (64 * k) = x) := ⟨_, ⟨rfl⟩⟩
  obtain ⟨n, hn⟩ : ∃ x, Held (T.length - 64 * k = x) := ⟨_, ⟨rfl⟩⟩
  have hUn : U.length = n := by rw [← hU.out, List.length_drop, hn.out]
  rw [hs1.out, hn.out] at hb
  rw [hU.out, hn.out] at ho
  rw [hn.out] at hf hne2 hz
  have e8 : wr.cell? ⟨g, 8, none⟩ = some (.slice A2 n c2) := hb.cell 8
  by_cases hlt : 64 ≤ n
  ·obtain ⟨A', c', e, hrd, hle, hmx, _⟩ := ho.rd
   injection e with e1 e2 e3
   subst e1; subst e3
   clear e2
   rw [u8s_length, hUn] at hle
   obtain ⟨b2, o2, rfl⟩ := Rb.some_ (l := U) hrd (by omega)
   have hc64 : (64 : Int) ≤ c2 := by omega
   have hlt' : (64 : Int) ≤ n := by omega
   have hrT : Rb wr (some ⟨b2, o2, none⟩) (U.take 64) := Rb.take hrd 64
   have hrts : ∀ j v, (us roots)[j]? = some v → wr.cell? ⟨1, j, none⟩ = some v := fun j v h => hx.cell (hroots j v h) (fun e => by rcases e with e | e; exact hg1 e.symm; exact hl1 e)
   have hcall := takes_any g s1 (.slice (some ⟨b2, o2, none⟩) n c2) (.int .u64 (cnt (m ++ l))) (some ⟨b2, o2, none⟩) c2 (U.take 64) wr (by rw [List.length_take]; omega) hrT hb hrts
   go_wp2_with fail
   refine hcall.mono ?_
   rintro e w2 ⟨rfl, hb3, hg3⟩
   have ho3 := ho.keep (Chg.ofGrown hg3) (fun k hk e => hne2 (by rw [hk, e]))
   have e8 : w2.cell? ⟨g, 8, none⟩ = some (.slice (some ⟨b2, o2, none⟩) n c2) := hb3.cell 8
   have f8 := hb3.frozen 8
   go_wp2_with fail
   have hcut := ho3.cut 64 hlt
   have hblk := block_cut (c2 = 64) b2 o2 (o2 + 64) (n - 64) (c2 - 64)
   obtain ⟨A3, hA3⟩ : ∃ x, (if c2 = 64 then some (⟨b2, o2, none⟩ : Addr) else some ⟨b2, o2 + 64, none⟩) = x := ⟨_, rfl⟩
   rw [hA3] at hcut hblk ⊢
   have hn2 : T.length - 64 * (k + 1) = n - 64 := by rw [← hn.out]; omega
   have hd2 : T.drop (64 * (k + 1)) = U.drop 64 := by rw [← hU.out, List.drop_drop]; congr 1
   have hs2 : blocks s0 T (k + 1) = block s1 (U.take 64) := by rw [blocks_succ T k s0 T, hs1.out, hU.out]
   have hb4 := hb3.set 8 (.slice A3 (n - 64) (c2 - 64))
   have hw8 := words8 (block s1 (U.take 64)) (.slice (some ⟨b2, o2, none⟩) n c2) (.int .u64 (cnt (m ++ l))) (.slice A3 (n - 64) (c2 - 64))
   rw [hw8] at hb4
   have hneb : b2 ≠ g := fun e => hne2 (by rw [e]; rfl)
   refine ⟨⟨k + 1, A3, c2 - 64, by have := hn.out; omega, ?_, ?_, ?_, ?_, ?_, ?_⟩, ?_⟩
   ·rw [hn2, hs2]; exact hb4
   ·rw [hn2, hd2]
    rw [show u8s (U.drop 64) = (u8s U).drop 64 by simp [u8s]]
    exact hcut.keep (Chg.one w2 g 8 _) (fun j hj e => by rw [hblk] at hj; injection hj with hj; omega)
   ·rw [hn2, hblk]; exact hf
   ·rw [hn2, hblk]; exact hne2
   ·rw [hn2, hblk]
    intro j hj
    have h1 := hz j hj
    have h2 := hg3.size
    simp; omega
   ·exact ((hx.trans (Chg.ofGrown hg3) (fun i _ e => .inl (by injection e with e; exact e.symm))).set (p := ⟨g, 8, none⟩) (.inl (.inl rfl)) _)
   ·have e9 : (w2.setCell ⟨g, 8, none⟩ (.slice A3 (n - 64) (c2 - 64))).cell? ⟨g, 8, none⟩ = some (.slice A3 (n - 64) (c2 - 64)) := hb4.cell 8
    have e10 : wr.cell? ⟨g, 8, none⟩ = some (.slice (some ⟨b2, o2, none⟩) n c2) := hb.cell 8
    rw [lenAt_of e9, lenAt_of e10]; omega
  ·go_wp2_with fail
   obtain ⟨hq1, hq2⟩ := hash_step m l Lf T hLf.out hT.out k hk (by rw [hn.out]; omega)
   go_end0
   refine ⟨rfl, _, ⟨_, ?_, ?_, rfl, hne2, hz⟩, ?_, hx⟩
   ·rw [hq1, hs0.out, hs1.out]; exact hb
   ·rw [hq2, hU.out]; exact ho
   ·rcases hf with e | e
    ·exact .inl e
    ·exact .inr ⟨H, e, by rw [hH.out]; omega⟩
def z32 : Array Value := (u8s (List.replicate 32 0)).toArray
theorem below_ext {B : Nat} {a b : World} (h : Go.RowKit.Below B a b) (hB : a.heap.size ≤ B) : Ext a b := h.mono hB
theorem one_rd {X : World} {q : Nat} {b : UInt8} (h : X.cell? ⟨q, 0, none⟩ = some (.int .u8 (b.toNat : Int))) : Rd X (some ⟨q, 0, none⟩) (u8s [b]) := fun _ =>
 ⟨q, 0, rfl, fun j u hj => by
  have : j = 0 := by
   have := (List.getElem?_eq_some_iff.1 hj).1
   simp [u8s] at this; omega
  subst this
  simp only [u8s, List.map_cons, List.getElem?_cons_zero, Option.some.injEq] at hj
  rw [← hj]; exact h⟩
def SInv (w W : World) (s : ShaP.St) (c : Int) (V : Value) (l : List UInt8) : Prop :=
 Ext w W ∧ Blk W w.heap.size z32 23 ∧ Blk W (w.heap.size + 1) ((us s.list).toArray ++ #[V, .int .u64 c]) 144 ∧ OwnS W V (u8s l) ∧ ∀ k, V.ownBlock = some k → w.heap.size + 2 ≤ k
theorem SInv.put {w W : World} {s : ShaP.St} {c : Int} {V0 V : Value} {l : List UInt8} (hx : Ext w W) (hz : Blk W w.heap.size z32 23) (hg : Blk W (w.heap.size + 1) ((us s.list).toArray ++ #[V0, .int .u64 c]) 144) (ho : OwnS W V (u8s l)) (hb : ∀ k, V.ownBlock = some k → w.heap.size + 2 ≤ k) :
  SInv w (W.setCell ⟨w.heap.size + 1, 8, none⟩ V) s c V l := by
 have h := hg.set 8 V
 rw [words8] at h
 exact ⟨hx.setCell (by show _ ≤ w.heap.size + 1; omega) _, hz.far (by show w.heap.size ≠ w.heap.size + 1; omega) _, h, ho.keep (Chg.one W _ 8 V) (fun k hk e => by have := hb k hk; omega), hb⟩
theorem SInv.drew {w W : World} {s : ShaP.St} {c : Int} {V : Value} {l : List UInt8} (h : SInv w W s c V l) : SInv w W.drew s c V l :=
 ⟨h.1.drew, h.2.1, h.2.2.1, h.2.2.2.1.ext ((Ext.refl W).drew), h.2.2.2.2⟩
theorem SInv.app {w W X w1 : World} {s : ShaP.St} {c : Int} {V V1 : Value} {l : List UInt8} {b : UInt8} (h : SInv w W s c V l) (hX : Ext W X) (ho : OwnS w1 V1 (u8s l ++ u8s [b])) (hg : X.grownBy w1 V.ownBlock) (hv : V1.ownBlock = V.ownBlock ∨ V1.ownBlock = some X.heap.size ∧ X.heap.size < w1.heap.size) :
  Ext w w1 ∧ Blk w1 w.heap.size z32 23 ∧ Blk w1 (w.heap.size + 1) ((us s.list).toArray ++ #[V, .int .u64 c]) 144 ∧ OwnS w1 V1 (u8s (l ++ [b])) ∧ ∀ k, V1.ownBlock = some k → w.heap.size + 2 ≤ k := by
 obtain ⟨hx, hz, hgb, _, hb⟩ := h
 have hs := hgb.lt
 have hsX := hX.size
 refine ⟨(hx.trans hX).then_grown hg (fun k hk => by have := hb k hk; omega), (hz.ext hX).grown hg (fun e => by have := hb _ e.symm; omega), (hgb.ext hX).grown hg (fun e => by have := hb _ e.symm; omega), by rw [u8s_append]; exact ho, fun k hk => ?_⟩
 rcases hv with e | e
 ·exact hb k (by rw [← e, hk])
 ·rw [e.1] at hk; injection hk with hk; omega
theorem byte_at (N j : Nat) (hj : j < 8) (S : Nat) (hS : S + 8 * j = 56) : IntKind.u8.wrap (IntKind.u64.wrap (((N % 18446744073709551616 : Nat) : Int) * 8) / 2 ^ S) = ((UInt8.ofNat (N * 8 / 2 ^ S)).toNat : Int) := by
 rw [IntKind.wrap_u64, IntKind.wrap_u8, UInt8.toNat_ofNat']
 have : j = 0 ∨ j = 1 ∨ j = 2 ∨ j = 3 ∨ j = 4 ∨ j = 5 ∨ j = 6 ∨ j = 7 := by omega
 rcases this with rfl | rfl | rfl | rfl | rfl | rfl | rfl | rfl
 ·obtain rfl : S = 56 := by omega
  simp only [Nat.reducePow, Int.reducePow]; omega
 ·obtain rfl : S = 48 := by omega
  simp only [Nat.reducePow, Int.reducePow]; omega
 ·obtain rfl : S = 40 := by omega
  simp only [Nat.reducePow, Int.reducePow]; omega
 ·obtain rfl : S = 32 := by omega
  simp only [Nat.reducePow, Int.reducePow]; omega
 ·obtain rfl : S = 24 := by omega
  simp only [Nat.reducePow, Int.reducePow]; omega
 ·obtain rfl : S = 16 := by omega
  simp only [Nat.reducePow, Int.reducePow]; omega
 ·obtain rfl : S = 8 := by omega
  simp only [Nat.reducePow, Int.reducePow]; omega
 ·obtain rfl : S = 0 := by omega
  simp only [Nat.reducePow, Int.reducePow]; omega
theorem be8_take (X j : Nat) (hj : j < 8) (S : Nat) (hS : S + 8 * j = 56) : (be8 X).take (j + 1) = (be8 X).take j ++ [UInt8.ofNat (X / 2 ^ S)] := by
 have : j = 0 ∨ j = 1 ∨ j = 2 ∨ j = 3 ∨ j = 4 ∨ j = 5 ∨ j = 6 ∨ j = 7 := by omega
 rcases this with rfl | rfl | rfl | rfl | rfl | rfl | rfl | rfl
 ·obtain rfl : S = 56 := by omega
  rfl
 ·obtain rfl : S = 48 := by omega
  rfl
 ·obtain rfl : S = 40 := by omega
  rfl
 ·obtain rfl : S = 32 := by omega
  rfl
 ·obtain rfl : S = 24 := by omega
  rfl
 ·obtain rfl : S = 16 := by omega
  rfl
 ·obtain rfl : S = 8 := by omega
  rfl
 ·obtain rfl : S = 0 := by omega
  simp [be8]
theorem sha_tail (m Lf : List UInt8) (h : m.drop (64 * (m.length / 64)) = Lf) : sha m = out (blocks (blocks begin_ m (m.length / 64)) (Lf ++ [128] ++ List.replicate (noughts m.length) 0 ++ be8 (m.length * 8)) ((Lf ++ [128] ++ List.replicate (noughts m.length) 0 ++ be8 (m.length * 8)).length / 64)) := by
 have hp : padded m m.length = m ++ ([128] ++ List.replicate (noughts m.length) 0 ++ be8 (m.length * 8)) := by simp [padded]
 have hP : Lf ++ [128] ++ List.replicate (noughts m.length) 0 ++ be8 (m.length * 8) = Lf ++ ([128] ++ List.replicate (noughts m.length) 0 ++ be8 (m.length * 8)) := by simp
 rw [sha, hp, hP]
 generalize [128] ++ List.replicate (noughts m.length) 0 ++ be8 (m.length * 8) = R
 have hl : Lf.length = m.length - 64 * (m.length / 64) := by rw [← h]; simp
 have hq : (m ++ R).length / 64 = m.length / 64 + (Lf ++ R).length / 64 := by rw [List.length_append, List.length_append, hl]; omega
 rw [hq, blocks_add m, blocks_append m R _ _ m (by omega), List.drop_append_of_le_length (by omega), h]
def lenOf : Value → Nat
 | .slice _ n _ => n
 | _ => 0
theorem out_length (s : ShaP.St) : (out s).length = 32 := by simp [out, St.list]
def otab (s : ShaP.St) (i : Nat) : Array Value := (u8s ((out s).take i ++ List.replicate (32 - i) 0)).toArray
theorem otab_zero (s : ShaP.St) : otab s 0 = z32 := by simp [otab, z32]
theorem otab_full (s : ShaP.St) : otab s 32 = (u8s (out s)).toArray := by
 rw [otab, List.take_of_length_le (by rw [out_length]; omega)]; simp
theorem otab_size (s : ShaP.St) (i : Nat) (h : i ≤ 32) : (otab s i).size = 32 := by simp [otab, u8s_length, out_length]; omega
theorem otab_set (s : ShaP.St) (i : Nat) (h : i < 32) : (otab s i).setIfInBounds i (.int .u8 ((at8 (out s) i).toNat : Int)) = otab s (i + 1) := by
 have hl := out_length s
 have e : 32 - i = (32 - (i + 1)) + 1 := by omega
 have ht : (out s).take (i + 1) = (out s).take i ++ [at8 (out s) i] := by
  rw [List.take_add_one, at8, List.getD, List.getElem?_eq_getElem (by omega)]; rfl
 unfold otab
 rw [List.setIfInBounds_toArray, ht, e, List.replicate_succ]
 congr 1
 rw [u8s_append, u8s_append, u8s_append, List.set_append_right _ _ (by rw [u8s_length, List.length_take]; omega)]
 rw [u8s_length, List.length_take, Nat.min_eq_left (by omega), Nat.sub_self]
 simp [u8s]
theorem head8 (s : ShaP.St) (r : Array Value) (k : Nat) (h : k < 8) : ((us s.list).toArray ++ r)[k]? = some (.int .u32 (U (at32 s.list k))) := by
 rw [Array.getElem?_append_left (by simp [us, St.list]; omega), List.getElem?_toArray, us_at _ _ (by simp [St.list]; omega)]
theorem out_at (s : ShaP.St) (i q r S : Nat) (hi : i < 32) (hq : i / 4 = q) (hr : i % 4 = r) (hS : S + 8 * r = 24) : IntKind.u8.wrap (U (at32 s.list q) / 2 ^ S) = ((at8 (out s) i).toNat : Int) := by
 have h4 : ∀ x : BitVec 32, (x.toNat : Int) = ((x.toNat : Nat) : Int) := fun _ => rfl
 have hb : at8 (out s) i = UInt8.ofNat ((at32 s.list q).toNat / 2 ^ S) := by
  subst hq; subst hr
  have : i = 0 ∨ i = 1 ∨ i = 2 ∨ i = 3 ∨ i = 4 ∨ i = 5 ∨ i = 6 ∨ i = 7 ∨ i = 8 ∨ i = 9 ∨ i = 10 ∨ i = 11 ∨ i = 12 ∨ i = 13 ∨ i = 14 ∨ i = 15 ∨ i = 16 ∨ i = 17 ∨ i = 18 ∨ i = 19 ∨ i = 20 ∨ i = 21 ∨ i = 22 ∨ i = 23 ∨ i = 24 ∨ i = 25 ∨ i = 26 ∨ i = 27 ∨ i = 28 ∨ i = 29 ∨ i = 30 ∨ i = 31 := by omega
  rcases this with rfl | rfl | rfl | rfl | rfl | rfl | rfl | rfl | rfl | rfl | rfl | rfl | rfl | rfl | rfl | rfl | rfl | rfl | rfl | rfl | rfl | rfl | rfl | rfl | rfl | rfl | rfl | rfl | rfl | rfl | rfl | rfl <;>
   first
    | (obtain rfl : S = 24 := by omega
       rfl)
    | (obtain rfl : S = 16 := by omega
       rfl)
    | (obtain rfl : S = 8 := by omega
       rfl)
    | (obtain rfl : S = 0 := by omega
       simp [out, at8, at32, St.list])
 rw [hb, IntKind.wrap_u8, UInt8.toNat_ofNat', U]
 have h2 : S = 24 ∨ S = 16 ∨ S = 8 ∨ S = 0 := by omega
 generalize (at32 s.list q).toNat = X
 rcases h2 with rfl | rfl | rfl | rfl <;> (simp only [Nat.reducePow, Int.reducePow]; omega)
theorem setMany_full : ∀ (vs pre old : List Value), old.length = vs.length → setMany (pre ++ old).toArray pre.length vs = (pre ++ vs).toArray
 | [], pre, old, h => by
  have : old = [] := List.eq_nil_of_length_eq_zero h
  rw [this]; rfl
 | v :: r, pre, [], h => by cases h
 | v :: r, pre, o :: old, h => by
  rw [setMany, List.setIfInBounds_toArray, List.set_append_right _ _ (Nat.le_refl _), Nat.sub_self, List.set_cons_zero]
  have := setMany_full r (pre ++ [v]) old (by simpa using h)
  simpa using this
set_option maxRecDepth 20000 in
theorem sum_any (w : World) (g : Nat) (lb : Option Nat) (m : List UInt8) (hroots : ∀ j v, (us roots)[j]? = some v → w.cell? ⟨1, j, none⟩ = some v)
  (h : HInv w g lb m) (h1 : 1 < w.heap.size) :
  Calls Tryz.prog 85 #[.pointer (some ⟨g, 0, none⟩)] w fun e w' => e = .returned (.agg (u8s (sha m)).toArray) ∧ Ext w w' := by
 obtain ⟨v, hb, ho, hv, hne, hlb⟩ := h
 obtain ⟨Lf, hLf⟩ : ∃ x, Held (m.drop (64 * (m.length / 64)) = x) := ⟨_, ⟨rfl⟩⟩
 rw [hLf.out] at ho
 obtain ⟨lv, cv, rfl, hrv, hlev, hmxv, hAv⟩ := ho.rd
 have hLl : Lf.length < 64 := by rw [← hLf.out, List.length_drop]; omega
 obtain ⟨s0, hs0⟩ : ∃ x, Held (blocks begin_ m (m.length / 64) = x) := ⟨_, ⟨rfl⟩⟩
 rw [hs0.out] at hb
 go_enter Tryz.func85, Tryz.ntmps85
 go_wp2_with fail
 refine Reg.startX (R := Go.RowKit.Below (w.heap.size + 1)) (by kernel_rfl) ?_
 generalize hwd : World.drew _ = wd
 have hxd : Ext w wd := by rw [← hwd]; exact ((Ext.refl w).alloc _).drew
 have hsd : wd.heap.size = w.heap.size + 1 := by rw [← hwd]; simp
 have hHd : Blk wd w.heap.size z32 23 := by rw [← hwd]; exact Blk.new w z32 _
 clear hwd
 have hbd := hb.ext hxd
 have hgc : ∀ W, Go.RowKit.Below (w.heap.size + 1) wd W → ∀ i, W.cell? ⟨g, i, none⟩ = ((us s0.list).toArray ++ #[.slice lv (u8s Lf).length cv, .int .u64 (cnt m)])[i]? := fun W hW i => by
  exact (hbd.ext (below_ext hW (by omega))).cell i
 have e0 : ∀ W, Go.RowKit.Below (w.heap.size + 1) wd W → W.cell? ⟨g, 0, none⟩ = some (.int .u32 (U s0.a)) := fun W hW => hgc W hW 0
 have e1 : ∀ W, Go.RowKit.Below (w.heap.size + 1) wd W → W.cell? ⟨g, 1, none⟩ = some (.int .u32 (U s0.b)) := fun W hW => hgc W hW 1
 have e2 : ∀ W, Go.RowKit.Below (w.heap.size + 1) wd W → W.cell? ⟨g, 2, none⟩ = some (.int .u32 (U s0.c)) := fun W hW => hgc W hW 2
 have e3 : ∀ W, Go.RowKit.Below (w.heap.size + 1) wd W → W.cell? ⟨g, 3, none⟩ = some (.int .u32 (U s0.d)) := fun W hW => hgc W hW 3
 have e4 : ∀ W, Go.RowKit.Below (w.heap.size + 1) wd W → W.cell? ⟨g, 4, none⟩ = some (.int .u32 (U s0.e)) := fun W hW => hgc W hW 4
 have e5 : ∀ W, Go.RowKit.Below (w.heap.size + 1) wd W → W.cell? ⟨g, 5, none⟩ = some (.int .u32 (U s0.f)) := fun W hW => hgc W hW 5
 have e6 : ∀ W, Go.RowKit.Below (w.heap.size + 1) wd W → W.cell? ⟨g, 6, none⟩ = some (.int .u32 (U s0.g)) := fun W hW => hgc W hW 6
 have e7 : ∀ W, Go.RowKit.Below (w.heap.size + 1) wd W → W.cell? ⟨g, 7, none⟩ = some (.int .u32 (U s0.h)) := fun W hW => hgc W hW 7
 have e9 : ∀ W, Go.RowKit.Below (w.heap.size + 1) wd W → W.cell? ⟨g, 9, none⟩ = some (.int .u64 (cnt m)) := fun W hW => hgc W hW 9
 clear hgc
 iterate 3 ((first | refine Reg.un (Reg.rl_below _) ?_ | refine Reg.vn (Reg.rl_below _) ?_); (try simp only [Reg.nn]))
 refine Reg.tx (Reg.rl_below _) 3 ?_; (try simp only [Reg.nn])
 iterate 3 ((first | refine Reg.un (Reg.rl_below _) ?_ | refine Reg.vn (Reg.rl_below _) ?_); (try simp only [Reg.nn]))
 refine Reg.tx (Reg.rl_below _) 7 ?_; (try simp only [Reg.nn])
 refine Reg.tx (Reg.rl_below _) 8 ?_; (try simp only [Reg.nn])
 refine Reg.onlyX 9 _ rfl (by kernel_rfl) (by decide) (by rfl) (fun K hK => ?_); go_simp
 refine hK.out _ _ (Go.RowKit.Below.alloc (Go.RowKit.Below.refl _ _) (by omega) _) ?_; clear hK K; (try simp only [Reg.nn])
 refine Reg.tx (Reg.rl_below _) 10 ?_; (try simp only [Reg.nn])
 refine Reg.finX (by kernel_rfl) ?_
 have hg0 : Blk (wd.alloc (.cells #[.int .u32 (U s0.a), .int .u32 (U s0.b), .int .u32 (U s0.c), .int .u32 (U s0.d), .int .u32 (U s0.e), .int .u32 (U s0.f), .int .u32 (U s0.g), .int .u32 (U s0.h), .slice none 0 0, .int .u64 (cnt m)] 144)) (w.heap.size + 1) ((us s0.list).toArray ++ #[.slice none 0 0, .int .u64 (cnt m)]) 144 := by
  rw [← hsd]; exact Blk.new wd _ _
 generalize hW1 : World.alloc wd _ = W1 at hg0 ⊢
 have hx1 : Ext w W1 := by rw [← hW1]; exact hxd.alloc _
 have hH1 : Blk W1 w.heap.size z32 23 := by rw [← hW1]; exact hHd.alloc _
 have hs1 : W1.heap.size = w.heap.size + 2 := by rw [← hW1]; simp [hsd]
 clear hW1 hHd hxd hsd hbd e0 e1 e2 e3 e4 e5 e6 e7 e9 wd
 go_wp2_with fail
 refine Reg.startX (R := Go.RowKit.Below (w.heap.size + 2)) (by kernel_rfl) ?_
 generalize hwd : World.drew _ = wd
 have hxd : Ext w wd := by rw [← hwd]; exact hx1.drew
 have hsd : wd.heap.size = w.heap.size + 2 := by rw [← hwd]; exact hs1
 have hHd : Blk wd w.heap.size z32 23 := by rw [← hwd]; exact hH1
 have hgd : Blk wd (w.heap.size + 1) ((us s0.list).toArray ++ #[.slice none 0 0, .int .u64 (cnt m)]) 144 := by rw [← hwd]; exact hg0
 have hbd := hb.ext hxd
 clear hwd hx1 hs1 hH1 hg0
 have hrd := hrv.ext hxd
 have e8 : ∀ W, Go.RowKit.Below (w.heap.size + 2) wd W → W.cell? ⟨g, 8, none⟩ = some (.slice lv (u8s Lf).length cv) := fun W hW => (hbd.ext (below_ext hW (by omega))).cell 8
 have f8 : ∀ W, Go.RowKit.Below (w.heap.size + 2) wd W → W.cell? ⟨w.heap.size + 1, 8, none⟩ = some (.slice none 0 0) := fun W hW => (hgd.ext (below_ext hW (by omega))).cell 8
 iterate 9 ((first | refine Reg.un (Reg.rl_below _) ?_ | refine Reg.vn (Reg.rl_below _) ?_); (try simp only [Reg.nn]))
 refine Reg.bothY 9 10 _ _ (by omega) rfl rfl rfl rfl (by decide) (by decide) (by kernel_rfl) (by kernel_rfl) (by kernel_rfl) (by decide)
  (fun V X => OwnS X V (u8s Lf) ∧ ∀ k, V.ownBlock = some k → w.heap.size + 2 ≤ k) (fun V X => ∃ q, V = .slice (some ⟨q, 0, none⟩) 1 1 ∧ X.cell? ⟨q, 0, none⟩ = some (.int .u8 128))
  (fun v w1 w2 h hx => ⟨h.1.ext hx, h.2⟩) (fun v w1 w2 h hx => h.imp fun q h => ⟨h.1, hx.cell h.2⟩) ?_ ?_ ?_
 ·rintro a' w1 (rfl | ⟨v, rfl⟩) hx1 K hK
  ·refine wp_oapp el_u8 w1 (.tmp 23) (.tmp 27) rfl (.slice none 0 0) [] rfl (OwnS.nil w1) (fun _ h => by cases h) lv (u8s Lf).length cv (u8s Lf) rfl (hrd.ext hx1) rfl hAv (u8s_one _) (by rw [u8s_length]; simp; omega) (by omega) ?_
   intro v' w' h1 h2 h3
   exact hK.out v' w' (Ext.grown h2 (fun k hk => by cases hk)) ⟨by simpa using h1, fun k hk => by rcases h3 with h3 | h3; rw [h3] at hk; cases hk; rw [h3.1] at hk; injection hk with hk; have := hx1.size; omega⟩
  ·refine wp_oapp el_u8 w1 (.tmp 23) (.tmp 27) rfl (.slice none 0 0) [] rfl (OwnS.nil w1) (fun _ h => by cases h) lv (u8s Lf).length cv (u8s Lf) rfl (hrd.ext hx1) rfl hAv (u8s_one _) (by rw [u8s_length]; simp; omega) (by omega) ?_
   intro v' w' h1 h2 h3
   exact hK.out v' w' (Ext.grown h2 (fun k hk => by cases hk)) ⟨by simpa using h1, fun k hk => by rcases h3 with h3 | h3; rw [h3] at hk; cases hk; rw [h3.1] at hk; injection hk with hk; have := hx1.size; omega⟩
 ·rintro a' w1 (rfl | ⟨v, rfl⟩) hx1 K hK
  ·go_simp
   exact hK.out _ _ ((Ext.refl w1).alloc _) ⟨w1.heap.size, rfl, (Blk.new w1 #[.int .u8 128] 5).cell 0⟩
  ·go_simp
   exact hK.out _ _ ((Ext.refl w1).alloc _) ⟨w1.heap.size, rfl, (Blk.new w1 #[.int .u8 128] 5).cell 0⟩
 ·rintro V28 V29 X hX ⟨ho28, hb28⟩ ⟨q, rfl, hq⟩
  (try simp only [Reg.nn])
  have hsX := hX.size
  have hbX : Go.RowKit.Below (w.heap.size + 2) wd X := Go.RowKit.Below.mono hX (by omega)
  refine Reg.onlyX 11 _ rfl (by kernel_rfl) (by decide) (by rfl) (fun K hK => ?_)
  refine wp_oapp el_u8 X (.tmp 28) (.tmp 29) rfl V28 (u8s Lf) rfl ho28 (u8s_one _) (some ⟨q, 0, none⟩) 1 1 (u8s [128]) rfl (one_rd hq) rfl (fun h => by cases h) (u8s_one _) (by rw [u8s_length]; omega) (by omega) ?_
  intro V30 X3 ho30 hgr hv30
  have hb30 : ∀ k, V30.ownBlock = some k → w.heap.size + 2 ≤ k := fun k hk => by
   rcases hv30 with e | e
   ·exact hb28 k (by rw [← e, hk])
   ·rw [e.1] at hk; injection hk with hk; omega
  have hbel : Go.RowKit.Below (w.heap.size + 2) X X3 := Go.RowKit.Below.grown (Go.RowKit.Below.refl _ _) hgr (by omega) hb28
  refine hK.out _ _ hbel ?_
  clear hK K
  (try simp only [Reg.nn])
  have hx3 : Ext wd X3 := below_ext (hbX.trans hbel) (by omega)
  rw [← u8s_append] at ho30
  have hS : SInv w (X3.setCell ⟨w.heap.size + 1, 8, none⟩ V30) s0 (cnt m) V30 (Lf ++ [128]) :=
   SInv.put (hxd.trans hx3) (hHd.ext hx3) (hgd.ext hx3) ho30 hb30
  have hf8 := (hgd.ext hx3).frozen 8
  have hc8 : X3.cell? ⟨w.heap.size + 1, 8, none⟩ = some (.slice none 0 0) := (hgd.ext hx3).cell 8
  obtain ⟨A3, c3, rfl, _⟩ := ho30.rd
  clear ho30 hgr hv30 hb30 ho28 hb28 hq hX hbX hbel hx3 e8 f8 hrd hbd hgd hHd hxd
  iterate 2 ((first | refine Reg.un (Reg.rl_below _) ?_ | refine Reg.vn (Reg.rl_below _) ?_); (try simp only [Reg.nn]))
  refine Reg.lastX 14 _ rfl (by kernel_rfl) (by kernel_rfl) (by kernel_rfl) (by decide) (by rfl) (fun K hK => ?_)
  go_simp
  refine hK.out _ _ ?_; clear hK K; (try simp only [Reg.nn])
  generalize World.setCell X3 _ _ = X4 at hS ⊢
  clear hf8 hc8
  obtain ⟨NO, hNO⟩ : ∃ x, Held (noughts m.length = x) := ⟨_, ⟨rfl⟩⟩
  have hmL : m.length % 64 = Lf.length := by rw [← hLf.out, List.length_drop]; omega
  have hNL : NO = (119 - Lf.length) % 64 := by rw [← hNO.out, noughts, hmL]
  have hl1 : (u8s (Lf ++ [(128 : UInt8)])).length = Lf.length + 1 := by simp [u8s_length]
  rw [hl1] at hS ⊢
  clear hl1
  go_wp2_with fail
  go_loopw [33, 34, 35, 36, 37, 38, 40, 41, 42, 43, 44, 45, 46, 47, 48] (fun v33 v34 v35 v36 v37 v38 v40 v41 v42 v43 v44 v45 v46 v47 v48 wv => ∃ k A c, k ≤ NO ∧ SInv w wv s0 (cnt m) (.slice A (Lf.length + 1 + k) c) (Lf ++ [128] ++ List.replicate k 0)) (fun _ _ _ _ _ _ _ _ _ _ _ _ _ _ _ wv => 200 - lenAt wv (w.heap.size + 1) 8)
  case atStart => exact ⟨0, A3, c3, Nat.zero_le _, by simpa using hS⟩
  case round =>
   clear hS
   obtain ⟨k, A, c, hk, hS⟩ := hrel
   obtain ⟨n, hn⟩ : ∃ x, Held (Lf.length + 1 + k = x) := ⟨_, ⟨rfl⟩⟩
   obtain ⟨T, hT⟩ : ∃ x, Held (Lf ++ [128] ++ List.replicate k 0 = x) := ⟨_, ⟨rfl⟩⟩
   have hTn : T.length = n := by rw [← hT.out, ← hn.out]; simp; omega
   rw [hn.out, hT.out] at hS
   have e8 : wr.cell? ⟨w.heap.size + 1, 8, none⟩ = some (.slice A n c) := hS.2.2.1.cell 8
   by_cases hc : n % 64 = 56
   ·have hci : (n : Int) % 64 = 56 := by omega
    have e9 : wr.cell? ⟨g, 9, none⟩ = some (.int .u64 (cnt m)) := (hb.ext hS.1).cell 9
    go_wp2_with fail
    have hkN : k = NO := by have := hn.out; omega
    subst hkN
    obtain ⟨C8, hC8⟩ : ∃ x, Held (IntKind.u64.wrap (cnt m * 8) = x) := ⟨_, ⟨rfl⟩⟩
    rw [hC8.out]
    clear e8 e9 hci
    go_loopw [5, 54, 56, 57, 58, 59, 60, 61, 62, 63, 64, 65, 66, 67, 68, 69, 70] (fun v5 v54 v56 v57 v58 v59 v60 v61 v62 v63 v64 v65 v66 v67 v68 v69 v70 wv => ∃ (j : Nat) (A : Option Addr) (c : Nat), j ≤ 8 ∧ v5 = .int .i64 (56 - 8 * (j : Int)) ∧ SInv w wv s0 (cnt m) (.slice A (n + j) c) (T ++ (be8 (m.length * 8)).take j)) (fun v5 _ _ _ _ _ _ _ _ _ _ _ _ _ _ _ _ _ => (intOf v5 + 8).toNat)
    case atStart => exact ⟨0, A, c, by omega, by simp, by simpa using hS⟩
    case round =>
     clear hS
     obtain ⟨j, A, c, hj, rfl, hS⟩ := hrel
     by_cases hj8 : j < 8
     ·obtain ⟨S, hSd⟩ : ∃ S : Nat, Held (56 - 8 * (j : Int) = (S : Int)) := ⟨56 - 8 * j, ⟨by omega⟩⟩
      rw [hSd.out]
      have hS0 : (0 : Int) ≤ S := by omega
      obtain ⟨T2, hT2⟩ : ∃ x, Held (T ++ (be8 (m.length * 8)).take j = x) := ⟨_, ⟨rfl⟩⟩
      rw [hT2.out] at hS
      obtain ⟨n2, hn2⟩ : ∃ x, Held (n + j = x) := ⟨_, ⟨rfl⟩⟩
      rw [hn2.out] at hS
      have hSj : S + 8 * j = 56 := by have := hSd.out; omega
      have hT2n : T2.length = n2 := by rw [← hT2.out, List.length_append, List.length_take, hTn, ← hn2.out]; simp [be8]; omega
      obtain ⟨bb, hbb⟩ : ∃ x, Held (UInt8.ofNat (m.length * 8 / 2 ^ S) = x) := ⟨_, ⟨rfl⟩⟩
      have hbyte : IntKind.u8.wrap (C8 / 2 ^ S) = (bb.toNat : Int) := by rw [← hC8.out, ← hbb.out]; exact byte_at m.length j hj8 S hSj
      have hn2s : n2 ≤ 300 := by have := hn2.out; have := hn.out; omega
      go_wp2_with fail
      refine Reg.startX (R := Go.RowKit.Below (w.heap.size + 2)) (by kernel_rfl) ?_
      generalize hwq : World.drew _ = wq
      have hSq : SInv w wq s0 (cnt m) (.slice A n2 c) T2 := by rw [← hwq]; exact hS.drew
      clear hwq hS
      have hsq := hSq.2.2.1.lt
      have e8 : ∀ W, Go.RowKit.Below (w.heap.size + 2) wq W → W.cell? ⟨w.heap.size + 1, 8, none⟩ = some (.slice A n2 c) := fun W hW => (World.cell?_of_block (a := ⟨w.heap.size + 1, 8, none⟩) (hW.block _ (by show w.heap.size + 1 < _; omega))).trans (hSq.2.2.1.cell 8)
      iterate 4 ((first | refine Reg.un (Reg.rl_below _) ?_ | refine Reg.vn (Reg.rl_below _) ?_); (try simp only [Reg.nn]))
      refine Reg.tx (Reg.rl_below _) 4 ?_; (try simp only [Reg.nn])
      iterate 3 ((first | refine Reg.un (Reg.rl_below _) ?_ | refine Reg.vn (Reg.rl_below _) ?_); (try simp only [Reg.nn]))
      refine Reg.tx (Reg.rl_below _) 8 ?_; (try simp only [Reg.nn])
      refine Reg.onlyX 9 _ rfl (by kernel_rfl) (by decide) (by rfl) (fun K hK => ?_); go_simp
      try rw [hbyte]
      refine hK.out _ _ (Go.RowKit.Below.alloc (Go.RowKit.Below.refl _ _) (by omega) _) ?_; clear hK K; (try simp only [Reg.nn])
      refine Reg.onlyX 10 _ rfl (by kernel_rfl) (by decide) (by rfl) (fun K hK => ?_)
      refine wp_oapp el_u8 _ (.tmp 62) (.tmp 67) rfl (.slice A n2 c) (u8s T2) rfl (hSq.2.2.2.1.ext ((Ext.refl wq).alloc _)) (u8s_one _) (some ⟨wq.heap.size, 0, none⟩) 1 1 (u8s [bb]) rfl (Rd.of_block wq 5 (0, 0) rfl) rfl (fun h => by cases h) (u8s_one _) (by rw [u8s_length, hT2n]; omega) (by omega) ?_
      intro V1 w1 ho1 hgr1 hv1
      have hbel := Go.RowKit.Below.grown (Go.RowKit.Below.refl (w.heap.size + 2) _) hgr1 (by simp; omega) hSq.2.2.2.2
      obtain ⟨hx1, hz1, hg1, ho1, hb1⟩ := hSq.app ((Ext.refl wq).alloc _) ho1 hgr1 hv1
      have hS1 := SInv.put hx1 hz1 hg1 ho1 hb1
      refine hK.out _ _ hbel ?_
      clear hK K
      have hc8 : w1.cell? ⟨w.heap.size + 1, 8, none⟩ = some (.slice A n2 c) := hg1.cell 8
      have f8 := hg1.frozen 8
      obtain ⟨A1, c1, rfl, _⟩ := ho1.rd
      clear hgr1 hv1 ho1 hb1 hx1 hz1 hg1 hbel
      (try simp only [Reg.nn])
      iterate 2 ((first | refine Reg.un (Reg.rl_below _) ?_ | refine Reg.vn (Reg.rl_below _) ?_); (try simp only [Reg.nn]))
      refine Reg.lastX 13 _ rfl (by kernel_rfl) (by kernel_rfl) (by kernel_rfl) (by decide) (by rfl) (fun K hK => ?_)
      go_simp
      refine hK.out _ _ ?_; clear hK K; (try simp only [Reg.nn])
      have hl1 : (u8s (T2 ++ [bb])).length = n + (j + 1) := by rw [u8s_length, List.length_append, hT2n, ← hn2.out]; rfl
      have hT1 : T2 ++ [bb] = T ++ (be8 (m.length * 8)).take (j + 1) := by rw [← hT2.out, ← hbb.out, List.append_assoc, ← be8_take _ j hj8 S hSj]
      rw [hl1, hT1] at hS1
      rw [hl1]
      go_wp2_with fail
      refine ⟨⟨j + 1, A1, c1, by omega, ?_, hS1⟩, ?_⟩
      ·go_num
      ·simp only [intOf]; omega
     ·have e8 : wr.cell? ⟨w.heap.size + 1, 8, none⟩ = some (.slice A (n + j) c) := hS.2.2.1.cell 8
      obtain rfl : j = 8 := by omega
      go_wp2_with fail
      obtain ⟨P, hP⟩ : ∃ x, Held (T ++ (be8 (m.length * 8)).take 8 = x) := ⟨_, ⟨rfl⟩⟩
      rw [hP.out] at hS
      have hPl : P.length = n + 8 := by rw [← hP.out, List.length_append, hTn]; rfl
      have hP64 : P.length % 64 = 0 := by omega
      have hsha : sha m = out (blocks s0 P (P.length / 64)) := by
       have h := sha_tail m Lf hLf.out
       rw [hs0.out, hNO.out] at h
       rw [h, ← hP.out, ← hT.out]; rfl
      have Hsha := Lib.hid hsha
      clear hsha
      obtain ⟨hx, hz, hg, ho3, hb3⟩ := hS
      obtain ⟨A', c', e, hrd3, hle3, _, _⟩ := ho3.rd
      injection e with e1 e2 e3
      subst e1; subst e3
      rw [u8s_length, hPl] at hle3
      have hA3 : ∀ a, A = some a → a.block ≠ w.heap.size + 1 := fun a ha e => by
       have := hb3 a.block (by rw [ha]; rfl); omega
      obtain ⟨V, hV⟩ : ∃ x, Held (Value.slice A (n + 8) c = x) := ⟨_, ⟨rfl⟩⟩
      rw [hV.out] at hg
      rw [← hPl] at hle3 ⊢
      clear e2 e8 ho3 hb3
      go_loopw [6, 75, 76, 78, 79, 80, 81, 82, 83] (fun v6 v75 v76 v78 v79 v80 v81 v82 v83 wv => ∃ k A2 c2, 64 * k ≤ P.length ∧ v6 = .slice A2 (P.length - 64 * k) c2 ∧ P.length - 64 * k ≤ c2 ∧ Rb wv A2 (P.drop (64 * k)) ∧ (∀ a, A2 = some a → a.block ≠ w.heap.size + 1) ∧ Ext w wv ∧ Blk wv w.heap.size z32 23 ∧ Blk wv (w.heap.size + 1) ((us (blocks s0 P k).list).toArray ++ #[V, .int .u64 (cnt m)]) 144) (fun v6 _ _ _ _ _ _ _ _ _ => lenOf v6)
      case atStart => exact ⟨0, A, c, by omega, rfl, by omega, hrd3, hA3, hx, hz, hg⟩
      case round =>
       clear hx hz hg hrd3 hA3 hle3
       obtain ⟨k, A2, c2, hk, rfl, hle, hrd, hA2, hx, hz, hg⟩ := hrel
       obtain ⟨s1, hs1⟩ : ∃ x, Held (blocks s0 P k = x) := ⟨_, ⟨rfl⟩⟩
       obtain ⟨Z, hZ⟩ : ∃ x, Held (P.drop (64 * k) = x) := ⟨_, ⟨rfl⟩⟩
       obtain ⟨n2, hn2⟩ : ∃ x, Held (P.length - 64 * k = x) := ⟨_, ⟨rfl⟩⟩
       have hZn : Z.length = n2 := by rw [← hZ.out, List.length_drop, hn2.out]
       rw [hs1.out] at hg
       rw [hZ.out] at hrd
       rw [hn2.out] at hle ⊢
       by_cases h0 : 0 < n2
       ·have h64 : 64 ≤ n2 := by have := hn2.out; omega
        obtain ⟨b2, o2, rfl⟩ := hrd.some_ (by omega)
        have hc64 : (64 : Int) ≤ c2 := by omega
        have hn64 : (64 : Int) ≤ n2 := by omega
        have hn0 : (0 : Int) < n2 := by omega
        have hrT : Rb wr (some ⟨b2, o2, none⟩) (Z.take 64) := Rb.take hrd 64
        have hrts : ∀ j v, (us roots)[j]? = some v → wr.cell? ⟨1, j, none⟩ = some v := fun j v h => hx.cell (hroots j v h)
        have hcall := takes_any (w.heap.size + 1) s1 V (.int .u64 (cnt m)) (some ⟨b2, o2, none⟩) c2 (Z.take 64) wr (by rw [List.length_take]; omega) hrT hg hrts
        go_wp2_with fail
        refine hcall.mono ?_
        rintro e w2 ⟨rfl, hg2, hgr⟩
        have hrd2 : Rb w2 (some ⟨b2, o2, none⟩) Z := Rd.chg hrd (Chg.ofGrown hgr) (fun a ha e => hA2 a ha (by injection e with e; exact e.symm))
        have hbk : blocks s0 P (k + 1) = block s1 (Z.take 64) := by rw [blocks_succ P k s0 P, hs1.out, hZ.out]
        have hdk : P.drop (64 * (k + 1)) = Z.drop 64 := by rw [← hZ.out, List.drop_drop]; congr 1
        have hx2 : Ext w w2 := hx.then_grown hgr (fun k hk => by injection hk with hk; omega)
        have hz2 := hz.grown hgr (by intro e; injection e with e; omega)
        have hb2 : ∀ a : Addr, some (⟨b2, o2, none⟩ : Addr) = some a → ¬ a.block = w.heap.size + 1 := hA2
        have hn2' := hn2.out
        have hg3 : Blk w2 (w.heap.size + 1) ((us (blocks s0 P (k + 1)).list ++ [V, .int .u64 (cnt m)]).toArray) 144 := by rw [hbk]; simpa using hg2
        have hgrow : ∃ k, 64 * k ≤ n + 8 ∧ n2 - 64 = n + 8 - 64 * k ∧ P.drop (64 * k) = Z.drop 64 ∧ Blk w2 (w.heap.size + 1) ((us (blocks s0 P k).list ++ [V, .int .u64 (cnt m)]).toArray) 144 := ⟨k + 1, by omega, by omega, hdk, hg3⟩
        obtain ⟨k', hk1, hk2', hk3, hk4⟩ := hgrow
        have hk2 : Held (n2 - 64 = n + 8 - 64 * k') := ⟨hk2'⟩
        clear hk2'
        clear hg3 hg2 hgr hbk hdk hrts hcall hrT hn2'
        go_wp2_with fail
        ·refine ⟨⟨k', hk1, _, _, ⟨rfl, hk2.out, rfl⟩, by have := hk2.out; omega, ?_, hb2, hk4⟩, by simp only [lenOf]; omega⟩
         rw [hk3, List.drop_eq_nil_of_le (by omega)]
         exact Rd.nil _ _
        ·have hb3 : ∀ a : Addr, some (⟨b2, o2 + 64, none⟩ : Addr) = some a → ¬ a.block = w.heap.size + 1 := fun a ha => by
          injection ha with ha
          subst ha
          exact hb2 ⟨b2, o2, none⟩ rfl
         refine ⟨⟨k', hk1, _, _, ⟨rfl, hk2.out, rfl⟩, by have := hk2.out; omega, ?_, hb3, hk4⟩, by simp only [lenOf]; omega⟩
         rw [hk3]
         exact Rb.drop hrd2 64
       ·have hk0 : k = P.length / 64 := by have := hn2.out; omega
        rw [← hk0, hs1.out] at Hsha
        have hn0 : ¬ (0 : Int) < n2 := by omega
        go_wp2_with fail
        obtain ⟨O, hO⟩ : ∃ x, Held (wr.heap.size = x) := ⟨_, ⟨rfl⟩⟩
        have hOb := Blk.new wr z32 23
        rw [hO.out] at hOb
        have hOb : Blk (wr.alloc (.cells z32 23)) O (otab s1 0) 23 := by rw [otab_zero]; exact hOb
        have hwO : w.heap.size + 1 < O := by rw [← hO.out]; exact hg.lt
        rw [hO.out]
        go_loopw [8, 84, 86, 87, 88, 89, 90, 91, 92, 93, 94, 95, 96, 97, 98, 99, 100, 101, 102] (fun v8 v84 v86 v87 v88 v89 v90 v91 v92 v93 v94 v95 v96 v97 v98 v99 v100 v101 v102 wv => ∃ i : Nat, i ≤ 32 ∧ v84 = .int .i64 i ∧ Ext w wv ∧ Blk wv w.heap.size z32 23 ∧ Blk wv (w.heap.size + 1) ((us s1.list).toArray ++ #[V, .int .u64 (cnt m)]) 144 ∧ Blk wv O (otab s1 i) 23) (fun _ v84 _ _ _ _ _ _ _ _ _ _ _ _ _ _ _ _ _ _ => 32 - (intOf v84).toNat)
        case atStart => exact ⟨0, by omega, rfl, hx.alloc _, hz.alloc _, hg.alloc _, hOb⟩
        case round =>
         clear hx hz hg hOb hrd hA2
         obtain ⟨i, hi, rfl, hx, hz, hg, hOb⟩ := hrel
         by_cases hi32 : i < 32
         ·obtain ⟨q, hq⟩ : ∃ q : Nat, Held (i / 4 = q) := ⟨_, ⟨rfl⟩⟩
          obtain ⟨r, hr⟩ : ∃ r : Nat, Held (i % 4 = r) := ⟨_, ⟨rfl⟩⟩
          have hq' : (i : Int) / 4 = (q : Int) := by have := hq.out; omega
          have hr' : (i : Int) % 4 = (r : Int) := by have := hr.out; omega
          have hq8 : (q : Int) < 8 := by have := hq.out; omega
          have hi' : (i : Int) < 32 := by omega
          have e3 : wr.cell? ⟨w.heap.size + 1, q, none⟩ = some (.int .u32 (U (at32 s1.list q))) := (hg.cell q).trans (head8 _ _ q (by omega))
          obtain ⟨S, hS⟩ : ∃ S : Nat, Held (24 - 8 * (r : Int) = (S : Int)) := ⟨24 - 8 * r, ⟨by have := hr.out; omega⟩⟩
          have hS' : (24 : Int) - 8 * (r : Int) = (S : Int) := hS.out
          have hS0 : ¬ (S : Int) < 0 := by omega
          have hS32 : S + 8 * r = 24 := by omega
          have eO : wr.cell? ⟨O, i, none⟩ = some ((otab s1 i)[i]'(by rw [otab_size s1 i hi]; exact hi32)) := (hOb.cell i).trans (Array.getElem?_eq_getElem _)
          have fO := hOb.frozen i
          have hby := out_at s1 i q r S hi32 hq.out hr.out hS32
          go_wp2_with fail
          refine ⟨⟨i + 1, by omega, by go_num, hx.setCell (by show _ ≤ O; omega) _, hz.far (by show w.heap.size ≠ O; omega) _, hg.far (by show w.heap.size + 1 ≠ O; omega) _, ?_⟩, by simp [intOf]; omega⟩
          have hq2 := hOb.set i (.int .u8 ((at8 (out s1) i).toNat : Int))
          rw [otab_set s1 i hi32] at hq2
          exact hq2
         ·obtain rfl : i = 32 := by omega
          rw [otab_full] at hOb
          have hty : (Tryz.prog.info? 23).map (·.size) = some (u8s (out s1)).length := by rw [u8s_length, out_length]; kernel_rfl
          go_wp2_with (first
           | refine wpList_load_mid rfl 23 (.tmp 7) rfl O 0 rfl (u8s (out s1)) (.array 32 5) (fun j v hj => by rw [Nat.zero_add, hOb.cell j, List.getElem?_toArray]; exact hj) (by kernel_rfl) rfl hty ?_
           | refine wpList_store_mid rfl 23 (.tmp 2) (.tmp 103) rfl w.heap.size 0 (u8s (out s1)).toArray rfl rfl (fun j hj => by rw [Nat.zero_add]; exact ⟨by rw [hz.cell j, Array.getElem?_eq_getElem (by simpa [z32, u8s_length, out_length] using hj)]; rfl, hz.frozen j⟩) (by rw [List.size_toArray]; exact hty) (all_oneCell_toArray (u8s_one _)) ?_)
          have hz2 := Blk_sets (u8s (out s1)) 0 _ _ hz
          rw [show setMany z32 0 (u8s (out s1)) = (u8s (out s1)).toArray from setMany_full _ [] (u8s (List.replicate 32 0)) (by rw [u8s_length, u8s_length, out_length]; rfl)] at hz2
          refine ⟨rfl, _, results_cell_row rfl _ _ w.heap.size 23 (u8s (out s1)).toArray (0, 0) (.array 32 5) rfl hz2 (by kernel_rfl) rfl (by rw [List.size_toArray]; exact hty), ?_, Ext_sets (Nat.le_refl _) _ 0 hx⟩
          rw [Hsha.out]
   ·have hci : ¬ (n : Int) % 64 = 56 := by omega
    have hkN : k < NO := by have := hn.out; omega
    have hk2 : k + 1 ≤ 64 := by omega
    have hn2 : n ≤ 200 := by have := hn.out; omega
    go_wp2_with (
     refine wpList_oapp el_u8 _ rfl (.tmp 44) (.tmp 45) rfl (.slice A n c) (u8s T) rfl (hS.2.2.2.1.ext ((Ext.refl wr).alloc _)) (u8s_one _) (some ⟨wr.heap.size, 0, none⟩) 1 1 (u8s [0]) rfl (Rd.of_block wr 5 (0, 0) rfl) rfl (fun h => by cases h) (u8s_one _) (by rw [u8s_length]; omega) (by omega) (fun V1 w1 ho1 hgr1 hv1 => ?_)
     obtain ⟨hx1, hz1, hg1, ho1, hb1⟩ := hS.app ((Ext.refl wr).alloc _) ho1 hgr1 hv1
     have hS1 := SInv.put hx1 hz1 hg1 ho1 hb1
     have e8 : w1.cell? ⟨w.heap.size + 1, 8, none⟩ = some (.slice A n c) := hg1.cell 8
     have f8 := hg1.frozen 8
     obtain ⟨A1, c1, rfl, _⟩ := ho1.rd
     clear hgr1 hv1 ho1 hb1 hx1 hz1 hg1)
    have hl1 : (u8s (T ++ [(0 : UInt8)])).length = Lf.length + 1 + (k + 1) := by rw [u8s_length, List.length_append, hTn, ← hn.out]; rfl
    have hT1 : T ++ [(0 : UInt8)] = Lf ++ [128] ++ List.replicate (k + 1) 0 := by rw [← hT.out, List.replicate_succ', List.append_assoc]
    rw [hl1, hT1] at hS1
    rw [hl1]
    refine ⟨⟨k + 1, A1, c1, hkN, hS1⟩, ?_⟩
    have q1 := lenAt_of (w := w1.setCell ⟨w.heap.size + 1, 8, none⟩ (.slice A1 (Lf.length + 1 + (k + 1)) c1)) (g := w.heap.size + 1) (i := 8) (hS1.2.2.1.cell 8)
    have q2 := lenAt_of (w := wr) (g := w.heap.size + 1) (i := 8) (hS.2.2.1.cell 8)
    rw [q1, q2]
    have := hn.out
    omega
structure Tabs (w : World) : Prop where
 first : ∀ j v, (us first)[j]? = some v → w.cell? ⟨0, j, none⟩ = some v
 roots : ∀ j v, (us roots)[j]? = some v → w.cell? ⟨1, j, none⟩ = some v
theorem Tabs.ext {w w' : World} (h : Tabs w) (hx : Ext w w') : Tabs w' := ⟨fun j v e => hx.cell (h.first j v e), fun j v e => hx.cell (h.roots j v e)⟩
theorem Tabs.lt {w : World} (h : Tabs w) : 1 < w.heap.size := World.block_lt_of_cell? w ⟨1, 0, none⟩ (h.roots 0 _ rfl)
theorem Tabs.chg {S : Nat → Prop} {w w' : World} (h : Tabs w) (hx : Chg S w w') (hS : ∀ k, S k → 1 < k) : Tabs w' :=
 ⟨fun j v e => hx.cell (h.first j v e) (fun s => by have : 1 < 0 := hS _ s; omega), fun j v e => hx.cell (h.roots j v e) (fun s => by have : 1 < 1 := hS _ s; omega)⟩
theorem sum_store (s : ShaP.St) : (u8s (out s)).length = 32 := by rw [u8s_length, out_length]
theorem sha_length (m : List UInt8) : (sha m).length = 32 := out_length _
theorem sum_cells (m : List UInt8) {w : World} {g : Nat} (hz : Blk w g z32 23) : Blk (w.setCells g 0 (u8s (sha m))) g (u8s (sha m)).toArray 23 := by
 have hz2 := Blk_sets (u8s (sha m)) 0 _ _ hz
 rwa [show setMany z32 0 (u8s (sha m)) = (u8s (sha m)).toArray from setMany_full _ [] (u8s (List.replicate 32 0)) (by rw [u8s_length, u8s_length, sha_length]; rfl)] at hz2
theorem sum_there {w : World} {g : Nat} (hz : Blk w g z32 23) (m : List UInt8) : w.there g 0 (u8s (sha m)).toArray.size := fun j hj => by
 rw [Nat.zero_add]
 exact ⟨by rw [hz.cell j, Array.getElem?_eq_getElem (by simpa [z32, u8s_length, sha_length] using hj)]; rfl, hz.frozen j⟩
theorem sum_info (m : List UInt8) : (Tryz.prog.info? 23).map (·.size) = some (u8s (sha m)).toArray.size := by rw [List.size_toArray, u8s_length, sha_length]; kernel_rfl
theorem sumTop_any (w : World) (A : Option Addr) (c : Nat) (l : List UInt8) (ht : Tabs w) (hr : Rb w A l) (hA : A = none → c = 0) (hAw : ∀ a, A = some a → a.block < w.heap.size) (hl : l.length ≤ 140737488351232) :
  Calls Tryz.prog 53 #[.slice A l.length c] w fun e w' => e = .returned (.agg (u8s (sha l)).toArray) ∧ Ext w w' := by
 obtain ⟨N, hN⟩ : ∃ x, Held (l.length = x) := ⟨_, ⟨rfl⟩⟩
 have Hl := Lib.hid hl
 clear hl
 rw [hN.out]
 go_enter Tryz.func53, Tryz.ntmps53
 go_wp2_with fail
 generalize hw0 : World.alloc w _ = w0
 have hz0 : Blk w0 w.heap.size z32 23 := by rw [← hw0]; exact Blk.new w z32 _
 have hx0 : Ext w w0 := by rw [← hw0]; exact (Ext.refl w).alloc _
 have hs0 : w0.heap.size = w.heap.size + 1 := by rw [← hw0]; simp
 clear hw0
 refine (new_any w0 (ht.ext hx0).first).mono ?_
 rintro e w1 ⟨rfl, h1, hx1⟩
 have hw := write_any w1 w0.heap.size none [] l A c ((ht.ext hx0).ext hx1).roots h1 (hr.ext (hx0.trans hx1)) hA (fun a ha e => by have := hAw a ha; omega) Hl.out (by have := ht.lt; omega) (by simp)
 rw [hN.out] at hw
 rw [hs0] at hw h1 ⊢
 go_wp2_with fail
 refine hw.mono ?_
 rintro e w2 ⟨rfl, lb', h2, _, hc2⟩
 have hx2 : Ext w w2 := (hx0.trans hx1).chg hc2 (fun i hi e => by rcases e with e | e; omega; cases e)
 have hz2 := hc2.blk ((hz0.ext hx1)) (fun e => by rcases e with e | e; omega; cases e)
 have hsum := sum_any w2 (w.heap.size + 1) lb' ([] ++ l) (ht.ext hx2).roots h2 (by have := ht.lt; have := hx2.size; omega)
 rw [List.nil_append] at hsum
 clear hw
 go_wp2_with fail
 refine hsum.mono ?_
 rintro e w3 ⟨rfl, hx3⟩
 have hz3 := hz2.ext hx3
 go_wp2_with (refine wpList_store_mid rfl 23 (.tmp 2) (.tmp 9) rfl w.heap.size 0 (u8s (sha l)).toArray rfl rfl (sum_there hz3 l) (sum_info l) (all_oneCell_toArray (u8s_one _)) ?_)
 refine ⟨rfl, _, results_cell_row rfl _ _ w.heap.size 23 (u8s (sha l)).toArray (0, 0) (.array 32 5) rfl (sum_cells l hz3) (by kernel_rfl) rfl (sum_info l), rfl, Ext_sets (Nat.le_refl _) _ 0 (hx2.trans hx3)⟩
def BInv (w0 w : World) (b : Nat) (bs : List UInt8) : Prop :=
 ∃ p v, (p = none ∨ p = some (⟨b, 0, none⟩ : Addr)) ∧ Blk w b #[.pointer p, v] 106 ∧ w.ownsRow w0.heap.size 5 1 v bs.length (u8s bs) ∧ w0.heap.size ≤ b ∧ Ext w0 w
theorem check_any (w0 w : World) (b : Nat) (v : Value) (p : Option Addr) (hp : p = none ∨ p = some (⟨b, 0, none⟩ : Addr)) (hb : Blk w b #[.pointer p, v] 106) :
  Calls Tryz.prog 94 #[.pointer (some ⟨b, 0, none⟩)] w fun e w' => e = .returned (.tuple #[]) ∧ w' = (if p = none then w.setCell ⟨b, 0, none⟩ (.pointer (some ⟨b, 0, none⟩)) else w) := by
 have c0 := hb.cell 0
 have f0 := hb.frozen 0
 rcases hp with rfl | rfl
 ·have c0 : w.cell? ⟨b, 0, none⟩ = some (.pointer none) := c0
  have hsh : w.shape? b = some (106, 2) := by simp [World.shape?, show w.heap[b]? = _ from hb]
  obtain ⟨j, hj, hjs⟩ := Option.map_eq_some_iff.1 (show (Tryz.prog.info? 106).map (·.size) = some 2 by kernel_rfl)
  have k1 := Lib.run_to_unsafe (P := Tryz.prog) (w := w) (src := 104) (dst := 145) ⟨b, 0, none⟩ Tryz.underlying104 Tryz.underlying145 hj (by rw [hjs]; decide) hsh (Nat.zero_lt_succ 1)
  have k2 := @run_callFunc_extern Tryz.prog 108 _ Extern.AbiNoEscape.same Tryz.func108 (by kernel_rfl) (by kernel_rfl) (by kernel_rfl) (by kernel_rfl)
  have k3 := Lib.run_noEscape (P := Tryz.prog) (w := w) (.pointer (some ⟨b, 0, none⟩))
  have k4 := Lib.run_from_unsafe (P := Tryz.prog) (w := w) (src := 145) (dst := 104) ⟨b, 0, none⟩ Tryz.underlying145 Tryz.underlying104 hj hsh (by kernel_rfl)
  go_enter Tryz.func94, Tryz.ntmps94
  go_wp2_with fail
  go_end0
  exact ⟨rfl, rfl⟩
 ·have c0 : w.cell? ⟨b, 0, none⟩ = some (.pointer (some ⟨b, 0, none⟩)) := c0
  obtain ⟨j, hj, _⟩ := Option.map_eq_some_iff.1 (show (Tryz.prog.info? 106).map (·.size) = some 2 by kernel_rfl)
  have k5 := Lib.run_neq_ptr_same (P := Tryz.prog) w ⟨b, 0, none⟩ Tryz.underlying104 hj
  go_enter Tryz.func94, Tryz.ntmps94
  go_wp2_with fail
  go_end0
  exact ⟨rfl, rfl⟩
theorem own_slice {w : World} {base : Nat} {e : TypeId} {size n : Nat} {v : Value} {xs : List Value} (h : w.ownsRow base e size v n xs) : ∃ A cap, v = .slice A n cap := by
 rcases h.2 with ⟨rfl, rfl⟩ | ⟨g, cap, cur, rfl, _⟩
 ·exact ⟨none, 0, rfl⟩
 ·exact ⟨_, cap, rfl⟩
theorem own_base_ge {w : World} {base : Nat} {e : TypeId} {size n : Nat} {v : Value} {xs : List Value} (h : w.ownsRow base e size v n xs) : ∀ k, v.ownBlock = some k → base ≤ k := fun k hk => by
 rcases h.2 with ⟨rfl, _⟩ | ⟨g, cap, cur, rfl, hb, _⟩
 ·cases hk
 ·injection hk with hk
  have hk : g = k := hk
  omega
theorem el_u8b : El Tryz.prog 50 5 (.int .u8 0) 1 1 := ⟨by kernel_rfl, by kernel_rfl, rfl, by omega⟩
theorem writeByte_any (w0 w : World) (b : Nat) (bs : List UInt8) (c : UInt8) (hl : bs.length ≤ 1000) (h : BInv w0 w b bs) :
  Calls Tryz.prog 68 #[.pointer (some ⟨b, 0, none⟩), .int .u8 (c.toNat : Int)] w fun e w' => e = .returned .nilIface ∧ BInv w0 w' b (bs ++ [c]) := by
 obtain ⟨p, v, hp, hb, ho, hbb, hx⟩ := h
 have hck := check_any w0 w b v p hp hb
 generalize hw1 : (if p = none then w.setCell ⟨b, 0, none⟩ (.pointer (some ⟨b, 0, none⟩)) else w) = w1 at hck
 have hb1 : Blk w1 b #[.pointer (some ⟨b, 0, none⟩), v] 106 := by
  rw [← hw1]
  rcases hp with rfl | rfl
  ·have := hb.set 0 (.pointer (some ⟨b, 0, none⟩)); simpa using this
  ·simpa using hb
 have ho1 : w1.ownsRow w0.heap.size 5 1 v bs.length (u8s bs) := by
  rw [← hw1]
  split
  ·exact own_setCell ho hb (by decide) _
  ·exact ho
 have hx1 : Ext w0 w1 := by
  rw [← hw1]
  split
  ·exact hx.setCell hbb _
  ·exact hx
 clear hw1 hb ho hx hp
 obtain ⟨A, cap, rfl⟩ : ∃ A cap, v = .slice A bs.length cap := by
  rcases ho1.2 with ⟨rfl, h0⟩ | ⟨g, cap, cur, rfl, _⟩
  ·exact ⟨none, 0, by rw [h0]⟩
  ·exact ⟨_, cap, rfl⟩
 obtain ⟨n, hn⟩ : ∃ n, Hid (bs.length = n) := ⟨_, rfl⟩
 have hn2 : n ≤ 1000 := by have := hn.out; omega
 rw [hn.out] at hb1 ho1
 have c1 : w1.cell? ⟨b, 1, none⟩ = some (.slice A n cap) := hb1.cell 1
 have hsz := hx1.size
 go_enter Tryz.func68, Tryz.ntmps68
 go_wp2_with fail
 refine hck.mono ?_
 rintro e w' ⟨rfl, hw⟩
 have hw := hw.symm
 subst hw
 go_wp2_with (
  refine wpList_app el_u8b _ rfl (.tmp 11) (.tmp 13) rfl w0.heap.size (.slice A n cap) n (u8s bs) rfl (own_ext ho1 ((Ext.refl w1).alloc _)) (some ⟨w1.heap.size, 0, none⟩) 1 1 (u8s [c]) rfl (Rd.of_block _ 5 (0, 0) rfl) rfl (fun h => by cases h) (u8s_one _) (by omega) (by omega) (by simp; omega) (fun V2 w2 ho2 hg2 hv2 => ?_)
  obtain ⟨A2, cap2, rfl⟩ := own_slice ho2
  have hb2 : Blk w2 b #[.pointer (some ⟨b, 0, none⟩), .slice A n cap] 106 := (hb1.alloc _).grown hg2 (own_ne_blk ho1 hb1 (by decide))
  have f2 := hb2.frozen 1
  have c2 : w2.cell? ⟨b, 1, none⟩ = some (.slice A n cap) := hb2.cell 1
  have hx2 : Ext w0 w2 := (hx1.alloc _).then_grown hg2 (own_base_ge ho1)
  have hbq := hb2.set 1 (.slice A2 (n + 1) cap2)
  have hoq := own_setCell (i := 1) ho2 hb2 (by decide) (.slice A2 (n + 1) cap2))
 go_ret
 refine ⟨rfl, _, .slice A2 (n + 1) cap2, .inr rfl, hbq, ?_, hbb, hx2.setCell hbb _⟩
 rw [List.length_append, hn.out, u8s_append]
 exact hoq
theorem bstring_any (w0 w : World) (b : Nat) (bs : List UInt8) (hl : bs.length ≤ 1000) (hne : bs ≠ []) (h : BInv w0 w b bs) :
  Calls Tryz.prog 69 #[.pointer (some ⟨b, 0, none⟩)] w fun e w' => e = .returned (.string ⟨bs.toArray⟩) ∧ Ext w0 w' := by
 obtain ⟨p, v, hp, hb, ho, hbb, hx⟩ := h
 have hn0 : bs.length ≠ 0 := fun e => hne (List.eq_nil_of_length_eq_zero e)
 obtain ⟨g, cap, cur, rfl, hbg, hg, hnc, hcm, hcs, htake⟩ : ∃ g cap cur, v = .slice (some ⟨g, 0, none⟩) bs.length cap ∧ w0.heap.size ≤ g ∧ w.heap[g]? = some (.cells cur 5 (0, 0)) ∧ bs.length ≤ cap ∧ cap ≤ maxLen ∧ cur.size = cap * 1 ∧ cur.toList.take (bs.length * 1) = u8s bs := by
  rcases ho.2 with ⟨_, h0⟩ | ⟨g, cap, cur, hv, r⟩
  ·exact absurd h0 hn0
  ·exact ⟨g, cap, cur, hv, r⟩
 obtain ⟨n, hn⟩ : ∃ n, Hid (bs.length = n) := ⟨_, rfl⟩
 have hn1 : 1 ≤ n := by have := hn.out; omega
 have hn2 : n ≤ 1000 := by have := hn.out; omega
 have hsh : w.drew.shape? g = some (5, cur.size) := by simp [World.shape?, show w.drew.heap[g]? = _ from hg]
 have hcell : ∀ j x, bs[j]? = some x → w.drew.cell? ((⟨g, 0, none⟩ : Addr).add j) = some (.int .u8 (x.toNat : Int)) := fun j x hj => by
  have hadd : (⟨g, 0, none⟩ : Addr).add j = ⟨g, j, none⟩ := by unfold Addr.add; split <;> simp_all
  have hj2 : (u8s bs)[j]? = some (.int .u8 (x.toNat : Int)) := by simp [u8s, hj]
  rw [hadd, show w.drew.cell? ⟨g, j, none⟩ = cur[j]? from cell_of_row w.drew g j cur 5 (0, 0) hg]
  rw [← htake, List.getElem?_take] at hj2
  split at hj2
  ·simpa using hj2
  ·cases hj2
 have hUS := Lib.run_unsafeString_row (P := Tryz.prog) w.drew 129 3 9 5 Tryz.underlying129 (by kernel_rfl) g cur.size hsh bs hne (by omega) (by omega) hcell
 have hSD := Lib.run_unsafeSliceData_row (P := Tryz.prog) w.drew #[50] 129 ⟨g, 0, none⟩ n cap (by omega)
 rw [hn.out] at hUS hb
 have c1 : w.drew.cell? ⟨b, 1, none⟩ = some (.slice (some ⟨g, 0, none⟩) n cap) := hb.cell 1
 have hxf : Ext w0 (w.drew.freeze ⟨g, 0, none⟩ n) := Lib.below_freeze hx.drew (p := ⟨g, 0, none⟩) hbg _
 clear hcell hsh htake hcs hg ho hn0 hnc hcm
 go_enter Tryz.func69, Tryz.ntmps69
 go_wp2_with fail
 go_region
 all_goals go_wp2_with fail
 all_goals go_ret
 all_goals exact ⟨rfl, hxf⟩
def hexB : ByteArray := ⟨#[48, 49, 50, 51, 52, 53, 54, 55, 56, 57, 97, 98, 99, 100, 101, 102]⟩
def hexd (n : Nat) : UInt8 := hexB.data.toList.getD n 0
def hexL (m : List UInt8) : List UInt8 := m.flatMap fun c => [hexd (c.toNat / 16), hexd (c.toNat % 16)]
theorem hexd_get (n : Nat) (h : n < 16) : hexB[n]'h = hexd n := by
 unfold hexd
 rw [List.getD, List.getElem?_eq_getElem (by exact h)]
 rfl
theorem hexL_length (m : List UInt8) : (hexL m).length = m.length * 2 := by
 induction m with
 | nil => rfl
 | cons c m ih => simp only [hexL, List.flatMap_cons, List.length_append, List.length_cons, List.length_nil] at *; omega
theorem hexL_snoc (m : List UInt8) (c : UInt8) : hexL (m ++ [c]) = hexL m ++ [hexd (c.toNat / 16)] ++ [hexd (c.toNat % 16)] := by simp [hexL]
set_option maxHeartbeats 2000000 in
theorem hex_any (m : List UInt8) (hm : m.length = 32) (w : World) :
  Calls Tryz.prog 40 #[.agg (u8s m).toArray] w fun e w' => e = .returned (.string ⟨(hexL m).toArray⟩) ∧ Ext w w' := by
 obtain ⟨L, hL⟩ : ∃ L, Held (u8s m = L) := ⟨_, ⟨rfl⟩⟩
 rw [hL.out]
 have hLl : L.length = 32 := by rw [← hL.out, u8s_length, hm]
 have hLat : ∀ i (h : i < 32), L.toArray[i]? = some (.int .u8 ((m[i]'(by omega)).toNat : Int)) := fun i h => by rw [← hL.out]; simp [u8s, hm, h]
 obtain ⟨b, hb⟩ : ∃ b, Held (w.heap.size + 1 = b) := ⟨_, ⟨rfl⟩⟩
 have hty : (Tryz.prog.info? 23).map (·.size) = some L.length := by rw [hLl]; kernel_rfl
 have hld : ∀ j v, L[j]? = some v → ((w.alloc (.cells L.toArray 23)).alloc (.cells #[.pointer none, .slice none 0 0] 106)).cell? ⟨w.heap.size, 0 + j, none⟩ = some v := fun j v hj => by
  rw [Nat.zero_add, ((Blk.new w L.toArray 23).alloc _).cell j, List.getElem?_toArray, hj]
 have hB : BInv w ((w.alloc (.cells L.toArray 23)).alloc (.cells #[.pointer none, .slice none 0 0] 106)) b [] := by
  have h := Blk.new (w.alloc (.cells L.toArray 23)) #[.pointer none, .slice none 0 0] 106
  rw [World.size_alloc, hb.out] at h
  exact ⟨none, _, .inl rfl, h, World.ownsRow_nil _ _ _ _, by rw [← hb.out]; omega, ((Ext.refl w).alloc _).alloc _⟩
 go_enter Tryz.func40, Tryz.ntmps40
 go_wp2_with (refine wpList_load_mid rfl 23 (.tmp 1) rfl w.heap.size 0 rfl L (.array 32 5) hld (by kernel_rfl) rfl hty ?_)
 rw [hb.out]
 generalize World.alloc (World.alloc w _) _ = w1 at hB ⊢
 clear hld
 go_loopw [7] (fun v7 wr => ∃ i : Nat, i ≤ 32 ∧ v7 = .int .i64 i ∧ BInv w wr b (hexL (m.take i))) (fun v7 _ => 32 - (intOf v7).toNat)
 case atStart => exact ⟨0, by omega, rfl, hB⟩
 case round =>
  clear hB
  obtain ⟨i, hi, rfl, hB⟩ := hrel
  by_cases hin : i < 32
  ·have hin' : (i : Int) < 32 := by omega
   obtain ⟨c, hc⟩ : ∃ c, Held (m[i]'(by omega) = c) := ⟨_, ⟨rfl⟩⟩
   have hat := hLat i hin
   rw [hc.out] at hat
   have hcl := c.toNat_lt
   have hcl' : (c.toNat : Int) < 256 := by omega
   obtain ⟨H, hH⟩ : ∃ H, Held (hexL (m.take i) = H) := ⟨_, ⟨rfl⟩⟩
   have hHl : H.length ≤ 64 := by rw [← hH.out, hexL_length, List.length_take]; omega
   have hnx : hexL (m.take (i + 1)) = H ++ [hexd (c.toNat / 16)] ++ [hexd (c.toNat % 16)] := by
    rw [List.take_succ_eq_append_getElem (by omega), hexL_snoc, hH.out, hc.out]
   rw [hH.out] at hB
   have hw1 := writeByte_any w wr b H (hexd (c.toNat / 16)) (by omega) hB
   have g1 : (⟨#[48, 49, 50, 51, 52, 53, 54, 55, 56, 57, 97, 98, 99, 100, 101, 102]⟩ : ByteArray)[c.toNat / 16]'(by show _ < 16; omega) = hexd (c.toNat / 16) := hexd_get _ (by omega)
   have g2 : (⟨#[48, 49, 50, 51, 52, 53, 54, 55, 56, 57, 97, 98, 99, 100, 101, 102]⟩ : ByteArray)[c.toNat % 16]'(by show _ < 16; omega) = hexd (c.toNat % 16) := hexd_get _ (by omega)
   go_wp2_with (refine wpList_index rfl 23 (.tmp 6) (.tmp 7) rfl _ _ rfl rfl _ (run_index_row _ _ 5 32 L.toArray i .u8 (by kernel_rfl) (by kernel_rfl) (by kernel_rfl) hin _ hat) ?_)
   refine hw1.mono ?_
   rintro e w2 ⟨rfl, hB2⟩
   have hw2 := writeByte_any w w2 b _ (hexd (c.toNat % 16)) (by rw [List.length_append]; simp; omega) hB2
   go_wp2_with fail
   refine hw2.mono ?_
   rintro e w3 ⟨rfl, hB3⟩
   rw [← hnx] at hB3
   go_wp2_with fail
   refine ⟨⟨i + 1, by omega, rfl, hB3⟩, ?_⟩
   simp [intOf]
   omega
  ·obtain rfl : i = 32 := by omega
   rw [List.take_of_length_le (by omega)] at hB
   have hs := bstring_any w wr b (hexL m) (by rw [hexL_length]; omega) (fun e => by have := hexL_length m; rw [e] at this; simp at this; omega) hB
   go_wp2_with fail
   refine hs.mono ?_
   rintro e w2 ⟨rfl, hx⟩
   go_wp2_with fail
   go_ret
   exact ⟨rfl, hx⟩
end Go.Proofs.YtbpfabhlngfciaaGreatDoor.ShaW
