/- sha: a hash as it grows: New, Write. -/
import Derived.Test.YtdfgjmmdpbgodaaDoorShaTakes
import Derived.Test.YtdfgjmmdpbgodaaDoorOwn
namespace Go.Proofs.YtdfgjmmdpbgodaaDoor.ShaW
open Go.ChangeShapes Go.WideShapes Go.ChangeAt Go.RowKit
open ShaP Base
set_option linter.unusedVariables false
set_option linter.unusedSimpArgs false

theorem blocks_succ (l : List UInt8) : ∀ (k : Nat) (s : ShaP.St) (l : List UInt8), blocks s l (k + 1) = block (blocks s l k) ((l.drop (64 * k)).take 64)
  | 0, s, l => by simp [blocks]
  | k + 1, s, l => by
    rw [blocks, blocks_succ l k, blocks]
    congr 2
    rw [List.drop_drop]; congr 1; omega
/-- blocks that are taken look at no more than the bytes of theirs -/
theorem blocks_append (l r : List UInt8) : ∀ (k : Nat) (s : ShaP.St) (l : List UInt8), 64 * k ≤ l.length → blocks s (l ++ r) k = blocks s l k
  | 0, s, l, _ => rfl
  | k + 1, s, l, h => by
    rw [blocks, blocks, List.take_append_of_le_length (by omega), List.drop_append_of_le_length (by omega)]
    exact blocks_append l r k _ _ (by rw [List.length_drop]; omega)
theorem blocks_add (l : List UInt8) : ∀ (j k : Nat) (s : ShaP.St) (l : List UInt8), blocks s l (j + k) = blocks (blocks s l j) (l.drop (64 * j)) k
  | 0, k, s, l => by simp [blocks]
  | j + 1, k, s, l => by
    rw [show j + 1 + k = (j + k) + 1 by omega, blocks, blocks_add l j k, blocks, List.drop_drop]
    congr 2; omega

/-- how many bytes, as the hash keeps it -/
def cnt (m : List UInt8) : Int := ((m.length % 18446744073709551616 : Nat) : Int)
theorem cnt_nil : cnt [] = 0 := rfl
/-- what a hash is of the bytes m -/
def HInv (w : World) (g : Nat) (lb : Option Nat) (m : List UInt8) : Prop :=
  ∃ v, Blk w g ((us (blocks begin_ m (m.length / 64)).list).toArray ++ #[v, .int .u64 (cnt m)]) 48 ∧ OwnS w v (u8s (m.drop (64 * (m.length / 64)))) ∧ v.ownBlock = lb ∧ lb ≠ some g ∧ ∀ k, lb = some k → k < w.heap.size

theorem HInv.keep {S : Nat → Prop} {w w' : World} {g : Nat} {lb : Option Nat} {m : List UInt8} (h : HInv w g lb m) (hx : Chg S w w') (hg : ¬ S g) (hn : ∀ k, lb = some k → ¬ S k) : HInv w' g lb m := by
  obtain ⟨v, hb, ho, rfl, hne, hlt⟩ := h
  exact ⟨v, hx.blk hb hg, ho.keep hx hn, rfl, hne, fun k hk => Nat.lt_of_lt_of_le (hlt k hk) hx.size⟩
theorem HInv.lt {w : World} {g : Nat} {lb : Option Nat} {m : List UInt8} (h : HInv w g lb m) : g < w.heap.size := by
  obtain ⟨v, hb, _⟩ := h; exact hb.lt

theorem new_any (w : World) (hfirst : ∀ j v, (us first)[j]? = some v → w.cell? ⟨0, j, none⟩ = some v) :
    Calls Tryd.prog 11 #[] w fun e w' => e = .returned (.pointer (some ⟨w.heap.size, 0, none⟩)) ∧ HInv w' w.heap.size none [] ∧ Ext w w' := by
  go_enter Tryd.func11, Tryd.ntmps11
  go_wp2_with (refine wpList_load_mid rfl 46 (.global 0) rfl 0 0 rfl (us first) (.array 8 44) (fun j v hj => by rw [Nat.zero_add]; exact hfirst j v hj) (by kernel_rfl) rfl (by kernel_rfl) ?_)
  go_ret
  refine ⟨rfl, ⟨.slice none 0 0, ?_, OwnS.nil _, rfl, by simp, by simp⟩, (Ext.refl w).alloc _⟩
  have e : List.foldl (fun cs x => cs.setIfInBounds x.snd x.fst) #[Value.int IntKind.u32 0, Value.int IntKind.u32 0, Value.int IntKind.u32 0, Value.int IntKind.u32 0, Value.int IntKind.u32 0, Value.int IntKind.u32 0, Value.int IntKind.u32 0, Value.int IntKind.u32 0, Value.slice none 0 0, Value.int IntKind.u64 0] (us first).zipIdx
    = (us (blocks begin_ [] (([] : List UInt8).length / 64)).list).toArray ++ #[.slice none 0 0, .int .u64 (cnt [])] := by
    simp [us, first, blocks, begin_, St.list, cnt, List.zipIdx]
  rw [e]
  exact Blk.new w _ _

theorem el_u8 : El Tryd.prog 22 5 (.int .u8 0) 1 1 := ⟨by kernel_rfl, by kernel_rfl, rfl, by omega⟩
theorem cnt_add (m l : List UInt8) : IntKind.u64.wrap (cnt m + (l.length : Int)) = cnt (m ++ l) := by
  rw [IntKind.wrap_u64]
  simp only [cnt, List.length_append]
  omega

set_option maxHeartbeats 1000000 in
theorem cnt_add2 (m l : List UInt8) (N : Nat) (h : l.length = N) : IntKind.u64.wrap (cnt m + IntKind.u64.wrap (N : Int)) = cnt (m ++ l) := by
  rw [IntKind.wrap_u64, IntKind.wrap_u64]
  simp only [cnt, List.length_append, h]
  omega
/-- how long the slice in a cell is -/
def lenAt (w : World) (g i : Nat) : Nat := match w.cell? ⟨g, i, none⟩ with
  | some (.slice _ n _) => n
  | _ => 0
theorem lenAt_of {w : World} {g i n c : Nat} {A : Option Addr} (h : w.cell? ⟨g, i, none⟩ = some (.slice A n c)) : lenAt w g i = n := by rw [lenAt, h]
theorem words8 (s : ShaP.St) (x y z : Value) : ((us s.list).toArray ++ #[x, y]).setIfInBounds 8 z = (us s.list).toArray ++ #[z, y] := by
  simp [us, St.list]
theorem words9 (s : ShaP.St) (x y z : Value) : ((us s.list).toArray ++ #[x, y]).setIfInBounds 9 z = (us s.list).toArray ++ #[x, z] := by
  simp [us, St.list]

theorem hash_step (m l Lf T : List UInt8) (h1 : m.drop (64 * (m.length / 64)) = Lf) (h2 : Lf ++ l = T) (k : Nat) (hk : 64 * k ≤ T.length) (hlt : T.length - 64 * k < 64) :
    blocks begin_ (m ++ l) ((m ++ l).length / 64) = blocks (blocks begin_ m (m.length / 64)) T k ∧ (m ++ l).drop (64 * ((m ++ l).length / 64)) = T.drop (64 * k) := by
  have hT : T.length = m.length - 64 * (m.length / 64) + l.length := by rw [← h2, ← h1]; simp
  have hq : (m ++ l).length / 64 = m.length / 64 + k := by rw [List.length_append]; omega
  have hd : (m ++ l).drop (64 * (m.length / 64)) = T := by rw [List.drop_append_of_le_length (by omega), h1, h2]
  rw [hq, blocks_add m, blocks_append m l _ _ m (by omega), hd]
  refine ⟨rfl, ?_⟩
  rw [Nat.mul_add, ← List.drop_drop, hd]

set_option maxHeartbeats 1000000 in
theorem write_any (w : World) (g : Nat) (lb : Option Nat) (m l : List UInt8) (A : Option Addr) (c : Nat) (hroots : ∀ j v, (us roots)[j]? = some v → w.cell? ⟨1, j, none⟩ = some v)
    (h : HInv w g lb m) (hr : Rb w A l) (hA : A = none → c = 0) (hAg : ∀ a, A = some a → a.block ≠ g) (hl : l.length ≤ 140737488351232) (hg1 : g ≠ 1) (hl1 : lb ≠ some 1) :
    Calls Tryd.prog 12 #[.pointer (some ⟨g, 0, none⟩), .slice A l.length c] w fun e w' => e = .returned (.tuple #[]) ∧ ∃ lb', HInv w' g lb' (m ++ l) ∧ (lb' = lb ∨ ∃ k, lb' = some k ∧ w.heap.size ≤ k) ∧ Chg (fun k => k = g ∨ lb = some k) w w' := by
  obtain ⟨v, hb, ho, hv, hne, hlb⟩ := h
  obtain ⟨Lf, hLf⟩ : ∃ x, Held (m.drop (64 * (m.length / 64)) = x) := ⟨_, ⟨rfl⟩⟩
  rw [hLf.out] at ho
  have hLl : Lf.length < 64 := by rw [← hLf.out, List.length_drop]; omega
  obtain ⟨N, hN⟩ : ∃ x, Held (l.length = x) := ⟨_, ⟨rfl⟩⟩
  rw [hN.out]
  have Hl := Lib.hid hl
  clear hl
  have c8 : w.cell? ⟨g, 8, none⟩ = some v := hb.cell 8
  have c9 : w.cell? ⟨g, 9, none⟩ = some (.int .u64 (cnt m)) := hb.cell 9
  have f8 := hb.frozen 8
  have f9 := hb.frozen 9
  have hrn : Rd w A (u8s l) := hr
  have hoW : ∀ u, OwnS (w.setCell ⟨g, 9, none⟩ u) v (u8s Lf) := fun u => ho.keep (Chg.one w g 9 u) (fun k hk e => hne (by rw [← hv, hk, e]))
  have hrW : ∀ u, Rd (w.setCell ⟨g, 9, none⟩ u) A (u8s l) := fun u => hrn.chg (Chg.one w g 9 u) (fun a ha e => hAg a ha e)
  go_enter Tryd.func12, Tryd.ntmps12
  obtain ⟨T, hT⟩ : ∃ x, Held (Lf ++ l = x) := ⟨_, ⟨rfl⟩⟩
  obtain ⟨s0, hs0⟩ : ∃ x, Held (blocks begin_ m (m.length / 64) = x) := ⟨_, ⟨rfl⟩⟩
  rw [hs0.out] at hb
  obtain ⟨H, hH⟩ : ∃ x, Held (w.heap.size = x) := ⟨_, ⟨rfl⟩⟩
  go_wp2_with (
    refine wpList_oapp el_u8 _ rfl (.tmp 18) (.tmp 19) rfl v (u8s Lf) rfl (hoW _) (u8s_one _) A N c (u8s l) rfl (hrW _) (by rw [u8s_length, hN.out]) hA (u8s_one _) (by have := Hl.out; rw [u8s_length, ← hN.out]; omega) (by omega) (fun v1 w1 ho1 hgr1 hv1 => ?_)
    rw [cnt_add2 m l N hN.out] at hgr1
    have hb0 := hb.set 9 (.int .u64 (cnt (m ++ l)))
    rw [words9] at hb0
    have hb1 := hb0.grown hgr1 (by rw [hv]; exact fun e => hne e.symm)
    have hx1 : Chg (fun k => k = g ∨ lb = some k) w w1 := Chg.trans (S := fun k => k = g ∨ lb = some k) ((Chg.one w g 9 _).mono (fun _ _ e => .inl e)) (Chg.ofGrown hgr1) (fun i _ e => .inr (by rw [← hv]; exact e))
    have hf1 : v1.ownBlock = lb ∨ v1.ownBlock = some H := (hv1.imp (fun e => e.trans hv) (fun e => by rw [e.1, ← hH.out]; simp))
    have hz1 : ∀ k, v1.ownBlock = some k → k < w1.heap.size := by
      rcases hv1 with e | ⟨e, e2⟩
      · intro k hk
        exact Nat.lt_of_lt_of_le (hlb k (by rw [← hv, ← e, hk])) hx1.size
      · intro k hk
        rw [e] at hk
        injection hk with hk
        omega
    rw [← u8s_append, hT.out] at ho1
    obtain ⟨A1, cp1, rfl, hrd1, hle1, hmx1, hA1⟩ := ho1.rd
    have f8 := hb1.frozen 8
    have e8 : w1.cell? ⟨g, 8, none⟩ = some v := hb1.cell 8
    clear hgr1 hv1 hb0)
  have hb2 := hb1.set 8 (.slice A1 (u8s T).length cp1)
  rw [words8] at hb2
  have hne1 : (Value.slice A1 (u8s T).length cp1).ownBlock ≠ some g := by
    rcases hf1 with e | e
    · rw [e]; exact hne
    · rw [e, ← hH.out]; intro e; have := hb.lt; injection e with e; omega
  have ho2 : OwnS (w1.setCell ⟨g, 8, none⟩ (.slice A1 (u8s T).length cp1)) (.slice A1 (u8s T).length cp1) (u8s T) := ho1.keep (Chg.one w1 g 8 _) (fun k hk e => hne1 (by rw [hk, e]))
  have hx2 : Chg (fun k => k = g ∨ lb = some k) w (w1.setCell ⟨g, 8, none⟩ (.slice A1 (u8s T).length cp1)) := hx1.set (p := ⟨g, 8, none⟩) (.inl (.inl rfl)) _
  have hz2 : ∀ k, (Value.slice A1 (u8s T).length cp1).ownBlock = some k → k < (w1.setCell ⟨g, 8, none⟩ (.slice A1 (u8s T).length cp1)).heap.size := fun k hk => by simpa using hz1 k hk
  rw [u8s_length] at hf1 hne1 ho2 hb2 hx2 hz2 ⊢
  clear hb1 e8 f8 hz1 ho1 hrd1 hle1 hmx1 hA1 hx1 hoW hrW hrn hr c8 c9 f9 ho hb
  go_loopw [23, 24, 25, 26, 27, 29, 30, 31, 32, 33, 34, 35, 36, 37, 38, 39, 40, 41, 42, 43] (fun v23 v24 v25 v26 v27 v29 v30 v31 v32 v33 v34 v35 v36 v37 v38 v39 v40 v41 v42 v43 wv => ∃ k A2 c2, 64 * k ≤ T.length ∧ Blk wv g ((us (blocks s0 T k).list).toArray ++ #[.slice A2 (T.length - 64 * k) c2, .int .u64 (cnt (m ++ l))]) 48 ∧ OwnS wv (.slice A2 (T.length - 64 * k) c2) (u8s (T.drop (64 * k))) ∧ ((Value.slice A2 (T.length - 64 * k) c2).ownBlock = lb ∨ (Value.slice A2 (T.length - 64 * k) c2).ownBlock = some H) ∧ (Value.slice A2 (T.length - 64 * k) c2).ownBlock ≠ some g ∧ (∀ j, (Value.slice A2 (T.length - 64 * k) c2).ownBlock = some j → j < wv.heap.size) ∧ Chg (fun k => k = g ∨ lb = some k) w wv) (fun _ _ _ _ _ _ _ _ _ _ _ _ _ _ _ _ _ _ _ _ wv => lenAt wv g 8)
  case atStart => exact ⟨0, A1, cp1, by omega, hb2, ho2, hf1, hne1, hz2, hx2⟩
  case round =>
    clear hb2 ho2 hf1 hne1 hz2 hx2
    obtain ⟨k, A2, c2, hk, hb, ho, hf, hne2, hz, hx⟩ := hrel
    obtain ⟨s1, hs1⟩ : ∃ x, Held (blocks s0 T k = x) := ⟨_, ⟨rfl⟩⟩
    obtain ⟨U, hU⟩ : ∃ x, Held (T.drop (64 * k) = x) := ⟨_, ⟨rfl⟩⟩
    obtain ⟨n, hn⟩ : ∃ x, Held (T.length - 64 * k = x) := ⟨_, ⟨rfl⟩⟩
    have hUn : U.length = n := by rw [← hU.out, List.length_drop, hn.out]
    rw [hs1.out, hn.out] at hb
    rw [hU.out, hn.out] at ho
    rw [hn.out] at hf hne2 hz
    have e8 : wr.cell? ⟨g, 8, none⟩ = some (.slice A2 n c2) := hb.cell 8
    by_cases hlt : 64 ≤ n
    · obtain ⟨A', c', e, hrd, hle, hmx, _⟩ := ho.rd
      injection e with e1 e2 e3
      subst e1; subst e3
      clear e2
      rw [u8s_length, hUn] at hle
      obtain ⟨b2, o2, rfl⟩ := Rb.some_ (l := U) hrd (by omega)
      have hc64 : (64 : Int) ≤ c2 := by omega
      have hlt' : (64 : Int) ≤ n := by omega
      have hrT : Rb wr (some ⟨b2, o2, none⟩) (U.take 64) := Rb.take hrd 64
      have hrts : ∀ j v, (us roots)[j]? = some v → wr.cell? ⟨1, j, none⟩ = some v := fun j v h => hx.cell (hroots j v h) (fun e => by rcases e with e | e; exact hg1 e.symm; exact hl1 e)
      have hcall := takes_any g s1 (.slice (some ⟨b2, o2, none⟩) n c2) (.int .u64 (cnt (m ++ l))) (some ⟨b2, o2, none⟩) c2 (U.take 64) wr (by rw [List.length_take]; omega) hrT hb hrts
      go_wp2_with fail
      refine hcall.mono ?_
      rintro e w2 ⟨rfl, hb3, hg3⟩
      have ho3 := ho.keep (Chg.ofGrown hg3) (fun k hk e => hne2 (by rw [hk, e]))
      have e8 : w2.cell? ⟨g, 8, none⟩ = some (.slice (some ⟨b2, o2, none⟩) n c2) := hb3.cell 8
      have f8 := hb3.frozen 8
      go_wp2_with fail
      have hcut := ho3.cut 64 hlt
      have hblk := block_cut (c2 = 64) b2 o2 (o2 + 64) (n - 64) (c2 - 64)
      obtain ⟨A3, hA3⟩ : ∃ x, (if c2 = 64 then some (⟨b2, o2, none⟩ : Addr) else some ⟨b2, o2 + 64, none⟩) = x := ⟨_, rfl⟩
      rw [hA3] at hcut hblk ⊢
      have hn2 : T.length - 64 * (k + 1) = n - 64 := by rw [← hn.out]; omega
      have hd2 : T.drop (64 * (k + 1)) = U.drop 64 := by rw [← hU.out, List.drop_drop]; congr 1
      have hs2 : blocks s0 T (k + 1) = block s1 (U.take 64) := by rw [blocks_succ T k s0 T, hs1.out, hU.out]
      have hb4 := hb3.set 8 (.slice A3 (n - 64) (c2 - 64))
      have hw8 := words8 (block s1 (U.take 64)) (.slice (some ⟨b2, o2, none⟩) n c2) (.int .u64 (cnt (m ++ l))) (.slice A3 (n - 64) (c2 - 64))
      rw [hw8] at hb4
      have hneb : b2 ≠ g := fun e => hne2 (by rw [e]; rfl)
      refine ⟨⟨k + 1, A3, c2 - 64, by have := hn.out; omega, ?_, ?_, ?_, ?_, ?_, ?_⟩, ?_⟩
      · rw [hn2, hs2]; exact hb4
      · rw [hn2, hd2]
        rw [show u8s (U.drop 64) = (u8s U).drop 64 by simp [u8s]]
        exact hcut.keep (Chg.one w2 g 8 _) (fun j hj e => by rw [hblk] at hj; injection hj with hj; omega)
      · rw [hn2, hblk]; exact hf
      · rw [hn2, hblk]; exact hne2
      · rw [hn2, hblk]
        intro j hj
        have h1 := hz j hj
        have h2 := hg3.size
        simp; omega
      · exact ((hx.trans (Chg.ofGrown hg3) (fun i _ e => .inl (by injection e with e; exact e.symm))).set (p := ⟨g, 8, none⟩) (.inl (.inl rfl)) _)
      · have e9 : (w2.setCell ⟨g, 8, none⟩ (.slice A3 (n - 64) (c2 - 64))).cell? ⟨g, 8, none⟩ = some (.slice A3 (n - 64) (c2 - 64)) := hb4.cell 8
        have e10 : wr.cell? ⟨g, 8, none⟩ = some (.slice (some ⟨b2, o2, none⟩) n c2) := hb.cell 8
        rw [lenAt_of e9, lenAt_of e10]; omega
    · go_wp2_with fail
      obtain ⟨hq1, hq2⟩ := hash_step m l Lf T hLf.out hT.out k hk (by rw [hn.out]; omega)
      go_end0
      refine ⟨rfl, _, ⟨_, ?_, ?_, rfl, hne2, hz⟩, ?_, hx⟩
      · rw [hq1, hs0.out, hs1.out]; exact hb
      · rw [hq2, hU.out]; exact ho
      · rcases hf with e | e
        · exact .inl e
        · exact .inr ⟨H, e, by rw [hH.out]; omega⟩
end Go.Proofs.YtdfgjmmdpbgodaaDoor.ShaW
