/- lex: the iterator of tokens, walked. -/
import Derived.RangeFuncNested
import Derived.RangeFuncBound
import Derived.RangeFuncCalls
import Derived.RangeFuncLeaves
import Derived.Shelf.Abstract
import Derived.Shelf.RegionOpen
import Derived.WalkKit
import Derived.OwnWalkIn
import Derived.TacticsInMore
import Derived.LoopNIn
import Derived.LoopIn
import Derived.Test.YtgbfoklgejdegaaLexWalk
import Derived.Test.YtgbfoklgejdegaaLexToks
namespace Go.Proofs.Ytgbfoklgejdegaa.Lx
open Go.RowKit Go.Shelf
open Base
set_option linter.unusedVariables false
set_option linter.unusedSimpArgs false
attribute [local go_sem] Oper.semAt_some

def encT (x : Tok) : Value := .agg #[.int .i64 x.k, .string x.s, .int .i64 (x.a : Int)]
/-- one block is kept -/
def Kp (Bn : Nat) (W W' : World) : Prop := W.heap.size ≤ W'.heap.size ∧ ∀ o, W.heap[Bn]? = some o → W'.heap[Bn]? = some o
theorem Kp.refl (Bn : Nat) (W : World) : Kp Bn W W := ⟨Nat.le_refl _, fun _ h => h⟩

theorem index_any (c : UInt8) (w : World) : Calls Try.prog 21 #[.string signs, .int .u8 (c.toNat : Int)] w fun e w' => e = .returned (.int .i64 (Lib.indexByte signs.data.toList c)) ∧ w' = w := by
  have h24 := @run_callFunc_extern Try.prog 24 _ Extern.BytealgIndexByte.indexByte Try.func24 (by kernel_rfl) (by kernel_rfl) (by kernel_rfl) (by kernel_rfl)
  have hrun := Lib.run_indexByteString (P := Try.prog) signs (c.toNat : Int) w
  have hc : ((c.toNat : Int)).toNat.toUInt8 = c := by simp
  rw [hc] at hrun
  go_enter Try.func21, Try.ntmps21
  go_wp2
  go_ret
  exact ⟨rfl, rfl⟩
theorem tokens_any (s : ByteArray) (w : World) : Calls Try.prog 12 #[.string s] w fun e w' => e = .returned (.func (.func 19) #[] #[.pointer (some ⟨w.heap.size, 0, none⟩)]) ∧ w' = w.alloc (.cells #[.string s] 9) := by
  go_enter Try.func12, Try.ntmps12
  go_wp2
  go_ret
  exact ⟨rfl, rfl⟩

set_option maxRecDepth 100000 in
set_option maxHeartbeats 2000000 in
theorem iter_in (n : Nat) (hn : 1 ≤ n) (l Bn : Nat) (s : ByteArray) (hs : s.size ≤ 140737488351232) (J Jx : List Tok → World → Prop)
    (hY : ∀ pre x W, J pre W → pre.length < (toks s).length → YieldAt Fence.wide (n - 1) Try.prog l #[encT x] W fun e W' =>
      (e = .returned (.bool true) ∧ J (pre ++ [x]) W' ∧ Kp Bn W W') ∨ (e = .returned (.bool false) ∧ Jx (pre ++ [x]) W'))
    (W : World) (hJ : AbidesFrom W.heap.size J) (hBn : Boxed W Bn 9 (.string s)) (h0 : J [] W) :
    CallsIn Fence.wide n Try.prog 19 #[.func (.yield l) #[] #[], .pointer (some ⟨Bn, 0, none⟩)] W fun e W' => (∃ v, e = .returned v) ∧
      ((∃ ys, ys = toks s ∧ J ys W') ∨ (∃ pre, pre <+: toks s ∧ Jx pre W')) := by
  obtain ⟨T, hT⟩ : ∃ T, Hid (toks s = T) := ⟨_, rfl⟩
  have hskip := fun (a : Nat) (ha : a ≤ s.size) w => (skip_any s a hs ha w)
  rw [hT.out] at hY ⊢
  have hc := hBn.cell
  have hsk0 := hskip 0 (Nat.zero_le _) W
  refine callsIn_of_wp Try.func19 rfl trivial ?_ rfl
  simp only [Try.ntmps19, List.size_toArray, List.length_cons, List.length_nil, Nat.reduceAdd, Nat.reduceSub, Array.replicate_succ, Array.replicate_zero, List.push_toArray, List.append_toArray, List.nil_append, List.cons_append]
  gi_wp2_with (refine ⟨trivial, ?_⟩; gi_at_call 20; refine (callsIn_wide.2 hsk0).mono ?_; rintro e w' ⟨rfl, rfl⟩)
  gi_loopw [3] (fun v3 wr => ∃ (pre : List Tok) (f a : Nat), v3 = .int .i64 a ∧ a ≤ s.size ∧ s.size + 1 ≤ a + f ∧ Hid (T = pre ++ tokG s f a) ∧ J pre wr ∧ Boxed wr Bn 9 (.string s)) (fun v3 _ => s.size - (intOf v3).toNat)
  case atStart =>
    refine ⟨[], s.size + 1, skp s 0, ?_, skp_le s 0 (Nat.zero_le _), by omega, hT.out.symm, h0, hBn⟩
    simp [skp]
  case round =>
    clear hsk0 hBn h0 hc hT
    obtain ⟨pre, f, a, rfl, ha, hf, hTe, hJs, hBn⟩ := hrel
    have hc := hBn.cell
    by_cases hin : a < s.size
    · have hin' : (a : Int) < (s.size : Int) := by omega
      have hca : ∀ o, (wr.alloc o).cell? ⟨Bn, 0, none⟩ = some (.string s) := fun o => (hBn.alloc o).cell
      have hBl := hBn.lt
      have hBl2 : ¬ wr.heap.size = Bn := by omega
      have hBl3 : ¬ Bn = wr.heap.size := by omega
      have hlet := letter_any (s[a]'hin)
      have hdig := digit_any (s[a]'hin)
      cases f with
      | zero => omega
      | succ f =>
      have hstep := tokG_step s f a hin
      cases hl : letterP (s[a]'hin)
      · rw [hl] at hlet
        cases hd : digitP (s[a]'hin)
        · rw [hd] at hdig
          obtain ⟨ix, hix⟩ : ∃ ix, Hid (Lib.indexByte signs.data.toList (s[a]'hin) = ix) := ⟨_, rfl⟩
          have hidx := index_any (s[a]'hin)
          rw [hix.out] at hidx
          by_cases hge : 0 ≤ ix
          · have hkind : kindOf (byteAt s a) = 2 := by simp only [kindOf, ← byteAt_get s a hin, hl, hd, hix.out, hge, if_true, if_false, Bool.false_eq_true]
            have hlen : lenAt s a = 1 := by simp only [lenAt, ← byteAt_get s a hin, hl, hd, if_true, if_false, Bool.false_eq_true]
            have hr2 : a + 1 ≤ s.size := by omega
            have htk : encT (tokAt s a) = .agg #[.int .i64 2, .string (s.extract a (a + 1)), .int .i64 (a : Int)] := by simp only [encT, tokAt, hkind, hlen]
            have hJ1 : J pre (wr.alloc (.cells #[.int .i64 2, .string (s.extract a (a + 1)), .int .i64 (a : Int)] 28)) := hJ _ _ _ none hJs (World.grownBy_alloc _ _ none) (fun r e => by cases e)
            obtain ⟨fn, tm, asg, bd, hy, hR⟩ := hY pre (tokAt s a) _ hJ1 (by rw [hTe.out, hstep]; simp)
            rw [htk] at hy
            gi_wp2_with (first
              | (refine ⟨trivial, ?_⟩; gi_at_call 16; refine (callsIn_wide.2 (hlet _)).mono ?_; rintro e w' ⟨rfl, rfl⟩)
                      | (refine ⟨trivial, ?_⟩; gi_at_call 14; refine (callsIn_wide.2 (hdig _)).mono ?_; rintro e w' ⟨rfl, rfl⟩)
                      | (refine ⟨trivial, ?_⟩; gi_at_call 21; refine (callsIn_wide.2 (hidx _)).mono ?_; rintro e w' ⟨rfl, rfl⟩))
            refine hR.mono ?_
            clear hR hy
            rintro e W3 (⟨rfl, hJ3, hk3⟩ | ⟨rfl, hJx3⟩)
            · have hB3 : Boxed W3 Bn 9 (.string s) := hk3.2 _ (hBn.alloc _)
              have hc3 := hB3.cell
              have hsk := hskip (a + 1) (by omega)
              obtain ⟨a2, ha2⟩ : ∃ a2, Hid (a + 1 + skipN false (s.data.toList.drop (a + 1)) = a2) := ⟨_, rfl⟩
              have ha2' : skp s (a + 1) = a2 := ha2.out
              have ha2l : a2 ≤ s.size := by rw [← ha2']; exact skp_le s _ (by omega)
              have ha2g : a < a2 := by have := skp_ge s (a + 1); omega
              rw [ha2.out] at hsk
              gi_wp2_with (refine ⟨trivial, ?_⟩; gi_at_call 20; refine (callsIn_wide.2 (hsk _)).mono ?_; rintro e w' ⟨rfl, rfl⟩)
              refine ⟨⟨pre ++ [tokAt s a], f, a2, rfl, ha2l, by omega, ?_, hJ3, hB3⟩, ?_⟩
              · show _ = _
                rw [hTe.out, hstep, hlen, ha2', List.append_assoc]; rfl
              · simp [intOf]; omega
            · gi_wp2
              refine bodyPost_ret (results_none rfl _ _ _) rfl ?_
              exact ⟨⟨_, rfl⟩, .inr ⟨pre ++ [tokAt s a], ⟨_, by rw [hTe.out, hstep, List.append_assoc]; rfl⟩, hJx3⟩⟩
          · have hkind : kindOf (byteAt s a) = -1 := by simp only [kindOf, ← byteAt_get s a hin, hl, hd, hix.out, hge, if_true, if_false, Bool.false_eq_true]
            have hlen : lenAt s a = 1 := by simp only [lenAt, ← byteAt_get s a hin, hl, hd, if_true, if_false, Bool.false_eq_true]
            have hr2 : a + 1 ≤ s.size := by omega
            have htk : encT (tokAt s a) = .agg #[.int .i64 (-1), .string (s.extract a (a + 1)), .int .i64 (a : Int)] := by simp only [encT, tokAt, hkind, hlen]
            have hJ1 : J pre (wr.alloc (.cells #[.int .i64 (-1), .string (s.extract a (a + 1)), .int .i64 (a : Int)] 28)) := hJ _ _ _ none hJs (World.grownBy_alloc _ _ none) (fun r e => by cases e)
            obtain ⟨fn, tm, asg, bd, hy, hR⟩ := hY pre (tokAt s a) _ hJ1 (by rw [hTe.out, hstep]; simp)
            rw [htk] at hy
            gi_wp2_with (first
              | (refine ⟨trivial, ?_⟩; gi_at_call 16; refine (callsIn_wide.2 (hlet _)).mono ?_; rintro e w' ⟨rfl, rfl⟩)
                      | (refine ⟨trivial, ?_⟩; gi_at_call 14; refine (callsIn_wide.2 (hdig _)).mono ?_; rintro e w' ⟨rfl, rfl⟩)
                      | (refine ⟨trivial, ?_⟩; gi_at_call 21; refine (callsIn_wide.2 (hidx _)).mono ?_; rintro e w' ⟨rfl, rfl⟩))
            refine hR.mono ?_
            clear hR hy
            rintro e W3 (⟨rfl, hJ3, hk3⟩ | ⟨rfl, hJx3⟩)
            · have hB3 : Boxed W3 Bn 9 (.string s) := hk3.2 _ (hBn.alloc _)
              have hc3 := hB3.cell
              have hsk := hskip (a + 1) (by omega)
              obtain ⟨a2, ha2⟩ : ∃ a2, Hid (a + 1 + skipN false (s.data.toList.drop (a + 1)) = a2) := ⟨_, rfl⟩
              have ha2' : skp s (a + 1) = a2 := ha2.out
              have ha2l : a2 ≤ s.size := by rw [← ha2']; exact skp_le s _ (by omega)
              have ha2g : a < a2 := by have := skp_ge s (a + 1); omega
              rw [ha2.out] at hsk
              gi_wp2_with (refine ⟨trivial, ?_⟩; gi_at_call 20; refine (callsIn_wide.2 (hsk _)).mono ?_; rintro e w' ⟨rfl, rfl⟩)
              refine ⟨⟨pre ++ [tokAt s a], f, a2, rfl, ha2l, by omega, ?_, hJ3, hB3⟩, ?_⟩
              · show _ = _
                rw [hTe.out, hstep, hlen, ha2', List.append_assoc]; rfl
              · simp [intOf]; omega
            · gi_wp2
              refine bodyPost_ret (results_none rfl _ _ _) rfl ?_
              exact ⟨⟨_, rfl⟩, .inr ⟨pre ++ [tokAt s a], ⟨_, by rw [hTe.out, hstep, List.append_assoc]; rfl⟩, hJx3⟩⟩
        · rw [hd] at hdig
          have hkind : kindOf (byteAt s a) = 1 := by simp only [kindOf, ← byteAt_get s a hin, hl, hd, if_true, if_false, Bool.false_eq_true]
          have hrun := run_any s a 14 digitP hs ha enters_digit digit_any
          obtain ⟨r, hr⟩ : ∃ r, Hid (runP digitP (s.data.toList.drop a) = r) := ⟨_, rfl⟩
          rw [hr.out] at hrun
          have hlen : lenAt s a = r := by simp only [lenAt, ← byteAt_get s a hin, hl, hd, if_true, if_false, Bool.false_eq_true]; exact hr.out
          have hr1 := lenAt_pos s a hin
          have hr2 := lenAt_le s a hin
          rw [hlen] at hr1 hr2
          have htk : encT (tokAt s a) = .agg #[.int .i64 1, .string (s.extract a (a + r)), .int .i64 (a : Int)] := by simp only [encT, tokAt, hkind, hlen]
          have hJ1 : J pre (wr.alloc (.cells #[.int .i64 1, .string (s.extract a (a + r)), .int .i64 (a : Int)] 28)) := hJ _ _ _ none hJs (World.grownBy_alloc _ _ none) (fun r e => by cases e)
          obtain ⟨fn, tm, asg, bd, hy, hR⟩ := hY pre (tokAt s a) _ hJ1 (by rw [hTe.out, hstep]; simp)
          rw [htk] at hy
          gi_wp2_with (first
            | (refine ⟨trivial, ?_⟩; gi_at_call 16; refine (callsIn_wide.2 (hlet _)).mono ?_; rintro e w' ⟨rfl, rfl⟩)
                    | (refine ⟨trivial, ?_⟩; gi_at_call 14; refine (callsIn_wide.2 (hdig _)).mono ?_; rintro e w' ⟨rfl, rfl⟩)
                    | (refine ⟨trivial, ?_⟩; gi_at_call 13; refine (callsIn_wide.2 (hrun _)).mono ?_; rintro e w' ⟨rfl, rfl⟩))
          refine hR.mono ?_
          clear hR hy
          rintro e W3 (⟨rfl, hJ3, hk3⟩ | ⟨rfl, hJx3⟩)
          · have hB3 : Boxed W3 Bn 9 (.string s) := hk3.2 _ (hBn.alloc _)
            have hc3 := hB3.cell
            have hsk := hskip (a + r) (by omega)
            obtain ⟨a2, ha2⟩ : ∃ a2, Hid (a + r + skipN false (s.data.toList.drop (a + r)) = a2) := ⟨_, rfl⟩
            have ha2' : skp s (a + r) = a2 := ha2.out
            have ha2l : a2 ≤ s.size := by rw [← ha2']; exact skp_le s _ (by omega)
            have ha2g : a < a2 := by have := skp_ge s (a + r); omega
            rw [ha2.out] at hsk
            gi_wp2_with (refine ⟨trivial, ?_⟩; gi_at_call 20; refine (callsIn_wide.2 (hsk _)).mono ?_; rintro e w' ⟨rfl, rfl⟩)
            refine ⟨⟨pre ++ [tokAt s a], f, a2, rfl, ha2l, by omega, ?_, hJ3, hB3⟩, ?_⟩
            · show _ = _
              rw [hTe.out, hstep, hlen, ha2', List.append_assoc]; rfl
            · simp [intOf]; omega
          · gi_wp2
            refine bodyPost_ret (results_none rfl _ _ _) rfl ?_
            exact ⟨⟨_, rfl⟩, .inr ⟨pre ++ [tokAt s a], ⟨_, by rw [hTe.out, hstep, List.append_assoc]; rfl⟩, hJx3⟩⟩
      · rw [hl] at hlet
        have hkind : kindOf (byteAt s a) = 0 := by simp only [kindOf, ← byteAt_get s a hin, hl, if_true, if_false, Bool.false_eq_true]
        have hrun := run_any s a 17 innerP hs ha enters_inner inner_any
        obtain ⟨r, hr⟩ : ∃ r, Hid (runP innerP (s.data.toList.drop a) = r) := ⟨_, rfl⟩
        rw [hr.out] at hrun
        have hlen : lenAt s a = r := by simp only [lenAt, ← byteAt_get s a hin, hl, if_true, if_false, Bool.false_eq_true]; exact hr.out
        have hr1 := lenAt_pos s a hin
        have hr2 := lenAt_le s a hin
        rw [hlen] at hr1 hr2
        have htk : encT (tokAt s a) = .agg #[.int .i64 0, .string (s.extract a (a + r)), .int .i64 (a : Int)] := by simp only [encT, tokAt, hkind, hlen]
        have hJ1 : J pre (wr.alloc (.cells #[.int .i64 0, .string (s.extract a (a + r)), .int .i64 (a : Int)] 28)) := hJ _ _ _ none hJs (World.grownBy_alloc _ _ none) (fun r e => by cases e)
        obtain ⟨fn, tm, asg, bd, hy, hR⟩ := hY pre (tokAt s a) _ hJ1 (by rw [hTe.out, hstep]; simp)
        rw [htk] at hy
        gi_wp2_with (first
          | (refine ⟨trivial, ?_⟩; gi_at_call 16; refine (callsIn_wide.2 (hlet _)).mono ?_; rintro e w' ⟨rfl, rfl⟩)
                  | (refine ⟨trivial, ?_⟩; gi_at_call 13; refine (callsIn_wide.2 (hrun _)).mono ?_; rintro e w' ⟨rfl, rfl⟩))
        refine hR.mono ?_
        clear hR hy
        rintro e W3 (⟨rfl, hJ3, hk3⟩ | ⟨rfl, hJx3⟩)
        · have hB3 : Boxed W3 Bn 9 (.string s) := hk3.2 _ (hBn.alloc _)
          have hc3 := hB3.cell
          have hsk := hskip (a + r) (by omega)
          obtain ⟨a2, ha2⟩ : ∃ a2, Hid (a + r + skipN false (s.data.toList.drop (a + r)) = a2) := ⟨_, rfl⟩
          have ha2' : skp s (a + r) = a2 := ha2.out
          have ha2l : a2 ≤ s.size := by rw [← ha2']; exact skp_le s _ (by omega)
          have ha2g : a < a2 := by have := skp_ge s (a + r); omega
          rw [ha2.out] at hsk
          gi_wp2_with (refine ⟨trivial, ?_⟩; gi_at_call 20; refine (callsIn_wide.2 (hsk _)).mono ?_; rintro e w' ⟨rfl, rfl⟩)
          refine ⟨⟨pre ++ [tokAt s a], f, a2, rfl, ha2l, by omega, ?_, hJ3, hB3⟩, ?_⟩
          · show _ = _
            rw [hTe.out, hstep, hlen, ha2', List.append_assoc]; rfl
          · simp [intOf]; omega
        · gi_wp2
          refine bodyPost_ret (results_none rfl _ _ _) rfl ?_
          exact ⟨⟨_, rfl⟩, .inr ⟨pre ++ [tokAt s a], ⟨_, by rw [hTe.out, hstep, List.append_assoc]; rfl⟩, hJx3⟩⟩
    · have hin' : ¬ (a : Int) < (s.size : Int) := by omega
      cases f with
      | zero => omega
      | succ f =>
      have hend := tokG_end s f a hin
      obtain ⟨fn, tm, asg, bd, hy, hR⟩ := hY pre ⟨3, ByteArray.empty, s.size⟩ _ hJs (by rw [hTe.out, hend]; simp)
      have htk : encT ⟨3, ByteArray.empty, s.size⟩ = .agg #[.int .i64 3, .string { data := #[] }, .int .i64 (s.size : Int)] := rfl
      rw [htk] at hy
      gi_wp2
      refine hR.mono ?_
      rintro e W3 (⟨rfl, hJ3, hk3⟩ | ⟨rfl, hJx3⟩)
      · gi_wp2
        go_end0
        exact ⟨⟨_, rfl⟩, .inl ⟨_, by rw [hTe.out, hend], hJ3⟩⟩
      · gi_wp2
        go_end0
        exact ⟨⟨_, rfl⟩, .inr ⟨_, ⟨[], by rw [hTe.out, hend, List.append_nil]⟩, hJx3⟩⟩
theorem iter_stops (n : Nat) (hn : 1 ≤ n) (Bn : Nat) (s : ByteArray) (hs : s.size ≤ 140737488351232) (w : World) (hBn : Boxed w Bn 9 (.string s)) :
    SeqStopsK Fence.wide n Try.prog 19 #[.pointer (some ⟨Bn, 0, none⟩)] (fun x : Tok => #[encT x]) (Kp Bn) (fun ys => ys = toks s) (fun pre => pre <+: toks s) (toks s).length w := fun l J Jx W hW hJ _ hY h0 =>
  iter_in n hn l Bn s hs J Jx hY W hJ ((hW.block _ hBn.lt).trans hBn) h0
theorem Kp.trans {Bn : Nat} {A B C : World} (h : Kp Bn A B) (k : Kp Bn B C) : Kp Bn A C := ⟨Nat.le_trans h.1 k.1, fun o ho => k.2 o (h.2 o ho)⟩
end Go.Proofs.Ytgbfoklgejdegaa.Lx
