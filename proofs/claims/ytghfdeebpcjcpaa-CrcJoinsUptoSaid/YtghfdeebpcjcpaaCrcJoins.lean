import Derived.Test.YtghfdeebpcjcpaaCrcSums
import Derived.BigQuiet
import Derived.Deep.RegionWith
namespace Go.Proofs.Ytghfdeebpcjcpaa.CrcW
open Go.ChangeShapes Go.WideShapes Go.ChangeAt Go.RowKit
open CrcP Base
set_option linter.unusedVariables false

theorem bv_ge (b : BitVec 32) : 0 ≤ (b.toNat : Int) := by omega
theorem bv_le (b : BitVec 32) : (b.toNat : Int) ≤ 4294967295 := by have := b.isLt; omega

theorem xor_W32 {s t : Int} (h0 : 0 ≤ s) (h1 : s ≤ 4294967295) (h2 : 0 ≤ t) (h3 : t ≤ 4294967295) : bits BinOp.xor IntKind.u32 s t = ((W32 s ^^^ W32 t).toNat : Int) := by
  have := xor_u32 (W32 s) (W32 t)
  rwa [toNat_W32 h0 h1, toNat_W32 h2 h3] at this

/-- what make lays for n bytes -/
def zeros (n : Nat) : Array Value := madeCells #[.int .u8 0] n
theorem zeros_eq (n : Nat) : (zeros n).toList = u8s (List.replicate n 0) := by
  rw [zeros, toList_madeCells_one, u8s, List.map_replicate]; rfl

set_option maxHeartbeats 2000000 in
theorem crcJoins_any (s t : Int) (h0 : 0 ≤ s) (h1 : s ≤ 4294967295) (h2 : 0 ≤ t) (h3 : t ≤ 4294967295) (A B : Option Addr) (n c m d : Nat) (l k : List UInt8) (w : World) (hn : l.length = n) (hm : k.length = m) (hbd : n + m ≤ 140737488355328)
    (hA : A = none → c = 0) (hr : Rb w A l) (hB : B = none → d = 0) (hk : Rb w B k) :
    Calls Try.prog 4 #[.agg #[.int .u32 s, .int .u32 t], .slice A n c, .slice B m d] w fun e w' => e = .returned (.bool true) ∧ Ext w w' := by
  have Hn := Lib.hid hn
  clear hn
  have Hm := Lib.hid hm
  clear hm
  have HA := Lib.hid hA
  clear hA
  have HB := Lib.hid hB
  clear hB
  have hn1 : n ≤ 140737488355328 := by omega
  have hm1 : m ≤ 140737488355328 := by omega
  have hml : n ≤ maxLen := by unfold maxLen; omega
  have hmm : m ≤ maxLen := by unfold maxLen; omega
  obtain ⟨X, HX⟩ : ∃ X, Hid (CrcP.bytes (W32 s) l = X) := ⟨_, rfl⟩
  obtain ⟨Y, HY⟩ : ∃ Y, Hid (CrcP.bytes X k = Y) := ⟨_, rfl⟩
  have HXY : Hid (CrcP.bytes (W32 s) (l ++ k) = Y) := by show _ = _; rw [bytes_append, HX.out, HY.out]
  obtain ⟨V, HV, HV2⟩ : ∃ V : BitVec 32, bits BinOp.xor IntKind.u32 s t = (V.toNat : Int) ∧ Hid (V = W32 s ^^^ W32 t) := ⟨_, xor_W32 h0 h1 h2 h3, rfl⟩
  obtain ⟨R1, HR1⟩ : ∃ R, Hid (CrcP.bytes V l = R) := ⟨_, rfl⟩
  obtain ⟨R2, HR2⟩ : ∃ R, Hid (CrcP.bytes (W32 s) (List.replicate n 0) = R) := ⟨_, rfl⟩
  obtain ⟨R3, HR3⟩ : ∃ R, Hid (CrcP.bytes (W32 t) l = R) := ⟨_, rfl⟩
  have HR : bits BinOp.xor IntKind.u32 (R2.toNat : Int) (R3.toNat : Int) = (R1.toNat : Int) := by
    rw [xor_u32, ← HR1.out, ← HR2.out, ← HR3.out, HV2.out, bytes_xor, Hn.out]
  obtain ⟨i8, hi8, hz8, hs8, hb8⟩ := info_parts el_u8.info
  have hmk : ∀ W : World, (Instr.makeSlice 23 (.int .i64 (n : Int)) (.int .i64 (n : Int))).run Try.prog W = .ok (.slice (some ⟨W.heap.size, 0, none⟩) n n) (W.alloc (.cells (zeros n) 5)) := fun W => by
    have := run_make (P := Try.prog) W 23 5 i8 (.int .u8 0) el_u8.under hi8 hz8 .i64 .i64 (n : Int) (n : Int) (by omega) (by omega) (by rw [hb8]; omega) (by omega)
    rw [hs8] at this
    simpa [zeros, Value.cells] using this
  clear hi8 hz8 hs8 hb8
  have hx0 : Ext w (w.alloc (.cells #[.int .u32 s, .int .u32 t] 29)) := (Ext.refl w).alloc _
  go_enter Try.func4, Try.ntmps4
  go_wp2_with fail
  go_quiet (fail)
  go_wp2_with fail
  have hxq : Ext w ((w.alloc (.cells #[.int .u32 s, .int .u32 t] 29)).drewN nq) := hx0.drewN nq
  refine (own_rd _ _ _ l _ Hn.out hn1 HA.out (hr.ext hxq)).mono ?_
  rintro e w1 ⟨A1, c1, rfl, ho1, hr1, hx1⟩
  go_wp2_with fail
  refine (go_any _ h0 h1 _ _ _ l _ Hn.out hml hr1).mono ?_
  rintro e w2 ⟨rfl, hx2⟩
  rw [HX.out]
  go_wp2_with fail
  refine (own_rd _ _ _ k _ Hm.out hm1 HB.out (hk.ext (by repeat (first | assumption | exact Ext.refl _ | refine Ext.trans (by assumption) ?_ | apply Ext.drew | apply Ext.drewN | apply Ext.alloc)))).mono ?_
  rintro e w3 ⟨A3, c3, rfl, ho3, hr3, hx3⟩
  go_wp2_with fail
  refine (go_any _ (bv_ge _) (bv_le _) _ _ _ k _ Hm.out hmm hr3).mono ?_
  rintro e w4 ⟨rfl, hx4⟩
  rw [W32_toNat, HY.out]
  go_wp2_with fail
  refine (own_rd _ _ _ l _ Hn.out hn1 HA.out (hr.ext (by repeat (first | assumption | exact Ext.refl _ | refine Ext.trans (by assumption) ?_ | apply Ext.drew | apply Ext.drewN | apply Ext.alloc)))).mono ?_
  rintro e w5 ⟨A5, c5, rfl, ho5, hr5, hx5⟩
  go_wp2_with (at_builtin
               refine wpList_app el_u8 _ rfl (.tmp 22) (.tmp 23) rfl w4.heap.size (.slice A5 n c5) n (u8s l) rfl ho5 B m d (u8s k) rfl (Rd.ext hk (by repeat (first | assumption | exact Ext.refl _ | refine Ext.trans (by assumption) ?_ | apply Ext.drew | apply Ext.drewN | apply Ext.alloc))) (by rw [u8s_length, Hm.out, Nat.mul_one]) HB.out (u8s_one k) (by omega) (by omega) hx5.size ?_
               intro v6 w6 hown6 hg6 hat6)
  obtain ⟨A6, c6, rfl, _, _, hr6, _⟩ := Rd.of_own hown6
  rw [← u8s_append] at hr6
  have hx6 : Ext w4 w6 := hx5.then_grown hg6 (fun k hk => (ho5.lt k hk).1)
  clear hx5 hat6 hg6
  have hnm : n + m ≤ maxLen := by unfold maxLen; omega
  refine (go_any _ h0 h1 _ _ _ (l ++ k) _ (by rw [List.length_append, Hn.out, Hm.out]) hnm hr6).mono ?_
  rintro e w7 ⟨rfl, hx7⟩
  rw [HXY.out]
  go_wp2_with fail
  have hx8 : Ext w w7 := (by repeat (first | assumption | exact Ext.refl _ | refine Ext.trans (by assumption) ?_ | apply Ext.drew | apply Ext.drewN | apply Ext.alloc))
  clear hx7 hx6 hx4 hx3 hx2 hx1 hxq hx0 ho1 ho3 ho5 hown6 hr1 hr3 hr5 hr6
  go_region_with (first
    | (go_at_call 7; refine (own_rd _ _ _ l _ Hn.out hn1 HA.out (hr.ext (by repeat (first | assumption | exact Ext.refl _ | refine Ext.trans (by assumption) ?_ | apply Ext.drew | apply Ext.drewN | apply Ext.alloc)))).mono ?_; rintro e wo ⟨Ao, co, rfl, hoo, hro, hxo⟩; (try replace hxo := Ext.undrew hxo); (try replace hxo := Ext.undrewN hxo); (try have hxos := Ext.unalloc hxo))
    | (go_at_call_of 6 V; refine (go_any _ (bv_ge _) (bv_le _) _ _ _ l _ Hn.out hml (Rb.ext (by assumption) (by repeat (first | assumption | exact Ext.refl _ | refine Ext.trans (by assumption) ?_ | apply Ext.drew | apply Ext.drewN | apply Ext.alloc)))).mono ?_; rintro e wg ⟨rfl, hxg⟩; (try replace hxg := Ext.undrew hxg); (try replace hxg := Ext.undrewN hxg); (try have hxgs := Ext.unalloc hxg); rw [W32_toNat, HR1.out])
    | (go_at_call_of 6 s; refine (go_any _ h0 h1 _ _ _ (List.replicate n 0) _ List.length_replicate hml (Rb.ext (Rd.of_block _ _ _ (zeros_eq n)) (by repeat (first | assumption | exact Ext.refl _ | refine Ext.trans (by assumption) ?_ | apply Ext.drew | apply Ext.drewN | apply Ext.alloc)))).mono ?_; rintro e wg ⟨rfl, hxg⟩; (try replace hxg := Ext.undrew hxg); (try replace hxg := Ext.undrewN hxg); (try have hxgs := Ext.unalloc hxg); rw [HR2.out])
    | (go_at_call_of 6 t; refine (go_any _ h2 h3 _ _ _ l _ Hn.out hml (Rb.ext (by assumption) (by repeat (first | assumption | exact Ext.refl _ | refine Ext.trans (by assumption) ?_ | apply Ext.drew | apply Ext.drewN | apply Ext.alloc)))).mono ?_; rintro e wg ⟨rfl, hxg⟩; (try replace hxg := Ext.undrew hxg); (try replace hxg := Ext.undrewN hxg); (try have hxgs := Ext.unalloc hxg); rw [HR3.out])
    | (go_at_call 11; refine (lives_any _).mono ?_; rintro e wl ⟨rfl, hxl⟩; (try replace hxl := Ext.undrew hxl); (try replace hxl := Ext.undrewN hxl); (try have hxls := Ext.unalloc hxl)))
  all_goals go_wp2_with fail
  all_goals go_ret
  all_goals exact ⟨rfl, (by repeat (first | assumption | exact Ext.refl _ | refine Ext.trans (by assumption) ?_ | apply Ext.drew | apply Ext.drewN | apply Ext.alloc))⟩
end Go.Proofs.Ytghfdeebpcjcpaa.CrcW
