/- sha: the law ShaJoins, walked. -/
import Derived.Test.YtdfgjmmdpbgodaaDoorShaJoinR
import Derived.Test.YtdfgjmmdpbgodaaDoorShaHexF
import Derived.Test.YtdfgjmmdpbgodaaDoorShaEq
namespace Go.Proofs.YtdfgjmmdpbgodaaDoor.ShaW
open Go.ChangeShapes Go.WideShapes Go.ChangeAt Go.RowKit
open ShaP Base Piece
set_option linter.unusedVariables false
set_option linter.unusedSimpArgs false

theorem hexL_at : ∀ (m : List UInt8) (k : Nat) (h : k / 2 < m.length), (hexL m)[k]? = some (if k % 2 = 0 then hexd ((m[k / 2]'h).toNat / 16) else hexd ((m[k / 2]'h).toNat % 16))
  | c :: m, 0, h => rfl
  | c :: m, 1, h => rfl
  | c :: m, k + 2, h => by
    have e : (k + 2) / 2 = k / 2 + 1 := by omega
    have h2 : k / 2 < m.length := by simp only [e, List.length_cons] at h; omega
    have ih := hexL_at m k h2
    have e2 : (k + 2) % 2 = k % 2 := by omega
    simp only [e, e2, List.getElem_cons_succ]
    rw [← ih]
    rfl
theorem el_sum : El Tryd.prog 36 25 (.agg z32) 32 32 := ⟨by kernel_rfl, by kernel_rfl, by kernel_rfl, by omega⟩

set_option maxRecDepth 100000 in
set_option maxHeartbeats 1000000 in
theorem joins_any (w : World) (A : Option Addr) (n c : Nat) (F : List UInt8) (ht : Tabs w) (hF : F.length = n * 32) (hr : Rb w A F) (hA : A = none → c = 0) :
    Calls Tryd.prog 6 #[.slice A n c] w fun e w' => e = .returned (.bool true) ∧ Ext w w' := by
  have HA := Lib.hid hA
  clear hA
  go_enter Tryd.func6, Tryd.ntmps6
  by_cases hb : n ≤ 60
  · have hbi : ¬ (n : Int) > 60 := by omega
    have hbi' : (n : Int) ≤ 60 := by omega
    obtain ⟨S, hS⟩ : ∃ x, Held (sha F = x) := ⟨_, ⟨rfl⟩⟩
    have hSl : S.length = 32 := by rw [← hS.out]; exact sha_length _
    have hEq : ∀ w, (Op.equalIn 10000 25 (.agg (u8s S).toArray) (.agg (u8s S).toArray)).run Tryd.prog w = .ok true w := fun w => by rw [eq_sum S S hSl hSl]; simp
    go_wp2_with (
      refine wpList_app el_sum _ rfl (.tmp 11) (.tmp 12) rfl w.heap.size (.slice (some ⟨w.heap.size, 0, none⟩) 0 0) 0 [] rfl (World.ownsRow_lit w #[] 0 (Nat.le_refl _) (by unfold maxLen; omega) rfl) A n c (u8s F) rfl (Rd.ext hr ((Ext.refl w).alloc _)) (by rw [u8s_length, hF]) HA.out (u8s_one F) (by omega) (by omega) (by simp) (fun V1 w1 ho1 hg1 hv1 => ?_)
      obtain ⟨A1, c1, rfl, _, _, hr1, _⟩ := Rd.of_own ho1
      rw [Nat.zero_add] at ho1)
    have hlt1 := ho1.lt
    have hx1 : Ext w w1 := ((Ext.refl w).alloc _).then_grown hg1 (fun k hk => by injection hk with hk; exact Nat.le_of_eq hk)
    rw [List.nil_append] at hr1
    have hj := join_any w1 A1 n c1 F (ht.ext hx1) hF hr1 (fun a ha => (hlt1 a.block (by rw [ha]; rfl)).2) hb
    rw [hS.out] at hj
    clear hlt1 hr1 ho1 hg1 hv1
    refine hj.mono ?_
    rintro e w2 ⟨rfl, hx2⟩
    have href := refJoin_any w2 A n c F hF (hr.ext (hx1.trans hx2)) hb
    rw [hS.out] at href
    clear hj
    go_wp2_with fail
    refine href.mono ?_
    rintro e w3 ⟨rfl, hx3⟩
    have hq := hEq w3
    have hx := (hx1.trans hx2).trans hx3
    clear href hx1 hx2 hx3
    go_wp2_with fail
    go_loopw [3, 4, 5, 6, 18, 19, 20, 21, 22, 23, 24, 25, 26, 27, 28, 29, 30, 31, 32, 33, 34, 35, 36, 37, 38, 39, 40, 41, 42, 43, 44, 45, 46, 47, 48, 49, 50, 51, 52, 53, 54, 55, 56, 57, 58, 59, 60] (fun v3 v4 v5 v6 v18 v19 v20 v21 v22 v23 v24 v25 v26 v27 v28 v29 v30 v31 v32 v33 v34 v35 v36 v37 v38 v39 v40 v41 v42 v43 v44 v45 v46 v47 v48 v49 v50 v51 v52 v53 v54 v55 v56 v57 v58 v59 v60 wr => ∃ i : Nat, i ≤ n ∧ v3 = .int .i64 i ∧ Ext w wr) (fun v3 _ _ _ _ _ _ _ _ _ _ _ _ _ _ _ _ _ _ _ _ _ _ _ _ _ _ _ _ _ _ _ _ _ _ _ _ _ _ _ _ _ _ _ _ _ _ _ => n - (intOf v3).toNat)
    case atStart => exact ⟨0, by omega, rfl, hx⟩
    case round =>
      clear hx hq
      obtain ⟨i, hi, rfl, hx⟩ := hrel
      by_cases hin : i < n
      · have hin' : (i : Int) < (n : Int) := by omega
        obtain ⟨b, off, rfl⟩ := hr.some_ (by omega)
        have hrg := sums_range (hr.ext hx) i
        obtain ⟨C, hC⟩ : ∃ C, Held ((F.drop (i * 32)).take 32 = C) := ⟨_, ⟨rfl⟩⟩
        have hCl : C.length = 32 := by rw [← hC.out, List.length_take, List.length_drop]; omega
        rw [hC.out] at hrg
        have hrw := sums_range hr i
        rw [hC.out] at hrw
        obtain ⟨L, hL⟩ : ∃ L, Held (u8s C = L) := ⟨_, ⟨rfl⟩⟩
        have hLl : L.length = 32 := by rw [← hL.out, u8s_length, hCl]
        have hty : (Tryd.prog.info? 25).map (·.size) = some L.length := by rw [hLl]; kernel_rfl
        have hhx := hex_any C hCl wr
        rw [hL.out] at hrg hhx
        obtain ⟨X, hX⟩ : ∃ X, Held ((⟨(hexL C).toArray⟩ : ByteArray) = X) := ⟨_, ⟨rfl⟩⟩
        have hXs : X.size = 64 := by rw [← hX.out]; show (hexL C).toArray.size = 64; rw [List.size_toArray, hexL_length, hCl]
        rw [hX.out] at hhx
        go_wp2_with (refine wpList_load_mid rfl 25 (.tmp 26) rfl b (off + i * 32) rfl L (.array 32 5) hrg (by kernel_rfl) rfl hty ?_)
        refine hhx.mono ?_
        rintro e w4 ⟨rfl, hx4⟩
        clear hhx hrg
        have hxx := hx.trans hx4
        go_wp2_with fail
        have hrx := hxx
        go_loopw [5, 6, 32, 33, 34, 35, 36, 37, 38, 39, 40, 41, 42, 43, 44, 45, 46, 47, 48, 49, 50, 51, 52, 53, 54, 55, 56, 57, 58, 59, 60] (fun v5 v6 v32 v33 v34 v35 v36 v37 v38 v39 v40 v41 v42 v43 v44 v45 v46 v47 v48 v49 v50 v51 v52 v53 v54 v55 v56 v57 v58 v59 v60 wv => ∃ k : Nat, k ≤ 64 ∧ v5 = .int .i64 k ∧ Ext w wv) (fun v5 _ _ _ _ _ _ _ _ _ _ _ _ _ _ _ _ _ _ _ _ _ _ _ _ _ _ _ _ _ _ _ => 64 - (intOf v5).toNat)
        case atStart => exact ⟨0, by omega, rfl, hxx⟩
        case round =>
          clear hx hx4 hxx hrx
          obtain ⟨k, hk, rfl, hx⟩ := hrel
          by_cases hk64 : k < 64
          · have hk64' : (k : Int) < 64 := by omega
            obtain ⟨q, hq⟩ : ∃ q : Nat, Held (k / 2 = q) := ⟨_, ⟨rfl⟩⟩
            have hq' : (k : Int) / 2 = (q : Int) := by have := hq.out; omega
            have hq32 : q < 32 := by have := hq.out; omega
            have hq32' : (q : Int) < 32 := by omega
            obtain ⟨x, hxd⟩ : ∃ x, Held (C[q]'(by omega) = x) := ⟨_, ⟨rfl⟩⟩
            have hxl := x.toNat_lt
            have hcell : ∀ W, Ext w W → W.cell? ⟨b, off + i * 32 + q, none⟩ = some (.int .u8 (x.toNat : Int)) := fun W hW => hW.cell (hrw q _ (by rw [← hxd.out]; simp [u8s, hCl, hq32]))
            have hcr := hcell _ hx
            have hXk : (hexL C)[k]? = some (if k % 2 = 0 then hexd (x.toNat / 16) else hexd (x.toNat % 16)) := by
              rw [hexL_at C k (by rw [hq.out]; omega)]
              simp only [hq.out, hxd.out]
            have hXg : ∀ h : k < X.size, X[k]'h = if k % 2 = 0 then hexd (x.toNat / 16) else hexd (x.toNat % 16) := fun h => by
              have h2 := hXk
              have hX' := hX.out
              subst hX'
              rw [List.getElem?_eq_some_iff] at h2
              obtain ⟨_, h2⟩ := h2
              rw [← h2]
              rfl
            by_cases hk2 : k % 2 = 0
            · have hkb : ((k : Int) % 2 == 1) = false := by simp; omega
              rw [if_pos hk2] at hXg
              clear hXk
              obtain ⟨d, hd⟩ : ∃ d : Nat, Held ((x.toNat / 16) = d) := ⟨_, ⟨rfl⟩⟩
              have hd1 : (x.toNat : Int) / 16 = (d : Int) := by have := hd.out; omega
              have hd16 : (d : Int) < 16 := by have := hd.out; omega
              have hg : ∀ h : d < 16, (⟨#[48, 49, 50, 51, 52, 53, 54, 55, 56, 57, 97, 98, 99, 100, 101, 102]⟩ : ByteArray)[d]'h = hexd d := fun h => hexd_get _ h
              obtain ⟨y, hy⟩ : ∃ y, Held (hexd d = y) := ⟨_, ⟨rfl⟩⟩
              rw [hy.out] at hg
              rw [hd.out, hy.out] at hXg
              go_wp2_with fail
              refine Reg.startE (by kernel_rfl) ?_
              refine Reg.takeE 0 _ _ rfl (by kernel_rfl) (by kernel_rfl) (by kernel_rfl) (by decide) (fun _ _ _ h => by first | exact h | exact hP _ _ _ _ h) (by rfl) (fun W hW => by go_simp; with_reducible rfl) ?_; (try simp only [Act.put, Act.eval, List.getElem?_toArray, List.getElem_toArray, List.getElem?_cons_zero, List.getElem?_cons_succ, List.getElem_cons_zero, List.getElem_cons_succ, Option.getD_some, List.setIfInBounds_toArray, List.set_cons_zero, List.set_cons_succ])
              refine Reg.takeE 1 _ _ rfl (by kernel_rfl) (by kernel_rfl) (by kernel_rfl) (by decide) (fun _ _ _ h => by first | exact h | exact hP _ _ _ _ h) (by rfl) (fun W hW => by go_simp; with_reducible rfl) ?_; (try simp only [Act.put, Act.eval, List.getElem?_toArray, List.getElem_toArray, List.getElem?_cons_zero, List.getElem?_cons_succ, List.getElem_cons_zero, List.getElem_cons_succ, Option.getD_some, List.setIfInBounds_toArray, List.set_cons_zero, List.set_cons_succ])
              refine Reg.takeE 2 _ _ rfl (by kernel_rfl) (by kernel_rfl) (by kernel_rfl) (by decide) (fun _ _ _ h => by first | exact h | exact hP _ _ _ _ h) (by rfl) (fun W hW => by go_simp; with_reducible rfl) ?_; (try simp only [Act.put, Act.eval, List.getElem?_toArray, List.getElem_toArray, List.getElem?_cons_zero, List.getElem?_cons_succ, List.getElem_cons_zero, List.getElem_cons_succ, Option.getD_some, List.setIfInBounds_toArray, List.set_cons_zero, List.set_cons_succ])
              refine Reg.takeE 3 _ _ rfl (by kernel_rfl) (by kernel_rfl) (by kernel_rfl) (by decide) (fun _ _ _ h => by first | exact h | exact hP _ _ _ _ h) (by rfl) (fun W hW => by go_simp; with_reducible rfl) ?_; (try simp only [Act.put, Act.eval, List.getElem?_toArray, List.getElem_toArray, List.getElem?_cons_zero, List.getElem?_cons_succ, List.getElem_cons_zero, List.getElem_cons_succ, Option.getD_some, List.setIfInBounds_toArray, List.set_cons_zero, List.set_cons_succ])
              refine Reg.takeE 4 _ _ rfl (by kernel_rfl) (by kernel_rfl) (by kernel_rfl) (by decide) (fun _ _ _ h => by first | exact h | exact hP _ _ _ _ h) (by rfl) (fun W hW => by go_simp; with_reducible rfl) ?_; (try simp only [Act.put, Act.eval, List.getElem?_toArray, List.getElem_toArray, List.getElem?_cons_zero, List.getElem?_cons_succ, List.getElem_cons_zero, List.getElem_cons_succ, Option.getD_some, List.setIfInBounds_toArray, List.set_cons_zero, List.set_cons_succ])
              refine Reg.takeE 5 _ _ rfl (by kernel_rfl) (by kernel_rfl) (by kernel_rfl) (by decide) (fun _ _ _ h => by first | exact h | exact hP _ _ _ _ h) (by rfl) (fun W hW => by go_simp; with_reducible rfl) ?_; (try simp only [Act.put, Act.eval, List.getElem?_toArray, List.getElem_toArray, List.getElem?_cons_zero, List.getElem?_cons_succ, List.getElem_cons_zero, List.getElem_cons_succ, Option.getD_some, List.setIfInBounds_toArray, List.set_cons_zero, List.set_cons_succ])
              refine Reg.fin (by kernel_rfl) (fun W hW => ?_)
              go_wp2_with fail
              have hW0 : Ext wr W := hW
              exact ⟨⟨k + 1, by omega, by go_num, hx.trans hW0⟩, by simp [intOf]; omega⟩
            · have hkb : ((k : Int) % 2 == 1) = true := by simp; omega
              rw [if_neg hk2] at hXg
              clear hXk
              obtain ⟨d, hd⟩ : ∃ d : Nat, Held ((x.toNat % 16) = d) := ⟨_, ⟨rfl⟩⟩
              have hd1 : (x.toNat : Int) % 16 = (d : Int) := by have := hd.out; omega
              have hd16 : (d : Int) < 16 := by have := hd.out; omega
              have hg : ∀ h : d < 16, (⟨#[48, 49, 50, 51, 52, 53, 54, 55, 56, 57, 97, 98, 99, 100, 101, 102]⟩ : ByteArray)[d]'h = hexd d := fun h => hexd_get _ h
              obtain ⟨y, hy⟩ : ∃ y, Held (hexd d = y) := ⟨_, ⟨rfl⟩⟩
              rw [hy.out] at hg
              rw [hd.out, hy.out] at hXg
              go_wp2_with fail
              refine Reg.startE (by kernel_rfl) ?_
              refine Reg.takeE 0 _ _ rfl (by kernel_rfl) (by kernel_rfl) (by kernel_rfl) (by decide) (fun _ _ _ h => by first | exact h | exact hP _ _ _ _ h) (by rfl) (fun W hW => by go_simp; with_reducible rfl) ?_; (try simp only [Act.put, Act.eval, List.getElem?_toArray, List.getElem_toArray, List.getElem?_cons_zero, List.getElem?_cons_succ, List.getElem_cons_zero, List.getElem_cons_succ, Option.getD_some, List.setIfInBounds_toArray, List.set_cons_zero, List.set_cons_succ])
              refine Reg.takeE 1 _ _ rfl (by kernel_rfl) (by kernel_rfl) (by kernel_rfl) (by decide) (fun _ _ _ h => by first | exact h | exact hP _ _ _ _ h) (by rfl) (fun W hW => by go_simp; with_reducible rfl) ?_; (try simp only [Act.put, Act.eval, List.getElem?_toArray, List.getElem_toArray, List.getElem?_cons_zero, List.getElem?_cons_succ, List.getElem_cons_zero, List.getElem_cons_succ, Option.getD_some, List.setIfInBounds_toArray, List.set_cons_zero, List.set_cons_succ])
              refine Reg.takeE 2 _ _ rfl (by kernel_rfl) (by kernel_rfl) (by kernel_rfl) (by decide) (fun _ _ _ h => by first | exact h | exact hP _ _ _ _ h) (by rfl) (fun W hW => by go_simp; with_reducible rfl) ?_; (try simp only [Act.put, Act.eval, List.getElem?_toArray, List.getElem_toArray, List.getElem?_cons_zero, List.getElem?_cons_succ, List.getElem_cons_zero, List.getElem_cons_succ, Option.getD_some, List.setIfInBounds_toArray, List.set_cons_zero, List.set_cons_succ])
              refine Reg.takeE 3 _ _ rfl (by kernel_rfl) (by kernel_rfl) (by kernel_rfl) (by decide) (fun _ _ _ h => by first | exact h | exact hP _ _ _ _ h) (by rfl) (fun W hW => by go_simp; with_reducible rfl) ?_; (try simp only [Act.put, Act.eval, List.getElem?_toArray, List.getElem_toArray, List.getElem?_cons_zero, List.getElem?_cons_succ, List.getElem_cons_zero, List.getElem_cons_succ, Option.getD_some, List.setIfInBounds_toArray, List.set_cons_zero, List.set_cons_succ])
              refine Reg.takeE 4 _ _ rfl (by kernel_rfl) (by kernel_rfl) (by kernel_rfl) (by decide) (fun _ _ _ h => by first | exact h | exact hP _ _ _ _ h) (by rfl) (fun W hW => by go_simp; with_reducible rfl) ?_; (try simp only [Act.put, Act.eval, List.getElem?_toArray, List.getElem_toArray, List.getElem?_cons_zero, List.getElem?_cons_succ, List.getElem_cons_zero, List.getElem_cons_succ, Option.getD_some, List.setIfInBounds_toArray, List.set_cons_zero, List.set_cons_succ])
              refine Reg.takeE 5 _ _ rfl (by kernel_rfl) (by kernel_rfl) (by kernel_rfl) (by decide) (fun _ _ _ h => by first | exact h | exact hP _ _ _ _ h) (by rfl) (fun W hW => by go_simp; with_reducible rfl) ?_; (try simp only [Act.put, Act.eval, List.getElem?_toArray, List.getElem_toArray, List.getElem?_cons_zero, List.getElem?_cons_succ, List.getElem_cons_zero, List.getElem_cons_succ, Option.getD_some, List.setIfInBounds_toArray, List.set_cons_zero, List.set_cons_succ])
              refine Reg.fin (by kernel_rfl) (fun W hW => ?_)
              go_wp2_with fail
              have hW0 : Ext wr W := hW
              exact ⟨⟨k + 1, by omega, by go_num, hx.trans hW0⟩, by simp [intOf]; omega⟩
          · obtain rfl : k = 64 := by omega
            go_wp2_with fail
            refine ⟨⟨i + 1, by omega, by go_num, hx⟩, by simp [intOf]; omega⟩
      · obtain rfl : i = n := by omega
        go_wp2_with fail
        refine (lives_any wr (ht.ext hx)).mono ?_
        rintro e w4 ⟨rfl, hx4⟩
        go_wp2_with fail
        go_ret
        exact ⟨rfl, hx.trans hx4⟩
  · have hbi : (n : Int) > 60 := by omega
    go_wp2_with fail
    refine (lives_any w ht).mono ?_
    rintro e w1 ⟨rfl, hx⟩
    go_wp2_with fail
    go_ret
    exact ⟨rfl, hx⟩
end Go.Proofs.YtdfgjmmdpbgodaaDoor.ShaW
