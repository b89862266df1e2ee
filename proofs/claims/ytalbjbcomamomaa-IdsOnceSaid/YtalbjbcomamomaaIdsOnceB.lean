/- ids: the law IdsOnce's walk in pieces: all bounds compared; the texts told. -/
import Derived.Test.YtalbjbcomamomaaIdsOnceA
namespace Go.Proofs.Ytalbjbcomamomaa.IdsW
open Go.ChangeShapes Go.WideShapes Go.ChangeAt Go.RowKit
open Base Mp Piece
set_option linter.unusedVariables false
set_option linter.unusedSimpArgs false

set_option maxRecDepth 1000000 in
set_option maxHeartbeats 4000000 in
/-- all bounds -/
theorem onceK {Q : Exit → Act → World → Prop} (v0 v1 v2 v3 v4 v5 v6 v7 v8 v9 v10 v11 v12 v15 : Value) (a : Act) (wa : World) (A : Option Addr) (c : Nat) (ts : List ByteArray) (bs : List (Nat × Nat))
    (hr : Rd wa A (bnds bs)) (hl : bs.length ≤ 1000) (hi : Inv ts bs)
    (hF : Fr 154 [v0, v1, v2, v3, v4, v5, v6, v7, v8, v9, v10, v11, v12, .slice A bs.length c, .int .i64 0, v15] a)
    (hP : ∀ c a a2 w, Q (.panic c) a w → Q (.panic c) a2 w)
    (hQ : ∀ a' w' x14 x15, Fr 154 [v0, v1, v2, v3, v4, v5, v6, v7, v8, v9, v10, v11, v12, .slice A bs.length c, x14, x15] a' → Ext wa w' → Q (.exit 4) a' w') :
    (Code.loop (onceBody 4)).wp Try.prog Q a wa := by
  refine wp_loop (fun a wv => ∃ (k : Nat) (x15 : Value), k ≤ bs.length ∧ Fr 154 [v0, v1, v2, v3, v4, v5, v6, v7, v8, v9, v10, v11, v12, .slice A bs.length c, .int .i64 k, x15] a ∧ Ext wa wv) (fun a _ => (bs.length - intO (a.tmps.getD 14 undef)).toNat) ⟨0, v15, Nat.zero_le _, hF, Ext.refl _⟩ ?_
  clear hF a
  rintro a wr ⟨k, x15, hk, hF, hx⟩
  obtain ⟨u, rfl⟩ := lay154 hF
  clear hF
  conv => arg 2; whnf
  by_cases hlt : k < bs.length
  · clear hQ
    have hkn : (k : Int) < (bs.length : Int) := by omega
    go_wp2_with fail
    refine onceJ (hr := hr.ext hx) (hk := hlt) (hl := hl) (hi := hi) (hF := ⟨_, rfl, rfl⟩) (hP := ?_) (hQ := ?_)
    · intro c a a2 w h
      first | exact h | exact hP _ _ _ _ h
    intro a' w' y15 hF' hx'
    obtain ⟨u', rfl⟩ := lay154 hF'
    clear hF'
    go_wp2_with fail
    refine ⟨⟨k + 1, _, by omega, ⟨_, rfl, by go_num⟩, hx.trans hx'⟩, ?_⟩
    simp [intO]
    omega
  · obtain rfl : k = bs.length := by omega
    clear hlt
    go_wp2_with fail
    exact hQ _ _ _ _ ⟨_, rfl, rfl⟩ hx

set_option maxRecDepth 1000000 in
set_option maxHeartbeats 8000000 in
/-- the texts told, and kept -/
theorem onceT {Q : Exit → Act → World → Prop} (v0 v1 v2 v3 v4 v7 v9 v10 v11 v12 v13 v14 v15 : Value) (a : Act) (w0 wa : World) (g lim m n0 : Nat) (ts : List ByteArray) (bs : List (Nat × Nat)) (vt vb vw : Value)
    (hT : Tb w0.heap.size wa g lim ts bs vt vb m) (hnd : ts.Nodup) (hn0 : n0 ≤ ts.length) (hl : ts.length ≤ 1000) (hw : wa.ownsRow w0.heap.size 9 1 vw n0 (txs (ts.take n0))) (hsep : ∀ k, vw.ownBlock = some k → ¬ vt.ownBlock = some k) (hx0 : Ext w0 wa)
    (hF : Fr 154 [v0, v1, v2, v3, v4, .pointer (some ⟨g, 0, none⟩), vw, v7, .int .i64 0, v9, v10, v11, v12, v13, v14, v15] a)
    (hQ : ∀ a' w' vw' x9 x10 x11 x12, Fr 154 [v0, v1, v2, v3, v4, .pointer (some ⟨g, 0, none⟩), vw', v7, .int .i64 ts.length, x9, x10, x11, x12, v13, v14, v15] a' → Tb w0.heap.size w' g lim ts bs vt vb m → w'.ownsRow w0.heap.size 9 1 vw' ts.length (txs ts) → (∀ k, vw'.ownBlock = some k → ¬ vt.ownBlock = some k) → Ext w0 w' → Q (.exit 2) a' w') :
    (Code.loop (onceBody 2)).wp Try.prog Q a wa := by
  obtain ⟨n, hn⟩ : ∃ n, Hid (ts.length = n) := ⟨_, rfl⟩
  rw [hn.out] at hn0 hl hQ
  refine wp_loop (fun a wv => ∃ (k p : Nat) (vw x9 x10 x11 x12 : Value), k ≤ n ∧ p ≤ n ∧ k ≤ p ∧ (k < p ∨ p = k) ∧ Fr 154 [v0, v1, v2, v3, v4, .pointer (some ⟨g, 0, none⟩), vw, v7, .int .i64 k, x9, x10, x11, x12, v13, v14, v15] a ∧ Tb w0.heap.size wv g lim ts bs vt vb m ∧ wv.ownsRow w0.heap.size 9 1 vw p (txs (ts.take p)) ∧ (∀ k, vw.ownBlock = some k → ¬ vt.ownBlock = some k) ∧ Ext w0 wv) (fun a _ => (n - intO (a.tmps.getD 8 undef)).toNat) ⟨0, n0, vw, v9, v10, v11, v12, Nat.zero_le _, hn0, Nat.zero_le _, by omega, hF, hT, hw, hsep, hx0⟩ ?_
  clear hF hT hw hsep hx0 a wa n0 hn0 vw
  rintro a wr ⟨k, p, vw, x9, x10, x11, x12, hk, hpn, hkp, hkp2, hF, hT, hw, hsep, hx⟩
  obtain ⟨u, rfl⟩ := lay154 hF
  clear hF
  conv => arg 2; whnf
  obtain ⟨A, c, rfl, hpc, hcm, hr, hrl⟩ := Rd.of_own hw
  by_cases hlt : k < n
  · clear hQ
    obtain ⟨s, hse⟩ : ∃ s, ts[k]? = some s := ⟨_, List.getElem?_eq_getElem (by have := hn.out; omega)⟩
    obtain ⟨ht1, ht2⟩ := textOf_in hse
    have hss : s.size ≤ maxLen := hT.small s (List.mem_of_getElem? hse)
    have hio := idOf_at hnd hse
    have hTx := Text_any (k + 1) wr hT (by have := hn.out; omega) (by omega)
    have hOf := Of_any s wr hT hss
    rw [ht1, ht2, show ((k + 1 : Nat) : Int) = (k : Int) + 1 by omega] at hTx
    rw [hio] at hOf
    simp only [Option.getD_some, Option.isSome_some] at hOf
    rw [show ((k + 1 : Nat) : Int) = (k : Int) + 1 by omega] at hOf
    have hLn := Len_any wr hT
    rw [hn.out] at hLn
    have hkn : (k : Int) < (n : Int) := by omega
    have hcw : IntKind.i64.wrap ((k : Int) + 1) = (k : Int) + 1 := by rw [IntKind.wrap_i64]; omega
    have hcu : IntKind.u64.wrap ((k : Int) + 1) = (k : Int) + 1 := by rw [IntKind.wrap_u64]; omega
    clear ht1 ht2 hio
    go_wp2_with fail
    refine hLn.mono ?_
    rintro e w1 ⟨rfl, rfl⟩
    go_wp2_with fail
    refine hTx.mono ?_
    rintro e w1 ⟨rfl, rfl⟩
    go_wp2_with fail
    refine hOf.mono ?_
    rintro e w1 ⟨rfl, rfl⟩
    rcases hkp2 with hkp3 | rfl
    · have hkpi : (k : Int) < (p : Int) := by omega
      have hne : ((k : Int) == (p : Int)) = false := by simp; omega
      have hcell : ∃ b off, A = some ⟨b, off, none⟩ ∧ wr.cell? ⟨b, off + k, none⟩ = some (.string s) := by
        obtain ⟨b, off, e, _, hc⟩ := hr.at_ (k := k) (by rw [txs_length, List.length_take]; have := hn.out; omega)
        exact ⟨b, off, e, hc k _ (by simp [txs, List.getElem?_take, hkp3, hse])⟩
      obtain ⟨b, off, rfl, hcs⟩ := hcell
      go_wp2_with fail
      refine ⟨⟨k + 1, p, _, _, _, _, _, by omega, by omega, by omega, by omega, ⟨_, rfl, by go_num⟩, hT, hw, hsep, hx⟩, ?_⟩
      simp [intO]
      omega
    · have hsz := hx.size
      have hTa := hT.ext ((Ext.refl wr).alloc (.cells #[.string s] 9))
      go_wp2_with (
        refine wpList_app el_str _ rfl (.tmp 107) (.tmp 109) rfl w0.heap.size (.slice A p c) p (txs (ts.take p)) rfl (own_ext hw ((Ext.refl wr).alloc _)) (some ⟨wr.heap.size, 0, none⟩) 1 1 (txs [s]) rfl (Rd.of_block wr 9 (0, 0) rfl) rfl (fun h => by cases h) (txs_one [s]) (by omega) (by omega) (by simp; omega) (fun V1 w1 ho1 hg1 hv1 => ?_))
      have hT1 := hTa.other (own_ext hw ((Ext.refl wr).alloc _)) hsep (Chg.ofGrown hg1)
      have hwl := hw.lt
      rw [show txs (ts.take p) ++ txs [s] = txs (ts.take (p + 1)) by rw [List.take_add_one, hse]; simp [txs]] at ho1
      have hx1 : Ext w0 w1 := (hx.alloc _).then_grown hg1 (fun k hk => (hwl k hk).1)
      have hsep1 : ∀ k, V1.ownBlock = some k → ¬ vt.ownBlock = some k := fun k hk e => by
        rcases hv1 with e1 | e1
        · exact hsep k (by rw [← e1]; exact hk) e
        · have h3 := (hT.texts.lt k e).2
          rw [e1] at hk
          injection hk with hk
          simp at hk
          omega
      refine ⟨⟨p + 1, p + 1, V1, _, _, _, _, by omega, by omega, by omega, by omega, ⟨_, rfl, by go_num⟩, hT1, ho1, hsep1, hx1⟩, ?_⟩
      simp [intO]
      omega
  · obtain rfl : k = n := by omega
    obtain rfl : p = k := by omega
    clear hlt
    have hLn := Len_any wr hT
    rw [hn.out] at hLn
    go_wp2_with fail
    refine hLn.mono ?_
    rintro e w1 ⟨rfl, rfl⟩
    rw [← hn.out, List.take_length, hn.out] at hw
    go_wp2_with fail
    exact hQ _ _ _ _ _ _ _ ⟨_, rfl, rfl⟩ hT hw hsep hx
end Go.Proofs.Ytalbjbcomamomaa.IdsW
