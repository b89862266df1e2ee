/- suffragan/suffraganlaw07.ParseBack: the given statement, out of the contract of its walk. No condition. -/
import Derived.Test.YtejcacbbhijdcaaDoorPaR
namespace Go.Proofs.YtejcacbbhijdcaaDoor.Pr
open Go.ChangeShapes Go.WideShapes Go.ChangeAt Go.RowKit
open Base Lx Mi
set_option linter.unusedVariables false
set_option linter.unusedSimpArgs false

theorem showP_len {ns : List Ne} {t : List UInt8} (h : showP ns = some t) : showLen ns = t.length := by
  unfold showP at h
  simp only at h
  split at h
  · cases h
  · split at h
    · cases h
    · injection h with h; rw [← h]; rfl
theorem parse_small {s : ByteArray} (h : (parseP s).2.2 = 0) : s.size ≤ 4096 := by
  rcases parse_cases s with ⟨_, h1⟩ | ⟨hw, n, s', ht, hk, hp⟩
  · exact absurd h h1
  · unfold words at hw
    split at hw
    · cases hw
    · omega
theorem back_plain (s : ByteArray) (h : (parseP s).2.2 = 0) : ∃ t : List UInt8, showP ((parseP s).1.map Nd.toE) = some t ∧ t.length ≤ s.size ∧ s.size ≤ 4096 ∧ parseP ⟨t.toArray⟩ = parseP s ∧ showLen ((parseP s).1.map Nd.toE) ≤ 100000000 := by
  obtain ⟨t, h1, h2, h3⟩ := show_back s h
  have h4 := parse_small h
  exact ⟨t, h1, h2, h4, h3, by rw [showP_len h1]; omega⟩
theorem parse_len6 (s : ByteArray) : ((parseP s).1.map Nd.toE).length ≤ 1000000 ∧ ∀ d ∈ (parseP s).1.map Nd.toE, Len6 d := by
  obtain ⟨h1, h2⟩ := parse_lens s
  refine ⟨by rw [List.length_map]; omega, fun d hd => ?_⟩
  obtain ⟨d0, hd0, rfl⟩ := List.mem_map.1 hd
  obtain ⟨q1, q2, q3⟩ := h2 d0 hd0
  refine ⟨by show d0.syms.length ≤ _; omega, by show (d0.items.map _).length ≤ _; rw [List.length_map]; omega, by show (d0.fields.map _).length ≤ _; rw [List.length_map]; omega⟩
theorem beq_str (t : ByteArray) : (t.toList == t.toList) = true := by simp

set_option maxRecDepth 100000 in
set_option maxHeartbeats 2000000 in
theorem parseBack_any (s : ByteArray) (hs : s.size ≤ 140737488351232) (w : World) (hwd : Wd w) (hpow : Pow w) : Calls Tryd.prog 3 #[.string s] w fun e w' => e = .returned (.bool true) ∧ Ext w w' := by
  have hp5 := hpow.lt
  have hpar := parse_any s hs w hwd (by omega)
  have l7 := parse_rng s
  obtain ⟨q1, q2⟩ := parse_len6 s
  have hb := back_plain s
  have hc0 := parse_cases s
  obtain ⟨r, hr⟩ : ∃ z, Hid (parseP s = z) := ⟨_, Lib.hid rfl⟩
  rw [hr.out] at hpar l7 q1 q2 hb hc0
  obtain ⟨ns, at_, why⟩ := r
  replace hpar : Calls Tryd.prog 6 #[.string s] w fun e w' => ∃ v vs, e = .returned (.tuple #[.agg #[v], .int .i64 at_, .int .i64 why]) ∧ Nds w.heap.size w' ns vs v ∧ Ext w w' := hpar
  replace l7 : ∀ d ∈ ns, -9223372036854775808 ≤ d.size ∧ d.size ≤ 9223372036854775807 := l7
  replace q1 : (ns.map Nd.toE).length ≤ 1000000 := q1
  replace q2 : ∀ d ∈ ns.map Nd.toE, Len6 d := q2
  by_cases hw : why = 0
  · subst hw
    obtain ⟨t, h1, h2, h3, h4, h5⟩ := hb rfl
    clear hb hc0
    replace h1 : showP (ns.map Nd.toE) = some t := h1
    replace h5 : showLen (ns.map Nd.toE) ≤ 100000000 := h5
    have h6 : (⟨t.toArray⟩ : ByteArray).size ≤ 140737488351232 := by show t.toArray.size ≤ _; simp; omega
    have hcmp : (t.toArray.size : Int) ≤ (s.size : Int) := by simp; omega
    obtain ⟨T, hT⟩ : ∃ z, Hid (t.toArray = z) := ⟨_, Lib.hid rfl⟩
    rw [hT.out] at h4 h6 hcmp
    obtain ⟨nE, hnE⟩ : ∃ z, Hid (ns.map Nd.toE = z) := ⟨_, Lib.hid rfl⟩
    rw [hnE.out] at h1 h5 q1 q2
    replace h1 := Lib.hid h1
    replace h4 := Lib.hid h4
    replace l7 := Lib.hid l7
    replace q2 := Lib.hid q2
    clear hr h2 h3
    go_enter Tryd.func3, Tryd.ntmps3
    go_wp2_with fail
    refine hpar.mono ?_
    rintro e w1 ⟨v, vs, rfl, hnd, hx1⟩
    have hS1 := Sch.ofNds hnd (Nat.le_refl _) l7.out
    rw [hnE.out] at hS1
    obtain ⟨A, c, rfl, jj1, jj2, jj3, jj4⟩ := Rd.of_own hnd.row
    clear jj1 jj2 jj3 jj4 hpar hnd
    obtain ⟨k, hk⟩ : ∃ z, Hid (ns.length = z) := ⟨_, Lib.hid rfl⟩
    rw [hk.out] at hS1 ⊢
    obtain ⟨q, hq⟩ : ∃ z, Hid (w1.heap.size = z) := ⟨_, rfl⟩
    obtain ⟨w2, hw2⟩ : ∃ z, Hid (w1.alloc (.cells #[.slice A k c] 24) = z) := ⟨_, rfl⟩
    have hx2 : Ext w1 w2 := by rw [← hw2.out]; exact (Ext.refl w1).alloc _
    have hb2 : Blk w2 q #[.slice A k c] 24 := by rw [← hw2.out, ← hq.out]; exact Blk.new w1 _ _
    have hS2 : Sch w2.heap.size w2 (.slice A k c) nE := (hS1.below hx2).mono hx2.size
    have hx02 := hx1.trans hx2
    have how := own_any hS2 (Nat.le_refl _) q1 q2.out
    clear hS1
    go_wp2_with fail
    rw [hw2.out, hq.out]
    refine how.mono ?_
    rintro e w3 ⟨v3, vs3, rfl, hO3, hx3⟩
    have hS3 := hO3.sch (Nat.le_refl _)
    obtain ⟨A3, c3, rfl⟩ := hS3.slice
    have hx03 := hx02.trans hx3
    have hsh := show_any _ _ w3 hS3 (hwd.ext hx03) (hpow.ext hx03) h5
    rw [h1.out] at hsh
    clear how hO3 hS3
    go_wp2_with fail
    refine hsh.mono ?_
    rintro e w4 ⟨rfl, hx4⟩
    rw [show shV (some t) = Value.tuple #[.string ⟨t.toArray⟩, .int .i64 0] from rfl, hT.out]
    have hx04 := hx03.trans hx4
    have hp2 := parse_any ⟨T⟩ h6 w4 (hwd.ext hx04) (by have := hx04.size; omega)
    rw [h4.out] at hp2
    replace hp2 : Calls Tryd.prog 6 #[.string ⟨T⟩] w4 fun e w' => ∃ v vs, e = .returned (.tuple #[.agg #[v], .int .i64 at_, .int .i64 0]) ∧ Nds w4.heap.size w' ns vs v ∧ Ext w4 w' := hp2
    clear hsh
    go_wp2_with fail
    refine hp2.mono ?_
    rintro e w5 ⟨v5, vs5, rfl, hnd5, hx5⟩
    have hS5 := Sch.ofNds hnd5 (Nat.le_refl _) l7.out
    rw [hnE.out] at hS5
    obtain ⟨A5, c5, rfl, jj1, jj2, jj3, jj4⟩ := Rd.of_own hnd5.row
    clear jj1 jj2 jj3 jj4 hp2 hnd5
    rw [hk.out] at hS5 ⊢
    obtain ⟨q5, hq5⟩ : ∃ z, Hid (w5.heap.size = z) := ⟨_, rfl⟩
    obtain ⟨w6, hw6⟩ : ∃ z, Hid (w5.alloc (.cells #[.slice A5 k c5] 24) = z) := ⟨_, rfl⟩
    have hx6 : Ext w5 w6 := by rw [← hw6.out]; exact (Ext.refl w5).alloc _
    have hb6 : Blk w6 q5 #[.slice A5 k c5] 24 := by rw [← hw6.out, ← hq5.out]; exact Blk.new w5 _ _
    have hS6 : Sch w6.heap.size w6 (.slice A5 k c5) nE := (hS5.below hx6).mono hx6.size
    have hx06 := (hx04.trans hx5).trans hx6
    have hsh6 := show_any _ _ w6 hS6 (hwd.ext hx06) (hpow.ext hx06) h5
    rw [h1.out] at hsh6
    clear hS5
    go_wp2_with fail
    rw [hw6.out, hq5.out]
    refine hsh6.mono ?_
    rintro e w7 ⟨rfl, hx7⟩
    rw [show shV (some t) = Value.tuple #[.string ⟨t.toArray⟩, .int .i64 0] from rfl, hT.out]
    have hx07 := hx06.trans hx7
    have hx27 : Ext w2 w7 := (((hx3.trans hx4).trans hx5).trans hx6).trans hx7
    have hS27 := (hS2.below hx27).mono hx27.size
    have hS67 := (hS6.below hx7).mono hx7.size
    have hsm := rsame_any hS27 hS67 (Nat.le_refl _)
    rw [decide_eq_true (rfl : nE = nE)] at hsm
    have hc1 : w7.cell? ⟨q, 0, none⟩ = some (.slice A k c) := (hb2.ext hx27).cell 0
    have hc2 : w7.cell? ⟨q5, 0, none⟩ = some (.slice A5 k c5) := (hb6.ext hx7).cell 0
    have hbs := beq_str ⟨T⟩
    have hbd : decide ((T.size : Int) ≤ (s.size : Int)) = true := decide_eq_true hcmp
    clear hsh6 hS27 hS67 hS2 hS6
    go_wp2_with fail
    refine hsm.mono ?_
    rintro e w8 ⟨rfl, hx8⟩
    have hx08 := hx07.trans hx8
    have hl := lives_any w8 (hwd.ext hx08) (hpow.ext hx08)
    clear hsm
    go_wp2_with fail
    refine hl.mono ?_
    rintro e w9 ⟨rfl, hx9⟩
    go_wp2_with fail
    go_ret
    exact ⟨rfl, hx08.trans hx9⟩
  · rcases hc0 with ⟨h1, _⟩ | ⟨_, _, _, _, _, h1⟩
    · replace h1 : ns = [] := h1
      subst h1
      have hw' : ¬ why = 0 := hw
      clear hb hr q1 q2 l7
      go_enter Tryd.func3, Tryd.ntmps3
      go_wp2_with fail
      refine hpar.mono ?_
      rintro e w1 ⟨v, vs, rfl, hnd, hx1⟩
      obtain ⟨A, c, rfl, jj1, jj2, jj3, jj4⟩ := Rd.of_own hnd.row
      clear jj1 jj2 jj3 jj4 hpar hnd
      rw [show ([] : List Nd).length = 0 from rfl]
      obtain ⟨q, hq⟩ : ∃ z, Hid (w1.heap.size = z) := ⟨_, rfl⟩
      obtain ⟨w2, hw2⟩ : ∃ z, Hid (w1.alloc (.cells #[.slice A 0 c] 24) = z) := ⟨_, rfl⟩
      have hx2 : Ext w1 w2 := by rw [← hw2.out]; exact (Ext.refl w1).alloc _
      have hx02 := hx1.trans hx2
      have hl := lives_any w2 (hwd.ext hx02) (hpow.ext hx02)
      have hwd0 : decide (why = 0) = false := decide_eq_false hw'
      go_wp2_with fail
      rw [hw2.out]
      refine hl.mono ?_
      rintro e w3 ⟨rfl, hx3⟩
      go_wp2_with fail
      go_ret
      exact ⟨rfl, hx02.trans hx3⟩
    · exact absurd (congrArg (fun z => z.2.2) h1) hw
end Go.Proofs.YtejcacbbhijdcaaDoor.Pr
namespace Go.Proofs.YtejcacbbhijdcaaDoor.parseBack
open Go.ChangeShapes Go.WideShapes Go.ChangeAt Go.RowKit
open Go.ChangeMaps (open_string shut_string)
open Base Args
set_option linter.unusedVariables false
set_option linter.unusedSimpArgs false

theorem own : ownKnob Tryd.prog.godebug = none := by kernel_rfl
theorem laidOut : laidOutB Tryd.prog = true := by kernel_rfl

theorem laid_met (os : Os) : laidMet Tryd.prog Rows.parseBackRow.laid ((Pr.laidWorld os).forCall (fun _ _ => 0) ⟨#[], #[.string ByteArray.empty], []⟩).memory :=
  laidMet_of_run' 8 (by kernel_rfl) (by kernel_rfl)
theorem reads (os : Os) {H : Type} (enc : TypeId × Value → H) : ∃ places, DataW.whole enc Tryd.prog ((Pr.laidWorld os).forCall (fun _ _ => 0) ⟨#[], #[.string ByteArray.empty], []⟩).memory Tryd.f3.params.toList Rows.parseBackSpec.vars false (#[.string ByteArray.empty] : Array Value).toList 8 = some ([.lit (.string [])], [], places) :=
  ⟨[], by kernel_rfl⟩

set_option maxRecDepth 100000 in
theorem lifted (os : Os) (started : os.Started) (H : Type) (enc : TypeId × Value → H) (F : Stop.Interp) :
    ReturnsInHanded {} Tryd.checked os 3 .any ((OpenSpec.ofChange Rows.parseBackSpec).preRow enc Tryd.prog Tryd.f3 Rows.parseBackRow.domain false Rows.parseBackRow.laid) (((OpenSpec.ofChange Rows.parseBackSpec).at F).post enc Tryd.prog Tryd.f3 false true false false) := by
  obtain ⟨places, hx⟩ := reads os enc
  refine returnsInHanded_of_row (C := Tryd.checked) (s := (OpenSpec.ofChange Rows.parseBackSpec)) own started (by kernel_rfl) Tryd.func3
    (witness_row_at (enc := enc) (C := Tryd.checked) false (Pr.laidWorld os) #[.string ByteArray.empty] rfl (by kernel_rfl) (by kernel_rfl) (by kernel_rfl)
      (OpenSpec.preRow_of_cond 8 hx (by kernel_rfl) (fun k hk => by cases hk) (by kernel_rfl) (laid_met os))) ?_
  intro W base args ds gs before hval0 hW hcnd hk0 hsz0 hL _ _
  have hval : ∀ (j : Nat) t v, Tryd.f3.params[j]? = some t → args[j]? = some v → Value.okWide Tryd.prog W .any base t v := hval0
  have hW' := hW
  obtain ⟨p, q, hAz, hV, rfl, hfz, hnd⟩ := hW
  have hA : DataW.TrodAll enc Tryd.prog W 0 (fun _ => true) true Tryd.f3.params.toList args.toList ds p := hAz
  have hsz : (DataW.weightsEach Tryd.prog (Tryd.f3.params.toList ++ Rows.parseBackSpec.plain.varTypes Tryd.prog) (ds ++ gs)).all (· ≤ reachBytes) = true := hsz0
  rw [Tryd.params3] at hA hval hsz
  obtain ⟨v0, vs0, d0, ds0, p0, q0, hargs, rfl, rfl, h0, r0⟩ := trodAll_cons hA
  obtain ⟨rfl, rfl, rfl⟩ := trodAll_nil r0
  obtain rfl : args = #[v0] := by cases args; simp_all
  obtain ⟨rfl, rfl⟩ := trodVars_none hV
  have k0 := h0
  have lt0 : ∀ x ∈ p0, x.block < W.heap.size := by obtain ⟨m, hm⟩ := k0; exact DataW.trod_lt m _ _ _ hm
  obtain ⟨s0, rfl, rfl, rfl, hs0⟩ := open_string Tryd.underlying9 (hval 0 9 v0 rfl rfl) h0
  have hz0 : s0.size ≤ 140737488351232 := string_reach hsz (j := 0) (t := 9) rfl rfl
  clear hAz hval0
  refine (Pr.parseBack_any s0 hz0 W (Pr.tabs hL).1 (Pr.tabs hL).2).mono fun e W' ⟨he, bel⟩ => ?_
  have bel : Below W.heap.size W W' := bel
  subst he
  exact ⟨_, rfl, _, _, _, [], _, [], hW', trodAll_mk1 (shut_bool Tryd.underlying4 _), (trodAll_cons_mk (Below.trod laidOut (by kernel_rfl) (of_decide_eq_true (by kernel_rfl)) k0 bel lt0) trodAll_mk0), rfl, bel.frame _, fun h => by cases h⟩

theorem said : Rows.ParseBackSaid :=
  OpenClaim.holds_of_cond 3 Tryd.f3 rfl rfl rfl rfl rfl rfl rfl ⟨rfl, rfl, rfl, rfl, rfl⟩ rfl rfl rfl rfl rfl (by kernel_rfl) Tryd.func3 (by kernel_rfl)
    (of_decide_eq_true (by kernel_rfl)) (by unfold Func.isWrapper; first | (rw [if_pos (by decide +kernel)]; kernel_rfl) | (rw [if_neg (by decide +kernel)]; exact ⟨rfl, rfl⟩))
    (fun os started H enc _ F => by rw [OpenClaim.pre_eq_preRow]; exact lifted os started H enc F)

theorem plain (f : FuncId) (fn : Func) (hf : Tryd.pinned.checked.prog.funcNamed "suffragan/suffraganlaw07.ParseBack" = some f) (hfn : Tryd.pinned.checked.prog.funcs[f]? = some fn) :
    true = Tryd.pinned.checked.prog.looks [] ∧ ∀ (j : Nat) t, fn.params[j]? = some t → Tryd.pinned.checked.prog.wantsStandIn t = false := by
  obtain rfl : f = 3 := Option.some.inj ((show Tryd.prog.funcNamed "suffragan/suffraganlaw07.ParseBack" = some 3 by kernel_rfl).symm.trans hf) |>.symm
  obtain rfl : fn = Tryd.f3 := (Option.some.inj (Tryd.func3.symm.trans hfn)).symm
  refine ⟨by kernel_rfl, fun j t ht => ?_⟩
  rw [Tryd.params3] at ht
  have hm := Array.mem_of_getElem? ht
  simp only [Array.mem_def, List.mem_cons, List.mem_nil_iff, or_false, or_self] at hm
  subst hm
  exact (show Tryd.prog.wantsStandIn 9 = false by kernel_rfl)

theorem proved : Rows.ParseBackCardSaid :=
  Claim7.holds_tied_plain_at .later [] _ _ _ _ said (fun _ h => by cases h) (by kernel_rfl) (fun _ h => by cases h) parseBack_row_tie rfl ⟨rfl, rfl⟩ (by kernel_rfl) rfl plain (by kernel_rfl)
#print axioms proved
end Go.Proofs.YtejcacbbhijdcaaDoor.parseBack
