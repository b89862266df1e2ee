/- canon: the fingerprint: walked. -/
import Derived.Test.YtbpfabhlngfciaaGreatDoorCpN
import Derived.Laws.ResultCell
import Derived.ChangeKeysEq
set_option linter.unusedVariables false
set_option linter.unusedSimpArgs false
set_option maxRecDepth 100000
set_option maxHeartbeats 1000000
namespace Go.Proofs.YtbpfabhlngfciaaGreatDoor.Cn
open Go.ChangeShapes Go.WideShapes Go.ChangeAt Go.RowKit
open Base Lx Mi Pr ShaP ShaW
def hashP (s : ByteArray) : List UInt8 := if (formP s).2.2 = 0 then sha (formP s).1.data.toList else List.replicate 32 0
def okP (s : ByteArray) : Bool := decide ((formP s).2.2 = 0)
theorem hashP_len (s : ByteArray) : (hashP s).length = 32 := by
 unfold hashP
 split
 ·exact sha_length _
 ·rfl
theorem form_len (s : ByteArray) : (formP s).1.data.toList.length ≤ 4096 := by
 unfold formP
 by_cases h : (parseP s).2.2 = 0
 ·obtain ⟨t, h1, h2, h3, _⟩ := back_plain' s h
  rw [if_pos h, h1]
  simp only [Option.getD_some]
  omega
 ·rw [if_neg h]
  exact Nat.zero_le _
theorem results_row_tmp {P : Program} {fn : Func} {p u : Tmp} {ty : TypeId} (h : fn.results = #[.cell p ty, .tmp u]) (tmps : Array Value) (w : World) (g : Nat) (t : TypeId) (cs : Array Value) (fr : Nat × Nat) (d : TypeDesc)
  (hp : tmps.getD p undef = .pointer (some ⟨g, 0, none⟩)) (hg : w.heap[g]? = some (.cells cs t fr))
  (hu : P.underlying ty = some d) (hd : (match d with | .struct _ | .array _ _ => true | _ => false) = true) (hi : (P.info? ty).map (·.size) = some cs.size) :
  (results fn tmps).run P w = .ok (.tuple #[.agg cs, tmps.getD u undef]) w := by
 have hp' : tmps[p]?.getD undef = .pointer (some ⟨g, 0, none⟩) := by simpa using hp
 simp [results, h, hp', asAddr, Sem.run_bind, run_loadVar_row w g t ty cs fr d hg hu hd hi]
theorem sumX_cells (X : List UInt8) (hX : X.length = 32) {w : World} {g : Nat} (hz : Blk w g z32 23) : Blk (w.setCells g 0 (u8s X)) g (u8s X).toArray 23 := by
 have hz2 := Blk_sets (u8s X) 0 _ _ hz
 rwa [show setMany z32 0 (u8s X) = (u8s X).toArray from setMany_full _ [] (u8s (List.replicate 32 0)) (by rw [u8s_length, u8s_length, hX]; rfl)] at hz2
theorem sumX_there {w : World} {g : Nat} (hz : Blk w g z32 23) (X : List UInt8) (hX : X.length = 32) : w.there g 0 (u8s X).toArray.size := fun j hj => by
 rw [Nat.zero_add]
 exact ⟨by rw [hz.cell j, Array.getElem?_eq_getElem (by simpa [z32, u8s_length, hX] using hj)]; rfl, hz.frozen j⟩
theorem sumX_info (X : List UInt8) (hX : X.length = 32) : (Tryz.prog.info? 23).map (·.size) = some (u8s X).toArray.size := by rw [List.size_toArray, u8s_length, hX]; kernel_rfl
theorem hashed_any (s : ByteArray) (hs : s.size ≤ 140737488351232) (w : World) (hwd : Wd w) (hpow : Pow w) (ht : Tabs w) :
  Calls Tryz.prog 38 #[.string s] w fun e w' => e = .returned (.tuple #[.agg (u8s (hashP s)).toArray, .bool (okP s)]) ∧ Ext w w' := by
 obtain ⟨q, hq⟩ : ∃ z, Hid (w.heap.size = z) := ⟨_, rfl⟩
 have hc := fun W (hW : Ext w W) => ctext_any s hs W (hwd.ext hW) (hpow.ext hW)
 have hok : okP s = decide ((formP s).2.2 = 0) := rfl
 have hH : hashP s = if (formP s).2.2 = 0 then sha (formP s).1.data.toList else List.replicate 32 0 := rfl
 have hXl := hashP_len s
 have hfl := form_len s
 obtain ⟨X, hX⟩ : ∃ z, Hid (hashP s = z) := ⟨_, Lib.hid rfl⟩
 obtain ⟨F, hF⟩ : ∃ z, Hid (formP s = z) := ⟨_, Lib.hid rfl⟩
 rw [hF.out] at hok hH hfl
 simp only [hF.out] at hc
 rw [hX.out] at hXl hH ⊢
 rw [hok]
 obtain ⟨t, a, y⟩ := F
 simp only at hc hH hfl ⊢
 obtain ⟨PO, hPO⟩ : ∃ PO : Ending → World → Prop, Hid ((fun e w' => e = .returned (.tuple #[.agg (u8s X).toArray, .bool (decide (y = 0))]) ∧ Ext w w') = PO) := ⟨_, Lib.hid rfl⟩
 rw [hPO.out]
 have hsum := fun W A c => sumTop_any W A c t.data.toList
 replace hc := Lib.hid hc
 replace hH := Lib.hid hH
 replace hsum := Lib.hid hsum
 clear hok
 go_enter Tryz.func38, Tryz.ntmps38
 go_wp2_with fail
 generalize hw0 : World.alloc w _ = w1
 have hx1 : Ext w w1 := by rw [← hw0]; exact (Ext.refl w).alloc _
 have hz1 : Blk w1 q z32 23 := by rw [← hw0, ← hq.out]; exact Blk.new w z32 _
 clear hw0
 rw [hq.out]
 refine (hc.out w1 hx1).mono ?_
 rintro e w2 ⟨rfl, hx2⟩
 have hz2 := hz1.ext hx2
 have hx02 := hx1.trans hx2
 clear hc
 by_cases h0 : y = 0
 ·subst h0
  have hH' := hH.out
  rw [if_pos rfl] at hH'
  have hcv := Lib.run_convert_string_bytes (P := Tryz.prog) w2 9 50 5 t Tryz.underlying9 Tryz.underlying50 Tryz.underlying5
  obtain ⟨cap, hcap⟩ : ∃ c, Hid (grownCap w2 t.size 0 5 = c) := ⟨_, rfl⟩
  rw [hcap.out] at hcv
  obtain ⟨w3, hw3⟩ : ∃ z, Hid (Lib.bytesWorld w2 5 t = z) := ⟨_, rfl⟩
  rw [hw3.out] at hcv
  have hx3 : Ext w2 w3 := by rw [← hw3.out]; exact ext_bytes _ _ _
  have hsz : t.data.toList.length = t.size := Array.length_toList
  have hrb : Rb w3 (some ⟨w2.heap.size, 0, none⟩) t.data.toList := fun _ => ⟨_, 0, rfl, fun j u hj => by
   have hlt : j < t.size := by
    rw [← hsz]
    obtain ⟨h1, _⟩ := List.getElem?_eq_some_iff.1 hj
    simpa [u8s_length] using h1
   rw [Nat.zero_add, ← hw3.out, Lib.bytesWorld_cell _ _ _ j hlt, ← hj]
   simp [u8s, List.getD, List.getElem?_eq_getElem (show j < t.data.toList.length by omega)]⟩
  have hlt : w2.heap.size < w3.heap.size := by rw [← hw3.out, Lib.bytesWorld_size]; omega
  have hs3 := hsum.out w3 (some ⟨w2.heap.size, 0, none⟩) cap (ht.ext (hx02.trans hx3)) hrb (fun h => by cases h) (fun a ha => by injection ha with ha; rw [← ha]; exact hlt) (by omega)
  rw [hsz, ← hH'] at hs3
  clear hsum hrb hH hH'
  go_wp2_with fail
  refine hs3.mono ?_
  rintro e w4 ⟨rfl, hx4⟩
  have hz4 := (hz2.ext hx3).ext hx4
  have hx04 := (hx02.trans hx3).trans hx4
  clear hs3 hcv
  go_wp2_with (refine wpList_store_mid rfl 23 (.tmp 2) (.tmp 18) rfl q 0 (u8s X).toArray rfl rfl (sumX_there hz4 _ hXl) (sumX_info _ hXl) (all_oneCell_toArray (u8s_one _)) ?_)
  have hzF := sumX_cells X hXl hz4
  have hxF : Ext w (w4.setCells q 0 (u8s X)) := Ext_sets (by rw [hq.out]; exact Nat.le_refl _) _ 0 hx04
  refine bodyPost_ret (results_row_tmp rfl _ _ q 23 (u8s X).toArray (0, 0) (.array 32 5) rfl hzF (by kernel_rfl) rfl (sumX_info X hXl)) rfl ?_
  rw [← hPO.out]
  exact ⟨rfl, hxF⟩
 ·have hyb : ((y : Int) != 0) = true := by simpa using h0
  have hH' := hH.out
  rw [if_neg h0] at hH'
  subst hH'
  clear hH hsum
  go_wp2_with (refine wpList_store_mid rfl 23 (.tmp 2) (.tmp 15) rfl q 0 (u8s (List.replicate 32 0)).toArray rfl rfl (sumX_there hz2 _ rfl) (sumX_info _ rfl) (all_oneCell_toArray (u8s_one _)) ?_)
  have hzF := sumX_cells (List.replicate 32 0) rfl hz2
  have hxF : Ext w (w2.setCells q 0 (u8s (List.replicate 32 0))) := Ext_sets (by rw [hq.out]; exact Nat.le_refl _) _ 0 hx02
  refine bodyPost_ret (results_row_tmp rfl _ _ q 23 (u8s (List.replicate 32 0)).toArray (0, 0) (.array 32 5) rfl hzF (by kernel_rfl) rfl (sumX_info _ rfl)) rfl ?_
  rw [← hPO.out]
  exact ⟨by rw [decide_eq_false h0]; rfl, hxF⟩
theorem Print_any (s : ByteArray) (hs : s.size ≤ 140737488351232) (w : World) (hwd : Wd w) (hpow : Pow w) (ht : Tabs w) :
  Calls Tryz.prog 11 #[.string s] w fun e w' => e = .returned (.tuple #[.agg (u8s (hashP s)).toArray, .bool (okP s)]) ∧ Ext w w' := by
 obtain ⟨q, hq⟩ : ∃ z, Hid (w.heap.size = z) := ⟨_, rfl⟩
 have hc := fun W (hW : Ext w W) => hashed_any s hs W (hwd.ext hW) (hpow.ext hW) (ht.ext hW)
 have hXl := hashP_len s
 obtain ⟨X, hX⟩ : ∃ z, Hid (hashP s = z) := ⟨_, Lib.hid rfl⟩
 obtain ⟨b, hb⟩ : ∃ z, Hid (okP s = z) := ⟨_, Lib.hid rfl⟩
 simp only [hX.out, hb.out] at hc
 rw [hX.out] at hXl ⊢
 rw [hb.out]
 replace hc := Lib.hid hc
 go_enter Tryz.func11, Tryz.ntmps11
 go_wp2_with fail
 generalize hw0 : World.alloc w _ = w1
 have hx1 : Ext w w1 := by rw [← hw0]; exact (Ext.refl w).alloc _
 have hz1 : Blk w1 q z32 23 := by rw [← hw0, ← hq.out]; exact Blk.new w z32 _
 clear hw0
 rw [hq.out]
 refine (hc.out w1 hx1).mono ?_
 rintro e w2 ⟨rfl, hx2⟩
 have hz2 := hz1.ext hx2
 have hx02 := hx1.trans hx2
 clear hc
 go_wp2_with (refine wpList_store_mid rfl 23 (.tmp 2) (.tmp 6) rfl q 0 (u8s X).toArray rfl rfl (sumX_there hz2 _ hXl) (sumX_info _ hXl) (all_oneCell_toArray (u8s_one _)) ?_)
 have hzF := sumX_cells X hXl hz2
 have hxF : Ext w (w2.setCells q 0 (u8s X)) := Ext_sets (by rw [hq.out]; exact Nat.le_refl _) _ 0 hx02
 refine bodyPost_ret (results_row_tmp rfl _ _ q 23 (u8s X).toArray (0, 0) (.array 32 5) rfl hzF (by kernel_rfl) rfl (sumX_info X hXl)) rfl ?_
 exact ⟨rfl, hxF⟩
theorem extr8 (H : List UInt8) : (⟨H.toArray⟩ : ByteArray).extract 0 8 = ⟨(H.take 8).toArray⟩ := by
 apply ByteArray.ext
 rw [ByteArray.data_extract]
 simp
theorem Short_any (s : ByteArray) (hs : s.size ≤ 140737488351232) (w : World) (hwd : Wd w) (hpow : Pow w) (ht : Tabs w) :
  Calls Tryz.prog 13 #[.string s] w fun e w' => e = .returned (.string (if okP s = true then ⟨((hexL (hashP s)).take 8).toArray⟩ else ⟨#[]⟩)) ∧ Ext w w' := by
 have hc := hashed_any s hs w hwd hpow ht
 have hXl := hashP_len s
 obtain ⟨X, hX⟩ : ∃ z, Hid (hashP s = z) := ⟨_, Lib.hid rfl⟩
 obtain ⟨b, hb⟩ : ∃ z, Hid (okP s = z) := ⟨_, Lib.hid rfl⟩
 simp only [hX.out, hb.out] at hc
 rw [hX.out] at hXl ⊢
 rw [hb.out]
 have hhx := fun W => hex_any X hXl W
 have hhl : (hexL X).length = 64 := by rw [hexL_length, hXl]
 obtain ⟨H, hH⟩ : ∃ z, Hid (hexL X = z) := ⟨_, Lib.hid rfl⟩
 simp only [hH.out] at hhx
 rw [hH.out] at hhl ⊢
 obtain ⟨S, hS⟩ : ∃ z, Hid ((⟨H.toArray⟩ : ByteArray) = z) := ⟨_, Lib.hid rfl⟩
 simp only [hS.out] at hhx
 have hSl : S.size = 64 := by rw [← hS.out]; simpa [ByteArray.size] using hhl
 replace hhx := Lib.hid hhx
 go_enter Tryz.func13, Tryz.ntmps13
 go_wp2_with fail
 refine hc.mono ?_
 rintro e w1 ⟨rfl, hx1⟩
 clear hc
 have hzN : Blk (w1.alloc (.cells z32 23)) w1.heap.size z32 23 := Blk.new w1 z32 _
 have hzF := sumX_cells X hXl hzN
 have hxF : Ext w1 ((w1.alloc (.cells z32 23)).setCells w1.heap.size 0 (u8s X)) := Ext_sets (Nat.le_refl _) _ 0 ((Ext.refl w1).alloc _)
 have hld : ∀ j v, (u8s X)[j]? = some v → ((w1.alloc (.cells z32 23)).setCells w1.heap.size 0 (u8s X)).cell? ⟨w1.heap.size, 0 + j, none⟩ = some v := fun j v hj => by
  rw [Nat.zero_add, hzF.cell j, List.getElem?_toArray, hj]
 have hty : (Tryz.prog.info? 23).map (·.size) = some (u8s X).length := by rw [u8s_length, hXl]; kernel_rfl
 cases b with
 | false =>
  go_wp2_with (refine wpList_store_mid rfl 23 (.tmp 3) (.tmp 8) rfl w1.heap.size 0 (u8s X).toArray rfl rfl (sumX_there hzN X hXl) (sumX_info _ hXl) (all_oneCell_toArray (u8s_one _)) ?_)
  go_ret
  exact ⟨rfl, hx1.trans hxF⟩
 | true =>
  go_wp2_with (first
   | refine wpList_store_mid rfl 23 (.tmp 3) (.tmp 8) rfl w1.heap.size 0 (u8s X).toArray rfl rfl (sumX_there hzN X hXl) (sumX_info _ hXl) (all_oneCell_toArray (u8s_one _)) ?_
   | refine wpList_load_mid rfl 23 (.tmp 3) rfl w1.heap.size 0 rfl (u8s X) (.array 32 5) hld (by kernel_rfl) rfl hty ?_)
  refine (hhx.out _).mono ?_
  rintro e w3 ⟨rfl, hx3⟩
  go_wp2_with fail
  go_ret
  exact ⟨by rw [← hS.out, extr8]; rfl, (hx1.trans hxF).trans hx3⟩
theorem cText_any (s : ByteArray) (hs : s.size ≤ 140737488351232) (w : World) (hwd : Wd w) (hpow : Pow w) : Calls Tryz.prog 15 #[.string s] w fun e w' => e = .returned (.tuple #[.string (formP s).1, .int .i64 (formP s).2.1, .int .i64 (formP s).2.2]) ∧ Ext w w' := by
 have hc := ctext_any s hs w hwd hpow
 obtain ⟨F, hF⟩ : ∃ z, Hid (formP s = z) := ⟨_, Lib.hid rfl⟩
 rw [hF.out] at hc ⊢
 obtain ⟨t, a, y⟩ := F
 simp only at hc ⊢
 go_enter Tryz.func15, Tryz.ntmps15
 go_wp2_with fail
 refine hc.mono ?_
 rintro e w1 ⟨rfl, hx1⟩
 go_wp2_with fail
 refine bodyPost_ret (results_tmp3 rfl _ _ _) rfl ?_
 exact ⟨rfl, hx1⟩
def tLive8 : ByteArray := ⟨#[32, 91, 32, 105, 110, 116, 32, 93, 32, 35, 32, 120]⟩
def tForm8 : ByteArray := ⟨#[91, 105, 110, 116, 93]⟩
theorem live_form8 : formP tLive8 = (tForm8, 0, 0) := by decide +kernel
theorem live_is8 : isP tForm8 = true := by decide +kernel
theorem live_ok8 : okP tForm8 = true := by decide +kernel
theorem lives8_any (w : World) (hwd : Wd w) (hpow : Pow w) (ht : Tabs w) : Calls Tryz.prog 14 #[] w fun e w' => e = .returned (.bool true) ∧ Ext w w' := by
 have h1 := cText_any tLive8 (by decide) w hwd hpow
 rw [live_form8] at h1
 replace h1 : Calls Tryz.prog 15 #[.string ⟨#[32, 91, 32, 105, 110, 116, 32, 93, 32, 35, 32, 120]⟩] w fun e w' => e = .returned (.tuple #[.string ⟨#[91, 105, 110, 116, 93]⟩, .int .i64 0, .int .i64 0]) ∧ Ext w w' := h1
 have h2 : ∀ W, Ext w W → Calls Tryz.prog 19 #[.string ⟨#[91, 105, 110, 116, 93]⟩] W fun e w' => e = .returned (.bool true) ∧ Ext W w' := fun W hW => by
  have := cIs_any tForm8 (by decide) W (hwd.ext hW) (hpow.ext hW)
  rw [live_is8] at this
  exact this
 have hl : (⟨((hexL (hashP tForm8)).take 8).toArray⟩ : ByteArray).size = 8 := by
  show (((hexL (hashP tForm8)).take 8).toArray).size = 8
  rw [List.size_toArray, List.length_take, hexL_length, hashP_len]; rfl
 obtain ⟨S, hS⟩ : ∃ z, Hid ((⟨((hexL (hashP tForm8)).take 8).toArray⟩ : ByteArray) = z) := ⟨_, Lib.hid rfl⟩
 rw [hS.out] at hl
 have h3 : ∀ W, Ext w W → Calls Tryz.prog 13 #[.string ⟨#[91, 105, 110, 116, 93]⟩] W fun e w' => e = .returned (.string S) ∧ Ext W w' := fun W hW => by
  have := Short_any tForm8 (by decide) W (hwd.ext hW) (hpow.ext hW) (ht.ext hW)
  rw [live_ok8, if_pos rfl, hS.out] at this
  exact this
 replace h2 := Lib.hid h2
 replace h3 := Lib.hid h3
 go_enter Tryz.func14, Tryz.ntmps14
 go_wp2_with fail
 refine h1.mono ?_
 rintro e w1 ⟨rfl, hx1⟩
 have h2' := h2.out w1 hx1
 clear h1
 go_wp2_with fail
 refine h2'.mono ?_
 rintro e w2 ⟨rfl, hx2⟩
 have h3' := h3.out w2 (hx1.trans hx2)
 clear h2'
 go_wp2_with fail
 refine h3'.mono ?_
 rintro e w3 ⟨rfl, hx3⟩
 go_wp2_with fail
 go_ret
 exact ⟨rfl, (hx1.trans hx2).trans hx3⟩
end Go.Proofs.YtbpfabhlngfciaaGreatDoor.Cn
namespace Go.Proofs.YtbpfabhlngfciaaGreatDoor.Cn
open Go.ChangeShapes Go.WideShapes Go.ChangeAt Go.RowKit
open Base Pr ShaP ShaW
theorem gFirst : Tryz.prog.globalNamed "suffragan/sha.first" = some 0 := by kernel_rfl
theorem gRoots : Tryz.prog.globalNamed "suffragan/sha.roots" = some 1 := by kernel_rfl
def firstInts : List Int := [1779033703, 3144134277, 1013904242, 2773480762, 1359893119, 2600822924, 528734635, 1541459225]
def rootsInts : List Int := [1116352408, 1899447441, 3049323471, 3921009573, 961987163, 1508970993, 2453635748, 2870763221, 3624381080, 310598401, 607225278, 1426881987, 1925078388, 2162078206, 2614888103, 3248222580, 3835390401, 4022224774, 264347078, 604807628, 770255983, 1249150122, 1555081692, 1996064986, 2554220882, 2821834349, 2952996808, 3210313671, 3336571891, 3584528711, 113926993, 338241895, 666307205, 773529912, 1294757372, 1396182291, 1695183700, 1986661051, 2177026350, 2456956037, 2730485921, 2820302411, 3259730800, 3345764771, 3516065817, 3600352804, 4094571909, 275423344, 430227734, 506948616, 659060556, 883997877, 958139571, 1322822218, 1537002063, 1747873779, 1955562222, 2024104815, 2227730452, 2361852424, 2428436474, 2756734187, 3204031479, 3329325298]
abbrev laidL8 : List (String × DataW Unit) := [("math/bits.deBruijn32tab", Rows.laid_math_bits_deBruijn32tab), ("math/bits.deBruijn64tab", Rows.laid_math_bits_deBruijn64tab), ("internal/strconv.uint64pow10", Rows.laid_internal_strconv_uint64pow10), ("suffragan/parse.words", Rows.laid_suffragan_parse_words), ("suffragan/sha.first", Rows.laid_suffragan_sha_first), ("suffragan/sha.roots", Rows.laid_suffragan_sha_roots)]
theorem words_any {W : World} {rest : List (String × DataW Unit)} (h : laidMet Tryz.prog (("suffragan/parse.words", Rows.laid_suffragan_parse_words) :: rest) W) : Wd W := by
 obtain ⟨ps, ⟨g', t', cs, fuel, p, q, hg', ht', hvar, hd, _, _⟩, _⟩ := h
 obtain rfl := Option.some.inj (gWords.symm.trans hg')
 obtain rfl : 167 = t' := Option.some.inj ((show (Tryz.prog.globals[2]?).map (·.type) = some 167 by kernel_rfl).symm.trans ht')
 have hcs := cells_of_texts (ss := wordsD) (e := 9) (n := 12) (by kernel_rfl) Tryz.underlying9 (by kernel_rfl) (by kernel_rfl) hd
 intro _
 refine ⟨2, 0, rfl, fun j u hj => ?_⟩
 have : (wordsD.map fun s => Value.string ⟨s.toArray⟩) = txs wordsL := by kernel_rfl
 rw [this] at hcs
 rw [Nat.zero_add, World.var?_cell gWords hvar j, ← hj, ← hcs]
 simp
theorem us_first : us first = firstInts.map (Value.int .u32) := by kernel_rfl
theorem us_roots : us roots = rootsInts.map (Value.int .u32) := by kernel_rfl
theorem cells_of {W : World} {g : Nat} {name : String} {l : List (BitVec 32)} {zs : List Int} (h : Lib.TabIs Tryz.prog W name .u32 zs) (hg : Tryz.prog.globalNamed name = some g) (e : us l = zs.map (Value.int .u32)) : ∀ j v, (us l)[j]? = some v → W.cell? ⟨g, j, none⟩ = some v := by
 intro j v hj
 rw [e, List.getElem?_map] at hj
 have hlt : j < zs.length := by
  rcases Nat.lt_or_ge j zs.length with x | x
  ·exact x
  ·rw [List.getElem?_eq_none x] at hj; cases hj
 rw [h.cell hg j hlt]
 rw [List.getElem?_eq_getElem hlt] at hj
 simpa [List.getD, List.getElem?_eq_getElem hlt] using hj
theorem tabs8 {W : World} (h : laidMetH Tryz.prog laidL8 W) : Wd W ∧ Pow W ∧ Tabs W := by
 have h' : laidMet Tryz.prog laidL8 W := h
 have h2 := laidMet.tail (laidMet.tail h')
 have h3 := laidMet.tail h2
 have h4 := laidMet.tail h3
 have t1 : Lib.TabIs Tryz.prog W "suffragan/sha.first" .u32 firstInts :=
  Lib.tabIs_of_head (rest := [("suffragan/sha.roots", Rows.laid_suffragan_sha_roots)]) (t := 142) (e := 102) (n := 8) gFirst (by kernel_rfl) (by kernel_rfl) Tryz.underlying102 (by kernel_rfl) (by kernel_rfl) h4
 have t2 : Lib.TabIs Tryz.prog W "suffragan/sha.roots" .u32 rootsInts :=
  Lib.tabIs_of_head (rest := []) (t := 160) (e := 102) (n := 64) gRoots (by kernel_rfl) (by kernel_rfl) Tryz.underlying102 (by kernel_rfl) (by kernel_rfl) (laidMet.tail h4)
 exact ⟨words_any h3, Lib.tabIs_of_head (t := 188) (e := 53) (n := 20) (zs := Lib.pow10Tab) powG (by kernel_rfl) (by kernel_rfl) Tryz.underlying53 (by kernel_rfl) (by kernel_rfl) h2, ⟨cells_of t1 gFirst us_first, cells_of t2 gRoots us_roots⟩⟩
noncomputable def laidWorld (os : Os) : World :=
 { World.holding Tryz.prog os ⟨#[], #[], []⟩ with heap := ((((((World.holding Tryz.prog os ⟨#[], #[], []⟩).heap.modify 2 (lay (txs wordsL).toArray)).modify 4 (lay (pow10Ints.map (Value.int .u64)).toArray)).modify 5 (lay (Pr.u8sI tab32))).modify 6 (lay (Pr.u8sI tab64))).modify 0 (lay (firstInts.map (Value.int .u32)).toArray)).modify 1 (lay (rootsInts.map (Value.int .u32)).toArray) }
end Go.Proofs.YtbpfabhlngfciaaGreatDoor.Cn
namespace Go.Proofs.YtbpfabhlngfciaaGreatDoor.ShaW
open Go.ChangeShapes Go.WideShapes Go.ChangeAt Go.RowKit
open ShaP Base
theorem u8s_get (X : List UInt8) (i : Nat) (h : i < X.length) : (u8s X).toArray[i]? = some (.int .u8 ((X.getD i 0).toNat : Int)) := by
 simp [u8s, h, List.getD]
theorem eqItems_u8 {P : Program} {e : TypeId} (he : P.plainKey e = true) (hu : P.underlying e = some (.int .u8)) (d : Nat) (X Y : List UInt8) (w : World) :
  ∀ is : List Nat, (∀ i ∈ is, i < X.length ∧ i < Y.length) → (Op.eqItems (d + 1) e 1 (u8s X).toArray (u8s Y).toArray is).run P w = .ok (is.all fun i => X.getD i 0 == Y.getD i 0) w
 | [], _ => by simp [Op.eqItems]
 | i :: is, h => by
  obtain ⟨h1, h2⟩ := h i (by simp)
  have ih := eqItems_u8 he hu d X Y w is (fun j hj => h j (by simp [hj]))
  have p1 := run_part_plain (P := P) w he (u8s_get X i h1)
  have p2 := run_part_plain (P := P) w he (u8s_get Y i h2)
  have p3 := run_equalIn_int (P := P) w d e .u8 .u8 ((X.getD i 0).toNat : Int) ((Y.getD i 0).toNat : Int) hu
  have hb : (((X.getD i 0).toNat : Int) == ((Y.getD i 0).toNat : Int)) = (X.getD i 0 == Y.getD i 0) := by
   by_cases hxy : X.getD i 0 = Y.getD i 0
   ·rw [hxy]; simp
   ·have : (X.getD i 0).toNat ≠ (Y.getD i 0).toNat := fun e => hxy (UInt8.toNat_inj.1 e)
    rw [beq_eq_false_iff_ne.2 hxy, beq_eq_false_iff_ne.2 (by omega)]
  simp only [Op.eqItems, Nat.mul_one, Sem.run_bind, p1, p2, p3, Result.andThen_ok, hb, List.all_cons]
  cases hq : (X.getD i 0 == Y.getD i 0)
  ·simp
  ·simpa using ih
theorem eq_sum (X Y : List UInt8) (hX : X.length = 32) (hY : Y.length = 32) (w : World) :
  (Op.equalIn 10000 23 (.agg (u8s X).toArray) (.agg (u8s Y).toArray)).run Tryz.prog w = .ok (decide (X = Y)) w := by
 obtain ⟨i, hi, _⟩ := info_parts el_u8.info
 rw [run_equalIn_array (P := Tryz.prog) w 9999 (u8s X).toArray (u8s Y).toArray (show Tryz.prog.underlying 23 = some (.array 32 5) by kernel_rfl) hi]
 rw [show Tryz.prog.cellsOf 5 = 1 by kernel_rfl, eqItems_u8 (by kernel_rfl) Tryz.underlying5 9998 X Y w (List.range 32) (fun i hi => by rw [List.mem_range] at hi; omega)]
 congr 1
 by_cases h : X = Y
 ·subst h; simp
 ·rw [decide_eq_false h, List.all_eq_false]
  apply Classical.byContradiction
  intro hn
  apply h
  apply List.ext_getElem (by omega)
  intro i h1 h2
  have := Classical.byContradiction (fun hh => hn ⟨i, by rw [List.mem_range]; omega, hh⟩)
  simpa [List.getD, List.getElem?_eq_getElem h1, List.getElem?_eq_getElem h2] using this
end Go.Proofs.YtbpfabhlngfciaaGreatDoor.ShaW
