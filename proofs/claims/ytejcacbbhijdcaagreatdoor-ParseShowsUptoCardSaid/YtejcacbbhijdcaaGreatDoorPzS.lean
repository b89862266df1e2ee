/- parse: the reference's writer: a type's parts, walked. -/
import Derived.Test.YtejcacbbhijdcaaGreatDoorPzR
namespace Go.Proofs.YtejcacbbhijdcaaGreatDoor.Pr
open Go.ChangeShapes Go.WideShapes Go.ChangeAt Go.RowKit
open Base Lx Mi Piece
set_option linter.unusedVariables false
set_option linter.unusedSimpArgs false

def fstC : Code → Code
  | .seq a _ => a
  | _ => .skip
def sndC : Code → Code
  | .seq _ b => b
  | _ => .skip
def opA : Array Value := #[.string ⟨#[110, 117, 108, 108]⟩, .string ⟨#[98, 111, 111, 108]⟩, .string ⟨#[105, 110, 116]⟩, .string ⟨#[108, 111, 110, 103]⟩, .string ⟨#[98, 121, 116, 101, 115]⟩, .string ⟨#[116, 101, 120, 116]⟩, .string ⟨#[91]⟩, .string ⟨#[123]⟩, .string ⟨#[40]⟩, .string ⟨#[101, 110, 117, 109, 32]⟩, .string ⟨#[102, 105, 120, 101, 100, 32]⟩, .string ⟨#[114, 101, 99, 111, 114, 100, 32]⟩]
def shA : Array Value := #[.string ⟨#[]⟩, .string ⟨#[]⟩, .string ⟨#[]⟩, .string ⟨#[]⟩, .string ⟨#[]⟩, .string ⟨#[]⟩, .string ⟨#[93]⟩, .string ⟨#[125]⟩, .string ⟨#[41]⟩, .string ⟨#[62]⟩, .string ⟨#[]⟩, .string ⟨#[125]⟩]
def opS (k : Nat) : ByteArray := (([⟨#[110, 117, 108, 108]⟩, ⟨#[98, 111, 111, 108]⟩, ⟨#[105, 110, 116]⟩, ⟨#[108, 111, 110, 103]⟩, ⟨#[98, 121, 116, 101, 115]⟩, ⟨#[116, 101, 120, 116]⟩, ⟨#[91]⟩, ⟨#[123]⟩, ⟨#[40]⟩, ⟨#[101, 110, 117, 109, 32]⟩, ⟨#[102, 105, 120, 101, 100, 32]⟩, ⟨#[114, 101, 99, 111, 114, 100, 32]⟩] : List ByteArray)).getD k ⟨#[]⟩
def shS (k : Nat) : ByteArray := (([⟨#[]⟩, ⟨#[]⟩, ⟨#[]⟩, ⟨#[]⟩, ⟨#[]⟩, ⟨#[]⟩, ⟨#[93]⟩, ⟨#[125]⟩, ⟨#[41]⟩, ⟨#[62]⟩, ⟨#[]⟩, ⟨#[125]⟩] : List ByteArray)).getD k ⟨#[]⟩
theorem opA_at (k : Nat) (h : k < 12) : opA[k]? = some (.string (opS k)) := by
  rcases k with _ | _ | _ | _ | _ | _ | _ | _ | _ | _ | _ | _ | k <;> first | rfl | omega
theorem shA_at (k : Nat) (h : k < 12) : shA[k]? = some (.string (shS k)) := by
  rcases k with _ | _ | _ | _ | _ | _ | _ | _ | _ | _ | _ | _ | k <;> first | rfl | omega
/-- where the writer stands within a type -/
structure Ms (B R X O H : Nat) (no : Value) (cs : Array Value) (w0 : World) (st : WSt) (w : World) : Prop where
  ch : Chg (fun k => k = R) w0 w
  inv : RInv B w R no st
  nd : Blk w X cs 36
  op : Blk w O opA 9
  sh : Blk w H shA 9
  xr : ¬ X = R
  oR : ¬ O = R
  hR : ¬ H = R
  hB : B ≤ w0.heap.size
section
variable {B R X O H deep : Nat} {no : Value} {w0 : World} {cs : Array Value}
theorem Ms.step {st st' : WSt} {w w' : World} (h : Ms B R X O H no cs w0 st w) (hc : Chg (fun k => k = R) w w') (hi : RInv B w' R no st') : Ms B R X O H no cs w0 st' w' :=
  ⟨h.ch.trans hc (fun _ _ e => e), hi, hc.blk h.nd h.xr, hc.blk h.op h.oR, hc.blk h.sh h.hR, h.xr, h.oR, h.hR, h.hB⟩
theorem Ms.ext {st : WSt} {w w' : World} (h : Ms B R X O H no cs w0 st w) (hx : Ext w w') : Ms B R X O H no cs w0 st w' := h.step (Chg.ofExt hx) (h.inv.ext hx)
theorem Ms.below {st : WSt} {w : World} (h : Ms B R X O H no cs w0 st w) : Below B w0 w := chgR_below h.ch h.inv.hR h.hB
/-- a text written behind -/
theorem Ms.put {st : WSt} {w : World} (h : Ms B R X O H no cs w0 st w) (t : ByteArray) {S : ByteArray} (hS : bs S = st.s) (hb : Blk w R #[no, .string S, .int .i64 (st.next : Int), .bool st.bad] 41) : Ms B R X O H no cs w0 (st.put (bs t)) (w.setCell ⟨R, 1, none⟩ (.string (S ++ t))) :=
  h.step (Chg.one w R 1 _) (RInv.putS h.inv.hR hS hb t)
end
set_option maxRecDepth 1000000 in
theorem lay269 {v0 v1 v2 v3 v4 v5 v6 v7 v8 : Value} {a : Act} (h : Piece.Fr 269 [v0, v1, v2, v3, v4, v5, v6, v7, v8] a) : ∃ u : Nat → Value, a = ⟨(v0 :: v1 :: v2 :: v3 :: v4 :: v5 :: v6 :: v7 :: v8 :: u 9 :: u 10 :: u 11 :: u 12 :: u 13 :: u 14 :: u 15 :: u 16 :: u 17 :: u 18 :: u 19 :: u 20 :: u 21 :: u 22 :: u 23 :: u 24 :: u 25 :: u 26 :: u 27 :: u 28 :: u 29 :: u 30 :: u 31 :: u 32 :: u 33 :: u 34 :: u 35 :: u 36 :: u 37 :: u 38 :: u 39 :: u 40 :: u 41 :: u 42 :: u 43 :: u 44 :: u 45 :: u 46 :: u 47 :: u 48 :: u 49 :: u 50 :: u 51 :: u 52 :: u 53 :: u 54 :: u 55 :: u 56 :: u 57 :: u 58 :: u 59 :: u 60 :: u 61 :: u 62 :: u 63 :: u 64 :: u 65 :: u 66 :: u 67 :: u 68 :: u 69 :: u 70 :: u 71 :: u 72 :: u 73 :: u 74 :: u 75 :: u 76 :: u 77 :: u 78 :: u 79 :: u 80 :: u 81 :: u 82 :: u 83 :: u 84 :: u 85 :: u 86 :: u 87 :: u 88 :: u 89 :: u 90 :: u 91 :: u 92 :: u 93 :: u 94 :: u 95 :: u 96 :: u 97 :: u 98 :: u 99 :: u 100 :: u 101 :: u 102 :: u 103 :: u 104 :: u 105 :: u 106 :: u 107 :: u 108 :: u 109 :: u 110 :: u 111 :: u 112 :: u 113 :: u 114 :: u 115 :: u 116 :: u 117 :: u 118 :: u 119 :: u 120 :: u 121 :: u 122 :: u 123 :: u 124 :: u 125 :: u 126 :: u 127 :: u 128 :: u 129 :: u 130 :: u 131 :: u 132 :: u 133 :: u 134 :: u 135 :: u 136 :: u 137 :: u 138 :: u 139 :: u 140 :: u 141 :: u 142 :: u 143 :: u 144 :: u 145 :: u 146 :: u 147 :: u 148 :: u 149 :: u 150 :: u 151 :: u 152 :: u 153 :: u 154 :: u 155 :: u 156 :: u 157 :: u 158 :: u 159 :: u 160 :: u 161 :: u 162 :: u 163 :: u 164 :: u 165 :: u 166 :: u 167 :: u 168 :: u 169 :: u 170 :: u 171 :: u 172 :: u 173 :: u 174 :: u 175 :: u 176 :: u 177 :: u 178 :: u 179 :: u 180 :: u 181 :: u 182 :: u 183 :: u 184 :: u 185 :: u 186 :: u 187 :: u 188 :: u 189 :: u 190 :: u 191 :: u 192 :: u 193 :: u 194 :: u 195 :: u 196 :: u 197 :: u 198 :: u 199 :: u 200 :: u 201 :: u 202 :: u 203 :: u 204 :: u 205 :: u 206 :: u 207 :: u 208 :: u 209 :: u 210 :: u 211 :: u 212 :: u 213 :: u 214 :: u 215 :: u 216 :: u 217 :: u 218 :: u 219 :: u 220 :: u 221 :: u 222 :: u 223 :: u 224 :: u 225 :: u 226 :: u 227 :: u 228 :: u 229 :: u 230 :: u 231 :: u 232 :: u 233 :: u 234 :: u 235 :: u 236 :: u 237 :: u 238 :: u 239 :: u 240 :: u 241 :: u 242 :: u 243 :: u 244 :: u 245 :: u 246 :: u 247 :: u 248 :: u 249 :: u 250 :: u 251 :: u 252 :: u 253 :: u 254 :: u 255 :: u 256 :: u 257 :: u 258 :: u 259 :: u 260 :: u 261 :: u 262 :: u 263 :: u 264 :: u 265 :: u 266 :: u 267 :: u 268 :: []).toArray, []⟩ := by
  obtain ⟨u, hu⟩ := h.spread
  refine ⟨u, hu.trans ?_⟩
  kernel_rfl
def Mt (B R X O H deep : Nat) (no : Value) (cs : Array Value) (n : Int) (v3 v4 v5 : Value) (w0 : World) (st : WSt) (a : Act) (w : World) : Prop :=
  Fr 269 [.pointer (some ⟨R, 0, none⟩), .int .i64 n, .int .i64 (deep : Int), v3, v4, v5, .pointer (some ⟨X, 0, none⟩), .slice (some ⟨O, 0, none⟩) 12 12, .slice (some ⟨H, 0, none⟩) 12 12] a ∧ Ms B R X O H no cs w0 st w
section
variable {B R X O H deep : Nat} {no : Value} {w0 : World} {n : Int} {v3 v4 v5 : Value} {k : Nat} {name : ByteArray} {size : Int} {As Ai Af : Option Addr} {ny ni nf ca ci cf : Nat}
set_option maxRecDepth 1000000 in
set_option maxHeartbeats 2000000 in
/-- the end: what shuts -/
theorem rt33 (hk : k < 12) (st : WSt) (a : Act) (w : World) (hM : Mt B R X O H deep no #[.int .i64 (k : Int), .string name, .int .i64 size, .slice As ny ca, .slice Ai ni ci, .slice Af nf cf] n v3 v4 v5 w0 st a w) (hL : (st.put (bs (shS k))).s.length ≤ 100000000) (PO : Ending → World → Prop)
    (hQ : ∀ w', Chg (fun k => k = R) w0 w' → RInv B w' R no (st.put (bs (shS k))) → PO (.returned (.tuple #[])) w') :
    (sndC (upC 30 Tryz.f13.body)).wp Tryz.prog (bodyPost Tryz.prog Tryz.f13 PO) a w := by
  obtain ⟨hF, hMs⟩ := hM
  obtain ⟨u, rfl⟩ := lay269 hF
  clear hF
  obtain ⟨S, hS, hb⟩ := hMs.inv.blk
  have hsz : S.size ≤ st.s.length := by rw [← bs_size, hS]; exact Nat.le_refl _
  have z0 : w.cell? ⟨X, 0, none⟩ = some (.int .i64 (k : Int)) := hMs.nd.cell 0
  rw [WSt.put_len, bs_size] at hL
  have hsa := shA_at k hk
  obtain ⟨t, ht⟩ : ∃ z, Hid (shS k = z) := ⟨_, Lib.hid rfl⟩
  rw [ht.out] at hL hsa hQ
  have hz : ¬ 9223372036854775807 < S.size + t.size := by omega
  have hkI : (k : Int) < 12 := by omega
  have hk0 : (0 : Int) ≤ (k : Int) := by omega
  have r1 : ∀ W, Ext w W → W.cell? ⟨R, 1, none⟩ = some (.string S) := fun W hW => (hb.ext hW).cell 1
  have rk : ∀ W, Ext w W → W.cell? ⟨X, 0, none⟩ = some (.int .i64 (k : Int)) := fun W hW => hW.cell z0
  have rs : ∀ W, Ext w W → W.cell? ⟨H, k, none⟩ = some (.string t) := fun W hW => by rw [← hsa]; exact (hMs.sh.ext hW).cell k
  have hkn : k < 12 := hk
  have hfin := fun W (hW : Ext w W) => (hMs.ext hW).put t hS (hb.ext hW)
  have hbW := fun W (hW : Ext w W) => hb.ext hW
  clear hsa hsz hS hMs z0 hL
  conv => arg 2; whnf
  refine Reg.startE (by kernel_rfl) ?_
  refine Reg.tk 0 ?_; (try simp only [Reg.n1, Reg.n2, Reg.n3, Reg.n4, Reg.n5, Reg.n6, Reg.n7])
  refine Reg.tk 1 ?_; (try simp only [Reg.n1, Reg.n2, Reg.n3, Reg.n4, Reg.n5, Reg.n6, Reg.n7])
  refine Reg.tk 2 ?_; (try simp only [Reg.n1, Reg.n2, Reg.n3, Reg.n4, Reg.n5, Reg.n6, Reg.n7])
  refine Reg.tk 3 ?_; (try simp only [Reg.n1, Reg.n2, Reg.n3, Reg.n4, Reg.n5, Reg.n6, Reg.n7])
  refine Reg.tk 4 ?_; (try simp only [Reg.n1, Reg.n2, Reg.n3, Reg.n4, Reg.n5, Reg.n6, Reg.n7])
  refine Reg.tk 5 ?_; (try simp only [Reg.n1, Reg.n2, Reg.n3, Reg.n4, Reg.n5, Reg.n6, Reg.n7])
  refine Reg.tk 6 ?_; (try simp only [Reg.n1, Reg.n2, Reg.n3, Reg.n4, Reg.n5, Reg.n6, Reg.n7])
  refine Reg.tk 7 ?_; (try simp only [Reg.n1, Reg.n2, Reg.n3, Reg.n4, Reg.n5, Reg.n6, Reg.n7])
  refine Reg.tk 8 ?_; (try simp only [Reg.n1, Reg.n2, Reg.n3, Reg.n4, Reg.n5, Reg.n6, Reg.n7])
  refine Reg.tk 9 ?_; (try simp only [Reg.n1, Reg.n2, Reg.n3, Reg.n4, Reg.n5, Reg.n6, Reg.n7])
  refine Reg.tk 10 ?_; (try simp only [Reg.n1, Reg.n2, Reg.n3, Reg.n4, Reg.n5, Reg.n6, Reg.n7])
  refine Reg.tk 11 ?_; (try simp only [Reg.n1, Reg.n2, Reg.n3, Reg.n4, Reg.n5, Reg.n6, Reg.n7])
  refine Reg.tk 12 ?_; (try simp only [Reg.n1, Reg.n2, Reg.n3, Reg.n4, Reg.n5, Reg.n6, Reg.n7])
  refine Reg.last 13 _ rfl (by kernel_rfl) (by kernel_rfl) (by kernel_rfl) (by decide) (by rfl) (fun W hW K hK => ?_)
  have bW := hbW W hW
  have fW := bW.frozen 1
  have cW := bW.cell 1
  go_simp
  refine hK.out _ _ ?_; clear hK K; (try simp only [Reg.n1, Reg.n2, Reg.n3, Reg.n4, Reg.n5, Reg.n6, Reg.n7])
  have hF := hfin W hW
  have hQ2 := hQ _ hF.ch hF.inv
  clear hQ
  go_end0
  exact hQ2

set_option maxRecDepth 1000000 in
set_option maxHeartbeats 2000000 in
/-- a record's fields -/
theorem rt30 {f : Nat} {ns : List Ne} (H' : RTypC B R no ns f (deep + 1)) (hd : deep ≤ 100) (hk : k < 12) (l : List (ByteArray × Bool × Int)) (hl : Sl B w0 (.slice Af nf cf) l.length (fldsZ l)) (hSc : Sch B w0 no ns) (st : WSt) (a : Act) (w : World) (hM : Mt B R X O H deep no #[.int .i64 (k : Int), .string name, .int .i64 size, .slice As ny ca, .slice Ai ni ci, .slice Af nf cf] n v3 v4 v5 w0 st a w)
    (hL : (if k = 11 then rflds (rtyp ns f) l (st.put [123]) else st).s.length ≤ 100000000) (PO : Ending → World → Prop) (K : Act → World → Prop)
    (hK : ∀ a' w', Mt B R X O H deep no #[.int .i64 (k : Int), .string name, .int .i64 size, .slice As ny ca, .slice Ai ni ci, .slice Af nf cf] n v3 v4 v5 w0 (if k = 11 then rflds (rtyp ns f) l (st.put [123]) else st) a' w' → K a' w') :
    (fstC (upC 30 Tryz.f13.body)).wp Tryz.prog (Exit.then K (bodyPost Tryz.prog Tryz.f13 PO)) a w := by
  obtain ⟨hF, hMs⟩ := hM
  obtain ⟨u, rfl⟩ := lay269 hF
  clear hF
  obtain ⟨S, hS, hb⟩ := hMs.inv.blk
  have hsz : S.size ≤ st.s.length := by rw [← bs_size, hS]; exact Nat.le_refl _
  have z0 : w.cell? ⟨X, 0, none⟩ = some (.int .i64 (k : Int)) := hMs.nd.cell 0
  conv => arg 2; whnf
  by_cases h11 : k = 11
  · subst h11
    rw [if_pos rfl] at hL hK
    have hl2 := rflds_len (rtyp_len ns f) l (st.put [123])
    rw [WSt.put_len] at hl2
    simp only [List.length_cons, List.length_nil] at hl2
    have hz : ¬ 9223372036854775807 < S.size + 1 := by omega
    have k1 := hb.cell 1
    have f1 := hb.frozen 1
    have hM2 := hMs.put ⟨#[123]⟩ hS hb
    have hM2 : Ms B R X O H no _ w0 (st.put [123]) _ := hM2
    obtain ⟨w2, hw2⟩ : ∃ z, Hid (w.setCell ⟨R, 1, none⟩ (.string (S ++ ⟨#[123]⟩)) = z) := ⟨_, rfl⟩
    rw [hw2.out] at hM2
    have z5 : w2.cell? ⟨X, 5, none⟩ = some (.slice Af nf cf) := hM2.nd.cell 5
    rw [← hw2.out] at z5
    have hcall := rfields_any H' hd l (.slice Af nf cf) (st.put [123]) w2 hM2.inv (hSc.below hM2.below) (hl.below hM2.below) hL
    obtain ⟨fin, hfin⟩ : ∃ z, Hid (rflds (rtyp ns f) l (st.put [123]) = z) := ⟨_, Lib.hid rfl⟩
    rw [hfin.out] at hcall hK
    clear hS hsz hL hl2 hfin hb hMs hl hSc
    go_wp2_with fail
    rw [hw2.out]
    refine hcall.mono ?_
    rintro e w3 ⟨rfl, hc3, h3⟩
    have hM3 := hM2.step hc3 h3
    clear hcall
    go_wp2_with fail
    exact ⟨⟨_, rfl, rfl⟩, hM3⟩
  · rw [if_neg h11] at hL hK
    have hkb : ((k : Int) == 11) = false := by simpa using (by omega : ¬ (k : Int) = 11)
    clear hS hsz hb
    go_wp2_with fail
    exact ⟨⟨_, rfl, rfl⟩, hMs⟩
def RlAt (B R X O H : Nat) (no : Value) (cs : Array Value) (w0 : World) (T : WT) (l : List Int) (fin : WSt) (i : Nat) (wr : World) : Prop := ∃ st, Ms B R X O H no cs w0 st wr ∧ Hid (rlist T (decide (i = 0)) (l.drop i) st = fin)
set_option maxRecDepth 1000000 in
set_option maxHeartbeats 4000000 in
/-- what a list, a map, a union holds -/
theorem rt24 {f : Nat} {ns : List Ne} (H' : RTypC B R no ns f (deep + 1)) (hd : deep ≤ 100) (hk : k < 12) (l : List Int) (hl : Sl B w0 (.slice Ai ni ci) l.length (intsZ l)) (hSc : Sch B w0 no ns) (st : WSt) (a : Act) (w : World) (hM : Mt B R X O H deep no #[.int .i64 (k : Int), .string name, .int .i64 size, .slice As ny ca, .slice Ai ni ci, .slice Af nf cf] n v3 v4 v5 w0 st a w)
    (hL : (if 5 < k ∧ k < 9 then rlist (rtyp ns f) true l st else st).s.length ≤ 100000000) (PO : Ending → World → Prop) (K : Act → World → Prop)
    (hK : ∀ a' w', Mt B R X O H deep no #[.int .i64 (k : Int), .string name, .int .i64 size, .slice As ny ca, .slice Ai ni ci, .slice Af nf cf] n v3 v4 v5 w0 (if 5 < k ∧ k < 9 then rlist (rtyp ns f) true l st else st) a' w' → K a' w') :
    (fstC (upC 24 Tryz.f13.body)).wp Tryz.prog (Exit.then K (bodyPost Tryz.prog Tryz.f13 PO)) a w := by
  obtain ⟨T, hT⟩ : ∃ T, T = rtyp ns f := ⟨_, rfl⟩
  have hG : WG T := by rw [hT]; exact rtyp_len ns f
  have H2 : ∀ (n : Int) (st : WSt) (w : World), RInv B w R no st → Sch B w no ns → (T n st).s.length ≤ 100000000 → Calls Tryz.prog 13 #[.pointer (some ⟨R, 0, none⟩), .int .i64 n, .int .i64 ((deep : Int) + 1)] w fun e w' => RsP B R no w (T n st) e w' := by
    rw [hT]; intro n st w; have := H' n st w; rw [show ((deep + 1 : Nat) : Int) = (deep : Int) + 1 by omega] at this; exact this
  rw [← hT] at hL hK
  clear hT H'
  obtain ⟨hF, hMs⟩ := hM
  obtain ⟨u, rfl⟩ := lay269 hF
  clear hF
  obtain ⟨S, hS, hb⟩ := hMs.inv.blk
  have hsz : S.size ≤ st.s.length := by rw [← bs_size, hS]; exact Nat.le_refl _
  have z0 : w.cell? ⟨X, 0, none⟩ = some (.int .i64 (k : Int)) := hMs.nd.cell 0
  clear hS hsz hb
  have hdw : IntKind.i64.wrap ((deep : Int) + 1) = (deep : Int) + 1 := by rw [IntKind.wrap_i64]; omega
  conv => arg 2; whnf
  by_cases hkk : 5 < k ∧ k < 9
  · rw [if_pos hkk] at hL hK
    obtain ⟨fin, hfin⟩ : ∃ z, Hid (rlist T true l st = z) := ⟨_, Lib.hid rfl⟩
    rw [hfin.out] at hL hK
    have hk5 : (5 : Int) < (k : Int) := by omega
    have hk9 : (k : Int) < 9 := by omega
    obtain ⟨A, c, e, hnc, hcm, hA, hat⟩ := hl.at_
    injection e with e1 e2 e3
    subst e1; subst e3
    replace e2 := Lib.hid e2
    have hin0 : ni ≤ ci := by rw [e2.out]; exact hnc
    unfold maxLen at hcm
    have hstart : RlAt B R X O H no #[.int .i64 (k : Int), .string name, .int .i64 size, .slice As ny ca, .slice Ai ni ci, .slice Af nf cf] w0 T l fin 0 w := ⟨st, hMs, by rw [List.drop_zero]; exact hfin⟩
    clear hfin hMs z0
    go_wp2_with fail
    go_loopw [10] (fun v10 wr => ∃ i : Nat, i ≤ ni ∧ v10 = .int .i64 i ∧ RlAt B R X O H no #[.int .i64 (k : Int), .string name, .int .i64 size, .slice As ny ca, .slice Ai ni ci, .slice Af nf cf] w0 T l fin i wr) (fun v10 _ => ni - (intOf v10).toNat)
    case atStart => exact ⟨0, by omega, rfl, hstart⟩
    case round =>
      obtain ⟨i, hi, rfl, st1, hM1, hf1⟩ := hrel
      clear hstart
      obtain ⟨S1, hS1, hb1⟩ := hM1.inv.blk
      have z0 : wr.cell? ⟨X, 0, none⟩ = some (.int .i64 (k : Int)) := hM1.nd.cell 0
      have z4 : wr.cell? ⟨X, 4, none⟩ = some (.slice Ai ni ci) := hM1.nd.cell 4
      have c1 : wr.cell? ⟨R, 1, none⟩ = some (.string S1) := hb1.cell 1
      have c3 : wr.cell? ⟨R, 3, none⟩ = some (.bool st1.bad) := hb1.cell 3
      by_cases hin : i < ni
      · have hin' : (i : Int) < (ni : Int) := by omega
        by_cases hbad : st1.bad = true
        · rw [hbad] at c3
          have hf2 : st1 = fin := by
            rw [← hf1.out]
            cases hdl : l.drop i with
            | nil => rfl
            | cons f r => rw [rlist, if_pos hbad]
          subst hf2
          clear hbad
          go_wp2_with fail
          exact ⟨⟨_, rfl, rfl⟩, hM1⟩
        · have hbad' : st1.bad = false := by simpa using hbad
          rw [hbad'] at c3
          obtain ⟨x, hxe⟩ : ∃ x, l[i]? = some x := ⟨_, List.getElem?_eq_getElem (by have := e2.out; omega)⟩
          have hxz : (intsZ l)[i]? = some (.int .i64 x) := by simp [intsZ, hxe]
          obtain ⟨b, off, rfl, hbB, hc⟩ := hat i _ hxz
          have hbR : ¬ b = R := by have := hM1.inv.hR; omega
          have hlow := hM1.below
          have d0 : wr.cell? ⟨b, off + i, none⟩ = some (.int .i64 x) := hc wr hlow i _ hxz
          have hdrop : l.drop i = x :: l.drop (i + 1) := List.drop_eq_getElem?_toList_append .. |>.trans (by rw [hxe]; rfl)
          obtain ⟨st2, hst2⟩ : ∃ z, Hid ((if decide (i = 0) then st1 else st1.put [124]) = z) := ⟨_, Lib.hid rfl⟩
          have hf2 : rlist T false (l.drop (i + 1)) (T x st2) = fin := by rw [← hf1.out, hdrop, rlist, if_neg hbad, hst2.out]
          have hf3 : rlist T (decide (i + 1 = 0)) (l.drop (i + 1)) (T x st2) = fin := by rw [← hf2]; simp
          have hl2 := rlist_len hG false (l.drop (i + 1)) (T x st2)
          rw [hf2] at hl2
          have hl3 := hG x st2
          have Hf3 := Lib.hid hf3
          clear hf2 hf3 hxe hxz hc hdrop hf1 hbad
          by_cases hi0 : i = 0
          · subst hi0
            rw [Nat.add_zero] at d0
            have hst2' : st1 = st2 := hst2.out
            subst hst2'
            have hcall := H2 x st1 wr hM1.inv (hSc.below hlow) (by omega)
            clear hst2 c1
            go_wp2_with fail
            refine hcall.mono ?_
            rintro e w2 ⟨rfl, hc2, h2⟩
            have hM2 := hM1.step hc2 h2
            clear hcall
            go_wp2_with fail
            go_roundw
            case rel => exact ⟨1, by omega, rfl, _, hM2, Hf3⟩
            case measure => simp [intOf]; omega
          · have hi0b : decide (i = 0) = false := by simpa using hi0
            have hpos : (0 : Int) < (i : Int) := by omega
            have hst2' : st1.put [124] = st2 := by rw [← hst2.out, hi0b]; rfl
            have hl4 := WSt.put_len st1 [124]
            rw [hst2'] at hl4
            simp only [List.length_cons, List.length_nil] at hl4
            have hsz1 : S1.size ≤ st1.s.length := by rw [← bs_size, hS1]; exact Nat.le_refl _
            have hz : ¬ 9223372036854775807 < S1.size + 1 := by omega
            have f1 := hb1.frozen 1
            have hM2 := hM1.put ⟨#[124]⟩ hS1 hb1
            have hM2 : Ms B R X O H no _ w0 (st1.put [124]) _ := hM2
            rw [hst2'] at hM2
            obtain ⟨w2, hw2⟩ : ∃ z, Hid (wr.setCell ⟨R, 1, none⟩ (.string (S1 ++ ⟨#[124]⟩)) = z) := ⟨_, rfl⟩
            rw [hw2.out] at hM2
            have y4 : w2.cell? ⟨X, 4, none⟩ = some (.slice (some ⟨b, off, none⟩) ni ci) := hM2.nd.cell 4
            have y0 : w2.cell? ⟨b, off + i, none⟩ = some (.int .i64 x) := by rw [← hw2.out]; exact (Chg.one wr R 1 _).cell d0 hbR
            rw [← hw2.out] at y4 y0
            have hcall := H2 x st2 w2 hM2.inv (hSc.below hM2.below) (by omega)
            clear hst2' hst2 hl4 hsz1
            go_wp2_with fail
            rw [hw2.out]
            refine hcall.mono ?_
            rintro e w3 ⟨rfl, hc3, h3⟩
            have hM3 := hM2.step hc3 h3
            clear hcall
            go_wp2_with fail
            go_roundw
            case rel => exact ⟨i + 1, by omega, by go_num, _, hM3, Hf3⟩
            case measure => simp [intOf]; omega
      · obtain rfl : i = ni := by omega
        have hf2 : st1 = fin := by rw [← hf1.out, e2.out, List.drop_length, rlist]
        subst hf2
        go_wp2_with fail
        exact ⟨⟨_, rfl, rfl⟩, hM1⟩
  · rw [if_neg hkk] at hL hK
    have hor : k ≤ 5 ∨ 9 ≤ k := by omega
    go_wp2_with fail
    go_loopw [10] (fun v10 wr => v10 = .int .i64 0 ∧ wr = w) (fun v10 _ => 0)
    case atStart => exact ⟨rfl, rfl⟩
    case round =>
      obtain ⟨rfl, rfl⟩ := hrel
      rcases hor with h5 | h9
      · have hk5 : ¬ (5 : Int) < (k : Int) := by omega
        go_wp2_with fail
        exact ⟨⟨_, rfl, rfl⟩, hMs⟩
      · have hk5 : (5 : Int) < (k : Int) := by omega
        have hk9 : ¬ (k : Int) < 9 := by omega
        go_wp2_with fail
        exact ⟨⟨_, rfl, rfl⟩, hMs⟩
def RyAt (B R X O H : Nat) (no : Value) (cs : Array Value) (w0 : World) (l : List ByteArray) (fin : WSt) (i : Nat) (wr : World) : Prop := ∃ st, Ms B R X O H no cs w0 st wr ∧ Hid (rsyms (decide (i = 0)) (l.drop i) st = fin)
set_option maxRecDepth 1000000 in
set_option maxHeartbeats 4000000 in
/-- an enum's symbols -/
theorem rt16 (hk : k < 12) (l : List ByteArray) (hl : Sl B w0 (.slice As ny ca) l.length (txs l)) (st : WSt) (a : Act) (w : World) (hM : Mt B R X O H deep no #[.int .i64 (k : Int), .string name, .int .i64 size, .slice As ny ca, .slice Ai ni ci, .slice Af nf cf] n v3 v4 v5 w0 st a w)
    (hL : (if k = 9 then rsyms true l (st.put [60]) else st).s.length ≤ 100000000) (PO : Ending → World → Prop) (K : Act → World → Prop)
    (hK : ∀ a' w', Mt B R X O H deep no #[.int .i64 (k : Int), .string name, .int .i64 size, .slice As ny ca, .slice Ai ni ci, .slice Af nf cf] n v3 v4 v5 w0 (if k = 9 then rsyms true l (st.put [60]) else st) a' w' → K a' w') :
    (fstC (upC 16 Tryz.f13.body)).wp Tryz.prog (Exit.then K (bodyPost Tryz.prog Tryz.f13 PO)) a w := by
  obtain ⟨hF, hMs⟩ := hM
  obtain ⟨u, rfl⟩ := lay269 hF
  clear hF
  obtain ⟨S, hS, hb⟩ := hMs.inv.blk
  have hsz : S.size ≤ st.s.length := by rw [← bs_size, hS]; exact Nat.le_refl _
  have z0 : w.cell? ⟨X, 0, none⟩ = some (.int .i64 (k : Int)) := hMs.nd.cell 0
  conv => arg 2; whnf
  by_cases h9 : k = 9
  · subst h9
    rw [if_pos rfl] at hL hK
    have hl2 := rsyms_len true l (st.put [60])
    rw [WSt.put_len] at hl2
    simp only [List.length_cons, List.length_nil] at hl2
    have hz : ¬ 9223372036854775807 < S.size + 1 := by omega
    have k1 := hb.cell 1
    have f1 := hb.frozen 1
    have hM2 := hMs.put ⟨#[60]⟩ hS hb
    have hM2 : Ms B R X O H no _ w0 (st.put [60]) _ := hM2
    obtain ⟨w2, hw2⟩ : ∃ z, Hid (w.setCell ⟨R, 1, none⟩ (.string (S ++ ⟨#[60]⟩)) = z) := ⟨_, rfl⟩
    rw [hw2.out] at hM2
    obtain ⟨fin, hfin⟩ : ∃ z, Hid (rsyms true l (st.put [60]) = z) := ⟨_, Lib.hid rfl⟩
    rw [hfin.out] at hL hK
    obtain ⟨A, c, e, hnc, hcm, hA, hat⟩ := hl.at_
    injection e with e1 e2 e3
    subst e1; subst e3
    replace e2 := Lib.hid e2
    have hin0 : ny ≤ ca := by rw [e2.out]; exact hnc
    unfold maxLen at hcm
    have hstart : RyAt B R X O H no #[.int .i64 9, .string name, .int .i64 size, .slice As ny ca, .slice Ai ni ci, .slice Af nf cf] w0 l fin 0 w2 := ⟨_, hM2, by rw [List.drop_zero]; exact hfin⟩
    clear hfin hM2 hMs hS hsz hl2 hb
    go_wp2_with fail
    rw [hw2.out]
    go_loopw [9] (fun v9 wr => ∃ i : Nat, i ≤ ny ∧ v9 = .int .i64 i ∧ RyAt B R X O H no #[.int .i64 9, .string name, .int .i64 size, .slice As ny ca, .slice Ai ni ci, .slice Af nf cf] w0 l fin i wr) (fun v9 _ => ny - (intOf v9).toNat)
    case atStart => exact ⟨0, by omega, rfl, hstart⟩
    case round =>
      obtain ⟨i, hi, rfl, st1, hM1, hf1⟩ := hrel
      clear hstart hw2 k1 f1 z0 hz
      obtain ⟨S1, hS1, hb1⟩ := hM1.inv.blk
      have z3 : wr.cell? ⟨X, 3, none⟩ = some (.slice As ny ca) := hM1.nd.cell 3
      have c1 : wr.cell? ⟨R, 1, none⟩ = some (.string S1) := hb1.cell 1
      have hsz1 : S1.size = st1.s.length := by rw [← bs_size, hS1]
      by_cases hin : i < ny
      · have hin' : (i : Int) < (ny : Int) := by omega
        by_cases h46 : 4096 < st1.s.length
        · have hle : ¬ (S1.size : Int) ≤ 4096 := by omega
          have hf2 : st1 = fin := by
            rw [← hf1.out]
            cases hdl : l.drop i with
            | nil => rfl
            | cons f r => rw [rsyms, if_pos h46]
          subst hf2
          clear hsz1
          go_wp2_with fail
          exact ⟨⟨_, rfl, rfl⟩, hM1⟩
        · have hle : (S1.size : Int) ≤ 4096 := by omega
          obtain ⟨x, hxe⟩ : ∃ x, l[i]? = some x := ⟨_, List.getElem?_eq_getElem (by have := e2.out; omega)⟩
          have hxz : (txs l)[i]? = some (.string x) := by simp [txs, hxe]
          obtain ⟨b, off, rfl, hbB, hc⟩ := hat i _ hxz
          have hbR : ¬ b = R := by have := hM1.inv.hR; omega
          have d0 : wr.cell? ⟨b, off + i, none⟩ = some (.string x) := hc wr hM1.below i _ hxz
          have hdrop : l.drop i = x :: l.drop (i + 1) := List.drop_eq_getElem?_toList_append .. |>.trans (by rw [hxe]; rfl)
          obtain ⟨st2, hst2⟩ : ∃ z, Hid ((if decide (i = 0) then st1 else st1.put [44]) = z) := ⟨_, Lib.hid rfl⟩
          have hf2 : rsyms false (l.drop (i + 1)) (st2.put (bs x)) = fin := by rw [← hf1.out, hdrop, rsyms, if_neg h46, hst2.out]
          have hf3 : rsyms (decide (i + 1 = 0)) (l.drop (i + 1)) (st2.put (bs x)) = fin := by rw [← hf2]; simp
          have hl2 := rsyms_len false (l.drop (i + 1)) (st2.put (bs x))
          rw [hf2, WSt.put_len, bs_size] at hl2
          have Hf3 := Lib.hid hf3
          clear hf2 hf3 hxe hxz hc hdrop hf1
          by_cases hi0 : i = 0
          · subst hi0
            rw [Nat.add_zero] at d0
            have hst2' : st1 = st2 := hst2.out
            subst hst2'
            have hz : ¬ 9223372036854775807 < S1.size + x.size := by omega
            have r1 : ∀ W, Ext wr W → W.cell? ⟨R, 1, none⟩ = some (.string S1) := fun W hW => hW.cell c1
            have r3 : ∀ W, Ext wr W → W.cell? ⟨X, 3, none⟩ = some (.slice (some ⟨b, off, none⟩) ny ca) := fun W hW => hW.cell z3
            have rd : ∀ W, Ext wr W → W.cell? ⟨b, off, none⟩ = some (.string x) := fun W hW => hW.cell d0
            have hfin := fun W (hW : Ext wr W) => (hM1.ext hW).put x hS1 (hb1.ext hW)
            have hbW := fun W (hW : Ext wr W) => hb1.ext hW
            clear hst2 hsz1 h46
            go_wp2_with fail
            refine Reg.startE (by kernel_rfl) ?_
            refine Reg.tk 0 ?_; (try simp only [Reg.n1, Reg.n2, Reg.n3, Reg.n4, Reg.n5, Reg.n6, Reg.n7])
            refine Reg.tk 1 ?_; (try simp only [Reg.n1, Reg.n2, Reg.n3, Reg.n4, Reg.n5, Reg.n6, Reg.n7])
            refine Reg.tk 2 ?_; (try simp only [Reg.n1, Reg.n2, Reg.n3, Reg.n4, Reg.n5, Reg.n6, Reg.n7])
            refine Reg.tk 3 ?_; (try simp only [Reg.n1, Reg.n2, Reg.n3, Reg.n4, Reg.n5, Reg.n6, Reg.n7])
            refine Reg.tk 4 ?_; (try simp only [Reg.n1, Reg.n2, Reg.n3, Reg.n4, Reg.n5, Reg.n6, Reg.n7])
            refine Reg.tk 5 ?_; (try simp only [Reg.n1, Reg.n2, Reg.n3, Reg.n4, Reg.n5, Reg.n6, Reg.n7])
            refine Reg.tk 6 ?_; (try simp only [Reg.n1, Reg.n2, Reg.n3, Reg.n4, Reg.n5, Reg.n6, Reg.n7])
            refine Reg.tk 7 ?_; (try simp only [Reg.n1, Reg.n2, Reg.n3, Reg.n4, Reg.n5, Reg.n6, Reg.n7])
            refine Reg.tk 8 ?_; (try simp only [Reg.n1, Reg.n2, Reg.n3, Reg.n4, Reg.n5, Reg.n6, Reg.n7])
            refine Reg.tk 9 ?_; (try simp only [Reg.n1, Reg.n2, Reg.n3, Reg.n4, Reg.n5, Reg.n6, Reg.n7])
            refine Reg.tk 10 ?_; (try simp only [Reg.n1, Reg.n2, Reg.n3, Reg.n4, Reg.n5, Reg.n6, Reg.n7])
            refine Reg.tk 11 ?_; (try simp only [Reg.n1, Reg.n2, Reg.n3, Reg.n4, Reg.n5, Reg.n6, Reg.n7])
            refine Reg.tk 12 ?_; (try simp only [Reg.n1, Reg.n2, Reg.n3, Reg.n4, Reg.n5, Reg.n6, Reg.n7])
            refine Reg.last 13 _ rfl (by kernel_rfl) (by kernel_rfl) (by kernel_rfl) (by decide) (by rfl) (fun W hW K hK => ?_)
            have bW := hbW W hW
            have fW := bW.frozen 1
            have cW := bW.cell 1
            go_simp
            refine hK.out _ _ ?_; clear hK K; (try simp only [Reg.n1, Reg.n2, Reg.n3, Reg.n4, Reg.n5, Reg.n6, Reg.n7])
            have hF := hfin W hW
            clear r1 r3 rd
            go_wp2_with fail
            go_roundw
            case rel => exact ⟨1, by omega, rfl, _, hF, Hf3⟩
            case measure => simp [intOf]; omega
          · have hi0b : decide (i = 0) = false := by simpa using hi0
            have hpos : (0 : Int) < (i : Int) := by omega
            have hst2' : st1.put [44] = st2 := by rw [← hst2.out, hi0b]; rfl
            have hl4 := WSt.put_len st1 [44]
            rw [hst2'] at hl4
            simp only [List.length_cons, List.length_nil] at hl4
            have hz1 : ¬ 9223372036854775807 < S1.size + 1 := by omega
            have f1 := hb1.frozen 1
            have hM2 := hM1.put ⟨#[44]⟩ hS1 hb1
            have hM2 : Ms B R X O H no _ w0 (st1.put [44]) _ := hM2
            rw [hst2'] at hM2
            obtain ⟨w2, hw2⟩ : ∃ z, Hid (wr.setCell ⟨R, 1, none⟩ (.string (S1 ++ ⟨#[44]⟩)) = z) := ⟨_, rfl⟩
            rw [hw2.out] at hM2
            have y0 : w2.cell? ⟨b, off + i, none⟩ = some (.string x) := by rw [← hw2.out]; exact (Chg.one wr R 1 _).cell d0 hbR
            obtain ⟨S2, hS2, hb2⟩ := hM2.inv.blk
            have hsz2 : S2.size = st2.s.length := by rw [← bs_size, hS2]
            have hz : ¬ 9223372036854775807 < S2.size + x.size := by omega
            have r1 : ∀ W, Ext w2 W → W.cell? ⟨R, 1, none⟩ = some (.string S2) := fun W hW => (hb2.ext hW).cell 1
            have r3 : ∀ W, Ext w2 W → W.cell? ⟨X, 3, none⟩ = some (.slice (some ⟨b, off, none⟩) ny ca) := fun W hW => (hM2.nd.ext hW).cell 3
            have rd : ∀ W, Ext w2 W → W.cell? ⟨b, off + i, none⟩ = some (.string x) := fun W hW => hW.cell y0
            have hfin := fun W (hW : Ext w2 W) => (hM2.ext hW).put x hS2 (hb2.ext hW)
            have hbW := fun W (hW : Ext w2 W) => hb2.ext hW
            clear hst2 hsz1 h46 hsz2 hst2' hl4
            go_wp2_with fail
            rw [hw2.out]
            refine Reg.startE (by kernel_rfl) ?_
            refine Reg.tk 0 ?_; (try simp only [Reg.n1, Reg.n2, Reg.n3, Reg.n4, Reg.n5, Reg.n6, Reg.n7])
            refine Reg.tk 1 ?_; (try simp only [Reg.n1, Reg.n2, Reg.n3, Reg.n4, Reg.n5, Reg.n6, Reg.n7])
            refine Reg.tk 2 ?_; (try simp only [Reg.n1, Reg.n2, Reg.n3, Reg.n4, Reg.n5, Reg.n6, Reg.n7])
            refine Reg.tk 3 ?_; (try simp only [Reg.n1, Reg.n2, Reg.n3, Reg.n4, Reg.n5, Reg.n6, Reg.n7])
            refine Reg.tk 4 ?_; (try simp only [Reg.n1, Reg.n2, Reg.n3, Reg.n4, Reg.n5, Reg.n6, Reg.n7])
            refine Reg.tk 5 ?_; (try simp only [Reg.n1, Reg.n2, Reg.n3, Reg.n4, Reg.n5, Reg.n6, Reg.n7])
            refine Reg.tk 6 ?_; (try simp only [Reg.n1, Reg.n2, Reg.n3, Reg.n4, Reg.n5, Reg.n6, Reg.n7])
            refine Reg.tk 7 ?_; (try simp only [Reg.n1, Reg.n2, Reg.n3, Reg.n4, Reg.n5, Reg.n6, Reg.n7])
            refine Reg.tk 8 ?_; (try simp only [Reg.n1, Reg.n2, Reg.n3, Reg.n4, Reg.n5, Reg.n6, Reg.n7])
            refine Reg.tk 9 ?_; (try simp only [Reg.n1, Reg.n2, Reg.n3, Reg.n4, Reg.n5, Reg.n6, Reg.n7])
            refine Reg.tk 10 ?_; (try simp only [Reg.n1, Reg.n2, Reg.n3, Reg.n4, Reg.n5, Reg.n6, Reg.n7])
            refine Reg.tk 11 ?_; (try simp only [Reg.n1, Reg.n2, Reg.n3, Reg.n4, Reg.n5, Reg.n6, Reg.n7])
            refine Reg.tk 12 ?_; (try simp only [Reg.n1, Reg.n2, Reg.n3, Reg.n4, Reg.n5, Reg.n6, Reg.n7])
            refine Reg.last 13 _ rfl (by kernel_rfl) (by kernel_rfl) (by kernel_rfl) (by decide) (by rfl) (fun W hW K hK => ?_)
            have bW := hbW W hW
            have fW := bW.frozen 1
            have cW := bW.cell 1
            go_simp
            refine hK.out _ _ ?_; clear hK K; (try simp only [Reg.n1, Reg.n2, Reg.n3, Reg.n4, Reg.n5, Reg.n6, Reg.n7])
            have hF := hfin W hW
            clear r1 r3 rd
            go_wp2_with fail
            go_roundw
            case rel => exact ⟨i + 1, by omega, by go_num, _, hF, Hf3⟩
            case measure => simp [intOf]; omega
      · obtain rfl : i = ny := by omega
        have hf2 : st1 = fin := by rw [← hf1.out, e2.out, List.drop_length, rsyms]
        subst hf2
        go_wp2_with fail
        exact ⟨⟨_, rfl, rfl⟩, hM1⟩
  · rw [if_neg h9] at hL hK
    have hkb : ((k : Int) == 9) = false := by simpa using (by omega : ¬ (k : Int) = 9)
    clear hS hsz hb
    go_wp2_with fail
    exact ⟨⟨_, rfl, rfl⟩, hMs⟩
end
end Go.Proofs.YtejcacbbhijdcaaGreatDoor.Pr
/- parse: the reference's writer: a type, walked. -/
namespace Go.Proofs.YtejcacbbhijdcaaGreatDoor.Pr
open Go.ChangeShapes Go.WideShapes Go.ChangeAt Go.RowKit
open Base Lx Mi Piece
set_option linter.unusedVariables false
set_option linter.unusedSimpArgs false

section
variable {B R X O H deep : Nat} {no : Value} {w0 : World} {n : Int} {v3 v4 v5 : Value} {k : Nat} {name : ByteArray} {size : Int} {As Ai Af : Option Addr} {ny ni nf ca ci cf : Nat}
set_option maxRecDepth 1000000 in
set_option maxHeartbeats 2000000 in
/-- a fixed's size -/
theorem rt14 (hk : k < 12) (hsr : -9223372036854775808 ≤ size ∧ size ≤ 9223372036854775807) (st : WSt) (a : Act) (w : World) (hM : Mt B R X O H deep no #[.int .i64 (k : Int), .string name, .int .i64 size, .slice As ny ca, .slice Ai ni ci, .slice Af nf cf] n v3 v4 v5 w0 st a w)
    (hL : (if k = 10 then st.put ([32] ++ digR size) else st).s.length ≤ 100000000) (PO : Ending → World → Prop) (K : Act → World → Prop)
    (hK : ∀ a' w', Mt B R X O H deep no #[.int .i64 (k : Int), .string name, .int .i64 size, .slice As ny ca, .slice Ai ni ci, .slice Af nf cf] n v3 v4 v5 w0 (if k = 10 then st.put ([32] ++ digR size) else st) a' w' → K a' w') :
    (fstC (upC 14 Tryz.f13.body)).wp Tryz.prog (Exit.then K (bodyPost Tryz.prog Tryz.f13 PO)) a w := by
  obtain ⟨hF, hMs⟩ := hM
  obtain ⟨u, rfl⟩ := lay269 hF
  clear hF
  obtain ⟨S, hS, hb⟩ := hMs.inv.blk
  have hsz : S.size ≤ st.s.length := by rw [← bs_size, hS]; exact Nat.le_refl _
  have z0 : w.cell? ⟨X, 0, none⟩ = some (.int .i64 (k : Int)) := hMs.nd.cell 0
  conv => arg 2; whnf
  by_cases h10 : k = 10
  · subst h10
    rw [if_pos rfl] at hL hK
    obtain ⟨D, hD⟩ : ∃ D : ByteArray, D = ⟨(digR size).toArray⟩ := ⟨_, rfl⟩
    have hbD : bs D = digR size := by rw [hD]; rfl
    have hdg := fun W => digits_any size W
    simp only [← hD] at hdg
    have hl2 : st.s.length + (1 + D.size) ≤ 100000000 := by
      rw [WSt.put_len, List.length_append] at hL
      have := bs_size D
      rw [hbD] at this
      simp only [List.length_cons, List.length_nil] at hL
      omega
    have hz1 : ¬ 9223372036854775807 < S.size + 1 := by omega
    have hz2 : ¬ 9223372036854775807 < S.size + 1 + D.size := by omega
    have r1 : ∀ W, Ext w W → W.cell? ⟨R, 1, none⟩ = some (.string S) := fun W hW => (hb.ext hW).cell 1
    have r2 : ∀ W, Ext w W → W.cell? ⟨X, 2, none⟩ = some (.int .i64 size) := fun W hW => (hMs.nd.ext hW).cell 2
    have hfin := fun W (hW : Ext w W) => (hMs.ext hW).put (⟨#[32]⟩ ++ D) hS (hb.ext hW)
    have hbW := fun W (hW : Ext w W) => hb.ext hW
    rw [bs_append, hbD] at hfin
    clear hMs hS hsz hl2 hD hbD hb hL
    go_wp2_with fail
    refine Reg.startE (by kernel_rfl) ?_
    refine Reg.tk 0 ?_; (try simp only [Reg.n1, Reg.n2, Reg.n3, Reg.n4, Reg.n5, Reg.n6, Reg.n7])
    refine Reg.tk 1 ?_; (try simp only [Reg.n1, Reg.n2, Reg.n3, Reg.n4, Reg.n5, Reg.n6, Reg.n7])
    refine Reg.tk 2 ?_; (try simp only [Reg.n1, Reg.n2, Reg.n3, Reg.n4, Reg.n5, Reg.n6, Reg.n7])
    refine Reg.tk 3 ?_; (try simp only [Reg.n1, Reg.n2, Reg.n3, Reg.n4, Reg.n5, Reg.n6, Reg.n7])
    refine Reg.tk 4 ?_; (try simp only [Reg.n1, Reg.n2, Reg.n3, Reg.n4, Reg.n5, Reg.n6, Reg.n7])
    refine Reg.tk 5 ?_; (try simp only [Reg.n1, Reg.n2, Reg.n3, Reg.n4, Reg.n5, Reg.n6, Reg.n7])
    refine Reg.tk 6 ?_; (try simp only [Reg.n1, Reg.n2, Reg.n3, Reg.n4, Reg.n5, Reg.n6, Reg.n7])
    refine Reg.tk 7 ?_; (try simp only [Reg.n1, Reg.n2, Reg.n3, Reg.n4, Reg.n5, Reg.n6, Reg.n7])
    refine Reg.onlyE 8 _ rfl (by kernel_rfl) (by decide) (by rfl) (fun W hW K hK => ?_); go_simp
    refine (hdg W).mono ?_
    rintro e wX ⟨rfl, hX⟩
    refine hK.out _ _ (hX) ?_; clear hK K; (try simp only [Reg.n1, Reg.n2, Reg.n3, Reg.n4, Reg.n5, Reg.n6, Reg.n7])
    refine Reg.tk 9 ?_; (try simp only [Reg.n1, Reg.n2, Reg.n3, Reg.n4, Reg.n5, Reg.n6, Reg.n7])
    refine Reg.tk 10 ?_; (try simp only [Reg.n1, Reg.n2, Reg.n3, Reg.n4, Reg.n5, Reg.n6, Reg.n7])
    refine Reg.tk 11 ?_; (try simp only [Reg.n1, Reg.n2, Reg.n3, Reg.n4, Reg.n5, Reg.n6, Reg.n7])
    refine Reg.lastD 12 _ rfl (by kernel_rfl) (by kernel_rfl) (by kernel_rfl) (by decide) (by rfl) (fun W hW K hK => ?_)
    have hW2 : Ext w W := (by repeat (first | assumption | exact Ext.refl _ | refine Ext.trans (by assumption) ?_ | apply Ext.drew | apply Ext.drewN | apply Ext.alloc))
    have bW := hbW W hW2
    have fW := bW.frozen 1
    have cW := bW.cell 1
    go_simp
    refine hK.out _ _ ?_; clear hK K; (try simp only [Reg.n1, Reg.n2, Reg.n3, Reg.n4, Reg.n5, Reg.n6, Reg.n7])
    have hF := hfin W ((by repeat (first | assumption | exact Ext.refl _ | refine Ext.trans (by assumption) ?_ | apply Ext.drew | apply Ext.drewN | apply Ext.alloc)))
    rw [← ByteArray.append_assoc] at hF
    exact hK _ _ ⟨⟨_, rfl, rfl⟩, hF⟩
  · rw [if_neg h10] at hL hK
    have hkb : ((k : Int) == 10) = false := by simpa using (by omega : ¬ (k : Int) = 10)
    clear hS hsz hb
    go_wp2_with fail
    exact ⟨⟨_, rfl, rfl⟩, hMs⟩
set_option maxRecDepth 1000000 in
set_option maxHeartbeats 2000000 in
/-- a name -/
theorem rt12 (hk : k < 12) (st : WSt) (a : Act) (w : World) (hM : Mt B R X O H deep no #[.int .i64 (k : Int), .string name, .int .i64 size, .slice As ny ca, .slice Ai ni ci, .slice Af nf cf] n v3 v4 v5 w0 st a w)
    (hL : (if 9 ≤ k then st.put (bs name) else st).s.length ≤ 100000000) (PO : Ending → World → Prop) (K : Act → World → Prop)
    (hK : ∀ a' w', Mt B R X O H deep no #[.int .i64 (k : Int), .string name, .int .i64 size, .slice As ny ca, .slice Ai ni ci, .slice Af nf cf] n v3 v4 v5 w0 (if 9 ≤ k then st.put (bs name) else st) a' w' → K a' w') :
    (fstC (upC 12 Tryz.f13.body)).wp Tryz.prog (Exit.then K (bodyPost Tryz.prog Tryz.f13 PO)) a w := by
  obtain ⟨hF, hMs⟩ := hM
  obtain ⟨u, rfl⟩ := lay269 hF
  clear hF
  obtain ⟨S, hS, hb⟩ := hMs.inv.blk
  have hsz : S.size ≤ st.s.length := by rw [← bs_size, hS]; exact Nat.le_refl _
  have z0 : w.cell? ⟨X, 0, none⟩ = some (.int .i64 (k : Int)) := hMs.nd.cell 0
  conv => arg 2; whnf
  by_cases h9 : 9 ≤ k
  · rw [if_pos h9] at hL hK
    rw [WSt.put_len, bs_size] at hL
    have hkI : (9 : Int) ≤ (k : Int) := by omega
    have hz1 : ¬ 9223372036854775807 < S.size + name.size := by omega
    have r1 : ∀ W, Ext w W → W.cell? ⟨R, 1, none⟩ = some (.string S) := fun W hW => (hb.ext hW).cell 1
    have r2 : ∀ W, Ext w W → W.cell? ⟨X, 1, none⟩ = some (.string name) := fun W hW => (hMs.nd.ext hW).cell 1
    have hfin := fun W (hW : Ext w W) => (hMs.ext hW).put name hS (hb.ext hW)
    have hbW := fun W (hW : Ext w W) => hb.ext hW
    clear hMs hS hsz hb hL
    go_wp2_with fail
    refine Reg.startE (by kernel_rfl) ?_
    refine Reg.tk 0 ?_; (try simp only [Reg.n1, Reg.n2, Reg.n3, Reg.n4, Reg.n5, Reg.n6, Reg.n7])
    refine Reg.tk 1 ?_; (try simp only [Reg.n1, Reg.n2, Reg.n3, Reg.n4, Reg.n5, Reg.n6, Reg.n7])
    refine Reg.tk 2 ?_; (try simp only [Reg.n1, Reg.n2, Reg.n3, Reg.n4, Reg.n5, Reg.n6, Reg.n7])
    refine Reg.tk 3 ?_; (try simp only [Reg.n1, Reg.n2, Reg.n3, Reg.n4, Reg.n5, Reg.n6, Reg.n7])
    refine Reg.tk 4 ?_; (try simp only [Reg.n1, Reg.n2, Reg.n3, Reg.n4, Reg.n5, Reg.n6, Reg.n7])
    refine Reg.tk 5 ?_; (try simp only [Reg.n1, Reg.n2, Reg.n3, Reg.n4, Reg.n5, Reg.n6, Reg.n7])
    refine Reg.tk 6 ?_; (try simp only [Reg.n1, Reg.n2, Reg.n3, Reg.n4, Reg.n5, Reg.n6, Reg.n7])
    refine Reg.tk 7 ?_; (try simp only [Reg.n1, Reg.n2, Reg.n3, Reg.n4, Reg.n5, Reg.n6, Reg.n7])
    refine Reg.tk 8 ?_; (try simp only [Reg.n1, Reg.n2, Reg.n3, Reg.n4, Reg.n5, Reg.n6, Reg.n7])
    refine Reg.tk 9 ?_; (try simp only [Reg.n1, Reg.n2, Reg.n3, Reg.n4, Reg.n5, Reg.n6, Reg.n7])
    refine Reg.last 10 _ rfl (by kernel_rfl) (by kernel_rfl) (by kernel_rfl) (by decide) (by rfl) (fun W hW K hK => ?_)
    have bW := hbW W hW
    have fW := bW.frozen 1
    have cW := bW.cell 1
    go_simp
    refine hK.out _ _ ?_; clear hK K; (try simp only [Reg.n1, Reg.n2, Reg.n3, Reg.n4, Reg.n5, Reg.n6, Reg.n7])
    have hF := hfin W hW
    exact hK _ _ ⟨⟨_, rfl, rfl⟩, hF⟩
  · rw [if_neg h9] at hL hK
    have hkb : ¬ (9 : Int) ≤ (k : Int) := by omega
    clear hS hsz hb
    go_wp2_with fail
    exact ⟨⟨_, rfl, rfl⟩, hMs⟩
set_option maxRecDepth 1000000 in
set_option maxHeartbeats 2000000 in
/-- what opens -/
theorem rt11 (hk : k < 12) (st : WSt) (a : Act) (w : World) (hM : Mt B R X O H deep no #[.int .i64 (k : Int), .string name, .int .i64 size, .slice As ny ca, .slice Ai ni ci, .slice Af nf cf] n v3 v4 v5 w0 st a w)
    (hL : (st.put (bs (opS k))).s.length ≤ 100000000) (PO : Ending → World → Prop) (K : Act → World → Prop)
    (hK : ∀ a' w', Mt B R X O H deep no #[.int .i64 (k : Int), .string name, .int .i64 size, .slice As ny ca, .slice Ai ni ci, .slice Af nf cf] n v3 v4 v5 w0 (st.put (bs (opS k))) a' w' → K a' w') :
    (fstC (tlC 11 Tryz.f13.body)).wp Tryz.prog (Exit.then K (bodyPost Tryz.prog Tryz.f13 PO)) a w := by
  obtain ⟨hF, hMs⟩ := hM
  obtain ⟨u, rfl⟩ := lay269 hF
  clear hF
  obtain ⟨S, hS, hb⟩ := hMs.inv.blk
  have hsz : S.size ≤ st.s.length := by rw [← bs_size, hS]; exact Nat.le_refl _
  have z0 : w.cell? ⟨X, 0, none⟩ = some (.int .i64 (k : Int)) := hMs.nd.cell 0
  rw [WSt.put_len, bs_size] at hL
  have hsa := opA_at k hk
  obtain ⟨t, ht⟩ : ∃ z, Hid (opS k = z) := ⟨_, Lib.hid rfl⟩
  rw [ht.out] at hL hsa hK
  have hz : ¬ 9223372036854775807 < S.size + t.size := by omega
  have hkI : (k : Int) < 12 := by omega
  have hk0 : (0 : Int) ≤ (k : Int) := by omega
  have r1 : ∀ W, Ext w W → W.cell? ⟨R, 1, none⟩ = some (.string S) := fun W hW => (hb.ext hW).cell 1
  have rk : ∀ W, Ext w W → W.cell? ⟨X, 0, none⟩ = some (.int .i64 (k : Int)) := fun W hW => hW.cell z0
  have rs : ∀ W, Ext w W → W.cell? ⟨O, k, none⟩ = some (.string t) := fun W hW => by rw [← hsa]; exact (hMs.op.ext hW).cell k
  have hkn : k < 12 := hk
  have hfin := fun W (hW : Ext w W) => (hMs.ext hW).put t hS (hb.ext hW)
  have hbW := fun W (hW : Ext w W) => hb.ext hW
  clear hsa hsz hS hMs z0 hL
  conv => arg 2; whnf
  refine Reg.startE (by kernel_rfl) ?_
  refine Reg.tk 0 ?_; (try simp only [Reg.n1, Reg.n2, Reg.n3, Reg.n4, Reg.n5, Reg.n6, Reg.n7])
  refine Reg.tk 1 ?_; (try simp only [Reg.n1, Reg.n2, Reg.n3, Reg.n4, Reg.n5, Reg.n6, Reg.n7])
  refine Reg.tk 2 ?_; (try simp only [Reg.n1, Reg.n2, Reg.n3, Reg.n4, Reg.n5, Reg.n6, Reg.n7])
  refine Reg.tk 3 ?_; (try simp only [Reg.n1, Reg.n2, Reg.n3, Reg.n4, Reg.n5, Reg.n6, Reg.n7])
  refine Reg.tk 4 ?_; (try simp only [Reg.n1, Reg.n2, Reg.n3, Reg.n4, Reg.n5, Reg.n6, Reg.n7])
  refine Reg.tk 5 ?_; (try simp only [Reg.n1, Reg.n2, Reg.n3, Reg.n4, Reg.n5, Reg.n6, Reg.n7])
  refine Reg.tk 6 ?_; (try simp only [Reg.n1, Reg.n2, Reg.n3, Reg.n4, Reg.n5, Reg.n6, Reg.n7])
  refine Reg.tk 7 ?_; (try simp only [Reg.n1, Reg.n2, Reg.n3, Reg.n4, Reg.n5, Reg.n6, Reg.n7])
  refine Reg.tk 8 ?_; (try simp only [Reg.n1, Reg.n2, Reg.n3, Reg.n4, Reg.n5, Reg.n6, Reg.n7])
  refine Reg.tk 9 ?_; (try simp only [Reg.n1, Reg.n2, Reg.n3, Reg.n4, Reg.n5, Reg.n6, Reg.n7])
  refine Reg.tk 10 ?_; (try simp only [Reg.n1, Reg.n2, Reg.n3, Reg.n4, Reg.n5, Reg.n6, Reg.n7])
  refine Reg.tk 11 ?_; (try simp only [Reg.n1, Reg.n2, Reg.n3, Reg.n4, Reg.n5, Reg.n6, Reg.n7])
  refine Reg.tk 12 ?_; (try simp only [Reg.n1, Reg.n2, Reg.n3, Reg.n4, Reg.n5, Reg.n6, Reg.n7])
  refine Reg.last 13 _ rfl (by kernel_rfl) (by kernel_rfl) (by kernel_rfl) (by decide) (by rfl) (fun W hW K hK => ?_)
  have bW := hbW W hW
  have fW := bW.frozen 1
  have cW := bW.cell 1
  go_simp
  refine hK.out _ _ ?_; clear hK K; (try simp only [Reg.n1, Reg.n2, Reg.n3, Reg.n4, Reg.n5, Reg.n6, Reg.n7])
  have hF := hfin W hW
  exact hK _ _ ⟨⟨_, rfl, rfl⟩, hF⟩

/-- a node's text, part by part -/
def q30 (T : WT) (d : Ne) (k : Nat) (st : WSt) : WSt := (if k = 11 then rflds T d.fields (st.put [123]) else st).put (bs (shS k))
def q24 (T : WT) (d : Ne) (k : Nat) (st : WSt) : WSt := q30 T d k (if 5 < k ∧ k < 9 then rlist T true d.items st else st)
def q16 (T : WT) (d : Ne) (k : Nat) (st : WSt) : WSt := q24 T d k (if k = 9 then rsyms true d.syms (st.put [60]) else st)
def q14 (T : WT) (d : Ne) (k : Nat) (st : WSt) : WSt := q16 T d k (if k = 10 then st.put ([32] ++ digR d.size) else st)
def q12 (T : WT) (d : Ne) (k : Nat) (st : WSt) : WSt := q14 T d k (if 9 ≤ k then st.put (bs d.name) else st)
def q11 (T : WT) (d : Ne) (k : Nat) (st : WSt) : WSt := q12 T d k (st.put (bs (opS k)))
theorem put_nil (st : WSt) : st.put (bs ⟨#[]⟩) = st := by
  have : bs ⟨#[]⟩ = [] := rfl
  rw [this]; simp [WSt.put]
theorem q11_body (T : WT) (d : Ne) (k : Nat) (hk : d.k = (k : Int)) (h12 : k < 12) (st : WSt) : q11 T d k st = rbody T d st := by
  rcases k with _ | _ | _ | _ | _ | _ | _ | _ | _ | _ | _ | _ | k
  · show (st.put (bs (opS 0))).put (bs ⟨#[]⟩) = _; rw [put_nil]; unfold rbody; rw [hk]; rfl
  · show (st.put (bs (opS 1))).put (bs ⟨#[]⟩) = _; rw [put_nil]; unfold rbody; rw [hk]; rfl
  · show (st.put (bs (opS 2))).put (bs ⟨#[]⟩) = _; rw [put_nil]; unfold rbody; rw [hk]; rfl
  · show (st.put (bs (opS 3))).put (bs ⟨#[]⟩) = _; rw [put_nil]; unfold rbody; rw [hk]; rfl
  · show (st.put (bs (opS 4))).put (bs ⟨#[]⟩) = _; rw [put_nil]; unfold rbody; rw [hk]; rfl
  · show (st.put (bs (opS 5))).put (bs ⟨#[]⟩) = _; rw [put_nil]; unfold rbody; rw [hk]; rfl
  · unfold rbody; rw [hk]; rfl
  · unfold rbody; rw [hk]; rfl
  · unfold rbody; rw [hk]; rfl
  · unfold rbody; rw [hk]; rfl
  · show (((st.put (bs (opS 10))).put (bs d.name)).put ([32] ++ digR d.size)).put (bs ⟨#[]⟩) = _; rw [put_nil]; unfold rbody; rw [hk]; rfl
  · unfold rbody; rw [hk]; rfl
  · omega
theorem q30_len {T : WT} (hG : WG T) (d : Ne) (k : Nat) (st : WSt) : (if k = 11 then rflds T d.fields (st.put [123]) else st).s.length ≤ (q30 T d k st).s.length ∧ st.s.length ≤ (q30 T d k st).s.length := by
  unfold q30
  rw [WSt.put_len]
  refine ⟨by omega, ?_⟩
  split
  · have := rflds_len hG d.fields (st.put [123])
    rw [WSt.put_len] at this
    omega
  · omega
theorem q24_len {T : WT} (hG : WG T) (d : Ne) (k : Nat) (st : WSt) : (if 5 < k ∧ k < 9 then rlist T true d.items st else st).s.length ≤ (q24 T d k st).s.length ∧ st.s.length ≤ (q24 T d k st).s.length := by
  have h := (q30_len hG d k (if 5 < k ∧ k < 9 then rlist T true d.items st else st)).2
  refine ⟨h, Nat.le_trans ?_ h⟩
  split
  · exact rlist_len hG true d.items st
  · omega
theorem q16_len {T : WT} (hG : WG T) (d : Ne) (k : Nat) (st : WSt) : (if k = 9 then rsyms true d.syms (st.put [60]) else st).s.length ≤ (q16 T d k st).s.length ∧ st.s.length ≤ (q16 T d k st).s.length := by
  have h := (q24_len hG d k (if k = 9 then rsyms true d.syms (st.put [60]) else st)).2
  refine ⟨h, Nat.le_trans ?_ h⟩
  split
  · have := rsyms_len true d.syms (st.put [60])
    rw [WSt.put_len] at this
    omega
  · omega
theorem q14_len {T : WT} (hG : WG T) (d : Ne) (k : Nat) (st : WSt) : (if k = 10 then st.put ([32] ++ digR d.size) else st).s.length ≤ (q14 T d k st).s.length ∧ st.s.length ≤ (q14 T d k st).s.length := by
  have h := (q16_len hG d k (if k = 10 then st.put ([32] ++ digR d.size) else st)).2
  refine ⟨h, Nat.le_trans ?_ h⟩
  split
  · rw [WSt.put_len]; omega
  · omega
theorem q12_len {T : WT} (hG : WG T) (d : Ne) (k : Nat) (st : WSt) : (if 9 ≤ k then st.put (bs d.name) else st).s.length ≤ (q12 T d k st).s.length ∧ st.s.length ≤ (q12 T d k st).s.length := by
  have h := (q14_len hG d k (if 9 ≤ k then st.put (bs d.name) else st)).2
  refine ⟨h, Nat.le_trans ?_ h⟩
  split
  · rw [WSt.put_len]; omega
  · omega
set_option maxRecDepth 1000000 in
set_option maxHeartbeats 4000000 in
/-- a new node, from its opening on -/
theorem rt11_all {f : Nat} {ns : List Ne} (H' : RTypC B R no ns f (deep + 1)) (hd : deep ≤ 100) (hk : k < 12) (syms : List ByteArray) (items : List Int) (fields : List (ByteArray × Bool × Int))
    (hy : Sl B w0 (.slice As ny ca) syms.length (txs syms)) (hi : Sl B w0 (.slice Ai ni ci) items.length (intsZ items)) (hf : Sl B w0 (.slice Af nf cf) fields.length (fldsZ fields)) (hsr : -9223372036854775808 ≤ size ∧ size ≤ 9223372036854775807) (hSc : Sch B w0 no ns)
    (st : WSt) (a : Act) (w : World) (hM : Mt B R X O H deep no #[.int .i64 (k : Int), .string name, .int .i64 size, .slice As ny ca, .slice Ai ni ci, .slice Af nf cf] n v3 v4 v5 w0 st a w)
    (hL : (rbody (rtyp ns f) ⟨k, name, size, syms, items, fields⟩ st).s.length ≤ 100000000) (PO : Ending → World → Prop)
    (hQ : ∀ w', Chg (fun k => k = R) w0 w' → RInv B w' R no (rbody (rtyp ns f) ⟨k, name, size, syms, items, fields⟩ st) → PO (.returned (.tuple #[])) w') :
    (tlC 11 Tryz.f13.body).wp Tryz.prog (bodyPost Tryz.prog Tryz.f13 PO) a w := by
  have hG := rtyp_len ns f
  rw [← q11_body _ ⟨k, name, size, syms, items, fields⟩ k rfl hk] at hL hQ
  obtain ⟨d, hd'⟩ : ∃ d : Ne, d = ⟨k, name, size, syms, items, fields⟩ := ⟨_, rfl⟩
  unfold q11 at hL hQ
  rw [← hd'] at hL hQ
  have e1 : d.name = name := by rw [hd']
  have e2 : d.size = size := by rw [hd']
  have e3 : d.syms = syms := by rw [hd']
  have e4 : d.items = items := by rw [hd']
  have e5 : d.fields = fields := by rw [hd']
  have l12 := q12_len hG d k (st.put (bs (opS k)))
  conv => arg 2; whnf
  refine seq_mid (fun a' w' => Mt B R X O H deep no #[.int .i64 (k : Int), .string name, .int .i64 size, .slice As ny ca, .slice Ai ni ci, .slice Af nf cf] n v3 v4 v5 w0 (st.put (bs (opS k))) a' w') (fun K hK => rt11 hk st a w hM (by omega) PO K hK) ?_
  intro a1 w1 h1
  obtain ⟨st1, hst1⟩ : ∃ z, st.put (bs (opS k)) = z := ⟨_, rfl⟩
  rw [hst1] at h1 hL hQ l12
  unfold q12 at hL hQ l12
  have l14 := q14_len hG d k (if 9 ≤ k then st1.put (bs d.name) else st1)
  refine seq_mid (fun a' w' => Mt B R X O H deep no #[.int .i64 (k : Int), .string name, .int .i64 size, .slice As ny ca, .slice Ai ni ci, .slice Af nf cf] n v3 v4 v5 w0 (if 9 ≤ k then st1.put (bs name) else st1) a' w') (fun K hK => rt12 hk st1 a1 w1 h1 (by rw [← e1]; omega) PO K hK) ?_
  intro a2 w2 h2
  rw [e1] at hL hQ l14
  obtain ⟨st2, hst2⟩ : ∃ z, (if 9 ≤ k then st1.put (bs name) else st1) = z := ⟨_, rfl⟩
  rw [hst2] at h2 hL hQ l14
  unfold q14 at hL hQ l14
  have l16 := q16_len hG d k (if k = 10 then st2.put ([32] ++ digR d.size) else st2)
  refine seq_mid (fun a' w' => Mt B R X O H deep no #[.int .i64 (k : Int), .string name, .int .i64 size, .slice As ny ca, .slice Ai ni ci, .slice Af nf cf] n v3 v4 v5 w0 (if k = 10 then st2.put ([32] ++ digR size) else st2) a' w') (fun K hK => rt14 hk hsr st2 a2 w2 h2 (by rw [← e2]; omega) PO K hK) ?_
  intro a3 w3 h3
  rw [e2] at hL hQ l16
  obtain ⟨st3, hst3⟩ : ∃ z, (if k = 10 then st2.put ([32] ++ digR size) else st2) = z := ⟨_, rfl⟩
  rw [hst3] at h3 hL hQ l16
  unfold q16 at hL hQ l16
  have l24 := q24_len hG d k (if k = 9 then rsyms true d.syms (st3.put [60]) else st3)
  refine seq_mid (fun a' w' => Mt B R X O H deep no #[.int .i64 (k : Int), .string name, .int .i64 size, .slice As ny ca, .slice Ai ni ci, .slice Af nf cf] n v3 v4 v5 w0 (if k = 9 then rsyms true syms (st3.put [60]) else st3) a' w') (fun K hK => rt16 hk syms hy st3 a3 w3 h3 (by rw [← e3]; omega) PO K hK) ?_
  intro a4 w4 h4
  rw [e3] at hL hQ l24
  obtain ⟨st4, hst4⟩ : ∃ z, (if k = 9 then rsyms true syms (st3.put [60]) else st3) = z := ⟨_, rfl⟩
  rw [hst4] at h4 hL hQ l24
  unfold q24 at hL hQ l24
  have l30 := q30_len hG d k (if 5 < k ∧ k < 9 then rlist (rtyp ns f) true d.items st4 else st4)
  refine seq_mid (fun a' w' => Mt B R X O H deep no #[.int .i64 (k : Int), .string name, .int .i64 size, .slice As ny ca, .slice Ai ni ci, .slice Af nf cf] n v3 v4 v5 w0 (if 5 < k ∧ k < 9 then rlist (rtyp ns f) true items st4 else st4) a' w') (fun K hK => rt24 H' hd hk items hi hSc st4 a4 w4 h4 (by rw [← e4]; omega) PO K hK) ?_
  intro a5 w5 h5
  rw [e4] at hL hQ l30
  obtain ⟨st5, hst5⟩ : ∃ z, (if 5 < k ∧ k < 9 then rlist (rtyp ns f) true items st4 else st4) = z := ⟨_, rfl⟩
  rw [hst5] at h5 hL hQ l30
  rw [e5] at l30
  unfold q30 at hL hQ l30
  rw [e5] at hL hQ l30
  refine seq_mid (fun a' w' => Mt B R X O H deep no #[.int .i64 (k : Int), .string name, .int .i64 size, .slice As ny ca, .slice Ai ni ci, .slice Af nf cf] n v3 v4 v5 w0 (if k = 11 then rflds (rtyp ns f) fields (st5.put [123]) else st5) a' w') (fun K hK => rt30 H' hd hk fields hf hSc st5 a5 w5 h5 (by omega) PO K hK) ?_
  intro a6 w6 h6
  exact rt33 hk _ a6 w6 h6 hL PO hQ
end
end Go.Proofs.YtejcacbbhijdcaaGreatDoor.Pr
