/- parse: the reference's reader: a type that begins, walked. -/
import Derived.Test.YtejcacbbhijdcaaGreatDoorPzP
namespace Go.Proofs.YtejcacbbhijdcaaGreatDoor.Pr
open Go.ChangeShapes Go.WideShapes Go.ChangeAt Go.RowKit
open Base Lx Mi Piece
set_option linter.unusedVariables false
set_option linter.unusedSimpArgs false

/-- the code from a region on -/
def tl (n : Nat) : Code → Option Code
  | .seq (.region m os d) b => bif Nat.beq m n then some (.seq (.region m os d) b) else tl n b
  | .seq a b => match tl n a with
    | some c => some c
    | none => tl n b
  | .cond _ a b => match tl n a with
    | some c => some c
    | none => tl n b
  | .block _ c => tl n c
  | .loop c => tl n c
  | .scope c => tl n c
  | _ => none
def tlC (n : Nat) (c : Option Code) : Code := match c with
  | some c => match tl n c with
    | some c => c
    | none => .skip
  | none => .skip
set_option maxRecDepth 1000000 in
theorem lay161 {v0 v1 v2 v3 v4 v5 v6 v7 v8 v9 v10 v11 : Value} {a : Act} (h : Piece.Fr 161 [v0, v1, v2, v3, v4, v5, v6, v7, v8, v9, v10, v11] a) : ∃ u : Nat → Value, a = ⟨(v0 :: v1 :: v2 :: v3 :: v4 :: v5 :: v6 :: v7 :: v8 :: v9 :: v10 :: v11 :: u 12 :: u 13 :: u 14 :: u 15 :: u 16 :: u 17 :: u 18 :: u 19 :: u 20 :: u 21 :: u 22 :: u 23 :: u 24 :: u 25 :: u 26 :: u 27 :: u 28 :: u 29 :: u 30 :: u 31 :: u 32 :: u 33 :: u 34 :: u 35 :: u 36 :: u 37 :: u 38 :: u 39 :: u 40 :: u 41 :: u 42 :: u 43 :: u 44 :: u 45 :: u 46 :: u 47 :: u 48 :: u 49 :: u 50 :: u 51 :: u 52 :: u 53 :: u 54 :: u 55 :: u 56 :: u 57 :: u 58 :: u 59 :: u 60 :: u 61 :: u 62 :: u 63 :: u 64 :: u 65 :: u 66 :: u 67 :: u 68 :: u 69 :: u 70 :: u 71 :: u 72 :: u 73 :: u 74 :: u 75 :: u 76 :: u 77 :: u 78 :: u 79 :: u 80 :: u 81 :: u 82 :: u 83 :: u 84 :: u 85 :: u 86 :: u 87 :: u 88 :: u 89 :: u 90 :: u 91 :: u 92 :: u 93 :: u 94 :: u 95 :: u 96 :: u 97 :: u 98 :: u 99 :: u 100 :: u 101 :: u 102 :: u 103 :: u 104 :: u 105 :: u 106 :: u 107 :: u 108 :: u 109 :: u 110 :: u 111 :: u 112 :: u 113 :: u 114 :: u 115 :: u 116 :: u 117 :: u 118 :: u 119 :: u 120 :: u 121 :: u 122 :: u 123 :: u 124 :: u 125 :: u 126 :: u 127 :: u 128 :: u 129 :: u 130 :: u 131 :: u 132 :: u 133 :: u 134 :: u 135 :: u 136 :: u 137 :: u 138 :: u 139 :: u 140 :: u 141 :: u 142 :: u 143 :: u 144 :: u 145 :: u 146 :: u 147 :: u 148 :: u 149 :: u 150 :: u 151 :: u 152 :: u 153 :: u 154 :: u 155 :: u 156 :: u 157 :: u 158 :: u 159 :: u 160 :: []).toArray, []⟩ := by
  obtain ⟨u, hu⟩ := h.spread
  refine ⟨u, hu.trans ?_⟩
  kernel_rfl
section
variable {B R : Nat} {vl vn : Value} {vs : List V3} {L : List Tok} {q : QS}
/-- a node begun -/
theorem Rq.snoc {w w1 : World} {A A1 : Option Addr} {n c c1 : Nat} (h : Rq B w R vl (.slice A n c) vs L q) (hn : q.ns.length = n) (h199 : n < 200) (k : Int) (ho1 : w1.ownsRow B 36 6 (.slice A1 (n + 1) c1) (n + 1) (ndsC q.ns vs ++ ndC (Nd.ofKind k) v0)) (hch : Chg (fun k => (Value.slice A n c).ownBlock = some k) w w1) :
    Rq B (w1.setCell ⟨R, 2, none⟩ (.slice A1 (n + 1) c1)) R vl (.slice A1 (n + 1) c1) (vs ++ [v0]) L { q with ns := q.ns ++ [Nd.ofKind k] } ∧ Chg (Wq R (.slice A n c)) w (w1.setCell ⟨R, 2, none⟩ (.slice A1 (n + 1) c1)) := by
  have hnR := h.sep
  have hb1 := hch.blk h.blk hnR
  have hb2 : Blk (w1.setCell ⟨R, 2, none⟩ (.slice A1 (n + 1) c1)) R #[vl, .int .i64 (q.at_ : Int), .slice A1 (n + 1) c1, .int .i64 (q.why : Int), .int .i64 (q.bad : Int)] 67 := hb1.set 2 _
  have hch2 : Chg (Wq R (.slice A n c)) w (w1.setCell ⟨R, 2, none⟩ (.slice A1 (n + 1) c1)) := (hch.mono (fun _ _ e => .inr e)).set (p := ⟨R, 2, none⟩) (.inl (.inl rfl)) _
  rw [← ndsC_snoc _ _ _ _ h.nds.len] at ho1
  have ho2 := own_setCell (i := 2) ho1 hb1 (by decide) (.slice A1 (n + 1) c1)
  have hlen : (q.ns ++ [Nd.ofKind k]).length = n + 1 := by rw [List.length_append, hn]; rfl
  refine ⟨h.renode hch2 (fun k e => h.wr_ge k e) hb2 ?_ ?_ ?_ ?_ (ap_snoc h.ap), hch2⟩
  · rw [hlen]; exact ho2
  · rw [List.length_append, hlen, h.nds.len, hn]; rfl
  · intro i d v q1 q2
    rcases Nat.lt_or_ge i q.ns.length with hi | hi
    · rw [List.getElem?_append_left hi] at q1
      rw [List.getElem?_append_left (by rw [h.nds.len]; exact hi)] at q2
      have hs := h.nds.sub i d v q1 q2
      exact hs.chg hch2 (fun k hk e => e.elim (h.ne hs.syms (by decide) k hk) (own_not h.nds.row hs.syms (by decide) k hk)) (fun k hk e => e.elim (h.ne hs.items (by decide) k hk) (own_not h.nds.row hs.items (by decide) k hk)) (fun k hk e => e.elim (h.ne hs.fields (by decide) k hk) (own_not h.nds.row hs.fields (by decide) k hk))
    · rw [List.getElem?_append_right hi] at q1
      rw [List.getElem?_append_right (by rw [h.nds.len]; exact hi), h.nds.len] at q2
      cases hz : i - q.ns.length with
      | succ z => rw [hz] at q1; simp at q1
      | zero =>
        rw [hz] at q1 q2
        simp at q1 q2
        subst q1; subst q2
        exact ⟨World.ownsRow_nil _ _ _ _, World.ownsRow_nil _ _ _ _, World.ownsRow_nil _ _ _ _⟩
  · rw [hlen]; omega
theorem newQ_w (hT : TokOk L) (k : Int) (hq : WQ L q.at_ q) (hw : q.why = 0) (hkk : (tkQ L q).k ≠ 3) : WQ L (newQ L k q).at_ (newQ L k q) := by
  have hon := onQ_adv hT hq.lt hkk hw
  have hnq : newQ L k q = ⟨q.at_ + 1, q.ns ++ [Nd.ofKind k], q.why, q.bad⟩ := by unfold newQ; rw [hon]
  rw [hnq]
  refine ⟨tok_next hT hq.lt hkk, fun d hd => ?_, fun d hd m hm => ?_⟩
  · rcases List.mem_append.1 hd with hd | hd
    · have := hq.len d hd; simp only; omega
    · rw [List.mem_singleton.1 hd]; simp [Nd.ofKind]
  · rcases List.mem_append.1 hd with hd | hd
    · have := hq.idx d hd m hm; simp; omega
    · rw [List.mem_singleton.1 hd] at hm; simp [Nd.ofKind] at hm
set_option maxRecDepth 1000000 in
set_option maxHeartbeats 8000000 in
theorem typed13 {deep f : Nat} (hTk : TokOk L) (H : TypQ B R L (deep + 1) f) (hd20 : deep ≤ 100) (hfu : f ≤ 100) (k nn : Int) (v2 v3 v4 v5 v6 v7 v9 : Value) (a : Act) (w : World) (h : Rq B w R vl vn vs L q) (hw : q.why = 0) (hW : WQ L q.at_ q) (hB : B ≤ w.heap.size) (hkk : (tkQ L q).k ≠ 3) (hl : 0 ≤ k → q.ns.length < 200) (PO : Ending → World → Prop)
    (hF : Fr 161 [.pointer (some ⟨R, 0, none⟩), .int .i64 (deep : Int), v2, v3, v4, v5, v6, v7, .int .i64 0, v9, .int .i64 k, .int .i64 nn] a)
    (hQ : ∀ w', PT B R vl vn vs L w (if k < 0 then onQ L q else restQ L (typedQ L f) k q.ns.length (newQ L k q)) w' → PO (.returned (.int .i64 (if k < 0 then nn else (q.ns.length : Int)))) w') :
    (tlC 13 Tryz.f26.body).wp Tryz.prog (bodyPost Tryz.prog Tryz.f26 PO) a w := by
  obtain ⟨u, rfl⟩ := lay161 hF
  clear hF
  conv => arg 2; whnf
  have hon := on_any w h
  have hdw : IntKind.i64.wrap ((deep : Int) + 1) = (deep : Int) + 1 := by rw [IntKind.wrap_i64]; omega
  by_cases hk0 : k < 0
  · rw [if_pos hk0, if_pos hk0] at hQ
    go_wp2_with fail
    refine hon.mono ?_
    rintro e w1 ⟨rfl, hc1, h1⟩
    go_wp2_with fail
    exact PT.ofR hc1 h1
  · rw [if_neg hk0, if_neg hk0] at hQ
    have hwN : (newQ L k q).why = 0 := by show (onQ L q).why = 0; rw [onQ_why]; exact hw
    have hWN : WQ L (newQ L k q).at_ (newQ L k q) := newQ_w hTk k hW hw hkk
    have hnN : (newQ L k q).ns.length = q.ns.length + 1 := by show (q.ns ++ [Nd.ofKind k]).length = _; simp
    have hnq : newQ L k q = { onQ L q with ns := q.ns ++ [Nd.ofKind k] } := rfl
    obtain ⟨A, c, rfl, hnc, hcm⟩ := h.slice
    have h199 := hl (by omega)
    have hqo := onQ_ns (L := L) (q := q)
    have hv0 : ∀ v, (vs ++ [v0])[q.ns.length]? = some v → v = v0 := fun v hv => by
      rw [← h.nds.len, List.getElem?_append_right (Nat.le_refl _), Nat.sub_self] at hv
      simpa using hv.symm
    have hsf := sf_snoc w vs
    obtain ⟨qN, hqN⟩ : ∃ z, Hid (newQ L k q = z) := ⟨_, Lib.hid rfl⟩
    rw [hqN.out] at hwN hWN hnN hnq hQ
    obtain ⟨qo, hqo'⟩ : ∃ z, Hid (onQ L q = z) := ⟨_, Lib.hid rfl⟩
    rw [hqo'.out] at hon hnq hqo
    obtain ⟨n, hn⟩ : ∃ z, Hid (q.ns.length = z) := ⟨_, Lib.hid rfl⟩
    rw [hn.out] at hon hnc h199 hv0 hnN hQ h
    have hnn0 : n < qN.ns.length := by omega
    have hg := typedQ_g hTk f
    have hnd1 := ndC_one (Nd.ofKind k) v0 rfl rfl rfl
    obtain ⟨NW, hNW⟩ : ∃ NW, Hid (ndC (Nd.ofKind k) v0 = NW) := ⟨_, rfl⟩
    have hNl : NW.length = 1 * 6 := by rw [← hNW.out]; rfl
    have hrd0 : ∀ W : World, Rd (W.alloc (.cells #[.int .i64 k, .string ⟨#[]⟩, .int .i64 0, .slice none 0 0, .slice none 0 0, .slice none 0 0] 36)) (some ⟨W.heap.size, 0, none⟩) NW := fun W => by
      rw [← hNW.out]; exact Rd.of_block W 36 (0, 0) rfl
    rw [hNW.out] at hnd1
    by_cases hk6 : k = 6
    · subst hk6
      go_wp2_with fail
      refine hon.mono ?_
      rintro e w1 ⟨rfl, hc1, h1⟩
      have ho := h1.nds.row
      rw [hqo, hn.out] at ho
      have hbk := h1.blk
      have hnR := h1.sep
      have c2 : w1.cell? ⟨R, 2, none⟩ = some (.slice A n c) := hbk.cell 2
      have hrd := hrd0 w1
      have hsz1 := hc1.size
      go_wp2_with (
        refine wpList_app el_nd _ rfl (.tmp 103) (.tmp 106) rfl B (.slice A n c) n (ndsC q.ns vs) rfl (own_ext ho ((Ext.refl w1).alloc _)) (some ⟨w1.heap.size, 0, none⟩) 1 1 NW rfl hrd hNl (fun h => by cases h) hnd1 (by omega) (by omega) (by simp; omega) (fun V1 w2 ho1 hg1 hv1 => ?_)
        obtain ⟨A1, c1', rfl, kk1, kk2, kk3, kk4⟩ := Rd.of_own ho1
        clear kk1 kk2 kk3 kk4
        have hch1 : Chg (fun k => (Value.slice A n c).ownBlock = some k) w1 w2 := (Chg.ofExt ((Ext.refl w1).alloc _)).trans (Chg.ofGrown hg1) (fun _ _ e => e)
        have hb1 := hch1.blk hbk hnR
        have fr1 := hb1.frozen 2
        have cl1 : w2.cell? ⟨R, 2, none⟩ = some _ := hb1.cell 2)
      have hsn : Rq B (w2.setCell ⟨R, 2, none⟩ (.slice A1 (n + 1) c1')) R vl (.slice A1 (n + 1) c1') (vs ++ [v0]) L qN ∧ Chg (Wq R (.slice A n c)) w1 (w2.setCell ⟨R, 2, none⟩ (.slice A1 (n + 1) c1')) := by
        rw [hnq, ← hqo]
        exact h1.snoc (by rw [hqo]; exact hn.out) h199 _ (by rw [hqo, hNW.out]; exact ho1) hch1
      obtain ⟨hN, hcN⟩ := hsn
      have hcN0 : Chg (Wq R (.slice A n c)) w (w2.setCell ⟨R, 2, none⟩ (.slice A1 (n + 1) c1')) := (hc1.mono fun k _ e => .inl e).trans hcN (fun k _ e => e)
      have hfN : Fresh w (.slice A n c) (.slice A1 (n + 1) c1') := hv1.imp (fun e => e) (fun e => ⟨_, e, by simp; omega⟩)
      obtain ⟨wN, hwN'⟩ : ∃ z, Hid (w2.setCell ⟨R, 2, none⟩ (.slice A1 (n + 1) c1') = z) := ⟨_, rfl⟩
      rw [hwN'.out] at hN hcN0 ⊢
      clear hrd hcN fr1 cl1 hb1 hch1 ho1 hg1 hv1 ho hon
      have hT := H false [] none 0 0 qN wN vl _ _ hN hwN hWN (Rd.nil _ _) rfl (by omega) (fun m hm => by cases hm) (Nat.le_trans hB hcN0.size) (fun a ha => by cases ha)
      rw [show ((deep + 1 : Nat) : Int) = (deep : Int) + 1 by omega] at hT
      obtain ⟨g1, g2, g3, g4, g5⟩ := hg false [] qN hwN (GQ.ofOk hWN)
      rw [show restQ L (typedQ L f) 6 n qN = itemQ L (typedQ L f) n cSqC qN from rfl] at hQ
      unfold itemQ at hQ
      obtain ⟨r, hr⟩ : ∃ z, Hid (typedQ L f false [] qN = z) := ⟨_, rfl⟩
      rw [hr.out] at hT g1 g2 g3 g4 g5 hQ
      obtain ⟨x, q3⟩ := r
      simp only at hT g1 g2 g3 g4 g5 hQ
      clear hr
      refine hT.mono ?_
      rintro e w3 ⟨rfl, hc3, vn3, vs3, h3, hf3, hg3⟩
      clear hT
      have hn3 : n < q3.ns.length := by omega
      obtain ⟨b, c4, cur, rfl, hbB, hgb, hk1, hk2, hk3⟩ := h3.rowc hn3
      have hcT := hcN0.trans hc3 (Wq.back hfN)
      have hfT := hfN.trans hf3 hcN0.size
      have hgT := hsf.trans hg3 hcN0.size
      have hszT := hcT.size
      have ha : Ext w3 (w3.alloc (.cells #[.int .i64 (x : Int)] 3)) := (Ext.refl w3).alloc _
      have h4 := h3.ext ha
      obtain ⟨u1, hu1⟩ : ∃ u, (w3.alloc (.cells #[.int .i64 (x : Int)] 3)).cell? ⟨b, n * 6 + 4, none⟩ = some u := ⟨_, ((hgb.ext ha).cell _).trans (Array.getElem?_eq_getElem (by omega))⟩
      have fz1 := (hgb.ext ha).frozen (n * 6 + 4)
      obtain ⟨G, hG⟩ : ∃ G : V3 → V3, G = fun v => (v.1, .slice (some ⟨w3.heap.size, 0, none⟩) 1 1, v.2.2) := ⟨_, rfl⟩
      have hiv : ∀ k, (Value.slice (some ⟨w3.heap.size, 0, none⟩) 1 1).ownBlock = some k → w3.heap.size ≤ k := fun k hk => by
        have hk : some w3.heap.size = some k := hk
        injection hk with hk
        omega
      have hap : Ap (vs3.modify n G) := ap_new (w := w3) h3.ap h3.subLt (fun v hv => by
        subst hG
        exact ⟨fun k hk => .inr hk, fun k hk => .inl (hiv k hk), fun k hk => .inr hk⟩)
      have hfill := h4.fill hn3 (i := 4) (by omega) (fun d => { d with items := [x] }) G (.slice (some ⟨w3.heap.size, 0, none⟩) 1 1) (fun d0 u0 q5 q6 => by
        have hs := h4.nds.sub n d0 u0 q5 q6
        subst hG
        exact ⟨rfl, hs.syms, ⟨rfl, .inr ⟨w3.heap.size, 1, #[.int .i64 (x : Int)], rfl, by omega, Blk.new w3 _ _, Nat.le_refl _, by unfold maxLen; omega, rfl, rfl⟩⟩, hs.fields⟩) hap
      have hgF : SF w vs (vs3.modify n G) := hgT.trans (sf_modify w vs3 n G (fun v hv => by
        subst hG
        exact ⟨fun k hk => .inr hk, fun k hk => .inl (by have := hiv k hk; omega), fun k hk => .inr hk⟩)) (Nat.le_refl _)
      have hchF : Chg (Wq R (.slice A n c)) w ((w3.alloc (.cells #[.int .i64 (x : Int)] 3)).setCell ⟨b, n * 6 + 4, none⟩ (.slice (some ⟨w3.heap.size, 0, none⟩) 1 1)) :=
        (hcT.trans (Chg.ofExt ha) (fun _ _ e => e)).trans (Chg.one _ b (n * 6 + 4) _) (fun k hk e => Wq.back hfT k hk (.inr (by rw [e]; rfl)))
      have hsg := sign_any cSqC _ hfill
      obtain ⟨mm, hmm⟩ : ∃ z, Hid (q3.ns.length = z) := ⟨_, Lib.hid rfl⟩
      have y2 : w3.cell? ⟨R, 2, none⟩ = some (.slice (some ⟨b, 0, none⟩) mm c4) := by rw [← hmm.out]; exact h3.blk.cell 2
      have hnI : (n : Int) < (mm : Int) := by have := hmm.out; omega
      rw [show cSqC = (⟨#[93]⟩ : ByteArray) from rfl] at hsg
      rw [show cSqC = (⟨#[93]⟩ : ByteArray) from rfl] at hQ
      obtain ⟨q5, hq5⟩ : ∃ z, Hid (signQ L (q3.setN n fun d => { d with items := [x] }) (⟨#[93]⟩ : ByteArray) = z) := ⟨_, rfl⟩
      rw [hq5.out] at hsg hQ
      clear hap hfill h4 hgb hG
      go_wp2_with fail
      refine hsg.mono ?_
      rintro e w5 ⟨rfl, hc5, h5⟩
      go_wp2_with fail
      exact ⟨hchF.trans hc5 (fun k _ e => .inl e), _, _, h5, hfT, hgF⟩
    by_cases hk7 : k = 7
    · subst hk7
      go_wp2_with fail
      refine hon.mono ?_
      rintro e w1 ⟨rfl, hc1, h1⟩
      have ho := h1.nds.row
      rw [hqo, hn.out] at ho
      have hbk := h1.blk
      have hnR := h1.sep
      have c2 : w1.cell? ⟨R, 2, none⟩ = some (.slice A n c) := hbk.cell 2
      have hrd := hrd0 w1
      have hsz1 := hc1.size
      go_wp2_with (
        refine wpList_app el_nd _ rfl (.tmp 103) (.tmp 106) rfl B (.slice A n c) n (ndsC q.ns vs) rfl (own_ext ho ((Ext.refl w1).alloc _)) (some ⟨w1.heap.size, 0, none⟩) 1 1 NW rfl hrd hNl (fun h => by cases h) hnd1 (by omega) (by omega) (by simp; omega) (fun V1 w2 ho1 hg1 hv1 => ?_)
        obtain ⟨A1, c1', rfl, kk1, kk2, kk3, kk4⟩ := Rd.of_own ho1
        clear kk1 kk2 kk3 kk4
        have hch1 : Chg (fun k => (Value.slice A n c).ownBlock = some k) w1 w2 := (Chg.ofExt ((Ext.refl w1).alloc _)).trans (Chg.ofGrown hg1) (fun _ _ e => e)
        have hb1 := hch1.blk hbk hnR
        have fr1 := hb1.frozen 2
        have cl1 : w2.cell? ⟨R, 2, none⟩ = some _ := hb1.cell 2)
      have hsn : Rq B (w2.setCell ⟨R, 2, none⟩ (.slice A1 (n + 1) c1')) R vl (.slice A1 (n + 1) c1') (vs ++ [v0]) L qN ∧ Chg (Wq R (.slice A n c)) w1 (w2.setCell ⟨R, 2, none⟩ (.slice A1 (n + 1) c1')) := by
        rw [hnq, ← hqo]
        exact h1.snoc (by rw [hqo]; exact hn.out) h199 _ (by rw [hqo, hNW.out]; exact ho1) hch1
      obtain ⟨hN, hcN⟩ := hsn
      have hcN0 : Chg (Wq R (.slice A n c)) w (w2.setCell ⟨R, 2, none⟩ (.slice A1 (n + 1) c1')) := (hc1.mono fun k _ e => .inl e).trans hcN (fun k _ e => e)
      have hfN : Fresh w (.slice A n c) (.slice A1 (n + 1) c1') := hv1.imp (fun e => e) (fun e => ⟨_, e, by simp; omega⟩)
      obtain ⟨wN, hwN'⟩ : ∃ z, Hid (w2.setCell ⟨R, 2, none⟩ (.slice A1 (n + 1) c1') = z) := ⟨_, rfl⟩
      rw [hwN'.out] at hN hcN0 ⊢
      clear hrd hcN fr1 cl1 hb1 hch1 ho1 hg1 hv1 ho hon
      have hT := H false [] none 0 0 qN wN vl _ _ hN hwN hWN (Rd.nil _ _) rfl (by omega) (fun m hm => by cases hm) (Nat.le_trans hB hcN0.size) (fun a ha => by cases ha)
      rw [show ((deep + 1 : Nat) : Int) = (deep : Int) + 1 by omega] at hT
      obtain ⟨g1, g2, g3, g4, g5⟩ := hg false [] qN hwN (GQ.ofOk hWN)
      rw [show restQ L (typedQ L f) 7 n qN = itemQ L (typedQ L f) n cCuC qN from rfl] at hQ
      unfold itemQ at hQ
      obtain ⟨r, hr⟩ : ∃ z, Hid (typedQ L f false [] qN = z) := ⟨_, rfl⟩
      rw [hr.out] at hT g1 g2 g3 g4 g5 hQ
      obtain ⟨x, q3⟩ := r
      simp only at hT g1 g2 g3 g4 g5 hQ
      clear hr
      refine hT.mono ?_
      rintro e w3 ⟨rfl, hc3, vn3, vs3, h3, hf3, hg3⟩
      clear hT
      have hn3 : n < q3.ns.length := by omega
      obtain ⟨b, c4, cur, rfl, hbB, hgb, hk1, hk2, hk3⟩ := h3.rowc hn3
      have hcT := hcN0.trans hc3 (Wq.back hfN)
      have hfT := hfN.trans hf3 hcN0.size
      have hgT := hsf.trans hg3 hcN0.size
      have hszT := hcT.size
      have ha : Ext w3 (w3.alloc (.cells #[.int .i64 (x : Int)] 3)) := (Ext.refl w3).alloc _
      have h4 := h3.ext ha
      obtain ⟨u1, hu1⟩ : ∃ u, (w3.alloc (.cells #[.int .i64 (x : Int)] 3)).cell? ⟨b, n * 6 + 4, none⟩ = some u := ⟨_, ((hgb.ext ha).cell _).trans (Array.getElem?_eq_getElem (by omega))⟩
      have fz1 := (hgb.ext ha).frozen (n * 6 + 4)
      obtain ⟨G, hG⟩ : ∃ G : V3 → V3, G = fun v => (v.1, .slice (some ⟨w3.heap.size, 0, none⟩) 1 1, v.2.2) := ⟨_, rfl⟩
      have hiv : ∀ k, (Value.slice (some ⟨w3.heap.size, 0, none⟩) 1 1).ownBlock = some k → w3.heap.size ≤ k := fun k hk => by
        have hk : some w3.heap.size = some k := hk
        injection hk with hk
        omega
      have hap : Ap (vs3.modify n G) := ap_new (w := w3) h3.ap h3.subLt (fun v hv => by
        subst hG
        exact ⟨fun k hk => .inr hk, fun k hk => .inl (hiv k hk), fun k hk => .inr hk⟩)
      have hfill := h4.fill hn3 (i := 4) (by omega) (fun d => { d with items := [x] }) G (.slice (some ⟨w3.heap.size, 0, none⟩) 1 1) (fun d0 u0 q5 q6 => by
        have hs := h4.nds.sub n d0 u0 q5 q6
        subst hG
        exact ⟨rfl, hs.syms, ⟨rfl, .inr ⟨w3.heap.size, 1, #[.int .i64 (x : Int)], rfl, by omega, Blk.new w3 _ _, Nat.le_refl _, by unfold maxLen; omega, rfl, rfl⟩⟩, hs.fields⟩) hap
      have hgF : SF w vs (vs3.modify n G) := hgT.trans (sf_modify w vs3 n G (fun v hv => by
        subst hG
        exact ⟨fun k hk => .inr hk, fun k hk => .inl (by have := hiv k hk; omega), fun k hk => .inr hk⟩)) (Nat.le_refl _)
      have hchF : Chg (Wq R (.slice A n c)) w ((w3.alloc (.cells #[.int .i64 (x : Int)] 3)).setCell ⟨b, n * 6 + 4, none⟩ (.slice (some ⟨w3.heap.size, 0, none⟩) 1 1)) :=
        (hcT.trans (Chg.ofExt ha) (fun _ _ e => e)).trans (Chg.one _ b (n * 6 + 4) _) (fun k hk e => Wq.back hfT k hk (.inr (by rw [e]; rfl)))
      have hsg := sign_any cCuC _ hfill
      obtain ⟨mm, hmm⟩ : ∃ z, Hid (q3.ns.length = z) := ⟨_, Lib.hid rfl⟩
      have y2 : w3.cell? ⟨R, 2, none⟩ = some (.slice (some ⟨b, 0, none⟩) mm c4) := by rw [← hmm.out]; exact h3.blk.cell 2
      have hnI : (n : Int) < (mm : Int) := by have := hmm.out; omega
      rw [show cCuC = (⟨#[125]⟩ : ByteArray) from rfl] at hsg
      rw [show cCuC = (⟨#[125]⟩ : ByteArray) from rfl] at hQ
      obtain ⟨q5, hq5⟩ : ∃ z, Hid (signQ L (q3.setN n fun d => { d with items := [x] }) (⟨#[125]⟩ : ByteArray) = z) := ⟨_, rfl⟩
      rw [hq5.out] at hsg hQ
      clear hap hfill h4 hgb hG
      go_wp2_with fail
      refine hsg.mono ?_
      rintro e w5 ⟨rfl, hc5, h5⟩
      go_wp2_with fail
      exact ⟨hchF.trans hc5 (fun k _ e => .inl e), _, _, h5, hfT, hgF⟩
    by_cases hk8 : k = 8
    · subst hk8
      go_wp2_with fail
      refine hon.mono ?_
      rintro e w1 ⟨rfl, hc1, h1⟩
      have ho := h1.nds.row
      rw [hqo, hn.out] at ho
      have hbk := h1.blk
      have hnR := h1.sep
      have c2 : w1.cell? ⟨R, 2, none⟩ = some (.slice A n c) := hbk.cell 2
      have hrd := hrd0 w1
      have hsz1 := hc1.size
      go_wp2_with (
        refine wpList_app el_nd _ rfl (.tmp 103) (.tmp 106) rfl B (.slice A n c) n (ndsC q.ns vs) rfl (own_ext ho ((Ext.refl w1).alloc _)) (some ⟨w1.heap.size, 0, none⟩) 1 1 NW rfl hrd hNl (fun h => by cases h) hnd1 (by omega) (by omega) (by simp; omega) (fun V1 w2 ho1 hg1 hv1 => ?_)
        obtain ⟨A1, c1', rfl, kk1, kk2, kk3, kk4⟩ := Rd.of_own ho1
        clear kk1 kk2 kk3 kk4
        have hch1 : Chg (fun k => (Value.slice A n c).ownBlock = some k) w1 w2 := (Chg.ofExt ((Ext.refl w1).alloc _)).trans (Chg.ofGrown hg1) (fun _ _ e => e)
        have hb1 := hch1.blk hbk hnR
        have fr1 := hb1.frozen 2
        have cl1 : w2.cell? ⟨R, 2, none⟩ = some _ := hb1.cell 2)
      have hsn : Rq B (w2.setCell ⟨R, 2, none⟩ (.slice A1 (n + 1) c1')) R vl (.slice A1 (n + 1) c1') (vs ++ [v0]) L qN ∧ Chg (Wq R (.slice A n c)) w1 (w2.setCell ⟨R, 2, none⟩ (.slice A1 (n + 1) c1')) := by
        rw [hnq, ← hqo]
        exact h1.snoc (by rw [hqo]; exact hn.out) h199 _ (by rw [hqo, hNW.out]; exact ho1) hch1
      obtain ⟨hN, hcN⟩ := hsn
      have hcN0 : Chg (Wq R (.slice A n c)) w (w2.setCell ⟨R, 2, none⟩ (.slice A1 (n + 1) c1')) := (hc1.mono fun k _ e => .inl e).trans hcN (fun k _ e => e)
      have hfN : Fresh w (.slice A n c) (.slice A1 (n + 1) c1') := hv1.imp (fun e => e) (fun e => ⟨_, e, by simp; omega⟩)
      obtain ⟨wN, hwN'⟩ : ∃ z, Hid (w2.setCell ⟨R, 2, none⟩ (.slice A1 (n + 1) c1') = z) := ⟨_, rfl⟩
      rw [hwN'.out] at hN hcN0 ⊢
      clear hrd hcN fr1 cl1 hb1 hch1 ho1 hg1 hv1 ho hon
      have hT := all_any hTk H hd20 hfu n wN hN hWN hwN hnn0 (Nat.le_trans hB hcN0.size) (fun v hv => by rw [hv0 v hv]; rfl)
      rw [show restQ L (typedQ L f) 8 n qN = allQ L (typedQ L f) n L.length qN from rfl] at hQ
      refine hT.mono ?_
      rintro e w3 ⟨rfl, hp⟩
      go_wp2_with fail
      exact PT.after (q2 := qN) hcN0 hfN hsf hp
    by_cases hk9 : k = 9
    · subst hk9
      go_wp2_with fail
      refine hon.mono ?_
      rintro e w1 ⟨rfl, hc1, h1⟩
      have ho := h1.nds.row
      rw [hqo, hn.out] at ho
      have hbk := h1.blk
      have hnR := h1.sep
      have c2 : w1.cell? ⟨R, 2, none⟩ = some (.slice A n c) := hbk.cell 2
      have hrd := hrd0 w1
      have hsz1 := hc1.size
      go_wp2_with (
        refine wpList_app el_nd _ rfl (.tmp 103) (.tmp 106) rfl B (.slice A n c) n (ndsC q.ns vs) rfl (own_ext ho ((Ext.refl w1).alloc _)) (some ⟨w1.heap.size, 0, none⟩) 1 1 NW rfl hrd hNl (fun h => by cases h) hnd1 (by omega) (by omega) (by simp; omega) (fun V1 w2 ho1 hg1 hv1 => ?_)
        obtain ⟨A1, c1', rfl, kk1, kk2, kk3, kk4⟩ := Rd.of_own ho1
        clear kk1 kk2 kk3 kk4
        have hch1 : Chg (fun k => (Value.slice A n c).ownBlock = some k) w1 w2 := (Chg.ofExt ((Ext.refl w1).alloc _)).trans (Chg.ofGrown hg1) (fun _ _ e => e)
        have hb1 := hch1.blk hbk hnR
        have fr1 := hb1.frozen 2
        have cl1 : w2.cell? ⟨R, 2, none⟩ = some _ := hb1.cell 2)
      have hsn : Rq B (w2.setCell ⟨R, 2, none⟩ (.slice A1 (n + 1) c1')) R vl (.slice A1 (n + 1) c1') (vs ++ [v0]) L qN ∧ Chg (Wq R (.slice A n c)) w1 (w2.setCell ⟨R, 2, none⟩ (.slice A1 (n + 1) c1')) := by
        rw [hnq, ← hqo]
        exact h1.snoc (by rw [hqo]; exact hn.out) h199 _ (by rw [hqo, hNW.out]; exact ho1) hch1
      obtain ⟨hN, hcN⟩ := hsn
      have hcN0 : Chg (Wq R (.slice A n c)) w (w2.setCell ⟨R, 2, none⟩ (.slice A1 (n + 1) c1')) := (hc1.mono fun k _ e => .inl e).trans hcN (fun k _ e => e)
      have hfN : Fresh w (.slice A n c) (.slice A1 (n + 1) c1') := hv1.imp (fun e => e) (fun e => ⟨_, e, by simp; omega⟩)
      obtain ⟨wN, hwN'⟩ : ∃ z, Hid (w2.setCell ⟨R, 2, none⟩ (.slice A1 (n + 1) c1') = z) := ⟨_, rfl⟩
      rw [hwN'.out] at hN hcN0 ⊢
      clear hrd hcN fr1 cl1 hb1 hch1 ho1 hg1 hv1 ho hon
      have hT := definedQ_any (.inl rfl) hTk H hd20 hfu n wN hN hnn0 (Nat.le_trans hB hcN0.size) hwN hWN (fun v hv => by rw [hv0 v hv]; exact ⟨rfl, rfl⟩)
      rw [show restQ L (typedQ L f) 9 n qN = definedQ L (typedQ L f) n 9 qN from rfl] at hQ
      refine hT.mono ?_
      rintro e w3 ⟨rfl, hp⟩
      go_wp2_with fail
      exact PT.after (q2 := qN) hcN0 hfN hsf hp
    by_cases hk10 : k = 10
    · subst hk10
      go_wp2_with fail
      refine hon.mono ?_
      rintro e w1 ⟨rfl, hc1, h1⟩
      have ho := h1.nds.row
      rw [hqo, hn.out] at ho
      have hbk := h1.blk
      have hnR := h1.sep
      have c2 : w1.cell? ⟨R, 2, none⟩ = some (.slice A n c) := hbk.cell 2
      have hrd := hrd0 w1
      have hsz1 := hc1.size
      go_wp2_with (
        refine wpList_app el_nd _ rfl (.tmp 103) (.tmp 106) rfl B (.slice A n c) n (ndsC q.ns vs) rfl (own_ext ho ((Ext.refl w1).alloc _)) (some ⟨w1.heap.size, 0, none⟩) 1 1 NW rfl hrd hNl (fun h => by cases h) hnd1 (by omega) (by omega) (by simp; omega) (fun V1 w2 ho1 hg1 hv1 => ?_)
        obtain ⟨A1, c1', rfl, kk1, kk2, kk3, kk4⟩ := Rd.of_own ho1
        clear kk1 kk2 kk3 kk4
        have hch1 : Chg (fun k => (Value.slice A n c).ownBlock = some k) w1 w2 := (Chg.ofExt ((Ext.refl w1).alloc _)).trans (Chg.ofGrown hg1) (fun _ _ e => e)
        have hb1 := hch1.blk hbk hnR
        have fr1 := hb1.frozen 2
        have cl1 : w2.cell? ⟨R, 2, none⟩ = some _ := hb1.cell 2)
      have hsn : Rq B (w2.setCell ⟨R, 2, none⟩ (.slice A1 (n + 1) c1')) R vl (.slice A1 (n + 1) c1') (vs ++ [v0]) L qN ∧ Chg (Wq R (.slice A n c)) w1 (w2.setCell ⟨R, 2, none⟩ (.slice A1 (n + 1) c1')) := by
        rw [hnq, ← hqo]
        exact h1.snoc (by rw [hqo]; exact hn.out) h199 _ (by rw [hqo, hNW.out]; exact ho1) hch1
      obtain ⟨hN, hcN⟩ := hsn
      have hcN0 : Chg (Wq R (.slice A n c)) w (w2.setCell ⟨R, 2, none⟩ (.slice A1 (n + 1) c1')) := (hc1.mono fun k _ e => .inl e).trans hcN (fun k _ e => e)
      have hfN : Fresh w (.slice A n c) (.slice A1 (n + 1) c1') := hv1.imp (fun e => e) (fun e => ⟨_, e, by simp; omega⟩)
      obtain ⟨wN, hwN'⟩ : ∃ z, Hid (w2.setCell ⟨R, 2, none⟩ (.slice A1 (n + 1) c1') = z) := ⟨_, rfl⟩
      rw [hwN'.out] at hN hcN0 ⊢
      clear hrd hcN fr1 cl1 hb1 hch1 ho1 hg1 hv1 ho hon
      have hT := definedQ_any (.inr (.inl rfl)) hTk H hd20 hfu n wN hN hnn0 (Nat.le_trans hB hcN0.size) hwN hWN (fun v hv => by rw [hv0 v hv]; exact ⟨rfl, rfl⟩)
      rw [show restQ L (typedQ L f) 10 n qN = definedQ L (typedQ L f) n 10 qN from rfl] at hQ
      refine hT.mono ?_
      rintro e w3 ⟨rfl, hp⟩
      go_wp2_with fail
      exact PT.after (q2 := qN) hcN0 hfN hsf hp
    by_cases hk11 : k = 11
    · subst hk11
      go_wp2_with fail
      refine hon.mono ?_
      rintro e w1 ⟨rfl, hc1, h1⟩
      have ho := h1.nds.row
      rw [hqo, hn.out] at ho
      have hbk := h1.blk
      have hnR := h1.sep
      have c2 : w1.cell? ⟨R, 2, none⟩ = some (.slice A n c) := hbk.cell 2
      have hrd := hrd0 w1
      have hsz1 := hc1.size
      go_wp2_with (
        refine wpList_app el_nd _ rfl (.tmp 103) (.tmp 106) rfl B (.slice A n c) n (ndsC q.ns vs) rfl (own_ext ho ((Ext.refl w1).alloc _)) (some ⟨w1.heap.size, 0, none⟩) 1 1 NW rfl hrd hNl (fun h => by cases h) hnd1 (by omega) (by omega) (by simp; omega) (fun V1 w2 ho1 hg1 hv1 => ?_)
        obtain ⟨A1, c1', rfl, kk1, kk2, kk3, kk4⟩ := Rd.of_own ho1
        clear kk1 kk2 kk3 kk4
        have hch1 : Chg (fun k => (Value.slice A n c).ownBlock = some k) w1 w2 := (Chg.ofExt ((Ext.refl w1).alloc _)).trans (Chg.ofGrown hg1) (fun _ _ e => e)
        have hb1 := hch1.blk hbk hnR
        have fr1 := hb1.frozen 2
        have cl1 : w2.cell? ⟨R, 2, none⟩ = some _ := hb1.cell 2)
      have hsn : Rq B (w2.setCell ⟨R, 2, none⟩ (.slice A1 (n + 1) c1')) R vl (.slice A1 (n + 1) c1') (vs ++ [v0]) L qN ∧ Chg (Wq R (.slice A n c)) w1 (w2.setCell ⟨R, 2, none⟩ (.slice A1 (n + 1) c1')) := by
        rw [hnq, ← hqo]
        exact h1.snoc (by rw [hqo]; exact hn.out) h199 _ (by rw [hqo, hNW.out]; exact ho1) hch1
      obtain ⟨hN, hcN⟩ := hsn
      have hcN0 : Chg (Wq R (.slice A n c)) w (w2.setCell ⟨R, 2, none⟩ (.slice A1 (n + 1) c1')) := (hc1.mono fun k _ e => .inl e).trans hcN (fun k _ e => e)
      have hfN : Fresh w (.slice A n c) (.slice A1 (n + 1) c1') := hv1.imp (fun e => e) (fun e => ⟨_, e, by simp; omega⟩)
      obtain ⟨wN, hwN'⟩ : ∃ z, Hid (w2.setCell ⟨R, 2, none⟩ (.slice A1 (n + 1) c1') = z) := ⟨_, rfl⟩
      rw [hwN'.out] at hN hcN0 ⊢
      clear hrd hcN fr1 cl1 hb1 hch1 ho1 hg1 hv1 ho hon
      have hT := definedQ_any (.inr (.inr rfl)) hTk H hd20 hfu n wN hN hnn0 (Nat.le_trans hB hcN0.size) hwN hWN (fun v hv => by rw [hv0 v hv]; exact ⟨rfl, rfl⟩)
      rw [show restQ L (typedQ L f) 11 n qN = definedQ L (typedQ L f) n 11 qN from rfl] at hQ
      refine hT.mono ?_
      rintro e w3 ⟨rfl, hp⟩
      go_wp2_with fail
      exact PT.after (q2 := qN) hcN0 hfN hsf hp
    · have hRr : restQ L (typedQ L f) k n qN = qN := by unfold restQ; rw [if_neg hk6, if_neg hk7, if_neg hk8, if_neg (by omega)]
      rw [hRr] at hQ
      have kb6 : (k == 6) = false := by simpa using hk6
      have kb7 : (k == 7) = false := by simpa using hk7
      have kb8 : (k == 8) = false := by simpa using hk8
      have kb9 : (k == 9) = false := by simpa using hk9
      have kb10 : (k == 10) = false := by simpa using hk10
      have kb11 : (k == 11) = false := by simpa using hk11
      go_wp2_with fail
      refine hon.mono ?_
      rintro e w1 ⟨rfl, hc1, h1⟩
      have ho := h1.nds.row
      rw [hqo, hn.out] at ho
      have hbk := h1.blk
      have hnR := h1.sep
      have c2 : w1.cell? ⟨R, 2, none⟩ = some (.slice A n c) := hbk.cell 2
      have hrd := hrd0 w1
      have hsz1 := hc1.size
      go_wp2_with (
        refine wpList_app el_nd _ rfl (.tmp 103) (.tmp 106) rfl B (.slice A n c) n (ndsC q.ns vs) rfl (own_ext ho ((Ext.refl w1).alloc _)) (some ⟨w1.heap.size, 0, none⟩) 1 1 NW rfl hrd hNl (fun h => by cases h) hnd1 (by omega) (by omega) (by simp; omega) (fun V1 w2 ho1 hg1 hv1 => ?_)
        obtain ⟨A1, c1', rfl, kk1, kk2, kk3, kk4⟩ := Rd.of_own ho1
        clear kk1 kk2 kk3 kk4
        have hch1 : Chg (fun k => (Value.slice A n c).ownBlock = some k) w1 w2 := (Chg.ofExt ((Ext.refl w1).alloc _)).trans (Chg.ofGrown hg1) (fun _ _ e => e)
        have hb1 := hch1.blk hbk hnR
        have fr1 := hb1.frozen 2
        have cl1 : w2.cell? ⟨R, 2, none⟩ = some _ := hb1.cell 2)
      have hsn : Rq B (w2.setCell ⟨R, 2, none⟩ (.slice A1 (n + 1) c1')) R vl (.slice A1 (n + 1) c1') (vs ++ [v0]) L qN ∧ Chg (Wq R (.slice A n c)) w1 (w2.setCell ⟨R, 2, none⟩ (.slice A1 (n + 1) c1')) := by
        rw [hnq, ← hqo]
        exact h1.snoc (by rw [hqo]; exact hn.out) h199 _ (by rw [hqo, hNW.out]; exact ho1) hch1
      obtain ⟨hN, hcN⟩ := hsn
      have hcN0 : Chg (Wq R (.slice A n c)) w (w2.setCell ⟨R, 2, none⟩ (.slice A1 (n + 1) c1')) := (hc1.mono fun k _ e => .inl e).trans hcN (fun k _ e => e)
      have hfN : Fresh w (.slice A n c) (.slice A1 (n + 1) c1') := hv1.imp (fun e => e) (fun e => ⟨_, e, by simp; omega⟩)
      obtain ⟨wN, hwN'⟩ : ∃ z, Hid (w2.setCell ⟨R, 2, none⟩ (.slice A1 (n + 1) c1') = z) := ⟨_, rfl⟩
      rw [hwN'.out] at hN hcN0 ⊢
      clear hrd hcN fr1 cl1 hb1 hch1 ho1 hg1 hv1 ho hon
      exact ⟨hcN0, _, _, hN, hfN, hsf⟩
end
end Go.Proofs.YtejcacbbhijdcaaGreatDoor.Pr
/- parse: the reference's reader: what stands in a type's way, walked. -/
namespace Go.Proofs.YtejcacbbhijdcaaGreatDoor.Pr
open Go.ChangeShapes Go.WideShapes Go.ChangeAt Go.RowKit
open Base Lx Mi Piece
set_option linter.unusedVariables false
set_option linter.unusedSimpArgs false

/-- a place between two pieces of code: what holds there -/
theorem seq_mid {P : Program} {a b : Code} {Q : Exit → Act → World → Prop} {act : Act} {w : World} (M : Act → World → Prop) (h1 : ∀ K : Act → World → Prop, (∀ a w, M a w → K a w) → a.wp P (Exit.then K Q) act w) (h2 : ∀ a w, M a w → b.wp P Q a w) : (Code.seq a b).wp P Q act w := wp_seq (h1 _ h2)
def up (n : Nat) : Code → Option Code
  | .seq (.seq (.region m os d) x) b => bif Nat.beq m n then some (.seq (.seq (.region m os d) x) b) else up n b
  | .seq a b => match up n a with
    | some c => some c
    | none => up n b
  | .cond _ a b => match up n a with
    | some c => some c
    | none => up n b
  | .block _ c => up n c
  | .loop c => up n c
  | .scope c => up n c
  | _ => none
def upC (n : Nat) (c : Option Code) : Code := match c with
  | some c => match up n c with
    | some c => c
    | none => .skip
  | none => .skip
section
variable {B R : Nat} {vl vn : Value} {vs : List V3} {L : List Tok} {q : QS}
set_option maxRecDepth 1000000 in
set_option maxHeartbeats 8000000 in
theorem typed11 {deep fuel : Nat} (hTk : TokOk L) (hdf : deep + fuel = 20) (H : ∀ f, fuel = f + 1 → TypQ B R L (deep + 1) f) (union : Bool) (ahead : List Nat) (hw : q.why = 0) (hW : WQ L q.at_ q) (k nn : Int) (hk : kOf (tkQ L q) = k) (hnn : k < 0 → calledQ L q = nn) (v2 v3 v4 v5 v6 v7 v9 : Value) (a : Act) (w : World) (h : Rq B w R vl vn vs L (gateQ L fuel union ahead q)) (hB : B ≤ w.heap.size) (PO : Ending → World → Prop)
    (hF : Fr 161 [.pointer (some ⟨R, 0, none⟩), .int .i64 (deep : Int), v2, v3, v4, v5, v6, v7, .int .i64 0, v9, .int .i64 k, .int .i64 nn] a)
    (hQ : ∀ w', PT B R vl vn vs L w (typedQ L fuel union ahead q).2 w' → PO (.returned (.int .i64 ((typedQ L fuel union ahead q).1 : Int))) w') :
    (upC 11 Tryz.f26.body).wp Tryz.prog (bodyPost Tryz.prog Tryz.f26 PO) a w := by
  conv => arg 2; whnf
  refine seq_mid (fun a' w' => Fr 161 [.pointer (some ⟨R, 0, none⟩), .int .i64 (deep : Int), v2, v3, v4, v5, v6, v7, .int .i64 0, v9, .int .i64 k, .int .i64 nn] a' ∧ w' = w ∧ (gateQ L fuel union ahead q).why = 0) ?_ ?_
  · intro K hK
    obtain ⟨u, rfl⟩ := lay161 hF
    clear hF
    have hy := h.why_cell
    by_cases hz : (gateQ L fuel union ahead q).why = 0
    · have hyb : (((gateQ L fuel union ahead q).why : Int) == 0) = true := by rw [hz]; rfl
      obtain ⟨y, hyy⟩ : ∃ z, Hid ((gateQ L fuel union ahead q).why = z) := ⟨_, Lib.hid rfl⟩
      rw [hyy.out] at hy hyb
      have hy0 : ((y : Nat) : Int) = 0 := by have := hyy.out; omega
      clear hQ
      go_wp2_with fail
      first | exact ⟨⟨_, rfl, rfl⟩, rfl, hz⟩ | exact ⟨_, rfl, rfl⟩ | exact ⟨⟨_, rfl, rfl⟩, hz⟩
    · have hneb : (((gateQ L fuel union ahead q).why : Int) == 0) = false := by simpa using (by omega : ¬ ((gateQ L fuel union ahead q).why : Int) = 0)
      have hne : ¬ ((gateQ L fuel union ahead q).why : Int) = 0 := by omega
      have hr : typedQ L fuel union ahead q = (0, gateQ L fuel union ahead q) := by
        cases fuel with
        | zero => rw [typedQ]
        | succ f => rw [typedQ, if_pos hz]
      rw [hr] at hQ
      have hpt := PT.id h
      obtain ⟨y, hyy⟩ : ∃ z, Hid ((gateQ L fuel union ahead q).why = z) := ⟨_, Lib.hid rfl⟩
      rw [hyy.out] at hy hneb hne
      clear hz hr
      go_wp2_with fail
      try exact hpt
  · rintro a' w' ⟨hF', hw', hz⟩
    have hw' := hw'.symm
    subst hw'
    obtain ⟨e1, e2, e3, e4, e5⟩ := gateQ_ok hz
    obtain ⟨f, rfl⟩ : ∃ f, fuel = f + 1 := ⟨fuel - 1, by omega⟩
    rw [e1] at h
    have hkk : (tkQ L q).k ≠ 3 := by
      by_cases hk0 : kOf (tkQ L q) < 0
      · rw [(e3 hk0).1]; decide
      · exact kOf_k (by omega)
    rw [typedQ, if_neg (by rw [hz]; simp), e1] at hQ
    refine typed13 hTk (H f rfl) (by omega) (by omega) k nn v2 v3 v4 v5 v6 v7 v9 a' w h hw hW hB hkk (fun e => e5 (by rw [hk]; exact e)) PO hF' (fun w2 hp => ?_)
    by_cases hk0 : k < 0
    · rw [if_pos (by rw [hk]; exact hk0)] at hQ
      rw [if_pos hk0] at hp ⊢
      have := (e3 (by rw [hk]; exact hk0)).2.2.2
      rw [hnn hk0] at this hQ
      have hQ2 := hQ w2 hp
      simp only at hQ2
      rwa [Int.toNat_of_nonneg this] at hQ2
    · rw [if_neg (by rw [hk]; exact hk0)] at hQ
      rw [if_neg hk0] at hp ⊢
      rw [hk] at hQ
      exact hQ w2 hp
end
end Go.Proofs.YtejcacbbhijdcaaGreatDoor.Pr
/- parse: how deep a schema is; nodes' shapes: plain. -/
namespace Go.Proofs.YtejcacbbhijdcaaGreatDoor.Pr
open Lx
set_option linter.unusedVariables false

abbrev DT := Int → Nat → Option (Nat × Nat)
def dlist (D : DT) : List Int → Nat → Nat → Option (Nat × Nat)
  | [], next, most => some (most, next)
  | n :: l, next, most => match D n next with
    | none => none
    | some (d, nx) => dlist D l nx (max most d)
/-- how deep a node is, and which one begins next; none: it is not one that is shown -/
def dtyp (ns : List Ne) : Nat → DT
  | 0, _, _ => none
  | f + 1, n, next =>
    if n < 0 ∨ (ns.length : Int) ≤ n ∨ (next : Int) < n then none
    else if n < (next : Int) then some (1, next)
    else match dlist (dtyp ns f) (ns.getD n.toNat neD).items (next + 1) 0 with
      | none => none
      | some (m, nx) => match dlist (dtyp ns f) ((ns.getD n.toNat neD).fields.map fun f => f.2.2) nx m with
        | none => none
        | some (m, nx) => some (m + 1, nx)
/-- what a node of a kind has -/
def Shp (d : Ne) : Prop := (d.items = [] ∨ d.k = 6 ∨ d.k = 7 ∨ d.k = 8) ∧ (d.fields = [] ∨ d.k = 11)
/-- bad once, bad ever -/
def WB (T : WT) : Prop := ∀ n st, st.bad = true → (T n st).bad = true
theorem wlist_bad {T : WT} (h : WB T) : ∀ (b : Bool) (l : List Int) (st : WSt), st.bad = true → (wlist T b l st).bad = true
  | _, [], st, hb => hb
  | b, n :: l, st, hb => by
    rw [wlist]
    refine wlist_bad h false l _ (h n _ ?_)
    split
    · exact hb
    · exact hb
theorem wflds_bad {T : WT} (h : WB T) : ∀ (l : List (ByteArray × Bool × Int)) (st : WSt), st.bad = true → (wflds T l st).bad = true
  | [], st, hb => hb
  | f :: l, st, hb => by
    rw [wflds]
    refine wflds_bad h l _ ?_
    unfold wfield
    refine h f.2.2 _ ?_
    show (if f.2.1 then (st.put (bs f.1)).put [63] else st.put (bs f.1)).bad = true
    split
    · exact hb
    · exact hb
theorem wtyp_bad (ns : List Ne) : ∀ f, WB (wtyp ns f)
  | 0, n, st, hb => rfl
  | f + 1, n, st, hb => by
    rw [wtyp, if_pos (.inl hb)]
/-- what is written without fault is gone through -/
def DW (T : WT) (D : DT) : Prop := ∀ n st, (T n st).bad = false → ∃ d, D n st.next = some (d, (T n st).next)
theorem wlist_deep {T : WT} {D : DT} (hb : WB T) (h : DW T D) : ∀ (b : Bool) (l : List Int) (st : WSt) (most : Nat), (wlist T b l st).bad = false → ∃ d, dlist D l st.next most = some (d, (wlist T b l st).next)
  | _, [], st, most, _ => ⟨most, rfl⟩
  | b, n :: l, st, most, he => by
    rw [wlist] at he ⊢
    have h1 : (T n (if b then st else st.put [124])).bad = false := by
      cases hq : (T n (if b then st else st.put [124])).bad with
      | false => rfl
      | true => rw [wlist_bad hb false l _ hq] at he; cases he
    obtain ⟨d, hd⟩ := h n _ h1
    have hn : (if b then st else st.put [124]).next = st.next := by split <;> rfl
    rw [hn] at hd
    obtain ⟨d2, hd2⟩ := wlist_deep hb h false l (T n (if b then st else st.put [124])) (max most d) he
    exact ⟨d2, by rw [dlist, hd]; exact hd2⟩
theorem wflds_deep {T : WT} {D : DT} (hb : WB T) (h : DW T D) : ∀ (l : List (ByteArray × Bool × Int)) (st : WSt) (most : Nat), (wflds T l st).bad = false → ∃ d, dlist D (l.map fun f => f.2.2) st.next most = some (d, (wflds T l st).next)
  | [], st, most, _ => ⟨most, rfl⟩
  | f :: l, st, most, he => by
    rw [wflds] at he ⊢
    obtain ⟨st2, hst2⟩ : ∃ z, z = ((if f.2.1 then (st.put (bs f.1)).put [63] else st.put (bs f.1)).put [58]) := ⟨_, rfl⟩
    have hw : wfield T f st = (T f.2.2 st2).put [59] := by rw [hst2]; rfl
    have hn : st2.next = st.next := by rw [hst2]; show (if f.2.1 then (st.put (bs f.1)).put [63] else st.put (bs f.1)).next = _; split <;> rfl
    rw [hw] at he ⊢
    have h1 : (T f.2.2 st2).bad = false := by
      cases hq : (T f.2.2 st2).bad with
      | false => rfl
      | true => have hz := wflds_bad hb l ((T f.2.2 st2).put [59]) hq; rw [hz] at he; cases he
    obtain ⟨d, hd⟩ := h f.2.2 _ h1
    rw [hn] at hd
    obtain ⟨d2, hd2⟩ := wflds_deep hb h l ((T f.2.2 st2).put [59]) (max most d) he
    refine ⟨d2, ?_⟩
    rw [List.map_cons, dlist, hd]
    exact hd2
theorem wtyp_deep {ns : List Ne} (hs : ∀ d ∈ ns, Shp d) : ∀ f, DW (wtyp ns f) (dtyp ns f)
  | 0, n, st, h => by cases h
  | f + 1, n, st, h => by
    rw [wtyp] at h ⊢
    split at h
    · cases h
    · next hst =>
      rw [if_neg hst] at ⊢
      have hst2 := hst
      unfold wstop at hst2
      simp only [not_or, Int.not_lt, Int.not_le, Nat.not_lt] at hst2
      obtain ⟨q1, q2, q3, q4, q5, q6⟩ := hst2
      rw [dtyp, if_neg (by omega)]
      split at h
      · next hlt => rw [if_pos hlt, if_pos hlt]; exact ⟨1, rfl⟩
      · next hlt =>
        rw [if_neg hlt, if_neg hlt]
        have hmem : ns.getD n.toNat neD ∈ ns := by
          have : n.toNat < ns.length := by omega
          rw [show ns.getD n.toNat neD = ns[n.toNat] by simp [List.getD, List.getElem?_eq_getElem this]]
          exact List.getElem_mem this
        obtain ⟨h1, h2⟩ := hs _ hmem
        generalize ns.getD n.toNat neD = x at h h1 h2
        have ih := wtyp_deep hs f
        have hb := wtyp_bad ns f
        have hitem : ∀ (a c : List UInt8), x.fields = [] → (witems (wtyp ns f) a x.items c { st with next := st.next + 1 }).bad = false → ∃ d, (match dlist (dtyp ns f) x.items (st.next + 1) 0 with
            | none => none
            | some (m, nx) => match dlist (dtyp ns f) (x.fields.map fun f => f.2.2) nx m with
              | none => none
              | some (m, nx) => some (m + 1, nx)) = some (d, (witems (wtyp ns f) a x.items c { st with next := st.next + 1 }).next) := fun a c hf he => by
          obtain ⟨d, hd⟩ := wlist_deep hb ih true x.items (({ st with next := st.next + 1 } : WSt).put a) 0 he
          have hd : dlist (dtyp ns f) x.items (st.next + 1) 0 = _ := hd
          rw [hd, hf]
          exact ⟨d + 1, rfl⟩
        unfold wbody at h ⊢
        split at h
        · next hk => rw [if_pos hk]; exact hitem _ _ (h2.resolve_right (by omega)) h
        · next k6 =>
          rw [if_neg k6]
          split at h
          · next hk => rw [if_pos hk]; exact hitem _ _ (h2.resolve_right (by omega)) h
          · next k7 =>
            rw [if_neg k7]
            split at h
            · next hk => rw [if_pos hk]; exact hitem _ _ (h2.resolve_right (by omega)) h
            · next k8 =>
              rw [if_neg k8]
              have hi0 : x.items = [] := h1.resolve_right (by omega)
              rw [hi0]
              simp only [dlist]
              split at h
              · next hk => rw [if_pos hk, h2.resolve_right (by omega)]; exact ⟨1, rfl⟩
              · next k9 =>
                rw [if_neg k9]
                split at h
                · next hk => rw [if_pos hk, h2.resolve_right (by omega)]; exact ⟨1, rfl⟩
                · next k10 =>
                  rw [if_neg k10]
                  split at h
                  · next hk =>
                    rw [if_pos hk]
                    unfold wrecord at h ⊢
                    obtain ⟨d, hd⟩ := wflds_deep hb ih x.fields (({ st with next := st.next + 1 } : WSt).put (sRec ++ bs x.name ++ [123])) 0 h
                    have hd : dlist (dtyp ns f) (x.fields.map fun f => f.2.2) (st.next + 1) 0 = _ := hd
                    rw [hd]
                    exact ⟨d + 1, rfl⟩
                  · next k11 =>
                    rw [if_neg k11, h2.resolve_right (by omega)]
                    split at h
                    · cases h
                    · next hk => rw [if_neg hk]; exact ⟨1, rfl⟩
/-- how deep a schema is; 0: it has no text -/
def depthP (ns : List Ne) : Nat := match showP ns with
  | none => 0
  | some _ => match dtyp ns 20 0 0 with
    | none => 0
    | some (d, _) => d

/-! ### What is read has nodes of such shapes, and what was there stays -/
def ShN (d : Nd) : Prop := (d.items = [] ∨ d.k = 6 ∨ d.k = 7 ∨ d.k = 8) ∧ (d.fields = [] ∨ d.k = 11)
theorem ShN.toE {d : Nd} (h : ShN d) : Shp d.toE := by
  refine ⟨h.1.imp (fun e => by show d.items.map _ = []; rw [e]; rfl) (fun e => e), h.2.imp (fun e => by show d.fields.map _ = []; rw [e]; rfl) (fun e => e)⟩
/-- nodes as they were, up to a place -/
def Pre (s s' : PS) : Prop := ∀ i, i < s.ns.length → s'.ns[i]? = s.ns[i]?
theorem Pre.len {s s' : PS} (h : Pre s s') : s.ns.length ≤ s'.ns.length := by
  rcases Nat.lt_or_ge s'.ns.length s.ns.length with h1 | h1
  · have := h s'.ns.length h1
    rw [List.getElem?_eq_none (Nat.le_refl _), List.getElem?_eq_getElem h1] at this
    cases this
  · exact h1
theorem Pre.trans {a b c : PS} (h : Pre a b) (k : Pre b c) : Pre a c := fun i hi => (k i (Nat.lt_of_lt_of_le hi h.len)).trans (h i hi)
theorem Pre.same {s s' : PS} (e : s'.ns = s.ns) : Pre s s' := fun i _ => by rw [e]
/-- all but the node n as they were -/
def PreB (n : Nat) (s s' : PS) : Prop := ∀ i, i < s.ns.length → i ≠ n → s'.ns[i]? = s.ns[i]?
theorem setN_at (s : PS) (n : Nat) (f : Nd → Nd) (i : Nat) (h : i ≠ n) : (s.setN n f).ns[i]? = s.ns[i]? := by
  show (s.ns.modify n f)[i]? = _
  have h' : ¬ n = i := fun e => h e.symm
  rw [List.getElem?_modify]; simp [h']
theorem AllN.setAt {p : Nd → Prop} {s : PS} (h : AllN p s) (n : Nat) {f : Nd → Nd} (hf : ∀ d, s.ns[n]? = some d → p d → p (f d)) : AllN p (s.setN n f) := fun d hd => by
  obtain ⟨i, hi⟩ := List.mem_iff_getElem?.1 hd
  have hi : (s.ns.modify n f)[i]? = some d := hi
  rw [List.getElem?_modify] at hi
  obtain ⟨d0, h0, rfl⟩ := Option.map_eq_some_iff.1 hi
  have := h d0 (List.mem_of_getElem? h0)
  split
  · next e => subst e; exact hf d0 h0 this
  · exact this
/-- a reader of types keeps shapes, and what was there -/
def TS (T : Bool → List Nat → PS → Res Nat) : Prop := ∀ u a s n s', T u a s = .ok n s' → AllN ShN s → AllN ShN s' ∧ Pre s s'
/-- a node of a kind -/
def KAt (s : PS) (n : Nat) (k : Int) : Prop := ∃ d, s.ns[n]? = some d ∧ d.k = k
theorem KAt.pre {s s' : PS} {n : Nat} {k : Int} (h : KAt s n k) (hp : Pre s s') : KAt s' n k := by
  obtain ⟨d, h1, h2⟩ := h
  exact ⟨d, by rw [hp n (List.getElem?_eq_some_iff.1 h1).1]; exact h1, h2⟩
theorem PreB.of {n : Nat} {s s1 s' : PS} (h : Pre s s1) (k : ∀ i, i ≠ n → s'.ns[i]? = s1.ns[i]?) : PreB n s s' := fun i hi hne => (k i hne).trans (h i hi)
theorem itemR_shp {T : Bool → List Nat → PS → Res Nat} (hT : TS T) {s s' : PS} {n : Nat} {k : Int} {x : ByteArray} {u : Unit} (h : itemR T s n x = .ok u s') (hp : AllN ShN s) (hk : KAt s n k) (hkk : k = 6 ∨ k = 7 ∨ k = 8) : AllN ShN s' ∧ PreB n s s' := by
  obtain ⟨a, s1, h1, h2⟩ := Res.bind_ok h
  obtain ⟨h5, rfl⟩ := mustR_ok h2
  obtain ⟨p1, p2⟩ := hT _ _ _ _ _ h1 hp
  obtain ⟨d0, e0, e1⟩ := hk.pre p2
  refine ⟨(p1.setAt n fun d hd hs => ?_).same rfl, PreB.of p2 fun i hi => setN_at s1 n _ i hi⟩
  rw [e0] at hd; injection hd with hd; subst hd
  exact ⟨.inr (by show d0.k = 6 ∨ d0.k = 7 ∨ d0.k = 8; rw [e1]; exact hkk), hs.2⟩
theorem PreB.trans {n : Nat} {a b c : PS} (h : Pre a b) (k : PreB n b c) : PreB n a c := fun i hi hne => (k i (Nat.lt_of_lt_of_le hi h.len) hne).trans (h i hi)
theorem unionR_shp {T : Bool → List Nat → PS → Res Nat} (hT : TS T) (n : Nat) : ∀ (m : Nat) (l : List Nat) {s s' : PS} {u : Unit}, unionR T n m l s = .ok u s' → AllN ShN s → KAt s n 8 → AllN ShN s' ∧ PreB n s s'
  | 0, l, s, s', u, h, _, _ => by cases h
  | m + 1, l, s, s', u, h, hp, hk => by
    rw [unionR] at h
    obtain ⟨a, s1, h1, h2⟩ := Res.bind_ok h
    obtain ⟨p1, p2⟩ := hT _ _ _ _ _ h1 hp
    have hk1 := hk.pre p2
    split at h2
    · injection h2 with _ h2
      subst h2
      obtain ⟨d0, e0, e1⟩ := hk1
      refine ⟨(p1.same (s' := s1.on) rfl).setAt n fun d hd hs => ?_, PreB.of p2 fun i hi => setN_at s1.on n _ i hi⟩
      rw [show s1.on.ns = s1.ns from rfl, e0] at hd; injection hd with hd; subst hd
      exact ⟨.inr (.inr (.inr e1)), hs.2⟩
    · obtain ⟨v, s2, h5, h6⟩ := Res.bind_ok h2
      obtain ⟨h7, rfl⟩ := mustR_ok h5
      obtain ⟨q1, q2⟩ := unionR_shp hT n m _ h6 (p1.same rfl) hk1
      exact ⟨q1, PreB.trans (b := s1.on) p2 q2⟩
theorem fieldsR_shp {T : Bool → List Nat → PS → Res Nat} (hT : TS T) (n : Nat) : ∀ (m : Nat) (l : List (ByteArray × Bool × Nat)) {s s' : PS} {u : Unit}, fieldsR T n m l s = .ok u s' → AllN ShN s → KAt s n 11 → AllN ShN s' ∧ PreB n s s'
  | 0, l, s, s', u, h, _, _ => by cases h
  | m + 1, l, s, s', u, h, hp, hk => by
    rw [fieldsR] at h
    split at h
    · injection h with _ h
      subst h
      obtain ⟨d0, e0, e1⟩ := hk
      refine ⟨(hp.same (s' := s.on) rfl).setAt n fun d hd hs => ?_, fun i _ hi => setN_at s.on n _ i hi⟩
      rw [show s.on.ns = s.ns from rfl, e0] at hd; injection hd with hd; subst hd
      exact ⟨hs.1, .inr e1⟩
    · obtain ⟨x, s1, h1, h2⟩ := Res.bind_ok h
      obtain ⟨_, _, _, _, _, rfl⟩ := nameR_ok h1
      obtain ⟨v, s2, h3, h4⟩ := Res.bind_ok h2
      obtain ⟨h5, rfl⟩ := mustR_ok h3
      obtain ⟨t, s3, h6, h7⟩ := Res.bind_ok h4
      obtain ⟨v2, s4, h10, h11⟩ := Res.bind_ok h7
      obtain ⟨h12, rfl⟩ := mustR_ok h10
      have e2 : (goesR s.on cQ).2.on.ns = s.ns := by show (goesR s.on cQ).2.ns = _; rw [goes_ns]; rfl
      obtain ⟨p1, p2⟩ := hT _ _ _ _ _ h6 (hp.same e2)
      have p3 : Pre s s3 := (Pre.same e2).trans p2
      obtain ⟨q1, q2⟩ := fieldsR_shp hT n m _ h11 (p1.same rfl) (hk.pre (p3.trans (Pre.same (s' := s3.on) rfl)))
      exact ⟨q1, PreB.trans (b := s3.on) p3 q2⟩
theorem symsR_shp (n : Nat) : ∀ (m : Nat) (l : List ByteArray) {s s' : PS} {u : Unit}, symsR n m l s = .ok u s' → AllN ShN s → AllN ShN s' ∧ PreB n s s'
  | 0, l, s, s', u, h, _ => by cases h
  | m + 1, l, s, s', u, h, hp => by
    rw [symsR] at h
    obtain ⟨x, s1, h1, h2⟩ := Res.bind_ok h
    obtain ⟨_, _, _, _, _, rfl⟩ := nameR_ok h1
    split at h2
    · injection h2 with _ h2
      subst h2
      exact ⟨(hp.same (s' := s.on.on) rfl).setN n fun d hd => hd, fun i _ hi => setN_at s.on.on n _ i hi⟩
    · obtain ⟨v, s2, h5, h6⟩ := Res.bind_ok h2
      obtain ⟨h7, rfl⟩ := mustR_ok h5
      obtain ⟨q1, q2⟩ := symsR_shp n m _ h6 (hp.same (s' := s.on.on) rfl)
      exact ⟨q1, q2⟩
theorem definedR_shp {T : Bool → List Nat → PS → Res Nat} (hT : TS T) {s s' : PS} {n : Nat} {k : Int} {u : Unit} (hkk : k = 9 ∨ k = 10 ∨ k = 11) (h : definedR T s n k = .ok u s') (hp : AllN ShN s) (hk : KAt s n k) : AllN ShN s' ∧ PreB n s s' := by
  unfold definedR at h
  obtain ⟨x, s1, h1, h2⟩ := Res.bind_ok h
  obtain ⟨_, _, _, _, _, rfl⟩ := nameR_ok h1
  simp only at h2
  have hp2 : AllN ShN (s.on.called n x) := ((hp.same (s' := s.on) rfl).setN n (f := fun d => { d with name := x }) fun d hd => hd).same rfl
  have hb2 : PreB n s (s.on.called n x) := fun i _ hi => setN_at s.on n _ i hi
  have hl2 : (s.on.called n x).ns.length = s.ns.length := setN_len s.on n _
  have hk2 : KAt (s.on.called n x) n k := by
    obtain ⟨d, e1, e2⟩ := hk
    refine ⟨{ d with name := x }, ?_, e2⟩
    show (s.ns.modify n _)[n]? = _
    rw [List.getElem?_modify, e1]; simp
  generalize hs2 : s.on.called n x = s2 at h2 hp2 hb2 hl2 hk2
  have tr : ∀ s3, PreB n s2 s3 → PreB n s s3 := fun s3 h3 i hi hne => (h3 i (by omega) hne).trans (hb2 i hi hne)
  split at h2
  · obtain ⟨v, s3, h5, h6⟩ := Res.bind_ok h2
    obtain ⟨h7, rfl⟩ := mustR_ok h5
    obtain ⟨q1, q2⟩ := symsR_shp n _ _ h6 (hp2.same rfl)
    exact ⟨q1, tr _ q2⟩
  · split at h2
    · split at h2
      · cases h2
      · injection h2 with _ h2
        subst h2
        exact ⟨(hp2.same (s' := s2.on) rfl).setN n fun d hd => hd, tr _ fun i _ hi => setN_at s2.on n _ i hi⟩
    · next k9 k10 =>
      obtain ⟨v, s3, h5, h6⟩ := Res.bind_ok h2
      obtain ⟨h7, rfl⟩ := mustR_ok h5
      have hk11 : k = 11 := by omega
      subst hk11
      obtain ⟨q1, q2⟩ := fieldsR_shp hT n _ _ h6 (hp2.same rfl) hk2
      exact ⟨q1, tr _ q2⟩
theorem typedR_shp : ∀ (fuel : Nat), TS (typedR fuel)
  | fuel, u, a, s, n, s', h, hp => by
    rw [typedR.eq_def] at h
    simp only at h
    split at h
    · cases h
    · next k hk =>
      split at h
      · cases h
      · split at h
        · injection h with _ h
          subst h
          exact ⟨hp.same rfl, Pre.same rfl⟩
        · cases fuel with
          | zero => cases h
          | succ fuel =>
            have ih := typedR_shp fuel
            simp only at h
            have hp1 : AllN ShN ({ s.on with ns := s.ns ++ [Nd.ofKind k] } : PS) := fun d hd => by
              rcases List.mem_append.1 hd with hd | hd
              · exact hp d hd
              · rw [List.mem_singleton] at hd; subst hd; exact ⟨.inl rfl, .inl rfl⟩
            have hpre : Pre s ({ s.on with ns := s.ns ++ [Nd.ofKind k] } : PS) := fun i hi => List.getElem?_append_left hi
            have hka : KAt ({ s.on with ns := s.ns ++ [Nd.ofKind k] } : PS) s.ns.length k := ⟨Nd.ofKind k, by simp, rfl⟩
            generalize hs1 : ({ s.on with ns := s.ns ++ [Nd.ofKind k] } : PS) = s1 at h hp1 hpre hka
            have fin : ∀ s2, PreB s.ns.length s1 s2 → Pre s s2 := fun s2 hb i hi => (hb i (Nat.lt_of_lt_of_le hi hpre.len) (by omega)).trans (hpre i hi)
            split at h
            · next k6 =>
              obtain ⟨_, s2, h1, h2⟩ := Res.bind_ok h
              injection h2 with _ h2; subst h2
              obtain ⟨q1, q2⟩ := itemR_shp ih h1 hp1 hka (.inl k6)
              exact ⟨q1, fin _ q2⟩
            · split at h
              · next k7 =>
                obtain ⟨_, s2, h1, h2⟩ := Res.bind_ok h
                injection h2 with _ h2; subst h2
                obtain ⟨q1, q2⟩ := itemR_shp ih h1 hp1 hka (.inr (.inl k7))
                exact ⟨q1, fin _ q2⟩
              · split at h
                · next k8 =>
                  obtain ⟨_, s2, h1, h2⟩ := Res.bind_ok h
                  injection h2 with _ h2; subst h2
                  subst k8
                  obtain ⟨q1, q2⟩ := unionR_shp ih _ _ _ h1 hp1 hka
                  exact ⟨q1, fin _ q2⟩
                · split at h
                  · next kd =>
                    obtain ⟨_, s2, h1, h2⟩ := Res.bind_ok h
                    injection h2 with _ h2; subst h2
                    obtain ⟨q1, q2⟩ := definedR_shp ih kd h1 hp1 hka
                    exact ⟨q1, fin _ q2⟩
                  · injection h with _ h; subst h
                    exact ⟨hp1, hpre⟩
theorem parse_shp (s : ByteArray) : ∀ d ∈ (parseP s).1, ShN d := by
  unfold parseP
  split
  · intro d hd; cases hd
  · split
    · intro d hd; cases hd
    · next s' he =>
      split
      · intro d hd; cases hd
      · exact (typedR_shp 20 _ _ _ _ _ he (fun d hd => by cases hd)).1
/-- a schema that is shown is gone through -/
theorem show_deep {ns : List Ne} {t : List UInt8} (h : showP ns = some t) : ∃ d, dtyp ns 20 0 0 = some (d, ns.length) ∧ depthP ns = d := by
  have h0 := h
  unfold showP at h
  simp only at h
  split at h
  · cases h
  · next hb =>
    split at h
    · cases h
    · next hp =>
      simp only [not_or, Bool.not_eq_true, ne_eq, Decidable.not_not] at hb hp
      have hs : ∀ d ∈ ns, Shp d := by
        rw [← hp.2]
        intro d hd
        obtain ⟨d0, h1, rfl⟩ := List.mem_map.1 hd
        exact (parse_shp _ d0 h1).toE
      obtain ⟨d, hd⟩ := wtyp_deep hs 20 0 ⟨[], 0, false⟩ hb.1
      rw [hb.2] at hd
      refine ⟨d, hd, ?_⟩
      unfold depthP
      have hd : dtyp ns 20 0 0 = some (d, ns.length) := hd
      rw [h0, hd]
end Go.Proofs.YtejcacbbhijdcaaGreatDoor.Pr
