/- parse: the reference's writer: a type's parts, walked. -/
import Derived.Test.YtmaoochjbpohdaaGreatDoorRbT
set_option linter.unusedVariables false
set_option linter.unusedSimpArgs false
set_option maxRecDepth 100000
set_option maxHeartbeats 1000000
open Go.ChangeShapes Go.WideShapes Go.ChangeAt Go.RowKit
namespace Go.Proofs.YtmaoochjbpohdaaGreatDoor
namespace Pr
open Base Lx Mi Piece
def fstC:Code→Code
 | .seq a _=>a
 | _=>.skip
def sndC:Code→Code
 | .seq _ b=>b
 | _=>.skip
def opA:Array Value := #[.string ⟨#[110,117,108,108]⟩,.string ⟨#[98,111,111,108]⟩,.string ⟨#[105,110,116]⟩,.string ⟨#[108,111,110,103]⟩,.string ⟨#[98,121,116,101,115]⟩,.string ⟨#[116,101,120,116]⟩,.string ⟨#[91]⟩,.string ⟨#[123]⟩,.string ⟨#[40]⟩,.string ⟨#[101,110,117,109,32]⟩,.string ⟨#[102,105,120,101,100,32]⟩,.string ⟨#[114,101,99,111,114,100,32]⟩]
def shA:Array Value := #[.string ⟨#[]⟩,.string ⟨#[]⟩,.string ⟨#[]⟩,.string ⟨#[]⟩,.string ⟨#[]⟩,.string ⟨#[]⟩,.string ⟨#[93]⟩,.string ⟨#[125]⟩,.string ⟨#[41]⟩,.string ⟨#[62]⟩,.string ⟨#[]⟩,.string ⟨#[125]⟩]
def opS (k:Nat):ByteArray:=(([⟨#[110,117,108,108]⟩,⟨#[98,111,111,108]⟩,⟨#[105,110,116]⟩,⟨#[108,111,110,103]⟩,⟨#[98,121,116,101,115]⟩,⟨#[116,101,120,116]⟩,⟨#[91]⟩,⟨#[123]⟩,⟨#[40]⟩,⟨#[101,110,117,109,32]⟩,⟨#[102,105,120,101,100,32]⟩,⟨#[114,101,99,111,114,100,32]⟩]:List ByteArray)).getD k ⟨#[]⟩
def shS (k:Nat):ByteArray:=(([⟨#[]⟩,⟨#[]⟩,⟨#[]⟩,⟨#[]⟩,⟨#[]⟩,⟨#[]⟩,⟨#[93]⟩,⟨#[125]⟩,⟨#[41]⟩,⟨#[62]⟩,⟨#[]⟩,⟨#[125]⟩]:List ByteArray)).getD k ⟨#[]⟩
theorem opA_at (k:Nat) (h:k<12):opA[k]?=some (.string (opS k)):=by
 rcases k with _|_|_|_|_|_|_|_|_|_|_|_|k<;>first|rfl|omega
theorem shA_at (k:Nat) (h:k<12):shA[k]?=some (.string (shS k)):=by
 rcases k with _|_|_|_|_|_|_|_|_|_|_|_|k<;>first|rfl|omega
structure Ms (B R X O H:Nat) (no:Value) (cs:Array Value) (w0:World) (st:WSt) (w:World):Prop where
 ch:Chg (fun k=>k=R) w0 w
 inv:RInv B w R no st
 nd:Blk w X cs 36
 op:Blk w O opA 9
 sh:Blk w H shA 9
 xr:¬X=R
 oR:¬O=R
 hR:¬H=R
 hB:B≤w0.heap.size
section
variable {B R X O H deep:Nat} {no:Value} {w0:World} {cs:Array Value}
theorem Ms.step {st st':WSt} {w w':World} (h:Ms B R X O H no cs w0 st w) (hc:Chg (fun k=>k=R) w w') (hi:RInv B w' R no st'):Ms B R X O H no cs w0 st' w':=
 ⟨h.ch.trans hc (fun _ _ e=>e),hi,hc.blk h.nd h.xr,hc.blk h.op h.oR,hc.blk h.sh h.hR,h.xr,h.oR,h.hR,h.hB⟩
theorem Ms.ext {st:WSt} {w w':World} (h:Ms B R X O H no cs w0 st w) (hx:Ext w w'):Ms B R X O H no cs w0 st w':=h.step (Chg.ofExt hx) (h.inv.ext hx)
theorem Ms.below {st:WSt} {w:World} (h:Ms B R X O H no cs w0 st w):Below B w0 w:=chgR_below h.ch h.inv.hR h.hB
theorem Ms.put {st:WSt} {w:World} (h:Ms B R X O H no cs w0 st w) (t:ByteArray) {S:ByteArray} (hS:bs S=st.s) (hb:Blk w R #[no,.string S,.int .i64 (st.next:Int),.bool st.bad] 66):Ms B R X O H no cs w0 (st.put (bs t)) (w.setCell ⟨R,1,none⟩ (.string (S++t))):=
 h.step (Chg.one w R 1 _) (RInv.putS h.inv.hR hS hb t)
end
set_option maxRecDepth 1000000 in
theorem lay269 {v0 v1 v2 v3 v4 v5 v6 v7 v8:Value} {a:Act} (h:Piece.Fr 269 [v0,v1,v2,v3,v4,v5,v6,v7,v8] a):∃u:Nat→Value,a=⟨(v0::v1::v2::v3::v4::v5::v6::v7::v8::u 9::u 10::u 11::u 12::u 13::u 14::u 15::u 16::u 17::u 18::u 19::u 20::u 21::u 22::u 23::u 24::u 25::u 26::u 27::u 28::u 29::u 30::u 31::u 32::u 33::u 34::u 35::u 36::u 37::u 38::u 39::u 40::u 41::u 42::u 43::u 44::u 45::u 46::u 47::u 48::u 49::u 50::u 51::u 52::u 53::u 54::u 55::u 56::u 57::u 58::u 59::u 60::u 61::u 62::u 63::u 64::u 65::u 66::u 67::u 68::u 69::u 70::u 71::u 72::u 73::u 74::u 75::u 76::u 77::u 78::u 79::u 80::u 81::u 82::u 83::u 84::u 85::u 86::u 87::u 88::u 89::u 90::u 91::u 92::u 93::u 94::u 95::u 96::u 97::u 98::u 99::u 100::u 101::u 102::u 103::u 104::u 105::u 106::u 107::u 108::u 109::u 110::u 111::u 112::u 113::u 114::u 115::u 116::u 117::u 118::u 119::u 120::u 121::u 122::u 123::u 124::u 125::u 126::u 127::u 128::u 129::u 130::u 131::u 132::u 133::u 134::u 135::u 136::u 137::u 138::u 139::u 140::u 141::u 142::u 143::u 144::u 145::u 146::u 147::u 148::u 149::u 150::u 151::u 152::u 153::u 154::u 155::u 156::u 157::u 158::u 159::u 160::u 161::u 162::u 163::u 164::u 165::u 166::u 167::u 168::u 169::u 170::u 171::u 172::u 173::u 174::u 175::u 176::u 177::u 178::u 179::u 180::u 181::u 182::u 183::u 184::u 185::u 186::u 187::u 188::u 189::u 190::u 191::u 192::u 193::u 194::u 195::u 196::u 197::u 198::u 199::u 200::u 201::u 202::u 203::u 204::u 205::u 206::u 207::u 208::u 209::u 210::u 211::u 212::u 213::u 214::u 215::u 216::u 217::u 218::u 219::u 220::u 221::u 222::u 223::u 224::u 225::u 226::u 227::u 228::u 229::u 230::u 231::u 232::u 233::u 234::u 235::u 236::u 237::u 238::u 239::u 240::u 241::u 242::u 243::u 244::u 245::u 246::u 247::u 248::u 249::u 250::u 251::u 252::u 253::u 254::u 255::u 256::u 257::u 258::u 259::u 260::u 261::u 262::u 263::u 264::u 265::u 266::u 267::u 268::[]).toArray,[]⟩:=by
 obtain⟨u,hu⟩:=h.spread
 refine⟨u,hu.trans ?_⟩
 kernel_rfl
def Mt (B R X O H deep:Nat) (no:Value) (cs:Array Value) (n:Int) (v3 v4 v5:Value) (w0:World) (st:WSt) (a:Act) (w:World):Prop:=
 Fr 269 [.pointer (some ⟨R,0,none⟩),.int .i64 n,.int .i64 (deep:Int),v3,v4,v5,.pointer (some ⟨X,0,none⟩),.slice (some ⟨O,0,none⟩) 12 12,.slice (some ⟨H,0,none⟩) 12 12] a∧Ms B R X O H no cs w0 st w
section
variable {B R X O H deep:Nat} {no:Value} {w0:World} {n:Int} {v3 v4 v5:Value} {k:Nat} {name:ByteArray} {size:Int} {As Ai Af:Option Addr} {ny ni nf ca ci cf:Nat}
set_option maxRecDepth 1000000 in
set_option maxHeartbeats 2000000 in
theorem rt33 (hk:k<12) (st:WSt) (a:Act) (w:World) (hM:Mt B R X O H deep no #[.int .i64 (k:Int),.string name,.int .i64 size,.slice As ny ca,.slice Ai ni ci,.slice Af nf cf] n v3 v4 v5 w0 st a w) (hL:(st.put (bs (shS k))).s.length≤100000000) (PO:Ending→World→Prop)
  (hQ:∀w',Chg (fun k=>k=R) w0 w'→RInv B w' R no (st.put (bs (shS k)))→PO (.returned (.tuple #[])) w') :
  (sndC (upC 30 Tryz.f42.body)).wp Tryz.prog (bodyPost Tryz.prog Tryz.f42 PO) a w:=by
 obtain⟨hF,hMs⟩:=hM
 obtain⟨u,rfl⟩:=lay269 hF
 clear hF
 obtain⟨S,hS,hb⟩:=hMs.inv.blk
 have hsz:S.size≤st.s.length:=by rw[←bs_size,hS];exact Nat.le_refl _
 have z0:w.cell? ⟨X,0,none⟩=some (.int .i64 (k:Int)):=hMs.nd.cell 0
 rw[WSt.put_len,bs_size] at hL
 have hsa:=shA_at k hk
 obtain⟨t,ht⟩:∃z,Hid (shS k=z):=⟨_,Lib.hid rfl⟩
 rw[ht.out] at hL hsa hQ
 have hz:¬9223372036854775807<S.size+t.size:=by omega
 have hkI:(k:Int)<12:=by omega
 have hk0:(0:Int)≤(k:Int):=by omega
 have r1:∀W,Ext w W→W.cell? ⟨R,1,none⟩=some (.string S):=fun W hW=>(hb.ext hW).cell 1
 have rk:∀W,Ext w W→W.cell? ⟨X,0,none⟩=some (.int .i64 (k:Int)):=fun W hW=>hW.cell z0
 have rs:∀W,Ext w W→W.cell? ⟨H,k,none⟩=some (.string t):=fun W hW=>by rw[←hsa];exact (hMs.sh.ext hW).cell k
 have hkn:k<12:=hk
 have hfin:=fun W (hW:Ext w W)=>(hMs.ext hW).put t hS (hb.ext hW)
 have hbW:=fun W (hW:Ext w W)=>hb.ext hW
 clear hsa hsz hS hMs z0 hL
 conv=>arg 2;whnf
 refine Reg.startE (by kernel_rfl) ?_
 iterate 13 ((first|refine Reg.tn ?_|refine Reg.sn ?_);(try simp only[Reg.nn]))
 refine Reg.last 13 _ rfl (by kernel_rfl) (by kernel_rfl) (by kernel_rfl) (by decide) (by rfl) (fun W hW K hK=>?_)
 have bW:=hbW W hW
 have fW:=bW.frozen 1
 have cW:=bW.cell 1
 go_simp
 refine hK.out _ _ ?_;clear hK K;(try simp only[Reg.nn])
 have hF:=hfin W hW
 have hQ2:=hQ _ hF.ch hF.inv
 clear hQ
 go_end0
 exact hQ2
set_option maxRecDepth 1000000 in
set_option maxHeartbeats 2000000 in
theorem rt30 {f:Nat} {ns:List Ne} (H':RTypC B R no ns f (deep+1)) (hd:deep≤100) (hk:k<12) (l:List (ByteArray×Bool×Int)) (hl:Sl B w0 (.slice Af nf cf) l.length (fldsZ l)) (hSc:Sch B w0 no ns) (st:WSt) (a:Act) (w:World) (hM:Mt B R X O H deep no #[.int .i64 (k:Int),.string name,.int .i64 size,.slice As ny ca,.slice Ai ni ci,.slice Af nf cf] n v3 v4 v5 w0 st a w)
  (hL:(if k=11 then rflds (rtyp ns f) l (st.put [123]) else st).s.length≤100000000) (PO:Ending→World→Prop) (K:Act→World→Prop)
  (hK:∀a' w',Mt B R X O H deep no #[.int .i64 (k:Int),.string name,.int .i64 size,.slice As ny ca,.slice Ai ni ci,.slice Af nf cf] n v3 v4 v5 w0 (if k=11 then rflds (rtyp ns f) l (st.put [123]) else st) a' w'→K a' w') :
  (fstC (upC 30 Tryz.f42.body)).wp Tryz.prog (Exit.then K (bodyPost Tryz.prog Tryz.f42 PO)) a w:=by
 obtain⟨hF,hMs⟩:=hM
 obtain⟨u,rfl⟩:=lay269 hF
 clear hF
 obtain⟨S,hS,hb⟩:=hMs.inv.blk
 have hsz:S.size≤st.s.length:=by rw[←bs_size,hS];exact Nat.le_refl _
 have z0:w.cell? ⟨X,0,none⟩=some (.int .i64 (k:Int)):=hMs.nd.cell 0
 conv=>arg 2;whnf
 by_cases h11:k=11
 ·subst h11
  rw[if_pos rfl] at hL hK
  have hl2:=rflds_len (rtyp_len ns f) l (st.put [123])
  rw[WSt.put_len] at hl2
  simp only[List.length_cons,List.length_nil] at hl2
  have hz:¬9223372036854775807<S.size+1:=by omega
  have k1:=hb.cell 1
  have f1:=hb.frozen 1
  have hM2:=hMs.put ⟨#[123]⟩ hS hb
  have hM2:Ms B R X O H no _ w0 (st.put [123]) _:=hM2
  obtain⟨w2,hw2⟩:∃z,Hid (w.setCell ⟨R,1,none⟩ (.string (S++⟨#[123]⟩))=z):=⟨_,rfl⟩
  rw[hw2.out] at hM2
  have z5:w2.cell? ⟨X,5,none⟩=some (.slice Af nf cf):=hM2.nd.cell 5
  rw[←hw2.out] at z5
  have hcall:=rfields_any H' hd l (.slice Af nf cf) (st.put [123]) w2 hM2.inv (hSc.below hM2.below) (hl.below hM2.below) hL
  obtain⟨fin,hfin⟩:∃z,Hid (rflds (rtyp ns f) l (st.put [123])=z):=⟨_,Lib.hid rfl⟩
  rw[hfin.out] at hcall hK
  clear hS hsz hL hl2 hfin hb hMs hl hSc
  go_wp2_with fail
  rw[hw2.out]
  refine hcall.mono ?_
  rintro e w3 ⟨rfl,hc3,h3⟩
  have hM3:=hM2.step hc3 h3
  clear hcall
  go_wp2_with fail
  exact⟨⟨_,rfl,rfl⟩,hM3⟩
 ·rw[if_neg h11] at hL hK
  have hkb:((k:Int) == 11)=false:=by simpa using (by omega:¬(k:Int)=11)
  clear hS hsz hb
  go_wp2_with fail
  exact⟨⟨_,rfl,rfl⟩,hMs⟩
def RlAt (B R X O H:Nat) (no:Value) (cs:Array Value) (w0:World) (T:WT) (l:List Int) (fin:WSt) (i:Nat) (wr:World):Prop:=∃st,Ms B R X O H no cs w0 st wr∧Hid (rlist T (decide (i=0)) (l.drop i) st=fin)
set_option maxRecDepth 1000000 in
set_option maxHeartbeats 4000000 in
theorem rt24 {f:Nat} {ns:List Ne} (H':RTypC B R no ns f (deep+1)) (hd:deep≤100) (hk:k<12) (l:List Int) (hl:Sl B w0 (.slice Ai ni ci) l.length (intsZ l)) (hSc:Sch B w0 no ns) (st:WSt) (a:Act) (w:World) (hM:Mt B R X O H deep no #[.int .i64 (k:Int),.string name,.int .i64 size,.slice As ny ca,.slice Ai ni ci,.slice Af nf cf] n v3 v4 v5 w0 st a w)
  (hL:(if 5<k∧k<9 then rlist (rtyp ns f) true l st else st).s.length≤100000000) (PO:Ending→World→Prop) (K:Act→World→Prop)
  (hK:∀a' w',Mt B R X O H deep no #[.int .i64 (k:Int),.string name,.int .i64 size,.slice As ny ca,.slice Ai ni ci,.slice Af nf cf] n v3 v4 v5 w0 (if 5<k∧k<9 then rlist (rtyp ns f) true l st else st) a' w'→K a' w') :
  (fstC (upC 24 Tryz.f42.body)).wp Tryz.prog (Exit.then K (bodyPost Tryz.prog Tryz.f42 PO)) a w:=by
 obtain⟨T,hT⟩:∃T,T=rtyp ns f:=⟨_,rfl⟩
 have hG:WG T:=by rw[hT];exact rtyp_len ns f
 have H2:∀(n:Int) (st:WSt) (w:World),RInv B w R no st→Sch B w no ns→(T n st).s.length≤100000000→Calls Tryz.prog 42 #[.pointer (some ⟨R,0,none⟩),.int .i64 n,.int .i64 ((deep:Int)+1)] w fun e w'=>RsP B R no w (T n st) e w':=by
  rw[hT];intro n st w;have:=H' n st w;rw[show ((deep+1:Nat):Int)=(deep:Int)+1 by omega] at this;exact this
 rw[←hT] at hL hK
 clear hT H'
 obtain⟨hF,hMs⟩:=hM
 obtain⟨u,rfl⟩:=lay269 hF
 clear hF
 obtain⟨S,hS,hb⟩:=hMs.inv.blk
 have hsz:S.size≤st.s.length:=by rw[←bs_size,hS];exact Nat.le_refl _
 have z0:w.cell? ⟨X,0,none⟩=some (.int .i64 (k:Int)):=hMs.nd.cell 0
 clear hS hsz hb
 have hdw:IntKind.i64.wrap ((deep:Int)+1)=(deep:Int)+1:=by rw[IntKind.wrap_i64];omega
 conv=>arg 2;whnf
 by_cases hkk:5<k∧k<9
 ·rw[if_pos hkk] at hL hK
  obtain⟨fin,hfin⟩:∃z,Hid (rlist T true l st=z):=⟨_,Lib.hid rfl⟩
  rw[hfin.out] at hL hK
  have hk5:(5:Int)<(k:Int):=by omega
  have hk9:(k:Int)<9:=by omega
  obtain⟨A,c,e,hnc,hcm,hA,hat⟩:=hl.at_
  injection e with e1 e2 e3
  subst e1;subst e3
  replace e2:=Lib.hid e2
  have hin0:ni≤ci:=by rw[e2.out];exact hnc
  unfold maxLen at hcm
  have hstart:RlAt B R X O H no #[.int .i64 (k:Int),.string name,.int .i64 size,.slice As ny ca,.slice Ai ni ci,.slice Af nf cf] w0 T l fin 0 w:=⟨st,hMs,by rw[List.drop_zero];exact hfin⟩
  clear hfin hMs z0
  go_wp2_with fail
  go_loopw [10] (fun v10 wr=>∃i:Nat,i≤ni∧v10=.int .i64 i∧RlAt B R X O H no #[.int .i64 (k:Int),.string name,.int .i64 size,.slice As ny ca,.slice Ai ni ci,.slice Af nf cf] w0 T l fin i wr) (fun v10 _=>ni-(intOf v10).toNat)
  case atStart=>exact⟨0,by omega,rfl,hstart⟩
  case round=>
   obtain⟨i,hi,rfl,st1,hM1,hf1⟩:=hrel
   clear hstart
   obtain⟨S1,hS1,hb1⟩:=hM1.inv.blk
   have z0:wr.cell? ⟨X,0,none⟩=some (.int .i64 (k:Int)):=hM1.nd.cell 0
   have z4:wr.cell? ⟨X,4,none⟩=some (.slice Ai ni ci):=hM1.nd.cell 4
   have c1:wr.cell? ⟨R,1,none⟩=some (.string S1):=hb1.cell 1
   have c3:wr.cell? ⟨R,3,none⟩=some (.bool st1.bad):=hb1.cell 3
   by_cases hin:i<ni
   ·have hin':(i:Int)<(ni:Int):=by omega
    by_cases hbad:st1.bad=true
    ·rw[hbad] at c3
     have hf2:st1=fin:=by
      rw[←hf1.out]
      cases hdl:l.drop i with
      | nil=>rfl
      | cons f r=>rw[rlist,if_pos hbad]
     subst hf2
     clear hbad
     go_wp2_with fail
     exact⟨⟨_,rfl,rfl⟩,hM1⟩
    ·have hbad':st1.bad=false:=by simpa using hbad
     rw[hbad'] at c3
     obtain⟨x,hxe⟩:∃x,l[i]?=some x:=⟨_,List.getElem?_eq_getElem (by have:=e2.out;omega)⟩
     have hxz:(intsZ l)[i]?=some (.int .i64 x):=by simp[intsZ,hxe]
     obtain⟨b,off,rfl,hbB,hc⟩:=hat i _ hxz
     have hbR:¬b=R:=by have:=hM1.inv.hR;omega
     have hlow:=hM1.below
     have d0:wr.cell? ⟨b,off+i,none⟩=some (.int .i64 x):=hc wr hlow i _ hxz
     have hdrop:l.drop i=x::l.drop (i+1):=List.drop_eq_getElem?_toList_append .. |>.trans (by rw[hxe];rfl)
     obtain⟨st2,hst2⟩:∃z,Hid ((if decide (i=0) then st1 else st1.put [124])=z):=⟨_,Lib.hid rfl⟩
     have hf2:rlist T false (l.drop (i+1)) (T x st2)=fin:=by rw[←hf1.out,hdrop,rlist,if_neg hbad,hst2.out]
     have hf3:rlist T (decide (i+1=0)) (l.drop (i+1)) (T x st2)=fin:=by rw[←hf2];simp
     have hl2:=rlist_len hG false (l.drop (i+1)) (T x st2)
     rw[hf2] at hl2
     have hl3:=hG x st2
     have Hf3:=Lib.hid hf3
     clear hf2 hf3 hxe hxz hc hdrop hf1 hbad
     by_cases hi0:i=0
     ·subst hi0
      rw[Nat.add_zero] at d0
      have hst2':st1=st2:=hst2.out
      subst hst2'
      have hcall:=H2 x st1 wr hM1.inv (hSc.below hlow) (by omega)
      clear hst2 c1
      go_wp2_with fail
      refine hcall.mono ?_
      rintro e w2 ⟨rfl,hc2,h2⟩
      have hM2:=hM1.step hc2 h2
      clear hcall
      go_wp2_with fail
      go_roundw
      case rel=>exact⟨1,by omega,rfl,_,hM2,Hf3⟩
      case measure=>simp[intOf];omega
     ·have hi0b:decide (i=0)=false:=by simpa using hi0
      have hpos:(0:Int)<(i:Int):=by omega
      have hst2':st1.put [124]=st2:=by rw[←hst2.out,hi0b];rfl
      have hl4:=WSt.put_len st1 [124]
      rw[hst2'] at hl4
      simp only[List.length_cons,List.length_nil] at hl4
      have hsz1:S1.size≤st1.s.length:=by rw[←bs_size,hS1];exact Nat.le_refl _
      have hz:¬9223372036854775807<S1.size+1:=by omega
      have f1:=hb1.frozen 1
      have hM2:=hM1.put ⟨#[124]⟩ hS1 hb1
      have hM2:Ms B R X O H no _ w0 (st1.put [124]) _:=hM2
      rw[hst2'] at hM2
      obtain⟨w2,hw2⟩:∃z,Hid (wr.setCell ⟨R,1,none⟩ (.string (S1++⟨#[124]⟩))=z):=⟨_,rfl⟩
      rw[hw2.out] at hM2
      have y4:w2.cell? ⟨X,4,none⟩=some (.slice (some ⟨b,off,none⟩) ni ci):=hM2.nd.cell 4
      have y0:w2.cell? ⟨b,off+i,none⟩=some (.int .i64 x):=by rw[←hw2.out];exact (Chg.one wr R 1 _).cell d0 hbR
      rw[←hw2.out] at y4 y0
      have hcall:=H2 x st2 w2 hM2.inv (hSc.below hM2.below) (by omega)
      clear hst2' hst2 hl4 hsz1
      go_wp2_with fail
      rw[hw2.out]
      refine hcall.mono ?_
      rintro e w3 ⟨rfl,hc3,h3⟩
      have hM3:=hM2.step hc3 h3
      clear hcall
      go_wp2_with fail
      go_roundw
      case rel=>exact⟨i+1,by omega,by go_num,_,hM3,Hf3⟩
      case measure=>simp[intOf];omega
   ·obtain rfl:i=ni:=by omega
    have hf2:st1=fin:=by rw[←hf1.out,e2.out,List.drop_length,rlist]
    subst hf2
    go_wp2_with fail
    exact⟨⟨_,rfl,rfl⟩,hM1⟩
 ·rw[if_neg hkk] at hL hK
  have hor:k≤5∨9≤k:=by omega
  go_wp2_with fail
  go_loopw [10] (fun v10 wr=>v10=.int .i64 0∧wr=w) (fun v10 _=>0)
  case atStart=>exact⟨rfl,rfl⟩
  case round=>
   obtain⟨rfl,rfl⟩:=hrel
   rcases hor with h5|h9
   ·have hk5:¬(5:Int)<(k:Int):=by omega
    go_wp2_with fail
    exact⟨⟨_,rfl,rfl⟩,hMs⟩
   ·have hk5:(5:Int)<(k:Int):=by omega
    have hk9:¬(k:Int)<9:=by omega
    go_wp2_with fail
    exact⟨⟨_,rfl,rfl⟩,hMs⟩
def RyAt (B R X O H:Nat) (no:Value) (cs:Array Value) (w0:World) (l:List ByteArray) (fin:WSt) (i:Nat) (wr:World):Prop:=∃st,Ms B R X O H no cs w0 st wr∧Hid (rsyms (decide (i=0)) (l.drop i) st=fin)
set_option maxRecDepth 1000000 in
set_option maxHeartbeats 4000000 in
theorem rt16 (hk:k<12) (l:List ByteArray) (hl:Sl B w0 (.slice As ny ca) l.length (txs l)) (st:WSt) (a:Act) (w:World) (hM:Mt B R X O H deep no #[.int .i64 (k:Int),.string name,.int .i64 size,.slice As ny ca,.slice Ai ni ci,.slice Af nf cf] n v3 v4 v5 w0 st a w)
  (hL:(if k=9 then rsyms true l (st.put [60]) else st).s.length≤100000000) (PO:Ending→World→Prop) (K:Act→World→Prop)
  (hK:∀a' w',Mt B R X O H deep no #[.int .i64 (k:Int),.string name,.int .i64 size,.slice As ny ca,.slice Ai ni ci,.slice Af nf cf] n v3 v4 v5 w0 (if k=9 then rsyms true l (st.put [60]) else st) a' w'→K a' w') :
  (fstC (upC 16 Tryz.f42.body)).wp Tryz.prog (Exit.then K (bodyPost Tryz.prog Tryz.f42 PO)) a w:=by
 obtain⟨hF,hMs⟩:=hM
 obtain⟨u,rfl⟩:=lay269 hF
 clear hF
 obtain⟨S,hS,hb⟩:=hMs.inv.blk
 have hsz:S.size≤st.s.length:=by rw[←bs_size,hS];exact Nat.le_refl _
 have z0:w.cell? ⟨X,0,none⟩=some (.int .i64 (k:Int)):=hMs.nd.cell 0
 conv=>arg 2;whnf
 by_cases h9:k=9
 ·subst h9
  rw[if_pos rfl] at hL hK
  have hl2:=rsyms_len true l (st.put [60])
  rw[WSt.put_len] at hl2
  simp only[List.length_cons,List.length_nil] at hl2
  have hz:¬9223372036854775807<S.size+1:=by omega
  have k1:=hb.cell 1
  have f1:=hb.frozen 1
  have hM2:=hMs.put ⟨#[60]⟩ hS hb
  have hM2:Ms B R X O H no _ w0 (st.put [60]) _:=hM2
  obtain⟨w2,hw2⟩:∃z,Hid (w.setCell ⟨R,1,none⟩ (.string (S++⟨#[60]⟩))=z):=⟨_,rfl⟩
  rw[hw2.out] at hM2
  obtain⟨fin,hfin⟩:∃z,Hid (rsyms true l (st.put [60])=z):=⟨_,Lib.hid rfl⟩
  rw[hfin.out] at hL hK
  obtain⟨A,c,e,hnc,hcm,hA,hat⟩:=hl.at_
  injection e with e1 e2 e3
  subst e1;subst e3
  replace e2:=Lib.hid e2
  have hin0:ny≤ca:=by rw[e2.out];exact hnc
  unfold maxLen at hcm
  have hstart:RyAt B R X O H no #[.int .i64 9,.string name,.int .i64 size,.slice As ny ca,.slice Ai ni ci,.slice Af nf cf] w0 l fin 0 w2:=⟨_,hM2,by rw[List.drop_zero];exact hfin⟩
  clear hfin hM2 hMs hS hsz hl2 hb
  go_wp2_with fail
  rw[hw2.out]
  go_loopw [9] (fun v9 wr=>∃i:Nat,i≤ny∧v9=.int .i64 i∧RyAt B R X O H no #[.int .i64 9,.string name,.int .i64 size,.slice As ny ca,.slice Ai ni ci,.slice Af nf cf] w0 l fin i wr) (fun v9 _=>ny-(intOf v9).toNat)
  case atStart=>exact⟨0,by omega,rfl,hstart⟩
  case round=>
   obtain⟨i,hi,rfl,st1,hM1,hf1⟩:=hrel
   clear hstart hw2 k1 f1 z0 hz
   obtain⟨S1,hS1,hb1⟩:=hM1.inv.blk
   have z3:wr.cell? ⟨X,3,none⟩=some (.slice As ny ca):=hM1.nd.cell 3
   have c1:wr.cell? ⟨R,1,none⟩=some (.string S1):=hb1.cell 1
   have hsz1:S1.size=st1.s.length:=by rw[←bs_size,hS1]
   by_cases hin:i<ny
   ·have hin':(i:Int)<(ny:Int):=by omega
    by_cases h46:4096<st1.s.length
    ·have hle:¬(S1.size:Int)≤4096:=by omega
     have hf2:st1=fin:=by
      rw[←hf1.out]
      cases hdl:l.drop i with
      | nil=>rfl
      | cons f r=>rw[rsyms,if_pos h46]
     subst hf2
     clear hsz1
     go_wp2_with fail
     exact⟨⟨_,rfl,rfl⟩,hM1⟩
    ·have hle:(S1.size:Int)≤4096:=by omega
     obtain⟨x,hxe⟩:∃x,l[i]?=some x:=⟨_,List.getElem?_eq_getElem (by have:=e2.out;omega)⟩
     have hxz:(txs l)[i]?=some (.string x):=by simp[txs,hxe]
     obtain⟨b,off,rfl,hbB,hc⟩:=hat i _ hxz
     have hbR:¬b=R:=by have:=hM1.inv.hR;omega
     have d0:wr.cell? ⟨b,off+i,none⟩=some (.string x):=hc wr hM1.below i _ hxz
     have hdrop:l.drop i=x::l.drop (i+1):=List.drop_eq_getElem?_toList_append .. |>.trans (by rw[hxe];rfl)
     obtain⟨st2,hst2⟩:∃z,Hid ((if decide (i=0) then st1 else st1.put [44])=z):=⟨_,Lib.hid rfl⟩
     have hf2:rsyms false (l.drop (i+1)) (st2.put (bs x))=fin:=by rw[←hf1.out,hdrop,rsyms,if_neg h46,hst2.out]
     have hf3:rsyms (decide (i+1=0)) (l.drop (i+1)) (st2.put (bs x))=fin:=by rw[←hf2];simp
     have hl2:=rsyms_len false (l.drop (i+1)) (st2.put (bs x))
     rw[hf2,WSt.put_len,bs_size] at hl2
     have Hf3:=Lib.hid hf3
     clear hf2 hf3 hxe hxz hc hdrop hf1
     by_cases hi0:i=0
     ·subst hi0
      rw[Nat.add_zero] at d0
      have hst2':st1=st2:=hst2.out
      subst hst2'
      have hz:¬9223372036854775807<S1.size+x.size:=by omega
      have r1:∀W,Ext wr W→W.cell? ⟨R,1,none⟩=some (.string S1):=fun W hW=>hW.cell c1
      have r3:∀W,Ext wr W→W.cell? ⟨X,3,none⟩=some (.slice (some ⟨b,off,none⟩) ny ca):=fun W hW=>hW.cell z3
      have rd:∀W,Ext wr W→W.cell? ⟨b,off,none⟩=some (.string x):=fun W hW=>hW.cell d0
      have hfin:=fun W (hW:Ext wr W)=>(hM1.ext hW).put x hS1 (hb1.ext hW)
      have hbW:=fun W (hW:Ext wr W)=>hb1.ext hW
      clear hst2 hsz1 h46
      go_wp2_with fail
      refine Reg.startE (by kernel_rfl) ?_
      iterate 13 ((first|refine Reg.tn ?_|refine Reg.sn ?_);(try simp only[Reg.nn]))
      refine Reg.last 13 _ rfl (by kernel_rfl) (by kernel_rfl) (by kernel_rfl) (by decide) (by rfl) (fun W hW K hK=>?_)
      have bW:=hbW W hW
      have fW:=bW.frozen 1
      have cW:=bW.cell 1
      go_simp
      refine hK.out _ _ ?_;clear hK K;(try simp only[Reg.nn])
      have hF:=hfin W hW
      clear r1 r3 rd
      go_wp2_with fail
      go_roundw
      case rel=>exact⟨1,by omega,rfl,_,hF,Hf3⟩
      case measure=>simp[intOf];omega
     ·have hi0b:decide (i=0)=false:=by simpa using hi0
      have hpos:(0:Int)<(i:Int):=by omega
      have hst2':st1.put [44]=st2:=by rw[←hst2.out,hi0b];rfl
      have hl4:=WSt.put_len st1 [44]
      rw[hst2'] at hl4
      simp only[List.length_cons,List.length_nil] at hl4
      have hz1:¬9223372036854775807<S1.size+1:=by omega
      have f1:=hb1.frozen 1
      have hM2:=hM1.put ⟨#[44]⟩ hS1 hb1
      have hM2:Ms B R X O H no _ w0 (st1.put [44]) _:=hM2
      rw[hst2'] at hM2
      obtain⟨w2,hw2⟩:∃z,Hid (wr.setCell ⟨R,1,none⟩ (.string (S1++⟨#[44]⟩))=z):=⟨_,rfl⟩
      rw[hw2.out] at hM2
      have y0:w2.cell? ⟨b,off+i,none⟩=some (.string x):=by rw[←hw2.out];exact (Chg.one wr R 1 _).cell d0 hbR
      obtain⟨S2,hS2,hb2⟩:=hM2.inv.blk
      have hsz2:S2.size=st2.s.length:=by rw[←bs_size,hS2]
      have hz:¬9223372036854775807<S2.size+x.size:=by omega
      have r1:∀W,Ext w2 W→W.cell? ⟨R,1,none⟩=some (.string S2):=fun W hW=>(hb2.ext hW).cell 1
      have r3:∀W,Ext w2 W→W.cell? ⟨X,3,none⟩=some (.slice (some ⟨b,off,none⟩) ny ca):=fun W hW=>(hM2.nd.ext hW).cell 3
      have rd:∀W,Ext w2 W→W.cell? ⟨b,off+i,none⟩=some (.string x):=fun W hW=>hW.cell y0
      have hfin:=fun W (hW:Ext w2 W)=>(hM2.ext hW).put x hS2 (hb2.ext hW)
      have hbW:=fun W (hW:Ext w2 W)=>hb2.ext hW
      clear hst2 hsz1 h46 hsz2 hst2' hl4
      go_wp2_with fail
      rw[hw2.out]
      refine Reg.startE (by kernel_rfl) ?_
      iterate 13 ((first|refine Reg.tn ?_|refine Reg.sn ?_);(try simp only[Reg.nn]))
      refine Reg.last 13 _ rfl (by kernel_rfl) (by kernel_rfl) (by kernel_rfl) (by decide) (by rfl) (fun W hW K hK=>?_)
      have bW:=hbW W hW
      have fW:=bW.frozen 1
      have cW:=bW.cell 1
      go_simp
      refine hK.out _ _ ?_;clear hK K;(try simp only[Reg.nn])
      have hF:=hfin W hW
      clear r1 r3 rd
      go_wp2_with fail
      go_roundw
      case rel=>exact⟨i+1,by omega,by go_num,_,hF,Hf3⟩
      case measure=>simp[intOf];omega
   ·obtain rfl:i=ny:=by omega
    have hf2:st1=fin:=by rw[←hf1.out,e2.out,List.drop_length,rsyms]
    subst hf2
    go_wp2_with fail
    exact⟨⟨_,rfl,rfl⟩,hM1⟩
 ·rw[if_neg h9] at hL hK
  have hkb:((k:Int) == 9)=false:=by simpa using (by omega:¬(k:Int)=9)
  clear hS hsz hb
  go_wp2_with fail
  exact⟨⟨_,rfl,rfl⟩,hMs⟩
end
section
variable {B R X O H deep:Nat} {no:Value} {w0:World} {n:Int} {v3 v4 v5:Value} {k:Nat} {name:ByteArray} {size:Int} {As Ai Af:Option Addr} {ny ni nf ca ci cf:Nat}
set_option maxRecDepth 1000000 in
set_option maxHeartbeats 2000000 in
theorem rt14 (hk:k<12) (hsr : -9223372036854775808≤size∧size≤9223372036854775807) (st:WSt) (a:Act) (w:World) (hM:Mt B R X O H deep no #[.int .i64 (k:Int),.string name,.int .i64 size,.slice As ny ca,.slice Ai ni ci,.slice Af nf cf] n v3 v4 v5 w0 st a w)
  (hL:(if k=10 then st.put ([32]++digR size) else st).s.length≤100000000) (PO:Ending→World→Prop) (K:Act→World→Prop)
  (hK:∀a' w',Mt B R X O H deep no #[.int .i64 (k:Int),.string name,.int .i64 size,.slice As ny ca,.slice Ai ni ci,.slice Af nf cf] n v3 v4 v5 w0 (if k=10 then st.put ([32]++digR size) else st) a' w'→K a' w') :
  (fstC (upC 14 Tryz.f42.body)).wp Tryz.prog (Exit.then K (bodyPost Tryz.prog Tryz.f42 PO)) a w:=by
 obtain⟨hF,hMs⟩:=hM
 obtain⟨u,rfl⟩:=lay269 hF
 clear hF
 obtain⟨S,hS,hb⟩:=hMs.inv.blk
 have hsz:S.size≤st.s.length:=by rw[←bs_size,hS];exact Nat.le_refl _
 have z0:w.cell? ⟨X,0,none⟩=some (.int .i64 (k:Int)):=hMs.nd.cell 0
 conv=>arg 2;whnf
 by_cases h10:k=10
 ·subst h10
  rw[if_pos rfl] at hL hK
  obtain⟨D,hD⟩:∃D:ByteArray,D=⟨(digR size).toArray⟩:=⟨_,rfl⟩
  have hbD:bs D=digR size:=by rw[hD];rfl
  have hdg:=fun W=>digits_any size W
  simp only[←hD] at hdg
  have hl2:st.s.length+(1+D.size)≤100000000:=by
   rw[WSt.put_len,List.length_append] at hL
   have:=bs_size D
   rw[hbD] at this
   simp only[List.length_cons,List.length_nil] at hL
   omega
  have hz1:¬9223372036854775807<S.size+1:=by omega
  have hz2:¬9223372036854775807<S.size+1+D.size:=by omega
  have r1:∀W,Ext w W→W.cell? ⟨R,1,none⟩=some (.string S):=fun W hW=>(hb.ext hW).cell 1
  have r2:∀W,Ext w W→W.cell? ⟨X,2,none⟩=some (.int .i64 size):=fun W hW=>(hMs.nd.ext hW).cell 2
  have hfin:=fun W (hW:Ext w W)=>(hMs.ext hW).put (⟨#[32]⟩++D) hS (hb.ext hW)
  have hbW:=fun W (hW:Ext w W)=>hb.ext hW
  rw[bs_append,hbD] at hfin
  clear hMs hS hsz hl2 hD hbD hb hL
  go_wp2_with fail
  refine Reg.startE (by kernel_rfl) ?_
  iterate 8 ((first|refine Reg.tn ?_|refine Reg.sn ?_);(try simp only[Reg.nn]))
  refine Reg.onlyE 8 _ rfl (by kernel_rfl) (by decide) (by rfl) (fun W hW K hK=>?_);go_simp
  refine (hdg W).mono ?_
  rintro e wX ⟨rfl,hX⟩
  refine hK.out _ _ (hX) ?_;clear hK K;(try simp only[Reg.nn])
  iterate 3 ((first|refine Reg.tn ?_|refine Reg.sn ?_);(try simp only[Reg.nn]))
  refine Reg.lastD 12 _ rfl (by kernel_rfl) (by kernel_rfl) (by kernel_rfl) (by decide) (by rfl) (fun W hW K hK=>?_)
  have hW2:Ext w W:=(by repeat (first|assumption|exact Ext.refl _|refine Ext.trans (by assumption) ?_|apply Ext.drew|apply Ext.drewN|apply Ext.alloc))
  have bW:=hbW W hW2
  have fW:=bW.frozen 1
  have cW:=bW.cell 1
  go_simp
  refine hK.out _ _ ?_;clear hK K;(try simp only[Reg.nn])
  have hF:=hfin W ((by repeat (first|assumption|exact Ext.refl _|refine Ext.trans (by assumption) ?_|apply Ext.drew|apply Ext.drewN|apply Ext.alloc)))
  rw[←ByteArray.append_assoc] at hF
  exact hK _ _ ⟨⟨_,rfl,rfl⟩,hF⟩
 ·rw[if_neg h10] at hL hK
  have hkb:((k:Int) == 10)=false:=by simpa using (by omega:¬(k:Int)=10)
  clear hS hsz hb
  go_wp2_with fail
  exact⟨⟨_,rfl,rfl⟩,hMs⟩
set_option maxRecDepth 1000000 in
set_option maxHeartbeats 2000000 in
theorem rt12 (hk:k<12) (st:WSt) (a:Act) (w:World) (hM:Mt B R X O H deep no #[.int .i64 (k:Int),.string name,.int .i64 size,.slice As ny ca,.slice Ai ni ci,.slice Af nf cf] n v3 v4 v5 w0 st a w)
  (hL:(if 9≤k then st.put (bs name) else st).s.length≤100000000) (PO:Ending→World→Prop) (K:Act→World→Prop)
  (hK:∀a' w',Mt B R X O H deep no #[.int .i64 (k:Int),.string name,.int .i64 size,.slice As ny ca,.slice Ai ni ci,.slice Af nf cf] n v3 v4 v5 w0 (if 9≤k then st.put (bs name) else st) a' w'→K a' w') :
  (fstC (upC 12 Tryz.f42.body)).wp Tryz.prog (Exit.then K (bodyPost Tryz.prog Tryz.f42 PO)) a w:=by
 obtain⟨hF,hMs⟩:=hM
 obtain⟨u,rfl⟩:=lay269 hF
 clear hF
 obtain⟨S,hS,hb⟩:=hMs.inv.blk
 have hsz:S.size≤st.s.length:=by rw[←bs_size,hS];exact Nat.le_refl _
 have z0:w.cell? ⟨X,0,none⟩=some (.int .i64 (k:Int)):=hMs.nd.cell 0
 conv=>arg 2;whnf
 by_cases h9:9≤k
 ·rw[if_pos h9] at hL hK
  rw[WSt.put_len,bs_size] at hL
  have hkI:(9:Int)≤(k:Int):=by omega
  have hz1:¬9223372036854775807<S.size+name.size:=by omega
  have r1:∀W,Ext w W→W.cell? ⟨R,1,none⟩=some (.string S):=fun W hW=>(hb.ext hW).cell 1
  have r2:∀W,Ext w W→W.cell? ⟨X,1,none⟩=some (.string name):=fun W hW=>(hMs.nd.ext hW).cell 1
  have hfin:=fun W (hW:Ext w W)=>(hMs.ext hW).put name hS (hb.ext hW)
  have hbW:=fun W (hW:Ext w W)=>hb.ext hW
  clear hMs hS hsz hb hL
  go_wp2_with fail
  refine Reg.startE (by kernel_rfl) ?_
  iterate 10 ((first|refine Reg.tn ?_|refine Reg.sn ?_);(try simp only[Reg.nn]))
  refine Reg.last 10 _ rfl (by kernel_rfl) (by kernel_rfl) (by kernel_rfl) (by decide) (by rfl) (fun W hW K hK=>?_)
  have bW:=hbW W hW
  have fW:=bW.frozen 1
  have cW:=bW.cell 1
  go_simp
  refine hK.out _ _ ?_;clear hK K;(try simp only[Reg.nn])
  have hF:=hfin W hW
  exact hK _ _ ⟨⟨_,rfl,rfl⟩,hF⟩
 ·rw[if_neg h9] at hL hK
  have hkb:¬(9:Int)≤(k:Int):=by omega
  clear hS hsz hb
  go_wp2_with fail
  exact⟨⟨_,rfl,rfl⟩,hMs⟩
set_option maxRecDepth 1000000 in
set_option maxHeartbeats 2000000 in
theorem rt11 (hk:k<12) (st:WSt) (a:Act) (w:World) (hM:Mt B R X O H deep no #[.int .i64 (k:Int),.string name,.int .i64 size,.slice As ny ca,.slice Ai ni ci,.slice Af nf cf] n v3 v4 v5 w0 st a w)
  (hL:(st.put (bs (opS k))).s.length≤100000000) (PO:Ending→World→Prop) (K:Act→World→Prop)
  (hK:∀a' w',Mt B R X O H deep no #[.int .i64 (k:Int),.string name,.int .i64 size,.slice As ny ca,.slice Ai ni ci,.slice Af nf cf] n v3 v4 v5 w0 (st.put (bs (opS k))) a' w'→K a' w') :
  (fstC (tlC 11 Tryz.f42.body)).wp Tryz.prog (Exit.then K (bodyPost Tryz.prog Tryz.f42 PO)) a w:=by
 obtain⟨hF,hMs⟩:=hM
 obtain⟨u,rfl⟩:=lay269 hF
 clear hF
 obtain⟨S,hS,hb⟩:=hMs.inv.blk
 have hsz:S.size≤st.s.length:=by rw[←bs_size,hS];exact Nat.le_refl _
 have z0:w.cell? ⟨X,0,none⟩=some (.int .i64 (k:Int)):=hMs.nd.cell 0
 rw[WSt.put_len,bs_size] at hL
 have hsa:=opA_at k hk
 obtain⟨t,ht⟩:∃z,Hid (opS k=z):=⟨_,Lib.hid rfl⟩
 rw[ht.out] at hL hsa hK
 have hz:¬9223372036854775807<S.size+t.size:=by omega
 have hkI:(k:Int)<12:=by omega
 have hk0:(0:Int)≤(k:Int):=by omega
 have r1:∀W,Ext w W→W.cell? ⟨R,1,none⟩=some (.string S):=fun W hW=>(hb.ext hW).cell 1
 have rk:∀W,Ext w W→W.cell? ⟨X,0,none⟩=some (.int .i64 (k:Int)):=fun W hW=>hW.cell z0
 have rs:∀W,Ext w W→W.cell? ⟨O,k,none⟩=some (.string t):=fun W hW=>by rw[←hsa];exact (hMs.op.ext hW).cell k
 have hkn:k<12:=hk
 have hfin:=fun W (hW:Ext w W)=>(hMs.ext hW).put t hS (hb.ext hW)
 have hbW:=fun W (hW:Ext w W)=>hb.ext hW
 clear hsa hsz hS hMs z0 hL
 conv=>arg 2;whnf
 refine Reg.startE (by kernel_rfl) ?_
 iterate 13 ((first|refine Reg.tn ?_|refine Reg.sn ?_);(try simp only[Reg.nn]))
 refine Reg.last 13 _ rfl (by kernel_rfl) (by kernel_rfl) (by kernel_rfl) (by decide) (by rfl) (fun W hW K hK=>?_)
 have bW:=hbW W hW
 have fW:=bW.frozen 1
 have cW:=bW.cell 1
 go_simp
 refine hK.out _ _ ?_;clear hK K;(try simp only[Reg.nn])
 have hF:=hfin W hW
 exact hK _ _ ⟨⟨_,rfl,rfl⟩,hF⟩
def q30 (T:WT) (d:Ne) (k:Nat) (st:WSt):WSt:=(if k=11 then rflds T d.fields (st.put [123]) else st).put (bs (shS k))
def q24 (T:WT) (d:Ne) (k:Nat) (st:WSt):WSt:=q30 T d k (if 5<k∧k<9 then rlist T true d.items st else st)
def q16 (T:WT) (d:Ne) (k:Nat) (st:WSt):WSt:=q24 T d k (if k=9 then rsyms true d.syms (st.put [60]) else st)
def q14 (T:WT) (d:Ne) (k:Nat) (st:WSt):WSt:=q16 T d k (if k=10 then st.put ([32]++digR d.size) else st)
def q12 (T:WT) (d:Ne) (k:Nat) (st:WSt):WSt:=q14 T d k (if 9≤k then st.put (bs d.name) else st)
def q11 (T:WT) (d:Ne) (k:Nat) (st:WSt):WSt:=q12 T d k (st.put (bs (opS k)))
theorem put_nil (st:WSt):st.put (bs ⟨#[]⟩)=st:=by
 have:bs ⟨#[]⟩=[]:=rfl
 rw[this];simp[WSt.put]
theorem q11_body (T:WT) (d:Ne) (k:Nat) (hk:d.k=(k:Int)) (h12:k<12) (st:WSt):q11 T d k st=rbody T d st:=by
 rcases k with _|_|_|_|_|_|_|_|_|_|_|_|k
 ·show (st.put (bs (opS 0))).put (bs ⟨#[]⟩)=_;rw[put_nil];unfold rbody;rw[hk];rfl
 ·show (st.put (bs (opS 1))).put (bs ⟨#[]⟩)=_;rw[put_nil];unfold rbody;rw[hk];rfl
 ·show (st.put (bs (opS 2))).put (bs ⟨#[]⟩)=_;rw[put_nil];unfold rbody;rw[hk];rfl
 ·show (st.put (bs (opS 3))).put (bs ⟨#[]⟩)=_;rw[put_nil];unfold rbody;rw[hk];rfl
 ·show (st.put (bs (opS 4))).put (bs ⟨#[]⟩)=_;rw[put_nil];unfold rbody;rw[hk];rfl
 ·show (st.put (bs (opS 5))).put (bs ⟨#[]⟩)=_;rw[put_nil];unfold rbody;rw[hk];rfl
 ·unfold rbody;rw[hk];rfl
 ·unfold rbody;rw[hk];rfl
 ·unfold rbody;rw[hk];rfl
 ·unfold rbody;rw[hk];rfl
 ·show (((st.put (bs (opS 10))).put (bs d.name)).put ([32]++digR d.size)).put (bs ⟨#[]⟩)=_;rw[put_nil];unfold rbody;rw[hk];rfl
 ·unfold rbody;rw[hk];rfl
 ·omega
theorem q30_len {T:WT} (hG:WG T) (d:Ne) (k:Nat) (st:WSt):(if k=11 then rflds T d.fields (st.put [123]) else st).s.length≤(q30 T d k st).s.length∧st.s.length≤(q30 T d k st).s.length:=by
 unfold q30
 rw[WSt.put_len]
 refine⟨by omega,?_⟩
 split
 ·have:=rflds_len hG d.fields (st.put [123])
  rw[WSt.put_len] at this
  omega
 ·omega
theorem q24_len {T:WT} (hG:WG T) (d:Ne) (k:Nat) (st:WSt):(if 5<k∧k<9 then rlist T true d.items st else st).s.length≤(q24 T d k st).s.length∧st.s.length≤(q24 T d k st).s.length:=by
 have h:=(q30_len hG d k (if 5<k∧k<9 then rlist T true d.items st else st)).2
 refine⟨h,Nat.le_trans ?_ h⟩
 split
 ·exact rlist_len hG true d.items st
 ·omega
theorem q16_len {T:WT} (hG:WG T) (d:Ne) (k:Nat) (st:WSt):(if k=9 then rsyms true d.syms (st.put [60]) else st).s.length≤(q16 T d k st).s.length∧st.s.length≤(q16 T d k st).s.length:=by
 have h:=(q24_len hG d k (if k=9 then rsyms true d.syms (st.put [60]) else st)).2
 refine⟨h,Nat.le_trans ?_ h⟩
 split
 ·have:=rsyms_len true d.syms (st.put [60])
  rw[WSt.put_len] at this
  omega
 ·omega
theorem q14_len {T:WT} (hG:WG T) (d:Ne) (k:Nat) (st:WSt):(if k=10 then st.put ([32]++digR d.size) else st).s.length≤(q14 T d k st).s.length∧st.s.length≤(q14 T d k st).s.length:=by
 have h:=(q16_len hG d k (if k=10 then st.put ([32]++digR d.size) else st)).2
 refine⟨h,Nat.le_trans ?_ h⟩
 split
 ·rw[WSt.put_len];omega
 ·omega
theorem q12_len {T:WT} (hG:WG T) (d:Ne) (k:Nat) (st:WSt):(if 9≤k then st.put (bs d.name) else st).s.length≤(q12 T d k st).s.length∧st.s.length≤(q12 T d k st).s.length:=by
 have h:=(q14_len hG d k (if 9≤k then st.put (bs d.name) else st)).2
 refine⟨h,Nat.le_trans ?_ h⟩
 split
 ·rw[WSt.put_len];omega
 ·omega
set_option maxRecDepth 1000000 in
set_option maxHeartbeats 4000000 in
theorem rt11_all {f:Nat} {ns:List Ne} (H':RTypC B R no ns f (deep+1)) (hd:deep≤100) (hk:k<12) (syms:List ByteArray) (items:List Int) (fields:List (ByteArray×Bool×Int))
  (hy:Sl B w0 (.slice As ny ca) syms.length (txs syms)) (hi:Sl B w0 (.slice Ai ni ci) items.length (intsZ items)) (hf:Sl B w0 (.slice Af nf cf) fields.length (fldsZ fields)) (hsr : -9223372036854775808≤size∧size≤9223372036854775807) (hSc:Sch B w0 no ns)
  (st:WSt) (a:Act) (w:World) (hM:Mt B R X O H deep no #[.int .i64 (k:Int),.string name,.int .i64 size,.slice As ny ca,.slice Ai ni ci,.slice Af nf cf] n v3 v4 v5 w0 st a w)
  (hL:(rbody (rtyp ns f) ⟨k,name,size,syms,items,fields⟩ st).s.length≤100000000) (PO:Ending→World→Prop)
  (hQ:∀w',Chg (fun k=>k=R) w0 w'→RInv B w' R no (rbody (rtyp ns f) ⟨k,name,size,syms,items,fields⟩ st)→PO (.returned (.tuple #[])) w') :
  (tlC 11 Tryz.f42.body).wp Tryz.prog (bodyPost Tryz.prog Tryz.f42 PO) a w:=by
 have hG:=rtyp_len ns f
 rw[←q11_body _ ⟨k,name,size,syms,items,fields⟩ k rfl hk] at hL hQ
 obtain⟨d,hd'⟩:∃d:Ne,d=⟨k,name,size,syms,items,fields⟩:=⟨_,rfl⟩
 unfold q11 at hL hQ
 rw[←hd'] at hL hQ
 have e1:d.name=name:=by rw[hd']
 have e2:d.size=size:=by rw[hd']
 have e3:d.syms=syms:=by rw[hd']
 have e4:d.items=items:=by rw[hd']
 have e5:d.fields=fields:=by rw[hd']
 have l12:=q12_len hG d k (st.put (bs (opS k)))
 conv=>arg 2;whnf
 refine seq_mid (fun a' w'=>Mt B R X O H deep no #[.int .i64 (k:Int),.string name,.int .i64 size,.slice As ny ca,.slice Ai ni ci,.slice Af nf cf] n v3 v4 v5 w0 (st.put (bs (opS k))) a' w') (fun K hK=>rt11 hk st a w hM (by omega) PO K hK) ?_
 intro a1 w1 h1
 obtain⟨st1,hst1⟩:∃z,st.put (bs (opS k))=z:=⟨_,rfl⟩
 rw[hst1] at h1 hL hQ l12
 unfold q12 at hL hQ l12
 have l14:=q14_len hG d k (if 9≤k then st1.put (bs d.name) else st1)
 refine seq_mid (fun a' w'=>Mt B R X O H deep no #[.int .i64 (k:Int),.string name,.int .i64 size,.slice As ny ca,.slice Ai ni ci,.slice Af nf cf] n v3 v4 v5 w0 (if 9≤k then st1.put (bs name) else st1) a' w') (fun K hK=>rt12 hk st1 a1 w1 h1 (by rw[←e1];omega) PO K hK) ?_
 intro a2 w2 h2
 rw[e1] at hL hQ l14
 obtain⟨st2,hst2⟩:∃z,(if 9≤k then st1.put (bs name) else st1)=z:=⟨_,rfl⟩
 rw[hst2] at h2 hL hQ l14
 unfold q14 at hL hQ l14
 have l16:=q16_len hG d k (if k=10 then st2.put ([32]++digR d.size) else st2)
 refine seq_mid (fun a' w'=>Mt B R X O H deep no #[.int .i64 (k:Int),.string name,.int .i64 size,.slice As ny ca,.slice Ai ni ci,.slice Af nf cf] n v3 v4 v5 w0 (if k=10 then st2.put ([32]++digR size) else st2) a' w') (fun K hK=>rt14 hk hsr st2 a2 w2 h2 (by rw[←e2];omega) PO K hK) ?_
 intro a3 w3 h3
 rw[e2] at hL hQ l16
 obtain⟨st3,hst3⟩:∃z,(if k=10 then st2.put ([32]++digR size) else st2)=z:=⟨_,rfl⟩
 rw[hst3] at h3 hL hQ l16
 unfold q16 at hL hQ l16
 have l24:=q24_len hG d k (if k=9 then rsyms true d.syms (st3.put [60]) else st3)
 refine seq_mid (fun a' w'=>Mt B R X O H deep no #[.int .i64 (k:Int),.string name,.int .i64 size,.slice As ny ca,.slice Ai ni ci,.slice Af nf cf] n v3 v4 v5 w0 (if k=9 then rsyms true syms (st3.put [60]) else st3) a' w') (fun K hK=>rt16 hk syms hy st3 a3 w3 h3 (by rw[←e3];omega) PO K hK) ?_
 intro a4 w4 h4
 rw[e3] at hL hQ l24
 obtain⟨st4,hst4⟩:∃z,(if k=9 then rsyms true syms (st3.put [60]) else st3)=z:=⟨_,rfl⟩
 rw[hst4] at h4 hL hQ l24
 unfold q24 at hL hQ l24
 have l30:=q30_len hG d k (if 5<k∧k<9 then rlist (rtyp ns f) true d.items st4 else st4)
 refine seq_mid (fun a' w'=>Mt B R X O H deep no #[.int .i64 (k:Int),.string name,.int .i64 size,.slice As ny ca,.slice Ai ni ci,.slice Af nf cf] n v3 v4 v5 w0 (if 5<k∧k<9 then rlist (rtyp ns f) true items st4 else st4) a' w') (fun K hK=>rt24 H' hd hk items hi hSc st4 a4 w4 h4 (by rw[←e4];omega) PO K hK) ?_
 intro a5 w5 h5
 rw[e4] at hL hQ l30
 obtain⟨st5,hst5⟩:∃z,(if 5<k∧k<9 then rlist (rtyp ns f) true items st4 else st4)=z:=⟨_,rfl⟩
 rw[hst5] at h5 hL hQ l30
 rw[e5] at l30
 unfold q30 at hL hQ l30
 rw[e5] at hL hQ l30
 refine seq_mid (fun a' w'=>Mt B R X O H deep no #[.int .i64 (k:Int),.string name,.int .i64 size,.slice As ny ca,.slice Ai ni ci,.slice Af nf cf] n v3 v4 v5 w0 (if k=11 then rflds (rtyp ns f) fields (st5.put [123]) else st5) a' w') (fun K hK=>rt30 H' hd hk fields hf hSc st5 a5 w5 h5 (by omega) PO K hK) ?_
 intro a6 w6 h6
 exact rt33 hk _ a6 w6 h6 hL PO hQ
end
theorem rtyp_stop {ns:List Ne} {f:Nat} {n:Int} {st:WSt} (h:wstop ns f n st):rtyp ns f n st={ st with bad:=true }:=by
 cases f with
 | zero=>rfl
 | succ f=>rw[rtyp,if_pos h]
theorem rtyp_go {ns:List Ne} {f:Nat} {n:Int} {st:WSt} (h:¬wstop ns (f+1) n st):rtyp ns (f+1) n st=if n<st.next then { (st.put (bs (ns.getD n.toNat neD).name)) with bad:=decide ((ns.getD n.toNat neD).k<9) } else rbody (rtyp ns f) (ns.getD n.toNat neD) { st with next:=st.next+1 }:=by rw[rtyp,if_neg h]
def F0 (R:Nat) (n:Int) (deep:Nat) (a:Act):Prop:=Fr 269 [.pointer (some ⟨R,0,none⟩),.int .i64 n,.int .i64 (deep:Int),undef,undef,undef,undef,undef,undef] a
def F1 (R X:Nat) (n:Int) (deep:Nat) (s7 s8:Value) (a:Act):Prop:=Fr 269 [.pointer (some ⟨R,0,none⟩),.int .i64 n,.int .i64 (deep:Int),undef,undef,undef,.pointer (some ⟨X,0,none⟩),s7,s8] a
section
variable {B R deep:Nat} {no:Value} {ns:List Ne}
set_option maxRecDepth 1000000 in
set_option maxHeartbeats 4000000 in
theorem rt0 {f:Nat} (hdf:deep+f=20) (n:Int) (st:WSt) (w:World) (h:RInv B w R no st) (hS:Sch B w no ns) (hs46:st.s.length≤100000000) (a:Act) (hF:F0 R n deep a) (PO:Ending→World→Prop) (K:Act→World→Prop)
  (hK:∀a' w',F0 R n deep a'∧w'=w.setCell ⟨R,3,none⟩ (.bool (decide (wstop ns f n st)))→K a' w') :
  (fstC (tlC 0 Tryz.f42.body)).wp Tryz.prog (Exit.then K (bodyPost Tryz.prog Tryz.f42 PO)) a w:=by
 obtain⟨A,c,rfl⟩:=hS.slice
 have hcm:ns.length≤c∧c≤maxLen:=by obtain⟨vs,_,⟨A1,c1,e,_,_,q1,q2,_⟩,_⟩:=hS;injection e with e1 e2 e3;subst e3;exact⟨q1,q2⟩
 unfold maxLen at hcm
 obtain⟨S,hSs,hb⟩:=h.blk
 have hsz:S.size=st.s.length:=by rw[←bs_size,hSs]
 obtain⟨b,hbd⟩:∃b,Hid (decide (wstop ns f n st)=b):=⟨_,Lib.hid rfl⟩
 rw[hbd.out] at hK
 have hw:wstop ns f n st↔(st.bad=true∨n<0∨(ns.length:Int)≤n∨(st.next:Int)<n∨f=0∨4096<S.size):=by unfold wstop;rw[hsz]
 obtain⟨ln,hln⟩:∃z,Hid (ns.length=z):=⟨_,rfl⟩
 rw[hln.out] at hb hw hcm
 obtain⟨nx,hnx⟩:∃z,Hid (st.next=z):=⟨_,rfl⟩
 rw[hnx.out] at hb hw
 obtain⟨bd,hbad⟩:∃z,Hid (st.bad=z):=⟨_,rfl⟩
 rw[hbad.out] at hb hw
 have c0:w.cell? ⟨R,0,none⟩=some (.slice A ln c):=hb.cell 0
 have c1:w.cell? ⟨R,1,none⟩=some (.string S):=hb.cell 1
 have c2:w.cell? ⟨R,2,none⟩=some (.int .i64 (nx:Int)):=hb.cell 2
 have c3:w.cell? ⟨R,3,none⟩=some (.bool bd):=hb.cell 3
 have f3:=hb.frozen 3
 obtain⟨u,rfl⟩:=lay269 hF
 clear hF
 conv=>arg 2;whnf
 have yes:wstop ns f n st→b=true:=fun e=>by rw[←hbd.out];exact decide_eq_true e
 have noo:¬wstop ns f n st→b=false:=fun e=>by rw[←hbd.out];exact decide_eq_false e
 clear hSs hsz hS h hs46 hbd
 by_cases g1:bd=true
 ·obtain rfl:=yes (hw.2 (.inl g1))
  subst g1
  clear hw yes noo hb
  go_wp2_with fail
  first|exact⟨⟨_,rfl,rfl⟩,rfl⟩|exact⟨_,rfl,rfl⟩
 have g1':bd=false:=by simpa using g1
 subst g1'
 by_cases g2:n<0
 ·obtain rfl:=yes (hw.2 (.inr (.inl g2)))
  clear hw yes noo hb
  go_wp2_with fail
  first|exact⟨⟨_,rfl,rfl⟩,rfl⟩|exact⟨_,rfl,rfl⟩
 by_cases g3:(ln:Int)≤n
 ·obtain rfl:=yes (hw.2 (.inr (.inr (.inl g3))))
  clear hw yes noo hb
  go_wp2_with fail
  first|exact⟨⟨_,rfl,rfl⟩,rfl⟩|exact⟨_,rfl,rfl⟩
 by_cases g4:(nx:Int)<n
 ·obtain rfl:=yes (hw.2 (.inr (.inr (.inr (.inl g4)))))
  clear hw yes noo hb
  go_wp2_with fail
  first|exact⟨⟨_,rfl,rfl⟩,rfl⟩|exact⟨_,rfl,rfl⟩
 by_cases g5:(20:Int)≤(deep:Int)
 ·obtain rfl:=yes (hw.2 (.inr (.inr (.inr (.inr (.inl (by omega)))))))
  clear hw yes noo hb
  go_wp2_with fail
  first|exact⟨⟨_,rfl,rfl⟩,rfl⟩|exact⟨_,rfl,rfl⟩
 by_cases g6:(4096:Int)<(S.size:Int)
 ·obtain rfl:=yes (hw.2 (.inr (.inr (.inr (.inr (.inr (by omega)))))))
  clear hw yes noo hb
  go_wp2_with fail
  first|exact⟨⟨_,rfl,rfl⟩,rfl⟩|exact⟨_,rfl,rfl⟩
 ·obtain rfl:=noo (fun e=>by
   rcases hw.1 e with e|e|e|e|e|e
   ·cases e
   ·exact g2 e
   ·exact g3 e
   ·exact g4 e
   ·omega
   ·omega)
  clear hw yes noo hb g1
  go_wp2_with fail
  first|exact⟨⟨_,rfl,rfl⟩,rfl⟩|exact⟨_,rfl,rfl⟩
set_option maxRecDepth 1000000 in
set_option maxHeartbeats 8000000 in
theorem rtyped_step {f:Nat} (hdf:deep+f=20) (H':∀f',f=f'+1→RTypC B R no ns f' (deep+1)):RTypC B R no ns f deep:=by
 intro n st w h hSc hL
 have hG:=rtyp_len ns f
 have hs46:st.s.length≤100000000:=Nat.le_trans (hG n st) hL
 obtain⟨PO,hPO⟩:∃PO:Ending→World→Prop,Hid ((fun e w'=>RsP B R no w (rtyp ns f n st) e w')=PO):=⟨_,Lib.hid rfl⟩
 rw[hPO.out]
 have hfin:∀w',Chg (fun k=>k=R) w w'→RInv B w' R no (rtyp ns f n st)→PO (.returned (.tuple #[])) w':=fun w' h1 h2=>by rw[←hPO.out];exact⟨rfl,h1,h2⟩
 have hR:=h.hR
 have hBw:=h.size
 have h0:=fun a hF K hK=>rt0 hdf n st w h hSc hs46 a hF PO K hK
 have hI1:=h.setBad (decide (wstop ns f n st))
 have hc1:=Chg.one w R 3 (.bool (decide (wstop ns f n st)))
 obtain⟨w1,hw1⟩:∃z,Hid (w.setCell ⟨R,3,none⟩ (.bool (decide (wstop ns f n st)))=z):=⟨_,Lib.hid rfl⟩
 rw[hw1.out] at hI1 hc1
 simp only[hw1.out] at h0
 clear hPO
 go_enter Tryz.func42,Tryz.ntmps42
 refine seq_mid (fun a' w'=>F0 R n deep a'∧w'=w1) (fun K hK=>h0 _ ⟨_,rfl,rfl⟩ K hK) ?_
 clear h0
 rintro a1 w' ⟨hF1,hw'⟩
 subst hw'
 by_cases hst:wstop ns f n st
 ·rw[rtyp_stop hst] at hfin
  rw[decide_eq_true hst] at hI1
  have hp:=hfin w' hc1 hI1
  obtain⟨S,hSs,hb⟩:=hI1.blk
  have c3:w'.cell? ⟨R,3,none⟩=some (.bool true):=hb.cell 3
  obtain⟨u,rfl⟩:=lay269 hF1
  clear hF1 hfin hSs hb hst hI1
  go_wp2_with fail
  go_end0
  exact hp
 rw[decide_eq_false hst] at hI1
 have hstp:=hst
 unfold wstop at hst
 simp only[not_or,Int.not_lt,Int.not_le,Nat.not_lt,Bool.not_eq_true] at hst
 obtain⟨g1,g2,g3,g4,g5,g6⟩:=hst
 obtain⟨f,rfl⟩:∃g,f=g+1:=⟨f-1,by omega⟩
 rw[rtyp_go hstp] at hfin hL
 replace H':=H' f rfl
 have hIb:({ st with bad:=false }:WSt)=st:=by rw[←g1]
 rw[hIb] at hI1
 obtain⟨j,rfl⟩:∃j:Nat,n=(j:Int):=⟨n.toNat,by omega⟩
 rw[Int.toNat_natCast] at hfin hL
 have hj:j<ns.length:=by omega
 have hS1:=hSc.below (chgR_below hc1 hR hBw)
 have hBw1:=hI1.size
 obtain⟨v,b,off,c,rfl,hbB,hsub,hnc,hcm,hcell⟩:=hS1.node j hj
 obtain⟨d,hd⟩:∃z,z=ns.getD j neD:=⟨_,rfl⟩
 rw[←hd] at hsub hcell hfin hL
 obtain⟨k,name,size,syms,items,fields⟩:=d
 obtain⟨va,vb,vc⟩:=v
 have hSy:Sl B w' va syms.length (txs syms):=hsub.syms
 have hSi:Sl B w' vb items.length (intsZ items):=hsub.items
 have hSf:Sl B w' vc fields.length (fldsZ fields):=hsub.fields
 have hrng : -9223372036854775808≤size∧size≤9223372036854775807:=hsub.rng
 obtain⟨As,ca,rfl,hs1⟩:=id hSy
 obtain⟨Ai,ci,rfl,hs2⟩:=id hSi
 obtain⟨Af,cf,rfl,hs3⟩:=id hSf
 clear hs1 hs2 hs3 hsub
 obtain⟨ny,hny⟩:∃z,Hid (syms.length=z):=⟨_,rfl⟩
 obtain⟨ni,hni⟩:∃z,Hid (items.length=z):=⟨_,rfl⟩
 obtain⟨nf,hnf⟩:∃z,Hid (fields.length=z):=⟨_,rfl⟩
 rw[hny.out] at hSy hcell
 rw[hni.out] at hSi hcell
 rw[hnf.out] at hSf hcell
 have k0:w'.cell? ⟨b,off+j*6,none⟩=some (.int .i64 k):=by have:=hcell 0 (by omega);simpa [neC] using this
 have k1:w'.cell? ⟨b,off+j*6+1,none⟩=some (.string name):=by have:=hcell 1 (by omega);simpa [neC,Nat.add_assoc] using this
 have k2:w'.cell? ⟨b,off+j*6+2,none⟩=some (.int .i64 size):=by have:=hcell 2 (by omega);simpa [neC,Nat.add_assoc] using this
 have k3:w'.cell? ⟨b,off+j*6+3,none⟩=some (.slice As ny ca):=by have:=hcell 3 (by omega);simpa [neC,Nat.add_assoc] using this
 have k4:w'.cell? ⟨b,off+j*6+4,none⟩=some (.slice Ai ni ci):=by have:=hcell 4 (by omega);simpa [neC,Nat.add_assoc] using this
 have k5:w'.cell? ⟨b,off+j*6+5,none⟩=some (.slice Af nf cf):=by have:=hcell 5 (by omega);simpa [neC,Nat.add_assoc] using this
 clear hcell
 obtain⟨ln,hln⟩:∃z,Hid (ns.length=z):=⟨_,rfl⟩
 obtain⟨S,hSs,hb⟩:=hI1.blk
 have hsz:S.size≤st.s.length:=by rw[←bs_size,hSs];exact Nat.le_refl _
 have c0:w'.cell? ⟨R,0,none⟩=some (.slice (some ⟨b,off,none⟩) ln c):=by rw[←hln.out];exact hb.cell 0
 have c3:w'.cell? ⟨R,3,none⟩=some (.bool false):=by rw[←g1];exact hb.cell 3
 rw[hln.out] at hj
 have hjI:(j:Int)<(ln:Int):=by omega
 have hcN:ln≤c:=by rw[←hln.out];exact hnc
 unfold maxLen at hcm
 obtain⟨nx,hnx⟩:∃z,Hid (st.next=z):=⟨_,rfl⟩
 have c2:w'.cell? ⟨R,2,none⟩=some (.int .i64 (nx:Int)):=by rw[←hnx.out];exact hb.cell 2
 rw[hnx.out] at g4
 refine seq_mid (fun a' w2=>F0 R j deep a'∧w2=w') ?_ ?_
 ·intro K hK
  obtain⟨u,rfl⟩:=lay269 hF1
  clear hF1 hfin hSc hS1 hSy hSi hSf hI1 h hb hw1
  go_wp2_with fail
  first|exact⟨⟨_,rfl,rfl⟩,rfl⟩|exact⟨_,rfl,rfl⟩
 rintro a2 w2 ⟨hF2,hw2⟩
 subst hw2
 clear c3 hF1
 refine seq_mid (fun a' w3=>F1 R w2.heap.size j deep undef undef a'∧w3=w2.alloc (.cells #[.int .i64 k,.string name,.int .i64 size,.slice As ny ca,.slice Ai ni ci,.slice Af nf cf] 36)) ?_ ?_
 ·intro K hK
  obtain⟨u,rfl⟩:=lay269 hF2
  clear hF2 hfin hSc hS1 hSy hSi hSf hI1 h hb hw1 c2
  go_wp2_with fail
  first|exact⟨⟨_,rfl,rfl⟩,rfl⟩|exact⟨_,rfl,rfl⟩
 rintro a3 w3 ⟨hF3,hw3⟩
 have hx3:Ext w2 w3:=by rw[hw3];exact (Ext.refl w2).alloc _
 obtain⟨X,hX⟩:∃z,Hid (w2.heap.size=z):=⟨_,rfl⟩
 have hbX:Blk w3 X #[.int .i64 k,.string name,.int .i64 size,.slice As ny ca,.slice Ai ni ci,.slice Af nf cf] 36:=by rw[hw3,←hX.out];exact Blk.new w2 _ _
 rw[hX.out] at hF3
 have hXR:¬X=R:=by have:=hb.lt;have:=hX.out;omega
 clear hw3 k0 k1 k2 k3 k4 k5 c0 hF2
 have hI3:=hI1.ext hx3
 have hb3:=hb.ext hx3
 rw[hnx.out] at hb3
 have d2:w3.cell? ⟨R,2,none⟩=some (.int .i64 (nx:Int)):=hb3.cell 2
 have hc3:=hc1.trans (Chg.ofExt (S:=fun k=>k=R) hx3) (fun _ _ e=>e)
 by_cases hjn:j<nx
 ·rw[if_pos (by rw[hnx.out];omega)] at hfin hL
  have hjnI:(j:Int)<(nx:Int):=by omega
  have q0:w3.cell? ⟨X,0,none⟩=some (.int .i64 k):=hbX.cell 0
  have f3:=hb3.frozen 3
  have hz:¬9223372036854775807<S.size+name.size:=by
   have:(({ (st.put (bs name)) with bad:=decide (k<9) }:WSt)).s.length=(st.put (bs name)).s.length:=rfl
   rw[this,WSt.put_len,bs_size] at hL
   omega
  obtain⟨bk,hbk⟩:∃z,Hid (decide (k<9)=z):=⟨_,Lib.hid rfl⟩
  have hkb:(decide (k<9))=bk:=hbk.out
  have z3:w3.cell? ⟨R,3,none⟩=some (.bool st.bad):=hb3.cell 3
  have hb4:Blk (w3.setCell ⟨R,3,none⟩ (.bool bk)) R #[.slice (some ⟨b,off,none⟩) ns.length c,.string S,.int .i64 (nx:Int),.bool bk] 66:=hb3.set 3 _
  have hc4:=hc3.trans (Chg.one w3 R 3 (.bool bk)) (fun _ _ e=>e)
  obtain⟨w4,hw4⟩:∃z,Hid (w3.setCell ⟨R,3,none⟩ (.bool bk)=z):=⟨_,rfl⟩
  have hbX4:Blk w4 X #[.int .i64 k,.string name,.int .i64 size,.slice As ny ca,.slice Ai ni ci,.slice Af nf cf] 36:=by rw[←hw4.out];exact hbX.far (p:=⟨R,3,none⟩) hXR _
  rw[hw4.out] at hb4 hc4
  have hfin2:∀W,Ext w4 W→PO (.returned (.tuple #[])) (W.setCell ⟨R,1,none⟩ (.string (S++name))):=fun W hW=>by
   refine hfin _ ((hc4.trans (Chg.ofExt (S:=fun k=>k=R) hW) (fun _ _ e=>e)).trans (Chg.one W R 1 _) (fun _ _ e=>e)) ?_
   refine⟨⟨S++name,?_,?_⟩,hR⟩
   ·rw[bs_append,hSs];rfl
   ·have:=(hb4.ext hW).set 1 (.string (S++name))
    rw[show ({ (st.put (bs name)) with bad:=decide (k<9) }:WSt).next=nx from hnx.out,show ({ (st.put (bs name)) with bad:=decide (k<9) }:WSt).bad=bk from hkb]
    exact this
  have r1:∀W,Ext w4 W→W.cell? ⟨R,1,none⟩=some (.string S):=fun W hW=>(hb4.ext hW).cell 1
  have rf:∀W,Ext w4 W→W.frozen? ⟨R,1,none⟩=false:=fun W hW=>(hb4.ext hW).frozen 1
  have rn:∀W,Ext w4 W→W.cell? ⟨X,1,none⟩=some (.string name):=fun W hW=>(hbX4.ext hW).cell 1
  obtain⟨u,rfl⟩:=lay269 hF3
  clear hF3 hfin hSc hS1 hSy hSi hSf hI1 hI3 h hb hb3 hb4 hw1 c2 hbX hbX4 hL hsz hbk hSs
  go_wp2_with fail
  rw[hw4.out]
  refine Reg.startE (by kernel_rfl) ?_
  iterate 10 ((first|refine Reg.tn ?_|refine Reg.sn ?_);(try simp only[Reg.nn]))
  refine Reg.last 10 _ rfl (by kernel_rfl) (by kernel_rfl) (by kernel_rfl) (by decide) (by rfl) (fun W hW K hK=>?_)
  have fW:=rf W hW
  have cW:=r1 W hW
  go_simp
  refine hK.out _ _ ?_;clear hK K;(try simp only[Reg.nn])
  have hp:=hfin2 W hW
  clear hfin2 r1 rf rn
  go_wp2_with fail
  go_end0
  exact hp
 ·obtain rfl:j=nx:=by omega
  rw[if_neg (by rw[hnx.out];omega)] at hfin hL
  have hjnI:¬(j:Int)<(j:Int):=by omega
  refine seq_mid (fun a' w4=>F1 R X j deep undef undef a'∧w4=w3) ?_ ?_
  ·intro K hK
   obtain⟨u,rfl⟩:=lay269 hF3
   clear hF3 hfin hSc hS1 hSy hSi hSf hI1 hI3 h hb hb3 hw1 c2 hbX
   go_wp2_with fail
   first|exact⟨⟨_,rfl,rfl⟩,rfl⟩|exact⟨_,rfl,rfl⟩
  rintro a4 w4 ⟨hF4,hw4⟩
  subst hw4
  clear hF3
  have hwr:IntKind.i64.wrap ((j:Int)+1)=(j:Int)+1:=by rw[IntKind.wrap_i64];omega
  have hI5:=hI3.setNext (j+1)
  have hc5:=hc3.trans (Chg.one w4 R 2 (.int .i64 ((j:Int)+1))) (fun _ _ e=>e)
  rw[show ((j+1:Nat):Int)=(j:Int)+1 by omega] at hI5
  have hx5:=Chg.one w4 R 2 (.int .i64 ((j:Int)+1))
  have hbX5:Blk (w4.setCell ⟨R,2,none⟩ (.int .i64 ((j:Int)+1))) X #[.int .i64 k,.string name,.int .i64 size,.slice As ny ca,.slice Ai ni ci,.slice Af nf cf] 36:=hbX.far (p:=⟨R,2,none⟩) hXR _
  obtain⟨w5,hw5⟩:∃z,Hid (w4.setCell ⟨R,2,none⟩ (.int .i64 ((j:Int)+1))=z):=⟨_,rfl⟩
  rw[hw5.out] at hI5 hc5 hbX5 hx5
  refine seq_mid (fun a' w'=>F1 R X j deep undef undef a'∧w'=w5) ?_ ?_
  ·intro K hK
   have f2:=hb3.frozen 2
   have hw5':=hw5.out
   obtain⟨u,rfl⟩:=lay269 hF4
   clear hF4 hfin hSc hS1 hSy hSi hSf hI1 hI3 hI5 h hb hb3 hw1 c2 hbX hbX5 hx5 hc5 hw5
   replace hw5':=Lib.hid hw5'
   go_wp2_with fail
   exact⟨⟨_,rfl,rfl⟩,hw5'.out⟩
  rintro a5 w6 ⟨hF5,hw6⟩
  subst hw6
  clear hF4 d2 hb3
  have q0:w6.cell? ⟨X,0,none⟩=some (.int .i64 k):=hbX5.cell 0
  by_cases hkb:k<0∨12≤k
  ·have hre:rbody (rtyp ns f) ⟨k,name,size,syms,items,fields⟩ { st with next:=st.next+1 }={ st with next:=j+1,bad:=true }:=by
    rw[rbody,if_neg (by simp only;omega),if_neg (by simp only;omega),if_neg (by simp only;omega),if_neg (by simp only;omega),if_neg (by simp only;omega),if_neg (by simp only;omega),if_pos (by simp only;omega),hnx.out]
   rw[hre] at hfin
   have hp:=hfin _ (hc5.trans (Chg.one w6 R 3 (.bool true)) (fun _ _ e=>e)) (hI5.setBad true)
   obtain⟨S6,hS6,hb6⟩:=hI5.blk
   have z3:w6.cell? ⟨R,3,none⟩=some _:=hb6.cell 3
   have f3:=hb6.frozen 3
   obtain⟨u,rfl⟩:=lay269 hF5
   clear hF5 hfin hSc hS1 hSy hSi hSf hI1 hI3 hI5 h hb hb6 hw1 c2 hbX hbX5 hx5 hc5 hw5 hre hS6
   rcases hkb with hkb|hkb
   ·go_wp2_with fail
    go_end0
    exact hp
   ·have hk11:(11:Int)<k:=by omega
    have hk0:¬k<0:=by omega
    go_wp2_with fail
    go_end0
    exact hp
  have hk0:¬k<0:=by omega
  have hk11:¬(11:Int)<k:=by omega
  refine seq_mid (fun a' w'=>F1 R X j deep undef undef a'∧w'=w6) ?_ ?_
  ·intro K hK
   obtain⟨u,rfl⟩:=lay269 hF5
   clear hF5 hfin hSc hS1 hSy hSi hSf hI1 hI3 hI5 h hb hw1 c2 hbX hbX5 hx5 hc5 hw5
   go_wp2_with fail
   first|exact⟨⟨_,rfl,rfl⟩,rfl⟩|exact⟨_,rfl,rfl⟩
  rintro a6 w7 ⟨hF6,hw7⟩
  subst hw7
  clear hF5
  refine seq_mid (fun a' w'=>F1 R X j deep (.slice (some ⟨w7.heap.size,0,none⟩) 12 12) undef a'∧w'=w7.alloc (.cells opA 9)) ?_ ?_
  ·intro K hK
   unfold opA at hK
   obtain⟨u,rfl⟩:=lay269 hF6
   clear hF6 hfin hSc hS1 hSy hSi hSf hI1 hI3 hI5 h hb hw1 c2 hbX hbX5 hx5 hc5 hw5
   go_wp2_with fail
   first|exact⟨⟨_,rfl,rfl⟩,rfl⟩|exact⟨_,rfl,rfl⟩
  rintro a7 w8 ⟨hF7,hw8⟩
  clear hF6
  have hx8:Ext w7 w8:=by rw[hw8];exact (Ext.refl w7).alloc _
  obtain⟨O,hO⟩:∃z,Hid (w7.heap.size=z):=⟨_,rfl⟩
  have hbO:Blk w8 O opA 9:=by rw[hw8,←hO.out];exact Blk.new w7 _ _
  rw[hO.out] at hF7
  have hR7:R<w7.heap.size:=by obtain⟨S7,_,hb7⟩:=hI5.blk;exact hb7.lt
  have hOR:¬O=R:=by have:=hO.out;omega
  clear hw8
  refine seq_mid (fun a' w'=>F1 R X j deep (.slice (some ⟨O,0,none⟩) 12 12) (.slice (some ⟨w8.heap.size,0,none⟩) 12 12) a'∧w'=w8.alloc (.cells shA 9)) ?_ ?_
  ·intro K hK
   unfold shA at hK
   obtain⟨u,rfl⟩:=lay269 hF7
   clear hF7 hfin hSc hS1 hSy hSi hSf hI1 hI3 hI5 h hb hw1 c2 hbX hbX5 hx5 hc5 hw5 hbO
   go_wp2_with fail
   first|exact⟨⟨_,rfl,rfl⟩,rfl⟩|exact⟨_,rfl,rfl⟩
  rintro a8 w9 ⟨hF8,hw9⟩
  clear hF7
  have hx9:Ext w8 w9:=by rw[hw9];exact (Ext.refl w8).alloc _
  obtain⟨Hh,hHh⟩:∃z,Hid (w8.heap.size=z):=⟨_,rfl⟩
  have hbH:Blk w9 Hh shA 9:=by rw[hw9,←hHh.out];exact Blk.new w8 _ _
  rw[hHh.out] at hF8
  have hHR:¬Hh=R:=by have:=hHh.out;have:=hx8.size;omega
  clear hw9
  obtain⟨kk,rfl⟩:∃kk:Nat,k=(kk:Int):=⟨k.toNat,by omega⟩
  have hx79:=hx8.trans hx9
  have hc9:=hc5.trans (Chg.ofExt (S:=fun k=>k=R) hx79) (fun _ _ e=>e)
  have hst':({ st with next:=st.next+1 }:WSt)={ st with next:=j+1 }:=by rw[hnx.out]
  rw[hst'] at hfin hL
  have hMs:Ms B R X O Hh (.slice (some ⟨b,off,none⟩) ns.length c) #[.int .i64 (kk:Int),.string name,.int .i64 size,.slice As ny ca,.slice Ai ni ci,.slice Af nf cf] w { st with next:=j+1 } w9:=
   ⟨hc9,hI5.ext hx79,hbX5.ext hx79,hbO.ext hx9,hbH,hXR,hOR,hHR,hBw⟩
  have hsl:=hMs.below
  have hlow:∀ {v:Value} {m:Nat} {cs:List Value},Sl B w2 v m cs→Sl B w9 v m cs:=fun hs=>hs.below (chgR_below (((Chg.ofExt (S:=fun k=>k=R) hx3).trans hx5 (fun _ _ e=>e)).trans (Chg.ofExt (S:=fun k=>k=R) hx79) (fun _ _ e=>e)) hR hBw1)
  have hMs9:Ms B R X O Hh (.slice (some ⟨b,off,none⟩) ns.length c) #[.int .i64 (kk:Int),.string name,.int .i64 size,.slice As ny ca,.slice Ai ni ci,.slice Af nf cf] w9 { st with next:=j+1 } w9:=
   ⟨Chg.refl _ _,hMs.inv,hMs.nd,hMs.op,hMs.sh,hXR,hOR,hHR,hMs.inv.size⟩
  exact rt11_all H' (by omega) (by omega) syms items fields (by rw[hny.out];exact hlow hSy) (by rw[hni.out];exact hlow hSi) (by rw[hnf.out];exact hlow hSf) hrng (hSc.below hsl) _ a8 w9 ⟨hF8,hMs9⟩ hL PO (fun w' hc hi=>hfin w' (hc9.trans hc (fun _ _ e=>e)) hi)
end
theorem rtyped_all {B R:Nat} {no:Value} {ns:List Ne}:∀(f deep:Nat),deep+f=20→RTypC B R no ns f deep
 | 0,deep,hdf=>rtyped_step hdf (fun f e=>by omega)
 | f+1,deep,hdf=>rtyped_step hdf (fun g e=>by
  obtain rfl:g=f:=by omega
  exact rtyped_all g (deep+1) (by omega))
end Pr
end Go.Proofs.YtmaoochjbpohdaaGreatDoor
