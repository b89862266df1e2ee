/- suffragan/suffraganlaw12.PolicyBegins: the given statement, out of the contract of its walk. No condition. -/
import Derived.Test.YtmaoochjbpohdaaGreatDoorPvP
set_option linter.unusedVariables false
set_option linter.unusedSimpArgs false
set_option maxRecDepth 100000
set_option maxHeartbeats 1000000
open Go.ChangeShapes Go.WideShapes Go.ChangeAt Go.RowKit
namespace Go.Proofs.YtmaoochjbpohdaaGreatDoor
namespace Pd
open Base Lx Mi Pr Rv Cn Pl Ch
def ints (l:List Nat):List Int:=l.map fun (i:Nat)=>(i:Int)
theorem ints_cells (l:List Nat):(ints l).map (Value.int .i64)=intsN l:=by simp[ints,intsN,Function.comp_def]
theorem entries_any (l:List Et) (n c:Nat) (A:Option Addr) (w:World) (hn:l.length=n) (hc:n≤c) :
  Calls Tryz.prog 37 #[.slice A n c] w fun e w'=>e=.returned (.slice A (l.take 8).length c)∧w'=w:=by
 have Hn:=Lib.hid hn
 clear hn
 obtain⟨m,hm⟩:∃m,Hid ((l.take 8).length=m):=⟨_,rfl⟩
 rw[hm.out]
 have hm2:m=min 8 n:=by rw[←hm.out,List.length_take,Hn.out]
 go_enter Tryz.func37,Tryz.ntmps37
 by_cases h:8<n
 ·have h':(8:Int)<n:=by omega
  have hc':(8:Int)≤c:=by omega
  have e:m=8:=by omega
  clear hm2 h
  subst e
  go_wp2_with fail
  go_ret
  exact⟨rfl,rfl⟩
 ·have h':¬(8:Int)<n:=by omega
  have e:m=n:=by omega
  clear hm2 h
  subst e
  go_wp2_with fail
  go_ret
  exact⟨rfl,rfl⟩
structure Cut8 (A:Option Addr) (n c:Nat) (l:List Et) (w:World):Prop where
 row:Rd w A (entsZ l)
 len:l.length=n
 n8:n≤8
 nc:n≤c
 cm:c≤maxLen
 nil:A=none→c=0
 ok:∀e∈l,EtOk e
theorem ents_take8 (l:List Et):∀n,(entsZ l).take (n*4)=entsZ (l.take n):=by
 induction l with
 | nil=>intro n;simp[entsZ]
 | cons x l ih=>
  intro n
  cases n with
  | zero=>simp[entsZ]
  | succ n=>
   have e:entsZ (x::l)=entC x++entsZ l:=rfl
   have e2:(entC x).length=4:=rfl
   rw[List.take_succ_cons,show entsZ (x::l.take n)=entC x++entsZ (l.take n) from rfl,e,show (n+1)*4=(entC x).length+n*4 by rw[e2];omega,List.take_length_add_append,ih]
theorem Cut8.take {A:Option Addr} {n c:Nat} {l:List Et} {w:World} (h:Cut8 A n c l w) (k:Nat):Rd w A (entsZ (l.take k)):=by
 have:=h.row.take (k*4);rwa [ents_take8] at this
theorem cut8 {A:Option Addr} {n0 c:Nat} {l0:List Et} {w:World} (hr0:Rd w A (entsZ l0)) (hn0:l0.length=n0) (hnc0:n0≤c) (hcm:c≤maxLen) (hA:A=none→c=0) (hz0:∀e∈l0,EtOk e):Cut8 A (l0.take 8).length c (l0.take 8) w:=
 ⟨by have:=hr0.take (8*4);rwa [ents_take8] at this,rfl,by rw[List.length_take];omega,by rw[List.length_take];omega,hcm,hA,fun s hs=>hz0 s (List.mem_of_mem_take hs)⟩
theorem intsN_Z (l:List Nat):intsN l=intsZ (ints l):=by rw[←ints_cells];rfl
set_option maxHeartbeats 2000000 in
theorem same12_any (p:Int) (l m:List Nat) (V1 V2 U1 U2:Value) (w:World) (h1:Sl w.heap.size w V1 l.length (intsN l)) (h2:Sl w.heap.size w V2 m.length (intsN m)) (g1:Sl w.heap.size w U1 l.length (intsN l)) (g2:Sl w.heap.size w U2 m.length (intsN m)) :
  Calls Tryz.prog 38 #[.agg #[.int .i64 p,V1,V2],.agg #[.int .i64 p,U1,U2]] w fun e w'=>e=.returned (.bool true)∧Ext w w':=by
 obtain⟨w1,hw1⟩:∃z,Hid ((w.alloc (.cells #[.int .i64 p,V1,V2] 59)).alloc (.cells #[.int .i64 p,U1,U2] 59)=z):=⟨_,rfl⟩
 obtain⟨q,hq⟩:∃z,Hid (w.heap.size=z):=⟨_,rfl⟩
 have hx1:Ext w w1:=by rw[←hw1.out];exact ((Ext.refl w).alloc _).alloc _
 have hb1:Blk w1 q #[.int .i64 p,V1,V2] 59:=by rw[←hw1.out,←hq.out];exact (Blk.new w _ _).ext ((Ext.refl _).alloc _)
 have hb2:Blk w1 (q+1) #[.int .i64 p,U1,U2] 59:=by
  have hn:=Blk.new (w.alloc (.cells #[.int .i64 p,V1,V2] 59)) #[.int .i64 p,U1,U2] 59
  rw[World.size_alloc,hq.out,hw1.out] at hn
  exact hn
 have hi1:=fun W (hW:Ext w1 W)=>rints_any (l1:=ints l) (l2:=ints l) (by rw[←intsN_Z,ints,List.length_map];exact Sl.below h1 (hx1.trans hW)) (by rw[←intsN_Z,ints,List.length_map];exact Sl.below g1 (hx1.trans hW)) (hx1.trans hW).size
 have hi2:=fun W (hW:Ext w1 W)=>rints_any (l1:=ints m) (l2:=ints m) (by rw[←intsN_Z,ints,List.length_map];exact Sl.below h2 (hx1.trans hW)) (by rw[←intsN_Z,ints,List.length_map];exact Sl.below g2 (hx1.trans hW)) (hx1.trans hW).size
 simp only[decide_true] at hi1 hi2
 obtain⟨A1,c1,rfl,_⟩:=h1
 obtain⟨A2,c2,rfl,_⟩:=h2
 obtain⟨B1,d1,rfl,_⟩:=g1
 obtain⟨B2,d2,rfl,_⟩:=g2
 obtain⟨n,hn⟩:∃z,Hid (l.length=z):=⟨_,rfl⟩
 obtain⟨k,hk⟩:∃z,Hid (m.length=z):=⟨_,rfl⟩
 rw[hn.out,hk.out] at hw1 hb1 hb2 ⊢
 simp only[hn.out] at hi1
 simp only[hk.out] at hi2
 have ca:=fun W (hW:Ext w1 W)=>(hb1.ext hW).cell
 have c0:=hb1.cell 0
 have c1':=hb1.cell 1
 have c2':=hb1.cell 2
 have d0:=hb2.cell 0
 have d1':=hb2.cell 1
 have d2':=hb2.cell 2
 simp only[List.getElem?_toArray,List.getElem?_cons_zero,List.getElem?_cons_succ] at c0 c1' c2' d0 d1' d2'
 have hI1:=hi1 w1 (Ext.refl _)
 replace hi1:=Lib.hid hi1
 replace hi2:=Lib.hid hi2
 clear ca
 go_enter Tryz.func38,Tryz.ntmps38
 go_wp2_with fail
 rw[hw1.out]
 try rw[hq.out]
 refine hI1.mono ?_
 rintro e w2 ⟨rfl,hx2⟩
 clear hI1
 have hI2:=hi2.out w2 hx2
 have k2:=hx2.cell c2'
 have k2':=hx2.cell d2'
 clear c0 c1' c2' d0 d1' d2'
 go_wp2_with fail
 refine hI2.mono ?_
 rintro e w3 ⟨rfl,hx3⟩
 have hxx:=hx1.trans (hx2.trans hx3)
 clear hI2 k2 k2'
 go_wp2_with fail
 go_ret
 exact⟨rfl,hxx⟩
def blw (k:Nat) (l:List Nat):List Nat:=l.filter fun j=>decide (j<k)
structure BS (q:Nat) (w0:World) (l:List Nat) (k i:Nat) (V:Value) (W:World):Prop where
 own:W.ownsRow q 3 1 V (blw k (l.take i)).length (intsN (blw k (l.take i)))
 x:Ext w0 W
section
variable {q:Nat} {w0:World} {l:List Nat} {k i j:Nat} {V V':Value} {W W':World}
theorem BS.ext (h:BS q w0 l k i V W) (hx:Ext W W'):BS q w0 l k i V W':=⟨own_ext h.own hx,h.x.trans hx⟩
theorem BS.len (h:BS q w0 l k i V W):(blw k (l.take i)).length≤l.length:=Nat.le_trans (List.length_filter_le _ _) (by rw[List.length_take];omega)
theorem BS.hit (h:BS q w0 l k i V W) (hq:w0.heap.size≤q) (hj:l[i]?=some j) (hk:j<k) (ho:W'.ownsRow q 3 1 V' ((blw k (l.take i)).length+1) (intsN (blw k (l.take i))++intsN [j])) (hg:W.grownBy W' V.ownBlock):BS q w0 l k (i+1) V' W':=by
 have e:blw k (l.take (i+1))=blw k (l.take i)++[j]:=by unfold blw;rw[List.take_add_one,hj,List.filter_append];simp[hk]
 refine⟨?_,h.x.then_grown hg (fun m hm=>Nat.le_trans hq (h.own.lt m hm).1)⟩
 rw[e,List.length_append,intsN_snoc]
 exact ho
theorem BS.miss (h:BS q w0 l k i V W) (hj:l[i]?=some j) (hk:¬j<k):BS q w0 l k (i+1) V W:=by
 have e:blw k (l.take (i+1))=blw k (l.take i):=by unfold blw;rw[List.take_add_one,hj,List.filter_append];simp[hk]
 exact⟨by rw[e];exact h.own,h.x⟩
end
set_option maxHeartbeats 2000000 in
theorem below_any (l:List Nat) (k:Nat) (V:Value) (w:World) (hS:Sl w.heap.size w V l.length (intsN l)) (hl:l.length≤1048576) :
  Calls Tryz.prog 41 #[V,.int .i64 (k:Int)] w fun en w'=>(∃V',en=.returned V'∧Sl w'.heap.size w' V' (blw k l).length (intsN (blw k l)))∧Ext w w':=by
 obtain⟨PO,hPO⟩:∃PO:Ending→World→Prop,Hid ((fun en w'=>(∃V',en=.returned V'∧Sl w'.heap.size w' V' (blw k l).length (intsN (blw k l)))∧Ext w w')=PO):=⟨_,Lib.hid rfl⟩
 rw[hPO.out]
 have fin:∀V' W,BS w.heap.size w l k l.length V' W→PO (.returned V') W:=fun V' W h=>by
  rw[←hPO.out]
  have ho:=h.own
  rw[List.take_length] at ho
  exact⟨⟨V',rfl,Sl.ofOwn ho⟩,h.x⟩
 replace fin:=Lib.hid fin
 obtain⟨A,c,rfl,hr,_,_,_,_⟩:=hS
 obtain⟨n,hn⟩:∃z,Hid (l.length=z):=⟨_,rfl⟩
 rw[hn.out] at hl fin ⊢
 have hS0:BS w.heap.size w l k 0 (.slice (some ⟨w.heap.size,0,none⟩) 0 0) (w.alloc (.cells #[] 3)):=⟨World.ownsRow_lit w #[] 0 (Nat.le_refl _) (Nat.zero_le _) rfl,(Ext.refl w).alloc _⟩
 obtain⟨w1,hw1⟩:∃z,Hid (w.alloc (.cells #[] 3)=z):=⟨_,rfl⟩
 obtain⟨q,hq⟩:∃z,Hid (w.heap.size=z):=⟨_,rfl⟩
 rw[hq.out] at fin hS0
 rw[hw1.out] at hS0
 go_enter Tryz.func41,Tryz.ntmps41
 go_wp2_with fail
 rw[hw1.out,hq.out]
 go_loopw [5,6,8,9,10,11,12,13,14,15,16,17,18,19,20,21,22,23,24,25,26] (fun v5 v6 v8 v9 v10 v11 v12 v13 v14 v15 v16 v17 v18 v19 v20 v21 v22 v23 v24 v25 v26 wr=>∃i:Nat,i≤n∧v6=.int .i64 (i:Int)∧BS q w l k i v5 wr) (fun _ v6 _ _ _ _ _ _ _ _ _ _ _ _ _ _ _ _ _ _ _ _=>n-(intOf v6).toNat)
 case atStart=>exact⟨0,Nat.zero_le _,rfl,hS0⟩
 case round=>
  obtain⟨i,hi,rfl,hS⟩:=hrel
  obtain⟨U,hU⟩:∃z,z=u5:=⟨_,rfl⟩
  rw[←hU] at hS ⊢
  clear hU hS0
  by_cases hin:i<n
  ·have hin':(i:Int)<(n:Int):=by omega
   obtain⟨j,hj⟩:∃z,l[i]?=some z:=⟨_,List.getElem?_eq_getElem (by have:=hn.out;omega)⟩
   obtain⟨b,off,rfl,hzz,hc⟩:=(hr.ext hS.x).at_ (k:=i) (by simp only[intsN,List.length_map];have:=hn.out;omega)
   clear hzz
   have hck:wr.cell? ⟨b,off+i,none⟩=some (.int .i64 (j:Int)):=hc i _ (by simp[intsN,hj])
   clear hc
   have Hj:=Lib.hid hj
   clear hj
   by_cases hk:j<k
   ·have hk':(j:Int)<(k:Int):=by omega
    have hxL:Ext wr (wr.alloc (.cells #[.int .i64 (j:Int)] 3)):=(Ext.refl wr).alloc _
    have hSL:=hS.ext hxL
    have hrv:Rd (wr.alloc (.cells #[.int .i64 (j:Int)] 3)) (some ⟨wr.heap.size,0,none⟩) (intsN [j]):=by have:=Rd.of_block wr 3 (0,0) (cs := #[.int .i64 (j:Int)]) rfl;simpa [intsN] using this
    have hqL:q≤(wr.alloc (.cells #[.int .i64 (j:Int)] 3)).heap.size:=by rw[←hq.out];exact hSL.x.size
    have hoh:=hSL.own
    have hlm:=hSL.len
    have hnx:=fun V' W'=>hSL.hit (V':=V') (W':=W') (by rw[hq.out];exact Nat.le_refl _) Hj.out hk
    obtain⟨M,hM⟩:∃z,Hid ((blw k (l.take i)).length=z):=⟨_,rfl⟩
    obtain⟨XS,hXS⟩:∃z,Hid (intsN (blw k (l.take i))=z):=⟨_,rfl⟩
    rw[hM.out] at hlm hoh
    rw[hn.out] at hlm
    rw[hXS.out] at hoh
    simp only[hM.out,hXS.out] at hnx
    replace hnx:=Lib.hid hnx
    clear hxL hSL
    go_wp2_with (
     refine wpList_app el_in _ rfl (.tmp 20) (.tmp 25) rfl q U M XS rfl hoh (some ⟨wr.heap.size,0,none⟩) 1 1 (intsN [j]) rfl hrv rfl (fun h=>by cases h) (intsN_one _) (by omega) (by omega) hqL (fun nV' W' ho' hg' hv'=>?_)
     have hnn:=hnx.out nV' W' ho' hg'
     replace hnn:=Lib.hid hnn
     clear hg' hv' hrv hqL hoh ho')
    go_roundw
    case rel=>exact⟨i+1,by omega,by go_num,hnn.out⟩
    case measure=>simp[intOf]<;>omega
   ·have hk':¬(j:Int)<(k:Int):=by omega
    have hnx:=hS.miss Hj.out hk
    replace hnx:=Lib.hid hnx
    clear hS
    go_wp2_with fail
    go_roundw
    case rel=>exact⟨i+1,by omega,by go_num,hnx.out⟩
    case measure=>simp[intOf]<;>omega
  ·obtain rfl:i=n:=by omega
   have hf:=fin.out _ wr hS
   clear hS
   go_wp2_with fail
   exact hf
def z3:Array Value := #[.int .i64 0,.slice none 0 0,.slice none 0 0]
def admW (m:Nat) (l:List Et) (v:Value) (W:World):Prop:=∃V1 V2,v=.agg #[.int .i64 (admP (l.take m)).p,V1,V2]∧(∃b,W.ownsRow b 3 1 V1 (admP (l.take m)).vis.length (intsN (admP (l.take m)).vis))∧∃b,W.ownsRow b 3 1 V2 (admP (l.take m)).held.length (intsN (admP (l.take m)).held)
def bgP (B:Nat) (A:Option Addr) (n k c:Nat) (l:List Et):Nat→Value→World→Prop
 | 0,v,W=>∃g,v=.slice (some ⟨g,0,none⟩) 0 0∧W.ownsRow 0 93 4 (.slice (some ⟨g,0,none⟩) 0 0) 0 []
 | 1,v,W=>v=.slice A n c
 | 2,v,W=>∃A' c',v=.slice A' n c'∧Rd W A' (entsZ (l.take n))
 | 3,v,W=>admW n l v W
 | 4,v,W=>∃g,v=.slice (some ⟨g,0,none⟩) 0 0∧W.ownsRow 0 93 4 (.slice (some ⟨g,0,none⟩) 0 0) 0 []
 | 5,v,W=>v=.slice A n c
 | 6,v,W=>v=.int .i64 (k:Int)
 | 7,v,W=>v=.slice A k c
 | 8,v,W=>∃A' c',v=.slice A' k c'∧Rd W A' (entsZ (l.take k))
 | 9,v,W=>admW k l v W
 | 10,v,W=>∃g,v=.pointer (some ⟨g,0,none⟩)∧Blk W g z3 59∧B≤g
 | 11,v,W=>∃g,v=.pointer (some ⟨g,0,none⟩)∧Blk W g z3 59∧B≤g
 | _,_,_=>True
theorem admW.ext {m:Nat} {l:List Et} {v:Value} {w w':World} (h:admW m l v w) (hx:Ext w w'):admW m l v w':=by
 obtain⟨V1,V2,e,⟨b1,h1⟩,b2,h2⟩:=h
 exact⟨V1,V2,e,⟨b1,own_ext h1 hx⟩,b2,own_ext h2 hx⟩
theorem own_sets {base:Nat} {e t:TypeId} {size n:Nat} {v:Value} {xs:List Value} {g:Nat} (hne:e≠t):∀(vs:List Value) (o:Nat) (cs:Array Value) (w:World),w.ownsRow base e size v n xs→Blk w g cs t→(w.setCells g o vs).ownsRow base e size v n xs
 | [],_,_,_,h,_=>h
 | u::vs,o,cs,w,h,hb=>by
  rw[World.setCells]
  exact own_sets hne vs (o+1) _ _ (own_setCell h hb hne u) (hb.set o u)
theorem bgP_mono {B:Nat} {A:Option Addr} {n k c:Nat} {l:List Et}:∀i v w w',bgP B A n k c l i v w→Ext w w'→bgP B A n k c l i v w'
 | 0,v,w,w',⟨g,e,o⟩,hx=>⟨g,e,own_ext o hx⟩
 | 1,v,w,w',h,hx=>h
 | 2,v,w,w',⟨A',c',e,r⟩,hx=>⟨A',c',e,r.ext hx⟩
 | 3,v,w,w',h,hx=>admW.ext h hx
 | 4,v,w,w',⟨g,e,o⟩,hx=>⟨g,e,own_ext o hx⟩
 | 5,v,w,w',h,hx=>h
 | 6,v,w,w',h,hx=>h
 | 7,v,w,w',h,hx=>h
 | 8,v,w,w',⟨A',c',e,r⟩,hx=>⟨A',c',e,r.ext hx⟩
 | 9,v,w,w',h,hx=>admW.ext h hx
 | 10,v,w,w',⟨g,e,b,hg⟩,hx=>⟨g,e,b.ext hx,hg⟩
 | 11,v,w,w',⟨g,e,b,hg⟩,hx=>⟨g,e,b.ext hx,hg⟩
 | _+12,_,_,_,_,_=>trivial
def bgR (i j:Nat) (v u:Value):Prop:=(i=10∧j=11∨i=11∧j=10)→∀g g',v=.pointer (some ⟨g,0,none⟩)→u=.pointer (some ⟨g',0,none⟩)→g≠g'
theorem bgR_no {i:Nat} (hi:i<10) (v:Value) {Q:Nat→Value→World→Prop} {w:World}:∀j u,j≠i→Q j u w→bgR i j v u∧bgR j i u v:=fun j u _ _=>⟨fun h=>by omega,fun h=>by omega⟩
theorem z3_there {X:World} {q:Nat} (h:Blk X q z3 59) (cs:Array Value) (hl:cs.size=3):X.there q 0 cs.size:=fun j hj=>by
 rw[hl] at hj
 rw[Nat.zero_add]
 exact⟨by rw[h.cell j,Array.getElem?_eq_getElem (by show j<3;exact hj)];rfl,h.frozen j⟩
theorem set3 (a b c x y z:Value):setMany #[a,b,c] 0 [x,y,z] = #[x,y,z]:=by simp[setMany]
def bgF (A:Option Addr) (n0 n k c:Nat) (a1:Int) (x:Nat→Value):Act:=⟨#[.slice A n c,.int .u8 a1,undef,undef,.bool false,.int .i64 (k:Int),x 10,x 11,.slice A n0 c,.slice A n c,.int .u8 a1,.int .i64 a1,.slice A n c,.int .i64 (n:Int),.int .i64 ((n:Int)+1),.int .i64 (k:Int),x 0,x 1,x 2,x 3,x 4,x 5,x 6,x 7,x 8,x 9,undef,undef,undef,undef,undef,undef,undef,undef,undef,undef,undef,undef,undef,undef,undef,undef],[]⟩
theorem bl_p (l:List Et) (k:Nat) (hk:k≤l.length):blw k (admP l).vis=(admP (l.take k)).vis∧blw k (admP l).held=(admP (l.take k)).held:=by
 have:=begins l k hk
 exact⟨this.1.symm,this.2.symm⟩
set_option maxHeartbeats 2000000 in
theorem begins_any (A:Option Addr) (n0 c:Nat) (l0:List Et) (a1:Int) (ha1:0≤a1∧a1≤255) (w:World) (hr0:Rd w A (entsZ l0)) (hn0:l0.length=n0) (hnc0:n0≤c) (hcm:c≤maxLen) (hA:A=none→c=0) (hz0:∀e∈l0,EtOk e) (hwd:Wd w) (hpow:Pow w) (hN:Nms w) :
  Calls Tryz.prog 15 #[.slice A n0 c,.int .u8 a1] w fun en w'=>en=.returned (.bool true)∧Ext w w':=by
 have hfew:=entries_any l0 n0 c A w hn0 hnc0
 have hC:=cut8 hr0 hn0 hnc0 hcm hA hz0
 generalize l0.take 8=l at hfew hC
 obtain⟨n,hn⟩:∃z,Hid (l.length=z):=⟨_,rfl⟩
 rw[hn.out] at hfew hC
 clear hr0 hn0 hnc0 hcm hA hz0
 have hn8:=hC.n8
 obtain⟨k,hkn,hmod⟩:∃k:Nat,k≤n∧a1.tmod ((n:Int)+1)=(k:Int):=by
  refine⟨(a1.tmod ((n:Int)+1)).toNat,?_,?_⟩
  ·have:=Int.tmod_lt_of_pos a1 (show (0:Int)<(n:Int)+1 by omega)
   have:=Int.tmod_nonneg ((n:Int)+1) ha1.1
   omega
  ·have:=Int.tmod_nonneg ((n:Int)+1) ha1.1
   omega
 have hH:=fun i W A' c' (hi:i≤n) (hW:Ext w W) (h':Rd W A' (entsZ (l.take i)))=>Admit_any A' i c' (l.take i) W h' (by rw[List.length_take,hn.out];omega) (by omega) (fun e he=>hC.ok e (List.mem_of_mem_take he)) (hwd.ext hW) (hpow.ext hW)
 have hli:=fun W (hW:Ext w W)=>lives12_any W (hwd.ext hW) (hpow.ext hW) (hN.ext hW)
 have hcut:∀i:Nat,i≤n→∀W,(Instr.sliceAt 52 (.slice A n c) none (some (.int .i64 (i:Int))) none).run Tryz.prog W=.ok (.slice A i c) W:=fun i hi W=>
  run_cutZ (P:=Tryz.prog) (t:=52) (e:=93) (s:=4) Tryz.underlying52 (by kernel_rfl) W A n c i (by have:=hC.nc;omega)
 obtain⟨PO,hPO⟩:∃PO:Ending→World→Prop,Hid ((fun en w'=>en=.returned (.bool true)∧Ext w w')=PO):=⟨_,Lib.hid rfl⟩
 have fin:∀W,Ext w W→PO (.returned (.bool true)) W:=fun W hW=>by rw[←hPO.out];exact⟨rfl,hW⟩
 rw[hPO.out]
 have hlen:∀i,i≤n→(entsZ (l.take i)).length=i*4:=fun i hi=>by rw[entsZ_len,List.length_take,hn.out];omega
 have hrow:∀i W,Ext w W→Rd W A (entsZ (l.take i)):=fun i W hW=>(hC.take i).ext hW
 have hct:=hcut k hkn
 have hnz:(((n:Int)+1) == 0)=false:=by simp;omega
 have hkn':(k:Int)≤(n:Int):=by omega
 replace fin:=Lib.hid fin
 replace hH:=Lib.hid hH
 replace hli:=Lib.hid hli
 replace hrow:=Lib.hid hrow
 replace hC:=Lib.hid hC
 replace hlen:=Lib.hid hlen
 clear hcut
 go_enter Tryz.func15,Tryz.ntmps15
 go_wp2_with fail
 refine hfew.mono ?_
 rintro en w2 ⟨rfl,hw2⟩
 obtain rfl:w=w2:=hw2.symm
 clear hfew
 go_wp2_with fail
 have hfl:∃B,Hid (B=w.heap.size):=⟨_,rfl⟩
 clear hfl
 have hx0:Ext w w.drew:=(Ext.refl w).drew
 refine Reg.flow (R:=Ext) (n:=12) (f:=bgF A n0 n k c a1) (Post:=bgP w.heap.size A n k c l) (Rel:=bgR) (by kernel_rfl) (fun _=>undef) rfl ⟨of_decide_eq_true (by kernel_rfl),Ext.refl,fun h1 h2=>h1.trans h2,Reg.back_of (by kernel_rfl),Reg.tail_of (by kernel_rfl),?_,bgP_mono,?_,?_⟩
 ·intro i oi hi ho x v
  have hc:i=0∨i=1∨i=2∨i=3∨i=4∨i=5∨i=6∨i=7∨i=8∨i=9∨i=10∨i=11:=by omega
  rcases hc with rfl|rfl|rfl|rfl|rfl|rfl|rfl|rfl|rfl|rfl|rfl|rfl<;>(injection ho with ho;subst ho;rfl)
 ·intro i oi hi ho x W hW0 hd K hK
  have hW:=hx0.trans hW0
  have hc:i=0∨i=1∨i=2∨i=3∨i=4∨i=5∨i=6∨i=7∨i=8∨i=9∨i=10∨i=11:=by omega
  rcases hc with rfl|rfl|rfl|rfl|rfl|rfl|rfl|rfl|rfl|rfl|rfl|rfl<;>(injection ho with ho;subst ho)
  ·unfold bgF
   go_simp
   exact hK.out (.slice (some ⟨W.heap.size,0,none⟩) 0 0) (W.alloc (.cells #[] 93)) ((Ext.refl W).alloc _) ⟨_,rfl,World.ownsRow_lit W #[] 0 (Nat.zero_le _) (Nat.zero_le _) rfl⟩ (bgR_no (by omega) _)
  ·unfold bgF
   go_simp
   exact hK.out (.slice A n c) W (Ext.refl W) rfl (bgR_no (by omega) _)
  ·obtain⟨g,e0,o0⟩:=Reg.dep (Post:=bgP w.heap.size A n k c l) hd 0 (by kernel_rfl)
   have e1:x 1=.slice A n c:=Reg.dep (Post:=bgP w.heap.size A n k c l) hd 1 (by kernel_rfl)
   refine wp_app0 el_ent W (.tmp 16) (.tmp 17) rfl 0 g e0 o0 A n c (entsZ (l.take n)) e1 (hrow.out n W hW) (hlen.out n (Nat.le_refl _)) hC.out.nil (by omega) (by omega) (Nat.zero_le _) (fun v' w' ho hx'=>?_)
   obtain⟨A',c',e,_,_,r3,_⟩:=Rd.of_own ho
   exact hK.out v' w' hx' ⟨A',c',e,r3⟩ (bgR_no (by omega) _)
  ·obtain⟨A',c',e,r⟩:=Reg.dep (Post:=bgP w.heap.size A n k c l) hd 2 (by kernel_rfl)
   have hcl:Calls Tryz.prog 39 #[x 2] W fun en w'=>(∃v,en=.returned v∧admW n l v w')∧Ext W w':=by
    rw[e]
    refine (hH.out n W A' c' (Nat.le_refl _) hW r).mono ?_
    rintro en w' ⟨⟨V1,V2,rfl,_,_,s1,s2⟩,hx⟩
    exact⟨⟨_,rfl,V1,V2,rfl,s1,s2⟩,hx⟩
   clear e
   unfold bgF
   go_simp
   refine hcl.mono ?_
   rintro en w' ⟨⟨v,rfl,hv⟩,hx⟩
   exact hK.out v w' hx hv (bgR_no (by omega) _)
  ·unfold bgF
   go_simp
   exact hK.out (.slice (some ⟨W.heap.size,0,none⟩) 0 0) (W.alloc (.cells #[] 93)) ((Ext.refl W).alloc _) ⟨_,rfl,World.ownsRow_lit W #[] 0 (Nat.zero_le _) (Nat.zero_le _) rfl⟩ (bgR_no (by omega) _)
  ·unfold bgF
   go_simp
   exact hK.out (.slice A n c) W (Ext.refl W) rfl (bgR_no (by omega) _)
  ·unfold bgF
   go_simp
   exact hK.out (.int .i64 (k:Int)) W (Ext.refl W) rfl (bgR_no (by omega) _)
  ·have e5:x 5=.slice A n c:=Reg.dep (Post:=bgP w.heap.size A n k c l) hd 5 (by kernel_rfl)
   have e6:x 6=.int .i64 (k:Int):=Reg.dep (Post:=bgP w.heap.size A n k c l) hd 6 (by kernel_rfl)
   have hc2:∀W,(Instr.sliceAt 52 (x 5) none (some (x 6)) none).run Tryz.prog W=.ok (.slice A k c) W:=fun W=>by rw[e5,e6];exact hct W
   clear e5 e6
   unfold bgF
   go_simp
   exact hK.out (.slice A k c) W (Ext.refl W) rfl (bgR_no (by omega) _)
  ·obtain⟨g,e0,o0⟩:=Reg.dep (Post:=bgP w.heap.size A n k c l) hd 4 (by kernel_rfl)
   have e1:x 7=.slice A k c:=Reg.dep (Post:=bgP w.heap.size A n k c l) hd 7 (by kernel_rfl)
   refine wp_app0 el_ent W (.tmp 20) (.tmp 23) rfl 0 g e0 o0 A k c (entsZ (l.take k)) e1 (hrow.out k W hW) (hlen.out k hkn) hC.out.nil (by omega) (by omega) (Nat.zero_le _) (fun v' w' ho hx'=>?_)
   obtain⟨A',c',e,_,_,r3,_⟩:=Rd.of_own ho
   exact hK.out v' w' hx' ⟨A',c',e,r3⟩ (bgR_no (by omega) _)
  ·obtain⟨A',c',e,r⟩:=Reg.dep (Post:=bgP w.heap.size A n k c l) hd 8 (by kernel_rfl)
   have hcl:Calls Tryz.prog 39 #[x 8] W fun en w'=>(∃v,en=.returned v∧admW k l v w')∧Ext W w':=by
    rw[e]
    refine (hH.out k W A' c' hkn hW r).mono ?_
    rintro en w' ⟨⟨V1,V2,rfl,_,_,s1,s2⟩,hx⟩
    exact⟨⟨_,rfl,V1,V2,rfl,s1,s2⟩,hx⟩
   clear e
   unfold bgF
   go_simp
   refine hcl.mono ?_
   rintro en w' ⟨⟨v,rfl,hv⟩,hx⟩
   exact hK.out v w' hx hv (bgR_no (by omega) _)
  ·unfold bgF
   go_simp
   refine hK.out (.pointer (some ⟨W.heap.size,0,none⟩)) (W.alloc (.cells z3 59)) ((Ext.refl W).alloc _) ⟨_,rfl,Blk.new W _ _,hW.size⟩ (fun j u hj hp=>?_)
   have key:∀g,bgP w.heap.size A n k c l 11 (.pointer (some ⟨g,0,none⟩)) W→g≠W.heap.size:=fun g hp=>by
    obtain⟨g',e,b,_⟩:=hp
    injection e with e
    injection e with e
    injection e with e
    have:=b.lt
    omega
   refine⟨fun h g g' e1 e2=>?_,fun h g g' e1 e2=>?_⟩
   ·obtain rfl:j=11:=by omega
    subst e2
    injection e1 with e1
    injection e1 with e1
    injection e1 with e1
    have:=key g' hp
    omega
   ·obtain rfl:j=11:=by omega
    subst e1
    injection e2 with e2
    injection e2 with e2
    injection e2 with e2
    have:=key g hp
    omega
  ·unfold bgF
   go_simp
   refine hK.out (.pointer (some ⟨W.heap.size,0,none⟩)) (W.alloc (.cells z3 59)) ((Ext.refl W).alloc _) ⟨_,rfl,Blk.new W _ _,hW.size⟩ (fun j u hj hp=>?_)
   have key:∀g,bgP w.heap.size A n k c l 10 (.pointer (some ⟨g,0,none⟩)) W→g≠W.heap.size:=fun g hp=>by
    obtain⟨g',e,b,_⟩:=hp
    injection e with e
    injection e with e
    injection e with e
    have:=b.lt
    omega
   refine⟨fun h g g' e1 e2=>?_,fun h g g' e1 e2=>?_⟩
   ·obtain rfl:j=10:=by omega
    subst e2
    injection e1 with e1
    injection e1 with e1
    injection e1 with e1
    have:=key g' hp
    omega
   ·obtain rfl:j=10:=by omega
    subst e1
    injection e2 with e2
    injection e2 with e2
    injection e2 with e2
    have:=key g hp
    omega
 ·intro x W hW0 hp hrel
  have hW:=hx0.trans hW0
  obtain⟨V1,V2,e3,⟨p1,s1⟩,p2,s2⟩:=hp 3 (by omega)
  obtain⟨U1,U2,e9,⟨p3,t1⟩,p4,t2⟩:=hp 9 (by omega)
  obtain⟨g10,e10,b10,hg10⟩:=hp 10 (by omega)
  obtain⟨g11,e11,b11,hg11⟩:=hp 11 (by omega)
  have hne:g10≠g11:=hrel 10 11 (by omega) (by omega) (by omega) (.inl ⟨rfl,rfl⟩) g10 g11 e10 e11
  have htk:l.take n=l:=List.take_of_length_le (by have:=hn.out;omega)
  obtain⟨hv1,hv2⟩:=bl_p l k (by rw[hn.out];exact hkn)
  have hlv:=(adm_len l l.length).1
  have hlh:=(adm_len l l.length).2.1
  have hlv:(admP l).vis.length≤8:=by have:=(adm_len l l.length).1;have:=hn.out;unfold admP;omega
  have hlh:(admP l).held.length≤8:=by have:=(adm_len l l.length).2.1;have:=hn.out;unfold admP;omega
  rw[htk] at s1 s2 e3
  obtain⟨AV1,cV1,eV1,_⟩:=Rd.of_own s1
  obtain⟨AV2,cV2,eV2,_⟩:=Rd.of_own s2
  obtain⟨AU1,cU1,eU1,_⟩:=Rd.of_own t1
  obtain⟨AU2,cU2,eU2,_⟩:=Rd.of_own t2
  refine⟨Go.RowKit.Below w.heap.size,?_⟩
  refine Reg.onlyX 12 _ rfl (by kernel_rfl) (by decide) (by rfl) (fun K hK=>?_)
  refine wp_store_mid 59 (.tmp 6) (.tmp 19) rfl g10 0 #[.int .i64 (admP l).p,V1,V2] e10 e3 (z3_there b10 _ rfl) (by kernel_rfl) (by rw[eV1,eV2];simp[Value.oneCell']) ?_
  refine hK.out _ _ (below_sets' hg10 _ 0 (Go.RowKit.Below.refl _ _)) ?_
  clear hK K
  have hb10:=Blk_sets [.int .i64 (admP l).p,V1,V2] 0 _ _ b10
  have hb11:=Blk_far (fun e=>hne e.symm) [.int .i64 (admP l).p,V1,V2] 0 b11
  have hx2:=Ext_sets hg10 [.int .i64 (admP l).p,V1,V2] 0 hW
  replace s1:=own_sets (by decide) [.int .i64 (admP l).p,V1,V2] 0 _ _ s1 b10
  replace s2:=own_sets (by decide) [.int .i64 (admP l).p,V1,V2] 0 _ _ s2 b10
  replace t1:=own_sets (by decide) [.int .i64 (admP l).p,V1,V2] 0 _ _ t1 b10
  replace t2:=own_sets (by decide) [.int .i64 (admP l).p,V1,V2] 0 _ _ t2 b10
  have hl3:(#[.int .i64 (admP l).p,V1,V2]:Array Value).toList=[.int .i64 (admP l).p,V1,V2]:=rfl
  rw[hl3]
  generalize W.setCells g10 0 [.int .i64 (admP l).p,V1,V2]=X1 at hb10 hb11 hx2 s1 s2 t1 t2 ⊢
  refine Reg.onlyX 13 _ rfl (by kernel_rfl) (by decide) (by rfl) (fun K hK=>?_)
  refine wp_store_mid 59 (.tmp 7) (.tmp 25) rfl g11 0 #[.int .i64 (admP (l.take k)).p,U1,U2] e11 e9 (z3_there hb11 _ rfl) (by kernel_rfl) (by rw[eU1,eU2];simp[Value.oneCell']) ?_
  refine hK.out _ _ (below_sets' hg11 _ 0 (Go.RowKit.Below.refl _ _)) ?_
  clear hK K
  have hc11:=Blk_sets [.int .i64 (admP (l.take k)).p,U1,U2] 0 _ _ hb11
  have hc10:=Blk_far hne [.int .i64 (admP (l.take k)).p,U1,U2] 0 hb10
  have hx3:=Ext_sets hg11 [.int .i64 (admP (l.take k)).p,U1,U2] 0 hx2
  replace s1:=own_sets (by decide) [.int .i64 (admP (l.take k)).p,U1,U2] 0 _ _ s1 hb11
  replace s2:=own_sets (by decide) [.int .i64 (admP (l.take k)).p,U1,U2] 0 _ _ s2 hb11
  replace t1:=own_sets (by decide) [.int .i64 (admP (l.take k)).p,U1,U2] 0 _ _ t1 hb11
  replace t2:=own_sets (by decide) [.int .i64 (admP (l.take k)).p,U1,U2] 0 _ _ t2 hb11
  have hl4:(#[.int .i64 (admP (l.take k)).p,U1,U2]:Array Value).toList=[.int .i64 (admP (l.take k)).p,U1,U2]:=rfl
  rw[hl4]
  generalize X1.setCells g11 0 [.int .i64 (admP (l.take k)).p,U1,U2]=Y at hc10 hc11 hx3 s1 s2 t1 t2 ⊢
  rw[show setMany z3 0 [.int .i64 (admP l).p,V1,V2] = #[.int .i64 (admP l).p,V1,V2] from set3 _ _ _ _ _ _] at hc10
  rw[show setMany z3 0 [.int .i64 (admP (l.take k)).p,U1,U2] = #[.int .i64 (admP (l.take k)).p,U1,U2] from set3 _ _ _ _ _ _] at hc11
  refine Reg.finX (by kernel_rfl) ?_
  replace s1:=Pl.Sl.ofOwn s1
  replace s2:=Pl.Sl.ofOwn s2
  replace t1:=Pl.Sl.ofOwn t1
  replace t2:=Pl.Sl.ofOwn t2
  clear hb10 hb11 hx2 b10 b11 hp hrel hW hW0 hg10 hg11 hl3 hl4 hne htk e3 e9
  subst eV1;subst eV2;subst eU1;subst eU2
  obtain⟨nv,hnv⟩:∃z,Hid ((admP l).vis.length=z):=⟨_,rfl⟩
  obtain⟨nh,hnh⟩:∃z,Hid ((admP l).held.length=z):=⟨_,rfl⟩
  obtain⟨mv,hmv⟩:∃z,Hid ((admP (l.take k)).vis.length=z):=⟨_,rfl⟩
  obtain⟨mh,hmh⟩:∃z,Hid ((admP (l.take k)).held.length=z):=⟨_,rfl⟩
  obtain⟨pl,hpl⟩:∃z,Hid ((admP l).p=z):=⟨_,rfl⟩
  obtain⟨pk,hpk⟩:∃z,Hid ((admP (l.take k)).p=z):=⟨_,rfl⟩
  have b1:=fun X (hX:Ext Y X)=>below_any (admP l).vis k (.slice AV1 (admP l).vis.length cV1) X ((Sl.below s1 hX).mono hX.size) (by omega)
  have b2:=fun X (hX:Ext Y X)=>below_any (admP l).held k (.slice AV2 (admP l).held.length cV2) X ((Sl.below s2 hX).mono hX.size) (by omega)
  simp only[hv1] at b1
  simp only[hv2] at b2
  have hsm:=fun V1 V2 X h1 h2 (hX:Ext Y X)=>same12_any (admP (l.take k)).p (admP (l.take k)).vis (admP (l.take k)).held V1 V2 (.slice AU1 (admP (l.take k)).vis.length cU1) (.slice AU2 (admP (l.take k)).held.length cU2) X h1 h2 ((Sl.below t1 hX).mono hX.size) ((Sl.below t2 hX).mono hX.size)
  simp only[hnv.out,hmv.out] at b1
  simp only[hnh.out,hmh.out] at b2
  simp only[hpk.out,hmv.out,hmh.out] at hsm
  rw[hpl.out,hnv.out,hnh.out] at hc10
  rw[hpk.out,hmv.out,hmh.out] at hc11
  have c1:∀X,Ext Y X→X.cell? ⟨g10,1,none⟩=some (.slice AV1 nv cV1):=fun X hX=>by have:=(hc10.ext hX).cell 1;simpa using this
  have c2:∀X,Ext Y X→X.cell? ⟨g10,2,none⟩=some (.slice AV2 nh cV2):=fun X hX=>by have:=(hc10.ext hX).cell 2;simpa using this
  have d0:∀X,Ext Y X→X.cell? ⟨g11,0,none⟩=some (.int .i64 pk):=fun X hX=>by have:=(hc11.ext hX).cell 0;simpa using this
  have d1:∀X,Ext Y X→X.cell? ⟨g11,1,none⟩=some (.slice AU1 mv cU1):=fun X hX=>by have:=(hc11.ext hX).cell 1;simpa using this
  have d2:∀X,Ext Y X→X.cell? ⟨g11,2,none⟩=some (.slice AU2 mh cU2):=fun X hX=>by have:=(hc11.ext hX).cell 2;simpa using this
  have hli2:=fun X (hX:Ext Y X)=>hli.out X (hx3.trans hX)
  have hfin:=fun X (hX:Ext Y X)=>fin.out X (hx3.trans hX)
  replace b1:=Lib.hid b1
  replace b2:=Lib.hid b2
  replace hsm:=Lib.hid hsm
  replace hli2:=Lib.hid hli2
  replace hfin:=Lib.hid hfin
  clear s1 s2 t1 t2 hc10 hc11 hlv hlh hv1 hv2
  unfold bgF
  (try simp only[Reg.nn])
  simp only[e10,e11]
  clear e10 e11
  go_wp2_with fail
  refine Reg.startE (by kernel_rfl) ?_
  iterate 5 ((first|refine Reg.tn ?_|refine Reg.sn ?_);(try simp only[Reg.nn]))
  refine Reg.tk 6 ?_;(try simp only[Reg.nn])
  refine Reg.tk 7 ?_;(try simp only[Reg.nn])
  refine Reg.tk 8 ?_;(try simp only[Reg.nn])
  refine Reg.tk 11 ?_;(try simp only[Reg.nn])
  clear c1 c2 d0 d1 d2
  refine Reg.onlyE 5 _ rfl (by kernel_rfl) (by decide) (by rfl) (fun W hW K hK=>?_);go_simp
  refine (b1.out W hW).mono ?_
  rintro e wX ⟨⟨Z1,rfl,z1⟩,hX⟩
  have z1b:=z1
  obtain⟨AZ1,cZ1,eZ1,_⟩:=z1b
  subst eZ1
  have hq1:=hW.trans hX
  replace z1:=Lib.hid z1
  refine hK.out _ _ (hX) ?_;clear hK K;(try simp only[Reg.nn])
  refine Reg.onlyE 9 _ rfl (by kernel_rfl) (by decide) (by rfl) (fun W hW K hK=>?_);go_simp
  refine (b2.out W (hq1.trans hW)).mono ?_
  rintro e wY ⟨⟨Z2,rfl,z2⟩,hY⟩
  have z2b:=z2
  obtain⟨AZ2,cZ2,eZ2,_⟩:=z2b
  subst eZ2
  have hq2:=hq1.trans (hW.trans hY)
  have z1':=Lib.hid ((Sl.below z1.out (hW.trans hY)).mono (hW.trans hY).size)
  replace z2:=Lib.hid z2
  clear z1
  refine hK.out _ _ (hY) ?_;clear hK K;(try simp only[Reg.nn])
  refine Reg.tk 10 (v:=.agg #[.int .i64 pk,.slice AZ1 mv cZ1,.slice AZ2 mh cZ2]) (hy:=fun W hW=>by kernel_rfl) ?_;(try simp only[Reg.nn])
  refine Reg.onlyE 12 _ rfl (by kernel_rfl) (by decide) (by rfl) (fun W hW K hK=>?_);go_simp
  refine (hsm.out _ _ W ((Sl.below z1'.out hW).mono hW.size) ((Sl.below z2.out hW).mono hW.size) (hq2.trans hW)).mono ?_
  rintro e wZ ⟨rfl,hZ⟩
  have hq3:=hq2.trans (hW.trans hZ)
  clear z1' z2
  refine hK.out _ _ (hZ) ?_;clear hK K;(try simp only[Reg.nn])
  iterate 1 ((first|refine Reg.tn ?_|refine Reg.sn ?_);(try simp only[Reg.nn]))
  refine Reg.onlyE 14 _ rfl (by kernel_rfl) (by decide) (by rfl) (fun W hW K hK=>?_);go_simp
  refine (hli2.out W (hq3.trans hW)).mono ?_
  rintro e wV ⟨rfl,hV⟩
  have hq4:=hq3.trans (hW.trans hV)
  refine hK.out _ _ (hV) ?_;clear hK K;(try simp only[Reg.nn])
  iterate 2 ((first|refine Reg.tn ?_|refine Reg.sn ?_);(try simp only[Reg.nn]))
  refine Reg.fin (by kernel_rfl) (fun W hW=>?_)
  have hf:=hfin.out W (hq4.trans hW)
  go_wp2_with fail
  exact hf
theorem begins_sl (v0:Value) (l0:List Et) (a1:Int) (ha1:0≤a1∧a1≤255) (w:World) (h0:Sl w.heap.size w v0 l0.length (entsZ l0)) (hz0:∀e∈l0,EtOk e) (hwd:Wd w) (hpow:Pow w) (hN:Nms w) :
  Calls Tryz.prog 15 #[v0,.int .u8 a1] w fun en w'=>en=.returned (.bool true)∧Ext w w':=by
 obtain⟨A,c,rfl,h1,h2,h3,h4,h5⟩:=h0
 exact begins_any A _ c l0 a1 ha1 w h1 rfl h3 h4 h5 hz0 hwd hpow hN
end Pd
namespace policyBegins
open Go.ChangeMaps (open_string shut_string)
open Base Args
theorem own:ownKnob Tryz.prog.godebug=none:=by kernel_rfl
theorem laidOut:laidOutB Tryz.prog=true:=by kernel_rfl
theorem laid_met (os:Os):laidMet Tryz.prog Rows.policyBeginsRow.laid ((Pl.laidWorld os).forCall (fun _ _=>0) ⟨#[],#[.slice none 0 0,.int .u8 0],[]⟩).memory:=
 laidMet_of_run' 8 (by kernel_rfl) (by kernel_rfl)
theorem reads (os:Os) {H:Type} (enc:TypeId×Value→H):∃places,DataW.whole enc Tryz.prog ((Pl.laidWorld os).forCall (fun _ _=>0) ⟨#[],#[.slice none 0 0,.int .u8 0],[]⟩).memory Tryz.f15.params.toList Rows.policyBeginsSpec.vars false (#[.slice none 0 0,.int .u8 0]:Array Value).toList 8=some ([.nil,.lit (.int .u8 0)],[],places):=
 ⟨[],by kernel_rfl⟩
theorem lifted (os:Os) (started:os.Started) (H:Type) (enc:TypeId×Value→H) (F:Stop.Interp) :
  ReturnsInHanded {} Tryz.checked os 15 .any ((OpenSpec.ofChange Rows.policyBeginsSpec).preRow enc Tryz.prog Tryz.f15 Rows.policyBeginsRow.domain false Rows.policyBeginsRow.laid) (((OpenSpec.ofChange Rows.policyBeginsSpec).at F).post enc Tryz.prog Tryz.f15 false true false false):=by
 obtain⟨places,hx⟩:=reads os enc
 refine returnsInHanded_of_row (C:=Tryz.checked) (s:=(OpenSpec.ofChange Rows.policyBeginsSpec)) own started (by kernel_rfl) Tryz.func15
  (witness_row_at (enc:=enc) (C:=Tryz.checked) false (Pl.laidWorld os) #[.slice none 0 0,.int .u8 0] rfl (by kernel_rfl) (by kernel_rfl) (by kernel_rfl)
   (OpenSpec.preRow_of_cond 8 hx (by kernel_rfl) (fun k hk=>by cases hk) (by kernel_rfl) (laid_met os))) ?_
 intro W base args ds gs before hval0 hW hcnd hk0 hsz0 hL _ _
 have hval:∀(j:Nat) t v,Tryz.f15.params[j]?=some t→args[j]?=some v→Value.okWide Tryz.prog W .any base t v:=hval0
 have hW':=hW
 obtain⟨p,q,hAz,hV,rfl,hfz,hnd⟩:=hW
 have hA:DataW.TrodAll enc Tryz.prog W 0 (fun _=>true) true Tryz.f15.params.toList args.toList ds p:=hAz
 have hsz:(DataW.weightsEach Tryz.prog (Tryz.f15.params.toList++Rows.policyBeginsSpec.plain.varTypes Tryz.prog) (ds++gs)).all (· ≤ reachBytes)=true:=hsz0
 rw[Tryz.params15] at hA hval hsz
 obtain⟨v0,vs0,d0,ds0,p0,q0,hargs,rfl,rfl,h0,r0⟩:=trodAll_cons hA
 obtain⟨v1,vs1,d1,ds1,p1,q1,rfl,rfl,rfl,h1,r1⟩:=trodAll_cons r0
 obtain⟨rfl,rfl,rfl⟩:=trodAll_nil r1
 obtain rfl:args = #[v0,v1]:=by cases args;simp_all
 obtain⟨rfl,rfl⟩:=trodVars_none hV
 have k0:=h0
 have lt0:∀x∈p0,x.block<W.heap.size:=by obtain⟨m,hm⟩:=k0;exact DataW.trod_lt m _ _ _ hm
 obtain⟨l0,hS0,hk0⟩:=ents_arg (hval 0 52 v0 rfl rfl) h0
 have hz0:l0.length*40≤140737488351232:=ents_reach hsz (j:=0) rfl rfl hk0
 have hE0:=ents_ok hsz (j:=0) rfl rfl hk0
 obtain⟨a1,rfl,rfl,rfl,w1⟩:=open_int Tryz.underlying5 (hval 1 5 v1 rfl rfl) h1
 have hi1:0≤a1∧a1≤255:=by simpa [Lit.wf,IntKind.min,IntKind.max,IntKind.signed,IntKind.bits] using w1
 clear hAz hval0
 refine (Pd.begins_sl v0 l0 a1 hi1 W hS0 hE0 (Pl.tabs12 hL).1 (Pl.tabs12 hL).2.1 (Pl.tabs12 hL).2.2).mono fun e W' ⟨he,bel⟩=>?_
 have bel:Below W.heap.size W W':=bel
 subst he
 exact⟨_,rfl,_,_,_,[],_,[],hW',trodAll_mk1 (shut_bool Tryz.underlying4 _),(trodAll_cons_mk (Below.trod laidOut (by kernel_rfl) (of_decide_eq_true (by kernel_rfl)) k0 bel lt0) (trodAll_cons_mk (shut_int Tryz.underlying5 w1) trodAll_mk0)),rfl,bel.frame _,fun h=>by cases h⟩
theorem and2 {a b:Bool} (h:a=true) (k:b=true):(a && b)=true:=by rw[h,k];rfl
theorem joined:joinedFacts Tryz.pinned.checked.prog 15 Tryz.f15 (OpenSpec.ofChange Rows.policyBeginsSpec).bare Rows.policyBeginsRow=true:=by
 unfold joinedFacts
 repeat' (with_reducible refine and2 ?_ ?_)
 all_goals as_aux_lemma=>kernel_rfl
theorem said:Rows.PolicyBeginsSaid:=
 OpenClaim.holds_of_cond 15 Tryz.f15 rfl rfl rfl rfl rfl rfl rfl ⟨rfl,rfl,rfl,rfl,rfl⟩ rfl rfl rfl rfl rfl (by kernel_rfl) Tryz.func15 joined
  (of_decide_eq_true (by kernel_rfl)) (by unfold Func.isWrapper;first|(rw[if_pos (by decide +kernel)];kernel_rfl)|(rw[if_neg (by decide +kernel)];exact⟨rfl,rfl⟩))
  (fun os started H enc _ F=>by rw[OpenClaim.pre_eq_preRow];exact lifted os started H enc F)
theorem plain (f:FuncId) (fn:Func) (hf:Tryz.pinned.checked.prog.funcNamed "suffragan/suffraganlaw12.PolicyBegins" = some f) (hfn:Tryz.pinned.checked.prog.funcs[f]?=some fn) :
  true=Tryz.pinned.checked.prog.looks []∧∀(j:Nat) t,fn.params[j]?=some t→Tryz.pinned.checked.prog.wantsStandIn t=false:=by
 obtain rfl:f=15:=Option.some.inj ((show Tryz.prog.funcNamed "suffragan/suffraganlaw12.PolicyBegins" = some 15 by kernel_rfl).symm.trans hf) |>.symm
 obtain rfl:fn=Tryz.f15:=(Option.some.inj (Tryz.func15.symm.trans hfn)).symm
 refine⟨by kernel_rfl,fun j t ht=>?_⟩
 rw[Tryz.params15] at ht
 have hm:=Array.mem_of_getElem? ht
 simp only[Array.mem_def,List.mem_cons,List.mem_nil_iff,or_false] at hm
 rcases hm with rfl|rfl
 ·exact (show Tryz.prog.wantsStandIn 52=false by kernel_rfl)
 ·exact (show Tryz.prog.wantsStandIn 5=false by kernel_rfl)
theorem proved:Rows.PolicyBeginsCardSaid:=
 Claim7.holds_tied_plain_at .later [] _ _ _ _ said (fun _ h=>by cases h) (by kernel_rfl) (fun _ h=>by cases h) policyBegins_row_tie rfl ⟨rfl,rfl⟩ (by kernel_rfl) rfl plain (by kernel_rfl)
#print axioms proved
end policyBegins
end Go.Proofs.YtmaoochjbpohdaaGreatDoor
