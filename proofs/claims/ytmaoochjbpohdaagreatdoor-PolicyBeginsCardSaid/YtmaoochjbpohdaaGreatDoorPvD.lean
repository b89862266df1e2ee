/- The contracts of the library that this seat leans on: the table of numbers, the bodies. -/
import Derived.Test.YtmaoochjbpohdaaGreatDoorPvC
import Derived.Shelf.LaysM
import Derived.Shelf.Strings.BuilderX
import Derived.Shelf.Strconv.Itoa3
import Derived.Shelf.Strings.OnBuilder
set_option linter.unusedVariables false
set_option linter.unusedSimpArgs false
set_option maxRecDepth 100000
set_option maxHeartbeats 1000000
namespace Go.Proofs.YtmaoochjbpohdaaGreatDoor
namespace Shf
open Go.Shelf
def ren:Ren:=⟨fun|129=>179|156=>128|165=>143|166=>126|169=>113|171=>129|240=>142|241=>164|243=>144|246=>165|276=>163|277=>172|283=>173|284=>174|285=>175|286=>176|317=>178|318=>180|319=>181|320=>182|337=>183|338=>184|n=>n,fun|0=>0|2=>2|3=>3|4=>4|5=>5|9=>9|20=>20|31=>32|37=>120|46=>190|51=>188|53=>91|70=>135|72=>137|75=>156|76=>157|80=>124|127=>163|164=>176|171=>181|173=>184|212=>187|213=>189|232=>193|233=>194|n=>n,fun|17=>3|18=>4|19=>5|n=>n⟩
theorem l_LaysM_n171:LaysM.n171 Tryz.prog ren:={
 mixed:=by kernel_rfl
 f129:=by kernel_rfl
 f171:=by kernel_rfl
 f243:=by kernel_rfl
 f246:=by kernel_rfl
 f283:=by kernel_rfl
 f284:=by kernel_rfl
 f285:=by kernel_rfl
 f286:=by kernel_rfl
 f317:=by kernel_rfl
 f318:=by kernel_rfl
 f319:=by kernel_rfl
 f320:=by kernel_rfl
 f337:=by kernel_rfl
 f338:=by kernel_rfl
 t0:=by kernel_rfl
 a0:=fun _=>by kernel_rfl
 z0:=fun _=>by kernel_rfl
 v0:=fun _=>by kernel_rfl
 t2:=by kernel_rfl
 a2:=fun _=>by kernel_rfl
 z2:=fun _=>by kernel_rfl
 v2:=fun _=>by kernel_rfl
 t3:=by kernel_rfl
 a3:=fun _=>by kernel_rfl
 z3:=fun _=>by kernel_rfl
 v3:=fun _=>by kernel_rfl
 t4:=by kernel_rfl
 a4:=fun _=>by kernel_rfl
 z4:=fun _=>by kernel_rfl
 v4:=fun _=>by kernel_rfl
 t5:=by kernel_rfl
 a5:=fun _=>by kernel_rfl
 z5:=fun _=>by kernel_rfl
 v5:=fun _=>by kernel_rfl
 t9:=by kernel_rfl
 a9:=fun _=>by kernel_rfl
 z9:=fun _=>by kernel_rfl
 v9:=fun _=>by kernel_rfl
 t20:=by kernel_rfl
 a20:=fun _=>by kernel_rfl
 z20:=fun _=>by kernel_rfl
 v20:=fun _=>by kernel_rfl
 t37:=by kernel_rfl
 a37:=fun _=>by kernel_rfl
 z37:=fun _=>by kernel_rfl
 v37:=fun _=>by kernel_rfl
 t46:=by kernel_rfl
 a46:=fun _=>by kernel_rfl
 z46:=fun _=>by kernel_rfl
 v46:=fun _=>by kernel_rfl
 t51:=by kernel_rfl
 a51:=fun _=>by kernel_rfl
 z51:=fun _=>by kernel_rfl
 v51:=fun _=>by kernel_rfl
 t53:=by kernel_rfl
 a53:=fun _=>by kernel_rfl
 z53:=fun _=>by kernel_rfl
 v53:=fun _=>by kernel_rfl
 t171:=by kernel_rfl
 a171:=fun _=>by kernel_rfl
 z171:=fun _=>by kernel_rfl
 v171:=fun _=>by kernel_rfl
 t173:=by kernel_rfl
 a173:=fun _=>by kernel_rfl
 z173:=fun _=>by kernel_rfl
 v173:=fun _=>by kernel_rfl
 t212:=by kernel_rfl
 a212:=fun _=>by kernel_rfl
 z212:=fun _=>by kernel_rfl
 v212:=fun _=>by kernel_rfl
 t213:=by kernel_rfl
 a213:=fun _=>by kernel_rfl
 z213:=fun _=>by kernel_rfl
 t232:=by kernel_rfl
 a232:=fun _=>by kernel_rfl
 z232:=fun _=>by kernel_rfl
 v232:=fun _=>by kernel_rfl
 t233:=by kernel_rfl
 a233:=fun _=>by kernel_rfl
 z233:=fun _=>by kernel_rfl
 v233:=fun _=>by kernel_rfl
 g17:=by kernel_rfl
 g18:=by kernel_rfl
 g19:=by kernel_rfl
 i0:=by kernel_rfl
 i2:=by kernel_rfl
 i3:=by kernel_rfl
 i4:=by kernel_rfl
 i5:=by kernel_rfl
 i9:=by kernel_rfl
 i20:=by kernel_rfl
 i37:=by kernel_rfl
 i46:=by kernel_rfl
 i51:=by kernel_rfl
 i53:=by kernel_rfl
 i171:=by kernel_rfl
 i173:=by kernel_rfl
 i212:=by kernel_rfl
 i232:=by kernel_rfl
 i233:=by kernel_rfl
 m17:=by kernel_rfl
 m18:=by kernel_rfl
 m19:=by kernel_rfl }
theorem l_Lays_n156:Lays.n156 Tryz.prog ren:={
 mixed:=by kernel_rfl
 f156:=by kernel_rfl
 f165:=by kernel_rfl
 f166:=by kernel_rfl
 f169:=by kernel_rfl
 f240:=by kernel_rfl
 f241:=by kernel_rfl
 f276:=by kernel_rfl
 f277:=by kernel_rfl
 t0:=by kernel_rfl
 a0:=fun _=>by kernel_rfl
 z0:=fun _=>by kernel_rfl
 v0:=fun _=>by kernel_rfl
 t3:=by kernel_rfl
 a3:=fun _=>by kernel_rfl
 z3:=fun _=>by kernel_rfl
 v3:=fun _=>by kernel_rfl
 t4:=by kernel_rfl
 a4:=fun _=>by kernel_rfl
 z4:=fun _=>by kernel_rfl
 v4:=fun _=>by kernel_rfl
 t9:=by kernel_rfl
 a9:=fun _=>by kernel_rfl
 z9:=fun _=>by kernel_rfl
 v9:=fun _=>by kernel_rfl
 t20:=by kernel_rfl
 a20:=fun _=>by kernel_rfl
 z20:=fun _=>by kernel_rfl
 v20:=fun _=>by kernel_rfl
 t31:=by kernel_rfl
 a31:=fun _=>by kernel_rfl
 z31:=fun _=>by kernel_rfl
 v31:=fun _=>by kernel_rfl
 t37:=by kernel_rfl
 a37:=fun _=>by kernel_rfl
 z37:=fun _=>by kernel_rfl
 v37:=fun _=>by kernel_rfl
 t70:=by kernel_rfl
 a70:=fun _=>by kernel_rfl
 z70:=fun _=>by kernel_rfl
 v70:=fun _=>by kernel_rfl
 t72:=by kernel_rfl
 a72:=fun _=>by kernel_rfl
 z72:=fun _=>by kernel_rfl
 v72:=fun _=>by kernel_rfl
 t75:=by kernel_rfl
 a75:=fun _=>by kernel_rfl
 z75:=fun _=>by kernel_rfl
 v75:=fun _=>by kernel_rfl
 t76:=by kernel_rfl
 a76:=fun _=>by kernel_rfl
 z76:=fun _=>by kernel_rfl
 v76:=fun _=>by kernel_rfl
 t127:=by kernel_rfl
 a127:=fun _=>by kernel_rfl
 z127:=fun _=>by kernel_rfl
 v127:=fun _=>by kernel_rfl
 t164:=by kernel_rfl
 a164:=fun _=>by kernel_rfl
 z164:=fun _=>by kernel_rfl
 v164:=fun _=>by kernel_rfl }
theorem l_Builder_Extra:Builder.Extra Tryz.prog ren:={
 sizeBuilder:=by kernel_rfl
 liesBuilder:=by kernel_rfl
 t5:=by kernel_rfl
 a5:=fun _=>by kernel_rfl
 z5:=fun _=>by kernel_rfl
 v5:=fun _=>by kernel_rfl
 infoByte:=by kernel_rfl
 cellsByte:=by kernel_rfl
 sizeByte:=by kernel_rfl
 neB5:=by decide }
end Shf
namespace Pr
open Go.ChangeShapes Go.WideShapes Go.ChangeAt Go.RowKit
open Base Lx Mi
def Pow (w:World):Prop:=Lib.TabIs Tryz.prog w "internal/strconv.uint64pow10" .u64 Lib.pow10Tab
theorem powG:Tryz.prog.globalNamed "internal/strconv.uint64pow10" = some 3:=by kernel_rfl
theorem Pow.heap {w w':World} (h:Pow w) (hh:w'.heap[3]?=w.heap[3]?):Pow w':=by
 unfold Pow Lib.TabIs World.var? at *
 rw[powG] at *
 simp only[Option.bind_some,hh] at *
 exact h
theorem Pow.lt {w:World} (h:Pow w):3<w.heap.size:=by
 unfold Pow Lib.TabIs World.var? at h
 rw[powG] at h
 simp only[Option.bind_some] at h
 rcases Nat.lt_or_ge 3 w.heap.size with h1|h1
 ·exact h1
 ·rw[Array.getElem?_eq_none h1] at h;cases h
theorem Pow.ext {w w':World} (h:Pow w) (hx:Ext w w'):Pow w':=h.heap (hx.block _ h.lt)
theorem Pow.below {B:Nat} {w w':World} (h:Pow w) (hx:Below B w w') (hB:3<B):Pow w':=h.heap (hx.block _ hB)
theorem ext_grow (w:World) (os:Array Obj):Ext w (Sort.grow w os):=⟨rfl,rfl,rfl,by simp[Sort.grow],fun k hk=>Sort.heap_grow_old w os hk⟩
theorem inter_len (sep:UInt8):∀(m:List (List UInt8)),m.length≤(([sep]:List UInt8).intercalate m).length+1
 | []=>by simp
 | [a]=>by simp
 | a::b::l=>by
  have ih:=inter_len sep (b::l)
  have e:([sep]:List UInt8).intercalate (a::b::l)=a++[sep]++([sep]:List UInt8).intercalate (b::l):=by
   simp[List.intercalate]
  rw[e]
  simp only[List.length_append,List.length_cons,List.length_nil] at *
  omega
theorem itoa_any (n:Int) (h0 : -9223372036854775808≤n) (h1:n≤9223372036854775807) (w:World) (hp:Pow w) :
  Calls Tryz.prog 129 #[.int .i64 n] w fun e w'=>e=.returned (.string ⟨(Lib.itoa n).toArray⟩)∧Ext w w':=
 (Any.strconv_Itoa Shf.l_LaysM_n171 n h0 h1 w hp).mono fun e w' ⟨he,k,os,hw⟩=>⟨he,by rw[hw];exact ((Ext.refl w).drewN k).trans (ext_grow _ os)⟩
theorem join_any {B:Nat} {w:World} {v:Value} (l:List ByteArray) (hs:Sl B w v l.length (txs l)) (hB:B≤w.heap.size) (hl:((([44]:List UInt8).intercalate (l.map bs)).length≤100000000)) :
  Calls Tryz.prog 128 #[v,.string ⟨#[44]⟩] w fun e w'=>e=.returned (.string ⟨(([44]:List UInt8).intercalate (l.map bs)).toArray⟩)∧Ext w w':=by
 obtain⟨A,c,rfl,hr,hA,hc,hm,hn⟩:=hs
 cases l with
 | nil=>exact (Any.strings_Join_none Shf.l_Lays_n156 Shf.l_Builder_Extra A c ⟨#[44]⟩ w).mono fun e w' ⟨he,hw⟩=>⟨by rw[he];rfl,by rw[hw];exact Ext.refl w⟩
 | cons x l=>
  obtain⟨b,off,rfl,hcell⟩:=hr (by simp[txs])
  have:=hA (by simp[txs]) _ rfl
  unfold maxLen at hm
  refine (Any.strings_Join Shf.l_Lays_n156 Shf.l_Builder_Extra b off c (x::l) ⟨#[44]⟩ w (fun j y hy=>hcell j _ (by unfold txs;rw[List.getElem?_map,hy];rfl)) (by simp only at this;omega) ?_ hc ?_).mono fun e w' ⟨he,hw⟩=>⟨by rw[he];rfl,hw⟩
  ·have h1:=inter_len 44 ((x::l).map bs)
   rw[List.length_map] at h1
   omega
  ·exact Nat.le_trans hl (by omega)
structure En (B:Nat) (w:World) (no:Value) (ns:List Ne):Prop where
 sch:Sch B w no ns
 wd:Wd w
 pow:Pow w
 low:3<B
theorem En.below {B:Nat} {w w':World} {no:Value} {ns:List Ne} (h:En B w no ns) (hx:Below B w w'):En B w' no ns:=
 ⟨h.sch.below hx,Rd.below h.wd (fun _ a e=>by injection e with e;rw[←e];have:=h.low;show 1<B;omega) hx,h.pow.below hx (by have:=h.low;omega),h.low⟩
def WTypC (B W:Nat) (no:Value) (ns:List Ne) (f deep:Nat):Prop:=∀(n:Int) (st:WSt) (w:World),WInv B w W no st→En B w no ns→(wtyp ns f n st).s.length≤100000000→
 Calls Tryz.prog 112 #[.pointer (some ⟨W,0,none⟩),.int .i64 n,.int .i64 (deep:Int)] w fun e w'=>e=.returned (.tuple #[])∧WK B w w'∧WInv B w' W no (wtyp ns f n st)
theorem bs_size (t:ByteArray):(bs t).length=t.size:=size_list t
theorem Sl.at_ {B:Nat} {w:World} {v:Value} {n:Nat} {cs:List Value} (h:Sl B w v n cs):∃A c,v=.slice A n c∧n≤c∧c≤maxLen∧(A=none→c=0)∧∀(k:Nat) u,cs[k]?=some u→∃b off,A=some ⟨b,off,none⟩∧b<B∧∀W,Below B w W→∀(j:Nat) u,cs[j]?=some u→W.cell? ⟨b,off+j,none⟩=some u:=by
 obtain⟨A,c,e,h1,h2,h3,h4,h5⟩:=h
 refine⟨A,c,e,h3,h4,h5,fun k u hu=>?_⟩
 have hne:cs≠[]:=by rintro rfl;simp at hu
 obtain⟨b,off,rfl,hc⟩:=h1 hne
 refine⟨b,off,rfl,h2 hne _ rfl,fun W hW j u hj=>?_⟩
 exact (Below.cell hW (p:=⟨b,off+j,none⟩) (by have:=h2 hne _ rfl;exact this)).trans (hc j u hj)
def WlAt (B W:Nat) (no:Value) (w0:World) (T:WT) (l:List Int) (fin:WSt) (i:Nat) (wr:World):Prop:=WK B w0 wr∧∃st,WInv B wr W no st∧Hid (wlist T (decide (i=0)) (l.drop i) st=fin)
theorem witems_any {B W f deep:Nat} {no:Value} {ns:List Ne} (H:WTypC B W no ns f (deep+1)) (hd:deep≤100) (op sh:ByteArray) (l:List Int) (vl:Value) (st:WSt) (w:World) (h:WInv B w W no st) (hS:En B w no ns) (hl:Sl B w vl l.length (intsZ l)) (hL:(witems (wtyp ns f) (bs op) l (bs sh) st).s.length≤100000000) :
  Calls Tryz.prog 127 #[.pointer (some ⟨W,0,none⟩),.string op,vl,.string sh,.int .i64 (deep:Int)] w fun e w'=>e=.returned (.tuple #[])∧WK B w w'∧WInv B w' W no (witems (wtyp ns f) (bs op) l (bs sh) st):=by
 obtain⟨T,hT⟩:∃T,T=wtyp ns f:=⟨_,rfl⟩
 have hG:WG T:=by rw[hT];exact wtyp_len ns f
 have H:∀(n:Int) (st:WSt) (w:World),WInv B w W no st→En B w no ns→(T n st).s.length≤100000000→Calls Tryz.prog 112 #[.pointer (some ⟨W,0,none⟩),.int .i64 n,.int .i64 ((deep:Int)+1)] w fun e w'=>e=.returned (.tuple #[])∧WK B w w'∧WInv B w' W no (T n st):=by
  rw[hT];intro n st w;have:=H n st w;rw[show ((deep+1:Nat):Int)=(deep:Int)+1 by omega] at this;exact this
 rw[←hT] at hL ⊢
 clear hT
 obtain⟨fin,hfin⟩:∃z,Hid (wlist T true l (st.put (bs op))=z):=⟨_,rfl⟩
 have hL2:fin.s.length+sh.size≤100000000:=by
  have:(witems T (bs op) l (bs sh) st).s.length=fin.s.length+sh.size:=by unfold witems;rw[hfin.out,WSt.put_len,bs_size]
  omega
 have hres:witems T (bs op) l (bs sh) st=fin.put (bs sh):=by unfold witems;rw[hfin.out]
 rw[hres]
 clear hres hL
 have hop:st.s.length+op.size≤100000000:=by
  have h1:=wlist_len hG true l (st.put (bs op))
  rw[hfin.out,WSt.put_len,bs_size] at h1
  omega
 have hwo:=wstr_any op h hop
 obtain⟨A,c,rfl,hnc,hcm,hA,hat⟩:=hl.at_
 obtain⟨n,hn⟩:∃z,Hid (l.length=z):=⟨_,rfl⟩
 rw[hn.out] at hnc ⊢
 unfold maxLen at hcm
 have hdw:IntKind.i64.wrap ((deep:Int)+1)=(deep:Int)+1:=by rw[IntKind.wrap_i64];omega
 go_enter Tryz.func127,Tryz.ntmps127
 go_wp2_with fail
 refine hwo.mono ?_
 rintro e w1 ⟨rfl,hb1,h1⟩
 have hstart:WlAt B W no w T l fin 0 w1:=⟨hb1,_,h1,by rw[List.drop_zero];exact hfin⟩
 clear hwo h1 hb1 hfin hop
 go_wp2_with fail
 go_loopw [10,11,19,20,21,22,23,24,25,26,27,28,29,30,31,32,33,34,35] (fun v10 v11 v19 v20 v21 v22 v23 v24 v25 v26 v27 v28 v29 v30 v31 v32 v33 v34 v35 wr=>∃i:Nat,i≤n∧v19=.int .i64 i∧WlAt B W no w T l fin i wr) (fun _ _ v19 _ _ _ _ _ _ _ _ _ _ _ _ _ _ _ _ _=>n-(intOf v19).toNat)
 case atStart=>exact⟨0,by omega,rfl,hstart⟩
 case round=>
  obtain⟨i,hi,rfl,hbw,st1,hw1,hf1⟩:=hrel
  clear hstart
  by_cases hin:i<n
  ·have hin':(i:Int)<(n:Int):=by omega
   obtain⟨x,hxe⟩:∃x,l[i]?=some x:=⟨_,List.getElem?_eq_getElem (by have:=hn.out;omega)⟩
   have hxz:(intsZ l)[i]?=some (.int .i64 x):=by simp[intsZ,hxe]
   obtain⟨b,off,rfl,hbB,hc⟩:=hat i _ hxz
   have hck:∀W',Below B w W'→W'.cell? ⟨b,off+i,none⟩=some (.int .i64 x):=fun W' hW'=>hc W' hW' i _ hxz
   have hdrop:l.drop i=x::l.drop (i+1):=List.drop_eq_getElem?_toList_append .. |>.trans (by rw[hxe];rfl)
   have hf2:wlist T false (l.drop (i+1)) (T x (if decide (i=0) then st1 else st1.put [124]))=fin:=by rw[←hf1.out,hdrop,wlist]
   have hf3:wlist T (decide (i+1=0)) (l.drop (i+1)) (T x (if decide (i=0) then st1 else st1.put [124]))=fin:=by rw[←hf2];simp
   have hl2:=wlist_len hG false (l.drop (i+1)) (T x (if decide (i=0) then st1 else st1.put [124]))
   rw[hf2] at hl2
   have hl3:=hG x (if decide (i=0) then st1 else st1.put [124])
   have Hf3:=Lib.hid hf3
   have hck0:=hck wr hbw.below
   clear hf2 hf3 hxe hxz hc hdrop hf1
   by_cases hi0:i=0
   ·subst hi0
    rw[Nat.add_zero] at hck0
    rw[show decide ((0:Nat)=0)=true from rfl,if_pos rfl] at Hf3 hl2 hl3
    have hcall:=H x st1 wr hw1 (hS.below hbw.below) (by omega)
    go_wp2_with fail
    refine hcall.mono ?_
    rintro e w2 ⟨rfl,hb2,h2⟩
    go_wp2_with fail
    exact⟨⟨1,by omega,rfl,hbw.trans hb2,_,h2,Hf3⟩,by simp[intOf];omega⟩
   ·have hi0b:decide (i=0)=false:=by simpa using hi0
    have hpos:(0:Int)<(i:Int):=by omega
    rw[hi0b,if_neg (by decide)] at Hf3 hl2 hl3
    have hl4:=WSt.put_len st1 [124]
    have hbar:=wstr_any (B:=B) (W:=W) (no:=no) ⟨#[124]⟩ hw1 (by have:(⟨#[124]⟩:ByteArray).size=1:=rfl;simp only[List.length_cons,List.length_nil] at hl4;omega)
    go_wp2_with fail
    refine hbar.mono ?_
    rintro e w2 ⟨rfl,hb2,h2⟩
    have h2:WInv B w2 W no (st1.put [124]):=h2
    have hcall:=H x (st1.put [124]) w2 h2 (hS.below (hbw.trans hb2).below) (by omega)
    go_wp2_with fail
    refine hcall.mono ?_
    rintro e w3 ⟨rfl,hb3,h3⟩
    go_wp2_with fail
    exact⟨⟨i+1,by omega,by go_num,(hbw.trans hb2).trans hb3,_,h3,Hf3⟩,by simp[intOf];omega⟩
  ·obtain rfl:i=n:=by omega
   have hf2:st1=fin:=by rw[←hf1.out,←hn.out,List.drop_length,wlist]
   subst hf2
   have hend:=wstr_any sh hw1 hL2
   go_wp2_with fail
   refine hend.mono ?_
   rintro e w2 ⟨rfl,hb2,h2⟩
   go_wp2_with fail
   go_end0
   exact⟨rfl,hbw.trans hb2,h2⟩
theorem bs_append (a b:ByteArray):bs (a++b)=bs a++bs b:=by simp[bs]
def WfAt (B W:Nat) (no:Value) (w0:World) (T:WT) (l:List (ByteArray×Bool×Int)) (fin:WSt) (i:Nat) (wr:World):Prop:=WK B w0 wr∧∃st,WInv B wr W no st∧Hid (wflds T (l.drop i) st=fin)
theorem fldsZ_at:∀(l:List (ByteArray×Bool×Int)) (k:Nat) f,l[k]?=some f→∀i,i<3→(fldsZ l)[k*3+i]?=(fldZ f)[i]?
 | [],k,f,h,i,hi=>by simp at h
 | x::l,0,f,h,i,hi=>by
  simp at h;subst h
  rw[fldsZ,List.flatMap_cons,List.getElem?_append_left (by simp[fldZ];omega)]
  congr 1;omega
 | x::l,k+1,f,h,i,hi=>by
  have ih:=fldsZ_at l k f (by simpa using h) i hi
  rw[fldsZ,List.flatMap_cons,List.getElem?_append_right (by simp[fldZ];omega)]
  rw[←ih]
  unfold fldsZ
  congr 1
  simp[fldZ];omega
theorem wrecord_any {B m f deep:Nat} {no:Value} {ns:List Ne} (H:WTypC B m no ns f (deep+1)) (hd:deep≤100) (d:Ne) (v:V3) (st:WSt) (w:World) (h:WInv B w m no st) (hS:En B w no ns) (hs:SubE B w d v) (hL:(wrecord (wtyp ns f) d st).s.length≤100000000) :
  Calls Tryz.prog 130 #[.pointer (some ⟨m,0,none⟩),.agg (neC d v).toArray,.int .i64 (deep:Int)] w fun e w'=>e=.returned (.tuple #[])∧WK B w w'∧WInv B w' m no (wrecord (wtyp ns f) d st):=by
 obtain⟨T,hT⟩:∃T,T=wtyp ns f:=⟨_,rfl⟩
 have hG:WG T:=by rw[hT];exact wtyp_len ns f
 have H:∀(n:Int) (st:WSt) (w:World),WInv B w m no st→En B w no ns→(T n st).s.length≤100000000→Calls Tryz.prog 112 #[.pointer (some ⟨m,0,none⟩),.int .i64 n,.int .i64 ((deep:Int)+1)] w fun e w'=>e=.returned (.tuple #[])∧WK B w w'∧WInv B w' m no (T n st):=by
  rw[hT];intro n st w;have:=H n st w;rw[show ((deep+1:Nat):Int)=(deep:Int)+1 by omega] at this;exact this
 rw[←hT] at hL ⊢
 clear hT
 obtain⟨k,name,size,syms,items,l⟩:=d
 obtain⟨v0,v1,v2⟩:=v
 have hl:Sl B w v2 l.length (fldsZ l):=hs.fields
 simp only[neC] at *
 obtain⟨fin,hfin⟩:∃z,Hid (wflds T l (st.put (sRec++bs name++[123]))=z):=⟨_,Lib.hid rfl⟩
 have hres:wrecord T ⟨k,name,size,syms,items,l⟩ st=fin.put [125]:=by unfold wrecord;rw[hfin.out]
 rw[hres] at hL ⊢
 rw[WSt.put_len] at hL
 have hop:st.s.length+(sRec++bs name++[123]).length≤100000000:=by
  have h1:=wflds_len hG l (st.put (sRec++bs name++[123]))
  rw[hfin.out,WSt.put_len] at h1
  omega
 have hop2:st.s.length+(name.size+8)≤100000000:=by
  have e1:=bs_size name
  have e2:(sRec++bs name++[123]).length=name.size+8:=by rw[List.length_append,List.length_append,e1];simp[sRec];omega
  omega
 have hz1:¬9223372036854775807<7+name.size:=by omega
 have hz2:¬9223372036854775807<7+name.size+1:=by omega
 clear hres hs
 obtain⟨A,c,rfl,hnc,hcm,hA,hat⟩:=hl.at_
 obtain⟨n,hn⟩:∃z,Hid (l.length=z):=⟨_,rfl⟩
 rw[hn.out] at hnc ⊢
 unfold maxLen at hcm
 have hdw:IntKind.i64.wrap ((deep:Int)+1)=(deep:Int)+1:=by rw[IntKind.wrap_i64];omega
 obtain⟨q,hq⟩:∃z,Hid (w.heap.size=z):=⟨_,rfl⟩
 obtain⟨w1,hw1⟩:∃z,Hid (w.alloc (.cells #[.int .i64 k,.string name,.int .i64 size,v0,v1,.slice A n c] 36)=z):=⟨_,rfl⟩
 have hx1:Ext w w1:=by rw[←hw1.out];exact (Ext.refl w).alloc _
 have hbq1:Blk w1 q #[.int .i64 k,.string name,.int .i64 size,v0,v1,.slice A n c] 36:=by rw[←hw1.out,←hq.out];exact Blk.new w _ _
 have hBq:B≤q:=by rw[←hq.out];exact h.size
 have e1:∀W',Ext w1 W'→W'.cell? ⟨q,1,none⟩=some (.string name):=fun W' hW'=>(hbq1.ext hW').cell 1
 go_enter Tryz.func130,Tryz.ntmps130
 go_wp2_with fail
 rw[hw1.out,hq.out]
 refine Reg.startE (by kernel_rfl) ?_
 iterate 7 ((first|refine Reg.tn ?_|refine Reg.sn ?_);(try simp only[Reg.nn]))
 refine Reg.last 7 _ rfl (by kernel_rfl) (by kernel_rfl) (by kernel_rfl) (by decide) (by rfl) (fun W hW K hK=>?_)
 have hwo:=wstr_any (⟨#[114,101,99,111,114,100,32]⟩++name++⟨#[123]⟩) (h.ext (hx1.trans hW)) (by
 have e1:=bs_size (⟨#[114,101,99,111,114,100,32]⟩++name++⟨#[123]⟩)
 rw[bs_append,bs_append] at e1
 rw[←e1];exact hop)
 rw[bs_append,bs_append] at hwo
 generalize (((⟨#[114,101,99,111,114,100,32]⟩++name++⟨#[123]⟩:ByteArray).size:Nat):Int)=z at hwo
 go_simp
 refine hwo.mono ?_
 rintro e w2 ⟨rfl,hb2,h2⟩
 have h2:WInv B w2 m no (st.put (sRec++bs name++[123])):=h2
 refine hK.out _ _ ?_;clear hK K;(try simp only[Reg.nn])
 have hbw2:WK B w w2:=(WK.ofExt (hx1.trans hW) h.size).trans hb2
 have hbq2:=hb2.keep q _ _ (hbq1.ext hW) (by decide) (by decide)
 have hstart:WfAt B m no w T l fin 0 w2:=⟨hbw2,_,h2,by rw[List.drop_zero];exact hfin⟩
 have e5:w2.cell? ⟨q,5,none⟩=some (.slice A n c):=hbq2.cell 5
 clear hbq2 h2 hb2 hbw2 e1 hwo hfin
 go_wp2_with fail
 go_loopw [7,19,20,21,22,23,24,25,26,27,28,29,30,31,32,33,34,35,36,37,38,39,40,41,42,43,44,45,46,47,48,49] (fun v7 v19 v20 v21 v22 v23 v24 v25 v26 v27 v28 v29 v30 v31 v32 v33 v34 v35 v36 v37 v38 v39 v40 v41 v42 v43 v44 v45 v46 v47 v48 v49 wr=>∃i:Nat,i≤n∧v19=.int .i64 i∧WfAt B m no w T l fin i wr) (fun _ v19 _ _ _ _ _ _ _ _ _ _ _ _ _ _ _ _ _ _ _ _ _ _ _ _ _ _ _ _ _ _ _=>n-(intOf v19).toNat)
 case atStart=>exact⟨0,by omega,rfl,hstart⟩
 case round=>
  obtain⟨i,hi,rfl,hbw,st1,hw1',hf1⟩:=hrel
  clear hstart e5
  by_cases hin:i<n
  ·have hin':(i:Int)<(n:Int):=by omega
   obtain⟨⟨fn,fh,ft⟩,hxe⟩:∃x,l[i]?=some x:=⟨_,List.getElem?_eq_getElem (by have:=hn.out;omega)⟩
   have hxz:=fldsZ_at l i _ hxe
   obtain⟨b,off,rfl,hbB,hc⟩:=hat (i*3+0) (.string fn) (by rw[hxz 0 (by omega)];rfl)
   have d0:wr.cell? ⟨b,off+i*3,none⟩=some (.string fn):=by have:=hc wr hbw.below (i*3+0) (.string fn) (by rw[hxz 0 (by omega)];rfl);simpa [Nat.add_assoc] using this
   have d1:wr.cell? ⟨b,off+i*3+1,none⟩=some (.bool fh):=by have:=hc wr hbw.below (i*3+1) (.bool fh) (by rw[hxz 1 (by omega)];rfl);simpa [Nat.add_assoc] using this
   have d2:wr.cell? ⟨b,off+i*3+2,none⟩=some (.int .i64 ft):=by have:=hc wr hbw.below (i*3+2) (.int .i64 ft) (by rw[hxz 2 (by omega)];rfl);simpa [Nat.add_assoc] using this
   have hdrop:l.drop i=(fn,fh,ft)::l.drop (i+1):=List.drop_eq_getElem?_toList_append .. |>.trans (by rw[hxe];rfl)
   obtain⟨stb,hstb⟩:∃z,Hid ((if fh then (st1.put (bs fn)).put [63] else st1.put (bs fn))=z):=⟨_,Lib.hid rfl⟩
   have hf2:wflds T (l.drop (i+1)) ((T ft (stb.put [58])).put [59])=fin:=by rw[←hf1.out,hdrop,wflds,wfield,hstb.out]
   have hl2:=wflds_len hG (l.drop (i+1)) ((T ft (stb.put [58])).put [59])
   rw[hf2,WSt.put_len] at hl2
   have hl3:=hG ft (stb.put [58])
   have hl3b:=WSt.put_len stb [58]
   simp only[List.length_cons,List.length_nil] at hl2 hl3b hL
   have hl4:st1.s.length+fn.size≤stb.s.length:=by
    have e1:=WSt.put_len st1 (bs fn)
    have e2:=WSt.put_len (st1.put (bs fn)) [63]
    rw[bs_size] at e1
    rw[←hstb.out]
    split
    ·omega
    ·omega
   have Hf3:=Lib.hid hf2
   have hBr:B≤wr.heap.size:=hw1'.size
   obtain⟨q7,hq7⟩:∃z,Hid (wr.heap.size=z):=⟨_,rfl⟩
   obtain⟨w2',hw2'⟩:∃z,Hid (wr.alloc (.cells #[.string fn,.bool fh,.int .i64 ft] 38)=z):=⟨_,rfl⟩
   have hx2:Ext wr w2':=by rw[←hw2'.out];exact (Ext.refl wr).alloc _
   have hbq7:Blk w2' q7 #[.string fn,.bool fh,.int .i64 ft] 38:=by rw[←hw2'.out,←hq7.out];exact Blk.new wr _ _
   have f0:∀W',Ext w2' W'→W'.cell? ⟨q7,0,none⟩=some (.string fn):=fun W' hW'=>(hbq7.ext hW').cell 0
   clear hf2 hxe hxz hc hdrop hf1
   go_wp2_with fail
   rw[hw2'.out,hq7.out]
   refine Reg.startE (by kernel_rfl) ?_
   iterate 5 ((first|refine Reg.tn ?_|refine Reg.sn ?_);(try simp only[Reg.nn]))
   refine Reg.last 5 _ rfl (by kernel_rfl) (by kernel_rfl) (by kernel_rfl) (by decide) (by rfl) (fun W hW K hK=>?_)
   have hwo:=wstr_any fn (hw1'.ext (hx2.trans hW)) (by omega)
   go_simp
   refine hwo.mono ?_
   rintro e w3 ⟨rfl,hb3,hw3⟩
   refine hK.out _ _ ?_;clear hK K;(try simp only[Reg.nn])
   have hbq3:=hb3.keep q7 _ _ (hbq7.ext hW) (by decide) (by decide)
   have hb3:WK B w w3:=(hbw.trans (WK.ofExt (hx2.trans hW) hBr)).trans hb3
   have g1:w3.cell? ⟨q7,1,none⟩=some (.bool fh):=hbq3.cell 1
   clear hwo f0 d0 d1 d2 hbq7
   cases fh with
   | true=>
    have hstb':(st1.put (bs fn)).put [63]=stb:=hstb.out
    have hl5:=WSt.put_len (st1.put (bs fn)) [63]
    rw[hstb'] at hl5
    simp only[List.length_cons,List.length_nil] at hl5
    have h3:=wstr_any (B:=B) (W:=m) (no:=no) ⟨#[63]⟩ hw3 (by rw[show (⟨#[63]⟩:ByteArray).size=1 from rfl];omega)
    go_wp2_with fail
    refine h3.mono ?_
    rintro e w3b ⟨rfl,hb3b,hw3b⟩
    have hw3:WInv B w3b m no ((st1.put (bs fn)).put [63]):=hw3b
    rw[hstb'] at hw3
    have hbq3:=hb3b.keep q7 _ _ hbq3 (by decide) (by decide)
    have hb3:=hb3.trans hb3b
    clear h3 hstb' g1
    have h4:=wstr_any (B:=B) (W:=m) (no:=no) ⟨#[58]⟩ hw3 (by rw[show (⟨#[58]⟩:ByteArray).size=1 from rfl];omega)
    go_wp2_with fail
    refine h4.mono ?_
    rintro e w4 ⟨rfl,hb4,hw4⟩
    have hw4:WInv B w4 m no (stb.put [58]):=hw4
    have hbq4:=hb4.keep q7 _ _ hbq3 (by decide) (by decide)
    have g2:w4.cell? ⟨q7,2,none⟩=some (.int .i64 ft):=hbq4.cell 2
    have hcall:=H ft (stb.put [58]) w4 hw4 (hS.below (hb3.trans hb4).below) (by omega)
    clear hbq4 hbq3 h4
    go_wp2_with fail
    refine hcall.mono ?_
    rintro e w5 ⟨rfl,hb5,hw5⟩
    have h6:=wstr_any (B:=B) (W:=m) (no:=no) ⟨#[59]⟩ hw5 (by rw[show (⟨#[59]⟩:ByteArray).size=1 from rfl];omega)
    clear hcall g2
    go_wp2_with fail
    refine h6.mono ?_
    rintro e w6 ⟨rfl,hb6,hw6⟩
    have hw6:WInv B w6 m no ((T ft (stb.put [58])).put [59]):=hw6
    go_wp2_with fail
    go_roundw
    case rel=>exact⟨i+1,by omega,by go_num,((hb3.trans hb4).trans hb5).trans hb6,_,hw6,Hf3⟩
    case measure=>simp[intOf];omega
   | false=>
    have hstb':st1.put (bs fn)=stb:=hstb.out
    rw[hstb'] at hw3
    clear hstb' 
    have h4:=wstr_any (B:=B) (W:=m) (no:=no) ⟨#[58]⟩ hw3 (by rw[show (⟨#[58]⟩:ByteArray).size=1 from rfl];omega)
    go_wp2_with fail
    refine h4.mono ?_
    rintro e w4 ⟨rfl,hb4,hw4⟩
    have hw4:WInv B w4 m no (stb.put [58]):=hw4
    have hbq4:=hb4.keep q7 _ _ hbq3 (by decide) (by decide)
    have g2:w4.cell? ⟨q7,2,none⟩=some (.int .i64 ft):=hbq4.cell 2
    have hcall:=H ft (stb.put [58]) w4 hw4 (hS.below (hb3.trans hb4).below) (by omega)
    clear hbq4 hbq3 h4
    go_wp2_with fail
    refine hcall.mono ?_
    rintro e w5 ⟨rfl,hb5,hw5⟩
    have h6:=wstr_any (B:=B) (W:=m) (no:=no) ⟨#[59]⟩ hw5 (by rw[show (⟨#[59]⟩:ByteArray).size=1 from rfl];omega)
    clear hcall g2
    go_wp2_with fail
    refine h6.mono ?_
    rintro e w6 ⟨rfl,hb6,hw6⟩
    have hw6:WInv B w6 m no ((T ft (stb.put [58])).put [59]):=hw6
    go_wp2_with fail
    go_roundw
    case rel=>exact⟨i+1,by omega,by go_num,((hb3.trans hb4).trans hb5).trans hb6,_,hw6,Hf3⟩
    case measure=>simp[intOf];omega
  ·obtain rfl:i=n:=by omega
   have hf2:st1=fin:=by rw[←hf1.out,←hn.out,List.drop_length,wflds]
   subst hf2
   have hend:=wstr_any (B:=B) (W:=m) (no:=no) ⟨#[125]⟩ hw1' (by rw[show (⟨#[125]⟩:ByteArray).size=1 from rfl];simp only[List.length_cons,List.length_nil] at hL;omega)
   go_wp2_with fail
   refine hend.mono ?_
   rintro e w2 ⟨rfl,hb2,h2⟩
   go_wp2_with fail
   go_end0
   exact⟨rfl,hbw.trans hb2,h2⟩
def EqAt {α:Type} (l1 l2:List α) (i:Nat):Prop:=∀j,j<i→l1[j]?=l2[j]?
theorem EqAt.next {α:Type} {l1 l2:List α} {i:Nat} {x:α} (h:EqAt l1 l2 i) (h1:l1[i]?=some x) (h2:l2[i]?=some x):EqAt l1 l2 (i+1):=fun j hj=>by
 rcases Nat.lt_or_ge j i with h'|h'
 ·exact h j h'
 ·obtain rfl:j=i:=by omega
  rw[h1,h2]
theorem EqAt.all {α:Type} {l1 l2:List α} (hl:l1.length=l2.length) (h:EqAt l1 l2 l1.length):l1=l2:=by
 apply List.ext_getElem?
 intro j
 rcases Nat.lt_or_ge j l1.length with h'|h'
 ·exact h j h'
 ·rw[List.getElem?_eq_none h',List.getElem?_eq_none (by omega)]
theorem ne_at {α:Type} {l1 l2:List α} {i:Nat} {x y:α} (h1:l1[i]?=some x) (h2:l2[i]?=some y) (h:x≠y):l1≠l2:=fun e=>by
 subst e;rw[h1] at h2;injection h2 with h2;exact h h2
theorem ne_len {α:Type} {l1 l2:List α} (h:l1.length≠l2.length):l1≠l2:=fun e=>h (by rw[e])
theorem equal_str {B:Nat} {w:World} {v1 v2:Value} {l1 l2:List ByteArray} (h1:Sl B w v1 l1.length (txs l1)) (h2:Sl B w v2 l2.length (txs l2)) (hB:B≤w.heap.size) :
  Calls Tryz.prog 131 #[v1,v2] w fun e w'=>e=.returned (.bool (decide (l1=l2)))∧Ext w w':=by
 obtain⟨R,hR⟩:∃R,Hid (decide (l1=l2)=R):=⟨_,rfl⟩
 rw[hR.out]
 obtain⟨A1,c1,rfl,hn1,hm1,_,hat1⟩:=h1.at_
 obtain⟨A2,c2,rfl,hn2,hm2,_,hat2⟩:=h2.at_
 unfold maxLen at hm1 hm2
 obtain⟨n,hn⟩:∃z,Hid (l1.length=z):=⟨_,rfl⟩
 obtain⟨n2,hn2'⟩:∃z,Hid (l2.length=z):=⟨_,rfl⟩
 rw[hn.out] at hn1 ⊢
 rw[hn2'.out] at hn2 ⊢
 by_cases hl:n=n2
 ·subst hl
  have hnb:((n:Int) != (n:Int))=false:=by simp
  go_enter Tryz.func131,Tryz.ntmps131
  go_wp2_with fail
  go_loopw [5,13,14,15,16,17,18,19,20,21,22,23,24,25] (fun v5 v13 v14 v15 v16 v17 v18 v19 v20 v21 v22 v23 v24 v25 wr=>∃i:Nat,i≤n∧v13=.int .i64 i∧EqAt l1 l2 i∧Ext w wr) (fun _ v13 _ _ _ _ _ _ _ _ _ _ _ _ _=>n-(intOf v13).toNat)
  case atStart=>exact⟨0,by omega,rfl,fun j hj=>by omega,Ext.refl w⟩
  case round=>
   obtain⟨i,hi,rfl,heq,hx⟩:=hrel
   by_cases hin:i<n
   ·have hin':(i:Int)<(n:Int):=by omega
    obtain⟨x,hx1⟩:∃x,l1[i]?=some x:=⟨_,List.getElem?_eq_getElem (by have:=hn.out;omega)⟩
    obtain⟨y,hx2⟩:∃x,l2[i]?=some x:=⟨_,List.getElem?_eq_getElem (by have:=hn2'.out;omega)⟩
    have hz1:(txs l1)[i]?=some (.string x):=by unfold txs;rw[List.getElem?_map,hx1];rfl
    have hz2:(txs l2)[i]?=some (.string y):=by unfold txs;rw[List.getElem?_map,hx2];rfl
    obtain⟨b1,o1,rfl,hb1,hc1⟩:=hat1 i _ hz1
    obtain⟨b2,o2,rfl,hb2,hc2⟩:=hat2 i _ hz2
    have d1:∀W,Ext wr W→W.cell? ⟨b1,o1+i,none⟩=some (.string x):=fun W hW=>hc1 W (Below.mono (hx.trans hW) hB) i _ hz1
    have d2:∀W,Ext wr W→W.cell? ⟨b2,o2+i,none⟩=some (.string y):=fun W hW=>hc2 W (Below.mono (hx.trans hW) hB) i _ hz2
    clear hz1 hz2 hc1 hc2
    by_cases he:x=y
    ·subst he
     have hE:=heq.next hx1 hx2
     clear hx1 hx2
     have hbq:(x.toList != x.toList)=false:=by simp
     go_wp2_with fail
     refine Reg.startE (by kernel_rfl) ?_
     iterate 9 ((first|refine Reg.tn ?_|refine Reg.sn ?_);(try simp only[Reg.nn]))
     refine Reg.fin (by kernel_rfl) (fun W hW=>?_)
     go_wp2_with fail
     go_roundw
     case rel=>exact⟨i+1,by omega,by go_num,hE,hx.trans hW⟩
     case measure=>simp[intOf];omega
    ·have hne:=ne_at hx1 hx2 he
     have hRf:R=false:=by rw[←hR.out];simpa using hne
     have hbq:=str_ne he
     have hbq2:(x.toList != y.toList)=true:=by simpa [bne] using hbq
     subst hRf
     clear hx1 hx2 hne
     go_wp2_with fail
     refine Reg.startE (by kernel_rfl) ?_
     iterate 9 ((first|refine Reg.tn ?_|refine Reg.sn ?_);(try simp only[Reg.nn]))
     refine Reg.fin (by kernel_rfl) (fun W hW=>?_)
     go_wp2_with fail
     go_ret
     exact⟨rfl,hx.trans hW⟩
   ·obtain rfl:i=n:=by omega
    have hRt:R=true:=by rw[←hR.out];simpa using EqAt.all (by rw[hn.out,hn2'.out]) (by rw[hn.out];exact heq)
    subst hRt
    go_wp2_with fail
    go_ret
    exact⟨rfl,hx⟩
 ·have hRf:R=false:=by rw[←hR.out];simpa using ne_len (by rw[hn.out,hn2'.out];exact hl)
  have hnb:((n:Int) != (n2:Int))=true:=by simpa using (by omega:¬(n:Int)=(n2:Int))
  subst hRf
  go_enter Tryz.func131,Tryz.ntmps131
  go_wp2_with fail
  go_ret
  exact⟨rfl,Ext.refl w⟩
theorem equal_intZ {B:Nat} {w:World} {v1 v2:Value} {l1 l2:List Int} (h1:Sl B w v1 l1.length (intsZ l1)) (h2:Sl B w v2 l2.length (intsZ l2)) (hB:B≤w.heap.size) :
  Calls Tryz.prog 132 #[v1,v2] w fun e w'=>e=.returned (.bool (decide (l1=l2)))∧Ext w w':=by
 obtain⟨R,hR⟩:∃R,Hid (decide (l1=l2)=R):=⟨_,rfl⟩
 rw[hR.out]
 obtain⟨A1,c1,rfl,hn1,hm1,_,hat1⟩:=h1.at_
 obtain⟨A2,c2,rfl,hn2,hm2,_,hat2⟩:=h2.at_
 unfold maxLen at hm1 hm2
 obtain⟨n,hn⟩:∃z,Hid (l1.length=z):=⟨_,rfl⟩
 obtain⟨n2,hn2'⟩:∃z,Hid (l2.length=z):=⟨_,rfl⟩
 rw[hn.out] at hn1 ⊢
 rw[hn2'.out] at hn2 ⊢
 by_cases hl:n=n2
 ·subst hl
  have hnb:((n:Int) != (n:Int))=false:=by simp
  go_enter Tryz.func132,Tryz.ntmps132
  go_wp2_with fail
  go_loopw [5,13,14,15,16,17,18,19,20,21,22,23,24,25] (fun v5 v13 v14 v15 v16 v17 v18 v19 v20 v21 v22 v23 v24 v25 wr=>∃i:Nat,i≤n∧v13=.int .i64 i∧EqAt l1 l2 i∧Ext w wr) (fun _ v13 _ _ _ _ _ _ _ _ _ _ _ _ _=>n-(intOf v13).toNat)
  case atStart=>exact⟨0,by omega,rfl,fun j hj=>by omega,Ext.refl w⟩
  case round=>
   obtain⟨i,hi,rfl,heq,hx⟩:=hrel
   by_cases hin:i<n
   ·have hin':(i:Int)<(n:Int):=by omega
    obtain⟨x,hx1⟩:∃x,l1[i]?=some x:=⟨_,List.getElem?_eq_getElem (by have:=hn.out;omega)⟩
    obtain⟨y,hx2⟩:∃x,l2[i]?=some x:=⟨_,List.getElem?_eq_getElem (by have:=hn2'.out;omega)⟩
    have hz1:(intsZ l1)[i]?=some (.int .i64 x):=by unfold intsZ;rw[List.getElem?_map,hx1];rfl
    have hz2:(intsZ l2)[i]?=some (.int .i64 y):=by unfold intsZ;rw[List.getElem?_map,hx2];rfl
    obtain⟨b1,o1,rfl,hb1,hc1⟩:=hat1 i _ hz1
    obtain⟨b2,o2,rfl,hb2,hc2⟩:=hat2 i _ hz2
    have d1:∀W,Ext wr W→W.cell? ⟨b1,o1+i,none⟩=some (.int .i64 x):=fun W hW=>hc1 W (Below.mono (hx.trans hW) hB) i _ hz1
    have d2:∀W,Ext wr W→W.cell? ⟨b2,o2+i,none⟩=some (.int .i64 y):=fun W hW=>hc2 W (Below.mono (hx.trans hW) hB) i _ hz2
    clear hz1 hz2 hc1 hc2
    by_cases he:x=y
    ·subst he
     have hE:=heq.next hx1 hx2
     clear hx1 hx2
     have hbq:(x != x)=false:=by simp
     go_wp2_with fail
     refine Reg.startE (by kernel_rfl) ?_
     iterate 9 ((first|refine Reg.tn ?_|refine Reg.sn ?_);(try simp only[Reg.nn]))
     refine Reg.fin (by kernel_rfl) (fun W hW=>?_)
     go_wp2_with fail
     go_roundw
     case rel=>exact⟨i+1,by omega,by go_num,hE,hx.trans hW⟩
     case measure=>simp[intOf];omega
    ·have hne:=ne_at hx1 hx2 he
     have hRf:R=false:=by rw[←hR.out];simpa using hne
     have hbq2:(x != y)=true:=by simpa using he
     subst hRf
     clear hx1 hx2 hne
     go_wp2_with fail
     refine Reg.startE (by kernel_rfl) ?_
     iterate 9 ((first|refine Reg.tn ?_|refine Reg.sn ?_);(try simp only[Reg.nn]))
     refine Reg.fin (by kernel_rfl) (fun W hW=>?_)
     go_wp2_with fail
     go_ret
     exact⟨rfl,hx.trans hW⟩
   ·obtain rfl:i=n:=by omega
    have hRt:R=true:=by rw[←hR.out];simpa using EqAt.all (by rw[hn.out,hn2'.out]) (by rw[hn.out];exact heq)
    subst hRt
    go_wp2_with fail
    go_ret
    exact⟨rfl,hx⟩
 ·have hRf:R=false:=by rw[←hR.out];simpa using ne_len (by rw[hn.out,hn2'.out];exact hl)
  have hnb:((n:Int) != (n2:Int))=true:=by simpa using (by omega:¬(n:Int)=(n2:Int))
  subst hRf
  go_enter Tryz.func132,Tryz.ntmps132
  go_wp2_with fail
  go_ret
  exact⟨rfl,Ext.refl w⟩
theorem neq_fld (a b:ByteArray) (c d:Bool) (x y:Int) (w:World):(binOp .neq 38 (.agg #[.string a,.bool c,.int .i64 x]) (.agg #[.string b,.bool d,.int .i64 y])).run Tryz.prog w=.ok (.bool (!decide ((a,c,x)=(b,d,y)))) w:=by
 have hS:Tryz.prog.underlying 38=some (.struct (Tryz.prog.fieldsOf 38)):=by kernel_rfl
 have hp:Tryz.prog.stoodInHeld 38=false:=by kernel_rfl
 rw[run_neq_struct,show (10000:Nat)=9999+1 from rfl,run_equalIn_agg w 9999 38 _ _ hS hp]
 simp only[Program.fieldsOf,Tryz.underlying38]
 go_simp
 have hs:a.toList=b.toList↔a=b:=⟨fun h=>Classical.byContradiction fun hn=>by have:=str_ne hn;rw[h] at this;simp at this,fun h=>by rw[h]⟩
 by_cases h1:a=b<;>by_cases h2:c=d<;>by_cases h3:x=y<;>simp[hs,h1,h2,h3]
theorem equal_fldZ {B:Nat} {w:World} {v1 v2:Value} {l1 l2:List (ByteArray×Bool×Int)} (h1:Sl B w v1 l1.length (fldsZ l1)) (h2:Sl B w v2 l2.length (fldsZ l2)) (hB:B≤w.heap.size) :
  Calls Tryz.prog 133 #[v1,v2] w fun e w'=>e=.returned (.bool (decide (l1=l2)))∧Ext w w':=by
 obtain⟨R,hR⟩:∃R,Hid (decide (l1=l2)=R):=⟨_,rfl⟩
 rw[hR.out]
 obtain⟨A1,c1,rfl,hn1,hm1,_,hat1⟩:=h1.at_
 obtain⟨A2,c2,rfl,hn2,hm2,_,hat2⟩:=h2.at_
 unfold maxLen at hm1 hm2
 obtain⟨n,hn⟩:∃z,Hid (l1.length=z):=⟨_,rfl⟩
 obtain⟨n2,hn2'⟩:∃z,Hid (l2.length=z):=⟨_,rfl⟩
 rw[hn.out] at hn1 ⊢
 rw[hn2'.out] at hn2 ⊢
 by_cases hl:n=n2
 ·subst hl
  have hnb:((n:Int) != (n:Int))=false:=by simp
  go_enter Tryz.func133,Tryz.ntmps133
  go_wp2_with fail
  go_loopw [5,13,14,15,16,17,18,19,20,21,22,23,24,25] (fun v5 v13 v14 v15 v16 v17 v18 v19 v20 v21 v22 v23 v24 v25 wr=>∃i:Nat,i≤n∧v13=.int .i64 i∧EqAt l1 l2 i∧Ext w wr) (fun _ v13 _ _ _ _ _ _ _ _ _ _ _ _ _=>n-(intOf v13).toNat)
  case atStart=>exact⟨0,by omega,rfl,fun j hj=>by omega,Ext.refl w⟩
  case round=>
   obtain⟨i,hi,rfl,heq,hx⟩:=hrel
   by_cases hin:i<n
   ·have hin':(i:Int)<(n:Int):=by omega
    obtain⟨x,hx1⟩:∃x,l1[i]?=some x:=⟨_,List.getElem?_eq_getElem (by have:=hn.out;omega)⟩
    obtain⟨y,hx2⟩:∃x,l2[i]?=some x:=⟨_,List.getElem?_eq_getElem (by have:=hn2'.out;omega)⟩
    have hz1:=fldsZ_at l1 i _ hx1
    have hz2:=fldsZ_at l2 i _ hx2
    obtain⟨xn,xh,xt⟩:=x
    obtain⟨yn,yh,yt⟩:=y
    obtain⟨b1,o1,rfl,hb1,hc1⟩:=hat1 (i*3+0) (.string xn) (by rw[hz1 0 (by omega)];rfl)
    obtain⟨b2,o2,rfl,hb2,hc2⟩:=hat2 (i*3+0) (.string yn) (by rw[hz2 0 (by omega)];rfl)
    have d10:∀W,Ext wr W→W.cell? ⟨b1,o1+i*3,none⟩=some (.string xn):=fun W hW=>by have:=hc1 W (Below.mono (hx.trans hW) hB) (i*3+0) _ (by rw[hz1 0 (by omega)];rfl);simpa [Nat.add_assoc] using this
    have d11:∀W,Ext wr W→W.cell? ⟨b1,o1+i*3+1,none⟩=some (.bool xh):=fun W hW=>by have:=hc1 W (Below.mono (hx.trans hW) hB) (i*3+1) _ (by rw[hz1 1 (by omega)];rfl);simpa [Nat.add_assoc] using this
    have d12:∀W,Ext wr W→W.cell? ⟨b1,o1+i*3+2,none⟩=some (.int .i64 xt):=fun W hW=>by have:=hc1 W (Below.mono (hx.trans hW) hB) (i*3+2) _ (by rw[hz1 2 (by omega)];rfl);simpa [Nat.add_assoc] using this
    have d20:∀W,Ext wr W→W.cell? ⟨b2,o2+i*3,none⟩=some (.string yn):=fun W hW=>by have:=hc2 W (Below.mono (hx.trans hW) hB) (i*3+0) _ (by rw[hz2 0 (by omega)];rfl);simpa [Nat.add_assoc] using this
    have d21:∀W,Ext wr W→W.cell? ⟨b2,o2+i*3+1,none⟩=some (.bool yh):=fun W hW=>by have:=hc2 W (Below.mono (hx.trans hW) hB) (i*3+1) _ (by rw[hz2 1 (by omega)];rfl);simpa [Nat.add_assoc] using this
    have d22:∀W,Ext wr W→W.cell? ⟨b2,o2+i*3+2,none⟩=some (.int .i64 yt):=fun W hW=>by have:=hc2 W (Below.mono (hx.trans hW) hB) (i*3+2) _ (by rw[hz2 2 (by omega)];rfl);simpa [Nat.add_assoc] using this
    have hcmp:=fun W=>neq_fld xn yn xh yh xt yt W
    clear hz1 hz2 hc1 hc2
    by_cases he:(xn,xh,xt)=(yn,yh,yt)
    ·have hd:decide ((xn,xh,xt)=(yn,yh,yt))=true:=by simpa using he
     rw[hd] at hcmp
     rw[←he] at hx2
     have hE:=heq.next hx1 hx2
     clear hx1 hx2
     go_wp2_with fail
     refine Reg.startE (by kernel_rfl) ?_
     iterate 9 ((first|refine Reg.tn ?_|refine Reg.sn ?_);(try simp only[Reg.nn]))
     refine Reg.fin (by kernel_rfl) (fun W hW=>?_)
     go_wp2_with fail
     go_roundw
     case rel=>exact⟨i+1,by omega,by go_num,hE,hx.trans hW⟩
     case measure=>simp[intOf];omega
    ·have hne:=ne_at hx1 hx2 he
     have hRf:R=false:=by rw[←hR.out];simpa using hne
     have hd:decide ((xn,xh,xt)=(yn,yh,yt))=false:=by simpa using he
     rw[hd] at hcmp
     subst hRf
     clear hx1 hx2 hne
     go_wp2_with fail
     refine Reg.startE (by kernel_rfl) ?_
     iterate 9 ((first|refine Reg.tn ?_|refine Reg.sn ?_);(try simp only[Reg.nn]))
     refine Reg.fin (by kernel_rfl) (fun W hW=>?_)
     go_wp2_with fail
     go_ret
     exact⟨rfl,hx.trans hW⟩
   ·obtain rfl:i=n:=by omega
    have hRt:R=true:=by rw[←hR.out];simpa using EqAt.all (by rw[hn.out,hn2'.out]) (by rw[hn.out];exact heq)
    subst hRt
    go_wp2_with fail
    go_ret
    exact⟨rfl,hx⟩
 ·have hRf:R=false:=by rw[←hR.out];simpa using ne_len (by rw[hn.out,hn2'.out];exact hl)
  have hnb:((n:Int) != (n2:Int))=true:=by simpa using (by omega:¬(n:Int)=(n2:Int))
  subst hRf
  go_enter Tryz.func133,Tryz.ntmps133
  go_wp2_with fail
  go_ret
  exact⟨rfl,Ext.refl w⟩
theorem samen_any {B:Nat} {w:World} {d1 d2:Ne} {v1 v2:V3} (h1:SubE B w d1 v1) (h2:SubE B w d2 v2) (hB:B≤w.heap.size) :
  Calls Tryz.prog 115 #[.agg (neC d1 v1).toArray,.agg (neC d2 v2).toArray] w fun e w'=>e=.returned (.bool (decide (d1=d2)))∧Ext w w':=by
 obtain⟨k1,m1,z1,s1,i1,f1⟩:=d1
 obtain⟨k2,m2,z2,s2,i2,f2⟩:=d2
 obtain⟨a1,b1,c1⟩:=v1
 obtain⟨a2,b2,c2⟩:=v2
 have hs1:Sl B w a1 s1.length (txs s1):=h1.syms
 have hi1:Sl B w b1 i1.length (intsZ i1):=h1.items
 have hf1:Sl B w c1 f1.length (fldsZ f1):=h1.fields
 have hs2:Sl B w a2 s2.length (txs s2):=h2.syms
 have hi2:Sl B w b2 i2.length (intsZ i2):=h2.items
 have hf2:Sl B w c2 f2.length (fldsZ f2):=h2.fields
 clear h1 h2
 simp only[neC]
 obtain⟨w1,hw1⟩:∃z,Hid ((w.alloc (.cells #[.int .i64 k1,.string m1,.int .i64 z1,a1,b1,c1] 36)).alloc (.cells #[.int .i64 k2,.string m2,.int .i64 z2,a2,b2,c2] 36)=z):=⟨_,rfl⟩
 have hx1:Ext w w1:=by rw[←hw1.out];exact ((Ext.refl w).alloc _).alloc _
 obtain⟨q,hq⟩:∃z,Hid (w.heap.size=z):=⟨_,rfl⟩
 have hbA:Blk w1 q #[.int .i64 k1,.string m1,.int .i64 z1,a1,b1,c1] 36:=by rw[←hw1.out,←hq.out];exact (Blk.new w _ _).alloc _
 have hbB:Blk w1 (q+1) #[.int .i64 k2,.string m2,.int .i64 z2,a2,b2,c2] 36:=by
  rw[←hw1.out,←hq.out]
  have:=Blk.new (w.alloc (.cells #[.int .i64 k1,.string m1,.int .i64 z1,a1,b1,c1] 36)) #[.int .i64 k2,.string m2,.int .i64 z2,a2,b2,c2] 36
  simpa using this
 have hcs:=fun W (hW:Ext w W)=>equal_str (hs1.below (Below.mono hW hB)) (hs2.below (Below.mono hW hB)) (Nat.le_trans hB hW.size)
 have hci:=fun W (hW:Ext w W)=>equal_intZ (hi1.below (Below.mono hW hB)) (hi2.below (Below.mono hW hB)) (Nat.le_trans hB hW.size)
 have hcf:=fun W (hW:Ext w W)=>equal_fldZ (hf1.below (Below.mono hW hB)) (hf2.below (Below.mono hW hB)) (Nat.le_trans hB hW.size)
 obtain⟨R,hR⟩:∃R,Hid (decide ((⟨k1,m1,z1,s1,i1,f1⟩:Ne)=⟨k2,m2,z2,s2,i2,f2⟩)=R):=⟨_,Lib.hid rfl⟩
 rw[hR.out]
 by_cases e1:¬(k1=k2)
 ·have hR0:R=false:=by rw[←hR.out];simp[e1]
  have hb:(k1 == k2)=false:=by simpa using e1
  subst hR0
  go_enter Tryz.func115,Tryz.ntmps115
  go_wp2_with fail
  rw[hw1.out]
  go_ret
  exact⟨rfl,hx1⟩
 have e1:k1=k2:=Classical.not_not.1 e1
 subst e1
 by_cases e2:¬(m1=m2)
 ·have hR0:R=false:=by rw[←hR.out];simp[e2]
  have hb2:=str_ne e2
  subst hR0
  go_enter Tryz.func115,Tryz.ntmps115
  go_wp2_with fail
  rw[hw1.out]
  go_ret
  exact⟨rfl,hx1⟩
 have e2:m1=m2:=Classical.not_not.1 e2
 subst e2
 by_cases e3:¬(z1=z2)
 ·have hR0:R=false:=by rw[←hR.out];simp[e3]
  have hb3:(z1 == z2)=false:=by simpa using e3
  subst hR0
  go_enter Tryz.func115,Tryz.ntmps115
  go_wp2_with fail
  rw[hw1.out]
  go_ret
  exact⟨rfl,hx1⟩
 have e3:z1=z2:=Classical.not_not.1 e3
 subst e3
 have hcs1:=hcs w1 hx1
 by_cases e4:¬(s1=s2)
 ·have hR0:R=false:=by rw[←hR.out];simp[e4]
  rw[show decide (s1=s2)=false by simpa using e4] at hcs1
  subst hR0
  clear hcs hci hcf
  go_enter Tryz.func115,Tryz.ntmps115
  go_wp2_with fail
  rw[hw1.out]
  refine hcs1.mono ?_
  rintro e w2 ⟨rfl,hx2⟩
  go_wp2_with fail
  go_ret
  exact⟨rfl,hx1.trans hx2⟩
 have e4:s1=s2:=Classical.not_not.1 e4
 rw[show decide (s1=s2)=true by simpa using e4] at hcs1
 by_cases e5:¬(i1=i2)
 ·have hR0:R=false:=by rw[←hR.out];simp[e5]
  have hci:=fun W hW=>hci W hW
  rw[show decide (i1=i2)=false by simpa using e5] at hci
  subst hR0
  clear hcs hcf
  replace hci:=Lib.hid hci
  go_enter Tryz.func115,Tryz.ntmps115
  go_wp2_with fail
  rw[hw1.out,hq.out]
  refine hcs1.mono ?_
  rintro e w2 ⟨rfl,hx2⟩
  have p4:w2.cell? ⟨q,4,none⟩=some b1:=(hbA.ext hx2).cell 4
  have p4':w2.cell? ⟨q+1,4,none⟩=some b2:=(hbB.ext hx2).cell 4
  have hci2:=hci.out w2 (hx1.trans hx2)
  go_wp2_with fail
  refine hci2.mono ?_
  rintro e w3 ⟨rfl,hx3⟩
  go_wp2_with fail
  go_ret
  exact⟨rfl,(hx1.trans hx2).trans hx3⟩
 have e5:i1=i2:=Classical.not_not.1 e5
 have hRf:R=decide (f1=f2):=by rw[←hR.out];simp[e4,e5]
 have hci:=fun W hW=>hci W hW
 rw[show decide (i1=i2)=true by simpa using e5] at hci
 have hci:=Lib.hid hci
 have hcf:=Lib.hid hcf
 subst hRf
 ·clear hcs
  go_enter Tryz.func115,Tryz.ntmps115
  go_wp2_with fail
  rw[hw1.out,hq.out]
  refine hcs1.mono ?_
  rintro e w2 ⟨rfl,hx2⟩
  have p4:w2.cell? ⟨q,4,none⟩=some b1:=(hbA.ext hx2).cell 4
  have p4':w2.cell? ⟨q+1,4,none⟩=some b2:=(hbB.ext hx2).cell 4
  have hci2:=hci.out w2 (hx1.trans hx2)
  go_wp2_with fail
  refine hci2.mono ?_
  rintro e w3 ⟨rfl,hx3⟩
  have p5:w3.cell? ⟨q,5,none⟩=some c1:=((hbA.ext hx2).ext hx3).cell 5
  have p5':w3.cell? ⟨q+1,5,none⟩=some c2:=((hbB.ext hx2).ext hx3).cell 5
  have hcf2:=hcf.out w3 ((hx1.trans hx2).trans hx3)
  clear p4 p4' hci2
  go_wp2_with fail
  refine hcf2.mono ?_
  rintro e w4 ⟨rfl,hx4⟩
  go_wp2_with fail
  go_ret
  exact⟨rfl,((hx1.trans hx2).trans hx3).trans hx4⟩
theorem WInv.setBad {B m:Nat} {w:World} {no:Value} {st:WSt} (h:WInv B w m no st) (b:Bool):WK B w (w.setCell ⟨m,4,none⟩ (.bool b))∧WInv B (w.setCell ⟨m,4,none⟩ (.bool b)) m no { st with bad:=b }:=by
 obtain⟨p,v,hp,hb,ho⟩:=h.blk
 refine⟨(WK.refl B w).set hb h.hW _,⟨p,v,hp,?_,own_setCell ho hb (by decide) _⟩,h.hW⟩
 have:=hb.set 4 (.bool b)
 simpa using this
theorem WInv.setNext {B m:Nat} {w:World} {no:Value} {st:WSt} (h:WInv B w m no st) (n:Nat):WK B w (w.setCell ⟨m,3,none⟩ (.int .i64 (n:Int)))∧WInv B (w.setCell ⟨m,3,none⟩ (.int .i64 (n:Int))) m no { st with next:=n }:=by
 obtain⟨p,v,hp,hb,ho⟩:=h.blk
 refine⟨(WK.refl B w).set hb h.hW _,⟨p,v,hp,?_,own_setCell ho hb (by decide) _⟩,h.hW⟩
 have:=hb.set 3 (.int .i64 (n:Int))
 simpa using this
theorem WInv.cells {B m:Nat} {w:World} {no:Value} {st:WSt} (h:WInv B w m no st):w.cell? ⟨m,2,none⟩=some no∧w.cell? ⟨m,3,none⟩=some (.int .i64 (st.next:Int))∧w.cell? ⟨m,4,none⟩=some (.bool st.bad)∧w.frozen? ⟨m,3,none⟩=false∧w.frozen? ⟨m,4,none⟩=false:=by
 obtain⟨p,v,hp,hb,ho⟩:=h.blk
 exact⟨hb.cell 2,hb.cell 3,hb.cell 4,hb.frozen 3,hb.frozen 4⟩
theorem Sch.slice {B:Nat} {w:World} {vn:Value} {ns:List Ne} (h:Sch B w vn ns):∃A c,vn=.slice A ns.length c:=by
 obtain⟨vs,h1,⟨A,c,e,_⟩,_⟩:=h
 exact⟨A,c,e⟩
theorem wtyped_stop {B m f deep:Nat} {no:Value} {ns:List Ne} (hdf:deep+f=20) (n:Int) (st:WSt) (w:World) (h:WInv B w m no st) (hS:En B w no ns) (hst:wstop ns f n st) :
  Calls Tryz.prog 112 #[.pointer (some ⟨m,0,none⟩),.int .i64 n,.int .i64 (deep:Int)] w fun e w'=>e=.returned (.tuple #[])∧WK B w w'∧WInv B w' m no { st with bad:=true }:=by
 obtain⟨A,c,rfl⟩:=hS.sch.slice
 obtain⟨hk,hi⟩:=h.setBad true
 obtain⟨c2,c3,c4,f3,f4⟩:=h.cells
 have hlen:=wlen_any h
 obtain⟨ln,hln⟩:∃z,Hid (ns.length=z):=⟨_,rfl⟩
 obtain⟨sl,hsl⟩:∃z,Hid (st.s.length=z):=⟨_,rfl⟩
 obtain⟨nx,hnx⟩:∃z,Hid (st.next=z):=⟨_,rfl⟩
 obtain⟨bd,hbd⟩:∃z,Hid (st.bad=z):=⟨_,rfl⟩
 unfold wstop at hst
 rw[hln.out,hsl.out,hnx.out,hbd.out] at hst
 rw[hln.out] at c2
 rw[hsl.out] at hlen
 rw[hnx.out] at c3
 rw[hbd.out] at c4
 by_cases b1:bd=true
 ·subst b1
  go_enter Tryz.func112,Tryz.ntmps112
  go_wp2_with fail
  refine bodyPost_ret (results_none rfl _ _ _) rfl ?_
  exact⟨rfl,hk,hi⟩
 obtain rfl:bd=false:=by simpa using b1
 by_cases b2:n<0
 ·go_enter Tryz.func112,Tryz.ntmps112
  go_wp2_with fail
  refine bodyPost_ret (results_none rfl _ _ _) rfl ?_
  exact⟨rfl,hk,hi⟩
 by_cases b3:(ln:Int)≤n
 ·go_enter Tryz.func112,Tryz.ntmps112
  go_wp2_with fail
  refine bodyPost_ret (results_none rfl _ _ _) rfl ?_
  exact⟨rfl,hk,hi⟩
 by_cases b4:(nx:Int)<n
 ·go_enter Tryz.func112,Tryz.ntmps112
  go_wp2_with fail
  refine bodyPost_ret (results_none rfl _ _ _) rfl ?_
  exact⟨rfl,hk,hi⟩
 by_cases b5:f=0
 ·have b5':(20:Int)≤(deep:Int):=by omega
  go_enter Tryz.func112,Tryz.ntmps112
  go_wp2_with fail
  refine bodyPost_ret (results_none rfl _ _ _) rfl ?_
  exact⟨rfl,hk,hi⟩
 have b5':¬(20:Int)≤(deep:Int):=by omega
 have b6:4096<sl:=by
  rcases hst with e|e
  ·cases e
  ·omega
 have b6':(4096:Int)<(sl:Int):=by omega
 ·clear hst b1
  go_enter Tryz.func112,Tryz.ntmps112
  go_wp2_with fail
  refine hlen.mono ?_
  rintro e w1 ⟨rfl,rfl⟩
  go_wp2_with fail
  refine bodyPost_ret (results_none rfl _ _ _) rfl ?_
  exact⟨rfl,hk,hi⟩
end Pr
namespace Reg
open Base
section
variable {P:Program} {ops:Array Oper} {Q:Exit→Act→World→Prop} {R:World→World→Prop}
def At (P:Program) (ops:Array Oper) (Q:Exit→Act→World→Prop) (R:World→World→Prop) (done:List Nat) (a:Act) (w:World):Prop:=
 Closed ops (marked ops.size done)→wpAll P ops Q R (ops.size-done.length) (marked ops.size done) a w
theorem startX {id:Nat} {a:Act} {w:World} (hm:P.follows .mixedOrders=true) (h:At P ops Q R [] a w.drew):(Code.region id ops true).wp P Q a w:=
 wp_region_any hm (wpAny_of_wpAll _ _ _ _ (h (Closed.none ops)))
theorem takeX (hR:Rl R) (i:Nat) (oi:Oper) (v:Value) {done:List Nat} {a:Act} {w:World} (hi:ops[i]?=some oi)
  (hs:Region.noSelect ops=true) (hf:Region.free .any ops (marked ops.size done) i=true) (hr:(Region.ready .any ops (marked ops.size done)).contains i=true) (hn:done.length<ops.size)
  (hQ:∀c a w,Q (.panic c) (a.put oi.dst v) w→Q (.panic c) a w) (hw:Region.wanted oi (yielded ops a.tmps)=true)
  (hy:∀w',R w w'→(execOp a.eval oi).run P w'=.ok (.value v) w')
  (h:At P ops Q R (i::done) (a.put oi.dst v) w):At P ops Q R done a w:=by
 intro hcl
 have e:ops.size-done.length=(ops.size-(i::done).length)+1:=by simp only[List.length_cons];omega
 rw[e]
 exact wpAll_first hR.refl hR.trans hi (Region.noSelect_spec hs) hQ _ _ a w (Region.free_spec hi hf) hcl (by simpa using hr) (.inl ⟨hw,hy⟩) (hR.refl w) (h (hcl.set (i:=i) (by simpa using hr)))
theorem skipX (hR:Rl R) (i:Nat) (oi:Oper) {done:List Nat} {a:Act} {w:World} (hi:ops[i]?=some oi)
  (hs:Region.noSelect ops=true) (hf:Region.free .any ops (marked ops.size done) i=true) (hr:(Region.ready .any ops (marked ops.size done)).contains i=true) (hn:done.length<ops.size)
  (hQ:∀c a w,Q (.panic c) (a.put oi.dst undef) w→Q (.panic c) a w) (hw:Region.wanted oi (yielded ops a.tmps)=false)
  (h:At P ops Q R (i::done) (a.put oi.dst undef) w):At P ops Q R done a w:=by
 intro hcl
 have e:ops.size-done.length=(ops.size-(i::done).length)+1:=by simp only[List.length_cons];omega
 rw[e]
 exact wpAll_first hR.refl hR.trans hi (Region.noSelect_spec hs) hQ _ _ a w (Region.free_spec hi hf) hcl (by simpa using hr) (.inr ⟨hw,rfl⟩) (hR.refl w) (h (hcl.set (i:=i) (by simpa using hr)))
theorem onlyX (i:Nat) (oi:Oper) {done:List Nat} {a:Act} {w:World} (hi:ops[i]?=some oi)
  (hr:Region.ready .any ops (marked ops.size done)=[i]) (hn:done.length<ops.size) (hw:Region.wanted oi (yielded ops a.tmps)=true)
  (h:∀K:Act→World→Prop,Shut (∀a' w'',R w w''→At P ops Q R (i::done) a' w''→K a' w'')→oi.wp P a w K Q):At P ops Q R done a w:=by
 intro hcl
 have e:ops.size-done.length=(ops.size-(i::done).length)+1:=by simp only[List.length_cons];omega
 rw[e]
 refine⟨fun h0=>(by rw[h0] at hr;cases hr),fun j hj=>?_⟩
 rw[hr] at hj
 obtain rfl:j=i:=by simpa using hj
 unfold wpOp
 simp only[hi,hw,if_true]
 exact .inl (h _ (fun a' w'' hx hst=>⟨.inl hx,hst (hcl.set (by rw[hr];simp))⟩))
theorem bothX (i j:Nat) (oi oj:Oper) {done:List Nat} {a:Act} {w:World} (hi:ops[i]?=some oi) (hj:ops[j]?=some oj)
  (hr:Region.ready .any ops (marked ops.size done)=[i,j]) (hn:done.length<ops.size) (hwi:Region.wanted oi (yielded ops a.tmps)=true) (hwj:Region.wanted oj (yielded ops a.tmps)=true)
  (h1:∀K:Act→World→Prop,Shut (∀a' w'',R w w''→At P ops Q R (i::done) a' w''→K a' w'')→oi.wp P a w K Q)
  (h2:∀K:Act→World→Prop,Shut (∀a' w'',R w w''→At P ops Q R (j::done) a' w''→K a' w'')→oj.wp P a w K Q):At P ops Q R done a w:=by
 intro hcl
 have e:ops.size-done.length=(ops.size-(i::done).length)+1:=by simp only[List.length_cons];omega
 rw[e]
 refine⟨fun h0=>(by rw[h0] at hr;cases hr),fun k hk=>?_⟩
 have hk2:=hk
 rw[hr] at hk
 simp only[List.mem_cons,List.mem_nil_iff,or_false] at hk
 unfold wpOp
 rcases hk with rfl|rfl
 ·simp only[hi,hwi,if_true]
  exact .inl (h1 _ (fun a' w'' hx hst=>⟨.inl hx,hst (hcl.set hk2)⟩))
 ·simp only[hj,hwj,if_true]
  exact .inl (h2 _ (fun a' w'' hx hst=>⟨.inl hx,hst (hcl.set hk2)⟩))
theorem lastX (i:Nat) (oi:Oper) {done:List Nat} {a:Act} {w:World} (hi:ops[i]?=some oi)
  (hr:Region.ready .any ops (marked ops.size done)=[i]) (hr2:Region.ready .any ops (marked ops.size (i::done))=[]) (hs:soleB ops i=true) (hn:done.length<ops.size) (hw:Region.wanted oi (yielded ops a.tmps)=true)
  (h:∀K:Act→World→Prop,Shut (∀a' w'',Q .normal a' w''→K a' w'')→oi.wp P a w K Q):At P ops Q R done a w:=by
 intro hcl
 have e:ops.size-done.length=(ops.size-(i::done).length)+1:=by simp only[List.length_cons];omega
 rw[e]
 refine⟨fun h0=>(by rw[h0] at hr;cases hr),fun j hj=>?_⟩
 rw[hr] at hj
 obtain rfl:j=i:=by simpa using hj
 unfold wpOp
 simp only[hi,hw,if_true]
 refine .inl (h _ (fun a' w'' hq=>⟨.inr (sole_of hs),?_⟩))
 cases hk:ops.size-(j::done).length with
 | zero=>exact⟨hr2,hq⟩
 | succ k=>exact⟨fun _=>hq,by rw[←marked_cons,hr2];simp⟩
theorem finX {done:List Nat} {a:Act} {w:World} (hr:Region.ready .any ops (marked ops.size done)=[]) (h:Q .normal a w):At P ops Q R done a w:=by
 intro hcl
 cases hk:ops.size-done.length with
 | zero=>exact⟨hr,h⟩
 | succ k=>exact⟨fun _=>h,by rw[hr];simp⟩
theorem At.perm {done done':List Nat} {a:Act} {w:World} (hm:marked ops.size done=marked ops.size done') (hl:done.length=done'.length) (h:At P ops Q R done' a w):At P ops Q R done a w:=by
 unfold At at h ⊢
 rw[hm,hl];exact h
theorem put_comm (a:Act) {d e:Option Nat} (h:d≠e) (u v:Value):(a.put d u).put e v=(a.put e v).put d u:=by
 cases d with
 | none=>rfl
 | some d=>
  cases e with
  | none=>rfl
  | some e=>
   have:d≠e:=fun x=>h (by rw[x])
   simp only[Act.put,Act.mk.injEq,and_true]
   exact Array.setIfInBounds_comm _ _ this
theorem bothY {B:Nat} (i j:Nat) (oi oj:Oper) {done:List Nat} {a:Act} {w:World} (hB:B≤w.heap.size) (hi:ops[i]?=some oi) (hj:ops[j]?=some oj) (hgi:oi.guard=none) (hgj:oj.guard=none) (hd:oi.dst≠oj.dst) (hij:i≠j)
  (hr:Region.ready .any ops (marked ops.size done)=[i,j]) (hri:Region.ready .any ops (marked ops.size (i::done))=[j]) (hrj:Region.ready .any ops (marked ops.size (j::done))=[i]) (hn:done.length+1<ops.size)
  (Fi Fj:Value→World→Prop) (si:∀v w1 w2,Fi v w1→Ext w1 w2→Fi v w2) (sj:∀v w1 w2,Fj v w1→Ext w1 w2→Fj v w2)
  (h1:∀a' w1,(a'=a∨∃v,a'=a.put oj.dst v)→Ext w w1→∀K:Act→World→Prop,Shut (∀v w2,Ext w1 w2→Fi v w2→K (a'.put oi.dst v) w2)→oi.wp P a' w1 K Q)
  (h2:∀a' w1,(a'=a∨∃v,a'=a.put oi.dst v)→Ext w w1→∀K:Act→World→Prop,Shut (∀v w2,Ext w1 w2→Fj v w2→K (a'.put oj.dst v) w2)→oj.wp P a' w1 K Q)
  (h:∀vi vj X,Ext w X→Fi vi X→Fj vj X→At P ops Q (Go.RowKit.Below B) (j::i::done) ((a.put oi.dst vi).put oj.dst vj) X):At P ops Q (Go.RowKit.Below B) done a w:=by
 have wi:∀t,Region.wanted oi t=true:=fun t=>by simp[Region.wanted,hgi]
 have wj:∀t,Region.wanted oj t=true:=fun t=>by simp[Region.wanted,hgj]
 have low:∀ {x y:World},Ext w x→Ext x y→Go.RowKit.Below B x y:=fun hx hy=>Go.RowKit.Below.mono hy (Nat.le_trans hB hx.size)
 refine bothX i j oi oj hi hj hr (by omega) (wi _) (wj _) (fun K hK=>?_) (fun K hK=>?_)
 ·refine h1 a w (.inl rfl) (Ext.refl w) K (fun vi w2 hx hf=>hK _ _ (low (Ext.refl w) hx) ?_)
  refine onlyX j oj hj hri (by simp only[List.length_cons];omega) (wj _) (fun K hK=>?_)
  exact h2 _ w2 (.inr ⟨vi,rfl⟩) hx K (fun vj w3 hx3 hfj=>hK _ _ (low hx hx3) (h vi vj w3 (hx.trans hx3) (si _ _ _ hf hx3) hfj))
 ·refine h2 a w (.inl rfl) (Ext.refl w) K (fun vj w2 hx hf=>hK _ _ (low (Ext.refl w) hx) ?_)
  refine onlyX i oi hi hrj (by simp only[List.length_cons];omega) (wi _) (fun K hK=>?_)
  refine h1 _ w2 (.inr ⟨vj,rfl⟩) hx K (fun vi w3 hx3 hfi=>hK _ _ (low hx hx3) ?_)
  have hm:marked ops.size (i::j::done)=marked ops.size (j::i::done):=by
   rw[marked_cons,marked_cons,marked_cons,marked_cons]
   exact Array.setIfInBounds_comm _ _ (Ne.symm hij)
  refine At.perm hm rfl ?_
  rw[put_comm a (Ne.symm hd)]
  exact h vi vj w3 (hx.trans hx3) hfi (sj _ _ _ hf hx3)
theorem tx (hR:Rl R) (i:Nat) {oi:Oper} {v:Value} {done:List Nat} {a:Act} {w:World} (h:At P ops Q R (i::done) (a.put oi.dst v) w) (hi:ops[i]?=some oi:=by rfl)
  (hs:Region.noSelect ops=true:=by kernel_rfl) (hf:Region.free .any ops (marked ops.size done) i=true:=by kernel_rfl) (hr:(Region.ready .any ops (marked ops.size done)).contains i=true:=by kernel_rfl) (hn:done.length<ops.size:=by decide)
  (hQ:∀c a w,Q (.panic c) (a.put oi.dst v) w→Q (.panic c) a w:=by intro c a w h;first|exact h|solve_by_elim) (hw:Region.wanted oi (yielded ops a.tmps)=true:=by rfl)
  (hy:∀w',R w w'→(execOp a.eval oi).run P w'=.ok (.value v) w':=by intro W hW;go_simp;with_reducible rfl):At P ops Q R done a w:=
 takeX hR i oi v hi hs hf hr hn hQ hw hy h
theorem un (hR:Rl R) {oi:Oper} {v:Value} {done:List Nat} {a:Act} {w:World} (h:At P ops Q R (done.length::done) (a.put oi.dst v) w) (hi:ops[done.length]?=some oi:=by rfl)
  (hs:Region.noSelect ops=true:=by kernel_rfl) (hf:Region.free .any ops (marked ops.size done) done.length=true:=by kernel_rfl) (hr:(Region.ready .any ops (marked ops.size done)).contains done.length=true:=by kernel_rfl) (hn:done.length<ops.size:=by decide)
  (hQ:∀c a w,Q (.panic c) (a.put oi.dst v) w→Q (.panic c) a w:=by intro c a w h;first|exact h|solve_by_elim) (hw:Region.wanted oi (yielded ops a.tmps)=true:=by rfl)
  (hy:∀w',R w w'→(execOp a.eval oi).run P w'=.ok (.value v) w':=by intro W hW;go_simp;with_reducible rfl):At P ops Q R done a w:=
 takeX hR _ oi v hi hs hf hr hn hQ hw hy h
theorem vn (hR:Rl R) {oi:Oper} {done:List Nat} {a:Act} {w:World} (h:At P ops Q R (done.length::done) (a.put oi.dst undef) w) (hi:ops[done.length]?=some oi:=by rfl)
  (hs:Region.noSelect ops=true:=by kernel_rfl) (hf:Region.free .any ops (marked ops.size done) done.length=true:=by kernel_rfl) (hr:(Region.ready .any ops (marked ops.size done)).contains done.length=true:=by kernel_rfl) (hn:done.length<ops.size:=by decide)
  (hQ:∀c a w,Q (.panic c) (a.put oi.dst undef) w→Q (.panic c) a w:=by intro c a w h;first|exact h|solve_by_elim) (hw:Region.wanted oi (yielded ops a.tmps)=false:=by rfl):At P ops Q R done a w:=
 skipX hR _ oi hi hs hf hr hn hQ hw h
end
end Reg
end Go.Proofs.YtmaoochjbpohdaaGreatDoor
