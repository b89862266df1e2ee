/- parse: a schema and a writer in memory; strings.Builder walked. -/
import Derived.Test.YtllhhpcabncmiaaGreatDoorDsC
import Derived.Lib.Builder
import Derived.Lib.UnsafeStr
import Derived.Lib.AppendStr
import Derived.Shelf.LaysM
import Derived.Shelf.Strings.BuilderX
import Derived.Shelf.Strconv.Itoa3
import Derived.Shelf.Strings.OnBuilder
set_option linter.unusedVariables false
set_option linter.unusedSimpArgs false
set_option maxRecDepth 100000
set_option maxHeartbeats 1000000
namespace Go.Proofs.YtllhhpcabncmiaaGreatDoor
namespace Pr
open Go.ChangeShapes Go.WideShapes Go.ChangeAt Go.RowKit
open Base Lx Mi
def Sl (B:Nat) (w:World) (v:Value) (n:Nat) (cs:List Value):Prop:=∃A c,v=.slice A n c∧Rd w A cs∧(cs≠[]→∀a,A=some a→a.block<B)∧n≤c∧c≤maxLen∧(A=none→c=0)
theorem Rd.below {B:Nat} {w w':World} {A:Option Addr} {cs:List Value} (h:Rd w A cs) (hA:cs≠[]→∀a,A=some a→a.block<B) (hx:Below B w w'):Rd w' A cs:=fun hne=>
 let ⟨b,off,e,hc⟩:=h hne
 ⟨b,off,e,fun j u hj=>(Below.cell hx (p:=⟨b,off+j,none⟩) (hA hne ⟨b,off,none⟩ e)).trans (hc j u hj)⟩
theorem Sl.below {B:Nat} {w w':World} {v:Value} {n:Nat} {cs:List Value} (h:Sl B w v n cs) (hx:Below B w w'):Sl B w' v n cs:=by
 obtain⟨A,c,e,h1,h2,h3⟩:=h
 exact⟨A,c,e,Rd.below h1 h2 hx,h2,h3⟩
theorem Sl.mono {B B':Nat} {w:World} {v:Value} {n:Nat} {cs:List Value} (h:Sl B w v n cs) (hB:B≤B'):Sl B' w v n cs:=by
 obtain⟨A,c,e,h1,h2,h3⟩:=h
 exact⟨A,c,e,h1,fun hne a ha=>Nat.lt_of_lt_of_le (h2 hne a ha) hB,h3⟩
theorem Sl.ofOwn {B:Nat} {w:World} {base:Nat} {e:TypeId} {size n:Nat} {v:Value} {xs:List Value} (h:w.ownsRow base e size v n xs) (hB:w.heap.size≤B):Sl B w v n xs:=by
 obtain⟨A,c,e1,h1,h2,h3,h4⟩:=Rd.of_own h
 refine⟨A,c,e1,h3,fun _ a ha=>?_,h1,h2,fun ha=>?_⟩
 ·have:=(h.lt a.block (by rw[e1,ha];rfl)).2;omega
 ·rcases h.2 with⟨e2,_⟩|⟨g,cap,cur,e2,_⟩
  ·rw[e1] at e2;injection e2
  ·rw[e1,ha] at e2;injection e2 with e2;cases e2
def intsZ (l:List Int):List Value:=l.map (Value.int .i64)
def fldZ (f:ByteArray×Bool×Int):List Value:=[.string f.1,.bool f.2.1,.int .i64 f.2.2]
def fldsZ (l:List (ByteArray×Bool×Int)):List Value:=l.flatMap fldZ
def neC (d:Ne) (v:V3):List Value:=[.int .i64 d.k,.string d.name,.int .i64 d.size,v.1,v.2.1,v.2.2]
def nesC:List Ne→List V3→List Value
 | d::ns,v::vs=>neC d v++nesC ns vs
 | _,_=>[]
structure SubE (B:Nat) (w:World) (d:Ne) (v:V3):Prop where
 syms:Sl B w v.1 d.syms.length (txs d.syms)
 items:Sl B w v.2.1 d.items.length (intsZ d.items)
 fields:Sl B w v.2.2 d.fields.length (fldsZ d.fields)
 rng : -9223372036854775808≤d.size∧d.size≤9223372036854775807
def Sch (B:Nat) (w:World) (vn:Value) (ns:List Ne):Prop:=∃vs:List V3,vs.length=ns.length∧Sl B w vn ns.length (nesC ns vs)∧∀(i:Nat) d v,ns[i]?=some d→vs[i]?=some v→SubE B w d v
theorem Sch.below {B:Nat} {w w':World} {vn:Value} {ns:List Ne} (h:Sch B w vn ns) (hx:Below B w w'):Sch B w' vn ns:=by
 obtain⟨vs,h1,h2,h3⟩:=h
 exact⟨vs,h1,h2.below hx,fun i d v q1 q2=>let s:=h3 i d v q1 q2;⟨s.syms.below hx,s.items.below hx,s.fields.below hx,s.rng⟩⟩
theorem Sch.mono {B B':Nat} {w:World} {vn:Value} {ns:List Ne} (h:Sch B w vn ns) (hB:B≤B'):Sch B' w vn ns:=by
 obtain⟨vs,h1,h2,h3⟩:=h
 exact⟨vs,h1,h2.mono hB,fun i d v q1 q2=>let s:=h3 i d v q1 q2;⟨s.syms.mono hB,s.items.mono hB,s.fields.mono hB,s.rng⟩⟩
theorem intsZ_ofNat (l:List Nat):intsZ (l.map fun (n:Nat)=>(n:Int))=ints l:=by simp[intsZ,ints,Function.comp_def]
theorem fldsZ_ofNat (l:List (ByteArray×Bool×Nat)):fldsZ (l.map fun f=>(f.1,f.2.1,(f.2.2:Int)))=flds l:=by simp[fldsZ,flds,List.flatMap_map,fldZ,Function.comp_def];rfl
theorem nesC_toE:∀(ns:List Nd) (vs:List V3),nesC (ns.map Nd.toE) vs=ndsC ns vs
 | [],[]=>rfl
 | [],_::_=>rfl
 | _::_,[]=>rfl
 | d::ns,v::vs=>by rw[List.map_cons,nesC,ndsC,nesC_toE ns vs];rfl
theorem Sch.ofNds {B B':Nat} {w:World} {vn:Value} {ns:List Nd} {vs:List V3} (h:Nds B w ns vs vn) (hB:w.heap.size≤B') (hr:∀d∈ns,-9223372036854775808≤d.size∧d.size≤9223372036854775807):Sch B' w vn (ns.map Nd.toE):=by
 refine⟨vs,by simp[h.len],?_,fun i d v q1 q2=>?_⟩
 ·rw[nesC_toE,List.length_map];exact Sl.ofOwn h.row hB
 ·rw[List.getElem?_map] at q1
  obtain⟨d0,q3,rfl⟩:=Option.map_eq_some_iff.1 q1
  have hs:=h.sub i d0 v q3 q2
  refine⟨Sl.ofOwn hs.syms hB,?_,?_,hr d0 (List.mem_of_getElem? q3)⟩
  ·show Sl B' w v.2.1 (d0.items.map fun (n:Nat)=>(n:Int)).length (intsZ (d0.items.map fun (n:Nat)=>(n:Int)))
   rw[intsZ_ofNat,List.length_map];exact Sl.ofOwn hs.items hB
  ·show Sl B' w v.2.2 (d0.fields.map fun f=>(f.1,f.2.1,(f.2.2:Int))).length (fldsZ (d0.fields.map fun f=>(f.1,f.2.1,(f.2.2:Int))))
   rw[fldsZ_ofNat,List.length_map];exact Sl.ofOwn hs.fields hB
theorem nesC_at:∀(ns:List Ne) (vs:List V3) (j:Nat) (d:Ne) (v:V3),ns[j]?=some d→vs[j]?=some v→∀i,i<6→(nesC ns vs)[j*6+i]?=(neC d v)[i]?
 | [],vs,j,d,v,h,_,i,hi=>by simp at h
 | _::_,[],j,d,v,_,h,i,hi=>by simp at h
 | y::l,u::r,0,d,v,h,h2,i,hi=>by
  simp at h h2;subst h;subst h2
  rw[nesC,List.getElem?_append_left (by simp[neC];omega)]
  congr 1;omega
 | y::l,u::r,j+1,d,v,h,h2,i,hi=>by
  have ih:=nesC_at l r j d v (by simpa using h) (by simpa using h2) i hi
  rw[nesC,List.getElem?_append_right (by simp[neC];omega)]
  rw[←ih]
  congr 1
  simp[neC];omega
theorem Sch.node {B:Nat} {w:World} {vn:Value} {ns:List Ne} (h:Sch B w vn ns) (j:Nat) (hj:j<ns.length):∃v b off c,vn=.slice (some ⟨b,off,none⟩) ns.length c∧b<B∧SubE B w (ns.getD j neD) v∧ns.length≤c∧c≤maxLen∧∀i,i<6→w.cell? ⟨b,off+(j*6+i),none⟩=(neC (ns.getD j neD) v)[i]?:=by
 obtain⟨vs,h1,⟨A,c,e,h3,h4,h5,h6,_⟩,h2⟩:=h
 obtain⟨d,hd⟩:∃d,ns[j]?=some d:=⟨_,List.getElem?_eq_getElem hj⟩
 obtain⟨v,hv⟩:∃v,vs[j]?=some v:=⟨_,List.getElem?_eq_getElem (by rw[h1];exact hj)⟩
 have hg:ns.getD j neD=d:=by simp[List.getD,hd]
 have hne:nesC ns vs≠[]:=by
  intro e
  have:=nesC_at ns vs j d v hd hv 0 (by omega)
  rw[e] at this
  simp[neC] at this
 obtain⟨b,off,rfl,hc⟩:=h3 hne
 refine⟨v,b,off,c,e,h4 hne _ rfl,by rw[hg];exact h2 j d v hd hv,h5,h6,fun i hi=>?_⟩
 rw[hg,←nesC_at ns vs j d v hd hv i hi]
 have hlt:i<(neC d v).length:=hi
 have hq:=nesC_at ns vs j d v hd hv i hi
 rw[List.getElem?_eq_getElem hlt] at hq
 rw[hq]
 exact hc _ _ hq
structure WInv (B:Nat) (w:World) (W:Nat) (no:Value) (st:WSt):Prop where
 blk:∃p v,(p=none∨p=some (⟨W,0,none⟩:Addr))∧Blk w W #[.pointer p,v,no,.int .i64 (st.next:Int),.bool st.bad] 125∧w.ownsRow B 5 1 v st.s.length (u8s st.s)
 hW:B≤W
theorem WInv.size {B:Nat} {w:World} {W:Nat} {no:Value} {st:WSt} (h:WInv B w W no st):B≤w.heap.size:=by
 obtain⟨p,v,_,hb,_⟩:=h.blk
 have:=hb.lt;have:=h.hW;omega
theorem WInv.ext {B:Nat} {w w':World} {W:Nat} {no:Value} {st:WSt} (h:WInv B w W no st) (hx:Ext w w'):WInv B w' W no st:=by
 obtain⟨p,v,h1,h2,h3⟩:=h.blk
 exact⟨⟨p,v,h1,h2.ext hx,own_ext h3 hx⟩,h.hW⟩
structure WK (B:Nat) (w w':World):Prop where
 below:Below B w w'
 keep:∀g cs t,Blk w g cs t→t≠5→t≠125→Blk w' g cs t
 size:w.heap.size≤w'.heap.size
theorem WK.refl (B:Nat) (w:World):WK B w w:=⟨Below.refl B w,fun _ _ _ h _ _=>h,Nat.le_refl _⟩
theorem WK.trans {B:Nat} {a b c:World} (h:WK B a b) (k:WK B b c):WK B a c:=⟨h.below.trans k.below,fun g cs t hb h1 h2=>k.keep g cs t (h.keep g cs t hb h1 h2) h1 h2,Nat.le_trans h.size k.size⟩
theorem WK.ofExt {B:Nat} {a b:World} (h:Ext a b) (hB:B≤a.heap.size):WK B a b:=⟨Below.mono h hB,fun g cs t hb _ _=>hb.ext h,h.size⟩
theorem WK.set {B:Nat} {a b:World} (h:WK B a b) {m i:Nat} {cs:Array Value} (hb:Blk b m cs 125) (hm:B≤m) (u:Value):WK B a (b.setCell ⟨m,i,none⟩ u):=by
 refine⟨h.below.setCell (p:=⟨m,i,none⟩) hm u,fun g ds t hg h1 h2=>?_,?_⟩
 ·have:=h.keep g ds t hg h1 h2
  refine this.far (p:=⟨m,i,none⟩) (fun e=>?_) u
  have e:g=m:=e
  subst e
  unfold Blk at this hb
  rw[this] at hb
  injection hb with hb;injection hb with _ hb
  exact h2 hb
 ·have:=h.size;simpa using this
theorem WK.grown {B:Nat} {a b c:World} (h:WK B a b) {n:Nat} {v:Value} {xs:List Value} (ho:b.ownsRow B 5 1 v n xs) (hg:b.grownBy c v.ownBlock) (hB:B≤b.heap.size):WK B a c:=
 ⟨Below.grown h.below hg hB (fun k hk=>(ho.lt k hk).1),fun g cs t hb h1 h2=>by
  have:=h.keep g cs t hb h1 h2
  exact this.grown hg (own_ne_blk ho this (fun e=>h1 e.symm)),Nat.le_trans h.size hg.size⟩
theorem own_slice {w:World} {base:Nat} {e:TypeId} {size n:Nat} {v:Value} {xs:List Value} (h:w.ownsRow base e size v n xs):∃A cap,v=.slice A n cap:=by
 rcases h.2 with⟨rfl,h0⟩|⟨g,cap,cur,rfl,_⟩
 ·exact⟨none,0,by rw[h0]⟩
 ·exact⟨_,cap,rfl⟩
theorem el_u8w:El Tryz.prog 32 5 (.int .u8 0) 1 1:=⟨by kernel_rfl,by kernel_rfl,rfl,by omega⟩
theorem wcheck_any (w:World) (b:Nat) (v no x y:Value) (p:Option Addr) (hp:p=none∨p=some (⟨b,0,none⟩:Addr)) (hb:Blk w b #[.pointer p,v,no,x,y] 125) :
  Calls Tryz.prog 119 #[.pointer (some ⟨b,0,none⟩)] w fun e w'=>e=.returned (.tuple #[])∧w'=(if p=none then w.setCell ⟨b,0,none⟩ (.pointer (some ⟨b,0,none⟩)) else w):=by
 have c0:=hb.cell 0
 have f0:=hb.frozen 0
 rcases hp with rfl|rfl
 ·have c0:w.cell? ⟨b,0,none⟩=some (.pointer none):=c0
  have hsh:w.shape? b=some (125,5):=by simp[World.shape?,show w.heap[b]?=_ from hb]
  obtain⟨j,hj,hjs⟩:=Option.map_eq_some_iff.1 (show (Tryz.prog.info? 123).map (·.size)=some 2 by kernel_rfl)
  have k1:=Lib.run_to_unsafe (P:=Tryz.prog) (w:=w) (src:=121) (dst:=157) ⟨b,0,none⟩ Tryz.underlying121 Tryz.underlying157 hj (by rw[hjs];decide) hsh (Nat.zero_lt_succ 4)
  have k2:=@run_callFunc_extern Tryz.prog 131 _ Extern.AbiNoEscape.same Tryz.func131 (by kernel_rfl) (by kernel_rfl) (by kernel_rfl) (by kernel_rfl)
  have k3:=Lib.run_noEscape (P:=Tryz.prog) (w:=w) (.pointer (some ⟨b,0,none⟩))
  have k4:=Lib.run_from_unsafe (P:=Tryz.prog) (w:=w) (src:=157) (dst:=121) ⟨b,0,none⟩ Tryz.underlying157 Tryz.underlying121 hj hsh (by kernel_rfl)
  go_enter Tryz.func119,Tryz.ntmps119
  go_wp2_with fail
  go_end0
  exact⟨rfl,rfl⟩
 ·have c0:w.cell? ⟨b,0,none⟩=some (.pointer (some ⟨b,0,none⟩)):=c0
  obtain⟨j,hj,_⟩:=Option.map_eq_some_iff.1 (show (Tryz.prog.info? 123).map (·.size)=some 2 by kernel_rfl)
  have k5:=Lib.run_neq_ptr_same (P:=Tryz.prog) w ⟨b,0,none⟩ Tryz.underlying121 hj
  go_enter Tryz.func119,Tryz.ntmps119
  go_wp2_with fail
  go_end0
  exact⟨rfl,rfl⟩
theorem strCells_u8s (s:ByteArray):Lib.strCells s=u8s (bs s):=by simp[Lib.strCells,u8s,bs]
theorem wstr_any {B:Nat} {w:World} {W:Nat} {no:Value} {st:WSt} (t:ByteArray) (h:WInv B w W no st) (hl:st.s.length+t.size≤100000000) :
  Calls Tryz.prog 107 #[.pointer (some ⟨W,0,none⟩),.string t] w fun e w'=>e=.returned (.tuple #[.int .i64 (t.size:Int),.nilIface])∧WK B w w'∧WInv B w' W no (st.put (bs t)):=by
 obtain⟨p,v,hp,hb,ho⟩:=h.blk
 have hW:=h.hW
 have hck:=wcheck_any w W v no _ _ p hp hb
 generalize hw1:(if p=none then w.setCell ⟨W,0,none⟩ (.pointer (some ⟨W,0,none⟩)) else w)=w1 at hck
 have hb1:Blk w1 W #[.pointer (some ⟨W,0,none⟩),v,no,.int .i64 (st.next:Int),.bool st.bad] 125:=by
  rw[←hw1]
  rcases hp with rfl|rfl
  ·have:=hb.set 0 (.pointer (some ⟨W,0,none⟩));simpa using this
  ·simpa using hb
 have ho1:w1.ownsRow B 5 1 v st.s.length (u8s st.s):=by
  rw[←hw1]
  split
  ·exact own_setCell ho hb (by decide) _
  ·exact ho
 have hx1:WK B w w1:=by
  rw[←hw1]
  split
  ·exact (WK.refl B w).set hb hW _
  ·exact WK.refl B w
 have hB1:B≤w1.heap.size:=by have:=hb1.lt;omega
 clear hw1 hb ho hp h
 obtain⟨A,cap,rfl⟩:=own_slice ho1
 obtain⟨n,hn⟩:∃n,Hid (st.s.length=n):=⟨_,rfl⟩
 have hn2:n+t.size≤100000000:=by rw[←hn.out];exact hl
 rw[hn.out] at hb1 ho1
 have c1:w1.cell? ⟨W,1,none⟩=some (.slice A n cap):=hb1.cell 1
 obtain⟨i,hi,hz,hs,hby⟩:=info_parts el_u8w.info
 have hcl:(u8s (bs t)).length=t.size:=by rw[u8s_length];exact size_list t
 go_enter Tryz.func107,Tryz.ntmps107
 go_wp2_with fail
 refine hck.mono ?_
 rintro e w' ⟨rfl,hw⟩
 have hw:=hw.symm
 subst hw
 go_wp2_with (
  refine Lib.wpList_append_own_string _ rfl (.tmp 12) (.tmp 13) 32 9 rfl B 5 i el_u8w.under Tryz.underlying9 hi hz hs hby (.slice A n cap) n (u8s st.s) rfl ho1 t rfl (by unfold maxLen;omega) (by omega) hB1 (fun V2 w2 ho2 hg2 hv2=>?_)
  obtain⟨A2,cap2,rfl⟩:=own_slice ho2
  have hb2:=hb1.grown hg2 (own_ne_blk ho1 hb1 (by decide))
  have f2:=hb2.frozen 1
  have c2:w2.cell? ⟨W,1,none⟩=some (.slice A n cap):=hb2.cell 1
  have hx2:WK B w w2:=hx1.grown ho1 hg2 hB1
  have hbq:=hb2.set 1 (.slice A2 (n+t.size) cap2)
  have hoq:=own_setCell (i:=1) ho2 hb2 (by decide) (.slice A2 (n+t.size) cap2))
 go_ret2
 refine⟨rfl,hx2.set hb2 hW _,⟨_,.slice A2 (n+t.size) cap2,.inr rfl,hbq,?_⟩,hW⟩
 rw[strCells_u8s,←u8s_append] at hoq
 have:(st.put (bs t)).s.length=n+t.size:=by rw[WSt.put_len,hn.out];exact congrArg (n + ·) (size_list t)
 rw[this]
 exact hoq
theorem wlen_any {B:Nat} {w:World} {W:Nat} {no:Value} {st:WSt} (h:WInv B w W no st) :
  Calls Tryz.prog 106 #[.pointer (some ⟨W,0,none⟩)] w fun e w'=>e=.returned (.int .i64 (st.s.length:Int))∧w=w':=by
 obtain⟨p,v,hp,hb,ho⟩:=h.blk
 obtain⟨A,cap,rfl⟩:=own_slice ho
 obtain⟨n,hn⟩:∃n,Hid (st.s.length=n):=⟨_,rfl⟩
 rw[hn.out] at hb ⊢
 have c1:w.cell? ⟨W,1,none⟩=some (.slice A n cap):=hb.cell 1
 clear hb ho h
 go_enter Tryz.func106,Tryz.ntmps106
 go_wp2_with fail
 go_ret
 exact⟨rfl,rfl⟩
theorem wk_freeze {B:Nat} {w:World} {g n:Nat} {cur:Array Value} {fr:Nat×Nat} (hg:w.heap[g]?=some (.cells cur 5 fr)) (hB:B≤g):WK B w (w.freeze ⟨g,0,none⟩ n):=by
 refine⟨Lib.below_freeze (Below.refl B w) (p:=⟨g,0,none⟩) hB _,fun g' cs t hb h1 h2=>?_,?_⟩
 ·have hne:¬g=g':=fun e=>by
   subst e
   unfold Blk at hb
   rw[hb] at hg
   injection hg with hg;injection hg with _ hg
   exact h1 hg
  unfold World.freeze
  split
  ·exact hb
  ·unfold Blk
   simp only[Array.getElem?_modify]
   rw[if_neg hne]
   exact hb
 ·unfold World.freeze
  split
  ·exact Nat.le_refl _
  ·simp
theorem wstring_any {B:Nat} {w:World} {W:Nat} {no:Value} {st:WSt} (h:WInv B w W no st) (hl:st.s.length≤100000000) (hne:st.s≠[]) :
  Calls Tryz.prog 95 #[.pointer (some ⟨W,0,none⟩)] w fun e w'=>e=.returned (.string ⟨st.s.toArray⟩)∧WK B w w':=by
 obtain⟨p,v,hp,hb,ho⟩:=h.blk
 have hsz:=h.size
 obtain⟨s,hs⟩:∃s,s=st.s:=⟨_,rfl⟩
 rw[←hs] at ho hl hne ⊢
 have hn0:s.length≠0:=fun e=>hne (List.eq_nil_of_length_eq_zero e)
 obtain⟨g,cap,cur,rfl,hbg,hg,hnc,hcm,hcs,htake⟩:∃g cap cur,v=.slice (some ⟨g,0,none⟩) s.length cap∧B≤g∧w.heap[g]?=some (.cells cur 5 (0,0))∧s.length≤cap∧cap≤maxLen∧cur.size=cap*1∧cur.toList.take (s.length*1)=u8s s:=by
  rcases ho.2 with⟨_,h0⟩|⟨g,cap,cur,hv,r⟩
  ·exact absurd h0 hn0
  ·exact⟨g,cap,cur,hv,r⟩
 obtain⟨n,hn⟩:∃n,Hid (s.length=n):=⟨_,rfl⟩
 have hn1:1≤n:=by have:=hn.out;omega
 have hn2:n≤100000000:=by have:=hn.out;omega
 have hsh:w.drew.shape? g=some (5,cur.size):=by simp[World.shape?,show w.drew.heap[g]?=_ from hg]
 have hcell:∀j x,s[j]?=some x→w.drew.cell? ((⟨g,0,none⟩:Addr).add j)=some (.int .u8 (x.toNat:Int)):=fun j x hj=>by
  have hadd:(⟨g,0,none⟩:Addr).add j=⟨g,j,none⟩:=by unfold Addr.add;split<;>simp_all
  have hj2:(u8s s)[j]?=some (.int .u8 (x.toNat:Int)):=by simp[u8s,hj]
  rw[hadd,show w.drew.cell? ⟨g,j,none⟩=cur[j]? from cell_of_row w.drew g j cur 5 (0,0) hg]
  rw[←htake,List.getElem?_take] at hj2
  split at hj2
  ·simpa using hj2
  ·cases hj2
 have hUS:=Lib.run_unsafeString_row (P:=Tryz.prog) w.drew 140 3 9 5 Tryz.underlying140 (by kernel_rfl) g cur.size hsh s hne (by omega) (by omega) hcell
 have hSD:=Lib.run_unsafeSliceData_row (P:=Tryz.prog) w.drew #[32] 140 ⟨g,0,none⟩ n cap (by omega)
 rw[hn.out] at hUS hb
 have c1:w.drew.cell? ⟨W,1,none⟩=some (.slice (some ⟨g,0,none⟩) n cap):=hb.cell 1
 have hxf:WK B w (w.drew.freeze ⟨g,0,none⟩ n):=(WK.ofExt ((Ext.refl w).drew) hsz).trans (wk_freeze (show w.drew.heap[g]?=_ from hg) hbg)
 clear hcell hsh htake hcs hg ho hn0 hnc hcm hs h hb hp
 go_enter Tryz.func95,Tryz.ntmps95
 go_wp2_with fail
 go_region
 all_goals go_wp2_with fail
 all_goals go_ret
 all_goals exact⟨rfl,hxf⟩
end Pr
namespace Shf
open Go.Shelf
def ren:Ren:=⟨fun|129=>165|156=>109|165=>120|166=>107|169=>95|171=>110|240=>119|241=>132|243=>121|246=>133|276=>131|277=>153|283=>154|284=>155|285=>156|286=>157|317=>164|318=>166|319=>167|320=>168|337=>171|338=>172|n=>n,fun|0=>0|2=>2|3=>3|4=>4|5=>5|9=>9|20=>20|31=>25|37=>32|46=>70|51=>174|53=>66|70=>121|72=>123|75=>133|76=>134|80=>82|127=>140|164=>157|171=>166|173=>168|212=>173|213=>175|232=>179|233=>180|n=>n,fun|17=>2|18=>3|19=>4|n=>n⟩
theorem l_LaysM_n171:LaysM.n171 Tryz.prog ren:={
 mixed:=by kernel_rfl
 f129:=by kernel_rfl
 f171:=by kernel_rfl
 f243:=by kernel_rfl
 f246:=by kernel_rfl
 f283:=by kernel_rfl
 f284:=by kernel_rfl
 f285:=by kernel_rfl
 f286:=by kernel_rfl
 f317:=by kernel_rfl
 f318:=by kernel_rfl
 f319:=by kernel_rfl
 f320:=by kernel_rfl
 f337:=by kernel_rfl
 f338:=by kernel_rfl
 t0:=by kernel_rfl
 a0:=fun _=>by kernel_rfl
 z0:=fun _=>by kernel_rfl
 v0:=fun _=>by kernel_rfl
 t2:=by kernel_rfl
 a2:=fun _=>by kernel_rfl
 z2:=fun _=>by kernel_rfl
 v2:=fun _=>by kernel_rfl
 t3:=by kernel_rfl
 a3:=fun _=>by kernel_rfl
 z3:=fun _=>by kernel_rfl
 v3:=fun _=>by kernel_rfl
 t4:=by kernel_rfl
 a4:=fun _=>by kernel_rfl
 z4:=fun _=>by kernel_rfl
 v4:=fun _=>by kernel_rfl
 t5:=by kernel_rfl
 a5:=fun _=>by kernel_rfl
 z5:=fun _=>by kernel_rfl
 v5:=fun _=>by kernel_rfl
 t9:=by kernel_rfl
 a9:=fun _=>by kernel_rfl
 z9:=fun _=>by kernel_rfl
 v9:=fun _=>by kernel_rfl
 t20:=by kernel_rfl
 a20:=fun _=>by kernel_rfl
 z20:=fun _=>by kernel_rfl
 v20:=fun _=>by kernel_rfl
 t37:=by kernel_rfl
 a37:=fun _=>by kernel_rfl
 z37:=fun _=>by kernel_rfl
 v37:=fun _=>by kernel_rfl
 t46:=by kernel_rfl
 a46:=fun _=>by kernel_rfl
 z46:=fun _=>by kernel_rfl
 v46:=fun _=>by kernel_rfl
 t51:=by kernel_rfl
 a51:=fun _=>by kernel_rfl
 z51:=fun _=>by kernel_rfl
 v51:=fun _=>by kernel_rfl
 t53:=by kernel_rfl
 a53:=fun _=>by kernel_rfl
 z53:=fun _=>by kernel_rfl
 v53:=fun _=>by kernel_rfl
 t171:=by kernel_rfl
 a171:=fun _=>by kernel_rfl
 z171:=fun _=>by kernel_rfl
 v171:=fun _=>by kernel_rfl
 t173:=by kernel_rfl
 a173:=fun _=>by kernel_rfl
 z173:=fun _=>by kernel_rfl
 v173:=fun _=>by kernel_rfl
 t212:=by kernel_rfl
 a212:=fun _=>by kernel_rfl
 z212:=fun _=>by kernel_rfl
 v212:=fun _=>by kernel_rfl
 t213:=by kernel_rfl
 a213:=fun _=>by kernel_rfl
 z213:=fun _=>by kernel_rfl
 t232:=by kernel_rfl
 a232:=fun _=>by kernel_rfl
 z232:=fun _=>by kernel_rfl
 v232:=fun _=>by kernel_rfl
 t233:=by kernel_rfl
 a233:=fun _=>by kernel_rfl
 z233:=fun _=>by kernel_rfl
 v233:=fun _=>by kernel_rfl
 g17:=by kernel_rfl
 g18:=by kernel_rfl
 g19:=by kernel_rfl
 i0:=by kernel_rfl
 i2:=by kernel_rfl
 i3:=by kernel_rfl
 i4:=by kernel_rfl
 i5:=by kernel_rfl
 i9:=by kernel_rfl
 i20:=by kernel_rfl
 i37:=by kernel_rfl
 i46:=by kernel_rfl
 i51:=by kernel_rfl
 i53:=by kernel_rfl
 i171:=by kernel_rfl
 i173:=by kernel_rfl
 i212:=by kernel_rfl
 i232:=by kernel_rfl
 i233:=by kernel_rfl
 m17:=by kernel_rfl
 m18:=by kernel_rfl
 m19:=by kernel_rfl }
theorem l_Lays_n156:Lays.n156 Tryz.prog ren:={
 mixed:=by kernel_rfl
 f156:=by kernel_rfl
 f165:=by kernel_rfl
 f166:=by kernel_rfl
 f169:=by kernel_rfl
 f240:=by kernel_rfl
 f241:=by kernel_rfl
 f276:=by kernel_rfl
 f277:=by kernel_rfl
 t0:=by kernel_rfl
 a0:=fun _=>by kernel_rfl
 z0:=fun _=>by kernel_rfl
 v0:=fun _=>by kernel_rfl
 t3:=by kernel_rfl
 a3:=fun _=>by kernel_rfl
 z3:=fun _=>by kernel_rfl
 v3:=fun _=>by kernel_rfl
 t4:=by kernel_rfl
 a4:=fun _=>by kernel_rfl
 z4:=fun _=>by kernel_rfl
 v4:=fun _=>by kernel_rfl
 t9:=by kernel_rfl
 a9:=fun _=>by kernel_rfl
 z9:=fun _=>by kernel_rfl
 v9:=fun _=>by kernel_rfl
 t20:=by kernel_rfl
 a20:=fun _=>by kernel_rfl
 z20:=fun _=>by kernel_rfl
 v20:=fun _=>by kernel_rfl
 t31:=by kernel_rfl
 a31:=fun _=>by kernel_rfl
 z31:=fun _=>by kernel_rfl
 v31:=fun _=>by kernel_rfl
 t37:=by kernel_rfl
 a37:=fun _=>by kernel_rfl
 z37:=fun _=>by kernel_rfl
 v37:=fun _=>by kernel_rfl
 t70:=by kernel_rfl
 a70:=fun _=>by kernel_rfl
 z70:=fun _=>by kernel_rfl
 v70:=fun _=>by kernel_rfl
 t72:=by kernel_rfl
 a72:=fun _=>by kernel_rfl
 z72:=fun _=>by kernel_rfl
 v72:=fun _=>by kernel_rfl
 t75:=by kernel_rfl
 a75:=fun _=>by kernel_rfl
 z75:=fun _=>by kernel_rfl
 v75:=fun _=>by kernel_rfl
 t76:=by kernel_rfl
 a76:=fun _=>by kernel_rfl
 z76:=fun _=>by kernel_rfl
 v76:=fun _=>by kernel_rfl
 t127:=by kernel_rfl
 a127:=fun _=>by kernel_rfl
 z127:=fun _=>by kernel_rfl
 v127:=fun _=>by kernel_rfl
 t164:=by kernel_rfl
 a164:=fun _=>by kernel_rfl
 z164:=fun _=>by kernel_rfl
 v164:=fun _=>by kernel_rfl }
theorem l_Builder_Extra:Builder.Extra Tryz.prog ren:={
 sizeBuilder:=by kernel_rfl
 liesBuilder:=by kernel_rfl
 t5:=by kernel_rfl
 a5:=fun _=>by kernel_rfl
 z5:=fun _=>by kernel_rfl
 v5:=fun _=>by kernel_rfl
 infoByte:=by kernel_rfl
 cellsByte:=by kernel_rfl
 sizeByte:=by kernel_rfl
 neB5:=by decide }
end Shf
namespace Pr
open Go.ChangeShapes Go.WideShapes Go.ChangeAt Go.RowKit
open Base Lx Mi
def Pow (w:World):Prop:=Lib.TabIs Tryz.prog w "internal/strconv.uint64pow10" .u64 Lib.pow10Tab
theorem powG:Tryz.prog.globalNamed "internal/strconv.uint64pow10" = some 2:=by kernel_rfl
theorem Pow.heap {w w':World} (h:Pow w) (hh:w'.heap[2]?=w.heap[2]?):Pow w':=by
 unfold Pow Lib.TabIs World.var? at *
 rw[powG] at *
 simp only[Option.bind_some,hh] at *
 exact h
theorem Pow.lt {w:World} (h:Pow w):2<w.heap.size:=by
 unfold Pow Lib.TabIs World.var? at h
 rw[powG] at h
 simp only[Option.bind_some] at h
 rcases Nat.lt_or_ge 2 w.heap.size with h1|h1
 ·exact h1
 ·rw[Array.getElem?_eq_none h1] at h;cases h
theorem Pow.ext {w w':World} (h:Pow w) (hx:Ext w w'):Pow w':=h.heap (hx.block _ h.lt)
theorem Pow.below {B:Nat} {w w':World} (h:Pow w) (hx:Below B w w') (hB:2<B):Pow w':=h.heap (hx.block _ hB)
theorem ext_grow (w:World) (os:Array Obj):Ext w (Sort.grow w os):=⟨rfl,rfl,rfl,by simp[Sort.grow],fun k hk=>Sort.heap_grow_old w os hk⟩
theorem inter_len (sep:UInt8):∀(m:List (List UInt8)),m.length≤(([sep]:List UInt8).intercalate m).length+1
 | []=>by simp
 | [a]=>by simp
 | a::b::l=>by
  have ih:=inter_len sep (b::l)
  have e:([sep]:List UInt8).intercalate (a::b::l)=a++[sep]++([sep]:List UInt8).intercalate (b::l):=by
   simp[List.intercalate]
  rw[e]
  simp only[List.length_append,List.length_cons,List.length_nil] at *
  omega
theorem itoa_any (n:Int) (h0 : -9223372036854775808≤n) (h1:n≤9223372036854775807) (w:World) (hp:Pow w) :
  Calls Tryz.prog 110 #[.int .i64 n] w fun e w'=>e=.returned (.string ⟨(Lib.itoa n).toArray⟩)∧Ext w w':=
 (Any.strconv_Itoa Shf.l_LaysM_n171 n h0 h1 w hp).mono fun e w' ⟨he,k,os,hw⟩=>⟨he,by rw[hw];exact ((Ext.refl w).drewN k).trans (ext_grow _ os)⟩
theorem join_any {B:Nat} {w:World} {v:Value} (l:List ByteArray) (hs:Sl B w v l.length (txs l)) (hB:B≤w.heap.size) (hl:((([44]:List UInt8).intercalate (l.map bs)).length≤100000000)) :
  Calls Tryz.prog 109 #[v,.string ⟨#[44]⟩] w fun e w'=>e=.returned (.string ⟨(([44]:List UInt8).intercalate (l.map bs)).toArray⟩)∧Ext w w':=by
 obtain⟨A,c,rfl,hr,hA,hc,hm,hn⟩:=hs
 cases l with
 | nil=>exact (Any.strings_Join_none Shf.l_Lays_n156 Shf.l_Builder_Extra A c ⟨#[44]⟩ w).mono fun e w' ⟨he,hw⟩=>⟨by rw[he];rfl,by rw[hw];exact Ext.refl w⟩
 | cons x l=>
  obtain⟨b,off,rfl,hcell⟩:=hr (by simp[txs])
  have:=hA (by simp[txs]) _ rfl
  unfold maxLen at hm
  refine (Any.strings_Join Shf.l_Lays_n156 Shf.l_Builder_Extra b off c (x::l) ⟨#[44]⟩ w (fun j y hy=>hcell j _ (by unfold txs;rw[List.getElem?_map,hy];rfl)) (by simp only at this;omega) ?_ hc ?_).mono fun e w' ⟨he,hw⟩=>⟨by rw[he];rfl,hw⟩
  ·have h1:=inter_len 44 ((x::l).map bs)
   rw[List.length_map] at h1
   omega
  ·exact Nat.le_trans hl (by omega)
structure En (B:Nat) (w:World) (no:Value) (ns:List Ne):Prop where
 sch:Sch B w no ns
 wd:Wd w
 pow:Pow w
 low:2<B
theorem En.below {B:Nat} {w w':World} {no:Value} {ns:List Ne} (h:En B w no ns) (hx:Below B w w'):En B w' no ns:=
 ⟨h.sch.below hx,Rd.below h.wd (fun _ a e=>by injection e with e;rw[←e];have:=h.low;show 0<B;omega) hx,h.pow.below hx (by have:=h.low;omega),h.low⟩
def WTypC (B W:Nat) (no:Value) (ns:List Ne) (f deep:Nat):Prop:=∀(n:Int) (st:WSt) (w:World),WInv B w W no st→En B w no ns→(wtyp ns f n st).s.length≤100000000→
 Calls Tryz.prog 94 #[.pointer (some ⟨W,0,none⟩),.int .i64 n,.int .i64 (deep:Int)] w fun e w'=>e=.returned (.tuple #[])∧WK B w w'∧WInv B w' W no (wtyp ns f n st)
theorem bs_size (t:ByteArray):(bs t).length=t.size:=size_list t
theorem Sl.at_ {B:Nat} {w:World} {v:Value} {n:Nat} {cs:List Value} (h:Sl B w v n cs):∃A c,v=.slice A n c∧n≤c∧c≤maxLen∧(A=none→c=0)∧∀(k:Nat) u,cs[k]?=some u→∃b off,A=some ⟨b,off,none⟩∧b<B∧∀W,Below B w W→∀(j:Nat) u,cs[j]?=some u→W.cell? ⟨b,off+j,none⟩=some u:=by
 obtain⟨A,c,e,h1,h2,h3,h4,h5⟩:=h
 refine⟨A,c,e,h3,h4,h5,fun k u hu=>?_⟩
 have hne:cs≠[]:=by rintro rfl;simp at hu
 obtain⟨b,off,rfl,hc⟩:=h1 hne
 refine⟨b,off,rfl,h2 hne _ rfl,fun W hW j u hj=>?_⟩
 exact (Below.cell hW (p:=⟨b,off+j,none⟩) (by have:=h2 hne _ rfl;exact this)).trans (hc j u hj)
def WlAt (B W:Nat) (no:Value) (w0:World) (T:WT) (l:List Int) (fin:WSt) (i:Nat) (wr:World):Prop:=WK B w0 wr∧∃st,WInv B wr W no st∧Hid (wlist T (decide (i=0)) (l.drop i) st=fin)
theorem witems_any {B W f deep:Nat} {no:Value} {ns:List Ne} (H:WTypC B W no ns f (deep+1)) (hd:deep≤100) (op sh:ByteArray) (l:List Int) (vl:Value) (st:WSt) (w:World) (h:WInv B w W no st) (hS:En B w no ns) (hl:Sl B w vl l.length (intsZ l)) (hL:(witems (wtyp ns f) (bs op) l (bs sh) st).s.length≤100000000) :
  Calls Tryz.prog 108 #[.pointer (some ⟨W,0,none⟩),.string op,vl,.string sh,.int .i64 (deep:Int)] w fun e w'=>e=.returned (.tuple #[])∧WK B w w'∧WInv B w' W no (witems (wtyp ns f) (bs op) l (bs sh) st):=by
 obtain⟨T,hT⟩:∃T,T=wtyp ns f:=⟨_,rfl⟩
 have hG:WG T:=by rw[hT];exact wtyp_len ns f
 have H:∀(n:Int) (st:WSt) (w:World),WInv B w W no st→En B w no ns→(T n st).s.length≤100000000→Calls Tryz.prog 94 #[.pointer (some ⟨W,0,none⟩),.int .i64 n,.int .i64 ((deep:Int)+1)] w fun e w'=>e=.returned (.tuple #[])∧WK B w w'∧WInv B w' W no (T n st):=by
  rw[hT];intro n st w;have:=H n st w;rw[show ((deep+1:Nat):Int)=(deep:Int)+1 by omega] at this;exact this
 rw[←hT] at hL ⊢
 clear hT
 obtain⟨fin,hfin⟩:∃z,Hid (wlist T true l (st.put (bs op))=z):=⟨_,rfl⟩
 have hL2:fin.s.length+sh.size≤100000000:=by
  have:(witems T (bs op) l (bs sh) st).s.length=fin.s.length+sh.size:=by unfold witems;rw[hfin.out,WSt.put_len,bs_size]
  omega
 have hres:witems T (bs op) l (bs sh) st=fin.put (bs sh):=by unfold witems;rw[hfin.out]
 rw[hres]
 clear hres hL
 have hop:st.s.length+op.size≤100000000:=by
  have h1:=wlist_len hG true l (st.put (bs op))
  rw[hfin.out,WSt.put_len,bs_size] at h1
  omega
 have hwo:=wstr_any op h hop
 obtain⟨A,c,rfl,hnc,hcm,hA,hat⟩:=hl.at_
 obtain⟨n,hn⟩:∃z,Hid (l.length=z):=⟨_,rfl⟩
 rw[hn.out] at hnc ⊢
 unfold maxLen at hcm
 have hdw:IntKind.i64.wrap ((deep:Int)+1)=(deep:Int)+1:=by rw[IntKind.wrap_i64];omega
 go_enter Tryz.func108,Tryz.ntmps108
 go_wp2_with fail
 refine hwo.mono ?_
 rintro e w1 ⟨rfl,hb1,h1⟩
 have hstart:WlAt B W no w T l fin 0 w1:=⟨hb1,_,h1,by rw[List.drop_zero];exact hfin⟩
 clear hwo h1 hb1 hfin hop
 go_wp2_with fail
 go_loopw [10,11,19,20,21,22,23,24,25,26,27,28,29,30,31,32,33,34,35] (fun v10 v11 v19 v20 v21 v22 v23 v24 v25 v26 v27 v28 v29 v30 v31 v32 v33 v34 v35 wr=>∃i:Nat,i≤n∧v19=.int .i64 i∧WlAt B W no w T l fin i wr) (fun _ _ v19 _ _ _ _ _ _ _ _ _ _ _ _ _ _ _ _ _=>n-(intOf v19).toNat)
 case atStart=>exact⟨0,by omega,rfl,hstart⟩
 case round=>
  obtain⟨i,hi,rfl,hbw,st1,hw1,hf1⟩:=hrel
  clear hstart
  by_cases hin:i<n
  ·have hin':(i:Int)<(n:Int):=by omega
   obtain⟨x,hxe⟩:∃x,l[i]?=some x:=⟨_,List.getElem?_eq_getElem (by have:=hn.out;omega)⟩
   have hxz:(intsZ l)[i]?=some (.int .i64 x):=by simp[intsZ,hxe]
   obtain⟨b,off,rfl,hbB,hc⟩:=hat i _ hxz
   have hck:∀W',Below B w W'→W'.cell? ⟨b,off+i,none⟩=some (.int .i64 x):=fun W' hW'=>hc W' hW' i _ hxz
   have hdrop:l.drop i=x::l.drop (i+1):=List.drop_eq_getElem?_toList_append .. |>.trans (by rw[hxe];rfl)
   have hf2:wlist T false (l.drop (i+1)) (T x (if decide (i=0) then st1 else st1.put [124]))=fin:=by rw[←hf1.out,hdrop,wlist]
   have hf3:wlist T (decide (i+1=0)) (l.drop (i+1)) (T x (if decide (i=0) then st1 else st1.put [124]))=fin:=by rw[←hf2];simp
   have hl2:=wlist_len hG false (l.drop (i+1)) (T x (if decide (i=0) then st1 else st1.put [124]))
   rw[hf2] at hl2
   have hl3:=hG x (if decide (i=0) then st1 else st1.put [124])
   have Hf3:=Lib.hid hf3
   have hck0:=hck wr hbw.below
   clear hf2 hf3 hxe hxz hc hdrop hf1
   by_cases hi0:i=0
   ·subst hi0
    rw[Nat.add_zero] at hck0
    rw[show decide ((0:Nat)=0)=true from rfl,if_pos rfl] at Hf3 hl2 hl3
    have hcall:=H x st1 wr hw1 (hS.below hbw.below) (by omega)
    go_wp2_with fail
    refine hcall.mono ?_
    rintro e w2 ⟨rfl,hb2,h2⟩
    go_wp2_with fail
    exact⟨⟨1,by omega,rfl,hbw.trans hb2,_,h2,Hf3⟩,by simp[intOf];omega⟩
   ·have hi0b:decide (i=0)=false:=by simpa using hi0
    have hpos:(0:Int)<(i:Int):=by omega
    rw[hi0b,if_neg (by decide)] at Hf3 hl2 hl3
    have hl4:=WSt.put_len st1 [124]
    have hbar:=wstr_any (B:=B) (W:=W) (no:=no) ⟨#[124]⟩ hw1 (by have:(⟨#[124]⟩:ByteArray).size=1:=rfl;simp only[List.length_cons,List.length_nil] at hl4;omega)
    go_wp2_with fail
    refine hbar.mono ?_
    rintro e w2 ⟨rfl,hb2,h2⟩
    have h2:WInv B w2 W no (st1.put [124]):=h2
    have hcall:=H x (st1.put [124]) w2 h2 (hS.below (hbw.trans hb2).below) (by omega)
    go_wp2_with fail
    refine hcall.mono ?_
    rintro e w3 ⟨rfl,hb3,h3⟩
    go_wp2_with fail
    exact⟨⟨i+1,by omega,by go_num,(hbw.trans hb2).trans hb3,_,h3,Hf3⟩,by simp[intOf];omega⟩
  ·obtain rfl:i=n:=by omega
   have hf2:st1=fin:=by rw[←hf1.out,←hn.out,List.drop_length,wlist]
   subst hf2
   have hend:=wstr_any sh hw1 hL2
   go_wp2_with fail
   refine hend.mono ?_
   rintro e w2 ⟨rfl,hb2,h2⟩
   go_wp2_with fail
   go_end0
   exact⟨rfl,hbw.trans hb2,h2⟩
end Pr
namespace Dm
open Go.ChangeShapes Go.WideShapes Go.ChangeAt Go.RowKit
open Base Pr
abbrev V2:=Value×Value
def dC (d:Da) (v:V2):List Value:=[.int .i64 d.n,.string d.s,v.1,v.2]
def dV (d:Da) (v:V2):Value:=.agg #[.int .i64 d.n,.string d.s,v.1,v.2]
def dsC:List Da→List V2→List Value
 | d::l,v::vs=>dC d v++dsC l vs
 | _,_=>[]
theorem el_dat:El Tryz.prog 26 28 (.agg #[.int .i64 0,.string ByteArray.empty,.slice none 0 0,.slice none 0 0]) 4 72:=⟨by kernel_rfl,by kernel_rfl,by kernel_rfl,by omega⟩
theorem dsC_at:∀(ns:List Da) (vs:List V2) (j:Nat) (d:Da) (v:V2),ns[j]?=some d→vs[j]?=some v→∀i,i<4→(dsC ns vs)[j*4+i]?=(dC d v)[i]?
 | [],vs,j,d,v,h,_,i,hi=>by simp at h
 | _::_,[],j,d,v,_,h,i,hi=>by simp at h
 | y::l,u::r,0,d,v,h,h2,i,hi=>by
  simp at h h2;subst h;subst h2
  rw[dsC,List.getElem?_append_left (by simp[dC];omega)]
  congr 1;omega
 | y::l,u::r,j+1,d,v,h,h2,i,hi=>by
  have ih:=dsC_at l r j d v (by simpa using h) (by simpa using h2) i hi
  rw[dsC,List.getElem?_append_right (by simp[dC];omega)]
  rw[←ih]
  congr 1
  simp[dC];omega
theorem dsC_snoc:∀(ns:List Da) (vs:List V2) (d:Da) (v:V2),vs.length=ns.length→dsC (ns++[d]) (vs++[v])=dsC ns vs++dC d v
 | [],[],d,v,_=>by simp[dsC]
 | [],_::_,d,v,h=>by simp at h
 | _::_,[],d,v,h=>by simp at h
 | x::ns,y::vs,d,v,h=>by
  simp only[List.cons_append,dsC]
  rw[dsC_snoc ns vs d v (by simpa using h),List.append_assoc]
theorem dsC_length:∀(ns:List Da) (vs:List V2),vs.length=ns.length→(dsC ns vs).length=ns.length*4
 | [],vs,h=>by simp[dsC]
 | _::_,[],h=>by simp at h
 | x::ns,y::vs,h=>by
  rw[dsC,List.length_append,dsC_length ns vs (by simpa using h)]
  simp[dC];omega
def SlR (lo B:Nat) (w:World) (v:Value) (n:Nat) (cs:List Value):Prop:=∃A c,v=.slice A n c∧Rd w A cs∧(cs≠[]→∀a,A=some a→lo≤a.block∧a.block<B)∧n≤c∧c≤maxLen∧(A=none→c=0)
theorem SlR.sl {lo B:Nat} {w:World} {v:Value} {n:Nat} {cs:List Value} (h:SlR lo B w v n cs):Sl B w v n cs:=by
 obtain⟨A,c,e,h1,h2,h3⟩:=h
 exact⟨A,c,e,h1,fun hne a ha=>(h2 hne a ha).2,h3⟩
theorem SlR.of {B:Nat} {w:World} {v:Value} {n:Nat} {cs:List Value} (h:Sl B w v n cs):SlR 0 B w v n cs:=by
 obtain⟨A,c,e,h1,h2,h3⟩:=h
 exact⟨A,c,e,h1,fun hne a ha=>⟨Nat.zero_le _,h2 hne a ha⟩,h3⟩
theorem SlR.wide {lo B lo' B':Nat} {w:World} {v:Value} {n:Nat} {cs:List Value} (h:SlR lo B w v n cs) (h1:lo'≤lo) (h2:B≤B'):SlR lo' B' w v n cs:=by
 obtain⟨A,c,e,k1,k2,h3⟩:=h
 exact⟨A,c,e,k1,fun hne a ha=>⟨Nat.le_trans h1 (k2 hne a ha).1,Nat.lt_of_lt_of_le (k2 hne a ha).2 h2⟩,h3⟩
theorem SlR.chg {S:Nat→Prop} {lo B:Nat} {w w':World} {v:Value} {n:Nat} {cs:List Value} (h:SlR lo B w v n cs) (hx:Chg S w w') (hS:∀k,lo≤k→k<B→¬S k):SlR lo B w' v n cs:=by
 obtain⟨A,c,e,k1,k2,h3⟩:=h
 refine⟨A,c,e,?_,k2,h3⟩
 intro hne
 obtain⟨b,off,e2,hc⟩:=k1 hne
 have:=k2 hne _ e2
 exact⟨b,off,e2,fun j u hj=>hx.cell (hc j u hj) (hS b this.1 this.2)⟩
theorem SlR.below {lo B:Nat} {w w':World} {v:Value} {n:Nat} {cs:List Value} (h:SlR lo B w v n cs) (hx:Below B w w'):SlR lo B w' v n cs:=by
 obtain⟨A,c,e,k1,k2,h3⟩:=h
 exact⟨A,c,e,Rd.below k1 (fun hne a ha=>(k2 hne a ha).2) hx,k2,h3⟩
theorem SlR.ofOwn {lo B:Nat} {w:World} {base:Nat} {e:TypeId} {size n:Nat} {v:Value} {xs:List Value} (h:w.ownsRow base e size v n xs) (hb:lo≤base) (hB:w.heap.size≤B):SlR lo B w v n xs:=by
 obtain⟨A,c,e1,h1,h2,h3,h4⟩:=Rd.of_own h
 refine⟨A,c,e1,h3,fun _ a ha=>?_,h1,h2,fun ha=>?_⟩
 ·have:=h.lt a.block (by rw[e1,ha];rfl)
  omega
 ·rcases h.2 with⟨e2,_⟩|⟨g,cap,cur,e2,_⟩
  ·rw[e1] at e2;injection e2
  ·rw[e1,ha] at e2;injection e2 with e2;cases e2
theorem SlR.nil (lo B:Nat) (w:World):SlR lo B w (.slice none 0 0) 0 []:=⟨none,0,rfl,Rd.nil _ _,fun h=>absurd rfl h,Nat.le_refl _,Nat.zero_le _,fun _=>rfl⟩
inductive DaR (lo B:Nat) (w:World):Da→V2→Prop
 | mk {d:Da} {v:V2} (vs:List V2) (hk:SlR lo B w v.1 d.ks.length (txs d.ks)) (hl:vs.length=d.l.length) (hr:SlR lo B w v.2 d.l.length (dsC d.l vs))
   (hc:∀(i:Nat) x u,d.l[i]?=some x→vs[i]?=some u→DaR lo B w x u) (hn : -9223372036854775808≤d.n∧d.n≤9223372036854775807):DaR lo B w d v
theorem DaR.wide {lo B lo' B':Nat} {w:World} {d:Da} {v:V2} (h:DaR lo B w d v) (h1:lo'≤lo) (h2:B≤B'):DaR lo' B' w d v:=by
 induction h with
 | mk vs hk hl hr hc hn ih=>exact .mk vs (hk.wide h1 h2) hl (hr.wide h1 h2) ih hn
theorem DaR.chg {S:Nat→Prop} {lo B:Nat} {w w':World} {d:Da} {v:V2} (h:DaR lo B w d v) (hx:Chg S w w') (hS:∀k,lo≤k→k<B→¬S k):DaR lo B w' d v:=by
 induction h with
 | mk vs hk hl hr hc hn ih=>exact .mk vs (hk.chg hx hS) hl (hr.chg hx hS) ih hn
theorem DaR.low {lo B:Nat} {w w':World} {d:Da} {v:V2} (h:DaR lo B w d v) (hx:Below B w w'):DaR lo B w' d v:=by
 induction h with
 | mk vs hk hl hr hc hn ih=>exact .mk vs (hk.below hx) hl (hr.below hx) ih hn
theorem DaR.ext {lo B:Nat} {w w':World} {d:Da} {v:V2} (h:DaR lo B w d v) (hx:Ext w w') (hB:B≤w.heap.size):DaR lo B w' d v:=h.low (Below.mono hx hB)
theorem DaR.rng {lo B:Nat} {w:World} {d:Da} {v:V2} (h:DaR lo B w d v) : -9223372036854775808≤d.n∧d.n≤9223372036854775807:=by cases h with|mk vs hk hl hr hc hn=>exact hn
theorem DaR.zero (lo B:Nat) (w:World):DaR lo B w (.mk 0 ByteArray.empty [] []) (.slice none 0 0,.slice none 0 0):=
 .mk [] (SlR.nil _ _ _) rfl (SlR.nil _ _ _) (fun i x u h _=>by cases h) ⟨by decide,by decide⟩
theorem DaR.parts {lo B:Nat} {w:World} {d:Da} {v:V2} (h:DaR lo B w d v):∃Ak ck Al cl,v=(.slice Ak d.ks.length ck,.slice Al d.l.length cl)∧Rd w Ak (txs d.ks)∧(txs d.ks≠[]→∀a,Ak=some a→a.block<B)∧d.ks.length≤ck∧ck≤maxLen∧(Ak=none→ck=0)∧d.l.length≤cl∧cl≤maxLen∧(Al=none→cl=0):=by
 cases h with
 | mk vs hk hl hr hc hn=>
  obtain⟨Ak,ck,e1,q1,q2,q3,q4,q5⟩:=hk
  obtain⟨Al,cl,e2,r1,r2,r3,r4,r5⟩:=hr
  obtain⟨a,b⟩:=v
  subst e1;subst e2
  exact⟨Ak,ck,Al,cl,rfl,q1,fun hne a ha=>(q2 hne a ha).2,q3,q4,q5,r3,r4,r5⟩
theorem DaR.kid {lo B:Nat} {w:World} {d:Da} {v:V2} (h:DaR lo B w d v) (j:Nat) (x:Da) (hx:d.l[j]?=some x) :
  ∃b off c Ak ck Al cl,v.2=.slice (some ⟨b,off,none⟩) d.l.length c∧b<B∧DaR lo B w x (.slice Ak x.ks.length ck,.slice Al x.l.length cl)∧
   ∀W,Below B w W→W.cell? ⟨b,off+j*4,none⟩=some (.int .i64 x.n)∧W.cell? ⟨b,off+j*4+1,none⟩=some (.string x.s)∧W.cell? ⟨b,off+j*4+2,none⟩=some (.slice Ak x.ks.length ck)∧W.cell? ⟨b,off+j*4+3,none⟩=some (.slice Al x.l.length cl):=by
 cases h with
 | mk vs hk hl hr hc hn=>
  have hj:=(List.getElem?_eq_some_iff.1 hx).1
  obtain⟨u,hu⟩:∃u,vs[j]?=some u:=⟨_,List.getElem?_eq_getElem (by rw[hl];exact hj)⟩
  have hd:=hc j x u hx hu
  obtain⟨Ak,ck,Al,cl,rfl,_⟩:=hd.parts
  obtain⟨A,c,e,h1,h2,h3,h4,h5⟩:=hr
  have hat:=dsC_at d.l vs j x _ hx hu
  have hne:dsC d.l vs≠[]:=by
   intro e
   have:=hat 0 (by omega)
   rw[e] at this
   simp[dC] at this
  obtain⟨b,off,rfl,hcell⟩:=h1 hne
  refine⟨b,off,c,Ak,ck,Al,cl,e,(h2 hne _ rfl).2,hd,fun W hW=>?_⟩
  have hcW:∀(j:Nat) u,(dsC d.l vs)[j]?=some u→W.cell? ⟨b,off+j,none⟩=some u:=fun j u hj=>(Below.cell hW (p:=⟨b,off+j,none⟩) (h2 hne _ rfl).2).trans (hcell j u hj)
  refine⟨hcW (j*4) _ (hat 0 (by omega)),?_,?_,?_⟩
  ·have:=hcW (j*4+1) _ (hat 1 (by omega));rwa [←Nat.add_assoc] at this
  ·have:=hcW (j*4+2) _ (hat 2 (by omega));rwa [←Nat.add_assoc] at this
  ·have:=hcW (j*4+3) _ (hat 3 (by omega));rwa [←Nat.add_assoc] at this
end Dm
namespace Pr
open Go.ChangeShapes Go.WideShapes Go.ChangeAt Go.RowKit
open Base Lx Mi
theorem bs_append (a b:ByteArray):bs (a++b)=bs a++bs b:=by simp[bs]
def WfAt (B W:Nat) (no:Value) (w0:World) (T:WT) (l:List (ByteArray×Bool×Int)) (fin:WSt) (i:Nat) (wr:World):Prop:=WK B w0 wr∧∃st,WInv B wr W no st∧Hid (wflds T (l.drop i) st=fin)
theorem fldsZ_at:∀(l:List (ByteArray×Bool×Int)) (k:Nat) f,l[k]?=some f→∀i,i<3→(fldsZ l)[k*3+i]?=(fldZ f)[i]?
 | [],k,f,h,i,hi=>by simp at h
 | x::l,0,f,h,i,hi=>by
  simp at h;subst h
  rw[fldsZ,List.flatMap_cons,List.getElem?_append_left (by simp[fldZ];omega)]
  congr 1;omega
 | x::l,k+1,f,h,i,hi=>by
  have ih:=fldsZ_at l k f (by simpa using h) i hi
  rw[fldsZ,List.flatMap_cons,List.getElem?_append_right (by simp[fldZ];omega)]
  rw[←ih]
  unfold fldsZ
  congr 1
  simp[fldZ];omega
theorem wrecord_any {B m f deep:Nat} {no:Value} {ns:List Ne} (H:WTypC B m no ns f (deep+1)) (hd:deep≤100) (d:Ne) (v:V3) (st:WSt) (w:World) (h:WInv B w m no st) (hS:En B w no ns) (hs:SubE B w d v) (hL:(wrecord (wtyp ns f) d st).s.length≤100000000) :
  Calls Tryz.prog 111 #[.pointer (some ⟨m,0,none⟩),.agg (neC d v).toArray,.int .i64 (deep:Int)] w fun e w'=>e=.returned (.tuple #[])∧WK B w w'∧WInv B w' m no (wrecord (wtyp ns f) d st):=by
 obtain⟨T,hT⟩:∃T,T=wtyp ns f:=⟨_,rfl⟩
 have hG:WG T:=by rw[hT];exact wtyp_len ns f
 have H:∀(n:Int) (st:WSt) (w:World),WInv B w m no st→En B w no ns→(T n st).s.length≤100000000→Calls Tryz.prog 94 #[.pointer (some ⟨m,0,none⟩),.int .i64 n,.int .i64 ((deep:Int)+1)] w fun e w'=>e=.returned (.tuple #[])∧WK B w w'∧WInv B w' m no (T n st):=by
  rw[hT];intro n st w;have:=H n st w;rw[show ((deep+1:Nat):Int)=(deep:Int)+1 by omega] at this;exact this
 rw[←hT] at hL ⊢
 clear hT
 obtain⟨k,name,size,syms,items,l⟩:=d
 obtain⟨v0,v1,v2⟩:=v
 have hl:Sl B w v2 l.length (fldsZ l):=hs.fields
 simp only[neC] at *
 obtain⟨fin,hfin⟩:∃z,Hid (wflds T l (st.put (sRec++bs name++[123]))=z):=⟨_,Lib.hid rfl⟩
 have hres:wrecord T ⟨k,name,size,syms,items,l⟩ st=fin.put [125]:=by unfold wrecord;rw[hfin.out]
 rw[hres] at hL ⊢
 rw[WSt.put_len] at hL
 have hop:st.s.length+(sRec++bs name++[123]).length≤100000000:=by
  have h1:=wflds_len hG l (st.put (sRec++bs name++[123]))
  rw[hfin.out,WSt.put_len] at h1
  omega
 have hop2:st.s.length+(name.size+8)≤100000000:=by
  have e1:=bs_size name
  have e2:(sRec++bs name++[123]).length=name.size+8:=by rw[List.length_append,List.length_append,e1];simp[sRec];omega
  omega
 have hz1:¬9223372036854775807<7+name.size:=by omega
 have hz2:¬9223372036854775807<7+name.size+1:=by omega
 clear hres hs
 obtain⟨A,c,rfl,hnc,hcm,hA,hat⟩:=hl.at_
 obtain⟨n,hn⟩:∃z,Hid (l.length=z):=⟨_,rfl⟩
 rw[hn.out] at hnc ⊢
 unfold maxLen at hcm
 have hdw:IntKind.i64.wrap ((deep:Int)+1)=(deep:Int)+1:=by rw[IntKind.wrap_i64];omega
 obtain⟨q,hq⟩:∃z,Hid (w.heap.size=z):=⟨_,rfl⟩
 obtain⟨w1,hw1⟩:∃z,Hid (w.alloc (.cells #[.int .i64 k,.string name,.int .i64 size,v0,v1,.slice A n c] 47)=z):=⟨_,rfl⟩
 have hx1:Ext w w1:=by rw[←hw1.out];exact (Ext.refl w).alloc _
 have hbq1:Blk w1 q #[.int .i64 k,.string name,.int .i64 size,v0,v1,.slice A n c] 47:=by rw[←hw1.out,←hq.out];exact Blk.new w _ _
 have hBq:B≤q:=by rw[←hq.out];exact h.size
 have e1:∀W',Ext w1 W'→W'.cell? ⟨q,1,none⟩=some (.string name):=fun W' hW'=>(hbq1.ext hW').cell 1
 go_enter Tryz.func111,Tryz.ntmps111
 go_wp2_with fail
 rw[hw1.out,hq.out]
 refine Reg.startE (by kernel_rfl) ?_
 iterate 7 ((first|refine Reg.tn ?_|refine Reg.sn ?_);(try simp only[Reg.nn]))
 refine Reg.last 7 _ rfl (by kernel_rfl) (by kernel_rfl) (by kernel_rfl) (by decide) (by rfl) (fun W hW K hK=>?_)
 have hwo:=wstr_any (⟨#[114,101,99,111,114,100,32]⟩++name++⟨#[123]⟩) (h.ext (hx1.trans hW)) (by
 have e1:=bs_size (⟨#[114,101,99,111,114,100,32]⟩++name++⟨#[123]⟩)
 rw[bs_append,bs_append] at e1
 rw[←e1];exact hop)
 rw[bs_append,bs_append] at hwo
 generalize (((⟨#[114,101,99,111,114,100,32]⟩++name++⟨#[123]⟩:ByteArray).size:Nat):Int)=z at hwo
 go_simp
 refine hwo.mono ?_
 rintro e w2 ⟨rfl,hb2,h2⟩
 have h2:WInv B w2 m no (st.put (sRec++bs name++[123])):=h2
 refine hK.out _ _ ?_;clear hK K;(try simp only[Reg.nn])
 have hbw2:WK B w w2:=(WK.ofExt (hx1.trans hW) h.size).trans hb2
 have hbq2:=hb2.keep q _ _ (hbq1.ext hW) (by decide) (by decide)
 have hstart:WfAt B m no w T l fin 0 w2:=⟨hbw2,_,h2,by rw[List.drop_zero];exact hfin⟩
 have e5:w2.cell? ⟨q,5,none⟩=some (.slice A n c):=hbq2.cell 5
 clear hbq2 h2 hb2 hbw2 e1 hwo hfin
 go_wp2_with fail
 go_loopw [7,19,20,21,22,23,24,25,26,27,28,29,30,31,32,33,34,35,36,37,38,39,40,41,42,43,44,45,46,47,48,49] (fun v7 v19 v20 v21 v22 v23 v24 v25 v26 v27 v28 v29 v30 v31 v32 v33 v34 v35 v36 v37 v38 v39 v40 v41 v42 v43 v44 v45 v46 v47 v48 v49 wr=>∃i:Nat,i≤n∧v19=.int .i64 i∧WfAt B m no w T l fin i wr) (fun _ v19 _ _ _ _ _ _ _ _ _ _ _ _ _ _ _ _ _ _ _ _ _ _ _ _ _ _ _ _ _ _ _=>n-(intOf v19).toNat)
 case atStart=>exact⟨0,by omega,rfl,hstart⟩
 case round=>
  obtain⟨i,hi,rfl,hbw,st1,hw1',hf1⟩:=hrel
  clear hstart e5
  by_cases hin:i<n
  ·have hin':(i:Int)<(n:Int):=by omega
   obtain⟨⟨fn,fh,ft⟩,hxe⟩:∃x,l[i]?=some x:=⟨_,List.getElem?_eq_getElem (by have:=hn.out;omega)⟩
   have hxz:=fldsZ_at l i _ hxe
   obtain⟨b,off,rfl,hbB,hc⟩:=hat (i*3+0) (.string fn) (by rw[hxz 0 (by omega)];rfl)
   have d0:wr.cell? ⟨b,off+i*3,none⟩=some (.string fn):=by have:=hc wr hbw.below (i*3+0) (.string fn) (by rw[hxz 0 (by omega)];rfl);simpa [Nat.add_assoc] using this
   have d1:wr.cell? ⟨b,off+i*3+1,none⟩=some (.bool fh):=by have:=hc wr hbw.below (i*3+1) (.bool fh) (by rw[hxz 1 (by omega)];rfl);simpa [Nat.add_assoc] using this
   have d2:wr.cell? ⟨b,off+i*3+2,none⟩=some (.int .i64 ft):=by have:=hc wr hbw.below (i*3+2) (.int .i64 ft) (by rw[hxz 2 (by omega)];rfl);simpa [Nat.add_assoc] using this
   have hdrop:l.drop i=(fn,fh,ft)::l.drop (i+1):=List.drop_eq_getElem?_toList_append .. |>.trans (by rw[hxe];rfl)
   obtain⟨stb,hstb⟩:∃z,Hid ((if fh then (st1.put (bs fn)).put [63] else st1.put (bs fn))=z):=⟨_,Lib.hid rfl⟩
   have hf2:wflds T (l.drop (i+1)) ((T ft (stb.put [58])).put [59])=fin:=by rw[←hf1.out,hdrop,wflds,wfield,hstb.out]
   have hl2:=wflds_len hG (l.drop (i+1)) ((T ft (stb.put [58])).put [59])
   rw[hf2,WSt.put_len] at hl2
   have hl3:=hG ft (stb.put [58])
   have hl3b:=WSt.put_len stb [58]
   simp only[List.length_cons,List.length_nil] at hl2 hl3b hL
   have hl4:st1.s.length+fn.size≤stb.s.length:=by
    have e1:=WSt.put_len st1 (bs fn)
    have e2:=WSt.put_len (st1.put (bs fn)) [63]
    rw[bs_size] at e1
    rw[←hstb.out]
    split
    ·omega
    ·omega
   have Hf3:=Lib.hid hf2
   have hBr:B≤wr.heap.size:=hw1'.size
   obtain⟨q7,hq7⟩:∃z,Hid (wr.heap.size=z):=⟨_,rfl⟩
   obtain⟨w2',hw2'⟩:∃z,Hid (wr.alloc (.cells #[.string fn,.bool fh,.int .i64 ft] 69)=z):=⟨_,rfl⟩
   have hx2:Ext wr w2':=by rw[←hw2'.out];exact (Ext.refl wr).alloc _
   have hbq7:Blk w2' q7 #[.string fn,.bool fh,.int .i64 ft] 69:=by rw[←hw2'.out,←hq7.out];exact Blk.new wr _ _
   have f0:∀W',Ext w2' W'→W'.cell? ⟨q7,0,none⟩=some (.string fn):=fun W' hW'=>(hbq7.ext hW').cell 0
   clear hf2 hxe hxz hc hdrop hf1
   go_wp2_with fail
   rw[hw2'.out,hq7.out]
   refine Reg.startE (by kernel_rfl) ?_
   iterate 5 ((first|refine Reg.tn ?_|refine Reg.sn ?_);(try simp only[Reg.nn]))
   refine Reg.last 5 _ rfl (by kernel_rfl) (by kernel_rfl) (by kernel_rfl) (by decide) (by rfl) (fun W hW K hK=>?_)
   have hwo:=wstr_any fn (hw1'.ext (hx2.trans hW)) (by omega)
   go_simp
   refine hwo.mono ?_
   rintro e w3 ⟨rfl,hb3,hw3⟩
   refine hK.out _ _ ?_;clear hK K;(try simp only[Reg.nn])
   have hbq3:=hb3.keep q7 _ _ (hbq7.ext hW) (by decide) (by decide)
   have hb3:WK B w w3:=(hbw.trans (WK.ofExt (hx2.trans hW) hBr)).trans hb3
   have g1:w3.cell? ⟨q7,1,none⟩=some (.bool fh):=hbq3.cell 1
   clear hwo f0 d0 d1 d2 hbq7
   cases fh with
   | true=>
    have hstb':(st1.put (bs fn)).put [63]=stb:=hstb.out
    have hl5:=WSt.put_len (st1.put (bs fn)) [63]
    rw[hstb'] at hl5
    simp only[List.length_cons,List.length_nil] at hl5
    have h3:=wstr_any (B:=B) (W:=m) (no:=no) ⟨#[63]⟩ hw3 (by rw[show (⟨#[63]⟩:ByteArray).size=1 from rfl];omega)
    go_wp2_with fail
    refine h3.mono ?_
    rintro e w3b ⟨rfl,hb3b,hw3b⟩
    have hw3:WInv B w3b m no ((st1.put (bs fn)).put [63]):=hw3b
    rw[hstb'] at hw3
    have hbq3:=hb3b.keep q7 _ _ hbq3 (by decide) (by decide)
    have hb3:=hb3.trans hb3b
    clear h3 hstb' g1
    have h4:=wstr_any (B:=B) (W:=m) (no:=no) ⟨#[58]⟩ hw3 (by rw[show (⟨#[58]⟩:ByteArray).size=1 from rfl];omega)
    go_wp2_with fail
    refine h4.mono ?_
    rintro e w4 ⟨rfl,hb4,hw4⟩
    have hw4:WInv B w4 m no (stb.put [58]):=hw4
    have hbq4:=hb4.keep q7 _ _ hbq3 (by decide) (by decide)
    have g2:w4.cell? ⟨q7,2,none⟩=some (.int .i64 ft):=hbq4.cell 2
    have hcall:=H ft (stb.put [58]) w4 hw4 (hS.below (hb3.trans hb4).below) (by omega)
    clear hbq4 hbq3 h4
    go_wp2_with fail
    refine hcall.mono ?_
    rintro e w5 ⟨rfl,hb5,hw5⟩
    have h6:=wstr_any (B:=B) (W:=m) (no:=no) ⟨#[59]⟩ hw5 (by rw[show (⟨#[59]⟩:ByteArray).size=1 from rfl];omega)
    clear hcall g2
    go_wp2_with fail
    refine h6.mono ?_
    rintro e w6 ⟨rfl,hb6,hw6⟩
    have hw6:WInv B w6 m no ((T ft (stb.put [58])).put [59]):=hw6
    go_wp2_with fail
    go_roundw
    case rel=>exact⟨i+1,by omega,by go_num,((hb3.trans hb4).trans hb5).trans hb6,_,hw6,Hf3⟩
    case measure=>simp[intOf];omega
   | false=>
    have hstb':st1.put (bs fn)=stb:=hstb.out
    rw[hstb'] at hw3
    clear hstb' 
    have h4:=wstr_any (B:=B) (W:=m) (no:=no) ⟨#[58]⟩ hw3 (by rw[show (⟨#[58]⟩:ByteArray).size=1 from rfl];omega)
    go_wp2_with fail
    refine h4.mono ?_
    rintro e w4 ⟨rfl,hb4,hw4⟩
    have hw4:WInv B w4 m no (stb.put [58]):=hw4
    have hbq4:=hb4.keep q7 _ _ hbq3 (by decide) (by decide)
    have g2:w4.cell? ⟨q7,2,none⟩=some (.int .i64 ft):=hbq4.cell 2
    have hcall:=H ft (stb.put [58]) w4 hw4 (hS.below (hb3.trans hb4).below) (by omega)
    clear hbq4 hbq3 h4
    go_wp2_with fail
    refine hcall.mono ?_
    rintro e w5 ⟨rfl,hb5,hw5⟩
    have h6:=wstr_any (B:=B) (W:=m) (no:=no) ⟨#[59]⟩ hw5 (by rw[show (⟨#[59]⟩:ByteArray).size=1 from rfl];omega)
    clear hcall g2
    go_wp2_with fail
    refine h6.mono ?_
    rintro e w6 ⟨rfl,hb6,hw6⟩
    have hw6:WInv B w6 m no ((T ft (stb.put [58])).put [59]):=hw6
    go_wp2_with fail
    go_roundw
    case rel=>exact⟨i+1,by omega,by go_num,((hb3.trans hb4).trans hb5).trans hb6,_,hw6,Hf3⟩
    case measure=>simp[intOf];omega
  ·obtain rfl:i=n:=by omega
   have hf2:st1=fin:=by rw[←hf1.out,←hn.out,List.drop_length,wflds]
   subst hf2
   have hend:=wstr_any (B:=B) (W:=m) (no:=no) ⟨#[125]⟩ hw1' (by rw[show (⟨#[125]⟩:ByteArray).size=1 from rfl];simp only[List.length_cons,List.length_nil] at hL;omega)
   go_wp2_with fail
   refine hend.mono ?_
   rintro e w2 ⟨rfl,hb2,h2⟩
   go_wp2_with fail
   go_end0
   exact⟨rfl,hbw.trans hb2,h2⟩
end Pr
end Go.Proofs.YtllhhpcabncmiaaGreatDoor
