/- policy: whether a version may follow others: walked. -/
import Derived.Test.YtmaoochjbpohdaaGreatDoorPvM
import Derived.Deep.Upon
import Derived.Deep.AppendSrc
set_option linter.unusedVariables false
set_option linter.unusedSimpArgs false
set_option maxRecDepth 100000
set_option maxHeartbeats 1000000
open Go.ChangeShapes Go.WideShapes Go.ChangeAt Go.RowKit
namespace Go.Proofs.YtmaoochjbpohdaaGreatDoor
namespace Pl
open Base Lx Mi Pr Rv Cn
structure SchOk (w:World) (x:Value×Ns):Prop where
 sch:Sch w.heap.size w x.1 x.2
 len:showLen x.2≤100000000
theorem SchOk.ext {w w':World} {x:Value×Ns} (h:SchOk w x) (hx:Ext w w'):SchOk w' x:=⟨(h.sch.below hx).mono hx.size,h.len⟩
theorem bits_rng {p:Int} (h:polP p=true):0≤bitsP p∧bitsP p≤3:=by
 rcases pol_cases h with rfl|rfl|rfl|rfl|rfl|rfl|rfl<;>simp[bitsP]
theorem next1_any (p:Int) (hp:polP p=true) (x y:Value×Ns) (qb qo:Addr) (w:World) (hx:SchOk w x) (hy:SchOk w y) (hwd:Wd w) (hpow:Pow w) (h1:w.cell? qb=some (.int .i64 (bitsP p))) (h2:w.cell? qo=some y.1) :
  Calls Tryz.prog 78 #[.agg #[x.1],.pointer (some qb),.pointer (some qo)] w fun en w'=>en=.returned (.bool (!folP p x.2 y.2))∧Ext w w':=by
 obtain⟨vx,ex⟩:=x
 obtain⟨vy,ey⟩:=y
 obtain⟨w1,hw1⟩:∃z,Hid (w.alloc (.cells #[vx] 24)=z):=⟨_,rfl⟩
 have hx1:Ext w w1:=by rw[←hw1.out];exact (Ext.refl w).alloc _
 have hc:=follows_any (bitsP p) (bits_rng hp) ex ey vx vy w1 (hx.ext hx1).sch (hy.ext hx1).sch (hwd.ext hx1) (hpow.ext hx1) hx.len hy.len
 rw[folB_eq hp] at hc
 have g1:(w.alloc (.cells #[vx] 24)).cell? qb=some (.int .i64 (bitsP p)):=((Ext.refl w).alloc _).cell h1
 have g2:(w.alloc (.cells #[vx] 24)).cell? qo=some vy:=((Ext.refl w).alloc _).cell h2
 obtain⟨b,hb⟩:∃z,Hid (bitsP p=z):=⟨_,rfl⟩
 obtain⟨v,hv⟩:∃z,Hid (folP p ex ey=z):=⟨_,rfl⟩
 rw[hb.out] at hc g1
 simp only[hv.out] at hc ⊢
 clear h1 h2 hx hy
 go_enter Tryz.func78,Tryz.ntmps78
 go_wp2_with fail
 rw[hw1.out]
 refine hc.mono ?_
 rintro en w2 ⟨rfl,hx2⟩
 go_wp2_with fail
 go_ret
 exact⟨rfl,hx1.trans hx2⟩
theorem lastOf_map (p:Int) (l:List (Value×Ns)):lastOf p (l.map (·.2))=(if allP p=false∧1<l.length then l.drop (l.length-1) else l).map (·.2):=by
 unfold lastOf
 rw[List.length_map]
 split
 ·rw[List.map_drop]
 ·rfl
theorem next_any (p:Int) (hp:polP p=true) (A:Option Addr) (n c:Nat) (l:List (Value×Ns)) (y:Value×Ns) (w:World) (hr:Rd w A (schZ l)) (hn:l.length=n) (hnc:n≤c) (hcm:c≤maxLen) (hA:A=none→c=0) (hl:n≤100000) (hS:∀x∈l,SchOk w x) (hy:SchOk w y) (hwd:Wd w) (hpow:Pow w) :
  Calls Tryz.prog 58 #[.int .i64 p,.slice A n c,.agg #[y.1]] w fun en w'=>en=.returned (.bool (nextP p (l.map (·.2)) y.2))∧Ext w w':=by
 unfold nextP
 rw[lastOf_map]
 obtain⟨w1,hw1⟩:∃z,Hid (w.alloc (.cells #[y.1] 24)=z):=⟨_,rfl⟩
 have hx1:Ext w w1:=by rw[←hw1.out];exact (Ext.refl w).alloc _
 obtain⟨q5,hq5⟩:∃z,Hid (w.heap.size=z):=⟨_,rfl⟩
 have b5:Blk w1 q5 #[y.1] 24:=by rw[←hq5.out,←hw1.out];exact Blk.new w _ _
 have hc1:=asks_any p hp w1
 obtain⟨b,hb⟩:∃z,Hid (bitsP p=z):=⟨_,rfl⟩
 obtain⟨al,hal⟩:∃z,Hid (allP p=z):=⟨_,rfl⟩
 rw[hb.out,hal.out] at hc1
 rw[hal.out]
 have hcut:1<n→∀W,(Instr.sliceAt 77 (.slice A n c) (some (.int .i64 ((n:Int)-1))) none none).run Tryz.prog W=.ok (.slice (cutA A c (n-1)) (n-(n-1)) (c-(n-1))) W:=fun h W=>by
  have:=run_cutAt (P:=Tryz.prog) (t:=77) (e:=24) Tryz.underlying77 (by kernel_rfl) W A n c (n-1) n (some (.int .i64 ((n-1:Nat):Int))) none (.inl rfl) (.inr ⟨rfl,rfl⟩) (by omega) hnc (fun _=>hnc)
  rwa [show ((n-1:Nat):Int)=(n:Int)-1 by omega] at this
 obtain⟨l',A',n',c',hl',hr',hn',hsl⟩:∃l' A' n' c',(if al=false∧1<l.length then l.drop (l.length-1) else l)=l'∧Rd w A' (schZ l')∧l'.length=n'∧(if al=false∧1<n then A'=cutA A c (n-1)∧n'=n-(n-1)∧c'=c-(n-1) else A'=A∧n'=n∧c'=c):=by
  by_cases hcase:al=false∧1<n
  ·refine⟨_,cutA A c (n-1),n-(n-1),c-(n-1),rfl,?_,?_,?_⟩
   ·rw[hn,if_pos hcase]
    have:=Rd.cut hr (c:=c) (l:=n-1) (k:=n) (by omega) hnc
    have e:((schZ l).take n).drop (n-1)=schZ (l.drop (n-1)):=by
     rw[List.take_of_length_le (by simp[schZ,hn])]
     simp[schZ,List.map_drop]
    rwa [e] at this
   ·rw[hn,if_pos hcase,List.length_drop];omega
   ·rw[if_pos hcase];exact⟨rfl,rfl,rfl⟩
  ·exact⟨_,A,n,c,rfl,by rw[hn,if_neg hcase];exact hr,by rw[hn,if_neg hcase];exact hn,by rw[if_neg hcase];exact⟨rfl,rfl,rfl⟩⟩
 have hS':∀x∈l',SchOk w x:=fun x hx=>by
  rw[←hl'] at hx
  split at hx
  ·exact hS x (List.mem_of_mem_drop hx)
  ·exact hS x hx
 have hn5:n'≤100000:=by split at hsl<;>omega
 rw[hl']
 have hv:(l'.map (·.2)).all (fun e=>folP p e y.2) = !(l'.any fun x => !folP p x.2 y.2):=by
  rw[List.all_map,List.not_any_eq_all_not]
  congr 1
  funext x
  simp
 rw[hv]
 have hca:=fun q7 W (hW:Ext w1 W) (h7:W.cell? ⟨q7,0,none⟩=some (.int .i64 (bitsP p)))=>hasSch_any (F:=78) ⟨q7,0,none⟩ ⟨q5,0,none⟩ A' c' l' (fun x => !folP p x.2 y.2) W (hr'.ext (hx1.trans hW)) n' hn' hn5 (fun _ _=>by kernel_rfl)
  (fun x hx W' hW'=>next1_any p hp x y _ _ W' ((hS' x hx).ext (hx1.trans (hW.trans hW'))) (hy.ext (hx1.trans (hW.trans hW'))) (hwd.ext (hx1.trans (hW.trans hW'))) (hpow.ext (hx1.trans (hW.trans hW'))) (hW'.cell h7) (by have:=(b5.ext (hW.trans hW')).cell 0;simpa using this))
 obtain⟨v,hv'⟩:∃z,Hid ((l'.any fun x => !folP p x.2 y.2)=z):=⟨_,rfl⟩
 simp only[hv'.out,hb.out] at hca ⊢
 obtain⟨y1,hy1⟩:∃z,Hid (y.1=z):=⟨_,rfl⟩
 rw[hy1.out] at hw1 ⊢
 replace hca:=Lib.hid hca
 clear hr hr' hS hS' hy hl' hv hn hn' b5
 have hcl:∀W:World,(W.alloc (.cells #[.int .i64 b] 3)).cell? ⟨W.heap.size,0,none⟩=some (.int .i64 b):=fun W=>(Blk.new W #[.int .i64 b] 3).cell 0
 replace hcl:=Lib.hid hcl
 have hx8:∀W:World,Ext w1 W→Ext w1 (W.alloc (.cells #[.int .i64 b] 3)):=fun W h=>h.alloc _
 replace hx8:=Lib.hid hx8
 by_cases hcase:al=false∧1<n
 ·rw[if_pos hcase] at hsl
  obtain⟨rfl,h1n⟩:=hcase
  have hcut':=hcut h1n
  obtain⟨rfl,e2,e3⟩:=hsl
  rw[←e2,←e3] at hcut'
  have h1n':(1:Int)<(n:Int):=by omega
  have hwn:IntKind.i64.wrap ((n:Int)-1)=(n:Int)-1:=by rw[IntKind.wrap_i64];omega
  clear hcut e2 e3 h1n hnc hcm
  go_enter Tryz.func58,Tryz.ntmps58
  go_wp2_with fail
  rw[hw1.out,hq5.out]
  refine hc1.mono ?_
  rintro en w2 ⟨rfl,hx2⟩
  have hc2:=hca.out w2.heap.size (w2.alloc (.cells #[.int .i64 b] 3)) (hx8.out w2 hx2) (hcl.out w2)
  clear hc1
  go_wp2_with fail
  refine hc2.mono ?_
  rintro en w3 ⟨rfl,hx3⟩
  have hxx:=hx1.trans ((hx8.out w2 hx2).trans hx3)
  go_wp2_with fail
  go_ret
  exact⟨rfl,hxx⟩
 ·rw[if_neg hcase] at hsl
  obtain⟨rfl,rfl,rfl⟩:=hsl
  clear hcut
  cases al with
  | true=>
   go_enter Tryz.func58,Tryz.ntmps58
   go_wp2_with fail
   rw[hw1.out,hq5.out]
   refine hc1.mono ?_
   rintro en w2 ⟨rfl,hx2⟩
   have hc2:=hca.out w2.heap.size (w2.alloc (.cells #[.int .i64 b] 3)) (hx8.out w2 hx2) (hcl.out w2)
   clear hc1
   go_wp2_with fail
   refine hc2.mono ?_
   rintro en w3 ⟨rfl,hx3⟩
   have hxx:=hx1.trans ((hx8.out w2 hx2).trans hx3)
   go_wp2_with fail
   go_ret
   exact⟨rfl,hxx⟩
  | false=>
   have h1n':¬(1:Int)<(n':Int):=by have:¬1<n':=fun h=>hcase ⟨rfl,h⟩;omega
   clear hcase
   go_enter Tryz.func58,Tryz.ntmps58
   go_wp2_with fail
   rw[hw1.out,hq5.out]
   refine hc1.mono ?_
   rintro en w2 ⟨rfl,hx2⟩
   have hc2:=hca.out w2.heap.size (w2.alloc (.cells #[.int .i64 b] 3)) (hx8.out w2 hx2) (hcl.out w2)
   clear hc1
   go_wp2_with fail
   refine hc2.mono ?_
   rintro en w3 ⟨rfl,hx3⟩
   have hxx:=hx1.trans ((hx8.out w2 hx2).trans hx3)
   go_wp2_with fail
   go_ret
   exact⟨rfl,hxx⟩
theorem Schema_nds (s:ByteArray) (hs:s.size≤140737488351232) (hP:isP s=true) (w:World) (hwd:Wd w) (hpow:Pow w) :
  Calls Tryz.prog 57 #[.string s] w fun e w'=>(∃v vs,e=.returned (.tuple #[.agg #[v],.bool true])∧Nds w.heap.size w' (parseP s).1 vs v)∧Ext w w':=by
 obtain⟨q,hq⟩:∃z,Hid (w.heap.size=z):=⟨_,rfl⟩
 obtain⟨w1,hw1⟩:∃z,Hid (w.alloc (.cells #[.slice none 0 0] 24)=z):=⟨_,rfl⟩
 have hx1:Ext w w1:=by rw[←hw1.out];exact (Ext.refl w).alloc _
 have hb1:Blk w1 q #[.slice none 0 0] 24:=by rw[←hw1.out,←hq.out];exact Blk.new w _ _
 have his:=cis_any s hs w1 (hwd.ext hx1) (hpow.ext hx1)
 have hpar:=fun W (hW:Ext w W)=>parse_any s hs W (hwd.ext hW) (by have:=hpow.lt;have:=hW.size;omega)
 have l7:=parse_rng s
 rw[hP] at his
 obtain⟨PO,hPO⟩:∃PO:Ending→World→Prop,Hid ((fun e w'=>(∃v vs,e=.returned (.tuple #[.agg #[v],.bool true])∧Nds w.heap.size w' (parseP s).1 vs v)∧Ext w w')=PO):=⟨_,Lib.hid rfl⟩
 rw[hPO.out]
 clear hP
 obtain⟨r,hr⟩:∃z,Hid (parseP s=z):=⟨_,Lib.hid rfl⟩
 rw[hr.out] at l7
 simp only[hr.out] at hpar
 obtain⟨ns,at_,why⟩:=r
 replace hpar:∀W,Ext w W→Calls Tryz.prog 76 #[.string s] W fun e w'=>∃v vs,e=.returned (.tuple #[.agg #[v],.int .i64 at_,.int .i64 why])∧Nds W.heap.size w' ns vs v∧Ext W w':=hpar
 replace l7:∀d∈ns,-9223372036854775808≤d.size∧d.size≤9223372036854775807:=l7
 replace hpar:=Lib.hid hpar
 replace l7:=Lib.hid l7
 go_enter Tryz.func57,Tryz.ntmps57
 go_wp2_with fail
 rw[hw1.out,hq.out]
 refine his.mono ?_
 rintro e w2 ⟨rfl,hx2⟩
 have hx02:=hx1.trans hx2
 have hp2:=hpar.out w2 hx02
 have hb2:=hb1.ext hx2
 clear his hpar
 go_wp2_with fail
 refine hp2.mono ?_
 rintro e w3 ⟨v,vs,rfl,hnd,hx3⟩
 have hx03:=hx02.trans hx3
 obtain⟨A,c,rfl,jj1,jj2,jj3,jj4⟩:=Rd.of_own hnd.row
 clear jj1 jj2 jj3 jj4 hp2
 obtain⟨k,hk⟩:∃z,Hid (ns.length=z):=⟨_,Lib.hid rfl⟩
 rw[hk.out] at hnd ⊢
 obtain⟨w4,hw4⟩:∃z,Hid (w3.alloc (.cells #[.slice A k c] 24)=z):=⟨_,rfl⟩
 have hx4:Ext w3 w4:=by rw[←hw4.out];exact (Ext.refl w3).alloc _
 have hb4:=(hb2.ext hx3).ext hx4
 have hx04:=hx03.trans hx4
 have k0:=hb4.cell 0
 have f0:=hb4.frozen 0
 simp only[List.getElem?_toArray,List.getElem?_cons_zero] at k0
 have hbF:=hb4.set 0 (.slice A k c)
 have hch:=Chg.one w4 q 0 (.slice A k c)
 have hxF:Ext w (w4.setCell ⟨q,0,none⟩ (.slice A k c)):=Ext.chg hx04 hch (fun i hi e=>by have e:i=q:=e;have:=hq.out;omega)
 rw[←hw4.out] at k0 f0
 have hq2:q<w2.heap.size:=World.block_lt_of_cell? w2 ⟨q,0,none⟩ (hb2.cell 0)
 have hnF:=(hnd.ext hx4).low hch (fun k e=>by have e:k=q:=e;omega)
 have hSF:=hnF.mono (show w.heap.size≤w2.heap.size from hx02.size)
 have hp:PO (.returned (.tuple #[.agg #[.slice A k c],.bool true])) (w4.setCell ⟨q,0,none⟩ (.slice A k c)):=by
  rw[←hPO.out]
  refine⟨⟨_,vs,rfl,?_⟩,hxF⟩
  rw[hr.out]
  exact hSF
 clear hnd hnF hSF hch hPO
 go_wp2_with fail
 rw[hw4.out]
 refine bodyPost_ret (resSchema rfl rfl (hbF.cell 0)) rfl ?_
 exact hp
theorem el_sch:El Tryz.prog 77 24 (.agg #[.slice none 0 0]) 1 24:=⟨by kernel_rfl,by kernel_rfl,by kernel_rfl,by omega⟩
def NdOk (w:World) (x:Value×List Nd):Prop:=∃B vs,Nds B w x.2 vs x.1
theorem NdOk.ext {w w':World} {x:Value×List Nd} (h:NdOk w x) (hx:Ext w w'):NdOk w' x:=by
 obtain⟨B,vs,h⟩:=h
 exact⟨B,vs,h.ext hx⟩
theorem NdOk.grown {w w':World} {x:Value×List Nd} (h:NdOk w x) {base n:Nat} {V:Value} {xs:List Value} (ho:w.ownsRow base 24 1 V n xs) (hg:w.grownBy w' V.ownBlock):NdOk w' x:=by
 obtain⟨B,vs,h⟩:=h
 exact⟨B,vs,h.len,h.row.kept hg (own_ne_own ho h.row (by decide)),fun i d v a b=>let s:=h.sub i d v a b;⟨s.syms.kept hg (own_ne_own ho s.syms (by decide)),s.items.kept hg (own_ne_own ho s.items (by decide)),s.fields.kept hg (own_ne_own ho s.fields (by decide))⟩⟩
structure SS (q:Nat) (w0:World) (l:List ByteArray) (i:Nat) (V:Value) (L:List (Value×List Nd)) (W:World):Prop where
 own:W.ownsRow q 24 1 V i (L.map (·.1))
 ns:L.map (·.2)=(l.take i).map fun s=>(parseP s).1
 ok:∀x∈L,NdOk W x
 all:(l.take i).all isP=true
 x:Ext w0 W
theorem take_all {l:List ByteArray} {i:Nat} {s:ByteArray} (h:l[i]?=some s) (ha:(l.take i).all isP=true) (hs:isP s=true):(l.take (i+1)).all isP=true:=by
 rw[List.take_add_one,h,List.all_append,ha]
 simp[hs]
theorem SS.next {q:Nat} {w0:World} {l:List ByteArray} {i:Nat} {V V':Value} {L:List (Value×List Nd)} {W W':World} (h:SS q w0 l i V L W) (hq:w0.heap.size≤q) {s:ByteArray} {v:Value} (hs:l[i]?=some s) (hp:isP s=true) (hn:NdOk W (v,(parseP s).1))
  (ho:W'.ownsRow q 24 1 V' (i+1) (L.map (·.1)++[v])) (hg:W.grownBy W' V.ownBlock):SS q w0 l (i+1) V' (L++[(v,(parseP s).1)]) W':=by
 refine⟨by simpa using ho,?_,fun x hx=>?_,take_all hs h.all hp,h.x.then_grown hg (fun k hk=>by have:=(h.own.lt k hk).1;omega)⟩
 ·rw[List.map_append,h.ns,List.take_add_one,hs];simp
 ·rcases List.mem_append.1 hx with hx|hx
  ·exact (h.ok x hx).grown h.own hg
  ·rw[List.mem_singleton] at hx;subst hx
   exact hn.grown h.own hg
theorem SS.ext {q:Nat} {w0:World} {l:List ByteArray} {i:Nat} {V:Value} {L:List (Value×List Nd)} {W W':World} (h:SS q w0 l i V L W) (hx:Ext W W'):SS q w0 l i V L W':=⟨own_ext h.own hx,h.ns,fun x hx'=>(h.ok x hx').ext hx,h.all,h.x.trans hx⟩
def schsV (q:Nat) (l:List ByteArray) (en:Ending) (w':World):Prop:=
 (l.all isP=true∧∃(V:Value) (L:List (Value×List Nd)),en=.returned (.tuple #[V,.bool true])∧w'.ownsRow q 24 1 V l.length (L.map (·.1))∧L.map (·.2)=l.map (fun s=>(parseP s).1)∧∀x∈L,NdOk w' x)∨(l.all isP=false∧en=.returned (.tuple #[.slice none 0 0,.bool false]))
theorem schemas_any (A:Option Addr) (n c:Nat) (l:List ByteArray) (w:World) (hr:Rd w A (txs l)) (hn:l.length=n) (hl:n≤100000) (hz:∀s∈l,s.size≤140737488351232) (hwd:Wd w) (hpow:Pow w) :
  Calls Tryz.prog 52 #[.slice A n c] w fun en w'=>schsV w.heap.size l en w'∧Ext w w':=by
 obtain⟨PO,hPO⟩:∃PO:Ending→World→Prop,Hid ((fun en w'=>schsV w.heap.size l en w'∧Ext w w')=PO):=⟨_,Lib.hid rfl⟩
 rw[hPO.out]
 have hno:∀i s W,l[i]?=some s→isP s=false→Ext w W→PO (.returned (.tuple #[.slice none 0 0,.bool false])) W:=fun i s W h1 h2 h3=>by
  rw[←hPO.out]
  exact⟨.inr ⟨by rw[List.all_eq_false];exact⟨s,List.mem_of_getElem? h1,by simp[h2]⟩,rfl⟩,h3⟩
 have hyes:∀V L W,SS w.heap.size w l n V L W→PO (.returned (.tuple #[V,.bool true])) W:=fun V L W h=>by
  rw[←hPO.out]
  have e:l.take n=l:=List.take_of_length_le (by omega)
  have h2:=h.ns
  have h3:=h.all
  have h4:=h.own
  rw[e] at h2 h3
  rw[←hn] at h4
  exact⟨.inl ⟨h3,V,L,rfl,h4,h2,h.ok⟩,h.x⟩
 replace hno:=Lib.hid hno
 replace hyes:=Lib.hid hyes
 have Hn:=Lib.hid hn
 clear hn
 replace hz:=Lib.hid hz
 obtain⟨q,hq⟩:∃z,Hid (w.heap.size=z):=⟨_,rfl⟩
 rw[hq.out] at hyes
 have hS0:SS q w l 0 (.slice none 0 0) [] w:=⟨World.ownsRow_nil w q _ 1,by simp,fun x hx=>(by cases hx),by simp,Ext.refl w⟩
 go_enter Tryz.func52,Tryz.ntmps52
 go_wp2_with fail
 go_loopw [4,6,7,8,11,12,13,14,15,16,17,18,19,20,21,22,23,24,25,26] (fun v4 v6 v7 v8 v11 v12 v13 v14 v15 v16 v17 v18 v19 v20 v21 v22 v23 v24 v25 v26 wr=>∃(i:Nat) (L:List (Value×List Nd)),i≤n∧v11=.int .i64 (i:Int)∧SS q w l i v4 L wr) (fun _ _ _ _ v11 _ _ _ _ _ _ _ _ _ _ _ _ _ _ _ _=>n-(intOf v11).toNat)
 case atStart=>exact⟨0,[],Nat.zero_le _,rfl,hS0⟩
 case round=>
  obtain⟨i,L,hi,rfl,hS⟩:=hrel
  obtain⟨V,hV⟩:∃z,z=u4:=⟨_,rfl⟩
  rw[←hV] at hS ⊢
  clear hV
  by_cases hin:i<n
  ·have hin':(i:Int)<(n:Int):=by omega
   obtain⟨s,hme⟩:∃m,l[i]?=some m:=⟨_,List.getElem?_eq_getElem (by have:=Hn.out;omega)⟩
   obtain⟨b,off,rfl,hzz,hc⟩:=(hr.ext hS.x).at_ (k:=i) (by simp only[txs,List.length_map];have:=Hn.out;omega)
   clear hzz
   have hck:wr.cell? ⟨b,off+i,none⟩=some (.string s):=hc i _ (by simp[txs,hme])
   clear hc
   have hs:=hz.out s (List.mem_of_getElem? hme)
   have Hme:=Lib.hid hme
   clear hme
   cases hP:isP s with
   | false=>
    have hcc:=Schema_any s hs wr (hwd.ext hS.x) (hpow.ext hS.x)
    rw[hP] at hcc
    have HP:=Lib.hid hP
    have hxr:=hS.x
    clear hS hs hP hS0
    go_wp2_with fail
    refine hcc.mono ?_
    rintro en w2 ⟨v,rfl,hSv,hx2⟩
    obtain⟨A',n',c',rfl⟩:=Rv.Sch.slice hSv
    clear hSv
    have hf:=hno.out i s (w2.alloc (.cells #[.slice A' n' c'] 24)) Hme.out HP.out (hxr.trans (hx2.trans ((Ext.refl w2).alloc _)))
    go_wp2_with fail
    exact hf
   | true=>
    have hcc:=Schema_nds s hs hP wr (hwd.ext hS.x) (hpow.ext hS.x)
    have HP:=Lib.hid hP
    clear hs hP hS0
    replace hS:=Lib.hid hS
    go_wp2_with fail
    refine hcc.mono ?_
    rintro en w2 ⟨⟨v,vs,rfl,hnd⟩,hx2⟩
    have hnk:NdOk w2 (v,(parseP s).1):=⟨_,vs,hnd⟩
    obtain⟨A',c',rfl,jj1,jj2,jj3,jj4⟩:=Rd.of_own hnd.row
    clear jj1 jj2 jj3 jj4 hcc hnd
    obtain⟨k,hk⟩:∃z,Hid ((parseP s).1.length=z):=⟨_,Lib.hid rfl⟩
    rw[hk.out] at hnk ⊢
    have hxL:Ext w2 ((w2.alloc (.cells #[.slice A' k c'] 24)).alloc (.cells #[.slice A' k c'] 24)):=((Ext.refl w2).alloc _).alloc _
    have hS4:=hS.out.ext (hx2.trans hxL)
    have hnL:=hnk.ext hxL
    have hrv:Rd ((w2.alloc (.cells #[.slice A' k c'] 24)).alloc (.cells #[.slice A' k c'] 24)) (some ⟨w2.heap.size+1,0,none⟩) [.slice A' k c']:=by
     have:=Rd.of_block (w2.alloc (.cells #[.slice A' k c'] 24)) 24 (0,0) (cs := #[.slice A' k c']) rfl
     simpa using this
    have hq4:q≤((w2.alloc (.cells #[.slice A' k c'] 24)).alloc (.cells #[.slice A' k c'] 24)).heap.size:=by rw[←hq.out];exact hS4.x.size
    clear hnk hxL
    go_wp2_with (
     refine wpList_app el_sch _ rfl (.tmp 22) (.tmp 24) rfl q V i (L.map (·.1)) rfl hS4.own (some ⟨w2.heap.size+1,0,none⟩) 1 1 [.slice A' k c'] rfl hrv rfl (fun h=>by cases h) (by simp[Value.oneCell']) (by omega) (by omega) hq4 (fun V' W' ho' hg' hv'=>?_)
     have hnx:=hS4.next (by rw[hq.out];exact Nat.le_refl _) Hme.out HP.out hnL ho' hg'
     clear ho' hg' hv' hS4 hnL hrv hq4)
    go_roundw
    case rel=>exact⟨i+1,_,by omega,by go_num,hnx⟩
    case measure=>simp[intOf]<;>omega
  ·obtain rfl:i=n:=by omega
   have hf:=hyes.out V L wr hS
   clear hS hS0
   go_wp2_with fail
   exact hf
theorem run_cutZ {P:Program} {t e:TypeId} {s:Nat} (ht:P.underlying t=some (.slice e)) (he:(P.info? e).map (·.size)=some s) (w:World) (A:Option Addr) (n c k:Nat) (hk:k≤c) :
  (Instr.sliceAt t (.slice A n c) none (some (.int .i64 (k:Int))) none).run P w=.ok (.slice A k c) w:=by
 have h2:(0:Int)≤(k:Int)∧(k:Int)≤(c:Int):=by omega
 cases hq:P.info? e with
 | none=>simp[hq] at he
 | some i=>
  have hA:A.map (fun a=>a.add 0)=A:=by cases A<;>simp[Addr.add]
  simp[Instr.sliceAt,Instr.slice,Instr.sliceBounds,Instr.sliceBound,run_underlying ht,asIntOf,h2,sizeOf,typeInfo,hq,go_sem,hA,hk]
theorem holdsA_no {p:Int} {l:List Ns} {i:Nat} (h:holdsA p l i=false):∀m,i≤m→holdsA p l m=false
 | 0,hm=>by
  obtain rfl:i=0:=by omega
  exact h
 | m+1,hm=>by
  by_cases e:i=m+1
  ·subst e;exact h
  ·have:=holdsA_no h m (by omega)
   unfold holdsA
   rw[this];rfl
theorem holdsA_step {p:Int} {L:List (Value×Ns)} {i:Nat} {x:Value×Ns} (hx:L[i]?=some x) (h:holdsA p (L.map (·.2)) i=true):holdsA p (L.map (·.2)) (i+1)=nextP p ((L.take i).map (·.2)) x.2:=by
 have e1:(L.map (·.2)).getD i []=x.2:=by rw[List.getD,List.getElem?_map,hx];rfl
 rw[show holdsA p (L.map (·.2)) (i+1)=(holdsA p (L.map (·.2)) i && nextP p ((L.map (·.2)).take i) ((L.map (·.2)).getD i [])) from rfl,h,e1,←List.map_take]
 simp
theorem holds_any (p:Int) (hp:polP p=true) (A:Option Addr) (n c:Nat) (L:List (Value×Ns)) (w:World) (hr:Rd w A (schZ L)) (hn:L.length=n) (hnc:n≤c) (hcm:c≤maxLen) (hA:A=none→c=0) (hl:n≤100000) (hS:∀x∈L,SchOk w x) (hwd:Wd w) (hpow:Pow w) :
  Calls Tryz.prog 54 #[.int .i64 p,.slice A n c] w fun en w'=>en=.returned (.bool (holdsP p (L.map (·.2))))∧Ext w w':=by
 have hfin:∀v,holdsA p (L.map (·.2)) n=v→holdsP p (L.map (·.2))=v:=fun v h=>by unfold holdsP;rw[List.length_map,hn];exact h
 obtain⟨PO,hPO⟩:∃PO:Ending→World→Prop,Hid ((fun en w'=>en=.returned (.bool (holdsP p (L.map (·.2))))∧Ext w w')=PO):=⟨_,Lib.hid rfl⟩
 have fin:∀v W,Ext w W→holdsA p (L.map (·.2)) n=v→PO (.returned (.bool v)) W:=fun v W hW h=>by rw[←hPO.out];exact⟨by rw[hfin v h],hW⟩
 rw[hPO.out]
 clear hfin
 replace fin:=Lib.hid fin
 have hnx:=fun i x W (hi:i<n) (hx:L[i]?=some x) (hW:Ext w W)=>next_any p hp A i c (L.take i) x W ((by have:=hr.take i;rwa [show (schZ L).take i=schZ (L.take i) by simp[schZ,List.map_take]] at this:Rd w A (schZ (L.take i))).ext hW) (by rw[List.length_take];omega) (by omega) hcm hA (by omega) (fun y hy=>(hS y (List.mem_of_mem_take hy)).ext hW) ((hS x (List.mem_of_getElem? hx)).ext hW) (hwd.ext hW) (hpow.ext hW)
 replace hnx:=Lib.hid hnx
 have hcut:∀i:Nat,i<n→∀W,(Instr.sliceAt 77 (.slice A n c) none (some (.int .i64 (i:Int))) none).run Tryz.prog W=.ok (.slice A i c) W:=fun i hi W=>
  run_cutZ (P:=Tryz.prog) (t:=77) (e:=24) (s:=1) Tryz.underlying77 (by kernel_rfl) W A n c i (by omega)
 replace hcut:=Lib.hid hcut
 have hsl:∀x∈L,∃A' n' c',x.1=.slice A' n' c':=fun x hx=>Rv.Sch.slice (hS x hx).sch
 replace hsl:=Lib.hid hsl
 have Hn:=Lib.hid hn
 clear hn hnc hcm hA hS
 go_enter Tryz.func54,Tryz.ntmps54
 go_wp2_with fail
 go_loopw [5,6,9,10,11,12,13,14,15,16,17,18,19,20,21] (fun v5 v6 v9 v10 v11 v12 v13 v14 v15 v16 v17 v18 v19 v20 v21 wr=>∃i:Nat,i≤n∧v9=.int .i64 (i:Int)∧holdsA p (L.map (·.2)) i=true∧Ext w wr) (fun _ _ v9 _ _ _ _ _ _ _ _ _ _ _ _ _=>n-(intOf v9).toNat)
 case atStart=>exact⟨0,Nat.zero_le _,rfl,rfl,Ext.refl w⟩
 case round=>
  obtain⟨i,hi,rfl,h1,hx⟩:=hrel
  by_cases hin:i<n
  ·have hin':(i:Int)<(n:Int):=by omega
   obtain⟨x,hme⟩:∃m,L[i]?=some m:=⟨_,List.getElem?_eq_getElem (by have:=Hn.out;omega)⟩
   obtain⟨b,off,rfl,hzz,hc⟩:=(hr.ext hx).at_ (k:=i) (by simp only[schZ,List.length_map];have:=Hn.out;omega)
   clear hzz
   have hck:wr.cell? ⟨b,off+i,none⟩=some x.1:=hc i _ (by simp[schZ,hme])
   clear hc
   obtain⟨A',n',c',ex⟩:=hsl.out x (List.mem_of_getElem? hme)
   have hst:=holdsA_step hme h1
   have hcc:=fun W (hW:Ext w W)=>hnx.out i x W hin hme hW
   rw[ex] at hck
   simp only[ex] at hcc
   obtain⟨v,hv⟩:∃z,Hid (nextP p ((L.take i).map (·.2)) x.2=z):=⟨_,rfl⟩
   simp only[hv.out] at hcc hst
   clear ex hv hme x
   replace hcc:=Lib.hid hcc
   replace hst:=Lib.hid hst
   have hct:=hcut.out i hin
   have hxa:Ext wr (wr.alloc (.cells #[.slice A' n' c'] 24)):=(Ext.refl wr).alloc _
   have e6:∀W,Ext (wr.alloc (.cells #[.slice A' n' c'] 24)) W→W.cell? ⟨wr.heap.size,0,none⟩=some (.slice A' n' c'):=fun W hW=>by
    have:=((Blk.new wr #[.slice A' n' c'] 24).ext hW).cell 0;simpa using this
   cases v with
   | true=>
    go_wp2_with fail
    refine Reg.startE (by kernel_rfl) ?_
    iterate 5 ((first|refine Reg.tn ?_|refine Reg.sn ?_);(try simp only[Reg.nn]))
    refine Reg.onlyE 5 _ rfl (by kernel_rfl) (by decide) (by rfl) (fun W hW K hK=>?_);go_simp
    refine (hcc.out W (hx.trans (hxa.trans hW))).mono ?_
    rintro en wX ⟨rfl,hX9⟩
    have hq9:=hxa.trans (hW.trans hX9)
    refine hK.out _ _ (hX9) ?_;clear hK K;(try simp only[Reg.nn])
    iterate 1 ((first|refine Reg.tn ?_|refine Reg.sn ?_);(try simp only[Reg.nn]))
    refine Reg.fin (by kernel_rfl) (fun W hW=>?_)
    replace hW:=hq9.trans hW
    go_wp2_with fail
    go_roundw
    case rel=>exact⟨i+1,by omega,by go_num,hst.out,hx.trans hW⟩
    case measure=>simp[intOf]<;>omega
   | false=>
    go_wp2_with fail
    refine Reg.startE (by kernel_rfl) ?_
    iterate 5 ((first|refine Reg.tn ?_|refine Reg.sn ?_);(try simp only[Reg.nn]))
    refine Reg.onlyE 5 _ rfl (by kernel_rfl) (by decide) (by rfl) (fun W hW K hK=>?_);go_simp
    refine (hcc.out W (hx.trans (hxa.trans hW))).mono ?_
    rintro en wX ⟨rfl,hX9⟩
    have hq9:=hxa.trans (hW.trans hX9)
    refine hK.out _ _ (hX9) ?_;clear hK K;(try simp only[Reg.nn])
    iterate 1 ((first|refine Reg.tn ?_|refine Reg.sn ?_);(try simp only[Reg.nn]))
    refine Reg.fin (by kernel_rfl) (fun W hW=>?_)
    have hf:=fin.out false W (hx.trans (hq9.trans hW)) (holdsA_no hst.out n (by omega))
    go_wp2_with fail
    exact hf
  ·obtain rfl:i=n:=by omega
   have hf:=fin.out true wr hx h1
   clear h1
   go_wp2_with fail
   exact hf
theorem isP_ok {s:ByteArray} (h:isP s=true):(parseP s).2.2=0:=by
 unfold isP formP at h
 simp only[Bool.and_eq_true,decide_eq_true_eq] at h
 by_cases h0:(parseP s).2.2=0
 ·exact h0
 ·rw[if_neg h0] at h;exact absurd h.1 h0
theorem schP_of {s:ByteArray} (h:isP s=true):schP s=(parseP s).1.map Nd.toE:=by unfold schP;rw[if_pos h]
theorem schP_len {s:ByteArray} (h:isP s=true):showLen (schP s)≤100000000:=by
 obtain⟨t,_,_,_,_,h5⟩:=back_plain' s (isP_ok h)
 rw[schP_of h];exact h5
theorem nd_ok {w:World} {v:Value} {s:ByteArray} (hs:isP s=true) (h:NdOk w (v,(parseP s).1)):SchOk w (v,schP s):=by
 obtain⟨B,vs,h⟩:=h
 exact⟨by show Sch w.heap.size w v (schP s);rw[schP_of hs];exact Sch.ofNds h (Nat.le_refl _) (parse_rng s),schP_len hs⟩
theorem schs_read {q:Nat} {w:World} {V:Value} {L:List (Value×List Nd)} {l:List ByteArray} (ho:w.ownsRow q 24 1 V l.length (L.map (·.1))) (hl:L.map (·.2)=l.map fun s=>(parseP s).1) (hk:∀x∈L,NdOk w x) (ha:l.all isP=true) :
  ∃A c L2,V=.slice A l.length c∧Rd w A (schZ L2)∧L2.length=l.length∧l.length≤c∧c≤maxLen∧(A=none→c=0)∧L2.map (·.2)=l.map schP∧∀x∈L2,SchOk w x:=by
 obtain⟨A,c,h1,h2,h3,h4,h5⟩:=Rd.of_own ho
 have hlen:L.length=l.length:=by have:=congrArg List.length hl;simpa using this
 have hA:A=none→c=0:=fun ha'=>by
  rcases ho.2 with⟨e2,_⟩|⟨g,cap,cur,e2,_⟩
  ·rw[h1] at e2;injection e2
  ·rw[h1,ha'] at e2;injection e2 with e2;cases e2
 refine⟨A,c,L.map fun x=>(x.1,x.2.map Nd.toE),h1,?_,by simpa using hlen,by first|exact h2|exact h3|exact h4,by first|exact h3|exact h4|exact h5,hA,?_,?_⟩
 ·have e:schZ (L.map fun x=>(x.1,x.2.map Nd.toE))=L.map (·.1):=by simp[schZ,Function.comp_def]
  rw[e]
  first|exact h2|exact h3|exact h4|exact h5
 ·have e:(L.map fun x=>(x.1,x.2.map Nd.toE)).map (·.2)=(L.map (·.2)).map (·.map Nd.toE):=by simp[Function.comp_def]
  rw[e,hl,List.map_map]
  refine List.map_congr_left fun s hs=>?_
  exact (schP_of (List.all_eq_true.1 ha s hs)).symm
 ·intro x hx
  obtain⟨y,hy,rfl⟩:=List.mem_map.1 hx
  have:y.2∈l.map fun s=>(parseP s).1:=by rw[←hl];exact List.mem_map.2 ⟨y,hy,rfl⟩
  obtain⟨s,hs,e⟩:=List.mem_map.1 this
  have hi:=List.all_eq_true.1 ha s hs
  have h6:=hk y hy
  obtain⟨y1,y2⟩:=y
  simp only at e
  subst e
  have h7:=nd_ok hi h6
  rw[schP_of hi] at h7
  exact h7
theorem Holds_any (p:Int) (A:Option Addr) (n c:Nat) (l:List ByteArray) (w:World) (hr:Rd w A (txs l)) (hn:l.length=n) (hl:n≤100000) (hz:∀s∈l,s.size≤140737488351232) (hwd:Wd w) (hpow:Pow w) :
  Calls Tryz.prog 26 #[.int .i64 p,.slice A n c] w fun en w'=>en=.returned (.bool (HoldsT p l))∧Ext w w':=by
 have hc:=schemas_any A n c l w hr hn hl hz hwd hpow
 obtain⟨PO,hPO⟩:∃PO:Ending→World→Prop,Hid ((fun en w'=>en=.returned (.bool (HoldsT p l))∧Ext w w')=PO):=⟨_,Lib.hid rfl⟩
 have fin:∀v W,Ext w W→HoldsT p l=v→PO (.returned (.bool v)) W:=fun v W hW h=>by rw[←hPO.out,h];exact⟨rfl,hW⟩
 rw[hPO.out]
 unfold HoldsT at fin
 replace fin:=Lib.hid fin
 clear hz hr
 have Hn:=Lib.hid hn
 clear hn
 go_enter Tryz.func26,Tryz.ntmps26
 go_wp2_with fail
 refine hc.mono ?_
 rintro en w2 ⟨hv,hx2⟩
 clear hc
 rcases hv with⟨ha,V,L,rfl,ho,hL,hk⟩|⟨ha,rfl⟩
 ·obtain⟨A',c',L2,rfl,g1,g2,g3,g4,g5,g6,g7⟩:=schs_read ho hL hk ha
  rw[Hn.out] at g2 g3 ⊢
  clear ho hL hk L
  have hi:=is_any p w2
  cases hp:polP p with
  | false=>
   rw[hp] at hi
   have hf:=fun W (hW:Ext w2 W)=>fin.out false W (hx2.trans hW) (by rw[hp];simp)
   replace hf:=Lib.hid hf
   clear hp g1 g2 g3 g4 g5 g6 g7
   go_wp2_with fail
   refine hi.mono ?_
   rintro en w3 ⟨rfl,hx3⟩
   have hff:=hf.out w3 hx3
   go_wp2_with fail
   exact hff
  | true=>
   rw[hp] at hi
   have hh:=fun W (hW:Ext w2 W)=>holds_any p hp A' n c' L2 W (g1.ext hW) g2 g3 g4 g5 hl (fun x hx=>(g7 x hx).ext hW) (hwd.ext (hx2.trans hW)) (hpow.ext (hx2.trans hW))
   rw[g6] at hh
   obtain⟨v,hv⟩:∃z,Hid (holdsP p (l.map schP)=z):=⟨_,rfl⟩
   simp only[hv.out] at hh
   have hf:=fun W (hW:Ext w2 W)=>fin.out v W (hx2.trans hW) (by rw[hp,ha,hv.out];simp)
   replace hf:=Lib.hid hf
   replace hh:=Lib.hid hh
   clear hp g1 g2 g3 g4 g5 g6 g7 ha
   go_wp2_with fail
   refine hi.mono ?_
   rintro en w3 ⟨rfl,hx3⟩
   have hh3:=hh.out w3 hx3
   clear hi
   go_wp2_with fail
   refine hh3.mono ?_
   rintro en w4 ⟨rfl,hx4⟩
   have hff:=hf.out w4 (hx3.trans hx4)
   go_wp2_with fail
   exact hff
 ·have hf:=fin.out false w2 hx2 (by rw[ha];simp)
  clear ha
  go_wp2_with fail
  exact hf
def nm0:ByteArray:=⟨#[110,111,110,101]⟩
def nm1:ByteArray:=⟨#[98,97,99,107,119,97,114,100]⟩
def nm2:ByteArray:=⟨#[102,111,114,119,97,114,100]⟩
def nm3:ByteArray:=⟨#[102,117,108,108]⟩
def nm4:ByteArray:=⟨#[98,97,99,107,119,97,114,100,45,97,108,108]⟩
def nm5:ByteArray:=⟨#[102,111,114,119,97,114,100,45,97,108,108]⟩
def nm6:ByteArray:=⟨#[102,117,108,108,45,97,108,108]⟩
def namesL:List ByteArray:=[nm0,nm1,nm2,nm3,nm4,nm5,nm6]
def Nms (w:World):Prop:=Rd w (some ⟨0,0,none⟩) (txs namesL)
theorem Nms.ext {w w':World} (h:Nms w) (hx:Ext w w'):Nms w':=Rd.ext h hx
theorem Nms.at_ {w:World} (h:Nms w) (i:Nat) (s:ByteArray) (hi:namesL[i]?=some s):w.cell? ⟨0,i,none⟩=some (.string s):=by
 obtain⟨b,off,e,hc⟩:=h (by simp[txs,namesL])
 injection e with e
 injection e with e1 e2
 subst e1;subst e2
 have:=hc i (.string s) (by simp[txs,hi])
 simpa using this
def nameP (p:Int):ByteArray:=if polP p=true then namesL.getD p.toNat ⟨#[]⟩ else⟨#[63]⟩
theorem Name_any (p:Int) (w:World) (hN:Nms w):Calls Tryz.prog 33 #[.int .i64 p] w fun en w'=>en=.returned (.string (nameP p))∧Ext w w':=by
 have hi:=is_any p w
 cases hp:polP p with
 | false=>
  rw[hp] at hi
  have e:nameP p=⟨#[63]⟩:=by unfold nameP;rw[hp];rfl
  rw[e]
  clear hp e
  go_enter Tryz.func33,Tryz.ntmps33
  go_wp2_with fail
  refine hi.mono ?_
  rintro en w1 ⟨rfl,hx⟩
  go_wp2_with fail
  go_ret
  exact⟨rfl,hx⟩
 | true=>
  rw[hp] at hi
  rcases pol_cases hp with rfl|rfl|rfl|rfl|rfl|rfl|rfl
  all_goals
   clear hp
   have a0:=fun W (hW:Ext w W)=>(hN.ext hW).at_ 0 _ rfl
   have a1:=fun W (hW:Ext w W)=>(hN.ext hW).at_ 1 _ rfl
   have a2:=fun W (hW:Ext w W)=>(hN.ext hW).at_ 2 _ rfl
   have a3:=fun W (hW:Ext w W)=>(hN.ext hW).at_ 3 _ rfl
   have a4:=fun W (hW:Ext w W)=>(hN.ext hW).at_ 4 _ rfl
   have a5:=fun W (hW:Ext w W)=>(hN.ext hW).at_ 5 _ rfl
   have a6:=fun W (hW:Ext w W)=>(hN.ext hW).at_ 6 _ rfl
   replace a0:=Lib.hid a0
   replace a1:=Lib.hid a1
   replace a2:=Lib.hid a2
   replace a3:=Lib.hid a3
   replace a4:=Lib.hid a4
   replace a5:=Lib.hid a5
   replace a6:=Lib.hid a6
   go_enter Tryz.func33,Tryz.ntmps33
   go_wp2_with fail
   refine hi.mono ?_
   rintro en w1 ⟨rfl,hx⟩
   have b0:=a0.out w1 hx
   have b1:=a1.out w1 hx
   have b2:=a2.out w1 hx
   have b3:=a3.out w1 hx
   have b4:=a4.out w1 hx
   have b5:=a5.out w1 hx
   have b6:=a6.out w1 hx
   clear a0 a1 a2 a3 a4 a5 a6
   go_wp2_with fail
   go_ret
   exact⟨rfl,hx⟩
def tInt:ByteArray:=⟨#[105,110,116]⟩
def tLong:ByteArray:=⟨#[108,111,110,103]⟩
def neK (k:Int):Ne:=⟨k,⟨#[]⟩,0,[],[],[]⟩
theorem is_int:isP tInt=true:=by decide +kernel
theorem is_long:isP tLong=true:=by decide +kernel
theorem sch_int:schP tInt=[neK 2]:=by decide +kernel
theorem sch_long:schP tLong=[neK 3]:=by decide +kernel
theorem show_int:(showP [neK 2]).isSome=true:=by decide +kernel
theorem show_long:(showP [neK 3]).isSome=true:=by decide +kernel
open Classical in
theorem can_long_int:canB [neK 3] [neK 2]=true:=by
 unfold canB
 refine decide_eq_true ⟨show_long,show_int,fun _ _=>true,?_,rfl⟩
 intro i k x y hx hy _
 cases i with
 | succ i=>simp at hx
 | zero=>
  cases k with
  | succ k=>simp at hy
  | zero=>
   simp at hx hy
   subst hx;subst hy
   rfl
open Classical in
theorem can_int_long:canB [neK 2] [neK 3]=false:=by
 unfold canB
 refine decide_eq_false fun h=>?_
 obtain⟨R,hs,hr⟩:=h.2.2
 have:=hs 0 0 (neK 2) (neK 3) rfl rfl hr
 have e:holdP R (neK 2) (neK 3) ((0:Nat):Int) ((0:Nat):Int)=false:=rfl
 rw[e] at this
 cases this
theorem live_holds (p:Int) (hp:polP p=true):HoldsT p [tInt,tLong]=folP p [neK 2] [neK 3]:=by
 unfold HoldsT
 have h1:[tInt,tLong].all isP=true:=by simp[is_int,is_long]
 rw[h1,hp]
 simp only[List.map_cons,List.map_nil,sch_int,sch_long,Bool.true_and]
 show (holdsA p [[neK 2],[neK 3]] 2)=_
 have e0:nextP p ([[neK 2],[neK 3]].take 0) ([[neK 2],[neK 3]].getD 0 [])=true:=by
  unfold nextP lastOf
  simp
 have e1:nextP p ([[neK 2],[neK 3]].take 1) ([[neK 2],[neK 3]].getD 1 [])=folP p [neK 2] [neK 3]:=by
  unfold nextP lastOf
  simp
 unfold holdsA
 rw[e1]
 unfold holdsA
 rw[e0]
 unfold holdsA
 simp
theorem live1:HoldsT 1 [tInt,tLong]=true:=by
 rw[live_holds 1 rfl]
 simp[folP,backP,forthP,can_long_int]
theorem live2:HoldsT 2 [tInt,tLong]=false:=by
 rw[live_holds 2 rfl]
 simp[folP,backP,forthP,can_int_long]
theorem lives12_any (w:World) (hwd:Wd w) (hpow:Pow w) (hN:Nms w):Calls Tryz.prog 28 #[] w fun en w'=>en=.returned (.bool true)∧Ext w w':=by
 obtain⟨w1,hw1⟩:∃z,Hid (w.alloc (.cells #[.string ⟨#[105,110,116]⟩,.string ⟨#[108,111,110,103]⟩] 9)=z):=⟨_,rfl⟩
 have hx1:Ext w w1:=by rw[←hw1.out];exact (Ext.refl w).alloc _
 obtain⟨q,hq⟩:∃z,Hid (w.heap.size=z):=⟨_,rfl⟩
 have b1:Blk w1 q #[.string ⟨#[105,110,116]⟩,.string ⟨#[108,111,110,103]⟩] 9:=by rw[←hq.out,←hw1.out];exact Blk.new w _ _
 have hr:∀W,Ext w1 W→Rd W (some ⟨q,0,none⟩) (txs [tInt,tLong]):=fun W hW _=>⟨q,0,rfl,fun j u hj=>by
  rw[Nat.zero_add,(b1.ext hW).cell j,←hj]
  show (#[Value.string tInt,Value.string tLong]:Array Value)[j]?=(txs [tInt,tLong])[j]?
  rw[←Array.getElem?_toList];rfl⟩
 have hz:∀s∈[tInt,tLong],s.size≤140737488351232:=fun s hs=>by
  simp at hs
  rcases hs with rfl|rfl<;>decide
 have h1:=fun W (hW:Ext w1 W)=>Holds_any 1 (some ⟨q,0,none⟩) 2 2 [tInt,tLong] W (hr W hW) rfl (by omega) hz (hwd.ext (hx1.trans hW)) (hpow.ext (hx1.trans hW))
 have h2:=fun W (hW:Ext w1 W)=>Holds_any 2 (some ⟨q,0,none⟩) 2 2 [tInt,tLong] W (hr W hW) rfl (by omega) hz (hwd.ext (hx1.trans hW)) (hpow.ext (hx1.trans hW))
 have h3:=fun W (hW:Ext w1 W)=>Name_any 6 W (hN.ext (hx1.trans hW))
 simp only[live1] at h1
 simp only[live2] at h2
 have e6:nameP 6=⟨#[102,117,108,108,45,97,108,108]⟩:=by decide +kernel
 simp only[e6] at h3
 have g1:=h1 w1 (Ext.refl _)
 replace h2:=Lib.hid h2
 replace h3:=Lib.hid h3
 clear h1 hr hz b1 e6
 go_enter Tryz.func28,Tryz.ntmps28
 go_wp2_with fail
 rw[hw1.out,hq.out]
 refine g1.mono ?_
 rintro en w2 ⟨rfl,hx2⟩
 have g2:=h2.out w2 hx2
 clear g1
 go_wp2_with fail
 refine g2.mono ?_
 rintro en w3 ⟨rfl,hx3⟩
 have g3:=h3.out w3 (hx2.trans hx3)
 clear g2
 go_wp2_with fail
 refine g3.mono ?_
 rintro en w4 ⟨rfl,hx4⟩
 go_wp2_with fail
 go_ret
 exact⟨rfl,hx1.trans (hx2.trans (hx3.trans hx4))⟩
end Pl
namespace Pr
open Base
theorem app0_run {P:Program} {t e:TypeId} {z:Value} {size bytes:Nat} (E:El P t e z size bytes) (w:World) (ty:TypeId) (base:Nat)
  (g:Nat) (hown:w.ownsRow base e size (.slice (some ⟨g,0,none⟩) 0 0) 0 [])
  (A:Option Addr) (m c:Nat) (news:List Value) (hr:Rd w A news) (hl:news.length=m*size) (hA:A=none→c=0)
  (hbytes:m*bytes≤140737488355328) (hby:0<bytes) (hbase:base≤w.heap.size) :
  ∃v' w',(Builtin.append_ #[t,t] ty #[.slice (some ⟨g,0,none⟩) 0 0,.slice A m c]).run P w=.ok v' w'∧w'.ownsRow base e size v' m news∧Ext w w':=by
 obtain⟨i,hi,hz,hs,hb⟩:=info_parts E.info
 have hpos:=E.pos
 by_cases hne:news=[]
 ·subst hne
  have hm:m=0:=by
   rcases Nat.eq_zero_or_pos m with h|h
   ·exact h
   ·have:=Nat.mul_pos h hpos;simp at hl;omega
  subst hm
  refine⟨_,w,?_,hown,Ext.refl w⟩
  cases A with
  | none=>
   rw[hA rfl]
   exact run_append_nothing (P:=P) w t t ty e i E.under hi (some ⟨g,0,none⟩) 0 0 (Nat.le_refl _) _ (Src.ofNil (P:=P) (w:=w) E.under 0)
  | some ad=>
   exact run_append_nothing (P:=P) w t t ty e i E.under hi (some ⟨g,0,none⟩) 0 0 (Nat.le_refl _) _ (Src.ofSlice (P:=P) (w:=w) E.under ad 0 c [] (by simp) (by simp) (fun u hu=>by cases hu))
 ·obtain⟨b,off,rfl,hc⟩:=hr hne
  have hm:0<m:=by
   rcases Nat.eq_zero_or_pos m with h|h
   ·subst h;rw[Nat.zero_mul] at hl;exact absurd (List.eq_nil_of_length_eq_zero hl) hne
   ·exact h
  have h63:m≤maxLen:=by
   have h:m*1≤m*bytes:=Nat.mul_le_mul_left _ hby
   unfold maxLen;omega
  have h63':((0+m:Nat):Int)≤9223372036854775807:=by unfold maxLen at h63;omega
  have hr:=run_append_grow (P:=P) w t ty e i z E.under hi hz ⟨g,0,none⟩ 0 0 [] (by simp) (by simp) ⟨b,off,none⟩ m c news (by rw[hs];exact hl) (fun j u hj=>by
   have hadd:(⟨b,off,none⟩:Addr).add j=⟨b,off+j,none⟩:=by unfold Addr.add;split<;>simp_all
   rw[hadd];exact hc j u hj) (by omega) h63' (growslice_fits (by omega) (by rw[hb,Nat.zero_add];exact hbytes))
  have hge:=grownCap_ge w (0+m) 0 e
  have hcm:grownCap w (0+m) 0 e≤maxLen:=grownCap_le_maxLen w (0+m) 0 e (by omega)
  refine⟨_,_,hr,⟨hl,.inr ⟨w.heap.size,_,_,by rw[Nat.zero_add],hbase,heap_alloc_new w.drew _,by rw[Nat.zero_add] at hge;exact hge,by rw[Nat.zero_add] at hcm;exact hcm,?_,?_⟩⟩,((Ext.refl w).drew).alloc _⟩
  ·have e1:m*size+(grownCap w (0+m) 0 e-(0+m))*size=grownCap w (0+m) 0 e*size:=by
    rw[←Nat.add_mul];congr 1;omega
   simp only[Array.size_append,List.size_toArray,size_zeroCells,E.cells,hl,List.length_nil,Nat.zero_add] at e1 ⊢
   exact e1
  ·simp only[Array.toList_append,List.append_assoc]
   rw[←hl]
   simp
theorem wp_app0 {P:Program} {t e:TypeId} {z:Value} {size bytes:Nat} (E:El P t e z size bytes) (w:World) {o:Oper} {a:Act} {K:Act→World→Prop} {Q:Exit→Act→World→Prop} (s x:Operand)
  (ho:o.op=.call { callee:=.builtin .append,args := #[s,x],argTypes := #[t,t] }) (base:Nat)
  (g:Nat) (hs:a.eval s=.slice (some ⟨g,0,none⟩) 0 0) (hown:w.ownsRow base e size (.slice (some ⟨g,0,none⟩) 0 0) 0 [])
  (A:Option Addr) (m c:Nat) (news:List Value) (hx:a.eval x=.slice A m c) (hr:Rd w A news) (hl:news.length=m*size) (hA:A=none→c=0)
  (hbytes:m*bytes≤140737488355328) (hby:0<bytes) (hbase:base≤w.heap.size)
  (h:∀v' w',w'.ownsRow base e size v' m news→Ext w w'→K (a.put o.dst v') w'):o.wp P a w K Q:=by
 obtain⟨v',w',hrun,h2,h3⟩:=app0_run E w o.type base g hown A m c news hr hl hA hbytes hby hbase
 unfold Oper.wp execOp
 simp only[ho,resolve,invoke,builtin,Sem.run_bind,Sem.run_pure,Result.andThen_ok,List.map_toArray,List.map_cons,List.map_nil,hs,hx,hrun]
 exact h v' w' h2 h3
end Pr
namespace Pl
open Base Lx Mi Pr Rv Cn
end Pl
namespace Ch
open Base Pf Cn Pr Lx Mi
structure EtOk (e:Et):Prop where
 p1 : -9223372036854775808≤e.p
 p2:e.p≤9223372036854775807
 s1:e.s.size≤140737488351232
 id1:e.id<18446744073709551616
end Ch
namespace Pl
open Base Lx Mi Pr Rv Cn Ch
def entsZ (l:List Et):List Value:=l.flatMap entC
theorem entsZ_len (l:List Et):(entsZ l).length=l.length*4:=by
 induction l with
 | nil=>simp[entsZ]
 | cons x l ih=>
  have e:entsZ (x::l)=entC x++entsZ l:=by simp[entsZ]
  rw[e,List.length_append,ih,List.length_cons,Nat.succ_mul]
  simp[entC];omega
theorem entsZ_at:∀(l:List Et) (i:Nat) (x:Et),l[i]?=some x→∀j,j<4→(entsZ l)[i*4+j]?=(entC x)[j]?
 | [],i,x,h,j,hj=>by simp at h
 | y::l,0,x,h,j,hj=>by
  simp at h;subst h
  have e:entsZ (y::l)=entC y++entsZ l:=by simp[entsZ]
  rw[e,List.getElem?_append_left (by simp[entC];omega)]
  congr 1;omega
 | y::l,i+1,x,h,j,hj=>by
  have ih:=entsZ_at l i x (by simpa using h) j hj
  have e:entsZ (y::l)=entC y++entsZ l:=by simp[entsZ]
  rw[e,List.getElem?_append_right (by simp[entC];omega),←ih]
  congr 1
  simp[entC];omega
theorem el_ent:El Tryz.prog 52 93 (.agg #[.bool false,.int .i64 0,.string ByteArray.empty,.int .u64 0]) 4 40:=⟨by kernel_rfl,by kernel_rfl,by kernel_rfl,by omega⟩
theorem el_in:El Tryz.prog 33 3 (.int .i64 0) 1 8:=⟨by kernel_rfl,by kernel_rfl,rfl,by omega⟩
def txtP (l:List Et) (at_:List Int):List ByteArray:=at_.flatMap fun i=>if 0≤i then (match l[i.toNat]? with|some e=>[e.s]|none=>[]) else []
theorem txtP_len (l:List Et):∀a:List Int,(txtP l a).length≤a.length
 | []=>by simp[txtP]
 | i::a=>by
  have ih:=txtP_len l a
  have e:txtP l (i::a)=(if 0≤i then (match l[i.toNat]? with|some e=>[e.s]|none=>[]) else [])++txtP l a:=by simp[txtP]
  rw[e,List.length_append,List.length_cons]
  have:(if 0≤i then (match l[i.toNat]? with|some e=>[e.s]|none=>[]) else ([]:List ByteArray)).length≤1:=by
   split
   ·split<;>simp
   ·simp
  omega
theorem txtP_hit {l:List Et} {a:List Int} {i k:Nat} {e:Et} (ha:a[i]?=some (k:Int)) (he:l[k]?=some e):txtP l (a.take (i+1))=txtP l (a.take i)++[e.s]:=by
 unfold txtP
 rw[List.take_add_one,ha,List.flatMap_append]
 simp[he]
theorem txtP_miss {l:List Et} {a:List Int} {i:Nat} {x:Int} (ha:a[i]?=some x) (hx:¬(0≤x∧x<l.length)):txtP l (a.take (i+1))=txtP l (a.take i):=by
 unfold txtP
 rw[List.take_add_one,ha,List.flatMap_append]
 have:(if 0≤x then (match l[x.toNat]? with|some e=>[e.s]|none=>[]) else ([]:List ByteArray))=[]:=by
  split
  ·rw[List.getElem?_eq_none (by omega)]
  ·rfl
 simp[this]
structure TS (q:Nat) (w0:World) (l:List Et) (a:List Int) (i:Nat) (V:Value) (W:World):Prop where
 own:W.ownsRow q 9 1 V (txtP l (a.take i)).length (txs (txtP l (a.take i)))
 x:Ext w0 W
theorem TS.len {q:Nat} {w0:World} {l:List Et} {a:List Int} {i:Nat} {V:Value} {W:World} (h:TS q w0 l a i V W):(txtP l (a.take i)).length≤a.length:=Nat.le_trans (txtP_len l _) (by rw[List.length_take];omega)
theorem TS.hit {q:Nat} {w0:World} {l:List Et} {a:List Int} {i:Nat} {V V':Value} {W W':World} (h:TS q w0 l a i V W) (hq:w0.heap.size≤q) {k:Nat} {e:Et} (ha:a[i]?=some (k:Int)) (he:l[k]?=some e)
  (ho:W'.ownsRow q 9 1 V' ((txtP l (a.take i)).length+1) (txs (txtP l (a.take i))++txs [e.s])) (hg:W.grownBy W' V.ownBlock):TS q w0 l a (i+1) V' W':=by
 refine⟨?_,h.x.then_grown hg (fun k hk=>by have:=(h.own.lt k hk).1;omega)⟩
 rw[txtP_hit ha he,List.length_append]
 have e1:txs (txtP l (a.take i)++[e.s])=txs (txtP l (a.take i))++txs [e.s]:=by simp[txs]
 rw[e1]
 exact ho
theorem TS.miss {q:Nat} {w0:World} {l:List Et} {a:List Int} {i:Nat} {V:Value} {W:World} (h:TS q w0 l a i V W) {x:Int} (ha:a[i]?=some x) (hx:¬(0≤x∧x<l.length)):TS q w0 l a (i+1) V W:=by
 refine⟨?_,h.x⟩
 rw[txtP_miss ha hx]
 exact h.own
theorem TS.ext {q:Nat} {w0:World} {l:List Et} {a:List Int} {i:Nat} {V:Value} {W W':World} (h:TS q w0 l a i V W) (hx:Ext W W'):TS q w0 l a i V W':=⟨own_ext h.own hx,h.x.trans hx⟩
theorem TS.fin {q:Nat} {w0:World} {l:List Et} {a:List Int} {i:Nat} {V:Value} {W:World} (h:TS q w0 l a i V W) (hn:a.length=i):∃A c,V=.slice A (txtP l a).length c∧Rd W A (txs (txtP l a)):=by
 have ho:=h.own
 rw[List.take_of_length_le (by omega)] at ho
 obtain⟨A,c,e,x1,x2,x3,x4⟩:=Rd.of_own ho
 exact⟨A,c,e,by first|exact x1|exact x2|exact x3|exact x4⟩
def intsN (l:List Nat):List Value:=l.map fun (i:Nat)=>.int .i64 (i:Int)
theorem intsN_snoc (l:List Nat) (i:Nat):intsN (l++[i])=intsN l++[.int .i64 (i:Int)]:=by simp[intsN]
theorem intsN_one (l:List Nat):∀u∈intsN l,u.oneCell'=true:=by
 intro u hu
 obtain⟨i,_,rfl⟩:=List.mem_map.1 hu
 rfl
def NdA (W:World) (vV hV:Value) (x:Value×List Nd):Prop:=∃B vs,Nds B W x.2 vs x.1∧∀(i:Nat) (v:V3),vs[i]?=some v→v.2.1.ownBlock=none∨(v.2.1.ownBlock≠vV.ownBlock∧v.2.1.ownBlock≠hV.ownBlock)
theorem Nds.sub_at {B:Nat} {w:World} {ns:List Nd} {vs:List V3} {vn:Value} (h:Nds B w ns vs vn) {i:Nat} {v:V3} (hv:vs[i]?=some v):∃d,Sub B w d v:=by
 have hi:=(List.getElem?_eq_some_iff.1 hv).1
 exact⟨_,h.sub i _ v (List.getElem?_eq_getElem (by rw[←h.len];exact hi)) hv⟩
section
variable {W W':World} {vV hV:Value} {x:Value×List Nd}
theorem NdA.ok (h:NdA W vV hV x):NdOk W x:=by obtain⟨B,vs,h,_⟩:=h;exact⟨B,vs,h⟩
theorem NdA.ext (h:NdA W vV hV x) (hx:Ext W W'):NdA W' vV hV x:=by obtain⟨B,vs,h,k⟩:=h;exact⟨B,vs,h.ext hx,k⟩
theorem NdA.setCell (h:NdA W vV hV x) {g i:Nat} {cs:Array Value} (hb:Blk W g cs 59) (u:Value):NdA (W.setCell ⟨g,i,none⟩ u) vV hV x:=by
 obtain⟨B,vs,h,k⟩:=h
 exact⟨B,vs,⟨h.len,own_setCell h.row hb (by decide) u,fun i d v a b=>let s:=h.sub i d v a b;⟨own_setCell s.syms hb (by decide) u,own_setCell s.items hb (by decide) u,own_setCell s.fields hb (by decide) u⟩⟩,k⟩
theorem NdA.seen (h:NdA W vV hV x) {base n:Nat} {V:Value} {xs:List Value} (ho:W.ownsRow base 24 1 V n xs) (hg:W.grownBy W' V.ownBlock):NdA W' vV hV x:=by
 obtain⟨B,vs,h,k⟩:=h
 exact⟨B,vs,⟨h.len,h.row.kept hg (own_ne_own ho h.row (by decide)),fun i d v a b=>let s:=h.sub i d v a b;⟨s.syms.kept hg (own_ne_own ho s.syms (by decide)),s.items.kept hg (own_ne_own ho s.items (by decide)),s.fields.kept hg (own_ne_own ho s.fields (by decide))⟩⟩,k⟩
theorem NdA.vis (h:NdA W vV hV x) {base n:Nat} {xs:List Value} {vV':Value} (ho:W.ownsRow base 3 1 vV n xs) (hg:W.grownBy W' vV.ownBlock) (hv':vV'.ownBlock=vV.ownBlock∨vV'.ownBlock=some W.heap.size):NdA W' vV' hV x:=by
 obtain⟨B,vs,h,k⟩:=h
 refine⟨B,vs,⟨h.len,h.row.kept hg (own_ne_own ho h.row (by decide)),fun i d v a b=>?_⟩,fun i v hv=>?_⟩
 ·have s:=h.sub i d v a b
  exact⟨s.syms.kept hg (own_ne_own ho s.syms (by decide)),s.items.kept hg ((k i v b).imp id fun e=>e.1),s.fields.kept hg (own_ne_own ho s.fields (by decide))⟩
 ·obtain⟨d,s⟩:=Nds.sub_at h hv
  rcases k i v hv with e|⟨e1,e2⟩
  ·exact .inl e
  ·refine .inr ⟨?_,e2⟩
   rcases hv' with hv'|hv'
   ·rw[hv'];exact e1
   ·rw[hv']
    intro e
    have:=(s.items.lt _ e).2
    omega
theorem NdA.held (h:NdA W vV hV x) {base n:Nat} {xs:List Value} {hV':Value} (ho:W.ownsRow base 3 1 hV n xs) (hg:W.grownBy W' hV.ownBlock) (hv':hV'.ownBlock=hV.ownBlock∨hV'.ownBlock=some W.heap.size):NdA W' vV hV' x:=by
 obtain⟨B,vs,h,k⟩:=h
 refine⟨B,vs,⟨h.len,h.row.kept hg (own_ne_own ho h.row (by decide)),fun i d v a b=>?_⟩,fun i v hv=>?_⟩
 ·have s:=h.sub i d v a b
  exact⟨s.syms.kept hg (own_ne_own ho s.syms (by decide)),s.items.kept hg ((k i v b).imp id fun e=>e.2),s.fields.kept hg (own_ne_own ho s.fields (by decide))⟩
 ·obtain⟨d,s⟩:=Nds.sub_at h hv
  rcases k i v hv with e|⟨e1,e2⟩
  ·exact .inl e
  ·refine .inr ⟨e1,?_⟩
   rcases hv' with hv'|hv'
   ·rw[hv'];exact e2
   ·rw[hv']
    intro e
    have:=(s.items.lt _ e).2
    omega
theorem NdA.new {W0:World} {ns:List Nd} {vs:List V3} {v:Value} (hn:Nds W0.heap.size W ns vs v) {b1 b2 n1 n2:Nat} {x1 x2:List Value} {e1 e2:TypeId} (h1:W0.ownsRow b1 e1 1 vV n1 x1) (h2:W0.ownsRow b2 e2 1 hV n2 x2):NdA W vV hV (v,ns):=by
 refine⟨_,vs,hn,fun i u hu=>?_⟩
 obtain⟨d,s⟩:=Nds.sub_at hn hu
 cases hk:u.2.1.ownBlock with
 | none=>exact .inl rfl
 | some k=>
  have hlt:=(s.items.lt k hk).1
  refine .inr ⟨fun e=>?_,fun e=>?_⟩
  ·have:=(h1.lt k e.symm).2;omega
  ·have:=(h2.lt k e.symm).2;omega
end
theorem Sl.ofOwn {w:World} {base:Nat} {e:TypeId} {n:Nat} {V:Value} {xs:List Value} (h:w.ownsRow base e 1 V n xs):Sl w.heap.size w V n xs:=by
 have hlt:=h.lt
 have hA:∀A m c,V=.slice A m c→A=none→c=0:=fun A m c h1 ha'=>by
  rcases h.2 with⟨e2,_⟩|⟨g,cap,cur,e2,_⟩
  ·rw[h1] at e2;injection e2
  ·rw[h1,ha'] at e2;injection e2 with e2;cases e2
 obtain⟨A,c,rfl,h1,h2,h3,h4⟩:=Rd.of_own h
 exact⟨A,c,rfl,h3,fun _ a ha=>(hlt a.block (by rw[ha];rfl)).2,h1,h2,hA A _ c rfl⟩
structure AS (q q3:Nat) (w0:World) (st:Adm) (vV hV sV:Value) (L:List (Value×List Nd)) (W:World):Prop where
 blk:Blk W q3 #[.int .i64 st.p,vV,hV] 59
 vis:W.ownsRow q 3 1 vV st.vis.length (intsN st.vis)
 held:W.ownsRow q 3 1 hV st.held.length (intsN st.held)
 dis:hV.ownBlock=none∨hV.ownBlock≠vV.ownBlock
 seen:W.ownsRow q 24 1 sV st.seen.length (L.map (·.1))
 ns:L.map (fun x=>x.2.map Nd.toE)=st.seen
 ok:∀x∈L,NdA W vV hV x∧∃s,isP s=true∧x.2=(parseP s).1
 x:Ext w0 W
 hq:w0.heap.size=q
 hq3:w0.heap.size≤q3
section
variable {q q3:Nat} {w0:World} {st:Adm} {vV hV sV:Value} {L:List (Value×List Nd)} {W W':World}
theorem AS.dis' (h:AS q q3 w0 st vV hV sV L W):vV.ownBlock=none∨vV.ownBlock≠hV.ownBlock:=by
 rcases h.dis with e|e
 ·cases hv:vV.ownBlock with
  | none=>exact .inl rfl
  | some k=>exact .inr (by rw[e];simp)
 ·exact .inr fun x=>e x.symm
theorem AS.ext (h:AS q q3 w0 st vV hV sV L W) (hx:Ext W W'):AS q q3 w0 st vV hV sV L W':=
 ⟨h.blk.ext hx,own_ext h.vis hx,own_ext h.held hx,h.dis,own_ext h.seen hx,h.ns,fun x hx'=>⟨(h.ok x hx').1.ext hx,(h.ok x hx').2⟩,h.x.trans hx,h.hq,h.hq3⟩
theorem AS.pol (h:AS q q3 w0 st vV hV sV L W) (p:Int):AS q q3 w0 { st with p:=p } vV hV sV L (W.setCell ⟨q3,0,none⟩ (.int .i64 p)):=
 ⟨by simpa using h.blk.set 0 (.int .i64 p),own_setCell h.vis h.blk (by decide) _,own_setCell h.held h.blk (by decide) _,h.dis,own_setCell h.seen h.blk (by decide) _,h.ns,fun x hx'=>⟨(h.ok x hx').1.setCell h.blk _,(h.ok x hx').2⟩,h.x.setCell h.hq3 _,h.hq,h.hq3⟩
theorem AS.grow_held (h:AS q q3 w0 st vV hV sV L W) {hV':Value} {i:Nat} (ho:W'.ownsRow q 3 1 hV' (st.held.length+1) (intsN st.held++[.int .i64 (i:Int)])) (hg:W.grownBy W' hV.ownBlock) (hv':hV'.ownBlock=hV.ownBlock∨hV'.ownBlock=some W.heap.size) :
  AS q q3 w0 { st with held:=st.held++[i] } vV hV' sV L (W'.setCell ⟨q3,2,none⟩ hV'):=by
 have hb:Blk W' q3 #[.int .i64 st.p,vV,hV] 59:=h.blk.grown hg (own_ne_blk h.held h.blk (by decide))
 refine⟨by simpa using hb.set 2 hV',own_setCell (h.vis.kept hg h.dis') hb (by decide) _,own_setCell (by rw[List.length_append,intsN_snoc];exact ho) hb (by decide) _,?_,own_setCell (h.seen.kept hg (own_ne_own h.held h.seen (by decide))) hb (by decide) _,h.ns,fun x hx'=>⟨((h.ok x hx').1.held h.held hg hv').setCell hb _,(h.ok x hx').2⟩,(h.x.then_grown hg (fun k hk=>by have:=(h.held.lt k hk).1;have:=h.hq;omega)).setCell h.hq3 _,h.hq,h.hq3⟩
 rcases hv' with hv'|hv'
 ·rw[hv'];exact h.dis
 ·refine .inr fun e=>?_
  rw[hv'] at e
  have:=(h.vis.lt _ e.symm).2
  omega
theorem AS.grow_vis (h:AS q q3 w0 st vV hV sV L W) {vV':Value} {i:Nat} (ho:W'.ownsRow q 3 1 vV' (st.vis.length+1) (intsN st.vis++[.int .i64 (i:Int)])) (hg:W.grownBy W' vV.ownBlock) (hv':vV'.ownBlock=vV.ownBlock∨vV'.ownBlock=some W.heap.size) :
  AS q q3 w0 { st with vis:=st.vis++[i] } vV' hV sV L (W'.setCell ⟨q3,1,none⟩ vV'):=by
 have hb:Blk W' q3 #[.int .i64 st.p,vV,hV] 59:=h.blk.grown hg (own_ne_blk h.vis h.blk (by decide))
 refine⟨by simpa using hb.set 1 vV',own_setCell (by rw[List.length_append,intsN_snoc];exact ho) hb (by decide) _,own_setCell (h.held.kept hg h.dis) hb (by decide) _,?_,own_setCell (h.seen.kept hg (own_ne_own h.vis h.seen (by decide))) hb (by decide) _,h.ns,fun x hx'=>⟨((h.ok x hx').1.vis h.vis hg hv').setCell hb _,(h.ok x hx').2⟩,(h.x.then_grown hg (fun k hk=>by have:=(h.vis.lt k hk).1;have:=h.hq;omega)).setCell h.hq3 _,h.hq,h.hq3⟩
 rcases hv' with hv'|hv'
 ·rw[hv'];exact h.dis
 ·cases hh:hV.ownBlock with
  | none=>exact .inl rfl
  | some k=>
   refine .inr fun e=>?_
   rw[hv'] at e
   have:=(h.held.lt k hh).2
   injection e with e
   omega
theorem AS.grow_seen (h:AS q q3 w0 st vV hV sV L W) {sV' v:Value} {s:ByteArray} (hs:isP s=true) (hn:NdA W vV hV (v,(parseP s).1)) (ho:W'.ownsRow q 24 1 sV' (st.seen.length+1) (L.map (·.1)++[v])) (hg:W.grownBy W' sV.ownBlock) :
  AS q q3 w0 { st with seen:=st.seen++[schP s] } vV hV sV' (L++[(v,(parseP s).1)]) W':=by
 refine⟨h.blk.grown hg (own_ne_blk h.seen h.blk (by decide)),h.vis.kept hg (own_ne_own h.seen h.vis (by decide)),h.held.kept hg (own_ne_own h.seen h.held (by decide)),h.dis,by simpa using ho,?_,fun x hx'=>?_,h.x.then_grown hg (fun k hk=>by have:=(h.seen.lt k hk).1;have:=h.hq;omega),h.hq,h.hq3⟩
 ·rw[List.map_append,h.ns,schP_of hs];rfl
 ·rcases List.mem_append.1 hx' with hx'|hx'
  ·exact⟨(h.ok x hx').1.seen h.seen hg,(h.ok x hx').2⟩
  ·rw[List.mem_singleton] at hx'
   subst hx'
   exact⟨hn.seen h.seen hg,s,hs,rfl⟩
theorem AS.row (h:AS q q3 w0 st vV hV sV L W):∃A c L2,sV=.slice A st.seen.length c∧Rd W A (schZ L2)∧L2.length=st.seen.length∧st.seen.length≤c∧c≤maxLen∧(A=none→c=0)∧L2.map (·.2)=st.seen∧∀x∈L2,SchOk W x:=by
 obtain⟨A,c,h1,h2,h3,h4,h5⟩:=Rd.of_own h.seen
 have hA:A=none→c=0:=fun ha'=>by
  rcases h.seen.2 with⟨e2,_⟩|⟨g,cap,cur,e2,_⟩
  ·rw[h1] at e2;injection e2
  ·rw[h1,ha'] at e2;injection e2 with e2;cases e2
 have hlen:L.length=st.seen.length:=by rw[←h.ns,List.length_map]
 refine⟨A,c,L.map fun x=>(x.1,x.2.map Nd.toE),h1,?_,by simpa using hlen,by first|exact h2|exact h3|exact h4,by first|exact h3|exact h4|exact h5,hA,?_,?_⟩
 ·have e:schZ (L.map fun x=>(x.1,x.2.map Nd.toE))=L.map (·.1):=by simp[schZ,Function.comp_def]
  rw[e]
  first|exact h2|exact h3|exact h4|exact h5
 ·rw[←h.ns,List.map_map];rfl
 ·intro x hx
  obtain⟨y,hy,rfl⟩:=List.mem_map.1 hx
  obtain⟨h6,s,hs,e⟩:=h.ok y hy
  obtain⟨y1,y2⟩:=y
  simp only at e
  subst e
  have h7:=nd_ok hs h6.ok
  rw[schP_of hs] at h7
  exact h7
theorem admA_pol (l:List Et):∀n,polP (admA l n).p=true
 | 0=>rfl
 | n+1=>by
  have ih:=admA_pol l n
  rw[show admA l (n+1)=admS (admA l n) n (l.getD n e0) from rfl]
  unfold admS
  split
  ·split
   ·next h=>exact h.1
   ·exact ih
  ·split<;>exact ih
theorem adm_len (l:List Et):∀n,(admA l n).vis.length≤n∧(admA l n).held.length≤n∧(admA l n).seen.length≤n
 | 0=>by simp[admA]
 | n+1=>by
  obtain⟨i1,i2,i3⟩:=adm_len l n
  rw[show admA l (n+1)=admS (admA l n) n (l.getD n e0) from rfl]
  unfold admS
  split
  ·split
   ·exact⟨Nat.le_succ_of_le i1,Nat.le_succ_of_le i2,Nat.le_succ_of_le i3⟩
   ·exact⟨Nat.le_succ_of_le i1,by simpa using i2,Nat.le_succ_of_le i3⟩
  ·split
   ·exact⟨by simpa using i1,Nat.le_succ_of_le i2,by simpa using i3⟩
   ·exact⟨Nat.le_succ_of_le i1,by simpa using i2,Nat.le_succ_of_le i3⟩
end
end Pl
end Go.Proofs.YtmaoochjbpohdaaGreatDoor
