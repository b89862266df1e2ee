/- policy: whether a version may follow others: walked. -/
import Derived.Test.YtmaoochjbpohdaaGreatDoorPbN
set_option linter.unusedVariables false
set_option linter.unusedSimpArgs false
set_option maxRecDepth 100000
set_option maxHeartbeats 1000000
namespace Go.Proofs.YtmaoochjbpohdaaGreatDoor.Pl
open Go.ChangeShapes Go.WideShapes Go.ChangeAt Go.RowKit
open Base Lx Mi Pr Rv Cn
structure SchOk (w:World) (x:Value×Ns):Prop where
 sch:Sch w.heap.size w x.1 x.2
 len:showLen x.2≤100000000
theorem SchOk.ext {w w':World} {x:Value×Ns} (h:SchOk w x) (hx:Ext w w'):SchOk w' x:=⟨(h.sch.below hx).mono hx.size,h.len⟩
theorem bits_rng {p:Int} (h:polP p=true):0≤bitsP p∧bitsP p≤3:=by
 rcases pol_cases h with rfl|rfl|rfl|rfl|rfl|rfl|rfl<;>simp[bitsP]
theorem next1_any (p:Int) (hp:polP p=true) (x y:Value×Ns) (qb qo:Addr) (w:World) (hx:SchOk w x) (hy:SchOk w y) (hwd:Wd w) (hpow:Pow w) (h1:w.cell? qb=some (.int .i64 (bitsP p))) (h2:w.cell? qo=some y.1) :
  Calls Tryz.prog 78 #[.agg #[x.1],.pointer (some qb),.pointer (some qo)] w fun en w'=>en=.returned (.bool (!folP p x.2 y.2))∧Ext w w':=by
 obtain⟨vx,ex⟩:=x
 obtain⟨vy,ey⟩:=y
 obtain⟨w1,hw1⟩:∃z,Hid (w.alloc (.cells #[vx] 24)=z):=⟨_,rfl⟩
 have hx1:Ext w w1:=by rw[←hw1.out];exact (Ext.refl w).alloc _
 have hc:=follows_any (bitsP p) (bits_rng hp) ex ey vx vy w1 (hx.ext hx1).sch (hy.ext hx1).sch (hwd.ext hx1) (hpow.ext hx1) hx.len hy.len
 rw[folB_eq hp] at hc
 have g1:(w.alloc (.cells #[vx] 24)).cell? qb=some (.int .i64 (bitsP p)):=((Ext.refl w).alloc _).cell h1
 have g2:(w.alloc (.cells #[vx] 24)).cell? qo=some vy:=((Ext.refl w).alloc _).cell h2
 obtain⟨b,hb⟩:∃z,Hid (bitsP p=z):=⟨_,rfl⟩
 obtain⟨v,hv⟩:∃z,Hid (folP p ex ey=z):=⟨_,rfl⟩
 rw[hb.out] at hc g1
 simp only[hv.out] at hc ⊢
 clear h1 h2 hx hy
 go_enter Tryz.func78,Tryz.ntmps78
 go_wp2_with fail
 rw[hw1.out]
 refine hc.mono ?_
 rintro en w2 ⟨rfl,hx2⟩
 go_wp2_with fail
 go_ret
 exact⟨rfl,hx1.trans hx2⟩
theorem lastOf_map (p:Int) (l:List (Value×Ns)):lastOf p (l.map (·.2))=(if allP p=false∧1<l.length then l.drop (l.length-1) else l).map (·.2):=by
 unfold lastOf
 rw[List.length_map]
 split
 ·rw[List.map_drop]
 ·rfl
theorem next_any (p:Int) (hp:polP p=true) (A:Option Addr) (n c:Nat) (l:List (Value×Ns)) (y:Value×Ns) (w:World) (hr:Rd w A (schZ l)) (hn:l.length=n) (hnc:n≤c) (hcm:c≤maxLen) (hA:A=none→c=0) (hl:n≤100000) (hS:∀x∈l,SchOk w x) (hy:SchOk w y) (hwd:Wd w) (hpow:Pow w) :
  Calls Tryz.prog 58 #[.int .i64 p,.slice A n c,.agg #[y.1]] w fun en w'=>en=.returned (.bool (nextP p (l.map (·.2)) y.2))∧Ext w w':=by
 unfold nextP
 rw[lastOf_map]
 obtain⟨w1,hw1⟩:∃z,Hid (w.alloc (.cells #[y.1] 24)=z):=⟨_,rfl⟩
 have hx1:Ext w w1:=by rw[←hw1.out];exact (Ext.refl w).alloc _
 obtain⟨q5,hq5⟩:∃z,Hid (w.heap.size=z):=⟨_,rfl⟩
 have b5:Blk w1 q5 #[y.1] 24:=by rw[←hq5.out,←hw1.out];exact Blk.new w _ _
 have hc1:=asks_any p hp w1
 obtain⟨b,hb⟩:∃z,Hid (bitsP p=z):=⟨_,rfl⟩
 obtain⟨al,hal⟩:∃z,Hid (allP p=z):=⟨_,rfl⟩
 rw[hb.out,hal.out] at hc1
 rw[hal.out]
 have hcut:1<n→∀W,(Instr.sliceAt 77 (.slice A n c) (some (.int .i64 ((n:Int)-1))) none none).run Tryz.prog W=.ok (.slice (cutA A c (n-1)) (n-(n-1)) (c-(n-1))) W:=fun h W=>by
  have:=run_cutAt (P:=Tryz.prog) (t:=77) (e:=24) Tryz.underlying77 (by kernel_rfl) W A n c (n-1) n (some (.int .i64 ((n-1:Nat):Int))) none (.inl rfl) (.inr ⟨rfl,rfl⟩) (by omega) hnc (fun _=>hnc)
  rwa [show ((n-1:Nat):Int)=(n:Int)-1 by omega] at this
 obtain⟨l',A',n',c',hl',hr',hn',hsl⟩:∃l' A' n' c',(if al=false∧1<l.length then l.drop (l.length-1) else l)=l'∧Rd w A' (schZ l')∧l'.length=n'∧(if al=false∧1<n then A'=cutA A c (n-1)∧n'=n-(n-1)∧c'=c-(n-1) else A'=A∧n'=n∧c'=c):=by
  by_cases hcase:al=false∧1<n
  ·refine⟨_,cutA A c (n-1),n-(n-1),c-(n-1),rfl,?_,?_,?_⟩
   ·rw[hn,if_pos hcase]
    have:=Rd.cut hr (c:=c) (l:=n-1) (k:=n) (by omega) hnc
    have e:((schZ l).take n).drop (n-1)=schZ (l.drop (n-1)):=by
     rw[List.take_of_length_le (by simp[schZ,hn])]
     simp[schZ,List.map_drop]
    rwa [e] at this
   ·rw[hn,if_pos hcase,List.length_drop];omega
   ·rw[if_pos hcase];exact⟨rfl,rfl,rfl⟩
  ·exact⟨_,A,n,c,rfl,by rw[hn,if_neg hcase];exact hr,by rw[hn,if_neg hcase];exact hn,by rw[if_neg hcase];exact⟨rfl,rfl,rfl⟩⟩
 have hS':∀x∈l',SchOk w x:=fun x hx=>by
  rw[←hl'] at hx
  split at hx
  ·exact hS x (List.mem_of_mem_drop hx)
  ·exact hS x hx
 have hn5:n'≤100000:=by split at hsl<;>omega
 rw[hl']
 have hv:(l'.map (·.2)).all (fun e=>folP p e y.2) = !(l'.any fun x => !folP p x.2 y.2):=by
  rw[List.all_map,List.not_any_eq_all_not]
  congr 1
  funext x
  simp
 rw[hv]
 have hca:=fun q7 W (hW:Ext w1 W) (h7:W.cell? ⟨q7,0,none⟩=some (.int .i64 (bitsP p)))=>hasSch_any (F:=78) ⟨q7,0,none⟩ ⟨q5,0,none⟩ A' c' l' (fun x => !folP p x.2 y.2) W (hr'.ext (hx1.trans hW)) n' hn' hn5 (fun _ _=>by kernel_rfl)
  (fun x hx W' hW'=>next1_any p hp x y _ _ W' ((hS' x hx).ext (hx1.trans (hW.trans hW'))) (hy.ext (hx1.trans (hW.trans hW'))) (hwd.ext (hx1.trans (hW.trans hW'))) (hpow.ext (hx1.trans (hW.trans hW'))) (hW'.cell h7) (by have:=(b5.ext (hW.trans hW')).cell 0;simpa using this))
 obtain⟨v,hv'⟩:∃z,Hid ((l'.any fun x => !folP p x.2 y.2)=z):=⟨_,rfl⟩
 simp only[hv'.out,hb.out] at hca ⊢
 obtain⟨y1,hy1⟩:∃z,Hid (y.1=z):=⟨_,rfl⟩
 rw[hy1.out] at hw1 ⊢
 replace hca:=Lib.hid hca
 clear hr hr' hS hS' hy hl' hv hn hn' b5
 have hcl:∀W:World,(W.alloc (.cells #[.int .i64 b] 3)).cell? ⟨W.heap.size,0,none⟩=some (.int .i64 b):=fun W=>(Blk.new W #[.int .i64 b] 3).cell 0
 replace hcl:=Lib.hid hcl
 have hx8:∀W:World,Ext w1 W→Ext w1 (W.alloc (.cells #[.int .i64 b] 3)):=fun W h=>h.alloc _
 replace hx8:=Lib.hid hx8
 by_cases hcase:al=false∧1<n
 ·rw[if_pos hcase] at hsl
  obtain⟨rfl,h1n⟩:=hcase
  have hcut':=hcut h1n
  obtain⟨rfl,e2,e3⟩:=hsl
  rw[←e2,←e3] at hcut'
  have h1n':(1:Int)<(n:Int):=by omega
  have hwn:IntKind.i64.wrap ((n:Int)-1)=(n:Int)-1:=by rw[IntKind.wrap_i64];omega
  clear hcut e2 e3 h1n hnc hcm
  go_enter Tryz.func58,Tryz.ntmps58
  go_wp2_with fail
  rw[hw1.out,hq5.out]
  refine hc1.mono ?_
  rintro en w2 ⟨rfl,hx2⟩
  have hc2:=hca.out w2.heap.size (w2.alloc (.cells #[.int .i64 b] 3)) (hx8.out w2 hx2) (hcl.out w2)
  clear hc1
  go_wp2_with fail
  refine hc2.mono ?_
  rintro en w3 ⟨rfl,hx3⟩
  have hxx:=hx1.trans ((hx8.out w2 hx2).trans hx3)
  go_wp2_with fail
  go_ret
  exact⟨rfl,hxx⟩
 ·rw[if_neg hcase] at hsl
  obtain⟨rfl,rfl,rfl⟩:=hsl
  clear hcut
  cases al with
  | true=>
   go_enter Tryz.func58,Tryz.ntmps58
   go_wp2_with fail
   rw[hw1.out,hq5.out]
   refine hc1.mono ?_
   rintro en w2 ⟨rfl,hx2⟩
   have hc2:=hca.out w2.heap.size (w2.alloc (.cells #[.int .i64 b] 3)) (hx8.out w2 hx2) (hcl.out w2)
   clear hc1
   go_wp2_with fail
   refine hc2.mono ?_
   rintro en w3 ⟨rfl,hx3⟩
   have hxx:=hx1.trans ((hx8.out w2 hx2).trans hx3)
   go_wp2_with fail
   go_ret
   exact⟨rfl,hxx⟩
  | false=>
   have h1n':¬(1:Int)<(n':Int):=by have:¬1<n':=fun h=>hcase ⟨rfl,h⟩;omega
   clear hcase
   go_enter Tryz.func58,Tryz.ntmps58
   go_wp2_with fail
   rw[hw1.out,hq5.out]
   refine hc1.mono ?_
   rintro en w2 ⟨rfl,hx2⟩
   have hc2:=hca.out w2.heap.size (w2.alloc (.cells #[.int .i64 b] 3)) (hx8.out w2 hx2) (hcl.out w2)
   clear hc1
   go_wp2_with fail
   refine hc2.mono ?_
   rintro en w3 ⟨rfl,hx3⟩
   have hxx:=hx1.trans ((hx8.out w2 hx2).trans hx3)
   go_wp2_with fail
   go_ret
   exact⟨rfl,hxx⟩
theorem Schema_nds (s:ByteArray) (hs:s.size≤140737488351232) (hP:isP s=true) (w:World) (hwd:Wd w) (hpow:Pow w) :
  Calls Tryz.prog 57 #[.string s] w fun e w'=>(∃v vs,e=.returned (.tuple #[.agg #[v],.bool true])∧Nds w.heap.size w' (parseP s).1 vs v)∧Ext w w':=by
 obtain⟨q,hq⟩:∃z,Hid (w.heap.size=z):=⟨_,rfl⟩
 obtain⟨w1,hw1⟩:∃z,Hid (w.alloc (.cells #[.slice none 0 0] 24)=z):=⟨_,rfl⟩
 have hx1:Ext w w1:=by rw[←hw1.out];exact (Ext.refl w).alloc _
 have hb1:Blk w1 q #[.slice none 0 0] 24:=by rw[←hw1.out,←hq.out];exact Blk.new w _ _
 have his:=cis_any s hs w1 (hwd.ext hx1) (hpow.ext hx1)
 have hpar:=fun W (hW:Ext w W)=>parse_any s hs W (hwd.ext hW) (by have:=hpow.lt;have:=hW.size;omega)
 have l7:=parse_rng s
 rw[hP] at his
 obtain⟨PO,hPO⟩:∃PO:Ending→World→Prop,Hid ((fun e w'=>(∃v vs,e=.returned (.tuple #[.agg #[v],.bool true])∧Nds w.heap.size w' (parseP s).1 vs v)∧Ext w w')=PO):=⟨_,Lib.hid rfl⟩
 rw[hPO.out]
 clear hP
 obtain⟨r,hr⟩:∃z,Hid (parseP s=z):=⟨_,Lib.hid rfl⟩
 rw[hr.out] at l7
 simp only[hr.out] at hpar
 obtain⟨ns,at_,why⟩:=r
 replace hpar:∀W,Ext w W→Calls Tryz.prog 76 #[.string s] W fun e w'=>∃v vs,e=.returned (.tuple #[.agg #[v],.int .i64 at_,.int .i64 why])∧Nds W.heap.size w' ns vs v∧Ext W w':=hpar
 replace l7:∀d∈ns,-9223372036854775808≤d.size∧d.size≤9223372036854775807:=l7
 replace hpar:=Lib.hid hpar
 replace l7:=Lib.hid l7
 go_enter Tryz.func57,Tryz.ntmps57
 go_wp2_with fail
 rw[hw1.out,hq.out]
 refine his.mono ?_
 rintro e w2 ⟨rfl,hx2⟩
 have hx02:=hx1.trans hx2
 have hp2:=hpar.out w2 hx02
 have hb2:=hb1.ext hx2
 clear his hpar
 go_wp2_with fail
 refine hp2.mono ?_
 rintro e w3 ⟨v,vs,rfl,hnd,hx3⟩
 have hx03:=hx02.trans hx3
 obtain⟨A,c,rfl,jj1,jj2,jj3,jj4⟩:=Rd.of_own hnd.row
 clear jj1 jj2 jj3 jj4 hp2
 obtain⟨k,hk⟩:∃z,Hid (ns.length=z):=⟨_,Lib.hid rfl⟩
 rw[hk.out] at hnd ⊢
 obtain⟨w4,hw4⟩:∃z,Hid (w3.alloc (.cells #[.slice A k c] 24)=z):=⟨_,rfl⟩
 have hx4:Ext w3 w4:=by rw[←hw4.out];exact (Ext.refl w3).alloc _
 have hb4:=(hb2.ext hx3).ext hx4
 have hx04:=hx03.trans hx4
 have k0:=hb4.cell 0
 have f0:=hb4.frozen 0
 simp only[List.getElem?_toArray,List.getElem?_cons_zero] at k0
 have hbF:=hb4.set 0 (.slice A k c)
 have hch:=Chg.one w4 q 0 (.slice A k c)
 have hxF:Ext w (w4.setCell ⟨q,0,none⟩ (.slice A k c)):=Ext.chg hx04 hch (fun i hi e=>by have e:i=q:=e;have:=hq.out;omega)
 rw[←hw4.out] at k0 f0
 have hq2:q<w2.heap.size:=World.block_lt_of_cell? w2 ⟨q,0,none⟩ (hb2.cell 0)
 have hnF:=(hnd.ext hx4).low hch (fun k e=>by have e:k=q:=e;omega)
 have hSF:=hnF.mono (show w.heap.size≤w2.heap.size from hx02.size)
 have hp:PO (.returned (.tuple #[.agg #[.slice A k c],.bool true])) (w4.setCell ⟨q,0,none⟩ (.slice A k c)):=by
  rw[←hPO.out]
  refine⟨⟨_,vs,rfl,?_⟩,hxF⟩
  rw[hr.out]
  exact hSF
 clear hnd hnF hSF hch hPO
 go_wp2_with fail
 rw[hw4.out]
 refine bodyPost_ret (resSchema rfl rfl (hbF.cell 0)) rfl ?_
 exact hp
theorem el_sch:El Tryz.prog 77 24 (.agg #[.slice none 0 0]) 1 24:=⟨by kernel_rfl,by kernel_rfl,by kernel_rfl,by omega⟩
def NdOk (w:World) (x:Value×List Nd):Prop:=∃B vs,Nds B w x.2 vs x.1
theorem NdOk.ext {w w':World} {x:Value×List Nd} (h:NdOk w x) (hx:Ext w w'):NdOk w' x:=by
 obtain⟨B,vs,h⟩:=h
 exact⟨B,vs,h.ext hx⟩
theorem NdOk.grown {w w':World} {x:Value×List Nd} (h:NdOk w x) {base n:Nat} {V:Value} {xs:List Value} (ho:w.ownsRow base 24 1 V n xs) (hg:w.grownBy w' V.ownBlock):NdOk w' x:=by
 obtain⟨B,vs,h⟩:=h
 exact⟨B,vs,h.len,h.row.kept hg (own_ne_own ho h.row (by decide)),fun i d v a b=>let s:=h.sub i d v a b;⟨s.syms.kept hg (own_ne_own ho s.syms (by decide)),s.items.kept hg (own_ne_own ho s.items (by decide)),s.fields.kept hg (own_ne_own ho s.fields (by decide))⟩⟩
structure SS (q:Nat) (w0:World) (l:List ByteArray) (i:Nat) (V:Value) (L:List (Value×List Nd)) (W:World):Prop where
 own:W.ownsRow q 24 1 V i (L.map (·.1))
 ns:L.map (·.2)=(l.take i).map fun s=>(parseP s).1
 ok:∀x∈L,NdOk W x
 all:(l.take i).all isP=true
 x:Ext w0 W
theorem take_all {l:List ByteArray} {i:Nat} {s:ByteArray} (h:l[i]?=some s) (ha:(l.take i).all isP=true) (hs:isP s=true):(l.take (i+1)).all isP=true:=by
 rw[List.take_add_one,h,List.all_append,ha]
 simp[hs]
theorem SS.next {q:Nat} {w0:World} {l:List ByteArray} {i:Nat} {V V':Value} {L:List (Value×List Nd)} {W W':World} (h:SS q w0 l i V L W) (hq:w0.heap.size≤q) {s:ByteArray} {v:Value} (hs:l[i]?=some s) (hp:isP s=true) (hn:NdOk W (v,(parseP s).1))
  (ho:W'.ownsRow q 24 1 V' (i+1) (L.map (·.1)++[v])) (hg:W.grownBy W' V.ownBlock):SS q w0 l (i+1) V' (L++[(v,(parseP s).1)]) W':=by
 refine⟨by simpa using ho,?_,fun x hx=>?_,take_all hs h.all hp,h.x.then_grown hg (fun k hk=>by have:=(h.own.lt k hk).1;omega)⟩
 ·rw[List.map_append,h.ns,List.take_add_one,hs];simp
 ·rcases List.mem_append.1 hx with hx|hx
  ·exact (h.ok x hx).grown h.own hg
  ·rw[List.mem_singleton] at hx;subst hx
   exact hn.grown h.own hg
theorem SS.ext {q:Nat} {w0:World} {l:List ByteArray} {i:Nat} {V:Value} {L:List (Value×List Nd)} {W W':World} (h:SS q w0 l i V L W) (hx:Ext W W'):SS q w0 l i V L W':=⟨own_ext h.own hx,h.ns,fun x hx'=>(h.ok x hx').ext hx,h.all,h.x.trans hx⟩
def schsV (q:Nat) (l:List ByteArray) (en:Ending) (w':World):Prop:=
 (l.all isP=true∧∃(V:Value) (L:List (Value×List Nd)),en=.returned (.tuple #[V,.bool true])∧w'.ownsRow q 24 1 V l.length (L.map (·.1))∧L.map (·.2)=l.map (fun s=>(parseP s).1)∧∀x∈L,NdOk w' x)∨(l.all isP=false∧en=.returned (.tuple #[.slice none 0 0,.bool false]))
theorem schemas_any (A:Option Addr) (n c:Nat) (l:List ByteArray) (w:World) (hr:Rd w A (txs l)) (hn:l.length=n) (hl:n≤100000) (hz:∀s∈l,s.size≤140737488351232) (hwd:Wd w) (hpow:Pow w) :
  Calls Tryz.prog 52 #[.slice A n c] w fun en w'=>schsV w.heap.size l en w'∧Ext w w':=by
 obtain⟨PO,hPO⟩:∃PO:Ending→World→Prop,Hid ((fun en w'=>schsV w.heap.size l en w'∧Ext w w')=PO):=⟨_,Lib.hid rfl⟩
 rw[hPO.out]
 have hno:∀i s W,l[i]?=some s→isP s=false→Ext w W→PO (.returned (.tuple #[.slice none 0 0,.bool false])) W:=fun i s W h1 h2 h3=>by
  rw[←hPO.out]
  exact⟨.inr ⟨by rw[List.all_eq_false];exact⟨s,List.mem_of_getElem? h1,by simp[h2]⟩,rfl⟩,h3⟩
 have hyes:∀V L W,SS w.heap.size w l n V L W→PO (.returned (.tuple #[V,.bool true])) W:=fun V L W h=>by
  rw[←hPO.out]
  have e:l.take n=l:=List.take_of_length_le (by omega)
  have h2:=h.ns
  have h3:=h.all
  have h4:=h.own
  rw[e] at h2 h3
  rw[←hn] at h4
  exact⟨.inl ⟨h3,V,L,rfl,h4,h2,h.ok⟩,h.x⟩
 replace hno:=Lib.hid hno
 replace hyes:=Lib.hid hyes
 have Hn:=Lib.hid hn
 clear hn
 replace hz:=Lib.hid hz
 obtain⟨q,hq⟩:∃z,Hid (w.heap.size=z):=⟨_,rfl⟩
 rw[hq.out] at hyes
 have hS0:SS q w l 0 (.slice none 0 0) [] w:=⟨World.ownsRow_nil w q _ 1,by simp,fun x hx=>(by cases hx),by simp,Ext.refl w⟩
 go_enter Tryz.func52,Tryz.ntmps52
 go_wp2_with fail
 go_loopw [4,6,7,8,11,12,13,14,15,16,17,18,19,20,21,22,23,24,25,26] (fun v4 v6 v7 v8 v11 v12 v13 v14 v15 v16 v17 v18 v19 v20 v21 v22 v23 v24 v25 v26 wr=>∃(i:Nat) (L:List (Value×List Nd)),i≤n∧v11=.int .i64 (i:Int)∧SS q w l i v4 L wr) (fun _ _ _ _ v11 _ _ _ _ _ _ _ _ _ _ _ _ _ _ _ _=>n-(intOf v11).toNat)
 case atStart=>exact⟨0,[],Nat.zero_le _,rfl,hS0⟩
 case round=>
  obtain⟨i,L,hi,rfl,hS⟩:=hrel
  obtain⟨V,hV⟩:∃z,z=u4:=⟨_,rfl⟩
  rw[←hV] at hS ⊢
  clear hV
  by_cases hin:i<n
  ·have hin':(i:Int)<(n:Int):=by omega
   obtain⟨s,hme⟩:∃m,l[i]?=some m:=⟨_,List.getElem?_eq_getElem (by have:=Hn.out;omega)⟩
   obtain⟨b,off,rfl,hzz,hc⟩:=(hr.ext hS.x).at_ (k:=i) (by simp only[txs,List.length_map];have:=Hn.out;omega)
   clear hzz
   have hck:wr.cell? ⟨b,off+i,none⟩=some (.string s):=hc i _ (by simp[txs,hme])
   clear hc
   have hs:=hz.out s (List.mem_of_getElem? hme)
   have Hme:=Lib.hid hme
   clear hme
   cases hP:isP s with
   | false=>
    have hcc:=Schema_any s hs wr (hwd.ext hS.x) (hpow.ext hS.x)
    rw[hP] at hcc
    have HP:=Lib.hid hP
    have hxr:=hS.x
    clear hS hs hP hS0
    go_wp2_with fail
    refine hcc.mono ?_
    rintro en w2 ⟨v,rfl,hSv,hx2⟩
    obtain⟨A',n',c',rfl⟩:=Rv.Sch.slice hSv
    clear hSv
    have hf:=hno.out i s (w2.alloc (.cells #[.slice A' n' c'] 24)) Hme.out HP.out (hxr.trans (hx2.trans ((Ext.refl w2).alloc _)))
    go_wp2_with fail
    exact hf
   | true=>
    have hcc:=Schema_nds s hs hP wr (hwd.ext hS.x) (hpow.ext hS.x)
    have HP:=Lib.hid hP
    clear hs hP hS0
    replace hS:=Lib.hid hS
    go_wp2_with fail
    refine hcc.mono ?_
    rintro en w2 ⟨⟨v,vs,rfl,hnd⟩,hx2⟩
    have hnk:NdOk w2 (v,(parseP s).1):=⟨_,vs,hnd⟩
    obtain⟨A',c',rfl,jj1,jj2,jj3,jj4⟩:=Rd.of_own hnd.row
    clear jj1 jj2 jj3 jj4 hcc hnd
    obtain⟨k,hk⟩:∃z,Hid ((parseP s).1.length=z):=⟨_,Lib.hid rfl⟩
    rw[hk.out] at hnk ⊢
    have hxL:Ext w2 ((w2.alloc (.cells #[.slice A' k c'] 24)).alloc (.cells #[.slice A' k c'] 24)):=((Ext.refl w2).alloc _).alloc _
    have hS4:=hS.out.ext (hx2.trans hxL)
    have hnL:=hnk.ext hxL
    have hrv:Rd ((w2.alloc (.cells #[.slice A' k c'] 24)).alloc (.cells #[.slice A' k c'] 24)) (some ⟨w2.heap.size+1,0,none⟩) [.slice A' k c']:=by
     have:=Rd.of_block (w2.alloc (.cells #[.slice A' k c'] 24)) 24 (0,0) (cs := #[.slice A' k c']) rfl
     simpa using this
    have hq4:q≤((w2.alloc (.cells #[.slice A' k c'] 24)).alloc (.cells #[.slice A' k c'] 24)).heap.size:=by rw[←hq.out];exact hS4.x.size
    clear hnk hxL
    go_wp2_with (
     refine wpList_app el_sch _ rfl (.tmp 22) (.tmp 24) rfl q V i (L.map (·.1)) rfl hS4.own (some ⟨w2.heap.size+1,0,none⟩) 1 1 [.slice A' k c'] rfl hrv rfl (fun h=>by cases h) (by simp[Value.oneCell']) (by omega) (by omega) hq4 (fun V' W' ho' hg' hv'=>?_)
     have hnx:=hS4.next (by rw[hq.out];exact Nat.le_refl _) Hme.out HP.out hnL ho' hg'
     clear ho' hg' hv' hS4 hnL hrv hq4)
    go_roundw
    case rel=>exact⟨i+1,_,by omega,by go_num,hnx⟩
    case measure=>simp[intOf]<;>omega
  ·obtain rfl:i=n:=by omega
   have hf:=hyes.out V L wr hS
   clear hS hS0
   go_wp2_with fail
   exact hf
end Go.Proofs.YtmaoochjbpohdaaGreatDoor.Pl
