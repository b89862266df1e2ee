/- parse: the document's copy of a schema: a node's lists. -/
import Derived.Test.YtmaoochjbpohdaaGreatDoorQbU
import Derived.Maps.OwnSet
import Derived.MapViews
import Derived.DeepKeys4
import Derived.WideKeyEntry
set_option linter.unusedVariables false
set_option linter.unusedSimpArgs false
set_option maxRecDepth 100000
set_option maxHeartbeats 1000000
namespace Go.Proofs.YtmaoochjbpohdaaGreatDoor.Pr
open Go.ChangeShapes Go.WideShapes Go.ChangeAt Go.RowKit
open Base Lx Mi
structure SubO (B:Nat) (w:World) (d:Ne) (v:V3):Prop where
 syms:w.ownsRow B 9 1 v.1 d.syms.length (txs d.syms)
 items:w.ownsRow B 3 1 v.2.1 d.items.length (intsZ d.items)
 fields:w.ownsRow B 38 3 v.2.2 d.fields.length (fldsZ d.fields)
 rng : -9223372036854775808≤d.size∧d.size≤9223372036854775807
structure NeO (B:Nat) (w:World) (ns:List Ne) (vs:List V3) (vn:Value):Prop where
 len:vs.length=ns.length
 row:w.ownsRow B 36 6 vn ns.length (nesC ns vs)
 sub:∀(i:Nat) d v,ns[i]?=some d→vs[i]?=some v→SubO B w d v
theorem SubO.ext {B:Nat} {w w':World} {d:Ne} {v:V3} (h:SubO B w d v) (hx:Ext w w'):SubO B w' d v:=⟨own_ext h.syms hx,own_ext h.items hx,own_ext h.fields hx,h.rng⟩
theorem NeO.ext {B:Nat} {w w':World} {ns:List Ne} {vs:List V3} {vn:Value} (h:NeO B w ns vs vn) (hx:Ext w w'):NeO B w' ns vs vn:=⟨h.len,own_ext h.row hx,fun i d v h1 h2=>(h.sub i d v h1 h2).ext hx⟩
theorem SubO.toE {B B':Nat} {w:World} {d:Ne} {v:V3} (h:SubO B w d v) (hB:w.heap.size≤B'):SubE B' w d v:=⟨Sl.ofOwn h.syms hB,Sl.ofOwn h.items hB,Sl.ofOwn h.fields hB,h.rng⟩
theorem NeO.sch {B B':Nat} {w:World} {ns:List Ne} {vs:List V3} {vn:Value} (h:NeO B w ns vs vn) (hB:w.heap.size≤B'):Sch B' w vn ns:=
 ⟨vs,h.len,Sl.ofOwn h.row hB,fun i d v h1 h2=>(h.sub i d v h1 h2).toE hB⟩
theorem nesC_snoc:∀(ns:List Ne) (vs:List V3) (d:Ne) (v:V3),vs.length=ns.length→nesC (ns++[d]) (vs++[v])=nesC ns vs++neC d v
 | [],[],d,v,_=>by simp[nesC]
 | [],_::_,d,v,h=>by simp at h
 | _::_,[],d,v,h=>by simp at h
 | x::ns,y::vs,d,v,h=>by
  simp only[List.cons_append,nesC]
  rw[nesC_snoc ns vs d v (by simpa using h),List.append_assoc]
theorem fldsZ_one (l:List (ByteArray×Bool×Int)):∀u∈fldsZ l,u.oneCell'=true:=by
 intro u hu
 obtain⟨x,_,hx⟩:=List.mem_flatMap.1 hu
 simp only[fldZ,List.mem_cons,List.not_mem_nil,or_false] at hx
 rcases hx with rfl|rfl|rfl<;>rfl
theorem fldsZ_length (l:List (ByteArray×Bool×Int)):(fldsZ l).length=l.length*3:=by
 induction l with
 | nil=>rfl
 | cons x l ih=>rw[fldsZ,List.flatMap_cons,List.length_append];unfold fldsZ at ih;rw[ih];simp[fldZ];omega
theorem SubO.chg {S:Nat→Prop} {B:Nat} {w w':World} {d:Ne} {v:V3} (h:SubO B w d v) (hx:Chg S w w') (h1:∀k,v.1.ownBlock=some k→¬S k) (h2:∀k,v.2.1.ownBlock=some k→¬S k) (h3:∀k,v.2.2.ownBlock=some k→¬S k):SubO B w' d v:=
 ⟨own_chg h.syms hx h1,own_chg h.items hx h2,own_chg h.fields hx h3,h.rng⟩
def Len6 (d:Ne):Prop:=d.syms.length≤1000000∧d.items.length≤1000000∧d.fields.length≤1000000
abbrev ownA (q b1 o1 n c i q5:Nat) (x:Ne) (As1 Ai1 Af1:Option Addr) (cs1 ci1 cf1:Nat) (u:Nat→Value) (v19 v20 v21 v22 v23 v24 v25 v26 v27 v28 v29 v30 v31 v32 v33:Value):Act:=⟨#[.agg #[.slice (some ⟨b1,o1,none⟩) n c],.pointer (some ⟨q,0,none⟩),.pointer (some ⟨q+1,0,none⟩),.pointer (some ⟨q+1+1,0,none⟩),.int .i64 i,.pointer (some ⟨q5,0,none⟩),.agg #[.slice none 0 0],.int .i64 i,.pointer (some ⟨q,0,none⟩),.slice (some ⟨b1,o1,none⟩) n c,.int .i64 n,.bool true,u 12,u 13,.pointer (some ⟨q,0,none⟩),.slice (some ⟨b1,o1,none⟩) n c,.int .i64 i,.pointer (some ⟨b1,o1+i*6,none⟩),.agg #[.int .i64 x.k,.string x.name,.int .i64 x.size,.slice As1 x.syms.length cs1,.slice Ai1 x.items.length ci1,.slice Af1 x.fields.length cf1],v19,v20,v21,v22,v23,v24,v25,v26,v27,v28,v29,v30,v31,v32,v33,u 34,u 35,u 36,u 37,u 38,u 39,undef],[]⟩
set_option maxHeartbeats 400000 in
theorem own_lists {q b1 o1 n c i q5 B0:Nat} {x:Ne} {As1 Ai1 Af1:Option Addr} {cs1 ci1 cf1:Nat} {u:Nat→Value} {wr w0:World} {Q:Exit→Act→World→Prop} (hw0:Ext wr w0) (hq5:wr.heap.size=q5)
  (hb50:Blk w0 q5 #[.int .i64 x.k,.string x.name,.int .i64 x.size,.slice As1 x.syms.length cs1,.slice Ai1 x.items.length ci1,.slice Af1 x.fields.length cf1] 36) (hs0:w0.heap.size=q5+1) (hsz:q+3≤q5)
  (r3:∀X,Ext w0 X→Rd X As1 (txs x.syms)) (r4:∀X,Ext w0 X→Rd X Ai1 (intsZ x.items)) (r5:∀X,Ext w0 X→Rd X Af1 (fldsZ x.fields))
  (z3:Hid (As1=none→cs1=0)) (z4:Hid (Ai1=none→ci1=0)) (z5:Hid (Af1=none→cf1=0)) (hl1:x.syms.length≤1000000) (hl2:x.items.length≤1000000) (hl3:x.fields.length≤1000000)
  (hP:∀c (a a2:Act) w,Q (.panic c) a w→∀(hd:a2.defers=a.defers:=by rfl),Q (.panic c) a2 w)
  (hQ:∀v19 v20 v21 v22 v23 v24 v25 v26 v27 v28 v29 v30 v31 v32 v33 A3 c3 A7 c7 A11 c11 X,Ext w0 X→X.ownsRow (q+3) 9 1 (.slice A3 x.syms.length c3) x.syms.length (txs x.syms)→X.ownsRow (q+3) 3 1 (.slice A7 x.items.length c7) x.items.length (intsZ x.items)→X.ownsRow (q+3) 38 3 (.slice A11 x.fields.length c11) x.fields.length (fldsZ x.fields)→
   Q .normal (ownA q b1 o1 n c i q5 x As1 Ai1 Af1 cs1 ci1 cf1 u v19 v20 v21 v22 v23 v24 v25 v26 v27 v28 v29 v30 v31 v32 v33) (((X.setCell ⟨q5,3,none⟩ (.slice A3 x.syms.length c3)).setCell ⟨q5,4,none⟩ (.slice A7 x.items.length c7)).setCell ⟨q5,5,none⟩ (.slice A11 x.fields.length c11))) :
  (Reg.regionOf 6 Tryz.f19.body).wp Tryz.prog Q (ownA q b1 o1 n c i q5 x As1 Ai1 Af1 cs1 ci1 cf1 u (u 19) (u 20) (u 21) (u 22) (u 23) (u 24) (u 25) (u 26) (u 27) (u 28) (u 29) (u 30) (u 31) (u 32) (u 33)) w0:=by
 refine Reg.startX (R:=Go.RowKit.Below (q5+1)) (by kernel_rfl) ?_
 generalize hwd:World.drew _=wd
 have hxd:Ext w0 wd:=by rw[←hwd];exact (Ext.refl w0).drew
 have hb5:Blk wd q5 #[.int .i64 x.k,.string x.name,.int .i64 x.size,.slice As1 x.syms.length cs1,.slice Ai1 x.items.length ci1,.slice Af1 x.fields.length cf1] 36:=hb50.ext hxd
 have hsd:wd.heap.size=q5+1:=by rw[←hwd];exact hs0
 clear hwd
 have hlow:∀ {W},Go.RowKit.Below (q5+1) wd W→Ext wd W:=fun hW=>below_ext hW (by omega)
 have k3:∀W,Go.RowKit.Below (q5+1) wd W→W.cell? ⟨q5,3,none⟩=some (.slice As1 x.syms.length cs1):=fun W hW=>(hb5.ext (hlow hW)).cell 3
 have k4:∀W,Go.RowKit.Below (q5+1) wd W→W.cell? ⟨q5,4,none⟩=some (.slice Ai1 x.items.length ci1):=fun W hW=>(hb5.ext (hlow hW)).cell 4
 have k5:∀W,Go.RowKit.Below (q5+1) wd W→W.cell? ⟨q5,5,none⟩=some (.slice Af1 x.fields.length cf1):=fun W hW=>(hb5.ext (hlow hW)).cell 5
 have r3X:∀X,Ext wd X→Rd X As1 (txs x.syms):=fun X hX=>r3 X (hxd.trans hX)
 have r4X:∀X,Ext wd X→Rd X Ai1 (intsZ x.items):=fun X hX=>r4 X (hxd.trans hX)
 have r5X:∀X,Ext wd X→Rd X Af1 (fldsZ x.fields):=fun X hX=>r5 X (hxd.trans hX)
 replace r3X:=Lib.hid r3X
 replace r4X:=Lib.hid r4X
 replace r5X:=Lib.hid r5X
 clear r3 r4 r5
 refine Reg.tx (Reg.rl_below _) 1 ?_;(try simp only[Reg.nn])
 refine Reg.tx (Reg.rl_below _) 2 ?_;(try simp only[Reg.nn])
 refine Reg.tx (Reg.rl_below _) 5 ?_;(try simp only[Reg.nn])
 refine Reg.tx (Reg.rl_below _) 6 ?_;(try simp only[Reg.nn])
 refine Reg.tx (Reg.rl_below _) 9 ?_;(try simp only[Reg.nn])
 refine Reg.tx (Reg.rl_below _) 10 ?_;(try simp only[Reg.nn])
 refine Reg.layN [(0,19),(3,22),(4,23),(7,26),(8,27),(11,30),(12,31)] (fun i=>if i=3 then [0] else if i=7 then [3,4] else if i=11 then [7,8] else []) (by omega) (by kernel_rfl) (by kernel_rfl) (by decide)
  (fun i=>if i=0 then u 19 else if i=3 then u 22 else if i=4 then u 23 else if i=7 then u 26 else if i=8 then u 27 else if i=11 then u 30 else u 31) (by rfl)
  (fun i v X=>if i=0 then ∃g,v=.slice (some ⟨g,0,none⟩) 0 0∧X.ownsRow (q+3) 9 1 (.slice (some ⟨g,0,none⟩) 0 0) 0 [] else if i=3 then X.ownsRow (q+3) 9 1 v x.syms.length (txs x.syms)
   else if i=4 then ∃g,v=.slice (some ⟨g,0,none⟩) 0 0∧X.ownsRow (q+3) 3 1 (.slice (some ⟨g,0,none⟩) 0 0) 0 [] else if i=7 then X.ownsRow (q+3) 3 1 v x.items.length (intsZ x.items)
   else if i=8 then ∃g,v=.slice (some ⟨g,0,none⟩) 0 0∧X.ownsRow (q+3) 38 3 (.slice (some ⟨g,0,none⟩) 0 0) 0 [] else if i=11 then X.ownsRow (q+3) 38 3 v x.fields.length (fldsZ x.fields)
   else v=.pointer (some ⟨q5,3,none⟩)) ?_ ?_ ?_
 ·intro p hp v w1 w2 h0 hx0
  simp only[List.mem_cons,List.not_mem_nil,or_false] at hp
  rcases hp with rfl|rfl|rfl|rfl|rfl|rfl|rfl
  all_goals first|exact own_ext h0 hx0|exact Exists.imp (fun g h=>⟨h.1,own_ext h.2 hx0⟩) h0|exact h0
 ·intro p hp
  simp only[List.mem_cons,List.not_mem_nil,or_false] at hp
  rcases hp with rfl|rfl|rfl|rfl|rfl|rfl|rfl
  ·rintro oi hoi f X hX-K hK
   obtain rfl:=Option.some.inj hoi
   simp only[Reg.frameN]
   (try simp only[Reg.nn])
   go_simp
   replace hK:=hK.out
   simp only[Reg.frameN,Act.put,List.setIfInBounds_toArray,List.set_cons_zero,List.set_cons_succ] at hK
   exact hK _ _ ((Ext.refl X).alloc _) ⟨X.heap.size,rfl,World.ownsRow_lit X #[] 0 (by have:=hX.size;omega) (Nat.zero_le _) rfl⟩
  ·rintro oi hoi f X hX hp K hK
   obtain rfl:=Option.some.inj hoi
   obtain⟨g,e0,h0⟩:=hp 0 (by decide)
   replace e0:=Lib.hid e0
   have hsX:=hX.size
   simp only[Reg.frameN]
   (try simp only[Reg.nn])
   refine wp_app0 el_str X (.tmp 19) (.tmp 21) rfl (q+3) g e0.out h0 As1 _ _ _ rfl (r3X.out X hX) (by simp[txs]) z3.out (by omega) (by omega) (by omega) (fun v' w' ho hg=>?_)
   replace hK:=hK.out
   simp only[Reg.frameN,Act.put,List.setIfInBounds_toArray,List.set_cons_zero,List.set_cons_succ] at hK
   simp only[Act.put,List.setIfInBounds_toArray,List.set_cons_zero,List.set_cons_succ]
   exact hK _ _ hg ho
  ·rintro oi hoi f X hX-K hK
   obtain rfl:=Option.some.inj hoi
   simp only[Reg.frameN]
   (try simp only[Reg.nn])
   go_simp
   replace hK:=hK.out
   simp only[Reg.frameN,Act.put,List.setIfInBounds_toArray,List.set_cons_zero,List.set_cons_succ] at hK
   exact hK _ _ ((Ext.refl X).alloc _) ⟨X.heap.size,rfl,World.ownsRow_lit X #[] 0 (by have:=hX.size;omega) (Nat.zero_le _) rfl⟩
  ·rintro oi hoi f X hX hp K hK
   obtain rfl:=Option.some.inj hoi
   obtain⟨g,e0,h0⟩:=hp 4 (by decide)
   replace e0:=Lib.hid e0
   have hsX:=hX.size
   simp only[Reg.frameN]
   (try simp only[Reg.nn])
   refine wp_app0 el_int X (.tmp 23) (.tmp 25) rfl (q+3) g e0.out h0 Ai1 _ _ _ rfl (r4X.out X hX) (by simp[intsZ]) z4.out (by omega) (by omega) (by omega) (fun v' w' ho hg=>?_)
   replace hK:=hK.out
   simp only[Reg.frameN,Act.put,List.setIfInBounds_toArray,List.set_cons_zero,List.set_cons_succ] at hK
   simp only[Act.put,List.setIfInBounds_toArray,List.set_cons_zero,List.set_cons_succ]
   exact hK _ _ hg ho
  ·rintro oi hoi f X hX-K hK
   obtain rfl:=Option.some.inj hoi
   simp only[Reg.frameN]
   (try simp only[Reg.nn])
   go_simp
   replace hK:=hK.out
   simp only[Reg.frameN,Act.put,List.setIfInBounds_toArray,List.set_cons_zero,List.set_cons_succ] at hK
   exact hK _ _ ((Ext.refl X).alloc _) ⟨X.heap.size,rfl,World.ownsRow_lit X #[] 0 (by have:=hX.size;omega) (Nat.zero_le _) rfl⟩
  ·rintro oi hoi f X hX hp K hK
   obtain rfl:=Option.some.inj hoi
   obtain⟨g,e0,h0⟩:=hp 8 (by decide)
   replace e0:=Lib.hid e0
   have hsX:=hX.size
   simp only[Reg.frameN]
   (try simp only[Reg.nn])
   refine wp_app0 el_fld X (.tmp 27) (.tmp 29) rfl (q+3) g e0.out h0 Af1 _ _ _ rfl (r5X.out X hX) (by rw[fldsZ_length]) z5.out (by omega) (by omega) (by omega) (fun v' w' ho hg=>?_)
   replace hK:=hK.out
   simp only[Reg.frameN,Act.put,List.setIfInBounds_toArray,List.set_cons_zero,List.set_cons_succ] at hK
   simp only[Act.put,List.setIfInBounds_toArray,List.set_cons_zero,List.set_cons_succ]
   exact hK _ _ hg ho
  ·rintro oi hoi f X hX-K hK
   obtain rfl:=Option.some.inj hoi
   simp only[Reg.frameN]
   (try simp only[Reg.nn])
   go_simp
   replace hK:=hK.out
   simp only[Reg.frameN,Act.put,List.setIfInBounds_toArray,List.set_cons_zero,List.set_cons_succ] at hK
   exact hK _ _ (Ext.refl X) rfl
 ·intro f X hX hF
  have ho3:X.ownsRow (q+3) 9 1 (f 3) x.syms.length (txs x.syms):=hF (3,22) (by decide)
  have ho7:X.ownsRow (q+3) 3 1 (f 7) x.items.length (intsZ x.items):=hF (7,26) (by decide)
  have ho11:X.ownsRow (q+3) 38 3 (f 11) x.fields.length (fldsZ x.fields):=hF (11,30) (by decide)
  have hp12:f 12=.pointer (some ⟨q5,3,none⟩):=hF (12,31) (by decide)
  clear hF
  simp only[Reg.frameN]
  rw[hp12]
  generalize f 3=v3 at ho3 ⊢
  generalize f 7=v7 at ho7 ⊢
  generalize f 11=v11 at ho11 ⊢
  generalize f 0=v0
  generalize f 4=v4
  generalize f 8=v8
  clear hp12 f
  obtain⟨A3',c3',rfl,jj1,jj2,jj3,jj4⟩:=Rd.of_own ho3
  clear jj1 jj2 jj3 jj4
  obtain⟨A7',c7',rfl,jj1,jj2,jj3,jj4⟩:=Rd.of_own ho7
  clear jj1 jj2 jj3 jj4
  obtain⟨A11',c11',rfl,jj1,jj2,jj3,jj4⟩:=Rd.of_own ho11
  clear jj1 jj2 jj3 jj4
  (try simp only[Reg.nn])
  have hb5X:=hb5.ext hX
  have g3:X.cell? ⟨q5,3,none⟩=some (.slice As1 x.syms.length cs1):=hb5X.cell 3
  have fr3:=hb5X.frozen 3
  refine Reg.onlyXS 13 _ rfl (by kernel_rfl) (by kernel_rfl) (by decide) (by rfl) (fun K hK=>?_)
  go_simp
  refine hK.out _ _ ?_;clear hK K;(try simp only[Reg.nn])
  clear g3 fr3
  obtain⟨Y1,hY1⟩:∃z,Hid (X.setCell ⟨q5,3,none⟩ (.slice A3' x.syms.length c3')=z):=⟨_,rfl⟩
  have hb1Y:Blk Y1 q5 #[.int .i64 x.k,.string x.name,.int .i64 x.size,.slice A3' x.syms.length c3',.slice Ai1 x.items.length ci1,.slice Af1 x.fields.length cf1] 36:=by rw[←hY1.out];exact hb5X.set 3 _
  rw[hY1.out]
  have g4:Y1.cell? ⟨q5,4,none⟩=some (.slice Ai1 x.items.length ci1):=hb1Y.cell 4
  have fr4:=hb1Y.frozen 4
  clear k3 k4 k5
  refine Reg.tx (Reg.rl_below _) 14 ?_;(try simp only[Reg.nn])
  refine Reg.onlyXS 15 _ rfl (by kernel_rfl) (by kernel_rfl) (by decide) (by rfl) (fun K hK=>?_)
  go_simp
  refine hK.out _ _ ?_;clear hK K;(try simp only[Reg.nn])
  clear g4 fr4
  obtain⟨Y2,hY2⟩:∃z,Hid (Y1.setCell ⟨q5,4,none⟩ (.slice A7' x.items.length c7')=z):=⟨_,rfl⟩
  have hb2Y:Blk Y2 q5 #[.int .i64 x.k,.string x.name,.int .i64 x.size,.slice A3' x.syms.length c3',.slice A7' x.items.length c7',.slice Af1 x.fields.length cf1] 36:=by rw[←hY2.out];exact hb1Y.set 4 _
  rw[hY2.out]
  have g5:Y2.cell? ⟨q5,5,none⟩=some (.slice Af1 x.fields.length cf1):=hb2Y.cell 5
  have fr5:=hb2Y.frozen 5
  refine Reg.tx (Reg.rl_below _) 16 ?_;(try simp only[Reg.nn])
  refine Reg.lastXD 17 _ rfl (by kernel_rfl) (by kernel_rfl) (by kernel_rfl) (by decide) (by rfl) (fun K hK=>?_)
  go_simp
  refine hK.out _ _ ?_;clear hK K;(try simp only[Reg.nn])
  rw[←hY2.out,←hY1.out]
  exact hQ _ _ _ _ _ _ _ _ _ _ _ _ _ _ _ _ _ _ _ _ _ X (hxd.trans hX) ho3 ho7 ho11
theorem resOwn {w:World} {tmps:Array Value} {a:Nat} {u:Value} (ha:tmps[2]?.getD undef=.pointer (some ⟨a,0,none⟩)) (h1:w.cell? ⟨a,0,none⟩=some u):(results Tryz.f19 tmps).run Tryz.prog w=.ok (.agg #[u]) w:=by
 simp[results,Tryz.f19,go_sem,ha,h1]
theorem own_any {B:Nat} {w:World} {v:Value} {ns:List Ne} (h:Sch B w v ns) (hB:B≤w.heap.size) (hl:ns.length≤1000000) (hd:∀d∈ns,Len6 d) :
  Calls Tryz.prog 19 #[.agg #[v]] w fun e w'=>∃v' vs,e=.returned (.agg #[v'])∧NeO w.heap.size w' ns vs v'∧Ext w w':=by
 obtain⟨A,c,rfl⟩:=h.slice
 obtain⟨n,hn⟩:∃z,Hid (ns.length=z):=⟨_,Lib.hid rfl⟩
 rw[hn.out] at hl ⊢
 obtain⟨w1,hw1⟩:∃z,Hid (((w.alloc (.cells #[.slice A n c] 24)).alloc (.cells #[.slice none 0 0] 24)).alloc (.cells #[.slice none 0 0] 24)=z):=⟨_,rfl⟩
 have hx1:Ext w w1:=by rw[←hw1.out];exact (((Ext.refl w).alloc _).alloc _).alloc _
 obtain⟨q,hq⟩:∃z,Hid (w.heap.size=z):=⟨_,rfl⟩
 have hbA:Blk w1 q #[.slice A n c] 24:=by rw[←hw1.out,←hq.out];exact ((Blk.new w _ _).alloc _).alloc _
 go_enter Tryz.func19,Tryz.ntmps19
 go_wp2_with fail
 rw[hw1.out,hq.out]
 have hbC:Blk w1 (q+1+1) #[.slice none 0 0] 24:=by
  rw[←hw1.out,←hq.out]
  have:=Blk.new ((w.alloc (.cells #[.slice A n c] 24)).alloc (.cells #[.slice none 0 0] 24)) #[.slice none 0 0] 24
  simpa using this
 have hbB:Blk w1 (q+1) #[.slice none 0 0] 24:=by
  rw[←hw1.out,←hq.out]
  have:=(Blk.new (w.alloc (.cells #[.slice A n c] 24)) #[.slice none 0 0] 24).alloc (.cells #[.slice none 0 0] 24)
  simpa using this
 have hs1:w1.heap.size=q+3:=by rw[←hw1.out,←hq.out];simp
 go_loopw [4,5,7,8,9,10,11,12,13,14,15,16,17,18,19,20,21,22,23,24,25,26,27,28,29,30,31,32,33,34,35,36,37,38,39] (fun v4 v5 v7 v8 v9 v10 v11 v12 v13 v14 v15 v16 v17 v18 v19 v20 v21 v22 v23 v24 v25 v26 v27 v28 v29 v30 v31 v32 v33 v34 v35 v36 v37 v38 v39 wr=>∃(i:Nat) (vn:Value) (vs:List V3),i≤n∧v4=.int .i64 i∧Blk wr (q+1+1) #[vn] 24∧NeO (q+3) wr (ns.take i) vs vn∧Blk wr q #[.slice A n c] 24∧Blk wr (q+1) #[.slice none 0 0] 24∧Ext w wr∧q+3≤wr.heap.size) (fun v4 _ _ _ _ _ _ _ _ _ _ _ _ _ _ _ _ _ _ _ _ _ _ _ _ _ _ _ _ _ _ _ _ _ _ _=>n-(intOf v4).toNat)
 case atStart=>exact⟨0,_,[],by omega,rfl,hbC,⟨rfl,World.ownsRow_nil _ _ _ _,fun i d v h1 _=>by simp at h1⟩,hbA,hbB,hx1,by omega⟩
 case round=>
  obtain⟨i,vn,vs,hi,rfl,hbo,hO,hbA,hbB,hx,hsz⟩:=hrel
  have pA:=hbA.cell 0
  by_cases hin:i<n
  ·have hin':(i:Int)<(n:Int):=by omega
   obtain⟨x,hx1'⟩:∃x,ns[i]?=some x:=⟨_,List.getElem?_eq_getElem (by have:=hn.out;omega)⟩
   obtain⟨b1,o1,d1,As1,cs1,Ai1,ci1,Af1,cf1,e1,hb1,hs1',hc1⟩:=h.node2 i x hx1'
   injection e1 with e1 _ e1'
   subst e1;subst e1'
   obtain⟨p0,p1,p2,p3,p4,p5⟩:=hc1 wr (Below.mono hx hB)
   have hmem:x∈ns:=List.mem_of_getElem? hx1'
   obtain⟨hl1,hl2,hl3⟩:=hd x hmem
   obtain⟨A3,c3,e3,r3,lt3,n3,m3,z3⟩:=hs1'.syms
   injection e3 with e3 _ e3'
   subst e3;subst e3'
   obtain⟨A4,c4,e4,r4,lt4,n4,m4,z4⟩:=hs1'.items
   injection e4 with e4 _ e4'
   subst e4;subst e4'
   obtain⟨A5,c5,e5,r5,lt5,n5,m5,z5⟩:=hs1'.fields
   injection e5 with e5 _ e5'
   subst e5;subst e5'
   have hrng:=hs1'.rng
   go_wp2_with fail
   obtain⟨q5,hq5⟩:∃z,Hid (wr.heap.size=z):=⟨_,rfl⟩
   rw[hq5.out]
   have hb50:Blk (wr.alloc (.cells #[.int .i64 x.k,.string x.name,.int .i64 x.size,.slice As1 x.syms.length cs1,.slice Ai1 x.items.length ci1,.slice Af1 x.fields.length cf1] 36)) q5 #[.int .i64 x.k,.string x.name,.int .i64 x.size,.slice As1 x.syms.length cs1,.slice Ai1 x.items.length ci1,.slice Af1 x.fields.length cf1] 36:=by rw[←hq5.out];exact Blk.new wr _ _
   have hx0:Ext wr (wr.alloc (.cells #[.int .i64 x.k,.string x.name,.int .i64 x.size,.slice As1 x.syms.length cs1,.slice Ai1 x.items.length ci1,.slice Af1 x.fields.length cf1] 36)):=(Ext.refl wr).alloc _
   have hs0:(wr.alloc (.cells #[.int .i64 x.k,.string x.name,.int .i64 x.size,.slice As1 x.syms.length cs1,.slice Ai1 x.items.length ci1,.slice Af1 x.fields.length cf1] 36)).heap.size=q5+1:=by rw[←hq5.out];simp
   refine own_lists (B0:=0) (wr:=wr) (u:=fun k=>match k with|12=>u12|13=>u13|19=>u19|20=>u20|21=>u21|22=>u22|23=>u23|24=>u24|25=>u25|26=>u26|27=>u27|28=>u28|29=>u29|30=>u30|31=>u31|32=>u32|33=>u33|34=>u34|35=>u35|36=>u36|37=>u37|38=>u38|39=>u39|_=>undef) hx0 hq5.out hb50 hs0 (by have:=hq5.out;omega)
    (fun X hX=>Rd.below r3 lt3 (Below.mono (hx.trans (hx0.trans hX)) hB)) (fun X hX=>Rd.below r4 lt4 (Below.mono (hx.trans (hx0.trans hX)) hB)) (fun X hX=>Rd.below r5 lt5 (Below.mono (hx.trans (hx0.trans hX)) hB))
    z3 z4 z5 hl1 hl2 hl3 (fun c a a2 w h hd=>⟨hd.trans h.1,h.2⟩) ?_
   intro v19 v20 v21 v22 v23 v24 v25 v26 v27 v28 v29 v30 v31 v32 v33 A3 c3 A7 c7 A11 c11 X hX ho3 ho7 ho11
   obtain⟨Y,hY⟩:∃z,Hid ((((X.setCell ⟨q5,3,none⟩ (.slice A3 x.syms.length c3)).setCell ⟨q5,4,none⟩ (.slice A7 x.items.length c7)).setCell ⟨q5,5,none⟩ (.slice A11 x.fields.length c11))=z):=⟨_,rfl⟩
   have hq5':=hq5.out
   have hb5X:=hb50.ext hX
   have hb5Y:Blk Y q5 #[.int .i64 x.k,.string x.name,.int .i64 x.size,.slice A3 x.syms.length c3,.slice A7 x.items.length c7,.slice A11 x.fields.length c11] 36:=by rw[←hY.out];exact ((hb5X.set 3 _).set 4 _).set 5 _
   have hxY:Ext wr Y:=by rw[←hY.out];exact (((hx0.trans hX).setCell (by show wr.heap.size≤q5;omega) _).setCell (by show wr.heap.size≤q5;omega) _).setCell (by show wr.heap.size≤q5;omega) _
   have hcXY:Chg (fun k=>k=q5) X Y:=by rw[←hY.out];exact ((Chg.one X q5 3 _).set (p:=⟨q5,4,none⟩) (.inl rfl) _).set (p:=⟨q5,5,none⟩) (.inl rfl) _
   have hsY:SubO (q+3) Y x (.slice A3 x.syms.length c3,.slice A7 x.items.length c7,.slice A11 x.fields.length c11):=
    SubO.chg (S:=fun k=>k=q5) (w:=X) ⟨ho3,ho7,ho11,hrng⟩ hcXY (fun k hk e=>own_ne_blk ho3 hb5X (by decide) (by rw[←e];exact hk.symm)) (fun k hk e=>own_ne_blk ho7 hb5X (by decide) (by rw[←e];exact hk.symm)) (fun k hk e=>own_ne_blk ho11 hb5X (by decide) (by rw[←e];exact hk.symm))
   have hti:(ns.take i).length=i:=by rw[List.length_take];have:=hn.out;omega
   have hOr:=hO.row
   rw[hti] at hOr
   obtain⟨An,cn,rfl,jj1,jj2,jj3,jj4⟩:=Rd.of_own hOr
   clear jj1 jj2 jj3 jj4
   have hOrY:=own_ext hOr hxY
   have hboY:=hbo.ext hxY
   have d0:Y.cell? ⟨q5,0,none⟩=some (.int .i64 x.k):=hb5Y.cell 0
   have d1:Y.cell? ⟨q5,1,none⟩=some (.string x.name):=hb5Y.cell 1
   have d2:Y.cell? ⟨q5,2,none⟩=some (.int .i64 x.size):=hb5Y.cell 2
   have d3:Y.cell? ⟨q5,3,none⟩=some (.slice A3 x.syms.length c3):=hb5Y.cell 3
   have d4:Y.cell? ⟨q5,4,none⟩=some (.slice A7 x.items.length c7):=hb5Y.cell 4
   have d5:Y.cell? ⟨q5,5,none⟩=some (.slice A11 x.fields.length c11):=hb5Y.cell 5
   have do_:Y.cell? ⟨q+1+1,0,none⟩=some (.slice An i cn):=hboY.cell 0
   have hone:∀u∈([.int .i64 x.k,.string x.name,.int .i64 x.size,.slice A3 x.syms.length c3,.slice A7 x.items.length c7,.slice A11 x.fields.length c11]:List Value),u.oneCell'=true:=by
    intro u hu
    simp only[List.mem_cons,List.not_mem_nil,or_false] at hu
    rcases hu with rfl|rfl|rfl|rfl|rfl|rfl<;>rfl
   have hsY':=hxY.size
   have haY:Ext Y (Y.alloc (.cells #[.int .i64 x.k,.string x.name,.int .i64 x.size,.slice A3 x.syms.length c3,.slice A7 x.items.length c7,.slice A11 x.fields.length c11] 36)):=(Ext.refl Y).alloc _
   rw[hY.out]
   dsimp only [ownA]
   clear hX ho3 ho7 ho11 hb5X hcXY hY p0 p1 p2 p3 p4 p5 pA r3 r4 r5 m3 m4 m5
   go_wp2_with (
    refine wpList_app el_nd _ rfl (.tmp 35) (.tmp 37) rfl (q+3) (.slice An i cn) i (nesC (ns.take i) vs) rfl (own_ext hOrY haY) (some ⟨Y.heap.size,0,none⟩) 1 1 [.int .i64 x.k,.string x.name,.int .i64 x.size,.slice A3 x.syms.length c3,.slice A7 x.items.length c7,.slice A11 x.fields.length c11] rfl (Rd.of_block Y 36 (0,0) rfl) rfl (fun h=>by cases h) hone (by omega) (by omega) (by simp;omega) (fun V1 w6 ho6 hg6 hv6=>?_)
    obtain⟨A6,c6,rfl,jj1,jj2,jj3,jj4⟩:=Rd.of_own ho6
    clear jj1 jj2 jj3 jj4
    have hch6:Chg (fun k=>(Value.slice An i cn).ownBlock=some k) Y w6:=(Chg.ofExt haY).trans (Chg.ofGrown hg6) (fun _ _ e=>e)
    have hbo6:=hch6.blk hboY (fun e=>own_ne_blk hOrY hboY (by decide) e.symm)
    have fr6:=hbo6.frozen 0
    have cl6:w6.cell? ⟨q+1+1,0,none⟩=some (.slice An i cn):=hbo6.cell 0)
   go_roundw
   case rel=>
    have hx6:Ext w w6:=(hx.trans hxY).chg hch6 (fun k hk e=>by have:=(hOrY.lt k e).1;have:=hq.out;omega)
    have hA6:=hch6.blk (hbA.ext hxY) (fun e=>own_ne_blk hOrY (hbA.ext hxY) (by decide) e.symm)
    have hB6:=hch6.blk (hbB.ext hxY) (fun e=>own_ne_blk hOrY (hbB.ext hxY) (by decide) e.symm)
    have hcW:=Chg.one w6 (q+1+1) 0 (.slice A6 (i+1) c6)
    have hqo:=hq.out
    have hstep:∀d v,SubO (q+3) Y d v→SubO (q+3) (w6.setCell ⟨q+1+1,0,none⟩ (.slice A6 (i+1) c6)) d v:=fun d v hs=>by
     have h6:SubO (q+3) w6 d v:=SubO.chg hs hch6 (fun k hk=>own_not hOrY hs.syms (by decide) k hk) (fun k hk=>own_not hOrY hs.items (by decide) k hk) (fun k hk=>own_not hOrY hs.fields (by decide) k hk)
     exact SubO.chg h6 hcW (fun k hk e=>own_ne_blk h6.syms hbo6 (by decide) (by rw[←e];exact hk.symm)) (fun k hk e=>own_ne_blk h6.items hbo6 (by decide) (by rw[←e];exact hk.symm)) (fun k hk e=>own_ne_blk h6.fields hbo6 (by decide) (by rw[←e];exact hk.symm))
    have htk:ns.take (i+1)=ns.take i++[x]:=by rw[List.take_add_one,hx1'];rfl
    have hvl:vs.length=i:=hO.len.trans hti
    refine⟨i+1,.slice A6 (i+1) c6,vs++[(.slice A3 x.syms.length c3,.slice A7 x.items.length c7,.slice A11 x.fields.length c11)],by omega,by go_num,hbo6.set 0 _,?_,hcW.blk hA6 (by omega),hcW.blk hB6 (by omega),hx6.setCell (by show w.heap.size≤q+1+1;omega) _,?_⟩
    ·rw[htk]
     refine⟨by rw[List.length_append,List.length_append,hO.len];rfl,?_,fun j d v e1 e2=>?_⟩
     ·rw[nesC_snoc _ _ _ _ hO.len,List.length_append,hti]
      exact own_setCell (i:=0) ho6 hbo6 (by decide) _
     ·rcases Nat.lt_or_ge j i with hj|hj
      ·rw[List.getElem?_append_left (by rw[hti];exact hj)] at e1
       rw[List.getElem?_append_left (by rw[hvl];exact hj)] at e2
       exact hstep d v ((hO.sub j d v e1 e2).ext hxY)
      ·rw[List.getElem?_append_right (by rw[hti];exact hj),hti] at e1
       rw[List.getElem?_append_right (by rw[hvl];exact hj),hvl] at e2
       have hj0:j-i=0:=by
        rcases Nat.eq_zero_or_pos (j-i) with h0|h0
        ·exact h0
        ·rw[List.getElem?_eq_none (by simp;omega)] at e1;cases e1
       rw[hj0] at e1 e2
       injection e1 with e1;injection e2 with e2
       subst e1;subst e2
       exact hstep _ _ hsY
    ·have:=hch6.size;simp;omega
   case measure=>simp[intOf];omega
  ·obtain rfl:i=n:=by omega
   have htk:ns.take i=ns:=List.take_of_length_le (by have:=hn.out;omega)
   rw[htk] at hO
   have hOr:=hO.row
   rw[hn.out] at hOr
   obtain⟨An,cn,rfl,jj1,jj2,jj3,jj4⟩:=Rd.of_own hOr
   clear jj1 jj2 jj3 jj4
   have pC:=hbo.cell 0
   have pB:=hbB.cell 0
   have fB:=hbB.frozen 0
   have hqo:=hq.out
   go_wp2_with fail
   have hOF:NeO w.heap.size (wr.setCell ⟨q+1,0,none⟩ (.slice An i cn)) ns vs (.slice An i cn):=by
    have hcW:=Chg.one wr (q+1) 0 (.slice An i cn)
    refine⟨hO.len,own_mono (own_setCell (i:=0) hO.row hbB (by decide) _) (by omega),fun j d v e1 e2=>?_⟩
    have hs:=hO.sub j d v e1 e2
    have h6:=SubO.chg hs hcW (fun k hk e=>own_ne_blk hs.syms hbB (by decide) (by rw[←e];exact hk.symm)) (fun k hk e=>own_ne_blk hs.items hbB (by decide) (by rw[←e];exact hk.symm)) (fun k hk e=>own_ne_blk hs.fields hbB (by decide) (by rw[←e];exact hk.symm))
    exact⟨own_mono h6.syms (by omega),own_mono h6.items (by omega),own_mono h6.fields (by omega),h6.rng⟩
   refine bodyPost_ret (resOwn rfl ((hbB.set 0 (.slice An i cn)).cell 0)) rfl ?_
   exact⟨_,_,rfl,hOF,hx.setCell (by show w.heap.size≤q+1;omega) _⟩
def nodeP (d:Ne):Nat:=d.syms.length+d.items.length+d.fields.length
def partsN (ns:List Ne):Nat:=ns.length+(ns.map nodeP).sum
theorem sum_take_le:∀(l:List Nat) (i:Nat),(l.take i).sum≤l.sum
 | [],i=>by simp
 | x::l,0=>by simp
 | x::l,i+1=>by
  have:=sum_take_le l i
  simp only[List.take_succ_cons,List.sum_cons]
  omega
theorem sum_take_succ (l:List Nat) (i x:Nat) (h:l[i]?=some x):(l.take (i+1)).sum=(l.take i).sum+x:=by
 rw[List.take_add_one,h,List.sum_append]
 simp
theorem small_any {B:Nat} {w:World} {v:Value} {ns:List Ne} (h:Sch B w v ns) (hB:B≤w.heap.size) (hl:ns.length≤2000000) (hd:∀d∈ns,nodeP d≤2000000) :
  Calls Tryz.prog 45 #[.agg #[v]] w fun e w'=>e=.returned (.bool (decide (partsN ns≤3000)))∧Ext w w':=by
 obtain⟨A,c,rfl⟩:=h.slice
 obtain⟨n,hn⟩:∃z,Hid (ns.length=z):=⟨_,Lib.hid rfl⟩
 rw[hn.out] at hl ⊢
 obtain⟨T,hT⟩:∃z,Hid (partsN ns=z):=⟨_,Lib.hid rfl⟩
 rw[hT.out]
 obtain⟨q,hq⟩:∃z,Hid (w.heap.size=z):=⟨_,rfl⟩
 obtain⟨w1,hw1⟩:∃z,Hid (w.alloc (.cells #[.slice A n c] 24)=z):=⟨_,rfl⟩
 have hx1:Ext w w1:=by rw[←hw1.out];exact (Ext.refl w).alloc _
 have hb1:Blk w1 q #[.slice A n c] 24:=by rw[←hw1.out,←hq.out];exact Blk.new w _ _
 have hc1:w1.cell? ⟨q,0,none⟩=some (.slice A n c):=hb1.cell 0
 go_enter Tryz.func45,Tryz.ntmps45
 go_wp2_with fail
 rw[hw1.out,hq.out]
 have hc0:(w.alloc (.cells #[.slice A n c] 24)).cell? ⟨q,0,none⟩=some (.slice A n c):=by rw[hw1.out];exact hc1
 go_wp2_with fail
 go_loopw [3,4] (fun v3 v4 wr=>∃i m:Nat,i≤n∧v4=.int .i64 i∧v3=.int .i64 m∧Hid (m=n+((ns.map nodeP).take i).sum)∧m≤2003000∧Ext w1 wr) (fun _ v4 _=>n-(intOf v4).toNat)
 case atStart=>exact⟨0,n,by omega,rfl,rfl,Lib.hid (by simp),by omega,by first|exact Ext.refl _|exact (by rw[hw1.out];exact Ext.refl _)⟩
 case round=>
  obtain⟨i,m,hi,rfl,rfl,hm,hmb,hx⟩:=hrel
  have hcr:∀W,Ext wr W→W.cell? ⟨q,0,none⟩=some (.slice A n c):=fun W hW=>(hx.trans hW).cell hc1
  have hcr0:=hcr wr (Ext.refl wr)
  have hmT:m≤T:=by
   have:=sum_take_le (ns.map nodeP) i
   rw[←hT.out,partsN,hn.out,hm.out];omega
  by_cases hin:i<n
  ·by_cases hbig:m≤3000
   ·have hin':(i:Int)<(n:Int):=by omega
    have hbig':(m:Int)≤3000:=by omega
    obtain⟨x,hxi⟩:∃x,ns[i]?=some x:=⟨_,List.getElem?_eq_getElem (by have:=hn.out;omega)⟩
    obtain⟨b1,o1,d1,As1,cs1,Ai1,ci1,Af1,cf1,e1,hb1,hs1,hcc⟩:=h.node2 i x hxi
    injection e1 with e1 _ e1'
    subst e1;subst e1'
    have p3:∀W,Ext wr W→W.cell? ⟨b1,o1+i*6+3,none⟩=some (.slice As1 x.syms.length cs1):=fun W hW=>(hcc W (Below.mono ((hx1.trans hx).trans hW) hB)).2.2.2.1
    have p4:∀W,Ext wr W→W.cell? ⟨b1,o1+i*6+4,none⟩=some (.slice Ai1 x.items.length ci1):=fun W hW=>(hcc W (Below.mono ((hx1.trans hx).trans hW) hB)).2.2.2.2.1
    have p5:∀W,Ext wr W→W.cell? ⟨b1,o1+i*6+5,none⟩=some (.slice Af1 x.fields.length cf1):=fun W hW=>(hcc W (Below.mono ((hx1.trans hx).trans hW) hB)).2.2.2.2.2
    have hp:=hd x (List.mem_of_getElem? hxi)
    have hm2:Hid (m+x.syms.length+x.items.length+x.fields.length=n+((ns.map nodeP).take (i+1)).sum):=Lib.hid (by
     rw[sum_take_succ (ns.map nodeP) i (nodeP x) (by rw[List.getElem?_map,hxi];rfl),hm.out];unfold nodeP;omega)
    have hb2:x.syms.length+x.items.length+x.fields.length≤2000000:=hp
    obtain⟨sa,hsa⟩:∃z,Hid (x.syms.length=z):=⟨_,Lib.hid rfl⟩
    obtain⟨sb,hsb⟩:∃z,Hid (x.items.length=z):=⟨_,Lib.hid rfl⟩
    obtain⟨sc,hsc⟩:∃z,Hid (x.fields.length=z):=⟨_,Lib.hid rfl⟩
    rw[hsa.out] at p3 hm2 hb2
    rw[hsb.out] at p4 hm2 hb2
    rw[hsc.out] at p5 hm2 hb2
    have hw1':IntKind.i64.wrap ((m:Int)+(sa:Int))=(m:Int)+(sa:Int):=by rw[IntKind.wrap_i64];omega
    have hw2':IntKind.i64.wrap ((m:Int)+(sa:Int)+(sb:Int))=(m:Int)+(sa:Int)+(sb:Int):=by rw[IntKind.wrap_i64];omega
    have hw3':IntKind.i64.wrap ((m:Int)+(sa:Int)+(sb:Int)+(sc:Int))=(m:Int)+(sa:Int)+(sb:Int)+(sc:Int):=by rw[IntKind.wrap_i64];omega
    clear hcc hp hs1 hmT hm
    go_wp2_with fail
    refine Reg.startE (by kernel_rfl) ?_
    iterate 26 ((first|refine Reg.tn ?_|refine Reg.sn ?_);(try simp only[Reg.nn]))
    refine Reg.fin (by kernel_rfl) (fun W hW=>?_)
    go_wp2_with fail
    go_roundw
    case rel=>exact⟨i+1,m+sa+sb+sc,by omega,by go_num,by go_num,hm2,by omega,hx.trans hW⟩
    case measure=>simp[intOf];omega
   ·have hin':(i:Int)<(n:Int):=by omega
    have hbig':¬(m:Int)≤3000:=by omega
    have hTf:decide (T≤3000)=false:=decide_eq_false (by omega)
    go_wp2_with fail
    go_ret
    exact⟨by first|rfl|rw[hTf],hx1.trans hx⟩
  ·obtain rfl:i=n:=by omega
   have hmT2:m=T:=by rw[hm.out,←hT.out,partsN,hn.out,List.take_of_length_le (by rw[List.length_map];have:=hn.out;omega)]
   subst hmT2
   have hnot:¬(i:Int)<(i:Int):=by omega
   by_cases hbig:m≤3000
   ·have hbig':(m:Int)≤3000:=by omega
    have hTf:=decide_eq_true hbig
    go_wp2_with fail
    go_ret
    exact⟨by first|rfl|rw[hTf],hx1.trans hx⟩
   ·have hbig':¬(m:Int)≤3000:=by omega
    have hTf:=decide_eq_false hbig
    go_wp2_with fail
    go_ret
    exact⟨by first|rfl|rw[hTf],hx1.trans hx⟩
end Go.Proofs.YtmaoochjbpohdaaGreatDoor.Pr
namespace Go.Proofs.YtmaoochjbpohdaaGreatDoor.Pr
structure WE (M:Nat) (d:Ne):Prop where
 k0:0≤d.k
 k12:d.k<12
 its:∀x∈d.items,0≤x∧x<(M:Int)
 fls:∀f∈d.fields,0≤f.2.2∧f.2.2<(M:Int)
 one:d.k=6∨d.k=7→∃x,d.items=[x]
 nod:(d.fields.map (·.1)).Nodup
 nof:¬d.k=11→d.fields=[]
 ln:d.items.length≤5000∧d.syms.length≤5000∧d.fields.length≤5000
end Go.Proofs.YtmaoochjbpohdaaGreatDoor.Pr
namespace Go.Proofs.YtmaoochjbpohdaaGreatDoor.Rv
open Lx Pr
abbrev Rel:=Int→Int→Bool
def promP (r w:Int):Bool:=decide (0≤r) && decide (0≤w) && decide (r≤5) && decide (w≤5) && (decide (r=w) || (decide (r=3) && decide (w=2)) || (decide (4≤r) && decide (4≤w)))
abbrev Fd:=ByteArray×Bool×Int
def fieldP (R:Rel) (l:List Fd) (f:Fd):Bool:=match l.find? fun g=>decide (g.1=f.1) with
 | none=>f.2.1
 | some g=>R f.2.2 g.2.2
def holdP (R:Rel) (x y:Ne) (i k:Int):Bool:=
 if y.k=8 then y.items.all fun w=>R i w
 else if x.k=8 then x.items.any fun r=>R r k
 else if ¬x.k=y.k then promP x.k y.k
 else if x.k=6∨x.k=7 then R (x.items.getD 0 0) (y.items.getD 0 0)
 else if x.k=9 then decide (x.name=y.name) && y.syms.all fun s=>x.syms.any fun t=>decide (t=s)
 else if x.k=10 then decide (x.name=y.name) && decide (x.size=y.size)
 else if x.k=11 then decide (x.name=y.name) && x.fields.all (fieldP R y.fields)
 else true
theorem fieldP_mono {R R':Rel} (h:∀i k,R i k=true→R' i k=true) (l:List Fd) (f:Fd) (hf:fieldP R l f=true):fieldP R' l f=true:=by
 unfold fieldP at hf ⊢
 split
 ·next e=>rw[e] at hf;exact hf
 ·next g e=>rw[e] at hf;exact h _ _ hf
theorem holdP_mono {R R':Rel} (h:∀i k,R i k=true→R' i k=true) (x y:Ne) (i k:Int) (hh:holdP R x y i k=true):holdP R' x y i k=true:=by
 unfold holdP at hh ⊢
 split
 ·next e=>rw[if_pos e] at hh;rw[List.all_eq_true] at hh ⊢;exact fun w hw=>h _ _ (hh w hw)
 ·next e=>
  rw[if_neg e] at hh
  split
  ·next e=>rw[if_pos e] at hh;rw[List.any_eq_true] at hh ⊢;obtain⟨r,hr,k⟩:=hh;exact⟨r,hr,h _ _ k⟩
  ·next e=>
   rw[if_neg e] at hh
   split
   ·next e=>rw[if_pos e] at hh;exact hh
   ·next e=>
    rw[if_neg e] at hh
    split
    ·next e=>rw[if_pos e] at hh;exact h _ _ hh
    ·next e=>
     rw[if_neg e] at hh
     split
     ·next e=>rw[if_pos e] at hh;exact hh
     ·next e=>
      rw[if_neg e] at hh
      split
      ·next e=>rw[if_pos e] at hh;exact hh
      ·next e=>
       rw[if_neg e] at hh
       split
       ·next e=>
        rw[if_pos e] at hh
        rw[Bool.and_eq_true] at hh ⊢
        refine⟨hh.1,?_⟩
        have:=hh.2
        rw[List.all_eq_true] at this ⊢
        exact fun f hf=>fieldP_mono h _ _ (this f hf)
       ·rfl
def Stays (a b:List Ne) (R:Rel):Prop:=∀(i k:Nat) x y,a[i]?=some x→b[k]?=some y→R i k=true→holdP R x y i k=true
def InR (a b:List Ne) (i k:Int):Prop:=∃R,Stays a b R∧R i k=true
def CanR (a b:List Ne):Prop:=(showP a).isSome=true∧(showP b).isSome=true∧InR a b 0 0
open Classical in
noncomputable def canB (a b:List Ne):Bool:=decide (CanR a b)
theorem inR_iff {a b:List Ne} {N:Rel} (h1:Stays a b fun i k => !N i k) (h2:∀R,Stays a b R→∀(i k:Nat),i<a.length→k<b.length→R i k=true→N i k=false) {i k:Nat} (hi:i<a.length) (hk:k<b.length) :
  InR a b i k↔N i k=false:=by
 constructor
 ·rintro⟨R,hs,hr⟩
  exact h2 R hs i k hi hk hr
 ·intro h
  exact⟨_,h1,by simp[h]⟩
end Go.Proofs.YtmaoochjbpohdaaGreatDoor.Rv
namespace Go.Proofs.YtmaoochjbpohdaaGreatDoor.Rv
open Go.ChangeShapes Go.WideShapes Go.ChangeAt Go.RowKit
open Base Lx Mi Pr
def idxP {α:Type} (p:α→Bool):List α→Int
 | [] => -1
 | x::l=>if p x=true then 0 else if idxP p l<0 then -1 else idxP p l+1
def NoP {α:Type} (p:α→Bool) (l:List α) (i:Nat):Prop:=∀(j:Nat) x,j<i→l[j]?=some x→p x=false
theorem idxP_ge {α:Type} (p:α→Bool):∀l,-1≤idxP p l
 | []=>by simp[idxP]
 | x::l=>by
  have:=idxP_ge p l
  unfold idxP
  split
  ·omega
  ·split<;>omega
theorem idxP_hit {α:Type} {p:α→Bool}:∀ {l:List α} {i:Nat} {x:α},NoP p l i→l[i]?=some x→p x=true→idxP p l=i
 | [],i,x,_,h,_=>by simp at h
 | y::l,0,x,_,h,hp=>by
  simp at h;subst h
  simp[idxP,hp]
 | y::l,i+1,x,hn,h,hp=>by
  have h0:=hn 0 y (by omega) rfl
  have ih:=idxP_hit (l:=l) (i:=i) (x:=x) (fun j z hj hz=>hn (j+1) z (by omega) (by simpa using hz)) (by simpa using h) hp
  unfold idxP
  rw[if_neg (by simp[h0]),ih,if_neg (by omega)]
  omega
theorem idxP_none {α:Type} {p:α→Bool}:∀ {l:List α},NoP p l l.length→idxP p l = -1
 | [],_=>rfl
 | y::l,hn=>by
  have h0:=hn 0 y (by simp) rfl
  have ih:=idxP_none (l:=l) (p:=p) (fun j z hj hz=>hn (j+1) z (by simpa using hj) (by simpa using hz))
  unfold idxP
  rw[if_neg (by simp[h0]),ih,if_pos (by omega)]
theorem idxP_any {α:Type} (p:α→Bool):∀l:List α,decide (0≤idxP p l)=l.any p
 | []=>rfl
 | x::l=>by
  have ih:=idxP_any p l
  unfold idxP
  by_cases hx:p x=true
  ·simp[hx]
  ·rw[if_neg hx,List.any_cons,←ih]
   have hx:p x=false:=by simpa using hx
   by_cases h:idxP p l<0
   ·simp[h,hx]
   ·rw[if_neg h,hx]
    have:0≤idxP p l:=by omega
    simp[this]
    omega
theorem idxP_find {α:Type} {p:α→Bool}:∀ {l:List α} {i:Nat},idxP p l=i→∃x,l[i]?=some x∧l.find? p=some x
 | [],i,h=>by simp[idxP] at h
 | x::l,i,h=>by
  unfold idxP at h
  by_cases hx:p x=true
  ·rw[if_pos hx] at h
   obtain rfl:i=0:=by omega
   exact⟨x,rfl,by simp[hx]⟩
  ·rw[if_neg hx] at h
   split at h
   ·omega
   ·next hn=>
    obtain⟨m,rfl⟩:∃m,i=m+1:=⟨i-1,by omega⟩
    obtain⟨y,h1,h2⟩:=idxP_find (p:=p) (l:=l) (i:=m) (by omega)
    exact⟨y,by simpa using h1,by simp[hx,h2]⟩
theorem idxP_find_none {α:Type} {p:α→Bool}:∀ {l:List α},idxP p l<0→l.find? p=none
 | [],_=>rfl
 | x::l,h=>by
  unfold idxP at h
  by_cases hx:p x=true
  ·rw[if_pos hx] at h;omega
  ·rw[if_neg hx] at h
   split at h
   ·next hn=>simp[hx,idxP_find_none hn]
   ·omega
theorem fldsZ_cell {w:World} {A:Option Addr} {l:List (ByteArray×Bool×Int)} (hr:Rd w A (fldsZ l)) (j:Nat) (x:ByteArray×Bool×Int) (hx:l[j]?=some x):∃b off,A=some ⟨b,off,none⟩∧w.cell? ⟨b,off+j*3,none⟩=some (.string x.1)∧w.cell? ⟨b,off+j*3+1,none⟩=some (.bool x.2.1)∧w.cell? ⟨b,off+j*3+2,none⟩=some (.int .i64 x.2.2):=by
 have hi:=(List.getElem?_eq_some_iff.1 hx).1
 obtain⟨b,off,e,h⟩:=hr (fun e=>by have:=fldsZ_at l j x hx 0 (by omega);rw[e] at this;simp[fldZ] at this)
 refine⟨b,off,e,?_,?_,?_⟩
 ·exact h (j*3+0) _ (by rw[fldsZ_at l j x hx 0 (by omega)];rfl)
 ·rw[Nat.add_assoc];exact h (j*3+1) _ (by rw[fldsZ_at l j x hx 1 (by omega)];rfl)
 ·rw[Nat.add_assoc];exact h (j*3+2) _ (by rw[fldsZ_at l j x hx 2 (by omega)];rfl)
theorem idxInt_any {F:FuncId} (q1 q2:Addr) (A:Option Addr) (c:Nat) (l:List (Int)) (p:Int→Bool) (w:World) (hr:Rd w A (intsZ l)) (n:Nat) (hn:l.length=n) (hl:n≤100000)
  (hF:∀args w,(callFunc F args).run Tryz.prog w=.ok (.enter F args) w)
  (hf:∀x∈l,∀W,Ext w W→Calls Tryz.prog F #[.int .i64 x,.pointer (some q1),.pointer (some q2)] W fun en w'=>en=.returned (.bool (p x))∧Ext W w') :
  Calls Tryz.prog 116 #[.slice A n c,.func (.func F) #[] #[.pointer (some q1),.pointer (some q2)]] w fun en w'=>en=.returned (.int .i64 (idxP p l))∧Ext w w':=by
 have Hn:=Lib.hid hn
 clear hn
 replace hf:=Lib.hid hf
 obtain⟨IX,hIX⟩:∃o,Hid (idxP p l=o):=⟨_,rfl⟩
 rw[hIX.out]
 go_enter Tryz.func116,Tryz.ntmps116
 go_wp2_with fail
 go_loopw [5,8,9,10,11,12,13,14,15,16,18] (fun v5 v8 v9 v10 v11 v12 v13 v14 v15 v16 v18 wr=>∃i:Nat,i≤n∧v8=.int .i64 i∧NoP p l i∧Ext w wr) (fun _ v8 _ _ _ _ _ _ _ _ _ _=>n-(intOf v8).toNat)
 case atStart=>exact⟨0,by omega,rfl,fun k f h=>by omega,Ext.refl w⟩
 case round=>
  obtain⟨i,hi,rfl,h1,hx⟩:=hrel
  by_cases hin:i<n
  ·have hin':(i:Int)<(n:Int):=by omega
   obtain⟨x,hme⟩:∃m,l[i]?=some m:=⟨_,List.getElem?_eq_getElem (by have:=Hn.out;omega)⟩
   obtain⟨b,off,rfl,hz,hc⟩:=(hr.ext hx).at_ (k:=i) (by simp only[intsZ,List.length_map];have:=Hn.out;omega)
   clear hz
   have hck:wr.cell? ⟨b,off+i,none⟩=some (.int .i64 x):=hc i _ (by simp[intsZ,hme])
   clear hc
   have hb:=hf.out x (List.mem_of_getElem? hme) wr hx
   have Hme:=Lib.hid hme
   clear hme
   obtain⟨BB,hBB⟩:∃o,Hid (p x=o):=⟨_,rfl⟩
   rw[hBB.out] at hb
   cases BB with
   | true=>
    have hat:IX=(i:Int):=by rw[←hIX.out];exact idxP_hit h1 Hme.out hBB.out
    have Hat:=Lib.hid hat
    clear hat
    go_wp2_with fail
    refine hb.mono ?_
    rintro e w1 ⟨rfl,hx2⟩
    go_wp2_with fail
    go_ret
    exact⟨by rw[Hat.out];rfl,hx.trans hx2⟩
   | false=>
    go_wp2_with fail
    refine hb.mono ?_
    rintro e w1 ⟨rfl,hx2⟩
    go_wp2_with fail
    refine⟨⟨i+1,by omega,by go_num,?_,hx.trans hx2⟩,by simp[intOf];omega⟩
    intro j y hk hy
    rcases Nat.lt_or_ge j i with h|h
    ·exact h1 j y h hy
    ·obtain rfl:j=i:=by omega
     rw[Hme.out] at hy
     injection hy with hy
     rw[←hy];exact hBB.out
  ·obtain rfl:i=n:=by omega
   have hat:IX = -1:=by
    rw[←hIX.out]
    exact idxP_none (by rw[Hn.out];exact h1)
   have Hat:=Lib.hid hat
   clear hat
   go_wp2_with fail
   go_ret
   exact⟨by rw[Hat.out];rfl,hx⟩
theorem hasInt_any {F:FuncId} (q1 q2:Addr) (A:Option Addr) (c:Nat) (l:List (Int)) (p:Int→Bool) (w:World) (hr:Rd w A (intsZ l)) (n:Nat) (hn:l.length=n) (hl:n≤100000)
  (hF:∀args w,(callFunc F args).run Tryz.prog w=.ok (.enter F args) w)
  (hf:∀x∈l,∀W,Ext w W→Calls Tryz.prog F #[.int .i64 x,.pointer (some q1),.pointer (some q2)] W fun en w'=>en=.returned (.bool (p x))∧Ext W w') :
  Calls Tryz.prog 95 #[.slice A n c,.func (.func F) #[] #[.pointer (some q1),.pointer (some q2)]] w fun en w'=>en=.returned (.bool (l.any p))∧Ext w w':=by
 have hi:=idxInt_any q1 q2 A c l p w hr n hn hl hF hf
 rw[←idxP_any]
 obtain⟨r,hr'⟩:∃o,Hid (idxP p l=o):=⟨_,rfl⟩
 rw[hr'.out] at hi ⊢
 clear hf hF
 go_enter Tryz.func95,Tryz.ntmps95
 go_wp2_with fail
 refine hi.mono ?_
 rintro e w1 ⟨rfl,hx⟩
 go_wp2_with fail
 go_ret
 exact⟨rfl,hx⟩
theorem idxStr_any {F:FuncId} (q1:Addr) (A:Option Addr) (c:Nat) (l:List (ByteArray)) (p:ByteArray→Bool) (w:World) (hr:Rd w A (txs l)) (n:Nat) (hn:l.length=n) (hl:n≤100000)
  (hF:∀args w,(callFunc F args).run Tryz.prog w=.ok (.enter F args) w)
  (hf:∀x∈l,∀W,Ext w W→Calls Tryz.prog F #[.string x,.pointer (some q1)] W fun en w'=>en=.returned (.bool (p x))∧Ext W w') :
  Calls Tryz.prog 117 #[.slice A n c,.func (.func F) #[] #[.pointer (some q1)]] w fun en w'=>en=.returned (.int .i64 (idxP p l))∧Ext w w':=by
 have Hn:=Lib.hid hn
 clear hn
 replace hf:=Lib.hid hf
 obtain⟨IX,hIX⟩:∃o,Hid (idxP p l=o):=⟨_,rfl⟩
 rw[hIX.out]
 go_enter Tryz.func117,Tryz.ntmps117
 go_wp2_with fail
 go_loopw [5,8,9,10,11,12,13,14,15,16,18] (fun v5 v8 v9 v10 v11 v12 v13 v14 v15 v16 v18 wr=>∃i:Nat,i≤n∧v8=.int .i64 i∧NoP p l i∧Ext w wr) (fun _ v8 _ _ _ _ _ _ _ _ _ _=>n-(intOf v8).toNat)
 case atStart=>exact⟨0,by omega,rfl,fun k f h=>by omega,Ext.refl w⟩
 case round=>
  obtain⟨i,hi,rfl,h1,hx⟩:=hrel
  by_cases hin:i<n
  ·have hin':(i:Int)<(n:Int):=by omega
   obtain⟨x,hme⟩:∃m,l[i]?=some m:=⟨_,List.getElem?_eq_getElem (by have:=Hn.out;omega)⟩
   obtain⟨b,off,rfl,hz,hc⟩:=(hr.ext hx).at_ (k:=i) (by simp only[txs,List.length_map];have:=Hn.out;omega)
   clear hz
   have hck:wr.cell? ⟨b,off+i,none⟩=some (.string x):=hc i _ (by simp[txs,hme])
   clear hc
   have hb:=hf.out x (List.mem_of_getElem? hme) wr hx
   have Hme:=Lib.hid hme
   clear hme
   obtain⟨BB,hBB⟩:∃o,Hid (p x=o):=⟨_,rfl⟩
   rw[hBB.out] at hb
   cases BB with
   | true=>
    have hat:IX=(i:Int):=by rw[←hIX.out];exact idxP_hit h1 Hme.out hBB.out
    have Hat:=Lib.hid hat
    clear hat
    go_wp2_with fail
    refine hb.mono ?_
    rintro e w1 ⟨rfl,hx2⟩
    go_wp2_with fail
    go_ret
    exact⟨by rw[Hat.out];rfl,hx.trans hx2⟩
   | false=>
    go_wp2_with fail
    refine hb.mono ?_
    rintro e w1 ⟨rfl,hx2⟩
    go_wp2_with fail
    refine⟨⟨i+1,by omega,by go_num,?_,hx.trans hx2⟩,by simp[intOf];omega⟩
    intro j y hk hy
    rcases Nat.lt_or_ge j i with h|h
    ·exact h1 j y h hy
    ·obtain rfl:j=i:=by omega
     rw[Hme.out] at hy
     injection hy with hy
     rw[←hy];exact hBB.out
  ·obtain rfl:i=n:=by omega
   have hat:IX = -1:=by
    rw[←hIX.out]
    exact idxP_none (by rw[Hn.out];exact h1)
   have Hat:=Lib.hid hat
   clear hat
   go_wp2_with fail
   go_ret
   exact⟨by rw[Hat.out];rfl,hx⟩
theorem hasStr_any {F:FuncId} (q1:Addr) (A:Option Addr) (c:Nat) (l:List (ByteArray)) (p:ByteArray→Bool) (w:World) (hr:Rd w A (txs l)) (n:Nat) (hn:l.length=n) (hl:n≤100000)
  (hF:∀args w,(callFunc F args).run Tryz.prog w=.ok (.enter F args) w)
  (hf:∀x∈l,∀W,Ext w W→Calls Tryz.prog F #[.string x,.pointer (some q1)] W fun en w'=>en=.returned (.bool (p x))∧Ext W w') :
  Calls Tryz.prog 98 #[.slice A n c,.func (.func F) #[] #[.pointer (some q1)]] w fun en w'=>en=.returned (.bool (l.any p))∧Ext w w':=by
 have hi:=idxStr_any q1 A c l p w hr n hn hl hF hf
 rw[←idxP_any]
 obtain⟨r,hr'⟩:∃o,Hid (idxP p l=o):=⟨_,rfl⟩
 rw[hr'.out] at hi ⊢
 clear hf hF
 go_enter Tryz.func98,Tryz.ntmps98
 go_wp2_with fail
 refine hi.mono ?_
 rintro e w1 ⟨rfl,hx⟩
 go_wp2_with fail
 go_ret
 exact⟨rfl,hx⟩
theorem idxFld_any {F:FuncId} (q1:Addr) (A:Option Addr) (c:Nat) (l:List (ByteArray×Bool×Int)) (p:ByteArray×Bool×Int→Bool) (w:World) (hr:Rd w A (fldsZ l)) (n:Nat) (hn:l.length=n) (hl:n≤100000)
  (hF:∀args w,(callFunc F args).run Tryz.prog w=.ok (.enter F args) w)
  (hf:∀x∈l,∀W,Ext w W→Calls Tryz.prog F #[.agg (fldZ x).toArray,.pointer (some q1)] W fun en w'=>en=.returned (.bool (p x))∧Ext W w') :
  Calls Tryz.prog 119 #[.slice A n c,.func (.func F) #[] #[.pointer (some q1)]] w fun en w'=>en=.returned (.int .i64 (idxP p l))∧Ext w w':=by
 have Hn:=Lib.hid hn
 clear hn
 replace hf:=Lib.hid hf
 obtain⟨IX,hIX⟩:∃o,Hid (idxP p l=o):=⟨_,rfl⟩
 rw[hIX.out]
 go_enter Tryz.func119,Tryz.ntmps119
 go_wp2_with fail
 go_loopw [5,8,9,10,11,12,13,14,15,16,18] (fun v5 v8 v9 v10 v11 v12 v13 v14 v15 v16 v18 wr=>∃i:Nat,i≤n∧v8=.int .i64 i∧NoP p l i∧Ext w wr) (fun _ v8 _ _ _ _ _ _ _ _ _ _=>n-(intOf v8).toNat)
 case atStart=>exact⟨0,by omega,rfl,fun k f h=>by omega,Ext.refl w⟩
 case round=>
  obtain⟨i,hi,rfl,h1,hx⟩:=hrel
  by_cases hin:i<n
  ·have hin':(i:Int)<(n:Int):=by omega
   obtain⟨x,hme⟩:∃m,l[i]?=some m:=⟨_,List.getElem?_eq_getElem (by have:=Hn.out;omega)⟩
   obtain⟨b,off,rfl,d0,d1,d2⟩:=fldsZ_cell (hr.ext hx) i x hme
   have hb:=hf.out x (List.mem_of_getElem? hme) wr hx
   obtain⟨y,yb,yt⟩:=x
   simp only[fldZ] at hb d0 d1 d2
   have Hme:=Lib.hid hme
   clear hme
   obtain⟨BB,hBB⟩:∃o,Hid (p (y,yb,yt)=o):=⟨_,rfl⟩
   rw[hBB.out] at hb
   cases BB with
   | true=>
    have hat:IX=(i:Int):=by rw[←hIX.out];exact idxP_hit h1 Hme.out hBB.out
    have Hat:=Lib.hid hat
    clear hat
    go_wp2_with fail
    refine hb.mono ?_
    rintro e w1 ⟨rfl,hx2⟩
    go_wp2_with fail
    go_ret
    exact⟨by rw[Hat.out];rfl,hx.trans hx2⟩
   | false=>
    go_wp2_with fail
    refine hb.mono ?_
    rintro e w1 ⟨rfl,hx2⟩
    go_wp2_with fail
    refine⟨⟨i+1,by omega,by go_num,?_,hx.trans hx2⟩,by simp[intOf];omega⟩
    intro j y hk hy
    rcases Nat.lt_or_ge j i with h|h
    ·exact h1 j y h hy
    ·obtain rfl:j=i:=by omega
     rw[Hme.out] at hy
     injection hy with hy
     rw[←hy];exact hBB.out
  ·obtain rfl:i=n:=by omega
   have hat:IX = -1:=by
    rw[←hIX.out]
    exact idxP_none (by rw[Hn.out];exact h1)
   have Hat:=Lib.hid hat
   clear hat
   go_wp2_with fail
   go_ret
   exact⟨by rw[Hat.out];rfl,hx⟩
end Go.Proofs.YtmaoochjbpohdaaGreatDoor.Rv
namespace Go.Proofs.YtmaoochjbpohdaaGreatDoor.Mp
open Go.ChangeShapes Go.WideShapes Go.ChangeAt Go.RowKit Go.WideMaps
open Base
def pv (i k:Int):Value:=.agg #[.int .i64 i,.int .i64 k]
def I6 (i:Int):Prop := -9223372036854775808≤i∧i≤9223372036854775807
structure Bt (P:Program) (t k e:TypeId):Prop where
 under:P.underlying t=some (.map k e)
 law:KeyLaw P k
 elem:P.underlying e=some .bool
 zero:∀w,(zeroValue e).run P w=.ok (.bool false) w
 has:∀i j,I6 i→I6 j→∃l,keyOf P k (pv i j)=some l
theorem Bt.keyed {P:Program} {t k e:TypeId} (M:Bt P t k e):Maps.Keyed P k:=Maps.Keyed.of_law M.law
def MapB (P:Program) (k e:TypeId) (w:World) (b n:Nat) (N:Int→Int→Bool):Prop:=
 ∃D:DataW Unit,w.ownsMap P k (plainElem P e) b n D∧Maps.IsMap D∧∀i j l,keyOf P k (pv i j)=some l→D.atKey l (.lit (.bool false))=.lit (.bool (N i j))
theorem pv_inj {i j i' j':Int} (h:pv i j=pv i' j'):i=i'∧j=j':=by
 unfold pv at h
 injection h with h
 have h0:=congrArg (fun l=>l[0]?) h
 have h1:=congrArg (fun l=>l[1]?) h
 simp at h0 h1
 exact⟨h0,h1⟩
theorem bool_inv {H:Type} {P:Program} {e:TypeId} (he:P.underlying e=some .bool) {v:Value} {z:DataW H×List MemPlace} (h:plainElem P e v=some z):∃x,v=.bool x∧z=(.lit (.bool x),[]):=by
 unfold plainElem at h
 rw[he] at h
 cases v<;>simp at h
 exact⟨_,rfl,h.symm⟩
section
variable {P:Program} {t k e:TypeId} {w w':World} {b n:Nat} {N:Int→Int→Bool}
theorem MapB.kept {row:Option Nat} (h:MapB P k e w b n N) (hg:w.grownBy w' row) (hne:some b≠row):MapB P k e w' b n N:=by
 obtain⟨D,h1,h2⟩:=h
 exact⟨D,h1.kept hg hne,h2⟩
theorem MapB.ext (h:MapB P k e w b n N) (hx:Ext w w'):MapB P k e w' b n N:=by
 obtain⟨D,⟨es,clock,hb,r⟩,h2⟩:=h
 exact⟨D,⟨es,clock,hx.heap hb,r⟩,h2⟩
theorem MapB.lt (h:MapB P k e w b n N):b<w.heap.size:=by
 obtain⟨D,h1,h2⟩:=h
 exact h1.lt
theorem MapB.made (P:Program) (k e:TypeId) (w:World):MapB P k e (w.alloc (.map #[] 0)) w.heap.size 0 (fun _ _=>false):=
 ⟨.map [],World.ownsMap_made w P k (plainElem P e),Maps.isMap_empty,fun i j l _=>by simp[DataW.atKey]⟩
theorem MapB.look (M:Bt P t k e) (h:MapB P k e w b n N) {i j:Int} (hi:I6 i) (hj:I6 j) :
  (Instr.lookup t (.map (some b)) (.agg #[.int .i64 i,.int .i64 j]) false).run P w=.ok (.bool (N i j)) w:=by
 obtain⟨D,h1,h2,h3⟩:=h
 obtain⟨l,hl⟩:=M.has i j hi hj
 obtain⟨v,ps,hrun,hv⟩:=h1.lookup M.keyed M.under (M.zero w) (plainElem_bool M.elem false) hl
 obtain⟨c,rfl,hc⟩:=bool_inv M.elem hv
 simp only[Prod.mk.injEq] at hc
 have h4:=h3 i j l hl
 rw[hc.1] at h4
 simp only[DataW.lit.injEq,Lit.bool.injEq] at h4
 rw[←h4]
 exact hrun
theorem MapB.store (M:Bt P t k e) (h:MapB P k e w b n N) (hn:n<maxLen) {i j:Int} (hi:I6 i) (hj:I6 j) :
  ∃w',(Instr.mapUpdate t (.map (some b)) (.agg #[.int .i64 i,.int .i64 j]) (.bool true)).run P w=.ok () w'∧MapB P k e w' b (n+1) (fun x y=>if x=i∧y=j then true else N x y)∧w.grownBy w' (some b):=by
 obtain⟨D,h1,h2,h3⟩:=h
 obtain⟨l,hl⟩:=M.has i j hi hj
 obtain⟨w',hrun,ho,hg⟩:=h1.update M.keyed M.under hn hl (plainElem_bool (H:=Unit) M.elem true)
 refine⟨w',hrun,⟨_,ho,h2.put _ _,?_⟩,hg⟩
 intro x y m hm
 by_cases hxy:x=i∧y=j
 ·obtain⟨rfl,rfl⟩:=hxy
  obtain rfl:l=m:=Option.some.inj (hl.symm.trans hm)
  simp only[and_self,if_true]
  exact Maps.atKey_put_same h2 (M.keyed.key hl) _ _
 ·have hne:m≠l:=by
   rintro rfl
   exact hxy (pv_inj (M.keyed.inj hm hl))
  simp only[hxy,if_false]
  exact (Maps.atKey_put_other hne _ _).trans (h3 x y m hm)
theorem setBlock_twice (w:World) (b:Nat) (x y:Obj):ChangeMaps.setBlock (ChangeMaps.setBlock w b x) b y=ChangeMaps.setBlock w b y:=by
 simp[ChangeMaps.setBlock]
theorem MapB.entry (M:Bt P t k e) (h:MapB P k e w b n N) (hn:n<maxLen) {i j:Int} (hi:I6 i) (hj:I6 j) :
  ∃v0 st w1 w',(Instr.mapEntry t (.map (some b)) (.agg #[.int .i64 i,.int .i64 j])).run P w=.ok (.tuple #[v0,goInt st]) w1∧(Instr.entryStore t (.map (some b)) (goInt st) (.bool true)).run P w1=.ok () w'∧
   MapB P k e w' b (n+1) (fun x y=>if x=i∧y=j then true else N x y)∧w.grownBy w' (some b):=by
 obtain⟨w',hrun,hm,hg⟩:=h.store M hn hi hj
 obtain⟨D,⟨es,clock,hb,F,_⟩,_⟩:=h
 obtain⟨l,hl⟩:=M.has i j hi hj
 obtain⟨v0,st,es1,clock1,h1,_,h2⟩:=WideElems.entry_then_store (w:=w) M.law M.under M.zero hb F hl
 obtain⟨es',clock',h3,h4⟩:=h2 (ChangeMaps.setBlock w b (.map es1 clock1)) (.bool true) (ChangeMaps.heap_setBlock_same hb _)
 refine⟨v0,st,_,w',h1,?_,hm,hg⟩
 have h5:(Instr.mapUpdate t (.map (some b)) (pv i j) (.bool true)).run P w=.ok () w':=hrun
 rw[h4] at h5
 injection h5 with _ h5
 rw[h3,setBlock_twice,h5]
end
end Go.Proofs.YtmaoochjbpohdaaGreatDoor.Mp
