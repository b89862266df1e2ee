/- append onto a new empty slice of one's own: nothing that was there changes. -/
import Derived.Test.YtllhhpcabncmiaaGreatDoorDsJ
import Derived.Deep.Upon
import Derived.Deep.AppendSrc
set_option linter.unusedVariables false
set_option linter.unusedSimpArgs false
set_option maxRecDepth 100000
set_option maxHeartbeats 1000000
open Go.ChangeShapes Go.WideShapes Go.ChangeAt Go.RowKit
namespace Go.Proofs.YtllhhpcabncmiaaGreatDoor
namespace Pr
open Base
theorem app0_run {P:Program} {t e:TypeId} {z:Value} {size bytes:Nat} (E:El P t e z size bytes) (w:World) (ty:TypeId) (base:Nat)
  (g:Nat) (hown:w.ownsRow base e size (.slice (some ⟨g,0,none⟩) 0 0) 0 [])
  (A:Option Addr) (m c:Nat) (news:List Value) (hr:Rd w A news) (hl:news.length=m*size) (hA:A=none→c=0)
  (hbytes:m*bytes≤140737488355328) (hby:0<bytes) (hbase:base≤w.heap.size) :
  ∃v' w',(Builtin.append_ #[t,t] ty #[.slice (some ⟨g,0,none⟩) 0 0,.slice A m c]).run P w=.ok v' w'∧w'.ownsRow base e size v' m news∧Ext w w':=by
 obtain⟨i,hi,hz,hs,hb⟩:=info_parts E.info
 have hpos:=E.pos
 by_cases hne:news=[]
 ·subst hne
  have hm:m=0:=by
   rcases Nat.eq_zero_or_pos m with h|h
   ·exact h
   ·have:=Nat.mul_pos h hpos;simp at hl;omega
  subst hm
  refine⟨_,w,?_,hown,Ext.refl w⟩
  cases A with
  | none=>
   rw[hA rfl]
   exact run_append_nothing (P:=P) w t t ty e i E.under hi (some ⟨g,0,none⟩) 0 0 (Nat.le_refl _) _ (Src.ofNil (P:=P) (w:=w) E.under 0)
  | some ad=>
   exact run_append_nothing (P:=P) w t t ty e i E.under hi (some ⟨g,0,none⟩) 0 0 (Nat.le_refl _) _ (Src.ofSlice (P:=P) (w:=w) E.under ad 0 c [] (by simp) (by simp) (fun u hu=>by cases hu))
 ·obtain⟨b,off,rfl,hc⟩:=hr hne
  have hm:0<m:=by
   rcases Nat.eq_zero_or_pos m with h|h
   ·subst h;rw[Nat.zero_mul] at hl;exact absurd (List.eq_nil_of_length_eq_zero hl) hne
   ·exact h
  have h63:m≤maxLen:=by
   have h:m*1≤m*bytes:=Nat.mul_le_mul_left _ hby
   unfold maxLen;omega
  have h63':((0+m:Nat):Int)≤9223372036854775807:=by unfold maxLen at h63;omega
  have hr:=run_append_grow (P:=P) w t ty e i z E.under hi hz ⟨g,0,none⟩ 0 0 [] (by simp) (by simp) ⟨b,off,none⟩ m c news (by rw[hs];exact hl) (fun j u hj=>by
   have hadd:(⟨b,off,none⟩:Addr).add j=⟨b,off+j,none⟩:=by unfold Addr.add;split<;>simp_all
   rw[hadd];exact hc j u hj) (by omega) h63' (growslice_fits (by omega) (by rw[hb,Nat.zero_add];exact hbytes))
  have hge:=grownCap_ge w (0+m) 0 e
  have hcm:grownCap w (0+m) 0 e≤maxLen:=grownCap_le_maxLen w (0+m) 0 e (by omega)
  refine⟨_,_,hr,⟨hl,.inr ⟨w.heap.size,_,_,by rw[Nat.zero_add],hbase,heap_alloc_new w.drew _,by rw[Nat.zero_add] at hge;exact hge,by rw[Nat.zero_add] at hcm;exact hcm,?_,?_⟩⟩,((Ext.refl w).drew).alloc _⟩
  ·have e1:m*size+(grownCap w (0+m) 0 e-(0+m))*size=grownCap w (0+m) 0 e*size:=by
    rw[←Nat.add_mul];congr 1;omega
   simp only[Array.size_append,List.size_toArray,size_zeroCells,E.cells,hl,List.length_nil,Nat.zero_add] at e1 ⊢
   exact e1
  ·simp only[Array.toList_append,List.append_assoc]
   rw[←hl]
   simp
theorem wp_app0 {P:Program} {t e:TypeId} {z:Value} {size bytes:Nat} (E:El P t e z size bytes) (w:World) {o:Oper} {a:Act} {K:Act→World→Prop} {Q:Exit→Act→World→Prop} (s x:Operand)
  (ho:o.op=.call { callee:=.builtin .append,args := #[s,x],argTypes := #[t,t] }) (base:Nat)
  (g:Nat) (hs:a.eval s=.slice (some ⟨g,0,none⟩) 0 0) (hown:w.ownsRow base e size (.slice (some ⟨g,0,none⟩) 0 0) 0 [])
  (A:Option Addr) (m c:Nat) (news:List Value) (hx:a.eval x=.slice A m c) (hr:Rd w A news) (hl:news.length=m*size) (hA:A=none→c=0)
  (hbytes:m*bytes≤140737488355328) (hby:0<bytes) (hbase:base≤w.heap.size)
  (h:∀v' w',w'.ownsRow base e size v' m news→Ext w w'→K (a.put o.dst v') w'):o.wp P a w K Q:=by
 obtain⟨v',w',hrun,h2,h3⟩:=app0_run E w o.type base g hown A m c news hr hl hA hbytes hby hbase
 unfold Oper.wp execOp
 simp only[ho,resolve,invoke,builtin,Sem.run_bind,Sem.run_pure,Result.andThen_ok,List.map_toArray,List.map_cons,List.map_nil,hs,hx,hrun]
 exact h v' w' h2 h3
end Pr
namespace Pr
open Base Lx Mi
structure SubO (B:Nat) (w:World) (d:Ne) (v:V3):Prop where
 syms:w.ownsRow B 9 1 v.1 d.syms.length (txs d.syms)
 items:w.ownsRow B 3 1 v.2.1 d.items.length (intsZ d.items)
 fields:w.ownsRow B 69 3 v.2.2 d.fields.length (fldsZ d.fields)
 rng : -9223372036854775808≤d.size∧d.size≤9223372036854775807
structure NeO (B:Nat) (w:World) (ns:List Ne) (vs:List V3) (vn:Value):Prop where
 len:vs.length=ns.length
 row:w.ownsRow B 47 6 vn ns.length (nesC ns vs)
 sub:∀(i:Nat) d v,ns[i]?=some d→vs[i]?=some v→SubO B w d v
theorem SubO.ext {B:Nat} {w w':World} {d:Ne} {v:V3} (h:SubO B w d v) (hx:Ext w w'):SubO B w' d v:=⟨own_ext h.syms hx,own_ext h.items hx,own_ext h.fields hx,h.rng⟩
theorem NeO.ext {B:Nat} {w w':World} {ns:List Ne} {vs:List V3} {vn:Value} (h:NeO B w ns vs vn) (hx:Ext w w'):NeO B w' ns vs vn:=⟨h.len,own_ext h.row hx,fun i d v h1 h2=>(h.sub i d v h1 h2).ext hx⟩
theorem SubO.toE {B B':Nat} {w:World} {d:Ne} {v:V3} (h:SubO B w d v) (hB:w.heap.size≤B'):SubE B' w d v:=⟨Sl.ofOwn h.syms hB,Sl.ofOwn h.items hB,Sl.ofOwn h.fields hB,h.rng⟩
theorem NeO.sch {B B':Nat} {w:World} {ns:List Ne} {vs:List V3} {vn:Value} (h:NeO B w ns vs vn) (hB:w.heap.size≤B'):Sch B' w vn ns:=
 ⟨vs,h.len,Sl.ofOwn h.row hB,fun i d v h1 h2=>(h.sub i d v h1 h2).toE hB⟩
theorem nesC_snoc:∀(ns:List Ne) (vs:List V3) (d:Ne) (v:V3),vs.length=ns.length→nesC (ns++[d]) (vs++[v])=nesC ns vs++neC d v
 | [],[],d,v,_=>by simp[nesC]
 | [],_::_,d,v,h=>by simp at h
 | _::_,[],d,v,h=>by simp at h
 | x::ns,y::vs,d,v,h=>by
  simp only[List.cons_append,nesC]
  rw[nesC_snoc ns vs d v (by simpa using h),List.append_assoc]
theorem fldsZ_one (l:List (ByteArray×Bool×Int)):∀u∈fldsZ l,u.oneCell'=true:=by
 intro u hu
 obtain⟨x,_,hx⟩:=List.mem_flatMap.1 hu
 simp only[fldZ,List.mem_cons,List.not_mem_nil,or_false] at hx
 rcases hx with rfl|rfl|rfl<;>rfl
theorem fldsZ_length (l:List (ByteArray×Bool×Int)):(fldsZ l).length=l.length*3:=by
 induction l with
 | nil=>rfl
 | cons x l ih=>rw[fldsZ,List.flatMap_cons,List.length_append];unfold fldsZ at ih;rw[ih];simp[fldZ];omega
theorem SubO.chg {S:Nat→Prop} {B:Nat} {w w':World} {d:Ne} {v:V3} (h:SubO B w d v) (hx:Chg S w w') (h1:∀k,v.1.ownBlock=some k→¬S k) (h2:∀k,v.2.1.ownBlock=some k→¬S k) (h3:∀k,v.2.2.ownBlock=some k→¬S k):SubO B w' d v:=
 ⟨own_chg h.syms hx h1,own_chg h.items hx h2,own_chg h.fields hx h3,h.rng⟩
def ApV (u v:V3):Prop:=(u.1.ownBlock=none∨u.1.ownBlock≠v.1.ownBlock)∧(u.2.1.ownBlock=none∨u.2.1.ownBlock≠v.2.1.ownBlock)∧(u.2.2.ownBlock=none∨u.2.2.ownBlock≠v.2.2.ownBlock)
def Dis (vs:List V3):Prop:=∀(i j:Nat) (u v:V3),i<j→vs[i]?=some u→vs[j]?=some v→ApV u v
theorem own_apart {b1 b2 q s1 s2 n1 n2:Nat} {e1 e2:TypeId} {u v:Value} {x1 x2:List Value} {w w':World} (h:w.ownsRow b1 e1 s1 u n1 x1) (hs:w.heap.size≤q) (k:w'.ownsRow b2 e2 s2 v n2 x2) (hk:q≤b2):u.ownBlock=none∨u.ownBlock≠v.ownBlock:=by
 cases hu:u.ownBlock with
 | none=>exact .inl rfl
 | some m=>
  refine .inr fun e=>?_
  have h1:=(h.lt m hu).2
  have h2:=(k.lt m e.symm).1
  omega
theorem Dis.snoc {vs:List V3} {v:V3} (h:Dis vs) (hv:∀(i:Nat) (u:V3),vs[i]?=some u→ApV u v):Dis (vs++[v]):=by
 intro i j u v' hij hi hj
 have hjl:=(List.getElem?_eq_some_iff.1 hj).1
 rw[List.length_append,List.length_singleton] at hjl
 rw[List.getElem?_append_left (by omega)] at hi
 rcases Nat.lt_or_ge j vs.length with hl|hl
 ·rw[List.getElem?_append_left hl] at hj
  exact h i j u v' hij hi hj
 ·rw[List.getElem?_append_right hl,show j-vs.length=0 by omega] at hj
  injection hj with hj
  subst hj
  exact hv i u hi
def Len6 (d:Ne):Prop:=d.syms.length≤1000000∧d.items.length≤1000000∧d.fields.length≤1000000
abbrev ownA (q b1 o1 n c i q5:Nat) (x:Ne) (As1 Ai1 Af1:Option Addr) (cs1 ci1 cf1:Nat) (u:Nat→Value) (v19 v20 v21 v22 v23 v24 v25 v26 v27 v28 v29 v30 v31 v32 v33:Value):Act:=⟨#[.agg #[.slice (some ⟨b1,o1,none⟩) n c],.pointer (some ⟨q,0,none⟩),.pointer (some ⟨q+1,0,none⟩),.pointer (some ⟨q+1+1,0,none⟩),.int .i64 i,.pointer (some ⟨q5,0,none⟩),.agg #[.slice none 0 0],.int .i64 i,.pointer (some ⟨q,0,none⟩),.slice (some ⟨b1,o1,none⟩) n c,.int .i64 n,.bool true,u 12,u 13,.pointer (some ⟨q,0,none⟩),.slice (some ⟨b1,o1,none⟩) n c,.int .i64 i,.pointer (some ⟨b1,o1+i*6,none⟩),.agg #[.int .i64 x.k,.string x.name,.int .i64 x.size,.slice As1 x.syms.length cs1,.slice Ai1 x.items.length ci1,.slice Af1 x.fields.length cf1],v19,v20,v21,v22,v23,v24,v25,v26,v27,v28,v29,v30,v31,v32,v33,u 34,u 35,u 36,u 37,u 38,u 39,undef],[]⟩
set_option maxHeartbeats 400000 in
theorem own_lists {q b1 o1 n c i q5 B0:Nat} {x:Ne} {As1 Ai1 Af1:Option Addr} {cs1 ci1 cf1:Nat} {u:Nat→Value} {wr w0:World} {Q:Exit→Act→World→Prop} (hw0:Ext wr w0) (hq5:wr.heap.size=q5)
  (hb50:Blk w0 q5 #[.int .i64 x.k,.string x.name,.int .i64 x.size,.slice As1 x.syms.length cs1,.slice Ai1 x.items.length ci1,.slice Af1 x.fields.length cf1] 47) (hs0:w0.heap.size=q5+1) (hsz:q+3≤q5)
  (r3:∀X,Ext w0 X→Rd X As1 (txs x.syms)) (r4:∀X,Ext w0 X→Rd X Ai1 (intsZ x.items)) (r5:∀X,Ext w0 X→Rd X Af1 (fldsZ x.fields))
  (z3:Hid (As1=none→cs1=0)) (z4:Hid (Ai1=none→ci1=0)) (z5:Hid (Af1=none→cf1=0)) (hl1:x.syms.length≤1000000) (hl2:x.items.length≤1000000) (hl3:x.fields.length≤1000000)
  (hP:∀c (a a2:Act) w,Q (.panic c) a w→∀(hd:a2.defers=a.defers:=by rfl),Q (.panic c) a2 w)
  (hQ:∀v19 v20 v21 v22 v23 v24 v25 v26 v27 v28 v29 v30 v31 v32 v33 A3 c3 A7 c7 A11 c11 X,Ext w0 X→X.ownsRow q5 9 1 (.slice A3 x.syms.length c3) x.syms.length (txs x.syms)→X.ownsRow q5 3 1 (.slice A7 x.items.length c7) x.items.length (intsZ x.items)→X.ownsRow q5 69 3 (.slice A11 x.fields.length c11) x.fields.length (fldsZ x.fields)→
   Q .normal (ownA q b1 o1 n c i q5 x As1 Ai1 Af1 cs1 ci1 cf1 u v19 v20 v21 v22 v23 v24 v25 v26 v27 v28 v29 v30 v31 v32 v33) (((X.setCell ⟨q5,3,none⟩ (.slice A3 x.syms.length c3)).setCell ⟨q5,4,none⟩ (.slice A7 x.items.length c7)).setCell ⟨q5,5,none⟩ (.slice A11 x.fields.length c11))) :
  (Reg.regionOf 6 Tryz.f11.body).wp Tryz.prog Q (ownA q b1 o1 n c i q5 x As1 Ai1 Af1 cs1 ci1 cf1 u (u 19) (u 20) (u 21) (u 22) (u 23) (u 24) (u 25) (u 26) (u 27) (u 28) (u 29) (u 30) (u 31) (u 32) (u 33)) w0:=by
 refine Reg.startX (R:=Go.RowKit.Below (q5+1)) (by kernel_rfl) ?_
 generalize hwd:World.drew _=wd
 have hxd:Ext w0 wd:=by rw[←hwd];exact (Ext.refl w0).drew
 have hb5:Blk wd q5 #[.int .i64 x.k,.string x.name,.int .i64 x.size,.slice As1 x.syms.length cs1,.slice Ai1 x.items.length ci1,.slice Af1 x.fields.length cf1] 47:=hb50.ext hxd
 have hsd:wd.heap.size=q5+1:=by rw[←hwd];exact hs0
 clear hwd
 have hlow:∀ {W},Go.RowKit.Below (q5+1) wd W→Ext wd W:=fun hW=>below_ext hW (by omega)
 have k3:∀W,Go.RowKit.Below (q5+1) wd W→W.cell? ⟨q5,3,none⟩=some (.slice As1 x.syms.length cs1):=fun W hW=>(hb5.ext (hlow hW)).cell 3
 have k4:∀W,Go.RowKit.Below (q5+1) wd W→W.cell? ⟨q5,4,none⟩=some (.slice Ai1 x.items.length ci1):=fun W hW=>(hb5.ext (hlow hW)).cell 4
 have k5:∀W,Go.RowKit.Below (q5+1) wd W→W.cell? ⟨q5,5,none⟩=some (.slice Af1 x.fields.length cf1):=fun W hW=>(hb5.ext (hlow hW)).cell 5
 have r3X:∀X,Ext wd X→Rd X As1 (txs x.syms):=fun X hX=>r3 X (hxd.trans hX)
 have r4X:∀X,Ext wd X→Rd X Ai1 (intsZ x.items):=fun X hX=>r4 X (hxd.trans hX)
 have r5X:∀X,Ext wd X→Rd X Af1 (fldsZ x.fields):=fun X hX=>r5 X (hxd.trans hX)
 replace r3X:=Lib.hid r3X
 replace r4X:=Lib.hid r4X
 replace r5X:=Lib.hid r5X
 clear r3 r4 r5
 refine Reg.tx (Reg.rl_below _) 1 ?_;(try simp only[Reg.nn])
 refine Reg.tx (Reg.rl_below _) 2 ?_;(try simp only[Reg.nn])
 refine Reg.tx (Reg.rl_below _) 5 ?_;(try simp only[Reg.nn])
 refine Reg.tx (Reg.rl_below _) 6 ?_;(try simp only[Reg.nn])
 refine Reg.tx (Reg.rl_below _) 9 ?_;(try simp only[Reg.nn])
 refine Reg.tx (Reg.rl_below _) 10 ?_;(try simp only[Reg.nn])
 refine Reg.layN [(0,19),(3,22),(4,23),(7,26),(8,27),(11,30),(12,31)] (fun i=>if i=3 then [0] else if i=7 then [3,4] else if i=11 then [7,8] else []) (by omega) (by kernel_rfl) (by kernel_rfl) (by decide)
  (fun i=>if i=0 then u 19 else if i=3 then u 22 else if i=4 then u 23 else if i=7 then u 26 else if i=8 then u 27 else if i=11 then u 30 else u 31) (by rfl)
  (fun i v X=>if i=0 then ∃g,v=.slice (some ⟨g,0,none⟩) 0 0∧X.ownsRow q5 9 1 (.slice (some ⟨g,0,none⟩) 0 0) 0 [] else if i=3 then X.ownsRow q5 9 1 v x.syms.length (txs x.syms)
   else if i=4 then ∃g,v=.slice (some ⟨g,0,none⟩) 0 0∧X.ownsRow q5 3 1 (.slice (some ⟨g,0,none⟩) 0 0) 0 [] else if i=7 then X.ownsRow q5 3 1 v x.items.length (intsZ x.items)
   else if i=8 then ∃g,v=.slice (some ⟨g,0,none⟩) 0 0∧X.ownsRow q5 69 3 (.slice (some ⟨g,0,none⟩) 0 0) 0 [] else if i=11 then X.ownsRow q5 69 3 v x.fields.length (fldsZ x.fields)
   else v=.pointer (some ⟨q5,3,none⟩)) ?_ ?_ ?_
 ·intro p hp v w1 w2 h0 hx0
  simp only[List.mem_cons,List.not_mem_nil,or_false] at hp
  rcases hp with rfl|rfl|rfl|rfl|rfl|rfl|rfl
  all_goals first|exact own_ext h0 hx0|exact Exists.imp (fun g h=>⟨h.1,own_ext h.2 hx0⟩) h0|exact h0
 ·intro p hp
  simp only[List.mem_cons,List.not_mem_nil,or_false] at hp
  rcases hp with rfl|rfl|rfl|rfl|rfl|rfl|rfl
  ·rintro oi hoi f X hX-K hK
   obtain rfl:=Option.some.inj hoi
   simp only[Reg.frameN]
   (try simp only[Reg.nn])
   go_simp
   replace hK:=hK.out
   simp only[Reg.frameN,Act.put,List.setIfInBounds_toArray,List.set_cons_zero,List.set_cons_succ] at hK
   exact hK _ _ ((Ext.refl X).alloc _) ⟨X.heap.size,rfl,World.ownsRow_lit X #[] 0 (by have:=hX.size;omega) (Nat.zero_le _) rfl⟩
  ·rintro oi hoi f X hX hp K hK
   obtain rfl:=Option.some.inj hoi
   obtain⟨g,e0,h0⟩:=hp 0 (by decide)
   replace e0:=Lib.hid e0
   have hsX:=hX.size
   simp only[Reg.frameN]
   (try simp only[Reg.nn])
   refine wp_app0 el_str X (.tmp 19) (.tmp 21) rfl q5 g e0.out h0 As1 _ _ _ rfl (r3X.out X hX) (by simp[txs]) z3.out (by omega) (by omega) (by omega) (fun v' w' ho hg=>?_)
   replace hK:=hK.out
   simp only[Reg.frameN,Act.put,List.setIfInBounds_toArray,List.set_cons_zero,List.set_cons_succ] at hK
   simp only[Act.put,List.setIfInBounds_toArray,List.set_cons_zero,List.set_cons_succ]
   exact hK _ _ hg ho
  ·rintro oi hoi f X hX-K hK
   obtain rfl:=Option.some.inj hoi
   simp only[Reg.frameN]
   (try simp only[Reg.nn])
   go_simp
   replace hK:=hK.out
   simp only[Reg.frameN,Act.put,List.setIfInBounds_toArray,List.set_cons_zero,List.set_cons_succ] at hK
   exact hK _ _ ((Ext.refl X).alloc _) ⟨X.heap.size,rfl,World.ownsRow_lit X #[] 0 (by have:=hX.size;omega) (Nat.zero_le _) rfl⟩
  ·rintro oi hoi f X hX hp K hK
   obtain rfl:=Option.some.inj hoi
   obtain⟨g,e0,h0⟩:=hp 4 (by decide)
   replace e0:=Lib.hid e0
   have hsX:=hX.size
   simp only[Reg.frameN]
   (try simp only[Reg.nn])
   refine wp_app0 el_int X (.tmp 23) (.tmp 25) rfl q5 g e0.out h0 Ai1 _ _ _ rfl (r4X.out X hX) (by simp[intsZ]) z4.out (by omega) (by omega) (by omega) (fun v' w' ho hg=>?_)
   replace hK:=hK.out
   simp only[Reg.frameN,Act.put,List.setIfInBounds_toArray,List.set_cons_zero,List.set_cons_succ] at hK
   simp only[Act.put,List.setIfInBounds_toArray,List.set_cons_zero,List.set_cons_succ]
   exact hK _ _ hg ho
  ·rintro oi hoi f X hX-K hK
   obtain rfl:=Option.some.inj hoi
   simp only[Reg.frameN]
   (try simp only[Reg.nn])
   go_simp
   replace hK:=hK.out
   simp only[Reg.frameN,Act.put,List.setIfInBounds_toArray,List.set_cons_zero,List.set_cons_succ] at hK
   exact hK _ _ ((Ext.refl X).alloc _) ⟨X.heap.size,rfl,World.ownsRow_lit X #[] 0 (by have:=hX.size;omega) (Nat.zero_le _) rfl⟩
  ·rintro oi hoi f X hX hp K hK
   obtain rfl:=Option.some.inj hoi
   obtain⟨g,e0,h0⟩:=hp 8 (by decide)
   replace e0:=Lib.hid e0
   have hsX:=hX.size
   simp only[Reg.frameN]
   (try simp only[Reg.nn])
   refine wp_app0 el_fld X (.tmp 27) (.tmp 29) rfl q5 g e0.out h0 Af1 _ _ _ rfl (r5X.out X hX) (by rw[fldsZ_length]) z5.out (by omega) (by omega) (by omega) (fun v' w' ho hg=>?_)
   replace hK:=hK.out
   simp only[Reg.frameN,Act.put,List.setIfInBounds_toArray,List.set_cons_zero,List.set_cons_succ] at hK
   simp only[Act.put,List.setIfInBounds_toArray,List.set_cons_zero,List.set_cons_succ]
   exact hK _ _ hg ho
  ·rintro oi hoi f X hX-K hK
   obtain rfl:=Option.some.inj hoi
   simp only[Reg.frameN]
   (try simp only[Reg.nn])
   go_simp
   replace hK:=hK.out
   simp only[Reg.frameN,Act.put,List.setIfInBounds_toArray,List.set_cons_zero,List.set_cons_succ] at hK
   exact hK _ _ (Ext.refl X) rfl
 ·intro f X hX hF
  have ho3:X.ownsRow q5 9 1 (f 3) x.syms.length (txs x.syms):=hF (3,22) (by decide)
  have ho7:X.ownsRow q5 3 1 (f 7) x.items.length (intsZ x.items):=hF (7,26) (by decide)
  have ho11:X.ownsRow q5 69 3 (f 11) x.fields.length (fldsZ x.fields):=hF (11,30) (by decide)
  have hp12:f 12=.pointer (some ⟨q5,3,none⟩):=hF (12,31) (by decide)
  clear hF
  simp only[Reg.frameN]
  rw[hp12]
  generalize f 3=v3 at ho3 ⊢
  generalize f 7=v7 at ho7 ⊢
  generalize f 11=v11 at ho11 ⊢
  generalize f 0=v0
  generalize f 4=v4
  generalize f 8=v8
  clear hp12 f
  obtain⟨A3',c3',rfl,jj1,jj2,jj3,jj4⟩:=Rd.of_own ho3
  clear jj1 jj2 jj3 jj4
  obtain⟨A7',c7',rfl,jj1,jj2,jj3,jj4⟩:=Rd.of_own ho7
  clear jj1 jj2 jj3 jj4
  obtain⟨A11',c11',rfl,jj1,jj2,jj3,jj4⟩:=Rd.of_own ho11
  clear jj1 jj2 jj3 jj4
  (try simp only[Reg.nn])
  have hb5X:=hb5.ext hX
  have g3:X.cell? ⟨q5,3,none⟩=some (.slice As1 x.syms.length cs1):=hb5X.cell 3
  have fr3:=hb5X.frozen 3
  refine Reg.onlyXS 13 _ rfl (by kernel_rfl) (by kernel_rfl) (by decide) (by rfl) (fun K hK=>?_)
  go_simp
  refine hK.out _ _ ?_;clear hK K;(try simp only[Reg.nn])
  clear g3 fr3
  obtain⟨Y1,hY1⟩:∃z,Hid (X.setCell ⟨q5,3,none⟩ (.slice A3' x.syms.length c3')=z):=⟨_,rfl⟩
  have hb1Y:Blk Y1 q5 #[.int .i64 x.k,.string x.name,.int .i64 x.size,.slice A3' x.syms.length c3',.slice Ai1 x.items.length ci1,.slice Af1 x.fields.length cf1] 47:=by rw[←hY1.out];exact hb5X.set 3 _
  rw[hY1.out]
  have g4:Y1.cell? ⟨q5,4,none⟩=some (.slice Ai1 x.items.length ci1):=hb1Y.cell 4
  have fr4:=hb1Y.frozen 4
  clear k3 k4 k5
  refine Reg.tx (Reg.rl_below _) 14 ?_;(try simp only[Reg.nn])
  refine Reg.onlyXS 15 _ rfl (by kernel_rfl) (by kernel_rfl) (by decide) (by rfl) (fun K hK=>?_)
  go_simp
  refine hK.out _ _ ?_;clear hK K;(try simp only[Reg.nn])
  clear g4 fr4
  obtain⟨Y2,hY2⟩:∃z,Hid (Y1.setCell ⟨q5,4,none⟩ (.slice A7' x.items.length c7')=z):=⟨_,rfl⟩
  have hb2Y:Blk Y2 q5 #[.int .i64 x.k,.string x.name,.int .i64 x.size,.slice A3' x.syms.length c3',.slice A7' x.items.length c7',.slice Af1 x.fields.length cf1] 47:=by rw[←hY2.out];exact hb1Y.set 4 _
  rw[hY2.out]
  have g5:Y2.cell? ⟨q5,5,none⟩=some (.slice Af1 x.fields.length cf1):=hb2Y.cell 5
  have fr5:=hb2Y.frozen 5
  refine Reg.tx (Reg.rl_below _) 16 ?_;(try simp only[Reg.nn])
  refine Reg.lastXD 17 _ rfl (by kernel_rfl) (by kernel_rfl) (by kernel_rfl) (by decide) (by rfl) (fun K hK=>?_)
  go_simp
  refine hK.out _ _ ?_;clear hK K;(try simp only[Reg.nn])
  rw[←hY2.out,←hY1.out]
  exact hQ _ _ _ _ _ _ _ _ _ _ _ _ _ _ _ _ _ _ _ _ _ X (hxd.trans hX) ho3 ho7 ho11
end Pr
namespace Dm
open Base Lx Mi Pr
theorem op_value {P:Program} {o:Oper} {a:Act} {w:World} {K:Act→World→Prop} {Q:Exit→Act→World→Prop} {v:Value} (h:(execOp a.eval o).run P w=.ok (.value v) w) (hk:K (a.put o.dst v) w):o.wp P a w K Q:=by
 unfold Oper.wp
 rw[h]
 exact hk
theorem ownD_keys {q:Nat} {d:Da} {nk ck n cl:Nat} {Ak Al:Option Addr} {w1:World} {Q:Exit→Act→World→Prop}
  (hbA:Blk w1 q #[.int .i64 d.n,.string d.s,.slice Ak nk ck,.slice Al n cl] 28)
  (rk:∀X,Ext w1 X→Rd X Ak (txs d.ks)) (zk:Hid (Ak=none→ck=0)) (hnk:Hid (d.ks.length=nk)) (hl:nk≤8796093022208)
  (hP:∀c (a a2:Act) w,Q (.panic c) a w→∀(hd:a2.defers=a.defers:=by rfl),Q (.panic c) a2 w)
  (hQ:∀g g0 v13 A7 c7 X,Ext w1 X→X.ownsRow w1.heap.size 9 1 (.slice A7 nk c7) nk (txs d.ks)→w1.heap.size≤g→Blk X g #[.int .i64 d.n,.string d.s,.slice A7 nk c7,.slice none 0 0] 28→
   Q .normal ⟨#[.agg #[.int .i64 d.n,.string d.s,.slice Ak nk ck,.slice Al n cl],.pointer (some ⟨q,0,none⟩),.pointer (some ⟨q+1,0,none⟩),.pointer (some ⟨g,0,none⟩),undef,undef,.pointer (some ⟨q,0,none⟩),.int .i64 d.n,.pointer (some ⟨q,1,none⟩),.string d.s,.slice (some ⟨g0,0,none⟩) 0 0,.pointer (some ⟨q,2,none⟩),.slice Ak nk ck,v13,.agg #[.int .i64 d.n,.string d.s,.slice A7 nk c7,.slice none 0 0],undef,undef,undef,undef,undef,undef,undef,undef,undef,undef,undef,undef,undef,undef,undef,undef,undef,undef,undef,undef],[]⟩ X) :
  (Reg.regionOf 1 Tryz.f12.body).wp Tryz.prog Q ⟨#[.agg #[.int .i64 d.n,.string d.s,.slice Ak nk ck,.slice Al n cl],.pointer (some ⟨q,0,none⟩),.pointer (some ⟨q+1,0,none⟩),undef,undef,undef,undef,undef,undef,undef,undef,undef,undef,undef,undef,undef,undef,undef,undef,undef,undef,undef,undef,undef,undef,undef,undef,undef,undef,undef,undef,undef,undef,undef,undef],[]⟩ w1:=by
 obtain⟨q5,hq5⟩:∃z,Hid (w1.heap.size=z):=⟨_,Lib.hid rfl⟩
 rw[hq5.out] at hQ
 refine Reg.startX (R:=Go.RowKit.Below q5) (by kernel_rfl) ?_
 generalize hwd:World.drew _=wd
 have hxd:Ext w1 wd:=by rw[←hwd];exact (Ext.refl w1).drew
 have hsd:wd.heap.size=q5:=by rw[←hwd];exact hq5.out
 clear hwd
 have hlow:∀ {W},Go.RowKit.Below q5 wd W→Ext wd W:=fun hW=>below_ext hW (by omega)
 have k0:∀W,Go.RowKit.Below q5 wd W→W.cell? ⟨q,0,none⟩=some (.int .i64 d.n):=fun W hW=>(hbA.ext (hxd.trans (hlow hW))).cell 0
 have k1:∀W,Go.RowKit.Below q5 wd W→W.cell? ⟨q,1,none⟩=some (.string d.s):=fun W hW=>(hbA.ext (hxd.trans (hlow hW))).cell 1
 have k2:∀W,Go.RowKit.Below q5 wd W→W.cell? ⟨q,2,none⟩=some (.slice Ak nk ck):=fun W hW=>(hbA.ext (hxd.trans (hlow hW))).cell 2
 have rkX:∀X,Ext wd X→Rd X Ak (txs d.ks):=fun X hX=>rk X (hxd.trans hX)
 replace rkX:=Lib.hid rkX
 clear rk
 refine Reg.tx (Reg.rl_below _) 0 ?_;(try simp only[Reg.nn])
 refine Reg.tx (Reg.rl_below _) 1 ?_;(try simp only[Reg.nn])
 refine Reg.tx (Reg.rl_below _) 2 ?_;(try simp only[Reg.nn])
 refine Reg.tx (Reg.rl_below _) 3 ?_;(try simp only[Reg.nn])
 refine Reg.tx (Reg.rl_below _) 5 ?_;(try simp only[Reg.nn])
 refine Reg.tx (Reg.rl_below _) 6 ?_;(try simp only[Reg.nn])
 refine Reg.layN [(4,10),(7,13),(8,14),(9,3)] (fun i=>if i=7 then [4] else if i=8 then [7] else []) (by omega) (by kernel_rfl) (by kernel_rfl) (by decide)
  (fun i=>undef) (by rfl)
  (fun i v X=>if i=4 then ∃g,v=.slice (some ⟨g,0,none⟩) 0 0∧X.ownsRow q5 9 1 (.slice (some ⟨g,0,none⟩) 0 0) 0 [] else if i=7 then X.ownsRow q5 9 1 v nk (txs d.ks)
   else if i=8 then ∃A c,v=.agg #[.int .i64 d.n,.string d.s,.slice A nk c,.slice none 0 0]∧X.ownsRow q5 9 1 (.slice A nk c) nk (txs d.ks)
   else ∃g,v=.pointer (some ⟨g,0,none⟩)∧Blk X g #[.int .i64 0,.string ByteArray.empty,.slice none 0 0,.slice none 0 0] 28∧q5≤g) ?_ ?_ ?_
 ·intro p hp v w1 w2 h0 hx0
  simp only[List.mem_cons,List.not_mem_nil,or_false] at hp
  rcases hp with rfl|rfl|rfl|rfl
  ·exact Exists.imp (fun g h=>⟨h.1,own_ext h.2 hx0⟩) h0
  ·exact own_ext h0 hx0
  ·exact Exists.imp (fun A=>Exists.imp (fun c h=>⟨h.1,own_ext h.2 hx0⟩)) h0
  ·exact Exists.imp (fun g h=>⟨h.1,h.2.1.ext hx0,h.2.2⟩) h0
 ·intro p hp
  simp only[List.mem_cons,List.not_mem_nil,or_false] at hp
  rcases hp with rfl|rfl|rfl|rfl
  ·rintro oi hoi f X hX-K hK
   obtain rfl:=Option.some.inj hoi
   simp only[Reg.frameN]
   (try simp only[Reg.nn])
   go_simp
   replace hK:=hK.out
   simp only[Reg.frameN,Act.put,List.setIfInBounds_toArray,List.set_cons_zero,List.set_cons_succ] at hK
   exact hK _ _ ((Ext.refl X).alloc _) ⟨X.heap.size,rfl,World.ownsRow_lit X #[] 0 (by have:=hX.size;omega) (Nat.zero_le _) rfl⟩
  ·rintro oi hoi f X hX hp K hK
   obtain rfl:=Option.some.inj hoi
   obtain⟨g,e0,h0⟩:=hp 4 (by decide)
   replace e0:=Lib.hid e0
   have hsX:=hX.size
   simp only[Reg.frameN]
   (try simp only[Reg.nn])
   refine wp_app0 el_str X (.tmp 10) (.tmp 12) rfl q5 g e0.out h0 Ak _ _ _ rfl (rkX.out X hX) (by simp[txs,hnk.out]) zk.out (by omega) (by omega) (by omega) (fun v' w' ho hg=>?_)
   replace hK:=hK.out
   simp only[Reg.frameN,Act.put,List.setIfInBounds_toArray,List.set_cons_zero,List.set_cons_succ] at hK
   simp only[Act.put,List.setIfInBounds_toArray,List.set_cons_zero,List.set_cons_succ]
   exact hK _ _ hg ho
  ·rintro oi hoi f X hX hp K hK
   obtain rfl:=Option.some.inj hoi
   have h7:X.ownsRow q5 9 1 (f 7) nk (txs d.ks):=hp 7 (by decide)
   replace hK:=hK.out
   simp only[Reg.frameN] at hK ⊢
   generalize f 7=v7 at h7 hK ⊢
   obtain⟨A7',c7',rfl,jj1,jj2,jj3,jj4⟩:=Rd.of_own h7
   clear jj1 jj2 jj3 jj4
   (try simp only[Reg.nn])
   refine op_value (v:=.agg #[.int .i64 d.n,.string d.s,.slice A7' nk c7',.slice none 0 0]) (by kernel_rfl) ?_
   simp only[Act.put,List.setIfInBounds_toArray,List.set_cons_zero,List.set_cons_succ] at hK ⊢
   exact hK _ _ (Ext.refl X) ⟨_,_,rfl,h7⟩
  ·rintro oi hoi f X hX-K hK
   obtain rfl:=Option.some.inj hoi
   have hsX:=hX.size
   simp only[Reg.frameN]
   (try simp only[Reg.nn])
   go_simp
   replace hK:=hK.out
   simp only[Reg.frameN,Act.put,List.setIfInBounds_toArray,List.set_cons_zero,List.set_cons_succ] at hK
   exact hK _ _ ((Ext.refl X).alloc _) ⟨X.heap.size,rfl,Blk.new X _ _,by omega⟩
 ·intro f X hX hF
  obtain⟨g0,e4,h4⟩:∃g,f 4=.slice (some ⟨g,0,none⟩) 0 0∧X.ownsRow q5 9 1 (.slice (some ⟨g,0,none⟩) 0 0) 0 []:=hF (4,10) (by decide)
  obtain⟨A7',c7',e8,ho7⟩:∃A c,f 8=.agg #[.int .i64 d.n,.string d.s,.slice A nk c,.slice none 0 0]∧X.ownsRow q5 9 1 (.slice A nk c) nk (txs d.ks):=hF (8,14) (by decide)
  obtain⟨g,e9,hbg,hg5⟩:∃g,f 9=.pointer (some ⟨g,0,none⟩)∧Blk X g #[.int .i64 0,.string ByteArray.empty,.slice none 0 0,.slice none 0 0] 28∧q5≤g:=hF (9,3) (by decide)
  clear hF h4
  simp only[Reg.frameN]
  rw[e4,e8,e9]
  generalize f 7=v7
  clear e4 e8 e9 f
  (try simp only[Reg.nn])
  clear k0 k1 k2
  have c0:=hbg.cell 0
  have f0:=hbg.frozen 0
  have hb1:=hbg.set 0 (.int .i64 d.n)
  have c1:=hb1.cell 1
  have f1:=hb1.frozen 1
  have hb2:=hb1.set 1 (.string d.s)
  have c2:=hb2.cell 2
  have f2:=hb2.frozen 2
  have hb3:=hb2.set 2 (.slice A7' nk c7')
  have c3:=hb3.cell 3
  have f3:=hb3.frozen 3
  have hb4:=hb3.set 3 (.slice none 0 0)
  refine Reg.lastXD 10 _ rfl (by kernel_rfl) (by kernel_rfl) (by kernel_rfl) (by decide) (by rfl) (fun K hK=>?_)
  go_simp
  refine hK.out _ _ ?_;clear hK K;(try simp only[Reg.nn])
  refine hQ g g0 _ A7' c7' _ ((((((hxd.trans hX).setCell (p:=⟨g,0,none⟩) (by show w1.heap.size≤g;have:=hq5.out;omega) _).setCell (p:=⟨g,1,none⟩) (by show w1.heap.size≤g;have:=hq5.out;omega) _).setCell (p:=⟨g,2,none⟩) (by show w1.heap.size≤g;have:=hq5.out;omega) _).setCell (p:=⟨g,3,none⟩) (by show w1.heap.size≤g;have:=hq5.out;omega) _)) ?_ hg5 hb4
  exact own_setCell (i:=3) (own_setCell (i:=2) (own_setCell (i:=1) (own_setCell (i:=0) ho7 hbg (by decide) _) hb1 (by decide) _) hb2 (by decide) _) hb3 (by decide) _
structure DkO (L g:Nat) (w:World) (l:List Da) (vs:List V2) (lv:Value):Prop where
 len:vs.length=l.length
 row:w.ownsRow L 28 4 lv l.length (dsC l vs)
 kid:∀(i:Nat) x u,l[i]?=some x→vs[i]?=some u→∃lo B,DaR lo B w x u∧L≤lo∧B≤w.heap.size∧∀k,lv.ownBlock=some k→k<lo∨B≤k
theorem DkO.ext {L g:Nat} {w w':World} {l:List Da} {vs:List V2} {lv:Value} (h:DkO L g w l vs lv) (hx:Ext w w'):DkO L g w' l vs lv:=
 ⟨h.len,own_ext h.row hx,fun i x u h1 h2=>by
  obtain⟨lo,B,k1,k2,k3,k4⟩:=h.kid i x u h1 h2
  exact⟨lo,B,k1.ext hx k3,k2,Nat.le_trans k3 hx.size,k4⟩⟩
theorem DkO.box {L g i:Nat} {w:World} {l:List Da} {vs:List V2} {lv:Value} (h:DkO L g w l vs lv) (hg:g<L) (u:Value):DkO L g (w.setCell ⟨g,i,none⟩ u) l vs lv:=by
 have hc:=Chg.one w g i u
 refine⟨h.len,own_chg h.row hc (fun k hk e=>by have:=(h.row.lt k hk).1;omega),fun j x v h1 h2=>?_⟩
 obtain⟨lo,B,k1,k2,k3,k4⟩:=h.kid j x v h1 h2
 exact⟨lo,B,k1.chg hc (fun k q1 q2 e=>by omega),k2,by simpa using k3,k4⟩
theorem DkO.more {L g lo B:Nat} {w w':World} {l:List Da} {vs:List V2} {lv lv':Value} {x:Da} {u:V2} (h:DkO L g w l vs lv) (hx:DaR lo B w x u) (hlo:L≤lo) (hB:B≤w.heap.size) (hlv:∀k,lv.ownBlock=some k→k<lo∨B≤k)
  (hg:w.grownBy w' lv.ownBlock) (hv:lv'.ownBlock=lv.ownBlock∨lv'.ownBlock=some w.heap.size) (ho:w'.ownsRow L 28 4 lv' (l.length+1) (dsC l vs++dC x u)):DkO L g w' (l++[x]) (vs++[u]) lv':=by
 have hc:Chg (fun k=>lv.ownBlock=some k) w w':=Chg.ofGrown hg
 have key:∀(y:Da) (v:V2) (lo B:Nat),DaR lo B w y v→L≤lo→B≤w.heap.size→(∀k,lv.ownBlock=some k→k<lo∨B≤k)→∃lo B,DaR lo B w' y v∧L≤lo∧B≤w'.heap.size∧∀k,lv'.ownBlock=some k→k<lo∨B≤k:=by
  intro y v lo B h1 h2 h3 h4
  refine⟨lo,B,h1.chg hc (fun k q1 q2 e=>by have:=h4 k e;omega),h2,Nat.le_trans h3 hc.size,fun k hk=>?_⟩
  rcases hv with e|e
  ·exact h4 k (by rw[←e];exact hk)
  ·rw[e] at hk;injection hk with hk;omega
 refine⟨by simp[h.len],by rw[dsC_snoc _ _ _ _ h.len,List.length_append];exact ho,fun j y v e1 e2=>?_⟩
 rcases Nat.lt_or_ge j l.length with hj|hj
 ·rw[List.getElem?_append_left hj] at e1
  rw[List.getElem?_append_left (by rw[h.len];exact hj)] at e2
  obtain⟨lo,B,k1,k2,k3,k4⟩:=h.kid j y v e1 e2
  exact key y v lo B k1 k2 k3 k4
 ·rw[List.getElem?_append_right hj] at e1
  rw[List.getElem?_append_right (by rw[h.len];exact hj),h.len] at e2
  have hj0:j-l.length=0:=by
   rcases Nat.eq_zero_or_pos (j-l.length) with h0|h0
   ·exact h0
   ·rw[List.getElem?_eq_none (by simp;omega)] at e1;cases e1
  rw[hj0] at e1 e2
  injection e1 with e1;injection e2 with e2
  subst e1;subst e2
  exact key x u lo B hx hlo hB hlv
theorem resOwnD {w:World} {tmps:Array Value} {a:Nat} {u0 u1 u2 u3:Value} (ha:tmps[2]?.getD undef=.pointer (some ⟨a,0,none⟩)) (h0:w.cell? ⟨a,0,none⟩=some u0) (h1:w.cell? ⟨a,1,none⟩=some u1) (h2:w.cell? ⟨a,2,none⟩=some u2) (h3:w.cell? ⟨a,3,none⟩=some u3) :
  (results Tryz.f12 tmps).run Tryz.prog w=.ok (.agg #[u0,u1,u2,u3]) w:=by
 simp[results,Tryz.f12,go_sem,ha,h0,h1,h2,h3]
set_option maxHeartbeats 2000000 in
theorem ownD_any:∀(d:Da) {lo B:Nat} {w:World} {v:V2},DaR lo B w d v→B≤w.heap.size→d.KL 8796093022208→d.parts≤1000000→
  Calls Tryz.prog 12 #[dV d v] w fun e w'=>∃v',e=.returned (dV d v')∧DaR w.heap.size w'.heap.size w' d v'∧Ext w w':=by
 intro d
 induction d using Da.ind with
 | h d ih=>
 intro lo B w v h hB hKL hps
 have hrng:=h.rng
 obtain⟨Ak,ck,Al,cl,rfl,rk,ltk,jj3,jj4,zk,jj6,hm2,jj7⟩:=h.parts
 clear jj3 jj4 jj6 jj7
 have hm:d.l.length≤1000000:=by have:=len_parts d;omega
 have hks:=hKL.ks
 clear hm2
 obtain⟨n,hn⟩:∃z,Hid (d.l.length=z):=⟨_,rfl⟩
 obtain⟨nk,hnk⟩:∃z,Hid (d.ks.length=z):=⟨_,rfl⟩
 rw[hn.out] at hm
 rw[hnk.out] at hks
 replace zk:=Lib.hid zk
 obtain⟨PO,hPO⟩:∃PO:Ending→World→Prop,Hid ((fun (e:Ending) (w':World)=>∃v',e=.returned (dV d v')∧DaR w.heap.size w'.heap.size w' d v'∧Ext w w')=PO):=⟨_,Lib.hid rfl⟩
 rw[hPO.out]
 simp only[dV]
 rw[hn.out,hnk.out]
 obtain⟨w1,hw1⟩:∃z,Hid ((w.alloc (.cells #[.int .i64 d.n,.string d.s,.slice Ak nk ck,.slice Al n cl] 28)).alloc (.cells #[.int .i64 0,.string ⟨#[]⟩,.slice none 0 0,.slice none 0 0] 28)=z):=⟨_,rfl⟩
 have hx1:Ext w w1:=by rw[←hw1.out];exact ((Ext.refl w).alloc _).alloc _
 obtain⟨q,hq⟩:∃z,Hid (w.heap.size=z):=⟨_,rfl⟩
 have hbA:Blk w1 q #[.int .i64 d.n,.string d.s,.slice Ak nk ck,.slice Al n cl] 28:=by rw[←hw1.out,←hq.out];exact (Blk.new w _ _).alloc _
 have hbB:Blk w1 (q+1) #[.int .i64 0,.string ⟨#[]⟩,.slice none 0 0,.slice none 0 0] 28:=by
  rw[←hw1.out,←hq.out]
  have:=Blk.new (w.alloc (.cells #[.int .i64 d.n,.string d.s,.slice Ak nk ck,.slice Al n cl] 28)) #[.int .i64 0,.string ⟨#[]⟩,.slice none 0 0,.slice none 0 0] 28
  simpa using this
 have hs1:w1.heap.size=q+2:=by rw[←hw1.out,←hq.out];simp
 go_enter Tryz.func12,Tryz.ntmps12
 go_wp2_with fail
 rw[hw1.out,hq.out]
 refine ownD_keys hbA (fun X hX=>Rd.below rk ltk (Below.mono (hx1.trans hX) hB)) zk hnk hks (fun c a a2 w h hd=>⟨hd.trans h.1,h.2⟩) ?_
 intro g g0 v13 A7 c7 X hX ho7 hgg hbg
 dsimp only
 have hgL:=hbg.lt
 obtain⟨L,hL⟩:∃z,Hid (X.heap.size=z):=⟨_,rfl⟩
 rw[hL.out] at hgL
 rw[hs1] at hgg ho7
 have hsX:=hX.size
 rw[hs1,hL.out] at hsX
 have bA0:=hbA.ext hX
 have bB0:=hbB.ext hX
 replace hrng:=Lib.hid hrng
 go_wp2_with fail
 go_loopw [4,5,15,16,17,18,19,20,21,22,23,24,25,26,27,28,29,30,31,32,33] (fun v4 v5 v15 v16 v17 v18 v19 v20 v21 v22 v23 v24 v25 v26 v27 v28 v29 v30 v31 v32 v33 wr=>∃(i:Nat) (lv:Value) (vs:List V2),i≤n∧v4=.int .i64 i∧Blk wr g #[.int .i64 d.n,.string d.s,.slice A7 nk c7,lv] 28∧DkO L g wr (d.l.take i) vs lv∧Blk wr q #[.int .i64 d.n,.string d.s,.slice Ak nk ck,.slice Al n cl] 28∧Blk wr (q+1) #[.int .i64 0,.string ⟨#[]⟩,.slice none 0 0,.slice none 0 0] 28∧wr.ownsRow (q+2) 9 1 (.slice A7 nk c7) nk (txs d.ks)∧Ext w1 wr∧L≤wr.heap.size) (fun v4 _ _ _ _ _ _ _ _ _ _ _ _ _ _ _ _ _ _ _ _ _=>n-(intOf v4).toNat)
 case atStart=>exact⟨0,_,[],by omega,rfl,hbg,⟨rfl,World.ownsRow_nil _ _ _ _,fun i x u h1 _=>by simp at h1⟩,bA0,bB0,ho7,hX,by have:=hL.out;omega⟩
 case round=>
  obtain⟨i,lv,vs,hi,rfl,hbG,hO,bA,bB,hoK,hx,hsz⟩:=hrel
  have pA:=bA.cell 3
  by_cases hin:i<n
  ·have hin':(i:Int)<(n:Int):=by omega
   obtain⟨x,hx1'⟩:∃x,d.l[i]?=some x:=⟨_,List.getElem?_eq_getElem (by have:=hn.out;omega)⟩
   obtain⟨b,off,c0,Akx,ckx,Alx,clx,e1,hb1,hdx,hcc⟩:=h.kid i x hx1'
   simp only at e1
   injection e1 with e1 _ e1'
   subst e1;subst e1'
   obtain⟨p0,p1,p2,p3⟩:=hcc wr (Below.mono (hx1.trans hx) hB)
   have hmem:x∈d.l:=List.mem_of_getElem? hx1'
   have hcall:=ih x hmem (hdx.low (Below.mono (hx1.trans hx) hB)) (Nat.le_trans hB (hx1.trans hx).size) (hKL.l x hmem) (by have:=parts_mem hmem;omega)
   simp only[dV] at hcall
   have hti:(d.l.take i).length=i:=by rw[List.length_take];have:=hn.out;omega
   clear ih hcc hdx
   go_wp2_with fail
   refine hcall.mono ?_
   rintro e Y ⟨⟨u1,u2⟩,rfl,hdu,hY⟩
   simp only[dV]
   obtain⟨Ak2,ck2,Al2,cl2,e2,jj1,jj2,jj3,jj4,jj5,jj6,jj7,jj8⟩:=hdu.parts
   clear jj1 jj2 jj3 jj4 jj5 jj6 jj7 jj8 hcall p0 p1 p2 p3 pA
   injection e2 with e2 e2'
   subst e2;subst e2'
   have hOY:=hO.ext hY
   have hrowY:=hOY.row
   rw[hti] at hrowY
   obtain⟨An,cn,rfl,jj1,jj2,jj3,jj4⟩:=Rd.of_own hrowY
   clear jj1 jj2 jj3 jj4
   obtain⟨w3,hw3⟩:∃z,Hid (Y.alloc (.cells #[.int .i64 x.n,.string x.s,.slice Ak2 x.ks.length ck2,.slice Al2 x.l.length cl2] 28)=z):=⟨_,rfl⟩
   have hx3:Ext Y w3:=by rw[←hw3.out];exact (Ext.refl Y).alloc _
   obtain⟨q3,hq3⟩:∃z,Hid (Y.heap.size=z):=⟨_,rfl⟩
   have hb3:Blk w3 q3 #[.int .i64 x.n,.string x.s,.slice Ak2 x.ks.length ck2,.slice Al2 x.l.length cl2] 28:=by rw[←hw3.out,←hq3.out];exact Blk.new Y _ _
   have bG3:=(hbG.ext hY).ext hx3
   have d0:=hb3.cell 0
   have d1:=hb3.cell 1
   have d2:=hb3.cell 2
   have d3:=hb3.cell 3
   have g3:=bG3.cell 3
   have gf3:=bG3.frozen 3
   have hO3:=hOY.ext hx3
   have hrow3:=own_ext hrowY hx3
   have hwx:Ext wr w3:=hY.trans hx3
   have hone:∀u∈([.int .i64 x.n,.string x.s,.slice Ak2 x.ks.length ck2,.slice Al2 x.l.length cl2]:List Value),u.oneCell'=true:=by
    intro u hu
    simp only[List.mem_cons,List.not_mem_nil,or_false] at hu
    rcases hu with rfl|rfl|rfl|rfl<;>rfl
   have haY:Ext w3 (w3.alloc (.cells #[.int .i64 x.n,.string x.s,.slice Ak2 x.ks.length ck2,.slice Al2 x.l.length cl2] 28)):=(Ext.refl w3).alloc _
   have hs3:=hwx.size
   have hdu3:=hdu.ext hx3 (Nat.le_refl _)
   have hYs:=hx3.size
   replace hdu3:=Lib.hid hdu3
   have hrd3:Rd (w3.alloc (.cells #[.int .i64 x.n,.string x.s,.slice Ak2 x.ks.length ck2,.slice Al2 x.l.length cl2] 28)) (some ⟨q3+1,0,none⟩) [.int .i64 x.n,.string x.s,.slice Ak2 x.ks.length ck2,.slice Al2 x.l.length cl2]:=by
    have:=Rd.of_block w3 28 (0,0) (cs := #[.int .i64 x.n,.string x.s,.slice Ak2 x.ks.length ck2,.slice Al2 x.l.length cl2]) rfl
    rw[show w3.heap.size=q3+1 from by rw[←hw3.out,←hq3.out];simp] at this
    exact this
   have hLw:L≤(w3.alloc (.cells #[.int .i64 x.n,.string x.s,.slice Ak2 x.ks.length ck2,.slice Al2 x.l.length cl2] 28)).heap.size:=by have:=haY.size;omega
   have hO3':=Lib.hid hO3
   clear hOY hrowY hO3 d0 d1 d2 d3 hb3
   have e3:=hw3.out
   have eq3:=hq3.out
   clear hw3 hq3
   subst e3;subst eq3
   go_wp2_with (
    refine wpList_app el_dat _ rfl (.tmp 29) (.tmp 31) rfl L (.slice An i cn) i (dsC (d.l.take i) vs) rfl (own_ext hrow3 haY) (some ⟨Y.heap.size+1,0,none⟩) 1 1 [.int .i64 x.n,.string x.s,.slice Ak2 x.ks.length ck2,.slice Al2 x.l.length cl2] rfl hrd3 rfl (fun h=>by cases h) hone (by omega) (by omega) hLw (fun V1 w6 ho6 hg6 hv6=>?_)
    obtain⟨A6,c6,rfl,jj1,jj2,jj3,jj4⟩:=Rd.of_own ho6
    clear jj1 jj2 jj3 jj4
    have hch6:Chg (fun k=>(Value.slice An i cn).ownBlock=some k) _ w6:=(Chg.ofExt haY).trans (Chg.ofGrown hg6) (fun _ _ e=>e)
    have hbo6:=hch6.blk bG3 (fun e=>by have:=(hrow3.lt g e).1;omega)
    have fr6:=hbo6.frozen 3
    have cl6:w6.cell? ⟨g,3,none⟩=some (.slice An i cn):=hbo6.cell 3)
   go_roundw
   case rel=>
    have hcW:=Chg.one w6 g 3 (.slice A6 (i+1) c6)
    have hOm:=hO3'.out.ext haY
    have hO6:=DkO.more (x:=x) (u:=(.slice Ak2 x.ks.length ck2,.slice Al2 x.l.length cl2)) hOm (hdu3.out.ext haY (by omega)) hsz (by have:=haY.size;omega) (fun k hk=>.inl (hO.row.lt k hk).2) hg6 hv6 (by rw[hti];exact ho6)
    have htk:d.l.take (i+1)=d.l.take i++[x]:=by rw[List.take_add_one,hx1'];rfl
    rw[←htk] at hO6
    have hgl:g<L:=hgL
    have h6A:=hch6.blk ((bA.ext hY).ext hx3) (fun e=>by have:=(hrow3.lt q e).1;omega)
    have h6B:=hch6.blk ((bB.ext hY).ext hx3) (fun e=>by have:=(hrow3.lt (q+1) e).1;omega)
    have h6K:=own_chg (own_ext (own_ext hoK hY) hx3) hch6 (fun k hk e=>own_not hrow3 (own_ext (own_ext hoK hY) hx3) (by decide) k hk e)
    have hx6:Ext w1 w6:=((hx.trans hwx)).chg hch6 (fun k hk e=>by have:=(hrow3.lt k e).1;omega)
    refine⟨i+1,.slice A6 (i+1) c6,vs++[(.slice Ak2 x.ks.length ck2,.slice Al2 x.l.length cl2)],by omega,by go_num,hbo6.set 3 _,hO6.box hgl _,hcW.blk h6A (by omega),hcW.blk h6B (by omega),own_setCell (i:=3) h6K hbo6 (by decide) _,hx6.setCell (by show w1.heap.size≤g;omega) _,?_⟩
    have:=hch6.size
    simp
    omega
   case measure=>simp[intOf];omega
  ·obtain rfl:i=n:=by omega
   have htk:d.l.take i=d.l:=List.take_of_length_le (by have:=hn.out;omega)
   rw[htk] at hO
   have hOr:=hO.row
   rw[hn.out] at hOr
   obtain⟨An,cn,rfl,jj1,jj2,jj3,jj4⟩:=Rd.of_own hOr
   clear jj1 jj2 jj3 jj4
   have g0':=hbG.cell 0
   have g1':=hbG.cell 1
   have g2':=hbG.cell 2
   have g3':=hbG.cell 3
   have r0:=bB.cell 0
   have rf0:=bB.frozen 0
   have bB1:=bB.set 0 (.int .i64 d.n)
   have r1:=bB1.cell 1
   have rf1:=bB1.frozen 1
   have bB2:=bB1.set 1 (.string d.s)
   have r2:=bB2.cell 2
   have rf2:=bB2.frozen 2
   have bB3:=bB2.set 2 (.slice A7 nk c7)
   have r3:=bB3.cell 3
   have rf3:=bB3.frozen 3
   have bB4:=bB3.set 3 (.slice An i cn)
   clear ih
   go_wp2_with fail
   refine bodyPost_ret (resOwnD rfl (bB4.cell 0) (bB4.cell 1) (bB4.cell 2) (bB4.cell 3)) rfl ?_
   rw[←hPO.out]
   have hcF:Chg (fun k=>k=q+1) wr ((((wr.setCell ⟨q+1,0,none⟩ (.int .i64 d.n)).setCell ⟨q+1,1,none⟩ (.string d.s)).setCell ⟨q+1,2,none⟩ (.slice A7 nk c7)).setCell ⟨q+1,3,none⟩ (.slice An i cn)):=
    ((((Chg.one wr (q+1) 0 _).set (p:=⟨q+1,1,none⟩) (.inl rfl) _).set (p:=⟨q+1,2,none⟩) (.inl rfl) _).set (p:=⟨q+1,3,none⟩) (.inl rfl) _)
   generalize ((((wr.setCell ⟨q+1,0,none⟩ (.int .i64 d.n)).setCell ⟨q+1,1,none⟩ (.string d.s)).setCell ⟨q+1,2,none⟩ (.slice A7 nk c7)).setCell ⟨q+1,3,none⟩ (.slice An i cn))=Fw at hcF
   have hqw:w.heap.size=q:=hq.out
   have hxF:Ext w Fw:=(hx1.trans hx).chg hcF (fun k hk e=>by omega)
   have hKF:=own_chg hoK hcF (fun k hk e=>by have:=(hoK.lt k hk).1;omega)
   have hLF:=own_chg hOr hcF (fun k hk e=>by have:=(hOr.lt k hk).1;omega)
   refine⟨(.slice A7 nk c7,.slice An i cn),rfl,?_,hxF⟩
   refine .mk vs (by rw[hnk.out];exact SlR.ofOwn hKF (by omega) (Nat.le_refl _)) hO.len (by rw[hn.out];exact SlR.ofOwn hLF (by omega) (Nat.le_refl _)) (fun j x u e1 e2=>?_) hrng.out
   obtain⟨lo',B',k1,k2,k3,k4⟩:=hO.kid j x u e1 e2
   exact (k1.chg hcF (fun k a b e=>by omega)).wide (by omega) (Nat.le_trans k3 hcF.size)
theorem eqFun_any {lo B lo' B':Nat} {w:World} {d d':Da} {v v':V2} (h1:DaR lo B w d v) (h2:DaR lo' B' w d' v') (hB:B≤w.heap.size) (hB':B'≤w.heap.size)
  (ih:∀x∈d.l,∀(y:Da) {lo B lo' B':Nat} {w:World} {v v':V2},DaR lo B w x v→DaR lo' B' w y v'→B≤w.heap.size→B'≤w.heap.size→Calls Tryz.prog 32 #[dV x v,dV y v'] w fun e w'=>e=.returned (.bool (eqD x y))∧Ext w w') :
  Calls Tryz.prog 55 #[v.2,v'.2,.func (.func 32) #[] #[]] w fun e w'=>(∃R,e=.returned (.bool R)∧(R=true↔d.l=d'.l))∧Ext w w':=by
 obtain⟨l1,hl1⟩:∃z,z=d.l:=⟨_,rfl⟩
 obtain⟨l2,hl2⟩:∃z,z=d'.l:=⟨_,rfl⟩
 rw[←hl1] at ih ⊢
 rw[←hl2]
 obtain⟨Ak,ck,A1,c1,rfl,jj1,jj2,jj3,jj4,jj5,jj6,hm1,jj7⟩:=h1.parts
 clear jj1 jj2 jj3 jj4 jj5 jj7
 obtain⟨Ak',ck',A2,c2,rfl,jj1,jj2,jj3,jj4,jj5,jj6',hm2,jj7⟩:=h2.parts
 clear jj1 jj2 jj3 jj4 jj5 jj7
 rw[←hl1] at jj6
 rw[←hl2] at jj6'
 have hm:l1.length≤9223372036854775807:=by unfold maxLen at hm1;omega
 clear jj6 jj6' hm1 hm2
 simp only
 rw[←hl1,←hl2]
 obtain⟨n,hn⟩:∃z,Hid (l1.length=z):=⟨_,rfl⟩
 obtain⟨n2,hn2'⟩:∃z,Hid (l2.length=z):=⟨_,rfl⟩
 rw[hn.out] at hm ⊢
 rw[hn2'.out]
 by_cases hl:n=n2
 ·subst hl
  have hnb:((n:Int) != (n:Int))=false:=by simp
  go_enter Tryz.func55,Tryz.ntmps55
  go_wp2_with fail
  go_loopw [7,8,9,17,18,19,20,21,22,23,24,25,26,27,28,29,30,31] (fun v7 v8 v9 v17 v18 v19 v20 v21 v22 v23 v24 v25 v26 v27 v28 v29 v30 v31 wr=>∃i:Nat,i≤n∧v17=.int .i64 i∧Pr.EqAt l1 l2 i∧Ext w wr) (fun _ _ _ v17 _ _ _ _ _ _ _ _ _ _ _ _ _ _ _=>n-(intOf v17).toNat)
  case atStart=>exact⟨0,by omega,rfl,fun j hj=>by omega,Ext.refl w⟩
  case round=>
   obtain⟨i,hi,rfl,heq,hx⟩:=hrel
   by_cases hin:i<n
   ·have hin':(i:Int)<(n:Int):=by omega
    obtain⟨x,hx1⟩:∃x,l1[i]?=some x:=⟨_,List.getElem?_eq_getElem (by have:=hn.out;omega)⟩
    obtain⟨y,hx2⟩:∃x,l2[i]?=some x:=⟨_,List.getElem?_eq_getElem (by have:=hn2'.out;omega)⟩
    obtain⟨b1,o1,d1,As1,cs1,Ai1,ci1,e1,hb1,hs1,hc1⟩:=h1.kid i x (hl1 ▸ hx1)
    obtain⟨b2,o2,d2,As2,cs2,Ai2,ci2,e2,hb2,hs2,hc2⟩:=h2.kid i y (hl2 ▸ hx2)
    simp only at e1 e2
    injection e1 with e1 _ e1'
    injection e2 with e2 _ e2'
    subst e1;subst e1';subst e2;subst e2'
    obtain⟨p0,p1,p2,p3⟩:=hc1 wr (Below.mono hx hB)
    have hbw2:Below B' w (wr.alloc (.cells #[.int .i64 x.n,.string x.s,.slice As1 x.ks.length cs1,.slice Ai1 x.l.length ci1] 28)):=Below.mono (hx.alloc _) hB'
    obtain⟨q0,q1,q2,q3⟩:=hc2 _ hbw2
    obtain⟨w1,hw1⟩:∃z,Hid ((wr.alloc (.cells #[.int .i64 x.n,.string x.s,.slice As1 x.ks.length cs1,.slice Ai1 x.l.length ci1] 28)).alloc (.cells #[.int .i64 y.n,.string y.s,.slice As2 y.ks.length cs2,.slice Ai2 y.l.length ci2] 28)=z):=⟨_,rfl⟩
    have hxw:Ext wr w1:=by rw[←hw1.out];exact ((Ext.refl wr).alloc _).alloc _
    have hcall:=ih x (List.mem_of_getElem? hx1) y (w:=w1) (hs1.low (Below.mono (hx.trans hxw) hB)) (hs2.low (Below.mono (hx.trans hxw) hB')) (Nat.le_trans hB (hx.trans hxw).size) (Nat.le_trans hB' (hx.trans hxw).size)
    simp only[dV] at hcall
    by_cases he:x=y
    ·rw[eqD_true he] at hcall
     rw[←he] at hx2
     have hE:=heq.next hx1 hx2
     clear hx1 hx2 hc1 hc2 hs1 hs2 he ih
     go_wp2_with fail
     rw[hw1.out]
     refine hcall.mono ?_
     rintro e w2 ⟨rfl,hx3⟩
     go_wp2_with fail
     go_roundw
     case rel=>exact⟨i+1,by omega,by go_num,hE,(hx.trans hxw).trans hx3⟩
     case measure=>simp[intOf];omega
    ·have hne:=ne_at hx1 hx2 he
     replace hne:=Lib.hid hne
     rw[eqD_false he] at hcall
     clear hx1 hx2 hc1 hc2 hs1 hs2 he ih
     go_wp2_with fail
     rw[hw1.out]
     refine hcall.mono ?_
     rintro e w2 ⟨rfl,hx3⟩
     go_wp2_with fail
     go_ret
     exact⟨⟨false,rfl,by simp[hne.out]⟩,(hx.trans hxw).trans hx3⟩
   ·obtain rfl:i=n:=by omega
    have hRt:l1=l2:=Pr.EqAt.all (by rw[hn.out,hn2'.out]) (by rw[hn.out];exact heq)
    replace hRt:=Lib.hid hRt
    go_wp2_with fail
    go_ret
    exact⟨⟨true,rfl,by simp[hRt.out]⟩,hx⟩
 ·have hRf:l1≠l2:=ne_len (by rw[hn.out,hn2'.out];exact hl)
  replace hRf:=Lib.hid hRf
  have hnb:((n:Int) != (n2:Int))=true:=by simpa using (by omega:¬(n:Int)=(n2:Int))
  go_enter Tryz.func55,Tryz.ntmps55
  go_wp2_with fail
  go_ret
  exact⟨⟨false,rfl,by simp[hRf.out]⟩,Ext.refl w⟩
theorem same_any:∀(d d':Da) {lo B lo' B':Nat} {w:World} {v v':V2},DaR lo B w d v→DaR lo' B' w d' v'→B≤w.heap.size→B'≤w.heap.size→
  Calls Tryz.prog 32 #[dV d v,dV d' v'] w fun e w'=>e=.returned (.bool (eqD d d'))∧Ext w w':=by
 intro d
 induction d using Da.ind with
 | h d ih=>
 intro d' lo B lo' B' w v v' h1 h2 hB hB'
 obtain⟨R,hR⟩:∃R,Hid (eqD d d'=R):=⟨_,Lib.hid rfl⟩
 rw[hR.out]
 have hef:=fun W (hW:Ext w W)=>eqFun_any (h1.ext hW hB) (h2.ext hW hB') (Nat.le_trans hB hW.size) (Nat.le_trans hB' hW.size) ih
 have hkA:Sl w.heap.size w v.1 d.ks.length (txs d.ks):=by cases h1 with|mk vs hk hl hr hc hnn=>exact hk.sl.mono hB
 have hkB:Sl w.heap.size w v'.1 d'.ks.length (txs d'.ks):=by cases h2 with|mk vs hk hl hr hc hnn=>exact hk.sl.mono hB'
 have hks:∀W,Ext w W→_:=fun W hW=>equal_str (hkA.below hW) (hkB.below hW) hW.size
 clear hkA hkB
 clear ih
 obtain⟨Ak,ck,A1,c1,rfl,jj1,jj2,jj3,jj4,jj5,jj6,hm1,jj7⟩:=h1.parts
 clear jj1 jj2 jj3 jj4 jj5 jj7 jj6 hm1
 obtain⟨Ak',ck',A2,c2,rfl,jj1,jj2,jj3,jj4,jj5,jj6,hm2,jj7⟩:=h2.parts
 clear jj1 jj2 jj3 jj4 jj5 jj7 jj6 hm2
 simp only at hef hks
 simp only[dV]
 obtain⟨w1,hw1⟩:∃z,Hid ((w.alloc (.cells #[.int .i64 d.n,.string d.s,.slice Ak d.ks.length ck,.slice A1 d.l.length c1] 28)).alloc (.cells #[.int .i64 d'.n,.string d'.s,.slice Ak' d'.ks.length ck',.slice A2 d'.l.length c2] 28)=z):=⟨_,rfl⟩
 have hx1:Ext w w1:=by rw[←hw1.out];exact ((Ext.refl w).alloc _).alloc _
 obtain⟨q,hq⟩:∃z,Hid (w.heap.size=z):=⟨_,rfl⟩
 have hbA:Blk w1 q #[.int .i64 d.n,.string d.s,.slice Ak d.ks.length ck,.slice A1 d.l.length c1] 28:=by rw[←hw1.out,←hq.out];exact (Blk.new w _ _).alloc _
 have hbB:Blk w1 (q+1) #[.int .i64 d'.n,.string d'.s,.slice Ak' d'.ks.length ck',.slice A2 d'.l.length c2] 28:=by
  rw[←hw1.out,←hq.out]
  have:=Blk.new (w.alloc (.cells #[.int .i64 d.n,.string d.s,.slice Ak d.ks.length ck,.slice A1 d.l.length c1] 28)) #[.int .i64 d'.n,.string d'.s,.slice Ak' d'.ks.length ck',.slice A2 d'.l.length c2] 28
  simpa using this
 replace hef:=Lib.hid hef
 replace hks:=Lib.hid hks
 by_cases e1:¬(d.n=d'.n)
 ·have hR0:R=false:=by rw[←hR.out];exact eqD_false fun e=>e1 (by rw[e])
  have hb:(d.n == d'.n)=false:=by simpa using e1
  subst hR0
  go_enter Tryz.func32,Tryz.ntmps32
  go_wp2_with fail
  rw[hw1.out]
  go_ret
  exact⟨rfl,hx1⟩
 have e1:d.n=d'.n:=Classical.not_not.1 e1
 have hb1:(d.n == d'.n)=true:=by simpa using e1
 replace e1:=Lib.hid e1
 by_cases e2:¬(d.s=d'.s)
 ·have hR0:R=false:=by rw[←hR.out];exact eqD_false fun e=>e2 (by rw[e])
  have hb2:=str_ne e2
  subst hR0
  go_enter Tryz.func32,Tryz.ntmps32
  go_wp2_with fail
  rw[hw1.out]
  go_ret
  exact⟨rfl,hx1⟩
 have e2:d.s=d'.s:=Classical.not_not.1 e2
 have hb2:(d.s.toList == d'.s.toList)=true:=by rw[e2];simp
 replace e2:=Lib.hid e2
 have pA2:=hbA.cell 2
 have pB2:=hbB.cell 2
 have hks1:=hks.out w1 hx1
 by_cases e3:¬(d.ks=d'.ks)
 ·have hR0:R=false:=by rw[←hR.out];exact eqD_false fun e=>e3 (by rw[e])
  rw[show decide (d.ks=d'.ks)=false by simpa using e3] at hks1
  subst hR0
  go_enter Tryz.func32,Tryz.ntmps32
  go_wp2_with fail
  rw[hw1.out]
  refine hks1.mono ?_
  rintro e w2 ⟨rfl,hx2⟩
  go_wp2_with fail
  go_ret
  exact⟨rfl,hx1.trans hx2⟩
 have e3:d.ks=d'.ks:=Classical.not_not.1 e3
 rw[show decide (d.ks=d'.ks)=true by simpa using e3] at hks1
 replace e3:=Lib.hid e3
 go_enter Tryz.func32,Tryz.ntmps32
 go_wp2_with fail
 rw[hw1.out,hq.out]
 refine hks1.mono ?_
 rintro e w2 ⟨rfl,hx2⟩
 have hef2:=hef.out w2 (hx1.trans hx2)
 have pA3:=(hbA.ext hx2).cell 3
 have pB3:=(hbB.ext hx2).cell 3
 clear pA2 pB2
 go_wp2_with fail
 refine hef2.mono ?_
 rintro e w3 ⟨⟨R3,rfl,hR3⟩,hx3⟩
 have hRR:R=R3:=by
  rw[←hR.out]
  by_cases h:d.l=d'.l
  ·rw[hR3.2 h];exact eqD_true (Da.ext e1.out e2.out e3.out h)
  ·cases R3 with
   | true=>exact absurd (hR3.1 rfl) h
   | false=>exact eqD_false fun e=>h (by rw[e])
 subst hRR
 clear hR3
 go_wp2_with fail
 go_ret
 exact⟨rfl,(hx1.trans hx2).trans hx3⟩
theorem Same_any (d d':Da) {lo B lo' B':Nat} {w:World} {v v':V2} (h1:DaR lo B w d v) (h2:DaR lo' B' w d' v') (hB:B≤w.heap.size) (hB':B'≤w.heap.size) :
  Calls Tryz.prog 17 #[dV d v,dV d' v'] w fun e w'=>e=.returned (.bool (eqD d d'))∧Ext w w':=by
 obtain⟨R,hR⟩:∃R,Hid (eqD d d'=R):=⟨_,Lib.hid rfl⟩
 have hcs:∀W,Ext w W→_:=fun W hW=>same_any d d' (h1.ext hW hB) (h2.ext hW hB') (Nat.le_trans hB hW.size) (Nat.le_trans hB' hW.size)
 rw[hR.out] at hcs ⊢
 obtain⟨w1,hw1⟩:∃z,Hid ((w.alloc (.cells #[.int .i64 d.n,.string d.s,v.1,v.2] 28)).alloc (.cells #[.int .i64 d'.n,.string d'.s,v'.1,v'.2] 28)=z):=⟨_,rfl⟩
 have hx1:Ext w w1:=by rw[←hw1.out];exact ((Ext.refl w).alloc _).alloc _
 obtain⟨Ak,ck,A1,c1,rfl,jj1,jj2,jj3,jj4,jj5,jj6,hm1,jj7⟩:=h1.parts
 clear jj1 jj2 jj3 jj4 jj5 jj7 jj6 hm1
 obtain⟨Ak',ck',A2,c2,rfl,jj1,jj2,jj3,jj4,jj5,jj6,hm2,jj7⟩:=h2.parts
 clear jj1 jj2 jj3 jj4 jj5 jj7 jj6 hm2
 simp only[dV] at hcs ⊢
 have hcs1:=hcs w1 hx1
 clear hcs
 simp only at hw1
 go_enter Tryz.func17,Tryz.ntmps17
 go_wp2_with fail
 rw[hw1.out]
 refine hcs1.mono ?_
 rintro e w2 ⟨rfl,hx2⟩
 go_wp2_with fail
 go_ret
 exact⟨rfl,hx1.trans hx2⟩
end Dm
end Go.Proofs.YtllhhpcabncmiaaGreatDoor
