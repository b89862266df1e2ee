/- A region that draws its order: any number of operations, each of which lays new blocks alone, in any order that they allow. -/
import Derived.Test.YtmaoochjbpohdaaGreatDoorRbW
import Derived.Deep.Upon
import Derived.Deep.AppendSrc
set_option linter.unusedVariables false
set_option linter.unusedSimpArgs false
set_option maxRecDepth 100000
set_option maxHeartbeats 1000000
namespace Go.Proofs.YtmaoochjbpohdaaGreatDoor
namespace Reg
open Base
def rgn (n:Nat):Code→Option Code
 | .region m o b=>bif Nat.beq m n then some (.region m o b) else none
 | .block m c=>rgn n c
 | .seq a b=>match rgn n a with
  | some c=>some c
  | none=>rgn n b
 | .cond _ a b=>match rgn n a with
  | some c=>some c
  | none=>rgn n b
 | .loop c=>rgn n c
 | .scope c=>rgn n c
 | .rangeFunc _ _ a b=>match rgn n a with
  | some c=>some c
  | none=>rgn n b
 | _=>none
def regionOf (n:Nat) (c:Option Code):Code:=match c with
 | some c=>(rgn n c).getD .skip
 | none=>.skip
section
variable {P:Program} {ops:Array Oper} {Q:Exit→Act→World→Prop}
def frameN (a:Act):List (Nat×Nat)→(Nat→Value)→Act
 | [],f=>a
 | i::l,f=>(frameN a l f).put (some i.2) (f i.1)
def updN (f:Nat→Value) (i:Nat) (x:Value):Nat→Value:=fun j=>if j=i then x else f j
theorem put_put (a:Act) (d:Option Nat) (u v:Value):(a.put d u).put d v=a.put d v:=by
 cases d with
 | none=>rfl
 | some d=>simp[Act.put]
theorem frameN_upd_no (a:Act) (f:Nat→Value) (i:Nat) (x:Value):∀(l:List (Nat×Nat)),(∀p∈l,p.1≠i)→frameN a l (updN f i x)=frameN a l f
 | [],_=>rfl
 | j::l,h=>by
  have hj:=h j (.head _)
  rw[frameN,frameN,frameN_upd_no a f i x l (fun p hp=>h p (.tail _ hp))]
  simp[updN,hj]
theorem frameN_upd (a:Act) (f:Nat→Value) (i d:Nat) (x:Value):∀(l:List (Nat×Nat)),(i,d)∈l→(l.map (·.1)).Nodup→(∀p∈l,p.1≠i→p.2≠d)→frameN a l (updN f i x)=(frameN a l f).put (some d) x
 | [],h,_,_=>by cases h
 | j::l,h,hn,hd=>by
  rw[List.map_cons,List.nodup_cons] at hn
  rw[frameN,frameN]
  by_cases hji:j.1=i
  ·have hj:j=(i,d):=by
    rcases List.mem_cons.1 h with e|e
    ·exact e.symm
    ·exact absurd (List.mem_map.2 ⟨_,e,rfl⟩) (by rw[←hji] at *;exact hn.1)
   subst hj
   rw[frameN_upd_no a f i x l (fun p hp e=>hn.1 (List.mem_map.2 ⟨p,hp,e⟩)),put_put]
   simp[updN]
  ·have hm:(i,d)∈l:=by
    rcases List.mem_cons.1 h with e|e
    ·exact absurd (by rw[←e]) hji
    ·exact e
   rw[frameN_upd a f i d x l hm hn.2 (fun k hk=>hd k (.tail _ hk))]
   rw[put_comm _ (fun e=>hd j (.head _) hji (by injection e with e;exact e.symm))]
   simp[updN,hji]
def okN (ops:Array Oper) (done L:List Nat) (prd:Nat→List Nat):Nat→List Nat→Bool
 | 0,S=>decide (marked ops.size (S++done)=marked ops.size (L++done)) && L.all S.contains
 | n+1,S => !(Region.ready .any ops (marked ops.size (S++done))).isEmpty && (Region.ready .any ops (marked ops.size (S++done))).all fun i=>L.contains i && !S.contains i && (prd i).all S.contains && okN ops done L prd n (i::S)
def distN (ops:Array Oper) (L:List (Nat×Nat)):Bool:=decide (L.map (·.1)).Nodup && (L.all fun i=>(match ops[i.1]? with|some o=>o.guard.isNone && o.dst == some i.2|none=>false) && L.all fun j=>j.1 == i.1 || !(j.2 == i.2))
theorem layN {B:Nat} (L:List (Nat×Nat)) (prd:Nat→List Nat) {done:List Nat} {a:Act} {w:World} (hB:B≤w.heap.size) (hok:okN ops done (L.map (·.1)) prd L.length []=true) (hdist:distN ops L=true) (hn:done.length+L.length≤ops.size)
  (f0:Nat→Value) (hu:frameN a L f0=a) (F:Nat→Value→World→Prop) (stab:∀p∈L,∀v w1 w2,F p.1 v w1→Ext w1 w2→F p.1 v w2)
  (step:∀p∈L,∀oi,ops[p.1]?=some oi→∀f X,Ext w X→(∀j∈prd p.1,F j (f j) X)→∀K:Act→World→Prop,Shut (∀x X2,Ext X X2→F p.1 x X2→K ((frameN a L f).put (some p.2) x) X2)→oi.wp P (frameN a L f) X K Q)
  (h:∀f X,Ext w X→(∀p∈L,F p.1 (f p.1) X)→At P ops Q (Go.RowKit.Below B) (L.map (·.1)++done) (frameN a L f) X):At P ops Q (Go.RowKit.Below B) done a w:=by
 simp only[distN,Bool.and_eq_true,decide_eq_true_eq,List.all_eq_true,Bool.or_eq_true,beq_iff_eq,Bool.not_eq_true'] at hdist
 obtain⟨hnd,hds⟩:=hdist
 have main:∀(n:Nat) (S:List Nat) (f:Nat→Value) (X:World),n+S.length=L.length→okN ops done (L.map (·.1)) prd n S=true→Ext w X→(∀j∈S,∃p∈L,p.1=j)→(∀j∈S,F j (f j) X)→At P ops Q (Go.RowKit.Below B) (S++done) (frameN a L f) X:=by
  intro n
  induction n with
  | zero=>
   intro S f X hl ho hX hSL hF
   simp only[okN,Bool.and_eq_true,decide_eq_true_eq,List.all_eq_true] at ho
   refine At.perm ho.1 (by rw[List.length_append,List.length_append,List.length_map];omega) (h f X hX fun p hp=>hF p.1 (by simpa using ho.2 p.1 (List.mem_map.2 ⟨p,hp,rfl⟩)))
  | succ n ih=>
   intro S f X hl ho hX hSL hF
   simp only[okN,Bool.and_eq_true,List.all_eq_true] at ho
   obtain⟨hne,hall⟩:=ho
   intro hcl
   have e:ops.size-(S++done).length=(ops.size-(S++done).length-1)+1:=by rw[List.length_append];omega
   rw[e]
   refine⟨fun h0=>(by rw[h0] at hne;cases hne),fun i hi=>?_⟩
   obtain⟨⟨⟨hiL,hiS⟩,hpr⟩,hnext⟩:=hall i hi
   have hiL:i∈L.map (·.1):=by simpa using hiL
   have hiS:i∉S:=by simpa using hiS
   obtain⟨p,hpL,rfl⟩:=List.mem_map.1 hiL
   obtain⟨hg,hdd⟩:=hds p hpL
   cases hoi:ops[p.1]? with
   | none=>rw[hoi] at hg;cases hg
   | some oi=>
    rw[hoi] at hg
    simp only[Bool.and_eq_true,beq_iff_eq] at hg
    obtain⟨hg,hdst⟩:=hg
    have hgn:oi.guard=none:=by simpa using hg
    unfold wpOp
    simp only[hoi,show ∀t,Region.wanted oi t=true from fun t=>by simp[Region.wanted,hgn],if_true]
    refine .inl (step p hpL oi hoi f X hX (fun j hj=>hF j (by simpa using hpr j hj)) _ (fun x X2 hx hFx=>⟨.inl (Go.RowKit.Below.mono hx (Nat.le_trans hB hX.size)),?_⟩))
    have:=ih (p.1::S) (updN f p.1 x) X2 (by rw[List.length_cons];omega) hnext (hX.trans hx) (fun j hj=>by
     rcases List.mem_cons.1 hj with rfl|hj
     ·exact⟨p,hpL,rfl⟩
     ·exact hSL j hj) (fun j hj=>by
     rcases List.mem_cons.1 hj with rfl|hj
     ·simpa [updN] using hFx
     ·have hji:¬j=p.1:=fun e=>hiS (e ▸ hj)
      simp only[updN,hji,if_false]
      obtain⟨p',hp',rfl⟩:=hSL j hj
      exact stab p' hp' _ _ _ (hF _ hj) hx)
    rw[frameN_upd a f p.1 p.2 x L hpL hnd (fun j hj hji=>by
     rcases hdd j hj with e|e
     ·exact absurd e hji
     ·simpa using e)] at this
    have h2:=this (hcl.set hi)
    rw[show ops.size-(p.1::S++done).length=ops.size-(S++done).length-1 by rw[List.cons_append,List.length_cons];omega] at h2
    exact h2
 have:=main L.length [] f0 w (by simp) hok (Ext.refl w) (fun j hj=>by cases hj) (fun j hj=>by cases hj)
 rw[hu] at this
 exact this
end
end Reg
namespace Pr
open Go.ChangeShapes Go.WideShapes Go.ChangeAt Go.RowKit
open Base
theorem app0_run {P:Program} {t e:TypeId} {z:Value} {size bytes:Nat} (E:El P t e z size bytes) (w:World) (ty:TypeId) (base:Nat)
  (g:Nat) (hown:w.ownsRow base e size (.slice (some ⟨g,0,none⟩) 0 0) 0 [])
  (A:Option Addr) (m c:Nat) (news:List Value) (hr:Rd w A news) (hl:news.length=m*size) (hA:A=none→c=0)
  (hbytes:m*bytes≤140737488355328) (hby:0<bytes) (hbase:base≤w.heap.size) :
  ∃v' w',(Builtin.append_ #[t,t] ty #[.slice (some ⟨g,0,none⟩) 0 0,.slice A m c]).run P w=.ok v' w'∧w'.ownsRow base e size v' m news∧Ext w w':=by
 obtain⟨i,hi,hz,hs,hb⟩:=info_parts E.info
 have hpos:=E.pos
 by_cases hne:news=[]
 ·subst hne
  have hm:m=0:=by
   rcases Nat.eq_zero_or_pos m with h|h
   ·exact h
   ·have:=Nat.mul_pos h hpos;simp at hl;omega
  subst hm
  refine⟨_,w,?_,hown,Ext.refl w⟩
  cases A with
  | none=>
   rw[hA rfl]
   exact run_append_nothing (P:=P) w t t ty e i E.under hi (some ⟨g,0,none⟩) 0 0 (Nat.le_refl _) _ (Src.ofNil (P:=P) (w:=w) E.under 0)
  | some ad=>
   exact run_append_nothing (P:=P) w t t ty e i E.under hi (some ⟨g,0,none⟩) 0 0 (Nat.le_refl _) _ (Src.ofSlice (P:=P) (w:=w) E.under ad 0 c [] (by simp) (by simp) (fun u hu=>by cases hu))
 ·obtain⟨b,off,rfl,hc⟩:=hr hne
  have hm:0<m:=by
   rcases Nat.eq_zero_or_pos m with h|h
   ·subst h;rw[Nat.zero_mul] at hl;exact absurd (List.eq_nil_of_length_eq_zero hl) hne
   ·exact h
  have h63:m≤maxLen:=by
   have h:m*1≤m*bytes:=Nat.mul_le_mul_left _ hby
   unfold maxLen;omega
  have h63':((0+m:Nat):Int)≤9223372036854775807:=by unfold maxLen at h63;omega
  have hr:=run_append_grow (P:=P) w t ty e i z E.under hi hz ⟨g,0,none⟩ 0 0 [] (by simp) (by simp) ⟨b,off,none⟩ m c news (by rw[hs];exact hl) (fun j u hj=>by
   have hadd:(⟨b,off,none⟩:Addr).add j=⟨b,off+j,none⟩:=by unfold Addr.add;split<;>simp_all
   rw[hadd];exact hc j u hj) (by omega) h63' (growslice_fits (by omega) (by rw[hb,Nat.zero_add];exact hbytes))
  have hge:=grownCap_ge w (0+m) 0 e
  have hcm:grownCap w (0+m) 0 e≤maxLen:=grownCap_le_maxLen w (0+m) 0 e (by omega)
  refine⟨_,_,hr,⟨hl,.inr ⟨w.heap.size,_,_,by rw[Nat.zero_add],hbase,heap_alloc_new w.drew _,by rw[Nat.zero_add] at hge;exact hge,by rw[Nat.zero_add] at hcm;exact hcm,?_,?_⟩⟩,((Ext.refl w).drew).alloc _⟩
  ·have e1:m*size+(grownCap w (0+m) 0 e-(0+m))*size=grownCap w (0+m) 0 e*size:=by
    rw[←Nat.add_mul];congr 1;omega
   simp only[Array.size_append,List.size_toArray,size_zeroCells,E.cells,hl,List.length_nil,Nat.zero_add] at e1 ⊢
   exact e1
  ·simp only[Array.toList_append,List.append_assoc]
   rw[←hl]
   simp
theorem wp_app0 {P:Program} {t e:TypeId} {z:Value} {size bytes:Nat} (E:El P t e z size bytes) (w:World) {o:Oper} {a:Act} {K:Act→World→Prop} {Q:Exit→Act→World→Prop} (s x:Operand)
  (ho:o.op=.call { callee:=.builtin .append,args := #[s,x],argTypes := #[t,t] }) (base:Nat)
  (g:Nat) (hs:a.eval s=.slice (some ⟨g,0,none⟩) 0 0) (hown:w.ownsRow base e size (.slice (some ⟨g,0,none⟩) 0 0) 0 [])
  (A:Option Addr) (m c:Nat) (news:List Value) (hx:a.eval x=.slice A m c) (hr:Rd w A news) (hl:news.length=m*size) (hA:A=none→c=0)
  (hbytes:m*bytes≤140737488355328) (hby:0<bytes) (hbase:base≤w.heap.size)
  (h:∀v' w',w'.ownsRow base e size v' m news→Ext w w'→K (a.put o.dst v') w'):o.wp P a w K Q:=by
 obtain⟨v',w',hrun,h2,h3⟩:=app0_run E w o.type base g hown A m c news hr hl hA hbytes hby hbase
 unfold Oper.wp execOp
 simp only[ho,resolve,invoke,builtin,Sem.run_bind,Sem.run_pure,Result.andThen_ok,List.map_toArray,List.map_cons,List.map_nil,hs,hx,hrun]
 exact h v' w' h2 h3
end Pr
namespace Pr
open Go.ChangeShapes Go.WideShapes Go.ChangeAt Go.RowKit
open Base Lx Mi
structure SubO (B:Nat) (w:World) (d:Ne) (v:V3):Prop where
 syms:w.ownsRow B 9 1 v.1 d.syms.length (txs d.syms)
 items:w.ownsRow B 3 1 v.2.1 d.items.length (intsZ d.items)
 fields:w.ownsRow B 38 3 v.2.2 d.fields.length (fldsZ d.fields)
 rng : -9223372036854775808≤d.size∧d.size≤9223372036854775807
structure NeO (B:Nat) (w:World) (ns:List Ne) (vs:List V3) (vn:Value):Prop where
 len:vs.length=ns.length
 row:w.ownsRow B 36 6 vn ns.length (nesC ns vs)
 sub:∀(i:Nat) d v,ns[i]?=some d→vs[i]?=some v→SubO B w d v
theorem SubO.ext {B:Nat} {w w':World} {d:Ne} {v:V3} (h:SubO B w d v) (hx:Ext w w'):SubO B w' d v:=⟨own_ext h.syms hx,own_ext h.items hx,own_ext h.fields hx,h.rng⟩
theorem NeO.ext {B:Nat} {w w':World} {ns:List Ne} {vs:List V3} {vn:Value} (h:NeO B w ns vs vn) (hx:Ext w w'):NeO B w' ns vs vn:=⟨h.len,own_ext h.row hx,fun i d v h1 h2=>(h.sub i d v h1 h2).ext hx⟩
theorem SubO.toE {B B':Nat} {w:World} {d:Ne} {v:V3} (h:SubO B w d v) (hB:w.heap.size≤B'):SubE B' w d v:=⟨Sl.ofOwn h.syms hB,Sl.ofOwn h.items hB,Sl.ofOwn h.fields hB,h.rng⟩
theorem NeO.sch {B B':Nat} {w:World} {ns:List Ne} {vs:List V3} {vn:Value} (h:NeO B w ns vs vn) (hB:w.heap.size≤B'):Sch B' w vn ns:=
 ⟨vs,h.len,Sl.ofOwn h.row hB,fun i d v h1 h2=>(h.sub i d v h1 h2).toE hB⟩
theorem nesC_snoc:∀(ns:List Ne) (vs:List V3) (d:Ne) (v:V3),vs.length=ns.length→nesC (ns++[d]) (vs++[v])=nesC ns vs++neC d v
 | [],[],d,v,_=>by simp[nesC]
 | [],_::_,d,v,h=>by simp at h
 | _::_,[],d,v,h=>by simp at h
 | x::ns,y::vs,d,v,h=>by
  simp only[List.cons_append,nesC]
  rw[nesC_snoc ns vs d v (by simpa using h),List.append_assoc]
theorem fldsZ_one (l:List (ByteArray×Bool×Int)):∀u∈fldsZ l,u.oneCell'=true:=by
 intro u hu
 obtain⟨x,_,hx⟩:=List.mem_flatMap.1 hu
 simp only[fldZ,List.mem_cons,List.not_mem_nil,or_false] at hx
 rcases hx with rfl|rfl|rfl<;>rfl
theorem fldsZ_length (l:List (ByteArray×Bool×Int)):(fldsZ l).length=l.length*3:=by
 induction l with
 | nil=>rfl
 | cons x l ih=>rw[fldsZ,List.flatMap_cons,List.length_append];unfold fldsZ at ih;rw[ih];simp[fldZ];omega
theorem SubO.chg {S:Nat→Prop} {B:Nat} {w w':World} {d:Ne} {v:V3} (h:SubO B w d v) (hx:Chg S w w') (h1:∀k,v.1.ownBlock=some k→¬S k) (h2:∀k,v.2.1.ownBlock=some k→¬S k) (h3:∀k,v.2.2.ownBlock=some k→¬S k):SubO B w' d v:=
 ⟨own_chg h.syms hx h1,own_chg h.items hx h2,own_chg h.fields hx h3,h.rng⟩
def ApV (u v:V3):Prop:=(u.1.ownBlock=none∨u.1.ownBlock≠v.1.ownBlock)∧(u.2.1.ownBlock=none∨u.2.1.ownBlock≠v.2.1.ownBlock)∧(u.2.2.ownBlock=none∨u.2.2.ownBlock≠v.2.2.ownBlock)
def Dis (vs:List V3):Prop:=∀(i j:Nat) (u v:V3),i<j→vs[i]?=some u→vs[j]?=some v→ApV u v
theorem own_apart {b1 b2 q s1 s2 n1 n2:Nat} {e1 e2:TypeId} {u v:Value} {x1 x2:List Value} {w w':World} (h:w.ownsRow b1 e1 s1 u n1 x1) (hs:w.heap.size≤q) (k:w'.ownsRow b2 e2 s2 v n2 x2) (hk:q≤b2):u.ownBlock=none∨u.ownBlock≠v.ownBlock:=by
 cases hu:u.ownBlock with
 | none=>exact .inl rfl
 | some m=>
  refine .inr fun e=>?_
  have h1:=(h.lt m hu).2
  have h2:=(k.lt m e.symm).1
  omega
theorem Dis.snoc {vs:List V3} {v:V3} (h:Dis vs) (hv:∀(i:Nat) (u:V3),vs[i]?=some u→ApV u v):Dis (vs++[v]):=by
 intro i j u v' hij hi hj
 have hjl:=(List.getElem?_eq_some_iff.1 hj).1
 rw[List.length_append,List.length_singleton] at hjl
 rw[List.getElem?_append_left (by omega)] at hi
 rcases Nat.lt_or_ge j vs.length with hl|hl
 ·rw[List.getElem?_append_left hl] at hj
  exact h i j u v' hij hi hj
 ·rw[List.getElem?_append_right hl,show j-vs.length=0 by omega] at hj
  injection hj with hj
  subst hj
  exact hv i u hi
def Len6 (d:Ne):Prop:=d.syms.length≤1000000∧d.items.length≤1000000∧d.fields.length≤1000000
abbrev ownA (q b1 o1 n c i q5:Nat) (x:Ne) (As1 Ai1 Af1:Option Addr) (cs1 ci1 cf1:Nat) (u:Nat→Value) (v19 v20 v21 v22 v23 v24 v25 v26 v27 v28 v29 v30 v31 v32 v33:Value):Act:=⟨#[.agg #[.slice (some ⟨b1,o1,none⟩) n c],.pointer (some ⟨q,0,none⟩),.pointer (some ⟨q+1,0,none⟩),.pointer (some ⟨q+1+1,0,none⟩),.int .i64 i,.pointer (some ⟨q5,0,none⟩),.agg #[.slice none 0 0],.int .i64 i,.pointer (some ⟨q,0,none⟩),.slice (some ⟨b1,o1,none⟩) n c,.int .i64 n,.bool true,u 12,u 13,.pointer (some ⟨q,0,none⟩),.slice (some ⟨b1,o1,none⟩) n c,.int .i64 i,.pointer (some ⟨b1,o1+i*6,none⟩),.agg #[.int .i64 x.k,.string x.name,.int .i64 x.size,.slice As1 x.syms.length cs1,.slice Ai1 x.items.length ci1,.slice Af1 x.fields.length cf1],v19,v20,v21,v22,v23,v24,v25,v26,v27,v28,v29,v30,v31,v32,v33,u 34,u 35,u 36,u 37,u 38,u 39,undef],[]⟩
set_option maxHeartbeats 400000 in
theorem own_lists {q b1 o1 n c i q5 B0:Nat} {x:Ne} {As1 Ai1 Af1:Option Addr} {cs1 ci1 cf1:Nat} {u:Nat→Value} {wr w0:World} {Q:Exit→Act→World→Prop} (hw0:Ext wr w0) (hq5:wr.heap.size=q5)
  (hb50:Blk w0 q5 #[.int .i64 x.k,.string x.name,.int .i64 x.size,.slice As1 x.syms.length cs1,.slice Ai1 x.items.length ci1,.slice Af1 x.fields.length cf1] 36) (hs0:w0.heap.size=q5+1) (hsz:q+3≤q5)
  (r3:∀X,Ext w0 X→Rd X As1 (txs x.syms)) (r4:∀X,Ext w0 X→Rd X Ai1 (intsZ x.items)) (r5:∀X,Ext w0 X→Rd X Af1 (fldsZ x.fields))
  (z3:Hid (As1=none→cs1=0)) (z4:Hid (Ai1=none→ci1=0)) (z5:Hid (Af1=none→cf1=0)) (hl1:x.syms.length≤1000000) (hl2:x.items.length≤1000000) (hl3:x.fields.length≤1000000)
  (hP:∀c (a a2:Act) w,Q (.panic c) a w→∀(hd:a2.defers=a.defers:=by rfl),Q (.panic c) a2 w)
  (hQ:∀v19 v20 v21 v22 v23 v24 v25 v26 v27 v28 v29 v30 v31 v32 v33 A3 c3 A7 c7 A11 c11 X,Ext w0 X→X.ownsRow q5 9 1 (.slice A3 x.syms.length c3) x.syms.length (txs x.syms)→X.ownsRow q5 3 1 (.slice A7 x.items.length c7) x.items.length (intsZ x.items)→X.ownsRow q5 38 3 (.slice A11 x.fields.length c11) x.fields.length (fldsZ x.fields)→
   Q .normal (ownA q b1 o1 n c i q5 x As1 Ai1 Af1 cs1 ci1 cf1 u v19 v20 v21 v22 v23 v24 v25 v26 v27 v28 v29 v30 v31 v32 v33) (((X.setCell ⟨q5,3,none⟩ (.slice A3 x.syms.length c3)).setCell ⟨q5,4,none⟩ (.slice A7 x.items.length c7)).setCell ⟨q5,5,none⟩ (.slice A11 x.fields.length c11))) :
  (Reg.regionOf 6 Tryz.f19.body).wp Tryz.prog Q (ownA q b1 o1 n c i q5 x As1 Ai1 Af1 cs1 ci1 cf1 u (u 19) (u 20) (u 21) (u 22) (u 23) (u 24) (u 25) (u 26) (u 27) (u 28) (u 29) (u 30) (u 31) (u 32) (u 33)) w0:=by
 refine Reg.startX (R:=Go.RowKit.Below (q5+1)) (by kernel_rfl) ?_
 generalize hwd:World.drew _=wd
 have hxd:Ext w0 wd:=by rw[←hwd];exact (Ext.refl w0).drew
 have hb5:Blk wd q5 #[.int .i64 x.k,.string x.name,.int .i64 x.size,.slice As1 x.syms.length cs1,.slice Ai1 x.items.length ci1,.slice Af1 x.fields.length cf1] 36:=hb50.ext hxd
 have hsd:wd.heap.size=q5+1:=by rw[←hwd];exact hs0
 clear hwd
 have hlow:∀ {W},Go.RowKit.Below (q5+1) wd W→Ext wd W:=fun hW=>below_ext hW (by omega)
 have k3:∀W,Go.RowKit.Below (q5+1) wd W→W.cell? ⟨q5,3,none⟩=some (.slice As1 x.syms.length cs1):=fun W hW=>(hb5.ext (hlow hW)).cell 3
 have k4:∀W,Go.RowKit.Below (q5+1) wd W→W.cell? ⟨q5,4,none⟩=some (.slice Ai1 x.items.length ci1):=fun W hW=>(hb5.ext (hlow hW)).cell 4
 have k5:∀W,Go.RowKit.Below (q5+1) wd W→W.cell? ⟨q5,5,none⟩=some (.slice Af1 x.fields.length cf1):=fun W hW=>(hb5.ext (hlow hW)).cell 5
 have r3X:∀X,Ext wd X→Rd X As1 (txs x.syms):=fun X hX=>r3 X (hxd.trans hX)
 have r4X:∀X,Ext wd X→Rd X Ai1 (intsZ x.items):=fun X hX=>r4 X (hxd.trans hX)
 have r5X:∀X,Ext wd X→Rd X Af1 (fldsZ x.fields):=fun X hX=>r5 X (hxd.trans hX)
 replace r3X:=Lib.hid r3X
 replace r4X:=Lib.hid r4X
 replace r5X:=Lib.hid r5X
 clear r3 r4 r5
 refine Reg.tx (Reg.rl_below _) 1 ?_;(try simp only[Reg.nn])
 refine Reg.tx (Reg.rl_below _) 2 ?_;(try simp only[Reg.nn])
 refine Reg.tx (Reg.rl_below _) 5 ?_;(try simp only[Reg.nn])
 refine Reg.tx (Reg.rl_below _) 6 ?_;(try simp only[Reg.nn])
 refine Reg.tx (Reg.rl_below _) 9 ?_;(try simp only[Reg.nn])
 refine Reg.tx (Reg.rl_below _) 10 ?_;(try simp only[Reg.nn])
 refine Reg.layN [(0,19),(3,22),(4,23),(7,26),(8,27),(11,30),(12,31)] (fun i=>if i=3 then [0] else if i=7 then [3,4] else if i=11 then [7,8] else []) (by omega) (by kernel_rfl) (by kernel_rfl) (by decide)
  (fun i=>if i=0 then u 19 else if i=3 then u 22 else if i=4 then u 23 else if i=7 then u 26 else if i=8 then u 27 else if i=11 then u 30 else u 31) (by rfl)
  (fun i v X=>if i=0 then ∃g,v=.slice (some ⟨g,0,none⟩) 0 0∧X.ownsRow q5 9 1 (.slice (some ⟨g,0,none⟩) 0 0) 0 [] else if i=3 then X.ownsRow q5 9 1 v x.syms.length (txs x.syms)
   else if i=4 then ∃g,v=.slice (some ⟨g,0,none⟩) 0 0∧X.ownsRow q5 3 1 (.slice (some ⟨g,0,none⟩) 0 0) 0 [] else if i=7 then X.ownsRow q5 3 1 v x.items.length (intsZ x.items)
   else if i=8 then ∃g,v=.slice (some ⟨g,0,none⟩) 0 0∧X.ownsRow q5 38 3 (.slice (some ⟨g,0,none⟩) 0 0) 0 [] else if i=11 then X.ownsRow q5 38 3 v x.fields.length (fldsZ x.fields)
   else v=.pointer (some ⟨q5,3,none⟩)) ?_ ?_ ?_
 ·intro p hp v w1 w2 h0 hx0
  simp only[List.mem_cons,List.not_mem_nil,or_false] at hp
  rcases hp with rfl|rfl|rfl|rfl|rfl|rfl|rfl
  all_goals first|exact own_ext h0 hx0|exact Exists.imp (fun g h=>⟨h.1,own_ext h.2 hx0⟩) h0|exact h0
 ·intro p hp
  simp only[List.mem_cons,List.not_mem_nil,or_false] at hp
  rcases hp with rfl|rfl|rfl|rfl|rfl|rfl|rfl
  ·rintro oi hoi f X hX-K hK
   obtain rfl:=Option.some.inj hoi
   simp only[Reg.frameN]
   (try simp only[Reg.nn])
   go_simp
   replace hK:=hK.out
   simp only[Reg.frameN,Act.put,List.setIfInBounds_toArray,List.set_cons_zero,List.set_cons_succ] at hK
   exact hK _ _ ((Ext.refl X).alloc _) ⟨X.heap.size,rfl,World.ownsRow_lit X #[] 0 (by have:=hX.size;omega) (Nat.zero_le _) rfl⟩
  ·rintro oi hoi f X hX hp K hK
   obtain rfl:=Option.some.inj hoi
   obtain⟨g,e0,h0⟩:=hp 0 (by decide)
   replace e0:=Lib.hid e0
   have hsX:=hX.size
   simp only[Reg.frameN]
   (try simp only[Reg.nn])
   refine wp_app0 el_str X (.tmp 19) (.tmp 21) rfl q5 g e0.out h0 As1 _ _ _ rfl (r3X.out X hX) (by simp[txs]) z3.out (by omega) (by omega) (by omega) (fun v' w' ho hg=>?_)
   replace hK:=hK.out
   simp only[Reg.frameN,Act.put,List.setIfInBounds_toArray,List.set_cons_zero,List.set_cons_succ] at hK
   simp only[Act.put,List.setIfInBounds_toArray,List.set_cons_zero,List.set_cons_succ]
   exact hK _ _ hg ho
  ·rintro oi hoi f X hX-K hK
   obtain rfl:=Option.some.inj hoi
   simp only[Reg.frameN]
   (try simp only[Reg.nn])
   go_simp
   replace hK:=hK.out
   simp only[Reg.frameN,Act.put,List.setIfInBounds_toArray,List.set_cons_zero,List.set_cons_succ] at hK
   exact hK _ _ ((Ext.refl X).alloc _) ⟨X.heap.size,rfl,World.ownsRow_lit X #[] 0 (by have:=hX.size;omega) (Nat.zero_le _) rfl⟩
  ·rintro oi hoi f X hX hp K hK
   obtain rfl:=Option.some.inj hoi
   obtain⟨g,e0,h0⟩:=hp 4 (by decide)
   replace e0:=Lib.hid e0
   have hsX:=hX.size
   simp only[Reg.frameN]
   (try simp only[Reg.nn])
   refine wp_app0 el_int X (.tmp 23) (.tmp 25) rfl q5 g e0.out h0 Ai1 _ _ _ rfl (r4X.out X hX) (by simp[intsZ]) z4.out (by omega) (by omega) (by omega) (fun v' w' ho hg=>?_)
   replace hK:=hK.out
   simp only[Reg.frameN,Act.put,List.setIfInBounds_toArray,List.set_cons_zero,List.set_cons_succ] at hK
   simp only[Act.put,List.setIfInBounds_toArray,List.set_cons_zero,List.set_cons_succ]
   exact hK _ _ hg ho
  ·rintro oi hoi f X hX-K hK
   obtain rfl:=Option.some.inj hoi
   simp only[Reg.frameN]
   (try simp only[Reg.nn])
   go_simp
   replace hK:=hK.out
   simp only[Reg.frameN,Act.put,List.setIfInBounds_toArray,List.set_cons_zero,List.set_cons_succ] at hK
   exact hK _ _ ((Ext.refl X).alloc _) ⟨X.heap.size,rfl,World.ownsRow_lit X #[] 0 (by have:=hX.size;omega) (Nat.zero_le _) rfl⟩
  ·rintro oi hoi f X hX hp K hK
   obtain rfl:=Option.some.inj hoi
   obtain⟨g,e0,h0⟩:=hp 8 (by decide)
   replace e0:=Lib.hid e0
   have hsX:=hX.size
   simp only[Reg.frameN]
   (try simp only[Reg.nn])
   refine wp_app0 el_fld X (.tmp 27) (.tmp 29) rfl q5 g e0.out h0 Af1 _ _ _ rfl (r5X.out X hX) (by rw[fldsZ_length]) z5.out (by omega) (by omega) (by omega) (fun v' w' ho hg=>?_)
   replace hK:=hK.out
   simp only[Reg.frameN,Act.put,List.setIfInBounds_toArray,List.set_cons_zero,List.set_cons_succ] at hK
   simp only[Act.put,List.setIfInBounds_toArray,List.set_cons_zero,List.set_cons_succ]
   exact hK _ _ hg ho
  ·rintro oi hoi f X hX-K hK
   obtain rfl:=Option.some.inj hoi
   simp only[Reg.frameN]
   (try simp only[Reg.nn])
   go_simp
   replace hK:=hK.out
   simp only[Reg.frameN,Act.put,List.setIfInBounds_toArray,List.set_cons_zero,List.set_cons_succ] at hK
   exact hK _ _ (Ext.refl X) rfl
 ·intro f X hX hF
  have ho3:X.ownsRow q5 9 1 (f 3) x.syms.length (txs x.syms):=hF (3,22) (by decide)
  have ho7:X.ownsRow q5 3 1 (f 7) x.items.length (intsZ x.items):=hF (7,26) (by decide)
  have ho11:X.ownsRow q5 38 3 (f 11) x.fields.length (fldsZ x.fields):=hF (11,30) (by decide)
  have hp12:f 12=.pointer (some ⟨q5,3,none⟩):=hF (12,31) (by decide)
  clear hF
  simp only[Reg.frameN]
  rw[hp12]
  generalize f 3=v3 at ho3 ⊢
  generalize f 7=v7 at ho7 ⊢
  generalize f 11=v11 at ho11 ⊢
  generalize f 0=v0
  generalize f 4=v4
  generalize f 8=v8
  clear hp12 f
  obtain⟨A3',c3',rfl,jj1,jj2,jj3,jj4⟩:=Rd.of_own ho3
  clear jj1 jj2 jj3 jj4
  obtain⟨A7',c7',rfl,jj1,jj2,jj3,jj4⟩:=Rd.of_own ho7
  clear jj1 jj2 jj3 jj4
  obtain⟨A11',c11',rfl,jj1,jj2,jj3,jj4⟩:=Rd.of_own ho11
  clear jj1 jj2 jj3 jj4
  (try simp only[Reg.nn])
  have hb5X:=hb5.ext hX
  have g3:X.cell? ⟨q5,3,none⟩=some (.slice As1 x.syms.length cs1):=hb5X.cell 3
  have fr3:=hb5X.frozen 3
  refine Reg.onlyXS 13 _ rfl (by kernel_rfl) (by kernel_rfl) (by decide) (by rfl) (fun K hK=>?_)
  go_simp
  refine hK.out _ _ ?_;clear hK K;(try simp only[Reg.nn])
  clear g3 fr3
  obtain⟨Y1,hY1⟩:∃z,Hid (X.setCell ⟨q5,3,none⟩ (.slice A3' x.syms.length c3')=z):=⟨_,rfl⟩
  have hb1Y:Blk Y1 q5 #[.int .i64 x.k,.string x.name,.int .i64 x.size,.slice A3' x.syms.length c3',.slice Ai1 x.items.length ci1,.slice Af1 x.fields.length cf1] 36:=by rw[←hY1.out];exact hb5X.set 3 _
  rw[hY1.out]
  have g4:Y1.cell? ⟨q5,4,none⟩=some (.slice Ai1 x.items.length ci1):=hb1Y.cell 4
  have fr4:=hb1Y.frozen 4
  clear k3 k4 k5
  refine Reg.tx (Reg.rl_below _) 14 ?_;(try simp only[Reg.nn])
  refine Reg.onlyXS 15 _ rfl (by kernel_rfl) (by kernel_rfl) (by decide) (by rfl) (fun K hK=>?_)
  go_simp
  refine hK.out _ _ ?_;clear hK K;(try simp only[Reg.nn])
  clear g4 fr4
  obtain⟨Y2,hY2⟩:∃z,Hid (Y1.setCell ⟨q5,4,none⟩ (.slice A7' x.items.length c7')=z):=⟨_,rfl⟩
  have hb2Y:Blk Y2 q5 #[.int .i64 x.k,.string x.name,.int .i64 x.size,.slice A3' x.syms.length c3',.slice A7' x.items.length c7',.slice Af1 x.fields.length cf1] 36:=by rw[←hY2.out];exact hb1Y.set 4 _
  rw[hY2.out]
  have g5:Y2.cell? ⟨q5,5,none⟩=some (.slice Af1 x.fields.length cf1):=hb2Y.cell 5
  have fr5:=hb2Y.frozen 5
  refine Reg.tx (Reg.rl_below _) 16 ?_;(try simp only[Reg.nn])
  refine Reg.lastXD 17 _ rfl (by kernel_rfl) (by kernel_rfl) (by kernel_rfl) (by decide) (by rfl) (fun K hK=>?_)
  go_simp
  refine hK.out _ _ ?_;clear hK K;(try simp only[Reg.nn])
  rw[←hY2.out,←hY1.out]
  exact hQ _ _ _ _ _ _ _ _ _ _ _ _ _ _ _ _ _ _ _ _ _ X (hxd.trans hX) ho3 ho7 ho11
theorem resOwn {w:World} {tmps:Array Value} {a:Nat} {u:Value} (ha:tmps[2]?.getD undef=.pointer (some ⟨a,0,none⟩)) (h1:w.cell? ⟨a,0,none⟩=some u):(results Tryz.f19 tmps).run Tryz.prog w=.ok (.agg #[u]) w:=by
 simp[results,Tryz.f19,go_sem,ha,h1]
theorem own_any2 {B:Nat} {w:World} {v:Value} {ns:List Ne} (h:Sch B w v ns) (hB:B≤w.heap.size) (hl:ns.length≤1000000) (hd:∀d∈ns,Len6 d) :
  Calls Tryz.prog 19 #[.agg #[v]] w fun e w'=>∃v' vs,e=.returned (.agg #[v'])∧NeO w.heap.size w' ns vs v'∧Dis vs∧Ext w w':=by
 obtain⟨A,c,rfl⟩:=h.slice
 obtain⟨n,hn⟩:∃z,Hid (ns.length=z):=⟨_,Lib.hid rfl⟩
 rw[hn.out] at hl ⊢
 obtain⟨w1,hw1⟩:∃z,Hid (((w.alloc (.cells #[.slice A n c] 24)).alloc (.cells #[.slice none 0 0] 24)).alloc (.cells #[.slice none 0 0] 24)=z):=⟨_,rfl⟩
 have hx1:Ext w w1:=by rw[←hw1.out];exact (((Ext.refl w).alloc _).alloc _).alloc _
 obtain⟨q,hq⟩:∃z,Hid (w.heap.size=z):=⟨_,rfl⟩
 have hbA:Blk w1 q #[.slice A n c] 24:=by rw[←hw1.out,←hq.out];exact ((Blk.new w _ _).alloc _).alloc _
 go_enter Tryz.func19,Tryz.ntmps19
 go_wp2_with fail
 rw[hw1.out,hq.out]
 have hbC:Blk w1 (q+1+1) #[.slice none 0 0] 24:=by
  rw[←hw1.out,←hq.out]
  have:=Blk.new ((w.alloc (.cells #[.slice A n c] 24)).alloc (.cells #[.slice none 0 0] 24)) #[.slice none 0 0] 24
  simpa using this
 have hbB:Blk w1 (q+1) #[.slice none 0 0] 24:=by
  rw[←hw1.out,←hq.out]
  have:=(Blk.new (w.alloc (.cells #[.slice A n c] 24)) #[.slice none 0 0] 24).alloc (.cells #[.slice none 0 0] 24)
  simpa using this
 have hs1:w1.heap.size=q+3:=by rw[←hw1.out,←hq.out];simp
 go_loopw [4,5,7,8,9,10,11,12,13,14,15,16,17,18,19,20,21,22,23,24,25,26,27,28,29,30,31,32,33,34,35,36,37,38,39] (fun v4 v5 v7 v8 v9 v10 v11 v12 v13 v14 v15 v16 v17 v18 v19 v20 v21 v22 v23 v24 v25 v26 v27 v28 v29 v30 v31 v32 v33 v34 v35 v36 v37 v38 v39 wr=>∃(i:Nat) (vn:Value) (vs:List V3),i≤n∧v4=.int .i64 i∧Blk wr (q+1+1) #[vn] 24∧NeO (q+3) wr (ns.take i) vs vn∧Dis vs∧Blk wr q #[.slice A n c] 24∧Blk wr (q+1) #[.slice none 0 0] 24∧Ext w wr∧q+3≤wr.heap.size) (fun v4 _ _ _ _ _ _ _ _ _ _ _ _ _ _ _ _ _ _ _ _ _ _ _ _ _ _ _ _ _ _ _ _ _ _ _=>n-(intOf v4).toNat)
 case atStart=>exact⟨0,_,[],by omega,rfl,hbC,⟨rfl,World.ownsRow_nil _ _ _ _,fun i d v h1 _=>by simp at h1⟩,fun i j u v _ h _=>(by simp at h),hbA,hbB,hx1,by omega⟩
 case round=>
  obtain⟨i,vn,vs,hi,rfl,hbo,hO,hDs,hbA,hbB,hx,hsz⟩:=hrel
  have pA:=hbA.cell 0
  by_cases hin:i<n
  ·have hin':(i:Int)<(n:Int):=by omega
   obtain⟨x,hx1'⟩:∃x,ns[i]?=some x:=⟨_,List.getElem?_eq_getElem (by have:=hn.out;omega)⟩
   obtain⟨b1,o1,d1,As1,cs1,Ai1,ci1,Af1,cf1,e1,hb1,hs1',hc1⟩:=h.node2 i x hx1'
   injection e1 with e1 _ e1'
   subst e1;subst e1'
   obtain⟨p0,p1,p2,p3,p4,p5⟩:=hc1 wr (Below.mono hx hB)
   have hmem:x∈ns:=List.mem_of_getElem? hx1'
   obtain⟨hl1,hl2,hl3⟩:=hd x hmem
   obtain⟨A3,c3,e3,r3,lt3,n3,m3,z3⟩:=hs1'.syms
   injection e3 with e3 _ e3'
   subst e3;subst e3'
   obtain⟨A4,c4,e4,r4,lt4,n4,m4,z4⟩:=hs1'.items
   injection e4 with e4 _ e4'
   subst e4;subst e4'
   obtain⟨A5,c5,e5,r5,lt5,n5,m5,z5⟩:=hs1'.fields
   injection e5 with e5 _ e5'
   subst e5;subst e5'
   have hrng:=hs1'.rng
   go_wp2_with fail
   obtain⟨q5,hq5⟩:∃z,Hid (wr.heap.size=z):=⟨_,rfl⟩
   rw[hq5.out]
   have hb50:Blk (wr.alloc (.cells #[.int .i64 x.k,.string x.name,.int .i64 x.size,.slice As1 x.syms.length cs1,.slice Ai1 x.items.length ci1,.slice Af1 x.fields.length cf1] 36)) q5 #[.int .i64 x.k,.string x.name,.int .i64 x.size,.slice As1 x.syms.length cs1,.slice Ai1 x.items.length ci1,.slice Af1 x.fields.length cf1] 36:=by rw[←hq5.out];exact Blk.new wr _ _
   have hx0:Ext wr (wr.alloc (.cells #[.int .i64 x.k,.string x.name,.int .i64 x.size,.slice As1 x.syms.length cs1,.slice Ai1 x.items.length ci1,.slice Af1 x.fields.length cf1] 36)):=(Ext.refl wr).alloc _
   have hs0:(wr.alloc (.cells #[.int .i64 x.k,.string x.name,.int .i64 x.size,.slice As1 x.syms.length cs1,.slice Ai1 x.items.length ci1,.slice Af1 x.fields.length cf1] 36)).heap.size=q5+1:=by rw[←hq5.out];simp
   refine own_lists (B0:=0) (wr:=wr) (u:=fun k=>match k with|12=>u12|13=>u13|19=>u19|20=>u20|21=>u21|22=>u22|23=>u23|24=>u24|25=>u25|26=>u26|27=>u27|28=>u28|29=>u29|30=>u30|31=>u31|32=>u32|33=>u33|34=>u34|35=>u35|36=>u36|37=>u37|38=>u38|39=>u39|_=>undef) hx0 hq5.out hb50 hs0 (by have:=hq5.out;omega)
    (fun X hX=>Rd.below r3 lt3 (Below.mono (hx.trans (hx0.trans hX)) hB)) (fun X hX=>Rd.below r4 lt4 (Below.mono (hx.trans (hx0.trans hX)) hB)) (fun X hX=>Rd.below r5 lt5 (Below.mono (hx.trans (hx0.trans hX)) hB))
    z3 z4 z5 hl1 hl2 hl3 (fun c a a2 w h hd=>⟨hd.trans h.1,h.2⟩) ?_
   intro v19 v20 v21 v22 v23 v24 v25 v26 v27 v28 v29 v30 v31 v32 v33 A3 c3 A7 c7 A11 c11 X hX ho3 ho7 ho11
   have hDn:∀j u,vs[j]?=some u→ApV u (.slice A3 x.syms.length c3,.slice A7 x.items.length c7,.slice A11 x.fields.length c11):=fun j u hu=>by
    obtain⟨d,hdj⟩:∃d,(ns.take i)[j]?=some d:=⟨_,List.getElem?_eq_getElem (by rw[←hO.len];exact (List.getElem?_eq_some_iff.1 hu).1)⟩
    have hs:=hO.sub j d u hdj hu
    have hqq:=hq5.out
    exact⟨own_apart hs.syms (Nat.le_refl _) ho3 (by omega),own_apart hs.items (Nat.le_refl _) ho7 (by omega),own_apart hs.fields (Nat.le_refl _) ho11 (by omega)⟩
   have hDs2:=hDs.snoc hDn
   clear hDn
   replace hDs2:=Lib.hid hDs2
   replace ho3:=own_mono ho3 (show q+3≤q5 by have:=hq5.out;omega)
   replace ho7:=own_mono ho7 (show q+3≤q5 by have:=hq5.out;omega)
   replace ho11:=own_mono ho11 (show q+3≤q5 by have:=hq5.out;omega)
   obtain⟨Y,hY⟩:∃z,Hid ((((X.setCell ⟨q5,3,none⟩ (.slice A3 x.syms.length c3)).setCell ⟨q5,4,none⟩ (.slice A7 x.items.length c7)).setCell ⟨q5,5,none⟩ (.slice A11 x.fields.length c11))=z):=⟨_,rfl⟩
   have hq5':=hq5.out
   have hb5X:=hb50.ext hX
   have hb5Y:Blk Y q5 #[.int .i64 x.k,.string x.name,.int .i64 x.size,.slice A3 x.syms.length c3,.slice A7 x.items.length c7,.slice A11 x.fields.length c11] 36:=by rw[←hY.out];exact ((hb5X.set 3 _).set 4 _).set 5 _
   have hxY:Ext wr Y:=by rw[←hY.out];exact (((hx0.trans hX).setCell (by show wr.heap.size≤q5;omega) _).setCell (by show wr.heap.size≤q5;omega) _).setCell (by show wr.heap.size≤q5;omega) _
   have hcXY:Chg (fun k=>k=q5) X Y:=by rw[←hY.out];exact ((Chg.one X q5 3 _).set (p:=⟨q5,4,none⟩) (.inl rfl) _).set (p:=⟨q5,5,none⟩) (.inl rfl) _
   have hsY:SubO (q+3) Y x (.slice A3 x.syms.length c3,.slice A7 x.items.length c7,.slice A11 x.fields.length c11):=
    SubO.chg (S:=fun k=>k=q5) (w:=X) ⟨ho3,ho7,ho11,hrng⟩ hcXY (fun k hk e=>own_ne_blk ho3 hb5X (by decide) (by rw[←e];exact hk.symm)) (fun k hk e=>own_ne_blk ho7 hb5X (by decide) (by rw[←e];exact hk.symm)) (fun k hk e=>own_ne_blk ho11 hb5X (by decide) (by rw[←e];exact hk.symm))
   have hti:(ns.take i).length=i:=by rw[List.length_take];have:=hn.out;omega
   have hOr:=hO.row
   rw[hti] at hOr
   obtain⟨An,cn,rfl,jj1,jj2,jj3,jj4⟩:=Rd.of_own hOr
   clear jj1 jj2 jj3 jj4
   have hOrY:=own_ext hOr hxY
   have hboY:=hbo.ext hxY
   have d0:Y.cell? ⟨q5,0,none⟩=some (.int .i64 x.k):=hb5Y.cell 0
   have d1:Y.cell? ⟨q5,1,none⟩=some (.string x.name):=hb5Y.cell 1
   have d2:Y.cell? ⟨q5,2,none⟩=some (.int .i64 x.size):=hb5Y.cell 2
   have d3:Y.cell? ⟨q5,3,none⟩=some (.slice A3 x.syms.length c3):=hb5Y.cell 3
   have d4:Y.cell? ⟨q5,4,none⟩=some (.slice A7 x.items.length c7):=hb5Y.cell 4
   have d5:Y.cell? ⟨q5,5,none⟩=some (.slice A11 x.fields.length c11):=hb5Y.cell 5
   have do_:Y.cell? ⟨q+1+1,0,none⟩=some (.slice An i cn):=hboY.cell 0
   have hone:∀u∈([.int .i64 x.k,.string x.name,.int .i64 x.size,.slice A3 x.syms.length c3,.slice A7 x.items.length c7,.slice A11 x.fields.length c11]:List Value),u.oneCell'=true:=by
    intro u hu
    simp only[List.mem_cons,List.not_mem_nil,or_false] at hu
    rcases hu with rfl|rfl|rfl|rfl|rfl|rfl<;>rfl
   have hsY':=hxY.size
   have haY:Ext Y (Y.alloc (.cells #[.int .i64 x.k,.string x.name,.int .i64 x.size,.slice A3 x.syms.length c3,.slice A7 x.items.length c7,.slice A11 x.fields.length c11] 36)):=(Ext.refl Y).alloc _
   rw[hY.out]
   dsimp only [ownA]
   clear hX ho3 ho7 ho11 hb5X hcXY hY p0 p1 p2 p3 p4 p5 pA r3 r4 r5 m3 m4 m5
   go_wp2_with (
    refine wpList_app el_nd _ rfl (.tmp 35) (.tmp 37) rfl (q+3) (.slice An i cn) i (nesC (ns.take i) vs) rfl (own_ext hOrY haY) (some ⟨Y.heap.size,0,none⟩) 1 1 [.int .i64 x.k,.string x.name,.int .i64 x.size,.slice A3 x.syms.length c3,.slice A7 x.items.length c7,.slice A11 x.fields.length c11] rfl (Rd.of_block Y 36 (0,0) rfl) rfl (fun h=>by cases h) hone (by omega) (by omega) (by simp;omega) (fun V1 w6 ho6 hg6 hv6=>?_)
    obtain⟨A6,c6,rfl,jj1,jj2,jj3,jj4⟩:=Rd.of_own ho6
    clear jj1 jj2 jj3 jj4
    have hch6:Chg (fun k=>(Value.slice An i cn).ownBlock=some k) Y w6:=(Chg.ofExt haY).trans (Chg.ofGrown hg6) (fun _ _ e=>e)
    have hbo6:=hch6.blk hboY (fun e=>own_ne_blk hOrY hboY (by decide) e.symm)
    have fr6:=hbo6.frozen 0
    have cl6:w6.cell? ⟨q+1+1,0,none⟩=some (.slice An i cn):=hbo6.cell 0)
   go_roundw
   case rel=>
    have hx6:Ext w w6:=(hx.trans hxY).chg hch6 (fun k hk e=>by have:=(hOrY.lt k e).1;have:=hq.out;omega)
    have hA6:=hch6.blk (hbA.ext hxY) (fun e=>own_ne_blk hOrY (hbA.ext hxY) (by decide) e.symm)
    have hB6:=hch6.blk (hbB.ext hxY) (fun e=>own_ne_blk hOrY (hbB.ext hxY) (by decide) e.symm)
    have hcW:=Chg.one w6 (q+1+1) 0 (.slice A6 (i+1) c6)
    have hqo:=hq.out
    have hstep:∀d v,SubO (q+3) Y d v→SubO (q+3) (w6.setCell ⟨q+1+1,0,none⟩ (.slice A6 (i+1) c6)) d v:=fun d v hs=>by
     have h6:SubO (q+3) w6 d v:=SubO.chg hs hch6 (fun k hk=>own_not hOrY hs.syms (by decide) k hk) (fun k hk=>own_not hOrY hs.items (by decide) k hk) (fun k hk=>own_not hOrY hs.fields (by decide) k hk)
     exact SubO.chg h6 hcW (fun k hk e=>own_ne_blk h6.syms hbo6 (by decide) (by rw[←e];exact hk.symm)) (fun k hk e=>own_ne_blk h6.items hbo6 (by decide) (by rw[←e];exact hk.symm)) (fun k hk e=>own_ne_blk h6.fields hbo6 (by decide) (by rw[←e];exact hk.symm))
    have htk:ns.take (i+1)=ns.take i++[x]:=by rw[List.take_add_one,hx1'];rfl
    have hvl:vs.length=i:=hO.len.trans hti
    refine⟨i+1,.slice A6 (i+1) c6,vs++[(.slice A3 x.syms.length c3,.slice A7 x.items.length c7,.slice A11 x.fields.length c11)],by omega,by go_num,hbo6.set 0 _,?_,hDs2.out,hcW.blk hA6 (by omega),hcW.blk hB6 (by omega),hx6.setCell (by show w.heap.size≤q+1+1;omega) _,?_⟩
    ·rw[htk]
     refine⟨by rw[List.length_append,List.length_append,hO.len];rfl,?_,fun j d v e1 e2=>?_⟩
     ·rw[nesC_snoc _ _ _ _ hO.len,List.length_append,hti]
      exact own_setCell (i:=0) ho6 hbo6 (by decide) _
     ·rcases Nat.lt_or_ge j i with hj|hj
      ·rw[List.getElem?_append_left (by rw[hti];exact hj)] at e1
       rw[List.getElem?_append_left (by rw[hvl];exact hj)] at e2
       exact hstep d v ((hO.sub j d v e1 e2).ext hxY)
      ·rw[List.getElem?_append_right (by rw[hti];exact hj),hti] at e1
       rw[List.getElem?_append_right (by rw[hvl];exact hj),hvl] at e2
       have hj0:j-i=0:=by
        rcases Nat.eq_zero_or_pos (j-i) with h0|h0
        ·exact h0
        ·rw[List.getElem?_eq_none (by simp;omega)] at e1;cases e1
       rw[hj0] at e1 e2
       injection e1 with e1;injection e2 with e2
       subst e1;subst e2
       exact hstep _ _ hsY
    ·have:=hch6.size;simp;omega
   case measure=>simp[intOf];omega
  ·obtain rfl:i=n:=by omega
   have htk:ns.take i=ns:=List.take_of_length_le (by have:=hn.out;omega)
   rw[htk] at hO
   have hOr:=hO.row
   rw[hn.out] at hOr
   obtain⟨An,cn,rfl,jj1,jj2,jj3,jj4⟩:=Rd.of_own hOr
   clear jj1 jj2 jj3 jj4
   have pC:=hbo.cell 0
   have pB:=hbB.cell 0
   have fB:=hbB.frozen 0
   have hqo:=hq.out
   go_wp2_with fail
   have hOF:NeO w.heap.size (wr.setCell ⟨q+1,0,none⟩ (.slice An i cn)) ns vs (.slice An i cn):=by
    have hcW:=Chg.one wr (q+1) 0 (.slice An i cn)
    refine⟨hO.len,own_mono (own_setCell (i:=0) hO.row hbB (by decide) _) (by omega),fun j d v e1 e2=>?_⟩
    have hs:=hO.sub j d v e1 e2
    have h6:=SubO.chg hs hcW (fun k hk e=>own_ne_blk hs.syms hbB (by decide) (by rw[←e];exact hk.symm)) (fun k hk e=>own_ne_blk hs.items hbB (by decide) (by rw[←e];exact hk.symm)) (fun k hk e=>own_ne_blk hs.fields hbB (by decide) (by rw[←e];exact hk.symm))
    exact⟨own_mono h6.syms (by omega),own_mono h6.items (by omega),own_mono h6.fields (by omega),h6.rng⟩
   refine bodyPost_ret (resOwn rfl ((hbB.set 0 (.slice An i cn)).cell 0)) rfl ?_
   exact⟨_,_,rfl,hOF,hDs,hx.setCell (by show w.heap.size≤q+1;omega) _⟩
theorem own_any {B:Nat} {w:World} {v:Value} {ns:List Ne} (h:Sch B w v ns) (hB:B≤w.heap.size) (hl:ns.length≤1000000) (hd:∀d∈ns,Len6 d) :
  Calls Tryz.prog 19 #[.agg #[v]] w fun e w'=>∃v' vs,e=.returned (.agg #[v'])∧NeO w.heap.size w' ns vs v'∧Ext w w':=
 (own_any2 h hB hl hd).mono fun e w' ⟨v',vs,h1,h2,_,h3⟩=>⟨v',vs,h1,h2,h3⟩
end Pr
namespace Rv
open Go.ChangeShapes Go.WideShapes Go.ChangeAt Go.RowKit
open Base Lx Mi Pr Mp
theorem sch_rng' {B:Nat} {w:World} {v:Value} {ns:List Ne} (h:Sch B w v ns):∀d∈ns,-9223372036854775808≤d.size∧d.size≤9223372036854775807:=by
 intro d hd
 obtain⟨vs,h1,h2,h3⟩:=h
 obtain⟨i,hi,rfl⟩:=List.mem_iff_getElem.1 hd
 exact (h3 i _ _ (List.getElem?_eq_getElem hi) (List.getElem?_eq_getElem (by rw[h1];exact hi))).rng
theorem parts_len6 {ns:List Ne} (h:partsN ns≤3000):∀d∈ns,Len6 d:=fun d hd=>by
 have h1:=sum_mem (ns.map nodeP) (nodeP d) (List.mem_map_of_mem hd)
 unfold partsN at h
 have h2:nodeP d≤3000:=by omega
 unfold nodeP at h2
 clear h h1
 refine⟨?_,?_,?_⟩<;>omega
theorem few_len6 {a b:List Ne} (h:fewP a b=true):(∀d∈a,Len6 d)∧∀d∈b,Len6 d:=by
 unfold fewP at h
 simp only[Bool.and_eq_true,decide_eq_true_eq] at h
 exact⟨parts_len6 h.2.2.1,parts_len6 h.2.2.2⟩
structure Fine1 (n1:List Ne):Prop where
 bnd:Bnd n1
 l1:n1.length≤1000000
 sh:showLen n1≤100000000
 shR:showRLen n1≤100000000
theorem fine1 {w:World} {u1:Value} {n1:List Ne} (h1:Sch w.heap.size w u1 n1) (hb1:Args.schB n1≤1048576):Fine1 n1:=by
 obtain⟨l1,d1⟩:=sch_lens hb1
 exact⟨⟨by omega,fun d hd=>by have:=(d1 d hd).2.2.2;unfold nodeP;omega⟩,l1,show_bound hb1 (sch_rng' h1),showR_bound hb1 (sch_rng' h1)⟩
set_option maxHeartbeats 2000000 in
theorem self_any (u1:Value) (n1:List Ne) (w:World) (h1:Sch w.heap.size w u1 n1) (hb1:Args.schB n1≤1048576) (hwd:Wd w) (hpow:Pow w) :
  Calls Tryz.prog 3 #[.agg #[u1]] w fun e w'=>e=.returned (.bool true)∧Ext w w':=by
 have F:=fine1 h1 hb1
 obtain⟨A1,k1,c1,rfl⟩:=Rv.Sch.slice h1
 obtain⟨q,hq⟩:∃z,Hid (w.heap.size=z):=⟨_,rfl⟩
 obtain⟨w1,hw1⟩:∃z,Hid (w.alloc (.cells #[.slice A1 k1 c1] 24)=z):=⟨_,rfl⟩
 have hx1:Ext w w1:=by rw[←hw1.out];exact (Ext.refl w).alloc _
 have hbA:Blk w1 q #[.slice A1 k1 c1] 24:=by rw[←hw1.out,←hq.out];exact Blk.new w _ _
 have S1:∀W,Ext w1 W→Sch W.heap.size W (.slice A1 k1 c1) n1:=fun W hW=>(h1.below (hx1.trans hW)).mono (hx1.trans hW).size
 have cA:∀W,Ext w1 W→W.cell? ⟨q,0,none⟩=some (.slice A1 k1 c1):=fun W hW=>by have:=(hbA.ext hW).cell 0;simpa using this
 have hli:=fun W (hW:Ext w1 W)=>lives10_any W (hwd.ext (hx1.trans hW)) (hpow.ext (hx1.trans hW))
 have hown:=fun W hW=>own_any (S1 W hW) (Nat.le_refl _) F.l1
 have hrsh:=fun W hW=>refShow_any _ _ W (S1 W hW) F.shR
 have hcan:=fun W v (hW:Ext w1 W) hS=>Can_any n1 n1 _ v W (S1 W hW) hS (hwd.ext (hx1.trans hW)) (hpow.ext (hx1.trans hW)) F.sh F.sh
 have hfew:=fun W hW=>few10_any n1 n1 _ _ W (S1 W hW) (S1 W hW) F.bnd F.bnd
 have hl6:fewP n1 n1=true→∀d∈n1,Len6 d:=fun h=>(few_len6 h).1
 simp only[canB_self] at hcan
 obtain⟨S,er,ok,hSe,hok,heq⟩:∃S er ok,shV (showP n1)=.tuple #[.string S,.int .i64 er]∧(showP n1).isSome=ok∧((er=0∧ok=true)∨(er=1∧ok=false)):=by
  cases showP n1 with
  | none=>exact⟨_,_,_,rfl,rfl,.inr ⟨rfl,rfl⟩⟩
  | some s=>exact⟨_,_,_,rfl,rfl,.inl ⟨rfl,rfl⟩⟩
 simp only[hSe] at hrsh
 simp only[hok] at hcan
 obtain⟨m1,hm1⟩:∃z,Hid (fewP n1 n1=z):=⟨_,Lib.hid rfl⟩
 simp only[hm1.out] at hfew hl6
 have g1:=cA w1 (Ext.refl _)
 have hr1:=hrsh w1 (Ext.refl _)
 clear F hSe hok hb1 hrsh hbA h1
 replace hl6:=Lib.hid hl6
 replace hown:=Lib.hid hown
 replace hcan:=Lib.hid hcan
 replace hli:=Lib.hid hli
 replace hfew:=Lib.hid hfew
 replace S1:=Lib.hid S1
 replace cA:=Lib.hid cA
 obtain⟨PO,hPO⟩:∃PO:Ending→World→Prop,Hid ((fun e w'=>e=.returned (.bool true)∧Ext w w')=PO):=⟨_,Lib.hid rfl⟩
 have fin:∀W,Ext w W→PO (.returned (.bool true)) W:=fun W hW=>by rw[←hPO.out];exact⟨rfl,hW⟩
 rw[hPO.out]
 replace fin:=Lib.hid fin
 rcases heq with⟨rfl,rfl⟩|⟨rfl,rfl⟩
 all_goals
  go_enter Tryz.func3,Tryz.ntmps3
  go_wp2_with fail
  rw[hw1.out,hq.out]
  refine hr1.mono ?_
  rintro e w2 ⟨rfl,hx2⟩
  clear hr1
  have c2:∀W,Ext w2 W→W.cell? ⟨q,0,none⟩=some (.slice A1 k1 c1):=fun W hW=>cA.out W (hx2.trans hW)
  go_wp2_with fail
  cases m1 with
  | false=>
   refine Reg.startE (by kernel_rfl) ?_
   iterate 2 ((first|refine Reg.tn ?_|refine Reg.sn ?_);(try simp only[Reg.nn]))
   refine Reg.onlyE 2 _ rfl (by kernel_rfl) (by decide) (by rfl) (fun W hW K hK=>?_);go_simp
   refine (hfew.out W (hx2.trans hW)).mono ?_
   rintro e wX ⟨rfl,hX⟩
   have hq1:=hx2.trans (hW.trans hX)
   refine hK.out _ _ (hX) ?_;clear hK K;(try simp only[Reg.nn])
   iterate 11 ((first|refine Reg.tn ?_|refine Reg.sn ?_);(try simp only[Reg.nn]))
   refine Reg.onlyE 14 _ rfl (by kernel_rfl) (by decide) (by rfl) (fun W hW K hK=>?_);go_simp
   refine (hli.out W (hq1.trans hW)).mono ?_
   rintro e wY ⟨rfl,hY⟩
   have hq2:=hq1.trans (hW.trans hY)
   refine hK.out _ _ (hY) ?_;clear hK K;(try simp only[Reg.nn])
   iterate 2 ((first|refine Reg.tn ?_|refine Reg.sn ?_);(try simp only[Reg.nn]))
   refine Reg.fin (by kernel_rfl) (fun W hW=>?_)
   have hf:=fin.out W (hx1.trans (hq2.trans hW))
   go_wp2_with fail
   exact hf
  | true=>
   have hl:=hl6.out rfl
   replace hl:=Lib.hid hl
   refine Reg.startE (by kernel_rfl) ?_
   iterate 2 ((first|refine Reg.tn ?_|refine Reg.sn ?_);(try simp only[Reg.nn]))
   refine Reg.onlyE 2 _ rfl (by kernel_rfl) (by decide) (by rfl) (fun W hW K hK=>?_);go_simp
   refine (hfew.out W (hx2.trans hW)).mono ?_
   rintro e wX ⟨rfl,hX⟩
   have hq1:=hx2.trans (hW.trans hX)
   have cX:∀W,Ext wX W→W.cell? ⟨q,0,none⟩=some (.slice A1 k1 c1):=fun W hW=>cA.out W (hq1.trans hW)
   refine hK.out _ _ (hX) ?_;clear hK K;(try simp only[Reg.nn])
   iterate 4 ((first|refine Reg.tn ?_|refine Reg.sn ?_);(try simp only[Reg.nn]))
   refine Reg.tk 9 ?_;(try simp only[Reg.nn])
   refine Reg.tk 10 ?_;(try simp only[Reg.nn])
   refine Reg.onlyE 7 _ rfl (by kernel_rfl) (by decide) (by rfl) (fun W hW K hK=>?_);go_simp
   refine (hown.out W (hq1.trans hW) hl.out).mono ?_
   rintro e wY ⟨v6,vs6,rfl,hO6,hY⟩
   have hq2:=hq1.trans (hW.trans hY)
   have hS6:=hO6.sch (Nat.le_refl _)
   replace hS6:=Lib.hid hS6
   clear hO6
   refine hK.out _ _ (hY) ?_;clear hK K;(try simp only[Reg.nn])
   refine Reg.onlyE 8 _ rfl (by kernel_rfl) (by decide) (by rfl) (fun W hW K hK=>?_);go_simp
   refine (hcan.out W v6 (hq2.trans hW) ((hS6.out.below hW).mono hW.size)).mono ?_
   rintro e wZ ⟨rfl,hZ⟩
   have hq3:=hq2.trans (hW.trans hZ)
   refine hK.out _ _ (hZ) ?_;clear hK K;(try simp only[Reg.nn])
   iterate 3 ((first|refine Reg.tn ?_|refine Reg.sn ?_);(try simp only[Reg.nn]))
   refine Reg.onlyE 14 _ rfl (by kernel_rfl) (by decide) (by rfl) (fun W hW K hK=>?_);go_simp
   refine (hli.out W (hq3.trans hW)).mono ?_
   rintro e wV ⟨rfl,hV⟩
   have hq4:=hq3.trans (hW.trans hV)
   refine hK.out _ _ (hV) ?_;clear hK K;(try simp only[Reg.nn])
   iterate 2 ((first|refine Reg.tn ?_|refine Reg.sn ?_);(try simp only[Reg.nn]))
   refine Reg.fin (by kernel_rfl) (fun W hW=>?_)
   have hf:=fin.out W (hx1.trans (hq4.trans hW))
   go_wp2_with fail
   exact hf
end Rv
end Go.Proofs.YtmaoochjbpohdaaGreatDoor
