/- policy: what of a log is admitted: the state in memory. -/
import Derived.Test.YtmaoochjbpohdaaGreatDoorPxZ
set_option linter.unusedVariables false
set_option linter.unusedSimpArgs false
set_option maxRecDepth 100000
set_option maxHeartbeats 1000000
open Go.ChangeShapes Go.WideShapes Go.ChangeAt Go.RowKit
namespace Go.Proofs.YtmaoochjbpohdaaGreatDoor
namespace Pl
open Base Lx Mi Pr Rv Cn Ch
def intsN (l:List Nat):List Value:=l.map fun (i:Nat)=>.int .i64 (i:Int)
theorem intsN_snoc (l:List Nat) (i:Nat):intsN (l++[i])=intsN l++[.int .i64 (i:Int)]:=by simp[intsN]
theorem intsN_one (l:List Nat):∀u∈intsN l,u.oneCell'=true:=by
 intro u hu
 obtain⟨i,_,rfl⟩:=List.mem_map.1 hu
 rfl
def NdA (W:World) (vV hV:Value) (x:Value×List Nd):Prop:=∃B vs,Nds B W x.2 vs x.1∧∀(i:Nat) (v:V3),vs[i]?=some v→v.2.1.ownBlock=none∨(v.2.1.ownBlock≠vV.ownBlock∧v.2.1.ownBlock≠hV.ownBlock)
theorem Nds.sub_at {B:Nat} {w:World} {ns:List Nd} {vs:List V3} {vn:Value} (h:Nds B w ns vs vn) {i:Nat} {v:V3} (hv:vs[i]?=some v):∃d,Sub B w d v:=by
 have hi:=(List.getElem?_eq_some_iff.1 hv).1
 exact⟨_,h.sub i _ v (List.getElem?_eq_getElem (by rw[←h.len];exact hi)) hv⟩
section
variable {W W':World} {vV hV:Value} {x:Value×List Nd}
theorem NdA.ok (h:NdA W vV hV x):NdOk W x:=by obtain⟨B,vs,h,_⟩:=h;exact⟨B,vs,h⟩
theorem NdA.ext (h:NdA W vV hV x) (hx:Ext W W'):NdA W' vV hV x:=by obtain⟨B,vs,h,k⟩:=h;exact⟨B,vs,h.ext hx,k⟩
theorem NdA.setCell (h:NdA W vV hV x) {g i:Nat} {cs:Array Value} (hb:Blk W g cs 59) (u:Value):NdA (W.setCell ⟨g,i,none⟩ u) vV hV x:=by
 obtain⟨B,vs,h,k⟩:=h
 exact⟨B,vs,⟨h.len,own_setCell h.row hb (by decide) u,fun i d v a b=>let s:=h.sub i d v a b;⟨own_setCell s.syms hb (by decide) u,own_setCell s.items hb (by decide) u,own_setCell s.fields hb (by decide) u⟩⟩,k⟩
theorem NdA.seen (h:NdA W vV hV x) {base n:Nat} {V:Value} {xs:List Value} (ho:W.ownsRow base 24 1 V n xs) (hg:W.grownBy W' V.ownBlock):NdA W' vV hV x:=by
 obtain⟨B,vs,h,k⟩:=h
 exact⟨B,vs,⟨h.len,h.row.kept hg (own_ne_own ho h.row (by decide)),fun i d v a b=>let s:=h.sub i d v a b;⟨s.syms.kept hg (own_ne_own ho s.syms (by decide)),s.items.kept hg (own_ne_own ho s.items (by decide)),s.fields.kept hg (own_ne_own ho s.fields (by decide))⟩⟩,k⟩
theorem NdA.vis (h:NdA W vV hV x) {base n:Nat} {xs:List Value} {vV':Value} (ho:W.ownsRow base 3 1 vV n xs) (hg:W.grownBy W' vV.ownBlock) (hv':vV'.ownBlock=vV.ownBlock∨vV'.ownBlock=some W.heap.size):NdA W' vV' hV x:=by
 obtain⟨B,vs,h,k⟩:=h
 refine⟨B,vs,⟨h.len,h.row.kept hg (own_ne_own ho h.row (by decide)),fun i d v a b=>?_⟩,fun i v hv=>?_⟩
 ·have s:=h.sub i d v a b
  exact⟨s.syms.kept hg (own_ne_own ho s.syms (by decide)),s.items.kept hg ((k i v b).imp id fun e=>e.1),s.fields.kept hg (own_ne_own ho s.fields (by decide))⟩
 ·obtain⟨d,s⟩:=Nds.sub_at h hv
  rcases k i v hv with e|⟨e1,e2⟩
  ·exact .inl e
  ·refine .inr ⟨?_,e2⟩
   rcases hv' with hv'|hv'
   ·rw[hv'];exact e1
   ·rw[hv']
    intro e
    have:=(s.items.lt _ e).2
    omega
theorem NdA.held (h:NdA W vV hV x) {base n:Nat} {xs:List Value} {hV':Value} (ho:W.ownsRow base 3 1 hV n xs) (hg:W.grownBy W' hV.ownBlock) (hv':hV'.ownBlock=hV.ownBlock∨hV'.ownBlock=some W.heap.size):NdA W' vV hV' x:=by
 obtain⟨B,vs,h,k⟩:=h
 refine⟨B,vs,⟨h.len,h.row.kept hg (own_ne_own ho h.row (by decide)),fun i d v a b=>?_⟩,fun i v hv=>?_⟩
 ·have s:=h.sub i d v a b
  exact⟨s.syms.kept hg (own_ne_own ho s.syms (by decide)),s.items.kept hg ((k i v b).imp id fun e=>e.2),s.fields.kept hg (own_ne_own ho s.fields (by decide))⟩
 ·obtain⟨d,s⟩:=Nds.sub_at h hv
  rcases k i v hv with e|⟨e1,e2⟩
  ·exact .inl e
  ·refine .inr ⟨e1,?_⟩
   rcases hv' with hv'|hv'
   ·rw[hv'];exact e2
   ·rw[hv']
    intro e
    have:=(s.items.lt _ e).2
    omega
theorem NdA.new {W0:World} {ns:List Nd} {vs:List V3} {v:Value} (hn:Nds W0.heap.size W ns vs v) {b1 b2 n1 n2:Nat} {x1 x2:List Value} {e1 e2:TypeId} (h1:W0.ownsRow b1 e1 1 vV n1 x1) (h2:W0.ownsRow b2 e2 1 hV n2 x2):NdA W vV hV (v,ns):=by
 refine⟨_,vs,hn,fun i u hu=>?_⟩
 obtain⟨d,s⟩:=Nds.sub_at hn hu
 cases hk:u.2.1.ownBlock with
 | none=>exact .inl rfl
 | some k=>
  have hlt:=(s.items.lt k hk).1
  refine .inr ⟨fun e=>?_,fun e=>?_⟩
  ·have:=(h1.lt k e.symm).2;omega
  ·have:=(h2.lt k e.symm).2;omega
end
theorem Sl.ofOwn {w:World} {base:Nat} {e:TypeId} {n:Nat} {V:Value} {xs:List Value} (h:w.ownsRow base e 1 V n xs):Sl w.heap.size w V n xs:=by
 have hlt:=h.lt
 have hA:∀A m c,V=.slice A m c→A=none→c=0:=fun A m c h1 ha'=>by
  rcases h.2 with⟨e2,_⟩|⟨g,cap,cur,e2,_⟩
  ·rw[h1] at e2;injection e2
  ·rw[h1,ha'] at e2;injection e2 with e2;cases e2
 obtain⟨A,c,rfl,h1,h2,h3,h4⟩:=Rd.of_own h
 exact⟨A,c,rfl,h3,fun _ a ha=>(hlt a.block (by rw[ha];rfl)).2,h1,h2,hA A _ c rfl⟩
structure AS (q q3:Nat) (w0:World) (st:Adm) (vV hV sV:Value) (L:List (Value×List Nd)) (W:World):Prop where
 blk:Blk W q3 #[.int .i64 st.p,vV,hV] 59
 vis:W.ownsRow q 3 1 vV st.vis.length (intsN st.vis)
 held:W.ownsRow q 3 1 hV st.held.length (intsN st.held)
 dis:hV.ownBlock=none∨hV.ownBlock≠vV.ownBlock
 seen:W.ownsRow q 24 1 sV st.seen.length (L.map (·.1))
 ns:L.map (fun x=>x.2.map Nd.toE)=st.seen
 ok:∀x∈L,NdA W vV hV x∧∃s,isP s=true∧x.2=(parseP s).1
 x:Ext w0 W
 hq:w0.heap.size=q
 hq3:w0.heap.size≤q3
section
variable {q q3:Nat} {w0:World} {st:Adm} {vV hV sV:Value} {L:List (Value×List Nd)} {W W':World}
theorem AS.dis' (h:AS q q3 w0 st vV hV sV L W):vV.ownBlock=none∨vV.ownBlock≠hV.ownBlock:=by
 rcases h.dis with e|e
 ·cases hv:vV.ownBlock with
  | none=>exact .inl rfl
  | some k=>exact .inr (by rw[e];simp)
 ·exact .inr fun x=>e x.symm
theorem AS.ext (h:AS q q3 w0 st vV hV sV L W) (hx:Ext W W'):AS q q3 w0 st vV hV sV L W':=
 ⟨h.blk.ext hx,own_ext h.vis hx,own_ext h.held hx,h.dis,own_ext h.seen hx,h.ns,fun x hx'=>⟨(h.ok x hx').1.ext hx,(h.ok x hx').2⟩,h.x.trans hx,h.hq,h.hq3⟩
theorem AS.pol (h:AS q q3 w0 st vV hV sV L W) (p:Int):AS q q3 w0 { st with p:=p } vV hV sV L (W.setCell ⟨q3,0,none⟩ (.int .i64 p)):=
 ⟨by simpa using h.blk.set 0 (.int .i64 p),own_setCell h.vis h.blk (by decide) _,own_setCell h.held h.blk (by decide) _,h.dis,own_setCell h.seen h.blk (by decide) _,h.ns,fun x hx'=>⟨(h.ok x hx').1.setCell h.blk _,(h.ok x hx').2⟩,h.x.setCell h.hq3 _,h.hq,h.hq3⟩
theorem AS.grow_held (h:AS q q3 w0 st vV hV sV L W) {hV':Value} {i:Nat} (ho:W'.ownsRow q 3 1 hV' (st.held.length+1) (intsN st.held++[.int .i64 (i:Int)])) (hg:W.grownBy W' hV.ownBlock) (hv':hV'.ownBlock=hV.ownBlock∨hV'.ownBlock=some W.heap.size) :
  AS q q3 w0 { st with held:=st.held++[i] } vV hV' sV L (W'.setCell ⟨q3,2,none⟩ hV'):=by
 have hb:Blk W' q3 #[.int .i64 st.p,vV,hV] 59:=h.blk.grown hg (own_ne_blk h.held h.blk (by decide))
 refine⟨by simpa using hb.set 2 hV',own_setCell (h.vis.kept hg h.dis') hb (by decide) _,own_setCell (by rw[List.length_append,intsN_snoc];exact ho) hb (by decide) _,?_,own_setCell (h.seen.kept hg (own_ne_own h.held h.seen (by decide))) hb (by decide) _,h.ns,fun x hx'=>⟨((h.ok x hx').1.held h.held hg hv').setCell hb _,(h.ok x hx').2⟩,(h.x.then_grown hg (fun k hk=>by have:=(h.held.lt k hk).1;have:=h.hq;omega)).setCell h.hq3 _,h.hq,h.hq3⟩
 rcases hv' with hv'|hv'
 ·rw[hv'];exact h.dis
 ·refine .inr fun e=>?_
  rw[hv'] at e
  have:=(h.vis.lt _ e.symm).2
  omega
theorem AS.grow_vis (h:AS q q3 w0 st vV hV sV L W) {vV':Value} {i:Nat} (ho:W'.ownsRow q 3 1 vV' (st.vis.length+1) (intsN st.vis++[.int .i64 (i:Int)])) (hg:W.grownBy W' vV.ownBlock) (hv':vV'.ownBlock=vV.ownBlock∨vV'.ownBlock=some W.heap.size) :
  AS q q3 w0 { st with vis:=st.vis++[i] } vV' hV sV L (W'.setCell ⟨q3,1,none⟩ vV'):=by
 have hb:Blk W' q3 #[.int .i64 st.p,vV,hV] 59:=h.blk.grown hg (own_ne_blk h.vis h.blk (by decide))
 refine⟨by simpa using hb.set 1 vV',own_setCell (by rw[List.length_append,intsN_snoc];exact ho) hb (by decide) _,own_setCell (h.held.kept hg h.dis) hb (by decide) _,?_,own_setCell (h.seen.kept hg (own_ne_own h.vis h.seen (by decide))) hb (by decide) _,h.ns,fun x hx'=>⟨((h.ok x hx').1.vis h.vis hg hv').setCell hb _,(h.ok x hx').2⟩,(h.x.then_grown hg (fun k hk=>by have:=(h.vis.lt k hk).1;have:=h.hq;omega)).setCell h.hq3 _,h.hq,h.hq3⟩
 rcases hv' with hv'|hv'
 ·rw[hv'];exact h.dis
 ·cases hh:hV.ownBlock with
  | none=>exact .inl rfl
  | some k=>
   refine .inr fun e=>?_
   rw[hv'] at e
   have:=(h.held.lt k hh).2
   injection e with e
   omega
theorem AS.grow_seen (h:AS q q3 w0 st vV hV sV L W) {sV' v:Value} {s:ByteArray} (hs:isP s=true) (hn:NdA W vV hV (v,(parseP s).1)) (ho:W'.ownsRow q 24 1 sV' (st.seen.length+1) (L.map (·.1)++[v])) (hg:W.grownBy W' sV.ownBlock) :
  AS q q3 w0 { st with seen:=st.seen++[schP s] } vV hV sV' (L++[(v,(parseP s).1)]) W':=by
 refine⟨h.blk.grown hg (own_ne_blk h.seen h.blk (by decide)),h.vis.kept hg (own_ne_own h.seen h.vis (by decide)),h.held.kept hg (own_ne_own h.seen h.held (by decide)),h.dis,by simpa using ho,?_,fun x hx'=>?_,h.x.then_grown hg (fun k hk=>by have:=(h.seen.lt k hk).1;have:=h.hq;omega),h.hq,h.hq3⟩
 ·rw[List.map_append,h.ns,schP_of hs];rfl
 ·rcases List.mem_append.1 hx' with hx'|hx'
  ·exact⟨(h.ok x hx').1.seen h.seen hg,(h.ok x hx').2⟩
  ·rw[List.mem_singleton] at hx'
   subst hx'
   exact⟨hn.seen h.seen hg,s,hs,rfl⟩
theorem AS.row (h:AS q q3 w0 st vV hV sV L W):∃A c L2,sV=.slice A st.seen.length c∧Rd W A (schZ L2)∧L2.length=st.seen.length∧st.seen.length≤c∧c≤maxLen∧(A=none→c=0)∧L2.map (·.2)=st.seen∧∀x∈L2,SchOk W x:=by
 obtain⟨A,c,h1,h2,h3,h4,h5⟩:=Rd.of_own h.seen
 have hA:A=none→c=0:=fun ha'=>by
  rcases h.seen.2 with⟨e2,_⟩|⟨g,cap,cur,e2,_⟩
  ·rw[h1] at e2;injection e2
  ·rw[h1,ha'] at e2;injection e2 with e2;cases e2
 have hlen:L.length=st.seen.length:=by rw[←h.ns,List.length_map]
 refine⟨A,c,L.map fun x=>(x.1,x.2.map Nd.toE),h1,?_,by simpa using hlen,by first|exact h2|exact h3|exact h4,by first|exact h3|exact h4|exact h5,hA,?_,?_⟩
 ·have e:schZ (L.map fun x=>(x.1,x.2.map Nd.toE))=L.map (·.1):=by simp[schZ,Function.comp_def]
  rw[e]
  first|exact h2|exact h3|exact h4|exact h5
 ·rw[←h.ns,List.map_map];rfl
 ·intro x hx
  obtain⟨y,hy,rfl⟩:=List.mem_map.1 hx
  obtain⟨h6,s,hs,e⟩:=h.ok y hy
  obtain⟨y1,y2⟩:=y
  simp only at e
  subst e
  have h7:=nd_ok hs h6.ok
  rw[schP_of hs] at h7
  exact h7
theorem admA_pol (l:List Et):∀n,polP (admA l n).p=true
 | 0=>rfl
 | n+1=>by
  have ih:=admA_pol l n
  rw[show admA l (n+1)=admS (admA l n) n (l.getD n e0) from rfl]
  unfold admS
  split
  ·split
   ·next h=>exact h.1
   ·exact ih
  ·split<;>exact ih
theorem adm_len (l:List Et):∀n,(admA l n).vis.length≤n∧(admA l n).held.length≤n∧(admA l n).seen.length≤n
 | 0=>by simp[admA]
 | n+1=>by
  obtain⟨i1,i2,i3⟩:=adm_len l n
  rw[show admA l (n+1)=admS (admA l n) n (l.getD n e0) from rfl]
  unfold admS
  split
  ·split
   ·exact⟨Nat.le_succ_of_le i1,Nat.le_succ_of_le i2,Nat.le_succ_of_le i3⟩
   ·exact⟨Nat.le_succ_of_le i1,by simpa using i2,Nat.le_succ_of_le i3⟩
  ·split
   ·exact⟨by simpa using i1,Nat.le_succ_of_le i2,by simpa using i3⟩
   ·exact⟨Nat.le_succ_of_le i1,by simpa using i2,Nat.le_succ_of_le i3⟩
end
theorem admA_at {l:List Et} {i:Nat} {e:Et} (h:l[i]?=some e):admA l (i+1)=admS (admA l i) i e:=by
 rw[show admA l (i+1)=admS (admA l i) i (l.getD i e0) from rfl,List.getD,h];rfl
theorem admS_pol {s:Adm} {i:Nat} {e:Et} (h:e.pol=true) (h1:polP e.p=true) (h2:holdsP e.p s.seen=true):{ s with p:=e.p }=admS s i e:=by
 unfold admS;rw[if_pos h,if_pos ⟨h1,h2⟩]
theorem admS_no1 {s:Adm} {i:Nat} {e:Et} (h:e.pol=true) (h1:polP e.p=false):{ s with held:=s.held++[i] }=admS s i e:=by
 unfold admS;rw[if_pos h,if_neg (by rw[h1];simp)]
theorem admS_no2 {s:Adm} {i:Nat} {e:Et} (h:e.pol=true) (h2:holdsP e.p s.seen=false):{ s with held:=s.held++[i] }=admS s i e:=by
 unfold admS;rw[if_pos h,if_neg (by rw[h2];simp)]
theorem admS_no3 {s:Adm} {i:Nat} {e:Et} (h:e.pol=false) (h1:isP e.s=false):{ s with held:=s.held++[i] }=admS s i e:=by
 unfold admS;rw[if_neg (by rw[h];simp),if_neg (by rw[h1];simp)]
theorem admS_no4 {s:Adm} {i:Nat} {e:Et} (h:e.pol=false) (h1:nextP s.p s.seen (schP e.s)=false):{ s with held:=s.held++[i] }=admS s i e:=by
 unfold admS;rw[if_neg (by rw[h];simp),if_neg (by rw[h1];simp)]
theorem admS_vis {s:Adm} {i:Nat} {e:Et} (h:e.pol=false) (h1:isP e.s=true) (h2:nextP s.p s.seen (schP e.s)=true):{ s with seen:=s.seen++[schP e.s],vis:=s.vis++[i] }=admS s i e:=by
 unfold admS;rw[if_neg (by rw[h];simp),if_pos ⟨h1,h2⟩]
theorem AS.cast {q q3:Nat} {w0:World} {st st':Adm} {vV hV sV:Value} {L:List (Value×List Nd)} {W:World} (h:AS q q3 w0 st vV hV sV L W) (e:st'=st):AS q q3 w0 st' vV hV sV L W:=e ▸ h
def admV (l:List Et) (en:Ending) (w':World):Prop:=∃V1 V2,en=.returned (.agg #[.int .i64 (admP l).p,V1,V2])∧Sl w'.heap.size w' V1 (admP l).vis.length (intsN (admP l).vis)∧Sl w'.heap.size w' V2 (admP l).held.length (intsN (admP l).held)
theorem resAdm {w:World} {tmps:Array Value} {a:Nat} {x y z:Value} (ha:tmps[2]?.getD undef=.pointer (some ⟨a,0,none⟩)) (hb:Blk w a #[x,y,z] 59):(results Tryz.f39 tmps).run Tryz.prog w=.ok (.agg #[x,y,z]) w:=by
 have h0:=hb.cell 0
 have h1:=hb.cell 1
 have h2:=hb.cell 2
 simp only[List.getElem?_toArray,List.getElem?_cons_zero,List.getElem?_cons_succ] at h0 h1 h2
 simp[results,Tryz.f39,go_sem,ha,h0,h1,h2]
set_option maxHeartbeats 4000000 in
theorem Admit_any (A:Option Addr) (n c:Nat) (l:List Et) (w:World) (hr:Rd w A (entsZ l)) (hn:l.length=n) (hl:n≤100000) (hz:∀e∈l,EtOk e) (hwd:Wd w) (hpow:Pow w) :
  Calls Tryz.prog 39 #[.slice A n c] w fun en w'=>admV l en w'∧Ext w w':=by
 obtain⟨PO,hPO⟩:∃PO:Ending→World→Prop,Hid ((fun en w'=>admV l en w'∧Ext w w')=PO):=⟨_,Lib.hid rfl⟩
 rw[hPO.out]
 obtain⟨w1,hw1⟩:∃z,Hid (w.alloc (.cells #[.int .i64 0,.slice none 0 0,.slice none 0 0] 59)=z):=⟨_,rfl⟩
 have hx1:Ext w w1:=by rw[←hw1.out];exact (Ext.refl w).alloc _
 obtain⟨q0,hq0⟩:∃z,Hid (w.heap.size=z):=⟨_,rfl⟩
 obtain⟨q,hq⟩:∃z,Hid (w1.heap.size=z):=⟨_,rfl⟩
 have b1:Blk w1 q0 #[.int .i64 0,.slice none 0 0,.slice none 0 0] 59:=by rw[←hq0.out,←hw1.out];exact Blk.new w _ _
 obtain⟨w2,hw2⟩:∃z,Hid (w1.alloc (.cells #[.int .i64 1,.slice none 0 0,.slice none 0 0] 59)=z):=⟨_,rfl⟩
 have hx2:Ext w1 w2:=by rw[←hw2.out];exact (Ext.refl w1).alloc _
 have b2:Blk w2 q #[.int .i64 1,.slice none 0 0,.slice none 0 0] 59:=by rw[←hq.out,←hw2.out];exact Blk.new w1 _ _
 have hS0:AS q q w1 (admA l 0) (.slice none 0 0) (.slice none 0 0) (.slice none 0 0) [] w2:=
  ⟨b2,World.ownsRow_nil w2 q _ 1,World.ownsRow_nil w2 q _ 1,.inl rfl,World.ownsRow_nil w2 q _ 1,rfl,fun x hx=>(by cases hx),hx2,hq.out,by rw[hq.out];exact Nat.le_refl _⟩
 have fin:∀vV hV sV L W,AS q q w1 (admA l n) vV hV sV L W→∀cs u1 u2 u3,Blk W q0 cs 59→PO (.returned (.agg #[.int .i64 (admA l n).p,vV,hV])) (((W.setCell ⟨q0,0,none⟩ u1).setCell ⟨q0,1,none⟩ u2).setCell ⟨q0,2,none⟩ u3):=fun vV hV sV L W h cs u1 u2 u3 hb=>by
  rw[←hPO.out]
  have hb1:=hb.set 0 u1
  have hb2:=hb1.set 1 u2
  have hv:=own_setCell (own_setCell (own_setCell h.vis hb (i:=0) (by decide) u1) hb1 (i:=1) (by decide) u2) hb2 (i:=2) (by decide) u3
  have hh:=own_setCell (own_setCell (own_setCell h.held hb (i:=0) (by decide) u1) hb1 (i:=1) (by decide) u2) hb2 (i:=2) (by decide) u3
  have hge:w.heap.size≤q0:=by rw[hq0.out];exact Nat.le_refl _
  refine⟨?_,(((hx1.trans h.x).setCell hge _).setCell hge _).setCell hge _⟩
  unfold admV admP
  rw[hn]
  exact⟨_,_,rfl,Sl.ofOwn hv,Sl.ofOwn hh⟩
 replace fin:=Lib.hid fin
 have Hn:=Lib.hid hn
 clear hn
 replace hz:=Lib.hid hz
 have hlens:=adm_len l
 replace hlens:=Lib.hid hlens
 have hpols:=admA_pol l
 replace hpols:=Lib.hid hpols
 go_enter Tryz.func39,Tryz.ntmps39
 go_wp2_with fail
 rw[hw1.out,hw2.out,show w.heap.size+1=q by rw[←hq.out,←hw1.out,World.size_alloc],hq0.out]
 go_loopw [4,5,6,7,8,12,13,14,15,16,17,18,19,20,21,22,23,24,25,26,27,28,29,30,31,32,33,34,35,36,37,38,39,40,41,42,43,44,45,46,47,48,49,50,51,52,53,54,55,56,57,58,59,60,61] (fun v4 v5 v6 v7 v8 v12 v13 v14 v15 v16 v17 v18 v19 v20 v21 v22 v23 v24 v25 v26 v27 v28 v29 v30 v31 v32 v33 v34 v35 v36 v37 v38 v39 v40 v41 v42 v43 v44 v45 v46 v47 v48 v49 v50 v51 v52 v53 v54 v55 v56 v57 v58 v59 v60 v61 wr=>∃(i:Nat) (L:List (Value×List Nd)) (vV hV:Value),i≤n∧v12=.int .i64 (i:Int)∧AS q q w1 (admA l i) vV hV v4 L wr) (fun _ _ _ _ _ v12 _ _ _ _ _ _ _ _ _ _ _ _ _ _ _ _ _ _ _ _ _ _ _ _ _ _ _ _ _ _ _ _ _ _ _ _ _ _ _ _ _ _ _ _ _ _ _ _ _ _=>n-(intOf v12).toNat)
 case atStart=>exact⟨0,_,_,_,Nat.zero_le _,rfl,hS0⟩
 case round=>
  obtain⟨i,L,vV,hV,hi,rfl,hS⟩:=hrel
  obtain⟨sV,hsV⟩:∃z,z=u4:=⟨_,rfl⟩
  rw[←hsV] at hS ⊢
  clear hsV hS0
  by_cases hin:i<n
  ·have hin':(i:Int)<(n:Int):=by omega
   obtain⟨e,hme⟩:∃m,l[i]?=some m:=⟨_,List.getElem?_eq_getElem (by have:=Hn.out;omega)⟩
   have hE:=hz.out e (List.mem_of_getElem? hme)
   have hx:=hx1.trans hS.x
   obtain⟨b,off,rfl,hzz,hc⟩:=(hr.ext hx).at_ (k:=i*4) (by rw[entsZ_len];have:=Hn.out;omega)
   clear hzz
   have d0:wr.cell? ⟨b,off+i*4,none⟩=some (.bool e.pol):=by have:=hc (i*4+0) (.bool e.pol) (by rw[entsZ_at l i e hme 0 (by omega)];rfl);simpa using this
   have d1:wr.cell? ⟨b,off+i*4+1,none⟩=some (.int .i64 e.p):=by have:=hc (i*4+1) (.int .i64 e.p) (by rw[entsZ_at l i e hme 1 (by omega)];rfl);rw[Nat.add_assoc];exact this
   have d2:wr.cell? ⟨b,off+i*4+2,none⟩=some (.string e.s):=by have:=hc (i*4+2) (.string e.s) (by rw[entsZ_at l i e hme 2 (by omega)];rfl);rw[Nat.add_assoc];exact this
   have d3:wr.cell? ⟨b,off+i*4+3,none⟩=some (.int .u64 (e.id:Int)):=by have:=hc (i*4+3) (.int .u64 (e.id:Int)) (by rw[entsZ_at l i e hme 3 (by omega)];rfl);rw[Nat.add_assoc];exact this
   clear hc
   have hstep:=admA_at hme
   have hlen:=hlens.out i
   have hpol:=hpols.out i
   obtain⟨st,hst⟩:∃z,Hid (admA l i=z):=⟨_,rfl⟩
   rw[hst.out] at hS hstep hlen hpol
   clear hme
   replace hE:=Lib.hid hE
   obtain⟨pol,p,s,id⟩:=e
   simp only at d0 d1 d2 d3
   have hxa:Ext wr (wr.alloc (.cells #[.bool pol,.int .i64 p,.string s,.int .u64 (id:Int)] 93)):=(Ext.refl wr).alloc _
   obtain⟨wa,hwa⟩:∃z,Hid (wr.alloc (.cells #[.bool pol,.int .i64 p,.string s,.int .u64 (id:Int)] 93)=z):=⟨_,rfl⟩
   rw[hwa.out] at hxa
   obtain⟨A',c',L2,rfl,g1,g2,g3,g4,g5,g6,g7⟩:=hS.row
   obtain⟨k,hk⟩:∃z,Hid (st.seen.length=z):=⟨_,rfl⟩
   rw[hk.out] at g2 g3 hS ⊢
   obtain⟨qe,hqe⟩:∃z,Hid (wr.heap.size=z):=⟨_,rfl⟩
   have be:Blk wa qe #[.bool pol,.int .i64 p,.string s,.int .u64 (id:Int)] 93:=by rw[←hqe.out,←hwa.out];exact Blk.new wr _ _
   have hpe:∀W,Ext wa W→W.cell? ⟨qe,1,none⟩=some (.int .i64 p):=fun W hW=>by have:=(be.ext hW).cell 1;simpa using this
   replace hpe:=Lib.hid hpe
   have hrow:(∀x∈L2,SchOk wr x)∧Rd wr A' (schZ L2)∧L2.length=k∧k≤c'∧c'≤maxLen∧(A'=none→c'=0)∧L2.map (·.2)=st.seen∧k≤100000:=⟨g7,g1,g2,g3,g4,g5,g6,by have:=hlen.2.2;have:=hk.out;omega⟩
   replace hrow:=Lib.hid hrow
   clear g1 g2 g3 g4 g5 g6 g7 be
   have hS0:=hS
   replace hS:=Lib.hid hS0
   replace hstep:=Lib.hid hstep
   have kp:=hS0.blk.cell 0
   have kv:=hS0.blk.cell 1
   simp only[List.getElem?_toArray,List.getElem?_cons_zero,List.getElem?_cons_succ] at kp kv
   clear hS0
   cases pol with
   | true=>
    clear kp kv
    have hi:=is_any p wa
    cases hp:polP p with
    | false=>
     rw[hp] at hi
     have hst2:=hstep.out.trans (admS_no1 (s:=st) (i:=i) (e:=⟨true,p,s,id⟩) rfl hp).symm
     replace hst2:=Lib.hid hst2
     go_wp2_with fail
     rw[hwa.out,hqe.out]
     refine hi.mono ?_
     rintro en w2 ⟨rfl,hx2⟩
     clear hi
     have hxL:Ext (w2) ((w2).alloc (.cells #[.int .i64 (i:Int)] 3)):=(Ext.refl _).alloc _
     have hSL:=(hS.out.ext (hxa.trans hx2)).ext hxL
     have k2:=(hS.out.ext (hxa.trans hx2)).blk.cell 2
     simp only[List.getElem?_toArray,List.getElem?_cons_zero,List.getElem?_cons_succ] at k2
     have hrv:Rd ((w2).alloc (.cells #[.int .i64 (i:Int)] 3)) (some ⟨(w2).heap.size,0,none⟩) (intsN [i]):=by have:=Rd.of_block (w2) 3 (0,0) (cs := #[.int .i64 (i:Int)]) rfl;simpa [intsN] using this
     have hqL:q≤((w2).alloc (.cells #[.int .i64 (i:Int)] 3)).heap.size:=by rw[←hq.out];exact hSL.x.size
     have hoh:=hSL.held
     obtain⟨M,hM⟩:∃z,Hid (st.held.length=z):=⟨_,rfl⟩
     obtain⟨XS,hXS⟩:∃z,Hid (intsN st.held=z):=⟨_,rfl⟩
     have hlm:=hlen.2.1
     rw[hM.out] at hlm hoh
     rw[hXS.out] at hoh
     clear hxL
     replace hSL:=Lib.hid hSL
     go_wp2_with (
      refine wpList_app el_in _ rfl (.tmp 56) (.tmp 58) rfl q hV M XS rfl hoh (some ⟨(w2).heap.size,0,none⟩) 1 1 (intsN [i]) rfl hrv rfl (fun h=>by cases h) (intsN_one _) (by omega) (by omega) hqL (fun hV' W' ho' hg' hv'=>?_)
      have hb':=hSL.out.blk.grown hg' (own_ne_blk hSL.out.held hSL.out.blk (by decide))
      have k2':=hb'.cell 2
      have f2':=hb'.frozen 2
      simp only[List.getElem?_toArray,List.getElem?_cons_zero,List.getElem?_cons_succ] at k2'
      have hnx:=hSL.out.grow_held (i:=i) (by rw[hM.out,hXS.out];exact ho') hg' hv'
      rw[←hst2.out] at hnx
      replace hnx:=Lib.hid hnx
      obtain⟨A9,c9,e9,jj⟩:=Rd.of_own ho'
      clear jj hg' hv' hb' hrv hqL hoh ho'
      subst e9)
     go_roundw
     case rel=>exact⟨i+1,_,_,_,by omega,by go_num,hnx.out⟩
     case measure=>simp[intOf]<;>omega
    | true=>
     rw[hp] at hi
     have hh:=fun W (hW:Ext wr W)=>holds_any p hp A' k c' L2 W (hrow.out.2.1.ext hW) hrow.out.2.2.1 hrow.out.2.2.2.1 hrow.out.2.2.2.2.1 hrow.out.2.2.2.2.2.1 hrow.out.2.2.2.2.2.2.2 (fun x hx=>(hrow.out.1 x hx).ext hW) (hwd.ext (hx.trans hW)) (hpow.ext (hx.trans hW))
     rw[hrow.out.2.2.2.2.2.2.1] at hh
     cases hv:holdsP p st.seen with
     | true=>
      rw[hv] at hh
      have hst2:=hstep.out.trans (admS_pol (s:=st) (i:=i) (e:=⟨true,p,s,id⟩) rfl hp hv).symm
      replace hst2:=Lib.hid hst2
      replace hh:=Lib.hid hh
      clear hp hv
      go_wp2_with fail
      rw[hwa.out,hqe.out]
      refine hi.mono ?_
      rintro en w2 ⟨rfl,hx2⟩
      clear hi
      have hh2:=hh.out w2 (hxa.trans hx2)
      have hp2:=hpe.out w2 hx2
      go_wp2_with fail
      refine hh2.mono ?_
      rintro en w3 ⟨rfl,hx3⟩
      clear hh2
      have hp3:=hpe.out w3 (hx2.trans hx3)
      have hS3:=hS.out.ext (hxa.trans (hx2.trans hx3))
      have hnx:=hS3.pol p
      have hk3:=hS3.blk.cell 0
      have hf3:=hS3.blk.frozen 0
      simp only[List.getElem?_toArray,List.getElem?_cons_zero] at hk3
      rw[←hst2.out] at hnx
      replace hnx:=Lib.hid hnx
      clear hS3
      go_wp2_with fail
      go_roundw
      case rel=>exact⟨i+1,_,_,_,by omega,by go_num,hnx.out⟩
      case measure=>simp[intOf]<;>omega
     | false=>
      rw[hv] at hh
      have hst2:=hstep.out.trans (admS_no2 (s:=st) (i:=i) (e:=⟨true,p,s,id⟩) rfl hv).symm
      replace hst2:=Lib.hid hst2
      replace hh:=Lib.hid hh
      clear hp hv
      go_wp2_with fail
      rw[hwa.out,hqe.out]
      refine hi.mono ?_
      rintro en w2 ⟨rfl,hx2⟩
      clear hi
      have hh2:=hh.out w2 (hxa.trans hx2)
      have hp2:=hpe.out w2 hx2
      go_wp2_with fail
      refine hh2.mono ?_
      rintro en w3 ⟨rfl,hx3⟩
      clear hh2
      have hxL:Ext (w3) ((w3).alloc (.cells #[.int .i64 (i:Int)] 3)):=(Ext.refl _).alloc _
      have hSL:=(hS.out.ext (hxa.trans (hx2.trans hx3))).ext hxL
      have k2:=(hS.out.ext (hxa.trans (hx2.trans hx3))).blk.cell 2
      simp only[List.getElem?_toArray,List.getElem?_cons_zero,List.getElem?_cons_succ] at k2
      have hrv:Rd ((w3).alloc (.cells #[.int .i64 (i:Int)] 3)) (some ⟨(w3).heap.size,0,none⟩) (intsN [i]):=by have:=Rd.of_block (w3) 3 (0,0) (cs := #[.int .i64 (i:Int)]) rfl;simpa [intsN] using this
      have hqL:q≤((w3).alloc (.cells #[.int .i64 (i:Int)] 3)).heap.size:=by rw[←hq.out];exact hSL.x.size
      have hoh:=hSL.held
      obtain⟨M,hM⟩:∃z,Hid (st.held.length=z):=⟨_,rfl⟩
      obtain⟨XS,hXS⟩:∃z,Hid (intsN st.held=z):=⟨_,rfl⟩
      have hlm:=hlen.2.1
      rw[hM.out] at hlm hoh
      rw[hXS.out] at hoh
      clear hxL
      replace hSL:=Lib.hid hSL
      go_wp2_with (
       refine wpList_app el_in _ rfl (.tmp 56) (.tmp 58) rfl q hV M XS rfl hoh (some ⟨(w3).heap.size,0,none⟩) 1 1 (intsN [i]) rfl hrv rfl (fun h=>by cases h) (intsN_one _) (by omega) (by omega) hqL (fun hV' W' ho' hg' hv'=>?_)
       have hb':=hSL.out.blk.grown hg' (own_ne_blk hSL.out.held hSL.out.blk (by decide))
       have k2':=hb'.cell 2
       have f2':=hb'.frozen 2
       simp only[List.getElem?_toArray,List.getElem?_cons_zero,List.getElem?_cons_succ] at k2'
       have hnx:=hSL.out.grow_held (i:=i) (by rw[hM.out,hXS.out];exact ho') hg' hv'
       rw[←hst2.out] at hnx
       replace hnx:=Lib.hid hnx
       obtain⟨A9,c9,e9,jj⟩:=Rd.of_own ho'
       clear jj hg' hv' hb' hrv hqL hoh ho'
       subst e9)
      go_roundw
      case rel=>exact⟨i+1,_,_,_,by omega,by go_num,hnx.out⟩
      case measure=>simp[intOf]<;>omega
   | false=>
    cases hP:isP s with
    | false=>
     have hst2:=hstep.out.trans (admS_no3 (s:=st) (i:=i) (e:=⟨false,p,s,id⟩) rfl hP).symm
     replace hst2:=Lib.hid hst2
     have hsc:=Schema_any s hE.out.s1 wa (hwd.ext (hx.trans hxa)) (hpow.ext (hx.trans hxa))
     rw[hP] at hsc
     clear hP kp kv
     go_wp2_with fail
     rw[hwa.out,hqe.out]
     refine hsc.mono ?_
     rintro en w2 ⟨v,rfl,hSv,hx2⟩
     obtain⟨A3,n3,c3,rfl⟩:=Rv.Sch.slice hSv
     clear hSv hsc
     have hx3:Ext w2 (w2.alloc (.cells #[.slice A3 n3 c3] 24)):=(Ext.refl w2).alloc _
     have hxL:Ext (w2.alloc (.cells #[.slice A3 n3 c3] 24)) ((w2.alloc (.cells #[.slice A3 n3 c3] 24)).alloc (.cells #[.int .i64 (i:Int)] 3)):=(Ext.refl _).alloc _
     have hSL:=(hS.out.ext (hxa.trans (hx2.trans hx3))).ext hxL
     have k2:=(hS.out.ext (hxa.trans (hx2.trans hx3))).blk.cell 2
     simp only[List.getElem?_toArray,List.getElem?_cons_zero,List.getElem?_cons_succ] at k2
     have hrv:Rd ((w2.alloc (.cells #[.slice A3 n3 c3] 24)).alloc (.cells #[.int .i64 (i:Int)] 3)) (some ⟨w2.heap.size+1,0,none⟩) (intsN [i]):=by have:=Rd.of_block (w2.alloc (.cells #[.slice A3 n3 c3] 24)) 3 (0,0) (cs := #[.int .i64 (i:Int)]) rfl;simpa [intsN] using this
     have hqL:q≤((w2.alloc (.cells #[.slice A3 n3 c3] 24)).alloc (.cells #[.int .i64 (i:Int)] 3)).heap.size:=by rw[←hq.out];exact hSL.x.size
     have hoh:=hSL.held
     obtain⟨M,hM⟩:∃z,Hid (st.held.length=z):=⟨_,rfl⟩
     obtain⟨XS,hXS⟩:∃z,Hid (intsN st.held=z):=⟨_,rfl⟩
     have hlm:=hlen.2.1
     rw[hM.out] at hlm hoh
     rw[hXS.out] at hoh
     clear hxL
     replace hSL:=Lib.hid hSL
     go_wp2_with (
      refine wpList_app el_in _ rfl (.tmp 56) (.tmp 58) rfl q hV M XS rfl hoh (some ⟨w2.heap.size+1,0,none⟩) 1 1 (intsN [i]) rfl hrv rfl (fun h=>by cases h) (intsN_one _) (by omega) (by omega) hqL (fun hV' W' ho' hg' hv'=>?_)
      have hb':=hSL.out.blk.grown hg' (own_ne_blk hSL.out.held hSL.out.blk (by decide))
      have k2':=hb'.cell 2
      have f2':=hb'.frozen 2
      simp only[List.getElem?_toArray,List.getElem?_cons_zero,List.getElem?_cons_succ] at k2'
      have hnx:=hSL.out.grow_held (i:=i) (by rw[hM.out,hXS.out];exact ho') hg' hv'
      rw[←hst2.out] at hnx
      replace hnx:=Lib.hid hnx
      obtain⟨A9,c9,e9,jj⟩:=Rd.of_own ho'
      clear jj hg' hv' hb' hrv hqL hoh ho'
      subst e9)
     go_roundw
     case rel=>exact⟨i+1,_,_,_,by omega,by go_num,hnx.out⟩
     case measure=>simp[intOf]<;>omega
    | true=>
     have hsc:=Schema_nds s hE.out.s1 hP wa (hwd.ext (hx.trans hxa)) (hpow.ext (hx.trans hxa))
     have HP:=Lib.hid hP
     clear hP
     go_wp2_with fail
     rw[hwa.out,hqe.out]
     refine hsc.mono ?_
     rintro en w2 ⟨⟨v,vs,rfl,hnd⟩,hx2⟩
     clear hsc
     have hSa:=hS.out.ext hxa
     have hna:=NdA.new hnd hSa.vis hSa.held
     obtain⟨A3,c3,rfl,jj1,jj2,jj3,jj4⟩:=Rd.of_own hnd.row
     clear jj1 jj2 jj3 jj4 hnd hSa
     obtain⟨n3,hn3⟩:∃z,Hid ((parseP s).1.length=z):=⟨_,Lib.hid rfl⟩
     rw[hn3.out] at hna ⊢
     obtain⟨w3,hw3⟩:∃z,Hid (w2.alloc (.cells #[.slice A3 n3 c3] 24)=z):=⟨_,rfl⟩
     have hx3:Ext w2 w3:=by rw[←hw3.out];exact (Ext.refl w2).alloc _
     obtain⟨q7,hq7⟩:∃z,Hid (w2.heap.size=z):=⟨_,rfl⟩
     have b7:Blk w3 q7 #[.slice A3 n3 c3] 24:=by rw[←hq7.out,←hw3.out];exact Blk.new w2 _ _
     have e7:∀W,Ext w3 W→W.cell? ⟨q7,0,none⟩=some (.slice A3 n3 c3):=fun W hW=>by have:=(b7.ext hW).cell 0;simpa using this
     replace e7:=Lib.hid e7
     have hxr3:=hxa.trans (hx2.trans hx3)
     have hy:SchOk w3 (.slice A3 n3 c3,schP s):=nd_ok HP.out (hna.ok.ext hx3)
     have hna3:=hna.ext hx3
     replace hna3:=Lib.hid hna3
     have hh:=next_any st.p hpol A' k c' L2 (.slice A3 n3 c3,schP s) w3 (hrow.out.2.1.ext hxr3) hrow.out.2.2.1 hrow.out.2.2.2.1 hrow.out.2.2.2.2.1 hrow.out.2.2.2.2.2.1 hrow.out.2.2.2.2.2.2.2 (fun x hx=>(hrow.out.1 x hx).ext hxr3) hy (hwd.ext (hx.trans hxr3)) (hpow.ext (hx.trans hxr3))
     rw[hrow.out.2.2.2.2.2.2.1] at hh
     clear hna b7 hy
     have hxk:=hx2.trans hx3
     have kp3:=hxr3.cell kp
     rw[←hw3.out] at kp3
     clear kp kv
     cases hv:nextP st.p st.seen (schP s) with
     | true=>
      have hst2:=hstep.out.trans (admS_vis (s:=st) (i:=i) (e:=⟨false,p,s,id⟩) rfl HP.out hv).symm
      replace hst2:=Lib.hid hst2
      rw[hv] at hh
      clear hv
      replace hh:=Lib.hid hh
      go_wp2_with fail
      rw[hw3.out,hq7.out]
      refine hh.out.mono ?_
      rintro en w4 ⟨rfl,hx4⟩
      have e74:=e7.out w4 hx4
      have hxr4:=hxr3.trans hx4
      have hSL:=(hS.out.ext hxr4).ext ((Ext.refl w4).alloc (.cells #[.slice A3 n3 c3] 24))
      have hnL:=(hna3.out.ext hx4).ext ((Ext.refl w4).alloc (.cells #[.slice A3 n3 c3] 24))
      have hrv:Rd (w4.alloc (.cells #[.slice A3 n3 c3] 24)) (some ⟨w4.heap.size,0,none⟩) [.slice A3 n3 c3]:=Rd.of_block w4 24 (0,0) (cs := #[.slice A3 n3 c3]) rfl
      have hqL:q≤(w4.alloc (.cells #[.slice A3 n3 c3] 24)).heap.size:=by rw[←hq.out];exact hSL.x.size
      have hos:=hSL.seen
      rw[hk.out] at hos
      obtain⟨XL,hXL⟩:∃z,Hid (L.map (·.1)=z):=⟨_,rfl⟩
      rw[hXL.out] at hos
      have hk5:=hrow.out.2.2.2.2.2.2.2
      have hc5:=hrow.out.2.2.2.1
      replace hSL:=Lib.hid hSL
      replace hnL:=Lib.hid hnL
      clear hh
      obtain⟨M,hM⟩:∃z,Hid (st.vis.length=z):=⟨_,rfl⟩
      obtain⟨XS,hXS⟩:∃z,Hid (intsN st.vis=z):=⟨_,rfl⟩
      have hlm:=hlen.1
      rw[hM.out] at hlm
      go_wp2_with (first
       | (refine wpList_app el_sch _ rfl (.tmp 45) (.tmp 47) rfl q (.slice A' k c') k XL rfl hos (some ⟨w4.heap.size, 0, none⟩) 1 1 [.slice A3 n3 c3] rfl hrv rfl (fun h => by cases h) (by simp [Value.oneCell']) (by omega) (by omega) hqL (fun sV' W' ho' hg' hv' => ?_)
          have hnx:=hSL.out.grow_seen (s:=s) HP.out hnL.out (by rw[hk.out,hXL.out];exact ho') hg'
          have kv':=hnx.blk.cell 1
          simp only[List.getElem?_toArray,List.getElem?_cons_zero,List.getElem?_cons_succ] at kv'
          have hSM:=hnx.ext ((Ext.refl W').alloc (.cells #[.int .i64 (i:Int)] 3))
          have hov:=hSM.vis
          have hqM:q≤(W'.alloc (.cells #[.int .i64 (i:Int)] 3)).heap.size:=by rw[←hq.out];exact hSM.x.size
          have hrw:Rd (W'.alloc (.cells #[.int .i64 (i:Int)] 3)) (some ⟨W'.heap.size,0,none⟩) (intsN [i]):=by have:=Rd.of_block W' 3 (0,0) (cs := #[.int .i64 (i:Int)]) rfl;simpa [intsN] using this
          simp only[hM.out,hXS.out] at hov
          replace hSM:=Lib.hid hSM
          obtain⟨A8,c8,e8,jj⟩:=Rd.of_own ho'
          clear jj hg' hv' hrv hqL hos ho' hnx
          subst e8)
       | (refine wpList_app el_in _ rfl (.tmp 50) (.tmp 52) rfl q vV M XS rfl hov (some ⟨W'.heap.size, 0, none⟩) 1 1 (intsN [i]) rfl hrw rfl (fun h => by cases h) (intsN_one _) (by omega) (by omega) hqM (fun vV' W2 ho' hg' hv' => ?_)
          have hb':=hSM.out.blk.grown hg' (own_ne_blk hSM.out.vis hSM.out.blk (by decide))
          have k2':=hb'.cell 1
          have f2':=hb'.frozen 1
          simp only[List.getElem?_toArray,List.getElem?_cons_zero,List.getElem?_cons_succ] at k2'
          have hny:=(hSM.out.grow_vis (i:=i) (by simp only[hM.out,hXS.out];exact ho') hg' hv').cast hst2.out
          replace hny:=Lib.hid hny
          obtain⟨A9,c9,e9,jj⟩:=Rd.of_own ho'
          clear jj hg' hv' hb' hrw hqM hov ho'
          subst e9))
      go_roundw
      case rel=>exact⟨i+1,_,_,_,by omega,by go_num,hny.out⟩
      case measure=>simp[intOf]<;>omega
     | false=>
      have hst2:=hstep.out.trans (admS_no4 (s:=st) (i:=i) (e:=⟨false,p,s,id⟩) rfl hv).symm
      replace hst2:=Lib.hid hst2
      rw[hv] at hh
      clear hv
      replace hh:=Lib.hid hh
      go_wp2_with fail
      rw[hw3.out,hq7.out]
      refine hh.out.mono ?_
      rintro en w4 ⟨rfl,hx4⟩
      have hxr4:=hxr3.trans hx4
      clear hh
      have hxL:Ext (w4) ((w4).alloc (.cells #[.int .i64 (i:Int)] 3)):=(Ext.refl _).alloc _
      have hSL:=(hS.out.ext hxr4).ext hxL
      have k2:=(hS.out.ext hxr4).blk.cell 2
      simp only[List.getElem?_toArray,List.getElem?_cons_zero,List.getElem?_cons_succ] at k2
      have hrv:Rd ((w4).alloc (.cells #[.int .i64 (i:Int)] 3)) (some ⟨(w4).heap.size,0,none⟩) (intsN [i]):=by have:=Rd.of_block (w4) 3 (0,0) (cs := #[.int .i64 (i:Int)]) rfl;simpa [intsN] using this
      have hqL:q≤((w4).alloc (.cells #[.int .i64 (i:Int)] 3)).heap.size:=by rw[←hq.out];exact hSL.x.size
      have hoh:=hSL.held
      obtain⟨M,hM⟩:∃z,Hid (st.held.length=z):=⟨_,rfl⟩
      obtain⟨XS,hXS⟩:∃z,Hid (intsN st.held=z):=⟨_,rfl⟩
      have hlm:=hlen.2.1
      rw[hM.out] at hlm hoh
      rw[hXS.out] at hoh
      clear hxL
      replace hSL:=Lib.hid hSL
      go_wp2_with (
       refine wpList_app el_in _ rfl (.tmp 56) (.tmp 58) rfl q hV M XS rfl hoh (some ⟨(w4).heap.size,0,none⟩) 1 1 (intsN [i]) rfl hrv rfl (fun h=>by cases h) (intsN_one _) (by omega) (by omega) hqL (fun hV' W' ho' hg' hv'=>?_)
       have hb':=hSL.out.blk.grown hg' (own_ne_blk hSL.out.held hSL.out.blk (by decide))
       have k2':=hb'.cell 2
       have f2':=hb'.frozen 2
       simp only[List.getElem?_toArray,List.getElem?_cons_zero,List.getElem?_cons_succ] at k2'
       have hnx:=hSL.out.grow_held (i:=i) (by rw[hM.out,hXS.out];exact ho') hg' hv'
       rw[←hst2.out] at hnx
       replace hnx:=Lib.hid hnx
       obtain⟨A9,c9,e9,jj⟩:=Rd.of_own ho'
       clear jj hg' hv' hb' hrv hqL hoh ho'
       subst e9)
      go_roundw
      case rel=>exact⟨i+1,_,_,_,by omega,by go_num,hnx.out⟩
      case measure=>simp[intOf]<;>omega
  ·obtain rfl:i=n:=by omega
   obtain⟨A1,c1,rfl,jj⟩:=Rd.of_own hS.vis
   clear jj
   obtain⟨A2,c2,rfl,jj⟩:=Rd.of_own hS.held
   clear jj
   have hb0:=b1.ext hS.x
   have hf:=fin.out _ _ sV L wr hS
   have hbq:=hS.blk
   obtain⟨P0,hP0⟩:∃z,Hid ((admA l i).p=z):=⟨_,rfl⟩
   obtain⟨N1,hN1⟩:∃z,Hid ((admA l i).vis.length=z):=⟨_,rfl⟩
   obtain⟨N2,hN2⟩:∃z,Hid ((admA l i).held.length=z):=⟨_,rfl⟩
   rw[hP0.out,hN1.out,hN2.out] at hbq hf
   have k0:=hbq.cell 0
   have k1:=hbq.cell 1
   have k2:=hbq.cell 2
   have m0:=hb0.cell 0
   have m1:=hb0.cell 1
   have m2:=hb0.cell 2
   have f0:=hb0.frozen 0
   have f1:=hb0.frozen 1
   have f2:=hb0.frozen 2
   simp only[List.getElem?_toArray,List.getElem?_cons_zero,List.getElem?_cons_succ] at k0 k1 k2 m0 m1 m2
   have hbF:=((hb0.set 0 (.int .i64 P0)).set 1 (.slice A1 N1 c1)).set 2 (.slice A2 N2 c2)
   replace hf:=hf _ (.int .i64 P0) (.slice A1 N1 c1) (.slice A2 N2 c2) hb0
   clear hbq hb0 hS
   go_wp2_with fail
   refine bodyPost_ret (resAdm rfl (by simpa using hbF)) rfl ?_
   exact hf
theorem rTexts_any (A:Option Addr) (n c:Nat) (l:List Et) (B:Option Addr) (m d:Nat) (a:List Int) (w:World) (hr:Rd w A (entsZ l)) (hn:l.length=n) (hra:Rd w B (a.map (Value.int .i64))) (hm:a.length=m) (hn1:n≤1048576) (hm1:m≤1048576) :
  Calls Tryz.prog 36 #[.slice A n c,.slice B m d] w fun en w'=>(∃A' c',en=.returned (.slice A' (txtP l a).length c')∧Rd w' A' (txs (txtP l a)))∧Ext w w':=by
 obtain⟨PO,hPO⟩:∃PO:Ending→World→Prop,Hid ((fun en w'=>(∃A' c',en=.returned (.slice A' (txtP l a).length c')∧Rd w' A' (txs (txtP l a)))∧Ext w w')=PO):=⟨_,Lib.hid rfl⟩
 rw[hPO.out]
 have fin:∀V W,TS w.heap.size w l a m V W→PO (.returned V) W:=fun V W h=>by
  obtain⟨A',c',rfl,h2⟩:=h.fin hm
  rw[←hPO.out]
  exact⟨⟨A',c',rfl,h2⟩,h.x⟩
 replace fin:=Lib.hid fin
 have Hn:=Lib.hid hn
 have Hm:=Lib.hid hm
 clear hn hm
 have hS0:TS w.heap.size w l a 0 (.slice (some ⟨w.heap.size,0,none⟩) 0 0) (w.alloc (.cells #[] 9)):=⟨World.ownsRow_lit w #[] 0 (Nat.le_refl _) (Nat.zero_le _) rfl,(Ext.refl w).alloc _⟩
 obtain⟨w1,hw1⟩:∃z,Hid (w.alloc (.cells #[] 9)=z):=⟨_,rfl⟩
 obtain⟨q,hq⟩:∃z,Hid (w.heap.size=z):=⟨_,rfl⟩
 rw[hq.out] at fin hS0
 rw[hw1.out] at hS0
 go_enter Tryz.func36,Tryz.ntmps36
 go_wp2_with fail
 rw[hw1.out,hq.out]
 go_loopw [5,6,8,9,10,11,12,13,14,15,16,17,18,19,20,21,22,23,24,25,26,27,28,29,30,31,32,33,34,35,36,37,38] (fun v5 v6 v8 v9 v10 v11 v12 v13 v14 v15 v16 v17 v18 v19 v20 v21 v22 v23 v24 v25 v26 v27 v28 v29 v30 v31 v32 v33 v34 v35 v36 v37 v38 wr=>∃i:Nat,i≤m∧v6=.int .i64 (i:Int)∧TS q w l a i v5 wr) (fun _ v6 _ _ _ _ _ _ _ _ _ _ _ _ _ _ _ _ _ _ _ _ _ _ _ _ _ _ _ _ _ _ _ _=>m-(intOf v6).toNat)
 case atStart=>exact⟨0,Nat.zero_le _,rfl,hS0⟩
 case round=>
  obtain⟨i,hi,rfl,hS⟩:=hrel
  obtain⟨V,hV⟩:∃z,z=u5:=⟨_,rfl⟩
  rw[←hV] at hS ⊢
  clear hV hS0
  by_cases hin:i<m
  ·have hin':(i:Int)<(m:Int):=by omega
   obtain⟨x,hme⟩:∃z,a[i]?=some z:=⟨_,List.getElem?_eq_getElem (by have:=Hm.out;omega)⟩
   obtain⟨b,off,rfl,hzz,hc⟩:=(hra.ext hS.x).at_ (k:=i) (by simp only[List.length_map];have:=Hm.out;omega)
   clear hzz
   have hck:wr.cell? ⟨b,off+i,none⟩=some (.int .i64 x):=hc i _ (by simp[hme])
   clear hc
   have Hme:=Lib.hid hme
   clear hme
   by_cases hx0:0≤x
   ·obtain⟨k,rfl⟩:∃k:Nat,x=(k:Int):=⟨x.toNat,by omega⟩
    by_cases hkn:k<n
    ·have hkn':(k:Int)<(n:Int):=by omega
     obtain⟨e,he⟩:∃z,l[k]?=some z:=⟨_,List.getElem?_eq_getElem (by have:=Hn.out;omega)⟩
     have He:=Lib.hid he
     obtain⟨b2,o2,rfl,hzz,hc2⟩:=(hr.ext hS.x).at_ (k:=k*4+2) (by rw[entsZ_len];have:=Hn.out;omega)
     clear hzz
     have hc4:wr.cell? ⟨b2,o2+k*4+2,none⟩=some (.string e.s):=by
      have:=hc2 (k*4+2) (.string e.s) (by rw[entsZ_at l k e he 2 (by omega)];rfl)
      rw[Nat.add_assoc];exact this
     clear hc2 he
     obtain⟨s,hs⟩:∃z,Hid (e.s=z):=⟨_,rfl⟩
     rw[hs.out] at hc4
     have hxL:Ext wr (wr.alloc (.cells #[.string s] 9)):=(Ext.refl wr).alloc _
     have hSL:=hS.ext hxL
     have hln:=hS.len
     rw[Hm.out] at hln
     have hqL:q≤(wr.alloc (.cells #[.string s] 9)).heap.size:=by rw[←hq.out];exact hSL.x.size
     have hrv:Rd (wr.alloc (.cells #[.string s] 9)) (some ⟨wr.heap.size,0,none⟩) (txs [s]):=Rd.of_block wr 9 (0,0) rfl
     obtain⟨N,hN⟩:∃z,Hid ((txtP l (a.take i)).length=z):=⟨_,rfl⟩
     have ho:=hSL.own
     rw[hN.out] at hln ho
     clear hS hxL
     go_wp2_with (
      refine wpList_app el_st _ rfl (.tmp 28) (.tmp 37) rfl q V N (txs (txtP l (a.take i))) rfl ho (some ⟨wr.heap.size,0,none⟩) 1 1 (txs [s]) rfl hrv rfl (fun h=>by cases h) (txs_one _) (by omega) (by omega) hqL (fun V' W' ho' hg' hv'=>?_)
      have hnx:=hSL.hit (by rw[hq.out];exact Nat.le_refl _) Hme.out He.out (by rw[hN.out,hs.out];exact ho') hg'
      clear ho' hg' hv' hSL hrv hqL ho)
     go_roundw
     case rel=>exact⟨i+1,by omega,by go_num,hnx⟩
     case measure=>simp[intOf]<;>omega
    ·have hkn':¬(k:Int)<(n:Int):=by omega
     have hnx:=hS.miss Hme.out (by have:=Hn.out;omega)
     clear hS
     go_wp2_with fail
     go_roundw
     case rel=>exact⟨i+1,by omega,by go_num,hnx⟩
     case measure=>simp[intOf]<;>omega
   ·have hnx:=hS.miss Hme.out (by omega)
    clear hS
    go_wp2_with fail
    go_roundw
    case rel=>exact⟨i+1,by omega,by go_num,hnx⟩
    case measure=>simp[intOf]<;>omega
  ·obtain rfl:i=m:=by omega
   have hf:=fin.out V wr hS
   clear hS
   go_wp2_with fail
   exact hf
end Pl
end Go.Proofs.YtmaoochjbpohdaaGreatDoor
