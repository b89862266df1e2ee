/- parse: the reader's small steps. -/
import Derived.Test.YtmaoochjbpohdaaGreatDoorPvE
set_option linter.unusedVariables false
set_option linter.unusedSimpArgs false
set_option maxRecDepth 100000
set_option maxHeartbeats 1000000
open Go.ChangeShapes Go.WideShapes Go.ChangeAt Go.RowKit
namespace Go.Proofs.YtmaoochjbpohdaaGreatDoor
namespace Pr
open Base Lx Mi
section
variable {B R M:Nat} {vl vn:Value} {vs:List V3} {s:PS}
theorem fail_any (why:Int) (w:World) (h:Rs B w R M vl vn vs s):Calls Tryz.prog 124 #[.pointer (some ⟨R,0,none⟩),.int .i64 why] w fun e w'=>e=.panicked [{ v:=.iface 147 (.agg #[.int .i64 ((hd s.l).a:Int),.int .i64 why]),recovered:=false }]∧w=w':=by
 obtain⟨tg,off,cap,rfl,hp,hnc,hcm,hh⟩:=h.head
 obtain⟨c0,c1,c2,f0,f1⟩:=h.cells
 obtain⟨k0,k1,k2⟩:=hh w (Ext.refl w)
 obtain⟨n,hn⟩:∃n,Hid (s.l.length=n):=⟨_,rfl⟩
 rw[hn.out] at c0 hp
 have hp':(0:Int)<(n:Int):=by omega
 go_enter Tryz.func124,Tryz.ntmps124
 go_wp2_with fail
 exact⟨rfl,rfl,rfl⟩
theorem is_any (x:ByteArray) (w:World) (h:Rs B w R M vl vn vs s):Calls Tryz.prog 152 #[.pointer (some ⟨R,0,none⟩),.string x] w fun e w'=>e=.returned (.bool (isT s x))∧w=w':=by
 obtain⟨tg,off,cap,rfl,hp,hnc,hcm,hh⟩:=h.head
 obtain⟨c0,c1,c2,f0,f1⟩:=h.cells
 obtain⟨k0,k1,k2⟩:=hh w (Ext.refl w)
 obtain⟨n,hn⟩:∃n,Hid (s.l.length=n):=⟨_,rfl⟩
 rw[hn.out] at c0 hp
 obtain⟨t,ht⟩:∃t,Hid (hd s.l=t):=⟨_,rfl⟩
 rw[ht.out] at k0 k1 k2
 have hp':(0:Int)<(n:Int):=by omega
 by_cases hk:t.k=3
 ·have e:isT s x=false:=by simp[isT,ht.out,hk]
  rw[e]
  rw[hk] at k0
  go_enter Tryz.func152,Tryz.ntmps152
  go_wp2_with fail
  go_ret
  exact⟨rfl,rfl⟩
 ·have hkb:((t.k:Int) == 3)=false:=by simpa using hk
  have hkn:((t.k:Int) != 3)=true:=by simpa using hk
  by_cases hx:t.s=x
  ·have e:isT s x=true:=by simp[isT,ht.out,hk,hx]
   rw[e]
   rw[hx] at k1
   go_enter Tryz.func152,Tryz.ntmps152
   go_wp2_with fail
   go_ret
   exact⟨rfl,rfl⟩
  ·have e:isT s x=false:=by simp[isT,ht.out,hx]
   rw[e]
   have hbq:=str_ne hx
   go_enter Tryz.func152,Tryz.ntmps152
   go_wp2_with fail
   go_ret
   exact⟨rfl,rfl⟩
theorem isT_k {x:ByteArray} (h:isT s x=true):(hd s.l).k≠3:=by
 unfold isT at h
 simp only[Bool.and_eq_true,decide_eq_true_eq] at h
 exact h.1
end
def PL (B R M:Nat) (w:World) (vn:Value) (vs:List V3) {α:Type} (enc:α→Value) (r:Res α) (e:Ending) (w':World):Prop:=match r with
 | .ok a s'=>e=.returned (enc a)∧Chg (fun k=>k=R) w w'∧∃vl',Rs B w' R M vl' vn vs s'
 | .bad a y=>e=.panicked (stopV a y)∧Chg (fun k=>k=R) w w'
def Old (w:World) (vs:List V3) (i:Nat) (p:V3→Value) (v':V3):Prop:=∀k,(p v').ownBlock=some k→w.heap.size≤k∨∃v,vs[i]?=some v∧(p v).ownBlock=some k
def SF (w:World) (vs vs':List V3):Prop:=∀(i:Nat) v',vs'[i]?=some v'→Old w vs i (fun v=>v.1) v'∧Old w vs i (fun v=>v.2.1) v'∧Old w vs i (fun v=>v.2.2) v'
theorem SF.refl (w:World) (vs:List V3):SF w vs vs:=fun i v' h=>⟨fun k hk=>.inr ⟨v',h,hk⟩,fun k hk=>.inr ⟨v',h,hk⟩,fun k hk=>.inr ⟨v',h,hk⟩⟩
theorem SF.trans {w w2:World} {a b c:List V3} (h:SF w a b) (k:SF w2 b c) (hs:w.heap.size≤w2.heap.size):SF w a c:=fun i v' hv=>by
 obtain⟨k1,k2,k3⟩:=k i v' hv
 refine⟨fun q hq=>?_,fun q hq=>?_,fun q hq=>?_⟩
 ·rcases k1 q hq with e|⟨v,e1,e2⟩
  ·exact .inl (by omega)
  ·exact (h i v e1).1 q e2
 ·rcases k2 q hq with e|⟨v,e1,e2⟩
  ·exact .inl (by omega)
  ·exact (h i v e1).2.1 q e2
 ·rcases k3 q hq with e|⟨v,e1,e2⟩
  ·exact .inl (by omega)
  ·exact (h i v e1).2.2 q e2
def PW (B R M:Nat) (w:World) (vn:Value) (vs:List V3) {α:Type} (enc:α→Value) (r:Res α) (e:Ending) (w':World):Prop:=match r with
 | .ok a s'=>e=.returned (enc a)∧Chg (Wr R M vn) w w'∧∃vl' vn' vs',Rs B w' R M vl' vn' vs' s'∧Fresh w vn vn'∧SF w vs vs'
 | .bad a y=>e=.panicked (stopV a y)∧Chg (Wr R M vn) w w'
section
variable {B R M:Nat} {vl vn:Value} {vs:List V3} {s:PS} {w w':World} {e:Ending} {α:Type} {enc:α→Value} {r:Res α}
theorem PL.cases (h:PL B R M w vn vs enc r e w'):(∃a s' vl',Hid (r=.ok a s')∧e=.returned (enc a)∧Chg (fun k=>k=R) w w'∧Rs B w' R M vl' vn vs s')∨(∃a y,Hid (r=.bad a y)∧e=.panicked (stopV a y)∧Chg (fun k=>k=R) w w'):=by
 unfold PL at h
 cases r with
 | ok a s'=>obtain⟨h1,h2,vl',h3⟩:=h;exact .inl ⟨a,s',vl',Lib.hid rfl,h1,h2,h3⟩
 | bad a y=>exact .inr ⟨a,y,Lib.hid rfl,h.1,h.2⟩
theorem PW.cases (h:PW B R M w vn vs enc r e w'):(∃a s' vl' vn' vs',Hid (r=.ok a s')∧e=.returned (enc a)∧Chg (Wr R M vn) w w'∧Rs B w' R M vl' vn' vs' s'∧Fresh w vn vn'∧SF w vs vs')∨(∃a y,Hid (r=.bad a y)∧e=.panicked (stopV a y)∧Chg (Wr R M vn) w w'):=by
 unfold PW at h
 cases r with
 | ok a s'=>obtain⟨h1,h2,vl',vn',vs',h3,h4⟩:=h;exact .inl ⟨a,s',vl',vn',vs',Lib.hid rfl,h1,h2,h3,h4⟩
 | bad a y=>exact .inr ⟨a,y,Lib.hid rfl,h.1,h.2⟩
theorem PL.okI {a:α} {s':PS} {vl':Value} (hr:r=.ok a s') (he:e=.returned (enc a)) (hc:Chg (fun k=>k=R) w w') (hs:Rs B w' R M vl' vn vs s'):PL B R M w vn vs enc r e w':=by subst hr;exact⟨he,hc,vl',hs⟩
theorem PL.badI {a y:Nat} (hr:r=.bad a y) (he:e=.panicked (stopV a y)) (hc:Chg (fun k=>k=R) w w'):PL B R M w vn vs enc r e w':=by subst hr;exact⟨he,hc⟩
theorem PW.okI {a:α} {s':PS} {vl' vn':Value} {vs':List V3} (hr:r=.ok a s') (he:e=.returned (enc a)) (hc:Chg (Wr R M vn) w w') (hs:Rs B w' R M vl' vn' vs' s') (hf:Fresh w vn vn') (hg:SF w vs vs'):PW B R M w vn vs enc r e w':=by subst hr;exact⟨he,hc,vl',vn',vs',hs,hf,hg⟩
theorem PW.badI {a y:Nat} (hr:r=.bad a y) (he:e=.panicked (stopV a y)) (hc:Chg (Wr R M vn) w w'):PW B R M w vn vs enc r e w':=by subst hr;exact⟨he,hc⟩
theorem PL.pw (h:PL B R M w vn vs enc r e w'):PW B R M w vn vs enc r e w':=by
 unfold PL at h;unfold PW
 cases r with
 | ok a s'=>obtain⟨h1,h2,vl',h3⟩:=h;exact⟨h1,h2.mono fun k _ e=>.inl e,vl',vn,vs,h3,.inl rfl,SF.refl _ _⟩
 | bad a y=>exact⟨h.1,h.2.mono fun k _ e=>.inl e⟩
theorem must_any (x:ByteArray) (w:World) (h:Rs B w R M vl vn vs s):Calls Tryz.prog 156 #[.pointer (some ⟨R,0,none⟩),.string x] w fun e w'=>PL B R M w vn vs (fun _=>.tuple #[]) (mustR s x) e w':=by
 have his:=is_any x w h
 have hf:=fail_any 4 w h
 by_cases ht:isT s x=true
 ·have hk:=isT_k ht
  have hr:mustR s x=.ok () s.on:=by simp[mustR,ht]
  rw[ht] at his
  rw[hr]
  have Ht:=Lib.hid ht
  clear ht hr
  obtain⟨tg,off,cap,rfl,hp,hnc,hcm,hh⟩:=h.head
  obtain⟨c0,c1,c2,f0,f1⟩:=h.cells
  have hl:=(h.tok.tail hk).2
  have hp2:=(h.tok.tail hk).1.pos
  have hon:=h.on hk
  obtain⟨n,hn⟩:∃n,Hid (s.l.length=n):=⟨_,rfl⟩
  rw[hn.out] at c0 hp hnc hl hon
  have hi1:1≤n:=hp
  have hc1:¬cap=1:=by omega
  have hcI:(1:Int)≤(n:Int):=by omega
  go_enter Tryz.func156,Tryz.ntmps156
  go_wp2_with fail
  refine his.mono ?_
  rintro e w1 ⟨rfl,rfl⟩
  go_wp2_with fail
  go_end0
  exact PL.okI rfl rfl (Chg.one w R 0 _) hon
 ·have ht':isT s x=false:=by simpa using ht
  have hr:mustR s x=.bad (hd s.l).a 4:=by simp[mustR,ht',failR]
  rw[ht'] at his
  rw[hr]
  clear ht ht' hr
  go_enter Tryz.func156,Tryz.ntmps156
  go_wp2_with fail
  refine his.mono ?_
  rintro e w1 ⟨rfl,rfl⟩
  go_wp2_with fail
  refine hf.mono ?_
  rintro e w1 ⟨rfl,rfl⟩
  go_wp2_with fail
  exact⟨rfl,PL.badI rfl rfl (Chg.refl _ _)⟩
theorem goes_any (x:ByteArray) (w:World) (h:Rs B w R M vl vn vs s):Calls Tryz.prog 157 #[.pointer (some ⟨R,0,none⟩),.string x] w fun e w'=>e=.returned (.bool (isT s x))∧Chg (fun k=>k=R) w w'∧∃vl',Rs B w' R M vl' vn vs (goesR s x).2:=by
 have his:=is_any x w h
 by_cases ht:isT s x=true
 ·have hk:=isT_k ht
  have hr:(goesR s x).2=s.on:=by simp[goesR,ht]
  rw[ht] at his
  rw[hr,ht]
  have Ht:=Lib.hid ht
  clear ht hr
  obtain⟨tg,off,cap,rfl,hp,hnc,hcm,hh⟩:=h.head
  obtain⟨c0,c1,c2,f0,f1⟩:=h.cells
  have hl:=(h.tok.tail hk).2
  have hp2:=(h.tok.tail hk).1.pos
  have hon:=h.on hk
  obtain⟨n,hn⟩:∃n,Hid (s.l.length=n):=⟨_,rfl⟩
  rw[hn.out] at c0 hp hnc hl hon
  have hi1:1≤n:=hp
  have hc1:¬cap=1:=by omega
  have hcI:(1:Int)≤(n:Int):=by omega
  go_enter Tryz.func157,Tryz.ntmps157
  go_wp2_with fail
  refine his.mono ?_
  rintro e w1 ⟨rfl,rfl⟩
  go_wp2_with fail
  go_ret
  exact⟨rfl,Chg.one w R 0 _,_,hon⟩
 ·have ht':isT s x=false:=by simpa using ht
  have hr:(goesR s x).2=s:=by simp[goesR,ht']
  rw[ht'] at his
  rw[hr,ht']
  clear ht ht' hr
  go_enter Tryz.func157,Tryz.ntmps157
  go_wp2_with fail
  refine his.mono ?_
  rintro e w1 ⟨rfl,rfl⟩
  go_wp2_with fail
  go_ret
  exact⟨rfl,Chg.refl _ _,_,h⟩
end
section
variable {B R M:Nat} {vl vn:Value} {vs:List V3} {s:PS}
theorem defined1_any (x:ByteArray) (q:Addr) (w:World) (h:Rs B w R M vl vn vs s) (hx:x.size≤maxLen) (hq:w.cell? q=some (.pointer (some ⟨R,0,none⟩))) :
  Calls Tryz.prog 159 #[.string x,.pointer (some q)] w fun e w'=>e=.returned (.bool (s.nm x).isSome)∧w=w':=by
 obtain⟨c0,c1,c2,f0,f1⟩:=h.cells
 obtain⟨cnt,hm,hc⟩:=h.named
 have hl:=hm.look_ok mt x hx
 obtain⟨o,ho⟩:∃o,Hid (s.nm x=o):=⟨_,rfl⟩
 rw[ho.out] at hl ⊢
 go_enter Tryz.func159,Tryz.ntmps159
 go_wp2_with fail
 go_ret
 exact⟨rfl,rfl⟩
theorem syms1_any (x:ByteArray) (q:Addr) (A:Option Addr) (n c:Nat) (l:List ByteArray) (w:World) (hr:Rd w A (txs l)) (hn:l.length=n) (hl:n≤100000) (hq:w.cell? q=some (.slice A n c)) :
  Calls Tryz.prog 168 #[.string x,.pointer (some q)] w fun e w'=>e=.returned (.bool (l.any fun y=>decide (y=x)))∧w=w':=by
 have hc:=contains_str A n c l x w hr hn hl
 obtain⟨o,ho⟩:∃o,Hid ((l.any fun y=>decide (y=x))=o):=⟨_,rfl⟩
 rw[ho.out] at hc ⊢
 go_enter Tryz.func168,Tryz.ntmps168
 go_wp2_with fail
 refine hc.mono ?_
 rintro e w1 ⟨rfl,rfl⟩
 go_wp2_with fail
 go_ret
 exact⟨rfl,rfl⟩
theorem flds_length (l:List (ByteArray×Bool×Nat)):(flds l).length=l.length*3:=by
 induction l with
 | nil=>rfl
 | cons x l ih=>rw[flds,List.flatMap_cons,List.length_append];unfold flds at ih;rw[ih];simp[fldC];omega
theorem flds_at:∀(l:List (ByteArray×Bool×Nat)) (j:Nat) (x:ByteArray×Bool×Nat),l[j]?=some x→∀i,i<3→(flds l)[j*3+i]?=(fldC x)[i]?
 | [],j,x,h,i,hi=>by simp at h
 | y::l,0,x,h,i,hi=>by
  simp at h;subst h
  rw[flds,List.flatMap_cons,List.getElem?_append_left (by simp[fldC];omega)]
  congr 1;omega
 | y::l,j+1,x,h,i,hi=>by
  have ih:=flds_at l j x (by simpa using h) i hi
  rw[flds,List.flatMap_cons,List.getElem?_append_right (by simp[fldC];omega)]
  rw[←ih]
  unfold flds
  congr 1
  simp[fldC];omega
theorem flds_cell {w:World} {A:Option Addr} {l:List (ByteArray×Bool×Nat)} (hr:Rd w A (flds l)) (j:Nat) (x:ByteArray×Bool×Nat) (hx:l[j]?=some x):∃b off,A=some ⟨b,off,none⟩∧∀W,Ext w W→W.cell? ⟨b,off+j*3,none⟩=some (.string x.1)∧W.cell? ⟨b,off+j*3+1,none⟩=some (.bool x.2.1)∧W.cell? ⟨b,off+j*3+2,none⟩=some (.int .i64 (x.2.2:Int)):=by
 have hi:=(List.getElem?_eq_some_iff.1 hx).1
 obtain⟨b,off,e,h⟩:=hr (fun e=>by have:=flds_length l;rw[e] at this;simp only[List.length_nil] at this;omega)
 refine⟨b,off,e,fun W hW=>⟨?_,?_,?_⟩⟩
 ·exact hW.cell (h (j*3+0) _ (by rw[flds_at l j x hx 0 (by omega)];rfl))
 ·rw[Nat.add_assoc];exact hW.cell (h (j*3+1) _ (by rw[flds_at l j x hx 1 (by omega)];rfl))
 ·rw[Nat.add_assoc];exact hW.cell (h (j*3+2) _ (by rw[flds_at l j x hx 2 (by omega)];rfl))
theorem fields11_any (f:ByteArray×Bool×Nat) (x:ByteArray) (q:Addr) (w:World) (hq:w.cell? q=some (.string x)) :
  Calls Tryz.prog 171 #[.agg (fldC f).toArray,.pointer (some q)] w fun e w'=>e=.returned (.bool (decide (f.1=x)))∧Ext w w':=by
 obtain⟨y,b,t⟩:=f
 have hq2:(w.alloc (.cells #[.string y,.bool b,.int .i64 (t:Int)] 38)).cell? q=some (.string x):=((Ext.refl w).alloc _).cell hq
 have hx2:Ext w (w.alloc (.cells #[.string y,.bool b,.int .i64 (t:Int)] 38)):=(Ext.refl w).alloc _
 simp only[fldC]
 by_cases he:y=x
 ·subst he
  rw[show decide (y=y)=true by simp]
  go_enter Tryz.func171,Tryz.ntmps171
  go_wp2_with fail
  go_ret
  exact⟨rfl,hx2⟩
 ·have hbq:=str_ne he
  rw[show decide (y=x)=false by simpa using he]
  go_enter Tryz.func171,Tryz.ntmps171
  go_wp2_with fail
  go_ret
  exact⟨rfl,hx2⟩
def FNo (l:List (ByteArray×Bool×Nat)) (k:Nat) (x:ByteArray):Prop:=∀(j:Nat) f,j<k→l[j]?=some f→f.1≠x
theorem any_true {α:Type} {l:List α} {p:α→Bool} {i:Nat} {x:α} (h:l[i]?=some x) (hp:p x=true):l.any p=true:=by
 rw[List.any_eq_true];exact⟨x,List.mem_of_getElem? h,hp⟩
theorem any_false {α:Type} {l:List α} {p:α→Bool} (h:∀(i:Nat) x,l[i]?=some x→p x=false):l.any p=false:=by
 rw[List.any_eq_false]
 intro x hx
 obtain⟨i,hi⟩:=List.mem_iff_getElem?.1 hx
 rw[h i x hi];simp
set_option maxHeartbeats 800000 in
theorem indexFld_any (A:Option Addr) (n c:Nat) (l:List (ByteArray×Bool×Nat)) (q:Addr) (x:ByteArray) (w:World) (hr:Rd w A (flds l)) (hn:l.length=n) (hl:n≤100000) (hq:w.cell? q=some (.string x)) :
  Calls Tryz.prog 119 #[.slice A n c,.func (.func 171) #[] #[.pointer (some q)]] w fun e w'=>(∃r:Int,e=.returned (.int .i64 r)∧decide (0≤r)=l.any fun f=>decide (f.1=x))∧Ext w w':=by
 have Hn:=Lib.hid hn
 clear hn
 obtain⟨AN,hAN⟩:∃o,Hid ((l.any fun f=>decide (f.1=x))=o):=⟨_,rfl⟩
 rw[hAN.out]
 go_enter Tryz.func119,Tryz.ntmps119
 go_wp2_with fail
 go_loopw [5,8,9,10,11,12,13,14,15,16,18] (fun v5 v8 v9 v10 v11 v12 v13 v14 v15 v16 v18 wr=>∃i:Nat,i≤n∧v8=.int .i64 i∧FNo l i x∧Ext w wr) (fun _ v8 _ _ _ _ _ _ _ _ _ _=>n-(intOf v8).toNat)
 case atStart=>exact⟨0,by omega,rfl,fun k f h=>by omega,Ext.refl w⟩
 case round=>
  obtain⟨i,hi,rfl,h1,hx⟩:=hrel
  by_cases hin:i<n
  ·have hin':(i:Int)<(n:Int):=by omega
   obtain⟨f,hfe⟩:∃f,l[i]?=some f:=⟨_,List.getElem?_eq_getElem (by have:=Hn.out;omega)⟩
   obtain⟨b,off,rfl,hcs⟩:=flds_cell hr i f hfe
   obtain⟨d0,d1,d2⟩:=hcs wr hx
   clear hcs
   have hb:=fields11_any f x q wr (hx.cell hq)
   simp only[fldC] at hb
   have Hfe:=Lib.hid hfe
   clear hfe
   by_cases he:f.1=x
   ·have hb2:decide (f.1=x)=true:=by simp[he]
    rw[hb2] at hb
    have hat:AN=true:=by rw[←hAN.out];exact any_true Hfe.out hb2
    have Hat:=Lib.hid hat
    clear hat
    have he':=Lib.hid he
    clear he hb2
    go_wp2_with fail
    refine hb.mono ?_
    rintro e w1 ⟨rfl,hx2⟩
    go_wp2_with fail
    go_ret
    exact⟨⟨_,rfl,by rw[Hat.out];simp⟩,hx.trans hx2⟩
   ·have hb2:decide (f.1=x)=false:=by simpa using he
    rw[hb2] at hb
    go_wp2_with fail
    refine hb.mono ?_
    rintro e w1 ⟨rfl,hx2⟩
    go_wp2_with fail
    refine⟨⟨i+1,by omega,by go_num,?_,hx.trans hx2⟩,by simp[intOf];omega⟩
    intro k y hk hy
    rcases Nat.lt_or_ge k i with h|h
    ·exact h1 k y h hy
    ·obtain rfl:k=i:=by omega
     rw[Hfe.out] at hy
     injection hy with hy
     rw[←hy];exact he
  ·obtain rfl:i=n:=by omega
   have hat:AN=false:=by
    rw[←hAN.out]
    exact any_false fun j f hf=>by
     have:=h1 j f (by have:=(List.getElem?_eq_some_iff.1 hf).1;have:=Hn.out;omega) hf
     simpa using this
   have Hat:=Lib.hid hat
   clear hat
   go_wp2_with fail
   go_ret
   exact⟨⟨_,rfl,by rw[Hat.out];simp⟩,hx⟩
theorem containsFld_any (A:Option Addr) (n c:Nat) (l:List (ByteArray×Bool×Nat)) (q:Addr) (x:ByteArray) (w:World) (hr:Rd w A (flds l)) (hn:l.length=n) (hl:n≤100000) (hq:w.cell? q=some (.string x)) :
  Calls Tryz.prog 170 #[.slice A n c,.func (.func 171) #[] #[.pointer (some q)]] w fun e w'=>e=.returned (.bool (l.any fun f=>decide (f.1=x)))∧Ext w w':=by
 have hi:=indexFld_any A n c l q x w hr hn hl hq
 obtain⟨AN,hAN⟩:∃o,Hid ((l.any fun f=>decide (f.1=x))=o):=⟨_,rfl⟩
 rw[hAN.out] at hi ⊢
 go_enter Tryz.func170,Tryz.ntmps170
 go_wp2_with fail
 refine hi.mono ?_
 rintro e w1 ⟨⟨r,rfl,hr⟩,hx⟩
 subst hr
 go_wp2_with fail
 go_ret
 exact⟨rfl,hx⟩
theorem fields1_any (x:ByteArray) (q:Addr) (A:Option Addr) (n c:Nat) (l:List (ByteArray×Bool×Nat)) (w:World) (hr:Rd w A (flds l)) (hn:l.length=n) (hl:n≤100000) (hq:w.cell? q=some (.slice A n c)) :
  Calls Tryz.prog 169 #[.string x,.pointer (some q)] w fun e w'=>e=.returned (.bool (l.any fun f=>decide (f.1=x)))∧Ext w w':=by
 obtain⟨w1,hw1⟩:∃W,Hid (w.alloc (.cells #[.string x] 9)=W):=⟨_,rfl⟩
 have hx1:Ext w w1:=by rw[←hw1.out];exact (Ext.refl w).alloc _
 have hb1:Blk w1 w.heap.size #[.string x] 9:=by rw[←hw1.out];exact Blk.new w _ _
 have hq1:(w.alloc (.cells #[.string x] 9)).cell? q=some (.slice A n c):=((Ext.refl w).alloc _).cell hq
 have hi:=containsFld_any A n c l ⟨w.heap.size,0,none⟩ x w1 (hr.ext hx1) hn hl (hb1.cell 0)
 obtain⟨AN,hAN⟩:∃o,Hid ((l.any fun f=>decide (f.1=x))=o):=⟨_,rfl⟩
 rw[hAN.out] at hi ⊢
 go_enter Tryz.func169,Tryz.ntmps169
 go_wp2_with fail
 rw[hw1.out]
 refine hi.mono ?_
 rintro e w2 ⟨rfl,hx2⟩
 go_wp2_with fail
 go_ret
 exact⟨rfl,hx1.trans hx2⟩
theorem ndsC_at:∀(ns:List Nd) (vs:List V3) (j:Nat) (d:Nd) (v:V3),ns[j]?=some d→vs[j]?=some v→∀i,i<6→(ndsC ns vs)[j*6+i]?=(ndC d v)[i]?
 | [],vs,j,d,v,h,_,i,hi=>by simp at h
 | _::_,[],j,d,v,_,h,i,hi=>by simp at h
 | y::l,u::r,0,d,v,h,h2,i,hi=>by
  simp at h h2;subst h;subst h2
  rw[ndsC,List.getElem?_append_left (by simp[ndC];omega)]
  congr 1;omega
 | y::l,u::r,j+1,d,v,h,h2,i,hi=>by
  have ih:=ndsC_at l r j d v (by simpa using h) (by simpa using h2) i hi
  rw[ndsC,List.getElem?_append_right (by simp[ndC];omega)]
  rw[←ih]
  congr 1
  simp[ndC];omega
theorem ndsC_length:∀(ns:List Nd) (vs:List V3),vs.length=ns.length→(ndsC ns vs).length=ns.length*6
 | [],[],_=>rfl
 | [],_::_,h=>by simp at h
 | _::_,[],h=>by simp at h
 | d::ns,v::vs,h=>by
  rw[ndsC,List.length_append,ndsC_length ns vs (by simpa using h)]
  simp[ndC];omega
theorem ndsC_snoc:∀(ns:List Nd) (vs:List V3) (d:Nd) (v:V3),vs.length=ns.length→ndsC (ns++[d]) (vs++[v])=ndsC ns vs++ndC d v
 | [],[],d,v,_=>by simp[ndsC]
 | [],_::_,d,v,h=>by simp at h
 | _::_,[],d,v,h=>by simp at h
 | x::ns,y::vs,d,v,h=>by
  simp only[List.cons_append,ndsC]
  rw[ndsC_snoc ns vs d v (by simpa using h),List.append_assoc]
theorem Rs.node {w:World} (h:Rs B w R M vl vn vs s) (j:Nat) (hj:j<s.ns.length):∃d v b c,s.ns[j]?=some d∧vs[j]?=some v∧vn=.slice (some ⟨b,0,none⟩) s.ns.length c∧s.ns.length≤c∧c≤maxLen∧∀W,Ext w W→∀i,i<6→W.cell? ⟨b,j*6+i,none⟩=(ndC d v)[i]?:=by
 obtain⟨d,hd⟩:∃d,s.ns[j]?=some d:=⟨_,List.getElem?_eq_getElem hj⟩
 obtain⟨v,hv⟩:∃v,vs[j]?=some v:=⟨_,List.getElem?_eq_getElem (by rw[h.nds.len];exact hj)⟩
 rcases h.nds.row.2 with⟨_,h0⟩|⟨b,c,cur,e,hb,hg,h1,h2,h3,h4⟩
 ·omega
 ·refine⟨d,v,b,c,hd,hv,e,h1,h2,fun W hW i hi=>?_⟩
  have hbk:Blk w b cur 36:=hg
  rw[(hbk.ext hW).cell]
  have h5:=ndsC_at s.ns vs j d v hd hv i hi
  rw[←h4,List.getElem?_take,if_pos (by omega)] at h5
  rw[←h5]
  simp
set_option maxHeartbeats 800000 in
theorem typed1_any (m:Nat) (k:Int) (p4 p10:Addr) (w:World) (h:Rs B w R M vl vn vs s) (hm:m<s.ns.length) (h4:w.cell? p4=some (.pointer (some ⟨R,0,none⟩))) (h10:w.cell? p10=some (.int .i64 k)) :
  Calls Tryz.prog 137 #[.int .i64 (m:Int),.pointer (some p4),.pointer (some p10)] w fun e w'=>e=.returned (.bool (decide ((s.ns[m]?.map (·.k))=some k)))∧Ext w w':=by
 obtain⟨d,v,b,c,hd,hv,rfl,hc1,hc2,hc⟩:=h.node m hm
 have e4:∀W,Ext w W→W.cell? p4=some (.pointer (some ⟨R,0,none⟩)):=fun W hW=>hW.cell h4
 have e10:∀W,Ext w W→W.cell? p10=some (.int .i64 k):=fun W hW=>hW.cell h10
 obtain⟨n,hn⟩:∃n,Hid (s.ns.length=n):=⟨_,rfl⟩
 have e1:∀W,Ext w W→W.cell? ⟨R,1,none⟩=some (.slice (some ⟨b,0,none⟩) n c):=fun W hW=>by rw[←hn.out];exact (h.ext hW).cells.2.1
 have ek:∀W,Ext w W→W.cell? ⟨b,m*6,none⟩=some (.int .i64 d.k):=fun W hW=>by have:=hc W hW 0 (by omega);simpa [ndC] using this
 have hmn:(m:Int)<(n:Int):=by have:=hn.out;omega
 rw[hd]
 simp only[Option.map_some,Option.some.injEq]
 clear hd hv hc h4 h10
 go_enter Tryz.func137,Tryz.ntmps137
 go_wp2_with fail
 refine Reg.startE (by kernel_rfl) ?_
 iterate 11 ((first|refine Reg.tn ?_|refine Reg.sn ?_);(try simp only[Reg.nn]))
 refine Reg.fin (by kernel_rfl) (fun W hW=>?_)
 go_wp2_with fail
 go_ret
 have hb:(d.k == k)=decide (d.k=k):=by by_cases e:d.k=k<;>simp[e]
 rw[←hb]
 exact⟨rfl,hW⟩
def INo (s:PS) (l:List Nat) (i:Nat) (k:Int):Prop:=∀(j:Nat) m,j<i→l[j]?=some m→decide ((s.ns[m]?.map (·.k))=some k)=false
set_option maxHeartbeats 800000 in
theorem indexInt_any (A:Option Addr) (n c:Nat) (l:List Nat) (k:Int) (p4 p10:Addr) (w:World) (h:Rs B w R M vl vn vs s) (hr:Rd w A (ints l)) (hn:l.length=n) (hl:n≤100000) (hm:∀m∈l,m<s.ns.length) (h4:w.cell? p4=some (.pointer (some ⟨R,0,none⟩))) (h10:w.cell? p10=some (.int .i64 k)) :
  Calls Tryz.prog 116 #[.slice A n c,.func (.func 137) #[] #[.pointer (some p4),.pointer (some p10)]] w fun e w'=>(∃r:Int,e=.returned (.int .i64 r)∧decide (0≤r)=l.any fun m=>decide ((s.ns[m]?.map (·.k))=some k))∧Ext w w':=by
 have Hn:=Lib.hid hn
 clear hn
 obtain⟨AN,hAN⟩:∃o,Hid ((l.any fun m=>decide ((s.ns[m]?.map (·.k))=some k))=o):=⟨_,rfl⟩
 rw[hAN.out]
 go_enter Tryz.func116,Tryz.ntmps116
 go_wp2_with fail
 go_loopw [5,8,9,10,11,12,13,14,15,16,18] (fun v5 v8 v9 v10 v11 v12 v13 v14 v15 v16 v18 wr=>∃i:Nat,i≤n∧v8=.int .i64 i∧INo s l i k∧Ext w wr) (fun _ v8 _ _ _ _ _ _ _ _ _ _=>n-(intOf v8).toNat)
 case atStart=>exact⟨0,by omega,rfl,fun k f h=>by omega,Ext.refl w⟩
 case round=>
  obtain⟨i,hi,rfl,h1,hx⟩:=hrel
  by_cases hin:i<n
  ·have hin':(i:Int)<(n:Int):=by omega
   obtain⟨m,hme⟩:∃m,l[i]?=some m:=⟨_,List.getElem?_eq_getElem (by have:=Hn.out;omega)⟩
   obtain⟨b,off,rfl,hz,hc⟩:=(hr.ext hx).at_ (k:=i) (by rw[ints_length];have:=Hn.out;omega)
   clear hz
   have hck:wr.cell? ⟨b,off+i,none⟩=some (.int .i64 (m:Int)):=hc i _ (by simp[ints,hme])
   clear hc
   have hb:=typed1_any m k p4 p10 wr (h.ext hx) (hm m (List.mem_of_getElem? hme)) (hx.cell h4) (hx.cell h10)
   have Hme:=Lib.hid hme
   clear hme
   obtain⟨BB,hBB⟩:∃o,Hid (decide ((s.ns[m]?.map (·.k))=some k)=o):=⟨_,rfl⟩
   rw[hBB.out] at hb
   cases BB with
   | true=>
    have hat:AN=true:=by rw[←hAN.out];exact any_true Hme.out hBB.out
    have Hat:=Lib.hid hat
    clear hat
    go_wp2_with fail
    refine hb.mono ?_
    rintro e w1 ⟨rfl,hx2⟩
    go_wp2_with fail
    go_ret
    exact⟨⟨_,rfl,by rw[Hat.out];simp⟩,hx.trans hx2⟩
   | false=>
    go_wp2_with fail
    refine hb.mono ?_
    rintro e w1 ⟨rfl,hx2⟩
    go_wp2_with fail
    refine⟨⟨i+1,by omega,by go_num,?_,hx.trans hx2⟩,by simp[intOf];omega⟩
    intro j y hk hy
    rcases Nat.lt_or_ge j i with h|h
    ·exact h1 j y h hy
    ·obtain rfl:j=i:=by omega
     rw[Hme.out] at hy
     injection hy with hy
     rw[←hy];exact hBB.out
  ·obtain rfl:i=n:=by omega
   have hat:AN=false:=by
    rw[←hAN.out]
    exact any_false fun j f hf=>h1 j f (by have:=(List.getElem?_eq_some_iff.1 hf).1;have:=Hn.out;omega) hf
   have Hat:=Lib.hid hat
   clear hat
   go_wp2_with fail
   go_ret
   exact⟨⟨_,rfl,by rw[Hat.out];simp⟩,hx⟩
theorem containsInt_any (A:Option Addr) (n c:Nat) (l:List Nat) (k:Int) (p4 p10:Addr) (w:World) (h:Rs B w R M vl vn vs s) (hr:Rd w A (ints l)) (hn:l.length=n) (hl:n≤100000) (hm:∀m∈l,m<s.ns.length) (h4:w.cell? p4=some (.pointer (some ⟨R,0,none⟩))) (h10:w.cell? p10=some (.int .i64 k)) :
  Calls Tryz.prog 95 #[.slice A n c,.func (.func 137) #[] #[.pointer (some p4),.pointer (some p10)]] w fun e w'=>e=.returned (.bool (l.any fun m=>decide ((s.ns[m]?.map (·.k))=some k)))∧Ext w w':=by
 have hi:=indexInt_any A n c l k p4 p10 w h hr hn hl hm h4 h10
 obtain⟨AN,hAN⟩:∃o,Hid ((l.any fun m=>decide ((s.ns[m]?.map (·.k))=some k))=o):=⟨_,rfl⟩
 rw[hAN.out] at hi ⊢
 go_enter Tryz.func95,Tryz.ntmps95
 go_wp2_with fail
 refine hi.mono ?_
 rintro e w1 ⟨⟨r,rfl,hr⟩,hx⟩
 subst hr
 go_wp2_with fail
 go_ret
 exact⟨rfl,hx⟩
end
section
variable {B R M:Nat} {vl vn:Value} {vs:List V3} {s:PS}
theorem Sub.away {w:World} {d:Nd} {v:V3} (hs:Sub B w d v) (h:Rs B w R M vl vn vs s):(∀k,v.1.ownBlock=some k→¬Wr R M vn k)∧(∀k,v.2.1.ownBlock=some k→¬Wr R M vn k)∧(∀k,v.2.2.ownBlock=some k→¬Wr R M vn k):=by
 obtain⟨cnt,hm,_⟩:=h.named
 refine⟨?_,?_,?_⟩
 ·rintro k hk (rfl|rfl|e)
  ·exact own_ne_blk hs.syms h.blk (by decide) hk.symm
  ·exact own_ne_map hs.syms hm hk
  ·exact own_not hs.syms h.nds.row (by decide) k e hk
 ·rintro k hk (rfl|rfl|e)
  ·exact own_ne_blk hs.items h.blk (by decide) hk.symm
  ·exact own_ne_map hs.items hm hk
  ·exact own_not hs.items h.nds.row (by decide) k e hk
 ·rintro k hk (rfl|rfl|e)
  ·exact own_ne_blk hs.fields h.blk (by decide) hk.symm
  ·exact own_ne_map hs.fields hm hk
  ·exact own_not hs.fields h.nds.row (by decide) k e hk
theorem Rs.renode {w w2:World} {S:Nat→Prop} {ns':List Nd} {vs':List V3} {vn':Value} (h:Rs B w R M vl vn vs s) (hch:Chg S w w2) (hS:∀k,S k→Wr R M vn k) (hblk:Blk w2 R #[vl,vn',.map (some M)] 152) (hM:¬S M) (hrow:w2.ownsRow B 36 6 vn' ns'.length (ndsC ns' vs')) (hlen:vs'.length=ns'.length) (hsub:∀(i:Nat) d v,ns'[i]?=some d→vs'[i]?=some v→Sub B w d v) (hge:s.ns.length≤ns'.length) (h200:ns'.length≤200) :
  Rs B w2 R M vl vn' vs' { s with ns:=ns' }:=by
 obtain⟨tg,off,cap,e,h1,h2,h3,h4⟩:=h.toks
 obtain⟨cnt,h5,h6⟩:=h.named
 have hlow:∀b,b<B→¬S b:=fun b hb hs=>by have:=h.wr_ge b (hS b hs);omega
 refine⟨hblk,⟨tg,off,cap,e,Rd.chg h1 hch (fun a e=>by injection e with e;subst e;exact hlow tg h4),h2,h3,h4⟩,⟨hlen,hrow,fun i d v q1 q2=>?_⟩,⟨cnt,map_chg h5 hch hM,h6⟩,fun x n hx=>Nat.lt_of_lt_of_le (h.nmOk x n hx) hge,h.tok,h.tl,h.ts,h200,h.hR,h.hM,Rd.chg h.wd hch (fun a e=>by injection e with e;subst e;exact hlow 1 h.hw),h.hw⟩
 have hs:=hsub i d v q1 q2
 obtain⟨a1,a2,a3⟩:=hs.away h
 exact hs.chg hch (fun k hk e=>a1 k hk (hS k e)) (fun k hk e=>a2 k hk (hS k e)) (fun k hk e=>a3 k hk (hS k e))
def v0:V3:=(.slice none 0 0,.slice none 0 0,.slice none 0 0)
theorem ndC_one (d:Nd) (v:V3) (h1:v.1.oneCell'=true) (h2:v.2.1.oneCell'=true) (h3:v.2.2.oneCell'=true):∀u∈ndC d v,u.oneCell'=true:=by
 intro u hu
 simp only[ndC,List.mem_cons,List.not_mem_nil,or_false] at hu
 rcases hu with rfl|rfl|rfl|rfl|rfl|rfl
 ·rfl
 ·rfl
 ·rfl
 ·exact h1
 ·exact h2
 ·exact h3
theorem sf_snoc (w:World) (vs:List V3):SF w vs (vs++[v0]):=fun i v' h=>by
 rcases Nat.lt_or_ge i vs.length with hi|hi
 ·rw[List.getElem?_append_left hi] at h
  exact SF.refl w vs i v' h
 ·rw[List.getElem?_append_right hi] at h
  have:v'=v0:=by
   cases hz:i-vs.length with
   | succ z=>rw[hz] at h;simp at h
   | zero=>rw[hz] at h;simp at h;exact h.symm
  subst this
  exact⟨fun k hk=>(by cases hk),fun k hk=>(by cases hk),fun k hk=>(by cases hk)⟩
theorem begins_any (k:Int) (w:World) (h:Rs B w R M vl vn vs s) (hn:s.ns.length≤199) (hB:B≤w.heap.size) :
  Calls Tryz.prog 138 #[.pointer (some ⟨R,0,none⟩),.int .i64 k] w fun e w'=>e=.returned (.int .i64 (s.ns.length:Int))∧Chg (Wr R M vn) w w'∧∃vn' vs',Rs B w' R M vl vn' vs' { s with ns:=s.ns++[Nd.ofKind k] }∧Fresh w vn vn'∧SF w vs vs':=by
 obtain⟨c0,c1,c2,f0,f1⟩:=h.cells
 obtain⟨_,hRM,hnR,hnM⟩:=h.sep
 obtain⟨n,hnn⟩:∃n,Hid (s.ns.length=n):=⟨_,rfl⟩
 have ho:=h.nds.row
 obtain⟨A,c,rfl,jj1,jj2,jj3,jj4⟩:=Rd.of_own ho
 rw[hnn.out] at c1 ho
 have hn':n≤199:=by have:=hnn.out;omega
 have hbk:=h.blk
 rw[hnn.out] at hbk hnR hnM
 have ha:∀o,(w.alloc o).cell? ⟨R,1,none⟩=some (.slice A n c):=fun o=>((Ext.refl w).alloc o).cell c1
 have hnd1:=ndC_one (Nd.ofKind k) v0 rfl rfl rfl
 obtain⟨NW,hNW⟩:∃NW,Hid (ndC (Nd.ofKind k) v0=NW):=⟨_,rfl⟩
 have hrd:Rd (w.alloc (.cells #[.int .i64 k,.string ⟨#[]⟩,.int .i64 0,.slice none 0 0,.slice none 0 0,.slice none 0 0] 36)) (some ⟨w.heap.size,0,none⟩) NW:=by
  rw[←hNW.out];exact Rd.of_block w 36 (0,0) rfl
 have hNl:NW.length=1*6:=by rw[←hNW.out];rfl
 rw[hNW.out] at hnd1
 rw[hnn.out]
 go_enter Tryz.func138,Tryz.ntmps138
 go_wp2_with (
  refine wpList_app el_nd _ rfl (.tmp 9) (.tmp 12) rfl B (.slice A n c) n (ndsC s.ns vs) rfl (own_ext ho ((Ext.refl w).alloc _)) (some ⟨w.heap.size,0,none⟩) 1 1 NW rfl hrd hNl (fun h=>by cases h) hnd1 (by omega) (by omega) (by simp;omega) (fun V1 w1 ho1 hg1 hv1=>?_)
  obtain⟨A1,c1',rfl,kk1,kk2,kk3,kk4⟩:=Rd.of_own ho1
  clear kk1 kk2 kk3 kk4
  have hch1:Chg (fun k=>(Value.slice A n c).ownBlock=some k) w w1:=(Chg.ofExt ((Ext.refl w).alloc _)).trans (Chg.ofGrown hg1) (fun _ _ e=>e)
  have hb1:=hch1.blk hbk hnR
  have fr1:=hb1.frozen 1
  have cl1:w1.cell? ⟨R,1,none⟩=some _:=hb1.cell 1)
 go_ret
 have hb2:Blk (w1.setCell ⟨R,1,none⟩ (.slice A1 (n+1) c1')) R #[vl,.slice A1 (n+1) c1',.map (some M)] 152:=hb1.set 1 _
 have hch2:Chg (fun k=>k=R∨(Value.slice A n c).ownBlock=some k) w (w1.setCell ⟨R,1,none⟩ (.slice A1 (n+1) c1')):=(hch1.mono (fun _ _ e=>.inr e)).set (p:=⟨R,1,none⟩) (.inl (.inl rfl)) _
 rw[←hNW.out,←ndsC_snoc _ _ _ _ h.nds.len] at ho1
 have ho2:=own_setCell (i:=1) ho1 hb1 (by decide) (.slice A1 (n+1) c1')
 have hlen:(s.ns++[Nd.ofKind k]).length=n+1:=by rw[List.length_append,hnn.out];rfl
 refine⟨rfl,hch2.mono (fun k _ e=>e.elim .inl (fun e=>.inr (.inr e))),.slice A1 (n+1) c1',vs++[v0],?_,?_,sf_snoc w vs⟩
 ·refine h.renode hch2 (fun k e=>e.elim .inl (fun e=>.inr (.inr (by rw[hnn.out];exact e)))) hb2 (fun e=>e.elim (fun e=>hRM e.symm) hnM) ?_ ?_ ?_ ?_ ?_
  ·rw[hlen];exact ho2
  ·rw[List.length_append,hlen,h.nds.len,hnn.out];rfl
  ·intro i d v q1 q2
   rcases Nat.lt_or_ge i s.ns.length with hi|hi
   ·rw[List.getElem?_append_left hi] at q1
    rw[List.getElem?_append_left (by rw[h.nds.len];exact hi)] at q2
    exact h.nds.sub i d v q1 q2
   ·rw[List.getElem?_append_right hi] at q1
    rw[List.getElem?_append_right (by rw[h.nds.len];exact hi),h.nds.len] at q2
    cases hz:i-s.ns.length with
    | succ z=>rw[hz] at q1;simp at q1
    | zero=>
     rw[hz] at q1 q2
     simp at q1 q2
     subst q1;subst q2
     exact⟨World.ownsRow_nil _ _ _ _,World.ownsRow_nil _ _ _ _,World.ownsRow_nil _ _ _ _⟩
  ·simp
  ·rw[hlen];omega
 ·exact hv1.imp (fun e=>e) (fun e=>⟨_,e,by simp⟩)
end
def PK (s:PS) (w:World) (e:Ending) (w':World):Prop:=Ext w w'∧match kindR s with
 | some k=>e=.returned (.int .i64 k)
 | none=>e=.panicked (stopV (hd s.l).a 4)
theorem PK.some {s:PS} {w w':World} {e:Ending} {k:Int} (h:kindR s=some k) (hx:Ext w w') (he:e=.returned (.int .i64 k)):PK s w e w':=by unfold PK;rw[h];exact⟨hx,he⟩
theorem PK.none {s:PS} {w w':World} {e:Ending} (h:kindR s=none) (hx:Ext w w') (he:e=.panicked (stopV (hd s.l).a 4)):PK s w e w':=by unfold PK;rw[h];exact⟨hx,he⟩
theorem PK.cases {s:PS} {w w':World} {e:Ending} (h:PK s w e w'):Ext w w'∧((∃k,Hid (kindR s=Option.some k)∧e=.returned (.int .i64 k))∨(Hid (kindR s=Option.none)∧e=.panicked (stopV (hd s.l).a 4))):=by
 unfold PK at h
 refine⟨h.1,?_⟩
 cases hk:kindR s with
 | some k=>rw[hk] at h;exact .inl ⟨k,Lib.hid rfl,h.2⟩
 | none=>rw[hk] at h;exact .inr ⟨Lib.hid rfl,h.2⟩
section
variable {B R M:Nat} {vl vn:Value} {vs:List V3} {s:PS}
set_option maxHeartbeats 2000000 in
theorem kind_any (w:World) (h:Rs B w R M vl vn vs s) (hsz:(hd s.l).s.size≤140737488351232):Calls Tryz.prog 135 #[.pointer (some ⟨R,0,none⟩)] w fun e w'=>PK s w e w':=by
 obtain⟨w1,hw1⟩:∃W,Hid (w.alloc (.cells #[.int .i64 (hd s.l).k,.string (hd s.l).s,.int .i64 ((hd s.l).a:Int)] 105)=W):=⟨_,rfl⟩
 have hx1:Ext w w1:=by rw[←hw1.out];exact (Ext.refl w).alloc _
 have hb1:Blk w1 w.heap.size #[.int .i64 (hd s.l).k,.string (hd s.l).s,.int .i64 ((hd s.l).a:Int)] 105:=by rw[←hw1.out];exact Blk.new w _ _
 have h1:=h.ext hx1
 have his:=fun x=>is_any x w1 h1
 have hkw:=keyword_any (hd s.l).s w1 h1.wd
 have hnm:=name_any (hd s.l).s hsz w1
 have hix:=fun W hW=>index_str (some ⟨1,0,none⟩) 12 12 wordsL (hd s.l).s W (h1.wd.ext hW) rfl (by omega)
 have hf:=fail_any 4 w1 h1
 obtain⟨r,hr⟩:∃r,Hid (kindR s=r):=⟨_,rfl⟩
 have hr2:r=if isT s cSqO then some 6 else if isT s cCuO then some 7 else if isT s cPaO then some 8 else if (hd s.l).k≠0 then none else if kwP (hd s.l).s then some (idxOf wordsL (hd s.l).s) else if nameP (hd s.l).s then some (-1) else none:=by rw[←hr.out,kindR]
 obtain⟨b1,hi1⟩:∃b,Hid (isT s cSqO=b):=⟨_,rfl⟩
 obtain⟨b2,hi2⟩:∃b,Hid (isT s cCuO=b):=⟨_,rfl⟩
 obtain⟨b3,hi3⟩:∃b,Hid (isT s cPaO=b):=⟨_,rfl⟩
 have i1:=his cSqO
 have i2:=his cCuO
 have i3:=his cPaO
 simp only[hi1.out,hi2.out,hi3.out] at i1 i2 i3 hr2
 clear his
 obtain⟨tg,off,cap,rfl,hp,hnc,hcm,hh⟩:=h.head
 obtain⟨c0,c1,c2,f0,f1⟩:=h.cells
 obtain⟨k0,k1,k2⟩:=hh w (Ext.refl w)
 obtain⟨t,ht⟩:∃t,Hid (hd s.l=t):=⟨_,rfl⟩
 simp only[ht.out] at k0 k1 k2 hkw hnm hix hf hr2 hw1 hb1
 obtain⟨n,hn⟩:∃n,Hid (s.l.length=n):=⟨_,rfl⟩
 rw[hn.out] at c0 hp hnc
 have hp':(0:Int)<(n:Int):=by omega
 obtain⟨KW,hKW⟩:∃T,Hid (kwP t.s=T):=⟨_,rfl⟩
 obtain⟨NP,hNP⟩:∃T,Hid (nameP t.s=T):=⟨_,rfl⟩
 obtain⟨IX,hIX⟩:∃T,Hid (idxOf wordsL t.s=T):=⟨_,rfl⟩
 simp only[hKW.out,hNP.out,hIX.out] at hkw hnm hix hr2
 have d0:w1.cell? ⟨w.heap.size,0,none⟩=some (.int .i64 t.k):=hb1.cell 0
 have d1:w1.cell? ⟨w.heap.size,1,none⟩=some (.string t.s):=hb1.cell 1
 have dd1:∀W,Ext w1 W→W.cell? ⟨w.heap.size,1,none⟩=some (.string t.s):=fun W hW=>hW.cell d1
 have hq:∀k,kindR s=some k→∀w' e,Ext w w'→e=.returned (.int .i64 k)→PK s w e w':=fun k hk w' e hx he=>PK.some hk hx he
 have hq0:kindR s=none→∀w' e,Ext w w'→e=.panicked (stopV t.a 4)→PK s w e w':=fun hk w' e hx he=>PK.none hk hx (by rw[ht.out];exact he)
 simp only[hr.out] at hq hq0
 have Hr:=Lib.hid hr2
 clear hr2 hi1 hi2 hi3
 cases b1 with
 | true=>
  have hre:r=some 6:=by rw[Hr.out];rfl
  go_enter Tryz.func135,Tryz.ntmps135
  go_wp2_with fail
  rw[hw1.out]
  refine i1.mono ?_
  rintro e w2 ⟨rfl,rfl⟩
  go_wp2_with fail
  go_ret
  exact hq 6 hre _ _ hx1 rfl
 | false=>
 cases b2 with
 | true=>
  have hre:r=some 7:=by rw[Hr.out];rfl
  go_enter Tryz.func135,Tryz.ntmps135
  go_wp2_with fail
  rw[hw1.out]
  refine i1.mono ?_
  rintro e w2 ⟨rfl,rfl⟩
  go_wp2_with fail
  refine i2.mono ?_
  rintro e w2 ⟨rfl,rfl⟩
  go_wp2_with fail
  go_ret
  exact hq 7 hre _ _ hx1 rfl
 | false=>
 cases b3 with
 | true=>
  have hre:r=some 8:=by rw[Hr.out];rfl
  go_enter Tryz.func135,Tryz.ntmps135
  go_wp2_with fail
  rw[hw1.out]
  refine i1.mono ?_
  rintro e w2 ⟨rfl,rfl⟩
  go_wp2_with fail
  refine i2.mono ?_
  rintro e w2 ⟨rfl,rfl⟩
  go_wp2_with fail
  refine i3.mono ?_
  rintro e w2 ⟨rfl,rfl⟩
  go_wp2_with fail
  go_ret
  exact hq 8 hre _ _ hx1 rfl
 | false=>
 by_cases hk0:t.k=0
 ·have hkn:((t.k:Int) != 0)=false:=by simpa using hk0
  have Hw2:=hw1.out
  rw[hk0] at Hw2
  replace hw1:=Lib.hid Hw2
  clear Hw2
  cases KW with
  | true=>
   have hre:r=some IX:=by rw[Hr.out];simp[hk0]
   go_enter Tryz.func135,Tryz.ntmps135
   go_wp2_with fail
   rw[hw1.out]
   refine i1.mono ?_
   rintro e w2 ⟨rfl,rfl⟩
   go_wp2_with fail
   refine i2.mono ?_
   rintro e w2 ⟨rfl,rfl⟩
   go_wp2_with fail
   refine i3.mono ?_
   rintro e w2 ⟨rfl,rfl⟩
   go_wp2_with fail
   refine hkw.mono ?_
   rintro e w2 ⟨rfl,rfl⟩
   go_wp2_with fail
   refine Reg.startE (by kernel_rfl) ?_
   iterate 3 ((first|refine Reg.tn ?_|refine Reg.sn ?_);(try simp only[Reg.nn]))
   refine Reg.onlyE 3 _ rfl (by kernel_rfl) (by decide) (by rfl) (fun W hW K hK=>?_);go_simp
   refine (hix W hW).mono ?_
   rintro e wX ⟨rfl,rfl⟩
   refine hK.out _ _ (Ext.refl _) ?_;clear hK K;(try simp only[Reg.nn])
   refine Reg.tk 4 ?_;(try simp only[Reg.nn])
   refine Reg.fin (by kernel_rfl) (fun W hW=>?_)
   go_wp2_with fail
   go_ret
   exact hq _ hre _ _ (hx1.trans (Ext.trans (by assumption) hW)) rfl
  | false=>
  cases NP with
  | true=>
   have hre:r=some (-1):=by rw[Hr.out];simp[hk0]
   go_enter Tryz.func135,Tryz.ntmps135
   go_wp2_with fail
   rw[hw1.out]
   refine i1.mono ?_
   rintro e w2 ⟨rfl,rfl⟩
   go_wp2_with fail
   refine i2.mono ?_
   rintro e w2 ⟨rfl,rfl⟩
   go_wp2_with fail
   refine i3.mono ?_
   rintro e w2 ⟨rfl,rfl⟩
   go_wp2_with fail
   refine hkw.mono ?_
   rintro e w2 ⟨rfl,rfl⟩
   go_wp2_with fail
   refine hnm.mono ?_
   rintro e w2 ⟨rfl,hw⟩
   subst hw
   go_wp2_with fail
   go_ret
   exact hq _ hre _ _ hx1 rfl
  | false=>
   have hre:r=none:=by rw[Hr.out];simp[hk0]
   go_enter Tryz.func135,Tryz.ntmps135
   go_wp2_with fail
   rw[hw1.out]
   refine i1.mono ?_
   rintro e w2 ⟨rfl,rfl⟩
   go_wp2_with fail
   refine i2.mono ?_
   rintro e w2 ⟨rfl,rfl⟩
   go_wp2_with fail
   refine i3.mono ?_
   rintro e w2 ⟨rfl,rfl⟩
   go_wp2_with fail
   refine hkw.mono ?_
   rintro e w2 ⟨rfl,rfl⟩
   go_wp2_with fail
   refine hnm.mono ?_
   rintro e w2 ⟨rfl,hw⟩
   subst hw
   go_wp2_with fail
   refine hf.mono ?_
   rintro e w2 ⟨rfl,rfl⟩
   go_wp2_with fail
   exact⟨rfl,hq0 hre _ _ hx1 rfl⟩
 ·have hkn:((t.k:Int) != 0)=true:=by simpa using hk0
  have hre:r=none:=by rw[Hr.out];simp[hk0]
  go_enter Tryz.func135,Tryz.ntmps135
  go_wp2_with fail
  rw[hw1.out]
  refine i1.mono ?_
  rintro e w2 ⟨rfl,rfl⟩
  go_wp2_with fail
  refine i2.mono ?_
  rintro e w2 ⟨rfl,rfl⟩
  go_wp2_with fail
  refine i3.mono ?_
  rintro e w2 ⟨rfl,rfl⟩
  go_wp2_with fail
  refine hf.mono ?_
  rintro e w2 ⟨rfl,rfl⟩
  go_wp2_with fail
  exact⟨rfl,hq0 hre _ _ hx1 rfl⟩
end
section
variable {B R M:Nat} {vl vn:Value} {vs:List V3} {s:PS}
theorem name_defined (th:ByteArray→Bool) (q:Addr) (w:World) (h:Rs B w R M vl vn vs s) (hsz:(hd s.l).s.size≤140737488351232) (hcl:∀W,Ext w W→∀x,x=(hd s.l).s→Calls Tryz.prog 159 #[.string x,.pointer (some q)] W fun e w'=>e=.returned (.bool (th x))∧Ext W w') :
  Calls Tryz.prog 158 #[.pointer (some ⟨R,0,none⟩),.func (.func 159) #[] #[.pointer (some q)]] w fun e w'=>PL B R M w vn vs (fun x=>.string x) (nameR s th) e w':=by
 have hkw:=fun W (hW:Wd W)=>keyword_any (hd s.l).s W hW
 have hnm:=fun W=>name_any (hd s.l).s hsz W
 have hf:=fun (y:Int) W (hW:Rs B W R M vl vn vs s)=>fail_any y W hW
 obtain⟨t,ht⟩:∃t,Hid (hd s.l=t):=⟨_,rfl⟩
 have hcl:=fun W hW=>hcl W hW t.s
 obtain⟨T,hT⟩:∃T,Hid (th t.s=T):=⟨_,rfl⟩
 obtain⟨KW,hKW⟩:∃T,Hid (kwP t.s=T):=⟨_,rfl⟩
 obtain⟨NP,hNP⟩:∃T,Hid (nameP t.s=T):=⟨_,rfl⟩
 simp only[ht.out,hT.out,hKW.out,hNP.out] at hkw hnm hf hcl
 obtain⟨RS,hRS⟩:∃r,Hid (nameR s th=r):=⟨_,rfl⟩
 have hRS2:RS=if t.k≠0∨KW=true∨NP=false then .bad t.a 4 else if T then .bad t.a 6 else .ok t.s s.on:=by
  rw[←hRS.out,nameR,ht.out,hKW.out,hNP.out,hT.out];simp only[failR,ht.out]
 rw[hRS.out]
 have hRS3:=Lib.hid hRS2
 clear hRS2
 obtain⟨tg,off,cap,rfl,hp,hnc,hcm,hh⟩:=h.head
 obtain⟨c0,c1,c2,f0,f1⟩:=h.cells
 obtain⟨k0,k1,k2⟩:=hh w (Ext.refl w)
 obtain⟨n,hn⟩:∃n,Hid (s.l.length=n):=⟨_,rfl⟩
 rw[hn.out] at c0 hp hnc
 rw[ht.out] at k0 k1 k2
 have hp':(0:Int)<(n:Int):=by omega
 have hx1:Ext w (w.alloc (.cells #[.int .i64 t.k,.string t.s,.int .i64 (t.a:Int)] 105)):=(Ext.refl w).alloc _
 have hb1:Blk (w.alloc (.cells #[.int .i64 t.k,.string t.s,.int .i64 (t.a:Int)] 105)) w.heap.size #[.int .i64 t.k,.string t.s,.int .i64 (t.a:Int)] 105:=Blk.new w _ _
 generalize hw1:w.alloc (.cells #[.int .i64 t.k,.string t.s,.int .i64 (t.a:Int)] 105)=w1 at hx1 hb1
 have h1:=h.ext hx1
 have hkw:=hkw w1 h1.wd
 have hnm:=hnm w1
 have hf1:=fun y=>hf y w1 h1
 have hcl1:=hcl w1 hx1 (by first|rfl|trivial)
 have d0:w1.cell? ⟨w.heap.size,0,none⟩=some (.int .i64 t.k):=hb1.cell 0
 have d1:w1.cell? ⟨w.heap.size,1,none⟩=some (.string t.s):=hb1.cell 1
 have Hw1:=Lib.hid hw1
 clear hw1 hcl
 by_cases hk0:t.k=0
 ·have hkb:((t.k:Int) == 0)=true:=by simpa using hk0
  have hkn:((t.k:Int) != 0)=false:=by simpa using hk0
  have Hw2:=Hw1.out
  rw[hk0] at Hw2
  replace Hw1:=Lib.hid Hw2
  clear Hw2
  cases hKc:KW with
  | true=>
   subst hKc
   have hr:RS=.bad t.a 4:=by rw[hRS3.out];simp
   rw[hr]
   go_enter Tryz.func158,Tryz.ntmps158
   go_wp2_with fail
   rw[Hw1.out]
   refine hkw.mono ?_
   rintro e w2 ⟨rfl,rfl⟩
   go_wp2_with fail
   refine (hf1 4).mono ?_
   rintro e w2 ⟨rfl,rfl⟩
   go_wp2_with fail
   exact⟨rfl,PL.badI rfl rfl (Chg.ofExt hx1)⟩
  | false=>
   subst hKc
   cases hNc:NP with
   | false=>
    subst hNc
    have hr:RS=.bad t.a 4:=by rw[hRS3.out];simp
    rw[hr]
    go_enter Tryz.func158,Tryz.ntmps158
    go_wp2_with fail
    rw[Hw1.out]
    refine hkw.mono ?_
    rintro e w2 ⟨rfl,rfl⟩
    go_wp2_with fail
    refine hnm.mono ?_
    rintro e w2 ⟨rfl,hw⟩
    subst hw
    go_wp2_with fail
    refine (hf1 4).mono ?_
    rintro e w2 ⟨rfl,rfl⟩
    go_wp2_with fail
    exact⟨rfl,PL.badI rfl rfl (Chg.ofExt hx1)⟩
   | true=>
    subst hNc
    cases hTc:T with
    | true=>
     subst hTc
     have hr:RS=.bad t.a 6:=by rw[hRS3.out];simp[hk0]
     rw[hr]
     go_enter Tryz.func158,Tryz.ntmps158
     go_wp2_with fail
     rw[Hw1.out]
     refine hkw.mono ?_
     rintro e w2 ⟨rfl,rfl⟩
     go_wp2_with fail
     refine hnm.mono ?_
     rintro e w2 ⟨rfl,hw⟩
     subst hw
     go_wp2_with fail
     refine hcl1.mono ?_
     rintro e w3 ⟨rfl,hx3⟩
     go_wp2_with fail
     refine (hf 6 w3 (h1.ext hx3)).mono ?_
     rintro e w4 ⟨rfl,rfl⟩
     go_wp2_with fail
     exact⟨rfl,PL.badI rfl rfl (Chg.ofExt (hx1.trans hx3))⟩
    | false=>
     subst hTc
     have hr:RS=.ok t.s s.on:=by rw[hRS3.out];simp[hk0]
     rw[hr]
     have hk:(hd s.l).k≠3:=by rw[ht.out,hk0];decide
     have hl:=(h.tok.tail hk).2
     have hp2:=(h.tok.tail hk).1.pos
     rw[hn.out] at hl
     have hi1:1≤n:=hp
     have hc1:¬cap=1:=by omega
     have hcI:(1:Int)≤(n:Int):=by omega
     clear hk
     go_enter Tryz.func158,Tryz.ntmps158
     go_wp2_with fail
     rw[Hw1.out]
     refine hkw.mono ?_
     rintro e w2 ⟨rfl,rfl⟩
     go_wp2_with fail
     refine hnm.mono ?_
     rintro e w2 ⟨rfl,hw⟩
     subst hw
     go_wp2_with fail
     refine hcl1.mono ?_
     rintro e w3 ⟨rfl,hx3⟩
     have h3:=h1.ext hx3
     have hk:(hd s.l).k≠3:=by rw[ht.out,hk0];decide
     have hon:=h3.on hk
     obtain⟨q0,q1,q2,g0,g1⟩:=h3.cells
     rw[hn.out] at hon q0
     have hb3:=hb1.ext hx3
     have hsep:¬w.heap.size=R:=by have:=h.blk.lt;omega
     have hb4:=(Chg.one w3 R 0 (.slice (some ⟨tg,off+3,none⟩) (n-1) (cap-1))).blk hb3 hsep
     have d4:(w3.setCell ⟨R,0,none⟩ (.slice (some ⟨tg,off+3,none⟩) (n-1) (cap-1))).cell? ⟨w.heap.size,1,none⟩=some (.string t.s):=hb4.cell 1
     clear hk
     go_wp2_with fail
     go_ret
     exact PL.okI rfl rfl (Chg.set (S:=fun k=>k=R) (p:=⟨R,0,none⟩) (Chg.ofExt (hx1.trans hx3)) (.inl rfl) _) hon
 ·have hkb:((t.k:Int) == 0)=false:=by simpa using hk0
  have hkn:((t.k:Int) != 0)=true:=by simpa using hk0
  have hr:RS=.bad t.a 4:=by rw[hRS3.out];simp[hk0]
  rw[hr]
  go_enter Tryz.func158,Tryz.ntmps158
  go_wp2_with fail
  rw[Hw1.out]
  refine (hf1 4).mono ?_
  rintro e w2 ⟨rfl,rfl⟩
  go_wp2_with fail
  exact⟨rfl,PL.badI rfl rfl (Chg.ofExt hx1)⟩
theorem name_syms (th:ByteArray→Bool) (q:Addr) (w:World) (h:Rs B w R M vl vn vs s) (hsz:(hd s.l).s.size≤140737488351232) (hcl:∀W,Ext w W→∀x,x=(hd s.l).s→Calls Tryz.prog 168 #[.string x,.pointer (some q)] W fun e w'=>e=.returned (.bool (th x))∧Ext W w') :
  Calls Tryz.prog 158 #[.pointer (some ⟨R,0,none⟩),.func (.func 168) #[] #[.pointer (some q)]] w fun e w'=>PL B R M w vn vs (fun x=>.string x) (nameR s th) e w':=by
 have hkw:=fun W (hW:Wd W)=>keyword_any (hd s.l).s W hW
 have hnm:=fun W=>name_any (hd s.l).s hsz W
 have hf:=fun (y:Int) W (hW:Rs B W R M vl vn vs s)=>fail_any y W hW
 obtain⟨t,ht⟩:∃t,Hid (hd s.l=t):=⟨_,rfl⟩
 have hcl:=fun W hW=>hcl W hW t.s
 obtain⟨T,hT⟩:∃T,Hid (th t.s=T):=⟨_,rfl⟩
 obtain⟨KW,hKW⟩:∃T,Hid (kwP t.s=T):=⟨_,rfl⟩
 obtain⟨NP,hNP⟩:∃T,Hid (nameP t.s=T):=⟨_,rfl⟩
 simp only[ht.out,hT.out,hKW.out,hNP.out] at hkw hnm hf hcl
 obtain⟨RS,hRS⟩:∃r,Hid (nameR s th=r):=⟨_,rfl⟩
 have hRS2:RS=if t.k≠0∨KW=true∨NP=false then .bad t.a 4 else if T then .bad t.a 6 else .ok t.s s.on:=by
  rw[←hRS.out,nameR,ht.out,hKW.out,hNP.out,hT.out];simp only[failR,ht.out]
 rw[hRS.out]
 have hRS3:=Lib.hid hRS2
 clear hRS2
 obtain⟨tg,off,cap,rfl,hp,hnc,hcm,hh⟩:=h.head
 obtain⟨c0,c1,c2,f0,f1⟩:=h.cells
 obtain⟨k0,k1,k2⟩:=hh w (Ext.refl w)
 obtain⟨n,hn⟩:∃n,Hid (s.l.length=n):=⟨_,rfl⟩
 rw[hn.out] at c0 hp hnc
 rw[ht.out] at k0 k1 k2
 have hp':(0:Int)<(n:Int):=by omega
 have hx1:Ext w (w.alloc (.cells #[.int .i64 t.k,.string t.s,.int .i64 (t.a:Int)] 105)):=(Ext.refl w).alloc _
 have hb1:Blk (w.alloc (.cells #[.int .i64 t.k,.string t.s,.int .i64 (t.a:Int)] 105)) w.heap.size #[.int .i64 t.k,.string t.s,.int .i64 (t.a:Int)] 105:=Blk.new w _ _
 generalize hw1:w.alloc (.cells #[.int .i64 t.k,.string t.s,.int .i64 (t.a:Int)] 105)=w1 at hx1 hb1
 have h1:=h.ext hx1
 have hkw:=hkw w1 h1.wd
 have hnm:=hnm w1
 have hf1:=fun y=>hf y w1 h1
 have hcl1:=hcl w1 hx1 (by first|rfl|trivial)
 have d0:w1.cell? ⟨w.heap.size,0,none⟩=some (.int .i64 t.k):=hb1.cell 0
 have d1:w1.cell? ⟨w.heap.size,1,none⟩=some (.string t.s):=hb1.cell 1
 have Hw1:=Lib.hid hw1
 clear hw1 hcl
 by_cases hk0:t.k=0
 ·have hkb:((t.k:Int) == 0)=true:=by simpa using hk0
  have hkn:((t.k:Int) != 0)=false:=by simpa using hk0
  have Hw2:=Hw1.out
  rw[hk0] at Hw2
  replace Hw1:=Lib.hid Hw2
  clear Hw2
  cases hKc:KW with
  | true=>
   subst hKc
   have hr:RS=.bad t.a 4:=by rw[hRS3.out];simp
   rw[hr]
   go_enter Tryz.func158,Tryz.ntmps158
   go_wp2_with fail
   rw[Hw1.out]
   refine hkw.mono ?_
   rintro e w2 ⟨rfl,rfl⟩
   go_wp2_with fail
   refine (hf1 4).mono ?_
   rintro e w2 ⟨rfl,rfl⟩
   go_wp2_with fail
   exact⟨rfl,PL.badI rfl rfl (Chg.ofExt hx1)⟩
  | false=>
   subst hKc
   cases hNc:NP with
   | false=>
    subst hNc
    have hr:RS=.bad t.a 4:=by rw[hRS3.out];simp
    rw[hr]
    go_enter Tryz.func158,Tryz.ntmps158
    go_wp2_with fail
    rw[Hw1.out]
    refine hkw.mono ?_
    rintro e w2 ⟨rfl,rfl⟩
    go_wp2_with fail
    refine hnm.mono ?_
    rintro e w2 ⟨rfl,hw⟩
    subst hw
    go_wp2_with fail
    refine (hf1 4).mono ?_
    rintro e w2 ⟨rfl,rfl⟩
    go_wp2_with fail
    exact⟨rfl,PL.badI rfl rfl (Chg.ofExt hx1)⟩
   | true=>
    subst hNc
    cases hTc:T with
    | true=>
     subst hTc
     have hr:RS=.bad t.a 6:=by rw[hRS3.out];simp[hk0]
     rw[hr]
     go_enter Tryz.func158,Tryz.ntmps158
     go_wp2_with fail
     rw[Hw1.out]
     refine hkw.mono ?_
     rintro e w2 ⟨rfl,rfl⟩
     go_wp2_with fail
     refine hnm.mono ?_
     rintro e w2 ⟨rfl,hw⟩
     subst hw
     go_wp2_with fail
     refine hcl1.mono ?_
     rintro e w3 ⟨rfl,hx3⟩
     go_wp2_with fail
     refine (hf 6 w3 (h1.ext hx3)).mono ?_
     rintro e w4 ⟨rfl,rfl⟩
     go_wp2_with fail
     exact⟨rfl,PL.badI rfl rfl (Chg.ofExt (hx1.trans hx3))⟩
    | false=>
     subst hTc
     have hr:RS=.ok t.s s.on:=by rw[hRS3.out];simp[hk0]
     rw[hr]
     have hk:(hd s.l).k≠3:=by rw[ht.out,hk0];decide
     have hl:=(h.tok.tail hk).2
     have hp2:=(h.tok.tail hk).1.pos
     rw[hn.out] at hl
     have hi1:1≤n:=hp
     have hc1:¬cap=1:=by omega
     have hcI:(1:Int)≤(n:Int):=by omega
     clear hk
     go_enter Tryz.func158,Tryz.ntmps158
     go_wp2_with fail
     rw[Hw1.out]
     refine hkw.mono ?_
     rintro e w2 ⟨rfl,rfl⟩
     go_wp2_with fail
     refine hnm.mono ?_
     rintro e w2 ⟨rfl,hw⟩
     subst hw
     go_wp2_with fail
     refine hcl1.mono ?_
     rintro e w3 ⟨rfl,hx3⟩
     have h3:=h1.ext hx3
     have hk:(hd s.l).k≠3:=by rw[ht.out,hk0];decide
     have hon:=h3.on hk
     obtain⟨q0,q1,q2,g0,g1⟩:=h3.cells
     rw[hn.out] at hon q0
     have hb3:=hb1.ext hx3
     have hsep:¬w.heap.size=R:=by have:=h.blk.lt;omega
     have hb4:=(Chg.one w3 R 0 (.slice (some ⟨tg,off+3,none⟩) (n-1) (cap-1))).blk hb3 hsep
     have d4:(w3.setCell ⟨R,0,none⟩ (.slice (some ⟨tg,off+3,none⟩) (n-1) (cap-1))).cell? ⟨w.heap.size,1,none⟩=some (.string t.s):=hb4.cell 1
     clear hk
     go_wp2_with fail
     go_ret
     exact PL.okI rfl rfl (Chg.set (S:=fun k=>k=R) (p:=⟨R,0,none⟩) (Chg.ofExt (hx1.trans hx3)) (.inl rfl) _) hon
 ·have hkb:((t.k:Int) == 0)=false:=by simpa using hk0
  have hkn:((t.k:Int) != 0)=true:=by simpa using hk0
  have hr:RS=.bad t.a 4:=by rw[hRS3.out];simp[hk0]
  rw[hr]
  go_enter Tryz.func158,Tryz.ntmps158
  go_wp2_with fail
  rw[Hw1.out]
  refine (hf1 4).mono ?_
  rintro e w2 ⟨rfl,rfl⟩
  go_wp2_with fail
  exact⟨rfl,PL.badI rfl rfl (Chg.ofExt hx1)⟩
theorem name_fields (th:ByteArray→Bool) (q:Addr) (w:World) (h:Rs B w R M vl vn vs s) (hsz:(hd s.l).s.size≤140737488351232) (hcl:∀W,Ext w W→∀x,x=(hd s.l).s→Calls Tryz.prog 169 #[.string x,.pointer (some q)] W fun e w'=>e=.returned (.bool (th x))∧Ext W w') :
  Calls Tryz.prog 158 #[.pointer (some ⟨R,0,none⟩),.func (.func 169) #[] #[.pointer (some q)]] w fun e w'=>PL B R M w vn vs (fun x=>.string x) (nameR s th) e w':=by
 have hkw:=fun W (hW:Wd W)=>keyword_any (hd s.l).s W hW
 have hnm:=fun W=>name_any (hd s.l).s hsz W
 have hf:=fun (y:Int) W (hW:Rs B W R M vl vn vs s)=>fail_any y W hW
 obtain⟨t,ht⟩:∃t,Hid (hd s.l=t):=⟨_,rfl⟩
 have hcl:=fun W hW=>hcl W hW t.s
 obtain⟨T,hT⟩:∃T,Hid (th t.s=T):=⟨_,rfl⟩
 obtain⟨KW,hKW⟩:∃T,Hid (kwP t.s=T):=⟨_,rfl⟩
 obtain⟨NP,hNP⟩:∃T,Hid (nameP t.s=T):=⟨_,rfl⟩
 simp only[ht.out,hT.out,hKW.out,hNP.out] at hkw hnm hf hcl
 obtain⟨RS,hRS⟩:∃r,Hid (nameR s th=r):=⟨_,rfl⟩
 have hRS2:RS=if t.k≠0∨KW=true∨NP=false then .bad t.a 4 else if T then .bad t.a 6 else .ok t.s s.on:=by
  rw[←hRS.out,nameR,ht.out,hKW.out,hNP.out,hT.out];simp only[failR,ht.out]
 rw[hRS.out]
 have hRS3:=Lib.hid hRS2
 clear hRS2
 obtain⟨tg,off,cap,rfl,hp,hnc,hcm,hh⟩:=h.head
 obtain⟨c0,c1,c2,f0,f1⟩:=h.cells
 obtain⟨k0,k1,k2⟩:=hh w (Ext.refl w)
 obtain⟨n,hn⟩:∃n,Hid (s.l.length=n):=⟨_,rfl⟩
 rw[hn.out] at c0 hp hnc
 rw[ht.out] at k0 k1 k2
 have hp':(0:Int)<(n:Int):=by omega
 have hx1:Ext w (w.alloc (.cells #[.int .i64 t.k,.string t.s,.int .i64 (t.a:Int)] 105)):=(Ext.refl w).alloc _
 have hb1:Blk (w.alloc (.cells #[.int .i64 t.k,.string t.s,.int .i64 (t.a:Int)] 105)) w.heap.size #[.int .i64 t.k,.string t.s,.int .i64 (t.a:Int)] 105:=Blk.new w _ _
 generalize hw1:w.alloc (.cells #[.int .i64 t.k,.string t.s,.int .i64 (t.a:Int)] 105)=w1 at hx1 hb1
 have h1:=h.ext hx1
 have hkw:=hkw w1 h1.wd
 have hnm:=hnm w1
 have hf1:=fun y=>hf y w1 h1
 have hcl1:=hcl w1 hx1 (by first|rfl|trivial)
 have d0:w1.cell? ⟨w.heap.size,0,none⟩=some (.int .i64 t.k):=hb1.cell 0
 have d1:w1.cell? ⟨w.heap.size,1,none⟩=some (.string t.s):=hb1.cell 1
 have Hw1:=Lib.hid hw1
 clear hw1 hcl
 by_cases hk0:t.k=0
 ·have hkb:((t.k:Int) == 0)=true:=by simpa using hk0
  have hkn:((t.k:Int) != 0)=false:=by simpa using hk0
  have Hw2:=Hw1.out
  rw[hk0] at Hw2
  replace Hw1:=Lib.hid Hw2
  clear Hw2
  cases hKc:KW with
  | true=>
   subst hKc
   have hr:RS=.bad t.a 4:=by rw[hRS3.out];simp
   rw[hr]
   go_enter Tryz.func158,Tryz.ntmps158
   go_wp2_with fail
   rw[Hw1.out]
   refine hkw.mono ?_
   rintro e w2 ⟨rfl,rfl⟩
   go_wp2_with fail
   refine (hf1 4).mono ?_
   rintro e w2 ⟨rfl,rfl⟩
   go_wp2_with fail
   exact⟨rfl,PL.badI rfl rfl (Chg.ofExt hx1)⟩
  | false=>
   subst hKc
   cases hNc:NP with
   | false=>
    subst hNc
    have hr:RS=.bad t.a 4:=by rw[hRS3.out];simp
    rw[hr]
    go_enter Tryz.func158,Tryz.ntmps158
    go_wp2_with fail
    rw[Hw1.out]
    refine hkw.mono ?_
    rintro e w2 ⟨rfl,rfl⟩
    go_wp2_with fail
    refine hnm.mono ?_
    rintro e w2 ⟨rfl,hw⟩
    subst hw
    go_wp2_with fail
    refine (hf1 4).mono ?_
    rintro e w2 ⟨rfl,rfl⟩
    go_wp2_with fail
    exact⟨rfl,PL.badI rfl rfl (Chg.ofExt hx1)⟩
   | true=>
    subst hNc
    cases hTc:T with
    | true=>
     subst hTc
     have hr:RS=.bad t.a 6:=by rw[hRS3.out];simp[hk0]
     rw[hr]
     go_enter Tryz.func158,Tryz.ntmps158
     go_wp2_with fail
     rw[Hw1.out]
     refine hkw.mono ?_
     rintro e w2 ⟨rfl,rfl⟩
     go_wp2_with fail
     refine hnm.mono ?_
     rintro e w2 ⟨rfl,hw⟩
     subst hw
     go_wp2_with fail
     refine hcl1.mono ?_
     rintro e w3 ⟨rfl,hx3⟩
     go_wp2_with fail
     refine (hf 6 w3 (h1.ext hx3)).mono ?_
     rintro e w4 ⟨rfl,rfl⟩
     go_wp2_with fail
     exact⟨rfl,PL.badI rfl rfl (Chg.ofExt (hx1.trans hx3))⟩
    | false=>
     subst hTc
     have hr:RS=.ok t.s s.on:=by rw[hRS3.out];simp[hk0]
     rw[hr]
     have hk:(hd s.l).k≠3:=by rw[ht.out,hk0];decide
     have hl:=(h.tok.tail hk).2
     have hp2:=(h.tok.tail hk).1.pos
     rw[hn.out] at hl
     have hi1:1≤n:=hp
     have hc1:¬cap=1:=by omega
     have hcI:(1:Int)≤(n:Int):=by omega
     clear hk
     go_enter Tryz.func158,Tryz.ntmps158
     go_wp2_with fail
     rw[Hw1.out]
     refine hkw.mono ?_
     rintro e w2 ⟨rfl,rfl⟩
     go_wp2_with fail
     refine hnm.mono ?_
     rintro e w2 ⟨rfl,hw⟩
     subst hw
     go_wp2_with fail
     refine hcl1.mono ?_
     rintro e w3 ⟨rfl,hx3⟩
     have h3:=h1.ext hx3
     have hk:(hd s.l).k≠3:=by rw[ht.out,hk0];decide
     have hon:=h3.on hk
     obtain⟨q0,q1,q2,g0,g1⟩:=h3.cells
     rw[hn.out] at hon q0
     have hb3:=hb1.ext hx3
     have hsep:¬w.heap.size=R:=by have:=h.blk.lt;omega
     have hb4:=(Chg.one w3 R 0 (.slice (some ⟨tg,off+3,none⟩) (n-1) (cap-1))).blk hb3 hsep
     have d4:(w3.setCell ⟨R,0,none⟩ (.slice (some ⟨tg,off+3,none⟩) (n-1) (cap-1))).cell? ⟨w.heap.size,1,none⟩=some (.string t.s):=hb4.cell 1
     clear hk
     go_wp2_with fail
     go_ret
     exact PL.okI rfl rfl (Chg.set (S:=fun k=>k=R) (p:=⟨R,0,none⟩) (Chg.ofExt (hx1.trans hx3)) (.inl rfl) _) hon
 ·have hkb:((t.k:Int) == 0)=false:=by simpa using hk0
  have hkn:((t.k:Int) != 0)=true:=by simpa using hk0
  have hr:RS=.bad t.a 4:=by rw[hRS3.out];simp[hk0]
  rw[hr]
  go_enter Tryz.func158,Tryz.ntmps158
  go_wp2_with fail
  rw[Hw1.out]
  refine (hf1 4).mono ?_
  rintro e w2 ⟨rfl,rfl⟩
  go_wp2_with fail
  exact⟨rfl,PL.badI rfl rfl (Chg.ofExt hx1)⟩
end
end Pr
end Go.Proofs.YtmaoochjbpohdaaGreatDoor
