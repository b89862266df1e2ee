/- The walk of a region that draws its order, where what was there stays as it was. -/
import Derived.Test.YtmaoochjbpohdaaGreatDoorPvB
import Derived.Maps.OwnSet
import Derived.StringKeys
import Derived.Lib.ConvBytes
import Derived.Lib.Builder
import Derived.Lib.UnsafeStr
import Derived.Lib.AppendStr
set_option linter.unusedVariables false
set_option linter.unusedSimpArgs false
set_option maxRecDepth 100000
set_option maxHeartbeats 1000000
namespace Go.Proofs.YtmaoochjbpohdaaGreatDoor
namespace Reg
open Base
section
variable {P:Program} {ops:Array Oper} {Q:Exit→Act→World→Prop}
theorem takeE (i:Nat) (oi:Oper) (v:Value) {done:List Nat} {a:Act} {w:World} (hi:ops[i]?=some oi)
  (hs:Region.noSelect ops=true) (hf:Region.free .any ops (marked ops.size done) i=true) (hr:(Region.ready .any ops (marked ops.size done)).contains i=true) (hn:done.length<ops.size)
  (hQ:∀c a w,Q (.panic c) (a.put oi.dst v) w→Q (.panic c) a w) (hw:Region.wanted oi (yielded ops a.tmps)=true)
  (hy:∀w',Ext w w'→(execOp a.eval oi).run P w'=.ok (.value v) w')
  (h:St P ops Q Ext (i::done) (a.put oi.dst v) w):St P ops Q Ext done a w:=
 take Ext.refl (fun h k=>h.trans k) i oi v hi hs hf hr hn hQ hw hy h
theorem skipE (i:Nat) (oi:Oper) {done:List Nat} {a:Act} {w:World} (hi:ops[i]?=some oi)
  (hs:Region.noSelect ops=true) (hf:Region.free .any ops (marked ops.size done) i=true) (hr:(Region.ready .any ops (marked ops.size done)).contains i=true) (hn:done.length<ops.size)
  (hQ:∀c a w,Q (.panic c) (a.put oi.dst undef) w→Q (.panic c) a w) (hw:Region.wanted oi (yielded ops a.tmps)=false)
  (h:St P ops Q Ext (i::done) (a.put oi.dst undef) w):St P ops Q Ext done a w:=
 skip Ext.refl (fun h k=>h.trans k) i oi hi hs hf hr hn hQ hw h
theorem onlyE (i:Nat) (oi:Oper) {done:List Nat} {a:Act} {w:World} (hi:ops[i]?=some oi)
  (hr:Region.ready .any ops (marked ops.size done)=[i]) (hn:done.length<ops.size) (hw:Region.wanted oi (yielded ops a.tmps)=true)
  (h:∀w',Ext w w'→∀K:Act→World→Prop,Shut (∀a' w'',Ext w' w''→St P ops Q Ext (i::done) a' w''→K a' w'')→oi.wp P a w' K Q):St P ops Q Ext done a w:=
 only i oi hi hr hn hw h Ext.refl
theorem startE {id:Nat} {a:Act} {w:World} (hm:P.follows .mixedOrders=true) (h:St P ops Q Ext [] a w):(Code.region id ops true).wp P Q a w:=
 start hm ((Ext.refl w).drew) h
structure Rl (R:World→World→Prop):Prop where
 refl:∀w,R w w
 trans:∀ {a b c},R a b→R b c→R a c
 drew:∀ {a b},R a b→R a b.drew
variable {R:World→World→Prop}
theorem rl_below (B:Nat):Rl (Go.RowKit.Below B):=⟨fun w=>Go.RowKit.Below.refl B w,fun h k=>h.trans k,fun h=>h.drew⟩
/- the same in few words: what a machine finds is left to it -/
theorem tk (i:Nat) {oi:Oper} {v:Value} {done:List Nat} {a:Act} {w:World} (h:St P ops Q Ext (i::done) (a.put oi.dst v) w) (hi:ops[i]?=some oi:=by rfl)
  (hs:Region.noSelect ops=true:=by kernel_rfl) (hf:Region.free .any ops (marked ops.size done) i=true:=by kernel_rfl) (hr:(Region.ready .any ops (marked ops.size done)).contains i=true:=by kernel_rfl) (hn:done.length<ops.size:=by decide)
  (hQ:∀c a w,Q (.panic c) (a.put oi.dst v) w→Q (.panic c) a w:=by intro c a w h;first|exact h|solve_by_elim) (hw:Region.wanted oi (yielded ops a.tmps)=true:=by rfl)
  (hy:∀w',Ext w w'→(execOp a.eval oi).run P w'=.ok (.value v) w':=by intro W hW;go_simp;with_reducible rfl):St P ops Q Ext done a w:=
 takeE i oi v hi hs hf hr hn hQ hw hy h
theorem sk (i:Nat) {oi:Oper} {done:List Nat} {a:Act} {w:World} (h:St P ops Q Ext (i::done) (a.put oi.dst undef) w) (hi:ops[i]?=some oi:=by rfl)
  (hs:Region.noSelect ops=true:=by kernel_rfl) (hf:Region.free .any ops (marked ops.size done) i=true:=by kernel_rfl) (hr:(Region.ready .any ops (marked ops.size done)).contains i=true:=by kernel_rfl) (hn:done.length<ops.size:=by decide)
  (hQ:∀c a w,Q (.panic c) (a.put oi.dst undef) w→Q (.panic c) a w:=by intro c a w h;first|exact h|solve_by_elim) (hw:Region.wanted oi (yielded ops a.tmps)=false:=by rfl):St P ops Q Ext done a w:=
 skipE i oi hi hs hf hr hn hQ hw h
theorem n1 (l:List Value) (d:List Deferred) (n:Nat) (v:Value):Act.put ⟨l.toArray,d⟩ (some n) v=⟨(l.set n v).toArray,d⟩:=by simp[Act.put]
theorem n2 (x:Act) (v:Value):Act.put x none v=x:=rfl
theorem n3 (x y:Value) (l:List Value):List.set (x::l) 0 y=y::l:=rfl
theorem n4 (x y:Value) (n:Nat) (l:List Value):List.set (x::l) (n+1) y=x::List.set l n y:=rfl
theorem n5 {l:List Oper} {i:Nat} (h:i<l.toArray.size):l.toArray[i]=l[i]'(by simpa using h):=rfl
theorem n6 (x:Oper) (l:List Oper) (h:0<(x::l).length):(x::l)[0]'h=x:=rfl
theorem n7 (x:Oper) (l:List Oper) (i:Nat) (h:i+1<(x::l).length):(x::l)[i+1]'h=l[i]'(by simpa using h):=rfl
theorem nn:(∀(l:List Value) (d:List Deferred) (n:Nat) (v:Value),Act.put ⟨l.toArray,d⟩ (some n) v=⟨(l.set n v).toArray,d⟩)∧(∀(x:Act) (v:Value),Act.put x none v=x)∧(∀(x y:Value) (l:List Value),List.set (x::l) 0 y=y::l)∧(∀(x y:Value) (n:Nat) (l:List Value),List.set (x::l) (n+1) y=x::List.set l n y)
  ∧ (∀ {l:List Oper} {i:Nat} (h:i<l.toArray.size),l.toArray[i]=l[i]'(by simpa using h))∧(∀(x:Oper) (l:List Oper) (h:0<(x::l).length),(x::l)[0]'h=x)∧(∀(x:Oper) (l:List Oper) (i:Nat) (h:i+1<(x::l).length),(x::l)[i+1]'h=l[i]'(by simpa using h))∧List.length ([]:List Nat)=0∧(∀(i:Nat) (x:List Nat),List.length (i::x)=List.length x+1):=
 ⟨n1,n2,n3,n4,n5,n6,n7,rfl,fun _ _=>rfl⟩
/- the next one in the order of the text -/
theorem tn {oi:Oper} {v:Value} {done:List Nat} {a:Act} {w:World} (h:St P ops Q Ext (done.length::done) (a.put oi.dst v) w) (hi:ops[done.length]?=some oi:=by rfl)
  (hs:Region.noSelect ops=true:=by kernel_rfl) (hf:Region.free .any ops (marked ops.size done) done.length=true:=by kernel_rfl) (hr:(Region.ready .any ops (marked ops.size done)).contains done.length=true:=by kernel_rfl) (hn:done.length<ops.size:=by decide)
  (hQ:∀c a w,Q (.panic c) (a.put oi.dst v) w→Q (.panic c) a w:=by intro c a w h;first|exact h|solve_by_elim) (hw:Region.wanted oi (yielded ops a.tmps)=true:=by rfl)
  (hy:∀w',Ext w w'→(execOp a.eval oi).run P w'=.ok (.value v) w':=by intro W hW;go_simp;with_reducible rfl):St P ops Q Ext done a w:=
 takeE _ oi v hi hs hf hr hn hQ hw hy h
theorem sn {oi:Oper} {done:List Nat} {a:Act} {w:World} (h:St P ops Q Ext (done.length::done) (a.put oi.dst undef) w) (hi:ops[done.length]?=some oi:=by rfl)
  (hs:Region.noSelect ops=true:=by kernel_rfl) (hf:Region.free .any ops (marked ops.size done) done.length=true:=by kernel_rfl) (hr:(Region.ready .any ops (marked ops.size done)).contains done.length=true:=by kernel_rfl) (hn:done.length<ops.size:=by decide)
  (hQ:∀c a w,Q (.panic c) (a.put oi.dst undef) w→Q (.panic c) a w:=by intro c a w h;first|exact h|solve_by_elim) (hw:Region.wanted oi (yielded ops a.tmps)=false:=by rfl):St P ops Q Ext done a w:=
 skipE _ oi hi hs hf hr hn hQ hw h
end
end Reg
namespace Pr
open Go.ChangeShapes Go.WideShapes Go.ChangeAt Go.RowKit
open Base Lx
theorem str_ne {x s:ByteArray} (h:x≠s):(x.toList == s.toList)=false:=by
 rw[ByteArray.toList_eq,ByteArray.toList_eq]
 simp only[beq_eq_false_iff_ne]
 intro e
 apply h
 cases x;cases s;congr 1;exact Array.toList_inj.1 e
section
variable {α:Type} [DecidableEq α]
theorem idxOf_none {l:List α} {s:α} (h:∀(j:Nat) x,l[j]?=some x→x≠s):idxOf l s = -1:=by
 induction l with
 | nil=>rfl
 | cons x r ih=>
  have h0:=h 0 x rfl
  have hr:=ih fun j y hy=>h (j+1) y (by simpa using hy)
  rw[idxOf,if_neg (fun e=>h0 e.symm),hr];rfl
theorem idxOf_at {l:List α} {s:α} {k:Nat} (hk:l[k]?=some s) (h:∀(j:Nat) x,j<k→l[j]?=some x→x≠s):idxOf l s=(k:Int):=by
 induction l generalizing k with
 | nil=>simp at hk
 | cons x r ih=>
  cases k with
  | zero=>simp at hk;subst hk;simp[idxOf]
  | succ k=>
   have h0:=h 0 x (by omega) rfl
   have hr:=ih (k:=k) (by simpa using hk) fun j y hj hy=>h (j+1) y (by omega) (by simpa using hy)
   rw[idxOf,if_neg (fun e=>h0 e.symm),hr,if_neg (by omega)];omega
theorem idxOf_in (l:List α) (s:α):decide (0≤idxOf l s)=l.any fun y=>decide (y=s):=by
 induction l with
 | nil=>rfl
 | cons x r ih=>
  rw[List.any_cons,←ih,idxOf]
  by_cases h:s=x
  ·simp[h]
  ·have h':¬x=s:=fun e=>h e.symm
   simp only[if_neg h,h',decide_false,Bool.false_or]
   by_cases h2:idxOf r s<0
   ·rw[if_pos h2];simp;omega
   ·rw[if_neg h2];simp;omega
end
def NoAt {α:Type} (l:List α) (k:Nat) (s:α):Prop:=∀(j:Nat) x,j<k→l[j]?=some x→x≠s
theorem NoAt.next {α:Type} {l:List α} {k:Nat} {s x:α} (h:NoAt l k s) (hx:l[k]?=some x) (hn:x≠s):NoAt l (k+1) s:=fun j y hj hy=>by
 rcases Nat.lt_or_ge j k with h2|h2
 ·exact h j y h2 hy
 ·obtain rfl:j=k:=by omega
  rw[hx] at hy;injection hy with hy;subst hy;exact hn
theorem NoAt.zero {α:Type} (l:List α) (s:α):NoAt l 0 s:=fun j x hj=>by omega
set_option maxHeartbeats 800000 in
theorem index_str (A:Option Addr) (n c:Nat) (l:List ByteArray) (s:ByteArray) (w:World) (hr:Rd w A (txs l)) (hn:l.length=n) (hl:n≤100000) :
  Calls Tryz.prog 118 #[.slice A n c,.string s] w fun e w'=>e=.returned (.int .i64 (idxOf l s))∧w=w':=by
 have Hn:=Lib.hid hn
 clear hn
 obtain⟨R,hR⟩:∃R,Hid (idxOf l s=R):=⟨_,rfl⟩
 rw[hR.out]
 go_enter Tryz.func118,Tryz.ntmps118
 go_wp2_with fail
 go_loopw [5,8,9,10,11,12,13,14,15,16,18] (fun v5 v8 v9 v10 v11 v12 v13 v14 v15 v16 v18 wr=>∃i:Nat,i≤n∧v8=.int .i64 i∧NoAt l i s∧wr=w) (fun _ v8 _ _ _ _ _ _ _ _ _ _=>n-(intOf v8).toNat)
 case atStart=>exact⟨0,by omega,rfl,NoAt.zero l s,rfl⟩
 case round=>
  obtain⟨i,hi,rfl,h1,rfl⟩:=hrel
  by_cases hin:i<n
  ·have hin':(i:Int)<(n:Int):=by omega
   obtain⟨x,hxe⟩:∃x,l[i]?=some x:=⟨_,List.getElem?_eq_getElem (by have:=Hn.out;omega)⟩
   obtain⟨b,off,rfl,hz,hc⟩:=hr.at_ (k:=i) (by rw[txs_length];have:=Hn.out;omega)
   clear hz
   have hck:wr.cell? ⟨b,off+i,none⟩=some (.string x):=hc i _ (by simp[txs,hxe])
   clear hc
   by_cases he:s=x
   ·subst he
    have hq:=idxOf_at hxe h1
    rw[hR.out] at hq
    subst hq
    go_wp2_with fail
    go_ret
    exact⟨rfl,rfl⟩
   ·have hbq:=str_ne he
    have h2:=h1.next hxe (fun e=>he e.symm)
    have Hxe:=Lib.hid hxe
    clear hxe
    go_wp2_with fail
    go_roundw
    case rel=>exact⟨i+1,by omega,by go_num,h2,by first|rfl|trivial⟩
    case measure=>simp[intOf];omega
  ·obtain rfl:i=n:=by omega
   have hq:R = -1:=by
    rw[←hR.out]
    exact idxOf_none fun j x hx=>h1 j x (by have:=(List.getElem?_eq_some_iff.1 hx).1;have:=Hn.out;omega) hx
   subst hq
   go_wp2_with fail
   go_ret
   exact⟨rfl,rfl⟩
theorem contains_str (A:Option Addr) (n c:Nat) (l:List ByteArray) (s:ByteArray) (w:World) (hr:Rd w A (txs l)) (hn:l.length=n) (hl:n≤100000) :
  Calls Tryz.prog 100 #[.slice A n c,.string s] w fun e w'=>e=.returned (.bool (l.any fun y=>decide (y=s)))∧w=w':=by
 have hi:=index_str A n c l s w hr hn hl
 have hb:=idxOf_in l s
 obtain⟨R,hR⟩:∃R,Hid (idxOf l s=R):=⟨_,rfl⟩
 rw[hR.out] at hi hb
 rw[←hb]
 clear hb hn hr
 go_enter Tryz.func100,Tryz.ntmps100
 go_wp2_with fail
 refine hi.mono ?_
 rintro e w1 ⟨rfl,rfl⟩
 go_wp2_with fail
 go_ret
 exact⟨rfl,rfl⟩
def ints (l:List Nat):List Value:=l.map fun (n:Nat)=>Value.int .i64 (n:Int)
theorem ints_length (l:List Nat):(ints l).length=l.length:=by simp[ints]
set_option maxHeartbeats 800000 in
theorem index_int (A:Option Addr) (n c:Nat) (l:List Nat) (s:Nat) (w:World) (hr:Rd w A (ints l)) (hn:l.length=n) (hl:n≤100000) :
  Calls Tryz.prog 155 #[.slice A n c,.int .i64 (s:Int)] w fun e w'=>e=.returned (.int .i64 (idxOf l s))∧w=w':=by
 have Hn:=Lib.hid hn
 clear hn
 obtain⟨R,hR⟩:∃R,Hid (idxOf l s=R):=⟨_,rfl⟩
 rw[hR.out]
 go_enter Tryz.func155,Tryz.ntmps155
 go_wp2_with fail
 go_loopw [5,8,9,10,11,12,13,14,15,16,18] (fun v5 v8 v9 v10 v11 v12 v13 v14 v15 v16 v18 wr=>∃i:Nat,i≤n∧v8=.int .i64 i∧NoAt l i s∧wr=w) (fun _ v8 _ _ _ _ _ _ _ _ _ _=>n-(intOf v8).toNat)
 case atStart=>exact⟨0,by omega,rfl,NoAt.zero l s,rfl⟩
 case round=>
  obtain⟨i,hi,rfl,h1,rfl⟩:=hrel
  by_cases hin:i<n
  ·have hin':(i:Int)<(n:Int):=by omega
   obtain⟨x,hxe⟩:∃x,l[i]?=some x:=⟨_,List.getElem?_eq_getElem (by have:=Hn.out;omega)⟩
   obtain⟨b,off,rfl,hz,hc⟩:=hr.at_ (k:=i) (by rw[ints_length];have:=Hn.out;omega)
   clear hz
   have hck:wr.cell? ⟨b,off+i,none⟩=some (.int .i64 (x:Int)):=hc i _ (by simp[ints,hxe])
   clear hc
   by_cases he:s=x
   ·subst he
    have hq:=idxOf_at hxe h1
    rw[hR.out] at hq
    subst hq
    go_wp2_with fail
    go_ret
    exact⟨rfl,rfl⟩
   ·have hbq:((s:Int) == (x:Int))=false:=by simpa using (fun e:(s:Int)=x=>he (by omega))
    have h2:=h1.next hxe (fun e=>he e.symm)
    have Hxe:=Lib.hid hxe
    clear hxe
    go_wp2_with fail
    go_roundw
    case rel=>exact⟨i+1,by omega,by go_num,h2,by first|rfl|trivial⟩
    case measure=>simp[intOf];omega
  ·obtain rfl:i=n:=by omega
   have hq:R = -1:=by
    rw[←hR.out]
    exact idxOf_none fun j x hx=>h1 j x (by have:=(List.getElem?_eq_some_iff.1 hx).1;have:=Hn.out;omega) hx
   subst hq
   go_wp2_with fail
   go_ret
   exact⟨rfl,rfl⟩
theorem contains_int (A:Option Addr) (n c:Nat) (l:List Nat) (s:Nat) (w:World) (hr:Rd w A (ints l)) (hn:l.length=n) (hl:n≤100000) :
  Calls Tryz.prog 136 #[.slice A n c,.int .i64 (s:Int)] w fun e w'=>e=.returned (.bool (l.any fun y=>decide (y=s)))∧w=w':=by
 have hi:=index_int A n c l s w hr hn hl
 have hb:=idxOf_in l s
 obtain⟨R,hR⟩:∃R,Hid (idxOf l s=R):=⟨_,rfl⟩
 rw[hR.out] at hi hb
 rw[←hb]
 clear hb hn hr
 go_enter Tryz.func136,Tryz.ntmps136
 go_wp2_with fail
 refine hi.mono ?_
 rintro e w1 ⟨rfl,rfl⟩
 go_wp2_with fail
 go_ret
 exact⟨rfl,rfl⟩
def Wd (w:World):Prop:=Rd w (some ⟨1,0,none⟩) (txs wordsL)
theorem Wd.ext {w w':World} (h:Wd w) (hx:Ext w w'):Wd w':=Rd.ext h hx
theorem keyword_any (s:ByteArray) (w:World) (hg:Wd w):Calls Tryz.prog 153 #[.string s] w fun e w'=>e=.returned (.bool (kwP s))∧w=w':=by
 have hc:=contains_str (some ⟨1,0,none⟩) 12 12 wordsL s w hg rfl (by omega)
 have hb:=idxOf_in wordsL s
 rw[←hb] at hc
 by_cases h0:s=⟨#[]⟩
 ·have e:kwP s=false:=by simp[kwP,h0]
  rw[e]
  subst h0
  go_enter Tryz.func153,Tryz.ntmps153
  go_wp2_with fail
  go_ret
  exact⟨rfl,rfl⟩
 ·have e:kwP s=decide (0≤idxOf wordsL s):=by simp[kwP,h0]
  rw[e]
  obtain⟨R,hR⟩:∃R,Hid (decide (0≤idxOf wordsL s)=R):=⟨_,rfl⟩
  rw[hR.out] at hc ⊢
  clear hb e
  have hne:¬s.toList=[]:=fun e=>h0 (by rw[ByteArray.toList_eq] at e;cases s;congr 1;exact Array.toList_inj.1 e)
  have hne2:s.toList.isEmpty=false:=by simpa using hne
  go_enter Tryz.func153,Tryz.ntmps153
  go_wp2_with fail
  refine hc.mono ?_
  rintro e w1 ⟨rfl,rfl⟩
  go_wp2_with fail
  go_ret
  exact⟨rfl,rfl⟩
end Pr
namespace Mi
open Go.ChangeShapes Go.WideShapes Go.ChangeAt Go.RowKit
open Base
structure Mt (P:Program) (t k e:TypeId):Prop where
 under:P.underlying t=some (.map k e)
 key:P.underlying k=some .string
 elem:P.underlying e=some (.int .i64)
 zero:∀w,(zeroValue e).run P w=.ok (.int .i64 0) w
def MapU (P:Program) (k e:TypeId) (w:World) (b n:Nat) (f:ByteArray→Option Nat):Prop:=
 ∃D:DataW Unit,w.ownsMap P k (plainElem P e) b n D∧Maps.IsMap D∧(∀s,(f s).getD 0≤9223372036854775807)∧
  ∀s:ByteArray,Maps.has D (.string s.data.toList)=(f s).isSome∧D.atKey (.string s.data.toList) (.lit (.int .i64 0))=.lit (.int .i64 ((f s).getD 0:Nat))
section
variable {P:Program} {t k e:TypeId} {w w':World} {b n:Nat} {f:ByteArray→Option Nat}
theorem MapU.kept {row:Option Nat} (h:MapU P k e w b n f) (hg:w.grownBy w' row) (hne:some b≠row):MapU P k e w' b n f:=by
 obtain⟨D,h1,h2⟩:=h
 exact⟨D,h1.kept hg hne,h2⟩
theorem MapU.ext (h:MapU P k e w b n f) (hx:Ext w w'):MapU P k e w' b n f:=by
 obtain⟨D,⟨es,clock,hb,r⟩,h2⟩:=h
 exact⟨D,⟨es,clock,hx.heap hb,r⟩,h2⟩
theorem MapU.below {B:Nat} (h:MapU P k e w b n f) (hx:Below B w w') (hb:b<B):MapU P k e w' b n f:=by
 obtain⟨D,⟨es,clock,hh,r⟩,h2⟩:=h
 exact⟨D,⟨es,clock,(hx.block b hb).trans hh,r⟩,h2⟩
theorem MapU.setCell (h:MapU P k e w b n f) {a:Addr} (ha:b≠a.block) (u:Value):MapU P k e (w.setCell a u) b n f:=by
 obtain⟨D,h1,h2⟩:=h
 exact⟨D,h1.setCell ha u,h2⟩
theorem MapU.lt (h:MapU P k e w b n f):b<w.heap.size:=by
 obtain⟨D,h1,h2⟩:=h
 exact h1.lt
theorem MapU.alloc (h:MapU P k e w b n f) (o:Obj):MapU P k e (w.alloc o) b n f:=by
 obtain⟨D,h1,h2⟩:=h
 exact⟨D,h1.alloc o,h2⟩
theorem MapU.drew (h:MapU P k e w b n f):MapU P k e w.drew b n f:=h
theorem MapU.made (P:Program) (k e:TypeId) (w:World):MapU P k e (w.alloc (.map #[] 0)) w.heap.size 0 (fun _=>none):=
 ⟨.map [],World.ownsMap_made w P k (plainElem P e),Maps.isMap_empty,by simp,fun s=>⟨rfl,by simp[DataW.atKey]⟩⟩
theorem MapU.not_cells {cs:Array Value} {ty:TypeId} {fr:Nat×Nat} (h:MapU P k e w b n f) {g:Nat} (hg:w.heap[g]?=some (.cells cs ty fr)):b≠g:=by
 rintro rfl
 obtain⟨D,⟨es,clock,hb,r⟩,h2⟩:=h
 rw[hb] at hg
 cases hg
theorem MapU.look_ok (M:Mt P t k e) (h:MapU P k e w b n f) (s:ByteArray) (hs:s.size≤maxLen) :
  (Instr.lookup t (.map (some b)) (.string s) true).run P w=.ok (.tuple #[.int .i64 ((f s).getD 0:Nat),.bool (f s).isSome]) w:=by
 obtain⟨D,h1,h2,h3,h4⟩:=h
 obtain⟨v,ps,hrun,hv⟩:=h1.look_ok (Go.Maps.string_keyed M.key) M.under (M.zero w) (plainElem_int M.elem (by decide)) (Go.WideMaps.keyOf_string_mk M.key hs)
 obtain⟨c,rfl,hc,hwc⟩:=plainElem_int_inv M.elem hv
 simp only[Prod.mk.injEq] at hc
 rw[(h4 s).2] at hc
 have hc1:=hc.1
 simp only[DataW.lit.injEq,Lit.int.injEq,true_and] at hc1
 rw[hrun,(h4 s).1,←hc1]
theorem MapU.look (M:Mt P t k e) (h:MapU P k e w b n f) (s:ByteArray) (hs:s.size≤maxLen) :
  (Instr.lookup t (.map (some b)) (.string s) false).run P w=.ok (.int .i64 ((f s).getD 0:Nat)) w:=by
 obtain⟨D,h1,h2,h3,h4⟩:=h
 obtain⟨c,hrun,hc,hwc⟩:=h1.lookup_int (Go.Maps.string_keyed M.key) M.under M.elem (M.zero w) (Go.WideMaps.keyOf_string_mk M.key hs)
 rw[(h4 s).2] at hc
 simp only[DataW.lit.injEq,Lit.int.injEq,true_and] at hc
 rw[hrun,←hc]
theorem MapU.store (M:Mt P t k e) (h:MapU P k e w b n f) (hn:n<maxLen) (s:ByteArray) (hs:s.size≤maxLen) (v:Nat) (hv:v≤9223372036854775807) :
  ∃w',(Instr.mapUpdate t (.map (some b)) (.string s) (.int .i64 v)).run P w=.ok () w'∧MapU P k e w' b (n+1) (fun x=>if x=s then some v else f x)∧w.grownBy w' (some b):=by
 obtain⟨D,h1,h2,h3,h4⟩:=h
 obtain⟨w',hrun,ho,hg⟩:=h1.update (Go.Maps.string_keyed M.key) M.under hn (Go.WideMaps.keyOf_string_mk M.key hs) (plainElem_int (H:=Unit) M.elem (a:=(v:Int)) (by
  simp[Lit.wf,IntKind.min,IntKind.max,IntKind.signed,IntKind.bits];omega))
 refine⟨w',hrun,⟨_,ho,h2.put _ _,?_,?_⟩,hg⟩
 ·intro x
  by_cases hx:x=s
  ·simp[hx];exact hv
  ·simp only[hx,if_false];exact h3 x
 ·intro x
  by_cases hx:x=s
  ·subst hx
   simp only[if_true,Option.isSome_some,Option.getD_some]
   exact⟨Maps.has_put_same (k:=.string x.data.toList) h2 trivial _,Maps.atKey_put_same (k:=.string x.data.toList) h2 trivial _ _⟩
  ·have hne:(Lit.string x.data.toList)≠.string s.data.toList:=by
    intro e
    simp only[Lit.string.injEq] at e
    apply hx
    cases x;cases s
    congr 1
    exact Array.toList_inj.1 e
   simp only[hx,if_false]
   exact⟨(Maps.has_put_other hne _).trans (h4 x).1,(Maps.atKey_put_other hne _ _).trans (h4 x).2⟩
end
end Mi
namespace Lx
open Go.ChangeShapes Go.WideShapes Go.ChangeAt Go.RowKit Go.Shelf
open Base
def numV (o:Option Nat):Value:=match o with
 | some n=>.tuple #[.int .i64 (n:Int),.bool true]
 | none=>.tuple #[.int .i64 0,.bool false]
theorem ext_bytes (w:World) (e:TypeId) (s:ByteArray):Ext w (Lib.bytesWorld w e s):=
 ⟨rfl,rfl,rfl,by rw[Lib.bytesWorld_size];omega,fun k hk=>Lib.bytesWorld_at_old w e s k hk⟩
theorem number_any (s:ByteArray) (hs:s.size≤140737488351232) (w:World):Calls Tryz.prog 161 #[.string s] w fun e w'=>e=.returned (numV (numO s.data.toList))∧Ext w w':=by
 obtain⟨o,ho⟩:∃o,Hid (numO s.data.toList=o):=⟨_,rfl⟩
 rw[ho.out]
 by_cases h0:s.size=0
 ·obtain rfl:=size_zero h0
  have ho2:none=o:=ho.out
  subst ho2
  go_enter Tryz.func161,Tryz.ntmps161
  go_wp2_with fail
  go_ret2
  exact⟨rfl,Ext.refl _⟩
 ·obtain⟨q1,q2⟩:=ne_empty h0
  have hin:0<s.size:=by omega
  have hin':(0:Int)<(s.size:Int):=by omega
  have hne:¬s.data.toList=[]:=fun e=>by have:=size_list s;rw[e] at this;simp at this;omega
  have hrun:=run_any s 0 150 digitP hs (by omega) enters_digit digit_any w
  rw[List.drop_zero] at hrun
  obtain⟨R,hR⟩:∃R,Hid (runP digitP s.data.toList=R):=⟨_,rfl⟩
  rw[hR.out] at hrun
  have hb:=byteAt_get s 0 hin
  go_enter Tryz.func161,Tryz.ntmps161
  by_cases hz:1<s.size∧(byteAt s 0).toNat=48
  ·have ho2:none=o:=by rw[←ho.out,numO,if_neg hne,if_pos ⟨by rw[size_list];exact hz.1,hz.2⟩]
   subst ho2
   have z1:(s.size:Int)>1:=by omega
   have z2:((byteAt s 0).toNat:Int) == 48:=by rw[hz.2];rfl
   go_wp2_with fail
   go_ret2
   exact⟨rfl,Ext.refl _⟩
  ·by_cases hRs:R=s.size
   ·by_cases h4:s.size≤4
    ·have h4':(s.size:Int)≤4:=by omega
     have hRb:((R:Int) != (s.size:Int))=false:=by rw[hRs];simp
     have hall:runP digitP s.data.toList=s.data.toList.length:=by rw[hR.out,hRs,size_list]
     obtain⟨V,hV⟩:∃V,Hid (valP s.data.toList 0=V):=⟨_,rfl⟩
     have hV9:V≤9999:=by rw[←hV.out];exact valP_small _ hall (by rw[size_list];exact h4)
     have hdig:∀j,j<s.size→48≤(byteAt s j).toNat∧(byteAt s j).toNat≤57:=fun j hj=>by
      obtain⟨h1,h2⟩:=runP_lt (p:=digitP) (l:=s.data.toList) (n:=j) (by rw[hall,size_list];exact hj)
      have:=digit_bounds h2
      rwa [show s.data.toList[j]=byteAt s j from byteAt_get s j hj] at this
     have hz':¬(1<s.data.toList.length∧(s.data.toList.getD 0 0).toNat=48):=by rw[size_list];exact hz
     have hobig:4096<V→numO s.data.toList=none:=fun h=>by rw[numO,if_neg hne,if_neg hz',if_neg (by simp[hall]),if_neg (by rw[size_list];omega),if_pos (by rw[hV.out];exact h)]
     have hosm:¬4096<V→numO s.data.toList=some V:=fun h=>by rw[numO,if_neg hne,if_neg hz',if_neg (by simp[hall]),if_neg (by rw[size_list];omega),if_neg (by rw[hV.out];exact h),hV.out]
     by_cases hs1:s.size=1
     ·have z1:¬(s.size:Int)>1:=by omega
      clear hb
      go_wp2_with fail
      refine hrun.mono ?_
      rintro e w1 ⟨rfl,hw⟩
      subst hw
      have hcv:=Lib.run_convert_string_bytes (P:=Tryz.prog) w1 9 120 5 s Tryz.underlying9 Tryz.underlying120 Tryz.underlying5
      obtain⟨cap,hcap⟩:∃c,Hid (grownCap w1 s.size 0 5=c):=⟨_,rfl⟩
      rw[hcap.out] at hcv
      obtain⟨w2,hw2⟩:∃w2,Hid (Lib.bytesWorld w1 5 s=w2):=⟨_,rfl⟩
      have hx2:Ext w1 w2:=by rw[←hw2.out];exact ext_bytes _ _ _
      have hcell:∀j,j<s.size→w2.cell? ⟨w1.heap.size,j,none⟩=some (.int .u8 ((byteAt s j).toNat:Int)):=fun j hj=>by rw[←hw2.out];exact Lib.bytesWorld_cell _ _ _ j hj
      rw[hw2.out] at hcv
      go_wp2_with fail
      go_loopw [4,34] (fun v4 v34 wr=>∃j v:Nat,j≤s.size∧v34=.int .i64 j∧v4=.int .i64 v∧Hid (valP (s.data.toList.drop j) v=V)∧wr=w2) (fun _ v34 _=>s.size-(intOf v34).toNat)
      case atStart=>exact⟨0,0,by omega,rfl,rfl,hV,rfl⟩
      case round=>
       obtain⟨j,v,hj,rfl,rfl,hv,hw⟩:=hrel
       have hw:=hw.symm
       subst hw
       have hvV:v≤9999:=by have:=valP_ge (s.data.toList.drop j) v;rw[hv.out] at this;omega
       by_cases hjs:j<s.size
       ·have hjs':(j:Int)<(s.size:Int):=by omega
        have c1:=hcell j hjs
        have hd:=hdig j hjs
        have hv2:Hid (valP (s.data.toList.drop (j+1)) (10*v+((byteAt s j).toNat-48))=V):=by show _=_;rw[←hv.out,drop_byteAt s j hjs,valP]
        clear hcell hcv hrun
        go_wp2_with fail
        refine⟨⟨j+1,10*v+((byteAt s j).toNat-48),by omega,rfl,congrArg (Value.int .i64) (by omega),hv2,trivial⟩,?_⟩
        simp[intOf]
        omega
       ·obtain rfl:j=s.size:=by omega
        have hvv:v=V:=by have h:=hv.out;rw[List.drop_of_length_le (by rw[size_list];omega)] at h;exact h
        subst hvv
        have hjs':¬(s.size:Int)<(s.size:Int):=by omega
        by_cases hbig:4096<v
        ·have ho2:none=o:=(hobig hbig).symm.trans ho.out
         subst ho2
         have hb4:(v:Int)>4096:=by omega
         go_wp2_with fail
         go_ret2
         exact⟨rfl,hx2⟩
        ·have ho2:some v=o:=(hosm hbig).symm.trans ho.out
         subst ho2
         have hb4:¬(v:Int)>4096:=by omega
         go_wp2_with fail
         go_ret2
         exact⟨rfl,hx2⟩
     ·have z1:(s.size:Int)>1:=by omega
      have z2:¬(byteAt s 0).toNat=48:=fun h=>hz ⟨by omega,h⟩
      have z3:(((byteAt s 0).toNat:Int) == 48)=false:=by simp;omega
      go_wp2_with fail
      refine hrun.mono ?_
      rintro e w1 ⟨rfl,hw⟩
      subst hw
      have hcv:=Lib.run_convert_string_bytes (P:=Tryz.prog) w1 9 120 5 s Tryz.underlying9 Tryz.underlying120 Tryz.underlying5
      obtain⟨cap,hcap⟩:∃c,Hid (grownCap w1 s.size 0 5=c):=⟨_,rfl⟩
      rw[hcap.out] at hcv
      obtain⟨w2,hw2⟩:∃w2,Hid (Lib.bytesWorld w1 5 s=w2):=⟨_,rfl⟩
      have hx2:Ext w1 w2:=by rw[←hw2.out];exact ext_bytes _ _ _
      have hcell:∀j,j<s.size→w2.cell? ⟨w1.heap.size,j,none⟩=some (.int .u8 ((byteAt s j).toNat:Int)):=fun j hj=>by rw[←hw2.out];exact Lib.bytesWorld_cell _ _ _ j hj
      rw[hw2.out] at hcv
      go_wp2_with fail
      go_loopw [4,34] (fun v4 v34 wr=>∃j v:Nat,j≤s.size∧v34=.int .i64 j∧v4=.int .i64 v∧Hid (valP (s.data.toList.drop j) v=V)∧wr=w2) (fun _ v34 _=>s.size-(intOf v34).toNat)
      case atStart=>exact⟨0,0,by omega,rfl,rfl,hV,rfl⟩
      case round=>
       obtain⟨j,v,hj,rfl,rfl,hv,hw⟩:=hrel
       have hw:=hw.symm
       subst hw
       have hvV:v≤9999:=by have:=valP_ge (s.data.toList.drop j) v;rw[hv.out] at this;omega
       by_cases hjs:j<s.size
       ·have hjs':(j:Int)<(s.size:Int):=by omega
        have c1:=hcell j hjs
        have hd:=hdig j hjs
        have hv2:Hid (valP (s.data.toList.drop (j+1)) (10*v+((byteAt s j).toNat-48))=V):=by show _=_;rw[←hv.out,drop_byteAt s j hjs,valP]
        clear hcell hcv hrun
        go_wp2_with fail
        refine⟨⟨j+1,10*v+((byteAt s j).toNat-48),by omega,rfl,congrArg (Value.int .i64) (by omega),hv2,trivial⟩,?_⟩
        simp[intOf]
        omega
       ·obtain rfl:j=s.size:=by omega
        have hvv:v=V:=by have h:=hv.out;rw[List.drop_of_length_le (by rw[size_list];omega)] at h;exact h
        subst hvv
        have hjs':¬(s.size:Int)<(s.size:Int):=by omega
        by_cases hbig:4096<v
        ·have ho2:none=o:=(hobig hbig).symm.trans ho.out
         subst ho2
         have hb4:(v:Int)>4096:=by omega
         go_wp2_with fail
         go_ret2
         exact⟨rfl,hx2⟩
        ·have ho2:some v=o:=(hosm hbig).symm.trans ho.out
         subst ho2
         have hb4:¬(v:Int)>4096:=by omega
         go_wp2_with fail
         go_ret2
         exact⟨rfl,hx2⟩
    ·have ho2:none=o:=by rw[←ho.out,numO];simp only[hne,if_false];split;rfl;split;rfl;rw[if_pos (by rw[size_list];omega)]
     subst ho2
     have h4':¬(s.size:Int)≤4:=by omega
     have hRb:((R:Int) != (s.size:Int))=false:=by rw[hRs];simp
     have z1:(s.size:Int)>1:=by omega
     have z2:¬(byteAt s 0).toNat=48:=fun h=>hz ⟨by omega,h⟩
     have z3:(((byteAt s 0).toNat:Int) == 48)=false:=by simp;omega
     go_wp2_with fail
     refine hrun.mono ?_
     rintro e w1 ⟨rfl,hw⟩
     subst hw
     go_wp2_with fail
     go_ret2
     exact⟨rfl,Ext.refl _⟩
   ·have ho2:none=o:=by rw[←ho.out,numO];simp only[hne,if_false];split;rfl;rw[if_pos (by rw[hR.out,size_list];exact hRs)]
    subst ho2
    have hRb:((R:Int) != (s.size:Int))=true:=by simp;omega
    by_cases hs1:s.size=1
    ·have z1:¬(s.size:Int)>1:=by omega
     go_wp2_with fail
     refine hrun.mono ?_
     rintro e w1 ⟨rfl,hw⟩
     subst hw
     go_wp2_with fail
     go_ret2
     exact⟨rfl,Ext.refl _⟩
    ·have z1:(s.size:Int)>1:=by omega
     have z2:¬(byteAt s 0).toNat=48:=fun h=>hz ⟨by omega,h⟩
     have z3:(((byteAt s 0).toNat:Int) == 48)=false:=by simp;omega
     go_wp2_with fail
     refine hrun.mono ?_
     rintro e w1 ⟨rfl,hw⟩
     subst hw
     go_wp2_with fail
     go_ret2
     exact⟨rfl,Ext.refl _⟩
end Lx
namespace Pr
open Go.ChangeShapes Go.WideShapes Go.ChangeAt Go.RowKit
open Base Lx Mi
theorem mt:Mt Tryz.prog 150 9 3:=⟨Tryz.underlying150,Tryz.underlying9,Tryz.underlying3,fun w=>by kernel_rfl⟩
theorem el_str:El Tryz.prog 32 9 (.string ByteArray.empty) 1 16:=⟨Tryz.underlying32,by kernel_rfl,rfl,by decide⟩
theorem el_int:El Tryz.prog 33 3 (.int .i64 0) 1 8:=⟨Tryz.underlying33,by kernel_rfl,rfl,by decide⟩
theorem el_fld:El Tryz.prog 34 38 (.agg #[.string ByteArray.empty,.bool false,.int .i64 0]) 3 32:=⟨by kernel_rfl,by kernel_rfl,by kernel_rfl,by omega⟩
theorem el_nd:El Tryz.prog 22 36 (.agg #[.int .i64 0,.string ByteArray.empty,.int .i64 0,.slice none 0 0,.slice none 0 0,.slice none 0 0]) 6 104:=⟨by kernel_rfl,by kernel_rfl,by kernel_rfl,by omega⟩
abbrev V3:=Value×Value×Value
def ndC (d:Nd) (v:V3):List Value:=[.int .i64 d.k,.string d.name,.int .i64 d.size,v.1,v.2.1,v.2.2]
def ndsC:List Nd→List V3→List Value
 | d::ns,v::vs=>ndC d v++ndsC ns vs
 | _,_=>[]
def fldC (f:ByteArray×Bool×Nat):List Value:=[.string f.1,.bool f.2.1,.int .i64 (f.2.2:Int)]
def flds (l:List (ByteArray×Bool×Nat)):List Value:=l.flatMap fldC
structure Sub (B:Nat) (w:World) (d:Nd) (v:V3):Prop where
 syms:w.ownsRow B 9 1 v.1 d.syms.length (txs d.syms)
 items:w.ownsRow B 3 1 v.2.1 d.items.length (ints d.items)
 fields:w.ownsRow B 38 3 v.2.2 d.fields.length (flds d.fields)
structure Nds (B:Nat) (w:World) (ns:List Nd) (vs:List V3) (vn:Value):Prop where
 len:vs.length=ns.length
 row:w.ownsRow B 36 6 vn ns.length (ndsC ns vs)
 sub:∀(i:Nat) d v,ns[i]?=some d→vs[i]?=some v→Sub B w d v
def TokOk (l:List Tok):Prop:=∃pre e,l=pre++[e]∧e.k=3
theorem TokOk.tail {l:List Tok} (h:TokOk l) (hk:(hd l).k≠3):TokOk l.tail∧l.tail.length+1=l.length:=by
 obtain⟨pre,e,rfl,he⟩:=h
 cases pre with
 | nil=>simp[hd] at hk;exact absurd he hk
 | cons x pre=>exact⟨⟨pre,e,rfl,he⟩,by simp⟩
theorem TokOk.pos {l:List Tok} (h:TokOk l):1≤l.length:=by
 obtain⟨pre,e,rfl,he⟩:=h
 simp
structure Rs (B:Nat) (w:World) (R M:Nat) (vl vn:Value) (vs:List V3) (s:PS):Prop where
 blk:Blk w R #[vl,vn,.map (some M)] 152
 toks:∃tg off cap,vl=.slice (some ⟨tg,off,none⟩) s.l.length cap∧Rd w (some ⟨tg,off,none⟩) (rows s.l)∧s.l.length≤cap∧cap≤maxLen∧tg<B
 nds:Nds B w s.ns vs vn
 named:∃cnt,MapU Tryz.prog 9 3 w M cnt s.nm∧cnt+s.l.length≤2000
 nmOk:∀x n,s.nm x=some n→n<s.ns.length
 tok:TokOk s.l
 tl:s.l.length≤2000
 ts:∀t∈s.l,t.s.size≤4096
 nl:s.ns.length≤200
 hR:B≤R
 hM:B≤M
 wd:Wd w
 hw:1<B
def Wr (R M:Nat) (vn:Value):Nat→Prop:=fun k=>k=R∨k=M∨vn.ownBlock=some k
def Fresh (w:World) (v v':Value):Prop:=v'.ownBlock=v.ownBlock∨∃k,v'.ownBlock=some k∧w.heap.size≤k
def stopV (at_ why:Nat):List PanicEntry:=[{ v:=.iface 147 (.agg #[.int .i64 (at_:Int),.int .i64 (why:Int)]),recovered:=false }]
theorem own_chg {S:Nat→Prop} {w w':World} {base:Nat} {e:TypeId} {size n:Nat} {v:Value} {xs:List Value} (h:w.ownsRow base e size v n xs) (hx:Chg S w w') (hS:∀k,v.ownBlock=some k→¬S k):w'.ownsRow base e size v n xs:=by
 refine⟨h.1,?_⟩
 rcases h.2 with h2|⟨g,cap,cur,rfl,hb,hg,r⟩
 ·exact .inl h2
 ·exact .inr ⟨g,cap,cur,rfl,hb,hx.heap hg (hS g rfl),r⟩
theorem map_chg {S:Nat→Prop} {w w':World} {k e:TypeId} {b n:Nat} {f:ByteArray→Option Nat} (h:MapU Tryz.prog k e w b n f) (hx:Chg S w w') (hS:¬S b):MapU Tryz.prog k e w' b n f:=by
 obtain⟨D,⟨es,clock,hb,r⟩,h2⟩:=h
 exact⟨D,⟨es,clock,hx.heap hb hS,r⟩,h2⟩
theorem own_ne_map {w:World} {base:Nat} {e:TypeId} {size n:Nat} {v:Value} {xs:List Value} {k e':TypeId} {b n':Nat} {f:ByteArray→Option Nat} (h:w.ownsRow base e size v n xs) (hm:MapU Tryz.prog k e' w b n' f):¬v.ownBlock=some b:=fun he=>by
 rcases h.2 with⟨e1,_⟩|⟨g',cap,cur,e1,_,hh,_⟩
 ·rw[e1] at he;cases he
 ·rw[e1] at he
  simp only[Value.ownBlock,Option.some.injEq] at he
  exact hm.not_cells hh he.symm
theorem own_not {w:World} {base base':Nat} {e e':TypeId} {size size' n n':Nat} {v v':Value} {xs xs':List Value} (h:w.ownsRow base e size v n xs) (h':w.ownsRow base' e' size' v' n' xs') (hne:e≠e'):∀k,v'.ownBlock=some k→¬v.ownBlock=some k:=fun k hk he=>by
 rcases own_ne_own h h' hne with e1|e1
 ·rw[hk] at e1;cases e1
 ·exact e1 (hk.trans he.symm)
theorem own_mono {w:World} {B B':Nat} {e:TypeId} {size n:Nat} {v:Value} {xs:List Value} (h:w.ownsRow B e size v n xs) (hB:B'≤B):w.ownsRow B' e size v n xs:=by
 refine⟨h.1,?_⟩
 rcases h.2 with h2|⟨g,cap,cur,rfl,hb,r⟩
 ·exact .inl h2
 ·exact .inr ⟨g,cap,cur,rfl,Nat.le_trans hB hb,r⟩
section
variable {B:Nat} {w w':World} {R M:Nat} {vl vn:Value} {vs:List V3} {s:PS} {d:Nd} {v:V3} {ns:List Nd}
theorem Sub.ext (h:Sub B w d v) (hx:Ext w w'):Sub B w' d v:=⟨own_ext h.syms hx,own_ext h.items hx,own_ext h.fields hx⟩
theorem Nds.ext (h:Nds B w ns vs vn) (hx:Ext w w'):Nds B w' ns vs vn:=⟨h.len,own_ext h.row hx,fun i d v h1 h2=>(h.sub i d v h1 h2).ext hx⟩
theorem Rs.ext (h:Rs B w R M vl vn vs s) (hx:Ext w w'):Rs B w' R M vl vn vs s:=by
 obtain⟨tg,off,cap,e,h1,h2,h3,h4⟩:=h.toks
 obtain⟨cnt,h5,h6⟩:=h.named
 exact⟨h.blk.ext hx,⟨tg,off,cap,e,h1.ext hx,h2,h3,h4⟩,h.nds.ext hx,⟨cnt,h5.ext hx,h6⟩,h.nmOk,h.tok,h.tl,h.ts,h.nl,h.hR,h.hM,h.wd.ext hx,h.hw⟩
theorem Sub.chg {S:Nat→Prop} (h:Sub B w d v) (hx:Chg S w w') (h1:∀k,v.1.ownBlock=some k→¬S k) (h2:∀k,v.2.1.ownBlock=some k→¬S k) (h3:∀k,v.2.2.ownBlock=some k→¬S k):Sub B w' d v:=⟨own_chg h.syms hx h1,own_chg h.items hx h2,own_chg h.fields hx h3⟩
theorem Rs.sep (h:Rs B w R M vl vn vs s):(∀(i:Nat) d v,s.ns[i]?=some d→vs[i]?=some v→(∀k,v.1.ownBlock=some k→¬Wr R M vn k)∧(∀k,v.2.1.ownBlock=some k→¬Wr R M vn k)∧(∀k,v.2.2.ownBlock=some k→¬Wr R M vn k))∧R≠M∧¬vn.ownBlock=some R∧¬vn.ownBlock=some M:=by
 obtain⟨cnt,hm,_⟩:=h.named
 refine⟨fun i d v h1 h2=>?_,fun e=>hm.not_cells h.blk e.symm,fun e=>own_ne_blk h.nds.row h.blk (by decide) e.symm,own_ne_map h.nds.row hm⟩
 have hs:=h.nds.sub i d v h1 h2
 refine⟨?_,?_,?_⟩
 ·rintro k hk (rfl|rfl|e)
  ·exact own_ne_blk hs.syms h.blk (by decide) hk.symm
  ·exact own_ne_map hs.syms hm hk
  ·exact own_not hs.syms h.nds.row (by decide) k e hk
 ·rintro k hk (rfl|rfl|e)
  ·exact own_ne_blk hs.items h.blk (by decide) hk.symm
  ·exact own_ne_map hs.items hm hk
  ·exact own_not hs.items h.nds.row (by decide) k e hk
 ·rintro k hk (rfl|rfl|e)
  ·exact own_ne_blk hs.fields h.blk (by decide) hk.symm
  ·exact own_ne_map hs.fields hm hk
  ·exact own_not hs.fields h.nds.row (by decide) k e hk
theorem Rs.wr_ge (h:Rs B w R M vl vn vs s):∀k,Wr R M vn k→B≤k:=by
 rintro k (rfl|rfl|e)
 ·exact h.hR
 ·exact h.hM
 ·exact (h.nds.row.lt k e).1
theorem Rs.cells (h:Rs B w R M vl vn vs s):w.cell? ⟨R,0,none⟩=some vl∧w.cell? ⟨R,1,none⟩=some vn∧w.cell? ⟨R,2,none⟩=some (.map (some M))∧w.frozen? ⟨R,0,none⟩=false∧w.frozen? ⟨R,1,none⟩=false:=
 ⟨h.blk.cell 0,h.blk.cell 1,h.blk.cell 2,h.blk.frozen 0,h.blk.frozen 1⟩
theorem Rs.head (h:Rs B w R M vl vn vs s):∃tg off cap,vl=.slice (some ⟨tg,off,none⟩) s.l.length cap∧1≤s.l.length∧s.l.length≤cap∧cap≤maxLen∧∀W,Ext w W→W.cell? ⟨tg,off,none⟩=some (.int .i64 (hd s.l).k)∧W.cell? ⟨tg,off+1,none⟩=some (.string (hd s.l).s)∧W.cell? ⟨tg,off+2,none⟩=some (.int .i64 ((hd s.l).a:Int)):=by
 obtain⟨tg,off,cap,e,h1,h2,h3,h4⟩:=h.toks
 refine⟨tg,off,cap,e,h.tok.pos,h2,h3,fun W hW=>?_⟩
 have hp:=h.tok.pos
 cases hl:s.l with
 | nil=>rw[hl] at hp;simp at hp
 | cons t r=>
  rw[hl] at h1
  have h1:=h1.ext hW
  have hr:rows (t::r)=.int .i64 t.k::.string t.s::.int .i64 (t.a:Int)::rows r:=rfl
  have hne:rows (t::r)≠[]:=by rw[hr];simp
  obtain⟨b,o,e2,hc⟩:=h1 hne
  simp only[Option.some.injEq,Addr.mk.injEq,and_true] at e2
  obtain⟨rfl,rfl⟩:=e2
  rw[hr] at hc
  exact⟨hc 0 _ rfl,hc 1 _ rfl,hc 2 _ rfl⟩
theorem Rs.on {tg off cap:Nat} (h:Rs B w R M (.slice (some ⟨tg,off,none⟩) s.l.length cap) vn vs s) (hk:(hd s.l).k≠3) :
  Rs B (w.setCell ⟨R,0,none⟩ (.slice (some ⟨tg,off+3,none⟩) (s.l.length-1) (cap-1))) R M (.slice (some ⟨tg,off+3,none⟩) (s.l.length-1) (cap-1)) vn vs s.on:=by
 obtain⟨ht,hl⟩:=h.tok.tail hk
 obtain⟨tg',off',cap',e,h1,h2,h3,h4⟩:=h.toks
 injection e with e e1 e2
 simp only[Option.some.injEq,Addr.mk.injEq,and_true] at e
 obtain⟨rfl,rfl⟩:=e
 subst e2
 obtain⟨cnt,hm,hc⟩:=h.named
 obtain⟨hsub,hRM,hnR,hnM⟩:=h.sep
 have hch:=Chg.one w R 0 (.slice (some ⟨tg,off+3,none⟩) (s.l.length-1) (cap-1))
 have hRne:∀ {e':TypeId} {size n:Nat} {v':Value} {xs:List Value},w.ownsRow B e' size v' n xs→e'≠152→∀k,v'.ownBlock=some k→¬k=R:=fun ho hne k hk e=>own_ne_blk ho h.blk hne (by rw[←e];exact hk.symm)
 refine⟨h.blk.set 0 _,⟨tg,off+3,cap-1,by show _=Value.slice _ s.l.tail.length _;rw[←hl];simp,?_,by show s.l.tail.length≤_;omega,by omega,h4⟩,⟨h.nds.len,own_chg h.nds.row hch (hRne h.nds.row (by decide)),fun i d v q1 q2=>?_⟩,⟨cnt,map_chg hm hch (fun e=>hRM e.symm),by show cnt+s.l.tail.length≤_;omega⟩,h.nmOk,ht,by show s.l.tail.length≤_;have:=h.tl;omega,fun t q=>h.ts t (List.mem_of_mem_tail q),h.nl,h.hR,h.hM,Rd.chg h.wd hch (fun a e=>by injection e with e;subst e;have:=h.hR;have:=h.hw;show ¬1=R;omega),h.hw⟩
 ·have h1':Rd w (some ⟨tg,off+3,none⟩) (rows s.l.tail):=by
   have:=h1.drop 3
   cases hq:s.l with
   | nil=>exact Rd.nil _ _
   | cons t r=>rw[hq] at this;exact this
  exact Rd.chg h1' hch (fun a e=>by injection e with e;subst e;have:=h.hR;show ¬tg=R;omega)
 ·have hs:=h.nds.sub i d v q1 q2
  exact hs.chg hch (hRne hs.syms (by decide)) (hRne hs.items (by decide)) (hRne hs.fields (by decide))
end
def Sl (B:Nat) (w:World) (v:Value) (n:Nat) (cs:List Value):Prop:=∃A c,v=.slice A n c∧Rd w A cs∧(cs≠[]→∀a,A=some a→a.block<B)∧n≤c∧c≤maxLen∧(A=none→c=0)
theorem Rd.below {B:Nat} {w w':World} {A:Option Addr} {cs:List Value} (h:Rd w A cs) (hA:cs≠[]→∀a,A=some a→a.block<B) (hx:Below B w w'):Rd w' A cs:=fun hne=>
 let ⟨b,off,e,hc⟩:=h hne
 ⟨b,off,e,fun j u hj=>(Below.cell hx (p:=⟨b,off+j,none⟩) (hA hne ⟨b,off,none⟩ e)).trans (hc j u hj)⟩
theorem Sl.below {B:Nat} {w w':World} {v:Value} {n:Nat} {cs:List Value} (h:Sl B w v n cs) (hx:Below B w w'):Sl B w' v n cs:=by
 obtain⟨A,c,e,h1,h2,h3⟩:=h
 exact⟨A,c,e,Rd.below h1 h2 hx,h2,h3⟩
theorem Sl.mono {B B':Nat} {w:World} {v:Value} {n:Nat} {cs:List Value} (h:Sl B w v n cs) (hB:B≤B'):Sl B' w v n cs:=by
 obtain⟨A,c,e,h1,h2,h3⟩:=h
 exact⟨A,c,e,h1,fun hne a ha=>Nat.lt_of_lt_of_le (h2 hne a ha) hB,h3⟩
theorem Sl.ofOwn {B:Nat} {w:World} {base:Nat} {e:TypeId} {size n:Nat} {v:Value} {xs:List Value} (h:w.ownsRow base e size v n xs) (hB:w.heap.size≤B):Sl B w v n xs:=by
 obtain⟨A,c,e1,h1,h2,h3,h4⟩:=Rd.of_own h
 refine⟨A,c,e1,h3,fun _ a ha=>?_,h1,h2,fun ha=>?_⟩
 ·have:=(h.lt a.block (by rw[e1,ha];rfl)).2;omega
 ·rcases h.2 with⟨e2,_⟩|⟨g,cap,cur,e2,_⟩
  ·rw[e1] at e2;injection e2
  ·rw[e1,ha] at e2;injection e2 with e2;cases e2
def intsZ (l:List Int):List Value:=l.map (Value.int .i64)
def fldZ (f:ByteArray×Bool×Int):List Value:=[.string f.1,.bool f.2.1,.int .i64 f.2.2]
def fldsZ (l:List (ByteArray×Bool×Int)):List Value:=l.flatMap fldZ
def neC (d:Ne) (v:V3):List Value:=[.int .i64 d.k,.string d.name,.int .i64 d.size,v.1,v.2.1,v.2.2]
def nesC:List Ne→List V3→List Value
 | d::ns,v::vs=>neC d v++nesC ns vs
 | _,_=>[]
structure SubE (B:Nat) (w:World) (d:Ne) (v:V3):Prop where
 syms:Sl B w v.1 d.syms.length (txs d.syms)
 items:Sl B w v.2.1 d.items.length (intsZ d.items)
 fields:Sl B w v.2.2 d.fields.length (fldsZ d.fields)
 rng : -9223372036854775808≤d.size∧d.size≤9223372036854775807
def Sch (B:Nat) (w:World) (vn:Value) (ns:List Ne):Prop:=∃vs:List V3,vs.length=ns.length∧Sl B w vn ns.length (nesC ns vs)∧∀(i:Nat) d v,ns[i]?=some d→vs[i]?=some v→SubE B w d v
theorem Sch.below {B:Nat} {w w':World} {vn:Value} {ns:List Ne} (h:Sch B w vn ns) (hx:Below B w w'):Sch B w' vn ns:=by
 obtain⟨vs,h1,h2,h3⟩:=h
 exact⟨vs,h1,h2.below hx,fun i d v q1 q2=>let s:=h3 i d v q1 q2;⟨s.syms.below hx,s.items.below hx,s.fields.below hx,s.rng⟩⟩
theorem Sch.mono {B B':Nat} {w:World} {vn:Value} {ns:List Ne} (h:Sch B w vn ns) (hB:B≤B'):Sch B' w vn ns:=by
 obtain⟨vs,h1,h2,h3⟩:=h
 exact⟨vs,h1,h2.mono hB,fun i d v q1 q2=>let s:=h3 i d v q1 q2;⟨s.syms.mono hB,s.items.mono hB,s.fields.mono hB,s.rng⟩⟩
theorem intsZ_ofNat (l:List Nat):intsZ (l.map fun (n:Nat)=>(n:Int))=ints l:=by simp[intsZ,ints,Function.comp_def]
theorem fldsZ_ofNat (l:List (ByteArray×Bool×Nat)):fldsZ (l.map fun f=>(f.1,f.2.1,(f.2.2:Int)))=flds l:=by simp[fldsZ,flds,List.flatMap_map,fldZ,Function.comp_def];rfl
theorem nesC_toE:∀(ns:List Nd) (vs:List V3),nesC (ns.map Nd.toE) vs=ndsC ns vs
 | [],[]=>rfl
 | [],_::_=>rfl
 | _::_,[]=>rfl
 | d::ns,v::vs=>by rw[List.map_cons,nesC,ndsC,nesC_toE ns vs];rfl
theorem Sch.ofNds {B B':Nat} {w:World} {vn:Value} {ns:List Nd} {vs:List V3} (h:Nds B w ns vs vn) (hB:w.heap.size≤B') (hr:∀d∈ns,-9223372036854775808≤d.size∧d.size≤9223372036854775807):Sch B' w vn (ns.map Nd.toE):=by
 refine⟨vs,by simp[h.len],?_,fun i d v q1 q2=>?_⟩
 ·rw[nesC_toE,List.length_map];exact Sl.ofOwn h.row hB
 ·rw[List.getElem?_map] at q1
  obtain⟨d0,q3,rfl⟩:=Option.map_eq_some_iff.1 q1
  have hs:=h.sub i d0 v q3 q2
  refine⟨Sl.ofOwn hs.syms hB,?_,?_,hr d0 (List.mem_of_getElem? q3)⟩
  ·show Sl B' w v.2.1 (d0.items.map fun (n:Nat)=>(n:Int)).length (intsZ (d0.items.map fun (n:Nat)=>(n:Int)))
   rw[intsZ_ofNat,List.length_map];exact Sl.ofOwn hs.items hB
  ·show Sl B' w v.2.2 (d0.fields.map fun f=>(f.1,f.2.1,(f.2.2:Int))).length (fldsZ (d0.fields.map fun f=>(f.1,f.2.1,(f.2.2:Int))))
   rw[fldsZ_ofNat,List.length_map];exact Sl.ofOwn hs.fields hB
theorem nesC_at:∀(ns:List Ne) (vs:List V3) (j:Nat) (d:Ne) (v:V3),ns[j]?=some d→vs[j]?=some v→∀i,i<6→(nesC ns vs)[j*6+i]?=(neC d v)[i]?
 | [],vs,j,d,v,h,_,i,hi=>by simp at h
 | _::_,[],j,d,v,_,h,i,hi=>by simp at h
 | y::l,u::r,0,d,v,h,h2,i,hi=>by
  simp at h h2;subst h;subst h2
  rw[nesC,List.getElem?_append_left (by simp[neC];omega)]
  congr 1;omega
 | y::l,u::r,j+1,d,v,h,h2,i,hi=>by
  have ih:=nesC_at l r j d v (by simpa using h) (by simpa using h2) i hi
  rw[nesC,List.getElem?_append_right (by simp[neC];omega)]
  rw[←ih]
  congr 1
  simp[neC];omega
theorem Sch.node {B:Nat} {w:World} {vn:Value} {ns:List Ne} (h:Sch B w vn ns) (j:Nat) (hj:j<ns.length):∃v b off c,vn=.slice (some ⟨b,off,none⟩) ns.length c∧b<B∧SubE B w (ns.getD j neD) v∧ns.length≤c∧c≤maxLen∧∀i,i<6→w.cell? ⟨b,off+(j*6+i),none⟩=(neC (ns.getD j neD) v)[i]?:=by
 obtain⟨vs,h1,⟨A,c,e,h3,h4,h5,h6,_⟩,h2⟩:=h
 obtain⟨d,hd⟩:∃d,ns[j]?=some d:=⟨_,List.getElem?_eq_getElem hj⟩
 obtain⟨v,hv⟩:∃v,vs[j]?=some v:=⟨_,List.getElem?_eq_getElem (by rw[h1];exact hj)⟩
 have hg:ns.getD j neD=d:=by simp[List.getD,hd]
 have hne:nesC ns vs≠[]:=by
  intro e
  have:=nesC_at ns vs j d v hd hv 0 (by omega)
  rw[e] at this
  simp[neC] at this
 obtain⟨b,off,rfl,hc⟩:=h3 hne
 refine⟨v,b,off,c,e,h4 hne _ rfl,by rw[hg];exact h2 j d v hd hv,h5,h6,fun i hi=>?_⟩
 rw[hg,←nesC_at ns vs j d v hd hv i hi]
 have hlt:i<(neC d v).length:=hi
 have hq:=nesC_at ns vs j d v hd hv i hi
 rw[List.getElem?_eq_getElem hlt] at hq
 rw[hq]
 exact hc _ _ hq
structure WInv (B:Nat) (w:World) (W:Nat) (no:Value) (st:WSt):Prop where
 blk:∃p v,(p=none∨p=some (⟨W,0,none⟩:Addr))∧Blk w W #[.pointer p,v,no,.int .i64 (st.next:Int),.bool st.bad] 139∧w.ownsRow B 5 1 v st.s.length (u8s st.s)
 hW:B≤W
theorem WInv.size {B:Nat} {w:World} {W:Nat} {no:Value} {st:WSt} (h:WInv B w W no st):B≤w.heap.size:=by
 obtain⟨p,v,_,hb,_⟩:=h.blk
 have:=hb.lt;have:=h.hW;omega
theorem WInv.ext {B:Nat} {w w':World} {W:Nat} {no:Value} {st:WSt} (h:WInv B w W no st) (hx:Ext w w'):WInv B w' W no st:=by
 obtain⟨p,v,h1,h2,h3⟩:=h.blk
 exact⟨⟨p,v,h1,h2.ext hx,own_ext h3 hx⟩,h.hW⟩
structure WK (B:Nat) (w w':World):Prop where
 below:Below B w w'
 keep:∀g cs t,Blk w g cs t→t≠5→t≠139→Blk w' g cs t
 size:w.heap.size≤w'.heap.size
theorem WK.refl (B:Nat) (w:World):WK B w w:=⟨Below.refl B w,fun _ _ _ h _ _=>h,Nat.le_refl _⟩
theorem WK.trans {B:Nat} {a b c:World} (h:WK B a b) (k:WK B b c):WK B a c:=⟨h.below.trans k.below,fun g cs t hb h1 h2=>k.keep g cs t (h.keep g cs t hb h1 h2) h1 h2,Nat.le_trans h.size k.size⟩
theorem WK.ofExt {B:Nat} {a b:World} (h:Ext a b) (hB:B≤a.heap.size):WK B a b:=⟨Below.mono h hB,fun g cs t hb _ _=>hb.ext h,h.size⟩
theorem WK.set {B:Nat} {a b:World} (h:WK B a b) {m i:Nat} {cs:Array Value} (hb:Blk b m cs 139) (hm:B≤m) (u:Value):WK B a (b.setCell ⟨m,i,none⟩ u):=by
 refine⟨h.below.setCell (p:=⟨m,i,none⟩) hm u,fun g ds t hg h1 h2=>?_,?_⟩
 ·have:=h.keep g ds t hg h1 h2
  refine this.far (p:=⟨m,i,none⟩) (fun e=>?_) u
  have e:g=m:=e
  subst e
  unfold Blk at this hb
  rw[this] at hb
  injection hb with hb;injection hb with _ hb
  exact h2 hb
 ·have:=h.size;simpa using this
theorem WK.grown {B:Nat} {a b c:World} (h:WK B a b) {n:Nat} {v:Value} {xs:List Value} (ho:b.ownsRow B 5 1 v n xs) (hg:b.grownBy c v.ownBlock) (hB:B≤b.heap.size):WK B a c:=
 ⟨Below.grown h.below hg hB (fun k hk=>(ho.lt k hk).1),fun g cs t hb h1 h2=>by
  have:=h.keep g cs t hb h1 h2
  exact this.grown hg (own_ne_blk ho this (fun e=>h1 e.symm)),Nat.le_trans h.size hg.size⟩
theorem own_slice {w:World} {base:Nat} {e:TypeId} {size n:Nat} {v:Value} {xs:List Value} (h:w.ownsRow base e size v n xs):∃A cap,v=.slice A n cap:=by
 rcases h.2 with⟨rfl,h0⟩|⟨g,cap,cur,rfl,_⟩
 ·exact⟨none,0,by rw[h0]⟩
 ·exact⟨_,cap,rfl⟩
theorem el_u8w:El Tryz.prog 120 5 (.int .u8 0) 1 1:=⟨by kernel_rfl,by kernel_rfl,rfl,by omega⟩
theorem wcheck_any (w:World) (b:Nat) (v no x y:Value) (p:Option Addr) (hp:p=none∨p=some (⟨b,0,none⟩:Addr)) (hb:Blk w b #[.pointer p,v,no,x,y] 139) :
  Calls Tryz.prog 142 #[.pointer (some ⟨b,0,none⟩)] w fun e w'=>e=.returned (.tuple #[])∧w'=(if p=none then w.setCell ⟨b,0,none⟩ (.pointer (some ⟨b,0,none⟩)) else w):=by
 have c0:=hb.cell 0
 have f0:=hb.frozen 0
 rcases hp with rfl|rfl
 ·have c0:w.cell? ⟨b,0,none⟩=some (.pointer none):=c0
  have hsh:w.shape? b=some (139,5):=by simp[World.shape?,show w.heap[b]?=_ from hb]
  obtain⟨j,hj,hjs⟩:=Option.map_eq_some_iff.1 (show (Tryz.prog.info? 137).map (·.size)=some 2 by kernel_rfl)
  have k1:=Lib.run_to_unsafe (P:=Tryz.prog) (w:=w) (src:=135) (dst:=176) ⟨b,0,none⟩ Tryz.underlying135 Tryz.underlying176 hj (by rw[hjs];decide) hsh (Nat.zero_lt_succ 4)
  have k2:=@run_callFunc_extern Tryz.prog 163 _ Extern.AbiNoEscape.same Tryz.func163 (by kernel_rfl) (by kernel_rfl) (by kernel_rfl) (by kernel_rfl)
  have k3:=Lib.run_noEscape (P:=Tryz.prog) (w:=w) (.pointer (some ⟨b,0,none⟩))
  have k4:=Lib.run_from_unsafe (P:=Tryz.prog) (w:=w) (src:=176) (dst:=135) ⟨b,0,none⟩ Tryz.underlying176 Tryz.underlying135 hj hsh (by kernel_rfl)
  go_enter Tryz.func142,Tryz.ntmps142
  go_wp2_with fail
  go_end0
  exact⟨rfl,rfl⟩
 ·have c0:w.cell? ⟨b,0,none⟩=some (.pointer (some ⟨b,0,none⟩)):=c0
  obtain⟨j,hj,_⟩:=Option.map_eq_some_iff.1 (show (Tryz.prog.info? 137).map (·.size)=some 2 by kernel_rfl)
  have k5:=Lib.run_neq_ptr_same (P:=Tryz.prog) w ⟨b,0,none⟩ Tryz.underlying135 hj
  go_enter Tryz.func142,Tryz.ntmps142
  go_wp2_with fail
  go_end0
  exact⟨rfl,rfl⟩
theorem strCells_u8s (s:ByteArray):Lib.strCells s=u8s (bs s):=by simp[Lib.strCells,u8s,bs]
theorem wstr_any {B:Nat} {w:World} {W:Nat} {no:Value} {st:WSt} (t:ByteArray) (h:WInv B w W no st) (hl:st.s.length+t.size≤100000000) :
  Calls Tryz.prog 126 #[.pointer (some ⟨W,0,none⟩),.string t] w fun e w'=>e=.returned (.tuple #[.int .i64 (t.size:Int),.nilIface])∧WK B w w'∧WInv B w' W no (st.put (bs t)):=by
 obtain⟨p,v,hp,hb,ho⟩:=h.blk
 have hW:=h.hW
 have hck:=wcheck_any w W v no _ _ p hp hb
 generalize hw1:(if p=none then w.setCell ⟨W,0,none⟩ (.pointer (some ⟨W,0,none⟩)) else w)=w1 at hck
 have hb1:Blk w1 W #[.pointer (some ⟨W,0,none⟩),v,no,.int .i64 (st.next:Int),.bool st.bad] 139:=by
  rw[←hw1]
  rcases hp with rfl|rfl
  ·have:=hb.set 0 (.pointer (some ⟨W,0,none⟩));simpa using this
  ·simpa using hb
 have ho1:w1.ownsRow B 5 1 v st.s.length (u8s st.s):=by
  rw[←hw1]
  split
  ·exact own_setCell ho hb (by decide) _
  ·exact ho
 have hx1:WK B w w1:=by
  rw[←hw1]
  split
  ·exact (WK.refl B w).set hb hW _
  ·exact WK.refl B w
 have hB1:B≤w1.heap.size:=by have:=hb1.lt;omega
 clear hw1 hb ho hp h
 obtain⟨A,cap,rfl⟩:=own_slice ho1
 obtain⟨n,hn⟩:∃n,Hid (st.s.length=n):=⟨_,rfl⟩
 have hn2:n+t.size≤100000000:=by rw[←hn.out];exact hl
 rw[hn.out] at hb1 ho1
 have c1:w1.cell? ⟨W,1,none⟩=some (.slice A n cap):=hb1.cell 1
 obtain⟨i,hi,hz,hs,hby⟩:=info_parts el_u8w.info
 have hcl:(u8s (bs t)).length=t.size:=by rw[u8s_length];exact size_list t
 go_enter Tryz.func126,Tryz.ntmps126
 go_wp2_with fail
 refine hck.mono ?_
 rintro e w' ⟨rfl,hw⟩
 have hw:=hw.symm
 subst hw
 go_wp2_with (
  refine Lib.wpList_append_own_string _ rfl (.tmp 12) (.tmp 13) 120 9 rfl B 5 i el_u8w.under Tryz.underlying9 hi hz hs hby (.slice A n cap) n (u8s st.s) rfl ho1 t rfl (by unfold maxLen;omega) (by omega) hB1 (fun V2 w2 ho2 hg2 hv2=>?_)
  obtain⟨A2,cap2,rfl⟩:=own_slice ho2
  have hb2:=hb1.grown hg2 (own_ne_blk ho1 hb1 (by decide))
  have f2:=hb2.frozen 1
  have c2:w2.cell? ⟨W,1,none⟩=some (.slice A n cap):=hb2.cell 1
  have hx2:WK B w w2:=hx1.grown ho1 hg2 hB1
  have hbq:=hb2.set 1 (.slice A2 (n+t.size) cap2)
  have hoq:=own_setCell (i:=1) ho2 hb2 (by decide) (.slice A2 (n+t.size) cap2))
 go_ret2
 refine⟨rfl,hx2.set hb2 hW _,⟨_,.slice A2 (n+t.size) cap2,.inr rfl,hbq,?_⟩,hW⟩
 rw[strCells_u8s,←u8s_append] at hoq
 have:(st.put (bs t)).s.length=n+t.size:=by rw[WSt.put_len,hn.out];exact congrArg (n + ·) (size_list t)
 rw[this]
 exact hoq
theorem wlen_any {B:Nat} {w:World} {W:Nat} {no:Value} {st:WSt} (h:WInv B w W no st) :
  Calls Tryz.prog 125 #[.pointer (some ⟨W,0,none⟩)] w fun e w'=>e=.returned (.int .i64 (st.s.length:Int))∧w=w':=by
 obtain⟨p,v,hp,hb,ho⟩:=h.blk
 obtain⟨A,cap,rfl⟩:=own_slice ho
 obtain⟨n,hn⟩:∃n,Hid (st.s.length=n):=⟨_,rfl⟩
 rw[hn.out] at hb ⊢
 have c1:w.cell? ⟨W,1,none⟩=some (.slice A n cap):=hb.cell 1
 clear hb ho h
 go_enter Tryz.func125,Tryz.ntmps125
 go_wp2_with fail
 go_ret
 exact⟨rfl,rfl⟩
theorem wk_freeze {B:Nat} {w:World} {g n:Nat} {cur:Array Value} {fr:Nat×Nat} (hg:w.heap[g]?=some (.cells cur 5 fr)) (hB:B≤g):WK B w (w.freeze ⟨g,0,none⟩ n):=by
 refine⟨Lib.below_freeze (Below.refl B w) (p:=⟨g,0,none⟩) hB _,fun g' cs t hb h1 h2=>?_,?_⟩
 ·have hne:¬g=g':=fun e=>by
   subst e
   unfold Blk at hb
   rw[hb] at hg
   injection hg with hg;injection hg with _ hg
   exact h1 hg
  unfold World.freeze
  split
  ·exact hb
  ·unfold Blk
   simp only[Array.getElem?_modify]
   rw[if_neg hne]
   exact hb
 ·unfold World.freeze
  split
  ·exact Nat.le_refl _
  ·simp
theorem wstring_any {B:Nat} {w:World} {W:Nat} {no:Value} {st:WSt} (h:WInv B w W no st) (hl:st.s.length≤100000000) (hne:st.s≠[]) :
  Calls Tryz.prog 113 #[.pointer (some ⟨W,0,none⟩)] w fun e w'=>e=.returned (.string ⟨st.s.toArray⟩)∧WK B w w':=by
 obtain⟨p,v,hp,hb,ho⟩:=h.blk
 have hsz:=h.size
 obtain⟨s,hs⟩:∃s,s=st.s:=⟨_,rfl⟩
 rw[←hs] at ho hl hne ⊢
 have hn0:s.length≠0:=fun e=>hne (List.eq_nil_of_length_eq_zero e)
 obtain⟨g,cap,cur,rfl,hbg,hg,hnc,hcm,hcs,htake⟩:∃g cap cur,v=.slice (some ⟨g,0,none⟩) s.length cap∧B≤g∧w.heap[g]?=some (.cells cur 5 (0,0))∧s.length≤cap∧cap≤maxLen∧cur.size=cap*1∧cur.toList.take (s.length*1)=u8s s:=by
  rcases ho.2 with⟨_,h0⟩|⟨g,cap,cur,hv,r⟩
  ·exact absurd h0 hn0
  ·exact⟨g,cap,cur,hv,r⟩
 obtain⟨n,hn⟩:∃n,Hid (s.length=n):=⟨_,rfl⟩
 have hn1:1≤n:=by have:=hn.out;omega
 have hn2:n≤100000000:=by have:=hn.out;omega
 have hsh:w.drew.shape? g=some (5,cur.size):=by simp[World.shape?,show w.drew.heap[g]?=_ from hg]
 have hcell:∀j x,s[j]?=some x→w.drew.cell? ((⟨g,0,none⟩:Addr).add j)=some (.int .u8 (x.toNat:Int)):=fun j x hj=>by
  have hadd:(⟨g,0,none⟩:Addr).add j=⟨g,j,none⟩:=by unfold Addr.add;split<;>simp_all
  have hj2:(u8s s)[j]?=some (.int .u8 (x.toNat:Int)):=by simp[u8s,hj]
  rw[hadd,show w.drew.cell? ⟨g,j,none⟩=cur[j]? from cell_of_row w.drew g j cur 5 (0,0) hg]
  rw[←htake,List.getElem?_take] at hj2
  split at hj2
  ·simpa using hj2
  ·cases hj2
 have hUS:=Lib.run_unsafeString_row (P:=Tryz.prog) w.drew 163 3 9 5 Tryz.underlying163 (by kernel_rfl) g cur.size hsh s hne (by omega) (by omega) hcell
 have hSD:=Lib.run_unsafeSliceData_row (P:=Tryz.prog) w.drew #[120] 163 ⟨g,0,none⟩ n cap (by omega)
 rw[hn.out] at hUS hb
 have c1:w.drew.cell? ⟨W,1,none⟩=some (.slice (some ⟨g,0,none⟩) n cap):=hb.cell 1
 have hxf:WK B w (w.drew.freeze ⟨g,0,none⟩ n):=(WK.ofExt ((Ext.refl w).drew) hsz).trans (wk_freeze (show w.drew.heap[g]?=_ from hg) hbg)
 clear hcell hsh htake hcs hg ho hn0 hnc hcm hs h hb hp
 go_enter Tryz.func113,Tryz.ntmps113
 go_wp2_with fail
 go_region
 all_goals go_wp2_with fail
 all_goals go_ret
 all_goals exact⟨rfl,hxf⟩
end Pr
end Go.Proofs.YtmaoochjbpohdaaGreatDoor
