/- A region that draws its order: one walk, in an order in which what only reads comes as early as it may, serves every order. The class of worlds moves on with the walk. -/
import Derived.Test.YtllhhpcabncmiaaGreatDoorDsB
import Derived.OrdersHeld
import Derived.Deep.RegionHeld3
import Derived.Maps.OwnSet
import Derived.StringKeys
import Derived.Lib.ConvBytes
import Derived.Lib.ItoaNum
set_option linter.unusedVariables false
set_option linter.unusedSimpArgs false
set_option maxRecDepth 100000
set_option maxHeartbeats 1000000
namespace Go.Proofs.YtllhhpcabncmiaaGreatDoor
namespace Reg
def marked (n:Nat) (l:List Nat):Array Bool:=l.foldr (fun i acc=>acc.setIfInBounds i true) (Array.replicate n false)
theorem marked_cons (n i:Nat) (l:List Nat):marked n (i::l)=(marked n l).setIfInBounds i true:=rfl
section
variable {P:Program} {ops:Array Oper} {Q:Exit→Act→World→Prop} {R:World→World→Prop}
def Closed (ops:Array Oper) (listed:Array Bool):Prop:=∀(k:Nat) (ok:Oper),ops[k]?=some ok→listed.getD k false=true→∀e∈ok.after,Region.binds .any e=true→listed.getD e.on false=true
theorem Closed.set {ops:Array Oper} {listed:Array Bool} {i:Nat} (h:Closed ops listed) (hi:i∈Region.ready .any ops listed):Closed ops (listed.setIfInBounds i true):=by
 intro k ok hk hl e he hb
 by_cases hik:i=k
 ·subst hik
  obtain⟨_,oi,hoi,hall⟩:=mem_ready.1 hi
  rw[hk] at hoi
  cases hoi
  exact getD_set_true (hall e he hb)
 ·rw[getD_set_ne false hik] at hl
  exact getD_set_true (h k ok hk hl e he hb)
theorem Closed.none (ops:Array Oper):Closed ops (marked ops.size []):=by
 intro k ok hk hl
 have hlt:=(Array.getElem?_eq_some_iff.1 hk).1
 simp[marked,hlt] at hl
def Sole (ops:Array Oper) (j:Nat):Prop:=∀(listed:Array Bool) (i:Nat),Closed ops listed→j∈Region.ready .any ops listed→i∈Region.ready .any ops listed→i=j
def waits (ops:Array Oper):Nat→Nat→Nat→Bool
 | 0,_,_=>false
 | f+1,j,k=>match ops[j]? with
  | none=>false
  | some oj=>oj.after.any fun e=>Region.binds .any e && (e.on == k || waits ops f e.on k)
theorem waits_listed {ops:Array Oper} {listed:Array Bool} (hc:Closed ops listed) {k:Nat}:∀(f j:Nat),waits ops f j k=true→(∀oj,ops[j]?=some oj→∀e∈oj.after,Region.binds .any e=true→listed.getD e.on false=true)→listed.getD k false=true
 | 0,_,h,_=>by simp[waits] at h
 | f+1,j,h,hj=>by
  unfold waits at h
  cases hoj:ops[j]? with
  | none=>simp[hoj] at h
  | some oj=>
   simp only[hoj] at h
   obtain⟨e,he,hb⟩:=Array.any_eq_true'.1 h
   simp only[Bool.and_eq_true,Bool.or_eq_true,beq_iff_eq] at hb
   have hl:=hj oj hoj e he hb.1
   rcases hb.2 with h2|h2
   ·rw[←h2];exact hl
   ·exact waits_listed hc f e.on h2 (fun oe hoe=>hc e.on oe hoe hl)
def soleB (ops:Array Oper) (j:Nat):Bool:=
 match ops[j]? with
 | none=>false
 | some _=>(List.range ops.size).all fun k=>k == j || waits ops 4 j k
theorem sole_of {ops:Array Oper} {j:Nat} (h:soleB ops j=true):Sole ops j:=by
 intro listed i hc hj hi
 obtain⟨_,oj,hoj,hall⟩:=mem_ready.1 hj
 obtain⟨hun,oi,hoi,_⟩:=mem_ready.1 hi
 unfold soleB at h
 simp only[hoj,List.all_eq_true,List.mem_range] at h
 have h1:=h i (Array.getElem?_eq_some_iff.1 hoi).1
 simp only[Bool.or_eq_true,beq_iff_eq] at h1
 rcases h1 with h1|h1
 ·exact h1
 ·have h2:=waits_listed hc _ _ h1 (fun o ho=>by rw[hoj] at ho;cases ho;exact hall)
  rcases Nat.lt_or_ge i listed.size with h'|h'
  ·simp[h'] at h2 hun;rw[hun] at h2;cases h2
  ·simp[Array.getElem?_eq_none h'] at h2
def wpAll (P:Program) (ops:Array Oper) (Q:Exit→Act→World→Prop) (R:World→World→Prop):Nat→Array Bool→Act→World→Prop
 | 0,listed,a,w=>Region.ready .any ops listed=[]∧Q .normal a w
 | fuel+1,listed,a,w=>
  (Region.ready .any ops listed=[]→Q .normal a w)∧
  ∀i∈Region.ready .any ops listed,wpOp P ops Q i (fun a' w'=>(R w w'∨Sole ops i)∧wpAll P ops Q R fuel (listed.setIfInBounds i true) a' w') a w
theorem wpAny_of_wpAll:∀(fuel:Nat) (listed:Array Bool) (a:Act) (w:World),wpAll P ops Q R fuel listed a w→wpAny P .any ops Q fuel listed a w
 | 0,_,_,_,h=>h
 | fuel+1,_,_,_,h=>⟨h.1,fun i hi=>wpOp_mono (fun a' w' h'=>wpAny_of_wpAll fuel _ a' w' h'.2) (h.2 i hi)⟩
theorem wpAll_first (hrefl:∀w,R w w) (htrans:∀ {a b c},R a b→R b c→R a c) {w0:World} {i:Nat} {oi:Oper} {v:Value} (hi:ops[i]?=some oi) (hsel:∀(j:Nat) (o:Oper) cs b,ops[j]?=some o→o.op≠.select cs b)
  (hQ:∀c a w,Q (.panic c) (a.put oi.dst v) w→Q (.panic c) a w) :
  ∀(fuel:Nat) (listed:Array Bool) (a:Act) (w:World),
   (∀j oj,ops[j]?=some oj→j≠i→listed.getD j true=false→(∀e∈oj.after,Region.binds .any e=true→e.on≠i)→oi.apart ops oj=true)→
   Closed ops listed→i∈Region.ready .any ops listed→YieldsIf P ops (R w0) oi v a→R w0 w→
   wpAll P ops Q R fuel (listed.setIfInBounds i true) (a.put oi.dst v) w→wpAll P ops Q R (fuel+1) listed a w:=by
 intro fuel
 induction fuel with
 | zero=>
  intro listed a w _ hcl hr hy hw H
  refine⟨fun h=>(by rw[h] at hr;cases hr),fun j hj=>?_⟩
  by_cases hji:j=i
  ·subst hji;exact hy.wpOp hi hw ⟨.inl (hrefl w),H⟩
  ·have:=ready_mono hj hji
   rw[H.1] at this
   cases this
 | succ fuel ih=>
  intro listed a w hfree hcl hr hy hw H
  refine⟨fun h=>(by rw[h] at hr;cases hr),fun j hj=>?_⟩
  by_cases hji:j=i
  ·subst hji;exact hy.wpOp hi hw ⟨.inl (hrefl w),H⟩
  ·have h1:=H.2 j (ready_mono hj hji)
   obtain⟨hjun,oj,hoj,hall⟩:=mem_ready.1 hj
   have hnot:∀e∈oj.after,Region.binds .any e=true→e.on≠i:=fun e he hb heq=>by
    have h1:=hall e he hb
    have h0:=(mem_ready.1 hr).1
    rw[heq] at h1
    rcases Nat.lt_or_ge i listed.size with h'|h'
    ·simp[h'] at h0 h1;rw[h0] at h1;cases h1
    ·simp[Array.getElem?_eq_none h'] at h1
   have h2:=wpOp_putIf hoj (hfree j oj hoj hji hjun hnot) (fun cs b=>hsel i oi cs b hi) (fun cs b=>hsel j oj cs b hoj) hQ hy h1
   have hfree':∀k ok,ops[k]?=some ok→k≠i→(listed.setIfInBounds j true).getD k true=false→
     (∀e∈ok.after,Region.binds .any e=true→e.on≠i)→oi.apart ops ok=true:=fun k ok hk hki hun hno=>by
    refine hfree k ok hk hki ?_ hno
    by_cases hjk:j=k
    ·subst hjk;exact hjun
    ·rw[getD_set_ne true hjk] at hun;exact hun
   refine wpOp_mono (fun a' w' h3=>?_) h2
   have hrel:R w w':=h3.2.1.resolve_right (fun hs=>hji (hs listed i hcl hj hr).symm)
   refine⟨.inl hrel,ih (listed.setIfInBounds j true) a' w' hfree' (hcl.set hj) (ready_mono hr (Ne.symm hji)) h3.1 (htrans hw hrel) ?_⟩
   rw[Array.setIfInBounds_comm _ _ hji]
   exact h3.2.2
def St (P:Program) (ops:Array Oper) (Q:Exit→Act→World→Prop) (R:World→World→Prop) (done:List Nat) (a:Act) (w:World):Prop:=
 Closed ops (marked ops.size done)→∀w',R w w'→wpAll P ops Q R (ops.size-done.length) (marked ops.size done) a w'
theorem take (hrefl:∀w,R w w) (htrans:∀ {a b c},R a b→R b c→R a c) (i:Nat) (oi:Oper) (v:Value) {done:List Nat} {a:Act} {w:World} (hi:ops[i]?=some oi)
  (hs:Region.noSelect ops=true) (hf:Region.free .any ops (marked ops.size done) i=true) (hr:(Region.ready .any ops (marked ops.size done)).contains i=true) (hn:done.length<ops.size)
  (hQ:∀c a w,Q (.panic c) (a.put oi.dst v) w→Q (.panic c) a w) (hw:Region.wanted oi (yielded ops a.tmps)=true)
  (hy:∀w',R w w'→(execOp a.eval oi).run P w'=.ok (.value v) w')
  (h:St P ops Q R (i::done) (a.put oi.dst v) w):St P ops Q R done a w:=by
 intro hcl w' hw'
 have e:ops.size-done.length=(ops.size-(i::done).length)+1:=by simp only[List.length_cons];omega
 rw[e]
 exact wpAll_first hrefl htrans hi (Region.noSelect_spec hs) hQ _ _ a w' (Region.free_spec hi hf) hcl (by simpa using hr) (.inl ⟨hw,hy⟩) hw' (h (hcl.set (i:=i) (by simpa using hr)) w' hw')
theorem skip (hrefl:∀w,R w w) (htrans:∀ {a b c},R a b→R b c→R a c) (i:Nat) (oi:Oper) {done:List Nat} {a:Act} {w:World} (hi:ops[i]?=some oi)
  (hs:Region.noSelect ops=true) (hf:Region.free .any ops (marked ops.size done) i=true) (hr:(Region.ready .any ops (marked ops.size done)).contains i=true) (hn:done.length<ops.size)
  (hQ:∀c a w,Q (.panic c) (a.put oi.dst undef) w→Q (.panic c) a w) (hw:Region.wanted oi (yielded ops a.tmps)=false)
  (h:St P ops Q R (i::done) (a.put oi.dst undef) w):St P ops Q R done a w:=by
 intro hcl w' hw'
 have e:ops.size-done.length=(ops.size-(i::done).length)+1:=by simp only[List.length_cons];omega
 rw[e]
 exact wpAll_first hrefl htrans hi (Region.noSelect_spec hs) hQ _ _ a w' (Region.free_spec hi hf) hcl (by simpa using hr) (.inr ⟨hw,rfl⟩) hw' (h (hcl.set (i:=i) (by simpa using hr)) w' hw')
theorem only (i:Nat) (oi:Oper) {done:List Nat} {a:Act} {w:World} (hi:ops[i]?=some oi)
  (hr:Region.ready .any ops (marked ops.size done)=[i]) (hn:done.length<ops.size) (hw:Region.wanted oi (yielded ops a.tmps)=true)
  (h:∀w',R w w'→∀K:Act→World→Prop,Shut (∀a' w'',R w' w''→St P ops Q R (i::done) a' w''→K a' w'')→oi.wp P a w' K Q)
  (hrefl:∀w,R w w):St P ops Q R done a w:=by
 intro hcl w' hw'
 have e:ops.size-done.length=(ops.size-(i::done).length)+1:=by simp only[List.length_cons];omega
 rw[e]
 refine⟨fun h0=>(by rw[h0] at hr;cases hr),fun j hj=>?_⟩
 rw[hr] at hj
 obtain rfl:j=i:=by simpa using hj
 unfold wpOp
 simp only[hi,hw,if_true]
 exact .inl (h w' hw' _ (fun a' w'' hx hst=>⟨.inl hx,hst (hcl.set (by rw[hr];simp)) w'' (hrefl _)⟩))
theorem last (i:Nat) (oi:Oper) {done:List Nat} {a:Act} {w:World} (hi:ops[i]?=some oi)
  (hr:Region.ready .any ops (marked ops.size done)=[i]) (hr2:Region.ready .any ops (marked ops.size (i::done))=[]) (hs:soleB ops i=true) (hn:done.length<ops.size) (hw:Region.wanted oi (yielded ops a.tmps)=true)
  (h:∀w',R w w'→∀K:Act→World→Prop,Shut (∀a' w'',Q .normal a' w''→K a' w'')→oi.wp P a w' K Q):St P ops Q R done a w:=by
 intro hcl w' hw'
 have e:ops.size-done.length=(ops.size-(i::done).length)+1:=by simp only[List.length_cons];omega
 rw[e]
 refine⟨fun h0=>(by rw[h0] at hr;cases hr),fun j hj=>?_⟩
 rw[hr] at hj
 obtain rfl:j=i:=by simpa using hj
 unfold wpOp
 simp only[hi,hw,if_true]
 refine .inl (h w' hw' _ (fun a' w'' hq=>⟨.inr (sole_of hs),?_⟩))
 cases hk:ops.size-(j::done).length with
 | zero=>exact⟨hr2,hq⟩
 | succ k=>exact⟨fun _=>hq,by rw[←marked_cons,hr2];simp⟩
theorem fin {done:List Nat} {a:Act} {w:World} (hr:Region.ready .any ops (marked ops.size done)=[]) (h:∀w',R w w'→Q .normal a w'):St P ops Q R done a w:=by
 intro hcl w' hw'
 cases hk:ops.size-done.length with
 | zero=>exact⟨hr,h w' hw'⟩
 | succ k=>exact⟨fun _=>h w' hw',by rw[hr];simp⟩
theorem start {id:Nat} {a:Act} {w:World} (hm:P.follows .mixedOrders=true) (hd:R w w.drew) (h:St P ops Q R [] a w):(Code.region id ops true).wp P Q a w:=
 wp_region_any hm (wpAny_of_wpAll _ _ _ _ (h (Closed.none ops) w.drew hd))
end
end Reg
namespace Reg
open Base
section
variable {P:Program} {ops:Array Oper} {Q:Exit→Act→World→Prop}
theorem takeE (i:Nat) (oi:Oper) (v:Value) {done:List Nat} {a:Act} {w:World} (hi:ops[i]?=some oi)
  (hs:Region.noSelect ops=true) (hf:Region.free .any ops (marked ops.size done) i=true) (hr:(Region.ready .any ops (marked ops.size done)).contains i=true) (hn:done.length<ops.size)
  (hQ:∀c a w,Q (.panic c) (a.put oi.dst v) w→Q (.panic c) a w) (hw:Region.wanted oi (yielded ops a.tmps)=true)
  (hy:∀w',Ext w w'→(execOp a.eval oi).run P w'=.ok (.value v) w')
  (h:St P ops Q Ext (i::done) (a.put oi.dst v) w):St P ops Q Ext done a w:=
 take Ext.refl (fun h k=>h.trans k) i oi v hi hs hf hr hn hQ hw hy h
theorem skipE (i:Nat) (oi:Oper) {done:List Nat} {a:Act} {w:World} (hi:ops[i]?=some oi)
  (hs:Region.noSelect ops=true) (hf:Region.free .any ops (marked ops.size done) i=true) (hr:(Region.ready .any ops (marked ops.size done)).contains i=true) (hn:done.length<ops.size)
  (hQ:∀c a w,Q (.panic c) (a.put oi.dst undef) w→Q (.panic c) a w) (hw:Region.wanted oi (yielded ops a.tmps)=false)
  (h:St P ops Q Ext (i::done) (a.put oi.dst undef) w):St P ops Q Ext done a w:=
 skip Ext.refl (fun h k=>h.trans k) i oi hi hs hf hr hn hQ hw h
theorem onlyE (i:Nat) (oi:Oper) {done:List Nat} {a:Act} {w:World} (hi:ops[i]?=some oi)
  (hr:Region.ready .any ops (marked ops.size done)=[i]) (hn:done.length<ops.size) (hw:Region.wanted oi (yielded ops a.tmps)=true)
  (h:∀w',Ext w w'→∀K:Act→World→Prop,Shut (∀a' w'',Ext w' w''→St P ops Q Ext (i::done) a' w''→K a' w'')→oi.wp P a w' K Q):St P ops Q Ext done a w:=
 only i oi hi hr hn hw h Ext.refl
theorem startE {id:Nat} {a:Act} {w:World} (hm:P.follows .mixedOrders=true) (h:St P ops Q Ext [] a w):(Code.region id ops true).wp P Q a w:=
 start hm ((Ext.refl w).drew) h
structure Rl (R:World→World→Prop):Prop where
 refl:∀w,R w w
 trans:∀ {a b c},R a b→R b c→R a c
 drew:∀ {a b},R a b→R a b.drew
variable {R:World→World→Prop}
theorem takeB (hR:Rl R) (i:Nat) (oi:Oper) (v:Value) {done:List Nat} {a:Act} {w:World} (hi:ops[i]?=some oi)
  (hs:Region.noSelect ops=true) (hf:Region.free .any ops (marked ops.size done) i=true) (hr:(Region.ready .any ops (marked ops.size done)).contains i=true) (hn:done.length<ops.size)
  (hQ:∀c a w,Q (.panic c) (a.put oi.dst v) w→Q (.panic c) a w) (hw:Region.wanted oi (yielded ops a.tmps)=true)
  (hy:∀w',R w w'→(execOp a.eval oi).run P w'=.ok (.value v) w')
  (h:St P ops Q R (i::done) (a.put oi.dst v) w):St P ops Q R done a w:=
 take hR.refl hR.trans i oi v hi hs hf hr hn hQ hw hy h
theorem skipB (hR:Rl R) (i:Nat) (oi:Oper) {done:List Nat} {a:Act} {w:World} (hi:ops[i]?=some oi)
  (hs:Region.noSelect ops=true) (hf:Region.free .any ops (marked ops.size done) i=true) (hr:(Region.ready .any ops (marked ops.size done)).contains i=true) (hn:done.length<ops.size)
  (hQ:∀c a w,Q (.panic c) (a.put oi.dst undef) w→Q (.panic c) a w) (hw:Region.wanted oi (yielded ops a.tmps)=false)
  (h:St P ops Q R (i::done) (a.put oi.dst undef) w):St P ops Q R done a w:=
 skip hR.refl hR.trans i oi hi hs hf hr hn hQ hw h
theorem onlyB (hR:Rl R) (i:Nat) (oi:Oper) {done:List Nat} {a:Act} {w:World} (hi:ops[i]?=some oi)
  (hr:Region.ready .any ops (marked ops.size done)=[i]) (hn:done.length<ops.size) (hw:Region.wanted oi (yielded ops a.tmps)=true)
  (h:∀w',R w w'→∀K:Act→World→Prop,Shut (∀a' w'',R w' w''→St P ops Q R (i::done) a' w''→K a' w'')→oi.wp P a w' K Q):St P ops Q R done a w:=
 only i oi hi hr hn hw h hR.refl
theorem startB (hR:Rl R) {id:Nat} {a:Act} {w:World} (hm:P.follows .mixedOrders=true) (h:St P ops Q R [] a w):(Code.region id ops true).wp P Q a w:=
 start hm (hR.drew (hR.refl w)) h
theorem rl_below (B:Nat):Rl (Go.RowKit.Below B):=⟨fun w=>Go.RowKit.Below.refl B w,fun h k=>h.trans k,fun h=>h.drew⟩
theorem rl_ext:Rl Ext:=⟨Ext.refl,fun h k=>h.trans k,fun h=>h.drew⟩
theorem rl_but (m:Nat):Rl (fun w w'=>w.grownBy w' (some m)):=
 ⟨fun w=>World.grownBy.refl w _,fun {a b c} h k=>⟨k.os.trans h.os,k.tape.trans h.tape,k.output.trans h.output,Nat.le_trans h.size k.size,
  fun i hi hne=>(k.block i (Nat.lt_of_lt_of_le hi h.size) hne).trans (h.block i hi hne)⟩,fun h=>⟨h.os,h.tape,h.output,h.size,h.block⟩⟩
/- the same in few words: what a machine finds is left to it -/
theorem tk (i:Nat) {oi:Oper} {v:Value} {done:List Nat} {a:Act} {w:World} (h:St P ops Q Ext (i::done) (a.put oi.dst v) w) (hi:ops[i]?=some oi:=by rfl)
  (hs:Region.noSelect ops=true:=by kernel_rfl) (hf:Region.free .any ops (marked ops.size done) i=true:=by kernel_rfl) (hr:(Region.ready .any ops (marked ops.size done)).contains i=true:=by kernel_rfl) (hn:done.length<ops.size:=by decide)
  (hQ:∀c a w,Q (.panic c) (a.put oi.dst v) w→Q (.panic c) a w:=by intro c a w h;first|exact h|solve_by_elim) (hw:Region.wanted oi (yielded ops a.tmps)=true:=by rfl)
  (hy:∀w',Ext w w'→(execOp a.eval oi).run P w'=.ok (.value v) w':=by intro W hW;go_simp;with_reducible rfl):St P ops Q Ext done a w:=
 takeE i oi v hi hs hf hr hn hQ hw hy h
theorem rk (i:Nat) (w0:World) {oi:Oper} {v:Value} {done:List Nat} {a:Act} {w:World} (h:St P ops Q Ext (i::done) (a.put oi.dst v) w) (hi:ops[i]?=some oi:=by rfl)
  (hs:Region.noSelect ops=true:=by kernel_rfl) (hf:Region.free .any ops (marked ops.size done) i=true:=by kernel_rfl) (hr:(Region.ready .any ops (marked ops.size done)).contains i=true:=by kernel_rfl) (hn:done.length<ops.size:=by decide)
  (hQ:∀c a w,Q (.panic c) (a.put oi.dst v) w→Q (.panic c) a w:=by intro c a w h;first|exact h|solve_by_elim) (hw:Region.wanted oi (yielded ops a.tmps)=true:=by rfl)
  (hb:Ext w0 w:=by repeat (first|assumption|exact Ext.refl _|refine Ext.trans (by assumption) ?_|apply Ext.drew|apply Ext.drewN|apply Ext.alloc))
  (hy:∀w',Ext w w'→Ext w0 w'→(execOp a.eval oi).run P w'=.ok (.value v) w':=by intro W hW hbW;go_simp;with_reducible rfl):St P ops Q Ext done a w:=
 takeE i oi v hi hs hf hr hn hQ hw (fun w' h=>hy w' h (hb.trans h)) h
theorem sk (i:Nat) {oi:Oper} {done:List Nat} {a:Act} {w:World} (h:St P ops Q Ext (i::done) (a.put oi.dst undef) w) (hi:ops[i]?=some oi:=by rfl)
  (hs:Region.noSelect ops=true:=by kernel_rfl) (hf:Region.free .any ops (marked ops.size done) i=true:=by kernel_rfl) (hr:(Region.ready .any ops (marked ops.size done)).contains i=true:=by kernel_rfl) (hn:done.length<ops.size:=by decide)
  (hQ:∀c a w,Q (.panic c) (a.put oi.dst undef) w→Q (.panic c) a w:=by intro c a w h;first|exact h|solve_by_elim) (hw:Region.wanted oi (yielded ops a.tmps)=false:=by rfl):St P ops Q Ext done a w:=
 skipE i oi hi hs hf hr hn hQ hw h
theorem n1 (l:List Value) (d:List Deferred) (n:Nat) (v:Value):Act.put ⟨l.toArray,d⟩ (some n) v=⟨(l.set n v).toArray,d⟩:=by simp[Act.put]
theorem n2 (x:Act) (v:Value):Act.put x none v=x:=rfl
theorem n3 (x y:Value) (l:List Value):List.set (x::l) 0 y=y::l:=rfl
theorem n4 (x y:Value) (n:Nat) (l:List Value):List.set (x::l) (n+1) y=x::List.set l n y:=rfl
theorem n5 {l:List Oper} {i:Nat} (h:i<l.toArray.size):l.toArray[i]=l[i]'(by simpa using h):=rfl
theorem n6 (x:Oper) (l:List Oper) (h:0<(x::l).length):(x::l)[0]'h=x:=rfl
theorem n7 (x:Oper) (l:List Oper) (i:Nat) (h:i+1<(x::l).length):(x::l)[i+1]'h=l[i]'(by simpa using h):=rfl
theorem nn:(∀(l:List Value) (d:List Deferred) (n:Nat) (v:Value),Act.put ⟨l.toArray,d⟩ (some n) v=⟨(l.set n v).toArray,d⟩)∧(∀(x:Act) (v:Value),Act.put x none v=x)∧(∀(x y:Value) (l:List Value),List.set (x::l) 0 y=y::l)∧(∀(x y:Value) (n:Nat) (l:List Value),List.set (x::l) (n+1) y=x::List.set l n y)
  ∧ (∀ {l:List Oper} {i:Nat} (h:i<l.toArray.size),l.toArray[i]=l[i]'(by simpa using h))∧(∀(x:Oper) (l:List Oper) (h:0<(x::l).length),(x::l)[0]'h=x)∧(∀(x:Oper) (l:List Oper) (i:Nat) (h:i+1<(x::l).length),(x::l)[i+1]'h=l[i]'(by simpa using h))∧List.length ([]:List Nat)=0∧(∀(i:Nat) (x:List Nat),List.length (i::x)=List.length x+1):=
 ⟨n1,n2,n3,n4,n5,n6,n7,rfl,fun _ _=>rfl⟩
/- the next one in the order of the text -/
theorem tn {oi:Oper} {v:Value} {done:List Nat} {a:Act} {w:World} (h:St P ops Q Ext (done.length::done) (a.put oi.dst v) w) (hi:ops[done.length]?=some oi:=by rfl)
  (hs:Region.noSelect ops=true:=by kernel_rfl) (hf:Region.free .any ops (marked ops.size done) done.length=true:=by kernel_rfl) (hr:(Region.ready .any ops (marked ops.size done)).contains done.length=true:=by kernel_rfl) (hn:done.length<ops.size:=by decide)
  (hQ:∀c a w,Q (.panic c) (a.put oi.dst v) w→Q (.panic c) a w:=by intro c a w h;first|exact h|solve_by_elim) (hw:Region.wanted oi (yielded ops a.tmps)=true:=by rfl)
  (hy:∀w',Ext w w'→(execOp a.eval oi).run P w'=.ok (.value v) w':=by intro W hW;go_simp;with_reducible rfl):St P ops Q Ext done a w:=
 takeE _ oi v hi hs hf hr hn hQ hw hy h
theorem sn {oi:Oper} {done:List Nat} {a:Act} {w:World} (h:St P ops Q Ext (done.length::done) (a.put oi.dst undef) w) (hi:ops[done.length]?=some oi:=by rfl)
  (hs:Region.noSelect ops=true:=by kernel_rfl) (hf:Region.free .any ops (marked ops.size done) done.length=true:=by kernel_rfl) (hr:(Region.ready .any ops (marked ops.size done)).contains done.length=true:=by kernel_rfl) (hn:done.length<ops.size:=by decide)
  (hQ:∀c a w,Q (.panic c) (a.put oi.dst undef) w→Q (.panic c) a w:=by intro c a w h;first|exact h|solve_by_elim) (hw:Region.wanted oi (yielded ops a.tmps)=false:=by rfl):St P ops Q Ext done a w:=
 skipE _ oi hi hs hf hr hn hQ hw h
end
end Reg
namespace Pr
open Go.ChangeShapes Go.WideShapes Go.ChangeAt Go.RowKit
open Base Lx
theorem str_ne {x s:ByteArray} (h:x≠s):(x.toList == s.toList)=false:=by
 rw[ByteArray.toList_eq,ByteArray.toList_eq]
 simp only[beq_eq_false_iff_ne]
 intro e
 apply h
 cases x;cases s;congr 1;exact Array.toList_inj.1 e
section
variable {α:Type} [DecidableEq α]
theorem idxOf_none {l:List α} {s:α} (h:∀(j:Nat) x,l[j]?=some x→x≠s):idxOf l s = -1:=by
 induction l with
 | nil=>rfl
 | cons x r ih=>
  have h0:=h 0 x rfl
  have hr:=ih fun j y hy=>h (j+1) y (by simpa using hy)
  rw[idxOf,if_neg (fun e=>h0 e.symm),hr];rfl
theorem idxOf_at {l:List α} {s:α} {k:Nat} (hk:l[k]?=some s) (h:∀(j:Nat) x,j<k→l[j]?=some x→x≠s):idxOf l s=(k:Int):=by
 induction l generalizing k with
 | nil=>simp at hk
 | cons x r ih=>
  cases k with
  | zero=>simp at hk;subst hk;simp[idxOf]
  | succ k=>
   have h0:=h 0 x (by omega) rfl
   have hr:=ih (k:=k) (by simpa using hk) fun j y hj hy=>h (j+1) y (by omega) (by simpa using hy)
   rw[idxOf,if_neg (fun e=>h0 e.symm),hr,if_neg (by omega)];omega
theorem idxOf_in (l:List α) (s:α):decide (0≤idxOf l s)=l.any fun y=>decide (y=s):=by
 induction l with
 | nil=>rfl
 | cons x r ih=>
  rw[List.any_cons,←ih,idxOf]
  by_cases h:s=x
  ·simp[h]
  ·have h':¬x=s:=fun e=>h e.symm
   simp only[if_neg h,h',decide_false,Bool.false_or]
   by_cases h2:idxOf r s<0
   ·rw[if_pos h2];simp;omega
   ·rw[if_neg h2];simp;omega
theorem idxOf_rng (l:List α) (s:α) : -1≤idxOf l s∧idxOf l s<l.length:=by
 induction l with
 | nil=>simp[idxOf]
 | cons x r ih=>
  rw[idxOf]
  split
  ·simp
  ·split
   ·simp;omega
   ·simp only[List.length_cons];omega
end
def NoAt {α:Type} (l:List α) (k:Nat) (s:α):Prop:=∀(j:Nat) x,j<k→l[j]?=some x→x≠s
theorem NoAt.next {α:Type} {l:List α} {k:Nat} {s x:α} (h:NoAt l k s) (hx:l[k]?=some x) (hn:x≠s):NoAt l (k+1) s:=fun j y hj hy=>by
 rcases Nat.lt_or_ge j k with h2|h2
 ·exact h j y h2 hy
 ·obtain rfl:j=k:=by omega
  rw[hx] at hy;injection hy with hy;subst hy;exact hn
theorem NoAt.zero {α:Type} (l:List α) (s:α):NoAt l 0 s:=fun j x hj=>by omega
set_option maxHeartbeats 800000 in
theorem index_str (A:Option Addr) (n c:Nat) (l:List ByteArray) (s:ByteArray) (w:World) (hr:Rd w A (txs l)) (hn:l.length=n) (hl:n≤100000) :
  Calls Tryz.prog 40 #[.slice A n c,.string s] w fun e w'=>e=.returned (.int .i64 (idxOf l s))∧w=w':=by
 have Hn:=Lib.hid hn
 clear hn
 obtain⟨R,hR⟩:∃R,Hid (idxOf l s=R):=⟨_,rfl⟩
 rw[hR.out]
 go_enter Tryz.func40,Tryz.ntmps40
 go_wp2_with fail
 go_loopw [5,8,9,10,11,12,13,14,15,16,18] (fun v5 v8 v9 v10 v11 v12 v13 v14 v15 v16 v18 wr=>∃i:Nat,i≤n∧v8=.int .i64 i∧NoAt l i s∧wr=w) (fun _ v8 _ _ _ _ _ _ _ _ _ _=>n-(intOf v8).toNat)
 case atStart=>exact⟨0,by omega,rfl,NoAt.zero l s,rfl⟩
 case round=>
  obtain⟨i,hi,rfl,h1,rfl⟩:=hrel
  by_cases hin:i<n
  ·have hin':(i:Int)<(n:Int):=by omega
   obtain⟨x,hxe⟩:∃x,l[i]?=some x:=⟨_,List.getElem?_eq_getElem (by have:=Hn.out;omega)⟩
   obtain⟨b,off,rfl,hz,hc⟩:=hr.at_ (k:=i) (by rw[txs_length];have:=Hn.out;omega)
   clear hz
   have hck:wr.cell? ⟨b,off+i,none⟩=some (.string x):=hc i _ (by simp[txs,hxe])
   clear hc
   by_cases he:s=x
   ·subst he
    have hq:=idxOf_at hxe h1
    rw[hR.out] at hq
    subst hq
    go_wp2_with fail
    go_ret
    exact⟨rfl,rfl⟩
   ·have hbq:=str_ne he
    have h2:=h1.next hxe (fun e=>he e.symm)
    have Hxe:=Lib.hid hxe
    clear hxe
    go_wp2_with fail
    go_roundw
    case rel=>exact⟨i+1,by omega,by go_num,h2,by first|rfl|trivial⟩
    case measure=>simp[intOf];omega
  ·obtain rfl:i=n:=by omega
   have hq:R = -1:=by
    rw[←hR.out]
    exact idxOf_none fun j x hx=>h1 j x (by have:=(List.getElem?_eq_some_iff.1 hx).1;have:=Hn.out;omega) hx
   subst hq
   go_wp2_with fail
   go_ret
   exact⟨rfl,rfl⟩
theorem contains_str (A:Option Addr) (n c:Nat) (l:List ByteArray) (s:ByteArray) (w:World) (hr:Rd w A (txs l)) (hn:l.length=n) (hl:n≤100000) :
  Calls Tryz.prog 62 #[.slice A n c,.string s] w fun e w'=>e=.returned (.bool (l.any fun y=>decide (y=s)))∧w=w':=by
 have hi:=index_str A n c l s w hr hn hl
 have hb:=idxOf_in l s
 obtain⟨R,hR⟩:∃R,Hid (idxOf l s=R):=⟨_,rfl⟩
 rw[hR.out] at hi hb
 rw[←hb]
 clear hb hn hr
 go_enter Tryz.func62,Tryz.ntmps62
 go_wp2_with fail
 refine hi.mono ?_
 rintro e w1 ⟨rfl,rfl⟩
 go_wp2_with fail
 go_ret
 exact⟨rfl,rfl⟩
def ints (l:List Nat):List Value:=l.map fun (n:Nat)=>Value.int .i64 (n:Int)
theorem ints_length (l:List Nat):(ints l).length=l.length:=by simp[ints]
set_option maxHeartbeats 800000 in
theorem index_int (A:Option Addr) (n c:Nat) (l:List Nat) (s:Nat) (w:World) (hr:Rd w A (ints l)) (hn:l.length=n) (hl:n≤100000) :
  Calls Tryz.prog 144 #[.slice A n c,.int .i64 (s:Int)] w fun e w'=>e=.returned (.int .i64 (idxOf l s))∧w=w':=by
 have Hn:=Lib.hid hn
 clear hn
 obtain⟨R,hR⟩:∃R,Hid (idxOf l s=R):=⟨_,rfl⟩
 rw[hR.out]
 go_enter Tryz.func144,Tryz.ntmps144
 go_wp2_with fail
 go_loopw [5,8,9,10,11,12,13,14,15,16,18] (fun v5 v8 v9 v10 v11 v12 v13 v14 v15 v16 v18 wr=>∃i:Nat,i≤n∧v8=.int .i64 i∧NoAt l i s∧wr=w) (fun _ v8 _ _ _ _ _ _ _ _ _ _=>n-(intOf v8).toNat)
 case atStart=>exact⟨0,by omega,rfl,NoAt.zero l s,rfl⟩
 case round=>
  obtain⟨i,hi,rfl,h1,rfl⟩:=hrel
  by_cases hin:i<n
  ·have hin':(i:Int)<(n:Int):=by omega
   obtain⟨x,hxe⟩:∃x,l[i]?=some x:=⟨_,List.getElem?_eq_getElem (by have:=Hn.out;omega)⟩
   obtain⟨b,off,rfl,hz,hc⟩:=hr.at_ (k:=i) (by rw[ints_length];have:=Hn.out;omega)
   clear hz
   have hck:wr.cell? ⟨b,off+i,none⟩=some (.int .i64 (x:Int)):=hc i _ (by simp[ints,hxe])
   clear hc
   by_cases he:s=x
   ·subst he
    have hq:=idxOf_at hxe h1
    rw[hR.out] at hq
    subst hq
    go_wp2_with fail
    go_ret
    exact⟨rfl,rfl⟩
   ·have hbq:((s:Int) == (x:Int))=false:=by simpa using (fun e:(s:Int)=x=>he (by omega))
    have h2:=h1.next hxe (fun e=>he e.symm)
    have Hxe:=Lib.hid hxe
    clear hxe
    go_wp2_with fail
    go_roundw
    case rel=>exact⟨i+1,by omega,by go_num,h2,by first|rfl|trivial⟩
    case measure=>simp[intOf];omega
  ·obtain rfl:i=n:=by omega
   have hq:R = -1:=by
    rw[←hR.out]
    exact idxOf_none fun j x hx=>h1 j x (by have:=(List.getElem?_eq_some_iff.1 hx).1;have:=Hn.out;omega) hx
   subst hq
   go_wp2_with fail
   go_ret
   exact⟨rfl,rfl⟩
theorem contains_int (A:Option Addr) (n c:Nat) (l:List Nat) (s:Nat) (w:World) (hr:Rd w A (ints l)) (hn:l.length=n) (hl:n≤100000) :
  Calls Tryz.prog 124 #[.slice A n c,.int .i64 (s:Int)] w fun e w'=>e=.returned (.bool (l.any fun y=>decide (y=s)))∧w=w':=by
 have hi:=index_int A n c l s w hr hn hl
 have hb:=idxOf_in l s
 obtain⟨R,hR⟩:∃R,Hid (idxOf l s=R):=⟨_,rfl⟩
 rw[hR.out] at hi hb
 rw[←hb]
 clear hb hn hr
 go_enter Tryz.func124,Tryz.ntmps124
 go_wp2_with fail
 refine hi.mono ?_
 rintro e w1 ⟨rfl,rfl⟩
 go_wp2_with fail
 go_ret
 exact⟨rfl,rfl⟩
def Wd (w:World):Prop:=Rd w (some ⟨0,0,none⟩) (txs wordsL)
theorem Wd.ext {w w':World} (h:Wd w) (hx:Ext w w'):Wd w':=Rd.ext h hx
theorem keyword_any (s:ByteArray) (w:World) (hg:Wd w):Calls Tryz.prog 142 #[.string s] w fun e w'=>e=.returned (.bool (kwP s))∧w=w':=by
 have hc:=contains_str (some ⟨0,0,none⟩) 12 12 wordsL s w hg rfl (by omega)
 have hb:=idxOf_in wordsL s
 rw[←hb] at hc
 by_cases h0:s=⟨#[]⟩
 ·have e:kwP s=false:=by simp[kwP,h0]
  rw[e]
  subst h0
  go_enter Tryz.func142,Tryz.ntmps142
  go_wp2_with fail
  go_ret
  exact⟨rfl,rfl⟩
 ·have e:kwP s=decide (0≤idxOf wordsL s):=by simp[kwP,h0]
  rw[e]
  obtain⟨R,hR⟩:∃R,Hid (decide (0≤idxOf wordsL s)=R):=⟨_,rfl⟩
  rw[hR.out] at hc ⊢
  clear hb e
  have hne:¬s.toList=[]:=fun e=>h0 (by rw[ByteArray.toList_eq] at e;cases s;congr 1;exact Array.toList_inj.1 e)
  have hne2:s.toList.isEmpty=false:=by simpa using hne
  go_enter Tryz.func142,Tryz.ntmps142
  go_wp2_with fail
  refine hc.mono ?_
  rintro e w1 ⟨rfl,rfl⟩
  go_wp2_with fail
  go_ret
  exact⟨rfl,rfl⟩
end Pr
namespace Mi
open Go.ChangeShapes Go.WideShapes Go.ChangeAt Go.RowKit
open Base
structure Mt (P:Program) (t k e:TypeId):Prop where
 under:P.underlying t=some (.map k e)
 key:P.underlying k=some .string
 elem:P.underlying e=some (.int .i64)
 zero:∀w,(zeroValue e).run P w=.ok (.int .i64 0) w
def MapU (P:Program) (k e:TypeId) (w:World) (b n:Nat) (f:ByteArray→Option Nat):Prop:=
 ∃D:DataW Unit,w.ownsMap P k (plainElem P e) b n D∧Maps.IsMap D∧(∀s,(f s).getD 0≤9223372036854775807)∧
  ∀s:ByteArray,Maps.has D (.string s.data.toList)=(f s).isSome∧D.atKey (.string s.data.toList) (.lit (.int .i64 0))=.lit (.int .i64 ((f s).getD 0:Nat))
section
variable {P:Program} {t k e:TypeId} {w w':World} {b n:Nat} {f:ByteArray→Option Nat}
theorem MapU.kept {row:Option Nat} (h:MapU P k e w b n f) (hg:w.grownBy w' row) (hne:some b≠row):MapU P k e w' b n f:=by
 obtain⟨D,h1,h2⟩:=h
 exact⟨D,h1.kept hg hne,h2⟩
theorem MapU.ext (h:MapU P k e w b n f) (hx:Ext w w'):MapU P k e w' b n f:=by
 obtain⟨D,⟨es,clock,hb,r⟩,h2⟩:=h
 exact⟨D,⟨es,clock,hx.heap hb,r⟩,h2⟩
theorem MapU.below {B:Nat} (h:MapU P k e w b n f) (hx:Below B w w') (hb:b<B):MapU P k e w' b n f:=by
 obtain⟨D,⟨es,clock,hh,r⟩,h2⟩:=h
 exact⟨D,⟨es,clock,(hx.block b hb).trans hh,r⟩,h2⟩
theorem MapU.setCell (h:MapU P k e w b n f) {a:Addr} (ha:b≠a.block) (u:Value):MapU P k e (w.setCell a u) b n f:=by
 obtain⟨D,h1,h2⟩:=h
 exact⟨D,h1.setCell ha u,h2⟩
theorem MapU.lt (h:MapU P k e w b n f):b<w.heap.size:=by
 obtain⟨D,h1,h2⟩:=h
 exact h1.lt
theorem MapU.alloc (h:MapU P k e w b n f) (o:Obj):MapU P k e (w.alloc o) b n f:=by
 obtain⟨D,h1,h2⟩:=h
 exact⟨D,h1.alloc o,h2⟩
theorem MapU.drew (h:MapU P k e w b n f):MapU P k e w.drew b n f:=h
theorem MapU.made (P:Program) (k e:TypeId) (w:World):MapU P k e (w.alloc (.map #[] 0)) w.heap.size 0 (fun _=>none):=
 ⟨.map [],World.ownsMap_made w P k (plainElem P e),Maps.isMap_empty,by simp,fun s=>⟨rfl,by simp[DataW.atKey]⟩⟩
theorem MapU.not_cells {cs:Array Value} {ty:TypeId} {fr:Nat×Nat} (h:MapU P k e w b n f) {g:Nat} (hg:w.heap[g]?=some (.cells cs ty fr)):b≠g:=by
 rintro rfl
 obtain⟨D,⟨es,clock,hb,r⟩,h2⟩:=h
 rw[hb] at hg
 cases hg
theorem MapU.look_ok (M:Mt P t k e) (h:MapU P k e w b n f) (s:ByteArray) (hs:s.size≤maxLen) :
  (Instr.lookup t (.map (some b)) (.string s) true).run P w=.ok (.tuple #[.int .i64 ((f s).getD 0:Nat),.bool (f s).isSome]) w:=by
 obtain⟨D,h1,h2,h3,h4⟩:=h
 obtain⟨v,ps,hrun,hv⟩:=h1.look_ok (Go.Maps.string_keyed M.key) M.under (M.zero w) (plainElem_int M.elem (by decide)) (Go.WideMaps.keyOf_string_mk M.key hs)
 obtain⟨c,rfl,hc,hwc⟩:=plainElem_int_inv M.elem hv
 simp only[Prod.mk.injEq] at hc
 rw[(h4 s).2] at hc
 have hc1:=hc.1
 simp only[DataW.lit.injEq,Lit.int.injEq,true_and] at hc1
 rw[hrun,(h4 s).1,←hc1]
theorem MapU.look (M:Mt P t k e) (h:MapU P k e w b n f) (s:ByteArray) (hs:s.size≤maxLen) :
  (Instr.lookup t (.map (some b)) (.string s) false).run P w=.ok (.int .i64 ((f s).getD 0:Nat)) w:=by
 obtain⟨D,h1,h2,h3,h4⟩:=h
 obtain⟨c,hrun,hc,hwc⟩:=h1.lookup_int (Go.Maps.string_keyed M.key) M.under M.elem (M.zero w) (Go.WideMaps.keyOf_string_mk M.key hs)
 rw[(h4 s).2] at hc
 simp only[DataW.lit.injEq,Lit.int.injEq,true_and] at hc
 rw[hrun,←hc]
theorem MapU.store (M:Mt P t k e) (h:MapU P k e w b n f) (hn:n<maxLen) (s:ByteArray) (hs:s.size≤maxLen) (v:Nat) (hv:v≤9223372036854775807) :
  ∃w',(Instr.mapUpdate t (.map (some b)) (.string s) (.int .i64 v)).run P w=.ok () w'∧MapU P k e w' b (n+1) (fun x=>if x=s then some v else f x)∧w.grownBy w' (some b):=by
 obtain⟨D,h1,h2,h3,h4⟩:=h
 obtain⟨w',hrun,ho,hg⟩:=h1.update (Go.Maps.string_keyed M.key) M.under hn (Go.WideMaps.keyOf_string_mk M.key hs) (plainElem_int (H:=Unit) M.elem (a:=(v:Int)) (by
  simp[Lit.wf,IntKind.min,IntKind.max,IntKind.signed,IntKind.bits];omega))
 refine⟨w',hrun,⟨_,ho,h2.put _ _,?_,?_⟩,hg⟩
 ·intro x
  by_cases hx:x=s
  ·simp[hx];exact hv
  ·simp only[hx,if_false];exact h3 x
 ·intro x
  by_cases hx:x=s
  ·subst hx
   simp only[if_true,Option.isSome_some,Option.getD_some]
   exact⟨Maps.has_put_same (k:=.string x.data.toList) h2 trivial _,Maps.atKey_put_same (k:=.string x.data.toList) h2 trivial _ _⟩
  ·have hne:(Lit.string x.data.toList)≠.string s.data.toList:=by
    intro e
    simp only[Lit.string.injEq] at e
    apply hx
    cases x;cases s
    congr 1
    exact Array.toList_inj.1 e
   simp only[hx,if_false]
   exact⟨(Maps.has_put_other hne _).trans (h4 x).1,(Maps.atKey_put_other hne _ _).trans (h4 x).2⟩
end
end Mi
namespace Lx
open Go.ChangeShapes Go.WideShapes Go.ChangeAt Go.RowKit Go.Shelf
open Base
def numV (o:Option Nat):Value:=match o with
 | some n=>.tuple #[.int .i64 (n:Int),.bool true]
 | none=>.tuple #[.int .i64 0,.bool false]
theorem numO_none1 {l:List UInt8} (h:l.length=0):numO l=none:=by
 have:l=[]:=List.eq_nil_of_length_eq_zero h
 subst this;rfl
theorem byteAt_zero (s:ByteArray):(s.data.toList.getD 0 0)=byteAt s 0:=rfl
theorem ext_bytes (w:World) (e:TypeId) (s:ByteArray):Ext w (Lib.bytesWorld w e s):=
 ⟨rfl,rfl,rfl,by rw[Lib.bytesWorld_size];omega,fun k hk=>Lib.bytesWorld_at_old w e s k hk⟩
theorem number_any (s:ByteArray) (hs:s.size≤140737488351232) (w:World):Calls Tryz.prog 151 #[.string s] w fun e w'=>e=.returned (numV (numO s.data.toList))∧Ext w w':=by
 obtain⟨o,ho⟩:∃o,Hid (numO s.data.toList=o):=⟨_,rfl⟩
 rw[ho.out]
 by_cases h0:s.size=0
 ·obtain rfl:=size_zero h0
  have ho2:none=o:=ho.out
  subst ho2
  go_enter Tryz.func151,Tryz.ntmps151
  go_wp2_with fail
  go_ret2
  exact⟨rfl,Ext.refl _⟩
 ·obtain⟨q1,q2⟩:=ne_empty h0
  have hin:0<s.size:=by omega
  have hin':(0:Int)<(s.size:Int):=by omega
  have hne:¬s.data.toList=[]:=fun e=>by have:=size_list s;rw[e] at this;simp at this;omega
  have hrun:=run_any s 0 139 digitP hs (by omega) enters_digit digit_any w
  rw[List.drop_zero] at hrun
  obtain⟨R,hR⟩:∃R,Hid (runP digitP s.data.toList=R):=⟨_,rfl⟩
  rw[hR.out] at hrun
  have hb:=byteAt_get s 0 hin
  go_enter Tryz.func151,Tryz.ntmps151
  by_cases hz:1<s.size∧(byteAt s 0).toNat=48
  ·have ho2:none=o:=by rw[←ho.out,numO,if_neg hne,if_pos ⟨by rw[size_list];exact hz.1,hz.2⟩]
   subst ho2
   have z1:(s.size:Int)>1:=by omega
   have z2:((byteAt s 0).toNat:Int) == 48:=by rw[hz.2];rfl
   go_wp2_with fail
   go_ret2
   exact⟨rfl,Ext.refl _⟩
  ·by_cases hRs:R=s.size
   ·by_cases h4:s.size≤4
    ·have h4':(s.size:Int)≤4:=by omega
     have hRb:((R:Int) != (s.size:Int))=false:=by rw[hRs];simp
     have hall:runP digitP s.data.toList=s.data.toList.length:=by rw[hR.out,hRs,size_list]
     obtain⟨V,hV⟩:∃V,Hid (valP s.data.toList 0=V):=⟨_,rfl⟩
     have hV9:V≤9999:=by rw[←hV.out];exact valP_small _ hall (by rw[size_list];exact h4)
     have hdig:∀j,j<s.size→48≤(byteAt s j).toNat∧(byteAt s j).toNat≤57:=fun j hj=>by
      obtain⟨h1,h2⟩:=runP_lt (p:=digitP) (l:=s.data.toList) (n:=j) (by rw[hall,size_list];exact hj)
      have:=digit_bounds h2
      rwa [show s.data.toList[j]=byteAt s j from byteAt_get s j hj] at this
     have hz':¬(1<s.data.toList.length∧(s.data.toList.getD 0 0).toNat=48):=by rw[size_list];exact hz
     have hobig:4096<V→numO s.data.toList=none:=fun h=>by rw[numO,if_neg hne,if_neg hz',if_neg (by simp[hall]),if_neg (by rw[size_list];omega),if_pos (by rw[hV.out];exact h)]
     have hosm:¬4096<V→numO s.data.toList=some V:=fun h=>by rw[numO,if_neg hne,if_neg hz',if_neg (by simp[hall]),if_neg (by rw[size_list];omega),if_neg (by rw[hV.out];exact h),hV.out]
     by_cases hs1:s.size=1
     ·have z1:¬(s.size:Int)>1:=by omega
      clear hb
      go_wp2_with fail
      refine hrun.mono ?_
      rintro e w1 ⟨rfl,hw⟩
      subst hw
      have hcv:=Lib.run_convert_string_bytes (P:=Tryz.prog) w1 9 32 5 s Tryz.underlying9 Tryz.underlying32 Tryz.underlying5
      obtain⟨cap,hcap⟩:∃c,Hid (grownCap w1 s.size 0 5=c):=⟨_,rfl⟩
      rw[hcap.out] at hcv
      obtain⟨w2,hw2⟩:∃w2,Hid (Lib.bytesWorld w1 5 s=w2):=⟨_,rfl⟩
      have hx2:Ext w1 w2:=by rw[←hw2.out];exact ext_bytes _ _ _
      have hcell:∀j,j<s.size→w2.cell? ⟨w1.heap.size,j,none⟩=some (.int .u8 ((byteAt s j).toNat:Int)):=fun j hj=>by rw[←hw2.out];exact Lib.bytesWorld_cell _ _ _ j hj
      rw[hw2.out] at hcv
      go_wp2_with fail
      go_loopw [4,34] (fun v4 v34 wr=>∃j v:Nat,j≤s.size∧v34=.int .i64 j∧v4=.int .i64 v∧Hid (valP (s.data.toList.drop j) v=V)∧wr=w2) (fun _ v34 _=>s.size-(intOf v34).toNat)
      case atStart=>exact⟨0,0,by omega,rfl,rfl,hV,rfl⟩
      case round=>
       obtain⟨j,v,hj,rfl,rfl,hv,hw⟩:=hrel
       have hw:=hw.symm
       subst hw
       have hvV:v≤9999:=by have:=valP_ge (s.data.toList.drop j) v;rw[hv.out] at this;omega
       by_cases hjs:j<s.size
       ·have hjs':(j:Int)<(s.size:Int):=by omega
        have c1:=hcell j hjs
        have hd:=hdig j hjs
        have hv2:Hid (valP (s.data.toList.drop (j+1)) (10*v+((byteAt s j).toNat-48))=V):=by show _=_;rw[←hv.out,drop_byteAt s j hjs,valP]
        clear hcell hcv hrun
        go_wp2_with fail
        refine⟨⟨j+1,10*v+((byteAt s j).toNat-48),by omega,rfl,congrArg (Value.int .i64) (by omega),hv2,trivial⟩,?_⟩
        simp[intOf]
        omega
       ·obtain rfl:j=s.size:=by omega
        have hvv:v=V:=by have h:=hv.out;rw[List.drop_of_length_le (by rw[size_list];omega)] at h;exact h
        subst hvv
        have hjs':¬(s.size:Int)<(s.size:Int):=by omega
        by_cases hbig:4096<v
        ·have ho2:none=o:=(hobig hbig).symm.trans ho.out
         subst ho2
         have hb4:(v:Int)>4096:=by omega
         go_wp2_with fail
         go_ret2
         exact⟨rfl,hx2⟩
        ·have ho2:some v=o:=(hosm hbig).symm.trans ho.out
         subst ho2
         have hb4:¬(v:Int)>4096:=by omega
         go_wp2_with fail
         go_ret2
         exact⟨rfl,hx2⟩
     ·have z1:(s.size:Int)>1:=by omega
      have z2:¬(byteAt s 0).toNat=48:=fun h=>hz ⟨by omega,h⟩
      have z3:(((byteAt s 0).toNat:Int) == 48)=false:=by simp;omega
      go_wp2_with fail
      refine hrun.mono ?_
      rintro e w1 ⟨rfl,hw⟩
      subst hw
      have hcv:=Lib.run_convert_string_bytes (P:=Tryz.prog) w1 9 32 5 s Tryz.underlying9 Tryz.underlying32 Tryz.underlying5
      obtain⟨cap,hcap⟩:∃c,Hid (grownCap w1 s.size 0 5=c):=⟨_,rfl⟩
      rw[hcap.out] at hcv
      obtain⟨w2,hw2⟩:∃w2,Hid (Lib.bytesWorld w1 5 s=w2):=⟨_,rfl⟩
      have hx2:Ext w1 w2:=by rw[←hw2.out];exact ext_bytes _ _ _
      have hcell:∀j,j<s.size→w2.cell? ⟨w1.heap.size,j,none⟩=some (.int .u8 ((byteAt s j).toNat:Int)):=fun j hj=>by rw[←hw2.out];exact Lib.bytesWorld_cell _ _ _ j hj
      rw[hw2.out] at hcv
      go_wp2_with fail
      go_loopw [4,34] (fun v4 v34 wr=>∃j v:Nat,j≤s.size∧v34=.int .i64 j∧v4=.int .i64 v∧Hid (valP (s.data.toList.drop j) v=V)∧wr=w2) (fun _ v34 _=>s.size-(intOf v34).toNat)
      case atStart=>exact⟨0,0,by omega,rfl,rfl,hV,rfl⟩
      case round=>
       obtain⟨j,v,hj,rfl,rfl,hv,hw⟩:=hrel
       have hw:=hw.symm
       subst hw
       have hvV:v≤9999:=by have:=valP_ge (s.data.toList.drop j) v;rw[hv.out] at this;omega
       by_cases hjs:j<s.size
       ·have hjs':(j:Int)<(s.size:Int):=by omega
        have c1:=hcell j hjs
        have hd:=hdig j hjs
        have hv2:Hid (valP (s.data.toList.drop (j+1)) (10*v+((byteAt s j).toNat-48))=V):=by show _=_;rw[←hv.out,drop_byteAt s j hjs,valP]
        clear hcell hcv hrun
        go_wp2_with fail
        refine⟨⟨j+1,10*v+((byteAt s j).toNat-48),by omega,rfl,congrArg (Value.int .i64) (by omega),hv2,trivial⟩,?_⟩
        simp[intOf]
        omega
       ·obtain rfl:j=s.size:=by omega
        have hvv:v=V:=by have h:=hv.out;rw[List.drop_of_length_le (by rw[size_list];omega)] at h;exact h
        subst hvv
        have hjs':¬(s.size:Int)<(s.size:Int):=by omega
        by_cases hbig:4096<v
        ·have ho2:none=o:=(hobig hbig).symm.trans ho.out
         subst ho2
         have hb4:(v:Int)>4096:=by omega
         go_wp2_with fail
         go_ret2
         exact⟨rfl,hx2⟩
        ·have ho2:some v=o:=(hosm hbig).symm.trans ho.out
         subst ho2
         have hb4:¬(v:Int)>4096:=by omega
         go_wp2_with fail
         go_ret2
         exact⟨rfl,hx2⟩
    ·have ho2:none=o:=by rw[←ho.out,numO];simp only[hne,if_false];split;rfl;split;rfl;rw[if_pos (by rw[size_list];omega)]
     subst ho2
     have h4':¬(s.size:Int)≤4:=by omega
     have hRb:((R:Int) != (s.size:Int))=false:=by rw[hRs];simp
     have z1:(s.size:Int)>1:=by omega
     have z2:¬(byteAt s 0).toNat=48:=fun h=>hz ⟨by omega,h⟩
     have z3:(((byteAt s 0).toNat:Int) == 48)=false:=by simp;omega
     go_wp2_with fail
     refine hrun.mono ?_
     rintro e w1 ⟨rfl,hw⟩
     subst hw
     go_wp2_with fail
     go_ret2
     exact⟨rfl,Ext.refl _⟩
   ·have ho2:none=o:=by rw[←ho.out,numO];simp only[hne,if_false];split;rfl;rw[if_pos (by rw[hR.out,size_list];exact hRs)]
    subst ho2
    have hRb:((R:Int) != (s.size:Int))=true:=by simp;omega
    by_cases hs1:s.size=1
    ·have z1:¬(s.size:Int)>1:=by omega
     go_wp2_with fail
     refine hrun.mono ?_
     rintro e w1 ⟨rfl,hw⟩
     subst hw
     go_wp2_with fail
     go_ret2
     exact⟨rfl,Ext.refl _⟩
    ·have z1:(s.size:Int)>1:=by omega
     have z2:¬(byteAt s 0).toNat=48:=fun h=>hz ⟨by omega,h⟩
     have z3:(((byteAt s 0).toNat:Int) == 48)=false:=by simp;omega
     go_wp2_with fail
     refine hrun.mono ?_
     rintro e w1 ⟨rfl,hw⟩
     subst hw
     go_wp2_with fail
     go_ret2
     exact⟨rfl,Ext.refl _⟩
end Lx
namespace Pr
open Go.ChangeShapes Go.WideShapes Go.ChangeAt Go.RowKit
open Base Lx Mi
theorem mt:Mt Tryz.prog 145 9 3:=⟨Tryz.underlying145,Tryz.underlying9,Tryz.underlying3,fun w=>by kernel_rfl⟩
theorem el_str:El Tryz.prog 25 9 (.string ByteArray.empty) 1 16:=⟨Tryz.underlying25,by kernel_rfl,rfl,by decide⟩
theorem el_int:El Tryz.prog 44 3 (.int .i64 0) 1 8:=⟨Tryz.underlying44,by kernel_rfl,rfl,by decide⟩
theorem el_fld:El Tryz.prog 45 69 (.agg #[.string ByteArray.empty,.bool false,.int .i64 0]) 3 32:=⟨by kernel_rfl,by kernel_rfl,by kernel_rfl,by omega⟩
theorem el_nd:El Tryz.prog 22 47 (.agg #[.int .i64 0,.string ByteArray.empty,.int .i64 0,.slice none 0 0,.slice none 0 0,.slice none 0 0]) 6 104:=⟨by kernel_rfl,by kernel_rfl,by kernel_rfl,by omega⟩
abbrev V3:=Value×Value×Value
def ndC (d:Nd) (v:V3):List Value:=[.int .i64 d.k,.string d.name,.int .i64 d.size,v.1,v.2.1,v.2.2]
def ndsC:List Nd→List V3→List Value
 | d::ns,v::vs=>ndC d v++ndsC ns vs
 | _,_=>[]
def fldC (f:ByteArray×Bool×Nat):List Value:=[.string f.1,.bool f.2.1,.int .i64 (f.2.2:Int)]
def flds (l:List (ByteArray×Bool×Nat)):List Value:=l.flatMap fldC
structure Sub (B:Nat) (w:World) (d:Nd) (v:V3):Prop where
 syms:w.ownsRow B 9 1 v.1 d.syms.length (txs d.syms)
 items:w.ownsRow B 3 1 v.2.1 d.items.length (ints d.items)
 fields:w.ownsRow B 69 3 v.2.2 d.fields.length (flds d.fields)
structure Nds (B:Nat) (w:World) (ns:List Nd) (vs:List V3) (vn:Value):Prop where
 len:vs.length=ns.length
 row:w.ownsRow B 47 6 vn ns.length (ndsC ns vs)
 sub:∀(i:Nat) d v,ns[i]?=some d→vs[i]?=some v→Sub B w d v
def TokOk (l:List Tok):Prop:=∃pre e,l=pre++[e]∧e.k=3
theorem TokOk.tail {l:List Tok} (h:TokOk l) (hk:(hd l).k≠3):TokOk l.tail∧l.tail.length+1=l.length:=by
 obtain⟨pre,e,rfl,he⟩:=h
 cases pre with
 | nil=>simp[hd] at hk;exact absurd he hk
 | cons x pre=>exact⟨⟨pre,e,rfl,he⟩,by simp⟩
theorem TokOk.pos {l:List Tok} (h:TokOk l):1≤l.length:=by
 obtain⟨pre,e,rfl,he⟩:=h
 simp
structure Rs (B:Nat) (w:World) (R M:Nat) (vl vn:Value) (vs:List V3) (s:PS):Prop where
 blk:Blk w R #[vl,vn,.map (some M)] 147
 toks:∃tg off cap,vl=.slice (some ⟨tg,off,none⟩) s.l.length cap∧Rd w (some ⟨tg,off,none⟩) (rows s.l)∧s.l.length≤cap∧cap≤maxLen∧tg<B
 nds:Nds B w s.ns vs vn
 named:∃cnt,MapU Tryz.prog 9 3 w M cnt s.nm∧cnt+s.l.length≤2000
 nmOk:∀x n,s.nm x=some n→n<s.ns.length
 tok:TokOk s.l
 tl:s.l.length≤2000
 ts:∀t∈s.l,t.s.size≤4096
 nl:s.ns.length≤200
 hR:B≤R
 hM:B≤M
 wd:Wd w
 hw:0<B
def Wr (R M:Nat) (vn:Value):Nat→Prop:=fun k=>k=R∨k=M∨vn.ownBlock=some k
def Fresh (w:World) (v v':Value):Prop:=v'.ownBlock=v.ownBlock∨∃k,v'.ownBlock=some k∧w.heap.size≤k
def stopV (at_ why:Nat):List PanicEntry:=[{ v:=.iface 142 (.agg #[.int .i64 (at_:Int),.int .i64 (why:Int)]),recovered:=false }]
theorem own_chg {S:Nat→Prop} {w w':World} {base:Nat} {e:TypeId} {size n:Nat} {v:Value} {xs:List Value} (h:w.ownsRow base e size v n xs) (hx:Chg S w w') (hS:∀k,v.ownBlock=some k→¬S k):w'.ownsRow base e size v n xs:=by
 refine⟨h.1,?_⟩
 rcases h.2 with h2|⟨g,cap,cur,rfl,hb,hg,r⟩
 ·exact .inl h2
 ·exact .inr ⟨g,cap,cur,rfl,hb,hx.heap hg (hS g rfl),r⟩
theorem map_chg {S:Nat→Prop} {w w':World} {k e:TypeId} {b n:Nat} {f:ByteArray→Option Nat} (h:MapU Tryz.prog k e w b n f) (hx:Chg S w w') (hS:¬S b):MapU Tryz.prog k e w' b n f:=by
 obtain⟨D,⟨es,clock,hb,r⟩,h2⟩:=h
 exact⟨D,⟨es,clock,hx.heap hb hS,r⟩,h2⟩
theorem own_ne_map {w:World} {base:Nat} {e:TypeId} {size n:Nat} {v:Value} {xs:List Value} {k e':TypeId} {b n':Nat} {f:ByteArray→Option Nat} (h:w.ownsRow base e size v n xs) (hm:MapU Tryz.prog k e' w b n' f):¬v.ownBlock=some b:=fun he=>by
 rcases h.2 with⟨e1,_⟩|⟨g',cap,cur,e1,_,hh,_⟩
 ·rw[e1] at he;cases he
 ·rw[e1] at he
  simp only[Value.ownBlock,Option.some.injEq] at he
  exact hm.not_cells hh he.symm
theorem own_not {w:World} {base base':Nat} {e e':TypeId} {size size' n n':Nat} {v v':Value} {xs xs':List Value} (h:w.ownsRow base e size v n xs) (h':w.ownsRow base' e' size' v' n' xs') (hne:e≠e'):∀k,v'.ownBlock=some k→¬v.ownBlock=some k:=fun k hk he=>by
 rcases own_ne_own h h' hne with e1|e1
 ·rw[hk] at e1;cases e1
 ·exact e1 (hk.trans he.symm)
theorem own_mono {w:World} {B B':Nat} {e:TypeId} {size n:Nat} {v:Value} {xs:List Value} (h:w.ownsRow B e size v n xs) (hB:B'≤B):w.ownsRow B' e size v n xs:=by
 refine⟨h.1,?_⟩
 rcases h.2 with h2|⟨g,cap,cur,rfl,hb,r⟩
 ·exact .inl h2
 ·exact .inr ⟨g,cap,cur,rfl,Nat.le_trans hB hb,r⟩
section
variable {B:Nat} {w w':World} {R M:Nat} {vl vn:Value} {vs:List V3} {s:PS} {d:Nd} {v:V3} {ns:List Nd}
theorem Sub.ext (h:Sub B w d v) (hx:Ext w w'):Sub B w' d v:=⟨own_ext h.syms hx,own_ext h.items hx,own_ext h.fields hx⟩
theorem Nds.ext (h:Nds B w ns vs vn) (hx:Ext w w'):Nds B w' ns vs vn:=⟨h.len,own_ext h.row hx,fun i d v h1 h2=>(h.sub i d v h1 h2).ext hx⟩
theorem Rs.ext (h:Rs B w R M vl vn vs s) (hx:Ext w w'):Rs B w' R M vl vn vs s:=by
 obtain⟨tg,off,cap,e,h1,h2,h3,h4⟩:=h.toks
 obtain⟨cnt,h5,h6⟩:=h.named
 exact⟨h.blk.ext hx,⟨tg,off,cap,e,h1.ext hx,h2,h3,h4⟩,h.nds.ext hx,⟨cnt,h5.ext hx,h6⟩,h.nmOk,h.tok,h.tl,h.ts,h.nl,h.hR,h.hM,h.wd.ext hx,h.hw⟩
theorem Sub.chg {S:Nat→Prop} (h:Sub B w d v) (hx:Chg S w w') (h1:∀k,v.1.ownBlock=some k→¬S k) (h2:∀k,v.2.1.ownBlock=some k→¬S k) (h3:∀k,v.2.2.ownBlock=some k→¬S k):Sub B w' d v:=⟨own_chg h.syms hx h1,own_chg h.items hx h2,own_chg h.fields hx h3⟩
theorem Rs.sep (h:Rs B w R M vl vn vs s):(∀(i:Nat) d v,s.ns[i]?=some d→vs[i]?=some v→(∀k,v.1.ownBlock=some k→¬Wr R M vn k)∧(∀k,v.2.1.ownBlock=some k→¬Wr R M vn k)∧(∀k,v.2.2.ownBlock=some k→¬Wr R M vn k))∧R≠M∧¬vn.ownBlock=some R∧¬vn.ownBlock=some M:=by
 obtain⟨cnt,hm,_⟩:=h.named
 refine⟨fun i d v h1 h2=>?_,fun e=>hm.not_cells h.blk e.symm,fun e=>own_ne_blk h.nds.row h.blk (by decide) e.symm,own_ne_map h.nds.row hm⟩
 have hs:=h.nds.sub i d v h1 h2
 refine⟨?_,?_,?_⟩
 ·rintro k hk (rfl|rfl|e)
  ·exact own_ne_blk hs.syms h.blk (by decide) hk.symm
  ·exact own_ne_map hs.syms hm hk
  ·exact own_not hs.syms h.nds.row (by decide) k e hk
 ·rintro k hk (rfl|rfl|e)
  ·exact own_ne_blk hs.items h.blk (by decide) hk.symm
  ·exact own_ne_map hs.items hm hk
  ·exact own_not hs.items h.nds.row (by decide) k e hk
 ·rintro k hk (rfl|rfl|e)
  ·exact own_ne_blk hs.fields h.blk (by decide) hk.symm
  ·exact own_ne_map hs.fields hm hk
  ·exact own_not hs.fields h.nds.row (by decide) k e hk
theorem Rs.wr_ge (h:Rs B w R M vl vn vs s):∀k,Wr R M vn k→B≤k:=by
 rintro k (rfl|rfl|e)
 ·exact h.hR
 ·exact h.hM
 ·exact (h.nds.row.lt k e).1
theorem Rs.cells (h:Rs B w R M vl vn vs s):w.cell? ⟨R,0,none⟩=some vl∧w.cell? ⟨R,1,none⟩=some vn∧w.cell? ⟨R,2,none⟩=some (.map (some M))∧w.frozen? ⟨R,0,none⟩=false∧w.frozen? ⟨R,1,none⟩=false:=
 ⟨h.blk.cell 0,h.blk.cell 1,h.blk.cell 2,h.blk.frozen 0,h.blk.frozen 1⟩
theorem Rs.head (h:Rs B w R M vl vn vs s):∃tg off cap,vl=.slice (some ⟨tg,off,none⟩) s.l.length cap∧1≤s.l.length∧s.l.length≤cap∧cap≤maxLen∧∀W,Ext w W→W.cell? ⟨tg,off,none⟩=some (.int .i64 (hd s.l).k)∧W.cell? ⟨tg,off+1,none⟩=some (.string (hd s.l).s)∧W.cell? ⟨tg,off+2,none⟩=some (.int .i64 ((hd s.l).a:Int)):=by
 obtain⟨tg,off,cap,e,h1,h2,h3,h4⟩:=h.toks
 refine⟨tg,off,cap,e,h.tok.pos,h2,h3,fun W hW=>?_⟩
 have hp:=h.tok.pos
 cases hl:s.l with
 | nil=>rw[hl] at hp;simp at hp
 | cons t r=>
  rw[hl] at h1
  have h1:=h1.ext hW
  have hr:rows (t::r)=.int .i64 t.k::.string t.s::.int .i64 (t.a:Int)::rows r:=rfl
  have hne:rows (t::r)≠[]:=by rw[hr];simp
  obtain⟨b,o,e2,hc⟩:=h1 hne
  simp only[Option.some.injEq,Addr.mk.injEq,and_true] at e2
  obtain⟨rfl,rfl⟩:=e2
  rw[hr] at hc
  exact⟨hc 0 _ rfl,hc 1 _ rfl,hc 2 _ rfl⟩
theorem Rs.on {tg off cap:Nat} (h:Rs B w R M (.slice (some ⟨tg,off,none⟩) s.l.length cap) vn vs s) (hk:(hd s.l).k≠3) :
  Rs B (w.setCell ⟨R,0,none⟩ (.slice (some ⟨tg,off+3,none⟩) (s.l.length-1) (cap-1))) R M (.slice (some ⟨tg,off+3,none⟩) (s.l.length-1) (cap-1)) vn vs s.on:=by
 obtain⟨ht,hl⟩:=h.tok.tail hk
 obtain⟨tg',off',cap',e,h1,h2,h3,h4⟩:=h.toks
 injection e with e e1 e2
 simp only[Option.some.injEq,Addr.mk.injEq,and_true] at e
 obtain⟨rfl,rfl⟩:=e
 subst e2
 obtain⟨cnt,hm,hc⟩:=h.named
 obtain⟨hsub,hRM,hnR,hnM⟩:=h.sep
 have hch:=Chg.one w R 0 (.slice (some ⟨tg,off+3,none⟩) (s.l.length-1) (cap-1))
 have hRne:∀ {e':TypeId} {size n:Nat} {v':Value} {xs:List Value},w.ownsRow B e' size v' n xs→e'≠147→∀k,v'.ownBlock=some k→¬k=R:=fun ho hne k hk e=>own_ne_blk ho h.blk hne (by rw[←e];exact hk.symm)
 refine⟨h.blk.set 0 _,⟨tg,off+3,cap-1,by show _=Value.slice _ s.l.tail.length _;rw[←hl];simp,?_,by show s.l.tail.length≤_;omega,by omega,h4⟩,⟨h.nds.len,own_chg h.nds.row hch (hRne h.nds.row (by decide)),fun i d v q1 q2=>?_⟩,⟨cnt,map_chg hm hch (fun e=>hRM e.symm),by show cnt+s.l.tail.length≤_;omega⟩,h.nmOk,ht,by show s.l.tail.length≤_;have:=h.tl;omega,fun t q=>h.ts t (List.mem_of_mem_tail q),h.nl,h.hR,h.hM,Rd.chg h.wd hch (fun a e=>by injection e with e;subst e;have:=h.hR;have:=h.hw;show ¬0=R;omega),h.hw⟩
 ·have h1':Rd w (some ⟨tg,off+3,none⟩) (rows s.l.tail):=by
   have:=h1.drop 3
   cases hq:s.l with
   | nil=>exact Rd.nil _ _
   | cons t r=>rw[hq] at this;exact this
  exact Rd.chg h1' hch (fun a e=>by injection e with e;subst e;have:=h.hR;show ¬tg=R;omega)
 ·have hs:=h.nds.sub i d v q1 q2
  exact hs.chg hch (hRne hs.syms (by decide)) (hRne hs.items (by decide)) (hRne hs.fields (by decide))
end
end Pr
namespace Pr
open Lx
structure Ne where
 k:Int
 name:ByteArray
 size:Int
 syms:List ByteArray
 items:List Int
 fields:List (ByteArray×Bool×Int)
 deriving DecidableEq
def Nd.toE (d:Nd):Ne:=⟨d.k,d.name,d.size,d.syms,d.items.map fun (n:Nat)=>(n:Int),d.fields.map fun f=>(f.1,f.2.1,(f.2.2:Int))⟩
structure WSt where
 s:List UInt8
 next:Nat
 bad:Bool
def WSt.put (st:WSt) (t:List UInt8):WSt:={ st with s:=st.s++t }
def bs (s:ByteArray):List UInt8:=s.data.toList
abbrev WT:=Int→WSt→WSt
def wlist (T:WT):Bool→List Int→WSt→WSt
 | _,[],st=>st
 | first,n::l,st=>wlist T false l (T n (if first then st else st.put [124]))
def witems (T:WT) (op:List UInt8) (l:List Int) (sh:List UInt8) (st:WSt):WSt:=(wlist T true l (st.put op)).put sh
def wfield (T:WT) (f:ByteArray×Bool×Int) (st:WSt):WSt:=(T f.2.2 ((if f.2.1 then (st.put (bs f.1)).put [63] else st.put (bs f.1)).put [58])).put [59]
def wflds (T:WT):List (ByteArray×Bool×Int)→WSt→WSt
 | [],st=>st
 | f::l,st=>wflds T l (wfield T f st)
def sRec:List UInt8:=[114,101,99,111,114,100,32]
def sEn:List UInt8:=[101,110,117,109,32]
def sFix:List UInt8:=[102,105,120,101,100,32]
def wrecord (T:WT) (x:Ne) (st:WSt):WSt:=(wflds T x.fields (st.put (sRec++bs x.name++[123]))).put [125]
def wbody (T:WT) (x:Ne) (st:WSt):WSt:=
 if x.k=6 then witems T [91] x.items [93] st
 else if x.k=7 then witems T [123] x.items [125] st
 else if x.k=8 then witems T [40] x.items [41] st
 else if x.k=9 then st.put (sEn++bs x.name++[60]++([44]:List UInt8).intercalate (x.syms.map bs)++[62])
 else if x.k=10 then st.put (sFix++bs x.name++[32]++Lib.itoa x.size)
 else if x.k=11 then wrecord T x st
 else if x.k<0∨12≤x.k then { st with bad:=true }
 else st.put (bs (wordsL.getD x.k.toNat ⟨#[]⟩))
def wstop (ns:List Ne) (f:Nat) (n:Int) (st:WSt):Prop:=st.bad=true∨n<0∨(ns.length:Int)≤n∨(st.next:Int)<n∨f=0∨4096<st.s.length
instance (ns:List Ne) (f:Nat) (n:Int) (st:WSt):Decidable (wstop ns f n st):=by unfold wstop;infer_instance
def neD:Ne:=⟨0,⟨#[]⟩,0,[],[],[]⟩
def wtyp (ns:List Ne):Nat→WT
 | 0,n,st=>{ st with bad:=true }
 | f+1,n,st=>
  if wstop ns (f+1) n st then { st with bad:=true }
  else if n<st.next then { (st.put (bs (ns.getD n.toNat neD).name)) with bad:=decide ((ns.getD n.toNat neD).k<9) }
  else wbody (wtyp ns f) (ns.getD n.toNat neD) { st with next:=st.next+1 }
def showP (ns:List Ne):Option (List UInt8):=
 let st:=wtyp ns 20 0 ⟨[],0,false⟩
 if st.bad=true∨st.next≠ns.length then none
 else
  let r:=parseP ⟨st.s.toArray⟩
  if r.2.2≠0∨r.1.map Nd.toE≠ns then none else some st.s
theorem WSt.put_len (st:WSt) (t:List UInt8):(st.put t).s.length=st.s.length+t.length:=by simp[WSt.put]
def WG (T:WT):Prop:=∀n st,st.s.length≤(T n st).s.length
theorem wlist_len {T:WT} (h:WG T):∀(b:Bool) (l:List Int) (st:WSt),st.s.length≤(wlist T b l st).s.length
 | _,[],st=>Nat.le_refl _
 | b,n::l,st=>by
  rw[wlist]
  refine Nat.le_trans ?_ (wlist_len h false l _)
  refine Nat.le_trans ?_ (h n _)
  split
  ·exact Nat.le_refl _
  ·rw[WSt.put_len];omega
theorem witems_len {T:WT} (h:WG T) (op:List UInt8) (l:List Int) (sh:List UInt8) (st:WSt):st.s.length≤(witems T op l sh st).s.length:=by
 unfold witems
 rw[WSt.put_len]
 have:=wlist_len h true l (st.put op)
 rw[WSt.put_len] at this
 omega
theorem wfield_len {T:WT} (h:WG T) (f:ByteArray×Bool×Int) (st:WSt):st.s.length≤(wfield T f st).s.length:=by
 unfold wfield
 rw[WSt.put_len]
 have h0:st.s.length≤((if f.2.1 then (st.put (bs f.1)).put [63] else st.put (bs f.1)).put [58]).s.length:=by
  rw[WSt.put_len]
  split
  ·rw[WSt.put_len,WSt.put_len];omega
  ·rw[WSt.put_len];omega
 have:=h f.2.2 ((if f.2.1 then (st.put (bs f.1)).put [63] else st.put (bs f.1)).put [58])
 omega
theorem wflds_len {T:WT} (h:WG T):∀(l:List (ByteArray×Bool×Int)) (st:WSt),st.s.length≤(wflds T l st).s.length
 | [],st=>Nat.le_refl _
 | f::l,st=>by
  rw[wflds]
  exact Nat.le_trans (wfield_len h f st) (wflds_len h l _)
theorem wrecord_len {T:WT} (h:WG T) (x:Ne) (st:WSt):st.s.length≤(wrecord T x st).s.length:=by
 unfold wrecord
 rw[WSt.put_len]
 have:=wflds_len h x.fields (st.put (sRec++bs x.name++[123]))
 rw[WSt.put_len] at this
 omega
theorem wbody_len {T:WT} (h:WG T) (x:Ne) (st:WSt):st.s.length≤(wbody T x st).s.length:=by
 unfold wbody
 split
 ·exact witems_len h _ _ _ _
 ·split
  ·exact witems_len h _ _ _ _
  ·split
   ·exact witems_len h _ _ _ _
   ·split
    ·rw[WSt.put_len];omega
    ·split
     ·rw[WSt.put_len];omega
     ·split
      ·exact wrecord_len h _ _
      ·split
       ·exact Nat.le_refl _
       ·rw[WSt.put_len];omega
theorem wtyp_len (ns:List Ne):∀f,WG (wtyp ns f)
 | 0,n,st=>Nat.le_refl _
 | f+1,n,st=>by
  rw[wtyp]
  split
  ·exact Nat.le_refl _
  ·split
   ·show _≤(st.put _).s.length
    rw[WSt.put_len];omega
   ·exact wbody_len (wtyp_len ns f) _ { st with next:=st.next+1 }
end Pr
end Go.Proofs.YtllhhpcabncmiaaGreatDoor
