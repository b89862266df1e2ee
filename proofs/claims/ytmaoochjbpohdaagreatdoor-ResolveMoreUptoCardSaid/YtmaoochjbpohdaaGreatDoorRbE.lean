/- A map from pairs of whole numbers to truth values, by the relation that it is. -/
import Derived.Test.YtmaoochjbpohdaaGreatDoorRbD
import Derived.Maps.OwnSet
import Derived.MapViews
import Derived.DeepKeys4
import Derived.WideKeyEntry
import Derived.Laws.IdiomCopy
import Derived.Deep.MidRow
set_option linter.unusedVariables false
set_option linter.unusedSimpArgs false
set_option maxRecDepth 100000
set_option maxHeartbeats 1000000
namespace Go.Proofs.YtmaoochjbpohdaaGreatDoor
namespace Mp
open Go.ChangeShapes Go.WideShapes Go.ChangeAt Go.RowKit Go.WideMaps
open Base
def pv (i k:Int):Value:=.agg #[.int .i64 i,.int .i64 k]
def I6 (i:Int):Prop := -9223372036854775808≤i∧i≤9223372036854775807
structure Bt (P:Program) (t k e:TypeId):Prop where
 under:P.underlying t=some (.map k e)
 law:KeyLaw P k
 elem:P.underlying e=some .bool
 zero:∀w,(zeroValue e).run P w=.ok (.bool false) w
 has:∀i j,I6 i→I6 j→∃l,keyOf P k (pv i j)=some l
theorem Bt.keyed {P:Program} {t k e:TypeId} (M:Bt P t k e):Maps.Keyed P k:=Maps.Keyed.of_law M.law
def MapB (P:Program) (k e:TypeId) (w:World) (b n:Nat) (N:Int→Int→Bool):Prop:=
 ∃D:DataW Unit,w.ownsMap P k (plainElem P e) b n D∧Maps.IsMap D∧∀i j l,keyOf P k (pv i j)=some l→D.atKey l (.lit (.bool false))=.lit (.bool (N i j))
theorem pv_inj {i j i' j':Int} (h:pv i j=pv i' j'):i=i'∧j=j':=by
 unfold pv at h
 injection h with h
 have h0:=congrArg (fun l=>l[0]?) h
 have h1:=congrArg (fun l=>l[1]?) h
 simp at h0 h1
 exact⟨h0,h1⟩
theorem bool_inv {H:Type} {P:Program} {e:TypeId} (he:P.underlying e=some .bool) {v:Value} {z:DataW H×List MemPlace} (h:plainElem P e v=some z):∃x,v=.bool x∧z=(.lit (.bool x),[]):=by
 unfold plainElem at h
 rw[he] at h
 cases v<;>simp at h
 exact⟨_,rfl,h.symm⟩
section
variable {P:Program} {t k e:TypeId} {w w':World} {b n:Nat} {N:Int→Int→Bool}
theorem MapB.kept {row:Option Nat} (h:MapB P k e w b n N) (hg:w.grownBy w' row) (hne:some b≠row):MapB P k e w' b n N:=by
 obtain⟨D,h1,h2⟩:=h
 exact⟨D,h1.kept hg hne,h2⟩
theorem MapB.ext (h:MapB P k e w b n N) (hx:Ext w w'):MapB P k e w' b n N:=by
 obtain⟨D,⟨es,clock,hb,r⟩,h2⟩:=h
 exact⟨D,⟨es,clock,hx.heap hb,r⟩,h2⟩
theorem MapB.lt (h:MapB P k e w b n N):b<w.heap.size:=by
 obtain⟨D,h1,h2⟩:=h
 exact h1.lt
theorem MapB.made (P:Program) (k e:TypeId) (w:World):MapB P k e (w.alloc (.map #[] 0)) w.heap.size 0 (fun _ _=>false):=
 ⟨.map [],World.ownsMap_made w P k (plainElem P e),Maps.isMap_empty,fun i j l _=>by simp[DataW.atKey]⟩
theorem MapB.look (M:Bt P t k e) (h:MapB P k e w b n N) {i j:Int} (hi:I6 i) (hj:I6 j) :
  (Instr.lookup t (.map (some b)) (.agg #[.int .i64 i,.int .i64 j]) false).run P w=.ok (.bool (N i j)) w:=by
 obtain⟨D,h1,h2,h3⟩:=h
 obtain⟨l,hl⟩:=M.has i j hi hj
 obtain⟨v,ps,hrun,hv⟩:=h1.lookup M.keyed M.under (M.zero w) (plainElem_bool M.elem false) hl
 obtain⟨c,rfl,hc⟩:=bool_inv M.elem hv
 simp only[Prod.mk.injEq] at hc
 have h4:=h3 i j l hl
 rw[hc.1] at h4
 simp only[DataW.lit.injEq,Lit.bool.injEq] at h4
 rw[←h4]
 exact hrun
theorem MapB.store (M:Bt P t k e) (h:MapB P k e w b n N) (hn:n<maxLen) {i j:Int} (hi:I6 i) (hj:I6 j) :
  ∃w',(Instr.mapUpdate t (.map (some b)) (.agg #[.int .i64 i,.int .i64 j]) (.bool true)).run P w=.ok () w'∧MapB P k e w' b (n+1) (fun x y=>if x=i∧y=j then true else N x y)∧w.grownBy w' (some b):=by
 obtain⟨D,h1,h2,h3⟩:=h
 obtain⟨l,hl⟩:=M.has i j hi hj
 obtain⟨w',hrun,ho,hg⟩:=h1.update M.keyed M.under hn hl (plainElem_bool (H:=Unit) M.elem true)
 refine⟨w',hrun,⟨_,ho,h2.put _ _,?_⟩,hg⟩
 intro x y m hm
 by_cases hxy:x=i∧y=j
 ·obtain⟨rfl,rfl⟩:=hxy
  obtain rfl:l=m:=Option.some.inj (hl.symm.trans hm)
  simp only[and_self,if_true]
  exact Maps.atKey_put_same h2 (M.keyed.key hl) _ _
 ·have hne:m≠l:=by
   rintro rfl
   exact hxy (pv_inj (M.keyed.inj hm hl))
  simp only[hxy,if_false]
  exact (Maps.atKey_put_other hne _ _).trans (h3 x y m hm)
theorem setBlock_twice (w:World) (b:Nat) (x y:Obj):ChangeMaps.setBlock (ChangeMaps.setBlock w b x) b y=ChangeMaps.setBlock w b y:=by
 simp[ChangeMaps.setBlock]
theorem MapB.entry (M:Bt P t k e) (h:MapB P k e w b n N) (hn:n<maxLen) {i j:Int} (hi:I6 i) (hj:I6 j) :
  ∃v0 st w1 w',(Instr.mapEntry t (.map (some b)) (.agg #[.int .i64 i,.int .i64 j])).run P w=.ok (.tuple #[v0,goInt st]) w1∧(Instr.entryStore t (.map (some b)) (goInt st) (.bool true)).run P w1=.ok () w'∧
   MapB P k e w' b (n+1) (fun x y=>if x=i∧y=j then true else N x y)∧w.grownBy w' (some b):=by
 obtain⟨w',hrun,hm,hg⟩:=h.store M hn hi hj
 obtain⟨D,⟨es,clock,hb,F,_⟩,_⟩:=h
 obtain⟨l,hl⟩:=M.has i j hi hj
 obtain⟨v0,st,es1,clock1,h1,_,h2⟩:=WideElems.entry_then_store (w:=w) M.law M.under M.zero hb F hl
 obtain⟨es',clock',h3,h4⟩:=h2 (ChangeMaps.setBlock w b (.map es1 clock1)) (.bool true) (ChangeMaps.heap_setBlock_same hb _)
 refine⟨v0,st,_,w',h1,?_,hm,hg⟩
 have h5:(Instr.mapUpdate t (.map (some b)) (pv i j) (.bool true)).run P w=.ok () w':=hrun
 rw[h4] at h5
 injection h5 with _ h5
 rw[h3,setBlock_twice,h5]
end
end Mp
namespace Reg
open Base
section
variable {P:Program} {ops:Array Oper} {Q:Exit→Act→World→Prop} {R:World→World→Prop}
def At (P:Program) (ops:Array Oper) (Q:Exit→Act→World→Prop) (R:World→World→Prop) (done:List Nat) (a:Act) (w:World):Prop:=
 Closed ops (marked ops.size done)→wpAll P ops Q R (ops.size-done.length) (marked ops.size done) a w
theorem startX {id:Nat} {a:Act} {w:World} (hm:P.follows .mixedOrders=true) (h:At P ops Q R [] a w.drew):(Code.region id ops true).wp P Q a w:=
 wp_region_any hm (wpAny_of_wpAll _ _ _ _ (h (Closed.none ops)))
theorem takeX (hR:Rl R) (i:Nat) (oi:Oper) (v:Value) {done:List Nat} {a:Act} {w:World} (hi:ops[i]?=some oi)
  (hs:Region.noSelect ops=true) (hf:Region.free .any ops (marked ops.size done) i=true) (hr:(Region.ready .any ops (marked ops.size done)).contains i=true) (hn:done.length<ops.size)
  (hQ:∀c a w,Q (.panic c) (a.put oi.dst v) w→Q (.panic c) a w) (hw:Region.wanted oi (yielded ops a.tmps)=true)
  (hy:∀w',R w w'→(execOp a.eval oi).run P w'=.ok (.value v) w')
  (h:At P ops Q R (i::done) (a.put oi.dst v) w):At P ops Q R done a w:=by
 intro hcl
 have e:ops.size-done.length=(ops.size-(i::done).length)+1:=by simp only[List.length_cons];omega
 rw[e]
 exact wpAll_first hR.refl hR.trans hi (Region.noSelect_spec hs) hQ _ _ a w (Region.free_spec hi hf) hcl (by simpa using hr) (.inl ⟨hw,hy⟩) (hR.refl w) (h (hcl.set (i:=i) (by simpa using hr)))
theorem skipX (hR:Rl R) (i:Nat) (oi:Oper) {done:List Nat} {a:Act} {w:World} (hi:ops[i]?=some oi)
  (hs:Region.noSelect ops=true) (hf:Region.free .any ops (marked ops.size done) i=true) (hr:(Region.ready .any ops (marked ops.size done)).contains i=true) (hn:done.length<ops.size)
  (hQ:∀c a w,Q (.panic c) (a.put oi.dst undef) w→Q (.panic c) a w) (hw:Region.wanted oi (yielded ops a.tmps)=false)
  (h:At P ops Q R (i::done) (a.put oi.dst undef) w):At P ops Q R done a w:=by
 intro hcl
 have e:ops.size-done.length=(ops.size-(i::done).length)+1:=by simp only[List.length_cons];omega
 rw[e]
 exact wpAll_first hR.refl hR.trans hi (Region.noSelect_spec hs) hQ _ _ a w (Region.free_spec hi hf) hcl (by simpa using hr) (.inr ⟨hw,rfl⟩) (hR.refl w) (h (hcl.set (i:=i) (by simpa using hr)))
theorem onlyX (i:Nat) (oi:Oper) {done:List Nat} {a:Act} {w:World} (hi:ops[i]?=some oi)
  (hr:Region.ready .any ops (marked ops.size done)=[i]) (hn:done.length<ops.size) (hw:Region.wanted oi (yielded ops a.tmps)=true)
  (h:∀K:Act→World→Prop,Shut (∀a' w'',R w w''→At P ops Q R (i::done) a' w''→K a' w'')→oi.wp P a w K Q):At P ops Q R done a w:=by
 intro hcl
 have e:ops.size-done.length=(ops.size-(i::done).length)+1:=by simp only[List.length_cons];omega
 rw[e]
 refine⟨fun h0=>(by rw[h0] at hr;cases hr),fun j hj=>?_⟩
 rw[hr] at hj
 obtain rfl:j=i:=by simpa using hj
 unfold wpOp
 simp only[hi,hw,if_true]
 exact .inl (h _ (fun a' w'' hx hst=>⟨.inl hx,hst (hcl.set (by rw[hr];simp))⟩))
theorem bothX (i j:Nat) (oi oj:Oper) {done:List Nat} {a:Act} {w:World} (hi:ops[i]?=some oi) (hj:ops[j]?=some oj)
  (hr:Region.ready .any ops (marked ops.size done)=[i,j]) (hn:done.length<ops.size) (hwi:Region.wanted oi (yielded ops a.tmps)=true) (hwj:Region.wanted oj (yielded ops a.tmps)=true)
  (h1:∀K:Act→World→Prop,Shut (∀a' w'',R w w''→At P ops Q R (i::done) a' w''→K a' w'')→oi.wp P a w K Q)
  (h2:∀K:Act→World→Prop,Shut (∀a' w'',R w w''→At P ops Q R (j::done) a' w''→K a' w'')→oj.wp P a w K Q):At P ops Q R done a w:=by
 intro hcl
 have e:ops.size-done.length=(ops.size-(i::done).length)+1:=by simp only[List.length_cons];omega
 rw[e]
 refine⟨fun h0=>(by rw[h0] at hr;cases hr),fun k hk=>?_⟩
 have hk2:=hk
 rw[hr] at hk
 simp only[List.mem_cons,List.mem_nil_iff,or_false] at hk
 unfold wpOp
 rcases hk with rfl|rfl
 ·simp only[hi,hwi,if_true]
  exact .inl (h1 _ (fun a' w'' hx hst=>⟨.inl hx,hst (hcl.set hk2)⟩))
 ·simp only[hj,hwj,if_true]
  exact .inl (h2 _ (fun a' w'' hx hst=>⟨.inl hx,hst (hcl.set hk2)⟩))
theorem lastX (i:Nat) (oi:Oper) {done:List Nat} {a:Act} {w:World} (hi:ops[i]?=some oi)
  (hr:Region.ready .any ops (marked ops.size done)=[i]) (hr2:Region.ready .any ops (marked ops.size (i::done))=[]) (hs:soleB ops i=true) (hn:done.length<ops.size) (hw:Region.wanted oi (yielded ops a.tmps)=true)
  (h:∀K:Act→World→Prop,Shut (∀a' w'',Q .normal a' w''→K a' w'')→oi.wp P a w K Q):At P ops Q R done a w:=by
 intro hcl
 have e:ops.size-done.length=(ops.size-(i::done).length)+1:=by simp only[List.length_cons];omega
 rw[e]
 refine⟨fun h0=>(by rw[h0] at hr;cases hr),fun j hj=>?_⟩
 rw[hr] at hj
 obtain rfl:j=i:=by simpa using hj
 unfold wpOp
 simp only[hi,hw,if_true]
 refine .inl (h _ (fun a' w'' hq=>⟨.inr (sole_of hs),?_⟩))
 cases hk:ops.size-(j::done).length with
 | zero=>exact⟨hr2,hq⟩
 | succ k=>exact⟨fun _=>hq,by rw[←marked_cons,hr2];simp⟩
theorem finX {done:List Nat} {a:Act} {w:World} (hr:Region.ready .any ops (marked ops.size done)=[]) (h:Q .normal a w):At P ops Q R done a w:=by
 intro hcl
 cases hk:ops.size-done.length with
 | zero=>exact⟨hr,h⟩
 | succ k=>exact⟨fun _=>h,by rw[hr];simp⟩
theorem At.perm {done done':List Nat} {a:Act} {w:World} (hm:marked ops.size done=marked ops.size done') (hl:done.length=done'.length) (h:At P ops Q R done' a w):At P ops Q R done a w:=by
 unfold At at h ⊢
 rw[hm,hl];exact h
theorem put_comm (a:Act) {d e:Option Nat} (h:d≠e) (u v:Value):(a.put d u).put e v=(a.put e v).put d u:=by
 cases d with
 | none=>rfl
 | some d=>
  cases e with
  | none=>rfl
  | some e=>
   have:d≠e:=fun x=>h (by rw[x])
   simp only[Act.put,Act.mk.injEq,and_true]
   exact Array.setIfInBounds_comm _ _ this
theorem bothY {B:Nat} (i j:Nat) (oi oj:Oper) {done:List Nat} {a:Act} {w:World} (hB:B≤w.heap.size) (hi:ops[i]?=some oi) (hj:ops[j]?=some oj) (hgi:oi.guard=none) (hgj:oj.guard=none) (hd:oi.dst≠oj.dst) (hij:i≠j)
  (hr:Region.ready .any ops (marked ops.size done)=[i,j]) (hri:Region.ready .any ops (marked ops.size (i::done))=[j]) (hrj:Region.ready .any ops (marked ops.size (j::done))=[i]) (hn:done.length+1<ops.size)
  (Fi Fj:Value→World→Prop) (si:∀v w1 w2,Fi v w1→Ext w1 w2→Fi v w2) (sj:∀v w1 w2,Fj v w1→Ext w1 w2→Fj v w2)
  (h1:∀a' w1,(a'=a∨∃v,a'=a.put oj.dst v)→Ext w w1→∀K:Act→World→Prop,Shut (∀v w2,Ext w1 w2→Fi v w2→K (a'.put oi.dst v) w2)→oi.wp P a' w1 K Q)
  (h2:∀a' w1,(a'=a∨∃v,a'=a.put oi.dst v)→Ext w w1→∀K:Act→World→Prop,Shut (∀v w2,Ext w1 w2→Fj v w2→K (a'.put oj.dst v) w2)→oj.wp P a' w1 K Q)
  (h:∀vi vj X,Ext w X→Fi vi X→Fj vj X→At P ops Q (Go.RowKit.Below B) (j::i::done) ((a.put oi.dst vi).put oj.dst vj) X):At P ops Q (Go.RowKit.Below B) done a w:=by
 have wi:∀t,Region.wanted oi t=true:=fun t=>by simp[Region.wanted,hgi]
 have wj:∀t,Region.wanted oj t=true:=fun t=>by simp[Region.wanted,hgj]
 have low:∀ {x y:World},Ext w x→Ext x y→Go.RowKit.Below B x y:=fun hx hy=>Go.RowKit.Below.mono hy (Nat.le_trans hB hx.size)
 refine bothX i j oi oj hi hj hr (by omega) (wi _) (wj _) (fun K hK=>?_) (fun K hK=>?_)
 ·refine h1 a w (.inl rfl) (Ext.refl w) K (fun vi w2 hx hf=>hK _ _ (low (Ext.refl w) hx) ?_)
  refine onlyX j oj hj hri (by simp only[List.length_cons];omega) (wj _) (fun K hK=>?_)
  exact h2 _ w2 (.inr ⟨vi,rfl⟩) hx K (fun vj w3 hx3 hfj=>hK _ _ (low hx hx3) (h vi vj w3 (hx.trans hx3) (si _ _ _ hf hx3) hfj))
 ·refine h2 a w (.inl rfl) (Ext.refl w) K (fun vj w2 hx hf=>hK _ _ (low (Ext.refl w) hx) ?_)
  refine onlyX i oi hi hrj (by simp only[List.length_cons];omega) (wi _) (fun K hK=>?_)
  refine h1 _ w2 (.inr ⟨vj,rfl⟩) hx K (fun vi w3 hx3 hfi=>hK _ _ (low hx hx3) ?_)
  have hm:marked ops.size (i::j::done)=marked ops.size (j::i::done):=by
   rw[marked_cons,marked_cons,marked_cons,marked_cons]
   exact Array.setIfInBounds_comm _ _ (Ne.symm hij)
  refine At.perm hm rfl ?_
  rw[put_comm a (Ne.symm hd)]
  exact h vi vj w3 (hx.trans hx3) hfi (sj _ _ _ hf hx3)
theorem tx (hR:Rl R) (i:Nat) {oi:Oper} {v:Value} {done:List Nat} {a:Act} {w:World} (h:At P ops Q R (i::done) (a.put oi.dst v) w) (hi:ops[i]?=some oi:=by rfl)
  (hs:Region.noSelect ops=true:=by kernel_rfl) (hf:Region.free .any ops (marked ops.size done) i=true:=by kernel_rfl) (hr:(Region.ready .any ops (marked ops.size done)).contains i=true:=by kernel_rfl) (hn:done.length<ops.size:=by decide)
  (hQ:∀c a w,Q (.panic c) (a.put oi.dst v) w→Q (.panic c) a w:=by intro c a w h;first|exact h|solve_by_elim) (hw:Region.wanted oi (yielded ops a.tmps)=true:=by rfl)
  (hy:∀w',R w w'→(execOp a.eval oi).run P w'=.ok (.value v) w':=by intro W hW;go_simp;with_reducible rfl):At P ops Q R done a w:=
 takeX hR i oi v hi hs hf hr hn hQ hw hy h
theorem un (hR:Rl R) {oi:Oper} {v:Value} {done:List Nat} {a:Act} {w:World} (h:At P ops Q R (done.length::done) (a.put oi.dst v) w) (hi:ops[done.length]?=some oi:=by rfl)
  (hs:Region.noSelect ops=true:=by kernel_rfl) (hf:Region.free .any ops (marked ops.size done) done.length=true:=by kernel_rfl) (hr:(Region.ready .any ops (marked ops.size done)).contains done.length=true:=by kernel_rfl) (hn:done.length<ops.size:=by decide)
  (hQ:∀c a w,Q (.panic c) (a.put oi.dst v) w→Q (.panic c) a w:=by intro c a w h;first|exact h|solve_by_elim) (hw:Region.wanted oi (yielded ops a.tmps)=true:=by rfl)
  (hy:∀w',R w w'→(execOp a.eval oi).run P w'=.ok (.value v) w':=by intro W hW;go_simp;with_reducible rfl):At P ops Q R done a w:=
 takeX hR _ oi v hi hs hf hr hn hQ hw hy h
theorem vn (hR:Rl R) {oi:Oper} {done:List Nat} {a:Act} {w:World} (h:At P ops Q R (done.length::done) (a.put oi.dst undef) w) (hi:ops[done.length]?=some oi:=by rfl)
  (hs:Region.noSelect ops=true:=by kernel_rfl) (hf:Region.free .any ops (marked ops.size done) done.length=true:=by kernel_rfl) (hr:(Region.ready .any ops (marked ops.size done)).contains done.length=true:=by kernel_rfl) (hn:done.length<ops.size:=by decide)
  (hQ:∀c a w,Q (.panic c) (a.put oi.dst undef) w→Q (.panic c) a w:=by intro c a w h;first|exact h|solve_by_elim) (hw:Region.wanted oi (yielded ops a.tmps)=false:=by rfl):At P ops Q R done a w:=
 skipX hR _ oi hi hs hf hr hn hQ hw h
end
end Reg
namespace Rv
open Go.ChangeShapes Go.WideShapes Go.ChangeAt Go.RowKit
open Base Lx Mi Pr Mp
theorem laidOut0:laidOutB Tryz.prog=true:=by kernel_rfl
theorem pairLaw:WideMaps.KeyLaw Tryz.prog 112:=deep_law_laid laidOut0 (m:=3) (by omega) (of_decide_eq_true (by kernel_rfl)) (by kernel_rfl) (by kernel_rfl)
theorem pair_has (i j:Int) (hi:I6 i) (hj:I6 j):∃l,keyOf Tryz.prog 112 (pv i j)=some l:=by
 have hu:=Tryz.underlying112
 have hn:=Tryz.underlying3
 have hs:Tryz.prog.types.size+1=(Tryz.prog.types.size-1)+1+1:=by
  have:0<Tryz.prog.types.size:=of_decide_eq_true (by kernel_rfl)
  omega
 have hc:Tryz.prog.cellsOf 112=2:=by kernel_rfl
 have hc1:Tryz.prog.cellsOf 3=1:=by kernel_rfl
 have w1:(Lit.int .i64 i).wf=true:=by simpa [Lit.wf,IntKind.min,IntKind.max,IntKind.signed,IntKind.bits] using (show -9223372036854775808≤i∧i≤9223372036854775807 from hi)
 have w2:(Lit.int .i64 j).wf=true:=by simpa [Lit.wf,IntKind.min,IntKind.max,IntKind.signed,IntKind.bits] using (show -9223372036854775808≤j∧j≤9223372036854775807 from hj)
 have kk:∀(m:Nat) (x:Int),(Lit.int .i64 x).wf=true→Tryz.prog.keyLits (m+1) 3 [.int .i64 x]=some [.int .i64 x]:=by
  intro m x hx
  unfold Program.keyLits
  rw[hn]
  simp[hx]
 have hl:Tryz.prog.keyLits (Tryz.prog.types.size+1) 112 [.int .i64 i,.int .i64 j]=some [.int .i64 i,.int .i64 j]:=by
  rw[hs]
  generalize Tryz.prog.types.size-1=m
  unfold Program.keyLits
  simp only[hu]
  rw[if_pos ⟨by rw[hc];rfl,by kernel_rfl⟩]
  simp only[List.mapM_cons,List.mapM_nil,hc1,List.drop_zero,List.drop_succ_cons,List.take_succ_cons,List.take_zero,kk m i w1,kk m j w2]
  rfl
 unfold keyOf
 rw[hu]
 simp only
 rw[if_pos (by rw[Bool.and_eq_true];exact⟨by kernel_rfl,by simp[pv,Value.formed,hu,hc]⟩)]
 show ∃l,Option.map (fun ls=>Lit.string (keyBytes ls)) (Tryz.prog.keyLits (Tryz.prog.types.size+1) 112 [.int .i64 i,.int .i64 j])=some l
 rw[hl]
 exact⟨_,rfl⟩
theorem bt:Bt Tryz.prog 108 112 4:=⟨Tryz.underlying108,pairLaw,Tryz.underlying4,fun w=>by kernel_rfl,pair_has⟩
structure RX (w:World) (bx bm n:Nat) (vr vw:Value) (N:Rel):Prop where
 blk:Blk w bx #[vr,vw,.map (some bm)] 110
 map:MapB Tryz.prog 112 4 w bm n N
theorem RX.ext {w w':World} {bx bm n:Nat} {vr vw:Value} {N:Rel} (h:RX w bx bm n vr vw N) (hx:Ext w w'):RX w' bx bm n vr vw N:=⟨h.blk.ext hx,h.map.ext hx⟩
theorem reads_any {w:World} {bx bm n:Nat} {vr vw:Value} {N:Rel} (h:RX w bx bm n vr vw N) {i j:Int} (hi:I6 i) (hj:I6 j) :
  Calls Tryz.prog 50 #[.pointer (some ⟨bx,0,none⟩),.int .i64 i,.int .i64 j] w fun en w'=>en=.returned (.bool (!N i j))∧Ext w w':=by
 have k2:=h.blk.cell 2
 simp only[List.getElem?_toArray,List.getElem?_cons_zero,List.getElem?_cons_succ] at k2
 have hlk:=h.map.look bt hi hj
 clear hi hj h
 go_enter Tryz.func50,Tryz.ntmps50
 go_wp2_with fail
 go_ret
 exact⟨rfl,Ext.refl w⟩
theorem prom_any (r t:Int) (w:World):Calls Tryz.prog 69 #[.int .i64 r,.int .i64 t] w fun en w'=>en=.returned (.bool (promP r t))∧Ext w w':=by
 obtain⟨PO,hPO⟩:∃PO:Ending→World→Prop,Hid ((fun en w'=>en=.returned (.bool (promP r t))∧Ext w w')=PO):=⟨_,Lib.hid rfl⟩
 have fin:∀b:Bool,promP r t=b→PO (.returned (.bool b)) w:=fun b h=>by rw[←hPO.out,h];exact⟨rfl,Ext.refl w⟩
 rw[hPO.out]
 unfold promP at fin
 by_cases h1:r<0
 ·have h2:=fin false (by simp;omega)
  clear fin
  go_enter Tryz.func69,Tryz.ntmps69
  go_wp2_with fail
  exact h2
 by_cases h2:t<0
 ·have h3:=fin false (by simp;omega)
  clear fin
  go_enter Tryz.func69,Tryz.ntmps69
  go_wp2_with fail
  exact h3
 by_cases h3:5<r
 ·have h4:=fin false (by simp;omega)
  clear fin
  go_enter Tryz.func69,Tryz.ntmps69
  go_wp2_with fail
  exact h4
 by_cases h4:5<t
 ·have h5:=fin false (by simp;omega)
  clear fin
  go_enter Tryz.func69,Tryz.ntmps69
  go_wp2_with fail
  exact h5
 by_cases h5:r=t
 ·have h6:=fin true (by simp;omega)
  clear fin
  go_enter Tryz.func69,Tryz.ntmps69
  go_wp2_with fail
  exact h6
 by_cases h6:r=3
 ·subst h6
  by_cases h7:t=2
  ·subst h7
   have h8:=fin true (by simp)
   clear fin
   go_enter Tryz.func69,Tryz.ntmps69
   go_wp2_with fail
   exact h8
  ·have h8:=fin false (by simp;omega)
   clear fin
   go_enter Tryz.func69,Tryz.ntmps69
   go_wp2_with fail
   exact h8
 by_cases h7:4≤r
 ·by_cases h8:4≤t
  ·have h9:=fin true (by simp;omega)
   clear fin
   go_enter Tryz.func69,Tryz.ntmps69
   go_wp2_with fail
   exact h9
  ·have h9:=fin false (by simp;omega)
   clear fin
   go_enter Tryz.func69,Tryz.ntmps69
   go_wp2_with fail
   exact h9
 ·have h9:=fin false (by simp;omega)
  clear fin
  go_enter Tryz.func69,Tryz.ntmps69
  go_wp2_with fail
  exact h9
section
variable {w:World} {bx bm n:Nat} {vr vw:Value} {N:Rel}
theorem hold1_any (h:RX w bx bm n vr vw N) {q1 q2:Addr} {r x:Int} (h1:w.cell? q1=some (.pointer (some ⟨bx,0,none⟩))) (h2:w.cell? q2=some (.int .i64 r)) (hr:I6 r) (hx:I6 x) :
  Calls Tryz.prog 96 #[.int .i64 x,.pointer (some q1),.pointer (some q2)] w fun en w'=>en=.returned (.bool (N r x))∧Ext w w':=by
 have hc:=reads_any h hr hx
 clear hr hx
 go_enter Tryz.func96,Tryz.ntmps96
 go_wp2_with fail
 refine hc.mono ?_
 rintro en w1 ⟨rfl,hx1⟩
 go_wp2_with fail
 go_ret
 exact⟨by simp,hx1⟩
theorem hold2_any (h:RX w bx bm n vr vw N) {q1 q2:Addr} {t x:Int} (h1:w.cell? q1=some (.pointer (some ⟨bx,0,none⟩))) (h2:w.cell? q2=some (.int .i64 t)) (hr:I6 t) (hx:I6 x) :
  Calls Tryz.prog 97 #[.int .i64 x,.pointer (some q1),.pointer (some q2)] w fun en w'=>en=.returned (.bool (!N x t))∧Ext w w':=by
 have hc:=reads_any h hx hr
 clear hr hx
 go_enter Tryz.func97,Tryz.ntmps97
 go_wp2_with fail
 refine hc.mono ?_
 rintro en w1 ⟨rfl,hx1⟩
 go_wp2_with fail
 go_ret
 exact⟨rfl,hx1⟩
end
theorem hold3_any {w:World} {q:Nat} {A:Option Addr} {m c:Nat} {l:List ByteArray} (s:ByteArray) (h3:w.cell? ⟨q,3,none⟩=some (.slice A m c)) (hr:Rd w A (txs l)) (hn:l.length=m) (hl:m≤100000) :
  Calls Tryz.prog 99 #[.string s,.pointer (some ⟨q,0,none⟩)] w fun en w'=>en=.returned (.bool (!(l.any fun y=>decide (y=s))))∧Ext w w':=by
 have hc:=contains_str A m c l s w hr hn hl
 obtain⟨b,hb⟩:∃z,Hid ((l.any fun y=>decide (y=s))=z):=⟨_,rfl⟩
 rw[hb.out] at hc ⊢
 clear hr hn hl
 go_enter Tryz.func99,Tryz.ntmps99
 go_wp2_with fail
 refine hc.mono ?_
 rintro en w1 ⟨rfl,rfl⟩
 go_wp2_with fail
 go_ret
 exact⟨rfl,Ext.refl _⟩
theorem field1_any (f:ByteArray×Bool×Int) (x:ByteArray) (q:Addr) (w:World) (hq:w.cell? q=some (.string x)) :
  Calls Tryz.prog 120 #[.agg (fldZ f).toArray,.pointer (some q)] w fun en w'=>en=.returned (.bool (decide (f.1=x)))∧Ext w w':=by
 obtain⟨y,b,t⟩:=f
 have hq2:(w.alloc (.cells #[.string y,.bool b,.int .i64 t] 38)).cell? q=some (.string x):=((Ext.refl w).alloc _).cell hq
 have hx2:Ext w (w.alloc (.cells #[.string y,.bool b,.int .i64 t] 38)):=(Ext.refl w).alloc _
 simp only[fldZ]
 by_cases he:y=x
 ·subst he
  rw[show decide (y=y)=true by simp]
  go_enter Tryz.func120,Tryz.ntmps120
  go_wp2_with fail
  go_ret
  exact⟨rfl,hx2⟩
 ·have hbq:=str_ne he
  rw[show decide (y=x)=false by simpa using he]
  go_enter Tryz.func120,Tryz.ntmps120
  go_wp2_with fail
  go_ret
  exact⟨rfl,hx2⟩
theorem all_false {α:Type} {l:List α} {p:α→Bool} {i:Nat} {x:α} (h:l[i]?=some x) (hp:p x=false):l.all p=false:=by
 rw[List.all_eq_false];exact⟨x,List.mem_of_getElem? h,by simp[hp]⟩
def FYes (R:Rel) (lb la:List Fd) (i:Nat):Prop:=∀(j:Nat) f,j<i→la[j]?=some f→fieldP R lb f=true
theorem fields_any {w:World} {bx bm n:Nat} {vr vw:Value} {N:Rel} (h:RX w bx bm n vr vw N) (k1 z1 k2 z2:Int) (n1 n2:ByteArray) (u1 u2 u3 u4:Value) (Af Bf:Option Addr) (na ca nb cb:Nat) (la lb:List Fd)
  (hra:Rd w Af (fldsZ la)) (hrb:Rd w Bf (fldsZ lb)) (hna:la.length=na) (hnb:lb.length=nb) (hla:na≤5000) (hlb:nb≤5000) (h6:∀f∈la,I6 f.2.2) (h7:∀f∈lb,I6 f.2.2) :
  Calls Tryz.prog 101 #[.pointer (some ⟨bx,0,none⟩),.agg #[.int .i64 k1,.string n1,.int .i64 z1,u1,u2,.slice Af na ca],.agg #[.int .i64 k2,.string n2,.int .i64 z2,u3,u4,.slice Bf nb cb]] w fun en w'=>en=.returned (.bool (la.all (fieldP (fun i k => !N i k) lb)))∧Ext w w':=by
 obtain⟨w1,hw1⟩:∃z,Hid (w.alloc (.cells #[.int .i64 k1,.string n1,.int .i64 z1,u1,u2,.slice Af na ca] 36)=z):=⟨_,rfl⟩
 obtain⟨w2,hw2⟩:∃z,Hid (w1.alloc (.cells #[.int .i64 k2,.string n2,.int .i64 z2,u3,u4,.slice Bf nb cb] 36)=z):=⟨_,rfl⟩
 have hx1:Ext w w1:=by rw[←hw1.out];exact (Ext.refl w).alloc _
 have hx12:Ext w1 w2:=by rw[←hw2.out];exact (Ext.refl w1).alloc _
 obtain⟨q4,hq4⟩:∃z,Hid (w.heap.size=z):=⟨_,rfl⟩
 obtain⟨q5,hq5⟩:∃z,Hid (w.heap.size+1=z):=⟨_,rfl⟩
 have hs1:w1.heap.size=w.heap.size+1:=by rw[←hw1.out];simp
 have b4:Blk w2 q4 #[.int .i64 k1,.string n1,.int .i64 z1,u1,u2,.slice Af na ca] 36:=by rw[←hq4.out];exact (by rw[←hw1.out];exact Blk.new w _ _:Blk w1 w.heap.size #[.int .i64 k1,.string n1,.int .i64 z1,u1,u2,.slice Af na ca] 36).ext hx12
 have b5:Blk w2 q5 #[.int .i64 k2,.string n2,.int .i64 z2,u3,u4,.slice Bf nb cb] 36:=by rw[←hq5.out,←hs1,←hw2.out];exact Blk.new w1 _ _
 have hx2:=hx1.trans hx12
 have Hna:=Lib.hid hna
 have Hnb:=Lib.hid hnb
 have hrx:=h.ext hx2
 replace hra:=Lib.hid (hra.ext hx2)
 replace hrb:=Lib.hid (hrb.ext hx2)
 clear hna hnb h hs1
 obtain⟨R,hR⟩:∃z,Hid ((fun i k => !N i k)=z):=⟨_,rfl⟩
 have hRN:∀i k,R i k = !N i k:=fun i k=>by rw[←hR.out]
 rw[hR.out]
 obtain⟨PO,hPO⟩:∃PO:Ending→World→Prop,Hid ((fun en w'=>en=.returned (.bool (la.all (fieldP R lb)))∧Ext w w')=PO):=⟨_,Lib.hid rfl⟩
 have fin:∀(b:Bool) W,Ext w W→la.all (fieldP R lb)=b→PO (.returned (.bool b)) W:=fun b W hW hb=>by rw[←hPO.out,hb];exact⟨rfl,hW⟩
 rw[hPO.out]
 replace fin:=Lib.hid fin
 replace h6:=Lib.hid h6
 replace h7:=Lib.hid h7
 have c4:=b4.cell 5
 simp only[List.getElem?_toArray,List.getElem?_cons_zero,List.getElem?_cons_succ] at c4
 go_enter Tryz.func101,Tryz.ntmps101
 go_wp2_with fail
 rw[hw1.out,hw2.out,hq5.out,hq4.out]
 go_loopw [8,9,13,14,15,16,17,18,19,20,21,22,23,24,25,26,27,28,29,30,31,32,33,34,35,36,37,38,39,40,41,42,43,44,45] (fun v8 v9 v13 v14 v15 v16 v17 v18 v19 v20 v21 v22 v23 v24 v25 v26 v27 v28 v29 v30 v31 v32 v33 v34 v35 v36 v37 v38 v39 v40 v41 v42 v43 v44 v45 wr=>∃i:Nat,i≤na∧v13=.int .i64 (i:Int)∧FYes R lb la i∧Ext w2 wr) (fun _ _ v13 _ _ _ _ _ _ _ _ _ _ _ _ _ _ _ _ _ _ _ _ _ _ _ _ _ _ _ _ _ _ _ _ _=>na-(intOf v13).toNat)
 case atStart=>exact⟨0,by omega,rfl,fun k f h=>by omega,Ext.refl w2⟩
 case round=>
  obtain⟨i,hi,rfl,h1,hx⟩:=hrel
  by_cases hin:i<na
  ·have hin':(i:Int)<(na:Int):=by omega
   obtain⟨f,hfe⟩:∃f,la[i]?=some f:=⟨_,List.getElem?_eq_getElem (by have:=Hna.out;omega)⟩
   obtain⟨b,off,rfl,d0,d1,d2⟩:=fldsZ_cell (hra.out.ext hx) i f hfe
   have Hfe:=Lib.hid hfe
   clear hfe
   have hf6:=h6.out f (List.mem_of_getElem? Hfe.out)
   obtain⟨fn,fh,ft⟩:=f
   simp only at d0 d1 d2 hf6
   replace hf6:=Lib.hid hf6
   have hx8:Ext wr (wr.alloc (.cells #[.string fn,.bool fh,.int .i64 ft] 38)):=(Ext.refl wr).alloc _
   have b8:Blk (wr.alloc (.cells #[.string fn,.bool fh,.int .i64 ft] 38)) wr.heap.size #[.string fn,.bool fh,.int .i64 ft] 38:=Blk.new wr _ _
   have c5:(wr.alloc (.cells #[.string fn,.bool fh,.int .i64 ft] 38)).cell? ⟨q5,5,none⟩=some (.slice Bf nb cb):=by
    have:=(b5.ext (hx.trans hx8)).cell 5
    simpa using this
   have hc:=idxFld_any (F:=120) ⟨wr.heap.size,0,none⟩ Bf cb lb (fun g=>decide (g.1=fn)) (wr.alloc (.cells #[.string fn,.bool fh,.int .i64 ft] 38)) (hrb.out.ext (hx.trans hx8)) nb Hnb.out (by omega) (fun _ _=>by kernel_rfl)
    (fun x _ W hW=>field1_any x fn _ W (hW.cell (b8.cell 0)))
   obtain⟨IX,hIX⟩:∃z,Hid (idxP (fun g:Fd=>decide (g.1=fn)) lb=z):=⟨_,rfl⟩
   rw[hIX.out] at hc
   have hge:=idxP_ge (fun g:Fd=>decide (g.1=fn)) lb
   rw[hIX.out] at hge
   replace b8:=Lib.hid b8
   replace hge:=Lib.hid hge
   go_wp2_with fail
   refine hc.mono ?_
   rintro en w9 ⟨rfl,hx9⟩
   clear hc d0 d1 d2 c5
   obtain⟨q8,hq8⟩:∃z,Hid (wr.heap.size=z):=⟨_,rfl⟩
   rw[hq8.out] at b8 ⊢
   have b9:=b8.out.ext hx9
   have hx29:Ext w2 w9:=hx.trans (hx8.trans hx9)
   clear b8 hx8 hx9
   by_cases hI:IX<0
   ·obtain rfl:IX = -1:=by have:=hge.out;omega
    have hfp:fieldP R lb (fn,fh,ft)=fh:=by unfold fieldP;rw[idxP_find_none (by rw[hIX.out];omega)]
    clear hI hge
    have e1:∀W,Ext w9 W→W.cell? ⟨q8,1,none⟩=some (.bool fh):=fun W hW=>by have:=(b9.ext hW).cell 1;simpa using this
    cases fh with
    | true=>
     go_wp2_with fail
     refine Reg.startE (by kernel_rfl) ?_
     iterate 24 ((first|refine Reg.tn ?_|refine Reg.sn ?_);(try simp only[Reg.nn]))
     refine Reg.fin (by kernel_rfl) (fun W hW=>?_)
     go_wp2_with fail
     go_roundw
     case rel=>
      refine⟨i+1,by omega,by go_num,?_,hx29.trans hW⟩
      intro j g hj hg
      rcases Nat.lt_or_ge j i with h|h
      ·exact h1 j g h hg
      ·obtain rfl:j=i:=by omega
       rw[Hfe.out] at hg
       injection hg with hg
       rw[←hg];exact hfp
     case measure=>simp[intOf]<;>omega
    | false=>
     have hno:la.all (fieldP R lb)=false:=all_false Hfe.out hfp
     go_wp2_with fail
     refine Reg.startE (by kernel_rfl) ?_
     iterate 24 ((first|refine Reg.tn ?_|refine Reg.sn ?_);(try simp only[Reg.nn]))
     refine Reg.fin (by kernel_rfl) (fun W hW=>?_)
     have hf:=fin.out false W (hx2.trans (hx29.trans hW)) hno
     go_wp2_with fail
     exact hf
   ·obtain⟨m,rfl⟩:∃m:Nat,IX=(m:Int):=⟨IX.toNat,by omega⟩
    obtain⟨g,hg1,hg2⟩:=idxP_find hIX.out
    have hfp:fieldP R lb (fn,fh,ft)=R ft g.2.2:=by unfold fieldP;rw[hg2]
    have hmb:m<nb:=by have:=(List.getElem?_eq_some_iff.1 hg1).1;have:=Hnb.out;omega
    obtain⟨bb,bo,rfl,_,_,g2⟩:=fldsZ_cell (hrb.out.ext hx29) m g hg1
    have hg6:=h7.out g (List.mem_of_getElem? hg1)
    obtain⟨gn,gh,gt⟩:=g
    simp only at g2 hfp hg6
    have hrd:=fun W (hW:Ext w9 W)=>reads_any (hrx.ext (hx29.trans hW)) hf6.out hg6
    rw[hRN] at hfp
    have hm0:¬(m:Int)<0:=hI
    have hm1:(0:Int)≤(m:Int):=by omega
    have hm2:(m:Int)<(nb:Int):=by omega
    clear hI hge hg1 hg2 hg6
    have hdm:decide ((m:Int)<0)=false:=decide_eq_false hm0
    have hdm2:decide ((m:Int)≥0)=true:=decide_eq_true hm1
    have e2:∀W,Ext w9 W→W.cell? ⟨q8,2,none⟩=some (.int .i64 ft):=fun W hW=>by have:=(b9.ext hW).cell 2;simpa using this
    have e5:∀W,Ext w9 W→W.cell? ⟨q5,5,none⟩=some (.slice (some ⟨bb,bo,none⟩) nb cb):=fun W hW=>by have:=(b5.ext (hx29.trans hW)).cell 5;simpa using this
    have eg:∀W,Ext w9 W→W.cell? ⟨bb,bo+m*3+2,none⟩=some (.int .i64 gt):=fun W hW=>hW.cell g2
    clear g2
    obtain⟨BB,hBB⟩:∃z,Hid (N ft gt=z):=⟨_,rfl⟩
    rw[hBB.out] at hfp
    simp only[hBB.out] at hrd
    replace hrd:=Lib.hid hrd
    cases BB with
    | false=>
     go_wp2_with fail
     refine Reg.startE (by kernel_rfl) ?_
     iterate 3 ((first|refine Reg.tn ?_|refine Reg.sn ?_);(try simp only[Reg.nn]))
     (try simp only[hdm])
     iterate 8 ((first|refine Reg.tn ?_|refine Reg.sn ?_);(try simp only[Reg.nn]))
     (try simp only[hdm2])
     iterate 9 ((first|refine Reg.tn ?_|refine Reg.sn ?_);(try simp only[Reg.nn]))
     refine Reg.onlyE 20 _ rfl (by kernel_rfl) (by decide) (by rfl) (fun W hW K hK=>?_);go_simp
     refine (hrd.out W hW).mono ?_
     rintro en wX ⟨rfl,hX9⟩
     have hq9:=hW.trans hX9
     refine hK.out _ _ (hX9) ?_;clear hK K;(try simp only[Reg.nn])
     iterate 3 ((first|refine Reg.tn ?_|refine Reg.sn ?_);(try simp only[Reg.nn]))
     refine Reg.fin (by kernel_rfl) (fun W hW=>?_)
     replace hW:=hq9.trans hW
     go_wp2_with fail
     go_roundw
     case rel=>
      refine⟨i+1,by omega,by go_num,?_,hx29.trans hW⟩
      intro j g hj hg
      rcases Nat.lt_or_ge j i with h|h
      ·exact h1 j g h hg
      ·obtain rfl:j=i:=by omega
       rw[Hfe.out] at hg
       injection hg with hg
       rw[←hg];exact hfp
     case measure=>simp[intOf]<;>omega
    | true=>
     have hno:la.all (fieldP R lb)=false:=all_false Hfe.out hfp
     go_wp2_with fail
     refine Reg.startE (by kernel_rfl) ?_
     iterate 3 ((first|refine Reg.tn ?_|refine Reg.sn ?_);(try simp only[Reg.nn]))
     (try simp only[hdm])
     iterate 8 ((first|refine Reg.tn ?_|refine Reg.sn ?_);(try simp only[Reg.nn]))
     (try simp only[hdm2])
     iterate 9 ((first|refine Reg.tn ?_|refine Reg.sn ?_);(try simp only[Reg.nn]))
     refine Reg.onlyE 20 _ rfl (by kernel_rfl) (by decide) (by rfl) (fun W hW K hK=>?_);go_simp
     refine (hrd.out W hW).mono ?_
     rintro en wX ⟨rfl,hX9⟩
     have hq9:=hW.trans hX9
     refine hK.out _ _ (hX9) ?_;clear hK K;(try simp only[Reg.nn])
     iterate 3 ((first|refine Reg.tn ?_|refine Reg.sn ?_);(try simp only[Reg.nn]))
     refine Reg.fin (by kernel_rfl) (fun W hW=>?_)
     replace hW:=hq9.trans hW
     have hf:=fin.out false W (hx2.trans (hx29.trans hW)) hno
     go_wp2_with fail
     exact hf
  ·obtain rfl:i=na:=by omega
   have hat:la.all (fieldP R lb)=true:=by
    rw[List.all_eq_true]
    intro f hf
    obtain⟨j,hj⟩:=List.getElem?_of_mem hf
    exact h1 j f (by have:=(List.getElem?_eq_some_iff.1 hj).1;have:=Hna.out;omega) hj
   have hf:=fin.out true wr (hx2.trans hx) hat
   clear hat
   go_wp2_with fail
   exact hf
end Rv
namespace Reg
open Base
section
variable {P:Program} {ops:Array Oper} {Q:Exit→Act→World→Prop}
theorem bothZ {B:Nat} (i j:Nat) (oi oj:Oper) {done:List Nat} {a:Act} {w:World} (hB:B≤w.heap.size) (hi:ops[i]?=some oi) (hj:ops[j]?=some oj) (hgi:oi.guard=none) (hgj:oj.guard=none) (hd:oi.dst≠oj.dst) (hij:i≠j)
  (hr:Region.ready .any ops (marked ops.size done)=[i,j]) (hri:Region.ready .any ops (marked ops.size (i::done))=[j]) (hrj:Region.ready .any ops (marked ops.size (j::done))=[i]) (hn:done.length+1<ops.size)
  (Fi Fj:Value→World→World→Prop)
  (h1:∀a' w1,(a'=a∨∃v,a'=a.put oj.dst v)→Ext w w1→∀K:Act→World→Prop,Shut (∀v w2,Ext w1 w2→Fi v w1 w2→K (a'.put oi.dst v) w2)→oi.wp P a' w1 K Q)
  (h2:∀a' w1,(a'=a∨∃v,a'=a.put oi.dst v)→Ext w w1→∀K:Act→World→Prop,Shut (∀v w2,Ext w1 w2→Fj v w1 w2→K (a'.put oj.dst v) w2)→oj.wp P a' w1 K Q)
  (h:∀vi vj x y X,Ext w X→Ext w x→Ext x y→Ext y X→(Fi vi x y∧Fj vj y X∨Fj vj x y∧Fi vi y X)→At P ops Q (Go.RowKit.Below B) (j::i::done) ((a.put oi.dst vi).put oj.dst vj) X):At P ops Q (Go.RowKit.Below B) done a w:=by
 have wi:∀t,Region.wanted oi t=true:=fun t=>by simp[Region.wanted,hgi]
 have wj:∀t,Region.wanted oj t=true:=fun t=>by simp[Region.wanted,hgj]
 have low:∀ {x y:World},Ext w x→Ext x y→Go.RowKit.Below B x y:=fun hx hy=>Go.RowKit.Below.mono hy (Nat.le_trans hB hx.size)
 refine bothX i j oi oj hi hj hr (by omega) (wi _) (wj _) (fun K hK=>?_) (fun K hK=>?_)
 ·refine h1 a w (.inl rfl) (Ext.refl w) K (fun vi w2 hx hf=>hK _ _ (low (Ext.refl w) hx) ?_)
  refine onlyX j oj hj hri (by simp only[List.length_cons];omega) (wj _) (fun K hK=>?_)
  exact h2 _ w2 (.inr ⟨vi,rfl⟩) hx K (fun vj w3 hx3 hfj=>hK _ _ (low hx hx3) (h vi vj w w2 w3 (hx.trans hx3) (Ext.refl w) hx hx3 (.inl ⟨hf,hfj⟩)))
 ·refine h2 a w (.inl rfl) (Ext.refl w) K (fun vj w2 hx hf=>hK _ _ (low (Ext.refl w) hx) ?_)
  refine onlyX i oi hi hrj (by simp only[List.length_cons];omega) (wi _) (fun K hK=>?_)
  refine h1 _ w2 (.inr ⟨vj,rfl⟩) hx K (fun vi w3 hx3 hfi=>hK _ _ (low hx hx3) ?_)
  have hm:marked ops.size (i::j::done)=marked ops.size (j::i::done):=by
   rw[marked_cons,marked_cons,marked_cons,marked_cons]
   exact Array.setIfInBounds_comm _ _ (Ne.symm hij)
  refine At.perm hm rfl ?_
  rw[put_comm a (Ne.symm hd)]
  exact h vi vj w w2 w3 (hx.trans hx3) (Ext.refl w) hx hx3 (.inr ⟨hf,hfi⟩)
end
end Reg
namespace Base
open Go.ChangeShapes Go.WideShapes Go.ChangeAt Go.RowKit
def setMany (d:Array Value):Nat→List Value→Array Value
 | _,[]=>d
 | o,v::r=>setMany (d.setIfInBounds o v) (o+1) r
theorem Blk_sets {g:Nat} {t:TypeId}:∀(vs:List Value) (o:Nat) (d:Array Value) (w:World),Blk w g d t→Blk (w.setCells g o vs) g (setMany d o vs) t
 | [],_,_,_,h=>h
 | v::r,o,d,w,h=>by
  rw[World.setCells,setMany]
  exact Blk_sets r (o+1) _ _ (h.set o v)
theorem Ext_sets {a:World} {g:Nat} (hg:a.heap.size≤g):∀(vs:List Value) (o:Nat) {w:World},Ext a w→Ext a (w.setCells g o vs)
 | [],_,_,h=>h
 | v::r,o,w,h=>by
  rw[World.setCells]
  exact Ext_sets hg r (o+1) (h.setCell hg v)
theorem Chg_sets {S:Nat→Prop} {a:World} {g:Nat} (hg:S g):∀(vs:List Value) (o:Nat) {w:World},Chg S a w→Chg S a (w.setCells g o vs)
 | [],_,_,h=>h
 | v::r,o,w,h=>by
  rw[World.setCells]
  exact Chg_sets hg r (o+1) (h.set (p:=⟨g,o,none⟩) (.inl hg) v)
theorem Blk_far {g h:Nat} {t:TypeId} {d:Array Value} (hne:g≠h):∀(vs:List Value) (o:Nat) {w:World},Blk w g d t→Blk (w.setCells h o vs) g d t
 | [],_,_,b=>b
 | v::r,o,w,b=>by
  rw[World.setCells]
  exact Blk_far hne r (o+1) (b.far (p:=⟨h,o,none⟩) hne v)
theorem setMany_size:∀(vs:List Value) (d:Array Value) (o:Nat),(setMany d o vs).size=d.size
 | [],_,_=>rfl
 | v::r,d,o=>by rw[setMany,setMany_size r];simp
theorem setMany_list:∀(vs:List Value) (d:Array Value) (o:Nat),o+vs.length≤d.size→(setMany d o vs).toList=d.toList.take o++vs++d.toList.drop (o+vs.length)
 | [],d,o,_=>by simp[setMany]
 | v::r,d,o,h=>by
  simp only[List.length_cons] at h
  rw[setMany,setMany_list r _ (o+1) (by simp;omega)]
  simp only[Array.toList_setIfInBounds,List.length_cons]
  have ho:o<d.toList.length:=by simp;omega
  rw[List.set_eq_take_append_cons_drop,if_pos ho]
  have e1:(d.toList.take o++v::d.toList.drop (o+1)).take (o+1)=d.toList.take o++[v]:=by
   rw[List.take_append,List.take_of_length_le (by simp;omega)]
   congr 1
   rw[List.length_take,Nat.min_eq_left (by omega),show o+1-o=1 by omega]
   rfl
  have e2:(d.toList.take o++v::d.toList.drop (o+1)).drop (o+1+r.length)=d.toList.drop (o+(r.length+1)):=by
   rw[List.drop_append,List.drop_eq_nil_of_le (by simp;omega),List.nil_append,List.length_take,Nat.min_eq_left (by omega),show o+1+r.length-o=r.length+1 by omega]
   simp only[List.drop_succ_cons,List.drop_drop]
   congr 1;omega
  rw[e1,e2]
  simp
theorem run_copy_many {P:Program} (w:World) (dT sT ty elem k:TypeId) (b o dLen dCap:Nat) (a:Addr) (sLen sCap:Nat) (cs:List Value)
  (hu:P.underlying dT=some (.slice elem)) (hs:(P.info? elem).map (·.size)=some k) (hn:cs.length=Nat.min sLen dLen*k)
  (hsrc:∀j v,cs[j]?=some v→w.cell? (a.add j)=some v) (hc:∀j,j<cs.length→(w.cell? ⟨b,o+j,none⟩).isSome=true) (hf:∀j,j<cs.length→w.frozen? ⟨b,o+j,none⟩=false) (h1:∀v∈cs,v.oneCell'=true) :
  (Builtin.copy_ #[dT,sT] ty #[.slice (some ⟨b,o,none⟩) dLen dCap,.slice (some a) sLen sCap]).run P w=.ok (goInt (Nat.min sLen dLen:Nat)) (w.setCells b o cs):=by
 have hl:=run_loadCells_list (P:=P) w a cs hsrc
 have hst:=run_storeCells_cells (P:=P) b o cs 0 w (by simpa using hc) (by simpa using hf) h1
 cases hq:P.info? elem with
 | none=>simp[hq] at hs
 | some i=>
  have hi:i.size=k:=by simpa [hq] using hs
  simp[Builtin.copy_,run_underlying hu,Builtin.lenOf,Builtin.firstCells,sizeOf,typeInfo,hq,hi,←hn,hl,hst]
end Base
namespace Rv
open Go.ChangeShapes Go.WideShapes Go.ChangeAt Go.RowKit
open Base Lx Mi Pr Mp
theorem below_ext' {B:Nat} {a b:World} (h:Go.RowKit.Below B a b) (hB:a.heap.size≤B):Ext a b:=h.mono hB
theorem hy_load' {P:Program} {f:Operand→Value} {oi:Oper} {w:World} (ty:TypeId) (x:Operand) (ho:oi.op=.load ty x) {p v:Value} (hx:f x=p) (h:(Instr.loadAt ty p).run P w=.ok v w):(execOp f oi).run P w=.ok (.value v) w:=by
 unfold execOp
 simp only[ho,hx,Sem.run_bind,h,Result.andThen_ok,Sem.run_pure]
def z6:Array Value := #[.int .i64 0,.string ByteArray.empty,.int .i64 0,.slice none 0 0,.slice none 0 0,.slice none 0 0]
def nc (k:Int) (nm:ByteArray) (sz:Int) (v1 v2 v3:Value):List Value:=[.int .i64 k,.string nm,.int .i64 sz,v1,v2,v3]
theorem nc_load {W:World} {b o:Nat} {cs:List Value} (hl:cs.length=6) (h:∀j,j<6→W.cell? ⟨b,o+j,none⟩=cs[j]?):(Instr.loadAt 36 (.pointer (some ⟨b,o,none⟩))).run Tryz.prog W=.ok (.agg cs.toArray) W:=
 run_loadAt_mid W b o 36 cs _ (fun j v hj=>by
  have hlt:=(List.getElem?_eq_some_iff.1 hj).1
  rw[h j (by omega),hj]) Tryz.underlying36 rfl (by rw[hl];kernel_rfl)
theorem nc_there {X:World} {q:Nat} (h:Blk X q z6 36) {cs:List Value} (hl:cs.length=6):X.there q 0 cs.toArray.size:=fun j hj=>by
 rw[List.size_toArray,hl] at hj
 rw[Nat.zero_add]
 exact⟨by rw[h.cell j,Array.getElem?_eq_getElem (by show j<6;exact hj)];rfl,h.frozen j⟩
theorem below_sets' {B:Nat} {a:World} {g:Nat} (hg:B≤g):∀(vs:List Value) (o:Nat) {w:World},Go.RowKit.Below B a w→Go.RowKit.Below B a (w.setCells g o vs)
 | [],_,_,h=>h
 | v::vs,o,w,h=>below_sets' hg vs (o+1) (Below.setCell h hg v)
theorem i6 {M:Nat} {t:Int} (h1:M≤5000) (h2:0≤t∧t<(M:Int)):I6 t:=⟨by omega,by omega⟩
theorem setMany6 (a0 a1 a2 a3 a4 a5 b0 b1 b2 b3 b4 b5:Value):setMany #[a0,a1,a2,a3,a4,a5] 0 [b0,b1,b2,b3,b4,b5] = #[b0,b1,b2,b3,b4,b5]:=by simp[setMany]
set_option maxHeartbeats 3000000 in
theorem holds_any (a b:List Ne) (va vb:Value) {B:Nat} {w:World} {bx bm n:Nat} {N:Rel} (h:RX w bx bm n va vb N) (hSa:Sch B w va a) (hSb:Sch B w vb b) (hB:B≤w.heap.size) {i k:Nat} (hi:i<a.length) (hk:k<b.length) (hla:a.length≤5000) (hlb:b.length≤5000)
  (hwa:WE a.length (a.getD i neD)) (hwb:WE b.length (b.getD k neD)) :
  Calls Tryz.prog 71 #[.pointer (some ⟨bx,0,none⟩),.int .i64 (i:Int),.int .i64 (k:Int)] w fun en w'=>en=.returned (.bool (holdP (fun p q => !N p q) (a.getD i neD) (b.getD k neD) i k))∧Ext w w':=by
 obtain⟨ux,b1,o1,c1,rfl,_,hsx,hc1,hm1,hx1⟩:=hSa.node i hi
 obtain⟨uy,b2,o2,c2,rfl,_,hsy,hc2,hm2,hy1⟩:=hSb.node k hk
 obtain⟨na,hna⟩:∃z,Hid (a.length=z):=⟨_,rfl⟩
 obtain⟨nb,hnb⟩:∃z,Hid (b.length=z):=⟨_,rfl⟩
 rw[hna.out] at h hi hla hwa hc1
 rw[hnb.out] at h hk hlb hwb hc2
 generalize a.getD i neD=x at hsx hx1 hwa ⊢
 generalize b.getD k neD=y at hsy hy1 hwb ⊢
 have hi6:I6 (i:Int):=⟨by omega,by omega⟩
 have hk6:I6 (k:Int):=⟨by omega,by omega⟩
 clear hSa hSb
 obtain⟨xk,xn,xz,xs,xi,xf⟩:=x
 obtain⟨yk,yn,yz,ys,yi,yf⟩:=y
 obtain⟨u1,u2,u3⟩:=ux
 obtain⟨v1,v2,v3⟩:=uy
 obtain⟨A1,d1,e1,hr1,_,_,_,_⟩:=hsx.syms
 obtain⟨A2,d2,e2,hr2,_,_,_,_⟩:=hsx.items
 obtain⟨A3,d3,e3,hr3,_,_,_,_⟩:=hsx.fields
 obtain⟨B1,f1,g1,hq1,_,_,_,_⟩:=hsy.syms
 obtain⟨B2,f2,g2,hq2,_,_,_,_⟩:=hsy.items
 obtain⟨B3,f3,g3,hq3,_,_,_,_⟩:=hsy.fields
 simp only at e1 e2 e3 g1 g2 g3 hr1 hr2 hr3 hq1 hq2 hq3
 subst e1;subst e2;subst e3;subst g1;subst g2;subst g3
 clear hsx hsy
 obtain⟨nx1,hnx1⟩:∃z,Hid (xs.length=z):=⟨_,rfl⟩
 obtain⟨nx2,hnx2⟩:∃z,Hid (xi.length=z):=⟨_,rfl⟩
 obtain⟨nx3,hnx3⟩:∃z,Hid (xf.length=z):=⟨_,rfl⟩
 obtain⟨ny1,hny1⟩:∃z,Hid (ys.length=z):=⟨_,rfl⟩
 obtain⟨ny2,hny2⟩:∃z,Hid (yi.length=z):=⟨_,rfl⟩
 obtain⟨ny3,hny3⟩:∃z,Hid (yf.length=z):=⟨_,rfl⟩
 simp only[neC,hnx1.out,hnx2.out,hnx3.out] at hx1
 simp only[neC,hny1.out,hny2.out,hny3.out] at hy1
 have lnx:=hwa.ln
 have lny:=hwb.ln
 simp only[hnx1.out,hnx2.out,hnx3.out] at lnx
 simp only[hny1.out,hny2.out,hny3.out] at lny
 obtain⟨CX,hCX⟩:∃z:List Value,Hid ([.int .i64 xk,.string xn,.int .i64 xz,.slice A1 nx1 d1,.slice A2 nx2 d2,.slice A3 nx3 d3]=z):=⟨_,rfl⟩
 obtain⟨CY,hCY⟩:∃z:List Value,Hid ([.int .i64 yk,.string yn,.int .i64 yz,.slice B1 ny1 f1,.slice B2 ny2 f2,.slice B3 ny3 f3]=z):=⟨_,rfl⟩
 have lCX:CX.length=6:=by rw[←hCX.out];rfl
 have lCY:CY.length=6:=by rw[←hCY.out];rfl
 have oCX:∀v∈CX,v.oneCell'=true:=by rw[←hCX.out];simp[Value.oneCell']
 have oCY:∀v∈CY,v.oneCell'=true:=by rw[←hCY.out];simp[Value.oneCell']
 rw[hCX.out] at hx1
 rw[hCY.out] at hy1
 have ldx:∀W,Ext w W→(Instr.loadAt 36 (.pointer (some ⟨b1,o1+i*6,none⟩))).run Tryz.prog W=.ok (.agg CX.toArray) W:=fun W hW=>nc_load lCX (fun j hj=>by
  rw[Nat.add_assoc]
  have:=hx1 j hj
  rw[List.getElem?_eq_getElem (by omega)] at this ⊢
  exact hW.cell this)
 have ldy:∀W,Ext w W→(Instr.loadAt 36 (.pointer (some ⟨b2,o2+k*6,none⟩))).run Tryz.prog W=.ok (.agg CY.toArray) W:=fun W hW=>nc_load lCY (fun j hj=>by
  rw[Nat.add_assoc]
  have:=hy1 j hj
  rw[List.getElem?_eq_getElem (by omega)] at this ⊢
  exact hW.cell this)
 clear hx1 hy1
 obtain⟨PO,hPO⟩:∃PO:Ending→World→Prop,Hid ((fun en w'=>en=.returned (.bool (holdP (fun p q => !N p q) ⟨xk,xn,xz,xs,xi,xf⟩ ⟨yk,yn,yz,ys,yi,yf⟩ i k))∧Ext w w')=PO):=⟨_,Lib.hid rfl⟩
 have fin:∀(v:Bool) W,Ext w W→holdP (fun p q => !N p q) ⟨xk,xn,xz,xs,xi,xf⟩ ⟨yk,yn,yz,ys,yi,yf⟩ i k=v→PO (.returned (.bool v)) W:=fun v W hW hb=>by rw[←hPO.out,hb];exact⟨rfl,hW⟩
 rw[hPO.out]
 unfold holdP at fin
 simp only at fin
 replace fin:=Lib.hid fin
 replace hwa:=Lib.hid hwa
 replace hwb:=Lib.hid hwb
 replace hr1:=Lib.hid hr1
 replace hr2:=Lib.hid hr2
 replace hr3:=Lib.hid hr3
 replace hq1:=Lib.hid hq1
 replace hq2:=Lib.hid hq2
 replace hq3:=Lib.hid hq3
 replace hi6:=Lib.hid hi6
 replace hk6:=Lib.hid hk6
 replace oCX:=Lib.hid oCX
 replace oCY:=Lib.hid oCY
 have hin:(i:Int)<(na:Int):=by omega
 have hkn:(k:Int)<(nb:Int):=by omega
 go_enter Tryz.func71,Tryz.ntmps71
 go_wp2_with fail
 refine Reg.startX (R:=Go.RowKit.Below (w.heap.size+3)) (by kernel_rfl) ?_
 generalize hwd:World.drew _=wd
 have hxd:Ext w wd:=by rw[←hwd];exact ((((Ext.refl w).alloc _).alloc _).alloc _).drew
 have hsd:wd.heap.size=w.heap.size+3:=by rw[←hwd];simp[World.drew]
 have t3:Blk wd w.heap.size #[.pointer (some ⟨bx,0,none⟩)] 71:=by rw[←hwd];exact (((Blk.new w _ _).alloc _).alloc _).drew
 have t4:Blk wd (w.heap.size+1) #[.int .i64 (i:Int)] 3:=by rw[←hwd];exact ((by have:=Blk.new (w.alloc (.cells #[.pointer (some ⟨bx,0,none⟩)] 71)) #[.int .i64 (i:Int)] 3;simpa using this:Blk _ (w.heap.size+1) _ _).alloc _).drew
 have t5:Blk wd (w.heap.size+2) #[.int .i64 (k:Int)] 3:=by rw[←hwd];exact (by have:=Blk.new ((w.alloc (.cells #[.pointer (some ⟨bx,0,none⟩)] 71)).alloc (.cells #[.int .i64 (i:Int)] 3)) #[.int .i64 (k:Int)] 3;simpa using this:Blk _ (w.heap.size+2) _ _).drew
 clear hwd
 have hrx:=h.ext hxd
 obtain⟨q,hq⟩:∃z,Hid (w.heap.size=z):=⟨_,rfl⟩
 rw[hq.out] at hsd t3 t4 t5 ⊢
 have eb:∀ {W:World},Go.RowKit.Below (q+3) wd W→Ext wd W:=fun hW=>below_ext' hW (by omega)
 have p0:∀W,Ext wd W→W.cell? ⟨q,0,none⟩=some (.pointer (some ⟨bx,0,none⟩)):=fun W hW=>by have:=(t3.ext hW).cell 0;simpa using this
 have p1:∀W,Ext wd W→W.cell? ⟨q+1,0,none⟩=some (.int .i64 (i:Int)):=fun W hW=>by have:=(t4.ext hW).cell 0;simpa using this
 have p2:∀W,Ext wd W→W.cell? ⟨q+2,0,none⟩=some (.int .i64 (k:Int)):=fun W hW=>by have:=(t5.ext hW).cell 0;simpa using this
 have p3:∀W,Ext wd W→W.cell? ⟨bx,0,none⟩=some (.slice (some ⟨b1,o1,none⟩) na c1):=fun W hW=>by have:=(hrx.blk.ext hW).cell 0;simpa using this
 have p4:∀W,Ext wd W→W.cell? ⟨bx,1,none⟩=some (.slice (some ⟨b2,o2,none⟩) nb c2):=fun W hW=>by have:=(hrx.blk.ext hW).cell 1;simpa using this
 clear h
 have s0:∀W,Go.RowKit.Below (q+3) wd W→W.cell? ⟨q,0,none⟩=some (.pointer (some ⟨bx,0,none⟩)):=fun W hW=>p0 W (eb hW)
 have s1:∀W,Go.RowKit.Below (q+3) wd W→W.cell? ⟨q+1,0,none⟩=some (.int .i64 (i:Int)):=fun W hW=>p1 W (eb hW)
 have s2:∀W,Go.RowKit.Below (q+3) wd W→W.cell? ⟨q+2,0,none⟩=some (.int .i64 (k:Int)):=fun W hW=>p2 W (eb hW)
 have s4:∀W,Go.RowKit.Below (q+3) wd W→W.cell? ⟨bx,1,none⟩=some (.slice (some ⟨b2,o2,none⟩) nb c2):=fun W hW=>p4 W (eb hW)
 have s3:∀W,Go.RowKit.Below (q+3) wd W→W.cell? ⟨bx,0,none⟩=some (.slice (some ⟨b1,o1,none⟩) na c1):=fun W hW=>p3 W (eb hW)
 replace p0:=Lib.hid p0
 replace p1:=Lib.hid p1
 replace p2:=Lib.hid p2
 replace p3:=Lib.hid p3
 replace p4:=Lib.hid p4
 iterate 7 ((first|refine Reg.un (Reg.rl_below _) ?_|refine Reg.vn (Reg.rl_below _) ?_);(try simp only[Reg.nn]))
 refine Reg.tx (Reg.rl_below _) 7 (hy:=fun W hW=>hy_load' 36 (.tmp 15) rfl rfl (ldx W (hxd.trans (eb hW)))) ?_;(try simp only[Reg.nn])
 iterate 7 ((first|refine Reg.un (Reg.rl_below _) ?_|refine Reg.vn (Reg.rl_below _) ?_);(try simp only[Reg.nn]))
 refine Reg.tx (Reg.rl_below _) 15 (hy:=fun W hW=>hy_load' 36 (.tmp 23) rfl rfl (ldy W (hxd.trans (eb hW)))) ?_;(try simp only[Reg.nn])
 refine Reg.bothZ 16 17 _ _ (by omega) rfl rfl rfl rfl (by decide) (by decide) (by kernel_rfl) (by kernel_rfl) (by kernel_rfl) (by decide)
  (fun V x y=>V=.pointer (some ⟨x.heap.size,0,none⟩)∧Blk y x.heap.size z6 36) (fun V x y=>V=.pointer (some ⟨x.heap.size,0,none⟩)∧Blk y x.heap.size z6 36) ?_ ?_ ?_
 ·rintro a' w1 (rfl|⟨v,rfl⟩) hx1 K hK
  ·go_simp
   exact hK.out _ _ ((Ext.refl w1).alloc _) ⟨rfl,Blk.new w1 _ _⟩
  ·go_simp
   exact hK.out _ _ ((Ext.refl w1).alloc _) ⟨rfl,Blk.new w1 _ _⟩
 ·rintro a' w1 (rfl|⟨v,rfl⟩) hx1 K hK
  ·go_simp
   exact hK.out _ _ ((Ext.refl w1).alloc _) ⟨rfl,Blk.new w1 _ _⟩
  ·go_simp
   exact hK.out _ _ ((Ext.refl w1).alloc _) ⟨rfl,Blk.new w1 _ _⟩
 rintro V7 V8 x y X hX hx hxy hyX hor
 obtain⟨q7,q8,rfl,rfl,h78,hge7,hge8,hB7,hB8⟩:∃q7 q8,V7=.pointer (some ⟨q7,0,none⟩)∧V8=.pointer (some ⟨q8,0,none⟩)∧q7≠q8∧q+3≤q7∧q+3≤q8∧Blk X q7 z6 36∧Blk X q8 z6 36:=by
  have z1:=hx.size
  have z2:=hxy.size
  rcases hor with⟨⟨e1,m1⟩,⟨e2,m2⟩⟩|⟨⟨e1,m1⟩,⟨e2,m2⟩⟩
  ·have:=m1.lt
   exact⟨_,_,e1,e2,by omega,by omega,by omega,m1.ext hyX,m2⟩
  ·have:=m1.lt
   exact⟨_,_,e2,e1,by omega,by omega,by omega,m2,m1.ext hyX⟩
 clear hor hx hxy hyX x y s0 s1 s2 s3 s4
 (try simp only[Reg.nn])
 refine Reg.onlyX 18 _ rfl (by kernel_rfl) (by decide) (by rfl) (fun K hK=>?_)
 refine wp_store_mid 36 (.tmp 7) (.tmp 16) rfl q7 0 CX.toArray rfl rfl (nc_there hB7 lCX) (by rw[List.size_toArray,lCX];kernel_rfl) (all_oneCell_toArray oCX.out) ?_
 have hxX:Ext wd (X.setCells q7 0 CX):=Ext_sets (by omega) _ 0 hX
 have hB7':Blk (X.setCells q7 0 CX) q7 CX.toArray 36:=by
  have:=Blk_sets CX 0 _ _ hB7
  rw[←hCX.out] at this ⊢
  simpa [z6,setMany] using this
 have hB8':=Blk_far (fun e=>h78 e.symm) CX 0 hB8
 refine hK.out _ _ (below_sets' hge7 _ 0 (Go.RowKit.Below.refl _ _)) ?_
 clear hK K hB7 hB8
 generalize X.setCells q7 0 CX=X2 at hxX hB7' hB8' ⊢
 refine Reg.onlyX 19 _ rfl (by kernel_rfl) (by decide) (by rfl) (fun K hK=>?_)
 refine wp_store_mid 36 (.tmp 8) (.tmp 24) rfl q8 0 CY.toArray rfl rfl (nc_there hB8' lCY) (by rw[List.size_toArray,lCY];kernel_rfl) (all_oneCell_toArray oCY.out) ?_
 have hxY:Ext wd (X2.setCells q8 0 CY):=Ext_sets (by omega) _ 0 hxX
 have hB8:Blk (X2.setCells q8 0 CY) q8 CY.toArray 36:=by
  have:=Blk_sets CY 0 _ _ hB8'
  rw[←hCY.out] at this ⊢
  simpa [z6,setMany] using this
 have hB7:=Blk_far h78 CY 0 hB7'
 refine hK.out _ _ (below_sets' hge8 _ 0 (Go.RowKit.Below.refl _ _)) ?_
 clear hK K hB7' hB8'
 generalize X2.setCells q8 0 CY=wz at hxY hB7 hB8 ⊢
 (try simp only[Reg.nn])
 refine Reg.finX (by kernel_rfl) ?_
 rw[←hCX.out] at hB7
 rw[←hCY.out] at hB8
 have cx:∀j,wz.cell? ⟨q7,j,none⟩=_:=fun j=>hB7.cell j
 have cy:∀j,wz.cell? ⟨q8,j,none⟩=_:=fun j=>hB8.cell j
 have cx0:=cx 0
 have cx1:=cx 1
 have cx2:=cx 2
 have cx3:=cx 3
 have cx4:=cx 4
 have cx5:=cx 5
 have cy0:=cy 0
 have cy1:=cy 1
 have cy2:=cy 2
 have cy3:=cy 3
 have cy4:=cy 4
 have cy5:=cy 5
 simp only[List.getElem?_toArray,List.getElem?_cons_zero,List.getElem?_cons_succ] at cx0 cx1 cx2 cx3 cx4 cx5 cy0 cy1 cy2 cy3 cy4 cy5
 clear cx cy ldx ldy hCX hCY lCX lCY oCX oCY hin hkn
 have r0:=p0.out wz hxY
 have r1:=p1.out wz hxY
 have r2:=p2.out wz hxY
 have hrz:=hrx.ext hxY
 have hxz:Ext w wz:=hxd.trans hxY
 replace hB7:=Lib.hid hB7
 replace hB8:=Lib.hid hB8
 rw[show q+1+1=q+2 from rfl]
 replace hrx:=Lib.hid hrz
 clear hrz
 by_cases y8:yk=8
 ·subst y8
  have hc:=hasInt_any (F:=96) ⟨q,0,none⟩ ⟨q+1,0,none⟩ B2 f2 yi (fun t=>N i t) wz (hq2.out.ext hxz) ny2 hny2.out (by omega) (fun _ _=>by kernel_rfl)
   (fun t ht W hW=>hold1_any (hrx.out.ext hW) (hW.cell r0) (hW.cell r1) hi6.out (i6 hlb (hwb.out.its t ht)))
  have hv:(yi.all fun t => !N i t) = !(yi.any fun t=>N i t):=(List.not_any_eq_all_not).symm
  obtain⟨v,hv'⟩:∃z,Hid ((yi.any fun t=>N i t)=z):=⟨_,rfl⟩
  rw[hv'.out] at hc hv
  replace hv:=Lib.hid hv
  go_wp2_with fail
  refine hc.mono ?_
  rintro en wA ⟨rfl,hxA⟩
  have hf:=fin.out (!v) wA (hxz.trans hxA) (by rw[if_pos trivial];exact hv.out)
  clear hc
  go_wp2_with fail
  exact hf
 by_cases x8:xk=8
 ·subst x8
  have hc:=hasInt_any (F:=97) ⟨q,0,none⟩ ⟨q+2,0,none⟩ A2 d2 xi (fun t => !N t k) wz (hr2.out.ext hxz) nx2 hnx2.out (by omega) (fun _ _=>by kernel_rfl)
   (fun t ht W hW=>hold2_any (hrx.out.ext hW) (hW.cell r0) (hW.cell r2) hk6.out (i6 hla (hwa.out.its t ht)))
  obtain⟨v,hv'⟩:∃z,Hid ((xi.any fun t => !N t k)=z):=⟨_,rfl⟩
  rw[hv'.out] at hc
  have hy8:((yk:Int) == 8)=false:=by simpa using y8
  go_wp2_with fail
  refine hc.mono ?_
  rintro en wA ⟨rfl,hxA⟩
  have hf:=fin.out v wA (hxz.trans hxA) (by rw[if_neg y8,if_pos trivial];exact hv'.out)
  clear hc
  go_wp2_with fail
  exact hf
 have hy8:((yk:Int) == 8)=false:=by simpa using y8
 have hx8:((xk:Int) == 8)=false:=by simpa using x8
 by_cases xy:xk=yk
 case neg=>
  have hxy:((xk:Int) == yk)=false:=by simpa using xy
  have hc:=prom_any xk yk wz
  obtain⟨v,hv'⟩:∃z,Hid (promP xk yk=z):=⟨_,rfl⟩
  rw[hv'.out] at hc
  go_wp2_with fail
  refine hc.mono ?_
  rintro en wA ⟨rfl,hxA⟩
  have hf:=fin.out v wA (hxz.trans hxA) (by rw[if_neg y8,if_neg x8,if_pos xy];exact hv'.out)
  clear hc
  go_wp2_with fail
  exact hf
 subst xy
 by_cases x67:xk=6∨xk=7
 ·obtain⟨t,ht⟩:=hwa.out.one x67
  obtain⟨u,hu⟩:=hwb.out.one x67
  simp only at ht hu
  subst ht;subst hu
  obtain rfl:1=nx2:=hnx2.out
  obtain rfl:1=ny2:=hny2.out
  obtain⟨ab,ao,rfl,_,ac⟩:=(hr2.out.ext hxz).at_ (k:=0) (by simp[intsZ])
  obtain⟨bb,bo,rfl,_,bc⟩:=(hq2.out.ext hxz).at_ (k:=0) (by simp[intsZ])
  have ac0:=ac 0 (.int .i64 t) (by simp[intsZ])
  have bc0:=bc 0 (.int .i64 u) (by simp[intsZ])
  clear ac bc
  simp only[Nat.add_zero] at ac0 bc0
  have ht6:=i6 hla (hwa.out.its t (by simp))
  have hu6:=i6 hlb (hwb.out.its u (by simp))
  have hrd:=fun W (hW:Ext wz W)=>reads_any (hrx.out.ext hW) ht6 hu6
  obtain⟨v,hv'⟩:∃z,Hid ((!N t u)=z):=⟨_,rfl⟩
  simp only[hv'.out] at hrd
  replace hrd:=Lib.hid hrd
  clear ht6 hu6
  have e0:∀W,Ext wz W→W.cell? ⟨q,0,none⟩=some (.pointer (some ⟨bx,0,none⟩)):=fun W hW=>hW.cell r0
  have e1:∀W,Ext wz W→W.cell? ⟨q7,4,none⟩=some (.slice (some ⟨ab,ao,none⟩) 1 d2):=fun W hW=>hW.cell cx4
  have e2:∀W,Ext wz W→W.cell? ⟨q8,4,none⟩=some (.slice (some ⟨bb,bo,none⟩) 1 f2):=fun W hW=>hW.cell cy4
  have e3:∀W,Ext wz W→W.cell? ⟨ab,ao,none⟩=some (.int .i64 t):=fun W hW=>hW.cell ac0
  have e4:∀W,Ext wz W→W.cell? ⟨bb,bo,none⟩=some (.int .i64 u):=fun W hW=>hW.cell bc0
  have hg:∀W,Ext wz W→PO (.returned (.bool v)) W:=fun W hW=>fin.out v W (hxz.trans hW) (by rw[if_neg y8,if_neg x8,if_neg (by simp),if_pos x67];exact hv'.out)
  replace hg:=Lib.hid hg
  rcases x67 with rfl|rfl
  ·go_wp2_with fail
   refine Reg.startE (by kernel_rfl) ?_
   iterate 9 ((first|refine Reg.tn ?_|refine Reg.sn ?_);(try simp only[Reg.nn]))
   refine Reg.onlyE 9 _ rfl (by kernel_rfl) (by decide) (by rfl) (fun W hW K hK=>?_);go_simp
   refine (hrd.out W hW).mono ?_
   rintro en wX ⟨rfl,hX9⟩
   have hq9:=hW.trans hX9
   refine hK.out _ _ (hX9) ?_;clear hK K;(try simp only[Reg.nn])
   iterate 1 ((first|refine Reg.tn ?_|refine Reg.sn ?_);(try simp only[Reg.nn]))
   refine Reg.fin (by kernel_rfl) (fun W hW=>?_)
   have hf:=hg.out W (hq9.trans hW)
   go_wp2_with fail
   exact hf
  ·go_wp2_with fail
   refine Reg.startE (by kernel_rfl) ?_
   iterate 9 ((first|refine Reg.tn ?_|refine Reg.sn ?_);(try simp only[Reg.nn]))
   refine Reg.onlyE 9 _ rfl (by kernel_rfl) (by decide) (by rfl) (fun W hW K hK=>?_);go_simp
   refine (hrd.out W hW).mono ?_
   rintro en wX ⟨rfl,hX9⟩
   have hq9:=hW.trans hX9
   refine hK.out _ _ (hX9) ?_;clear hK K;(try simp only[Reg.nn])
   iterate 1 ((first|refine Reg.tn ?_|refine Reg.sn ?_);(try simp only[Reg.nn]))
   refine Reg.fin (by kernel_rfl) (fun W hW=>?_)
   have hf:=hg.out W (hq9.trans hW)
   go_wp2_with fail
   exact hf
 have h6:((xk:Int) == 6)=false:=by simp;omega
 have h7:((xk:Int) == 7)=false:=by simp;omega
 have hk12:=hwa.out.k12
 simp only at hk12
 by_cases x9:xk=9
 ·subst x9
  by_cases hn:xn=yn
  ·subst hn
   have hc:=hasStr_any (F:=99) ⟨q7,0,none⟩ B1 f1 ys (fun s => !(xs.any fun y=>decide (y=s))) wz (hq1.out.ext hxz) ny1 hny1.out (by omega) (fun _ _=>by kernel_rfl)
    (fun t ht W hW=>hold3_any t (hW.cell cx3) (hr1.out.ext (hxz.trans hW)) hnx1.out (by omega))
   have hv:(ys.all fun s=>xs.any fun t=>decide (t=s)) = !(ys.any fun s => !(xs.any fun y=>decide (y=s))):=by rw[List.not_any_eq_all_not];simp
   obtain⟨v,hv'⟩:∃z,Hid ((ys.any fun s => !(xs.any fun y=>decide (y=s)))=z):=⟨_,rfl⟩
   rw[hv'.out] at hc hv
   replace hv:=Lib.hid hv
   go_wp2_with fail
   refine hc.mono ?_
   rintro en wA ⟨rfl,hxA⟩
   have hf:=fin.out (!v) wA (hxz.trans hxA) (by rw[if_pos trivial,hv.out];simp)
   clear hc
   go_wp2_with fail
   exact hf
  ·have hbn:=str_ne hn
   have hf:=fin.out false wz hxz (by rw[if_neg y8,if_neg x8,if_neg (by simp),if_neg x67,if_pos rfl,decide_eq_false hn];rfl)
   go_wp2_with fail
   exact hf
 have h9:((xk:Int) == 9)=false:=by simpa using x9
 by_cases x10:xk=10
 ·subst x10
  by_cases hn:xn=yn
  ·subst hn
   have hf:=fin.out (decide (xz=yz)) wz hxz (by rw[if_neg y8,if_neg x8,if_neg (by simp),if_neg x67,if_neg x9,if_pos rfl];simp)
   go_wp2_with fail
   exact hf
  ·have hbn:=str_ne hn
   have hf:=fin.out false wz hxz (by rw[if_neg y8,if_neg x8,if_neg (by simp),if_neg x67,if_neg x9,if_pos rfl,decide_eq_false hn];rfl)
   go_wp2_with fail
   exact hf
 have h10:((xk:Int) == 10)=false:=by simpa using x10
 by_cases x11:xk=11
 ·subst x11
  by_cases hn:xn=yn
  ·subst hn
   have hc:=fields_any hrx.out 11 xz 11 yz xn xn (.slice A1 nx1 d1) (.slice A2 nx2 d2) (.slice B1 ny1 f1) (.slice B2 ny2 f2) A3 B3 nx3 d3 ny3 f3 xf yf (hr3.out.ext hxz) (hq3.out.ext hxz) hnx3.out hny3.out (by omega) (by omega)
    (fun f hf=>i6 hla (hwa.out.fls f hf)) (fun f hf=>i6 hlb (hwb.out.fls f hf))
   obtain⟨v,hv'⟩:∃z,Hid (xf.all (fieldP (fun i k => !N i k) yf)=z):=⟨_,rfl⟩
   rw[hv'.out] at hc
   go_wp2_with fail
   refine hc.mono ?_
   rintro en wA ⟨rfl,hxA⟩
   have hf:=fin.out v wA (hxz.trans hxA) (by rw[if_pos trivial,hv'.out];simp)
   clear hc
   go_wp2_with fail
   exact hf
  ·have hbn:=str_ne hn
   have hf:=fin.out false wz hxz (by rw[if_neg y8,if_neg x8,if_neg (by simp),if_neg x67,if_neg x9,if_neg x10,if_pos rfl,decide_eq_false hn];rfl)
   go_wp2_with fail
   exact hf
 have h11:((xk:Int) == 11)=false:=by simpa using x11
 have hf:=fin.out true wz hxz (by rw[if_neg y8,if_neg x8,if_neg (by simp),if_neg x67,if_neg x9,if_neg x10,if_neg x11])
 go_wp2_with fail
 exact hf
end Rv
end Go.Proofs.YtmaoochjbpohdaaGreatDoor
