/- resolve: the document's way of asking pairs, where what is being asked is taken for such: it answers by the greatest relation: plain. -/
import Derived.Test.YtmaoochjbpohdaaGreatDoorRbX
import Derived.ChangeKeysEq
set_option linter.unusedVariables false
set_option linter.unusedSimpArgs false
set_option maxRecDepth 100000
set_option maxHeartbeats 1000000
namespace Go.Proofs.YtmaoochjbpohdaaGreatDoor
namespace Rv
open Lx Pr
abbrev P2:=Int×Int
abbrev Qs:=List P2×List P2
def allQ (q:Int→Qs→Bool×Qs):List Int→Qs→Bool×Qs
 | [],s=>(true,s)
 | x::l,s=>if (q x s).1=true then allQ q l (q x s).2 else (false,(q x s).2)
def anyQ (q:Int→Qs→Bool×Qs):List Int→Qs→Bool×Qs
 | [],s=>(false,s)
 | x::l,s=>if (q x s).1=true then (true,(q x s).2) else anyQ q l (q x s).2
def lookQ (q:Int→Qs→Bool×Qs) (nm:ByteArray):List Fd→Bool→Qs→Bool×Qs
 | [],ok,s=>(ok,s)
 | g::l,ok,s=>if g.1=nm then lookQ q nm l (q g.2.2 s).1 (q g.2.2 s).2 else lookQ q nm l ok s
def fldsQ (q:Int→Int→Qs→Bool×Qs) (lb:List Fd):List Fd→Qs→Bool×Qs
 | [],s=>(true,s)
 | f::l,s=>if (lookQ (q f.2.2) f.1 lb f.2.1 s).1=true then fldsQ q lb l (lookQ (q f.2.2) f.1 lb f.2.1 s).2 else (false,(lookQ (q f.2.2) f.1 lb f.2.1 s).2)
def symsIn (xs ys:List ByteArray):Bool:=ys.all fun s=>xs.any fun t=>decide (t=s)
def holdsQ (q:Int→Int→Qs→Bool×Qs) (x y:Ne) (r w:Int) (s:Qs):Bool×Qs:=
 if y.k=8 then allQ (fun t=>q r t) y.items s
 else if x.k=8 then anyQ (fun t=>q t w) x.items s
 else if ¬x.k=y.k∨x.k<6 then (promP x.k y.k,s)
 else if x.k=6∨x.k=7 then q (x.items.getD 0 0) (y.items.getD 0 0) s
 else if ¬x.name=y.name∨(x.k=10∧¬x.size=y.size) then (false,s)
 else if x.k=9∧symsIn x.syms y.syms=false then (false,s)
 else fldsQ q y.fields x.fields s
def readsQ (a b:List Ne):Nat→Int→Int→Qs→Bool×Qs
 | 0,r,w,s=>(true,s)
 | f+1,r,w,s=>if (r,w)∈s.1 then (false,s) else if (r,w)∈s.2 then (true,s)
  else if (holdsQ (readsQ a b f) (a.getD r.toNat neD) (b.getD w.toNat neD) r w (s.1,s.2++[(r,w)])).1=true then holdsQ (readsQ a b f) (a.getD r.toNat neD) (b.getD w.toNat neD) r w (s.1,s.2++[(r,w)])
  else (false,((holdsQ (readsQ a b f) (a.getD r.toNat neD) (b.getD w.toNat neD) r w (s.1,s.2++[(r,w)])).2.1++[(r,w)],(holdsQ (readsQ a b f) (a.getD r.toNat neD) (b.getD w.toNat neD) r w (s.1,s.2++[(r,w)])).2.2))
def InL (l:List P2):Rel:=fun i k=>decide ((i,k)∈l)
theorem InL_mono {l l':List P2} (h:∀p∈l,p∈l'):∀i k,InL l i k=true→InL l' i k=true:=by
 intro i k hk
 unfold InL at hk ⊢
 exact decide_eq_true (h _ (of_decide_eq_true hk))
def Rng (a b:List Ne) (p:P2):Prop:=∃i k:Nat,p=((i:Int),(k:Int))∧i<a.length∧k<b.length
def HAt (a b:List Ne) (R:Rel) (p:P2):Prop:=∀x y (i k:Nat),p=((i:Int),(k:Int))→a[i]?=some x→b[k]?=some y→holdP R x y i k=true
theorem HAt.mono {a b:List Ne} {R R':Rel} {p:P2} (h:HAt a b R p) (hm:∀i k,R i k=true→R' i k=true):HAt a b R' p:=fun x y i k e hx hy=>holdP_mono hm x y i k (h x y i k e hx hy)
open Classical in
noncomputable def GB (a b:List Ne):Rel:=fun i k=>decide (InR a b i k)
open Classical in
theorem GB_iff {a b:List Ne} {i k:Int}:GB a b i k=true↔InR a b i k:=by unfold GB;exact decide_eq_true_iff
theorem GB_stays (a b:List Ne):Stays a b (GB a b):=by
 intro i k x y hx hy h
 obtain⟨R,hs,hr⟩:=GB_iff.1 h
 exact holdP_mono (fun p q hpq=>GB_iff.2 ⟨R,hs,hpq⟩) x y i k (hs i k x y hx hy hr)
theorem length_le {a b:List Ne}:∀ {l:List P2},l.Nodup→(∀p∈l,Rng a b p)→l.length=cnt (InL l) b.length a.length
 | [],_,_=>by
  rw[cnt_none (fun i k=>by simp[InL])];rfl
 | p::l,hn,hr=>by
  obtain⟨i,k,rfl,hi,hk⟩:=hr p (by simp)
  obtain⟨h1,h2⟩:=List.nodup_cons.1 hn
  have ih:=length_le h2 (fun q hq=>hr q (List.mem_cons_of_mem _ hq))
  have e:InL (((i:Int),(k:Int))::l)=putN (InL l) i k:=by
   funext x y
   unfold InL putN
   by_cases hxy:x=i∧y=k
   ·rw[if_pos hxy];simp[hxy]
   ·rw[if_neg hxy]
    congr 1
    simp only[List.mem_cons,Prod.mk.injEq,hxy,false_or]
  rw[e,cnt_put (InL l) b.length i k (by unfold InL;exact decide_eq_false h1) hk a.length hi,List.length_cons,ih]
theorem length_rng {a b:List Ne} {l:List P2} (h1:l.Nodup) (h2:∀p∈l,Rng a b p):l.length≤a.length*b.length:=by
 rw[length_le h1 h2];exact cnt_le _ _ _
structure Run (a b:List Ne) (s s':Qs):Prop where
 n:∃t,s'.1=s.1++t
 ak:∃t,s'.2=s.2++t
 nw:∀p∈s'.1,p∈s.1∨(p∉s.2∧p∈s'.2)
 st:s'.1=s.1→∀p∈s'.2,p∉s.2→HAt a b (InL s'.2) p
structure Fine (a b:List Ne) (s:Qs):Prop where
 nd1:s.1.Nodup
 nd2:s.2.Nodup
 r1:∀p∈s.1,Rng a b p
 r2:∀p∈s.2,Rng a b p
 g:∀p∈s.1,¬InR a b p.1 p.2
theorem Run.refl (a b:List Ne) (s:Qs):Run a b s s:=⟨⟨[],by simp⟩,⟨[],by simp⟩,fun p hp=>.inl hp,fun _ p hp hn=>absurd hp hn⟩
theorem Run.sub {a b:List Ne} {s s':Qs} (h:Run a b s s'):∀p∈s.2,p∈s'.2:=by
 obtain⟨t,e⟩:=h.ak
 intro p hp;rw[e];exact List.mem_append_left _ hp
theorem Run.len {a b:List Ne} {s s':Qs} (h:Run a b s s'):s.2.length≤s'.2.length:=by
 obtain⟨t,e⟩:=h.ak
 rw[e,List.length_append];omega
theorem Run.trans {a b:List Ne} {s s' s'':Qs} (h:Run a b s s') (k:Run a b s' s''):Run a b s s'':=by
 obtain⟨t1,e1⟩:=h.n
 obtain⟨t2,e2⟩:=k.n
 obtain⟨u1,f1⟩:=h.ak
 obtain⟨u2,f2⟩:=k.ak
 refine⟨⟨t1++t2,by rw[e2,e1,List.append_assoc]⟩,⟨u1++u2,by rw[f2,f1,List.append_assoc]⟩,?_,?_⟩
 ·intro p hp
  rcases k.nw p hp with h1|⟨h1,h2⟩
  ·rcases h.nw p h1 with h3|⟨h3,h4⟩
   ·exact .inl h3
   ·exact .inr ⟨h3,k.sub p h4⟩
  ·exact .inr ⟨fun hs=>h1 (h.sub p hs),h2⟩
 ·intro e p hp hn
  have e3:t1++t2=[]:=by
   rw[e2,e1,List.append_assoc] at e
   exact List.append_right_eq_self.1 e
  obtain⟨rfl,rfl⟩:=List.append_eq_nil_iff.1 e3
  by_cases hq:p∈s'.2
  ·exact (h.st (by rw[e1,List.append_nil]) p hq hn).mono (InL_mono k.sub)
  ·exact k.st (by rw[e2,List.append_nil]) p hp hq
def QOk (a b:List Ne) (f:Nat) (q:Qs→Bool×Qs) (p:P2):Prop:=∀s,Fine a b s→a.length*b.length+1≤f+s.2.length→
 Fine a b (q s).2∧Run a b s (q s).2∧(InR a b p.1 p.2→(q s).1=true)∧((q s).1=true→p∈(q s).2.2)
theorem allQ_ok {a b:List Ne} {f:Nat} {q:Int→Qs→Bool×Qs} {c:Int→P2}:∀ {l:List Int},(∀x∈l,QOk a b f (q x) (c x))→∀s,Fine a b s→a.length*b.length+1≤f+s.2.length→
  Fine a b (allQ q l s).2∧Run a b s (allQ q l s).2∧((∀x∈l,InR a b (c x).1 (c x).2)→(allQ q l s).1=true)∧((allQ q l s).1=true→∀x∈l,c x∈(allQ q l s).2.2)
 | [],_,s,hs,hf=>⟨hs,Run.refl a b s,fun _=>rfl,fun _ x hx=>by cases hx⟩
 | x::l,h,s,hs,hf=>by
  obtain⟨h1,h2,h3,h4⟩:=h x (by simp) s hs hf
  unfold allQ
  by_cases hq:(q x s).1=true
  ·rw[if_pos hq]
   obtain⟨g1,g2,g3,g4⟩:=allQ_ok (l:=l) (fun y hy=>h y (List.mem_cons_of_mem _ hy)) (q x s).2 h1 (by have:=h2.len;omega)
   refine⟨g1,h2.trans g2,fun hg=>g3 fun y hy=>hg y (by simp[hy]),fun ho y hy=>?_⟩
   rcases List.mem_cons.1 hy with rfl|hy
   ·exact g2.sub _ (h4 hq)
   ·exact g4 ho y hy
  ·rw[if_neg hq]
   exact⟨h1,h2,fun hg=>absurd (h3 (hg x (by simp))) hq,fun ho=>by cases ho⟩
theorem anyQ_ok {a b:List Ne} {f:Nat} {q:Int→Qs→Bool×Qs} {c:Int→P2}:∀ {l:List Int},(∀x∈l,QOk a b f (q x) (c x))→∀s,Fine a b s→a.length*b.length+1≤f+s.2.length→
  Fine a b (anyQ q l s).2∧Run a b s (anyQ q l s).2∧((∃x∈l,InR a b (c x).1 (c x).2)→(anyQ q l s).1=true)∧((anyQ q l s).1=true→∃x∈l,c x∈(anyQ q l s).2.2)
 | [],_,s,hs,hf=>⟨hs,Run.refl a b s,fun ⟨x,hx,_⟩=>(by cases hx),fun h=>(by cases h)⟩
 | x::l,h,s,hs,hf=>by
  obtain⟨h1,h2,h3,h4⟩:=h x (by simp) s hs hf
  unfold anyQ
  by_cases hq:(q x s).1=true
  ·rw[if_pos hq]
   exact⟨h1,h2,fun _=>rfl,fun _=>⟨x,by simp,h4 hq⟩⟩
  ·rw[if_neg hq]
   obtain⟨g1,g2,g3,g4⟩:=anyQ_ok (l:=l) (fun y hy=>h y (List.mem_cons_of_mem _ hy)) (q x s).2 h1 (by have:=h2.len;omega)
   refine⟨g1,h2.trans g2,fun ⟨y,hy,hg⟩=>?_,fun ho=>?_⟩
   ·rcases List.mem_cons.1 hy with rfl|hy
    ·exact absurd (h3 hg) hq
    ·exact g3 ⟨y,hy,hg⟩
   ·obtain⟨y,hy,hm⟩:=g4 ho
    exact⟨y,by simp[hy],hm⟩
theorem lookQ_none {q:Int→Qs→Bool×Qs} {nm:ByteArray}:∀ {l:List Fd},(∀g∈l,¬g.1=nm)→∀ok s,lookQ q nm l ok s=(ok,s)
 | [],_,ok,s=>rfl
 | g::l,h,ok,s=>by
  unfold lookQ
  rw[if_neg (h g (by simp))]
  exact lookQ_none (fun x hx=>h x (by simp[hx])) ok s
theorem lookQ_eq {q:Int→Qs→Bool×Qs} {nm:ByteArray}:∀ {l:List Fd},(l.map (·.1)).Nodup→∀ok s,lookQ q nm l ok s=match l.find? fun g=>decide (g.1=nm) with
  | none=>(ok,s)
  | some g=>q g.2.2 s
 | [],_,ok,s=>rfl
 | g::l,h,ok,s=>by
  obtain⟨h1,h2⟩:=List.nodup_cons.1 h
  unfold lookQ
  by_cases e:g.1=nm
  ·rw[if_pos e,List.find?_cons_of_pos (by simp[e])]
   exact lookQ_none (fun x hx hn=>h1 (List.mem_map.2 ⟨x,hx,hn.trans e.symm⟩)) _ _
  ·rw[if_neg e,List.find?_cons_of_neg (by simp[e])]
   exact lookQ_eq h2 ok s
theorem fldsQ_ok {a b:List Ne} {f:Nat} {q:Int→Int→Qs→Bool×Qs} {lb:List Fd} (hn:(lb.map (·.1)).Nodup):∀ {l:List Fd},(∀x∈l,∀g∈lb,QOk a b f (q x.2.2 g.2.2) (x.2.2,g.2.2))→∀s,Fine a b s→a.length*b.length+1≤f+s.2.length→
  Fine a b (fldsQ q lb l s).2∧Run a b s (fldsQ q lb l s).2∧((∀x∈l,fieldP (GB a b) lb x=true)→(fldsQ q lb l s).1=true)∧((fldsQ q lb l s).1=true→∀x∈l,fieldP (InL (fldsQ q lb l s).2.2) lb x=true)
 | [],_,s,hs,hf=>⟨hs,Run.refl a b s,fun _=>rfl,fun _ x hx=>by cases hx⟩
 | x::l,h,s,hs,hf=>by
  have key:Fine a b (lookQ (q x.2.2) x.1 lb x.2.1 s).2∧Run a b s (lookQ (q x.2.2) x.1 lb x.2.1 s).2∧(fieldP (GB a b) lb x=true→(lookQ (q x.2.2) x.1 lb x.2.1 s).1=true)∧((lookQ (q x.2.2) x.1 lb x.2.1 s).1=true→fieldP (InL (lookQ (q x.2.2) x.1 lb x.2.1 s).2.2) lb x=true):=by
   rw[lookQ_eq hn]
   unfold fieldP
   cases e:lb.find? fun g=>decide (g.1=x.1) with
   | none=>exact⟨hs,Run.refl a b s,fun h=>h,fun h=>h⟩
   | some g=>
    obtain⟨h1,h2,h3,h4⟩:=h x (by simp) g (List.mem_of_find?_eq_some e) s hs hf
    exact⟨h1,h2,fun hg=>h3 (GB_iff.1 hg),fun ho=>decide_eq_true (h4 ho)⟩
  obtain⟨h1,h2,h3,h4⟩:=key
  unfold fldsQ
  by_cases hq:(lookQ (q x.2.2) x.1 lb x.2.1 s).1=true
  ·rw[if_pos hq]
   obtain⟨g1,g2,g3,g4⟩:=fldsQ_ok hn (l:=l) (fun y hy=>h y (List.mem_cons_of_mem _ hy)) (lookQ (q x.2.2) x.1 lb x.2.1 s).2 h1 (by have:=h2.len;omega)
   refine⟨g1,h2.trans g2,fun hg=>g3 fun y hy=>hg y (by simp[hy]),fun ho y hy=>?_⟩
   rcases List.mem_cons.1 hy with rfl|hy
   ·exact fieldP_mono (InL_mono g2.sub) _ _ (h4 hq)
   ·exact g4 ho y hy
  ·rw[if_neg hq]
   exact⟨h1,h2,fun hg=>absurd (h3 (hg x (by simp))) hq,fun ho=>by cases ho⟩
theorem holdsQ_ok {a b:List Ne} {f:Nat} {q:Int→Int→Qs→Bool×Qs} (hq:∀p,Rng a b p→QOk a b f (q p.1 p.2) p) {x y:Ne} (hx:WE a.length x) (hy:WE b.length y) {i k:Nat} (hi:i<a.length) (hk:k<b.length) :
  ∀s,Fine a b s→a.length*b.length+1≤f+s.2.length→Fine a b (holdsQ q x y i k s).2∧Run a b s (holdsQ q x y i k s).2∧(holdP (GB a b) x y i k=true→(holdsQ q x y i k s).1=true)∧((holdsQ q x y i k s).1=true→holdP (InL (holdsQ q x y i k s).2.2) x y i k=true):=by
 intro s hs hf
 have rx:∀t∈x.items,∃j:Nat,t=j∧j<a.length:=fun t ht=>⟨t.toNat,by have:=hx.its t ht;omega,by have:=hx.its t ht;omega⟩
 have ry:∀t∈y.items,∃j:Nat,t=j∧j<b.length:=fun t ht=>⟨t.toNat,by have:=hy.its t ht;omega,by have:=hy.its t ht;omega⟩
 unfold holdsQ
 by_cases y8:y.k=8
 ·rw[if_pos y8]
  obtain⟨h1,h2,h3,h4⟩:=allQ_ok (c:=fun t=>((i:Int),t)) (q:=fun t=>q i t) (l:=y.items) (fun t ht=>by
   obtain⟨j,rfl,hj⟩:=ry t ht
   exact hq ((i:Int),(j:Int)) ⟨i,j,rfl,hi,hj⟩) s hs hf
  refine⟨h1,h2,fun hh=>h3 fun t ht=>?_,fun ho=>?_⟩
  ·unfold holdP at hh
   rw[if_pos y8,List.all_eq_true] at hh
   exact GB_iff.1 (hh t ht)
  ·unfold holdP
   rw[if_pos y8,List.all_eq_true]
   exact fun t ht=>decide_eq_true (h4 ho t ht)
 rw[if_neg y8]
 by_cases x8:x.k=8
 ·rw[if_pos x8]
  obtain⟨h1,h2,h3,h4⟩:=anyQ_ok (c:=fun t=>(t,(k:Int))) (q:=fun t=>q t k) (l:=x.items) (fun t ht=>by
   obtain⟨j,rfl,hj⟩:=rx t ht
   exact hq ((j:Int),(k:Int)) ⟨j,k,rfl,hj,hk⟩) s hs hf
  refine⟨h1,h2,fun hh=>h3 ?_,fun ho=>?_⟩
  ·unfold holdP at hh
   rw[if_neg y8,if_pos x8,List.any_eq_true] at hh
   obtain⟨t,ht,hg⟩:=hh
   exact⟨t,ht,GB_iff.1 hg⟩
  ·unfold holdP
   rw[if_neg y8,if_pos x8,List.any_eq_true]
   obtain⟨t,ht,hm⟩:=h4 ho
   exact⟨t,ht,decide_eq_true hm⟩
 rw[if_neg x8]
 by_cases xy:¬x.k=y.k∨x.k<6
 ·rw[if_pos xy]
  have e:∀R,holdP R x y i k=promP x.k y.k:=by
   intro R
   unfold holdP
   rw[if_neg y8,if_neg x8]
   by_cases h:x.k=y.k
   ·have h6:x.k<6:=by omega
    have:=hx.k0
    rw[if_neg (by simpa using h),if_neg (by omega),if_neg (by omega),if_neg (by omega),if_neg (by omega)]
    unfold promP
    simp only[←h,decide_true,Bool.true_or,Bool.and_true]
    simp
    omega
   ·rw[if_pos h]
  exact⟨hs,Run.refl a b s,fun h=>by rw[←e];exact h,fun h=>by rw[e];exact h⟩
 rw[if_neg xy]
 have xyk:x.k=y.k:=by by_cases h:x.k=y.k<;>simp_all
 have x6:¬x.k<6:=fun h=>xy (.inr h)
 by_cases x67:x.k=6∨x.k=7
 ·rw[if_pos x67]
  obtain⟨t,ht⟩:=hx.one x67
  obtain⟨u,hu⟩:=hy.one (by rw[←xyk];exact x67)
  obtain⟨j,rfl,hj⟩:=rx t (by rw[ht];simp)
  obtain⟨m,rfl,hm⟩:=ry u (by rw[hu];simp)
  have e:∀R,holdP R x y i k=R j m:=by
   intro R
   unfold holdP
   rw[if_neg y8,if_neg x8,if_neg (by simpa using xyk),if_pos x67,ht,hu]
   rfl
  rw[ht,hu]
  obtain⟨h1,h2,h3,h4⟩:=hq ((j:Int),(m:Int)) ⟨j,m,rfl,hj,hm⟩ s hs hf
  exact⟨h1,h2,fun h=>h3 (GB_iff.1 (by rw[←e (GB a b)];exact h)),fun h=>by rw[e];exact decide_eq_true (h4 h)⟩
 rw[if_neg x67]
 by_cases hnm:¬x.name=y.name∨(x.k=10∧¬x.size=y.size)
 ·rw[if_pos hnm]
  refine⟨hs,Run.refl a b s,fun h=>?_,fun h=>by cases h⟩
  exfalso
  unfold holdP at h
  rw[if_neg y8,if_neg x8,if_neg (by simpa using xyk),if_neg x67] at h
  have:=hx.k12
  rcases hnm with hnm|⟨h10,hsz⟩
  ·by_cases h9:x.k=9
   ·rw[if_pos h9] at h;simp[hnm] at h
   ·rw[if_neg h9] at h
    by_cases h10:x.k=10
    ·rw[if_pos h10] at h;simp[hnm] at h
    ·rw[if_neg h10,if_pos (by omega)] at h;simp[hnm] at h
  ·rw[if_neg (by omega),if_pos h10] at h
   simp[hsz] at h
 rw[if_neg hnm]
 have hname:x.name=y.name:=by by_cases h:x.name=y.name<;>simp_all
 have h12:=hx.k12
 by_cases hsy:x.k=9∧symsIn x.syms y.syms=false
 ·rw[if_pos hsy]
  refine⟨hs,Run.refl a b s,fun h=>?_,fun h=>by cases h⟩
  exfalso
  unfold holdP at h
  rw[if_neg y8,if_neg x8,if_neg (by simpa using xyk),if_neg x67,if_pos hsy.1] at h
  have:=hsy.2
  unfold symsIn at this
  rw[this] at h
  simp at h
 rw[if_neg hsy]
 have hpair:∀u∈x.fields,∀g∈y.fields,QOk a b f (q u.2.2 g.2.2) (u.2.2,g.2.2):=by
  intro u hu g hg
  have h1:=hx.fls u hu
  have h2:=hy.fls g hg
  exact hq (u.2.2,g.2.2) ⟨u.2.2.toNat,g.2.2.toNat,by ext<;>simp<;>omega,by omega,by omega⟩
 obtain⟨h1,h2,h3,h4⟩:=fldsQ_ok hy.nod (l:=x.fields) hpair s hs hf
 have e:∀R,holdP R x y i k=x.fields.all (fieldP R y.fields):=by
  intro R
  unfold holdP
  rw[if_neg y8,if_neg x8,if_neg (by simpa using xyk),if_neg x67]
  by_cases h9:x.k=9
  ·rw[if_pos h9]
   have:symsIn x.syms y.syms=true:=by cases h:symsIn x.syms y.syms<;>simp_all
   unfold symsIn at this
   rw[this,hx.nof (by omega)]
   simp[hname]
  ·rw[if_neg h9]
   by_cases h10:x.k=10
   ·rw[if_pos h10,hx.nof (by omega)]
    have:x.size=y.size:=by by_cases h:x.size=y.size<;>simp_all
    simp[hname,this]
   ·rw[if_neg h10,if_pos (by omega)]
    simp[hname]
 refine⟨h1,h2,fun h=>h3 ?_,fun h=>?_⟩
 ·rw[e,List.all_eq_true] at h;exact h
 ·rw[e,List.all_eq_true];exact h4 h
theorem readsQ_ok {a b:List Ne} (ha:∀d∈a,WE a.length d) (hb:∀d∈b,WE b.length d):∀(f:Nat) (p:P2),Rng a b p→QOk a b f (readsQ a b f p.1 p.2) p
 | 0,p,hp,s,hs,hf=>by
  have:=length_rng hs.nd2 hs.r2
  omega
 | f+1,p,hp,s,hs,hf=>by
  obtain⟨i,k,rfl,hi,hk⟩:=hp
  simp only
  unfold readsQ
  by_cases h1:((i:Int),(k:Int))∈s.1
  ·rw[if_pos h1]
   exact⟨hs,Run.refl a b s,fun hg=>absurd hg (hs.g _ h1),fun h=>by cases h⟩
  rw[if_neg h1]
  by_cases h2:((i:Int),(k:Int))∈s.2
  ·rw[if_pos h2]
   exact⟨hs,Run.refl a b s,fun _=>rfl,fun _=>h2⟩
  rw[if_neg h2]
  have hx:a[i]?=some (a.getD (i:Int).toNat neD):=by simp[List.getD,List.getElem?_eq_getElem hi]
  have hy:b[k]?=some (b.getD (k:Int).toNat neD):=by simp[List.getD,List.getElem?_eq_getElem hk]
  generalize a.getD (i:Int).toNat neD=x at hx ⊢
  generalize b.getD (k:Int).toNat neD=y at hy ⊢
  have hs0:Fine a b (s.1,s.2++[((i:Int),(k:Int))]):=⟨hs.nd1,by
   show (s.2++[((i:Int),(k:Int))]).Nodup
   rw[List.nodup_append]
   exact⟨hs.nd2,by simp,fun u hu v hv e=>by
    rw[List.mem_singleton] at hv
    exact h2 (by rw[←hv,←e];exact hu)⟩,hs.r1,fun u hu=>by
   rcases List.mem_append.1 hu with hu|hu
   ·exact hs.r2 u hu
   ·rw[List.mem_singleton] at hu;rw[hu];exact⟨i,k,rfl,hi,hk⟩,hs.g⟩
  obtain⟨g1,g2,g3,g4⟩:=holdsQ_ok (f:=f) (q:=readsQ a b f) (readsQ_ok ha hb f) (ha x (List.mem_of_getElem? hx)) (hb y (List.mem_of_getElem? hy)) hi hk (s.1,s.2++[((i:Int),(k:Int))]) hs0 (by
   show _≤f+(s.2++[((i:Int),(k:Int))]).length
   rw[List.length_append,List.length_singleton];omega)
  generalize holdsQ (readsQ a b f) x y i k (s.1,s.2++[((i:Int),(k:Int))])=o at g1 g2 g3 g4 ⊢
  have hin:((i:Int),(k:Int))∈o.2.2:=g2.sub _ (by simp)
  obtain⟨t1,e1⟩:=g2.n
  obtain⟨t2,e2⟩:=g2.ak
  simp only at e1 e2
  by_cases ho:o.1=true
  ·rw[if_pos ho]
   refine⟨g1,⟨⟨t1,e1⟩,⟨[((i:Int),(k:Int))]++t2,by rw[e2,List.append_assoc]⟩,fun p hp=>?_,fun e p hp hn=>?_⟩,fun _=>ho,fun _=>hin⟩
   ·rcases g2.nw p hp with h|⟨h,h'⟩
    ·exact .inl h
    ·exact .inr ⟨fun hs=>h (List.mem_append_left _ hs),h'⟩
   ·by_cases hpe:p=((i:Int),(k:Int))
    ·subst hpe
     intro x' y' i' k' ee hx' hy'
     simp only[Prod.mk.injEq] at ee
     obtain⟨rfl,rfl⟩:i=i'∧k=k':=⟨by omega,by omega⟩
     rw[hx] at hx';rw[hy] at hy'
     injection hx' with hx'
     injection hy' with hy'
     rw[←hx',←hy']
     exact g4 ho
    ·refine g2.st e p hp ?_
     simp only[List.mem_append,List.mem_singleton,not_or]
     exact⟨hn,hpe⟩
  ·rw[if_neg ho]
   have hno:((i:Int),(k:Int))∉o.2.1:=by
    intro h
    rcases g2.nw _ h with h|⟨h,_⟩
    ·exact h1 h
    ·exact h (by simp)
   refine⟨⟨?_,g1.nd2,fun p hp=>?_,g1.r2,fun p hp=>?_⟩,⟨⟨t1++[((i:Int),(k:Int))],by simp[e1]⟩,⟨[((i:Int),(k:Int))]++t2,by simp[e2]⟩,fun p hp=>?_,fun e=>?_⟩,fun hg=>?_,fun h=>by cases h⟩
   ·show (o.2.1++[((i:Int),(k:Int))]).Nodup
    rw[List.nodup_append]
    exact⟨g1.nd1,by simp,fun u hu v hv e=>by
     rw[List.mem_singleton] at hv
     exact hno (by rw[←hv,←e];exact hu)⟩
   ·rcases List.mem_append.1 hp with hp|hp
    ·exact g1.r1 p hp
    ·rw[List.mem_singleton] at hp;rw[hp];exact⟨i,k,rfl,hi,hk⟩
   ·rcases List.mem_append.1 hp with hp|hp
    ·exact g1.g p hp
    ·rw[List.mem_singleton] at hp
     rw[hp]
     exact fun hg=>ho (g3 (GB_stays a b i k x y hx hy (GB_iff.2 hg)))
   ·rcases List.mem_append.1 hp with hp|hp
    ·rcases g2.nw p hp with h|⟨h,h'⟩
     ·exact .inl h
     ·exact .inr ⟨fun hs=>h (List.mem_append_left _ hs),h'⟩
    ·rw[List.mem_singleton] at hp
     rw[hp]
     exact .inr ⟨h2,hin⟩
   ·exfalso
    simp only[e1] at e
    rw[List.append_assoc] at e
    have:=List.append_right_eq_self.1 e
    simp at this
   ·exact absurd (g3 (GB_stays a b i k x y hx hy (GB_iff.2 hg))) ho
theorem asked {a b:List Ne} (ha:∀d∈a,WE a.length d) (hb:∀d∈b,WE b.length d) {N:List P2} (hN:Fine a b (N,[])) {f i k:Nat} (hf:a.length*b.length+1≤f) (hi:i<a.length) (hk:k<b.length) :
  Fine a b ((readsQ a b f i k (N,[])).2.1,[])∧(∃t,(readsQ a b f i k (N,[])).2.1=N++t)∧((readsQ a b f i k (N,[])).1=false→¬InR a b i k)∧((readsQ a b f i k (N,[])).1=true→(readsQ a b f i k (N,[])).2.1=N→InR a b i k):=by
 obtain⟨h1,h2,h3,h4⟩:=readsQ_ok ha hb f ((i:Int),(k:Int)) ⟨i,k,rfl,hi,hk⟩ (N,[]) hN (by simpa using hf)
 simp only at h1 h2 h3 h4
 refine⟨⟨h1.nd1,by simp,h1.r1,by simp,h1.g⟩,h2.n,fun h hg=>(by rw[h3 hg] at h;cases h),fun h e=>⟨InL (readsQ a b f i k (N,[])).2.2,?_,decide_eq_true (h4 h)⟩⟩
 intro p q x y hx hy hR
 exact h2.st e ((p:Int),(q:Int)) (of_decide_eq_true hR) (by simp) x y p q rfl hx hy
end Rv
namespace Rx
open Go.ChangeShapes Go.WideShapes Go.ChangeAt Go.RowKit
open Base Lx Mi Pr Rv
def prs (l:List P2):List Value:=l.flatMap fun p=>[.int .i64 p.1,.int .i64 p.2]
theorem prs_cons (p:P2) (l:List P2):prs (p::l)=.int .i64 p.1::.int .i64 p.2::prs l:=rfl
theorem prs_len (l:List P2):(prs l).length=l.length*2:=by
 induction l with
 | nil=>rfl
 | cons p l ih=>rw[prs_cons,List.length_cons,List.length_cons,ih,List.length_cons];omega
theorem prs_at:∀(l:List P2) (i:Nat) (p:P2),l[i]?=some p→(prs l)[i*2]?=some (.int .i64 p.1)∧(prs l)[i*2+1]?=some (.int .i64 p.2)
 | [],i,p,h=>by simp at h
 | q::l,0,p,h=>by
  simp at h;subst h
  exact⟨rfl,rfl⟩
 | q::l,i+1,p,h=>by
  obtain⟨h1,h2⟩:=prs_at l i p (by simpa using h)
  rw[prs_cons]
  exact⟨by rw[show (i+1)*2=i*2+1+1 by omega,List.getElem?_cons_succ,List.getElem?_cons_succ];exact h1,by rw[show (i+1)*2+1=i*2+1+1+1 by omega,List.getElem?_cons_succ,List.getElem?_cons_succ];exact h2⟩
theorem prs_one (l:List P2):∀u∈prs l,u.oneCell'=true:=by
 intro u hu
 obtain⟨p,_,hp⟩:=List.mem_flatMap.1 hu
 simp only[List.mem_cons,List.not_mem_nil,or_false] at hp
 rcases hp with rfl|rfl<;>rfl
theorem prs_app (l m:List P2):prs (l++m)=prs l++prs m:=by simp[prs]
theorem el_p2:El Tryz.prog 74 113 (.agg #[.int .i64 0,.int .i64 0]) 2 16:=⟨by kernel_rfl,by kernel_rfl,by kernel_rfl,by omega⟩
theorem eql_p2 (a b c d:Int) (w:World):(binOp .eql 113 (.agg #[.int .i64 a,.int .i64 b]) (.agg #[.int .i64 c,.int .i64 d])).run Tryz.prog w=.ok (.bool (decide (a=c∧b=d))) w:=by
 have he:Tryz.prog.plainKey 3=true:=by kernel_rfl
 obtain⟨i,hi,_⟩:=info_parts (show (Tryz.prog.info? 3).map (fun i=>(i.zero,i.size,i.bytes))=some (some (.int .i64 0),1,8) by kernel_rfl)
 rw[run_eql_struct,show (10000:Nat)=9999+1 from rfl,run_equalIn_array (P:=Tryz.prog) w 9999 _ _ (show Tryz.prog.underlying 113=some (.array 2 3) by kernel_rfl) hi]
 rw[show Tryz.prog.cellsOf 3=1 by kernel_rfl,show List.range 2=[0,1] from rfl]
 have p1:=run_part_plain (P:=Tryz.prog) w he (xs := #[.int .i64 a,.int .i64 b]) (off:=0) (v:=.int .i64 a) rfl
 have p2:=run_part_plain (P:=Tryz.prog) w he (xs := #[.int .i64 a,.int .i64 b]) (off:=1) (v:=.int .i64 b) rfl
 have p3:=run_part_plain (P:=Tryz.prog) w he (xs := #[.int .i64 c,.int .i64 d]) (off:=0) (v:=.int .i64 c) rfl
 have p4:=run_part_plain (P:=Tryz.prog) w he (xs := #[.int .i64 c,.int .i64 d]) (off:=1) (v:=.int .i64 d) rfl
 have q1:=run_equalIn_int (P:=Tryz.prog) w 9998 3 .i64 .i64 a c Tryz.underlying3
 have q2:=run_equalIn_int (P:=Tryz.prog) w 9998 3 .i64 .i64 b d Tryz.underlying3
 simp only[Op.eqItems,Nat.mul_one,Sem.run_bind,p1,p3,q1,Result.andThen_ok]
 by_cases h1:a=c
 ·subst h1
  by_cases h2:b=d
  ·subst h2;simp[p2,p4,q2]
  ·simp[h2,p2,p4,q2]
 ·simp[h1]
theorem hy_bin {P:Program} {f:Operand→Value} {oi:Oper} {w:World} (b:BinOp) (ty:TypeId) (x y:Operand) (ty2:TypeId) (ho:oi.op=.binOp b ty x y ty2) {p q v:Value} {u:Unit} (hx:f x=p) (hy:f y=q) (hg:(eqGuard b ty x y p q).run P w=.ok u w) (h:(binOp b ty p q).run P w=.ok v w):(execOp f oi).run P w=.ok (.value v) w:=by
 unfold execOp
 simp only[ho,hx,hy,Sem.run_bind,hg,h,Result.andThen_ok,Sem.run_pure]
theorem hasP_step {l:List P2} {i:Nat} {p q:P2} (h:∀j,j<i→l[j]?≠some p) (hq:l[i]?=some q) (hne:q≠p):∀j,j<i+1→l[j]?≠some p:=by
 intro j hj
 by_cases e:j=i
 ·subst e;rw[hq];exact fun e=>hne (Option.some.inj e)
 ·exact h j (by omega)
theorem hasP_end {l:List P2} {p:P2} (h:∀j,j<l.length→l[j]?≠some p):p∉l:=fun hm=>by
 obtain⟨j,hj⟩:=List.getElem?_of_mem hm
 exact h j (List.getElem?_eq_some_iff.1 hj).1 hj
theorem has_any (A:Option Addr) (n c:Nat) (l:List P2) (r k:Int) (w:World) (hr:Rd w A (prs l)) (hn:l.length=n) (hl:n≤100000000) :
  Calls Tryz.prog 72 #[.slice A n c,.agg #[.int .i64 r,.int .i64 k]] w fun en w'=>en=.returned (.bool (decide ((r,k)∈l)))∧Ext w w':=by
 obtain⟨PO,hPO⟩:∃PO:Ending→World→Prop,Hid ((fun en w'=>en=.returned (.bool (decide ((r,k)∈l)))∧Ext w w')=PO):=⟨_,Lib.hid rfl⟩
 have hy:∀i W,l[i]?=some (r,k)→Ext w W→PO (.returned (.bool true)) W:=fun i W hi hW=>by
  rw[←hPO.out];exact⟨by rw[decide_eq_true (List.mem_of_getElem? hi)],hW⟩
 have hno:∀W,(∀j,j<n→l[j]?≠some (r,k))→Ext w W→PO (.returned (.bool false)) W:=fun W h hW=>by
  rw[←hPO.out];exact⟨by rw[decide_eq_false (hasP_end (by rw[hn];exact h))],hW⟩
 rw[hPO.out]
 replace hy:=Lib.hid hy
 replace hno:=Lib.hid hno
 have Hn:=Lib.hid hn
 clear hn
 obtain⟨w1,hw1⟩:∃z,Hid (w.alloc (.cells #[.int .i64 r,.int .i64 k] 113)=z):=⟨_,rfl⟩
 obtain⟨q,hq⟩:∃z,Hid (w.heap.size=z):=⟨_,rfl⟩
 have hx1:Ext w w1:=by rw[←hw1.out];exact (Ext.refl w).alloc _
 have hb1:Blk w1 q #[.int .i64 r,.int .i64 k] 113:=by rw[←hw1.out,←hq.out];exact Blk.new w _ _
 go_enter Tryz.func72,Tryz.ntmps72
 go_wp2_with fail
 rw[hw1.out,hq.out]
 go_loopw [5,6,7,8,9,10,11,12,13,14,15,16,17] (fun v5 v6 v7 v8 v9 v10 v11 v12 v13 v14 v15 v16 v17 wr=>∃i:Nat,i≤n∧v5=.int .i64 (i:Int)∧(∀j,j<i→l[j]?≠some (r,k))∧Ext w1 wr) (fun v5 _ _ _ _ _ _ _ _ _ _ _ _ _=>n-(intOf v5).toNat)
 case atStart=>exact⟨0,Nat.zero_le _,rfl,fun j hj=>by omega,Ext.refl w1⟩
 case round=>
  obtain⟨i,hi,rfl,hno1,hx⟩:=hrel
  by_cases hin:i<n
  ·have hin':(i:Int)<(n:Int):=by omega
   obtain⟨p,hme⟩:∃z,l[i]?=some z:=⟨_,List.getElem?_eq_getElem (by have:=Hn.out;omega)⟩
   obtain⟨h0,h1⟩:=prs_at l i p hme
   obtain⟨b,off,rfl,hzz,hc⟩:=(hr.ext (hx1.trans hx)).at_ (k:=i*2) (by rw[prs_len];have:=Hn.out;omega)
   clear hzz
   have c0:∀W,Ext wr W→W.cell? ⟨b,off+i*2,none⟩=some (.int .i64 p.1):=fun W hW=>hW.cell (hc _ _ h0)
   have c1:∀W,Ext wr W→W.cell? ⟨b,off+i*2+1,none⟩=some (.int .i64 p.2):=fun W hW=>hW.cell (hc _ _ h1)
   have d0:∀W,Ext wr W→W.cell? ⟨q,0,none⟩=some (.int .i64 r):=fun W hW=>by have:=((hb1.ext hx).ext hW).cell 0;simpa using this
   have d1:∀W,Ext wr W→W.cell? ⟨q,1,none⟩=some (.int .i64 k):=fun W hW=>by have:=((hb1.ext hx).ext hW).cell 1;simpa using this
   obtain⟨p1,p2⟩:=p
   simp only at c0 c1
   have Hme:=Lib.hid hme
   replace hno1:=Lib.hid hno1
   clear hc h0 h1 hme
   by_cases he:p1=r∧p2=k
   ·obtain⟨rfl,rfl⟩:=he
    have hf:=fun W (hW:Ext wr W)=>hy.out i W Hme.out (hx1.trans (hx.trans hW))
    replace hf:=Lib.hid hf
    go_wp2_with fail
    refine Reg.startE (by kernel_rfl) ?_
    iterate 5 ((first|refine Reg.tn ?_|refine Reg.sn ?_);(try simp only[Reg.nn]))
    refine Reg.tk 5 (hy:=fun W hW=>hy_bin .eql 113 (.tmp 15) (.tmp 16) 113 rfl rfl rfl (run_eqGuard_agg W .eql 113 (.tmp 15) (.tmp 16) _ _ (by kernel_rfl)) (eql_p2 _ _ _ _ W)) ?_;(try simp only[Reg.nn])
    refine Reg.fin (by kernel_rfl) (fun W hW=>?_)
    simp only[and_self,decide_true]
    go_wp2_with fail
    exact hf.out W hW
   ·have hst:=hasP_step hno1.out Hme.out (fun e=>he (by simpa using e))
    replace hst:=Lib.hid hst
    clear hno1
    go_wp2_with fail
    refine Reg.startE (by kernel_rfl) ?_
    iterate 5 ((first|refine Reg.tn ?_|refine Reg.sn ?_);(try simp only[Reg.nn]))
    refine Reg.tk 5 (hy:=fun W hW=>hy_bin .eql 113 (.tmp 15) (.tmp 16) 113 rfl rfl rfl (run_eqGuard_agg W .eql 113 (.tmp 15) (.tmp 16) _ _ (by kernel_rfl)) (eql_p2 _ _ _ _ W)) ?_;(try simp only[Reg.nn])
    refine Reg.fin (by kernel_rfl) (fun W hW=>?_)
    rw[decide_eq_false he]
    replace hW:=hx.trans hW
    clear he
    go_wp2_with fail
    go_roundw
    case rel=>exact⟨i+1,by omega,by go_num,hst.out,hW⟩
    case measure=>simp[intOf]<;>omega
  ·obtain rfl:i=n:=by omega
   have hf:=hno.out wr hno1 (hx1.trans hx)
   clear hno1
   go_wp2_with fail
   exact hf
structure XX (w0:World) (qx:Nat) (vR vW:Value) (s:Qs) (nV aV:Value) (W:World):Prop where
 blk:Blk W qx #[vR,vW,nV,aV] 76
 no:W.ownsRow w0.heap.size 113 2 nV s.1.length (prs s.1)
 ask:W.ownsRow w0.heap.size 113 2 aV s.2.length (prs s.2)
 dis:nV.ownBlock=none∨nV.ownBlock≠aV.ownBlock
 x:Ext w0 W
 hq:w0.heap.size≤qx
def XS (qx:Nat) (nV aV:Value) (k:Nat):Prop:=k=qx∨nV.ownBlock=some k∨aV.ownBlock=some k
structure XF (qx:Nat) (nV aV:Value) (W:World) (nV' aV':Value) (W':World):Prop where
 c:Chg (XS qx nV aV) W W'
 n:nV'.ownBlock=nV.ownBlock∨∀k,nV'.ownBlock=some k→W.heap.size≤k
 a:aV'.ownBlock=aV.ownBlock∨∀k,aV'.ownBlock=some k→W.heap.size≤k
section
variable {w0:World} {qx:Nat} {vR vW:Value} {s:Qs} {nV aV nV' aV' nV2 aV2:Value} {W W' W2:World}
theorem XF.ofExt (h:Ext W W'):XF qx nV aV W nV aV W':=⟨Chg.ofExt h,.inl rfl,.inl rfl⟩
theorem XF.trans (h:XF qx nV aV W nV' aV' W') (k:XF qx nV' aV' W' nV2 aV2 W2):XF qx nV aV W nV2 aV2 W2:=by
 refine⟨h.c.trans k.c (fun i hi ht=>?_),?_,?_⟩
 ·rcases ht with ht|ht|ht
  ·exact .inl ht
  ·rcases h.n with e|e
   ·exact .inr (.inl (e ▸ ht))
   ·have:=e i ht;omega
  ·rcases h.a with e|e
   ·exact .inr (.inr (e ▸ ht))
   ·have:=e i ht;omega
 ·rcases k.n with e|e
  ·rcases h.n with e2|e2
   ·exact .inl (e.trans e2)
   ·exact .inr fun i hi=>e2 i (e ▸ hi)
  ·exact .inr fun i hi=>Nat.le_trans h.c.size (e i hi)
 ·rcases k.a with e|e
  ·rcases h.a with e2|e2
   ·exact .inl (e.trans e2)
   ·exact .inr fun i hi=>e2 i (e ▸ hi)
  ·exact .inr fun i hi=>Nat.le_trans h.c.size (e i hi)
theorem XX.ext (h:XX w0 qx vR vW s nV aV W) (hx:Ext W W'):XX w0 qx vR vW s nV aV W':=⟨h.blk.ext hx,own_ext h.no hx,own_ext h.ask hx,h.dis,h.x.trans hx,h.hq⟩
theorem XX.cells (h:XX w0 qx vR vW s nV aV W):W.cell? ⟨qx,0,none⟩=some vR∧W.cell? ⟨qx,1,none⟩=some vW∧W.cell? ⟨qx,2,none⟩=some nV∧W.cell? ⟨qx,3,none⟩=some aV:=by
 have h0:=h.blk.cell 0
 have h1:=h.blk.cell 1
 have h2:=h.blk.cell 2
 have h3:=h.blk.cell 3
 simp only[List.getElem?_toArray,List.getElem?_cons_zero,List.getElem?_cons_succ] at h0 h1 h2 h3
 exact⟨h0,h1,h2,h3⟩
theorem XF.blk (h:XF qx nV aV W nV' aV' W') (hX:XX w0 qx vR vW s nV aV W) {q:Nat} {cs:Array Value} {t:TypeId} (hb:Blk W q cs t) (h1:t≠76) (h2:nV.ownBlock≠some q) (h3:aV.ownBlock≠some q):Blk W' q cs t:=by
 refine h.c.blk hb ?_
 rintro (e|e|e)
 ·subst e
  have:=hX.blk
  unfold Blk at this hb
  rw[hb] at this
  injection this with this
  injection this with _ e
  exact h1 e
 ·exact h2 e
 ·exact h3 e
theorem XF.blk' (h:XF qx nV aV W nV' aV' W') (hX:XX w0 qx vR vW s nV aV W) {q:Nat} {cs:Array Value} {t:TypeId} (hb:Blk W q cs t) (h1:t≠76) (h2:t≠113):Blk W' q cs t:=
 h.blk hX hb h1 (fun e=>own_ne_blk hX.no hb (fun x=>h2 x.symm) e.symm) (fun e=>own_ne_blk hX.ask hb (fun x=>h2 x.symm) e.symm)
theorem XX.dis' (h:XX w0 qx vR vW s nV aV W):aV.ownBlock=none∨aV.ownBlock≠nV.ownBlock:=by
 rcases h.dis with e|e
 ·cases hv:aV.ownBlock with
  | none=>exact .inl rfl
  | some k=>exact .inr (by rw[e];simp)
 ·exact .inr fun x=>e x.symm
theorem XX.ask_push (h:XX w0 qx vR vW s nV aV W) {p:P2} (ho:W'.ownsRow w0.heap.size 113 2 aV' (s.2.length+1) (prs s.2++prs [p])) (hg:W.grownBy W' aV.ownBlock) (hv:aV'.ownBlock=aV.ownBlock∨aV'.ownBlock=some W.heap.size) (hx:Ext W' W2) :
  XX w0 qx vR vW (s.1,s.2++[p]) nV aV' (W2.setCell ⟨qx,3,none⟩ aV')∧XF qx nV aV W nV aV' (W2.setCell ⟨qx,3,none⟩ aV'):=by
 have hb:=(h.blk.grown hg (own_ne_blk h.ask h.blk (by decide))).ext hx
 refine⟨⟨by simpa using hb.set 3 aV',own_setCell (own_ext (h.no.kept hg h.dis) hx) hb (by decide) _,own_setCell (own_ext (by rw[List.length_append,prs_app];exact ho) hx) hb (by decide) _,?_,(((h.x.then_grown hg (fun k hk=>(h.ask.lt k hk).1)).trans hx).setCell h.hq _),h.hq⟩,?_⟩
 ·rcases hv with hv|hv
  ·rw[hv];exact h.dis
  ·cases hn:nV.ownBlock with
   | none=>exact .inl rfl
   | some k=>
    refine .inr fun e=>?_
    rw[hv] at e
    have:=(h.no.lt k hn).2
    injection e with e
    omega
 ·have c1:Chg (XS qx nV aV) W W2:=((Chg.ofGrown hg).mono (fun i _ e=>.inr (.inr e))).trans (Chg.ofExt (S:=fun _=>False) hx) (fun _ _ x=>x.elim)
  refine⟨c1.set (.inl (.inl rfl)) _,.inl rfl,?_⟩
  rcases hv with hv|hv
  ·exact .inl hv
  ·exact .inr fun k hk=>by rw[hv] at hk;injection hk with hk;omega
theorem XX.no_push (h:XX w0 qx vR vW s nV aV W) {p:P2} (ho:W'.ownsRow w0.heap.size 113 2 nV' (s.1.length+1) (prs s.1++prs [p])) (hg:W.grownBy W' nV.ownBlock) (hv:nV'.ownBlock=nV.ownBlock∨nV'.ownBlock=some W.heap.size) (hx:Ext W' W2) :
  XX w0 qx vR vW (s.1++[p],s.2) nV' aV (W2.setCell ⟨qx,2,none⟩ nV')∧XF qx nV aV W nV' aV (W2.setCell ⟨qx,2,none⟩ nV'):=by
 have hb:=(h.blk.grown hg (own_ne_blk h.no h.blk (by decide))).ext hx
 refine⟨⟨by simpa using hb.set 2 nV',own_setCell (own_ext (by rw[List.length_append,prs_app];exact ho) hx) hb (by decide) _,own_setCell (own_ext (h.ask.kept hg h.dis') hx) hb (by decide) _,?_,(((h.x.then_grown hg (fun k hk=>(h.no.lt k hk).1)).trans hx).setCell h.hq _),h.hq⟩,?_⟩
 ·rcases hv with hv|hv
  ·rw[hv];exact h.dis
  ·refine .inr fun e=>?_
   rw[hv] at e
   have:=(h.ask.lt _ e.symm).2
   omega
 ·have c1:Chg (XS qx nV aV) W W2:=((Chg.ofGrown hg).mono (fun i _ e=>.inr (.inl e))).trans (Chg.ofExt (S:=fun _=>False) hx) (fun _ _ x=>x.elim)
  refine⟨c1.set (.inl (.inl rfl)) _,?_,.inl rfl⟩
  rcases hv with hv|hv
  ·exact .inl hv
  ·exact .inr fun k hk=>by rw[hv] at hk;injection hk with hk;omega
end
def ReadsC (a b:List Ne) (vR vW:Value) (w0:World) (qx f:Nat):Prop:=∀(i k:Nat) (s:Qs) (nV aV:Value) (W:World),i<a.length→k<b.length→Fine a b s→a.length*b.length+1≤f+s.2.length→XX w0 qx vR vW s nV aV W→
 Calls Tryz.prog 51 #[.pointer (some ⟨qx,0,none⟩),.int .i64 (i:Int),.int .i64 (k:Int)] W fun en W'=>∃nV' aV',en=.returned (.bool (readsQ a b f i k s).1)∧XX w0 qx vR vW (readsQ a b f i k s).2 nV' aV' W'∧XF qx nV aV W nV' aV' W'
def HoldsC (a b:List Ne) (vR vW:Value) (w0:World) (qx f:Nat):Prop:=∀(i k:Nat) (s:Qs) (nV aV:Value) (W:World),i<a.length→k<b.length→Fine a b s→a.length*b.length+1≤f+s.2.length→XX w0 qx vR vW s nV aV W→
 Calls Tryz.prog 73 #[.pointer (some ⟨qx,0,none⟩),.int .i64 (i:Int),.int .i64 (k:Int)] W fun en W'=>∃nV' aV',en=.returned (.bool (holdsQ (readsQ a b f) (a.getD i neD) (b.getD k neD) i k s).1)∧XX w0 qx vR vW (holdsQ (readsQ a b f) (a.getD i neD) (b.getD k neD) i k s).2 nV' aV' W'∧XF qx nV aV W nV' aV' W'
theorem getD_mem {l:List Ne} {i:Nat} (h:i<l.length):l.getD i neD∈l:=by
 rw[List.getD,List.getElem?_eq_getElem h];exact List.getElem_mem h
theorem fine_push {a b:List Ne} {s:Qs} {i k:Nat} (hs:Fine a b s) (hi:i<a.length) (hk:k<b.length) (h2:((i:Int),(k:Int))∉s.2):Fine a b (s.1,s.2++[((i:Int),(k:Int))]):=⟨hs.nd1,by
 show (s.2++[((i:Int),(k:Int))]).Nodup
 rw[List.nodup_append]
 exact⟨hs.nd2,by simp,fun u hu v hv e=>by
  rw[List.mem_singleton] at hv
  exact h2 (by rw[←hv,←e];exact hu)⟩,hs.r1,fun u hu=>by
 rcases List.mem_append.1 hu with hu|hu
 ·exact hs.r2 u hu
 ·rw[List.mem_singleton] at hu;rw[hu];exact⟨i,k,rfl,hi,hk⟩,hs.g⟩
set_option maxHeartbeats 3000000 in
theorem reads_of {a b:List Ne} {vR vW:Value} {w0:World} {qx f:Nat} (hla:a.length≤5000) (hlb:b.length≤5000) (hwa:∀d∈a,WE a.length d) (hwb:∀d∈b,WE b.length d) (hH:HoldsC a b vR vW w0 qx f):ReadsC a b vR vW w0 qx (f+1):=by
 intro i k s nV aV w hi hk hs hf hX
 obtain⟨PO,hPO⟩:∃PO:Ending→World→Prop,Hid ((fun en W'=>∃nV' aV',en=.returned (.bool (readsQ a b (f+1) i k s).1)∧XX w0 qx vR vW (readsQ a b (f+1) i k s).2 nV' aV' W'∧XF qx nV aV w nV' aV' W')=PO):=⟨_,Lib.hid rfl⟩
 rw[hPO.out]
 have hl1:=length_rng hs.nd1 hs.r1
 have hl2:=length_rng hs.nd2 hs.r2
 have hlm:a.length*b.length≤5000*5000:=Nat.mul_le_mul hla hlb
 obtain⟨o,ho⟩:∃z,Hid (holdsQ (readsQ a b f) (a.getD i neD) (b.getD k neD) i k (s.1,s.2++[((i:Int),(k:Int))])=z):=⟨_,Lib.hid rfl⟩
 have hno6:((i:Int),(k:Int))∉s.2→o.2.1.length≤5000*5000:=fun h2=>by
  have h3:=(holdsQ_ok (f:=f) (q:=readsQ a b f) (readsQ_ok hwa hwb f) (hwa _ (getD_mem hi)) (hwb _ (getD_mem hk)) hi hk _ (fine_push hs hi hk h2) (by
   show _≤f+(s.2++[((i:Int),(k:Int))]).length
   rw[List.length_append,List.length_singleton];omega)).1
  rw[ho.out] at h3
  exact Nat.le_trans (length_rng h3.nd1 h3.r1) hlm
 have fin1:((i:Int),(k:Int))∈s.1→∀W,Ext w W→PO (.returned (.bool false)) W:=fun hm W hW=>by
  rw[←hPO.out]
  have e:readsQ a b (f+1) i k s=(false,s):=by unfold readsQ;rw[if_pos hm]
  rw[e]
  exact⟨_,_,rfl,hX.ext hW,XF.ofExt hW⟩
 have fin2:((i:Int),(k:Int))∉s.1→((i:Int),(k:Int))∈s.2→∀W,Ext w W→PO (.returned (.bool true)) W:=fun h1 hm W hW=>by
  rw[←hPO.out]
  have e:readsQ a b (f+1) i k s=(true,s):=by unfold readsQ;rw[if_neg h1,if_pos hm]
  rw[e]
  exact⟨_,_,rfl,hX.ext hW,XF.ofExt hW⟩
 have fin3:((i:Int),(k:Int))∉s.1→((i:Int),(k:Int))∉s.2→o.1=true→∀nV' aV' W,XX w0 qx vR vW o.2 nV' aV' W→XF qx nV aV w nV' aV' W→PO (.returned (.bool true)) W:=fun h1 h2 h3 nV' aV' W hW hF=>by
  rw[←hPO.out]
  have e:readsQ a b (f+1) i k s=o:=by
   unfold readsQ
   rw[if_neg h1,if_neg h2]
   simp only[Int.toNat_natCast,ho.out]
   rw[if_pos h3]
  rw[e,h3]
  exact⟨_,_,rfl,hW,hF⟩
 have fin4:((i:Int),(k:Int))∉s.1→((i:Int),(k:Int))∉s.2→o.1=false→∀nV' aV' W,XX w0 qx vR vW (o.2.1++[((i:Int),(k:Int))],o.2.2) nV' aV' W→XF qx nV aV w nV' aV' W→PO (.returned (.bool false)) W:=fun h1 h2 h3 nV' aV' W hW hF=>by
  rw[←hPO.out]
  have e:readsQ a b (f+1) i k s=(false,(o.2.1++[((i:Int),(k:Int))],o.2.2)):=by
   unfold readsQ
   rw[if_neg h1,if_neg h2]
   simp only[Int.toNat_natCast,ho.out]
   rw[if_neg (by rw[h3];simp)]
  rw[e]
  exact⟨_,_,rfl,hW,hF⟩
 obtain⟨w1,hw1⟩:∃z,Hid (w.alloc (.cells #[.int .i64 (i:Int),.int .i64 (k:Int)] 113)=z):=⟨_,rfl⟩
 obtain⟨q,hq⟩:∃z,Hid (w.heap.size=z):=⟨_,rfl⟩
 have hx1:Ext w w1:=by rw[←hw1.out];exact (Ext.refl w).alloc _
 have hb1:Blk w1 q #[.int .i64 (i:Int),.int .i64 (k:Int)] 113:=by rw[←hw1.out,←hq.out];exact Blk.new w _ _
 have hnq:nV.ownBlock≠some q:=fun e=>by have:=(hX.no.lt _ e).2;have:=hq.out;omega
 have haq:aV.ownBlock≠some q:=fun e=>by have:=(hX.ask.lt _ e).2;have:=hq.out;omega
 obtain⟨An,cn,en,_,_,hrn,_⟩:=Rd.of_own hX.no
 obtain⟨Aa,ca,ea,_,_,hra,_⟩:=Rd.of_own hX.ask
 have hhN:=fun W (hW:Ext w W)=>has_any An s.1.length cn s.1 i k W (hrn.ext hW) rfl (by omega)
 have hhA:=fun W (hW:Ext w W)=>has_any Aa s.2.length ca s.2 i k W (hra.ext hW) rfl (by omega)
 obtain⟨N1,hN1⟩:∃z,Hid (s.1.length=z):=⟨_,rfl⟩
 obtain⟨N2,hN2⟩:∃z,Hid (s.2.length=z):=⟨_,rfl⟩
 rw[hN1.out] at en hl1
 rw[hN2.out] at ea hl2
 simp only[hN1.out] at hhN
 simp only[hN2.out] at hhA
 have x2:∀W,Ext w W→W.cell? ⟨qx,2,none⟩=some (.slice An N1 cn):=fun W hW=>by rw[(hX.ext hW).cells.2.2.1,en]
 have x3:∀W,Ext w W→W.cell? ⟨qx,3,none⟩=some (.slice Aa N2 ca):=fun W hW=>by rw[(hX.ext hW).cells.2.2.2,ea]
 have y2:∀W,Ext w1 W→W.cell? ⟨qx,2,none⟩=some (.slice An N1 cn):=fun W hW=>x2 W (hx1.trans hW)
 have p0:∀W,Ext w1 W→W.cell? ⟨q,0,none⟩=some (.int .i64 (i:Int)):=fun W hW=>by have:=(hb1.ext hW).cell 0;simpa using this
 have p1:∀W,Ext w1 W→W.cell? ⟨q,1,none⟩=some (.int .i64 (k:Int)):=fun W hW=>by have:=(hb1.ext hW).cell 1;simpa using this
 have hX0:=hX
 replace hX:=Lib.hid hX0
 clear hX0 hrn hra
 replace fin1:=Lib.hid fin1
 replace hno6:=Lib.hid hno6
 replace fin2:=Lib.hid fin2
 replace fin3:=Lib.hid fin3
 replace fin4:=Lib.hid fin4
 replace hhN:=Lib.hid hhN
 replace hhA:=Lib.hid hhA
 replace x3:=Lib.hid x3
 replace hnq:=Lib.hid hnq
 replace haq:=Lib.hid haq
 have Hs:=Lib.hid hs
 have Hf:=Lib.hid hf
 have Hi:=Lib.hid hi
 have Hk:=Lib.hid hk
 replace hH:=Lib.hid hH
 clear hs hf hi hk x2
 go_enter Tryz.func51,Tryz.ntmps51
 go_wp2_with fail
 rw[hw1.out,hq.out]
 refine Reg.startE (by kernel_rfl) ?_
 iterate 5 ((first|refine Reg.tn ?_|refine Reg.sn ?_);(try simp only[Reg.nn]))
 refine Reg.onlyE 5 _ rfl (by kernel_rfl) (by decide) (by rfl) (fun W hW K hK=>?_);go_simp
 refine (hhN.out W (hx1.trans hW)).mono ?_
 rintro e wX ⟨rfl,hX1⟩
 have hq1:=hW.trans hX1
 refine hK.out _ _ (hX1) ?_;clear hK K;(try simp only[Reg.nn])
 refine Reg.fin (by kernel_rfl) (fun W hW=>?_)
 replace hW:=hq1.trans hW
 clear hq1 hX1 wX
 by_cases h1:((i:Int),(k:Int))∈s.1
 ·rw[decide_eq_true h1]
  have hf:=fin1.out h1 W (hx1.trans hW)
  go_wp2_with fail
  exact hf
 ·rw[decide_eq_false h1]
  replace h1:=Lib.hid h1
  obtain⟨w2,hw2⟩:∃z,z=W:=⟨_,rfl⟩
  rw[←hw2] at hW ⊢
  clear hw2 W
  have y3:∀W,Ext w2 W→W.cell? ⟨qx,3,none⟩=some (.slice Aa N2 ca):=fun W hW2=>x3.out W (hx1.trans (hW.trans hW2))
  have r0:∀W,Ext w2 W→W.cell? ⟨q,0,none⟩=some (.int .i64 (i:Int)):=fun W hW2=>p0 W (hW.trans hW2)
  have r1:∀W,Ext w2 W→W.cell? ⟨q,1,none⟩=some (.int .i64 (k:Int)):=fun W hW2=>p1 W (hW.trans hW2)
  clear p0 p1 y2
  have hx2:=hx1.trans hW
  have hx12:=hW
  clear hW
  go_wp2_with fail
  refine Reg.startE (by kernel_rfl) ?_
  iterate 5 ((first|refine Reg.tn ?_|refine Reg.sn ?_);(try simp only[Reg.nn]))
  refine Reg.onlyE 5 _ rfl (by kernel_rfl) (by decide) (by rfl) (fun W hW K hK=>?_);go_simp
  refine (hhA.out W (hx2.trans hW)).mono ?_
  rintro e wX ⟨rfl,hX1⟩
  have hq1:=hW.trans hX1
  refine hK.out _ _ (hX1) ?_;clear hK K;(try simp only[Reg.nn])
  refine Reg.fin (by kernel_rfl) (fun W hW=>?_)
  replace hW:=hq1.trans hW
  clear hq1 hX1 wX
  by_cases h2:((i:Int),(k:Int))∈s.2
  ·rw[decide_eq_true h2]
   have hf:=fin2.out h1.out h2 W (hx2.trans hW)
   go_wp2_with fail
   exact hf
  ·rw[decide_eq_false h2]
   replace h2:=Lib.hid h2
   obtain⟨w3,hw3⟩:∃z,z=W:=⟨_,rfl⟩
   rw[←hw3] at hW ⊢
   clear hw3 W
   have hx3:=hx2.trans hW
   have hX3:=hX.out.ext hx3
   have hb3:=hb1.ext (hx12.trans hW)
   clear y3 r0 r1 hW
   rw[ea] at hX3
   have hqa:¬(Value.slice Aa N2 ca).ownBlock=some qx:=fun e=>own_ne_blk hX3.ask hX3.blk (by decide) e.symm
   have haq2:¬(Value.slice Aa N2 ca).ownBlock=some q:=by rw[←ea];exact haq.out
   go_wp2_with fail
   obtain⟨S,hS⟩:∃z:Nat→Prop,Hid (z=fun k=>(Value.slice Aa N2 ca).ownBlock=some k):=⟨_,rfl⟩
   have hRl:=Reg.rl_chg S
   refine Reg.startX (R:=Chg S) (by kernel_rfl) ?_
   generalize hwd:World.drew w3=wd
   have hxd:Ext w3 wd:=by rw[←hwd];exact (Ext.refl _).drew
   clear hwd
   have hXd:=hX3.ext hxd
   have hbd:=hb3.ext hxd
   have z3:∀W,Chg S wd W→W.cell? ⟨qx,3,none⟩=some (.slice Aa N2 ca):=fun W hW2=>hW2.cell hXd.cells.2.2.2 (by rw[hS.out];exact hqa)
   have s0:∀W,Chg S wd W→W.cell? ⟨q,0,none⟩=some (.int .i64 (i:Int)):=fun W hW2=>by have:=(hW2.blk hbd (by rw[hS.out];exact haq2)).cell 0;simpa using this
   have s1:∀W,Chg S wd W→W.cell? ⟨q,1,none⟩=some (.int .i64 (k:Int)):=fun W hW2=>by have:=(hW2.blk hbd (by rw[hS.out];exact haq2)).cell 1;simpa using this
   have hX3':=hX3
   clear hX3
   iterate 6 ((first|refine Reg.un hRl ?_|refine Reg.vn hRl ?_);(try simp only[Reg.nn]))
   clear s0 s1 z3 hqa haq2
   refine Reg.onlyX 6 _ rfl (by kernel_rfl) (by decide) (by rfl) (fun K hK=>?_);go_simp
   obtain⟨g,hg⟩:∃z,Hid (wd.heap.size=z):=⟨_,rfl⟩
   obtain⟨wa,hwa⟩:∃z,Hid (wd.alloc (.cells #[.int .i64 (i:Int),.int .i64 (k:Int)] 113)=z):=⟨_,rfl⟩
   have hrv:Rd wa (some ⟨g,0,none⟩) (prs [((i:Int),(k:Int))]):=by rw[←hwa.out,←hg.out];exact Rd.of_block wd 113 (0,0) rfl
   have hxa:Ext wd wa:=by rw[←hwa.out];exact (Ext.refl _).alloc _
   rw[hg.out,hwa.out]
   refine hK.out _ _ (Chg.ofExt hxa) ?_;clear hK K;(try simp only[Reg.nn])
   refine Reg.onlyX 7 _ rfl (by kernel_rfl) (by decide) (by rfl) (fun K hK=>?_)
   have hX4:=hXd.ext hxa
   have ho4:=hX4.ask
   rw[hN2.out] at ho4
   refine wp_app el_p2 wa (.tmp 27) (.tmp 29) rfl w0.heap.size (.slice Aa N2 ca) N2 (prs s.2) rfl ho4 (some ⟨g,0,none⟩) 1 1 (prs [((i:Int),(k:Int))]) rfl hrv rfl (fun h=>by cases h) (prs_one _) (by omega) (by omega) hX4.x.size (fun aV' W' ho' hg' hv'=>?_)
   have hbk:=hX4.blk.grown hg' (own_ne_blk hX4.ask hX4.blk (by decide))
   have hxw:=hxd.trans hxa
   have haq':aV'.ownBlock≠some q:=by
    rcases hv' with e|e
    ·rw[e,←ea];exact haq.out
    ·rw[e]
     intro e2
     injection e2 with e2
     have:=(hb3.ext hxw).lt
     omega
   have hpu:=hX4.ask_push (p:=((i:Int),(k:Int))) (by rw[hN2.out];exact ho') hg' hv' (Ext.refl W')
   obtain⟨A9,c9,e9,jj⟩:=Rd.of_own ho'
   subst e9
   have k3:=hbk.cell 3
   have f3:=hbk.frozen 3
   simp only[List.getElem?_toArray,List.getElem?_cons_zero,List.getElem?_cons_succ] at k3
   replace hpu:=Lib.hid hpu
   replace hX4:=Lib.hid hX4
   refine hK.out _ _ (by rw[hS.out];exact Chg.ofGrown hg') ?_;clear hK K;(try simp only[Reg.nn])
   clear jj ho4 hbk ho' hg' hv' hrv
   iterate 2 ((first|refine Reg.un hRl ?_|refine Reg.vn hRl ?_);(try simp only[Reg.nn]))
   refine Reg.lastX 10 _ rfl (by kernel_rfl) (by kernel_rfl) (by kernel_rfl) (by decide) (by rfl) (fun K hK=>?_)
   go_simp
   refine hK.out _ _ ?_;clear hK K;(try simp only[Reg.nn])
   clear hS hRl k3 f3
   replace hpu:=hpu.out
   obtain⟨hX5,hF5⟩:=hpu
   generalize W'.setCell _ _=w5 at hX5 hF5 ⊢
   have hF05:=(XF.ofExt (qx:=qx) (nV:=nV) (aV:=.slice Aa N2 ca) (hx3.trans hxw)).trans hF5
   have hb5:=hF5.blk hX4.out (hb3.ext hxw) (by decide) hnq.out (by rw[←ea];exact haq.out)
   have hs5:=fine_push Hs.out Hi.out Hk.out h2.out
   have hcall:=hH.out i k (s.1,s.2++[((i:Int),(k:Int))]) nV _ w5 Hi.out Hk.out hs5 (by have:=Hf.out;rw[List.length_append,List.length_singleton];omega) hX5
   simp only[ho.out] at hcall
   rw[←ea] at hF05
   clear hF5 hs5
   replace hX5:=Lib.hid hX5
   replace hF05:=Lib.hid hF05
   replace hb5:=Lib.hid hb5
   replace haq':=Lib.hid haq'
   go_wp2_with fail
   refine hcall.mono ?_
   rintro e w6 ⟨nV6,aV6,rfl,hX6,hF6⟩
   clear hcall
   have hF06:=hF05.out.trans hF6
   cases ho1:o.1 with
   | true=>
    have hf:=fin3.out h1.out h2.out ho1 _ _ w6 hX6 hF06
    clear hF6 hX6 hF06
    go_wp2_with fail
    exact hf
   | false=>
    have hb6:=hF6.blk hX5.out hb5.out (by decide) hnq.out haq'.out
    have hn6:nV6.ownBlock≠some q:=by
     rcases hF6.n with e|e
     ·rw[e];exact hnq.out
     ·intro e2;have:=e _ e2;have:=hb5.out.lt;omega
    obtain⟨A6,c6,e6,_,_,_,_⟩:=Rd.of_own hX6.no
    have lno:=hno6.out h2.out
    obtain⟨N6,hN6⟩:∃z,Hid (o.2.1.length=z):=⟨_,rfl⟩
    rw[hN6.out] at lno e6
    subst e6
    have hqn:¬(Value.slice A6 N6 c6).ownBlock=some qx:=fun e=>own_ne_blk hX6.no hX6.blk (by decide) e.symm
    clear hF6
    replace hF06:=Lib.hid hF06
    go_wp2_with fail
    obtain⟨S,hS⟩:∃z:Nat→Prop,Hid (z=fun k=>(Value.slice A6 N6 c6).ownBlock=some k):=⟨_,rfl⟩
    have hRl:=Reg.rl_chg S
    refine Reg.startX (R:=Chg S) (by kernel_rfl) ?_
    generalize hwd:World.drew w6=wd
    have hxd:Ext w6 wd:=by rw[←hwd];exact (Ext.refl _).drew
    clear hwd
    have hXd:=hX6.ext hxd
    have hbd:=hb6.ext hxd
    have z3:∀W,Chg S wd W→W.cell? ⟨qx,2,none⟩=some (.slice A6 N6 c6):=fun W hW2=>hW2.cell hXd.cells.2.2.1 (by rw[hS.out];exact hqn)
    have s0:∀W,Chg S wd W→W.cell? ⟨q,0,none⟩=some (.int .i64 (i:Int)):=fun W hW2=>by have:=(hW2.blk hbd (by rw[hS.out];exact hn6)).cell 0;simpa using this
    have s1:∀W,Chg S wd W→W.cell? ⟨q,1,none⟩=some (.int .i64 (k:Int)):=fun W hW2=>by have:=(hW2.blk hbd (by rw[hS.out];exact hn6)).cell 1;simpa using this
    clear hX6
    iterate 6 ((first|refine Reg.un hRl ?_|refine Reg.vn hRl ?_);(try simp only[Reg.nn]))
    clear s0 s1 z3 hqn
    refine Reg.onlyX 6 _ rfl (by kernel_rfl) (by decide) (by rfl) (fun K hK=>?_);go_simp
    obtain⟨g,hg⟩:∃z,Hid (wd.heap.size=z):=⟨_,rfl⟩
    obtain⟨wa,hwa⟩:∃z,Hid (wd.alloc (.cells #[.int .i64 (i:Int),.int .i64 (k:Int)] 113)=z):=⟨_,rfl⟩
    have hrv:Rd wa (some ⟨g,0,none⟩) (prs [((i:Int),(k:Int))]):=by rw[←hwa.out,←hg.out];exact Rd.of_block wd 113 (0,0) rfl
    have hxa:Ext wd wa:=by rw[←hwa.out];exact (Ext.refl _).alloc _
    rw[hg.out,hwa.out]
    refine hK.out _ _ (Chg.ofExt hxa) ?_;clear hK K;(try simp only[Reg.nn])
    refine Reg.onlyX 7 _ rfl (by kernel_rfl) (by decide) (by rfl) (fun K hK=>?_)
    have hX4:=hXd.ext hxa
    have ho4:=hX4.no
    rw[hN6.out] at ho4
    refine wp_app el_p2 wa (.tmp 41) (.tmp 43) rfl w0.heap.size (.slice A6 N6 c6) N6 (prs o.2.1) rfl ho4 (some ⟨g,0,none⟩) 1 1 (prs [((i:Int),(k:Int))]) rfl hrv rfl (fun h=>by cases h) (prs_one _) (by omega) (by omega) hX4.x.size (fun nV' W' ho' hg' hv'=>?_)
    have hbk:=hX4.blk.grown hg' (own_ne_blk hX4.no hX4.blk (by decide))
    have hxw:=hxd.trans hxa
    have hpu:=hX4.no_push (p:=((i:Int),(k:Int))) (by rw[hN6.out];exact ho') hg' hv' (Ext.refl W')
    obtain⟨A9,c9,e9,jj⟩:=Rd.of_own ho'
    subst e9
    have k3:=hbk.cell 2
    have f3:=hbk.frozen 2
    simp only[List.getElem?_toArray,List.getElem?_cons_zero,List.getElem?_cons_succ] at k3
    have hF7:=hF06.out.trans ((XF.ofExt hxw).trans hpu.2)
    have hf:=fin4.out h1.out h2.out ho1 _ _ _ hpu.1 hF7
    refine hK.out _ _ (by rw[hS.out];exact Chg.ofGrown hg') ?_;clear hK K;(try simp only[Reg.nn])
    clear jj ho4 hbk ho' hg' hv' hrv hpu hF7
    iterate 2 ((first|refine Reg.un hRl ?_|refine Reg.vn hRl ?_);(try simp only[Reg.nn]))
    refine Reg.lastX 10 _ rfl (by kernel_rfl) (by kernel_rfl) (by kernel_rfl) (by decide) (by rfl) (fun K hK=>?_)
    go_simp
    refine hK.out _ _ ?_;clear hK K;(try simp only[Reg.nn])
    clear hS hRl k3 f3
    go_wp2_with fail
    exact hf
end Rx
end Go.Proofs.YtmaoochjbpohdaaGreatDoor
