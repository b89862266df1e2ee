/- resolve: the document's way of asking pairs, where what is being asked is taken for such: it answers by the greatest relation: plain. -/
import Derived.Test.YtmaoochjbpohdaaGreatDoorQbX
set_option linter.unusedVariables false
set_option linter.unusedSimpArgs false
set_option maxRecDepth 100000
set_option maxHeartbeats 1000000
namespace Go.Proofs.YtmaoochjbpohdaaGreatDoor.Rv
open Lx Pr
abbrev P2:=Int×Int
abbrev Qs:=List P2×List P2
def allQ (q:Int→Qs→Bool×Qs):List Int→Qs→Bool×Qs
 | [],s=>(true,s)
 | x::l,s=>if (q x s).1=true then allQ q l (q x s).2 else (false,(q x s).2)
def anyQ (q:Int→Qs→Bool×Qs):List Int→Qs→Bool×Qs
 | [],s=>(false,s)
 | x::l,s=>if (q x s).1=true then (true,(q x s).2) else anyQ q l (q x s).2
def lookQ (q:Int→Qs→Bool×Qs) (nm:ByteArray):List Fd→Bool→Qs→Bool×Qs
 | [],ok,s=>(ok,s)
 | g::l,ok,s=>if g.1=nm then lookQ q nm l (q g.2.2 s).1 (q g.2.2 s).2 else lookQ q nm l ok s
def fldsQ (q:Int→Int→Qs→Bool×Qs) (lb:List Fd):List Fd→Qs→Bool×Qs
 | [],s=>(true,s)
 | f::l,s=>if (lookQ (q f.2.2) f.1 lb f.2.1 s).1=true then fldsQ q lb l (lookQ (q f.2.2) f.1 lb f.2.1 s).2 else (false,(lookQ (q f.2.2) f.1 lb f.2.1 s).2)
def symsIn (xs ys:List ByteArray):Bool:=ys.all fun s=>xs.any fun t=>decide (t=s)
def holdsQ (q:Int→Int→Qs→Bool×Qs) (x y:Ne) (r w:Int) (s:Qs):Bool×Qs:=
 if y.k=8 then allQ (fun t=>q r t) y.items s
 else if x.k=8 then anyQ (fun t=>q t w) x.items s
 else if ¬x.k=y.k∨x.k<6 then (promP x.k y.k,s)
 else if x.k=6∨x.k=7 then q (x.items.getD 0 0) (y.items.getD 0 0) s
 else if ¬x.name=y.name∨(x.k=10∧¬x.size=y.size) then (false,s)
 else if x.k=9∧symsIn x.syms y.syms=false then (false,s)
 else fldsQ q y.fields x.fields s
def readsQ (a b:List Ne):Nat→Int→Int→Qs→Bool×Qs
 | 0,r,w,s=>(true,s)
 | f+1,r,w,s=>if (r,w)∈s.1 then (false,s) else if (r,w)∈s.2 then (true,s)
  else if (holdsQ (readsQ a b f) (a.getD r.toNat neD) (b.getD w.toNat neD) r w (s.1,s.2++[(r,w)])).1=true then holdsQ (readsQ a b f) (a.getD r.toNat neD) (b.getD w.toNat neD) r w (s.1,s.2++[(r,w)])
  else (false,((holdsQ (readsQ a b f) (a.getD r.toNat neD) (b.getD w.toNat neD) r w (s.1,s.2++[(r,w)])).2.1++[(r,w)],(holdsQ (readsQ a b f) (a.getD r.toNat neD) (b.getD w.toNat neD) r w (s.1,s.2++[(r,w)])).2.2))
def InL (l:List P2):Rel:=fun i k=>decide ((i,k)∈l)
theorem InL_mono {l l':List P2} (h:∀p∈l,p∈l'):∀i k,InL l i k=true→InL l' i k=true:=by
 intro i k hk
 unfold InL at hk ⊢
 exact decide_eq_true (h _ (of_decide_eq_true hk))
def Rng (a b:List Ne) (p:P2):Prop:=∃i k:Nat,p=((i:Int),(k:Int))∧i<a.length∧k<b.length
def HAt (a b:List Ne) (R:Rel) (p:P2):Prop:=∀x y (i k:Nat),p=((i:Int),(k:Int))→a[i]?=some x→b[k]?=some y→holdP R x y i k=true
theorem HAt.mono {a b:List Ne} {R R':Rel} {p:P2} (h:HAt a b R p) (hm:∀i k,R i k=true→R' i k=true):HAt a b R' p:=fun x y i k e hx hy=>holdP_mono hm x y i k (h x y i k e hx hy)
open Classical in
noncomputable def GB (a b:List Ne):Rel:=fun i k=>decide (InR a b i k)
open Classical in
theorem GB_iff {a b:List Ne} {i k:Int}:GB a b i k=true↔InR a b i k:=by unfold GB;exact decide_eq_true_iff
theorem GB_stays (a b:List Ne):Stays a b (GB a b):=by
 intro i k x y hx hy h
 obtain⟨R,hs,hr⟩:=GB_iff.1 h
 exact holdP_mono (fun p q hpq=>GB_iff.2 ⟨R,hs,hpq⟩) x y i k (hs i k x y hx hy hr)
theorem length_le {a b:List Ne}:∀ {l:List P2},l.Nodup→(∀p∈l,Rng a b p)→l.length=cnt (InL l) b.length a.length
 | [],_,_=>by
  rw[cnt_none (fun i k=>by simp[InL])];rfl
 | p::l,hn,hr=>by
  obtain⟨i,k,rfl,hi,hk⟩:=hr p (by simp)
  obtain⟨h1,h2⟩:=List.nodup_cons.1 hn
  have ih:=length_le h2 (fun q hq=>hr q (List.mem_cons_of_mem _ hq))
  have e:InL (((i:Int),(k:Int))::l)=putN (InL l) i k:=by
   funext x y
   unfold InL putN
   by_cases hxy:x=i∧y=k
   ·rw[if_pos hxy];simp[hxy]
   ·rw[if_neg hxy]
    congr 1
    simp only[List.mem_cons,Prod.mk.injEq,hxy,false_or]
  rw[e,cnt_put (InL l) b.length i k (by unfold InL;exact decide_eq_false h1) hk a.length hi,List.length_cons,ih]
theorem length_rng {a b:List Ne} {l:List P2} (h1:l.Nodup) (h2:∀p∈l,Rng a b p):l.length≤a.length*b.length:=by
 rw[length_le h1 h2];exact cnt_le _ _ _
structure Run (a b:List Ne) (s s':Qs):Prop where
 n:∃t,s'.1=s.1++t
 ak:∃t,s'.2=s.2++t
 nw:∀p∈s'.1,p∈s.1∨(p∉s.2∧p∈s'.2)
 st:s'.1=s.1→∀p∈s'.2,p∉s.2→HAt a b (InL s'.2) p
structure Fine (a b:List Ne) (s:Qs):Prop where
 nd1:s.1.Nodup
 nd2:s.2.Nodup
 r1:∀p∈s.1,Rng a b p
 r2:∀p∈s.2,Rng a b p
 g:∀p∈s.1,¬InR a b p.1 p.2
theorem Run.refl (a b:List Ne) (s:Qs):Run a b s s:=⟨⟨[],by simp⟩,⟨[],by simp⟩,fun p hp=>.inl hp,fun _ p hp hn=>absurd hp hn⟩
theorem Run.sub {a b:List Ne} {s s':Qs} (h:Run a b s s'):∀p∈s.2,p∈s'.2:=by
 obtain⟨t,e⟩:=h.ak
 intro p hp;rw[e];exact List.mem_append_left _ hp
theorem Run.len {a b:List Ne} {s s':Qs} (h:Run a b s s'):s.2.length≤s'.2.length:=by
 obtain⟨t,e⟩:=h.ak
 rw[e,List.length_append];omega
theorem Run.trans {a b:List Ne} {s s' s'':Qs} (h:Run a b s s') (k:Run a b s' s''):Run a b s s'':=by
 obtain⟨t1,e1⟩:=h.n
 obtain⟨t2,e2⟩:=k.n
 obtain⟨u1,f1⟩:=h.ak
 obtain⟨u2,f2⟩:=k.ak
 refine⟨⟨t1++t2,by rw[e2,e1,List.append_assoc]⟩,⟨u1++u2,by rw[f2,f1,List.append_assoc]⟩,?_,?_⟩
 ·intro p hp
  rcases k.nw p hp with h1|⟨h1,h2⟩
  ·rcases h.nw p h1 with h3|⟨h3,h4⟩
   ·exact .inl h3
   ·exact .inr ⟨h3,k.sub p h4⟩
  ·exact .inr ⟨fun hs=>h1 (h.sub p hs),h2⟩
 ·intro e p hp hn
  have e3:t1++t2=[]:=by
   rw[e2,e1,List.append_assoc] at e
   exact List.append_right_eq_self.1 e
  obtain⟨rfl,rfl⟩:=List.append_eq_nil_iff.1 e3
  by_cases hq:p∈s'.2
  ·exact (h.st (by rw[e1,List.append_nil]) p hq hn).mono (InL_mono k.sub)
  ·exact k.st (by rw[e2,List.append_nil]) p hp hq
def QOk (a b:List Ne) (f:Nat) (q:Qs→Bool×Qs) (p:P2):Prop:=∀s,Fine a b s→a.length*b.length+1≤f+s.2.length→
 Fine a b (q s).2∧Run a b s (q s).2∧(InR a b p.1 p.2→(q s).1=true)∧((q s).1=true→p∈(q s).2.2)
theorem allQ_ok {a b:List Ne} {f:Nat} {q:Int→Qs→Bool×Qs} {c:Int→P2}:∀ {l:List Int},(∀x∈l,QOk a b f (q x) (c x))→∀s,Fine a b s→a.length*b.length+1≤f+s.2.length→
  Fine a b (allQ q l s).2∧Run a b s (allQ q l s).2∧((∀x∈l,InR a b (c x).1 (c x).2)→(allQ q l s).1=true)∧((allQ q l s).1=true→∀x∈l,c x∈(allQ q l s).2.2)
 | [],_,s,hs,hf=>⟨hs,Run.refl a b s,fun _=>rfl,fun _ x hx=>by cases hx⟩
 | x::l,h,s,hs,hf=>by
  obtain⟨h1,h2,h3,h4⟩:=h x (by simp) s hs hf
  unfold allQ
  by_cases hq:(q x s).1=true
  ·rw[if_pos hq]
   obtain⟨g1,g2,g3,g4⟩:=allQ_ok (l:=l) (fun y hy=>h y (List.mem_cons_of_mem _ hy)) (q x s).2 h1 (by have:=h2.len;omega)
   refine⟨g1,h2.trans g2,fun hg=>g3 fun y hy=>hg y (by simp[hy]),fun ho y hy=>?_⟩
   rcases List.mem_cons.1 hy with rfl|hy
   ·exact g2.sub _ (h4 hq)
   ·exact g4 ho y hy
  ·rw[if_neg hq]
   exact⟨h1,h2,fun hg=>absurd (h3 (hg x (by simp))) hq,fun ho=>by cases ho⟩
theorem anyQ_ok {a b:List Ne} {f:Nat} {q:Int→Qs→Bool×Qs} {c:Int→P2}:∀ {l:List Int},(∀x∈l,QOk a b f (q x) (c x))→∀s,Fine a b s→a.length*b.length+1≤f+s.2.length→
  Fine a b (anyQ q l s).2∧Run a b s (anyQ q l s).2∧((∃x∈l,InR a b (c x).1 (c x).2)→(anyQ q l s).1=true)∧((anyQ q l s).1=true→∃x∈l,c x∈(anyQ q l s).2.2)
 | [],_,s,hs,hf=>⟨hs,Run.refl a b s,fun ⟨x,hx,_⟩=>(by cases hx),fun h=>(by cases h)⟩
 | x::l,h,s,hs,hf=>by
  obtain⟨h1,h2,h3,h4⟩:=h x (by simp) s hs hf
  unfold anyQ
  by_cases hq:(q x s).1=true
  ·rw[if_pos hq]
   exact⟨h1,h2,fun _=>rfl,fun _=>⟨x,by simp,h4 hq⟩⟩
  ·rw[if_neg hq]
   obtain⟨g1,g2,g3,g4⟩:=anyQ_ok (l:=l) (fun y hy=>h y (List.mem_cons_of_mem _ hy)) (q x s).2 h1 (by have:=h2.len;omega)
   refine⟨g1,h2.trans g2,fun ⟨y,hy,hg⟩=>?_,fun ho=>?_⟩
   ·rcases List.mem_cons.1 hy with rfl|hy
    ·exact absurd (h3 hg) hq
    ·exact g3 ⟨y,hy,hg⟩
   ·obtain⟨y,hy,hm⟩:=g4 ho
    exact⟨y,by simp[hy],hm⟩
theorem lookQ_none {q:Int→Qs→Bool×Qs} {nm:ByteArray}:∀ {l:List Fd},(∀g∈l,¬g.1=nm)→∀ok s,lookQ q nm l ok s=(ok,s)
 | [],_,ok,s=>rfl
 | g::l,h,ok,s=>by
  unfold lookQ
  rw[if_neg (h g (by simp))]
  exact lookQ_none (fun x hx=>h x (by simp[hx])) ok s
theorem lookQ_eq {q:Int→Qs→Bool×Qs} {nm:ByteArray}:∀ {l:List Fd},(l.map (·.1)).Nodup→∀ok s,lookQ q nm l ok s=match l.find? fun g=>decide (g.1=nm) with
  | none=>(ok,s)
  | some g=>q g.2.2 s
 | [],_,ok,s=>rfl
 | g::l,h,ok,s=>by
  obtain⟨h1,h2⟩:=List.nodup_cons.1 h
  unfold lookQ
  by_cases e:g.1=nm
  ·rw[if_pos e,List.find?_cons_of_pos (by simp[e])]
   exact lookQ_none (fun x hx hn=>h1 (List.mem_map.2 ⟨x,hx,hn.trans e.symm⟩)) _ _
  ·rw[if_neg e,List.find?_cons_of_neg (by simp[e])]
   exact lookQ_eq h2 ok s
theorem fldsQ_ok {a b:List Ne} {f:Nat} {q:Int→Int→Qs→Bool×Qs} {lb:List Fd} (hn:(lb.map (·.1)).Nodup):∀ {l:List Fd},(∀x∈l,∀g∈lb,QOk a b f (q x.2.2 g.2.2) (x.2.2,g.2.2))→∀s,Fine a b s→a.length*b.length+1≤f+s.2.length→
  Fine a b (fldsQ q lb l s).2∧Run a b s (fldsQ q lb l s).2∧((∀x∈l,fieldP (GB a b) lb x=true)→(fldsQ q lb l s).1=true)∧((fldsQ q lb l s).1=true→∀x∈l,fieldP (InL (fldsQ q lb l s).2.2) lb x=true)
 | [],_,s,hs,hf=>⟨hs,Run.refl a b s,fun _=>rfl,fun _ x hx=>by cases hx⟩
 | x::l,h,s,hs,hf=>by
  have key:Fine a b (lookQ (q x.2.2) x.1 lb x.2.1 s).2∧Run a b s (lookQ (q x.2.2) x.1 lb x.2.1 s).2∧(fieldP (GB a b) lb x=true→(lookQ (q x.2.2) x.1 lb x.2.1 s).1=true)∧((lookQ (q x.2.2) x.1 lb x.2.1 s).1=true→fieldP (InL (lookQ (q x.2.2) x.1 lb x.2.1 s).2.2) lb x=true):=by
   rw[lookQ_eq hn]
   unfold fieldP
   cases e:lb.find? fun g=>decide (g.1=x.1) with
   | none=>exact⟨hs,Run.refl a b s,fun h=>h,fun h=>h⟩
   | some g=>
    obtain⟨h1,h2,h3,h4⟩:=h x (by simp) g (List.mem_of_find?_eq_some e) s hs hf
    exact⟨h1,h2,fun hg=>h3 (GB_iff.1 hg),fun ho=>decide_eq_true (h4 ho)⟩
  obtain⟨h1,h2,h3,h4⟩:=key
  unfold fldsQ
  by_cases hq:(lookQ (q x.2.2) x.1 lb x.2.1 s).1=true
  ·rw[if_pos hq]
   obtain⟨g1,g2,g3,g4⟩:=fldsQ_ok hn (l:=l) (fun y hy=>h y (List.mem_cons_of_mem _ hy)) (lookQ (q x.2.2) x.1 lb x.2.1 s).2 h1 (by have:=h2.len;omega)
   refine⟨g1,h2.trans g2,fun hg=>g3 fun y hy=>hg y (by simp[hy]),fun ho y hy=>?_⟩
   rcases List.mem_cons.1 hy with rfl|hy
   ·exact fieldP_mono (InL_mono g2.sub) _ _ (h4 hq)
   ·exact g4 ho y hy
  ·rw[if_neg hq]
   exact⟨h1,h2,fun hg=>absurd (h3 (hg x (by simp))) hq,fun ho=>by cases ho⟩
theorem holdsQ_ok {a b:List Ne} {f:Nat} {q:Int→Int→Qs→Bool×Qs} (hq:∀p,Rng a b p→QOk a b f (q p.1 p.2) p) {x y:Ne} (hx:WE a.length x) (hy:WE b.length y) {i k:Nat} (hi:i<a.length) (hk:k<b.length) :
  ∀s,Fine a b s→a.length*b.length+1≤f+s.2.length→Fine a b (holdsQ q x y i k s).2∧Run a b s (holdsQ q x y i k s).2∧(holdP (GB a b) x y i k=true→(holdsQ q x y i k s).1=true)∧((holdsQ q x y i k s).1=true→holdP (InL (holdsQ q x y i k s).2.2) x y i k=true):=by
 intro s hs hf
 have rx:∀t∈x.items,∃j:Nat,t=j∧j<a.length:=fun t ht=>⟨t.toNat,by have:=hx.its t ht;omega,by have:=hx.its t ht;omega⟩
 have ry:∀t∈y.items,∃j:Nat,t=j∧j<b.length:=fun t ht=>⟨t.toNat,by have:=hy.its t ht;omega,by have:=hy.its t ht;omega⟩
 unfold holdsQ
 by_cases y8:y.k=8
 ·rw[if_pos y8]
  obtain⟨h1,h2,h3,h4⟩:=allQ_ok (c:=fun t=>((i:Int),t)) (q:=fun t=>q i t) (l:=y.items) (fun t ht=>by
   obtain⟨j,rfl,hj⟩:=ry t ht
   exact hq ((i:Int),(j:Int)) ⟨i,j,rfl,hi,hj⟩) s hs hf
  refine⟨h1,h2,fun hh=>h3 fun t ht=>?_,fun ho=>?_⟩
  ·unfold holdP at hh
   rw[if_pos y8,List.all_eq_true] at hh
   exact GB_iff.1 (hh t ht)
  ·unfold holdP
   rw[if_pos y8,List.all_eq_true]
   exact fun t ht=>decide_eq_true (h4 ho t ht)
 rw[if_neg y8]
 by_cases x8:x.k=8
 ·rw[if_pos x8]
  obtain⟨h1,h2,h3,h4⟩:=anyQ_ok (c:=fun t=>(t,(k:Int))) (q:=fun t=>q t k) (l:=x.items) (fun t ht=>by
   obtain⟨j,rfl,hj⟩:=rx t ht
   exact hq ((j:Int),(k:Int)) ⟨j,k,rfl,hj,hk⟩) s hs hf
  refine⟨h1,h2,fun hh=>h3 ?_,fun ho=>?_⟩
  ·unfold holdP at hh
   rw[if_neg y8,if_pos x8,List.any_eq_true] at hh
   obtain⟨t,ht,hg⟩:=hh
   exact⟨t,ht,GB_iff.1 hg⟩
  ·unfold holdP
   rw[if_neg y8,if_pos x8,List.any_eq_true]
   obtain⟨t,ht,hm⟩:=h4 ho
   exact⟨t,ht,decide_eq_true hm⟩
 rw[if_neg x8]
 by_cases xy:¬x.k=y.k∨x.k<6
 ·rw[if_pos xy]
  have e:∀R,holdP R x y i k=promP x.k y.k:=by
   intro R
   unfold holdP
   rw[if_neg y8,if_neg x8]
   by_cases h:x.k=y.k
   ·have h6:x.k<6:=by omega
    have:=hx.k0
    rw[if_neg (by simpa using h),if_neg (by omega),if_neg (by omega),if_neg (by omega),if_neg (by omega)]
    unfold promP
    simp only[←h,decide_true,Bool.true_or,Bool.and_true]
    simp
    omega
   ·rw[if_pos h]
  exact⟨hs,Run.refl a b s,fun h=>by rw[←e];exact h,fun h=>by rw[e];exact h⟩
 rw[if_neg xy]
 have xyk:x.k=y.k:=by by_cases h:x.k=y.k<;>simp_all
 have x6:¬x.k<6:=fun h=>xy (.inr h)
 by_cases x67:x.k=6∨x.k=7
 ·rw[if_pos x67]
  obtain⟨t,ht⟩:=hx.one x67
  obtain⟨u,hu⟩:=hy.one (by rw[←xyk];exact x67)
  obtain⟨j,rfl,hj⟩:=rx t (by rw[ht];simp)
  obtain⟨m,rfl,hm⟩:=ry u (by rw[hu];simp)
  have e:∀R,holdP R x y i k=R j m:=by
   intro R
   unfold holdP
   rw[if_neg y8,if_neg x8,if_neg (by simpa using xyk),if_pos x67,ht,hu]
   rfl
  rw[ht,hu]
  obtain⟨h1,h2,h3,h4⟩:=hq ((j:Int),(m:Int)) ⟨j,m,rfl,hj,hm⟩ s hs hf
  exact⟨h1,h2,fun h=>h3 (GB_iff.1 (by rw[←e (GB a b)];exact h)),fun h=>by rw[e];exact decide_eq_true (h4 h)⟩
 rw[if_neg x67]
 by_cases hnm:¬x.name=y.name∨(x.k=10∧¬x.size=y.size)
 ·rw[if_pos hnm]
  refine⟨hs,Run.refl a b s,fun h=>?_,fun h=>by cases h⟩
  exfalso
  unfold holdP at h
  rw[if_neg y8,if_neg x8,if_neg (by simpa using xyk),if_neg x67] at h
  have:=hx.k12
  rcases hnm with hnm|⟨h10,hsz⟩
  ·by_cases h9:x.k=9
   ·rw[if_pos h9] at h;simp[hnm] at h
   ·rw[if_neg h9] at h
    by_cases h10:x.k=10
    ·rw[if_pos h10] at h;simp[hnm] at h
    ·rw[if_neg h10,if_pos (by omega)] at h;simp[hnm] at h
  ·rw[if_neg (by omega),if_pos h10] at h
   simp[hsz] at h
 rw[if_neg hnm]
 have hname:x.name=y.name:=by by_cases h:x.name=y.name<;>simp_all
 have h12:=hx.k12
 by_cases hsy:x.k=9∧symsIn x.syms y.syms=false
 ·rw[if_pos hsy]
  refine⟨hs,Run.refl a b s,fun h=>?_,fun h=>by cases h⟩
  exfalso
  unfold holdP at h
  rw[if_neg y8,if_neg x8,if_neg (by simpa using xyk),if_neg x67,if_pos hsy.1] at h
  have:=hsy.2
  unfold symsIn at this
  rw[this] at h
  simp at h
 rw[if_neg hsy]
 have hpair:∀u∈x.fields,∀g∈y.fields,QOk a b f (q u.2.2 g.2.2) (u.2.2,g.2.2):=by
  intro u hu g hg
  have h1:=hx.fls u hu
  have h2:=hy.fls g hg
  exact hq (u.2.2,g.2.2) ⟨u.2.2.toNat,g.2.2.toNat,by ext<;>simp<;>omega,by omega,by omega⟩
 obtain⟨h1,h2,h3,h4⟩:=fldsQ_ok hy.nod (l:=x.fields) hpair s hs hf
 have e:∀R,holdP R x y i k=x.fields.all (fieldP R y.fields):=by
  intro R
  unfold holdP
  rw[if_neg y8,if_neg x8,if_neg (by simpa using xyk),if_neg x67]
  by_cases h9:x.k=9
  ·rw[if_pos h9]
   have:symsIn x.syms y.syms=true:=by cases h:symsIn x.syms y.syms<;>simp_all
   unfold symsIn at this
   rw[this,hx.nof (by omega)]
   simp[hname]
  ·rw[if_neg h9]
   by_cases h10:x.k=10
   ·rw[if_pos h10,hx.nof (by omega)]
    have:x.size=y.size:=by by_cases h:x.size=y.size<;>simp_all
    simp[hname,this]
   ·rw[if_neg h10,if_pos (by omega)]
    simp[hname]
 refine⟨h1,h2,fun h=>h3 ?_,fun h=>?_⟩
 ·rw[e,List.all_eq_true] at h;exact h
 ·rw[e,List.all_eq_true];exact h4 h
theorem readsQ_ok {a b:List Ne} (ha:∀d∈a,WE a.length d) (hb:∀d∈b,WE b.length d):∀(f:Nat) (p:P2),Rng a b p→QOk a b f (readsQ a b f p.1 p.2) p
 | 0,p,hp,s,hs,hf=>by
  have:=length_rng hs.nd2 hs.r2
  omega
 | f+1,p,hp,s,hs,hf=>by
  obtain⟨i,k,rfl,hi,hk⟩:=hp
  simp only
  unfold readsQ
  by_cases h1:((i:Int),(k:Int))∈s.1
  ·rw[if_pos h1]
   exact⟨hs,Run.refl a b s,fun hg=>absurd hg (hs.g _ h1),fun h=>by cases h⟩
  rw[if_neg h1]
  by_cases h2:((i:Int),(k:Int))∈s.2
  ·rw[if_pos h2]
   exact⟨hs,Run.refl a b s,fun _=>rfl,fun _=>h2⟩
  rw[if_neg h2]
  have hx:a[i]?=some (a.getD (i:Int).toNat neD):=by simp[List.getD,List.getElem?_eq_getElem hi]
  have hy:b[k]?=some (b.getD (k:Int).toNat neD):=by simp[List.getD,List.getElem?_eq_getElem hk]
  generalize a.getD (i:Int).toNat neD=x at hx ⊢
  generalize b.getD (k:Int).toNat neD=y at hy ⊢
  have hs0:Fine a b (s.1,s.2++[((i:Int),(k:Int))]):=⟨hs.nd1,by
   show (s.2++[((i:Int),(k:Int))]).Nodup
   rw[List.nodup_append]
   exact⟨hs.nd2,by simp,fun u hu v hv e=>by
    rw[List.mem_singleton] at hv
    exact h2 (by rw[←hv,←e];exact hu)⟩,hs.r1,fun u hu=>by
   rcases List.mem_append.1 hu with hu|hu
   ·exact hs.r2 u hu
   ·rw[List.mem_singleton] at hu;rw[hu];exact⟨i,k,rfl,hi,hk⟩,hs.g⟩
  obtain⟨g1,g2,g3,g4⟩:=holdsQ_ok (f:=f) (q:=readsQ a b f) (readsQ_ok ha hb f) (ha x (List.mem_of_getElem? hx)) (hb y (List.mem_of_getElem? hy)) hi hk (s.1,s.2++[((i:Int),(k:Int))]) hs0 (by
   show _≤f+(s.2++[((i:Int),(k:Int))]).length
   rw[List.length_append,List.length_singleton];omega)
  generalize holdsQ (readsQ a b f) x y i k (s.1,s.2++[((i:Int),(k:Int))])=o at g1 g2 g3 g4 ⊢
  have hin:((i:Int),(k:Int))∈o.2.2:=g2.sub _ (by simp)
  obtain⟨t1,e1⟩:=g2.n
  obtain⟨t2,e2⟩:=g2.ak
  simp only at e1 e2
  by_cases ho:o.1=true
  ·rw[if_pos ho]
   refine⟨g1,⟨⟨t1,e1⟩,⟨[((i:Int),(k:Int))]++t2,by rw[e2,List.append_assoc]⟩,fun p hp=>?_,fun e p hp hn=>?_⟩,fun _=>ho,fun _=>hin⟩
   ·rcases g2.nw p hp with h|⟨h,h'⟩
    ·exact .inl h
    ·exact .inr ⟨fun hs=>h (List.mem_append_left _ hs),h'⟩
   ·by_cases hpe:p=((i:Int),(k:Int))
    ·subst hpe
     intro x' y' i' k' ee hx' hy'
     simp only[Prod.mk.injEq] at ee
     obtain⟨rfl,rfl⟩:i=i'∧k=k':=⟨by omega,by omega⟩
     rw[hx] at hx';rw[hy] at hy'
     injection hx' with hx'
     injection hy' with hy'
     rw[←hx',←hy']
     exact g4 ho
    ·refine g2.st e p hp ?_
     simp only[List.mem_append,List.mem_singleton,not_or]
     exact⟨hn,hpe⟩
  ·rw[if_neg ho]
   have hno:((i:Int),(k:Int))∉o.2.1:=by
    intro h
    rcases g2.nw _ h with h|⟨h,_⟩
    ·exact h1 h
    ·exact h (by simp)
   refine⟨⟨?_,g1.nd2,fun p hp=>?_,g1.r2,fun p hp=>?_⟩,⟨⟨t1++[((i:Int),(k:Int))],by simp[e1]⟩,⟨[((i:Int),(k:Int))]++t2,by simp[e2]⟩,fun p hp=>?_,fun e=>?_⟩,fun hg=>?_,fun h=>by cases h⟩
   ·show (o.2.1++[((i:Int),(k:Int))]).Nodup
    rw[List.nodup_append]
    exact⟨g1.nd1,by simp,fun u hu v hv e=>by
     rw[List.mem_singleton] at hv
     exact hno (by rw[←hv,←e];exact hu)⟩
   ·rcases List.mem_append.1 hp with hp|hp
    ·exact g1.r1 p hp
    ·rw[List.mem_singleton] at hp;rw[hp];exact⟨i,k,rfl,hi,hk⟩
   ·rcases List.mem_append.1 hp with hp|hp
    ·exact g1.g p hp
    ·rw[List.mem_singleton] at hp
     rw[hp]
     exact fun hg=>ho (g3 (GB_stays a b i k x y hx hy (GB_iff.2 hg)))
   ·rcases List.mem_append.1 hp with hp|hp
    ·rcases g2.nw p hp with h|⟨h,h'⟩
     ·exact .inl h
     ·exact .inr ⟨fun hs=>h (List.mem_append_left _ hs),h'⟩
    ·rw[List.mem_singleton] at hp
     rw[hp]
     exact .inr ⟨h2,hin⟩
   ·exfalso
    simp only[e1] at e
    rw[List.append_assoc] at e
    have:=List.append_right_eq_self.1 e
    simp at this
   ·exact absurd (g3 (GB_stays a b i k x y hx hy (GB_iff.2 hg))) ho
theorem asked {a b:List Ne} (ha:∀d∈a,WE a.length d) (hb:∀d∈b,WE b.length d) {N:List P2} (hN:Fine a b (N,[])) {f i k:Nat} (hf:a.length*b.length+1≤f) (hi:i<a.length) (hk:k<b.length) :
  Fine a b ((readsQ a b f i k (N,[])).2.1,[])∧(∃t,(readsQ a b f i k (N,[])).2.1=N++t)∧((readsQ a b f i k (N,[])).1=false→¬InR a b i k)∧((readsQ a b f i k (N,[])).1=true→(readsQ a b f i k (N,[])).2.1=N→InR a b i k):=by
 obtain⟨h1,h2,h3,h4⟩:=readsQ_ok ha hb f ((i:Int),(k:Int)) ⟨i,k,rfl,hi,hk⟩ (N,[]) hN (by simpa using hf)
 simp only at h1 h2 h3 h4
 refine⟨⟨h1.nd1,by simp,h1.r1,by simp,h1.g⟩,h2.n,fun h hg=>(by rw[h3 hg] at h;cases h),fun h e=>⟨InL (readsQ a b f i k (N,[])).2.2,?_,decide_eq_true (h4 h)⟩⟩
 intro p q x y hx hy hR
 exact h2.st e ((p:Int),(q:Int)) (of_decide_eq_true hR) (by simp) x y p q rfl hx hy
end Go.Proofs.YtmaoochjbpohdaaGreatDoor.Rv
namespace Go.Proofs.YtmaoochjbpohdaaGreatDoor.Cn
open Go.ChangeShapes Go.WideShapes Go.ChangeAt Go.RowKit
open Base Lx Mi Pr
def schP (s:ByteArray):List Ne:=if isP s=true then (parseP s).1.map Nd.toE else []
theorem resSchema {w:World} {tmps:Array Value} {a:Nat} {u v:Value} (ha:tmps[2]?.getD undef=.pointer (some ⟨a,0,none⟩)) (hb:tmps[3]?.getD undef=v)
  (h1:w.cell? ⟨a,0,none⟩=some u):(results Tryz.f57 tmps).run Tryz.prog w=.ok (.tuple #[.agg #[u],v]) w:=by
 simp[results,Tryz.f57,go_sem,ha,hb,h1]
theorem Sch.nil (B:Nat) (w:World):Sch B w (.slice none 0 0) []:=⟨[],rfl,⟨none,0,rfl,Rd.nil _ _,fun h=>absurd rfl h,Nat.le_refl _,Nat.zero_le _,fun _=>rfl⟩,fun i d v h _=>by simp at h⟩
theorem Schema_any (s:ByteArray) (hs:s.size≤140737488351232) (w:World) (hwd:Wd w) (hpow:Pow w) :
  Calls Tryz.prog 57 #[.string s] w fun e w'=>∃v,e=.returned (.tuple #[.agg #[v],.bool (isP s)])∧Sch w'.heap.size w' v (schP s)∧Ext w w':=by
 obtain⟨q,hq⟩:∃z,Hid (w.heap.size=z):=⟨_,rfl⟩
 obtain⟨w1,hw1⟩:∃z,Hid (w.alloc (.cells #[.slice none 0 0] 24)=z):=⟨_,rfl⟩
 have hx1:Ext w w1:=by rw[←hw1.out];exact (Ext.refl w).alloc _
 have hb1:Blk w1 q #[.slice none 0 0] 24:=by rw[←hw1.out,←hq.out];exact Blk.new w _ _
 have his:=cis_any s hs w1 (hwd.ext hx1) (hpow.ext hx1)
 have hpar:=fun W (hW:Ext w W)=>parse_any s hs W (hwd.ext hW) (by have:=hpow.lt;have:=hW.size;omega)
 have l7:=parse_rng s
 have hsc:schP s=if isP s=true then (parseP s).1.map Nd.toE else []:=rfl
 obtain⟨b,hb⟩:∃z,Hid (isP s=z):=⟨_,Lib.hid rfl⟩
 rw[hb.out] at his hsc ⊢
 rw[hsc]
 obtain⟨PO,hPO⟩:∃PO:Ending→World→Prop,Hid ((fun e w'=>∃v,e=.returned (.tuple #[.agg #[v],.bool b])∧Sch w'.heap.size w' v (if b=true then (parseP s).1.map Nd.toE else [])∧Ext w w')=PO):=⟨_,Lib.hid rfl⟩
 rw[hPO.out]
 cases b with
 | false=>
  go_enter Tryz.func57,Tryz.ntmps57
  go_wp2_with fail
  rw[hw1.out,hq.out]
  refine his.mono ?_
  rintro e w2 ⟨rfl,hx2⟩
  have hb2:=hb1.ext hx2
  have k0:=hb2.cell 0
  have f0:=hb2.frozen 0
  simp only[List.getElem?_toArray,List.getElem?_cons_zero] at k0
  have hbF:=hb2.set 0 (.slice none 0 0)
  have hxF:Ext w (w2.setCell ⟨q,0,none⟩ (.slice none 0 0)):=Ext.chg (hx1.trans hx2) (Chg.one w2 q 0 _) (fun i hi e=>by have e:i=q:=e;have:=hq.out;omega)
  clear his hpar
  go_wp2_with fail
  refine bodyPost_ret (resSchema rfl rfl (hbF.cell 0)) rfl ?_
  rw[←hPO.out]
  exact⟨_,rfl,by rw[if_neg (by decide)];exact Sch.nil _ _,hxF⟩
 | true=>
  obtain⟨r,hr⟩:∃z,Hid (parseP s=z):=⟨_,Lib.hid rfl⟩
  rw[hr.out] at l7
  simp only[hr.out] at hpar
  obtain⟨ns,at_,why⟩:=r
  replace hpar:∀W,Ext w W→Calls Tryz.prog 76 #[.string s] W fun e w'=>∃v vs,e=.returned (.tuple #[.agg #[v],.int .i64 at_,.int .i64 why])∧Nds W.heap.size w' ns vs v∧Ext W w':=hpar
  replace l7:∀d∈ns,-9223372036854775808≤d.size∧d.size≤9223372036854775807:=l7
  replace hpar:=Lib.hid hpar
  replace l7:=Lib.hid l7
  go_enter Tryz.func57,Tryz.ntmps57
  go_wp2_with fail
  rw[hw1.out,hq.out]
  refine his.mono ?_
  rintro e w2 ⟨rfl,hx2⟩
  have hx02:=hx1.trans hx2
  have hp2:=hpar.out w2 hx02
  have hb2:=hb1.ext hx2
  clear his hpar
  go_wp2_with fail
  refine hp2.mono ?_
  rintro e w3 ⟨v,vs,rfl,hnd,hx3⟩
  have hx03:=hx02.trans hx3
  obtain⟨A,c,rfl,jj1,jj2,jj3,jj4⟩:=Rd.of_own hnd.row
  clear jj1 jj2 jj3 jj4 hp2
  obtain⟨k,hk⟩:∃z,Hid (ns.length=z):=⟨_,Lib.hid rfl⟩
  rw[hk.out] at hnd ⊢
  obtain⟨w4,hw4⟩:∃z,Hid (w3.alloc (.cells #[.slice A k c] 24)=z):=⟨_,rfl⟩
  have hx4:Ext w3 w4:=by rw[←hw4.out];exact (Ext.refl w3).alloc _
  have hb4:=(hb2.ext hx3).ext hx4
  have hx04:=hx03.trans hx4
  have k0:=hb4.cell 0
  have f0:=hb4.frozen 0
  simp only[List.getElem?_toArray,List.getElem?_cons_zero] at k0
  have hbF:=hb4.set 0 (.slice A k c)
  have hch:=Chg.one w4 q 0 (.slice A k c)
  have hxF:Ext w (w4.setCell ⟨q,0,none⟩ (.slice A k c)):=Ext.chg hx04 hch (fun i hi e=>by have e:i=q:=e;have:=hq.out;omega)
  rw[←hw4.out] at k0 f0
  have hq2:q<w2.heap.size:=World.block_lt_of_cell? w2 ⟨q,0,none⟩ (hb2.cell 0)
  have hnF:=(hnd.ext hx4).low hch (fun k e=>by have e:k=q:=e;omega)
  have hSF:=Sch.ofNds hnF (Nat.le_refl _) l7.out
  have hp:PO (.returned (.tuple #[.agg #[.slice A k c],.bool true])) (w4.setCell ⟨q,0,none⟩ (.slice A k c)):=by
   rw[←hPO.out]
   refine⟨_,rfl,?_,hxF⟩
   rw[if_pos (by trivial),hr.out]
   exact hSF
  clear hnd hnF hSF hch hPO
  go_wp2_with fail
  rw[hw4.out]
  refine bodyPost_ret (resSchema rfl rfl (hbF.cell 0)) rfl ?_
  exact hp
end Go.Proofs.YtmaoochjbpohdaaGreatDoor.Cn
