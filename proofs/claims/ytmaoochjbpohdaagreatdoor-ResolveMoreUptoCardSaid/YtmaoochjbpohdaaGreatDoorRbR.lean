/- parse: the reference's reader: what bounds its state: plain. -/
import Derived.Test.YtmaoochjbpohdaaGreatDoorRbQ
set_option linter.unusedVariables false
set_option linter.unusedSimpArgs false
set_option maxRecDepth 100000
set_option maxHeartbeats 1000000
namespace Go.Proofs.YtmaoochjbpohdaaGreatDoor
namespace Pr
open Lx
variable {L:List Tok} {q:QS}
theorem badQ_at (b:Bool) (e:Nat):(badQ L q b e).at_=q.at_:=by unfold badQ;split<;>rfl
theorem badQ_ns (b:Bool) (e:Nat):(badQ L q b e).ns=q.ns:=by unfold badQ;split<;>rfl
theorem badQ_ok {b:Bool} {e:Nat} (he:e≠0) (h:(badQ L q b e).why=0):b=false∧badQ L q b e=q∧q.why=0:=by
 unfold badQ at h ⊢
 split at h
 ·exact absurd h he
 ·next hn=>
  rw[if_neg hn]
  refine⟨?_,rfl,h⟩
  cases b with
  | false=>rfl
  | true=>exact absurd ⟨rfl,h⟩ hn
theorem badQ_false (e:Nat):badQ L q false e=q:=by unfold badQ;rw[if_neg (by simp)]
theorem badQ_why (h:q.why≠0) (b:Bool) (e:Nat):badQ L q b e=q:=by unfold badQ;rw[if_neg (fun x=>h x.2)]
theorem badQ_true (h:q.why=0) (e:Nat):badQ L q true e={ q with why:=e,bad:=(tkQ L q).a }:=by unfold badQ;rw[if_pos ⟨rfl,h⟩]
theorem onQ_ns:(onQ L q).ns=q.ns:=by unfold onQ;split<;>rfl
theorem onQ_why:(onQ L q).why=q.why:=by unfold onQ;split<;>rfl
theorem onQ_bad:(onQ L q).bad=q.bad:=by unfold onQ;split<;>rfl
theorem onQ_at:q.at_≤(onQ L q).at_:=by unfold onQ;split<;>simp
theorem onQ_no (h:q.why≠0):onQ L q=q:=by unfold onQ;rw[if_neg (fun x=>h x.1)]
theorem tok_next (hT:TokOk L) (hl:q.at_<L.length) (hk:(tkQ L q).k≠3):q.at_+1<L.length:=by
 obtain⟨pre,e,rfl,he⟩:=hT
 apply Classical.byContradiction
 intro hn
 have hat:q.at_=pre.length:=by simp at hl hn;omega
 apply hk
 unfold tkQ
 rw[List.getD,hat,List.getElem?_append_right (Nat.le_refl _)]
 simpa using he
theorem onQ_adv (hT:TokOk L) (hl:q.at_<L.length) (hk:(tkQ L q).k≠3) (hw:q.why=0):onQ L q={ q with at_:=q.at_+1 }:=by
 unfold onQ
 rw[if_pos ⟨hw,tok_next hT hl hk⟩]
theorem here_k {x:ByteArray} (h:hereQ L q x=true):(tkQ L q).k=2∧(tkQ L q).s=x:=by
 unfold hereQ at h
 simpa using h
theorem signQ_no (h:q.why≠0) (x:ByteArray):signQ L q x=q:=by unfold signQ;rw[badQ_why h,onQ_no h]
theorem signQ_ok {x:ByteArray} (h:(signQ L q x).why=0):q.why=0∧hereQ L q x=true∧signQ L q x=onQ L q:=by
 unfold signQ at h ⊢
 rw[onQ_why] at h
 obtain⟨h1,h2,h3⟩:=badQ_ok (by decide) h
 refine⟨h3,by simpa using h1,by rw[h2]⟩
theorem signQ_bad {x:ByteArray} (hw:q.why=0) (h:hereQ L q x=false):signQ L q x={ q with why:=4,bad:=(tkQ L q).a }:=by
 unfold signQ
 rw[h,Bool.not_false,badQ_true hw,onQ_no (by simp)]
theorem signQ_good {x:ByteArray} (h:hereQ L q x=true):signQ L q x=onQ L q:=by
 unfold signQ
 rw[h,Bool.not_true,badQ_false]
theorem signQ_ns (x:ByteArray):(signQ L q x).ns=q.ns:=by unfold signQ;rw[onQ_ns,badQ_ns]
theorem signQ_at (x:ByteArray):q.at_≤(signQ L q x).at_:=by
 have:=onQ_at (L:=L) (q:=badQ L q (!hereQ L q x) 4)
 rw[badQ_at] at this
 exact this
theorem nameQ_at:(nameQ L q).at_=q.at_:=badQ_at _ _
theorem nameQ_ns:(nameQ L q).ns=q.ns:=badQ_ns _ _
theorem nameQ_okk (h:(nameQ L q).why=0):q.why=0∧nameQ L q=q∧(tkQ L q).k=0∧nameP (tkQ L q).s=true∧refKw (tkQ L q).s=false:=by
 obtain⟨h1,h2,h3⟩:=badQ_ok (by decide) h
 simp only[Bool.or_eq_false_iff,decide_eq_false_iff_not,ne_eq,Decidable.not_not,Bool.not_eq_false'] at h1
 exact⟨h3,h2,h1.1.1,h1.1.2,h1.2⟩
theorem calledN_lt {ns:List Nd} {x:ByteArray} {n:Nat} (h:calledN ns x=some n):n<ns.length:=by
 unfold calledN at h
 rw[List.findIdx?_eq_some_iff_getElem] at h
 exact h.1
structure WQ (L:List Tok) (b:Nat) (q:QS):Prop where
 lt:q.at_<L.length
 len:∀d∈q.ns,d.syms.length≤b∧d.items.length≤b∧d.fields.length≤b
 idx:∀d∈q.ns,∀m∈d.items,m<q.ns.length
theorem WQ.le {b b':Nat} (h:WQ L b q) (hb:b≤b'):WQ L b' q:=⟨h.lt,fun d hd=>by have:=h.len d hd;omega,h.idx⟩
theorem WQ.bad {b:Nat} (h:WQ L b q) (c:Bool) (e:Nat):WQ L b (badQ L q c e):=⟨by rw[badQ_at];exact h.lt,by rw[badQ_ns];exact h.len,by rw[badQ_ns];exact h.idx⟩
theorem onQ_lt (h:q.at_<L.length):(onQ L q).at_<L.length:=by
 unfold onQ
 split
 ·next h1=>exact h1.2
 ·exact h
theorem WQ.on {b:Nat} (h:WQ L b q):WQ L b (onQ L q):=⟨onQ_lt h.lt,by rw[onQ_ns];exact h.len,by rw[onQ_ns];exact h.idx⟩
theorem WQ.sign {b:Nat} (h:WQ L b q) (x:ByteArray):WQ L b (signQ L q x):=(h.bad _ _).on
theorem WQ.name {b:Nat} (h:WQ L b q):WQ L b (nameQ L q):=h.bad _ _
theorem setN_lenQ (n:Nat) (f:Nd→Nd):(q.setN n f).ns.length=q.ns.length:=by simp[QS.setN]
theorem WQ.set {b b':Nat} (h:WQ L b q) (hb:b≤b') (n:Nat) (f:Nd→Nd) (hf:∀d,(d.syms.length≤b∧d.items.length≤b∧d.fields.length≤b)→((f d).syms.length≤b'∧(f d).items.length≤b'∧(f d).fields.length≤b')) (hi:∀d,(∀m∈d.items,m<q.ns.length)→∀m∈(f d).items,m<q.ns.length):WQ L b' (q.setN n f):=by
 have key:∀d∈(q.setN n f).ns,∃d0∈q.ns,d=d0∨d=f d0:=fun d hd=>by
  obtain⟨i,hi⟩:=List.mem_iff_getElem?.1 hd
  have hi:(q.ns.modify n f)[i]?=some d:=hi
  rw[List.getElem?_modify] at hi
  obtain⟨d0,h0,rfl⟩:=Option.map_eq_some_iff.1 hi
  refine⟨d0,List.mem_of_getElem? h0,?_⟩
  split
  ·exact .inr rfl
  ·exact .inl rfl
 refine⟨h.lt,fun d hd=>?_,fun d hd=>?_⟩
 ·obtain⟨d0,h0,e|e⟩:=key d hd
  ·subst e;have:=h.len d h0;omega
  ·subst e;exact hf d0 (h.len d0 h0)
 ·rw[setN_lenQ]
  obtain⟨d0,h0,e|e⟩:=key d hd
  ·subst e;exact h.idx d h0
  ·subst e;exact hi d0 (h.idx d0 h0)
def slk (q:QS) (k:Nat):Nat:=if q.why=0 then 0 else k
def GQ (L:List Tok) (k:Nat) (q:QS):Prop:=WQ L (q.at_+slk q k) q
theorem GQ.ok {k:Nat} (h:GQ L k q) (hw:q.why=0):WQ L q.at_ q:=by unfold GQ slk at h;rwa [if_pos hw] at h
theorem GQ.no {k:Nat} (h:GQ L k q) (hw:q.why≠0):WQ L (q.at_+k) q:=by unfold GQ slk at h;rwa [if_neg hw] at h
theorem GQ.ofOk {k:Nat} (h:WQ L q.at_ q):GQ L k q:=h.le (by omega)
theorem GQ.ofNo {k:Nat} (h:WQ L (q.at_+k) q) (hw:q.why≠0):GQ L k q:=by unfold GQ slk;rwa [if_neg hw]
theorem GQ.any {k:Nat} (h:GQ L k q):WQ L (q.at_+k) q:=h.le (by unfold slk;split<;>omega)
theorem GQ.lt {k:Nat} (h:GQ L k q):q.at_<L.length:=WQ.lt h
theorem gq_on {k:Nat} (hT:TokOk L) (hk1:1≤k) (h:WQ L (q.at_+if q.why=0 then 1 else k) q) (hk:(tkQ L q).k≠3):GQ L k (onQ L q):=by
 by_cases hw:q.why=0
 ·rw[if_pos hw] at h
  have:=h.on
  rw[onQ_adv hT h.lt hk hw] at this ⊢
  exact GQ.ofOk this
 ·rw[if_neg hw] at h
  rw[onQ_no hw]
  exact GQ.ofNo h hw
theorem gq_sign {k:Nat} (hT:TokOk L) (hk1:1≤k) (h:WQ L (q.at_+if q.why=0 then 1 else k) q) (x:ByteArray):GQ L k (signQ L q x):=by
 by_cases hw:(signQ L q x).why=0
 ·obtain⟨h1,h2,h3⟩:=signQ_ok hw
  rw[h3]
  exact gq_on hT hk1 h (by rw[(here_k h2).1];decide)
 ·by_cases hq:q.why=0
  ·rw[if_pos hq] at h
   exact GQ.ofNo ((h.sign x).le (by have:=signQ_at (L:=L) (q:=q) x;omega)) hw
  ·rw[if_neg hq] at h
   rw[signQ_no hq]
   exact GQ.ofNo h hq
def GTQ (L:List Tok) (k:Nat) (T:QT):Prop:=∀u l q,q.why=0→GQ L k q→GQ L k (T u l q).2∧q.at_≤(T u l q).2.at_∧q.ns.length≤(T u l q).2.ns.length∧((T u l q).2.why=0→q.at_<(T u l q).2.at_)∧((T u l q).1=0∨(T u l q).1<(T u l q).2.ns.length)
section
variable {k:Nat} {T:QT}
theorem itemQ_g (hT:TokOk L) (hG:GTQ L k T) (n:Nat) (sh:ByteArray) (hn:n<q.ns.length) (hw:q.why=0) (h:GQ L k q):GQ L (k+1) (itemQ L T n sh q)∧q.at_≤(itemQ L T n sh q).at_∧q.ns.length≤(itemQ L T n sh q).ns.length:=by
 obtain⟨h1,h2,h3,h4,h5⟩:=hG false [] q hw h
 have hW:WQ L ((T false [] q).2.at_+if ((T false [] q).2.setN n fun d=>{ d with items:=[(T false [] q).1] }).why=0 then 1 else k+1) ((T false [] q).2.setN n fun d=>{ d with items:=[(T false [] q).1] }):=by
  show WQ L ((T false [] q).2.at_+if (T false [] q).2.why=0 then 1 else k+1) _
  split
  ·next hz=>exact (h1.ok hz).set (by omega) n _ (fun d hd=>⟨by simp only;omega,by simp only[List.length_cons,List.length_nil];omega,by simp only;omega⟩) (fun d hd m hm=>by
    simp only[List.mem_cons,List.not_mem_nil,or_false] at hm
    rcases h5 with e|e<;>omega)
  ·next hz=>exact (h1.no hz).set (by omega) n _ (fun d hd=>⟨by simp only;omega,by simp only[List.length_cons,List.length_nil];omega,by simp only;omega⟩) (fun d hd m hm=>by
    simp only[List.mem_cons,List.not_mem_nil,or_false] at hm
    rcases h5 with e|e<;>omega)
 refine⟨gq_sign hT (by omega) hW sh,Nat.le_trans h2 (signQ_at (L:=L) (q:=(T false [] q).2.setN n fun d=>{ d with items:=[(T false [] q).1] }) sh),?_⟩
 unfold itemQ
 rw[signQ_ns,setN_lenQ]
 exact h3
theorem GQ.mono {k k':Nat} (h:GQ L k q) (hk:k≤k'):GQ L k' q:=by
 unfold GQ slk at *
 refine h.le ?_
 split<;>omega
theorem allQ_g (hT:TokOk L) (hG:GTQ L k T) (n:Nat):∀(m:Nat) (q:QS),n<q.ns.length→GQ L (k+1) q→GQ L (k+1) (allQ L T n m q)∧q.at_≤(allQ L T n m q).at_∧q.ns.length≤(allQ L T n m q).ns.length
 | 0,q,hn,h=>⟨h,Nat.le_refl _,Nat.le_refl _⟩
 | m+1,q,hn,h=>by
  rw[allQ]
  split
  ·exact⟨h,Nat.le_refl _,Nat.le_refl _⟩
  ·next hw=>
   have hw:q.why=0:=by simpa using hw
   obtain⟨h1,h2,h3,h4,h5⟩:=hG true (q.nd n).items q hw (GQ.ofOk (h.ok hw))
   have hW:WQ L ((T true (q.nd n).items q).2.at_+if (T true (q.nd n).items q).2.why=0 then 1 else k+1) ((T true (q.nd n).items q).2.setN n fun d=>{ d with items:=d.items++[(T true (q.nd n).items q).1] }):=by
    split
    ·next hz=>exact (h1.ok hz).set (by omega) n _ (fun d hd=>⟨by simp only;omega,by simp only[List.length_append,List.length_cons,List.length_nil];omega,by simp only;omega⟩) (fun d hd m hm=>by
      simp only[List.mem_append,List.mem_cons,List.not_mem_nil,or_false] at hm
      rcases hm with hm|hm
      ·exact hd m hm
      ·rcases h5 with e|e<;>omega)
    ·next hz=>exact (h1.no hz).set (by omega) n _ (fun d hd=>⟨by simp only;omega,by simp only[List.length_append,List.length_cons,List.length_nil];omega,by simp only;omega⟩) (fun d hd m hm=>by
      simp only[List.mem_append,List.mem_cons,List.not_mem_nil,or_false] at hm
      rcases hm with hm|hm
      ·exact hd m hm
      ·rcases h5 with e|e<;>omega)
   have hl:((T true (q.nd n).items q).2.setN n fun d=>{ d with items:=d.items++[(T true (q.nd n).items q).1] }).ns.length=(T true (q.nd n).items q).2.ns.length:=setN_lenQ _ _
   generalize hq1:((T true (q.nd n).items q).2.setN n fun d=>{ d with items:=d.items++[(T true (q.nd n).items q).1] })=q1 at hW hl ⊢
   have ha1:q1.at_=(T true (q.nd n).items q).2.at_:=by rw[←hq1];rfl
   have hw1:q1.why=(T true (q.nd n).items q).2.why:=by rw[←hq1];rfl
   rw[←ha1,←hw1] at hW
   split
   ·next hh=>exact⟨gq_on hT (by omega) hW (by rw[(here_k hh).1];decide),Nat.le_trans (by omega) onQ_at,by rw[onQ_ns];omega⟩
   ·obtain⟨a1,a2,a3⟩:=allQ_g hT hG n m (signQ L q1 cBar) (by rw[signQ_ns];omega) (gq_sign hT (by omega) hW cBar)
    have:=signQ_at (L:=L) (q:=q1) cBar
    rw[signQ_ns] at a3
    exact⟨a1,by omega,by omega⟩
theorem symQ_g (hT:TokOk L) (hk1:1≤k) (n:Nat) (hw:q.why=0) (h:GQ L k q):GQ L k (symQ L n q)∧q.at_≤(symQ L n q).at_∧(symQ L n q).ns.length=q.ns.length:=by
 have h1:WQ L (q.at_+1) ((badQ L (nameQ L q) ((q.nd n).syms.any fun y=>decide (y=(tkQ L q).s)) 6).setN n fun d=>{ d with syms:=d.syms++[(tkQ L q).s] }):=
  (((h.ok hw).name).bad _ _).set (by omega) n _ (fun d hd=>⟨by simp only[List.length_append,List.length_cons,List.length_nil];omega,by simp only;omega,by simp only;omega⟩) (fun d hd=>hd)
 have ha:((badQ L (nameQ L q) ((q.nd n).syms.any fun y=>decide (y=(tkQ L q).s)) 6).setN n fun d=>{ d with syms:=d.syms++[(tkQ L q).s] }).at_=q.at_:=by show (badQ _ _ _ _).at_=_;rw[badQ_at,nameQ_at]
 have hwy:((badQ L (nameQ L q) ((q.nd n).syms.any fun y=>decide (y=(tkQ L q).s)) 6).setN n fun d=>{ d with syms:=d.syms++[(tkQ L q).s] }).why=(badQ L (nameQ L q) ((q.nd n).syms.any fun y=>decide (y=(tkQ L q).s)) 6).why:=rfl
 have htk:(badQ L (nameQ L q) ((q.nd n).syms.any fun y=>decide (y=(tkQ L q).s)) 6).why=0→(tkQ L q).k=0:=fun e=>(nameQ_okk (badQ_ok (by decide) e).2.2).2.2.1
 have hl:(symQ L n q).ns.length=q.ns.length:=by unfold symQ;rw[onQ_ns,setN_lenQ,badQ_ns,nameQ_ns]
 refine⟨?_,?_,hl⟩
 ·unfold symQ
  by_cases hz:(badQ L (nameQ L q) ((q.nd n).syms.any fun y=>decide (y=(tkQ L q).s)) 6).why=0
  ·refine gq_on hT hk1 ?_ ?_
   ·rw[hwy,if_pos hz,ha];exact h1
   ·have:tkQ L ((badQ L (nameQ L q) ((q.nd n).syms.any fun y=>decide (y=(tkQ L q).s)) 6).setN n fun d=>{ d with syms:=d.syms++[(tkQ L q).s] })=tkQ L q:=by
     have e:∀a b:QS,a.at_=b.at_→tkQ L a=tkQ L b:=fun a b e=>by unfold tkQ;rw[e]
     exact e _ _ ha
    rw[this,htk hz];decide
  ·rw[onQ_no (by rw[hwy];exact hz)]
   exact GQ.ofNo (by rw[ha];exact h1.le (by omega)) (by rw[hwy];exact hz)
 ·unfold symQ
  exact Nat.le_trans (by rw[ha];exact Nat.le_refl _) onQ_at
theorem symsQ_g (hT:TokOk L) (hk1:1≤k) (n:Nat):∀(m:Nat) (q:QS),GQ L k q→GQ L k (symsQ L n m q)∧q.at_≤(symsQ L n m q).at_∧(symsQ L n m q).ns.length=q.ns.length
 | 0,q,h=>⟨h,Nat.le_refl _,rfl⟩
 | m+1,q,h=>by
  rw[symsQ]
  split
  ·exact⟨h,Nat.le_refl _,rfl⟩
  ·next hw=>
   have hw:q.why=0:=by simpa using hw
   obtain⟨h1,h2,h3⟩:=symQ_g hT hk1 n hw h
   have hW:WQ L ((symQ L n q).at_+if (symQ L n q).why=0 then 1 else k) (symQ L n q):=by
    split
    ·next hz=>exact (h1.ok hz).le (by omega)
    ·next hz=>exact h1.no hz
   split
   ·next hh=>exact⟨gq_on hT hk1 hW (by rw[(here_k hh).1];decide),Nat.le_trans h2 onQ_at,by rw[onQ_ns];exact h3⟩
   ·obtain⟨a1,a2,a3⟩:=symsQ_g hT hk1 n m (signQ L (symQ L n q) cCom) (gq_sign hT hk1 hW cCom)
    have:=signQ_at (L:=L) (q:=symQ L n q) cCom
    rw[signQ_ns] at a3
    exact⟨a1,by omega,by omega⟩
theorem fldA_g {b:Nat} (n:Nat) (h:WQ L b q):WQ L b (fldA L n q):=((h.name).bad _ _).on
theorem fldQ_g {b:Nat} (n:Nat) (h:WQ L b q):WQ L b (fldQ L n q):=by
 unfold fldQ
 refine WQ.sign ?_ _
 split
 ·exact (fldA_g n h).on
 ·exact fldA_g n h
theorem fldA_at (n:Nat):q.at_≤(fldA L n q).at_:=by
 unfold fldA
 refine Nat.le_trans ?_ onQ_at
 rw[badQ_at,nameQ_at];exact Nat.le_refl _
theorem fldQ_at (n:Nat):q.at_≤(fldQ L n q).at_:=by
 unfold fldQ
 refine Nat.le_trans ?_ (signQ_at _)
 split
 ·exact Nat.le_trans (fldA_at n) onQ_at
 ·exact fldA_at n
theorem fldA_ns (n:Nat):(fldA L n q).ns=q.ns:=by unfold fldA;rw[onQ_ns,badQ_ns,nameQ_ns]
theorem fldQ_ns (n:Nat):(fldQ L n q).ns=q.ns:=by
 unfold fldQ
 rw[signQ_ns]
 split
 ·rw[onQ_ns,fldA_ns]
 ·rw[fldA_ns]
theorem fieldsQ_g (hT:TokOk L) (hG:GTQ L k T) (n:Nat):∀(m:Nat) (q:QS),GQ L (k+1) q→GQ L (k+1) (fieldsQ L T n m q)∧q.at_≤(fieldsQ L T n m q).at_∧q.ns.length≤(fieldsQ L T n m q).ns.length
 | 0,q,h=>⟨h,Nat.le_refl _,Nat.le_refl _⟩
 | m+1,q,h=>by
  rw[fieldsQ]
  split
  ·refine⟨gq_sign hT (by omega) ?_ _,signQ_at _,by rw[signQ_ns];exact Nat.le_refl _⟩
   split
   ·next hz=>exact (h.ok hz).le (by omega)
   ·next hz=>exact h.no hz
  ·next hw=>
   simp only[not_or,ne_eq,Decidable.not_not] at hw
   have hf:=fldQ_g n (h.ok hw.1)
   have hfa:=fldQ_at (L:=L) (q:=q) n
   split
   ·next hz=>exact⟨GQ.ofNo (hf.le (by omega)) hz,hfa,by rw[fldQ_ns];exact Nat.le_refl _⟩
   ·next hz=>
    have hz:(fldQ L n q).why=0:=by simpa using hz
    obtain⟨h1,h2,h3,h4,h5⟩:=hG false [] (fldQ L n q) hz (GQ.ofOk (hf.le hfa))
    rw[fldQ_ns] at h3
    have hs:WQ L ((signQ L (T false [] (fldQ L n q)).2 cSem).at_+slk (signQ L (T false [] (fldQ L n q)).2 cSem) (k+1)) ((signQ L (T false [] (fldQ L n q)).2 cSem).setN n fun d=>{ d with fields:=d.fields++[((tkQ L q).s,hereQ L (fldA L n q) cQ,(T false [] (fldQ L n q)).1)] }):=by
     by_cases hw2:(signQ L (T false [] (fldQ L n q)).2 cSem).why=0
     ·obtain⟨e1,e2,e3⟩:=signQ_ok hw2
      have hb:=h1.ok e1
      have hs2:=hb.sign cSem
      unfold slk
      rw[if_pos hw2]
      refine hs2.set (by have:=signQ_at (L:=L) (q:=(T false [] (fldQ L n q)).2) cSem;omega) n _ (fun d hd=>?_) (fun d hd=>hd)
      have:(signQ L (T false [] (fldQ L n q)).2 cSem).at_=(T false [] (fldQ L n q)).2.at_+1:=by rw[e3,onQ_adv hT hb.lt (by rw[(here_k e2).1];decide) e1]
      exact⟨by simp only;omega,by simp only;omega,by simp only[List.length_append,List.length_cons,List.length_nil];omega⟩
     ·have hb:WQ L ((T false [] (fldQ L n q)).2.at_+k) (T false [] (fldQ L n q)).2:=h1.any
      unfold slk
      rw[if_neg hw2]
      refine (hb.sign cSem).set (by have:=signQ_at (L:=L) (q:=(T false [] (fldQ L n q)).2) cSem;omega) n _ (fun d hd=>?_) (fun d hd=>hd)
      have:=signQ_at (L:=L) (q:=(T false [] (fldQ L n q)).2) cSem
      exact⟨by simp only;omega,by simp only;omega,by simp only[List.length_append,List.length_cons,List.length_nil];omega⟩
    obtain⟨a1,a2,a3⟩:=fieldsQ_g hT hG n m ((signQ L (T false [] (fldQ L n q)).2 cSem).setN n fun d=>{ d with fields:=d.fields++[((tkQ L q).s,hereQ L (fldA L n q) cQ,(T false [] (fldQ L n q)).1)] }) hs
    have:=signQ_at (L:=L) (q:=(T false [] (fldQ L n q)).2) cSem
    rw[setN_lenQ,signQ_ns] at a3
    refine⟨a1,?_,by omega⟩
    have a2':(signQ L (T false [] (fldQ L n q)).2 cSem).at_≤_:=a2
    omega
theorem GQ.sign (hT:TokOk L) (hk1:1≤k) (h:GQ L k q) (x:ByteArray):GQ L k (signQ L q x):=by
 refine gq_sign hT hk1 ?_ x
 split
 ·next hz=>exact (h.ok hz).le (by omega)
 ·next hz=>exact h.no hz
theorem defQ_g (hk1:1≤k) (n:Nat) (hw:q.why=0) (h:GQ L k q):GQ L k (defQ L n q)∧q.at_≤(defQ L n q).at_∧(defQ L n q).ns.length=q.ns.length:=by
 have h1:WQ L q.at_ (defQ L n q):=((((h.ok hw).name).bad _ _).set (Nat.le_refl _) n (fun d=>{ d with name:=(tkQ L q).s }) (fun d hd=>hd) (fun d hd=>hd)).on
 have ha:q.at_≤(defQ L n q).at_:=by
  unfold defQ
  refine Nat.le_trans ?_ onQ_at
  show _≤(badQ _ _ _ _).at_
  rw[badQ_at,nameQ_at];exact Nat.le_refl _
 exact⟨GQ.ofOk (h1.le ha),ha,by unfold defQ;rw[onQ_ns,setN_lenQ,badQ_ns,nameQ_ns]⟩
theorem sizeQ_g (n:Nat) (h:GQ L k q):GQ L k (sizeQ L n q)∧q.at_≤(sizeQ L n q).at_∧(sizeQ L n q).ns.length=q.ns.length:=by
 have ha:q.at_≤(sizeQ L n q).at_:=by
  unfold sizeQ
  refine Nat.le_trans ?_ onQ_at
  show _≤(badQ _ _ _ _).at_
  rw[badQ_at];exact Nat.le_refl _
 refine⟨?_,ha,by unfold sizeQ;rw[onQ_ns,setN_lenQ,badQ_ns]⟩
 by_cases hw:q.why=0
 ·have h1:WQ L q.at_ (sizeQ L n q):=(((h.ok hw).bad _ _).set (Nat.le_refl _) n (fun d=>{ d with size:=(((numO (tkQ L q).s.data.toList).getD 0:Nat):Int) }) (fun d hd=>hd) (fun d hd=>hd)).on
  exact GQ.ofOk (h1.le ha)
 ·have h1:WQ L (q.at_+k) (sizeQ L n q):=(((h.no hw).bad _ _).set (Nat.le_refl _) n (fun d=>{ d with size:=(((numO (tkQ L q).s.data.toList).getD 0:Nat):Int) }) (fun d hd=>hd) (fun d hd=>hd)).on
  refine GQ.ofNo (h1.le (by omega)) ?_
  unfold sizeQ
  rw[onQ_why]
  show (badQ _ _ _ _).why≠0
  rw[badQ_why hw];exact hw
theorem definedQ_g (hT:TokOk L) (hG:GTQ L k T) (n:Nat) (c:Int) (hw:q.why=0) (h:GQ L (k+1) q):GQ L (k+1) (definedQ L T n c q)∧q.at_≤(definedQ L T n c q).at_∧q.ns.length≤(definedQ L T n c q).ns.length:=by
 obtain⟨h1,h2,h3⟩:=defQ_g (by omega) n hw h
 unfold definedQ
 split
 ·obtain⟨a1,a2,a3⟩:=sizeQ_g n h1
  exact⟨a1,by omega,by omega⟩
 ·split
  ·obtain⟨a1,a2,a3⟩:=fieldsQ_g hT hG n L.length _ (h1.sign hT (by omega) cCuO)
   have:=signQ_at (L:=L) (q:=defQ L n q) cCuO
   rw[signQ_ns] at a3
   exact⟨a1,by omega,by omega⟩
  ·obtain⟨a1,a2,a3⟩:=symsQ_g hT (by omega) n L.length _ (h1.sign hT (by omega) cLt)
   have:=signQ_at (L:=L) (q:=defQ L n q) cLt
   rw[signQ_ns] at a3
   exact⟨a1,by omega,by omega⟩
theorem restQ_g (hT:TokOk L) (hG:GTQ L k T) (n:Nat) (c:Int) (hn:n<q.ns.length) (hw:q.why=0) (h:WQ L q.at_ q):GQ L (k+1) (restQ L T c n q)∧q.at_≤(restQ L T c n q).at_∧q.ns.length≤(restQ L T c n q).ns.length:=by
 unfold restQ
 split
 ·exact itemQ_g hT hG n _ hn hw (GQ.ofOk h)
 ·split
  ·exact itemQ_g hT hG n _ hn hw (GQ.ofOk h)
  ·split
   ·exact allQ_g hT hG n _ _ hn (GQ.ofOk h)
   ·split
    ·exact definedQ_g hT hG n c hw (GQ.ofOk h)
    ·exact⟨GQ.ofOk h,Nat.le_refl _,Nat.le_refl _⟩
end
theorem gate1_at:(gate1 L q).at_=q.at_:=by unfold gate1;split;exact nameQ_at;rfl
theorem gate1_ns:(gate1 L q).ns=q.ns:=by unfold gate1;split;exact nameQ_ns;rfl
theorem gateQ_at (fuel:Nat) (u:Bool) (l:List Nat):(gateQ L fuel u l q).at_=q.at_:=by unfold gateQ;rw[badQ_at,badQ_at,badQ_at,badQ_at,gate1_at]
theorem gateQ_ns (fuel:Nat) (u:Bool) (l:List Nat):(gateQ L fuel u l q).ns=q.ns:=by unfold gateQ;rw[badQ_ns,badQ_ns,badQ_ns,badQ_ns,gate1_ns]
theorem gateQ_ok {fuel:Nat} {u:Bool} {l:List Nat} (h:(gateQ L fuel u l q).why=0):gateQ L fuel u l q=q∧q.why=0∧(kOf (tkQ L q)<0→(tkQ L q).k=0∧nameP (tkQ L q).s=true∧refKw (tkQ L q).s=false∧0≤calledQ L q)∧fuel≠0∧(0≤kOf (tkQ L q)→q.ns.length<200):=by
 unfold gateQ at h ⊢
 obtain⟨b4,e4,w4⟩:=badQ_ok (by decide) h
 rw[e4]
 obtain⟨b3,e3,w3⟩:=badQ_ok (by decide) w4
 rw[e3]
 obtain⟨b2,e2,w2⟩:=badQ_ok (by decide) w3
 rw[e2]
 obtain⟨b1,e1,w1⟩:=badQ_ok (by decide) w2
 rw[e1]
 simp only[Bool.or_eq_false_iff,Bool.and_eq_false_iff,decide_eq_false_iff_not,Int.not_lt,Nat.not_le] at b1 b2
 unfold gate1 at w1 ⊢
 by_cases hk:kOf (tkQ L q)<0
 ·rw[if_pos hk] at w1 ⊢
  obtain⟨a1,a2,a3,a4,a5⟩:=nameQ_okk w1
  exact⟨a2,a1,fun _=>⟨a3,a4,a5,by rcases b2 with h|h;omega;exact h⟩,b1.1,fun h=>absurd hk (by omega)⟩
 ·rw[if_neg hk] at w1 ⊢
  exact⟨rfl,w1,fun h=>absurd h hk,b1.1,fun h=>by rcases b1.2 with h2|h2;omega;exact h2⟩
theorem kOf_k {t:Tok} (h:0≤kOf t):t.k≠3:=by
 intro e
 unfold kOf at h
 rw[if_neg (by omega)] at h
 omega
theorem typedQ_g (hT:TokOk L):∀fuel,GTQ L (fuel+1) (typedQ L fuel)
 | 0,u,l,q,hw,h=>by
  rw[typedQ]
  simp only
  rw[gateQ_at,gateQ_ns]
  have hne:(gateQ L 0 u l q).why≠0:=fun e=>(gateQ_ok e).2.2.2.1 rfl
  refine⟨?_,Nat.le_refl _,Nat.le_refl _,fun e=>absurd e hne,by simp⟩
  have hq:=h.ok hw
  exact GQ.ofOk ⟨by rw[gateQ_at];exact hq.lt,by rw[gateQ_at,gateQ_ns];exact hq.len,by rw[gateQ_ns];exact hq.idx⟩
 | fuel+1,u,l,q,hw,h=>by
  have hq:=h.ok hw
  rw[typedQ]
  split
  ·next hne=>
   simp only
   rw[gateQ_at,gateQ_ns]
   exact⟨GQ.ofOk ⟨by rw[gateQ_at];exact hq.lt,by rw[gateQ_at,gateQ_ns];exact hq.len,by rw[gateQ_ns];exact hq.idx⟩,Nat.le_refl _,Nat.le_refl _,fun e=>absurd e hne,by simp⟩
  ·next hz=>
   have hz:(gateQ L (fuel+1) u l q).why=0:=by simpa using hz
   obtain⟨e1,e2,e3,e4,e5⟩:=gateQ_ok hz
   rw[e1]
   split
   ·next hk=>
    obtain⟨a1,a2,a3,a4⟩:=e3 hk
    have hon:=onQ_adv hT hq.lt (by rw[a1];decide) e2
    simp only
    refine⟨?_,onQ_at,by rw[onQ_ns];exact Nat.le_refl _,fun _=>by rw[hon];exact Nat.lt_succ_self _,.inr ?_⟩
    ·exact GQ.ofOk (hq.on.le onQ_at)
    ·rw[onQ_ns]
     unfold calledQ at a4 ⊢
     rw[if_pos hk] at a4 ⊢
     cases hc:calledN q.ns (tkQ L q).s with
     | none=>rw[hc] at a4;exact absurd a4 (by simp[optI])
     | some m=>simpa [optI] using calledN_lt hc
   ·next hk=>
    have hk:0≤kOf (tkQ L q):=by omega
    have hon:=onQ_adv hT hq.lt (kOf_k hk) e2
    have hnq:newQ L (kOf (tkQ L q)) q=⟨q.at_+1,q.ns++[Nd.ofKind (kOf (tkQ L q))],q.why,q.bad⟩:=by unfold newQ;rw[hon]
    have hW:WQ L (newQ L (kOf (tkQ L q)) q).at_ (newQ L (kOf (tkQ L q)) q):=by
     rw[hnq]
     refine⟨tok_next hT hq.lt (kOf_k hk),fun d hd=>?_,fun d hd m hm=>?_⟩
     ·rcases List.mem_append.1 hd with hd|hd
      ·have:=hq.len d hd;simp only;omega
      ·rw[List.mem_singleton] at hd;subst hd;exact⟨Nat.zero_le _,Nat.zero_le _,Nat.zero_le _⟩
     ·simp only[List.length_append,List.length_cons,List.length_nil]
      rcases List.mem_append.1 hd with hd|hd
      ·have:=hq.idx d hd m hm;omega
      ·rw[List.mem_singleton] at hd;subst hd;cases hm
    have hl:(newQ L (kOf (tkQ L q)) q).ns.length=q.ns.length+1:=by rw[hnq];simp
    obtain⟨r1,r2,r3⟩:=restQ_g hT (typedQ_g hT fuel) q.ns.length (kOf (tkQ L q)) (by rw[hl];omega) (by rw[hnq];exact e2) hW
    have hat:(newQ L (kOf (tkQ L q)) q).at_=q.at_+1:=by rw[hnq]
    simp only
    exact⟨r1,by omega,by omega,fun _=>by omega,.inr (by omega)⟩
end Pr
namespace Pr
open Go.ChangeShapes Go.WideShapes Go.ChangeAt Go.RowKit
open Base Lx Mi
def qMeas (R:Nat) (w:World):Nat:=match w.cell? ⟨R,0,none⟩,w.cell? ⟨R,1,none⟩,w.cell? ⟨R,3,none⟩ with
 | some (.slice _ n _),some (.int _ a),some (.int _ y)=>if y=0 then n-a.toNat else 0
 | _,_,_=>0
section
variable {B R:Nat} {vl vn:Value} {vs:List V3} {L:List Tok} {q:QS}
theorem Rq.meas {w:World} (h:Rq B w R vl vn vs L q):qMeas R w=if q.why=0 then L.length-q.at_ else 0:=by
 obtain⟨tg,off,cap,rfl,_⟩:=h.toks
 unfold qMeas
 rw[h.blk.cell 0,h.blk.cell 1,h.blk.cell 3]
 simp only[List.getElem?_toArray,List.getElem?_cons_zero,List.getElem?_cons_succ]
 by_cases hw:q.why=0
 ·rw[if_pos hw,if_pos (by rw[hw];rfl)];simp
 ·rw[if_neg hw,if_neg (by omega)]
theorem Rq.why_cell {w:World} (h:Rq B w R vl vn vs L q):w.cell? ⟨R,3,none⟩=some (.int .i64 (q.why:Int)):=h.blk.cell 3
def TypQ (B R:Nat) (L:List Tok) (deep fuel:Nat):Prop:=∀(union:Bool) (ahead:List Nat) (A:Option Addr) (na ca:Nat) (q:QS) (w:World) (vl vn:Value) (vs:List V3),Rq B w R vl vn vs L q→q.why=0→WQ L q.at_ q→Rd w A (ints ahead)→ahead.length=na→na≤100000→(∀m∈ahead,m<q.ns.length)→B≤w.heap.size→(∀a,A=some a→¬a.block=R)→
 Calls Tryz.prog 65 #[.pointer (some ⟨R,0,none⟩),.int .i64 (deep:Int),.bool union,.slice A na ca] w fun e w'=>e=.returned (.int .i64 ((typedQ L fuel union ahead q).1:Int))∧PT B R vl vn vs L w (typedQ L fuel union ahead q).2 w'
theorem ints_one' (l:List Nat):∀u∈ints l,u.oneCell'=true:=by
 intro u hu
 obtain⟨x,_,rfl⟩:=List.mem_map.1 hu
 rfl
theorem nd_at {n:Nat} {d:Nd} (h:q.ns[n]?=some d):q.nd n=d:=by unfold QS.nd;rw[List.getD,h];rfl
set_option maxRecDepth 1000000 in
set_option maxHeartbeats 4000000 in
theorem all_any {deep fuel:Nat} (hTk:TokOk L) (H:TypQ B R L (deep+1) fuel) (hd20:deep≤100) (hfu:fuel≤100) (n:Nat) (w:World) (h:Rq B w R vl vn vs L q) (hW:WQ L q.at_ q) (hw0:q.why=0) (hn:n<q.ns.length) (hB:B≤w.heap.size) (hv0:∀v,vs[n]?=some v→v.2.1.ownBlock=none) :
  Calls Tryz.prog 91 #[.pointer (some ⟨R,0,none⟩),.int .i64 (n:Int),.int .i64 (deep:Int)] w fun e w'=>e=.returned (.tuple #[])∧PT B R vl vn vs L w (allQ L (typedQ L fuel) n L.length q) w':=by
 have hG:=typedQ_g hTk fuel
 obtain⟨R0,hR0⟩:∃z,Hid (allQ L (typedQ L fuel) n L.length q=z):=⟨_,Lib.hid rfl⟩
 rw[hR0.out]
 have hdw:IntKind.i64.wrap ((deep:Int)+1)=(deep:Int)+1:=by rw[IntKind.wrap_i64];omega
 have htl:=h.tl
 obtain⟨M0,hM0⟩:∃z,Hid (L.length=z):=⟨_,Lib.hid rfl⟩
 have hmL:L.length-q.at_≤M0:=by have:=hM0.out;omega
 rw[hM0.out] at hR0
 go_enter Tryz.func91,Tryz.ntmps91
 go_wp2_with fail
 go_loopw [6] (fun v6 wr=>∃(m:Nat) (q1:QS) (vn1:Value) (vs1:List V3),Rq B wr R vl vn1 vs1 L q1∧Chg (Wq R vn) w wr∧Fresh w vn vn1∧SF w vs vs1∧Hid (allQ L (typedQ L fuel) n m q1=R0)∧GQ L (fuel+1+1) q1∧n<q1.ns.length∧(q1.why=0→L.length-q1.at_≤m)) (fun _ wr=>qMeas R wr)
 case atStart=>exact⟨M0,q,vn,vs,h,Chg.refl _ w,.inl rfl,SF.refl w vs,hR0,GQ.ofOk hW,hn,fun _=>hmL⟩
 case round=>
  obtain⟨m,q1,vn1,vs1,h1,hc1,hf1,hg1,hR1,hG1,hn1,hm1⟩:=hrel
  have hy:=h1.why_cell
  have hms:=h1.meas
  have hsz1:=hc1.size
  by_cases hw1:q1.why=0
  ·obtain⟨m,rfl⟩:∃k,m=k+1:=⟨m-1,by have:=hm1 hw1;have:=h1.lt;omega⟩
   have hW1:=hG1.ok hw1
   obtain⟨d,v,b,c,hd,hv,rfl,hc1',hc2',hcell⟩:=h1.node n hn1
   have hdd:=nd_at hd
   have hlen:=(hW1.len d (List.mem_of_getElem? hd)).2.1
   have hidx:=hW1.idx d (List.mem_of_getElem? hd)
   have hs:=h1.nds.sub n d v hd hv
   obtain⟨A4,c4,e4,hl1,hl2,hrd4,_⟩:=Rd.of_own hs.items
   have hT:=H true d.items A4 d.items.length c4 q1 wr vl _ vs1 h1 hw1 hW1 hrd4 rfl (by have:=h1.lt;omega) hidx (Nat.le_trans hB hsz1) (fun a ha e=>h1.ne hs.items (by decide) R (by rw[e4,ha];show some a.block=_;rw[e]) rfl)
   rw[show ((deep+1:Nat):Int)=(deep:Int)+1 by omega] at hT
   obtain⟨g1,g2,g3,g4,g5⟩:=hG true d.items q1 hw1 (GQ.ofOk hW1)
   have hR1':=hR1.out
   rw[allQ,if_neg (by rw[hw1];simp),hdd] at hR1'
   obtain⟨r,hr⟩:∃z,Hid (typedQ L fuel true d.items q1=z):=⟨_,rfl⟩
   rw[hr.out] at hT g1 g2 g3 g4 g5 hR1'
   obtain⟨x,q2⟩:=r
   simp only at hT g1 g2 g3 g4 g5 hR1'
   have hn2:n<q2.ns.length:=by omega
   obtain⟨nn,hnn⟩:∃z,Hid (q1.ns.length=z):=⟨_,Lib.hid rfl⟩
   have y2:wr.cell? ⟨R,2,none⟩=some (.slice (some ⟨b,0,none⟩) nn c):=by rw[←hnn.out];exact h1.blk.cell 2
   have k4:wr.cell? ⟨b,n*6+4,none⟩=some (.slice A4 d.items.length c4):=by rw[←e4];have:=hcell wr (Ext.refl _) 4 (by omega);simpa [ndC] using this
   have hnI:(n:Int)<(nn:Int):=by have:=hnn.out;omega
   have hyb:((q1.why:Int) == 0)=true:=by rw[hw1];rfl
   obtain⟨li,hli⟩:∃z,Hid (d.items.length=z):=⟨_,Lib.hid rfl⟩
   rw[hli.out] at hT k4
   have hnL:=hr
   clear hcell hrd4 hidx hG hR1 hs hr
   go_wp2_with fail
   refine hT.mono ?_
   rintro e w2 ⟨rfl,hc2,vn2,vs2,h2,hf2,hg2⟩
   clear hT
   have hcT:=hc1.trans hc2 (Wq.back hf1)
   have hfT:=hf1.trans hf2 hsz1
   have hgT:=hg1.trans hg2 hsz1
   have hszT:=hcT.size
   obtain⟨d2,v2,b2,c2,hd2,hv2,rfl,hc1'',hc2'',hcell2⟩:=h2.node n hn2
   have hgb:∃cur,Blk w2 b2 cur 36:=by
    obtain⟨b9,c9,cur,e9,_,hg9,_⟩:=h2.rowb n hn2
    injection e9 with e9 _ _
    injection e9 with e9
    injection e9 with e9 _ _
    subst e9
    exact⟨cur,hg9⟩
   obtain⟨cur,hgb⟩:=hgb
   have hs2:=h2.nds.sub n d2 v2 hd2 hv2
   obtain⟨A5,c5,e5,hl3,hl4,hrd5,_⟩:=Rd.of_own hs2.items
   have hlen2:=(g1.any.len d2 (List.mem_of_getElem? hd2)).2.1
   obtain⟨mm,hmm⟩:∃z,Hid (q2.ns.length=z):=⟨_,Lib.hid rfl⟩
   obtain⟨li2,hli2⟩:∃z,Hid (d2.items.length=z):=⟨_,Lib.hid rfl⟩
   have hlI:(li2:Int)≤100000∧li2≤100000:=by have:=hli2.out;have:=g1.lt;have:=hn;have h9:=g1.any.lt;exact⟨by omega,by omega⟩
   have hnM:(n:Int)<(mm:Int):=by have:=hmm.out;omega
   have hv2i:Hid (v2.2.1=.slice A5 li2 c5):=Lib.hid (by rw[e5,hli2.out])
   clear e5
   obtain⟨S,hSd⟩:∃S:Nat→Prop,Hid (S=fun k=>v2.2.1.ownBlock=some k):=⟨_,Lib.hid rfl⟩
   have hSi:∀k,S k→v2.2.1.ownBlock=some k:=fun k hk=>by rw[hSd.out] at hk;exact hk
   have hSr:∀k,v2.2.1.ownBlock=some k→S k:=fun k hk=>by rw[hSd.out];exact hk
   have hS2R:¬S R:=fun e=>h2.ne hs2.items (by decide) R (hSi R e) rfl
   have hS2b:¬S b2:=fun e=>own_not hs2.items h2.nds.row (by decide) b2 rfl (hSi b2 e)
   have hS2w:∀k,S k→w.heap.size≤k:=fun k hk=>by
    rcases (hgT n v2 hv2).2.1 k (hSi k hk) with e|⟨v9,e1,e2⟩
    ·exact e
    ·rw[hv0 v9 e1] at e2;cases e2
   go_wp2_with fail
   refine Reg.startX (R:=Chg S) (by kernel_rfl) ?_
   have hRl:=Reg.rl_chg S
   generalize hwq:World.drew _=wq
   have hxq:Ext w2 wq:=by rw[←hwq];exact (Ext.refl w2).drew
   clear hwq
   have hq:=h2.ext hxq
   have hsq:=hs2.ext hxq
   have hszq:=hxq.size
   have r2:∀W,Chg S wq W→W.cell? ⟨R,2,none⟩=some (.slice (some ⟨b2,0,none⟩) mm c2):=fun W hW=>(hW.blk hq.blk hS2R).cell 2 |>.trans (by rw[←hmm.out];rfl)
   have r4:∀W,Chg S wq W→W.cell? ⟨b2,n*6+4,none⟩=some (.slice A5 li2 c5):=fun W hW=>hW.cell (by rw[←hv2i.out];have:=hcell2 wq hxq 4 (by omega);simpa [ndC] using this) hS2b
   iterate 3 ((first|refine Reg.un hRl ?_|refine Reg.vn hRl ?_);(try simp only[Reg.nn]))
   refine Reg.tx hRl 3 ?_;(try simp only[Reg.nn])
   iterate 4 ((first|refine Reg.un hRl ?_|refine Reg.vn hRl ?_);(try simp only[Reg.nn]))
   refine Reg.tx hRl 8 ?_;(try simp only[Reg.nn])
   iterate 3 ((first|refine Reg.un hRl ?_|refine Reg.vn hRl ?_);(try simp only[Reg.nn]))
   refine Reg.tx hRl 12 ?_;(try simp only[Reg.nn])
   refine Reg.tx hRl 13 ?_;(try simp only[Reg.nn])
   refine Reg.onlyX 14 _ rfl (by kernel_rfl) (by decide) (by rfl) (fun K hK=>?_);go_simp
   have ha:Ext wq (wq.alloc (.cells #[.int .i64 (x:Int)] 3)):=(Ext.refl wq).alloc _
   refine hK.out _ _ (Chg.ofExt ha) ?_;clear hK K;(try simp only[Reg.nn])
   refine Reg.onlyX 15 _ rfl (by kernel_rfl) (by decide) (by rfl) (fun K hK=>?_)
   refine wp_app el_int _ (.tmp 36) (.tmp 38) rfl B (.slice A5 li2 c5) li2 (ints d2.items) rfl (by rw[←hv2i.out,←hli2.out];exact own_ext hsq.items ha) (some ⟨wq.heap.size,0,none⟩) 1 1 (ints [x]) rfl (Rd.of_block wq 3 (0,0) rfl) rfl (fun h=>by cases h) (ints_one' [x]) (by omega) (by omega) (by simp;omega) ?_
   intro V2 w3 ho3 hg3 hv3
   obtain⟨A6,c6,rfl,jj1,jj2,jj3,jj4⟩:=Rd.of_own ho3
   clear jj1 jj2 jj3 jj4
   have hch3:Chg S (wq.alloc (.cells #[.int .i64 (x:Int)] 3)) w3:=(Chg.ofGrown hg3).mono fun k _ e=>hSr k (by rw[hv2i.out];exact e)
   have hch:Chg S wq w3:=(Chg.ofExt ha).trans hch3 (fun _ _ e=>e)
   refine hK.out _ _ hch3 ?_
   clear hK K
   (try simp only[Reg.nn])
   have c34:=r4 w3 hch
   have f34:=(hch.blk (hgb.ext hxq) hS2b).frozen (n*6+4)
   iterate 2 ((first|refine Reg.un hRl ?_|refine Reg.vn hRl ?_);(try simp only[Reg.nn]))
   refine Reg.lastX 18 _ rfl (by kernel_rfl) (by kernel_rfl) (by kernel_rfl) (by decide) (by rfl) (fun K hK=>?_)
   go_simp
   refine hK.out _ _ ?_;clear hK K;(try simp only[Reg.nn])
   obtain⟨G,hG⟩:∃G:V3→V3,G=fun v=>(v.1,.slice A6 (li2+1) c6,v.2.2):=⟨_,rfl⟩
   have hV6:∀k,(Value.slice A6 (li2+1) c6).ownBlock=some k→w2.heap.size≤k∨v2.2.1.ownBlock=some k:=fun k hk=>by
    rcases hv3 with e|e
    ·rw[e,←hv2i.out] at hk;exact .inr hk
    ·rw[e] at hk;injection hk with hk;left;simp at hk;omega
   have hGn:∀v,vs2[n]?=some v→v=v2:=fun v hv=>by rw[hv2] at hv;injection hv with hv;exact hv.symm
   have hap:Ap (vs2.modify n G):=ap_new (w:=w2) h2.ap h2.subLt (fun v hv=>by
    obtain rfl:=hGn v hv
    subst hG
    exact⟨fun k hk=>.inr hk,fun k hk=>hV6 k hk,fun k hk=>.inr hk⟩)
   have hRf:=hq.refill (S:=S) (n:=n) (i:=4) hch (fun k hk=>(hs2.items.lt k (hSi k hk)).1) hS2R hS2b
    (fun j d v hj q3 q4=>by
     have hsj:=h2.nds.sub j d v q3 q4
     exact⟨fun k hk e=>own_not hs2.items hsj.syms (by decide) k hk (hSi k e),fun k hk e=>(h2.ap j n v v2 q4 hv2 hj).2.1 k hk (hSi k e),fun k hk e=>own_not hs2.items hsj.fields (by decide) k hk (hSi k e)⟩)
    hn2 (by omega) (fun d=>{ d with items:=d.items++[x] }) G (.slice A6 (li2+1) c6) (fun d v q3 q4=>by
     obtain rfl:=hGn v q4
     rw[hd2] at q3;injection q3 with q3;subst q3
     subst hG
     refine⟨rfl,own_chg hsq.syms hch (fun k hk e=>own_not hsq.items hsq.syms (by decide) k hk (hSi k e)),?_,own_chg hsq.fields hch (fun k hk e=>own_not hsq.items hsq.fields (by decide) k hk (hSi k e))⟩
     show w3.ownsRow B 3 1 (.slice A6 (li2+1) c6) (d2.items++[x]).length (ints (d2.items++[x]))
     rw[List.length_append,hli2.out,show ints (d2.items++[x])=ints d2.items++ints [x] by simp[ints]]
     exact ho3) hap
   have hchF:Chg (Wq R vn) w (w3.setCell ⟨b2,n*6+4,none⟩ (.slice A6 (li2+1) c6)):=by
    refine ((hcT.trans (Chg.ofExt hxq) (fun _ _ e=>e)).trans hch (fun k hk e=>by have:=hS2w k e;omega)).trans (Chg.one w3 b2 (n*6+4) _) (fun k hk e=>?_)
    exact Wq.back hfT k hk (.inr (by rw[e];rfl))
   have hgF:SF w vs (vs2.modify n G):=hgT.trans (sf_modify w vs2 n G (fun v hv=>by
    obtain rfl:=hGn v hv
    subst hG
    exact⟨fun k hk=>.inr hk,fun k hk=>(hV6 k hk).imp (fun e=>by omega) (fun e=>e),fun k hk=>.inr hk⟩)) (Nat.le_refl _)
   obtain⟨q3,hq3⟩:∃z,Hid ((q2.setN n fun d=>{ d with items:=d.items++[x] })=z):=⟨_,rfl⟩
   rw[hq3.out] at hRf hR1'
   have hq3w:q3.why=q2.why:=by rw[←hq3.out];rfl
   have hq3a:q3.at_=q2.at_:=by rw[←hq3.out];rfl
   have hq3n:q3.ns.length=q2.ns.length:=by rw[←hq3.out,setN_lenQ]
   have hW3:WQ L (q3.at_+if q3.why=0 then 1 else fuel+1+1) q3:=by
    rw[←hq3.out]
    show WQ L (q2.at_+if q2.why=0 then 1 else fuel+1+1) _
    split
    ·next hz=>exact (g1.ok hz).set (by omega) n _ (fun d hd=>⟨by simp only;omega,by simp only[List.length_append,List.length_cons,List.length_nil];omega,by simp only;omega⟩) (fun d hd m hm=>by
      simp only[List.mem_append,List.mem_cons,List.not_mem_nil,or_false] at hm
      rcases hm with hm|hm
      ·exact hd m hm
      ·rcases g5 with e|e<;>omega)
    ·next hz=>exact (g1.no hz).set (by omega) n _ (fun d hd=>⟨by simp only;omega,by simp only[List.length_append,List.length_cons,List.length_nil];omega,by simp only;omega⟩) (fun d hd m hm=>by
      simp only[List.mem_append,List.mem_cons,List.not_mem_nil,or_false] at hm
      rcases hm with hm|hm
      ·exact hd m hm
      ·rcases g5 with e|e<;>omega)
   rw[show (Value.slice (some ⟨b2,0,none⟩) q2.ns.length c2)=.slice (some ⟨b2,0,none⟩) mm c2 by rw[hmm.out]] at hRf hfT
   obtain⟨wf,hwf⟩:∃z,Hid (w3.setCell ⟨b2,n*6+4,none⟩ (.slice A6 (li2+1) c6)=z):=⟨_,rfl⟩
   rw[hwf.out] at hRf hchF ⊢
   have h6lt:=hRf.lt
   have hhere:=here_any cPaC wf hRf
   rw[show cPaC=(⟨#[41]⟩:ByteArray) from rfl] at hhere hR1'
   clear hap r2 r4 hcell2 hq hsq hs2 hV6 hGn hcT
   go_wp2_with fail
   refine hhere.mono ?_
   rintro e w5 ⟨rfl,hx5⟩
   have hR5:=hRf.ext hx5
   have hch5:Chg (Wq R vn) w w5:=hchF.trans (Chg.ofExt hx5) (fun _ _ e=>e)
   rw[show (⟨#[41]⟩:ByteArray)=cPaC from rfl] at hR1' ⊢
   cases hb:hereQ L q3 cPaC with
   | true=>
    rw[hb,if_pos rfl] at hR1'
    have hon:=on_any w5 hR5
    rw[hR1'] at hon
    clear hhere
    go_wp2_with fail
    refine hon.mono ?_
    rintro e w6 ⟨rfl,hc6,h6⟩
    go_wp2_with fail
    refine bodyPost_ret (results_none rfl _ _ _) rfl ?_
    exact⟨rfl,hch5.trans hc6 (fun k _ e=>.inl e),_,_,h6,hfT,hgF⟩
   | false=>
    rw[hb,if_neg (by simp)] at hR1'
    have hsg:=sign_any cBar w5 hR5
    have hGs:=gq_sign hTk (by omega) hW3 cBar
    have hsn:=signQ_ns (L:=L) (q:=q3) cBar
    have hsa:=fun e=>signQ_ok (L:=L) (q:=q3) (x:=cBar) e
    rw[show cBar=(⟨#[124]⟩:ByteArray) from rfl] at hsg
    obtain⟨q4,hq4⟩:∃z,Hid (signQ L q3 cBar=z):=⟨_,rfl⟩
    rw[show (⟨#[124]⟩:ByteArray)=cBar from rfl,hq4.out] at hsg
    rw[show cBar=(⟨#[124]⟩:ByteArray) from rfl] at hsg
    rw[hq4.out] at hR1' hGs hsn hsa
    have hR4:=Lib.hid hR1'
    clear hhere hR1'
    go_wp2_with fail
    refine hsg.mono ?_
    rintro e w6 ⟨rfl,hc6,h6⟩
    have hms6:=h6.meas
    have hadv:q4.why=0→q1.at_<q4.at_:=fun e=>by
     obtain⟨a1,a2,a3⟩:=hsa e
     rw[a3,onQ_adv hTk h6lt (by rw[(here_k a2).1];decide) a1]
     show q1.at_<q3.at_+1
     omega
    go_wp2_with fail
    go_roundw
    case rel=>exact⟨m,q4,_,_,h6,hch5.trans hc6 (fun k _ e=>.inl e),hfT,hgF,hR4,hGs,by rw[hsn];omega,fun e=>by have:=hadv e;have:=hm1 hw1;omega⟩
    case measure=>
     rw[hms6,hms,if_pos hw1]
     have:=h1.lt
     split
     ·next e=>have:=hadv e;omega
     ·omega
  ·have hneb:((q1.why:Int) == 0)=false:=by simpa using (by omega:¬(q1.why:Int)=0)
   have hall:allQ L (typedQ L fuel) n m q1=q1:=by
    cases m with
    | zero=>rfl
    | succ m=>rw[allQ,if_pos hw1]
   have hne:¬(q1.why:Int)=0:=by omega
   have hRq:q1=R0:=by rw[←hall];exact hR1.out
   subst hRq
   have hfin:PT B R vl vn vs L w q1 wr:=⟨hc1,vn1,vs1,h1,hf1,hg1⟩
   obtain⟨y,hyy⟩:∃z,Hid (q1.why=z):=⟨_,Lib.hid rfl⟩
   rw[hyy.out] at hy hneb hne
   clear hR1 hR0 hall hms hm1 hG1 hG h1 hw1 hn1
   go_wp2_with fail
   go_end0
   exact⟨rfl,hfin⟩
end
section
variable {B R:Nat} {vl vn:Value} {vs:List V3} {L:List Tok} {q:QS}
theorem optI_some (o:Option Nat):decide (0≤optI o)=o.isSome:=by
 cases o with
 | none=>rfl
 | some n=>simp[optI]
theorem badQ_or (a b:Bool) {e:Nat} (he:e≠0):badQ L (badQ L q a e) b e=badQ L q (a || b) e:=by
 by_cases hw:q.why=0
 ·cases a with
  | false=>rw[badQ_false];rfl
  | true=>rw[Bool.true_or,badQ_true hw,badQ_why (by exact he)]
 ·rw[badQ_why hw,badQ_why hw,badQ_why hw]
theorem Rq.fillN {w:World} {b c n i:Nat} (h:Rq B w R vl (.slice (some ⟨b,0,none⟩) q.ns.length c) vs L q) (hn:n<q.ns.length) (hi:i<3) (f:Nd→Nd) (u:Value) (hq:∀d v,ndC (f d) v=(ndC d v).set i u) (hf:∀d,(f d).syms=d.syms∧(f d).items=d.items∧(f d).fields=d.fields) :
  Rq B (w.setCell ⟨b,n*6+i,none⟩ u) R vl (.slice (some ⟨b,0,none⟩) q.ns.length c) vs L (q.setN n f):=by
 have:=h.fill (n:=n) (i:=i) hn (by omega) f id u (fun d v q1 q2=>⟨hq d v,by
  have hs:=h.nds.sub n d v q1 q2
  obtain⟨f1,f2,f3⟩:=hf d
  exact⟨by rw[f1];exact hs.syms,by rw[f2];exact hs.items,by rw[f3];exact hs.fields⟩⟩) (ap_id h.ap (fun _ _=>rfl))
 have e:vs.modify n id=vs:=by
  apply List.ext_getElem?
  intro i
  rw[List.getElem?_modify]
  cases vs[i]?<;>simp
 rwa [e] at this
theorem Rq.rowc {w:World} (h:Rq B w R vl vn vs L q) {n:Nat} (hn:n<q.ns.length):∃b c cur,vn=.slice (some ⟨b,0,none⟩) q.ns.length c∧B≤b∧Blk w b cur 36∧q.ns.length≤c∧c≤maxLen∧n*6+5<cur.size:=by
 obtain⟨b,c,cur,e,h1,h2,h3,h4,h5,_⟩:=h.rowb n hn
 exact⟨b,c,cur,e,h1,h2,h3,h4,by omega⟩
set_option maxRecDepth 1000000 in
set_option maxHeartbeats 4000000 in
theorem defined10_any (deep n:Nat) (w:World) (h:Rq B w R vl vn vs L q) (hn:n<q.ns.length) (hB:B≤w.heap.size) :
  Calls Tryz.prog 92 #[.pointer (some ⟨R,0,none⟩),.int .i64 (n:Int),.int .i64 10,.int .i64 (deep:Int)] w fun e w'=>e=.returned (.tuple #[])∧PT B R vl vn vs L w (sizeQ L n (defQ L n q)) w':=by
 have hnm:=nameQ_any w h
 have hnn':=nameQ_ns (L:=L) (q:=q)
 obtain⟨x,hx⟩:∃z,Hid ((tkQ L q).s=z):=⟨_,Lib.hid rfl⟩
 rw[hx.out] at hnm
 obtain⟨cv,hcv⟩:∃z,Hid (optI (calledN q.ns x)=z):=⟨_,Lib.hid rfl⟩
 have hdq:defQ L n q=onQ L ((badQ L (nameQ L q) (decide (0≤cv)) 6).setN n fun d=>{ d with name:=x }):=by unfold defQ;rw[←hcv.out,optI_some,hx.out]
 obtain⟨q1,hq1⟩:∃z,Hid (nameQ L q=z):=⟨_,Lib.hid rfl⟩
 rw[hq1.out] at hnm hdq hnn'
 obtain⟨q2,hq2⟩:∃z,Hid (badQ L q1 (decide (0≤cv)) 6=z):=⟨_,Lib.hid rfl⟩
 rw[hq2.out] at hdq
 have hn2:n<q2.ns.length:=by rw[←hq2.out,badQ_ns,hnn'];exact hn
 obtain⟨PO,hPO⟩:∃PO:Ending→World→Prop,Hid ((fun e w'=>e=.returned (.tuple #[])∧PT B R vl vn vs L w (sizeQ L n (defQ L n q)) w')=PO):=⟨_,rfl⟩
 have hfin:∀w',PT B R vl vn vs L w (sizeQ L n (defQ L n q)) w'→PO (.returned (.tuple #[])) w':=fun w' hp=>by rw[←hPO.out];exact⟨rfl,hp⟩
 rw[hPO.out]
 go_enter Tryz.func92,Tryz.ntmps92
 go_wp2_with fail
 refine hnm.mono ?_
 rintro e w1 ⟨rfl,hc1,h1⟩
 have hcl:=called_any x w1 h1
 rw[hnn',hcv.out] at hcl
 have hbd:=bad_any (decide (0≤cv)) 6 w1 h1
 rw[hq2.out,show ((6:Nat):Int)=6 from rfl] at hbd
 clear hnm
 go_wp2_with fail
 refine hcl.mono ?_
 rintro e w2 ⟨rfl,hw2⟩
 have hw2:=hw2.symm
 subst hw2
 go_wp2_with fail
 refine hbd.mono ?_
 rintro e w3 ⟨rfl,hc3,h3⟩
 obtain⟨b,c,cur,eb,hbB,hgb,hk1,hk2,hk3⟩:=h3.rowc hn2
 have h3':=h3
 rw[eb] at h3'
 obtain⟨nn,hnn⟩:∃z,Hid (q2.ns.length=z):=⟨_,Lib.hid rfl⟩
 have hfl:=h3'.fillN hn2 (i:=1) (by omega) (fun d=>{ d with name:=x }) (.string x) (fun d v=>rfl) (fun d=>⟨rfl,rfl,rfl⟩)
 rw[hnn.out] at hfl eb
 have y2:w3.cell? ⟨R,2,none⟩=some (.slice (some ⟨b,0,none⟩) nn c):=by rw[←eb];exact h3.blk.cell 2
 replace eb:=Lib.hid eb
 obtain⟨u1,hu1⟩:∃u,w3.cell? ⟨b,n*6+1,none⟩=some u:=⟨_,(hgb.cell _).trans (Array.getElem?_eq_getElem (by omega))⟩
 have fz1:=hgb.frozen (n*6+1)
 have hnI:(n:Int)<(nn:Int):=by have:=hnn.out;omega
 have hc13:Chg (fun k=>k=R) w w3:=hc1.trans hc3 (fun _ _ e=>e)
 have hchb:Chg (Wq R vn) w (w3.setCell ⟨b,n*6+1,none⟩ (.string x)):=(hc13.mono (fun k _ e=>.inl e)).set (p:=⟨b,n*6+1,none⟩) (.inl (.inr (by rw[eb.out];rfl))) _
 have hon:=on_any _ hfl
 rw[←hdq] at hon
 clear hcl hbd hfl h3' h3 hgb
 go_wp2_with fail
 refine hon.mono ?_
 rintro e w4 ⟨rfl,hc4,h4⟩
 have hch4:Chg (Wq R vn) w w4:=hchb.trans hc4 (fun k _ e=>.inl e)
 obtain⟨q4,hq4⟩:∃z,Hid (defQ L n q=z):=⟨_,Lib.hid rfl⟩
 have hdn:(defQ L n q).ns.length=q2.ns.length:=by rw[hdq,onQ_ns,setN_lenQ]
 rw[hq4.out] at h4 hfin hdn
 have hn4:n<q4.ns.length:=by rw[hdn];exact hn2
 have hsz:=h4.size
 have ht4:=tok_any w4 h4
 have htw:=fun W hW=>tok_any W (h4.ext hW)
 obtain⟨t,ht⟩:∃z,Hid (tkQ L q4=z):=⟨_,Lib.hid rfl⟩
 rw[ht.out] at hsz ht4
 simp only[ht.out] at htw
 unfold tokV at ht4 htw
 have htk:=tok_k
 have hts:=tok_s
 have hnu:=fun W=>refNumber_any t.s (by omega) W
 obtain⟨v,hv⟩:∃z,Hid (numO t.s.data.toList=z):=⟨_,Lib.hid rfl⟩
 simp only[ref_eq,hv.out] at hnu
 have hbd:=fun W hW=>bad_any (decide (t.k≠1) || v.isNone) 4 W (h4.ext hW)
 rw[show ((4:Nat):Int)=4 from rfl] at hbd
 have hsq:sizeQ L n q4=onQ L ((badQ L q4 (decide (t.k≠1) || v.isNone) 4).setN n fun d=>{ d with size:=((v.getD 0:Nat):Int) }):=by unfold sizeQ;rw[ht.out,hv.out]
 obtain⟨q5,hq5⟩:∃z,Hid (badQ L q4 (decide (t.k≠1) || v.isNone) 4=z):=⟨_,Lib.hid rfl⟩
 simp only[hq5.out] at hbd
 rw[hq5.out] at hsq
 have h5n:q5.ns=q4.ns:=by rw[←hq5.out,badQ_ns]
 have hn5:n<q5.ns.length:=by rw[h5n];exact hn4
 clear y2 hu1 fz1 hon hdq
 go_wp2_with fail
 refine ht4.mono ?_
 rintro e w5 ⟨rfl,hx5⟩
 have hnu5:=hnu w5
 go_wp2_with fail
 refine hnu5.mono ?_
 rintro e w6 ⟨rfl,hw6⟩
 have hw6:=hw6.symm
 subst hw6
 have ht5:=htw w5 hx5
 clear hnu hnu5 ht4
 cases v with
 | none=>
  rw[show numV none=Value.tuple #[.int .i64 0,.bool false] from rfl]
  rw[show (decide (t.k≠1) || (none:Option Nat).isNone)=true by simp] at hbd
  rw[show (((none:Option Nat).getD 0:Nat):Int)=0 from rfl] at hsq
  go_wp2_with fail
  refine ht5.mono ?_
  rintro e w7 ⟨rfl,hx7⟩
  have hxx:=hx5.trans hx7
  have hbd7:=hbd w7 hxx
  by_cases hk1:t.k=1
  ·have hkb:((t.k:Int) != 1)=false:=by simpa using hk1
   go_wp2_with fail
   refine hbd7.mono ?_
   rintro e w8 ⟨rfl,hc8,h8⟩
   obtain⟨b',c',cur',eb',hbB',hgb',hk1',hk2',hk3'⟩:=h8.rowc hn5
   have h8':=h8
   rw[eb'] at h8'
   have hfl:=h8'.fillN hn5 (i:=2) (by omega) (fun d=>{ d with size:=0 }) (.int .i64 0) (fun d v=>rfl) (fun d=>⟨rfl,rfl,rfl⟩)
   rw[←eb'] at hfl
   injection eb' with eb1 eb2 eb3
   injection eb1 with eb1
   injection eb1 with eb1 _ _
   subst eb1;subst eb3
   have y2:w8.cell? ⟨R,2,none⟩=some (.slice (some ⟨b,0,none⟩) nn c):=h8.blk.cell 2
   obtain⟨u1,hu1⟩:∃u,w8.cell? ⟨b,n*6+2,none⟩=some u:=⟨_,(hgb'.cell _).trans (Array.getElem?_eq_getElem (by omega))⟩
   have fz1:=hgb'.frozen (n*6+2)
   have hnI:(n:Int)<(nn:Int):=by omega
   have hcF:Chg (Wq R vn) w (w8.setCell ⟨b,n*6+2,none⟩ (.int .i64 0)):=((hch4.trans (Chg.ofExt hxx) (fun _ _ e=>e)).trans hc8 (fun k _ e=>.inl e)).set (p:=⟨b,n*6+2,none⟩) (.inl (.inr (by rw[eb.out];rfl))) _
   have hon:=on_any _ hfl
   rw[←hsq] at hon
   clear hfl h8' hgb' h8 hbd7 hbd
   go_wp2_with fail
   refine hon.mono ?_
   rintro e w9 ⟨rfl,hc9,h9⟩
   go_wp2_with fail
   refine bodyPost_ret (results_none rfl _ _ _) rfl ?_
   refine hfin _ ⟨hcF.trans hc9 (fun k _ e=>.inl e),_,_,h9,.inl (by rw[eb.out]),SF.refl w vs⟩
  ·have hkb:((t.k:Int) != 1)=true:=by simpa using hk1
   go_wp2_with fail
   refine hbd7.mono ?_
   rintro e w8 ⟨rfl,hc8,h8⟩
   obtain⟨b',c',cur',eb',hbB',hgb',hk1',hk2',hk3'⟩:=h8.rowc hn5
   have h8':=h8
   rw[eb'] at h8'
   have hfl:=h8'.fillN hn5 (i:=2) (by omega) (fun d=>{ d with size:=0 }) (.int .i64 0) (fun d v=>rfl) (fun d=>⟨rfl,rfl,rfl⟩)
   rw[←eb'] at hfl
   injection eb' with eb1 eb2 eb3
   injection eb1 with eb1
   injection eb1 with eb1 _ _
   subst eb1;subst eb3
   have y2:w8.cell? ⟨R,2,none⟩=some (.slice (some ⟨b,0,none⟩) nn c):=h8.blk.cell 2
   obtain⟨u1,hu1⟩:∃u,w8.cell? ⟨b,n*6+2,none⟩=some u:=⟨_,(hgb'.cell _).trans (Array.getElem?_eq_getElem (by omega))⟩
   have fz1:=hgb'.frozen (n*6+2)
   have hnI:(n:Int)<(nn:Int):=by omega
   have hcF:Chg (Wq R vn) w (w8.setCell ⟨b,n*6+2,none⟩ (.int .i64 0)):=((hch4.trans (Chg.ofExt hxx) (fun _ _ e=>e)).trans hc8 (fun k _ e=>.inl e)).set (p:=⟨b,n*6+2,none⟩) (.inl (.inr (by rw[eb.out];rfl))) _
   have hon:=on_any _ hfl
   rw[←hsq] at hon
   clear hfl h8' hgb' h8 hbd7 hbd
   go_wp2_with fail
   refine hon.mono ?_
   rintro e w9 ⟨rfl,hc9,h9⟩
   go_wp2_with fail
   refine bodyPost_ret (results_none rfl _ _ _) rfl ?_
   refine hfin _ ⟨hcF.trans hc9 (fun k _ e=>.inl e),_,_,h9,.inl (by rw[eb.out]),SF.refl w vs⟩
 | some z=>
  rw[show numV (some z)=Value.tuple #[.int .i64 (z:Int),.bool true] from rfl]
  rw[show (((some z:Option Nat).getD 0:Nat):Int)=(z:Int) from rfl] at hsq
  go_wp2_with fail
  refine ht5.mono ?_
  rintro e w7 ⟨rfl,hx7⟩
  have hxx:=hx5.trans hx7
  have hbd7:=hbd w7 hxx
  by_cases hk1:t.k=1
  ·have hkb:((t.k:Int) != 1)=false:=by simpa using hk1
   rw[show (decide (t.k≠1) || (some z:Option Nat).isNone)=false by simp[hk1]] at hbd7
   go_wp2_with fail
   refine hbd7.mono ?_
   rintro e w8 ⟨rfl,hc8,h8⟩
   obtain⟨b',c',cur',eb',hbB',hgb',hk1',hk2',hk3'⟩:=h8.rowc hn5
   have h8':=h8
   rw[eb'] at h8'
   have hfl:=h8'.fillN hn5 (i:=2) (by omega) (fun d=>{ d with size:=(z:Int) }) (.int .i64 (z:Int)) (fun d v=>rfl) (fun d=>⟨rfl,rfl,rfl⟩)
   rw[←eb'] at hfl
   injection eb' with eb1 eb2 eb3
   injection eb1 with eb1
   injection eb1 with eb1 _ _
   subst eb1;subst eb3
   have y2:w8.cell? ⟨R,2,none⟩=some (.slice (some ⟨b,0,none⟩) nn c):=h8.blk.cell 2
   obtain⟨u1,hu1⟩:∃u,w8.cell? ⟨b,n*6+2,none⟩=some u:=⟨_,(hgb'.cell _).trans (Array.getElem?_eq_getElem (by omega))⟩
   have fz1:=hgb'.frozen (n*6+2)
   have hnI:(n:Int)<(nn:Int):=by omega
   have hcF:Chg (Wq R vn) w (w8.setCell ⟨b,n*6+2,none⟩ (.int .i64 (z:Int))):=((hch4.trans (Chg.ofExt hxx) (fun _ _ e=>e)).trans hc8 (fun k _ e=>.inl e)).set (p:=⟨b,n*6+2,none⟩) (.inl (.inr (by rw[eb.out];rfl))) _
   have hon:=on_any _ hfl
   rw[←hsq] at hon
   clear hfl h8' hgb' h8 hbd7 hbd
   go_wp2_with fail
   refine hon.mono ?_
   rintro e w9 ⟨rfl,hc9,h9⟩
   go_wp2_with fail
   refine bodyPost_ret (results_none rfl _ _ _) rfl ?_
   refine hfin _ ⟨hcF.trans hc9 (fun k _ e=>.inl e),_,_,h9,.inl (by rw[eb.out]),SF.refl w vs⟩
  ·have hkb:((t.k:Int) != 1)=true:=by simpa using hk1
   rw[show (decide (t.k≠1) || (some z:Option Nat).isNone)=true by simp[hk1]] at hbd7
   go_wp2_with fail
   refine hbd7.mono ?_
   rintro e w8 ⟨rfl,hc8,h8⟩
   obtain⟨b',c',cur',eb',hbB',hgb',hk1',hk2',hk3'⟩:=h8.rowc hn5
   have h8':=h8
   rw[eb'] at h8'
   have hfl:=h8'.fillN hn5 (i:=2) (by omega) (fun d=>{ d with size:=(z:Int) }) (.int .i64 (z:Int)) (fun d v=>rfl) (fun d=>⟨rfl,rfl,rfl⟩)
   rw[←eb'] at hfl
   injection eb' with eb1 eb2 eb3
   injection eb1 with eb1
   injection eb1 with eb1 _ _
   subst eb1;subst eb3
   have y2:w8.cell? ⟨R,2,none⟩=some (.slice (some ⟨b,0,none⟩) nn c):=h8.blk.cell 2
   obtain⟨u1,hu1⟩:∃u,w8.cell? ⟨b,n*6+2,none⟩=some u:=⟨_,(hgb'.cell _).trans (Array.getElem?_eq_getElem (by omega))⟩
   have fz1:=hgb'.frozen (n*6+2)
   have hnI:(n:Int)<(nn:Int):=by omega
   have hcF:Chg (Wq R vn) w (w8.setCell ⟨b,n*6+2,none⟩ (.int .i64 (z:Int))):=((hch4.trans (Chg.ofExt hxx) (fun _ _ e=>e)).trans hc8 (fun k _ e=>.inl e)).set (p:=⟨b,n*6+2,none⟩) (.inl (.inr (by rw[eb.out];rfl))) _
   have hon:=on_any _ hfl
   rw[←hsq] at hon
   clear hfl h8' hgb' h8 hbd7 hbd
   go_wp2_with fail
   refine hon.mono ?_
   rintro e w9 ⟨rfl,hc9,h9⟩
   go_wp2_with fail
   refine bodyPost_ret (results_none rfl _ _ _) rfl ?_
   refine hfin _ ⟨hcF.trans hc9 (fun k _ e=>.inl e),_,_,h9,.inl (by rw[eb.out]),SF.refl w vs⟩
end
end Pr
end Go.Proofs.YtmaoochjbpohdaaGreatDoor
