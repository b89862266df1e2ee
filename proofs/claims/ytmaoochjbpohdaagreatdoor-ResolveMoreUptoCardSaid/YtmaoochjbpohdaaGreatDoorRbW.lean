/- parse: the reference's answer is the program's: plain. -/
import Derived.Test.YtmaoochjbpohdaaGreatDoorRbV
set_option linter.unusedVariables false
set_option linter.unusedSimpArgs false
set_option maxRecDepth 100000
set_option maxHeartbeats 1000000
namespace Go.Proofs.YtmaoochjbpohdaaGreatDoor
namespace Pr
open Lx
section
variable {L:List Tok} {pt:Nat→Nd→Nd} {s:PS} {q:QS}
variable {T:Bool→List Nat→PS→Res Nat} {TQ:QT}
def hd' (s:PS):Tok:=hd s.l
theorem sizeQ_no (h:q.why≠0) (n:Nat):(sizeQ L n q).why=q.why∧(sizeQ L n q).bad=q.bad:=by
 unfold sizeQ
 rw[onQ_why,onQ_bad]
 show (badQ _ _ _ _).why=_∧(badQ _ _ _ _).bad=_
 rw[badQ_why h]
 exact⟨rfl,rfl⟩
theorem symsQ_no (h:q.why≠0) (n m:Nat):symsQ L n m q=q:=by
 cases m with
 | zero=>rfl
 | succ m=>rw[symsQ,if_pos h]
theorem fieldsQ_no (h:q.why≠0) (n m:Nat):fieldsQ L TQ n m q=q:=by
 cases m with
 | zero=>rfl
 | succ m=>rw[fieldsQ,if_pos (.inl h),signQ_no h]
theorem defined_q (hT:TokOk L) (hF:TF L) (H:HTQ L T TQ) (hlen:∀u a s n s',T u a s=.ok n s'→s'.l.length<s.l.length) {n:Nat} {k:Int} (hk:k=9∨k=10∨k=11) (h:RQ L pt s q) (hid:pt n=id) (hd0:s.ns[n]?=some (Nd.ofKind k)):OQ L pt (definedR T s n k) (definedQ L TQ n k q):=by
 have hn:n<s.ns.length:=(List.getElem?_eq_some_iff.1 hd0).1
 have hk9:9≤k:=by omega
 unfold definedR
 rcases h.name (fun x=>(s.nm x).isSome) ((calledN q.ns (tkQ L q).s).isSome) (fun hp=>by rw[h.nm _ hp]) with⟨x,h1,h2,h3,h4,h5,h6⟩|⟨w,h1,h2,h3⟩
 ·rw[h1]
  have hno:s.nm x=none:=by
   cases hx:s.nm x with
   | none=>rfl
   | some v=>rw[hx] at h5;cases h5
  have hc:=h.called hid hd0 hk9 h4 hno
  have hdq:defQ L n q=onQ L (q.setN n fun d=>{ d with name:=x }):=by unfold defQ;rw[h6,←h2]
  have hc2:=hc.on hT (by rw[tk_set,h3];decide)
  rw[←hdq] at hc2
  have hs2:(s.called n x).on=s.on.called n x:=rfl
  rw[hs2] at hc2
  generalize hq2:defQ L n q=q2 at hc2
  have hnd:(s.on.called n x).ns[n]?=some { Nd.ofKind k with name:=x }:=by
   show (s.ns.modify n _)[n]?=_
   rw[List.getElem?_modify,hd0];simp
  have hln:(s.on.called n x).ns.length=s.ns.length:=setN_len _ _ _
  generalize hs3:s.on.called n x=s2 at hc2 hnd hln
  show OQ L pt (if k=9 then (mustR (s.on.called n x) cLt).bind fun _ s3=>symsR n s3.l.length [] s3
   else if k=10 then (if (hd' (s.on.called n x)).k≠1∨numO (hd' (s.on.called n x)).s.data.toList=none then failR (s.on.called n x) 4
    else .ok () ((s.on.called n x).on.setN n fun d=>{ d with size:=((numO (hd' (s.on.called n x)).s.data.toList).getD 0:Nat) }))
   else (mustR (s.on.called n x) cCuO).bind fun _ s3=>fieldsR T n s3.l.length [] s3) (definedQ L TQ n k q)
  rw[hs3]
  unfold definedQ
  rw[hq2]
  have hll:∀ {s3:PS} {q3:QS},RQ L pt s3 q3→s3.l.length≤L.length:=fun h=>by rw[h.l,List.length_drop];omega
  rcases hk with e|e|e
  ·rw[if_pos e,if_neg (by omega),if_neg (by omega)]
   have hmu:=hc2.must hT hF (c:=60) (by decide)
   rw[show (⟨#[60]⟩:ByteArray)=cLt from rfl] at hmu
   cases hm:mustR s2 cLt with
   | bad a w=>
    rw[hm] at hmu
    obtain⟨e1,e2,e3⟩:=hmu
    rw[symsQ_no (by rw[e1];exact e3)]
    exact⟨e1,e2,e3⟩
   | ok u s3=>
    rw[hm] at hmu
    obtain⟨a1,a2⟩:=mustR_ok hm
    have hmu:RQ L pt s3 (signQ L q2 cLt):=hmu
    have hns:s3.ns=s2.ns:=by rw[a2];rfl
    have ho:=hmu.openId (n:=n) (f:=fun d=>{ d with syms:=[] }) (by rw[hns];omega) hid (fun d=>⟨rfl,rfl⟩) (fun d hd'=>by rw[hns,hnd] at hd';injection hd' with hd';subst hd';rfl)
    exact syms_q hT hF _ [] s3 _ L.length ho (by rw[hns];omega) hmu.kn hid hmu.new (Nat.le_refl _) (hll hmu)
  ·rw[if_neg (by omega),if_pos e,if_pos e]
   have hh:hd' s2=tkQ L q2:=hc2.hd_
   rw[hh]
   by_cases hcnd:(tkQ L q2).k≠1∨numO (tkQ L q2).s.data.toList=none
   ·rw[if_pos hcnd]
    have hbt:(decide ((tkQ L q2).k≠1) || (numO (tkQ L q2).s.data.toList).isNone)=true:=by rcases hcnd with e|e<;>simp[e]
    unfold sizeQ
    rw[hbt,badQ_true hc2.why]
    have hw:(({ q2 with why:=4,bad:=(tkQ L q2).a }:QS).setN n fun d=>{ d with size:=(((numO (tkQ L q2).s.data.toList).getD 0:Nat):Int) }).why≠0:=by show (4:Nat)≠0;decide
    rw[onQ_no hw]
    refine oq_bad rfl ?_ (by decide)
    show (tkQ L q2).a=(hd s2.l).a
    rw[←hh];rfl
   ·rw[if_neg hcnd]
    simp only[not_or,ne_eq,Decidable.not_not] at hcnd
    have hbt:(decide ((tkQ L q2).k≠1) || (numO (tkQ L q2).s.data.toList).isNone)=false:=by
     cases hx:numO (tkQ L q2).s.data.toList with
     | none=>exact absurd hx hcnd.2
     | some v=>simp[hcnd.1]
    unfold sizeQ
    rw[hbt,badQ_false]
    have ho:=hc2.openN n (by omega) (fun d=>{ d with size:=(((numO (tkQ L q2).s.data.toList).getD 0:Nat):Int) }) (fun d=>{ d with size:=(((numO (tkQ L q2).s.data.toList).getD 0:Nat):Int) }) (fun d=>⟨rfl,rfl⟩) (fun d=>by rw[hid];rfl)
    have hon:=ho.on hT (by rw[tk_set,hcnd.1];decide)
    exact hon.shutN hc2.kn (by show n<s2.ns.length;omega) hid hc2.new (fun d=>⟨rfl,rfl⟩)
  ·rw[if_neg (by omega),if_neg (by omega),if_neg (by omega),if_pos e]
   have hmu:=hc2.must hT hF (c:=123) (by decide)
   rw[show (⟨#[123]⟩:ByteArray)=cCuO from rfl] at hmu
   cases hm:mustR s2 cCuO with
   | bad a w=>
    rw[hm] at hmu
    obtain⟨e1,e2,e3⟩:=hmu
    rw[fieldsQ_no (by rw[e1];exact e3)]
    exact⟨e1,e2,e3⟩
   | ok u s3=>
    rw[hm] at hmu
    obtain⟨a1,a2⟩:=mustR_ok hm
    have hmu:RQ L pt s3 (signQ L q2 cCuO):=hmu
    have hns:s3.ns=s2.ns:=by rw[a2];rfl
    have ho:=hmu.openId (n:=n) (f:=fun d=>{ d with fields:=[] }) (by rw[hns];omega) hid (fun d=>⟨rfl,rfl⟩) (fun d hd'=>by rw[hns,hnd] at hd';injection hd' with hd';subst hd';rfl)
    exact fields_q hT hF H _ [] s3 _ L.length ho (by rw[hns];omega) hmu.kn hid hmu.new (Nat.le_refl _) (hll hmu) hlen
 ·rw[h1]
  have hdq:defQ L n q=(({ q with why:=w,bad:=(hd s.l).a }:QS).setN n fun d=>{ d with name:=(tkQ L q).s }):=by
   unfold defQ
   rw[h3]
   exact onQ_no h2
  have hw:(defQ L n q).why=w∧(defQ L n q).bad=(hd s.l).a:=by rw[hdq];exact⟨rfl,rfl⟩
  have hne:(defQ L n q).why≠0:=by rw[hw.1];exact h2
  show OQ L pt (Res.bad (hd s.l).a w:Res Unit) _
  unfold definedQ
  split
  ·obtain⟨e1,e2⟩:=sizeQ_no hne n
   exact⟨e1.trans hw.1,e2.trans hw.2,h2⟩
  ·split
   ·rw[signQ_no hne,fieldsQ_no hne]
    exact⟨hw.1,hw.2,h2⟩
   ·rw[signQ_no hne,symsQ_no hne]
    exact⟨hw.1,hw.2,h2⟩
theorem idxOf_neg {α:Type} [DecidableEq α]:∀(l:List α) (s:α),idxOf l s<0→idxOf l s = -1
 | [],s,_=>rfl
 | x::l,s,h=>by
  rw[idxOf] at h ⊢
  split
  ·next h1=>rw[if_pos h1] at h;omega
  ·next h1=>
   rw[if_neg h1] at h
   split
   ·rfl
   ·next h2=>rw[if_neg h2] at h;omega
def nameBad (t:Tok):Bool:=decide (t.k≠0) || !nameP t.s || refKw t.s
theorem first_sign {t:Tok} {c:UInt8} {r:List UInt8} (hb:bs t.s=c::r) (hl:letterP c=true∨digitP c=true):t.s≠cSqO∧t.s≠cCuO∧t.s≠cPaO:=by
 have key:∀d:UInt8,kindOf d=2→t.s≠⟨#[d]⟩:=fun d hd e=>by
  have e2:bs t.s=[d]:=by rw[e];rfl
  rw[hb] at e2
  injection e2 with e2 _
  subst e2
  have b:=byte_sorts c
  rcases hl with h|h
  ·have:=(b.1 h).1;omega
  ·have:=(b.2.1 h).1;omega
 exact⟨key 91 (by decide),key 123 (by decide),key 40 (by decide)⟩
theorem kind_q (h:RQ L pt s q) (hF:TF L):match kindR s with
  | none=>kOf (tkQ L q)<0∧nameBad (tkQ L q)=true
  | some k=>kOf (tkQ L q)=k∧(k<0→nameBad (tkQ L q)=false):=by
 have hh:=h.hd_
 have ht:=h.tf hF
 unfold kindR isT
 rw[hh]
 generalize tkQ L q=t at ht
 have hk3:t.k=3∨t.k=1→kOf t<0∧nameBad t=true:=fun e=>by
  refine⟨by unfold kOf;rw[if_neg (by omega)];decide,by unfold nameBad;rw[decide_eq_true (by omega:t.k≠0)];rfl⟩
 rcases ht with⟨hk,_⟩|⟨hk,c,r,hb,hl,_⟩|⟨hk,c,r,hb,hl,_⟩|⟨hk,c,hb,hc⟩
 ·rw[decide_eq_false (show ¬t.k≠3 by omega)]
  simp only[Bool.false_and,Bool.false_eq_true,if_false]
  rw[if_pos (by omega)]
  exact hk3 (.inl hk)
 ·have hk:t.k=0:=hk
  have hb:bs t.s=c::r:=hb
  obtain⟨n1,n2,n3⟩:=first_sign hb (.inl hl)
  rw[decide_eq_false n1,decide_eq_false n2,decide_eq_false n3]
  simp only[Bool.and_false,Bool.false_eq_true,if_false]
  rw[if_neg (by omega)]
  have hkf:kOf t=idxOf refL t.s:=by unfold kOf;rw[if_pos (.inl hk)]
  have hkw:=kw_eq t.s
  by_cases h1:kwP t.s=true
  ·rw[if_pos h1]
   simp only
   rw[hkf]
   have h2:=h1
   rw[hkw] at h2
   unfold refKw at h2
   simp only[Bool.and_eq_true,decide_eq_true_eq] at h2
   have hm:=idxOf_mem.1 h2.1
   have he:idxOf refL t.s=idxOf wordsL t.s:=by
    simp only[refL,List.mem_cons,List.not_mem_nil,or_false] at hm
    rcases hm with e|e|e|e|e|e|e|e|e|e|e|e
    ·rw[e];decide
    ·rw[e];decide
    ·rw[e];decide
    ·rw[e];decide
    ·rw[e];decide
    ·rw[e];decide
    ·exact absurd e n1
    ·exact absurd e n2
    ·exact absurd e n3
    ·rw[e];decide
    ·rw[e];decide
    ·rw[e];decide
   exact⟨he,fun hneg=>by omega⟩
  ·rw[if_neg h1]
   have h1:kwP t.s=false:=by simpa using h1
   have hnm:¬0≤idxOf refL t.s:=fun h0=>by
    have hm:=idxOf_mem.1 h0
    simp only[refL,List.mem_cons,List.not_mem_nil,or_false] at hm
    rcases hm with e|e|e|e|e|e|e|e|e|e|e|e
    ·rw[e] at h1;revert h1;decide
    ·rw[e] at h1;revert h1;decide
    ·rw[e] at h1;revert h1;decide
    ·rw[e] at h1;revert h1;decide
    ·rw[e] at h1;revert h1;decide
    ·rw[e] at h1;revert h1;decide
    ·exact absurd e n1
    ·exact absurd e n2
    ·exact absurd e n3
    ·rw[e] at h1;revert h1;decide
    ·rw[e] at h1;revert h1;decide
    ·rw[e] at h1;revert h1;decide
   by_cases h2:nameP t.s=true
   ·rw[if_pos h2]
    simp only
    rw[hkf]
    refine⟨idxOf_neg _ _ (by omega),fun _=>?_⟩
    unfold nameBad
    rw[←hkw,h1,h2,decide_eq_false (show ¬t.k≠0 by omega)];rfl
   ·rw[if_neg h2]
    simp only
    rw[hkf]
    refine⟨by omega,?_⟩
    have h2:nameP t.s=false:=by simpa using h2
    unfold nameBad
    rw[h2];simp
 ·have hk:t.k=1:=hk
  have hb:bs t.s=c::r:=hb
  obtain⟨n1,n2,n3⟩:=first_sign hb (.inr hl)
  rw[decide_eq_false n1,decide_eq_false n2,decide_eq_false n3]
  simp only[Bool.and_false,Bool.false_eq_true,if_false]
  rw[if_pos (by omega)]
  exact hk3 (.inr hk)
 ·have hk:t.k=2:=hk
  have hb:bs t.s=[c]:=hb
  have hkf:kOf t=idxOf refL t.s:=by unfold kOf;rw[if_pos (.inr hk)]
  rw[decide_eq_true (show t.k≠3 by omega)]
  simp only[Bool.true_and,decide_eq_true_eq]
  by_cases e1:t.s=cSqO
  ·rw[if_pos e1]
   simp only
   exact⟨by rw[hkf,e1];decide,fun h=>by omega⟩
  ·rw[if_neg e1]
   by_cases e2:t.s=cCuO
   ·rw[if_pos e2]
    simp only
    exact⟨by rw[hkf,e2];decide,fun h=>by omega⟩
   ·rw[if_neg e2]
    by_cases e3:t.s=cPaO
    ·rw[if_pos e3]
     simp only
     exact⟨by rw[hkf,e3];decide,fun h=>by omega⟩
    ·rw[if_neg e3,if_pos (by omega)]
     simp only
     refine⟨?_,by unfold nameBad;rw[decide_eq_true (by omega:t.k≠0)];rfl⟩
     rw[hkf]
     apply Classical.byContradiction
     intro h0
     have hm:=idxOf_mem.1 (by omega:0≤idxOf refL t.s)
     have hlen:(bs t.s).length=1:=by rw[hb];rfl
     simp only[refL,List.mem_cons,List.not_mem_nil,or_false] at hm
     rcases hm with e|e|e|e|e|e|e|e|e|e|e|e
     ·rw[e] at hlen;revert hlen;decide
     ·rw[e] at hlen;revert hlen;decide
     ·rw[e] at hlen;revert hlen;decide
     ·rw[e] at hlen;revert hlen;decide
     ·rw[e] at hlen;revert hlen;decide
     ·rw[e] at hlen;revert hlen;decide
     ·exact e1 e
     ·exact e2 e
     ·exact e3 e
     ·rw[e] at hlen;revert hlen;decide
     ·rw[e] at hlen;revert hlen;decide
     ·rw[e] at hlen;revert hlen;decide
end
section
variable {L:List Tok} {pt:Nat→Nd→Nd} {s:PS} {q:QS}
theorem gate_none' {fuel:Nat} {union:Bool} {ahead:List Nat} {s:PS} {k:Int} {o:Option Nat} (h:gateR fuel union ahead s k o=none):∃f,fuel=f+1∧(k<0∨s.ns.length≤199):=by
 unfold gateR at h
 split at h
 ·cases h
 ·next h1=>exact⟨fuel-1,by omega,by omega⟩
theorem nameQ_def (L:List Tok) (q:QS):nameQ L q=badQ L q (nameBad (tkQ L q)) 4:=rfl
def stopQ (L:List Tok) (q:QS) (w:Nat):QS:={ q with why:=w,bad:=(tkQ L q).a }
theorem badQ_if (hw:q.why=0) (b:Bool) (e:Nat):badQ L q b e=if b=true then stopQ L q e else q:=by
 unfold badQ stopQ
 cases b with
 | false=>rw[if_neg (by simp),if_neg (by simp)]
 | true=>rw[if_pos ⟨rfl,hw⟩,if_pos rfl]
theorem gate_none_q (h:RQ L pt s q) (hF:TF L) (fuel:Nat) (u:Bool) (l:List Nat) (hk:kindR s=none):gateQ L fuel u l q=stopQ L q 4:=by
 have hq:=kind_q h hF
 rw[hk] at hq
 have h4:(stopQ L q 4).why≠0:=by show (4:Nat)≠0;decide
 have h1:gate1 L q=stopQ L q 4:=by
  unfold gate1
  rw[if_pos hq.1,nameQ_def,hq.2,badQ_if h.why,if_pos rfl]
 unfold gateQ
 rw[h1,badQ_why h4,badQ_why h4,badQ_why h4,badQ_why h4]
theorem nil_called (h:RQ L pt s q) (hn:nameBad (tkQ L q)=false):s.nm (tkQ L q).s=calledN q.ns (tkQ L q).s:=by
 unfold nameBad at hn
 simp only[Bool.or_eq_false_iff,Bool.not_eq_false'] at hn
 exact h.nm _ hn.1.2
theorem gate_some_q (h:RQ L pt s q) (hF:TF L) (fuel:Nat) (u:Bool) (l:List Nat) {k:Int} (hk:kindR s=some k) :
  gateQ L fuel u l q=match gateR fuel u l s k (s.nm (hd s.l).s) with
   | some w=>stopQ L q w
   | none=>q:=by
 have hq:=kind_q h hF
 rw[hk] at hq
 obtain⟨hkk,hnb⟩:=hq
 have hg1:gate1 L q=q:=by
  unfold gate1
  by_cases hk0:kOf (tkQ L q)<0
  ·rw[if_pos hk0,nameQ_def,hnb (by omega),badQ_false]
  ·rw[if_neg hk0]
 have hst:∀w,w≠0→∀b e,badQ L (stopQ L q w) b e=stopQ L q w:=fun w hw b e=>badQ_why hw b e
 have hlen:=h.len
 have hcq:calledQ L q=if k<0 then optI (s.nm (tkQ L q).s) else -1:=by
  unfold calledQ
  rw[hkk]
  by_cases hk0:k<0
  ·rw[if_pos hk0,if_pos hk0,nil_called h (hnb hk0)]
  ·rw[if_neg hk0,if_neg hk0]
 have hany:∀m:Nat,q.ns[m]?.map (·.k)=s.ns[m]?.map (·.k):=fun m=>by
  rw[h.ns m]
  cases s.ns[m]? with
  | none=>rfl
  | some d=>simp[(h.kn m d).1]
 unfold gateQ gateR
 rw[hg1,h.hd_,hkk,hcq,badQ_if h.why]
 by_cases c1:fuel=0∨(0≤k∧200≤s.ns.length)
 ·rw[if_pos c1]
  have hb:(decide (fuel=0) || (decide (0≤k) && decide (200≤q.ns.length)))=true:=by
   rcases c1 with e|⟨e1,e2⟩
   ·simp[e]
   ·rw[hlen];simp[e1,e2]
  rw[hb,if_pos rfl,hst 2 (by decide),hst 2 (by decide),hst 2 (by decide)]
 ·rw[if_neg c1]
  have hb:(decide (fuel=0) || (decide (0≤k) && decide (200≤q.ns.length)))=false:=by
   rw[hlen]
   simp only[not_or,not_and] at c1
   by_cases h0:0≤k
   ·simp[c1.1,c1.2 h0]
   ·simp[c1.1,h0]
  rw[hb,if_neg (by simp),badQ_if h.why]
  by_cases hk0:k<0
  ·rw[if_pos hk0]
   cases ho:s.nm (tkQ L q).s with
   | none=>
    have h1:(decide (k<0) && decide (optI none<0))=true:=by rw[decide_eq_true hk0];rfl
    rw[h1,if_pos rfl,hst 5 (by decide),hst 5 (by decide),if_pos ⟨hk0,rfl⟩]
   | some n=>
    have hn0:decide (optI (some n)<0)=false:=decide_eq_false (by show ¬(n:Int)<0;omega)
    have h8:(u && decide (k=8))=false:=by rw[decide_eq_false (show ¬k=8 by omega),Bool.and_false]
    have hsq:sameQ q.ns l k (optI (some n))=decide (n∈l):=by
     unfold sameQ optI
     have hkn:decide (0≤k)=false:=decide_eq_false (by omega)
     simp only[hkn,Bool.false_and,Bool.or_false]
     by_cases hm:n∈l
     ·rw[decide_eq_true hm,List.any_eq_true]
      exact⟨n,hm,by simp⟩
     ·rw[decide_eq_false hm,List.any_eq_false]
      intro x hx
      simp only[decide_eq_true_eq]
      intro e
      exact hm (by have : x = n := by omega
                   rw[←this];exact hx)
    have h0:decide (0≤optI (some n))=true:=decide_eq_true (by show (0:Int)≤(n:Int);omega)
    rw[hn0,Bool.and_false,if_neg (by simp),badQ_if h.why,h8,if_neg (by simp),badQ_if h.why,hsq,h0,Bool.or_true,Bool.and_true,Option.getD_some]
    cases u with
    | false=>
     rw[if_neg (by simp),if_neg (fun e=>by cases e.2),if_neg (by simp),if_neg (by simp),if_neg (by simp)]
    | true=>
     by_cases hm:n∈l
     ·rw[if_pos (by simp[hm]),if_neg (fun e=>by cases e.2),if_neg (fun e=>by omega),if_pos ⟨rfl,hk0,hm⟩]
     ·rw[if_neg (by simp[hm]),if_neg (fun e=>by cases e.2),if_neg (fun e=>by omega),if_neg (fun e=>hm e.2.2),if_neg (fun e=>by omega)]
  ·rw[if_neg hk0]
   have h1:(decide (k<0) && decide ((-1:Int)<0))=false:=by rw[decide_eq_false hk0];rfl
   rw[h1,if_neg (by simp),badQ_if h.why]
   have hk0':0≤k:=by omega
   cases u with
   | false=>
    rw[if_neg (by simp),badQ_if h.why,if_neg (by simp),if_neg (fun e=>hk0 e.1),if_neg (by simp),if_neg (by simp),if_neg (by simp)]
   | true=>
    by_cases h8:k=8
    ·rw[if_pos (by simp[h8]),hst 4 (by decide),if_neg (fun e=>hk0 e.1),if_pos ⟨rfl,h8⟩]
    ·have hd0:decide (0≤k)=true:=decide_eq_true hk0'
     have hsq:sameQ q.ns l k (-1)=(decide (k<9) && l.any fun m=>decide ((s.ns[m]?.map (·.k))=some k)):=by
      unfold sameQ
      have e1:∀m:Nat,decide ((m:Int) = -1)=false:=fun m=>decide_eq_false (by omega)
      simp only[e1,Bool.false_or,hd0,Bool.true_and,hany]
      by_cases h9:k<9
      ·simp[h9]
      ·rw[decide_eq_false h9]
       simp
     rw[if_neg (by simp[h8]),badQ_if h.why,hsq,hd0]
     simp only[Bool.true_and,Bool.true_or,Bool.and_true]
     by_cases h9:k<9
     ·rw[decide_eq_true h9,Bool.true_and]
      by_cases ha:(l.any fun m=>decide ((s.ns[m]?.map (·.k))=some k))=true
      ·rw[if_pos ha,if_neg (fun e=>hk0 e.1),if_neg (fun e=>h8 e.2),if_neg (fun e=>hk0 e.2.1),if_pos ⟨trivial,hk0',h9,ha⟩]
      ·rw[if_neg ha,if_neg (fun e=>hk0 e.1),if_neg (fun e=>h8 e.2),if_neg (fun e=>hk0 e.2.1),if_neg (fun e=>ha e.2.2.2)]
     ·rw[decide_eq_false h9,Bool.false_and,if_neg (by simp),if_neg (fun e=>hk0 e.1),if_neg (fun e=>h8 e.2),if_neg (fun e=>hk0 e.2.1),if_neg (fun e=>h9 e.2.2.1)]
theorem RQ.newN (h:RQ L pt s q) (hT:TokOk L) {k:Int} (hk:(tkQ L q).k≠3):RQ L pt ({ s.on with ns:=s.ns++[Nd.ofKind k] }:PS) (newQ L k q):=by
 have ho:=h.on hT hk
 have hlen:=h.len
 have hns:∀i:Nat,(q.ns++[Nd.ofKind k])[i]?=((s.ns++[Nd.ofKind k])[i]?).map (pt i):=fun i=>by
  rcases Nat.lt_or_ge i s.ns.length with hi|hi
  ·rw[List.getElem?_append_left (by omega),List.getElem?_append_left hi];exact h.ns i
  ·rw[List.getElem?_append_right (by omega),List.getElem?_append_right hi,h.new i hi,hlen]
   cases ([Nd.ofKind k]:List Nd)[i-s.ns.length]?<;>rfl
 refine⟨ho.l,ho.lt,hns,ho.why,fun x hx=>?_,h.kn,fun i hi=>h.new i (by simp only[List.length_append,List.length_cons,List.length_nil] at hi;omega)⟩
 have hxe:x≠⟨#[]⟩:=by rintro rfl;revert hx;decide
 show s.nm x=calledN (q.ns++[Nd.ofKind k]) x
 rw[h.nm x hx]
 unfold calledN
 rw[List.findIdx?_append]
 have:([Nd.ofKind k].findIdx? fun d=>decide (9≤d.k) && decide (d.name=x))=none:=by
  rw[List.findIdx?_eq_none_iff]
  intro d hd
  rw[List.mem_singleton] at hd
  subst hd
  show (decide (9≤k) && decide ((⟨#[]⟩:ByteArray)=x))=false
  have e2:decide ((⟨#[]⟩:ByteArray)=x)=false:=decide_eq_false (fun e=>hxe e.symm)
  rw[e2,Bool.and_false]
 rw[this]
 cases q.ns.findIdx? fun d=>decide (9≤d.k) && decide (d.name=x)<;>rfl
def restB (fuel n:Nat) (s1:PS) (k:Int):Res Nat:=
 if k=6 then (itemR (typedR fuel) s1 n cSqC).bind fun _ s2=>.ok n s2
 else if k=7 then (itemR (typedR fuel) s1 n cCuC).bind fun _ s2=>.ok n s2
 else if k=8 then (unionR (typedR fuel) n s1.l.length [] s1).bind fun _ s2=>.ok n s2
 else if k=9∨k=10∨k=11 then (definedR (typedR fuel) s1 n k).bind fun _ s2=>.ok n s2
 else .ok n s1
theorem restR_succ (fuel:Nat) (s:PS) (k:Int):restR (fuel+1) s k=restB fuel s.ns.length ({ s.on with ns:=s.ns++[Nd.ofKind k] }:PS) k:=rfl
theorem typed_q (hT:TokOk L) (hF:TF L):∀fuel,HTQ L (typedR fuel) (typedQ L fuel)
 | fuel,u,l,pt,s,q,h=>by
  have hln:=fun n s' (e:typedR fuel u l s=.ok n s')=>(typedR_len fuel u l s n s' e).1
  rw[typedR_eq] at hln ⊢
  have hh:=h.hd_
  cases hk:kindR s with
  | none=>
   have hg:=gate_none_q h hF fuel u l hk
   have hw:(gateQ L fuel u l q).why≠0:=by rw[hg];show (4:Nat)≠0;decide
   have ht:(typedQ L fuel u l q).2=gateQ L fuel u l q:=by
    cases fuel with
    | zero=>rfl
    | succ f=>rw[typedQ,if_pos hw]
   refine⟨fun n s' e=>(by cases e),?_⟩
   rw[ht,hg]
   exact⟨rfl,by show (tkQ L q).a=(hd s.l).a;rw[hh],by decide⟩
  | some k=>
   have hg:=gate_some_q h hF fuel u l hk
   simp only
   rw[hk] at hln
   simp only at hln
   cases hga:gateR fuel u l s k (s.nm (hd s.l).s) with
   | some w=>
    rw[hga] at hg
    have hw0:w≠0:=by
     unfold gateR at hga
     repeat' split at hga
     all_goals first|cases hga;done|(injection hga with e;omega)
    have hw:(gateQ L fuel u l q).why≠0:=by rw[hg];exact hw0
    have ht:(typedQ L fuel u l q).2=gateQ L fuel u l q:=by
     cases fuel with
     | zero=>rfl
     | succ f=>rw[typedQ,if_pos hw]
    refine⟨fun n s' e=>(by cases e),?_⟩
    rw[ht,hg]
    exact⟨rfl,by show (tkQ L q).a=(hd s.l).a;rw[hh],hw0⟩
   | none=>
    rw[hga] at hg hln
    simp only at hg hln ⊢
    obtain⟨f,rfl,hor⟩:=gate_none' hga
    have hq:=kind_q h hF
    rw[hk] at hq
    obtain⟨hkk,hnb⟩:=hq
    have ht:typedQ L (f+1) u l q=if k<0 then ((calledQ L q).toNat,onQ L q) else (q.ns.length,restQ L (typedQ L f) k q.ns.length (newQ L k q)):=by
     rw[typedQ,hg,if_neg (by rw[h.why];simp),hkk]
    rw[ht]
    by_cases hk0:k<0
    ·rw[if_pos hk0,if_pos hk0]
     have hnb:=hnb hk0
     have hk00:(tkQ L q).k=0:=by
      unfold nameBad at hnb
      simp only[Bool.or_eq_false_iff,decide_eq_false_iff_not,ne_eq,Decidable.not_not] at hnb
      exact hnb.1.1
     refine⟨fun n s' e=>?_,h.on hT (by rw[hk00];decide)⟩
     injection e with e1 e2
     subst e2
     refine⟨?_,Nat.le_refl _⟩
     rw[←e1]
     show (calledQ L q).toNat=_
     unfold calledQ
     rw[hkk,if_pos hk0,hh,nil_called h hnb]
     cases calledN q.ns (tkQ L q).s<;>rfl
    ·rw[if_neg hk0,if_neg hk0]
     rw[if_neg hk0] at hln
     have hk3:(tkQ L q).k≠3:=kOf_k (by omega)
     have hN:=h.newN hT (k:=k) hk3
     have hlen:=h.len
     have hid:pt s.ns.length=id:=h.new _ (Nat.le_refl _)
     have hd1:(({ s.on with ns:=s.ns++[Nd.ofKind k] }:PS).ns)[s.ns.length]?=some (Nd.ofKind k):=by
      show (s.ns++[Nd.ofKind k])[s.ns.length]?=_
      rw[List.getElem?_append_right (Nat.le_refl _)];simp
     have hn1:s.ns.length<({ s.on with ns:=s.ns++[Nd.ofKind k] }:PS).ns.length:=by show _<(s.ns++[Nd.ofKind k]).length;simp
     have H:=typed_q hT hF f
     have hlenT:∀u a s n s',typedR f u a s=.ok n s'→s'.l.length<s.l.length:=fun u a s n s' e=>(typedR_len f u a s n s' e).2
     rw[hlen]
     rw[restR_succ] at hln ⊢
     generalize hs1:({ s.on with ns:=s.ns++[Nd.ofKind k] }:PS)=s1 at hN hd1 hn1 hln ⊢
     generalize hq1:newQ L k q=q1 at hN
     have hl1:s.ns.length≤s1.ns.length:=by rw[←hs1];show _≤(s.ns++[Nd.ofKind k]).length;simp
     have hll:s1.l.length≤L.length:=by rw[hN.l,List.length_drop];omega
     have wrap:∀(r:Res Unit) (q':QS),OQ L pt r q'→OQ L pt (r.bind fun _ s2=>.ok s.ns.length s2) q':=fun r q' e=>by cases r<;>exact e
     have wrapn:∀(r:Res Unit) n s',(r.bind fun _ s2=>(.ok s.ns.length s2:Res Nat))=.ok n s'→s.ns.length=n:=fun r n s' e=>by
      cases r with
      | ok a b=>injection e
      | bad a b=>cases e
     unfold restB at hln ⊢
     unfold restQ
     by_cases k6:k=6
     ·rw[if_pos k6] at hln ⊢
      rw[if_pos k6]
      exact⟨fun n s' e=>⟨wrapn _ _ _ e,hln n s' e⟩,wrap _ _ (item_q hT hF H (c:=93) (by decide) hN hn1 hid)⟩
     ·rw[if_neg k6] at hln ⊢
      rw[if_neg k6]
      by_cases k7:k=7
      ·rw[if_pos k7] at hln ⊢
       rw[if_pos k7]
       exact⟨fun n s' e=>⟨wrapn _ _ _ e,hln n s' e⟩,wrap _ _ (item_q hT hF H (c:=125) (by decide) hN hn1 hid)⟩
      ·rw[if_neg k7] at hln ⊢
       rw[if_neg k7]
       by_cases k8:k=8
       ·rw[if_pos k8] at hln ⊢
        rw[if_pos k8]
        have ho:=hN.openId (n:=s.ns.length) (f:=fun d=>{ d with items:=[] }) hn1 hid (fun d=>⟨rfl,rfl⟩) (fun d hd'=>by rw[hd1] at hd';injection hd' with hd';subst hd';rfl)
        exact⟨fun n s' e=>⟨wrapn _ _ _ e,hln n s' e⟩,wrap _ _ (union_q hT hF H _ [] s1 q1 L.length ho hn1 hN.kn hid hN.new (Nat.le_refl _) hll hlenT)⟩
       ·rw[if_neg k8] at hln ⊢
        rw[if_neg k8]
        by_cases k9:k=9∨k=10∨k=11
        ·rw[if_pos k9] at hln ⊢
         rw[if_pos k9]
         exact⟨fun n s' e=>⟨wrapn _ _ _ e,hln n s' e⟩,wrap _ _ (defined_q hT hF H hlenT k9 hN hid hd1)⟩
        ·rw[if_neg k9] at hln ⊢
         rw[if_neg k9]
         exact⟨fun n s' e=>⟨by injection e,hln n s' e⟩,hN⟩
end
theorem wts_tf:∀ {L:List Tok},WTs (L.map tk)→TF L
 | [],_=>fun t ht=>by cases ht
 | x::l,h=>fun t ht=>by
  rcases wts_cons h with⟨e,hl⟩|⟨hx,hl⟩
  ·have hl:l=[]:=by simpa using hl
   subst hl
   rw[List.mem_singleton] at ht
   subst ht
   exact .inl ⟨congrArg Prod.fst e,congrArg Prod.snd e⟩
  ·rcases List.mem_cons.1 ht with rfl|ht
   ·exact .inr hx
   ·exact wts_tf hl t ht
theorem words_tf {s:ByteArray} (h:words s=none):TF (toks s):=by
 have hpos:∀(l:List Tok) (n:Nat),wordsR l n=none→∀t∈l,0≤t.k:=by
  intro l
  induction l with
  | nil=>intro n _ t ht;cases ht
  | cons x l ih=>
   intro n h t ht
   rw[wordsR] at h
   split at h
   ·cases h
   ·split at h
    ·cases h
    ·rcases List.mem_cons.1 ht with rfl|ht
     ·omega
     ·exact ih _ h t ht
 have hw:wordsR (toks s) 0=none:=by
  unfold words at h
  split at h
  ·cases h
  ·exact h
 exact wts_tf (relex s (hpos _ _ hw)).1
theorem parse_q (s:ByteArray):parseQ s=parseP s:=by
 unfold parseQ parseP
 cases hw:words s with
 | some r=>rfl
 | none=>
  simp only
  have hT:=toks_ok s
  have hF:=words_tf hw
  have h0:RQ (toks s) (fun _=>id) ⟨toks s,[],fun _=>none⟩ ⟨0,[],0,0⟩:=⟨by simp,hT.pos,fun i=>by simp,rfl,fun x _=>by unfold calledN;rfl,fun i d=>⟨rfl,rfl⟩,fun i _=>rfl⟩
  obtain⟨_,h1⟩:=typed_q hT hF 20 false [] _ _ _ h0
  cases hr:typedR 20 false [] ⟨toks s,[],fun _=>none⟩ with
  | bad a w=>
   rw[hr] at h1
   obtain⟨e1,e2,e3⟩:=h1
   simp only
   rw[badQ_why (by rw[e1];exact e3),if_pos (by rw[e1];exact e3),e1,e2]
  | ok n s'=>
   rw[hr] at h1
   have h1:RQ (toks s) (fun _=>id) s' (typedQ (toks s) 20 false [] ⟨0,[],0,0⟩).2:=h1
   generalize (typedQ (toks s) 20 false [] ⟨0,[],0,0⟩).2=q at h1
   simp only
   rw[h1.hd_,badQ_if h1.why]
   by_cases hk:(tkQ (toks s) q).k≠3
   ·rw[if_pos hk,if_pos (decide_eq_true hk),if_pos (by show (4:Nat)≠0;decide)];rfl
   ·have hdf:decide ((tkQ (toks s) q).k≠3)=false:=decide_eq_false hk
    rw[if_neg hk,hdf]
    simp only[Bool.false_eq_true,if_false]
    rw[if_neg (by rw[h1.why];simp)]
    have:q.ns=s'.ns:=by
     apply List.ext_getElem?
     intro i
     rw[h1.ns i];simp
    rw[this]
end Pr
namespace Pr
open Go.ChangeShapes Go.WideShapes Go.ChangeAt Go.RowKit
open Base Lx Mi
theorem rtexts_any {B:Nat} {w:World} {v1 v2:Value} {l1 l2:List ByteArray} (h1:Sl B w v1 l1.length (txs l1)) (h2:Sl B w v2 l2.length (txs l2)) (hB:B≤w.heap.size) :
  Calls Tryz.prog 93 #[v1,v2] w fun e w'=>e=.returned (.bool (decide (l1=l2)))∧Ext w w':=by
 obtain⟨R,hR⟩:∃R,Hid (decide (l1=l2)=R):=⟨_,rfl⟩
 rw[hR.out]
 obtain⟨A1,c1,rfl,hn1,hm1,_,hat1⟩:=h1.at_
 obtain⟨A2,c2,rfl,hn2,hm2,_,hat2⟩:=h2.at_
 unfold maxLen at hm1 hm2
 obtain⟨n,hn⟩:∃z,Hid (l1.length=z):=⟨_,rfl⟩
 obtain⟨n2,hn2'⟩:∃z,Hid (l2.length=z):=⟨_,rfl⟩
 rw[hn.out] at hn1 ⊢
 rw[hn2'.out] at hn2 ⊢
 by_cases hl:n=n2
 ·subst hl
  have hnb:((n:Int) != (n:Int))=false:=by simp
  go_enter Tryz.func93,Tryz.ntmps93
  go_wp2_with fail
  go_loopw [5,11,12,13,14,15,16,17,18,19,20,21,22,23,24,25] (fun v5 v11 v12 v13 v14 v15 v16 v17 v18 v19 v20 v21 v22 v23 v24 v25 wr=>∃i:Nat,i≤n∧v5=.int .i64 i∧EqAt l1 l2 i∧Ext w wr) (fun v5 _ _ _ _ _ _ _ _ _ _ _ _ _ _ _ _=>n-(intOf v5).toNat)
  case atStart=>exact⟨0,by omega,rfl,fun j hj=>by omega,Ext.refl w⟩
  case round=>
   obtain⟨i,hi,rfl,heq,hx⟩:=hrel
   by_cases hin:i<n
   ·have hin':(i:Int)<(n:Int):=by omega
    obtain⟨x,hx1⟩:∃x,l1[i]?=some x:=⟨_,List.getElem?_eq_getElem (by have:=hn.out;omega)⟩
    obtain⟨y,hx2⟩:∃x,l2[i]?=some x:=⟨_,List.getElem?_eq_getElem (by have:=hn2'.out;omega)⟩
    have hz1:(txs l1)[i]?=some (.string x):=by unfold txs;rw[List.getElem?_map,hx1];rfl
    have hz2:(txs l2)[i]?=some (.string y):=by unfold txs;rw[List.getElem?_map,hx2];rfl
    obtain⟨b1,o1,rfl,hb1,hc1⟩:=hat1 i _ hz1
    obtain⟨b2,o2,rfl,hb2,hc2⟩:=hat2 i _ hz2
    have d1:∀W,Ext wr W→W.cell? ⟨b1,o1+i,none⟩=some (.string x):=fun W hW=>hc1 W (Below.mono (hx.trans hW) hB) i _ hz1
    have d2:∀W,Ext wr W→W.cell? ⟨b2,o2+i,none⟩=some (.string y):=fun W hW=>hc2 W (Below.mono (hx.trans hW) hB) i _ hz2
    clear hz1 hz2 hc1 hc2
    by_cases he:x=y
    ·subst he
     have hE:=heq.next hx1 hx2
     clear hx1 hx2
     have hbq:(x.toList != x.toList)=false:=by simp
     go_wp2_with fail
     refine Reg.startE (by kernel_rfl) ?_
     iterate 9 ((first|refine Reg.tn ?_|refine Reg.sn ?_);(try simp only[Reg.nn]))
     refine Reg.fin (by kernel_rfl) (fun W hW=>?_)
     go_wp2_with fail
     go_roundw
     case rel=>exact⟨i+1,by omega,by go_num,hE,hx.trans hW⟩
     case measure=>simp[intOf];omega
    ·have hne:=ne_at hx1 hx2 he
     have hRf:R=false:=by rw[←hR.out];simpa using hne
     have hbq:=str_ne he
     have hbq2:(x.toList != y.toList)=true:=by simpa [bne] using hbq
     subst hRf
     clear hx1 hx2 hne
     go_wp2_with fail
     refine Reg.startE (by kernel_rfl) ?_
     iterate 9 ((first|refine Reg.tn ?_|refine Reg.sn ?_);(try simp only[Reg.nn]))
     refine Reg.fin (by kernel_rfl) (fun W hW=>?_)
     go_wp2_with fail
     go_ret
     exact⟨rfl,hx.trans hW⟩
   ·obtain rfl:i=n:=by omega
    have hRt:R=true:=by rw[←hR.out];simpa using EqAt.all (by rw[hn.out,hn2'.out]) (by rw[hn.out];exact heq)
    subst hRt
    go_wp2_with fail
    go_ret
    exact⟨rfl,hx⟩
 ·have hRf:R=false:=by rw[←hR.out];simpa using ne_len (by rw[hn.out,hn2'.out];exact hl)
  have hnb:((n:Int) != (n2:Int))=true:=by simpa using (by omega:¬(n:Int)=(n2:Int))
  subst hRf
  go_enter Tryz.func93,Tryz.ntmps93
  go_wp2_with fail
  go_ret
  exact⟨rfl,Ext.refl w⟩
theorem rints_any {B:Nat} {w:World} {v1 v2:Value} {l1 l2:List Int} (h1:Sl B w v1 l1.length (intsZ l1)) (h2:Sl B w v2 l2.length (intsZ l2)) (hB:B≤w.heap.size) :
  Calls Tryz.prog 61 #[v1,v2] w fun e w'=>e=.returned (.bool (decide (l1=l2)))∧Ext w w':=by
 obtain⟨R,hR⟩:∃R,Hid (decide (l1=l2)=R):=⟨_,rfl⟩
 rw[hR.out]
 obtain⟨A1,c1,rfl,hn1,hm1,_,hat1⟩:=h1.at_
 obtain⟨A2,c2,rfl,hn2,hm2,_,hat2⟩:=h2.at_
 unfold maxLen at hm1 hm2
 obtain⟨n,hn⟩:∃z,Hid (l1.length=z):=⟨_,rfl⟩
 obtain⟨n2,hn2'⟩:∃z,Hid (l2.length=z):=⟨_,rfl⟩
 rw[hn.out] at hn1 ⊢
 rw[hn2'.out] at hn2 ⊢
 by_cases hl:n=n2
 ·subst hl
  have hnb:((n:Int) != (n:Int))=false:=by simp
  go_enter Tryz.func61,Tryz.ntmps61
  go_wp2_with fail
  go_loopw [5,11,12,13,14,15,16,17,18,19,20,21,22,23,24,25] (fun v5 v11 v12 v13 v14 v15 v16 v17 v18 v19 v20 v21 v22 v23 v24 v25 wr=>∃i:Nat,i≤n∧v5=.int .i64 i∧EqAt l1 l2 i∧Ext w wr) (fun v5 _ _ _ _ _ _ _ _ _ _ _ _ _ _ _ _=>n-(intOf v5).toNat)
  case atStart=>exact⟨0,by omega,rfl,fun j hj=>by omega,Ext.refl w⟩
  case round=>
   obtain⟨i,hi,rfl,heq,hx⟩:=hrel
   by_cases hin:i<n
   ·have hin':(i:Int)<(n:Int):=by omega
    obtain⟨x,hx1⟩:∃x,l1[i]?=some x:=⟨_,List.getElem?_eq_getElem (by have:=hn.out;omega)⟩
    obtain⟨y,hx2⟩:∃x,l2[i]?=some x:=⟨_,List.getElem?_eq_getElem (by have:=hn2'.out;omega)⟩
    have hz1:(intsZ l1)[i]?=some (.int .i64 x):=by unfold intsZ;rw[List.getElem?_map,hx1];rfl
    have hz2:(intsZ l2)[i]?=some (.int .i64 y):=by unfold intsZ;rw[List.getElem?_map,hx2];rfl
    obtain⟨b1,o1,rfl,hb1,hc1⟩:=hat1 i _ hz1
    obtain⟨b2,o2,rfl,hb2,hc2⟩:=hat2 i _ hz2
    have d1:∀W,Ext wr W→W.cell? ⟨b1,o1+i,none⟩=some (.int .i64 x):=fun W hW=>hc1 W (Below.mono (hx.trans hW) hB) i _ hz1
    have d2:∀W,Ext wr W→W.cell? ⟨b2,o2+i,none⟩=some (.int .i64 y):=fun W hW=>hc2 W (Below.mono (hx.trans hW) hB) i _ hz2
    clear hz1 hz2 hc1 hc2
    by_cases he:x=y
    ·subst he
     have hE:=heq.next hx1 hx2
     clear hx1 hx2
     have hbq:(x != x)=false:=by simp
     go_wp2_with fail
     refine Reg.startE (by kernel_rfl) ?_
     iterate 9 ((first|refine Reg.tn ?_|refine Reg.sn ?_);(try simp only[Reg.nn]))
     refine Reg.fin (by kernel_rfl) (fun W hW=>?_)
     go_wp2_with fail
     go_roundw
     case rel=>exact⟨i+1,by omega,by go_num,hE,hx.trans hW⟩
     case measure=>simp[intOf];omega
    ·have hne:=ne_at hx1 hx2 he
     have hRf:R=false:=by rw[←hR.out];simpa using hne
     have hbq2:(x != y)=true:=by simpa using he
     subst hRf
     clear hx1 hx2 hne
     go_wp2_with fail
     refine Reg.startE (by kernel_rfl) ?_
     iterate 9 ((first|refine Reg.tn ?_|refine Reg.sn ?_);(try simp only[Reg.nn]))
     refine Reg.fin (by kernel_rfl) (fun W hW=>?_)
     go_wp2_with fail
     go_ret
     exact⟨rfl,hx.trans hW⟩
   ·obtain rfl:i=n:=by omega
    have hRt:R=true:=by rw[←hR.out];simpa using EqAt.all (by rw[hn.out,hn2'.out]) (by rw[hn.out];exact heq)
    subst hRt
    go_wp2_with fail
    go_ret
    exact⟨rfl,hx⟩
 ·have hRf:R=false:=by rw[←hR.out];simpa using ne_len (by rw[hn.out,hn2'.out];exact hl)
  have hnb:((n:Int) != (n2:Int))=true:=by simpa using (by omega:¬(n:Int)=(n2:Int))
  subst hRf
  go_enter Tryz.func61,Tryz.ntmps61
  go_wp2_with fail
  go_ret
  exact⟨rfl,Ext.refl w⟩
theorem rnode_any {B:Nat} {w:World} {d1 d2:Ne} {v1 v2:V3} (h1:SubE B w d1 v1) (h2:SubE B w d2 v2) (hB:B≤w.heap.size) :
  Calls Tryz.prog 68 #[.agg (neC d1 v1).toArray,.agg (neC d2 v2).toArray] w fun e w'=>e=.returned (.bool (decide (d1=d2)))∧Ext w w':=by
 obtain⟨k1,m1,z1,s1,i1,f1⟩:=d1
 obtain⟨k2,m2,z2,s2,i2,f2⟩:=d2
 obtain⟨a1,b1,c1⟩:=v1
 obtain⟨a2,b2,c2⟩:=v2
 have hs1:Sl B w a1 s1.length (txs s1):=h1.syms
 have hi1:Sl B w b1 i1.length (intsZ i1):=h1.items
 have hf1:Sl B w c1 f1.length (fldsZ f1):=h1.fields
 have hs2:Sl B w a2 s2.length (txs s2):=h2.syms
 have hi2:Sl B w b2 i2.length (intsZ i2):=h2.items
 have hf2:Sl B w c2 f2.length (fldsZ f2):=h2.fields
 clear h1 h2
 obtain⟨F1,cc1,rfl,hn1,hm1,_,hat1⟩:=hf1.at_
 obtain⟨F2,cc2,rfl,hn2,hm2,_,hat2⟩:=hf2.at_
 unfold maxLen at hm1 hm2
 simp only[neC]
 obtain⟨n,hn⟩:∃z,Hid (f1.length=z):=⟨_,Lib.hid rfl⟩
 obtain⟨n2,hn2'⟩:∃z,Hid (f2.length=z):=⟨_,Lib.hid rfl⟩
 rw[hn.out] at hn1 ⊢
 rw[hn2'.out] at hn2 ⊢
 obtain⟨w1,hw1⟩:∃z,Hid ((w.alloc (.cells #[.int .i64 k1,.string m1,.int .i64 z1,a1,b1,.slice F1 n cc1] 36)).alloc (.cells #[.int .i64 k2,.string m2,.int .i64 z2,a2,b2,.slice F2 n2 cc2] 36)=z):=⟨_,rfl⟩
 have hx1:Ext w w1:=by rw[←hw1.out];exact ((Ext.refl w).alloc _).alloc _
 obtain⟨q,hq⟩:∃z,Hid (w.heap.size=z):=⟨_,rfl⟩
 have hbA:Blk w1 q #[.int .i64 k1,.string m1,.int .i64 z1,a1,b1,.slice F1 n cc1] 36:=by rw[←hw1.out,←hq.out];exact (Blk.new w _ _).alloc _
 have hbB:Blk w1 (q+1) #[.int .i64 k2,.string m2,.int .i64 z2,a2,b2,.slice F2 n2 cc2] 36:=by
  rw[←hw1.out,←hq.out]
  have:=Blk.new (w.alloc (.cells #[.int .i64 k1,.string m1,.int .i64 z1,a1,b1,.slice F1 n cc1] 36)) #[.int .i64 k2,.string m2,.int .i64 z2,a2,b2,.slice F2 n2 cc2] 36
  simpa using this
 have pA:∀W,Ext w1 W→W.cell? ⟨q,5,none⟩=some (.slice F1 n cc1):=fun W hW=>(hbA.ext hW).cell 5
 have pB:∀W,Ext w1 W→W.cell? ⟨q+1,5,none⟩=some (.slice F2 n2 cc2):=fun W hW=>(hbB.ext hW).cell 5
 have hcs:=fun W (hW:Ext w W)=>rtexts_any (hs1.below (Below.mono hW hB)) (hs2.below (Below.mono hW hB)) (Nat.le_trans hB hW.size)
 have hci:=fun W (hW:Ext w W)=>rints_any (hi1.below (Below.mono hW hB)) (hi2.below (Below.mono hW hB)) (Nat.le_trans hB hW.size)
 obtain⟨R,hR⟩:∃R,Hid (decide ((⟨k1,m1,z1,s1,i1,f1⟩:Ne)=⟨k2,m2,z2,s2,i2,f2⟩)=R):=⟨_,Lib.hid rfl⟩
 rw[hR.out]
 by_cases e1:¬(k1=k2)
 ·have hR0:R=false:=by rw[←hR.out];simp[e1]
  have hb:(k1 == k2)=false:=by simpa using e1
  have hb':(k1 != k2)=true:=by simpa using e1
  subst hR0
  clear pA pB hcs hci
  go_enter Tryz.func68,Tryz.ntmps68
  go_wp2_with fail
  rw[hw1.out]
  go_ret
  exact⟨rfl,hx1⟩
 have e1:k1=k2:=Classical.not_not.1 e1
 subst e1
 have hbk:(k1 != k1)=false:=by simp
 by_cases e2:¬(m1=m2)
 ·have hR0:R=false:=by rw[←hR.out];simp[e2]
  have hb2:=str_ne e2
  have hb2':(m1.toList != m2.toList)=true:=by simpa [bne] using hb2
  subst hR0
  clear pA pB hcs hci
  go_enter Tryz.func68,Tryz.ntmps68
  go_wp2_with fail
  rw[hw1.out]
  go_ret
  exact⟨rfl,hx1⟩
 have e2:m1=m2:=Classical.not_not.1 e2
 subst e2
 have hbm:(m1.toList != m1.toList)=false:=by simp
 by_cases e3:¬(z1=z2)
 ·have hR0:R=false:=by rw[←hR.out];simp[e3]
  have hb3:(z1 == z2)=false:=by simpa using e3
  have hb3':(z1 != z2)=true:=by simpa using e3
  subst hR0
  clear pA pB hcs hci
  go_enter Tryz.func68,Tryz.ntmps68
  go_wp2_with fail
  rw[hw1.out]
  go_ret
  exact⟨rfl,hx1⟩
 have e3:z1=z2:=Classical.not_not.1 e3
 subst e3
 have hbz:(z1 != z1)=false:=by simp
 by_cases e4:¬(n=n2)
 ·have hR0:R=false:=by
   rw[←hR.out]
   have:f1≠f2:=ne_len (by rw[hn.out,hn2'.out];exact e4)
   simp[this]
  have hnb:((n:Int) != (n2:Int))=true:=by simpa using (by omega:¬(n:Int)=(n2:Int))
  subst hR0
  clear pA pB hcs hci
  go_enter Tryz.func68,Tryz.ntmps68
  go_wp2_with fail
  rw[hw1.out]
  go_ret
  exact⟨rfl,hx1⟩
 have e4:n=n2:=Classical.not_not.1 e4
 subst e4
 have hnb:((n:Int) != (n:Int))=false:=by simp
 go_enter Tryz.func68,Tryz.ntmps68
 go_wp2_with fail
 rw[hw1.out,hq.out]
 replace hcs:=Lib.hid hcs
 replace hci:=Lib.hid hci
 go_loopw [5,34,35,36,37,38,39,40,41,42,43,44,45,46,47,48,49,50,51] (fun v5 v34 v35 v36 v37 v38 v39 v40 v41 v42 v43 v44 v45 v46 v47 v48 v49 v50 v51 wr=>∃i:Nat,i≤n∧v5=.int .i64 i∧EqAt f1 f2 i∧Ext w1 wr) (fun v5 _ _ _ _ _ _ _ _ _ _ _ _ _ _ _ _ _ _ _=>n-(intOf v5).toNat)
 case atStart=>exact⟨0,by omega,rfl,fun j hj=>by omega,Ext.refl w1⟩
 case round=>
  obtain⟨i,hi,rfl,heq,hx⟩:=hrel
  have pAr:=pA wr hx
  have pBr:=pB wr hx
  by_cases hin:i<n
  ·have hin':(i:Int)<(n:Int):=by omega
   obtain⟨x,hx1'⟩:∃x,f1[i]?=some x:=⟨_,List.getElem?_eq_getElem (by have:=hn.out;omega)⟩
   obtain⟨y,hx2⟩:∃x,f2[i]?=some x:=⟨_,List.getElem?_eq_getElem (by have:=hn2'.out;omega)⟩
   have hz1:=fldsZ_at f1 i _ hx1'
   have hz2:=fldsZ_at f2 i _ hx2
   obtain⟨xn,xh,xt⟩:=x
   obtain⟨yn,yh,yt⟩:=y
   obtain⟨b1',o1,rfl,hb1,hc1⟩:=hat1 (i*3+0) (.string xn) (by rw[hz1 0 (by omega)];rfl)
   obtain⟨b2',o2,rfl,hb2,hc2⟩:=hat2 (i*3+0) (.string yn) (by rw[hz2 0 (by omega)];rfl)
   have d10:∀W,Ext wr W→W.cell? ⟨b1',o1+i*3,none⟩=some (.string xn):=fun W hW=>by have:=hc1 W (Below.mono ((hx1.trans hx).trans hW) hB) (i*3+0) _ (by rw[hz1 0 (by omega)];rfl);simpa [Nat.add_assoc] using this
   have d11:∀W,Ext wr W→W.cell? ⟨b1',o1+i*3+1,none⟩=some (.bool xh):=fun W hW=>by have:=hc1 W (Below.mono ((hx1.trans hx).trans hW) hB) (i*3+1) _ (by rw[hz1 1 (by omega)];rfl);simpa [Nat.add_assoc] using this
   have d12:∀W,Ext wr W→W.cell? ⟨b1',o1+i*3+2,none⟩=some (.int .i64 xt):=fun W hW=>by have:=hc1 W (Below.mono ((hx1.trans hx).trans hW) hB) (i*3+2) _ (by rw[hz1 2 (by omega)];rfl);simpa [Nat.add_assoc] using this
   have d20:∀W,Ext wr W→W.cell? ⟨b2',o2+i*3,none⟩=some (.string yn):=fun W hW=>by have:=hc2 W (Below.mono ((hx1.trans hx).trans hW) hB) (i*3+0) _ (by rw[hz2 0 (by omega)];rfl);simpa [Nat.add_assoc] using this
   have d21:∀W,Ext wr W→W.cell? ⟨b2',o2+i*3+1,none⟩=some (.bool yh):=fun W hW=>by have:=hc2 W (Below.mono ((hx1.trans hx).trans hW) hB) (i*3+1) _ (by rw[hz2 1 (by omega)];rfl);simpa [Nat.add_assoc] using this
   have d22:∀W,Ext wr W→W.cell? ⟨b2',o2+i*3+2,none⟩=some (.int .i64 yt):=fun W hW=>by have:=hc2 W (Below.mono ((hx1.trans hx).trans hW) hB) (i*3+2) _ (by rw[hz2 2 (by omega)];rfl);simpa [Nat.add_assoc] using this
   have pA':∀W,Ext wr W→W.cell? ⟨q,5,none⟩=some (.slice (some ⟨b1',o1,none⟩) n cc1):=fun W hW=>pA W (hx.trans hW)
   have pB':∀W,Ext wr W→W.cell? ⟨q+1,5,none⟩=some (.slice (some ⟨b2',o2,none⟩) n cc2):=fun W hW=>pB W (hx.trans hW)
   have hcmp:=fun W=>neq_fld xn yn xh yh xt yt W
   clear hz1 hz2 hc1 hc2
   by_cases he:(xn,xh,xt)=(yn,yh,yt)
   ·have hd:decide ((xn,xh,xt)=(yn,yh,yt))=true:=by simpa using he
    rw[hd] at hcmp
    rw[←he] at hx2
    have hE:=heq.next hx1' hx2
    clear hx1' hx2
    go_wp2_with fail
    clear pA pB
    refine Reg.startE (by kernel_rfl) ?_
    iterate 11 ((first|refine Reg.tn ?_|refine Reg.sn ?_);(try simp only[Reg.nn]))
    refine Reg.fin (by kernel_rfl) (fun W hW=>?_)
    go_wp2_with fail
    go_roundw
    case rel=>exact⟨i+1,by omega,by go_num,hE,hx.trans hW⟩
    case measure=>simp[intOf];omega
   ·have hne:=ne_at hx1' hx2 he
    have hRf:R=false:=by rw[←hR.out];simp[hne]
    have hd:decide ((xn,xh,xt)=(yn,yh,yt))=false:=by simpa using he
    rw[hd] at hcmp
    subst hRf
    clear hx1' hx2 hne
    go_wp2_with fail
    clear pA pB
    refine Reg.startE (by kernel_rfl) ?_
    iterate 11 ((first|refine Reg.tn ?_|refine Reg.sn ?_);(try simp only[Reg.nn]))
    refine Reg.fin (by kernel_rfl) (fun W hW=>?_)
    go_wp2_with fail
    go_ret
    exact⟨rfl,(hx1.trans hx).trans hW⟩
  ·obtain rfl:i=n:=by omega
   have hff:f1=f2:=EqAt.all (by rw[hn.out,hn2'.out]) (by rw[hn.out];exact heq)
   have hRb:R=(decide (s1=s2) && decide (i1=i2)):=by rw[←hR.out];simp[hff]
   have p3:wr.cell? ⟨q,3,none⟩=some a1:=(hbA.ext hx).cell 3
   have p3':wr.cell? ⟨q+1,3,none⟩=some a2:=(hbB.ext hx).cell 3
   have hcs1:=hcs.out wr (hx1.trans hx)
   clear pA pB
   by_cases e5:s1=s2
   ·have hci1:=hci.out
    rw[show decide (s1=s2)=true by simpa using e5] at hcs1 hRb
    rw[Bool.true_and] at hRb
    subst hRb
    replace hci1:=Lib.hid hci1
    go_wp2_with fail
    refine hcs1.mono ?_
    rintro e w2 ⟨rfl,hx2⟩
    have p4:w2.cell? ⟨q,4,none⟩=some b1:=((hbA.ext hx).ext hx2).cell 4
    have p4':w2.cell? ⟨q+1,4,none⟩=some b2:=((hbB.ext hx).ext hx2).cell 4
    have hci2:=hci1.out w2 ((hx1.trans hx).trans hx2)
    go_wp2_with fail
    refine hci2.mono ?_
    rintro e w3 ⟨rfl,hx3⟩
    go_wp2_with fail
    go_ret
    exact⟨rfl,((hx1.trans hx).trans hx2).trans hx3⟩
   ·rw[show decide (s1=s2)=false by simpa using e5] at hcs1 hRb
    rw[Bool.false_and] at hRb
    subst hRb
    go_wp2_with fail
    refine hcs1.mono ?_
    rintro e w2 ⟨rfl,hx2⟩
    go_wp2_with fail
    go_ret
    exact⟨rfl,(hx1.trans hx).trans hx2⟩
theorem rsame_any {B:Nat} {w:World} {v1 v2:Value} {l1 l2:List Ne} (h1:Sch B w v1 l1) (h2:Sch B w v2 l2) (hB:B≤w.heap.size) :
  Calls Tryz.prog 44 #[.agg #[v1],.agg #[v2]] w fun e w'=>e=.returned (.bool (decide (l1=l2)))∧Ext w w':=by
 obtain⟨R,hR⟩:∃R,Hid (decide (l1=l2)=R):=⟨_,Lib.hid rfl⟩
 rw[hR.out]
 have hm1:l1.length≤9223372036854775807:=by obtain⟨vs,_,⟨A,c,e,_,_,q1,q2,_⟩,_⟩:=h1;unfold maxLen at q2;omega
 obtain⟨A1,c1,rfl⟩:=h1.slice
 obtain⟨A2,c2,rfl⟩:=h2.slice
 obtain⟨n,hn⟩:∃z,Hid (l1.length=z):=⟨_,rfl⟩
 obtain⟨n2,hn2'⟩:∃z,Hid (l2.length=z):=⟨_,rfl⟩
 rw[hn.out] at hm1 ⊢
 rw[hn2'.out]
 obtain⟨w1,hw1⟩:∃z,Hid ((w.alloc (.cells #[.slice A1 n c1] 24)).alloc (.cells #[.slice A2 n2 c2] 24)=z):=⟨_,rfl⟩
 have hx1:Ext w w1:=by rw[←hw1.out];exact ((Ext.refl w).alloc _).alloc _
 obtain⟨q,hq⟩:∃z,Hid (w.heap.size=z):=⟨_,rfl⟩
 have hbA:Blk w1 q #[.slice A1 n c1] 24:=by rw[←hw1.out,←hq.out];exact (Blk.new w _ _).alloc _
 have hbB:Blk w1 (q+1) #[.slice A2 n2 c2] 24:=by
  rw[←hw1.out,←hq.out]
  have:=Blk.new (w.alloc (.cells #[.slice A1 n c1] 24)) #[.slice A2 n2 c2] 24
  simpa using this
 by_cases hl:n=n2
 ·subst hl
  have hnb:((n:Int) != (n:Int))=false:=by simp
  go_enter Tryz.func44,Tryz.ntmps44
  go_wp2_with fail
  rw[hw1.out,hq.out]
  go_loopw [5,13,14,15,16,17,18,19,20,21,22,23,24,25,26,27,28,29,30,31] (fun v5 v13 v14 v15 v16 v17 v18 v19 v20 v21 v22 v23 v24 v25 v26 v27 v28 v29 v30 v31 wr=>∃i:Nat,i≤n∧v5=.int .i64 i∧EqAt l1 l2 i∧Ext w1 wr) (fun v5 _ _ _ _ _ _ _ _ _ _ _ _ _ _ _ _ _ _ _ _=>n-(intOf v5).toNat)
  case atStart=>exact⟨0,by omega,rfl,fun j hj=>by omega,Ext.refl w1⟩
  case round=>
   obtain⟨i,hi,rfl,heq,hx⟩:=hrel
   have pA:=(hbA.ext hx).cell 0
   by_cases hin:i<n
   ·have hin':(i:Int)<(n:Int):=by omega
    obtain⟨x,hx1'⟩:∃x,l1[i]?=some x:=⟨_,List.getElem?_eq_getElem (by have:=hn.out;omega)⟩
    obtain⟨y,hx2⟩:∃x,l2[i]?=some x:=⟨_,List.getElem?_eq_getElem (by have:=hn2'.out;omega)⟩
    obtain⟨b1,o1,d1,As1,cs1,Ai1,ci1,Af1,cf1,e1,hb1,hs1,hc1⟩:=h1.node2 i x hx1'
    obtain⟨b2,o2,d2,As2,cs2,Ai2,ci2,Af2,cf2,e2,hb2,hs2,hc2⟩:=h2.node2 i y hx2
    injection e1 with e1 _ e1'
    injection e2 with e2 _ e2'
    subst e1;subst e1';subst e2;subst e2'
    have pA':∀W,Ext wr W→W.cell? ⟨q,0,none⟩=some (.slice (some ⟨b1,o1,none⟩) n c1):=fun W hW=>(hbA.ext (hx.trans hW)).cell 0
    have pB':∀W,Ext wr W→W.cell? ⟨q+1,0,none⟩=some (.slice (some ⟨b2,o2,none⟩) n c2):=fun W hW=>(hbB.ext (hx.trans hW)).cell 0
    have c10:∀W,Ext wr W→W.cell? ⟨b1,o1+i*6,none⟩=some (.int .i64 x.k):=fun W hW=>(hc1 W (Below.mono ((hx1.trans hx).trans hW) hB)).1
    have c11:∀W,Ext wr W→W.cell? ⟨b1,o1+i*6+1,none⟩=some (.string x.name):=fun W hW=>(hc1 W (Below.mono ((hx1.trans hx).trans hW) hB)).2.1
    have c12:∀W,Ext wr W→W.cell? ⟨b1,o1+i*6+2,none⟩=some (.int .i64 x.size):=fun W hW=>(hc1 W (Below.mono ((hx1.trans hx).trans hW) hB)).2.2.1
    have c13:∀W,Ext wr W→W.cell? ⟨b1,o1+i*6+3,none⟩=some (.slice As1 x.syms.length cs1):=fun W hW=>(hc1 W (Below.mono ((hx1.trans hx).trans hW) hB)).2.2.2.1
    have c14:∀W,Ext wr W→W.cell? ⟨b1,o1+i*6+4,none⟩=some (.slice Ai1 x.items.length ci1):=fun W hW=>(hc1 W (Below.mono ((hx1.trans hx).trans hW) hB)).2.2.2.2.1
    have c15:∀W,Ext wr W→W.cell? ⟨b1,o1+i*6+5,none⟩=some (.slice Af1 x.fields.length cf1):=fun W hW=>(hc1 W (Below.mono ((hx1.trans hx).trans hW) hB)).2.2.2.2.2
    have c20:∀W,Ext wr W→W.cell? ⟨b2,o2+i*6,none⟩=some (.int .i64 y.k):=fun W hW=>(hc2 W (Below.mono ((hx1.trans hx).trans hW) hB)).1
    have c21:∀W,Ext wr W→W.cell? ⟨b2,o2+i*6+1,none⟩=some (.string y.name):=fun W hW=>(hc2 W (Below.mono ((hx1.trans hx).trans hW) hB)).2.1
    have c22:∀W,Ext wr W→W.cell? ⟨b2,o2+i*6+2,none⟩=some (.int .i64 y.size):=fun W hW=>(hc2 W (Below.mono ((hx1.trans hx).trans hW) hB)).2.2.1
    have c23:∀W,Ext wr W→W.cell? ⟨b2,o2+i*6+3,none⟩=some (.slice As2 y.syms.length cs2):=fun W hW=>(hc2 W (Below.mono ((hx1.trans hx).trans hW) hB)).2.2.2.1
    have c24:∀W,Ext wr W→W.cell? ⟨b2,o2+i*6+4,none⟩=some (.slice Ai2 y.items.length ci2):=fun W hW=>(hc2 W (Below.mono ((hx1.trans hx).trans hW) hB)).2.2.2.2.1
    have c25:∀W,Ext wr W→W.cell? ⟨b2,o2+i*6+5,none⟩=some (.slice Af2 y.fields.length cf2):=fun W hW=>(hc2 W (Below.mono ((hx1.trans hx).trans hW) hB)).2.2.2.2.2
    have hcall:∀W,Ext wr W→_:=fun W hW=>rnode_any (w:=W) (B:=B) (d1:=x) (d2:=y) (v1:=(.slice As1 x.syms.length cs1,.slice Ai1 x.items.length ci1,.slice Af1 x.fields.length cf1)) (v2:=(.slice As2 y.syms.length cs2,.slice Ai2 y.items.length ci2,.slice Af2 y.fields.length cf2)) ⟨hs1.syms.below (Below.mono ((hx1.trans hx).trans hW) hB),hs1.items.below (Below.mono ((hx1.trans hx).trans hW) hB),hs1.fields.below (Below.mono ((hx1.trans hx).trans hW) hB),hs1.rng⟩ ⟨hs2.syms.below (Below.mono ((hx1.trans hx).trans hW) hB),hs2.items.below (Below.mono ((hx1.trans hx).trans hW) hB),hs2.fields.below (Below.mono ((hx1.trans hx).trans hW) hB),hs2.rng⟩ (Nat.le_trans hB ((hx1.trans hx).trans hW).size)
    simp only[neC] at hcall
    by_cases he:x=y
    ·rw[show decide (x=y)=true by simpa using he] at hcall
     replace hcall:=Lib.hid hcall
     rw[←he] at hx2
     have hE:=heq.next hx1' hx2
     clear hx1' hx2 hc1 hc2 hs1 hs2 he
     go_wp2_with fail
     clear pA
     refine Reg.startE (by kernel_rfl) ?_
     iterate 10 ((first|refine Reg.tn ?_|refine Reg.sn ?_);(try simp only[Reg.nn]))
     refine Reg.onlyE 10 _ rfl (by kernel_rfl) (by decide) (by rfl) (fun W hW K hK=>?_);go_simp
     refine (hcall.out _ (by repeat (first|assumption|exact Ext.refl _|refine Ext.trans (by assumption) ?_|apply Ext.drew|apply Ext.drewN|apply Ext.alloc))).mono ?_
     rintro e wX ⟨rfl,hX⟩
     refine hK.out _ _ (hX) ?_;clear hK K;(try simp only[Reg.nn])
     refine Reg.tk 11 ?_;(try simp only[Reg.nn])
     refine Reg.fin (by kernel_rfl) (fun W hW=>?_)
     go_wp2_with fail
     go_roundw
     case rel=>exact⟨i+1,by omega,by go_num,hE,hx.trans (by repeat (first|assumption|exact Ext.refl _|refine Ext.trans (by assumption) ?_|apply Ext.drew|apply Ext.drewN|apply Ext.alloc))⟩
     case measure=>simp[intOf];omega
    ·have hne:=ne_at hx1' hx2 he
     have hRf:R=false:=by rw[←hR.out];simpa using hne
     rw[show decide (x=y)=false by simpa using he] at hcall
     replace hcall:=Lib.hid hcall
     subst hRf
     clear hx1' hx2 hne hc1 hc2 hs1 hs2 he
     go_wp2_with fail
     clear pA
     refine Reg.startE (by kernel_rfl) ?_
     iterate 10 ((first|refine Reg.tn ?_|refine Reg.sn ?_);(try simp only[Reg.nn]))
     refine Reg.onlyE 10 _ rfl (by kernel_rfl) (by decide) (by rfl) (fun W hW K hK=>?_);go_simp
     refine (hcall.out _ (by repeat (first|assumption|exact Ext.refl _|refine Ext.trans (by assumption) ?_|apply Ext.drew|apply Ext.drewN|apply Ext.alloc))).mono ?_
     rintro e wX ⟨rfl,hX⟩
     refine hK.out _ _ (hX) ?_;clear hK K;(try simp only[Reg.nn])
     refine Reg.tk 11 ?_;(try simp only[Reg.nn])
     refine Reg.fin (by kernel_rfl) (fun W hW=>?_)
     go_wp2_with fail
     go_ret
     exact⟨rfl,(hx1.trans hx).trans (by repeat (first|assumption|exact Ext.refl _|refine Ext.trans (by assumption) ?_|apply Ext.drew|apply Ext.drewN|apply Ext.alloc))⟩
   ·obtain rfl:i=n:=by omega
    have hRt:R=true:=by rw[←hR.out];simpa using EqAt.all (by rw[hn.out,hn2'.out]) (by rw[hn.out];exact heq)
    subst hRt
    go_wp2_with fail
    go_ret
    exact⟨rfl,hx1.trans hx⟩
 ·have hRf:R=false:=by rw[←hR.out];simpa using ne_len (by rw[hn.out,hn2'.out];exact hl)
  have hnb:((n:Int) != (n2:Int))=true:=by simpa using (by omega:¬(n:Int)=(n2:Int))
  subst hRf
  go_enter Tryz.func44,Tryz.ntmps44
  go_wp2_with fail
  rw[hw1.out]
  go_ret
  exact⟨rfl,hx1⟩
end Pr
namespace Pr
open Go.ChangeShapes Go.WideShapes Go.ChangeAt Go.RowKit
open Base Lx Mi Piece
theorem bs_eq {S:ByteArray} {l:List UInt8} (h:bs S=l):S=⟨l.toArray⟩:=by
 rw[←h]
 cases S
 simp[bs]
set_option maxHeartbeats 2000000 in
theorem refShow_any (v:Value) (ns:List Ne) (w:World) (hS:Sch w.heap.size w v ns) (hL:showRLen ns≤100000000) :
  Calls Tryz.prog 16 #[.agg #[v]] w fun e w'=>e=.returned (shV (showP ns))∧Ext w w':=by
 rw[←show_r]
 obtain⟨A,c,rfl⟩:=hS.slice
 obtain⟨n,hn⟩:∃z,Hid (ns.length=z):=⟨_,rfl⟩
 obtain⟨q,hq⟩:∃z,Hid (w.heap.size=z):=⟨_,rfl⟩
 obtain⟨w1,hw1⟩:∃z,Hid (w.alloc (.cells #[.slice A n c] 24)=z):=⟨_,rfl⟩
 obtain⟨w2,hw2⟩:∃z,Hid (w1.alloc (.cells #[.slice A n c,.string ⟨#[]⟩,.int .i64 0,.bool false] 66)=z):=⟨_,rfl⟩
 have hx1:Ext w w1:=by rw[←hw1.out];exact (Ext.refl w).alloc _
 have hs1:w1.heap.size=q+1:=by rw[←hw1.out,←hq.out];simp
 have hb1:Blk w1 q #[.slice A n c] 24:=by rw[←hw1.out,←hq.out];exact Blk.new w _ _
 have hx2:Ext w1 w2:=by rw[←hw2.out];exact (Ext.refl w1).alloc _
 have hb2:Blk w2 (q+1) #[.slice A n c,.string ⟨#[]⟩,.int .i64 0,.bool false] 66:=by rw[←hw2.out,←hs1];exact Blk.new w1 _ _
 have hbq2:=hb1.ext hx2
 have hI:RInv q w2 (q+1) (.slice A n c) ⟨[],0,false⟩:=⟨⟨⟨#[]⟩,rfl,hb2⟩,by omega⟩
 have hxw2:=hx1.trans hx2
 rw[hq.out] at hS
 rw[hn.out] at hS
 have hbe2:Below q w w2:=by rw[←hq.out];exact hxw2
 have hT:=rtyped_all 20 0 rfl 0 ⟨[],0,false⟩ w2 hI (hS.below hbe2) hL
 rw[show ((0:Nat):Int)=0 from rfl] at hT
 obtain⟨st,hst⟩:∃z,Hid (rtyp ns 20 0 ⟨[],0,false⟩=z):=⟨_,Lib.hid rfl⟩
 have hsh:showR ns=if st.bad=true∨st.next≠ns.length then none else if (parseP ⟨st.s.toArray⟩).2.2≠0∨(parseP ⟨st.s.toArray⟩).1.map Nd.toE≠ns then none else some st.s:=by rw[←hst.out];rfl
 rw[hst.out] at hT
 have hL : st.s.length ≤ 100000000 := by have : showRLen ns = st.s.length := by rw [← hst.out]; rfl
                                         omega
 obtain⟨o,ho⟩:∃z,Hid (showR ns=z):=⟨_,Lib.hid rfl⟩
 rw[ho.out] at hsh ⊢
 replace hsh:=Lib.hid hsh
 obtain⟨PO,hPO⟩:∃PO:Ending→World→Prop,Hid ((fun e w'=>e=.returned (shV o)∧Ext w w')=PO):=⟨_,Lib.hid rfl⟩
 rw[hPO.out,hn.out]
 clear hb2 hI
 go_enter Tryz.func16,Tryz.ntmps16
 go_wp2_with fail
 rw[hw1.out,hq.out,hw2.out]
 refine hT.mono ?_
 rintro e w3 ⟨rfl,hk3,h3⟩
 have hx3:Ext w w3:=Ext.chg hxw2 hk3 (fun i hi e=>by have e:i=q+1:=e;have:=hq.out;omega)
 have hbq3:=hk3.blk hbq2 (by omega)
 obtain⟨S,hSs,hb3⟩:=h3.blk
 have c1:w3.cell? ⟨q+1,1,none⟩=some (.string S):=hb3.cell 1
 have c2:w3.cell? ⟨q+1,2,none⟩=some (.int .i64 (st.next:Int)):=hb3.cell 2
 have c3:w3.cell? ⟨q+1,3,none⟩=some (.bool st.bad):=hb3.cell 3
 have e1:∀W,Ext w3 W→W.cell? ⟨q,0,none⟩=some (.slice A n c):=fun W hW=>(hbq3.ext hW).cell 0
 have e0:∀W,Ext w3 W→W.cell? ⟨q+1,1,none⟩=some (.string S):=fun W hW=>hW.cell c1
 obtain⟨nx,hnx⟩:∃z,Hid (st.next=z):=⟨_,rfl⟩
 have e3:∀W,Ext w3 W→W.cell? ⟨q+1,2,none⟩=some (.int .i64 (nx:Int)):=fun W hW=>by rw[←hnx.out];exact hW.cell c2
 clear hT
 by_cases hbad:st.bad=true
 ·have ho0:o=none:=by rw[hsh.out,if_pos (.inl hbad)]
  have e4:∀W,Ext w3 W→W.cell? ⟨q+1,3,none⟩=some (.bool true):=fun W hW=>by rw[←hbad];exact hW.cell c3
  clear c1 c2 c3 hbad hb3 h3 hSs
  go_wp2_with fail
  refine Reg.startE (by kernel_rfl) ?_
  iterate 14 ((first|refine Reg.tn ?_|refine Reg.sn ?_);(try simp only[Reg.nn]))
  refine Reg.fin (by kernel_rfl) (fun W hW=>?_)
  clear e0 e1 e3 e4
  go_wp2_with fail
  rw[←hPO.out,ho0]
  exact⟨rfl,hx3.trans hW⟩
 ·have hbad':st.bad=false:=by simpa using hbad
  have e4:∀W,Ext w3 W→W.cell? ⟨q+1,3,none⟩=some (.bool false):=fun W hW=>by rw[←hbad'];exact hW.cell c3
  clear c1 c2 c3 h3
  by_cases hnn:nx=n
  ·have hnb:((nx:Int) != (n:Int))=false:=by simp[hnn]
   obtain⟨r,hr⟩:∃z,Hid (parseP ⟨st.s.toArray⟩=z):=⟨_,Lib.hid rfl⟩
   have hSS:S=⟨st.s.toArray⟩:=bs_eq hSs
   have hsz:(⟨st.s.toArray⟩:ByteArray).size=st.s.length:=by simp[ByteArray.size]
   have hpar:=fun W=>refParse_any ⟨st.s.toArray⟩ (by rw[hsz];omega) W
   simp only[parse_q] at hpar
   have hres:o=if r.2.2≠0∨r.1.map Nd.toE≠ns then none else some st.s:=by
    rw[hsh.out,if_neg (by rintro (e|e);exact hbad e;exact e (by rw[hnx.out,hnn,hn.out])),hr.out]
   simp only[hr.out] at hpar
   have hrg:∀d∈r.1,-9223372036854775808≤d.size∧d.size≤9223372036854775807:=by rw[←hr.out];exact parse_rng _
   simp only[←hSS] at hpar
   replace hSS:=Lib.hid hSS
   clear hsz hSs
   have Hres:=Lib.hid hres
   clear hres hsh
   go_wp2_with fail
   refine Reg.startE (by kernel_rfl) ?_
   iterate 14 ((first|refine Reg.tn ?_|refine Reg.sn ?_);(try simp only[Reg.nn]))
   refine Reg.fin (by kernel_rfl) (fun W hW=>?_)
   have hp:=hpar W
   have d1:=e0 W hW
   have hbqW:=hbq3.ext hW
   have hxW:=hx3.trans hW
   have hb3W:=hb3.ext hW
   clear e0 e1 e3 e4 hpar
   go_wp2_with fail
   go_fit hp
   rintro e w5 ⟨v5,vs5,rfl,hnd,hx5⟩
   obtain⟨A5,c5,rfl,jj1,jj2,jj3,jj4⟩:=Rd.of_own hnd.row
   clear jj1 jj2 jj3 jj4 hp
   obtain⟨n5,hn5⟩:∃z,Hid (r.1.length=z):=⟨_,Lib.hid rfl⟩
   rw[hn5.out] at hnd ⊢
   obtain⟨w6,hw6⟩:∃z,Hid (w5.alloc (.cells #[.slice A5 n5 c5] 24)=z):=⟨_,rfl⟩
   have hx6:Ext w5 w6:=by rw[←hw6.out];exact (Ext.refl w5).alloc _
   obtain⟨q6,hq6⟩:∃z,Hid (w5.heap.size=z):=⟨_,rfl⟩
   have hb6:Blk w6 q6 #[.slice A5 n5 c5] 24:=by rw[←hw6.out,←hq6.out];exact Blk.new w5 _ _
   have hbq6:w6.cell? ⟨q,0,none⟩=some (.slice A n c):=((hbqW.ext hx5).ext hx6).cell 0
   have hbs6:∀W',Ext w6 W'→W'.cell? ⟨q+1,1,none⟩=some (.string S):=fun W' hW'=>(((hb3W.ext hx5).ext hx6).ext hW').cell 1
   have hc6:w6.cell? ⟨q6,0,none⟩=some (.slice A5 n5 c5):=hb6.cell 0
   rw[←hw6.out] at hbq6
   have hx06:Ext w w6:=(hxW.trans hx5).trans hx6
   have hSo:Sch w5.heap.size w6 (.slice A n c) ns:=(hS.below (by rw[←hq.out];exact hx06)).mono (by have:=(hxW.trans hx5).size;have:=hq.out;omega)
   have hSp:Sch w5.heap.size w6 (.slice A5 n5 c5) (r.1.map Nd.toE):=(Sch.ofNds hnd (Nat.le_refl _) hrg).below hx6
   have hcmp:=rsame_any (w:=w6) hSp hSo hx6.size
   clear d1 hb3W hbqW hb3 hbq3
   by_cases her:r.2.2=0
   ·have hrb:(r.2.2 != 0)=false:=by simpa using her
    by_cases hqq:r.1.map Nd.toE=ns
    ·have ho0:o=some st.s:=by rw[Hres.out,if_neg (by rintro (e|e);exact e her;exact e hqq)]
     rw[show decide (r.1.map Nd.toE=ns)=true by simpa using hqq] at hcmp
     clear hSo hSp hqq
     go_wp2_with fail
     rw[hw6.out]
     refine hcmp.mono ?_
     rintro e w7 ⟨rfl,hx7⟩
     have g7:=hbs6 w7 hx7
     clear hbs6
     go_wp2_with fail
     rw[←hPO.out,ho0,hSS.out]
     exact⟨rfl,hx06.trans hx7⟩
    ·have ho0:o=none:=by rw[Hres.out,if_pos (.inr hqq)]
     rw[show decide (r.1.map Nd.toE=ns)=false by simpa using hqq] at hcmp
     clear hSo hSp hqq hbs6
     go_wp2_with fail
     rw[hw6.out]
     refine hcmp.mono ?_
     rintro e w7 ⟨rfl,hx7⟩
     go_wp2_with fail
     rw[←hPO.out,ho0]
     exact⟨rfl,hx06.trans hx7⟩
   ·have hrb:(r.2.2 != 0)=true:=by simpa using her
    have ho0:o=none:=by rw[Hres.out,if_pos (.inl her)]
    clear hcmp hSo hSp hbs6
    go_wp2_with fail
    rw[hw6.out]
    rw[←hPO.out,ho0]
    exact⟨rfl,hx06⟩
  ·have hnb:((nx:Int) != (n:Int))=true:=by simpa using (by omega:¬(nx:Int)=(n:Int))
   have ho0:o=none:=by rw[hsh.out,if_pos (.inr (by rw[hnx.out,hn.out];exact hnn))]
   clear hb3 hSs
   go_wp2_with fail
   refine Reg.startE (by kernel_rfl) ?_
   iterate 14 ((first|refine Reg.tn ?_|refine Reg.sn ?_);(try simp only[Reg.nn]))
   refine Reg.fin (by kernel_rfl) (fun W hW=>?_)
   clear e0 e1 e3 e4
   go_wp2_with fail
   rw[←hPO.out,ho0]
   exact⟨rfl,hx3.trans hW⟩
end Pr
end Go.Proofs.YtmaoochjbpohdaaGreatDoor
