/- suffragan/suffraganlaw10.ResolveMore: the given statement, out of the contract of its walk. Of what reads up to the bound. -/
import Derived.Test.YtmaoochjbpohdaaGreatDoorRbZA
set_option linter.unusedVariables false
set_option linter.unusedSimpArgs false
set_option maxRecDepth 100000
set_option maxHeartbeats 1000000
namespace Go.Proofs.YtmaoochjbpohdaaGreatDoor
namespace Pr
open Lx
def NU (b:Option Nat) (s:PS):Prop:=∀i d,s.ns[i]?=some d→9≤d.k→some i≠b→s.nm d.name=some i
def TN (T:Bool→List Nat→PS→Res Nat):Prop:=∀u a s n s',T u a s=.ok n s'→NU none s→NU none s'
theorem NU.same {b:Option Nat} {s s':PS} (h:NU b s) (e:s'.ns=s.ns) (e2:s'.nm=s.nm):NU b s':=fun i d hi hk hb=>by
 rw[e] at hi;rw[e2];exact h i d hi hk hb
theorem NU.on {b:Option Nat} {s:PS} (h:NU b s):NU b s.on:=h.same rfl rfl
theorem NU.setN {b:Option Nat} {s:PS} (h:NU b s) (n:Nat) (f:Nd→Nd) (hf:∀d,(f d).k=d.k∧(f d).name=d.name):NU b (s.setN n f):=fun i d hi hk hb=>by
 have hi2:(s.ns.modify n f)[i]?=some d:=hi
 rw[List.getElem?_modify] at hi2
 cases hs:s.ns[i]? with
 | none=>rw[hs] at hi2;cases hi2
 | some d0=>
  rw[hs] at hi2
  have e:d=if n=i then f d0 else d0:=(Option.some.inj hi2).symm
  have e1:d.k=d0.k∧d.name=d0.name:=by
   rw[e]
   split
   ·exact hf d0
   ·exact⟨rfl,rfl⟩
  rw[e1.1] at hk
  have:=h i d0 hs hk hb
  rw[←e1.2] at this
  exact this
section
variable {T:Bool→List Nat→PS→Res Nat}
theorem itemR_u (hT:TN T) {s s':PS} {n:Nat} {x:ByteArray} {u:Unit} (h:itemR T s n x=.ok u s') (hn:NU none s):NU none s':=by
 obtain⟨a,s1,h1,h2⟩:=Res.bind_ok h
 obtain⟨h5,rfl⟩:=mustR_ok h2
 exact ((hT _ _ _ _ _ h1 hn).setN n (fun d=>{ d with items:=[a] }) (fun d=>⟨rfl,rfl⟩)).on
theorem unionR_u (hT:TN T) (n:Nat):∀(m:Nat) (l:List Nat) {s s':PS} {u:Unit},unionR T n m l s=.ok u s'→NU none s→NU none s'
 | 0,l,s,s',u,h,_=>by cases h
 | m+1,l,s,s',u,h,hn=>by
  rw[unionR] at h
  obtain⟨a,s1,h1,h2⟩:=Res.bind_ok h
  have q:=hT _ _ _ _ _ h1 hn
  split at h2
  ·injection h2 with _ h2
   subst h2
   exact q.on.setN n _ (fun d=>⟨rfl,rfl⟩)
  ·obtain⟨v,s2,h5,h6⟩:=Res.bind_ok h2
   obtain⟨h7,rfl⟩:=mustR_ok h5
   exact unionR_u hT n m _ h6 q.on
theorem symsR_u (n:Nat):∀(m:Nat) (l:List ByteArray) {s s':PS} {u:Unit},symsR n m l s=.ok u s'→NU none s→NU none s'
 | 0,l,s,s',u,h,_=>by cases h
 | m+1,l,s,s',u,h,hn=>by
  rw[symsR] at h
  obtain⟨x,s1,h1,h2⟩:=Res.bind_ok h
  obtain⟨_,_,_,_,_,rfl⟩:=nameR_ok h1
  split at h2
  ·injection h2 with _ h2
   subst h2
   exact hn.on.on.setN n _ (fun d=>⟨rfl,rfl⟩)
  ·obtain⟨v,s2,h5,h6⟩:=Res.bind_ok h2
   obtain⟨h7,rfl⟩:=mustR_ok h5
   exact symsR_u n m _ h6 hn.on.on
theorem NU.goes {s:PS} (h:NU none s) (x:ByteArray):NU none (goesR s x).2:=by
 unfold goesR
 split
 ·exact h.on
 ·exact h.same rfl rfl
theorem fieldsR_u (hT:TN T) (n:Nat):∀(m:Nat) (l:List (ByteArray×Bool×Nat)) {s s':PS} {u:Unit},fieldsR T n m l s=.ok u s'→NU none s→NU none s'
 | 0,l,s,s',u,h,_=>by cases h
 | m+1,l,s,s',u,h,hn=>by
  rw[fieldsR] at h
  split at h
  ·injection h with _ h
   subst h
   exact hn.on.setN n _ (fun d=>⟨rfl,rfl⟩)
  ·obtain⟨x,s1,h1,h2⟩:=Res.bind_ok h
   obtain⟨_,_,_,hx,_,rfl⟩:=nameR_ok h1
   obtain⟨v,s2,h3,h4⟩:=Res.bind_ok h2
   obtain⟨h5,rfl⟩:=mustR_ok h3
   obtain⟨t,s3,h6,h7⟩:=Res.bind_ok h4
   obtain⟨v2,s4,h10,h11⟩:=Res.bind_ok h7
   obtain⟨h12,rfl⟩:=mustR_ok h10
   exact fieldsR_u hT n m _ h11 (hT _ _ _ _ _ h6 (hn.on.goes cQ).on).on
theorem definedR_u (hT:TN T) {s s':PS} {n:Nat} {k:Int} {u:Unit} (h:definedR T s n k=.ok u s') (hn:NU (some n) s):NU none s':=by
 unfold definedR at h
 obtain⟨x,s1,h1,h2⟩:=Res.bind_ok h
 obtain⟨_,_,_,hx,_,rfl⟩:=nameR_ok h1
 simp only at h2
 have q3:NU none (s.on.called n x):=fun i d hi hk _=>by
  have hx0:s.nm x=none:=by
   cases hs:s.nm x with
   | none=>rfl
   | some j=>simp[hs] at hx
  have hi2:(s.ns.modify n fun d=>{ d with name:=x })[i]?=some d:=hi
  rw[List.getElem?_modify] at hi2
  show (if d.name=x then some n else s.nm d.name)=some i
  cases hs:s.ns[i]? with
  | none=>rw[hs] at hi2;cases hi2
  | some d0=>
   rw[hs] at hi2
   have h2:=Option.some.inj hi2
   by_cases hni:n=i
   ·have e:d={ d0 with name:=x }:=by rw[←h2];simp[hni]
    rw[e,if_pos rfl,hni]
   ·have e:d=d0:=by rw[←h2];simp[hni]
    subst e
    have:=hn i d hs hk (fun e=>hni (Option.some.inj e).symm)
    rw[if_neg (fun e=>by rw[e,hx0] at this;cases this)]
    exact this
 generalize s.on.called n x=s2 at h2 q3
 split at h2
 ·obtain⟨v,s3,h5,h6⟩:=Res.bind_ok h2
  obtain⟨h7,rfl⟩:=mustR_ok h5
  exact symsR_u n _ _ h6 q3.on
 ·split at h2
  ·split at h2
   ·cases h2
   ·injection h2 with _ h2
    subst h2
    exact q3.on.setN n _ (fun d=>⟨rfl,rfl⟩)
  ·obtain⟨v,s3,h5,h6⟩:=Res.bind_ok h2
   obtain⟨h7,rfl⟩:=mustR_ok h5
   exact fieldsR_u hT n _ _ h6 q3.on
end
theorem typedR_u:∀(fuel:Nat),TN (typedR fuel)
 | fuel,u,a,s,n,s',h,hn=>by
  rw[typedR.eq_def] at h
  simp only at h
  split at h
  ·cases h
  ·next k hk=>
   split at h
   ·cases h
   ·split at h
    ·injection h with _ h
     subst h
     exact hn.on
    ·next hk0=>
     have q1:NU (some s.ns.length) ({ s.on with ns:=s.ns++[Nd.ofKind k] }:PS):=fun i d hi hk hb=>by
      have hi2:(s.ns++[Nd.ofKind k])[i]?=some d:=hi
      rcases Nat.lt_or_ge i s.ns.length with hl|hl
      ·rw[List.getElem?_append_left hl] at hi2
       exact hn i d hi2 hk (by simp)
      ·have hlt:=(List.getElem?_eq_some_iff.1 hi2).1
       rw[List.length_append,List.length_singleton] at hlt
       exact absurd (by rw[show i=s.ns.length by omega]) hb
     have q0:k<9→NU none ({ s.on with ns:=s.ns++[Nd.ofKind k] }:PS):=fun hk9 i d hi hk _=>by
      by_cases e:i=s.ns.length
      ·have hi2:(s.ns++[Nd.ofKind k])[i]?=some d:=hi
       rw[e,List.getElem?_append_right (Nat.le_refl _),Nat.sub_self] at hi2
       have e2:Nd.ofKind k=d:=Option.some.inj hi2
       rw[←e2] at hk
       have hk:9≤k:=hk
       omega
      ·exact q1 i d hi hk (fun h=>e (Option.some.inj h))
     generalize ({ s.on with ns:=s.ns++[Nd.ofKind k] }:PS)=s1 at h q1 q0
     cases fuel with
     | zero=>cases h
     | succ fuel=>
      have ih:=typedR_u fuel
      simp only at h
      split at h
      ·next e6=>
       obtain⟨_,s2,h1,h2⟩:=Res.bind_ok h
       injection h2 with _ h2;subst h2
       exact itemR_u ih h1 (q0 (by omega))
      ·split at h
       ·next e7=>
        obtain⟨_,s2,h1,h2⟩:=Res.bind_ok h
        injection h2 with _ h2;subst h2
        exact itemR_u ih h1 (q0 (by omega))
       ·split at h
        ·next e8=>
         obtain⟨_,s2,h1,h2⟩:=Res.bind_ok h
         injection h2 with _ h2;subst h2
         exact unionR_u ih _ _ _ h1 (q0 (by omega))
        ·split at h
         ·obtain⟨_,s2,h1,h2⟩:=Res.bind_ok h
          injection h2 with _ h2;subst h2
          exact definedR_u ih h1 q1
         ·next e9=>
          injection h with _ h
          subst h
          have hr:=kindR_rng hk
          exact q0 (by omega)
theorem parse_nu (s:ByteArray):∀(i j:Nat) c d,(parseP s).1[i]?=some c→(parseP s).1[j]?=some d→9≤c.k→9≤d.k→c.name=d.name→i=j:=by
 rcases parse_cases s with⟨h1,_⟩|⟨hw,n,s',ht,_,hp⟩
 ·rw[h1];exact fun i j c d hi=>(by simp at hi)
 ·rw[hp]
  intro i j c d hi hj hc hd he
  have q:=typedR_u 20 _ _ _ _ _ ht (fun i d hi=>by simp at hi)
  have h1:=q i c hi hc (by simp)
  have h2:=q j d hj hd (by simp)
  rw[he,h2] at h1
  exact (Option.some.inj h1).symm
theorem show_nu {ns:List Ne} {t:List UInt8} (h:showP ns=some t):∀(i j:Nat) c d,ns[i]?=some c→ns[j]?=some d→9≤c.k→9≤d.k→c.name=d.name→i=j:=by
 unfold showP at h
 simp only at h
 split at h
 ·cases h
 ·next h1=>
  split at h
  ·cases h
  ·next h2=>
   have e:=Decidable.not_not.1 fun hc=>h2 (.inr hc)
   have hw:=parse_nu ⟨(wtyp ns 20 0 ⟨[],0,false⟩).s.toArray⟩
   generalize (parseP ⟨(wtyp ns 20 0 ⟨[],0,false⟩).s.toArray⟩).1=q at hw e
   intro i j c d hi hj hc hd hn
   rw[←e,List.getElem?_map] at hi hj
   cases hci:q[i]? with
   | none=>rw[hci] at hi;cases hi
   | some c0=>
    cases hdj:q[j]? with
    | none=>rw[hdj] at hj;cases hj
    | some d0=>
     rw[hci] at hi;rw[hdj] at hj
     have ec:c0.toE=c:=Option.some.inj hi
     have ed:d0.toE=d:=Option.some.inj hj
     subst ec;subst ed
     exact hw i j c0 d0 hci hdj hc hd hn
end Pr
namespace Rv
open Lx Pr Rx
def zz9:ByteArray:=⟨#[122,122,57]⟩
def moreP (a:List Ne):List Ne:=match a with
 | []=>[]
 | x::r=>
  if x.k=8 then { x with items:=x.items++[((x::r).length:Int)] }::(r++[⟨10,zz9,1,[],[],[]⟩])
  else if x.k=11 then { x with fields:=x.fields++[(zz9,true,((x::r).length:Int))] }::(r++[⟨0,⟨#[]⟩,0,[],[],[]⟩])
  else if x.k=9 then { x with syms:=x.syms++[zz9] }::r
  else x::r
theorem holdP_on {R R':Rel} {M:Nat} {x:Ne} (hx:WE M x) (h:∀r k,0≤r→r<(M:Int)→R r k=true→R' r k=true) (y:Ne) {i:Int} (hi:0≤i∧i<(M:Int)) (k:Int) (hh:holdP R x y i k=true):holdP R' x y i k=true:=by
 unfold holdP at hh ⊢
 split
 ·next e=>rw[if_pos e] at hh;rw[List.all_eq_true] at hh ⊢;exact fun w hw=>h _ _ hi.1 hi.2 (hh w hw)
 ·next e=>
  rw[if_neg e] at hh
  split
  ·next e=>
   rw[if_pos e] at hh;rw[List.any_eq_true] at hh ⊢
   obtain⟨r,hr,k⟩:=hh
   have:=hx.its r hr
   exact⟨r,hr,h _ _ this.1 this.2 k⟩
  ·next e=>
   rw[if_neg e] at hh
   split
   ·next e=>rw[if_pos e] at hh;exact hh
   ·next e=>
    rw[if_neg e] at hh
    split
    ·next e=>
     rw[if_pos e] at hh
     obtain⟨t,ht⟩:=hx.one e
     have:=hx.its t (by rw[ht];simp)
     rw[ht] at hh ⊢
     exact h _ _ this.1 this.2 hh
    ·next e=>
     rw[if_neg e] at hh
     split
     ·next e=>rw[if_pos e] at hh;exact hh
     ·next e=>
      rw[if_neg e] at hh
      split
      ·next e=>rw[if_pos e] at hh;exact hh
      ·next e=>
       rw[if_neg e] at hh
       split
       ·next e=>
        rw[if_pos e] at hh
        rw[Bool.and_eq_true] at hh ⊢
        refine⟨hh.1,?_⟩
        have h2:=hh.2
        rw[List.all_eq_true] at h2 ⊢
        intro f hf
        have h3:=h2 f hf
        have h4:=hx.fls f hf
        unfold fieldP at h3 ⊢
        split
        ·next e=>rw[e] at h3;exact h3
        ·next g e=>rw[e] at h3;exact h _ _ h4.1 h4.2 h3
       ·rfl
theorem more_more {x x':Ne} {R:Rel} {y:Ne} {i k:Int} (hh:holdP R x y i k=true) (e1:x'.k=x.k) (e2:x'.name=x.name) (e3:x'.size=x.size)
  (h8:x.k=8→∃t,x'.items=x.items++t) (hi:¬x.k=8→x'.items=x.items) (h9:∃t,x'.syms=x.syms++t) (h11:x.k=11→¬y.k=8→x.k=y.k→x.name=y.name→x.fields.all (fieldP R y.fields)=true→x'.fields.all (fieldP R y.fields)=true):holdP R x' y i k=true:=by
 unfold holdP at hh ⊢
 rw[e1,e2,e3]
 split
 ·next e=>rw[if_pos e] at hh;exact hh
 ·next y8=>
  rw[if_neg y8] at hh
  split
  ·next x8=>
   rw[if_pos x8] at hh
   obtain⟨t,ht⟩:=h8 x8
   rw[ht,List.any_append,hh];rfl
  ·next x8=>
   rw[if_neg x8] at hh
   rw[hi x8]
   split
   ·next e=>rw[if_pos e] at hh;exact hh
   ·next xy=>
    rw[if_neg xy] at hh
    have xyk:=Decidable.not_not.1 xy
    split
    ·next e=>rw[if_pos e] at hh;exact hh
    ·next e=>
     rw[if_neg e] at hh
     split
     ·next e=>
      rw[if_pos e,Bool.and_eq_true,List.all_eq_true] at hh
      obtain⟨t,ht⟩:=h9
      rw[Bool.and_eq_true,List.all_eq_true,ht]
      refine⟨hh.1,fun s hs=>?_⟩
      rw[List.any_append,hh.2 s hs];rfl
     ·next e=>
      rw[if_neg e] at hh
      split
      ·next e=>rw[if_pos e] at hh;exact hh
      ·next e=>
       rw[if_neg e] at hh
       split
       ·next e=>
        rw[if_pos e,Bool.and_eq_true] at hh
        rw[Bool.and_eq_true]
        exact⟨hh.1,h11 e y8 xyk (of_decide_eq_true hh.1) hh.2⟩
       ·rfl
open Classical in
theorem more_can {a b:List Ne} (h:canB a b=true) (hm:(showP (moreP a)).isSome=true) (hz:∀x y,a[0]?=some x→b[0]?=some y→x.k=11→¬y.k=8∧∀f∈y.fields,f.1≠zz9):canB (moreP a) b=true:=by
 unfold canB at h ⊢
 obtain⟨h1,h2,h3⟩:=of_decide_eq_true h
 obtain⟨ta,hta⟩:=Option.isSome_iff_exists.1 h1
 obtain⟨tb,htb⟩:=Option.isSome_iff_exists.1 h2
 have wa:=show_we hta
 have wb:=show_we htb
 have nu:=show_nu htb
 have hG0:GB a b ((0:Nat):Int) ((0:Nat):Int)=true:=gb_yes h3
 have hGs:=GB_stays a b
 generalize GB a b=G at hG0 hGs
 obtain⟨R',hR'⟩:∃R':Rel,R'=fun i k=>decide (0≤i) && (decide (i<(a.length:Int)) && G i k):=⟨_,rfl⟩
 have hon:∀r k,0≤r→r<(a.length:Int)→G r k=true→R' r k=true:=fun r k h4 h5 h6=>by rw[hR'];simp[h4,h5,h6]
 have hlt:∀(i:Nat) (k:Int),R' (i:Int) k=true→i<a.length∧G (i:Int) k=true:=fun i k hh=>by
  rw[hR'] at hh
  simp only[Bool.and_eq_true,decide_eq_true_eq] at hh
  exact⟨by omega,hh.2.2⟩
 have base:∀(i k:Nat) x y,a[i]?=some x→b[k]?=some y→R' i k=true→holdP R' x y i k=true:=fun i k x y hx hy hh=>by
  obtain⟨h4,h5⟩:=hlt i k hh
  exact holdP_on (wa.2.2 x (List.mem_of_getElem? hx)) hon y ⟨by omega,by omega⟩ k (hGs i k x y hx hy h5)
 refine decide_eq_true ⟨hm,h2,R',?_,hon 0 0 (by omega) (by have:=wa.1;omega) hG0⟩
 obtain⟨x0,r,rfl⟩:∃x r,a=x::r:=by
  cases a with
  | nil=>have:=wa.1;simp at this
  | cons x r=>exact⟨x,r,rfl⟩
 have rest:∀(x':Ne) (t:List Ne),moreP (x0::r)=x'::(r++t)→(∀(k:Nat) y,b[k]?=some y→R' 0 k=true→holdP R' x' y 0 k=true)→Stays (moreP (x0::r)) b R':=fun x' t e hx' i k x y hx hy hh=>by
  rw[e] at hx
  obtain⟨h4,h5⟩:=hlt i k hh
  cases i with
  | zero=>
   have e1:x'=x:=by simpa using hx
   subst e1
   exact hx' k y hy hh
  | succ i=>
   refine base (i+1) k x y ?_ hy hh
   rw[List.length_cons] at h4
   rw[List.getElem?_cons_succ,List.getElem?_append_left (by omega)] at hx
   rw[List.getElem?_cons_succ];exact hx
 have b0:=fun (k:Nat) y hy hh=>base 0 k x0 y rfl hy hh
 by_cases x8:x0.k=8
 ·refine rest { x0 with items:=x0.items++[((x0::r).length:Int)] } [⟨10,zz9,1,[],[],[]⟩] (by unfold moreP;simp only;rw[if_pos x8]) (fun k y hy hh=>?_)
  exact more_more (b0 k y hy hh) rfl rfl rfl (fun _=>⟨_,rfl⟩) (fun e=>absurd x8 e) ⟨[],by simp⟩ (fun e=>by omega)
 ·by_cases x11:x0.k=11
  ·refine rest { x0 with fields:=x0.fields++[(zz9,true,((x0::r).length:Int))] } [⟨0,⟨#[]⟩,0,[],[],[]⟩] (by unfold moreP;simp only;rw[if_neg x8,if_pos x11]) (fun k y hy hh=>?_)
   refine more_more (b0 k y hy hh) rfl rfl rfl (fun e=>absurd e x8) (fun _=>rfl) ⟨[],by simp⟩ (fun _ y8 hk hn hall=>?_)
   obtain⟨y0,hy0⟩:∃y,b[0]?=some y:=⟨_,List.getElem?_eq_getElem wb.1⟩
   obtain⟨z1,z2⟩:=hz x0 y0 rfl hy0 x11
   have h00:=hGs 0 0 x0 y0 rfl hy0 hG0
   unfold holdP at h00
   rw[if_neg z1,if_neg x8] at h00
   have hk0:x0.k=y0.k:=by
    by_cases e:x0.k=y0.k
    ·exact e
    ·rw[if_pos e] at h00
     unfold promP at h00
     simp[x11] at h00
   rw[if_neg (by simpa using hk0),if_neg (by omega),if_neg (by omega),if_neg (by omega),if_pos x11,Bool.and_eq_true] at h00
   have hn0:=of_decide_eq_true h00.1
   have:k=0:=nu k 0 y y0 hy hy0 (by omega) (by omega) (by rw[←hn,hn0])
   subst this
   rw[hy0] at hy
   injection hy with hy
   subst hy
   rw[List.all_append,hall,Bool.true_and,List.all_cons,List.all_nil,Bool.and_true]
   unfold fieldP
   have hf:(y0.fields.find? fun g=>decide (g.1=zz9))=none:=List.find?_eq_none.2 fun g hg=>by simpa using z2 g hg
   simp only[hf]
  ·by_cases x9:x0.k=9
   ·refine rest { x0 with syms:=x0.syms++[zz9] } [] (by unfold moreP;simp only;rw[if_neg x8,if_neg x11,if_pos x9,List.append_nil]) (fun k y hy hh=>?_)
    exact more_more (b0 k y hy hh) rfl rfl rfl (fun e=>absurd e x8) (fun _=>rfl) ⟨[zz9],rfl⟩ (fun e=>absurd e x11)
   ·refine rest x0 [] (by unfold moreP;simp only;rw[if_neg x8,if_neg x11,if_neg x9,List.append_nil]) (fun k y hy hh=>b0 k y hy hh)
end Rv
namespace Pr
open Lx
theorem show_boundM {ns:List Ne} (hb:Args.schB ns≤1100000) (hz:∀d∈ns,-9223372036854775808≤d.size∧d.size≤9223372036854775807):showLen ns≤100000000:=by
 have hM:∀d∈ns,4096+d.name.size≤2000000:=fun d hd=>by
  have:=sum_mem (ns.map Args.nodeB) (Args.nodeB d) (List.mem_map_of_mem hd)
  unfold Args.schB at hb
  have:d.name.size≤Args.nodeB d:=by unfold Args.nodeB;omega
  omega
 have h:=wtyp_gr hM hz 20 0 ⟨[],0,false⟩ (Nat.zero_le _)
 have h1:=h.len
 have h2:=wsum_mono ns h.top
 have h3:wsum ns ns.length≤40*Args.schB ns:=by
  unfold wsum Args.schB
  rw[List.take_length]
  exact sum_nodeW ns
 show (wtyp ns 20 0 ⟨[],0,false⟩).s.length≤_
 have h4:([]:List UInt8).length=0:=rfl
 simp only[List.length_nil] at h1
 omega
theorem showR_boundM {ns:List Ne} (hb:Args.schB ns≤1100000) (hz:∀d∈ns,-9223372036854775808≤d.size∧d.size≤9223372036854775807):showRLen ns≤100000000:=by
 have hM:∀d∈ns,4096+d.name.size≤2000000:=fun d hd=>by
  have:=sum_mem (ns.map Args.nodeB) (Args.nodeB d) (List.mem_map_of_mem hd)
  unfold Args.schB at hb
  have:d.name.size≤Args.nodeB d:=by unfold Args.nodeB;omega
  omega
 have h:=rtyp_gr hM hz 20 0 ⟨[],0,false⟩ (Nat.zero_le _)
 have h1:=h.len
 have h2:=wsum_mono ns h.top
 have h3:wsum ns ns.length≤40*Args.schB ns:=by
  unfold wsum Args.schB
  rw[List.take_length]
  exact sum_nodeW ns
 show (rtyp ns 20 0 ⟨[],0,false⟩).s.length≤_
 have h4:([]:List UInt8).length=0:=rfl
 simp only[List.length_nil] at h1
 omega
end Pr
namespace Rv
open Go.ChangeShapes Go.WideShapes Go.ChangeAt Go.RowKit
open Base Lx Mi Pr Rx
theorem schB_more (a:List Ne):Args.schB (moreP a)≤Args.schB a+100:=by
 cases a with
 | nil=>exact Nat.zero_le _
 | cons x r=>
  unfold moreP
  simp only
  split
  ·simp only[Args.schB,List.map_cons,List.map_append,List.sum_cons,List.sum_append,List.map_nil,List.sum_nil,Args.nodeB,List.length_append,List.length_cons,List.length_nil]
   have:zz9.size=3:=rfl
   omega
  ·split
   ·simp only[Args.schB,List.map_cons,List.map_append,List.sum_cons,List.sum_append,List.map_nil,List.sum_nil,Args.nodeB,List.length_append,List.length_cons,List.length_nil,Args.fldB]
    have:zz9.size=3:=rfl
    have:(⟨#[]⟩:ByteArray).size=0:=rfl
    omega
   ·split
    ·simp only[Args.schB,List.map_cons,List.map_append,List.sum_cons,List.sum_append,List.map_nil,List.sum_nil,Args.nodeB,List.length_append,List.length_cons,List.length_nil]
     have:zz9.size=3:=rfl
     omega
    ·omega
theorem rng_more (a:List Ne) (h:∀d∈a,-9223372036854775808≤d.size∧d.size≤9223372036854775807):∀d∈moreP a,-9223372036854775808≤d.size∧d.size≤9223372036854775807:=by
 cases a with
 | nil=>exact h
 | cons x r=>
  have hx:=h x (by simp)
  have hr:∀d∈r,_:=fun d hd=>h d (List.mem_cons_of_mem _ hd)
  unfold moreP
  simp only
  split
  ·intro d hd
   rcases List.mem_cons.1 hd with rfl|hd
   ·exact hx
   ·rcases List.mem_append.1 hd with hd|hd
    ·exact hr d hd
    ·rw[List.mem_singleton] at hd;subst hd;exact⟨by decide,by decide⟩
  ·split
   ·intro d hd
    rcases List.mem_cons.1 hd with rfl|hd
    ·exact hx
    ·rcases List.mem_append.1 hd with hd|hd
     ·exact hr d hd
     ·rw[List.mem_singleton] at hd;subst hd;exact⟨by decide,by decide⟩
   ·split
    ·intro d hd
     rcases List.mem_cons.1 hd with rfl|hd
     ·exact hx
     ·exact hr d hd
    ·exact h
section
variable {B n cap g:Nat} {w w':World} {x x':Ne} {r:List Ne} {v:V3} {vr:List V3} {u:Value}
theorem vr_cons {vs:List V3} (h:NeO B w (x::r) vs (.slice (some ⟨g,0,none⟩) n cap)):∃v vr,vs=v::vr:=by
 cases vs with
 | nil=>have:=h.len;simp at this
 | cons v vr=>exact⟨v,vr,rfl⟩
theorem head_row (h:NeO B w (x::r) (v::vr) (.slice (some ⟨g,0,none⟩) n cap)) {row:Option Nat} (hg:w.grownBy w' row) (hr:(Value.slice (some ⟨g,0,none⟩) n cap).ownBlock=none∨(Value.slice (some ⟨g,0,none⟩) n cap).ownBlock≠row) (j:Nat) (v':V3) (he:(neC x v).set j u=neC x' v') (hj:j<6) :
  (w'.setCell ⟨g,j,none⟩ u).ownsRow B 36 6 (.slice (some ⟨g,0,none⟩) n cap) (x'::r).length (nesC (x'::r) (v'::vr)):=by
 have h1:=h.row.kept hg hr
 have hn:n=(x::r).length:=by
  rcases h1.2 with⟨e,_⟩|⟨g',cap',cur,e,_⟩
  ·cases e
  ·injection e
 have h2:=h1
 rw[←hn] at h2
 have h3:=World.ownsRow.stored h2 j u
 have e:(nesC (x::r) (v::vr)).set j u=nesC (x'::r) (v'::vr):=by
  show (neC x v++nesC r vr).set j u=neC x' v'++nesC r vr
  rw[List.set_append_left _ _ (by show j<6;exact hj),he]
 rw[e] at h3
 have e5:(x'::r).length=n:=hn.symm
 rw[e5]
 exact h3.1
theorem head_syms (h:NeO B w (x::r) (v::vr) (.slice (some ⟨g,0,none⟩) n cap)) (hd:Dis (v::vr)) {t:ByteArray} (ho:w'.ownsRow B 9 1 u (x.syms.length+1) (txs x.syms++[.string t])) (hg:w.grownBy w' v.1.ownBlock) :
  NeO B (w'.setCell ⟨g,3,none⟩ u) ({ x with syms:=x.syms++[t] }::r) ((u,v.2.1,v.2.2)::vr) (.slice (some ⟨g,0,none⟩) n cap):=by
 have hs0:=h.sub 0 x v rfl rfl
 have hrw:=h.row.kept hg (own_ne_own hs0.syms h.row (by decide))
 have hC:Chg (fun m=>(Value.slice (some ⟨g,0,none⟩) n cap).ownBlock=some m) w' (w'.setCell ⟨g,3,none⟩ u):=(Chg.one w' g 3 u).mono (fun m _ e=>by rw[e];rfl)
 have fin:∀d c,SubO B w' d c→SubO B (w'.setCell ⟨g,3,none⟩ u) d c:=fun d c hs=>SubO.chg hs hC (fun m hm=>own_not hrw hs.syms (by decide) m hm) (fun m hm=>own_not hrw hs.items (by decide) m hm) (fun m hm=>own_not hrw hs.fields (by decide) m hm)
 have hox:w'.ownsRow B 9 1 u (x.syms++[t]).length (txs (x.syms++[t])):=by
  have e1:txs (x.syms++[t])=txs x.syms++[.string t]:=by simp[txs]
  rw[e1,List.length_append];exact ho
 refine⟨h.len,head_row h hg (own_ne_own hs0.syms h.row (by decide)) 3 (u,v.2.1,v.2.2) rfl (by omega),fun i d c hi hc=>?_⟩
 cases i with
 | zero=>
  have e1:{ x with syms:=x.syms++[t] }=d:=Option.some.inj hi
  have e2:(u,v.2.1,v.2.2)=c:=Option.some.inj hc
  rw[←e1,←e2]
  exact fin _ _ ⟨hox,hs0.items.kept hg (own_ne_own hs0.syms hs0.items (by decide)),hs0.fields.kept hg (own_ne_own hs0.syms hs0.fields (by decide)),hs0.rng⟩
 | succ i=>
  have hi2:(x::r)[i+1]?=some d:=hi
  have hc2:(v::vr)[i+1]?=some c:=hc
  have hs:=h.sub (i+1) d c hi2 hc2
  have hap:=(hd 0 (i+1) v c (by omega) rfl hc2).1
  have hdi:c.1.ownBlock=none∨c.1.ownBlock≠v.1.ownBlock:=by
   rcases hap with e|e
   ·cases hcb:c.1.ownBlock with
    | none=>exact .inl rfl
    | some m=>exact .inr (by rw[e];simp)
   ·exact .inr fun e'=>e e'.symm
  exact fin _ _ ⟨hs.syms.kept hg hdi,hs.items.kept hg (own_ne_own hs0.syms hs.items (by decide)),hs.fields.kept hg (own_ne_own hs0.syms hs.fields (by decide)),hs.rng⟩
theorem head_items (h:NeO B w (x::r) (v::vr) (.slice (some ⟨g,0,none⟩) n cap)) (hd:Dis (v::vr)) {t:Int} (ho:w'.ownsRow B 3 1 u (x.items.length+1) (intsZ x.items++[.int .i64 t])) (hg:w.grownBy w' v.2.1.ownBlock) :
  NeO B (w'.setCell ⟨g,4,none⟩ u) ({ x with items:=x.items++[t] }::r) ((v.1,u,v.2.2)::vr) (.slice (some ⟨g,0,none⟩) n cap):=by
 have hs0:=h.sub 0 x v rfl rfl
 have hrw:=h.row.kept hg (own_ne_own hs0.items h.row (by decide))
 have hC:Chg (fun m=>(Value.slice (some ⟨g,0,none⟩) n cap).ownBlock=some m) w' (w'.setCell ⟨g,4,none⟩ u):=(Chg.one w' g 4 u).mono (fun m _ e=>by rw[e];rfl)
 have fin:∀d c,SubO B w' d c→SubO B (w'.setCell ⟨g,4,none⟩ u) d c:=fun d c hs=>SubO.chg hs hC (fun m hm=>own_not hrw hs.syms (by decide) m hm) (fun m hm=>own_not hrw hs.items (by decide) m hm) (fun m hm=>own_not hrw hs.fields (by decide) m hm)
 have hox:w'.ownsRow B 3 1 u (x.items++[t]).length (intsZ (x.items++[t])):=by
  have e1:intsZ (x.items++[t])=intsZ x.items++[.int .i64 t]:=by simp[intsZ]
  rw[e1,List.length_append];exact ho
 refine⟨h.len,head_row h hg (own_ne_own hs0.items h.row (by decide)) 4 (v.1,u,v.2.2) rfl (by omega),fun i d c hi hc=>?_⟩
 cases i with
 | zero=>
  have e1:{ x with items:=x.items++[t] }=d:=Option.some.inj hi
  have e2:(v.1,u,v.2.2)=c:=Option.some.inj hc
  rw[←e1,←e2]
  exact fin _ _ ⟨hs0.syms.kept hg (own_ne_own hs0.items hs0.syms (by decide)),hox,hs0.fields.kept hg (own_ne_own hs0.items hs0.fields (by decide)),hs0.rng⟩
 | succ i=>
  have hi2:(x::r)[i+1]?=some d:=hi
  have hc2:(v::vr)[i+1]?=some c:=hc
  have hs:=h.sub (i+1) d c hi2 hc2
  have hap:=(hd 0 (i+1) v c (by omega) rfl hc2).2.1
  have hdi:c.2.1.ownBlock=none∨c.2.1.ownBlock≠v.2.1.ownBlock:=by
   rcases hap with e|e
   ·cases hcb:c.2.1.ownBlock with
    | none=>exact .inl rfl
    | some m=>exact .inr (by rw[e];simp)
   ·exact .inr fun e'=>e e'.symm
  exact fin _ _ ⟨hs.syms.kept hg (own_ne_own hs0.items hs.syms (by decide)),hs.items.kept hg hdi,hs.fields.kept hg (own_ne_own hs0.items hs.fields (by decide)),hs.rng⟩
theorem head_fields (h:NeO B w (x::r) (v::vr) (.slice (some ⟨g,0,none⟩) n cap)) (hd:Dis (v::vr)) {t:Rv.Fd} (ho:w'.ownsRow B 38 3 u (x.fields.length+1) (fldsZ x.fields++[.string t.1,.bool t.2.1,.int .i64 t.2.2])) (hg:w.grownBy w' v.2.2.ownBlock) :
  NeO B (w'.setCell ⟨g,5,none⟩ u) ({ x with fields:=x.fields++[t] }::r) ((v.1,v.2.1,u)::vr) (.slice (some ⟨g,0,none⟩) n cap):=by
 have hs0:=h.sub 0 x v rfl rfl
 have hrw:=h.row.kept hg (own_ne_own hs0.fields h.row (by decide))
 have hC:Chg (fun m=>(Value.slice (some ⟨g,0,none⟩) n cap).ownBlock=some m) w' (w'.setCell ⟨g,5,none⟩ u):=(Chg.one w' g 5 u).mono (fun m _ e=>by rw[e];rfl)
 have fin:∀d c,SubO B w' d c→SubO B (w'.setCell ⟨g,5,none⟩ u) d c:=fun d c hs=>SubO.chg hs hC (fun m hm=>own_not hrw hs.syms (by decide) m hm) (fun m hm=>own_not hrw hs.items (by decide) m hm) (fun m hm=>own_not hrw hs.fields (by decide) m hm)
 have hox:w'.ownsRow B 38 3 u (x.fields++[t]).length (fldsZ (x.fields++[t])):=by
  have e1:fldsZ (x.fields++[t])=fldsZ x.fields++[.string t.1,.bool t.2.1,.int .i64 t.2.2]:=by simp[fldsZ,fldZ]
  rw[e1,List.length_append];exact ho
 refine⟨h.len,head_row h hg (own_ne_own hs0.fields h.row (by decide)) 5 (v.1,v.2.1,u) rfl (by omega),fun i d c hi hc=>?_⟩
 cases i with
 | zero=>
  have e1:{ x with fields:=x.fields++[t] }=d:=Option.some.inj hi
  have e2:(v.1,v.2.1,u)=c:=Option.some.inj hc
  rw[←e1,←e2]
  exact fin _ _ ⟨hs0.syms.kept hg (own_ne_own hs0.fields hs0.syms (by decide)),hs0.items.kept hg (own_ne_own hs0.fields hs0.items (by decide)),hox,hs0.rng⟩
 | succ i=>
  have hi2:(x::r)[i+1]?=some d:=hi
  have hc2:(v::vr)[i+1]?=some c:=hc
  have hs:=h.sub (i+1) d c hi2 hc2
  have hap:=(hd 0 (i+1) v c (by omega) rfl hc2).2.2
  have hdi:c.2.2.ownBlock=none∨c.2.2.ownBlock≠v.2.2.ownBlock:=by
   rcases hap with e|e
   ·cases hcb:c.2.2.ownBlock with
    | none=>exact .inl rfl
    | some m=>exact .inr (by rw[e];simp)
   ·exact .inr fun e'=>e e'.symm
  exact fin _ _ ⟨hs.syms.kept hg (own_ne_own hs0.fields hs.syms (by decide)),hs.items.kept hg (own_ne_own hs0.fields hs.items (by decide)),hs.fields.kept hg hdi,hs.rng⟩
def nil3:V3:=(.slice none 0 0,.slice none 0 0,.slice none 0 0)
theorem neo_more {ns:List Ne} {vs:List V3} {vn vn':Value} {d:Ne} (h:NeO B w ns vs vn) (h1:d.syms=[]) (h2:d.items=[]) (h3:d.fields=[]) (h4 : -9223372036854775808≤d.size∧d.size≤9223372036854775807)
  (ho:w'.ownsRow B 36 6 vn' (ns.length+1) (nesC ns vs++neC d nil3)) (hg:w.grownBy w' vn.ownBlock):NeO B w' (ns++[d]) (vs++[nil3]) vn':=by
 refine⟨by rw[List.length_append,List.length_append,h.len];rfl,by rw[nesC_snoc _ _ _ _ h.len,List.length_append];exact ho,fun i c v hi hv=>?_⟩
 rcases Nat.lt_or_ge i ns.length with hl|hl
 ·rw[List.getElem?_append_left hl] at hi
  rw[List.getElem?_append_left (by rw[h.len];exact hl)] at hv
  have hs:=h.sub i c v hi hv
  exact⟨hs.syms.kept hg (own_ne_own h.row hs.syms (by decide)),hs.items.kept hg (own_ne_own h.row hs.items (by decide)),hs.fields.kept hg (own_ne_own h.row hs.fields (by decide)),hs.rng⟩
 ·have hlt:=(List.getElem?_eq_some_iff.1 hi).1
  rw[List.length_append,List.length_singleton] at hlt
  rw[List.getElem?_append_right hl,show i-ns.length=0 by omega] at hi
  rw[List.getElem?_append_right (by rw[h.len];exact hl),show i-vs.length=0 by rw[h.len];omega] at hv
  have e1:d=c:=Option.some.inj hi
  have e2:nil3=v:=Option.some.inj hv
  rw[←e1,←e2]
  exact⟨by rw[h1];exact World.ownsRow_nil _ _ _ _,by rw[h2];exact World.ownsRow_nil _ _ _ _,by rw[h3];exact World.ownsRow_nil _ _ _ _,h4⟩
theorem neo_box {ns:List Ne} {vs:List V3} {vn:Value} {qm:Nat} {cs:Array Value} (h:NeO B w ns vs vn) (hb:Blk w qm cs 24) (i:Nat) (u:Value):NeO B (w.setCell ⟨qm,i,none⟩ u) ns vs vn:=
 ⟨h.len,own_setCell h.row hb (by decide) u,fun j d v hj hv=>by
  have hs:=h.sub j d v hj hv
  exact⟨own_setCell hs.syms hb (by decide) u,own_setCell hs.items hb (by decide) u,own_setCell hs.fields hb (by decide) u,hs.rng⟩⟩
end
end Rv
namespace Rv
open Go.ChangeShapes Go.WideShapes Go.ChangeAt Go.RowKit
open Base Lx Mi Pr Mp Rx
theorem zz9_list:zz9.toList=[122,122,57]:=by
 first
 | rfl
 | decide
 | kernel_rfl
 | (unfold zz9;simp[ByteArray.toList,ByteArray.toList.loop])
open Classical in
theorem can_shows {a b:List Ne} (h:canB a b=true):∃ta tb,showP a=some ta∧showP b=some tb:=by
 unfold canB at h
 obtain⟨h1,h2,_⟩:=of_decide_eq_true h
 obtain⟨ta,hta⟩:=Option.isSome_iff_exists.1 h1
 obtain⟨tb,htb⟩:=Option.isSome_iff_exists.1 h2
 exact⟨ta,tb,hta,htb⟩
set_option maxHeartbeats 16000000 in
theorem moreLaw_any (u1 u2:Value) (n1 n2:List Ne) (w:World) (h1:Sch w.heap.size w u1 n1) (h2:Sch w.heap.size w u2 n2) (hb1:Args.schB n1≤1048576) (hb2:Args.schB n2≤1048576) (hwd:Wd w) (hpow:Pow w) :
  Calls Tryz.prog 4 #[.agg #[u1],.agg #[u2]] w fun e w'=>e=.returned (.bool true)∧Ext w w':=by
 have F:=fine1 h1 hb1
 have G:=fine1 h2 hb2
 have hnodeA:=fun d (hd:n1[0]?=some d)=>h1.node2 0 d hd
 have hnodeB:=fun d (hd:n2[0]?=some d)=>h2.node2 0 d hd
 obtain⟨A1,na,c1,eva,hna⟩:∃A n c,u1=.slice A n c∧Hid (n1.length=n):=by
  obtain⟨vs,_,⟨A,c,e,_⟩,_⟩:=h1
  exact⟨A,_,c,e,Lib.hid rfl⟩
 obtain⟨A2,nb,c2,evb,hnb⟩:∃A n c,u2=.slice A n c∧Hid (n2.length=n):=by
  obtain⟨vs,_,⟨A,c,e,_⟩,_⟩:=h2
  exact⟨A,_,c,e,Lib.hid rfl⟩
 subst eva;subst evb
 obtain⟨q,hq⟩:∃z,Hid (w.heap.size=z):=⟨_,rfl⟩
 obtain⟨w1,hw1⟩:∃z,Hid ((w.alloc (.cells #[.slice A1 na c1] 24)).alloc (.cells #[.slice A2 nb c2] 24)=z):=⟨_,rfl⟩
 have hx1:Ext w w1:=by rw[←hw1.out];exact ((Ext.refl w).alloc _).alloc _
 have hbA:Blk w1 q #[.slice A1 na c1] 24:=by rw[←hw1.out,←hq.out];exact (Blk.new w _ _).ext ((Ext.refl _).alloc _)
 have hbB:Blk w1 (q+1) #[.slice A2 nb c2] 24:=by
  have hn:=Blk.new (w.alloc (.cells #[.slice A1 na c1] 24)) #[.slice A2 nb c2] 24
  rw[World.size_alloc,hq.out,hw1.out] at hn
  exact hn
 have S1:∀W,Ext w1 W→Sch W.heap.size W (.slice A1 na c1) n1:=fun W hW=>(h1.below (hx1.trans hW)).mono (hx1.trans hW).size
 have S2:∀W,Ext w1 W→Sch W.heap.size W (.slice A2 nb c2) n2:=fun W hW=>(h2.below (hx1.trans hW)).mono (hx1.trans hW).size
 have cA:∀W,Ext w1 W→W.cell? ⟨q,0,none⟩=some (.slice A1 na c1):=fun W hW=>by have:=(hbA.ext hW).cell 0;simpa using this
 have cB:∀W,Ext w1 W→W.cell? ⟨q+1,0,none⟩=some (.slice A2 nb c2):=fun W hW=>by have:=(hbB.ext hW).cell 0;simpa using this
 have hli:=fun W (hW:Ext w1 W)=>lives10_any W (hwd.ext (hx1.trans hW)) (hpow.ext (hx1.trans hW))
 have hownA:=fun W hW=>own_any2 (S1 W hW) (Nat.le_refl _) F.l1
 have hr12:=fun W hW=>rCan_any n1 n2 _ _ W (S1 W hW) (S2 W hW) F.shR G.shR
 have hsm:Args.schB (moreP n1)≤1100000:=by have:=schB_more n1;omega
 have hrm:=rng_more n1 (sch_rng' h1)
 have hLs:=show_boundM hsm hrm
 have hLR:=showR_boundM hsm hrm
 have hcan:=fun W v (hW:Ext w1 W) hS=>Can_any (moreP n1) n2 v (.slice A2 nb c2) W hS (S2 W hW) (hwd.ext (hx1.trans hW)) (hpow.ext (hx1.trans hW)) hLs G.sh
 have hfew:=few10_any n1 n2 _ _ w1 (S1 w1 (Ext.refl _)) (S2 w1 (Ext.refl _)) F.bnd G.bnd
 have hl6:fewP n1 n2=true→(∀d∈n1,Len6 d)∧∀d∈n2,Len6 d:=few_len6
 have hnb2:na≤1000000∧nb≤1000000:=⟨by rw[←hna.out];exact F.l1,by rw[←hnb.out];exact G.l1⟩
 have hmc:canB n1 n2=true→(showP (moreP n1)).isSome=true→(∀x y,n1[0]?=some x→n2[0]?=some y→x.k=11→¬y.k=8∧∀f∈y.fields,f.1≠zz9)→canB (moreP n1) n2=true:=more_can
 have hsho:canB n1 n2=true→∃ta tb,showP n1=some ta∧showP n2=some tb:=can_shows
 obtain⟨x,hx⟩:∃z,Hid (canB n1 n2=z):=⟨_,rfl⟩
 simp only[hx.out] at hr12 hmc hsho
 obtain⟨m1,hm1⟩:∃z,Hid (fewP n1 n2=z):=⟨_,Lib.hid rfl⟩
 simp only[hm1.out] at hfew hl6
 have g1:=cA w1 (Ext.refl _)
 have g2:=cB w1 (Ext.refl _)
 clear F G hb1 hb2 hbA hbB h1 h2 hsm hrm hLs S1 S2
 replace hl6:=Lib.hid hl6
 replace hownA:=Lib.hid hownA
 replace hr12:=Lib.hid hr12
 replace hcan:=Lib.hid hcan
 replace hli:=Lib.hid hli
 replace cA:=Lib.hid cA
 replace cB:=Lib.hid cB
 replace hmc:=Lib.hid hmc
 replace hsho:=Lib.hid hsho
 replace hLR:=Lib.hid hLR
 replace hnodeA:=Lib.hid hnodeA
 replace hnodeB:=Lib.hid hnodeB
 obtain⟨PO,hPO⟩:∃PO:Ending→World→Prop,Hid ((fun e w'=>e=.returned (.bool true)∧Ext w w')=PO):=⟨_,Lib.hid rfl⟩
 have fin:∀W,Ext w W→PO (.returned (.bool true)) W:=fun W hW=>by rw[←hPO.out];exact⟨rfl,hW⟩
 rw[hPO.out]
 replace fin:=Lib.hid fin
 go_enter Tryz.func4,Tryz.ntmps4
 go_wp2_with fail
 rw[hw1.out]
 try rw[hq.out]
 refine hfew.mono ?_
 rintro e w2 ⟨rfl,hx2⟩
 clear hfew g1 g2
 cases m1 with
 | false=>
  have hc:=hli.out w2 hx2
  go_wp2_with fail
  refine hc.mono ?_
  rintro e wL ⟨rfl,hxL⟩
  have hf:=fin.out wL (hx1.trans ((hx2).trans hxL))
  clear hc
  go_wp2_with fail
  exact hf
 | true=>
  obtain⟨l1,l2⟩:=hl6.out rfl
  have g1:=cA.out w2 hx2
  have g2:=cB.out w2 hx2
  have hc:=hr12.out w2 hx2
  go_wp2_with fail
  refine hc.mono ?_
  rintro e w3 ⟨rfl,hx3⟩
  have hx23:=hx2.trans hx3
  clear hc g1 g2 hx2 hx3 hr12
  cases x with
  | false=>
   have hc:=hli.out w3 hx23
   go_wp2_with fail
   refine hc.mono ?_
   rintro e wL ⟨rfl,hxL⟩
   have hf:=fin.out wL (hx1.trans ((hx23).trans hxL))
   clear hc
   go_wp2_with fail
   exact hf
  | true=>
   obtain⟨ta,tb,hta,htb⟩:=hsho.out rfl
   have hmc2:=hmc.out rfl
   clear hsho hmc
   have we1:=show_we hta
   have we2:=show_we htb
   obtain⟨x0,r1,rfl⟩:∃x0 r1,n1=x0::r1:=by
    cases n1 with
    | nil=>exact absurd we1.1 (by simp)
    | cons a b=>exact⟨a,b,rfl⟩
   obtain⟨y0,hy0⟩:∃d,n2[0]?=some d:=⟨_,List.getElem?_eq_getElem we2.1⟩
   have hzq:∀(c:x0.k=11→¬y0.k=8∧∀f∈y0.fields,f.1≠zz9),∀x y,(x0::r1)[0]?=some x→n2[0]?=some y→x.k=11→¬y.k=8∧∀f∈y.fields,f.1≠zz9:=fun c x y hx hy h=>by
    have e1:x0=x:=Option.some.inj hx
    rw[hy0] at hy
    have e2:y0=y:=Option.some.inj hy
    rw[←e1] at h;rw[←e2];exact c h
   have hmc:(showP (moreP (x0::r1))).isSome=true→(x0.k=11→¬y0.k=8∧∀f∈y0.fields,f.1≠zz9)→canB (moreP (x0::r1)) n2=true:=fun h c=>hmc2 h (hzq c)
   have hl6x:=l1 x0 (by simp)
   have hl6y:=l2 y0 (List.mem_of_getElem? hy0)
   have hna0:0<na:=by rw[←hna.out];exact we1.1
   have hnb0:0<nb:=by rw[←hnb.out];exact we2.1
   have hna0':(0:Int)<(na:Int):=by omega
   have hnb0':(0:Int)<(nb:Int):=by omega
   obtain⟨b0,o0,cc,As,cs,Ai,ci,Af,cf,eA,hlt,hsub,hcells⟩:=hnodeA.out x0 rfl
   injection eA with eA1 eA2 eA3
   subst eA1
   have hk0:∀W,Ext w1 W→W.cell? ⟨b0,o0,none⟩=some (.int .i64 x0.k):=fun W hW=>by have:=(hcells W (hx1.trans hW)).1;simpa using this
   clear hsub hcells hlt eA2 eA3
   obtain⟨b1,o1,cc1,As1,cs1,Ai1,ci1,Af1,cf1,eB,hlt,hsub,hcells⟩:=hnodeB.out y0 hy0
   injection eB with eB1 eB2 eB3
   subst eB1
   have hyk:∀W,Ext w1 W→W.cell? ⟨b1,o1,none⟩=some (.int .i64 y0.k):=fun W hW=>by have:=(hcells W (hx1.trans hW)).1;simpa using this
   have hyf:∀W,Ext w1 W→W.cell? ⟨b1,o1+5,none⟩=some (.slice Af1 y0.fields.length cf1):=fun W hW=>by have:=(hcells W (hx1.trans hW)).2.2.2.2.2;simpa using this
   obtain⟨Af2,cf2,eAf,hrf,_,_,_,_⟩:=hsub.fields
   simp only at eAf
   injection eAf with eAf1 eAf2 eAf3
   subst eAf1
   have hyr:∀W,Ext w1 W→Rd W Af1 (fldsZ y0.fields):=fun W hW=>hrf.ext (hx1.trans hW)
   clear eAf2 eAf3 eB2 eB3 hcells hsub hlt hnodeA hnodeB we1 we2 hrf hzq hmc2 hy0
   obtain⟨k0,hk0e⟩:∃z,Hid (x0.k=z):=⟨_,rfl⟩
   obtain⟨yk,hyke⟩:∃z,Hid (y0.k=z):=⟨_,rfl⟩
   obtain⟨ys,hys⟩:∃z,Hid (y0.fields=z):=⟨_,rfl⟩
   simp only[hk0e.out,hyke.out,hys.out] at hk0 hyk hyf hyr hmc
   have hl6y':ys.length≤1000000:=by rw[←hys.out];exact hl6y.2.2
   have g1:=cA.out w3 hx23
   have hc:=hownA.out w3 hx23 l1
   replace hk0:=Lib.hid hk0
   replace hyk:=Lib.hid hyk
   replace hyf:=Lib.hid hyf
   replace hyr:=Lib.hid hyr
   replace hmc:=Lib.hid hmc
   replace hl6x:=Lib.hid hl6x
   clear hownA hl6 l1 l2 hta htb hl6y
   go_wp2_with fail
   refine hc.mono ?_
   rintro e w4 ⟨vn,vs,rfl,hO,hD,hx4⟩
   clear hc g1
   obtain⟨B,hB⟩:∃z,Hid (w3.heap.size=z):=⟨_,rfl⟩
   have hB1:w1.heap.size≤B:=by rw[←hB.out];exact hx23.size
   rw[hB.out] at hO
   obtain⟨An,cn,en,_⟩:=Rd.of_own hO.row
   rw[hna.out] at en
   have hOr:=hO.row
   obtain⟨g,eg⟩:∃g,An=some ⟨g,0,none⟩:=by
    subst en
    rcases hOr.2 with⟨e,_⟩|⟨g',cap',cur,e,_⟩
    ·injection e with e1 e2 e3;exact absurd e2 (by omega)
    ·injection e with e1 e2 e3;exact⟨g',e1⟩
   subst en;subst eg
   obtain⟨v0,vr,evs⟩:=vr_cons hO
   subst evs
   have hx24:=hx23.trans hx4
   obtain⟨qm,hqm⟩:∃z,Hid (w4.heap.size=z):=⟨_,rfl⟩
   obtain⟨w5,hw5⟩:∃z,Hid (w4.alloc (.cells #[.slice (some ⟨g,0,none⟩) na cn] 24)=z):=⟨_,rfl⟩
   have hx5:Ext w4 w5:=by rw[←hw5.out];exact (Ext.refl _).alloc _
   have hO5:=hO.ext hx5
   have bM:Blk w5 qm #[.slice (some ⟨g,0,none⟩) na cn] 24:=by rw[←hw5.out,←hqm.out];exact Blk.new w4 _ _
   have hx25:=hx24.trans hx5
   have hBs:B≤w5.heap.size:=by have:=hx4.size;have:=hx5.size;have:=hB.out;omega
   have hqw:w1.heap.size≤qm:=by have:=hx24.size;have:=hqm.out;omega
   replace hO5:=Lib.hid hO5
   replace bM:=Lib.hid bM
   replace hx25:=Lib.hid hx25
   replace hD:=Lib.hid hD
   clear hO hOr hx4 hx5 hx23 hx24
   have g1:(w4.alloc (.cells #[.slice (some ⟨g,0,none⟩) na cn] 24)).cell? ⟨q,0,none⟩=some (.slice (some ⟨b0,o0,none⟩) na c1):=by rw[hw5.out];exact cA.out w5 hx25.out
   have g3:(w4.alloc (.cells #[.slice (some ⟨g,0,none⟩) na cn] 24)).cell? ⟨b0,o0,none⟩=some (.int .i64 k0):=by rw[hw5.out];exact hk0.out w5 hx25.out
   by_cases h8:k0=8
   ·have hb8:((k0:Int) == 8)=true:=by simpa using h8
    replace h8:=Lib.hid h8
    go_wp2_with fail
    rw[hw5.out,hqm.out]
    clear g1 g3
    obtain⟨S,hSS⟩:∃z:Nat→Prop,Hid (z=fun m=>(v0.2.1).ownBlock=some m):=⟨_,rfl⟩
    have hRl:=Reg.rl_chg S
    refine Reg.startX (R:=Chg S) (by kernel_rfl) ?_
    generalize hwd:World.drew w5=wd
    have hxd:Ext w5 wd:=by rw[←hwd];exact (Ext.refl _).drew
    clear hwd
    have hOd:=hO5.out.ext hxd
    have bMd:=bM.out.ext hxd
    have hs0:=hOd.sub 0 x0 _ rfl rfl
    have z0:∀W,Chg S wd W→W.cell? ⟨qm,0,none⟩=some (.slice (some ⟨g,0,none⟩) na cn):=fun W hW2=>hW2.cell (by have:=bMd.cell 0;simpa using this) (by rw[hSS.out];exact fun e=>own_ne_blk hs0.items bMd (by decide) e.symm)
    have z4:∀W,Chg S wd W→W.cell? ⟨g,4,none⟩=some (v0.2.1):=fun W hW2=>hW2.cell (by
     have hrow:=hOd.row
     rw[show (x0::r1).length=na from hna.out] at hrow
     rw[World.ownsRow.cellAt hrow 4 (by omega)];rfl) (by rw[hSS.out];exact own_not hs0.items hOd.row (by decide) g rfl)
    iterate 10 ((first|refine Reg.un hRl ?_|refine Reg.vn hRl ?_);(try simp only[Reg.nn]))
    clear z0 z4
    refine Reg.onlyX 10 _ rfl (by kernel_rfl) (by decide) (by rfl) (fun K hK=>?_);go_simp
    obtain⟨g1,hg1⟩:∃z,Hid (wd.heap.size=z):=⟨_,rfl⟩
    obtain⟨wa,hwa⟩:∃z,Hid (wd.alloc (.cells #[.int .i64 (na:Int)] 3)=z):=⟨_,rfl⟩
    have hrv:Rd wa (some ⟨g1,0,none⟩) [.int .i64 (na:Int)]:=by rw[←hwa.out,←hg1.out];exact Rd.of_block wd 3 (0,0) rfl
    have hxa:Ext wd wa:=by rw[←hwa.out];exact (Ext.refl _).alloc _
    rw[hg1.out,hwa.out]
    refine hK.out _ _ (Chg.ofExt hxa) ?_;clear hK K;(try simp only[Reg.nn])
    have hOa:=hOd.ext hxa
    have bMa:=bMd.ext hxa
    have hs0:=hOa.sub 0 x0 _ rfl rfl
    have hoc:=hs0.items
    have hx1a:=hx25.out.trans (hxd.trans hxa)
    obtain⟨XS,hXS⟩:∃z,Hid (intsZ x0.items=z):=⟨_,rfl⟩
    obtain⟨mL,hmL⟩:∃z,Hid (x0.items.length=z):=⟨_,rfl⟩
    rw[hXS.out] at hoc
    simp only[hmL.out] at hoc hs0 hOa hSS ⊢
    refine Reg.onlyX 11 _ rfl (by kernel_rfl) (by decide) (by rfl) (fun K hK=>?_)
    refine wp_app el_int wa (.tmp 35) (.tmp 39) rfl B _ mL XS rfl hoc (some ⟨g1,0,none⟩) 1 1 [.int .i64 (na:Int)] rfl hrv rfl (fun h=>by cases h) (by simp[Value.oneCell']) (by have:=hl6x.out.2.1;have:=hmL.out;omega) (by omega) (by have:=(hxd.trans hxa).size;omega) (fun V' W' ho' hg' hv'=>?_)
    have hrw:=hOa.row.kept hg' (own_ne_own hs0.items hOa.row (by decide))
    rw[show (x0::r1).length=na from hna.out] at hrw
    have k4:=World.ownsRow.cellAt hrw 4 (by omega)
    have f4:=World.ownsRow.frozenAt hrw 4
    rw[show (nesC (x0::r1) _)[4]?=some _ from rfl] at k4
    have hnx:=head_items hOa hD.out (t:=(na:Int)) (by rw[hmL.out,hXS.out];exact ho') hg'
    have bMw:=bMa.grown hg' (own_ne_blk hs0.items bMa (by decide))
    have hx1w:=(hx1a.then_grown hg' (fun m hm=>by have:=(hs0.items.lt m hm).1;omega)).setCell (p:=⟨g,4,none⟩) (by show w1.heap.size≤g;have:=(hOa.row.lt g rfl).1;omega) V'
    have bMy:=bMw.far (p:=⟨g,4,none⟩) (fun e=>own_ne_blk hOa.row bMa (by decide) (by rw[e];rfl)) V'
    obtain⟨A8,c8,e8,jj⟩:=Rd.of_own ho'
    clear jj
    subst e8
    refine hK.out _ _ (by rw[hSS.out];exact Chg.ofGrown hg') ?_;clear hK K;(try simp only[Reg.nn])
    replace hnx:=Lib.hid hnx
    replace bMy:=Lib.hid bMy
    replace hx1w:=Lib.hid hx1w
    clear ho' hg' hv' hrv hoc hOa bMa bMw hrw hOd bMd
    iterate 2 ((first|refine Reg.un hRl ?_|refine Reg.vn hRl ?_);(try simp only[Reg.nn]))
    refine Reg.lastX 14 _ rfl (by kernel_rfl) (by kernel_rfl) (by kernel_rfl) (by decide) (by rfl) (fun K hK=>?_)
    go_simp
    refine hK.out _ _ ?_;clear hK K;(try simp only[Reg.nn])
    clear hSS hRl k4 f4
    generalize W'.setCell ⟨g,4,none⟩ _=Y at hnx bMy hx1w ⊢
    have hXZ:moreP (x0::r1)=({ x0 with items:=x0.items++[(na:Int)] }::r1)++[⟨10,zz9,1,[],[],[]⟩]:=by
     show (if x0.k=8 then { x0 with items:=x0.items++[((x0::r1).length:Int)] }::(r1++[⟨10,zz9,1,[],[],[]⟩]) else _)=_
     rw[if_pos (by rw[hk0e.out];exact h8.out),hna.out]
     rfl
    have hXl:Hid (({ x0 with items:=x0.items++[(na:Int)] }::r1).length=na):=Lib.hid hna.out
    obtain⟨vN,hn2⟩:∃v,Hid (NeO B Y ({ x0 with items:=x0.items++[(na:Int)] }::r1) v (.slice (some ⟨g,0,none⟩) na cn)):=⟨_,hnx⟩
    clear hnx
    generalize ({ x0 with items:=x0.items++[(na:Int)] }::r1:List Ne)=XN at hXZ hXl hn2
    have hzz:k0=11→∀f∈ys,f.1≠zz9:=fun h=>by have:=h8.out;omega
    have kY:Y.cell? ⟨qm,0,none⟩=some (.slice (some ⟨g,0,none⟩) na cn):=by have:=bMy.out.cell 0;simpa using this
    have fY:=bMy.out.frozen 0
    have haY:Ext Y (Y.alloc (.cells #[.int .i64 10,.string ⟨#[122,122,57]⟩,.int .i64 1,.slice none 0 0,.slice none 0 0,.slice none 0 0] 36)):=(Ext.refl _).alloc _
    have hnY:=hn2.out.ext haY
    have bMa:=bMy.out.ext haY
    have hx1a:=hx1w.out.trans haY
    have hrow:=hnY.row
    rw[hXl.out] at hrow
    have hgB:=hrow.lt g rfl
    have hone:∀u∈([.int .i64 10,.string ⟨#[122,122,57]⟩,.int .i64 1,.slice none 0 0,.slice none 0 0,.slice none 0 0]:List Value),u.oneCell'=true:=by
     intro u hu
     simp only[List.mem_cons,List.not_mem_nil,or_false] at hu
     rcases hu with rfl|rfl|rfl|rfl|rfl|rfl<;>rfl
    replace hnY:=Lib.hid hnY
    replace hx1a:=Lib.hid hx1a
    go_wp2_with (
     refine wpList_app el_nd _ rfl (.tmp 44) (.tmp 46) rfl B (.slice (some ⟨g,0,none⟩) na cn) na (nesC XN vN) rfl hrow (some ⟨Y.heap.size,0,none⟩) 1 1 [.int .i64 10,.string ⟨#[122,122,57]⟩,.int .i64 1,.slice none 0 0,.slice none 0 0,.slice none 0 0] rfl (Rd.of_block Y 36 (0,0) rfl) rfl (fun h=>by cases h) hone (by omega) (by omega) (Nat.le_trans hgB.1 (Nat.le_of_lt hgB.2)) (fun V1 w6 ho6 hg6 hv6=>?_)
     obtain⟨A6,c6,rfl,jj1,jj2,jj3,jj4⟩:=Rd.of_own ho6
     clear jj1 jj2 jj3 jj4 hv6
     have bM6:=bMa.grown hg6 (own_ne_blk hrow bMa (by decide))
     have fr6:=bM6.frozen 0
     have cl6:w6.cell? ⟨qm,0,none⟩=some (.slice (some ⟨g,0,none⟩) na cn):=by have:=bM6.cell 0;simpa using this
     have hO6:=neo_more (d:=⟨10,zz9,1,[],[],[]⟩) hnY.out rfl rfl rfl ⟨by decide,by decide⟩ (by rw[hXl.out];exact ho6) hg6
     have hx6:=hx1a.out.then_grown hg6 (fun m hm=>by have:=(hrow.lt m hm).1;omega)
     replace hO6:=Lib.hid hO6
     replace hx6:=Lib.hid hx6
     replace bM6:=Lib.hid bM6
     clear ho6 hg6 bMa hrow hnY hx1a)
    obtain⟨Z,hZ⟩:∃z,Hid (w6.setCell ⟨qm,0,none⟩ (.slice A6 (na+1) c6)=z):=⟨_,rfl⟩
    rw[hZ.out]
    have hOZ:=neo_box hO6.out bM6.out 0 (.slice A6 (na+1) c6)
    have bZ:=bM6.out.set 0 (.slice A6 (na+1) c6)
    have hxZ:=Lib.hid (hx6.out.setCell (p:=⟨qm,0,none⟩) hqw (.slice A6 (na+1) c6))
    rw[hZ.out] at hOZ bZ hxZ
    clear hZ hO6 hx6 bM6 fr6 cl6 kY fY haY hone hn2 hx1w bMy
    have hx11:Hid (¬k0=11):=Lib.hid (fun h=>by have:=h8.out;omega)
    clear hb8
    have hZs:=hOZ.sch (Nat.le_refl _)
    rw[←hXZ] at hZs
    have hshZ:=refShow_any _ _ Z hZs hLR.out
    obtain⟨Sm,em,hme,hmk⟩:=shV_parts (moreP (x0::r1))
    rw[hme] at hshZ
    have kZ:Z.cell? ⟨qm,0,none⟩=some (.slice (A6) (na+1) c6):=by have:=bZ.cell 0;simpa using this
    replace hZs:=Lib.hid hZs
    replace bZ:=Lib.hid bZ
    clear hOZ hme
    refine hshZ.mono ?_
    rintro e z2 ⟨rfl,hz2⟩
    have hxz2:=hxZ.out.trans hz2
    clear hshZ kZ
    rcases hmk with⟨rfl,tm,htm⟩|⟨rfl,_⟩
    case inr=>
     have hc:=hli.out z2 hxz2
     have hxL0:=Lib.hid (hx1.trans hxz2)
     go_wp2_with fail
     refine hc.mono ?_
     rintro e wL ⟨rfl,hxL⟩
     have hf:=fin.out wL (hxL0.out.trans hxL)
     clear hc
     go_wp2_with fail
     exact hf
    have hsome:(showP (moreP (x0::r1))).isSome=true:=by rw[htm];rfl
    have cB2:=cB.out z2 hxz2
    have cA2:=cA.out z2 hxz2
    have hy2:=hyk.out z2 hxz2
    have hk2:=hk0.out z2 hxz2
    by_cases y8:yk=8
    ·have b8:((yk:Int) == 8)=true:=by simpa using y8
     have b11:((k0:Int) == 11)=false:=by simpa using hx11.out
     have hcc:=hmc.out hsome (fun h=>absurd h hx11.out)
     clear y8
     have kZ:z2.cell? ⟨qm,0,none⟩=some (.slice (A6) (na+1) c6):=by have:=(bZ.out.ext hz2).cell 0;simpa using this
     have hca:=hcan.out z2 (.slice (A6) (na+1) c6) hxz2 ((hZs.out.below hz2).mono hz2.size)
     rw[hcc] at hca
     go_wp2_with fail
     refine hca.mono ?_
     rintro e z3 ⟨rfl,hz3⟩
     have hxz3:=hxz2.trans hz3
     clear hca kZ cA2 cB2 hy2 hk2
     have hc:=hli.out z3 hxz3
     have hxL0:=Lib.hid (hx1.trans hxz3)
     go_wp2_with fail
     refine hc.mono ?_
     rintro e wL ⟨rfl,hxL⟩
     have hf:=fin.out wL (hxL0.out.trans hxL)
     clear hc
     go_wp2_with fail
     exact hf
    ·have b8:((yk:Int) == 8)=false:=by simpa using y8
     have hcc:=hmc.out hsome (fun h=>⟨y8,hzz h⟩)
     clear y8
     have kZ:z2.cell? ⟨qm,0,none⟩=some (.slice (A6) (na+1) c6):=by have:=(bZ.out.ext hz2).cell 0;simpa using this
     have hca:=hcan.out z2 (.slice (A6) (na+1) c6) hxz2 ((hZs.out.below hz2).mono hz2.size)
     rw[hcc] at hca
     go_wp2_with fail
     refine hca.mono ?_
     rintro e z3 ⟨rfl,hz3⟩
     have hxz3:=hxz2.trans hz3
     clear hca kZ cA2 cB2 hy2 hk2
     have hc:=hli.out z3 hxz3
     have hxL0:=Lib.hid (hx1.trans hxz3)
     go_wp2_with fail
     refine hc.mono ?_
     rintro e wL ⟨rfl,hxL⟩
     have hf:=fin.out wL (hxL0.out.trans hxL)
     clear hc
     go_wp2_with fail
     exact hf
   have hb8:((k0:Int) == 8)=false:=by simpa using h8
   by_cases h11:k0=11
   ·have hb11:((k0:Int) == 11)=true:=by simpa using h11
    replace h8:=Lib.hid h8
    replace h11:=Lib.hid h11
    go_wp2_with fail
    rw[hw5.out,hqm.out]
    clear g1 g3
    obtain⟨S,hSS⟩:∃z:Nat→Prop,Hid (z=fun m=>(v0.2.2).ownBlock=some m):=⟨_,rfl⟩
    have hRl:=Reg.rl_chg S
    refine Reg.startX (R:=Chg S) (by kernel_rfl) ?_
    generalize hwd:World.drew w5=wd
    have hxd:Ext w5 wd:=by rw[←hwd];exact (Ext.refl _).drew
    clear hwd
    have hOd:=hO5.out.ext hxd
    have bMd:=bM.out.ext hxd
    have hs0:=hOd.sub 0 x0 _ rfl rfl
    have z0:∀W,Chg S wd W→W.cell? ⟨qm,0,none⟩=some (.slice (some ⟨g,0,none⟩) na cn):=fun W hW2=>hW2.cell (by have:=bMd.cell 0;simpa using this) (by rw[hSS.out];exact fun e=>own_ne_blk hs0.fields bMd (by decide) e.symm)
    have z4:∀W,Chg S wd W→W.cell? ⟨g,5,none⟩=some (v0.2.2):=fun W hW2=>hW2.cell (by
     have hrow:=hOd.row
     rw[show (x0::r1).length=na from hna.out] at hrow
     rw[World.ownsRow.cellAt hrow 5 (by omega)];rfl) (by rw[hSS.out];exact own_not hs0.fields hOd.row (by decide) g rfl)
    iterate 10 ((first|refine Reg.un hRl ?_|refine Reg.vn hRl ?_);(try simp only[Reg.nn]))
    clear z0 z4
    refine Reg.un hRl (v:=.agg #[.string ⟨#[122,122,57]⟩,.bool true,.int .i64 (na:Int)]) (hy:=fun W hW=>by kernel_rfl) ?_;(try simp only[Reg.nn])
    refine Reg.onlyX 11 _ rfl (by kernel_rfl) (by decide) (by rfl) (fun K hK=>?_);go_simp
    obtain⟨g1,hg1⟩:∃z,Hid (wd.heap.size=z):=⟨_,rfl⟩
    obtain⟨wa,hwa⟩:∃z,Hid (wd.alloc (.cells #[.string ⟨#[122,122,57]⟩,.bool true,.int .i64 (na:Int)] 38)=z):=⟨_,rfl⟩
    have hrv:Rd wa (some ⟨g1,0,none⟩) [.string ⟨#[122,122,57]⟩,.bool true,.int .i64 (na:Int)]:=by rw[←hwa.out,←hg1.out];exact Rd.of_block wd 38 (0,0) rfl
    have hxa:Ext wd wa:=by rw[←hwa.out];exact (Ext.refl _).alloc _
    rw[hg1.out,hwa.out]
    refine hK.out _ _ (Chg.ofExt hxa) ?_;clear hK K;(try simp only[Reg.nn])
    have hOa:=hOd.ext hxa
    have bMa:=bMd.ext hxa
    have hs0:=hOa.sub 0 x0 _ rfl rfl
    have hoc:=hs0.fields
    have hx1a:=hx25.out.trans (hxd.trans hxa)
    obtain⟨XS,hXS⟩:∃z,Hid (fldsZ x0.fields=z):=⟨_,rfl⟩
    obtain⟨mL,hmL⟩:∃z,Hid (x0.fields.length=z):=⟨_,rfl⟩
    rw[hXS.out] at hoc
    simp only[hmL.out] at hoc hs0 hOa hSS ⊢
    refine Reg.onlyX 12 _ rfl (by kernel_rfl) (by decide) (by rfl) (fun K hK=>?_)
    refine wp_app el_fld wa (.tmp 57) (.tmp 62) rfl B _ mL XS rfl hoc (some ⟨g1,0,none⟩) 1 1 [.string ⟨#[122,122,57]⟩,.bool true,.int .i64 (na:Int)] rfl hrv rfl (fun h=>by cases h) (by simp[Value.oneCell']) (by have:=hl6x.out.2.2;have:=hmL.out;omega) (by omega) (by have:=(hxd.trans hxa).size;omega) (fun V' W' ho' hg' hv'=>?_)
    have hrw:=hOa.row.kept hg' (own_ne_own hs0.fields hOa.row (by decide))
    rw[show (x0::r1).length=na from hna.out] at hrw
    have k4:=World.ownsRow.cellAt hrw 5 (by omega)
    have f4:=World.ownsRow.frozenAt hrw 5
    rw[show (nesC (x0::r1) _)[5]?=some _ from rfl] at k4
    have hnx:=head_fields hOa hD.out (t:=(zz9,true,(na:Int))) (by rw[hmL.out,hXS.out];exact ho') hg'
    have bMw:=bMa.grown hg' (own_ne_blk hs0.fields bMa (by decide))
    have hx1w:=(hx1a.then_grown hg' (fun m hm=>by have:=(hs0.fields.lt m hm).1;omega)).setCell (p:=⟨g,5,none⟩) (by show w1.heap.size≤g;have:=(hOa.row.lt g rfl).1;omega) V'
    have bMy:=bMw.far (p:=⟨g,5,none⟩) (fun e=>own_ne_blk hOa.row bMa (by decide) (by rw[e];rfl)) V'
    obtain⟨A8,c8,e8,jj⟩:=Rd.of_own ho'
    clear jj
    subst e8
    refine hK.out _ _ (by rw[hSS.out];exact Chg.ofGrown hg') ?_;clear hK K;(try simp only[Reg.nn])
    replace hnx:=Lib.hid hnx
    replace bMy:=Lib.hid bMy
    replace hx1w:=Lib.hid hx1w
    clear ho' hg' hv' hrv hoc hOa bMa bMw hrw hOd bMd
    iterate 2 ((first|refine Reg.un hRl ?_|refine Reg.vn hRl ?_);(try simp only[Reg.nn]))
    refine Reg.lastX 15 _ rfl (by kernel_rfl) (by kernel_rfl) (by kernel_rfl) (by decide) (by rfl) (fun K hK=>?_)
    go_simp
    refine hK.out _ _ ?_;clear hK K;(try simp only[Reg.nn])
    clear hSS hRl k4 f4
    generalize W'.setCell ⟨g,5,none⟩ _=Y at hnx bMy hx1w ⊢
    have hXZ:moreP (x0::r1)=({ x0 with fields:=x0.fields++[(zz9,true,(na:Int))] }::r1)++[⟨0,⟨#[]⟩,0,[],[],[]⟩]:=by
     show (if x0.k=8 then _ else if x0.k=11 then { x0 with fields:=x0.fields++[(zz9,true,((x0::r1).length:Int))] }::(r1++[⟨0,⟨#[]⟩,0,[],[],[]⟩]) else _)=_
     rw[if_neg (by rw[hk0e.out];exact h8.out),if_pos (by rw[hk0e.out];exact h11.out),hna.out]
     rfl
    have hXl:Hid (({ x0 with fields:=x0.fields++[(zz9,true,(na:Int))] }::r1).length=na):=Lib.hid hna.out
    obtain⟨vN,hn2⟩:∃v,Hid (NeO B Y ({ x0 with fields:=x0.fields++[(zz9,true,(na:Int))] }::r1) v (.slice (some ⟨g,0,none⟩) na cn)):=⟨_,hnx⟩
    clear hnx
    generalize ({ x0 with fields:=x0.fields++[(zz9,true,(na:Int))] }::r1:List Ne)=XN at hXZ hXl hn2
    have kY:Y.cell? ⟨qm,0,none⟩=some (.slice (some ⟨g,0,none⟩) na cn):=by have:=bMy.out.cell 0;simpa using this
    have fY:=bMy.out.frozen 0
    have haY:Ext Y (Y.alloc (.cells #[.int .i64 0,.string ⟨#[]⟩,.int .i64 0,.slice none 0 0,.slice none 0 0,.slice none 0 0] 36)):=(Ext.refl _).alloc _
    have hnY:=hn2.out.ext haY
    have bMa:=bMy.out.ext haY
    have hx1a:=hx1w.out.trans haY
    have hrow:=hnY.row
    rw[hXl.out] at hrow
    have hgB:=hrow.lt g rfl
    have hone:∀u∈([.int .i64 0,.string ⟨#[]⟩,.int .i64 0,.slice none 0 0,.slice none 0 0,.slice none 0 0]:List Value),u.oneCell'=true:=by
     intro u hu
     simp only[List.mem_cons,List.not_mem_nil,or_false] at hu
     rcases hu with rfl|rfl|rfl|rfl|rfl|rfl<;>rfl
    replace hnY:=Lib.hid hnY
    replace hx1a:=Lib.hid hx1a
    go_wp2_with (
     refine wpList_app el_nd _ rfl (.tmp 67) (.tmp 69) rfl B (.slice (some ⟨g,0,none⟩) na cn) na (nesC XN vN) rfl hrow (some ⟨Y.heap.size,0,none⟩) 1 1 [.int .i64 0,.string ⟨#[]⟩,.int .i64 0,.slice none 0 0,.slice none 0 0,.slice none 0 0] rfl (Rd.of_block Y 36 (0,0) rfl) rfl (fun h=>by cases h) hone (by omega) (by omega) (Nat.le_trans hgB.1 (Nat.le_of_lt hgB.2)) (fun V1 w6 ho6 hg6 hv6=>?_)
     obtain⟨A6,c6,rfl,jj1,jj2,jj3,jj4⟩:=Rd.of_own ho6
     clear jj1 jj2 jj3 jj4 hv6
     have bM6:=bMa.grown hg6 (own_ne_blk hrow bMa (by decide))
     have fr6:=bM6.frozen 0
     have cl6:w6.cell? ⟨qm,0,none⟩=some (.slice (some ⟨g,0,none⟩) na cn):=by have:=bM6.cell 0;simpa using this
     have hO6:=neo_more (d:=⟨0,⟨#[]⟩,0,[],[],[]⟩) hnY.out rfl rfl rfl ⟨by decide,by decide⟩ (by rw[hXl.out];exact ho6) hg6
     have hx6:=hx1a.out.then_grown hg6 (fun m hm=>by have:=(hrow.lt m hm).1;omega)
     replace hO6:=Lib.hid hO6
     replace hx6:=Lib.hid hx6
     replace bM6:=Lib.hid bM6
     clear ho6 hg6 bMa hrow hnY hx1a)
    obtain⟨Z,hZ⟩:∃z,Hid (w6.setCell ⟨qm,0,none⟩ (.slice A6 (na+1) c6)=z):=⟨_,rfl⟩
    rw[hZ.out]
    have hOZ:=neo_box hO6.out bM6.out 0 (.slice A6 (na+1) c6)
    have bZ:=bM6.out.set 0 (.slice A6 (na+1) c6)
    have hxZ:=Lib.hid (hx6.out.setCell (p:=⟨qm,0,none⟩) hqw (.slice A6 (na+1) c6))
    rw[hZ.out] at hOZ bZ hxZ
    clear hZ hO6 hx6 bM6 fr6 cl6 kY fY haY hone hn2 hx1w bMy
    have hx11:=h11
    obtain⟨m,hm⟩:∃z,Hid (ys.length=z):=⟨_,rfl⟩
    rw[hm.out] at hl6y'
    have gB:=cB.out Z hxZ.out
    have gF:=hyf.out Z hxZ.out
    rw[hm.out] at gF
    have gR:=hyr.out Z hxZ.out
    replace hOZ:=Lib.hid hOZ
    replace bZ:=Lib.hid bZ
    replace hXZ:=Lib.hid hXZ
    replace gR:=Lib.hid gR
    clear hb8 hb11
    go_loopw [6,72,73,74,75,76,77,78,79,80,81,82,83,84,85,86,87,88,89,90,91] (fun v6 v72 v73 v74 v75 v76 v77 v78 v79 v80 v81 v82 v83 v84 v85 v86 v87 v88 v89 v90 v91 wr=>wr=Z∧∃i:Nat,i≤m∧v6=.int .i64 (i:Int)∧∀j f,j<i→ys[j]?=some f→f.1≠zz9) (fun v6 v72 v73 v74 v75 v76 v77 v78 v79 v80 v81 v82 v83 v84 v85 v86 v87 v88 v89 v90 v91 _=>m-(intOf v6).toNat)
    case atStart=>exact⟨rfl,0,Nat.zero_le _,rfl,fun j f hj=>by omega⟩
    case round=>
     obtain⟨rfl,i,hi,rfl,hpast⟩:=hrel
     by_cases him:i<m
     ·have him':(i:Int)<(m:Int):=by omega
      obtain⟨f,hf⟩:∃f,ys[i]?=some f:=⟨_,List.getElem?_eq_getElem (by have:=hm.out;omega)⟩
      obtain⟨fb,fo,eAf,gn,_,_⟩:=fldsZ_cell gR.out i f hf
      subst eAf
      obtain⟨b,hb⟩:∃z,Hid ((f.1.toList == [122,122,57])=z):=⟨_,rfl⟩
      have hb1:=hb.out
      cases b with
      | true=>
       have hc:=hli.out wr hxZ.out
       clear hpast hf hb
       go_wp2_with fail
       refine hc.mono ?_
       rintro e wL ⟨rfl,hxL⟩
       have hfn:=fin.out wL (hx1.trans (hxZ.out.trans hxL))
       clear hc
       go_wp2_with fail
       exact hfn
      | false=>
       have hnext:∀j f,j<i+1→ys[j]?=some f→f.1≠zz9:=fun j f' hj hf'=>by
        rcases Nat.lt_or_ge j i with hj'|hj'
        ·exact hpast j f' hj' hf'
        ·obtain rfl:j=i:=by omega
         rw[hf] at hf'
         injection hf' with hf'
         subst hf'
         intro e
         have hb2:=hb.out
         rw[e] at hb2
         rw[zz9_list] at hb2
         exact absurd hb2 (by decide)
       replace hnext:=Lib.hid hnext
       clear hpast hf hb
       go_wp2_with fail
       go_roundw
       case rel=>exact⟨trivial,i+1,by omega,by go_num,hnext.out⟩
       case measure=>simp[intOf]<;>omega
     ·obtain rfl:i=m:=by omega
      have hzz:k0=11→∀f∈ys,f.1≠zz9:=fun _ f hf=>by
       obtain⟨j,hj⟩:=List.mem_iff_getElem?.1 hf
       exact hpast j f (by have:=(List.getElem?_eq_some_iff.1 hj).1;have:=hm.out;omega) hj
      obtain⟨Z,hZ⟩:∃z,z=wr:=⟨_,rfl⟩
      rw[←hZ] at hOZ bZ hxZ gB gF gR ⊢
      replace hOZ:=hOZ.out
      replace bZ:=bZ.out
      replace hXZ:=hXZ.out
      clear hZ hpast
      have hZs:=hOZ.sch (Nat.le_refl _)
      rw[←hXZ] at hZs
      have hshZ:=refShow_any _ _ Z hZs hLR.out
      obtain⟨Sm,em,hme,hmk⟩:=shV_parts (moreP (x0::r1))
      rw[hme] at hshZ
      have kZ:Z.cell? ⟨qm,0,none⟩=some (.slice (A6) (na+1) c6):=by have:=bZ.cell 0;simpa using this
      replace hZs:=Lib.hid hZs
      replace bZ:=Lib.hid bZ
      clear hOZ hme
      go_wp2_with fail
      refine hshZ.mono ?_
      rintro e z2 ⟨rfl,hz2⟩
      have hxz2:=hxZ.out.trans hz2
      clear hshZ kZ
      rcases hmk with⟨rfl,tm,htm⟩|⟨rfl,_⟩
      case inr=>
       have hc:=hli.out z2 hxz2
       have hxL0:=Lib.hid (hx1.trans hxz2)
       go_wp2_with fail
       refine hc.mono ?_
       rintro e wL ⟨rfl,hxL⟩
       have hf:=fin.out wL (hxL0.out.trans hxL)
       clear hc
       go_wp2_with fail
       exact hf
      have hsome:(showP (moreP (x0::r1))).isSome=true:=by rw[htm];rfl
      have cB2:=cB.out z2 hxz2
      have cA2:=cA.out z2 hxz2
      have hy2:=hyk.out z2 hxz2
      have hk2:=hk0.out z2 hxz2
      by_cases y8:yk=8
      ·have b8:((yk:Int) == 8)=true:=by simpa using y8
       have b11:((k0:Int) == 11)=true:=by simpa using hx11.out
       clear y8
       have hc:=hli.out z2 hxz2
       have hxL0:=Lib.hid (hx1.trans hxz2)
       go_wp2_with fail
       refine hc.mono ?_
       rintro e wL ⟨rfl,hxL⟩
       have hf:=fin.out wL (hxL0.out.trans hxL)
       clear hc
       go_wp2_with fail
       exact hf
      ·have b8:((yk:Int) == 8)=false:=by simpa using y8
       have hcc:=hmc.out hsome (fun h=>⟨y8,hzz h⟩)
       clear y8
       have kZ:z2.cell? ⟨qm,0,none⟩=some (.slice (A6) (na+1) c6):=by have:=(bZ.out.ext hz2).cell 0;simpa using this
       have hca:=hcan.out z2 (.slice (A6) (na+1) c6) hxz2 ((hZs.out.below hz2).mono hz2.size)
       rw[hcc] at hca
       go_wp2_with fail
       refine hca.mono ?_
       rintro e z3 ⟨rfl,hz3⟩
       have hxz3:=hxz2.trans hz3
       clear hca kZ cA2 cB2 hy2 hk2
       have hc:=hli.out z3 hxz3
       have hxL0:=Lib.hid (hx1.trans hxz3)
       go_wp2_with fail
       refine hc.mono ?_
       rintro e wL ⟨rfl,hxL⟩
       have hf:=fin.out wL (hxL0.out.trans hxL)
       clear hc
       go_wp2_with fail
       exact hf
   have hb11:((k0:Int) == 11)=false:=by simpa using h11
   by_cases h9:k0=9
   ·have hb9:((k0:Int) == 9)=true:=by simpa using h9
    replace h8:=Lib.hid h8
    replace h9:=Lib.hid h9
    replace h11:=Lib.hid h11
    go_wp2_with fail
    rw[hw5.out,hqm.out]
    clear g1 g3
    obtain⟨S,hSS⟩:∃z:Nat→Prop,Hid (z=fun m=>(v0.1).ownBlock=some m):=⟨_,rfl⟩
    have hRl:=Reg.rl_chg S
    refine Reg.startX (R:=Chg S) (by kernel_rfl) ?_
    generalize hwd:World.drew w5=wd
    have hxd:Ext w5 wd:=by rw[←hwd];exact (Ext.refl _).drew
    clear hwd
    have hOd:=hO5.out.ext hxd
    have bMd:=bM.out.ext hxd
    have hs0:=hOd.sub 0 x0 _ rfl rfl
    have z0:∀W,Chg S wd W→W.cell? ⟨qm,0,none⟩=some (.slice (some ⟨g,0,none⟩) na cn):=fun W hW2=>hW2.cell (by have:=bMd.cell 0;simpa using this) (by rw[hSS.out];exact fun e=>own_ne_blk hs0.syms bMd (by decide) e.symm)
    have z4:∀W,Chg S wd W→W.cell? ⟨g,3,none⟩=some (v0.1):=fun W hW2=>hW2.cell (by
     have hrow:=hOd.row
     rw[show (x0::r1).length=na from hna.out] at hrow
     rw[World.ownsRow.cellAt hrow 3 (by omega)];rfl) (by rw[hSS.out];exact own_not hs0.syms hOd.row (by decide) g rfl)
    iterate 7 ((first|refine Reg.un hRl ?_|refine Reg.vn hRl ?_);(try simp only[Reg.nn]))
    clear z0 z4
    refine Reg.onlyX 7 _ rfl (by kernel_rfl) (by decide) (by rfl) (fun K hK=>?_);go_simp
    obtain⟨g1,hg1⟩:∃z,Hid (wd.heap.size=z):=⟨_,rfl⟩
    obtain⟨wa,hwa⟩:∃z,Hid (wd.alloc (.cells #[.string ⟨#[122,122,57]⟩] 9)=z):=⟨_,rfl⟩
    have hrv:Rd wa (some ⟨g1,0,none⟩) [.string ⟨#[122,122,57]⟩]:=by rw[←hwa.out,←hg1.out];exact Rd.of_block wd 9 (0,0) rfl
    have hxa:Ext wd wa:=by rw[←hwa.out];exact (Ext.refl _).alloc _
    rw[hg1.out,hwa.out]
    refine hK.out _ _ (Chg.ofExt hxa) ?_;clear hK K;(try simp only[Reg.nn])
    have hOa:=hOd.ext hxa
    have bMa:=bMd.ext hxa
    have hs0:=hOa.sub 0 x0 _ rfl rfl
    have hoc:=hs0.syms
    have hx1a:=hx25.out.trans (hxd.trans hxa)
    obtain⟨XS,hXS⟩:∃z,Hid (txs x0.syms=z):=⟨_,rfl⟩
    obtain⟨mL,hmL⟩:∃z,Hid (x0.syms.length=z):=⟨_,rfl⟩
    rw[hXS.out] at hoc
    simp only[hmL.out] at hoc hs0 hOa hSS ⊢
    refine Reg.onlyX 8 _ rfl (by kernel_rfl) (by decide) (by rfl) (fun K hK=>?_)
    refine wp_app el_str wa (.tmp 101) (.tmp 102) rfl B _ mL XS rfl hoc (some ⟨g1,0,none⟩) 1 1 [.string ⟨#[122,122,57]⟩] rfl hrv rfl (fun h=>by cases h) (by simp[Value.oneCell']) (by have:=hl6x.out.1;have:=hmL.out;omega) (by omega) (by have:=(hxd.trans hxa).size;omega) (fun V' W' ho' hg' hv'=>?_)
    have hrw:=hOa.row.kept hg' (own_ne_own hs0.syms hOa.row (by decide))
    rw[show (x0::r1).length=na from hna.out] at hrw
    have k4:=World.ownsRow.cellAt hrw 3 (by omega)
    have f4:=World.ownsRow.frozenAt hrw 3
    rw[show (nesC (x0::r1) _)[3]?=some _ from rfl] at k4
    have hnx:=head_syms hOa hD.out (t:=zz9) (by rw[hmL.out,hXS.out];exact ho') hg'
    have bMw:=bMa.grown hg' (own_ne_blk hs0.syms bMa (by decide))
    have hx1w:=(hx1a.then_grown hg' (fun m hm=>by have:=(hs0.syms.lt m hm).1;omega)).setCell (p:=⟨g,3,none⟩) (by show w1.heap.size≤g;have:=(hOa.row.lt g rfl).1;omega) V'
    have bMy:=bMw.far (p:=⟨g,3,none⟩) (fun e=>own_ne_blk hOa.row bMa (by decide) (by rw[e];rfl)) V'
    obtain⟨A8,c8,e8,jj⟩:=Rd.of_own ho'
    clear jj
    subst e8
    refine hK.out _ _ (by rw[hSS.out];exact Chg.ofGrown hg') ?_;clear hK K;(try simp only[Reg.nn])
    replace hnx:=Lib.hid hnx
    replace bMy:=Lib.hid bMy
    replace hx1w:=Lib.hid hx1w
    clear ho' hg' hv' hrv hoc hOa bMa bMw hrw hOd bMd
    iterate 2 ((first|refine Reg.un hRl ?_|refine Reg.vn hRl ?_);(try simp only[Reg.nn]))
    refine Reg.lastX 11 _ rfl (by kernel_rfl) (by kernel_rfl) (by kernel_rfl) (by decide) (by rfl) (fun K hK=>?_)
    go_simp
    refine hK.out _ _ ?_;clear hK K;(try simp only[Reg.nn])
    clear hSS hRl k4 f4
    generalize W'.setCell ⟨g,3,none⟩ _=Y at hnx bMy hx1w ⊢
    have hXZ:moreP (x0::r1)=({ x0 with syms:=x0.syms++[zz9] }::r1):=by
     show (if x0.k=8 then _ else if x0.k=11 then _ else if x0.k=9 then { x0 with syms:=x0.syms++[zz9] }::r1 else x0::r1)=_
     rw[if_neg (by rw[hk0e.out];exact h8.out),if_neg (by rw[hk0e.out];exact h11.out),if_pos (by rw[hk0e.out];exact h9.out)]
    have hzz:k0=11→∀f∈ys,f.1≠zz9:=fun h=>absurd h h11.out
    obtain⟨Z,hZ⟩:∃z,z=Y:=⟨_,rfl⟩
    rw[←hZ] at hnx bMy hx1w ⊢
    have hOZ:=hnx.out
    have bZ:=bMy.out
    have hxZ:=hx1w
    clear hZ hnx bMy hx1w
    have hx11:=h11
    clear hb8
    try clear hb11
    try clear hb9
    have hZs:=hOZ.sch (Nat.le_refl _)
    rw[←hXZ] at hZs
    have hshZ:=refShow_any _ _ Z hZs hLR.out
    obtain⟨Sm,em,hme,hmk⟩:=shV_parts (moreP (x0::r1))
    rw[hme] at hshZ
    have kZ:Z.cell? ⟨qm,0,none⟩=some (.slice (some ⟨g,0,none⟩) (na) cn):=by have:=bZ.cell 0;simpa using this
    replace hZs:=Lib.hid hZs
    replace bZ:=Lib.hid bZ
    clear hOZ hme
    go_wp2_with fail
    refine hshZ.mono ?_
    rintro e z2 ⟨rfl,hz2⟩
    have hxz2:=hxZ.out.trans hz2
    clear hshZ kZ
    rcases hmk with⟨rfl,tm,htm⟩|⟨rfl,_⟩
    case inr=>
     have hc:=hli.out z2 hxz2
     have hxL0:=Lib.hid (hx1.trans hxz2)
     go_wp2_with fail
     refine hc.mono ?_
     rintro e wL ⟨rfl,hxL⟩
     have hf:=fin.out wL (hxL0.out.trans hxL)
     clear hc
     go_wp2_with fail
     exact hf
    have hsome:(showP (moreP (x0::r1))).isSome=true:=by rw[htm];rfl
    have cB2:=cB.out z2 hxz2
    have cA2:=cA.out z2 hxz2
    have hy2:=hyk.out z2 hxz2
    have hk2:=hk0.out z2 hxz2
    by_cases y8:yk=8
    ·have b8:((yk:Int) == 8)=true:=by simpa using y8
     have b11:((k0:Int) == 11)=false:=by simpa using hx11.out
     have hcc:=hmc.out hsome (fun h=>absurd h hx11.out)
     clear y8
     have kZ:z2.cell? ⟨qm,0,none⟩=some (.slice (some ⟨g,0,none⟩) (na) cn):=by have:=(bZ.out.ext hz2).cell 0;simpa using this
     have hca:=hcan.out z2 (.slice (some ⟨g,0,none⟩) (na) cn) hxz2 ((hZs.out.below hz2).mono hz2.size)
     rw[hcc] at hca
     go_wp2_with fail
     refine hca.mono ?_
     rintro e z3 ⟨rfl,hz3⟩
     have hxz3:=hxz2.trans hz3
     clear hca kZ cA2 cB2 hy2 hk2
     have hc:=hli.out z3 hxz3
     have hxL0:=Lib.hid (hx1.trans hxz3)
     go_wp2_with fail
     refine hc.mono ?_
     rintro e wL ⟨rfl,hxL⟩
     have hf:=fin.out wL (hxL0.out.trans hxL)
     clear hc
     go_wp2_with fail
     exact hf
    ·have b8:((yk:Int) == 8)=false:=by simpa using y8
     have hcc:=hmc.out hsome (fun h=>⟨y8,hzz h⟩)
     clear y8
     have kZ:z2.cell? ⟨qm,0,none⟩=some (.slice (some ⟨g,0,none⟩) (na) cn):=by have:=(bZ.out.ext hz2).cell 0;simpa using this
     have hca:=hcan.out z2 (.slice (some ⟨g,0,none⟩) (na) cn) hxz2 ((hZs.out.below hz2).mono hz2.size)
     rw[hcc] at hca
     go_wp2_with fail
     refine hca.mono ?_
     rintro e z3 ⟨rfl,hz3⟩
     have hxz3:=hxz2.trans hz3
     clear hca kZ cA2 cB2 hy2 hk2
     have hc:=hli.out z3 hxz3
     have hxL0:=Lib.hid (hx1.trans hxz3)
     go_wp2_with fail
     refine hc.mono ?_
     rintro e wL ⟨rfl,hxL⟩
     have hf:=fin.out wL (hxL0.out.trans hxL)
     clear hc
     go_wp2_with fail
     exact hf
   have hb9:((k0:Int) == 9)=false:=by simpa using h9
   have g5:(w4.alloc (.cells #[.slice (some ⟨g,0,none⟩) na cn] 24)).cell? ⟨w4.heap.size,0,none⟩=some (.slice (some ⟨g,0,none⟩) na cn):=by rw[hw5.out,hqm.out];have:=bM.out.cell 0;simpa using this
   have hXZ:moreP (x0::r1)=x0::r1:=by
    show (if x0.k=8 then _ else if x0.k=11 then _ else if x0.k=9 then _ else x0::r1)=_
    rw[if_neg (by rw[hk0e.out];exact h8),if_neg (by rw[hk0e.out];exact h11),if_neg (by rw[hk0e.out];exact h9)]
   have hzz:k0=11→∀f∈ys,f.1≠zz9:=fun h=>absurd h h11
   replace h8:=Lib.hid h8
   replace h9:=Lib.hid h9
   replace h11:=Lib.hid h11
   go_wp2_with fail
   rw[hw5.out]
   try rw[hqm.out]
   obtain⟨Z,hZ⟩:∃z,z=w5:=⟨_,rfl⟩
   rw[←hZ] at hO5 bM hx25 ⊢
   have hOZ:=hO5.out
   have bZ:=bM.out
   have hxZ:=hx25
   clear hZ hO5 bM hw5 g1 g3 g5 hx25
   have hx11:=h11
   clear hb8 hb11 hb9
   have hZs:=hOZ.sch (Nat.le_refl _)
   rw[←hXZ] at hZs
   have hshZ:=refShow_any _ _ Z hZs hLR.out
   obtain⟨Sm,em,hme,hmk⟩:=shV_parts (moreP (x0::r1))
   rw[hme] at hshZ
   have kZ:Z.cell? ⟨qm,0,none⟩=some (.slice (some ⟨g,0,none⟩) (na) cn):=by have:=bZ.cell 0;simpa using this
   replace hZs:=Lib.hid hZs
   replace bZ:=Lib.hid bZ
   clear hOZ hme
   refine hshZ.mono ?_
   rintro e z2 ⟨rfl,hz2⟩
   have hxz2:=hxZ.out.trans hz2
   clear hshZ kZ
   rcases hmk with⟨rfl,tm,htm⟩|⟨rfl,_⟩
   case inr=>
    have hc:=hli.out z2 hxz2
    have hxL0:=Lib.hid (hx1.trans hxz2)
    go_wp2_with fail
    refine hc.mono ?_
    rintro e wL ⟨rfl,hxL⟩
    have hf:=fin.out wL (hxL0.out.trans hxL)
    clear hc
    go_wp2_with fail
    exact hf
   have hsome:(showP (moreP (x0::r1))).isSome=true:=by rw[htm];rfl
   have cB2:=cB.out z2 hxz2
   have cA2:=cA.out z2 hxz2
   have hy2:=hyk.out z2 hxz2
   have hk2:=hk0.out z2 hxz2
   by_cases y8:yk=8
   ·have b8:((yk:Int) == 8)=true:=by simpa using y8
    have b11:((k0:Int) == 11)=false:=by simpa using hx11.out
    have hcc:=hmc.out hsome (fun h=>absurd h hx11.out)
    clear y8
    have kZ:z2.cell? ⟨qm,0,none⟩=some (.slice (some ⟨g,0,none⟩) (na) cn):=by have:=(bZ.out.ext hz2).cell 0;simpa using this
    have hca:=hcan.out z2 (.slice (some ⟨g,0,none⟩) (na) cn) hxz2 ((hZs.out.below hz2).mono hz2.size)
    rw[hcc] at hca
    go_wp2_with fail
    refine hca.mono ?_
    rintro e z3 ⟨rfl,hz3⟩
    have hxz3:=hxz2.trans hz3
    clear hca kZ cA2 cB2 hy2 hk2
    have hc:=hli.out z3 hxz3
    have hxL0:=Lib.hid (hx1.trans hxz3)
    go_wp2_with fail
    refine hc.mono ?_
    rintro e wL ⟨rfl,hxL⟩
    have hf:=fin.out wL (hxL0.out.trans hxL)
    clear hc
    go_wp2_with fail
    exact hf
   ·have b8:((yk:Int) == 8)=false:=by simpa using y8
    have hcc:=hmc.out hsome (fun h=>⟨y8,hzz h⟩)
    clear y8
    have kZ:z2.cell? ⟨qm,0,none⟩=some (.slice (some ⟨g,0,none⟩) (na) cn):=by have:=(bZ.out.ext hz2).cell 0;simpa using this
    have hca:=hcan.out z2 (.slice (some ⟨g,0,none⟩) (na) cn) hxz2 ((hZs.out.below hz2).mono hz2.size)
    rw[hcc] at hca
    go_wp2_with fail
    refine hca.mono ?_
    rintro e z3 ⟨rfl,hz3⟩
    have hxz3:=hxz2.trans hz3
    clear hca kZ cA2 cB2 hy2 hk2
    have hc:=hli.out z3 hxz3
    have hxL0:=Lib.hid (hx1.trans hxz3)
    go_wp2_with fail
    refine hc.mono ?_
    rintro e wL ⟨rfl,hxL⟩
    have hf:=fin.out wL (hxL0.out.trans hxL)
    clear hc
    go_wp2_with fail
    exact hf
end Rv
namespace resolveMoreUpto
open Go.ChangeShapes Go.WideShapes Go.ChangeAt Go.RowKit
open Go.ChangeMaps (open_string shut_string)
open Base Args
theorem own:ownKnob Tryz.prog.godebug=none:=by kernel_rfl
theorem laidOut:laidOutB Tryz.prog=true:=by kernel_rfl
theorem laid_met (os:Os):laidMet Tryz.prog Rows.resolveMoreUptoRow.laid ((Pr.laidWorld os).forCall (fun _ _=>0) ⟨#[],#[.agg #[.slice none 0 0],.agg #[.slice none 0 0]],[]⟩).memory:=
 laidMet_of_run' 8 (by kernel_rfl) (by kernel_rfl)
theorem reads (os:Os) {H:Type} (enc:TypeId×Value→H):∃places,DataW.whole enc Tryz.prog ((Pr.laidWorld os).forCall (fun _ _=>0) ⟨#[],#[.agg #[.slice none 0 0],.agg #[.slice none 0 0]],[]⟩).memory Tryz.f4.params.toList Rows.resolveMoreSpec.vars false (#[.agg #[.slice none 0 0],.agg #[.slice none 0 0]]:Array Value).toList 8=some ([.agg [.nil],.agg [.nil]],[],places):=
 ⟨[],by kernel_rfl⟩
theorem lifted (os:Os) (started:os.Started) (H:Type) (enc:TypeId×Value→H) (F:Stop.Interp) :
  ReturnsInHanded {} Tryz.checked os 4 .any ((Rows.OpenSpec.upto Rows.resolveMoreSpec).preRow enc Tryz.prog Tryz.f4 Rows.resolveMoreUptoRow.domain false Rows.resolveMoreUptoRow.laid) (((Rows.OpenSpec.upto Rows.resolveMoreSpec).at F).post enc Tryz.prog Tryz.f4 false true false false):=by
 obtain⟨places,hx⟩:=reads os enc
 refine returnsInHanded_of_row (C:=Tryz.checked) (s:=(Rows.OpenSpec.upto Rows.resolveMoreSpec)) own started (by kernel_rfl) Tryz.func4
  (witness_row_at (enc:=enc) (C:=Tryz.checked) false (Pr.laidWorld os) #[.agg #[.slice none 0 0],.agg #[.slice none 0 0]] rfl (by kernel_rfl) (by kernel_rfl) (by kernel_rfl)
   (OpenSpec.preRow_of_cond 8 hx (by kernel_rfl) (fun k hk=>by cases hk;kernel_rfl) (by kernel_rfl) (laid_met os))) ?_
 intro W base args ds gs before hval0 hW hcnd hk0 hsz0 hL _ _
 have hk:=hk0 _ rfl
 have hval:∀(j:Nat) t v,Tryz.f4.params[j]?=some t→args[j]?=some v→Value.okWide Tryz.prog W .any base t v:=hval0
 have hW':=hW
 obtain⟨p,q,hAz,hV,rfl,hfz,hnd⟩:=hW
 have hA:DataW.TrodAll enc Tryz.prog W 0 (fun _=>true) true Tryz.f4.params.toList args.toList ds p:=hAz
 rw[Tryz.params4] at hA hval
 obtain⟨v0,vs0,d0,ds0,p0,q0,hargs,rfl,rfl,h0,r0⟩:=trodAll_cons hA
 obtain⟨v1,vs1,d1,ds1,p1,q1,rfl,rfl,rfl,h1,r1⟩:=trodAll_cons r0
 obtain⟨rfl,rfl,rfl⟩:=trodAll_nil r1
 obtain rfl:args = #[v0,v1]:=by cases args;simp_all
 obtain⟨rfl,rfl⟩:=trodVars_none hV
 have hbulk:=bulk_le hk
 have k0:=h0
 have lt0:∀x∈p0,x.block<W.heap.size:=by obtain⟨m,hm⟩:=k0;exact DataW.trod_lt m _ _ _ hm
 obtain⟨u0,n0,rfl,hS0,hB0⟩:=sch_arg (hval 0 24 v0 rfl rfl) h0
 have hz0:schB n0≤1048576:=Nat.le_trans hB0 (bulk_at hbulk (j:=0) rfl)
 have k1:=h1
 have lt1:∀x∈p1,x.block<W.heap.size:=by obtain⟨m,hm⟩:=k1;exact DataW.trod_lt m _ _ _ hm
 obtain⟨u1,n1,rfl,hS1,hB1⟩:=sch_arg (hval 1 24 v1 rfl rfl) h1
 have hz1:schB n1≤1048576:=Nat.le_trans hB1 (bulk_at hbulk (j:=1) rfl)
 clear hAz hval0
 refine (Rv.moreLaw_any u0 u1 n0 n1 W hS0 hS1 hz0 hz1 (Pr.tabs hL).1 (Pr.tabs hL).2).mono fun e W' ⟨he,bel⟩=>?_
 have bel:Below W.heap.size W W':=bel
 subst he
 exact⟨_,rfl,_,_,_,[],_,[],hW',trodAll_mk1 (shut_bool Tryz.underlying4 _),(trodAll_cons_mk (Below.trod laidOut (by kernel_rfl) (of_decide_eq_true (by kernel_rfl)) k0 bel lt0) (trodAll_cons_mk (Below.trod laidOut (by kernel_rfl) (of_decide_eq_true (by kernel_rfl)) k1 bel lt1) trodAll_mk0)),rfl,bel.frame _,fun h=>by cases h⟩
theorem and2 {a b:Bool} (h:a=true) (k:b=true):(a && b)=true:=by rw[h,k];rfl
set_option maxHeartbeats 4000000 in
theorem joined:joinedFacts Tryz.pinned.checked.prog 4 Tryz.f4 (Rows.OpenSpec.upto Rows.resolveMoreSpec).bare Rows.resolveMoreUptoRow=true:=by
 unfold joinedFacts
 repeat' (with_reducible refine and2 ?_ ?_)
 all_goals as_aux_lemma=>kernel_rfl
set_option maxHeartbeats 4000000 in
theorem said:Rows.ResolveMoreUptoSaid:=
 OpenClaim.holds_of_cond 4 Tryz.f4 rfl rfl rfl rfl rfl rfl rfl ⟨rfl,rfl,rfl,rfl,rfl⟩ rfl rfl rfl rfl rfl (by kernel_rfl) Tryz.func4 joined
  (of_decide_eq_true (by kernel_rfl)) (by unfold Func.isWrapper;first|(rw[if_pos (by decide +kernel)];kernel_rfl)|(rw[if_neg (by decide +kernel)];exact⟨rfl,rfl⟩))
  (fun os started H enc _ F=>by rw[OpenClaim.pre_eq_preRow];exact lifted os started H enc F)
theorem plain (f:FuncId) (fn:Func) (hf:Tryz.pinned.checked.prog.funcNamed "suffragan/suffraganlaw10.ResolveMore" = some f) (hfn:Tryz.pinned.checked.prog.funcs[f]?=some fn) :
  true=Tryz.pinned.checked.prog.looks []∧∀(j:Nat) t,fn.params[j]?=some t→Tryz.pinned.checked.prog.wantsStandIn t=false:=by
 obtain rfl:f=4:=Option.some.inj ((show Tryz.prog.funcNamed "suffragan/suffraganlaw10.ResolveMore" = some 4 by kernel_rfl).symm.trans hf) |>.symm
 obtain rfl:fn=Tryz.f4:=(Option.some.inj (Tryz.func4.symm.trans hfn)).symm
 refine⟨by kernel_rfl,fun j t ht=>?_⟩
 rw[Tryz.params4] at ht
 have hm:=Array.mem_of_getElem? ht
 simp only[Array.mem_def,List.mem_cons,List.mem_nil_iff,or_false,or_self] at hm
 subst hm
 exact (show Tryz.prog.wantsStandIn 24=false by kernel_rfl)
theorem proved:Rows.ResolveMoreUptoCardSaid:=
 Claim7.holds_tied_plain_at .later [] _ _ _ _ said (fun _ h=>by cases h) (by kernel_rfl) (fun _ h=>by cases h) resolveMoreUpto_row_tie rfl ⟨rfl,rfl⟩ (by kernel_rfl) rfl plain (by kernel_rfl)
#print axioms proved
end resolveMoreUpto
end Go.Proofs.YtmaoochjbpohdaaGreatDoor
