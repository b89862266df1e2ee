/- parse: what is read has no long lists: plain. -/
import Derived.Test.YtmaoochjbpohdaaGreatDoorQbS
set_option linter.unusedVariables false
set_option linter.unusedSimpArgs false
set_option maxRecDepth 100000
set_option maxHeartbeats 1000000
namespace Go.Proofs.YtmaoochjbpohdaaGreatDoor.Pr
open Lx
def LN (M:Nat) (d:Nd):Prop:=d.syms.length≤M∧d.items.length≤M∧d.fields.length≤M
def LB (M:Nat) (s:PS):Prop:=AllN (LN M) s∧s.ns.length+s.l.length≤M
def TB (M:Nat) (T:Bool→List Nat→PS→Res Nat):Prop:=∀u a s n s',T u a s=.ok n s'→LB M s→LB M s'
theorem on_le (s:PS):s.on.l.length≤s.l.length:=by show s.l.tail.length≤_;rw[List.length_tail];omega
theorem LB.on {M:Nat} {s:PS} (h:LB M s):LB M s.on:=⟨h.1.same rfl,by have:=on_le s;have:=h.2;show s.ns.length+s.on.l.length≤M;omega⟩
theorem LB.setN {M:Nat} {s:PS} (h:LB M s) (n:Nat) {f:Nd→Nd} (hf:∀d,LN M d→LN M (f d)):LB M (s.setN n f):=⟨h.1.setN n hf,by rw[setN_len];exact h.2⟩
section
variable {M:Nat} {T:Bool→List Nat→PS→Res Nat}
theorem itemR_lb (hT:TB M T) {s s':PS} {n:Nat} {x:ByteArray} {u:Unit} (h:itemR T s n x=.ok u s') (hp:LB M s) (hM:1≤M):LB M s':=by
 obtain⟨a,s1,h1,h2⟩:=Res.bind_ok h
 obtain⟨h5,rfl⟩:=mustR_ok h2
 exact ((hT _ _ _ _ _ h1 hp).setN n (f:=fun d=>{ d with items:=[a] }) fun d hd=>⟨hd.1,by simpa using hM,hd.2.2⟩).on
theorem unionR_lb (hT:TB M T) (n:Nat):∀(m:Nat) (l:List Nat) {s s':PS} {u:Unit},unionR T n m l s=.ok u s'→LB M s→l.length+m≤M→LB M s'
 | 0,l,s,s',u,h,_,_=>by cases h
 | m+1,l,s,s',u,h,hp,hm=>by
  rw[unionR] at h
  obtain⟨a,s1,h1,h2⟩:=Res.bind_ok h
  have hp1:=hT _ _ _ _ _ h1 hp
  split at h2
  ·injection h2 with _ h2
   subst h2
   exact hp1.on.setN n fun d hd=>⟨hd.1,by simp;omega,hd.2.2⟩
  ·obtain⟨v,s2,h5,h6⟩:=Res.bind_ok h2
   obtain⟨h7,rfl⟩:=mustR_ok h5
   exact unionR_lb hT n m _ h6 hp1.on (by simp;omega)
theorem symsR_lb (n:Nat):∀(m:Nat) (l:List ByteArray) {s s':PS} {u:Unit},symsR n m l s=.ok u s'→LB M s→l.length+m≤M→LB M s'
 | 0,l,s,s',u,h,_,_=>by cases h
 | m+1,l,s,s',u,h,hp,hm=>by
  rw[symsR] at h
  obtain⟨x,s1,h1,h2⟩:=Res.bind_ok h
  obtain⟨_,_,_,_,_,rfl⟩:=nameR_ok h1
  split at h2
  ·injection h2 with _ h2
   subst h2
   exact hp.on.on.setN n fun d hd=>⟨by simp;omega,hd.2⟩
  ·obtain⟨v,s2,h5,h6⟩:=Res.bind_ok h2
   obtain⟨h7,rfl⟩:=mustR_ok h5
   exact symsR_lb n m _ h6 hp.on.on (by simp;omega)
theorem LB.goes {M:Nat} {s:PS} (h:LB M s) (x:ByteArray):LB M (goesR s x).2:=by
 unfold goesR
 split
 ·exact h.on
 ·exact h
theorem fieldsR_lb (hT:TB M T) (n:Nat):∀(m:Nat) (l:List (ByteArray×Bool×Nat)) {s s':PS} {u:Unit},fieldsR T n m l s=.ok u s'→LB M s→l.length+m≤M→LB M s'
 | 0,l,s,s',u,h,_,_=>by cases h
 | m+1,l,s,s',u,h,hp,hm=>by
  rw[fieldsR] at h
  split at h
  ·injection h with _ h
   subst h
   exact hp.on.setN n fun d hd=>⟨hd.1,hd.2.1,by show l.length≤M;omega⟩
  ·obtain⟨x,s1,h1,h2⟩:=Res.bind_ok h
   obtain⟨_,_,_,_,_,rfl⟩:=nameR_ok h1
   obtain⟨v,s2,h3,h4⟩:=Res.bind_ok h2
   obtain⟨h5,rfl⟩:=mustR_ok h3
   obtain⟨t,s3,h6,h7⟩:=Res.bind_ok h4
   obtain⟨v2,s4,h10,h11⟩:=Res.bind_ok h7
   obtain⟨h12,rfl⟩:=mustR_ok h10
   exact fieldsR_lb hT n m _ h11 (hT _ _ _ _ _ h6 (hp.on.goes cQ).on).on (by simp;omega)
theorem definedR_lb (hT:TB M T) {s s':PS} {n:Nat} {k:Int} {u:Unit} (h:definedR T s n k=.ok u s') (hp:LB M s):LB M s':=by
 unfold definedR at h
 obtain⟨x,s1,h1,h2⟩:=Res.bind_ok h
 obtain⟨_,_,_,_,_,rfl⟩:=nameR_ok h1
 simp only at h2
 have hp2:LB M (s.on.called n x):=by
  have:=hp.on.setN n (f:=fun d=>{ d with name:=x }) fun d hd=>hd
  exact⟨this.1.same rfl,this.2⟩
 generalize s.on.called n x=s2 at h2 hp2
 have hl:=hp2.2
 have ho:=on_le s2
 split at h2
 ·obtain⟨v,s3,h5,h6⟩:=Res.bind_ok h2
  obtain⟨h7,rfl⟩:=mustR_ok h5
  exact symsR_lb n _ _ h6 hp2.on (by simp;omega)
 ·split at h2
  ·split at h2
   ·cases h2
   ·injection h2 with _ h2
    subst h2
    exact hp2.on.setN n fun d hd=>hd
  ·obtain⟨v,s3,h5,h6⟩:=Res.bind_ok h2
   obtain⟨h7,rfl⟩:=mustR_ok h5
   exact fieldsR_lb hT n _ _ h6 hp2.on (by simp;omega)
end
theorem typedR_lb (M:Nat):∀(fuel:Nat),TB M (typedR fuel)
 | fuel,u,a,s,n,s',h,hp=>by
  rw[typedR.eq_def] at h
  simp only at h
  split at h
  ·cases h
  ·next k hk=>
   split at h
   ·cases h
   ·split at h
    ·injection h with _ h
     subst h
     exact hp.on
    ·have hpos:=on_len (kindR_pos hk)
     have hl:=hp.2
     have hp1:LB M ({ s.on with ns:=s.ns++[Nd.ofKind k] }:PS):=⟨fun d hd=>by
      rcases List.mem_append.1 hd with hd|hd
      ·exact hp.1 d hd
      ·rw[List.mem_singleton] at hd;subst hd;exact⟨Nat.zero_le _,Nat.zero_le _,Nat.zero_le _⟩,by simp only[List.length_append,List.length_cons,List.length_nil];omega⟩
     have hM:1≤M:=by omega
     have hm:s.on.l.length≤M:=by omega
     generalize ({ s.on with ns:=s.ns++[Nd.ofKind k] }:PS)=s1 at h hp1
     cases fuel with
     | zero=>cases h
     | succ fuel=>
      have ih:=typedR_lb M fuel
      simp only at h
      split at h
      ·obtain⟨_,s2,h1,h2⟩:=Res.bind_ok h
       injection h2 with _ h2;subst h2
       exact itemR_lb ih h1 hp1 hM
      ·split at h
       ·obtain⟨_,s2,h1,h2⟩:=Res.bind_ok h
        injection h2 with _ h2;subst h2
        exact itemR_lb ih h1 hp1 hM
       ·split at h
        ·obtain⟨_,s2,h1,h2⟩:=Res.bind_ok h
         injection h2 with _ h2;subst h2
         exact unionR_lb ih _ _ _ h1 hp1 (by simpa using hm)
        ·split at h
         ·obtain⟨_,s2,h1,h2⟩:=Res.bind_ok h
          injection h2 with _ h2;subst h2
          exact definedR_lb ih h1 hp1
         ·injection h with _ h
          subst h
          exact hp1
theorem parse_lens (s:ByteArray):(parseP s).1.length≤1500∧∀d∈(parseP s).1,LN 1500 d:=by
 rcases parse_cases s with⟨h1,_⟩|⟨hw,n,s',ht,_,hp⟩
 ·rw[h1];exact⟨by simp,fun d hd=>by cases hd⟩
 ·have hl:(toks s).length≤1500:=by
   unfold words at hw
   split at hw
   ·cases hw
   ·have:=wordsR_len _ _ (by omega) hw;omega
  have:=typedR_lb 1500 20 _ _ _ _ _ ht ⟨fun d hd=>(by cases hd),by simpa using hl⟩
  rw[hp]
  exact⟨by have:=this.2;show s'.ns.length≤1500;omega,this.1⟩
def TF (L:List Tok):Prop:=∀t∈L,(t.k=3∧bs t.s=[])∨WTk (tk t)
def PtK (pt:Nat→Nd→Nd):Prop:=∀i d,(pt i d).k=d.k∧(pt i d).name=d.name
structure RQ (L:List Tok) (pt:Nat→Nd→Nd) (s:PS) (q:QS):Prop where
 l:s.l=L.drop q.at_
 lt:q.at_<L.length
 ns:∀i:Nat,q.ns[i]?=(s.ns[i]?).map (pt i)
 why:q.why=0
 nm:∀x,nameP x=true→s.nm x=calledN q.ns x
 kn:PtK pt
 new:∀i,s.ns.length≤i→pt i=id
section
variable {L:List Tok} {pt:Nat→Nd→Nd} {s:PS} {q:QS}
theorem RQ.len (h:RQ L pt s q):q.ns.length=s.ns.length:=by
 have h1:=h.ns q.ns.length
 have h2:=h.ns s.ns.length
 rcases Nat.lt_trichotomy q.ns.length s.ns.length with e|e|e
 ·rw[List.getElem?_eq_none (Nat.le_refl _),List.getElem?_eq_getElem e] at h1;cases h1
 ·exact e
 ·rw[List.getElem?_eq_getElem e,List.getElem?_eq_none (Nat.le_refl _)] at h2;cases h2
theorem drop_hd (L:List Tok) (i:Nat):hd (L.drop i)=L.getD i ⟨3,⟨#[]⟩,0⟩:=by
 unfold hd
 rw[List.headD_eq_head?_getD,List.head?_drop,List.getD]
theorem RQ.hd_ (h:RQ L pt s q):hd s.l=tkQ L q:=by rw[h.l,drop_hd];rfl
theorem RQ.on (h:RQ L pt s q) (hT:TokOk L) (hk:(tkQ L q).k≠3):RQ L pt s.on (onQ L q):=by
 rw[onQ_adv hT h.lt hk h.why]
 exact⟨by show s.l.tail=_;rw[h.l,List.tail_drop],tok_next hT h.lt hk,h.ns,h.why,h.nm,h.kn,h.new⟩
theorem RQ.bad {e:Nat} (h:RQ L pt s q):badQ L q true e={ q with why:=e,bad:=(hd s.l).a }:=by rw[badQ_true h.why,h.hd_]
theorem RQ.tf (h:RQ L pt s q) (hF:TF L):((tkQ L q).k=3∧bs (tkQ L q).s=[])∨WTk (tk (tkQ L q)):=by
 refine hF _ ?_
 unfold tkQ
 rw[List.getD,List.getElem?_eq_getElem h.lt]
 exact List.getElem_mem h.lt
theorem bs_inj {a b:ByteArray} (h:bs a=bs b):a=b:=by
 have:a.data=b.data:=Array.toList_inj.1 h
 cases a;cases b
 simp only at this
 rw[this]
theorem sign_tok {t:Tok} {c:UInt8} (hc:kindOf c=2) (hF:(t.k=3∧bs t.s=[])∨WTk (tk t)) (hs:t.s=⟨#[c]⟩):t.k=2:=by
 have hb:bs t.s=[c]:=by rw[hs];rfl
 rcases hF with⟨_,h⟩|h
 ·rw[hb] at h;cases h
 ·rcases h with⟨hk,d,r,e,hl,_⟩|⟨hk,d,r,e,hl,_⟩|⟨hk,_⟩
  ·have e:bs t.s=d::r:=e
   rw[hb] at e;injection e with e _;subst e
   have:=((byte_sorts c).1 hl).1;omega
  ·have e:bs t.s=d::r:=e
   rw[hb] at e;injection e with e _;subst e
   have:=((byte_sorts c).2.1 hl).1;omega
  ·exact hk
theorem RQ.here (h:RQ L pt s q) (hF:TF L) {c:UInt8} (hc:kindOf c=2):isT s ⟨#[c]⟩=hereQ L q ⟨#[c]⟩:=by
 unfold isT hereQ
 rw[h.hd_]
 by_cases hs:(tkQ L q).s=⟨#[c]⟩
 ·have:=sign_tok hc (h.tf hF) hs
  rw[this];simp[hs]
 ·simp[hs]
def OQ {α:Type} (L:List Tok) (pt:Nat→Nd→Nd) (r:Res α) (q':QS):Prop:=match r with
 | .ok _ s'=>RQ L pt s' q'
 | .bad a w=>q'.why=w∧q'.bad=a∧w≠0
theorem RQ.must (h:RQ L pt s q) (hT:TokOk L) (hF:TF L) {c:UInt8} (hc:kindOf c=2):OQ L pt (mustR s ⟨#[c]⟩) (signQ L q ⟨#[c]⟩):=by
 have he:=h.here hF hc
 unfold mustR
 by_cases ht:isT s ⟨#[c]⟩=true
 ·rw[if_pos ht]
  rw[he] at ht
  rw[signQ_good ht]
  exact h.on hT (by rw[(here_k ht).1];decide)
 ·rw[if_neg ht]
  have hf:hereQ L q ⟨#[c]⟩=false:=by rw[←he];simpa using ht
  rw[signQ_bad h.why hf,←h.hd_]
  exact⟨rfl,rfl,by decide⟩
theorem RQ.goes (h:RQ L pt s q) (hT:TokOk L) (hF:TF L) {c:UInt8} (hc:kindOf c=2):(goesR s ⟨#[c]⟩).1=hereQ L q ⟨#[c]⟩∧RQ L pt (goesR s ⟨#[c]⟩).2 (if hereQ L q ⟨#[c]⟩=true then onQ L q else q):=by
 have he:=h.here hF hc
 unfold goesR
 by_cases ht:isT s ⟨#[c]⟩=true
 ·rw[if_pos ht]
  rw[he] at ht
  rw[if_pos ht]
  exact⟨ht.symm,h.on hT (by rw[(here_k ht).1];decide)⟩
 ·rw[if_neg ht]
  have hf:hereQ L q ⟨#[c]⟩=false:=by rw[←he];simpa using ht
  rw[hf]
  exact⟨rfl,h⟩
theorem RQ.name (h:RQ L pt s q) (th:ByteArray→Bool) (b:Bool) (hb:nameP (tkQ L q).s=true→b=th (tkQ L q).s) :
  (∃x,nameR s th=.ok x s.on∧x=(tkQ L q).s∧(tkQ L q).k=0∧nameP x=true∧th x=false∧badQ L (nameQ L q) b 6=q)∨(∃w,nameR s th=.bad (hd s.l).a w∧w≠0∧badQ L (nameQ L q) b 6={ q with why:=w,bad:=(hd s.l).a }):=by
 unfold nameR
 rw[h.hd_]
 have hkw:=kw_eq (tkQ L q).s
 by_cases h1:(tkQ L q).k≠0∨kwP (tkQ L q).s=true∨nameP (tkQ L q).s=false
 ·rw[if_pos h1]
  refine .inr ⟨4,by unfold failR;rw[h.hd_],by decide,?_⟩
  have hbt:(decide ((tkQ L q).k≠0) || !nameP (tkQ L q).s || refKw (tkQ L q).s)=true:=by
   rw[←hkw]
   rcases h1 with h1|h1|h1<;>simp[h1]
  unfold nameQ
  rw[hbt,badQ_true h.why,badQ_why (by simp)]
 ·rw[if_neg h1]
  simp only[not_or,ne_eq,Decidable.not_not,Bool.not_eq_true,Bool.not_eq_false] at h1
  obtain⟨a1,a2,a3⟩:=h1
  have hbt:(decide ((tkQ L q).k≠0) || !nameP (tkQ L q).s || refKw (tkQ L q).s)=false:=by
   rw[←hkw]
   simp[a1,a2,a3]
  have hnq:nameQ L q=q:=by unfold nameQ;rw[hbt,badQ_false]
  rw[hnq,hb a3]
  by_cases h2:th (tkQ L q).s=true
  ·rw[if_pos h2,h2]
   exact .inr ⟨6,by unfold failR;rw[h.hd_],by decide,by rw[badQ_true h.why]⟩
  ·rw[if_neg h2]
   have h2:th (tkQ L q).s=false:=by simpa using h2
   rw[h2,badQ_false]
   exact .inl ⟨_,rfl,rfl,a1,a3,h2,rfl⟩
def upd (pt:Nat→Nd→Nd) (n:Nat) (f:Nd→Nd):Nat→Nd→Nd:=fun i=>if i=n then f else pt i
theorem upd_k (h:PtK pt) (n:Nat) {f:Nd→Nd} (hf:∀d,(f d).k=d.k∧(f d).name=d.name):PtK (upd pt n f):=fun i d=>by
 unfold upd
 split
 ·exact hf d
 ·exact h i d
theorem calledN_congr {a b:List Nd} (h:∀i:Nat,(a[i]?).map (fun d=>(d.k,d.name))=(b[i]?).map fun d=>(d.k,d.name)) (x:ByteArray):calledN a x=calledN b x:=by
 have e:a.map (fun d=>(d.k,d.name))=b.map fun d=>(d.k,d.name):=by
  apply List.ext_getElem?
  intro i
  rw[List.getElem?_map,List.getElem?_map]
  exact h i
 have key:∀l:List Nd,calledN l x=(l.map fun d=>(d.k,d.name)).findIdx? fun p=>decide (9≤p.1) && decide (p.2=x):=by
  intro l
  unfold calledN
  rw[List.findIdx?_map]
  rfl
 rw[key,key,e]
theorem RQ.openN (h:RQ L pt s q) (n:Nat) (hn:n<s.ns.length) (g f:Nd→Nd) (hf:∀d,(f d).k=d.k∧(f d).name=d.name) (hg:∀d,g (pt n d)=f d):RQ L (upd pt n f) s (q.setN n g):=by
 have hns:∀i:Nat,(q.setN n g).ns[i]?=(s.ns[i]?).map (upd pt n f i):=fun i=>by
  show (q.ns.modify n g)[i]?=_
  rw[List.getElem?_modify,h.ns i]
  unfold upd
  by_cases hi:n=i
  ·subst hi
   simp only[if_true]
   cases s.ns[n]? with
   | none=>rfl
   | some d=>simp[hg d]
  ·rw[if_neg (fun e=>hi e.symm)]
   cases s.ns[i]?<;>simp[hi]
 refine⟨h.l,h.lt,hns,h.why,fun x hx=>?_,upd_k h.kn n hf,fun i hi=>?_⟩
 ·rw[h.nm x hx]
  refine calledN_congr (fun i=>?_) x
  rw[hns i,h.ns i]
  cases s.ns[i]? with
  | none=>rfl
  | some d=>
   simp only[Option.map_some,Option.some.injEq,Prod.mk.injEq]
   have h1:=h.kn i d
   have h2:=upd_k h.kn n hf i d
   exact⟨h1.1.trans h2.1.symm,h1.2.trans h2.2.symm⟩
 ·unfold upd
  rw[if_neg (by omega)]
  exact h.new i hi
theorem RQ.shutN {n:Nat} {f:Nd→Nd} (h:RQ L (upd pt n f) s q) (hp:PtK pt) (hn:n<s.ns.length) (hid:pt n=id) (hnew:∀i,s.ns.length≤i→pt i=id) (hf:∀d,(f d).k=d.k∧(f d).name=d.name):RQ L pt (s.setN n f) q:=by
 refine⟨h.l,h.lt,fun i=>?_,h.why,h.nm,hp,fun i hi=>hnew i (by rw[setN_len] at hi;exact hi)⟩
 rw[h.ns i]
 show _=((s.ns.modify n f)[i]?).map (pt i)
 rw[List.getElem?_modify]
 unfold upd
 by_cases hi:n=i
 ·subst hi
  simp only[if_true,hid]
  cases s.ns[n]?<;>rfl
 ·rw[if_neg (fun e=>hi e.symm)]
  cases s.ns[i]?<;>simp[hi]
theorem RQ.nd (h:RQ L pt s q) {n:Nat} (hn:n<s.ns.length):q.nd n=pt n (s.ns.getD n (Nd.ofKind 0)):=by
 unfold QS.nd
 rw[List.getD,h.ns n,List.getD,List.getElem?_eq_getElem hn]
 rfl
def HTQ (L:List Tok) (T:Bool→List Nat→PS→Res Nat) (TQ:QT):Prop:=∀u l pt s q,RQ L pt s q→(∀n s',T u l s=.ok n s'→(TQ u l q).1=n∧s.ns.length≤s'.ns.length)∧OQ L pt (T u l s) (TQ u l q).2
section
variable {T:Bool→List Nat→PS→Res Nat} {TQ:QT}
theorem oq_bad {α:Type} {a w:Nat} {q':QS} (h1:q'.why=w) (h2:q'.bad=a) (h3:w≠0):OQ L pt (.bad a w:Res α) q':=⟨h1,h2,h3⟩
theorem item_q (hT:TokOk L) (hF:TF L) (H:HTQ L T TQ) {n:Nat} {c:UInt8} (hc:kindOf c=2) (h:RQ L pt s q) (hn:n<s.ns.length) (hid:pt n=id):OQ L pt (itemR T s n ⟨#[c]⟩) (itemQ L TQ n ⟨#[c]⟩ q):=by
 obtain⟨h1,h2⟩:=H false [] pt s q h
 unfold itemR itemQ
 cases hr:T false [] s with
 | bad a w=>
  rw[hr] at h2
  obtain⟨e1,e2,e3⟩:=h2
  rw[signQ_no (by show (TQ false [] q).2.why≠0;rw[e1];exact e3)]
  exact⟨e1,e2,e3⟩
 | ok x s1=>
  rw[hr] at h2
  obtain⟨e1,e2⟩:=h1 x s1 hr
  rw[e1]
  have h2:RQ L pt s1 (TQ false [] q).2:=h2
  have ho:=h2.openN n (by omega) (fun d=>{ d with items:=[x] }) (fun d=>{ d with items:=[x] }) (fun d=>⟨rfl,rfl⟩) (fun d=>by rw[hid];rfl)
  have hs:=ho.shutN h2.kn (by omega) hid h2.new (fun d=>⟨rfl,rfl⟩)
  exact hs.must hT hF hc
theorem union_q (hT:TokOk L) (hF:TF L) (H:HTQ L T TQ) {n:Nat}:∀(m:Nat) (l:List Nat) (s:PS) (q:QS) (m2:Nat),RQ L (upd pt n fun d=>{ d with items:=l }) s q→n<s.ns.length→PtK pt→pt n=id→(∀i,s.ns.length≤i→pt i=id)→s.l.length≤m→s.l.length≤m2→(∀u a s n s',T u a s=.ok n s'→s'.l.length<s.l.length)→OQ L pt (unionR T n m l s) (allQ L TQ n m2 q)
 | 0,l,s,q,m2,h,_,_,_,_,hm,_,_=>by
  have:=h.lt
  rw[h.l,List.length_drop] at hm
  omega
 | m+1,l,s,q,0,h,_,_,_,_,_,hm2,_=>by
  have:=h.lt
  rw[h.l,List.length_drop] at hm2
  omega
 | m+1,l,s,q,m2+1,h,hn,hp,hid,hnew,hm,hm2,hlen=>by
  rw[unionR,allQ,if_neg (by rw[h.why];simp)]
  have hit:(q.nd n).items=l:=by rw[h.nd hn];unfold upd;rw[if_pos rfl]
  rw[hit]
  obtain⟨h1,h2⟩:=H true l _ s q h
  cases hr:T true l s with
  | bad a w=>
   rw[hr] at h2
   obtain⟨e1,e2,e3⟩:=h2
   have hw:((TQ true l q).2.setN n fun d=>{ d with items:=d.items++[(TQ true l q).1] }).why≠0:=by show (TQ true l q).2.why≠0;rw[e1];exact e3
   have hfin:∀q':QS,q'=((TQ true l q).2.setN n fun d=>{ d with items:=d.items++[(TQ true l q).1] })→OQ L pt ((Res.bad a w:Res Nat).bind fun x s1=>if isT s1 cPaC then .ok () (s1.on.setN n fun d=>{ d with items:=l++[x] }) else (mustR s1 cBar).bind fun _ s2=>unionR T n m (l++[x]) s2) q':=fun q' e=>by rw[e];exact⟨e1,e2,e3⟩
   split
   ·exact hfin _ (onQ_no hw)
   ·refine hfin _ ?_
    rw[signQ_no hw]
    cases m2 with
    | zero=>rfl
    | succ m2=>rw[allQ,if_pos hw]
  | ok x s1=>
   rw[hr] at h2
   obtain⟨e1,e2⟩:=h1 x s1 hr
   have hl1:=hlen _ _ _ _ _ hr
   rw[e1]
   have h2:RQ L (upd pt n fun d=>{ d with items:=l }) s1 (TQ true l q).2:=h2
   have ho:RQ L (upd pt n fun d=>{ d with items:=l++[x] }) s1 ((TQ true l q).2.setN n fun d=>{ d with items:=d.items++[x] }):=by
    have:=h2.openN n (by omega) (fun d=>{ d with items:=d.items++[x] }) (fun d=>{ d with items:=l++[x] }) (fun d=>⟨rfl,rfl⟩) (fun d=>by unfold upd;rw[if_pos rfl])
    have e:upd (upd pt n fun d=>{ d with items:=l }) n (fun d=>{ d with items:=l++[x] })=upd pt n fun d=>{ d with items:=l++[x] }:=by
     funext i;unfold upd;split<;>rfl
    rwa [e] at this
   generalize ((TQ true l q).2.setN n fun d=>{ d with items:=d.items++[x] })=q1 at ho ⊢
   show OQ L pt (if isT s1 cPaC then .ok () (s1.on.setN n fun d=>{ d with items:=l++[x] }) else (mustR s1 cBar).bind fun _ s2=>unionR T n m (l++[x]) s2) _
   have hh:=ho.here hF (c:=41) (by decide)
   rw[show (⟨#[41]⟩:ByteArray)=cPaC from rfl] at hh
   by_cases ht:isT s1 cPaC=true
   ·rw[if_pos ht,if_pos (by rw[←hh];exact ht)]
    rw[hh] at ht
    have hon:=ho.on hT (by rw[(here_k ht).1];decide)
    exact hon.shutN hp (by show n<s1.ns.length;omega) hid (fun i hi=>hnew i (by have hi:s1.ns.length≤i:=hi;omega)) (fun d=>⟨rfl,rfl⟩)
   ·rw[if_neg ht,if_neg (by rw[←hh];exact ht)]
    have hmu:=ho.must hT hF (c:=124) (by decide)
    rw[show (⟨#[124]⟩:ByteArray)=cBar from rfl] at hmu
    cases hm1:mustR s1 cBar with
    | bad a w=>
     rw[hm1] at hmu
     obtain⟨e1,e2,e3⟩:=hmu
     have hw:(signQ L q1 cBar).why≠0:=by rw[e1];exact e3
     have:allQ L TQ n m2 (signQ L q1 cBar)=signQ L q1 cBar:=by
      cases m2 with
      | zero=>rfl
      | succ m2=>rw[allQ,if_pos hw]
     rw[this]
     exact⟨e1,e2,e3⟩
    | ok u s2=>
     rw[hm1] at hmu
     obtain⟨a1,a2⟩:=mustR_ok hm1
     have hon:=on_le s1
     exact union_q hT hF H m (l++[x]) s2 _ m2 hmu (by rw[a2];show n<s1.ns.length;omega) hp hid (fun i hi=>hnew i (by rw[a2] at hi;have hi:s1.ns.length≤i:=hi;omega)) (by rw[a2];omega) (by rw[a2];omega) hlen
end
end
section
variable {L:List Tok} {pt:Nat→Nd→Nd} {s:PS} {q:QS}
theorem upd_upd (pt:Nat→Nd→Nd) (n:Nat) (f g:Nd→Nd):upd (upd pt n f) n g=upd pt n g:=by funext i;unfold upd;split<;>rfl
theorem RQ.openId (h:RQ L pt s q) {n:Nat} {f:Nd→Nd} (hn:n<s.ns.length) (hid:pt n=id) (hf:∀d,(f d).k=d.k∧(f d).name=d.name) (hd:∀d,s.ns[n]?=some d→f d=d):RQ L (upd pt n f) s q:=by
 refine⟨h.l,h.lt,fun i=>?_,h.why,h.nm,upd_k h.kn n hf,fun i hi=>by unfold upd;rw[if_neg (by omega)];exact h.new i hi⟩
 rw[h.ns i]
 unfold upd
 by_cases hi:i=n
 ·subst hi
  simp only[if_true,hid]
  cases hx:s.ns[i]? with
  | none=>rfl
  | some d=>simp[hd d hx]
 ·rw[if_neg hi]
theorem tk_set (L:List Tok) (q:QS) (n:Nat) (f:Nd→Nd):tkQ L (q.setN n f)=tkQ L q:=rfl
theorem syms_q (hT:TokOk L) (hF:TF L) {n:Nat}:∀(m:Nat) (l:List ByteArray) (s:PS) (q:QS) (m2:Nat),RQ L (upd pt n fun d=>{ d with syms:=l }) s q→n<s.ns.length→PtK pt→pt n=id→(∀i,s.ns.length≤i→pt i=id)→s.l.length≤m→s.l.length≤m2→OQ L pt (symsR n m l s) (symsQ L n m2 q)
 | 0,l,s,q,m2,h,_,_,_,_,hm,_=>by
  have:=h.lt
  rw[h.l,List.length_drop] at hm
  omega
 | m+1,l,s,q,0,h,_,_,_,_,_,hm2=>by
  have:=h.lt
  rw[h.l,List.length_drop] at hm2
  omega
 | m+1,l,s,q,m2+1,h,hn,hp,hid,hnew,hm,hm2=>by
  rw[symsR,symsQ,if_neg (by rw[h.why];simp)]
  have hit:(q.nd n).syms=l:=by rw[h.nd hn];unfold upd;rw[if_pos rfl]
  unfold symQ
  rw[hit]
  rcases h.name (fun x=>l.any fun y=>decide (y=x)) (l.any fun y=>decide (y=(tkQ L q).s)) (fun _=>rfl) with⟨x,h1,h2,h3,h4,h5,h6⟩|⟨w,h1,h2,h3⟩
  ·rw[h1,h6,←h2]
   have ho:RQ L (upd pt n fun d=>{ d with syms:=l++[x] }) s (q.setN n fun d=>{ d with syms:=d.syms++[x] }):=by
    have:=h.openN n hn (fun d=>{ d with syms:=d.syms++[x] }) (fun d=>{ d with syms:=l++[x] }) (fun d=>⟨rfl,rfl⟩) (fun d=>by unfold upd;rw[if_pos rfl])
    rwa [upd_upd] at this
   have ho:=ho.on hT (by rw[tk_set,h3];decide)
   generalize onQ L (q.setN n fun d=>{ d with syms:=d.syms++[x] })=q1 at ho ⊢
   have hpos:s.l≠[]:=by
    intro e
    have:=h.lt
    have h9:=h.l
    rw[e] at h9
    have:(L.drop q.at_).length=0:=by rw[←h9];rfl
    rw[List.length_drop] at this
    omega
   have hol:=on_len hpos
   show OQ L pt (if isT s.on cGt then .ok () (s.on.on.setN n fun d=>{ d with syms:=l++[x] }) else (mustR s.on cCom).bind fun _ s2=>symsR n m (l++[x]) s2) _
   have hh:=ho.here hF (c:=62) (by decide)
   rw[show (⟨#[62]⟩:ByteArray)=cGt from rfl] at hh
   by_cases ht:isT s.on cGt=true
   ·rw[if_pos ht,if_pos (by rw[←hh];exact ht)]
    rw[hh] at ht
    have hon:=ho.on hT (by rw[(here_k ht).1];decide)
    exact hon.shutN hp (by show n<s.ns.length;omega) hid (fun i hi=>hnew i hi) (fun d=>⟨rfl,rfl⟩)
   ·rw[if_neg ht,if_neg (by rw[←hh];exact ht)]
    have hmu:=ho.must hT hF (c:=44) (by decide)
    rw[show (⟨#[44]⟩:ByteArray)=cCom from rfl] at hmu
    cases hm1:mustR s.on cCom with
    | bad a w=>
     rw[hm1] at hmu
     obtain⟨e1,e2,e3⟩:=hmu
     have hw:(signQ L q1 cCom).why≠0:=by rw[e1];exact e3
     have:symsQ L n m2 (signQ L q1 cCom)=signQ L q1 cCom:=by
      cases m2 with
      | zero=>rfl
      | succ m2=>rw[symsQ,if_pos hw]
     rw[this]
     exact⟨e1,e2,e3⟩
    | ok u s2=>
     rw[hm1] at hmu
     obtain⟨a1,a2⟩:=mustR_ok hm1
     have hon:=on_le s.on
     exact syms_q hT hF m (l++[x]) s2 _ m2 hmu (by rw[a2];show n<s.ns.length;omega) hp hid (fun i hi=>hnew i (by rw[a2] at hi;exact hi)) (by rw[a2];omega) (by rw[a2];omega)
  ·rw[h1,h3]
   have hfin:∀q':QS,q'=(({ q with why:=w,bad:=(hd s.l).a }:QS).setN n fun d=>{ d with syms:=d.syms++[(tkQ L q).s] })→OQ L pt ((Res.bad (hd s.l).a w:Res ByteArray).bind fun x s1=>if isT s1 cGt then .ok () (s1.on.setN n fun d=>{ d with syms:=l++[x] }) else (mustR s1 cCom).bind fun _ s2=>symsR n m (l++[x]) s2) q':=fun q' e=>by rw[e];exact⟨rfl,rfl,h2⟩
   have hw:(({ q with why:=w,bad:=(hd s.l).a }:QS).setN n fun d=>{ d with syms:=d.syms++[(tkQ L q).s] }).why≠0:=h2
   rw[onQ_no hw]
   split
   ·exact hfin _ (onQ_no hw)
   ·refine hfin _ ?_
    rw[signQ_no hw]
    cases m2 with
    | zero=>rfl
    | succ m2=>rw[symsQ,if_pos hw]
variable {T:Bool→List Nat→PS→Res Nat} {TQ:QT}
theorem fields_q (hT:TokOk L) (hF:TF L) (H:HTQ L T TQ) {n:Nat}:∀(m:Nat) (l:List (ByteArray×Bool×Nat)) (s:PS) (q:QS) (m2:Nat),RQ L (upd pt n fun d=>{ d with fields:=l }) s q→n<s.ns.length→PtK pt→pt n=id→(∀i,s.ns.length≤i→pt i=id)→s.l.length≤m→s.l.length≤m2→(∀u a s n s',T u a s=.ok n s'→s'.l.length<s.l.length)→OQ L pt (fieldsR T n m l s) (fieldsQ L TQ n m2 q)
 | 0,l,s,q,m2,h,_,_,_,_,hm,_,_=>by
  have:=h.lt
  rw[h.l,List.length_drop] at hm
  omega
 | m+1,l,s,q,0,h,_,_,_,_,_,hm2,_=>by
  have:=h.lt
  rw[h.l,List.length_drop] at hm2
  omega
 | m+1,l,s,q,m2+1,h,hn,hp,hid,hnew,hm,hm2,hlen=>by
  rw[fieldsR,fieldsQ]
  have hh:=h.here hF (c:=125) (by decide)
  rw[show (⟨#[125]⟩:ByteArray)=cCuC from rfl] at hh
  by_cases ht:isT s cCuC=true
  ·rw[if_pos ht,if_pos (.inr (by rw[←hh];exact ht))]
   rw[hh] at ht
   rw[signQ_good ht]
   have hon:=h.on hT (by rw[(here_k ht).1];decide)
   exact hon.shutN hp (by show n<s.ns.length;omega) hid (fun i hi=>hnew i hi) (fun d=>⟨rfl,rfl⟩)
  ·rw[if_neg ht,if_neg (by rw[←hh,h.why];simp[ht])]
   have hit:(q.nd n).fields=l:=by rw[h.nd hn];unfold upd;rw[if_pos rfl]
   have hfa:fldA L n q=onQ L (badQ L (nameQ L q) (l.any fun f=>decide (f.1=(tkQ L q).s)) 6):=by unfold fldA;rw[hit]
   rcases h.name (fun x=>l.any fun f=>decide (f.1=x)) (l.any fun f=>decide (f.1=(tkQ L q).s)) (fun _=>rfl) with⟨x,h1,h2,h3,h4,h5,h6⟩|⟨w,h1,h2,h3⟩
   ·rw[h6] at hfa
    rw[h1,←h2]
    have h1s:=h.on hT (by rw[h3];decide)
    rw[←hfa] at h1s
    obtain⟨g1,g2⟩:=h1s.goes hT hF (c:=63) (by decide)
    rw[show (⟨#[63]⟩:ByteArray)=cQ from rfl] at g1 g2
    have hmu:=g2.must hT hF (c:=58) (by decide)
    rw[show (⟨#[58]⟩:ByteArray)=cCol from rfl] at hmu
    have hfq:signQ L (if hereQ L (fldA L n q) cQ=true then onQ L (fldA L n q) else fldA L n q) cCol=fldQ L n q:=rfl
    rw[hfq] at hmu
    rw[←g1]
    have hpos:s.l≠[]:=by
     intro e
     have:=h.lt
     have h9:=h.l
     rw[e] at h9
     have:(L.drop q.at_).length=0:=by rw[←h9];rfl
     rw[List.length_drop] at this
     omega
    have hol:=on_len hpos
    show OQ L pt ((mustR (goesR s.on cQ).2 cCol).bind fun _ s2=>(T false [] s2).bind fun t s3=>(mustR s3 cSem).bind fun _ s4=>fieldsR T n m (l++[(x,(goesR s.on cQ).1,t)]) s4) _
    have hgl:(goesR s.on cQ).2.l.length≤s.on.l.length∧(goesR s.on cQ).2.ns.length=s.ns.length:=by
     unfold goesR
     split
     ·exact⟨on_le _,rfl⟩
     ·exact⟨Nat.le_refl _,rfl⟩
    cases hm1:mustR (goesR s.on cQ).2 cCol with
    | bad a w=>
     rw[hm1] at hmu
     obtain⟨e1,e2,e3⟩:=hmu
     rw[if_pos (by rw[e1];exact e3)]
     exact⟨e1,e2,e3⟩
    | ok u s2=>
     rw[hm1] at hmu
     obtain⟨a1,a2⟩:=mustR_ok hm1
     have hmu:RQ L _ s2 (fldQ L n q):=hmu
     rw[if_neg (by rw[hmu.why];simp)]
     obtain⟨t1,t2⟩:=H false [] _ s2 (fldQ L n q) hmu
     show OQ L pt ((T false [] s2).bind fun t s3=>(mustR s3 cSem).bind fun _ s4=>fieldsR T n m (l++[(x,(goesR s.on cQ).1,t)]) s4) _
     have hon2:=on_le (goesR s.on cQ).2
     have hs2l:s2.l.length<s.l.length:=by rw[a2];omega
     have hs2n:s2.ns.length=s.ns.length:=by rw[a2];exact hgl.2
     cases hr:T false [] s2 with
     | bad a w=>
      rw[hr] at t2
      obtain⟨e1,e2,e3⟩:=t2
      rw[signQ_no (by rw[e1];exact e3)]
      have hw:((TQ false [] (fldQ L n q)).2.setN n fun d=>{ d with fields:=d.fields++[(x,(goesR s.on cQ).1,(TQ false [] (fldQ L n q)).1)] }).why≠0:=by show (TQ false [] (fldQ L n q)).2.why≠0;rw[e1];exact e3
      have:fieldsQ L TQ n m2 ((TQ false [] (fldQ L n q)).2.setN n fun d=>{ d with fields:=d.fields++[(x,(goesR s.on cQ).1,(TQ false [] (fldQ L n q)).1)] })=((TQ false [] (fldQ L n q)).2.setN n fun d=>{ d with fields:=d.fields++[(x,(goesR s.on cQ).1,(TQ false [] (fldQ L n q)).1)] }):=by
       cases m2 with
       | zero=>rfl
       | succ m2=>rw[fieldsQ,if_pos (.inl hw),signQ_no hw]
      rw[this]
      exact⟨e1,e2,e3⟩
     | ok t s3=>
      rw[hr] at t2
      obtain⟨e1,e2⟩:=t1 t s3 hr
      have hl3:=hlen _ _ _ _ _ hr
      have t2:RQ L _ s3 (TQ false [] (fldQ L n q)).2:=t2
      rw[e1]
      have hmu3:=t2.must hT hF (c:=59) (by decide)
      rw[show (⟨#[59]⟩:ByteArray)=cSem from rfl] at hmu3
      show OQ L pt ((mustR s3 cSem).bind fun _ s4=>fieldsR T n m (l++[(x,(goesR s.on cQ).1,t)]) s4) _
      cases hm4:mustR s3 cSem with
      | bad a w=>
       rw[hm4] at hmu3
       obtain⟨f1,f2,f3⟩:=hmu3
       have hw:((signQ L (TQ false [] (fldQ L n q)).2 cSem).setN n fun d=>{ d with fields:=d.fields++[(x,(goesR s.on cQ).1,t)] }).why≠0:=by show (signQ L (TQ false [] (fldQ L n q)).2 cSem).why≠0;rw[f1];exact f3
       have:fieldsQ L TQ n m2 ((signQ L (TQ false [] (fldQ L n q)).2 cSem).setN n fun d=>{ d with fields:=d.fields++[(x,(goesR s.on cQ).1,t)] })=((signQ L (TQ false [] (fldQ L n q)).2 cSem).setN n fun d=>{ d with fields:=d.fields++[(x,(goesR s.on cQ).1,t)] }):=by
        cases m2 with
        | zero=>rfl
        | succ m2=>rw[fieldsQ,if_pos (.inl hw),signQ_no hw]
       rw[this]
       exact⟨f1,f2,f3⟩
      | ok u s4=>
       rw[hm4] at hmu3
       obtain⟨b1,b2⟩:=mustR_ok hm4
       have hmu3:RQ L _ s4 (signQ L (TQ false [] (fldQ L n q)).2 cSem):=hmu3
       have hon4:=on_le s3
       have hs4:s4.ns.length=s3.ns.length:=by rw[b2];rfl
       have ho:RQ L (upd pt n fun d=>{ d with fields:=l++[(x,(goesR s.on cQ).1,t)] }) s4 ((signQ L (TQ false [] (fldQ L n q)).2 cSem).setN n fun d=>{ d with fields:=d.fields++[(x,(goesR s.on cQ).1,t)] }):=by
        have:=hmu3.openN n (by omega) (fun d=>{ d with fields:=d.fields++[(x,(goesR s.on cQ).1,t)] }) (fun d=>{ d with fields:=l++[(x,(goesR s.on cQ).1,t)] }) (fun d=>⟨rfl,rfl⟩) (fun d=>by unfold upd;rw[if_pos rfl])
        rwa [upd_upd] at this
       exact fields_q hT hF H m _ s4 _ m2 ho (by omega) hp hid (fun i hi=>hnew i (by omega)) (by rw[b2];omega) (by rw[b2];omega) hlen
   ·rw[h1]
    rw[h3] at hfa
    have hwa:(fldA L n q)={ q with why:=w,bad:=(hd s.l).a }:=by rw[hfa];exact onQ_no h2
    have hwf:fldQ L n q={ q with why:=w,bad:=(hd s.l).a }:=by
     unfold fldQ
     rw[hwa]
     have e:∀b:Bool,(if b=true then onQ L { q with why:=w,bad:=(hd s.l).a } else { q with why:=w,bad:=(hd s.l).a })={ q with why:=w,bad:=(hd s.l).a }:=fun b=>by
      split
      ·exact onQ_no h2
      ·rfl
     rw[e]
     exact signQ_no h2 _
    rw[hwf,if_pos h2]
    exact⟨rfl,rfl,h2⟩
theorem calledN_at' {ns:List Nd} {x:ByteArray} {i:Nat} {d:Nd} (h:ns[i]?=some d) (hp:(decide (9≤d.k) && decide (d.name=x))=true) (hn:∀(j:Nat),j<i→∀d,ns[j]?=some d→(decide (9≤d.k) && decide (d.name=x))=false):calledN ns x=some i:=by
 unfold calledN
 rw[List.findIdx?_eq_some_iff_getElem]
 obtain⟨hi,he⟩:=List.getElem?_eq_some_iff.1 h
 refine⟨hi,by rw[he];exact hp,fun j hj=>?_⟩
 have:=hn j hj _ (List.getElem?_eq_getElem (by omega))
 rw[this];simp
theorem RQ.called (h:RQ L pt s q) {n:Nat} {k:Int} {x:ByteArray} (hid:pt n=id) (hd:s.ns[n]?=some (Nd.ofKind k)) (hk:9≤k) (hx:nameP x=true) (hno:s.nm x=none):RQ L pt (s.called n x) (q.setN n fun d=>{ d with name:=x }):=by
 have hq:q.ns[n]?=some (Nd.ofKind k):=by rw[h.ns n,hd,hid];rfl
 have hn:n<q.ns.length:=(List.getElem?_eq_some_iff.1 hq).1
 have hns:∀i:Nat,(q.setN n fun d=>{ d with name:=x }).ns[i]?=((s.called n x).ns[i]?).map (pt i):=fun i=>by
  show (q.ns.modify n _)[i]?=((s.ns.modify n _)[i]?).map _
  rw[List.getElem?_modify,List.getElem?_modify,h.ns i]
  by_cases hi:n=i
  ·subst hi
   simp only[if_true,hid]
   cases s.ns[n]?<;>rfl
  ·cases s.ns[i]?<;>simp[hi]
 refine⟨h.l,h.lt,hns,h.why,fun y hy=>?_,h.kn,fun i hi=>h.new i (by have e:(s.called n x).ns.length=s.ns.length:=setN_len _ _ _;omega)⟩
 have hxe:x≠⟨#[]⟩:=by rintro rfl;revert hx;decide
 have hye:y≠⟨#[]⟩:=by rintro rfl;revert hy;decide
 have hcx:calledN q.ns x=none:=by rw[←h.nm x hx];exact hno
 have hcn:∀d∈q.ns,(decide (9≤d.k) && decide (d.name=x))=false:=by
  unfold calledN at hcx
  rw[List.findIdx?_eq_none_iff] at hcx
  exact hcx
 show (if y=x then some n else s.nm y)=_
 by_cases hyx:y=x
 ·rw[if_pos hyx,hyx]
  refine (calledN_at' (d:={ Nd.ofKind k with name:=x }) ?_ ?_ ?_).symm
  ·show (q.ns.modify n _)[n]?=_
   rw[List.getElem?_modify,hq];simp
  ·have:decide (9≤(Nd.ofKind k).k)=true:=decide_eq_true hk
   show (decide (9≤k) && decide (x=x))=true
   simp[hk]
  ·intro j hj d hdj
   have hdj:(q.ns.modify n _)[j]?=some d:=hdj
   rw[List.getElem?_modify] at hdj
   have hne:¬n=j:=by omega
   simp[hne] at hdj
   exact hcn d (List.mem_of_getElem? hdj)
 ·rw[if_neg hyx,h.nm y hy]
  have key:∀l:List Nd,l[n]?=some (Nd.ofKind k)→calledN (l.modify n fun d=>{ d with name:=x }) y=calledN l y:=by
   intro l hl
   have hp:∀i:Nat,((l.modify n fun d=>{ d with name:=x })[i]?).map (fun d=>decide (9≤d.k) && decide (d.name=y))=(l[i]?).map fun d=>decide (9≤d.k) && decide (d.name=y):=fun i=>by
    rw[List.getElem?_modify]
    by_cases hi:n=i
    ·subst hi
     rw[hl]
     simp only[if_true,Option.map_some,Nd.ofKind]
     have e1:decide (x=y)=false:=decide_eq_false (fun e=>hyx e.symm)
     have e2:decide ((⟨#[]⟩:ByteArray)=y)=false:=decide_eq_false (fun e=>hye e.symm)
     show some (decide (9≤k) && decide (x=y))=some (decide (9≤k) && decide ((⟨#[]⟩:ByteArray)=y))
     rw[e1,e2]
    ·cases l[i]?<;>simp[hi]
   have e:(l.modify n fun d=>{ d with name:=x }).map (fun d=>decide (9≤d.k) && decide (d.name=y))=l.map fun d=>decide (9≤d.k) && decide (d.name=y):=by
    apply List.ext_getElem?
    intro i
    rw[List.getElem?_map,List.getElem?_map]
    exact hp i
   have k2:∀l:List Nd,calledN l y=(l.map fun d=>decide (9≤d.k) && decide (d.name=y)).findIdx? id:=by
    intro l
    unfold calledN
    rw[List.findIdx?_map]
    rfl
   rw[k2,k2,e]
  exact (key q.ns hq).symm
end
section
variable {L:List Tok} {pt:Nat→Nd→Nd} {s:PS} {q:QS}
variable {T:Bool→List Nat→PS→Res Nat} {TQ:QT}
def hd' (s:PS):Tok:=hd s.l
theorem sizeQ_no (h:q.why≠0) (n:Nat):(sizeQ L n q).why=q.why∧(sizeQ L n q).bad=q.bad:=by
 unfold sizeQ
 rw[onQ_why,onQ_bad]
 show (badQ _ _ _ _).why=_∧(badQ _ _ _ _).bad=_
 rw[badQ_why h]
 exact⟨rfl,rfl⟩
theorem symsQ_no (h:q.why≠0) (n m:Nat):symsQ L n m q=q:=by
 cases m with
 | zero=>rfl
 | succ m=>rw[symsQ,if_pos h]
theorem fieldsQ_no (h:q.why≠0) (n m:Nat):fieldsQ L TQ n m q=q:=by
 cases m with
 | zero=>rfl
 | succ m=>rw[fieldsQ,if_pos (.inl h),signQ_no h]
theorem defined_q (hT:TokOk L) (hF:TF L) (H:HTQ L T TQ) (hlen:∀u a s n s',T u a s=.ok n s'→s'.l.length<s.l.length) {n:Nat} {k:Int} (hk:k=9∨k=10∨k=11) (h:RQ L pt s q) (hid:pt n=id) (hd0:s.ns[n]?=some (Nd.ofKind k)):OQ L pt (definedR T s n k) (definedQ L TQ n k q):=by
 have hn:n<s.ns.length:=(List.getElem?_eq_some_iff.1 hd0).1
 have hk9:9≤k:=by omega
 unfold definedR
 rcases h.name (fun x=>(s.nm x).isSome) ((calledN q.ns (tkQ L q).s).isSome) (fun hp=>by rw[h.nm _ hp]) with⟨x,h1,h2,h3,h4,h5,h6⟩|⟨w,h1,h2,h3⟩
 ·rw[h1]
  have hno:s.nm x=none:=by
   cases hx:s.nm x with
   | none=>rfl
   | some v=>rw[hx] at h5;cases h5
  have hc:=h.called hid hd0 hk9 h4 hno
  have hdq:defQ L n q=onQ L (q.setN n fun d=>{ d with name:=x }):=by unfold defQ;rw[h6,←h2]
  have hc2:=hc.on hT (by rw[tk_set,h3];decide)
  rw[←hdq] at hc2
  have hs2:(s.called n x).on=s.on.called n x:=rfl
  rw[hs2] at hc2
  generalize hq2:defQ L n q=q2 at hc2
  have hnd:(s.on.called n x).ns[n]?=some { Nd.ofKind k with name:=x }:=by
   show (s.ns.modify n _)[n]?=_
   rw[List.getElem?_modify,hd0];simp
  have hln:(s.on.called n x).ns.length=s.ns.length:=setN_len _ _ _
  generalize hs3:s.on.called n x=s2 at hc2 hnd hln
  show OQ L pt (if k=9 then (mustR (s.on.called n x) cLt).bind fun _ s3=>symsR n s3.l.length [] s3
   else if k=10 then (if (hd' (s.on.called n x)).k≠1∨numO (hd' (s.on.called n x)).s.data.toList=none then failR (s.on.called n x) 4
    else .ok () ((s.on.called n x).on.setN n fun d=>{ d with size:=((numO (hd' (s.on.called n x)).s.data.toList).getD 0:Nat) }))
   else (mustR (s.on.called n x) cCuO).bind fun _ s3=>fieldsR T n s3.l.length [] s3) (definedQ L TQ n k q)
  rw[hs3]
  unfold definedQ
  rw[hq2]
  have hll:∀ {s3:PS} {q3:QS},RQ L pt s3 q3→s3.l.length≤L.length:=fun h=>by rw[h.l,List.length_drop];omega
  rcases hk with e|e|e
  ·rw[if_pos e,if_neg (by omega),if_neg (by omega)]
   have hmu:=hc2.must hT hF (c:=60) (by decide)
   rw[show (⟨#[60]⟩:ByteArray)=cLt from rfl] at hmu
   cases hm:mustR s2 cLt with
   | bad a w=>
    rw[hm] at hmu
    obtain⟨e1,e2,e3⟩:=hmu
    rw[symsQ_no (by rw[e1];exact e3)]
    exact⟨e1,e2,e3⟩
   | ok u s3=>
    rw[hm] at hmu
    obtain⟨a1,a2⟩:=mustR_ok hm
    have hmu:RQ L pt s3 (signQ L q2 cLt):=hmu
    have hns:s3.ns=s2.ns:=by rw[a2];rfl
    have ho:=hmu.openId (n:=n) (f:=fun d=>{ d with syms:=[] }) (by rw[hns];omega) hid (fun d=>⟨rfl,rfl⟩) (fun d hd'=>by rw[hns,hnd] at hd';injection hd' with hd';subst hd';rfl)
    exact syms_q hT hF _ [] s3 _ L.length ho (by rw[hns];omega) hmu.kn hid hmu.new (Nat.le_refl _) (hll hmu)
  ·rw[if_neg (by omega),if_pos e,if_pos e]
   have hh:hd' s2=tkQ L q2:=hc2.hd_
   rw[hh]
   by_cases hcnd:(tkQ L q2).k≠1∨numO (tkQ L q2).s.data.toList=none
   ·rw[if_pos hcnd]
    have hbt:(decide ((tkQ L q2).k≠1) || (numO (tkQ L q2).s.data.toList).isNone)=true:=by rcases hcnd with e|e<;>simp[e]
    unfold sizeQ
    rw[hbt,badQ_true hc2.why]
    have hw:(({ q2 with why:=4,bad:=(tkQ L q2).a }:QS).setN n fun d=>{ d with size:=(((numO (tkQ L q2).s.data.toList).getD 0:Nat):Int) }).why≠0:=by show (4:Nat)≠0;decide
    rw[onQ_no hw]
    refine oq_bad rfl ?_ (by decide)
    show (tkQ L q2).a=(hd s2.l).a
    rw[←hh];rfl
   ·rw[if_neg hcnd]
    simp only[not_or,ne_eq,Decidable.not_not] at hcnd
    have hbt:(decide ((tkQ L q2).k≠1) || (numO (tkQ L q2).s.data.toList).isNone)=false:=by
     cases hx:numO (tkQ L q2).s.data.toList with
     | none=>exact absurd hx hcnd.2
     | some v=>simp[hcnd.1]
    unfold sizeQ
    rw[hbt,badQ_false]
    have ho:=hc2.openN n (by omega) (fun d=>{ d with size:=(((numO (tkQ L q2).s.data.toList).getD 0:Nat):Int) }) (fun d=>{ d with size:=(((numO (tkQ L q2).s.data.toList).getD 0:Nat):Int) }) (fun d=>⟨rfl,rfl⟩) (fun d=>by rw[hid];rfl)
    have hon:=ho.on hT (by rw[tk_set,hcnd.1];decide)
    exact hon.shutN hc2.kn (by show n<s2.ns.length;omega) hid hc2.new (fun d=>⟨rfl,rfl⟩)
  ·rw[if_neg (by omega),if_neg (by omega),if_neg (by omega),if_pos e]
   have hmu:=hc2.must hT hF (c:=123) (by decide)
   rw[show (⟨#[123]⟩:ByteArray)=cCuO from rfl] at hmu
   cases hm:mustR s2 cCuO with
   | bad a w=>
    rw[hm] at hmu
    obtain⟨e1,e2,e3⟩:=hmu
    rw[fieldsQ_no (by rw[e1];exact e3)]
    exact⟨e1,e2,e3⟩
   | ok u s3=>
    rw[hm] at hmu
    obtain⟨a1,a2⟩:=mustR_ok hm
    have hmu:RQ L pt s3 (signQ L q2 cCuO):=hmu
    have hns:s3.ns=s2.ns:=by rw[a2];rfl
    have ho:=hmu.openId (n:=n) (f:=fun d=>{ d with fields:=[] }) (by rw[hns];omega) hid (fun d=>⟨rfl,rfl⟩) (fun d hd'=>by rw[hns,hnd] at hd';injection hd' with hd';subst hd';rfl)
    exact fields_q hT hF H _ [] s3 _ L.length ho (by rw[hns];omega) hmu.kn hid hmu.new (Nat.le_refl _) (hll hmu) hlen
 ·rw[h1]
  have hdq:defQ L n q=(({ q with why:=w,bad:=(hd s.l).a }:QS).setN n fun d=>{ d with name:=(tkQ L q).s }):=by
   unfold defQ
   rw[h3]
   exact onQ_no h2
  have hw:(defQ L n q).why=w∧(defQ L n q).bad=(hd s.l).a:=by rw[hdq];exact⟨rfl,rfl⟩
  have hne:(defQ L n q).why≠0:=by rw[hw.1];exact h2
  show OQ L pt (Res.bad (hd s.l).a w:Res Unit) _
  unfold definedQ
  split
  ·obtain⟨e1,e2⟩:=sizeQ_no hne n
   exact⟨e1.trans hw.1,e2.trans hw.2,h2⟩
  ·split
   ·rw[signQ_no hne,fieldsQ_no hne]
    exact⟨hw.1,hw.2,h2⟩
   ·rw[signQ_no hne,symsQ_no hne]
    exact⟨hw.1,hw.2,h2⟩
theorem idxOf_neg {α:Type} [DecidableEq α]:∀(l:List α) (s:α),idxOf l s<0→idxOf l s = -1
 | [],s,_=>rfl
 | x::l,s,h=>by
  rw[idxOf] at h ⊢
  split
  ·next h1=>rw[if_pos h1] at h;omega
  ·next h1=>
   rw[if_neg h1] at h
   split
   ·rfl
   ·next h2=>rw[if_neg h2] at h;omega
def nameBad (t:Tok):Bool:=decide (t.k≠0) || !nameP t.s || refKw t.s
theorem first_sign {t:Tok} {c:UInt8} {r:List UInt8} (hb:bs t.s=c::r) (hl:letterP c=true∨digitP c=true):t.s≠cSqO∧t.s≠cCuO∧t.s≠cPaO:=by
 have key:∀d:UInt8,kindOf d=2→t.s≠⟨#[d]⟩:=fun d hd e=>by
  have e2:bs t.s=[d]:=by rw[e];rfl
  rw[hb] at e2
  injection e2 with e2 _
  subst e2
  have b:=byte_sorts c
  rcases hl with h|h
  ·have:=(b.1 h).1;omega
  ·have:=(b.2.1 h).1;omega
 exact⟨key 91 (by decide),key 123 (by decide),key 40 (by decide)⟩
theorem kind_q (h:RQ L pt s q) (hF:TF L):match kindR s with
  | none=>kOf (tkQ L q)<0∧nameBad (tkQ L q)=true
  | some k=>kOf (tkQ L q)=k∧(k<0→nameBad (tkQ L q)=false):=by
 have hh:=h.hd_
 have ht:=h.tf hF
 unfold kindR isT
 rw[hh]
 generalize tkQ L q=t at ht
 have hk3:t.k=3∨t.k=1→kOf t<0∧nameBad t=true:=fun e=>by
  refine⟨by unfold kOf;rw[if_neg (by omega)];decide,by unfold nameBad;rw[decide_eq_true (by omega:t.k≠0)];rfl⟩
 rcases ht with⟨hk,_⟩|⟨hk,c,r,hb,hl,_⟩|⟨hk,c,r,hb,hl,_⟩|⟨hk,c,hb,hc⟩
 ·rw[decide_eq_false (show ¬t.k≠3 by omega)]
  simp only[Bool.false_and,Bool.false_eq_true,if_false]
  rw[if_pos (by omega)]
  exact hk3 (.inl hk)
 ·have hk:t.k=0:=hk
  have hb:bs t.s=c::r:=hb
  obtain⟨n1,n2,n3⟩:=first_sign hb (.inl hl)
  rw[decide_eq_false n1,decide_eq_false n2,decide_eq_false n3]
  simp only[Bool.and_false,Bool.false_eq_true,if_false]
  rw[if_neg (by omega)]
  have hkf:kOf t=idxOf refL t.s:=by unfold kOf;rw[if_pos (.inl hk)]
  have hkw:=kw_eq t.s
  by_cases h1:kwP t.s=true
  ·rw[if_pos h1]
   simp only
   rw[hkf]
   have h2:=h1
   rw[hkw] at h2
   unfold refKw at h2
   simp only[Bool.and_eq_true,decide_eq_true_eq] at h2
   have hm:=idxOf_mem.1 h2.1
   have he:idxOf refL t.s=idxOf wordsL t.s:=by
    simp only[refL,List.mem_cons,List.not_mem_nil,or_false] at hm
    rcases hm with e|e|e|e|e|e|e|e|e|e|e|e
    ·rw[e];decide
    ·rw[e];decide
    ·rw[e];decide
    ·rw[e];decide
    ·rw[e];decide
    ·rw[e];decide
    ·exact absurd e n1
    ·exact absurd e n2
    ·exact absurd e n3
    ·rw[e];decide
    ·rw[e];decide
    ·rw[e];decide
   exact⟨he,fun hneg=>by omega⟩
  ·rw[if_neg h1]
   have h1:kwP t.s=false:=by simpa using h1
   have hnm:¬0≤idxOf refL t.s:=fun h0=>by
    have hm:=idxOf_mem.1 h0
    simp only[refL,List.mem_cons,List.not_mem_nil,or_false] at hm
    rcases hm with e|e|e|e|e|e|e|e|e|e|e|e
    ·rw[e] at h1;revert h1;decide
    ·rw[e] at h1;revert h1;decide
    ·rw[e] at h1;revert h1;decide
    ·rw[e] at h1;revert h1;decide
    ·rw[e] at h1;revert h1;decide
    ·rw[e] at h1;revert h1;decide
    ·exact absurd e n1
    ·exact absurd e n2
    ·exact absurd e n3
    ·rw[e] at h1;revert h1;decide
    ·rw[e] at h1;revert h1;decide
    ·rw[e] at h1;revert h1;decide
   by_cases h2:nameP t.s=true
   ·rw[if_pos h2]
    simp only
    rw[hkf]
    refine⟨idxOf_neg _ _ (by omega),fun _=>?_⟩
    unfold nameBad
    rw[←hkw,h1,h2,decide_eq_false (show ¬t.k≠0 by omega)];rfl
   ·rw[if_neg h2]
    simp only
    rw[hkf]
    refine⟨by omega,?_⟩
    have h2:nameP t.s=false:=by simpa using h2
    unfold nameBad
    rw[h2];simp
 ·have hk:t.k=1:=hk
  have hb:bs t.s=c::r:=hb
  obtain⟨n1,n2,n3⟩:=first_sign hb (.inr hl)
  rw[decide_eq_false n1,decide_eq_false n2,decide_eq_false n3]
  simp only[Bool.and_false,Bool.false_eq_true,if_false]
  rw[if_pos (by omega)]
  exact hk3 (.inr hk)
 ·have hk:t.k=2:=hk
  have hb:bs t.s=[c]:=hb
  have hkf:kOf t=idxOf refL t.s:=by unfold kOf;rw[if_pos (.inr hk)]
  rw[decide_eq_true (show t.k≠3 by omega)]
  simp only[Bool.true_and,decide_eq_true_eq]
  by_cases e1:t.s=cSqO
  ·rw[if_pos e1]
   simp only
   exact⟨by rw[hkf,e1];decide,fun h=>by omega⟩
  ·rw[if_neg e1]
   by_cases e2:t.s=cCuO
   ·rw[if_pos e2]
    simp only
    exact⟨by rw[hkf,e2];decide,fun h=>by omega⟩
   ·rw[if_neg e2]
    by_cases e3:t.s=cPaO
    ·rw[if_pos e3]
     simp only
     exact⟨by rw[hkf,e3];decide,fun h=>by omega⟩
    ·rw[if_neg e3,if_pos (by omega)]
     simp only
     refine⟨?_,by unfold nameBad;rw[decide_eq_true (by omega:t.k≠0)];rfl⟩
     rw[hkf]
     apply Classical.byContradiction
     intro h0
     have hm:=idxOf_mem.1 (by omega:0≤idxOf refL t.s)
     have hlen:(bs t.s).length=1:=by rw[hb];rfl
     simp only[refL,List.mem_cons,List.not_mem_nil,or_false] at hm
     rcases hm with e|e|e|e|e|e|e|e|e|e|e|e
     ·rw[e] at hlen;revert hlen;decide
     ·rw[e] at hlen;revert hlen;decide
     ·rw[e] at hlen;revert hlen;decide
     ·rw[e] at hlen;revert hlen;decide
     ·rw[e] at hlen;revert hlen;decide
     ·rw[e] at hlen;revert hlen;decide
     ·exact e1 e
     ·exact e2 e
     ·exact e3 e
     ·rw[e] at hlen;revert hlen;decide
     ·rw[e] at hlen;revert hlen;decide
     ·rw[e] at hlen;revert hlen;decide
end
end Go.Proofs.YtmaoochjbpohdaaGreatDoor.Pr
