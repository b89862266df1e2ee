/- parse: what is read is written, no longer than it was, and read as the same: plain. -/
import Derived.Test.YtmaoochjbpohdaaGreatDoorRbL
set_option linter.unusedVariables false
set_option linter.unusedSimpArgs false
set_option maxRecDepth 100000
set_option maxHeartbeats 1000000
namespace Go.Proofs.YtmaoochjbpohdaaGreatDoor
namespace Pr
open Lx
/-! ### What goes wrong has a number -/
def NZ {α:Type} (r:Res α):Prop:=∀a w,r=.bad a w→w≠0
theorem NZ.ok {α:Type} (a:α) (s:PS):NZ (.ok a s):=fun _ _ h=>by cases h
theorem NZ.fail {α:Type} (s:PS) (w:Nat) (h:w≠0):NZ (failR s w:Res α):=fun a v e=>by injection e with _ e;omega
theorem NZ.bind {α β:Type} {r:Res α} {f:α→PS→Res β} (h:NZ r) (hf:∀a s,NZ (f a s)):NZ (r.bind f):=by
 cases r with
 | ok a s=>exact hf a s
 | bad a w=>exact fun a' w' e=>by injection e with e1 e2;rw[←e2];exact h a w rfl
theorem NZ.must (s:PS) (x:ByteArray):NZ (mustR s x):=by
 unfold mustR
 split
 ·exact .ok _ _
 ·exact .fail _ _ (by decide)
theorem NZ.name (s:PS) (th:ByteArray→Bool):NZ (nameR s th):=by
 unfold nameR
 split
 ·exact .fail _ _ (by decide)
 ·split
  ·exact .fail _ _ (by decide)
  ·exact .ok _ _
def TZ (T:Bool→List Nat→PS→Res Nat):Prop:=∀u a s,NZ (T u a s)
theorem NZ.union {T:Bool→List Nat→PS→Res Nat} (hT:TZ T) (n:Nat):∀(m:Nat) (l:List Nat) (s:PS),NZ (unionR T n m l s)
 | 0,l,s=>.fail _ _ (by decide)
 | m+1,l,s=>by
  rw[unionR]
  refine (hT _ _ _).bind fun x s1=>?_
  split
  ·exact .ok _ _
  ·exact (NZ.must _ _).bind fun _ s2=>NZ.union hT n m _ s2
theorem NZ.syms (n:Nat):∀(m:Nat) (l:List ByteArray) (s:PS),NZ (symsR n m l s)
 | 0,l,s=>.fail _ _ (by decide)
 | m+1,l,s=>by
  rw[symsR]
  refine (NZ.name _ _).bind fun x s1=>?_
  split
  ·exact .ok _ _
  ·exact (NZ.must _ _).bind fun _ s2=>NZ.syms n m _ s2
theorem NZ.fields {T:Bool→List Nat→PS→Res Nat} (hT:TZ T) (n:Nat):∀(m:Nat) (l:List (ByteArray×Bool×Nat)) (s:PS),NZ (fieldsR T n m l s)
 | 0,l,s=>.fail _ _ (by decide)
 | m+1,l,s=>by
  rw[fieldsR]
  split
  ·exact .ok _ _
  ·exact (NZ.name _ _).bind fun x s1=>(NZ.must _ _).bind fun _ s2=>(hT _ _ _).bind fun t s3=>(NZ.must _ _).bind fun _ s4=>NZ.fields hT n m _ s4
theorem gate_nz {fuel:Nat} {u:Bool} {a:List Nat} {s:PS} {k:Int} {n:Option Nat} {w:Nat} (h:gateR fuel u a s k n=some w):w≠0:=by
 unfold gateR at h
 split at h
 ·injection h with h;omega
 ·split at h
  ·injection h with h;omega
  ·split at h
   ·injection h with h;omega
   ·split at h
    ·injection h with h;omega
    ·split at h
     ·injection h with h;omega
     ·cases h
theorem typedR_nz:∀(fuel:Nat),TZ (typedR fuel)
 | fuel,u,a,s=>by
  rw[typedR.eq_def]
  simp only
  split
  ·exact .fail _ _ (by decide)
  ·split
   ·next w hw=>exact .fail _ _ (gate_nz hw)
   ·split
    ·exact .ok _ _
    ·cases fuel with
     | zero=>exact .fail _ _ (by decide)
     | succ fuel=>
      have ih:=typedR_nz fuel
      simp only
      split
      ·exact NZ.bind ((ih _ _ _).bind fun _ _=>NZ.must _ _) fun _ _=>.ok _ _
      ·split
       ·exact NZ.bind ((ih _ _ _).bind fun _ _=>NZ.must _ _) fun _ _=>.ok _ _
       ·split
        ·exact (NZ.union ih _ _ _ _).bind fun _ _=>.ok _ _
        ·split
         ·refine NZ.bind ?_ fun _ _=>.ok _ _
          unfold definedR
          refine (NZ.name _ _).bind fun x s1=>?_
          simp only
          split
          ·exact (NZ.must _ _).bind fun _ s3=>NZ.syms _ _ _ _
          ·split
           ·split
            ·exact .fail _ _ (by decide)
            ·exact .ok _ _
           ·exact (NZ.must _ _).bind fun _ s3=>NZ.fields ih _ _ _ _
         ·exact .ok _ _
theorem parse_cases (s:ByteArray):((parseP s).1=[]∧(parseP s).2.2≠0)∨(words s=none∧∃n s',typedR 20 false [] ⟨toks s,[],fun _=>none⟩=.ok n s'∧(hd s'.l).k=3∧parseP s=(s'.ns,0,0)):=by
 unfold parseP
 cases hw:words s with
 | some r=>
  obtain⟨p,q⟩:=r
  refine .inl ⟨rfl,?_⟩
  show q≠0
  unfold words at hw
  have hr:∀(l:List Tok) (n:Nat) (p q:Int),wordsR l n=some (p,q)→q≠0:=by
   intro l
   induction l with
   | nil=>intro n p q h;cases h
   | cons t l ih=>
    intro n p q h
    rw[wordsR] at h
    split at h
    ·injection h with h;injection h with _ h;omega
    ·split at h
     ·injection h with h;injection h with _ h;omega
     ·exact ih _ _ _ h
  split at hw
  ·injection hw with hw;injection hw with _ hw;omega
  ·exact hr _ _ _ _ hw
 | none=>
  simp only
  cases ht:typedR 20 false [] ⟨toks s,[],fun _=>none⟩ with
  | bad a w=>exact .inl ⟨rfl,by have:=typedR_nz 20 false [] _ a w ht;simp only;omega⟩
  | ok n s'=>
   simp only
   by_cases hk:(hd s'.l).k=3
   ·rw[if_neg (by simp[hk])]
    exact .inr ⟨trivial,n,s',rfl,hk,rfl⟩
   ·rw[if_pos hk]
    exact .inl ⟨rfl,by show (4:Int)≠0;decide⟩
/-! ### A type -/
theorem idxOf_get {α:Type} [DecidableEq α]:∀(l:List α) (s d:α),0≤idxOf l s→l.getD (idxOf l s).toNat d=s
 | [],s,d,h=>by simp[idxOf] at h
 | x::l,s,d,h=>by
  rw[idxOf] at h ⊢
  split
  ·next e=>subst e;rfl
  ·next e=>
   rw[if_neg e] at h
   split at h
   ·omega
   ·next h2=>
    rw[if_neg h2]
    have:=idxOf_get l s d (by omega)
    rw[show (idxOf l s+1).toNat=(idxOf l s).toNat+1 by omega]
    exact this
theorem kind_cases {s:PS} {k:Int} (h:kindR s=some k):(k=6∧isT s cSqO=true)∨(k=7∧isT s cCuO=true)∨(k=8∧isT s cPaO=true)∨((hd s.l).k=0∧(hd s.l).s≠⟨#[]⟩∧0≤k∧k=idxOf wordsL (hd s.l).s)∨((hd s.l).k=0∧k = -1):=by
 unfold kindR at h
 split at h
 ·next ht=>injection h with h;exact .inl ⟨h.symm,ht⟩
 ·split at h
  ·next ht=>injection h with h;exact .inr (.inl ⟨h.symm,ht⟩)
  ·split at h
   ·next ht=>injection h with h;exact .inr (.inr (.inl ⟨h.symm,ht⟩))
   ·split at h
    ·cases h
    ·next hk=>
     simp only[ne_eq,Decidable.not_not] at hk
     split at h
     ·next hq=>
      injection h with h
      simp only[kwP,Bool.and_eq_true,decide_eq_true_eq] at hq
      exact .inr (.inr (.inr (.inl ⟨hk,hq.1,by omega,h.symm⟩)))
     ·split at h
      ·injection h with h;exact .inr (.inr (.inr (.inr ⟨hk,h.symm⟩)))
      ·cases h
theorem kind_word {s:PS} {k:Int} (h0:(hd s.l).s≠⟨#[]⟩) (h1:0≤k) (h2:k=idxOf wordsL (hd s.l).s):(hd s.l).s=wordsL.getD k.toNat ⟨#[]⟩∧k≠6∧k≠7∧k≠8:=by
 have:=idxOf_get wordsL (hd s.l).s ⟨#[]⟩ (by omega)
 rw[←h2] at this
 refine⟨this.symm,?_,?_,?_⟩<;>intro e<;>rw[e] at this<;>exact h0 this.symm
theorem wtyp_new {N:List Ne} {f n:Nat} {S:List UInt8} {d:Ne} (h:N[n]?=some d) (hS:S.length≤4096):wtyp N (f+1) (n:Int) ⟨S,n,false⟩=wbody (wtyp N f) d ⟨S,n+1,false⟩:=by
 have hl:n<N.length:=(List.getElem?_eq_some_iff.1 h).1
 rw[wtyp,if_neg,if_neg (by simp)]
 ·have:N.getD (n:Int).toNat neD=d:=by rw[Int.toNat_natCast,List.getD,h];rfl
  rw[this]
 ·unfold wstop
  simp
  omega
theorem wtyp_ref {N:List Ne} {f i n:Nat} {S:List UInt8} {d:Ne} (h:N[i]?=some d) (hi:i<n) (h9:9≤d.k) (hS:S.length≤4096):wtyp N (f+1) (i:Int) ⟨S,n,false⟩=⟨S++bs d.name,n,false⟩:=by
 have hl:i<N.length:=(List.getElem?_eq_some_iff.1 h).1
 rw[wtyp,if_neg,if_pos (by simp only;omega)]
 ·have:N.getD (i:Int).toNat neD=d:=by rw[Int.toNat_natCast,List.getD,h];rfl
  rw[this,decide_eq_false (by omega)]
  rfl
 ·unfold wstop
  simp
  omega
theorem typedR_sh (N:List Ne):∀(fuel:Nat),TR N (typedR fuel) (wtyp N fuel)
 | fuel,u,a,s,n,s',S,h,hw,ha,hm,hF,hb=>by
  rw[typedR.eq_def] at h
  simp only at h
  split at h
  ·cases h
  ·next k hk=>
   split at h
   ·cases h
   ·next hgate=>
    have hf0:fuel≠0:=by
     intro e
     unfold gateR at hgate
     rw[if_pos (.inl e)] at hgate
     cases hgate
    obtain⟨f,rfl⟩:=Nat.exists_eq_succ_of_ne_zero hf0
    split at h
    ·next hneg=>
     have hk0:(hd s.l).k=0:=by
      rcases kind_cases hk with⟨e,_⟩|⟨e,_⟩|⟨e,_⟩|⟨e,_,e2,_⟩|⟨e,_⟩
      ·omega
      ·omega
      ·omega
      ·exact e
      ·exact e
     injection h with h1 h2
     have hsome:∃i,s.nm (hd s.l).s=some i:=by
      cases hq:s.nm (hd s.l).s with
      | some i=>exact⟨i,rfl⟩
      | none=>
       unfold gateR at hgate
       rw[hq] at hgate
       split at hgate
       ·cases hgate
       ·rw[if_pos ⟨hneg,rfl⟩] at hgate;cases hgate
     obtain⟨i,hi⟩:=hsome
     rw[hi] at h1
     have h1:i=n:=h1
     subst h1
     obtain⟨hlt,d,e1,e2,e3⟩:=hm _ _ hi
     obtain⟨_,hw1,g,q1,_,q3,_⟩:=hw.step (by omega)
     refine⟨bs (hd s.l).s,?_,fun h2k=>?_,by rw[←h2];exact hw1,hm.same (by rw[←h2];rfl) (by rw[←h2];exact Nat.le_refl _)⟩
     ·rw[wtyp_ref e1 hlt e3 (by omega),e2,←h2];rfl
     ·rw[q1,q3 (by rw[←h2] at h2k;exact h2k),←h2];rfl
    ·next hneg=>
     have ih:=typedR_sh N f
     have hS:=typedR_shp f
     have hG:=typedR_len f
     simp only at h
     have hn1:s.ns.length<(s.ns++[Nd.ofKind k]).length:=by simp
     have ha1:AllN ShN ({ s.on with ns:=s.ns++[Nd.ofKind k] }:PS):=fun d hd=>by
      rcases List.mem_append.1 hd with hd|hd
      ·exact ha d hd
      ·rw[List.mem_singleton] at hd;subst hd;exact⟨.inl rfl,.inl rfl⟩
     have hl1:({ s.on with ns:=s.ns++[Nd.ofKind k] }:PS).ns.length=s.ns.length+1:=by simp
     have hd1:({ s.on with ns:=s.ns++[Nd.ofKind k] }:PS).ns[s.ns.length]?=some (Nd.ofKind k):=by simp
     have hll1:({ s.on with ns:=s.ns++[Nd.ofKind k] }:PS).l=s.on.l:=rfl
     have hmm1:({ s.on with ns:=s.ns++[Nd.ofKind k] }:PS).nm=s.nm:=rfl
     generalize hs1:({ s.on with ns:=s.ns++[Nd.ofKind k] }:PS)=s1 at h ha1 hl1 hd1 hll1 hmm1
     have hm1:Nam N s1:=hm.same hmm1 (by omega)
     have er1:sr s1=sr s.on:=by unfold sr;rw[hll1]
     have hN:s.ns.length<s'.ns.length→N[s.ns.length]?=(s'.ns[s.ns.length]?).map Nd.toE:=fun hlt=>hF _ (Nat.le_refl _) hlt
     have late:FnW N s1 s':=hF.late (by omega)
     have wnew:∀d,s'.ns[s.ns.length]?=some d→wtyp N (f+1) (s.ns.length:Int) ⟨S,s.ns.length,false⟩=wbody (wtyp N f) d.toE ⟨S,s1.ns.length,false⟩:=fun d hd=>by
      have hlt:s.ns.length<s'.ns.length:=(List.getElem?_eq_some_iff.1 hd).1
      rw[wtyp_new (d:=d.toE) (by rw[hN hlt,hd];rfl) (by omega),hl1]
     have sgn:∀c:UInt8,kindOf c=2→isT s ⟨#[c]⟩=true→sr s=c::sr s1∧WS s1:=fun c hc ht=>by
      obtain⟨_,e,w⟩:=sign_step hc hw ht
      exact⟨by rw[er1];exact e,by show WTs (s1.l.map tk);rw[hll1];exact w⟩
     have wrd:(hd s.l).k=0→∃g,sr s=bs (hd s.l).s++(g++sr s1)∧(2≤(hd s1.l).k→g=[])∧((hd s1.l).k=0→g=[32])∧WS s1:=fun hk0=>by
      obtain⟨_,hw1,g,q1,_,q3,q4⟩:=hw.step (by omega)
      exact⟨g,by rw[er1];exact q1,by rw[hll1];exact q3,by rw[hll1];exact fun e=>q4 hk0 (by omega) (by omega),by show WTs (s1.l.map tk);rw[hll1];exact hw1⟩
     split at h
     ·next k6=>
      subst k6
      obtain⟨_,s2,h1,h2⟩:=Res.bind_ok h
      injection h2 with h3 h4
      subst h3;subst h4
      have ht:isT s cSqO=true:=by
       rcases kind_cases hk with⟨e,e2⟩|⟨e,_⟩|⟨e,_⟩|⟨_,e0,e1,e2⟩|⟨_,e⟩
       ·exact e2
       ·omega
       ·omega
       ·exact absurd rfl (kind_word e0 e1 e2).2.1
       ·omega
      obtain⟨e,w1⟩:=sgn 91 (by decide +kernel) ht
      obtain⟨x,out,q1,q2,q3,q4,q5⟩:=itemR_sh ih hS hG (S:=S++[91]) h1 (by decide +kernel) w1 ha1 hm1 (by omega) late (by rw[e] at hb;simp at hb ⊢;omega)
      refine⟨91::out++[93],?_,fun _=>by rw[e,q3];simp,q4,q5⟩
      rw[wnew _ (q1 _ hd1)]
      show wbody (wtyp N f) ⟨6,⟨#[]⟩,0,[],[(x:Int)],[]⟩ _=_
      rw[wbody,if_pos rfl,witems,wlist,wlist]
      simp only[if_true]
      rw[show (WSt.put ⟨S,s1.ns.length,false⟩ [91])=⟨S++[91],s1.ns.length,false⟩ from rfl,q2]
      simp[WSt.put]
     ·split at h
      ·next k6 k7=>
       subst k7
       obtain⟨_,s2,h1,h2⟩:=Res.bind_ok h
       injection h2 with h3 h4
       subst h3;subst h4
       have ht:isT s cCuO=true:=by
        rcases kind_cases hk with⟨e,_⟩|⟨e,e2⟩|⟨e,_⟩|⟨_,e0,e1,e2⟩|⟨_,e⟩
        ·omega
        ·exact e2
        ·omega
        ·exact absurd rfl (kind_word e0 e1 e2).2.2.1
        ·omega
       obtain⟨e,w1⟩:=sgn 123 (by decide +kernel) ht
       obtain⟨x,out,q1,q2,q3,q4,q5⟩:=itemR_sh ih hS hG (S:=S++[123]) h1 (by decide +kernel) w1 ha1 hm1 (by omega) late (by rw[e] at hb;simp at hb ⊢;omega)
       refine⟨123::out++[125],?_,fun _=>by rw[e,q3];simp,q4,q5⟩
       rw[wnew _ (q1 _ hd1)]
       show wbody (wtyp N f) ⟨7,⟨#[]⟩,0,[],[(x:Int)],[]⟩ _=_
       rw[wbody,if_neg (show ¬(7:Int)=6 by decide),if_pos rfl,witems,wlist,wlist]
       simp only[if_true]
       rw[show (WSt.put ⟨S,s1.ns.length,false⟩ [123])=⟨S++[123],s1.ns.length,false⟩ from rfl,q2]
       simp[WSt.put]
      ·split at h
       ·next k6 k7 k8=>
        subst k8
        obtain⟨_,s2,h1,h2⟩:=Res.bind_ok h
        injection h2 with h3 h4
        subst h3;subst h4
        have ht:isT s cPaO=true:=by
         rcases kind_cases hk with⟨e,_⟩|⟨e,_⟩|⟨e,e2⟩|⟨_,e0,e1,e2⟩|⟨_,e⟩
         ·omega
         ·omega
         ·exact e2
         ·exact absurd rfl (kind_word e0 e1 e2).2.2.2
         ·omega
        obtain⟨e,w1⟩:=sgn 40 (by decide +kernel) ht
        obtain⟨x,more,out,q1,q2,q3,q4,q5⟩:=unionR_sh ih hS hG s.ns.length _ _ (S:=S++[40]) h1 w1 ha1 ⟨_,hd1,rfl⟩ hm1 (by omega) late (by rw[e] at hb;simp at hb ⊢;omega)
        refine⟨40::out++[41],?_,fun _=>by rw[e,q3];simp,q4,q5⟩
        rw[wnew _ (q1 _ hd1)]
        show wbody (wtyp N f) ⟨8,⟨#[]⟩,0,[],([]++x::more).map (fun (n:Nat)=>(n:Int)),[]⟩ _=_
        rw[wbody,if_neg (show ¬(8:Int)=6 by decide),if_neg (show ¬(8:Int)=7 by decide),if_pos rfl,List.nil_append,List.map_cons,witems,wlist]
        simp only[if_true]
        rw[show (WSt.put ⟨S,s1.ns.length,false⟩ [40])=⟨S++[40],s1.ns.length,false⟩ from rfl,q2]
        simp[WSt.put]
       ·next k6 k7 k8=>
        have hwd:(hd s.l).k=0∧(hd s.l).s=wordsL.getD k.toNat ⟨#[]⟩:=by
         rcases kind_cases hk with⟨e,_⟩|⟨e,_⟩|⟨e,_⟩|⟨h0,e0,e1,e2⟩|⟨_,e⟩
         ·exact absurd e k6
         ·exact absurd e k7
         ·exact absurd e k8
         ·exact⟨h0,(kind_word e0 e1 e2).1⟩
         ·omega
        obtain⟨g,e,g1,g2,w1⟩:=wrd hwd.1
        split at h
        ·next hkk=>
         obtain⟨_,s2,h1,h2⟩:=Res.bind_ok h
         injection h2 with h3 h4
         subst h3;subst h4
         have hlen:=(definedR_len hG h1).1
         have hk0:(hd s1.l).k=0:=by
          unfold definedR at h1
          obtain⟨x,s3,h5,_⟩:=Res.bind_ok h1
          exact (nameR_ok h5).1
         rw[g2 hk0] at e
         have hpre:bs (hd s.l).s++[32]=(if k=10 then sFix else if k=9 then sEn else sRec):=by
          rw[hwd.2]
          rcases hkk with e|e|e<;>subst e<;>rfl
         have hb1:S.length+(if k=10 then 6 else if k=9 then 5 else 7)+(sr s1).length≤4096:=by
          have hl:(bs (hd s.l).s++[32]).length=if k=10 then 6 else if k=9 then 5 else 7:=by
           rw[hpre]
           rcases hkk with e|e|e<;>subst e<;>rfl
          rw[←hl]
          rw[e] at hb
          simp only[List.length_append] at hb ⊢
          omega
         obtain⟨d,out,q1,q2,q3,q4,q5,q6,q7⟩:=definedR_sh ih hS hG (S:=S) hkk h1 w1 ha1 hd1 hm1 (by omega) late (hN (by omega)) hb1
         refine⟨(if k=10 then sFix else if k=9 then sEn else sRec)++out,?_,fun h2k=>?_,q6,q7⟩
         ·rw[wnew _ q1,q4]
         ·rw[e,q5 h2k,←hpre];simp
        ·next hkk=>
         injection h with h3 h4
         subst h3;subst h4
         refine⟨bs (hd s.l).s,?_,fun h2k=>by rw[e,g1 h2k];rfl,w1,hm1⟩
         rw[wnew _ hd1]
         have hr:=kindR_rng hk
         show wbody (wtyp N f) ⟨k,⟨#[]⟩,0,[],[],[]⟩ _=_
         rw[wbody]
         simp only
         rw[if_neg k6,if_neg k7,if_neg k8,if_neg (fun e=>hkk (.inl e)),if_neg (fun e=>hkk (.inr (.inl e))),if_neg (fun e=>hkk (.inr (.inr e))),if_neg (by omega),hwd.2]
         rfl
theorem show_back (s:ByteArray) (h:(parseP s).2.2=0):∃t,showP ((parseP s).1.map Nd.toE)=some t∧t.length≤s.size∧parseP ⟨t.toArray⟩=parseP s:=by
 rcases parse_cases s with⟨_,h1⟩|⟨hw,n,s',ht,hk,hp⟩
 ·exact absurd h h1
 have hsz:s.size≤4096∧wordsR (toks s) 0=none:=by
  unfold words at hw
  split at hw
  ·cases hw
  ·exact⟨by omega,hw⟩
 have hpos:∀(l:List Tok) (n:Nat),wordsR l n=none→∀t∈l,0≤t.k:=by
  intro l
  induction l with
  | nil=>intro n _ t ht;cases ht
  | cons x l ih=>
   intro n h t ht
   rw[wordsR] at h
   split at h
   ·cases h
   ·split at h
    ·cases h
    ·rcases List.mem_cons.1 ht with rfl|ht
     ·omega
     ·exact ih _ h t ht
 obtain⟨r1,r2,r3⟩:=relex s (hpos _ _ hsz.2)
 have hn0:n=0:=by
  have hk':=ht
  rw[typedR.eq_def] at hk'
  simp only at hk'
  split at hk'
  ·cases hk'
  ·split at hk'
   ·cases hk'
   ·next hg=>
    split at hk'
    ·injection hk' with e _;rw[←e];rfl
    ·repeat' split at hk'
     all_goals first
      | cases hk';done
      | (obtain⟨_,s2,_,h2⟩:=Res.bind_ok hk';injection h2 with e _;exact e.symm)
      | (injection hk' with e _;exact e.symm)
 subst hn0
 obtain⟨out,q1,q2,q3,q4⟩:=typedR_sh (s'.ns.map Nd.toE) 20 false [] ⟨toks s,[],fun _=>none⟩ 0 s' [] ht r1 (fun d hd=>by cases hd) (fun y i hy=>by cases hy) (fun i _ hi=>by rw[List.getElem?_map]) (by
  show 0+(ser ((toks s).map tk)).length≤4096
  omega)
 have hend:sr s'=[]:=by
  obtain⟨l,ns,nm⟩:=s'
  cases l with
  | nil=>cases q3
  | cons t r=>
   change WTs (tk t::r.map tk) at q3
   rcases wts_cons q3 with⟨e,e2⟩|⟨hx,_⟩
   ·unfold sr
    show ser (tk t::r.map tk)=[]
    rw[e,e2];rfl
   ·have:=hx.rng
    have hk:t.k=3:=hk
    have:(tk t).1=t.k:=rfl
    omega
 have hout:ser ((toks s).map tk)=out:=by
  have:=q2 (by omega)
  rw[hend,List.append_nil] at this
  exact this
 have hq:wtyp (s'.ns.map Nd.toE) 20 0 ⟨[],0,false⟩=⟨out,s'.ns.length,false⟩:=by
  have:=q1
  rw[List.nil_append] at this
  exact this
 have hsz2:(ByteArray.mk out.toArray).size=out.length:=by simp[ByteArray.size]
 have her:(toks s).map er=(toks ⟨out.toArray⟩).map er:=by
  have hinj:∀(l m:List Tok),l.map tk=m.map tk→l.map er=m.map er:=by
   intro l
   induction l with
   | nil=>intro m e;cases m with
    | nil=>rfl
    | cons=>cases e
   | cons x l ih=>intro m e;cases m with
    | nil=>cases e
    | cons y m=>
     rw[List.map_cons,List.map_cons] at e ⊢
     injection e with e1 e2
     rw[ih m e2]
     congr 1
     have e3:x.k=y.k:=congrArg Prod.fst e1
     have e4:bs x.s=bs y.s:=congrArg Prod.snd e1
     have e5:x.s=y.s:=by
      have:x.s.data=y.s.data:=Array.toList_inj.1 e4
      cases hx:x.s;cases hy:y.s
      rw[hx,hy] at this
      simp only at this
      rw[this]
     unfold er
     rw[e3,e5]
  rw[hout] at r3
  exact hinj _ _ r3.symm
 have hw2:words ⟨out.toArray⟩=none:=by
  have hwe:∀(l m:List Tok) (n:Nat),l.map er=m.map er→wordsR l n=none→wordsR m n=none:=by
   intro l
   induction l with
   | nil=>intro m n e _;cases m with
    | nil=>rfl
    | cons=>cases e
   | cons x l ih=>intro m n e h;cases m with
    | nil=>rfl
    | cons y m=>
     rw[List.map_cons,List.map_cons] at e
     injection e with e1 e2
     have e3:(er x).k=(er y).k:=by rw[e1]
     have e3:x.k=y.k:=e3
     rw[wordsR] at h ⊢
     rw[←e3]
     split at h
     ·cases h
     ·next h1=>
      rw[if_neg h1]
      split at h
      ·cases h
      ·next h2=>rw[if_neg h2];exact ih m _ e2 h
  unfold words
  rw[if_neg (by rw[hsz2,←hout];omega)]
  exact hwe _ _ 0 her hsz.2
 obtain⟨s'',t1,t2,t3⟩:=typedR_same her ht
 have hk2:(hd s''.l).k=3:=by
  have e:=hd_er s''.l
  rw[t3,hd_er] at e
  have:=congrArg Tok.k e
  exact this.symm.trans hk
 have hp2:parseP ⟨out.toArray⟩=(s'.ns,0,0):=by
  unfold parseP
  rw[hw2]
  simp only
  rw[t1]
  simp only
  rw[if_neg (by simp[hk2]),t2]
 refine⟨out,?_,by rw[←hout];exact r2,by rw[hp2,hp]⟩
 rw[hp]
 unfold showP
 simp only
 rw[hq]
 simp only
 rw[if_neg (by simp),hp2]
 simp
def LN (M:Nat) (d:Nd):Prop:=d.syms.length≤M∧d.items.length≤M∧d.fields.length≤M
def LB (M:Nat) (s:PS):Prop:=AllN (LN M) s∧s.ns.length+s.l.length≤M
def TB (M:Nat) (T:Bool→List Nat→PS→Res Nat):Prop:=∀u a s n s',T u a s=.ok n s'→LB M s→LB M s'
theorem on_le (s:PS):s.on.l.length≤s.l.length:=by show s.l.tail.length≤_;rw[List.length_tail];omega
theorem LB.on {M:Nat} {s:PS} (h:LB M s):LB M s.on:=⟨h.1.same rfl,by have:=on_le s;have:=h.2;show s.ns.length+s.on.l.length≤M;omega⟩
theorem LB.setN {M:Nat} {s:PS} (h:LB M s) (n:Nat) {f:Nd→Nd} (hf:∀d,LN M d→LN M (f d)):LB M (s.setN n f):=⟨h.1.setN n hf,by rw[setN_len];exact h.2⟩
section
variable {M:Nat} {T:Bool→List Nat→PS→Res Nat}
theorem itemR_lb (hT:TB M T) {s s':PS} {n:Nat} {x:ByteArray} {u:Unit} (h:itemR T s n x=.ok u s') (hp:LB M s) (hM:1≤M):LB M s':=by
 obtain⟨a,s1,h1,h2⟩:=Res.bind_ok h
 obtain⟨h5,rfl⟩:=mustR_ok h2
 exact ((hT _ _ _ _ _ h1 hp).setN n (f:=fun d=>{ d with items:=[a] }) fun d hd=>⟨hd.1,by simpa using hM,hd.2.2⟩).on
theorem unionR_lb (hT:TB M T) (n:Nat):∀(m:Nat) (l:List Nat) {s s':PS} {u:Unit},unionR T n m l s=.ok u s'→LB M s→l.length+m≤M→LB M s'
 | 0,l,s,s',u,h,_,_=>by cases h
 | m+1,l,s,s',u,h,hp,hm=>by
  rw[unionR] at h
  obtain⟨a,s1,h1,h2⟩:=Res.bind_ok h
  have hp1:=hT _ _ _ _ _ h1 hp
  split at h2
  ·injection h2 with _ h2
   subst h2
   exact hp1.on.setN n fun d hd=>⟨hd.1,by simp;omega,hd.2.2⟩
  ·obtain⟨v,s2,h5,h6⟩:=Res.bind_ok h2
   obtain⟨h7,rfl⟩:=mustR_ok h5
   exact unionR_lb hT n m _ h6 hp1.on (by simp;omega)
theorem symsR_lb (n:Nat):∀(m:Nat) (l:List ByteArray) {s s':PS} {u:Unit},symsR n m l s=.ok u s'→LB M s→l.length+m≤M→LB M s'
 | 0,l,s,s',u,h,_,_=>by cases h
 | m+1,l,s,s',u,h,hp,hm=>by
  rw[symsR] at h
  obtain⟨x,s1,h1,h2⟩:=Res.bind_ok h
  obtain⟨_,_,_,_,_,rfl⟩:=nameR_ok h1
  split at h2
  ·injection h2 with _ h2
   subst h2
   exact hp.on.on.setN n fun d hd=>⟨by simp;omega,hd.2⟩
  ·obtain⟨v,s2,h5,h6⟩:=Res.bind_ok h2
   obtain⟨h7,rfl⟩:=mustR_ok h5
   exact symsR_lb n m _ h6 hp.on.on (by simp;omega)
theorem LB.goes {M:Nat} {s:PS} (h:LB M s) (x:ByteArray):LB M (goesR s x).2:=by
 unfold goesR
 split
 ·exact h.on
 ·exact h
theorem fieldsR_lb (hT:TB M T) (n:Nat):∀(m:Nat) (l:List (ByteArray×Bool×Nat)) {s s':PS} {u:Unit},fieldsR T n m l s=.ok u s'→LB M s→l.length+m≤M→LB M s'
 | 0,l,s,s',u,h,_,_=>by cases h
 | m+1,l,s,s',u,h,hp,hm=>by
  rw[fieldsR] at h
  split at h
  ·injection h with _ h
   subst h
   exact hp.on.setN n fun d hd=>⟨hd.1,hd.2.1,by show l.length≤M;omega⟩
  ·obtain⟨x,s1,h1,h2⟩:=Res.bind_ok h
   obtain⟨_,_,_,_,_,rfl⟩:=nameR_ok h1
   obtain⟨v,s2,h3,h4⟩:=Res.bind_ok h2
   obtain⟨h5,rfl⟩:=mustR_ok h3
   obtain⟨t,s3,h6,h7⟩:=Res.bind_ok h4
   obtain⟨v2,s4,h10,h11⟩:=Res.bind_ok h7
   obtain⟨h12,rfl⟩:=mustR_ok h10
   exact fieldsR_lb hT n m _ h11 (hT _ _ _ _ _ h6 (hp.on.goes cQ).on).on (by simp;omega)
theorem definedR_lb (hT:TB M T) {s s':PS} {n:Nat} {k:Int} {u:Unit} (h:definedR T s n k=.ok u s') (hp:LB M s):LB M s':=by
 unfold definedR at h
 obtain⟨x,s1,h1,h2⟩:=Res.bind_ok h
 obtain⟨_,_,_,_,_,rfl⟩:=nameR_ok h1
 simp only at h2
 have hp2:LB M (s.on.called n x):=by
  have:=hp.on.setN n (f:=fun d=>{ d with name:=x }) fun d hd=>hd
  exact⟨this.1.same rfl,this.2⟩
 generalize s.on.called n x=s2 at h2 hp2
 have hl:=hp2.2
 have ho:=on_le s2
 split at h2
 ·obtain⟨v,s3,h5,h6⟩:=Res.bind_ok h2
  obtain⟨h7,rfl⟩:=mustR_ok h5
  exact symsR_lb n _ _ h6 hp2.on (by simp;omega)
 ·split at h2
  ·split at h2
   ·cases h2
   ·injection h2 with _ h2
    subst h2
    exact hp2.on.setN n fun d hd=>hd
  ·obtain⟨v,s3,h5,h6⟩:=Res.bind_ok h2
   obtain⟨h7,rfl⟩:=mustR_ok h5
   exact fieldsR_lb hT n _ _ h6 hp2.on (by simp;omega)
end
theorem typedR_lb (M:Nat):∀(fuel:Nat),TB M (typedR fuel)
 | fuel,u,a,s,n,s',h,hp=>by
  rw[typedR.eq_def] at h
  simp only at h
  split at h
  ·cases h
  ·next k hk=>
   split at h
   ·cases h
   ·split at h
    ·injection h with _ h
     subst h
     exact hp.on
    ·have hpos:=on_len (kindR_pos hk)
     have hl:=hp.2
     have hp1:LB M ({ s.on with ns:=s.ns++[Nd.ofKind k] }:PS):=⟨fun d hd=>by
      rcases List.mem_append.1 hd with hd|hd
      ·exact hp.1 d hd
      ·rw[List.mem_singleton] at hd;subst hd;exact⟨Nat.zero_le _,Nat.zero_le _,Nat.zero_le _⟩,by simp only[List.length_append,List.length_cons,List.length_nil];omega⟩
     have hM:1≤M:=by omega
     have hm:s.on.l.length≤M:=by omega
     generalize ({ s.on with ns:=s.ns++[Nd.ofKind k] }:PS)=s1 at h hp1
     cases fuel with
     | zero=>cases h
     | succ fuel=>
      have ih:=typedR_lb M fuel
      simp only at h
      split at h
      ·obtain⟨_,s2,h1,h2⟩:=Res.bind_ok h
       injection h2 with _ h2;subst h2
       exact itemR_lb ih h1 hp1 hM
      ·split at h
       ·obtain⟨_,s2,h1,h2⟩:=Res.bind_ok h
        injection h2 with _ h2;subst h2
        exact itemR_lb ih h1 hp1 hM
       ·split at h
        ·obtain⟨_,s2,h1,h2⟩:=Res.bind_ok h
         injection h2 with _ h2;subst h2
         exact unionR_lb ih _ _ _ h1 hp1 (by simpa using hm)
        ·split at h
         ·obtain⟨_,s2,h1,h2⟩:=Res.bind_ok h
          injection h2 with _ h2;subst h2
          exact definedR_lb ih h1 hp1
         ·injection h with _ h
          subst h
          exact hp1
theorem parse_lens (s:ByteArray):(parseP s).1.length≤1500∧∀d∈(parseP s).1,LN 1500 d:=by
 rcases parse_cases s with⟨h1,_⟩|⟨hw,n,s',ht,_,hp⟩
 ·rw[h1];exact⟨by simp,fun d hd=>by cases hd⟩
 ·have hl:(toks s).length≤1500:=by
   unfold words at hw
   split at hw
   ·cases hw
   ·have:=wordsR_len _ _ (by omega) hw;omega
  have:=typedR_lb 1500 20 _ _ _ _ _ ht ⟨fun d hd=>(by cases hd),by simpa using hl⟩
  rw[hp]
  exact⟨by have:=this.2;show s'.ns.length≤1500;omega,this.1⟩
end Pr
namespace Cn
open Go.ChangeShapes Go.WideShapes Go.ChangeAt Go.RowKit
open Base Lx Mi Pr
theorem showP_len' {ns:List Ne} {t:List UInt8} (h:showP ns=some t):showLen ns=t.length:=by
 unfold showP at h
 simp only at h
 split at h
 ·cases h
 ·split at h
  ·cases h
  ·injection h with h;rw[←h];rfl
theorem parse_small' {s:ByteArray} (h:(parseP s).2.2=0):s.size≤4096:=by
 rcases parse_cases s with⟨_,h1⟩|⟨hw,n,s',ht,hk,hp⟩
 ·exact absurd h h1
 ·unfold words at hw
  split at hw
  ·cases hw
  ·omega
theorem back_plain' (s:ByteArray) (h:(parseP s).2.2=0):∃t:List UInt8,showP ((parseP s).1.map Nd.toE)=some t∧t.length≤s.size∧s.size≤4096∧parseP ⟨t.toArray⟩=parseP s∧showLen ((parseP s).1.map Nd.toE)≤100000000:=by
 obtain⟨t,h1,h2,h3⟩:=show_back s h
 have h4:=parse_small' h
 exact⟨t,h1,h2,h4,h3,by rw[showP_len' h1];omega⟩
def formP (s:ByteArray):ByteArray×Int×Int:=if (parseP s).2.2=0 then (⟨((showP ((parseP s).1.map Nd.toE)).getD []).toArray⟩,0,0) else (⟨#[]⟩,(parseP s).2.1,(parseP s).2.2)
def isP (s:ByteArray):Bool:=decide ((formP s).2.2=0) && decide ((formP s).1=s)
theorem isP_size {s:ByteArray} (h:isP s=true):s.size≤4096:=by
 unfold isP formP at h
 simp only[Bool.and_eq_true,decide_eq_true_eq] at h
 by_cases h0:(parseP s).2.2=0
 ·exact parse_small' h0
 ·rw[if_neg h0] at h;exact absurd h.1 h0
theorem isP_ne {s:ByteArray} (h:isP s=true):s≠⟨#[]⟩:=by
 rintro rfl
 have:isP ⟨#[]⟩=false:=by decide +kernel
 rw[this] at h
 cases h
theorem ctext_any (s:ByteArray) (hs:s.size≤140737488351232) (w:World) (hwd:Wd w) (hpow:Pow w):Calls Tryz.prog 104 #[.string s] w fun e w'=>e=.returned (.tuple #[.string (formP s).1,.int .i64 (formP s).2.1,.int .i64 (formP s).2.2])∧Ext w w':=by
 have hp5:=hpow.lt
 have hpar:=parse_any s hs w hwd (by omega)
 have l7:=parse_rng s
 have hb:=back_plain' s
 obtain⟨F,hF⟩:∃z,Hid (formP s=z):=⟨_,Lib.hid rfl⟩
 have hFd:=hF.out
 rw[hF.out]
 unfold formP at hFd
 obtain⟨r,hr⟩:∃z,Hid (parseP s=z):=⟨_,Lib.hid rfl⟩
 rw[hr.out] at hpar l7 hb hFd
 obtain⟨ns,at_,why⟩:=r
 replace hpar:Calls Tryz.prog 76 #[.string s] w fun e w'=>∃v vs,e=.returned (.tuple #[.agg #[v],.int .i64 at_,.int .i64 why])∧Nds w.heap.size w' ns vs v∧Ext w w':=hpar
 replace l7:∀d∈ns,-9223372036854775808≤d.size∧d.size≤9223372036854775807:=l7
 simp only at hFd hb
 obtain⟨PO,hPO⟩:∃PO:Ending→World→Prop,Hid ((fun e w'=>e=.returned (.tuple #[.string F.1,.int .i64 F.2.1,.int .i64 F.2.2])∧Ext w w')=PO):=⟨_,Lib.hid rfl⟩
 rw[hPO.out]
 by_cases hw:why=0
 ·subst hw
  obtain⟨t,h1,_,_,_,h5⟩:=hb rfl
  rw[if_pos rfl,h1] at hFd
  have hp:∀W,Ext w W→PO (.returned (.tuple #[.string ⟨t.toArray⟩,.int .i64 0,.int .i64 0])) W:=fun W hW=>by rw[←hPO.out,←hFd];exact⟨rfl,hW⟩
  obtain⟨T,hT⟩:∃z,Hid (t.toArray=z):=⟨_,Lib.hid rfl⟩
  rw[hT.out] at hp
  obtain⟨nE,hnE⟩:∃z,Hid (ns.map Nd.toE=z):=⟨_,Lib.hid rfl⟩
  rw[hnE.out] at h1 h5
  replace h1:=Lib.hid h1
  replace l7:=Lib.hid l7
  clear hr hb hFd hF hPO
  go_enter Tryz.func104,Tryz.ntmps104
  go_wp2_with fail
  refine hpar.mono ?_
  rintro e w1 ⟨v,vs,rfl,hnd,hx1⟩
  have hS1:=Sch.ofNds hnd (Nat.le_refl _) l7.out
  rw[hnE.out] at hS1
  obtain⟨A,c,rfl,jj1,jj2,jj3,jj4⟩:=Rd.of_own hnd.row
  clear jj1 jj2 jj3 jj4 hpar hnd
  obtain⟨k,hk⟩:∃z,Hid (ns.length=z):=⟨_,Lib.hid rfl⟩
  rw[hk.out] at hS1 ⊢
  obtain⟨w2,hw2⟩:∃z,Hid (w1.alloc (.cells #[.slice A k c] 24)=z):=⟨_,rfl⟩
  have hx2:Ext w1 w2:=by rw[←hw2.out];exact (Ext.refl w1).alloc _
  have hS2:Sch w2.heap.size w2 (.slice A k c) nE:=(hS1.below hx2).mono hx2.size
  have hx02:=hx1.trans hx2
  have hsh:=show_any _ _ w2 hS2 (hwd.ext hx02) (hpow.ext hx02) h5
  rw[h1.out] at hsh
  clear hS1 hS2
  go_wp2_with fail
  rw[hw2.out]
  refine hsh.mono ?_
  rintro e w4 ⟨rfl,hx4⟩
  rw[show shV (some t)=Value.tuple #[.string ⟨t.toArray⟩,.int .i64 0] from rfl,hT.out]
  have hp4:=hp w4 (hx02.trans hx4)
  clear hsh hp
  go_wp2_with fail
  refine bodyPost_ret (results_tmp3 rfl _ _ _) rfl ?_
  exact hp4
 ·rw[if_neg hw] at hFd
  have hwb:((why:Int) != 0)=true:=by simpa using hw
  have hp:∀W,Ext w W→PO (.returned (.tuple #[.string ⟨#[]⟩,.int .i64 at_,.int .i64 why])) W:=fun W hW=>by rw[←hPO.out,←hFd];exact⟨rfl,hW⟩
  clear hr hb hFd hF hPO l7
  go_enter Tryz.func104,Tryz.ntmps104
  go_wp2_with fail
  refine hpar.mono ?_
  rintro e w1 ⟨v,vs,rfl,hnd,hx1⟩
  obtain⟨A,c,rfl,jj1,jj2,jj3,jj4⟩:=Rd.of_own hnd.row
  clear jj1 jj2 jj3 jj4 hpar hnd
  obtain⟨k,hk⟩:∃z,Hid (ns.length=z):=⟨_,Lib.hid rfl⟩
  rw[hk.out]
  obtain⟨w2,hw2⟩:∃z,Hid (w1.alloc (.cells #[.slice A k c] 24)=z):=⟨_,rfl⟩
  have hx2:Ext w1 w2:=by rw[←hw2.out];exact (Ext.refl w1).alloc _
  have hp4:=hp w2 (hx1.trans hx2)
  clear hp
  go_wp2_with fail
  rw[hw2.out]
  refine bodyPost_ret (results_tmp3 rfl _ _ _) rfl ?_
  exact hp4
theorem str_beq' (a b:ByteArray):(a.toList == b.toList)=decide (a=b):=by
 by_cases h:a=b
 ·subst h;simp
 ·rw[str_ne h];simpa using h
theorem cis_any (s:ByteArray) (hs:s.size≤140737488351232) (w:World) (hwd:Wd w) (hpow:Pow w):Calls Tryz.prog 75 #[.string s] w fun e w'=>e=.returned (.bool (isP s))∧Ext w w':=by
 have hc:=ctext_any s hs w hwd hpow
 have hi:isP s=(decide ((formP s).2.2=0) && decide ((formP s).1=s)):=rfl
 obtain⟨F,hF⟩:∃z,Hid (formP s=z):=⟨_,Lib.hid rfl⟩
 rw[hF.out] at hc hi
 rw[hi]
 obtain⟨t,a,y⟩:=F
 simp only at hc ⊢
 have hb:=str_beq' t s
 clear hi
 by_cases h0:y=0
 ·subst h0
  obtain⟨b,hbd⟩:∃z,Hid (decide (t=s)=z):=⟨_,Lib.hid rfl⟩
  rw[hbd.out] at hb ⊢
  go_enter Tryz.func75,Tryz.ntmps75
  go_wp2_with fail
  refine hc.mono ?_
  rintro e w1 ⟨rfl,hx1⟩
  go_wp2_with fail
  go_ret
  exact⟨by simp,hx1⟩
 ·have hyb:((y:Int) == 0)=false:=by simpa using h0
  rw[decide_eq_false h0,Bool.false_and]
  clear hb
  go_enter Tryz.func75,Tryz.ntmps75
  go_wp2_with fail
  refine hc.mono ?_
  rintro e w1 ⟨rfl,hx1⟩
  go_wp2_with fail
  go_ret
  exact⟨rfl,hx1⟩
end Cn
namespace Pr
open Lx
structure WN (M:Nat) (d:Nd):Prop where
 k0:0≤d.k
 k12:d.k<12
 its:∀x∈d.items,x<M
 fls:∀f∈d.fields,f.2.2<M
 one:d.k=6∨d.k=7→∃x,d.items=[x]
 nod:(d.fields.map (·.1)).Nodup
 nof:¬d.k=11→d.fields=[]
 ln:d.items.length≤5000∧d.syms.length≤5000∧d.fields.length≤5000
theorem WN.mono {M M':Nat} {d:Nd} (h:WN M d) (hM:M≤M'):WN M' d:=⟨h.k0,h.k12,fun x hx=>Nat.lt_of_lt_of_le (h.its x hx) hM,fun f hf=>Nat.lt_of_lt_of_le (h.fls f hf) hM,h.one,h.nod,h.nof,h.ln⟩
def NmOk (s:PS):Prop:=(∀x m,s.nm x=some m→m<s.ns.length)∧s.l.length≤5000
structure Gd (b:Nat) (s s':PS):Prop where
 le:s.ns.length≤s'.ns.length
 nm:NmOk s'
 old:∀i,i<s.ns.length→i≠b→s'.ns[i]?=s.ns[i]?
 new:∀i d,s.ns.length≤i→s'.ns[i]?=some d→WN s'.ns.length d
theorem Gd.to {s s':PS} (h:Gd s.ns.length s s') (b:Nat):Gd b s s':=⟨h.le,h.nm,fun i hi _=>h.old i hi (by omega),h.new⟩
theorem Gd.same {b:Nat} {s s':PS} (hn:NmOk s) (e:s'.ns=s.ns) (e2:s'.nm=s.nm) (e3:s'.l.length≤s.l.length):Gd b s s':=⟨by rw[e];exact Nat.le_refl _,⟨fun x m h=>by rw[e2] at h;rw[e];exact hn.1 x m h,Nat.le_trans e3 hn.2⟩,fun i _ _=>by rw[e],fun i d hi hd=>by
 rw[e,List.getElem?_eq_none hi] at hd;cases hd⟩
theorem Gd.on {b:Nat} {s:PS} (hn:NmOk s):Gd b s s.on:=Gd.same hn rfl rfl (by show s.l.tail.length≤_;rw[List.length_tail];omega)
theorem Gd.trans {b:Nat} {s s1 s':PS} (h:Gd b s s1) (k:Gd b s1 s') (hb:b<s.ns.length):Gd b s s':=⟨Nat.le_trans h.le k.le,k.nm,fun i hi hne=>by
  have:=h.le
  rw[k.old i (by omega) hne,h.old i hi hne],fun i d hi hd=>by
  by_cases hs:i<s1.ns.length
  ·rw[k.old i hs (by omega)] at hd
   exact (h.new i d hi hd).mono k.le
  ·exact k.new i d (by omega) hd⟩
theorem Gd.setN {s:PS} (hn:NmOk s) (n:Nat) (f:Nd→Nd):Gd n s (s.setN n f):=⟨by rw[setN_len];exact Nat.le_refl _,⟨fun x m h=>by rw[setN_len];exact hn.1 x m h,hn.2⟩,fun i hi hne=>by
  show (s.ns.modify n f)[i]?=_
  rw[List.getElem?_modify];have hne2:¬n=i:=fun e=>hne e.symm;cases s.ns[i]?<;>simp[hne2],fun i d hi hd=>by
  have:(s.setN n f).ns[i]?=none:=List.getElem?_eq_none (by rw[setN_len];exact hi)
  rw[this] at hd;cases hd⟩
def TW (T:Bool→List Nat→PS→Res Nat):Prop:=∀u a s n s',T u a s=.ok n s'→NmOk s→Gd s.ns.length s s'∧n<s'.ns.length
section
variable {T:Bool→List Nat→PS→Res Nat}
theorem itemR_w (hT:TW T) {s s':PS} {n:Nat} {x:ByteArray} {u:Unit} (h:itemR T s n x=.ok u s') (hn:NmOk s) (hb:n<s.ns.length) :
  Gd n s s'∧∃x,x<s'.ns.length∧∀d,s.ns[n]?=some d→s'.ns[n]?=some { d with items:=[x] }:=by
 obtain⟨a,s1,h1,h2⟩:=Res.bind_ok h
 obtain⟨h5,rfl⟩:=mustR_ok h2
 obtain⟨g,ha⟩:=hT _ _ _ _ _ h1 hn
 have g2:=Gd.setN g.nm n fun d=>{ d with items:=[a] }
 refine⟨((g.to n).trans g2 hb).trans (Gd.on g2.nm) hb,a,by show a<(s1.setN n _).ns.length;rw[setN_len];exact ha,fun d hd=>?_⟩
 have:=g.old n hb (by omega)
 rw[hd] at this
 exact setN_get s1 n _ d this
theorem unionR_w (hT:TW T) (n:Nat):∀(m:Nat) (l:List Nat) {s s':PS} {u:Unit},unionR T n m l s=.ok u s'→NmOk s→n<s.ns.length→(∀x∈l,x<s.ns.length)→
  Gd n s s'∧∃l',(∀x∈l',x<s'.ns.length)∧l'.length≤l.length+m∧∀d,s.ns[n]?=some d→s'.ns[n]?=some { d with items:=l' }
 | 0,l,s,s',u,h,_,_,_=>by cases h
 | m+1,l,s,s',u,h,hn,hb,hl=>by
  rw[unionR] at h
  obtain⟨a,s1,h1,h2⟩:=Res.bind_ok h
  obtain⟨g,ha⟩:=hT _ _ _ _ _ h1 hn
  have hl':∀x∈l++[a],x<s1.ns.length:=fun x hx=>by
   have:=g.le
   rcases List.mem_append.1 hx with hx|hx
   ·have:=hl x hx;omega
   ·rw[List.mem_singleton] at hx;subst hx;exact ha
  split at h2
  ·injection h2 with _ h2
   subst h2
   have g1:=Gd.on (b:=n) g.nm
   have g2:=Gd.setN g1.nm n fun d=>{ d with items:=l++[a] }
   refine⟨((g.to n).trans g1 hb).trans g2 hb,l++[a],fun x hx=>by rw[setN_len];exact hl' x hx,by simp<;>omega,fun d hd=>?_⟩
   have:=g.old n hb (by omega)
   rw[hd] at this
   exact setN_get s1.on n _ d this
  ·obtain⟨v,s2,h5,h6⟩:=Res.bind_ok h2
   obtain⟨h7,rfl⟩:=mustR_ok h5
   have g1:=Gd.on (b:=n) g.nm
   obtain⟨g3,l',k1,k3,k2⟩:=unionR_w hT n m _ h6 g1.nm (Nat.lt_of_lt_of_le hb g.le) hl'
   refine⟨((g.to n).trans g1 hb).trans g3 hb,l',k1,by simp at k3;omega,fun d hd=>k2 d ?_⟩
   have:=g.old n hb (by omega)
   rw[hd] at this
   exact this
theorem symsR_w (n:Nat):∀(m:Nat) (l:List ByteArray) {s s':PS} {u:Unit},symsR n m l s=.ok u s'→NmOk s→n<s.ns.length→
  Gd n s s'∧∃l',l'.length≤l.length+m∧∀d,s.ns[n]?=some d→s'.ns[n]?=some { d with syms:=l' }
 | 0,l,s,s',u,h,_,_=>by cases h
 | m+1,l,s,s',u,h,hn,hb=>by
  rw[symsR] at h
  obtain⟨x,s1,h1,h2⟩:=Res.bind_ok h
  obtain⟨_,_,_,_,_,rfl⟩:=nameR_ok h1
  split at h2
  ·injection h2 with _ h2
   subst h2
   have g1:=Gd.on (b:=n) hn
   have g0:=Gd.on (b:=n) g1.nm
   have g2:=Gd.setN g0.nm n fun d=>{ d with syms:=l++[x] }
   exact⟨(g1.trans g0 hb).trans g2 hb,l++[x],by simp<;>omega,fun d hd=>setN_get s.on.on n _ d hd⟩
  ·obtain⟨v,s2,h5,h6⟩:=Res.bind_ok h2
   obtain⟨h7,rfl⟩:=mustR_ok h5
   have g1:=Gd.on (b:=n) hn
   have g0:=Gd.on (b:=n) g1.nm
   obtain⟨g3,l',k3,k2⟩:=symsR_w n m _ h6 g0.nm hb
   exact⟨(g1.trans g0 hb).trans g3 hb,l',by simp at k3;omega,fun d hd=>k2 d hd⟩
theorem Gd.goes {b:Nat} {s:PS} (hn:NmOk s) (x:ByteArray):Gd b s (goesR s x).2:=by
 unfold goesR
 split
 ·exact Gd.on hn
 ·exact Gd.same hn rfl rfl (Nat.le_refl _)
theorem fieldsR_w (hT:TW T) (n:Nat):∀(m:Nat) (l:List (ByteArray×Bool×Nat)) {s s':PS} {u:Unit},fieldsR T n m l s=.ok u s'→NmOk s→n<s.ns.length→(∀f∈l,f.2.2<s.ns.length)→(l.map (·.1)).Nodup→
  Gd n s s'∧∃l',(∀f∈l',f.2.2<s'.ns.length)∧(l'.map (·.1)).Nodup∧l'.length≤l.length+m∧∀d,s.ns[n]?=some d→s'.ns[n]?=some { d with fields:=l' }
 | 0,l,s,s',u,h,_,_,_,_=>by cases h
 | m+1,l,s,s',u,h,hn,hb,hl,hd=>by
  rw[fieldsR] at h
  split at h
  ·injection h with _ h
   subst h
   have g1:=Gd.on (b:=n) hn
   have g2:=Gd.setN g1.nm n fun d=>{ d with fields:=l }
   exact⟨g1.trans g2 hb,l,fun f hf=>by rw[setN_len];exact hl f hf,hd,by omega,fun d hd=>setN_get s.on n _ d hd⟩
  ·obtain⟨x,s1,h1,h2⟩:=Res.bind_ok h
   obtain⟨_,_,_,hx,_,rfl⟩:=nameR_ok h1
   obtain⟨v,s2,h3,h4⟩:=Res.bind_ok h2
   obtain⟨h5,rfl⟩:=mustR_ok h3
   obtain⟨t,s3,h6,h7⟩:=Res.bind_ok h4
   obtain⟨v2,s4,h10,h11⟩:=Res.bind_ok h7
   obtain⟨h12,rfl⟩:=mustR_ok h10
   have g1:=Gd.on (b:=n) hn
   have g2:=Gd.goes (b:=n) g1.nm cQ
   have g3:=Gd.on (b:=n) g2.nm
   have e3:(goesR s.on cQ).2.on.ns=s.ns:=goes_ns s.on cQ
   obtain⟨g4,ht⟩:=hT _ _ _ _ _ h6 g3.nm
   have g5:=Gd.on (b:=n) g4.nm
   have hle:=g4.le
   rw[e3] at hle
   obtain⟨g6,l',k1,k2,k4,k3⟩:=fieldsR_w hT n m _ h11 g5.nm (Nat.lt_of_lt_of_le hb hle) (fun f hf=>by
    rcases List.mem_append.1 hf with hf|hf
    ·exact Nat.lt_of_lt_of_le (hl f hf) hle
    ·rw[List.mem_singleton] at hf;subst hf;exact ht) (by
    rw[List.map_append,List.nodup_append]
    refine⟨hd,by simp,fun y hy z hz e=>?_⟩
    simp only[List.map_cons,List.map_nil,List.mem_singleton] at hz
    subst hz
    subst e
    obtain⟨f,hf,e⟩:=List.mem_map.1 hy
    have:=List.any_eq_false.1 hx f hf
    simp[e] at this)
   have hb3:n<(goesR s.on cQ).2.on.ns.length:=by rw[e3];exact hb
   refine⟨((((g1.trans g2 hb).trans g3 hb).trans (g4.to n) hb).trans g5 hb).trans g6 hb,l',k1,k2,by simp at k4;omega,fun d hd=>k3 d ?_⟩
   have:=g4.old n hb3 (by omega)
   rw[e3,hd] at this
   exact this
theorem definedR_w (hT:TW T) {s s':PS} {n:Nat} {k:Int} {u:Unit} (h:definedR T s n k=.ok u s') (hn:NmOk s) (hb:n<s.ns.length) (d:Nd) (hd:s.ns[n]?=some d) (hf:d.fields=[]) (hy:d.syms=[]) :
  Gd n s s'∧∃d',s'.ns[n]?=some d'∧d'.k=d.k∧d'.items=d.items∧(∀f∈d'.fields,f.2.2<s'.ns.length)∧(d'.fields.map (·.1)).Nodup∧(k=9∨k=10→d'.fields=[])∧d'.syms.length≤5000∧d'.fields.length≤5000:=by
 unfold definedR at h
 obtain⟨x,s1,h1,h2⟩:=Res.bind_ok h
 obtain⟨_,_,_,_,_,rfl⟩:=nameR_ok h1
 simp only at h2
 have g1:=Gd.on (b:=n) hn
 have g2:=Gd.setN g1.nm n fun d=>{ d with name:=x }
 have g3:Gd n s (s.on.called n x):=by
  refine⟨by show _≤(s.on.setN n _).ns.length;rw[setN_len];exact Nat.le_refl _,⟨fun y m hy=>?_,g1.nm.2⟩,fun i hi hne=>(g1.trans g2 hb).old i hi hne,fun i d hi hd=>(g1.trans g2 hb).new i d hi hd⟩
  show m<(s.on.setN n _).ns.length
  rw[setN_len]
  have hy:(if y=x then some n else s.nm y)=some m:=hy
  split at hy
  ·injection hy with hy;subst hy;exact hb
  ·exact hn.1 y m hy
 have hd2:(s.on.called n x).ns[n]?=some { d with name:=x }:=setN_get s.on n _ d hd
 have hb2:n<(s.on.called n x).ns.length:=Nat.lt_of_lt_of_le hb g3.le
 generalize s.on.called n x=s2 at h2 g3 hd2 hb2
 split at h2
 ·obtain⟨v,s3,h5,h6⟩:=Res.bind_ok h2
  obtain⟨h7,rfl⟩:=mustR_ok h5
  have g4:=Gd.on (b:=n) g3.nm
  obtain⟨g5,l',k3,k⟩:=symsR_w n _ _ h6 g4.nm hb2
  have k4:=g4.nm.2
  exact⟨(g3.trans g4 hb).trans g5 hb,_,k _ hd2,rfl,rfl,fun f h=>(by simp[hf] at h),by simp[hf],fun _=>hf,by show l'.length≤_;simp at k3;omega,by show d.fields.length≤_;rw[hf];simp⟩
 ·split at h2
  ·split at h2
   ·cases h2
   ·injection h2 with _ h2
    subst h2
    have g4:=Gd.on (b:=n) g3.nm
    have g5:=Gd.setN g4.nm n fun d=>{ d with size:=((numO (Pr.hd s2.l).s.data.toList).getD 0:Nat) }
    exact⟨(g3.trans g4 hb).trans g5 hb,_,setN_get s2.on n _ _ hd2,rfl,rfl,fun f h=>(by simp[hf] at h),by simp[hf],fun _=>hf,by show d.syms.length≤_;rw[hy];simp,by show d.fields.length≤_;rw[hf];simp⟩
  ·obtain⟨v,s3,h5,h6⟩:=Res.bind_ok h2
   obtain⟨h7,rfl⟩:=mustR_ok h5
   have g4:=Gd.on (b:=n) g3.nm
   obtain⟨g5,l',k1,k2,k4,k3⟩:=fieldsR_w hT n _ _ h6 g4.nm hb2 (fun f h=>by cases h) List.nodup_nil
   have k5:=g4.nm.2
   exact⟨(g3.trans g4 hb).trans g5 hb,_,k3 _ hd2,rfl,rfl,k1,k2,fun e=>(by omega),by show d.syms.length≤_;rw[hy];simp,by show l'.length≤_;simp at k4;omega⟩
end
theorem typedR_w:∀(fuel:Nat),TW (typedR fuel)
 | fuel,u,a,s,n,s',h,hn=>by
  have hin:=typedR_in hn.1 h
  refine⟨?_,hin⟩
  rw[typedR.eq_def] at h
  simp only at h
  split at h
  ·cases h
  ·next k hk=>
   have hr:=kindR_rng hk
   split at h
   ·cases h
   ·split at h
    ·injection h with _ h
     subst h
     exact Gd.on hn
    ·next hk0=>
     have hn1:NmOk ({ s.on with ns:=s.ns++[Nd.ofKind k] }:PS):=⟨fun x m hm=>by
      have:=hn.1 x m hm
      simp only[List.length_append,List.length_cons,List.length_nil];omega,(Gd.on (b:=0) hn).nm.2⟩
     have hd1:({ s.on with ns:=s.ns++[Nd.ofKind k] }:PS).ns[s.ns.length]?=some (Nd.ofKind k):=by simp
     have hold:∀i,i<s.ns.length→({ s.on with ns:=s.ns++[Nd.ofKind k] }:PS).ns[i]?=s.ns[i]?:=fun i hi=>List.getElem?_append_left hi
     have hl1:({ s.on with ns:=s.ns++[Nd.ofKind k] }:PS).ns.length=s.ns.length+1:=by simp
     generalize ({ s.on with ns:=s.ns++[Nd.ofKind k] }:PS)=s1 at h hn1 hd1 hold hl1
     have fin:∀s2,Gd s.ns.length s1 s2→(∀d,s2.ns[s.ns.length]?=some d→WN s2.ns.length d)→Gd s.ns.length s s2:=fun s2 g hw=>⟨by have:=g.le;omega,g.nm,fun i hi hne=>by rw[g.old i (by omega) hne,hold i hi],fun i d hi hd=>by
      by_cases e:i=s.ns.length
      ·subst e;exact hw d hd
      ·exact g.new i d (by omega) hd⟩
     cases fuel with
     | zero=>cases h
     | succ fuel=>
      have ih:=typedR_w fuel
      simp only at h
      split at h
      ·next e6=>
       obtain⟨_,s2,h1,h2⟩:=Res.bind_ok h
       injection h2 with _ h2;subst h2
       obtain⟨g,x,hx,hh⟩:=itemR_w ih h1 hn1 (by omega)
       refine fin _ g fun d hd=>?_
       rw[hh _ hd1] at hd
       injection hd with hd;subst hd
       exact⟨by show 0≤k;omega,by show k<12;omega,fun y hy=>by rw[List.mem_singleton] at hy;subst hy;exact hx,fun f hf=>(by cases hf),fun _=>⟨x,rfl⟩,List.nodup_nil,fun _=>rfl,⟨by show 1≤_;omega,Nat.zero_le _,Nat.zero_le _⟩⟩
      ·split at h
       ·next e7=>
        obtain⟨_,s2,h1,h2⟩:=Res.bind_ok h
        injection h2 with _ h2;subst h2
        obtain⟨g,x,hx,hh⟩:=itemR_w ih h1 hn1 (by omega)
        refine fin _ g fun d hd=>?_
        rw[hh _ hd1] at hd
        injection hd with hd;subst hd
        exact⟨by show 0≤k;omega,by show k<12;omega,fun y hy=>by rw[List.mem_singleton] at hy;subst hy;exact hx,fun f hf=>(by cases hf),fun _=>⟨x,rfl⟩,List.nodup_nil,fun _=>rfl,⟨by show 1≤_;omega,Nat.zero_le _,Nat.zero_le _⟩⟩
       ·split at h
        ·next e8=>
         obtain⟨_,s2,h1,h2⟩:=Res.bind_ok h
         injection h2 with _ h2;subst h2
         obtain⟨g,l',hx,hm,hh⟩:=unionR_w ih _ _ _ h1 hn1 (by omega) (fun x hx=>(by cases hx))
         have hm2:=(Gd.on (b:=0) hn).nm.2
         refine fin _ g fun d hd=>?_
         rw[hh _ hd1] at hd
         injection hd with hd;subst hd
         exact⟨by show 0≤k;omega,by show k<12;omega,hx,fun f hf=>(by cases hf),fun e=>(by have e:k=6∨k=7:=e;omega),List.nodup_nil,fun _=>rfl,⟨by show l'.length≤_;simp at hm;omega,Nat.zero_le _,Nat.zero_le _⟩⟩
        ·split at h
         ·obtain⟨_,s2,h1,h2⟩:=Res.bind_ok h
          injection h2 with _ h2;subst h2
          obtain⟨g,d',hd',e1,e2,h3,h4,h5,h6,h7⟩:=definedR_w ih h1 hn1 (by omega) _ hd1 rfl rfl
          refine fin _ g fun d hd=>?_
          rw[hd'] at hd
          injection hd with hd;subst hd
          have e1:d'.k=k:=e1
          have e2:d'.items=[]:=e2
          exact⟨by omega,by omega,fun y hy=>(by rw[e2] at hy;cases hy),h3,fun e=>(by omega),h4,fun e=>h5 (by omega),⟨by rw[e2];simp,h6,h7⟩⟩
         ·injection h with _ h
          subst h
          refine fin _ (Gd.same hn1 rfl rfl (Nat.le_refl _)) fun d hd=>?_
          rw[hd1] at hd
          injection hd with hd;subst hd
          exact⟨by show 0≤k;omega,by show k<12;omega,fun y hy=>(by cases hy),fun f hf=>(by cases hf),fun e=>(by have e:k=6∨k=7:=e;omega),List.nodup_nil,fun _=>rfl,⟨Nat.zero_le _,Nat.zero_le _,Nat.zero_le _⟩⟩
theorem tokG_len (s:ByteArray):∀(f a:Nat),(tokG s f a).length≤f+1
 | 0,a=>by unfold tokG;simp
 | f+1,a=>by
  have:=tokG_len s f
  unfold tokG
  split
  ·have:=this (skp s (a+lenAt s a))
   rw[List.length_cons]
   omega
  ·simp
theorem parse_wn (s:ByteArray):∀d∈(parseP s).1,WN (parseP s).1.length d:=by
 rcases parse_cases s with⟨h1,_⟩|⟨hw,n,s',ht,_,hp⟩
 ·rw[h1];exact fun d hd=>(by cases hd)
 ·obtain⟨_,_,_,hz,_⟩:=Cn.back_plain' s (by rw[hp])
  rw[hp]
  intro d hd
  obtain⟨i,hi⟩:=List.getElem?_of_mem hd
  exact (typedR_w 20 _ _ _ _ _ ht ⟨fun x m h=>(by cases h),by
   have:=tokG_len s (s.size+1) (skp s 0)
   show (tokG s (s.size+1) (skp s 0)).length≤5000
   omega⟩).1.new i d (Nat.zero_le _) hi
theorem WN.toE {M:Nat} {d:Nd} (h:WN M d):WE M d.toE:=⟨h.k0,h.k12,fun x hx=>by
  obtain⟨y,hy,rfl⟩:=List.mem_map.1 hx
  have:=h.its y hy
  exact⟨Int.natCast_nonneg _,by omega⟩,fun f hf=>by
  obtain⟨y,hy,rfl⟩:=List.mem_map.1 hf
  have:=h.fls y hy
  exact⟨Int.natCast_nonneg _,by show (y.2.2:Int)<M;omega⟩,fun e=>by
  obtain⟨x,hx⟩:=h.one e
  exact⟨(x:Int),by show d.items.map _=_;rw[hx];rfl⟩,by
  have:d.toE.fields.map (·.1)=d.fields.map (·.1):=by show (d.fields.map _).map _=_;rw[List.map_map];rfl
  rw[this];exact h.nod,fun e=>(by show d.fields.map _=[];rw[h.nof e];rfl),⟨by show (d.items.map _).length≤_;rw[List.length_map];exact h.ln.1,h.ln.2.1,by show (d.fields.map _).length≤_;rw[List.length_map];exact h.ln.2.2⟩⟩
theorem show_we {ns:List Ne} {t:List UInt8} (h:showP ns=some t):0<ns.length∧ns.length≤1500∧∀d∈ns,WE ns.length d:=by
 unfold showP at h
 simp only at h
 split at h
 ·cases h
 ·next h1=>
  split at h
  ·cases h
  ·next h2=>
   have e:=Decidable.not_not.1 fun hc=>h2 (.inr hc)
   have hl:=(parse_lens ⟨(wtyp ns 20 0 ⟨[],0,false⟩).s.toArray⟩).1
   have hw:=parse_wn ⟨(wtyp ns 20 0 ⟨[],0,false⟩).s.toArray⟩
   generalize (parseP ⟨(wtyp ns 20 0 ⟨[],0,false⟩).s.toArray⟩).1=q at hw e hl
   have hln:ns.length=q.length:=by rw[←e,List.length_map]
   refine⟨?_,by omega,fun d hd=>?_⟩
   ·rcases Nat.eq_zero_or_pos ns.length with h0|h0
    ·exfalso
     apply h1
     left
     rw[List.eq_nil_of_length_eq_zero h0]
     rfl
    ·exact h0
   ·rw[←e] at hd
    obtain⟨y,hy,rfl⟩:=List.mem_map.1 hd
    rw[hln]
    exact (hw y hy).toE
end Pr
namespace Rv
open Go.ChangeShapes Go.WideShapes Go.ChangeAt Go.RowKit
open Base Lx Mi Pr Mp
theorem Sch.slice {B:Nat} {w:World} {v:Value} {ns:List Ne} (h:Sch B w v ns):∃A n c,v=.slice A n c:=by
 obtain⟨vs,_,⟨A,c,e,_⟩,_⟩:=h
 exact⟨A,_,c,e⟩
theorem related_no1 (a:List Ne) (va vb:Value) (w:World) (hSa:Sch w.heap.size w va a) (hwd:Wd w) (hpow:Pow w) (hLa:showLen a≤100000000) (hta:showP a=none) :
  Calls Tryz.prog 49 #[.agg #[va],.agg #[vb]] w fun en w'=>en=.returned (.pointer none)∧Ext w w':=by
 have hsa:=fun W (hW:Ext w W)=>show_any va a W ((hSa.below hW).mono hW.size) (hwd.ext hW) (hpow.ext hW) hLa
 simp only[hta,shV] at hsa
 obtain⟨w1,hw1⟩:∃z,Hid ((w.alloc (.cells #[va] 24)).alloc (.cells #[vb] 24)=z):=⟨_,rfl⟩
 have hx1:Ext w w1:=by rw[←hw1.out];exact ((Ext.refl w).alloc _).alloc _
 have hs:=hsa w1 hx1
 clear hsa hta hSa
 go_enter Tryz.func49,Tryz.ntmps49
 go_wp2_with fail
 rw[hw1.out]
 refine hs.mono ?_
 rintro en w3 ⟨rfl,hx3⟩
 go_wp2_with fail
 go_ret
 exact⟨rfl,hx1.trans hx3⟩
theorem related_no2 (a b:List Ne) (va vb:Value) (w:World) (hSa:Sch w.heap.size w va a) (hSb:Sch w.heap.size w vb b) (hwd:Wd w) (hpow:Pow w) (hLa:showLen a≤100000000) (hLb:showLen b≤100000000) (ta:List UInt8) (hta:showP a=some ta) (htb:showP b=none) :
  Calls Tryz.prog 49 #[.agg #[va],.agg #[vb]] w fun en w'=>en=.returned (.pointer none)∧Ext w w':=by
 have hsa:=fun W (hW:Ext w W)=>show_any va a W ((hSa.below hW).mono hW.size) (hwd.ext hW) (hpow.ext hW) hLa
 have hsb:=fun W (hW:Ext w W)=>show_any vb b W ((hSb.below hW).mono hW.size) (hwd.ext hW) (hpow.ext hW) hLb
 simp only[hta,shV] at hsa
 simp only[htb,shV] at hsb
 obtain⟨sa,hsa'⟩:∃z,Hid ((⟨ta.toArray⟩:ByteArray)=z):=⟨_,rfl⟩
 simp only[hsa'.out] at hsa
 obtain⟨w1,hw1⟩:∃z,Hid (w.alloc (.cells #[va] 24)=z):=⟨_,rfl⟩
 obtain⟨w2,hw2⟩:∃z,Hid (w1.alloc (.cells #[vb] 24)=z):=⟨_,rfl⟩
 have hx1:Ext w w1:=by rw[←hw1.out];exact (Ext.refl w).alloc _
 have hx12:Ext w1 w2:=by rw[←hw2.out];exact (Ext.refl w1).alloc _
 have hs1:w1.heap.size=w.heap.size+1:=by rw[←hw1.out];simp
 obtain⟨q3,hq3⟩:∃z,Hid (w.heap.size+1=z):=⟨_,rfl⟩
 have b3:Blk w2 q3 #[vb] 24:=by rw[←hq3.out,←hs1,←hw2.out];exact Blk.new w1 _ _
 have hx2:=hx1.trans hx12
 have k3:=b3.cell 0
 simp only[List.getElem?_toArray,List.getElem?_cons_zero] at k3
 have hs:=hsa w2 hx2
 replace hsb:=Lib.hid hsb
 clear hsa hta htb hSa hSb hs1 b3
 go_enter Tryz.func49,Tryz.ntmps49
 go_wp2_with fail
 rw[hw1.out,hw2.out,hq3.out]
 refine hs.mono ?_
 rintro en w3 ⟨rfl,hx3⟩
 have hs3:=hsb.out w3 (hx2.trans hx3)
 have k3':=hx3.cell k3
 go_wp2_with fail
 refine hs3.mono ?_
 rintro en w4 ⟨rfl,hx4⟩
 go_wp2_with fail
 go_ret
 exact⟨rfl,hx2.trans (hx3.trans hx4)⟩
def relV (a b:List Ne) (va vb:Value) (v:Value) (w':World):Prop:=
 (v=.pointer none∧canB a b=false)∨∃bx bm n N,v=.pointer (some ⟨bx,0,none⟩)∧RX w' bx bm n va vb N∧Stays a b (notR N)∧AllIn a b N∧(!N 0 0)=canB a b∧(∃t,showP a=some t)∧∃t,showP b=some t
open Classical in
theorem canB_no1 {a b:List Ne} (h:showP a=none):canB a b=false:=by unfold canB;exact decide_eq_false fun hc=>by have:=hc.1;rw[h] at this;cases this
open Classical in
theorem canB_no2 {a b:List Ne} (h:showP b=none):canB a b=false:=by unfold canB;exact decide_eq_false fun hc=>by have:=hc.2.1;rw[h] at this;cases this
open Classical in
theorem canB_of {a b:List Ne} {ta tb:List UInt8} (ha:showP a=some ta) (hb:showP b=some tb) {N:Rel} (h1:Stays a b (notR N)) (h2:AllIn a b N):(!N 0 0)=canB a b:=by
 have hi:=(show_we ha).1
 have hk:=(show_we hb).1
 have h3:=inR_not h1 h2 hi hk
 unfold canB
 cases hN:N 0 0 with
 | true=>
  symm
  exact decide_eq_false fun hc=>by have:=h3.1 hc.2.2;rw[show N ((0:Nat):Int) ((0:Nat):Int)=N 0 0 from rfl,hN] at this;cases this
 | false=>
  symm
  exact decide_eq_true ⟨by rw[ha];rfl,by rw[hb];rfl,h3.2 hN⟩
theorem related_any (a b:List Ne) (va vb:Value) (w:World) (hSa:Sch w.heap.size w va a) (hSb:Sch w.heap.size w vb b) (hwd:Wd w) (hpow:Pow w) (hLa:showLen a≤100000000) (hLb:showLen b≤100000000) :
  Calls Tryz.prog 49 #[.agg #[va],.agg #[vb]] w fun en w'=>∃v,en=.returned v∧relV a b va vb v w'∧Ext w w':=by
 cases hta:showP a with
 | none=>exact (related_no1 a va vb w hSa hwd hpow hLa hta).mono fun en w' h=>⟨_,h.1,.inl ⟨rfl,canB_no1 hta⟩,h.2⟩
 | some ta=>
  cases htb:showP b with
  | none=>exact (related_no2 a b va vb w hSa hSb hwd hpow hLa hLb ta hta htb).mono fun en w' h=>⟨_,h.1,.inl ⟨rfl,canB_no2 htb⟩,h.2⟩
  | some tb=>
   have h1:=show_we hta
   have h2:=show_we htb
   refine (related_some a b va vb w hSa hSb hwd hpow hLa hLb ta tb hta htb h1.2.1 h2.2.1 h1.2.2 h2.2.2).mono ?_
   rintro en w' ⟨⟨bx,bm,n,N,rfl,h3,h4,h5⟩,h6⟩
   exact⟨_,rfl,.inr ⟨bx,bm,n,N,rfl,h3,h4,h5,canB_of hta htb h4 h5,⟨ta,hta⟩,tb,htb⟩,h6⟩
theorem can_any (a b:List Ne) (va vb:Value) (w:World) (hSa:Sch w.heap.size w va a) (hSb:Sch w.heap.size w vb b) (hwd:Wd w) (hpow:Pow w) (hLa:showLen a≤100000000) (hLb:showLen b≤100000000) :
  Calls Tryz.prog 46 #[.agg #[va],.agg #[vb]] w fun en w'=>en=.returned (.bool (canB a b))∧Ext w w':=by
 obtain⟨w1,hw1⟩:∃z,Hid ((w.alloc (.cells #[va] 24)).alloc (.cells #[vb] 24)=z):=⟨_,rfl⟩
 have hx1:Ext w w1:=by rw[←hw1.out];exact ((Ext.refl w).alloc _).alloc _
 have hc:=related_any a b va vb w1 ((hSa.below hx1).mono hx1.size) ((hSb.below hx1).mono hx1.size) (hwd.ext hx1) (hpow.ext hx1) hLa hLb
 clear hSa hSb
 obtain⟨r,hr⟩:∃z,Hid (canB a b=z):=⟨_,rfl⟩
 rw[hr.out]
 obtain⟨PO,hPO⟩:∃PO:Ending→World→Prop,Hid ((fun en w'=>en=.returned (.bool r)∧Ext w w')=PO):=⟨_,Lib.hid rfl⟩
 have fin:∀W,Ext w W→PO (.returned (.bool r)) W:=fun W hW=>by rw[←hPO.out];exact⟨rfl,hW⟩
 rw[hPO.out]
 go_enter Tryz.func46,Tryz.ntmps46
 go_wp2_with fail
 rw[hw1.out]
 refine hc.mono ?_
 rintro en w2 ⟨v,rfl,hv,hx2⟩
 clear hc
 rcases hv with⟨rfl,e⟩|⟨bx,bm,n,N,rfl,hrx,_,_,e,_,_⟩
 ·rw[hr.out] at e
  subst e
  have hf:=fin w2 (hx1.trans hx2)
  have hxx:=hx1.trans hx2
  go_wp2_with fail
  first|exact hf|exact hxx
 ·rw[hr.out] at e
  have hrd:=reads_any hrx (i:=0) (j:=0) ⟨by decide,by decide⟩ ⟨by decide,by decide⟩
  rw[e] at hrd
  clear e
  go_wp2_with fail
  refine hrd.mono ?_
  rintro en w3 ⟨rfl,hx3⟩
  have hf:=fin w3 (hx1.trans (hx2.trans hx3))
  have hxx:=hx1.trans (hx2.trans hx3)
  go_wp2_with fail
  first|exact hf|exact hxx
theorem Can_any (a b:List Ne) (va vb:Value) (w:World) (hSa:Sch w.heap.size w va a) (hSb:Sch w.heap.size w vb b) (hwd:Wd w) (hpow:Pow w) (hLa:showLen a≤100000000) (hLb:showLen b≤100000000) :
  Calls Tryz.prog 18 #[.agg #[va],.agg #[vb]] w fun en w'=>en=.returned (.bool (canB a b))∧Ext w w':=by
 obtain⟨w1,hw1⟩:∃z,Hid ((w.alloc (.cells #[va] 24)).alloc (.cells #[vb] 24)=z):=⟨_,rfl⟩
 have hx1:Ext w w1:=by rw[←hw1.out];exact ((Ext.refl w).alloc _).alloc _
 have hc:=can_any a b va vb w1 ((hSa.below hx1).mono hx1.size) ((hSb.below hx1).mono hx1.size) (hwd.ext hx1) (hpow.ext hx1) hLa hLb
 clear hSa hSb
 obtain⟨r,hr⟩:∃z,Hid (canB a b=z):=⟨_,rfl⟩
 rw[hr.out] at hc ⊢
 go_enter Tryz.func18,Tryz.ntmps18
 go_wp2_with fail
 rw[hw1.out]
 refine hc.mono ?_
 rintro en w2 ⟨rfl,hx2⟩
 go_wp2_with fail
 go_ret
 exact⟨rfl,hx1.trans hx2⟩
end Rv
end Go.Proofs.YtmaoochjbpohdaaGreatDoor
