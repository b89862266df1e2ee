/- parse: what is read is written, no longer than it was, and read as the same: plain. -/
import Derived.Test.YtmaoochjbpohdaaGreatDoorPvJ
set_option linter.unusedVariables false
set_option linter.unusedSimpArgs false
set_option maxRecDepth 100000
set_option maxHeartbeats 1000000
namespace Go.Proofs.YtmaoochjbpohdaaGreatDoor
namespace Pr
open Lx
/-! ### What goes wrong has a number -/
def NZ {α:Type} (r:Res α):Prop:=∀a w,r=.bad a w→w≠0
theorem NZ.ok {α:Type} (a:α) (s:PS):NZ (.ok a s):=fun _ _ h=>by cases h
theorem NZ.fail {α:Type} (s:PS) (w:Nat) (h:w≠0):NZ (failR s w:Res α):=fun a v e=>by injection e with _ e;omega
theorem NZ.bind {α β:Type} {r:Res α} {f:α→PS→Res β} (h:NZ r) (hf:∀a s,NZ (f a s)):NZ (r.bind f):=by
 cases r with
 | ok a s=>exact hf a s
 | bad a w=>exact fun a' w' e=>by injection e with e1 e2;rw[←e2];exact h a w rfl
theorem NZ.must (s:PS) (x:ByteArray):NZ (mustR s x):=by
 unfold mustR
 split
 ·exact .ok _ _
 ·exact .fail _ _ (by decide)
theorem NZ.name (s:PS) (th:ByteArray→Bool):NZ (nameR s th):=by
 unfold nameR
 split
 ·exact .fail _ _ (by decide)
 ·split
  ·exact .fail _ _ (by decide)
  ·exact .ok _ _
def TZ (T:Bool→List Nat→PS→Res Nat):Prop:=∀u a s,NZ (T u a s)
theorem NZ.union {T:Bool→List Nat→PS→Res Nat} (hT:TZ T) (n:Nat):∀(m:Nat) (l:List Nat) (s:PS),NZ (unionR T n m l s)
 | 0,l,s=>.fail _ _ (by decide)
 | m+1,l,s=>by
  rw[unionR]
  refine (hT _ _ _).bind fun x s1=>?_
  split
  ·exact .ok _ _
  ·exact (NZ.must _ _).bind fun _ s2=>NZ.union hT n m _ s2
theorem NZ.syms (n:Nat):∀(m:Nat) (l:List ByteArray) (s:PS),NZ (symsR n m l s)
 | 0,l,s=>.fail _ _ (by decide)
 | m+1,l,s=>by
  rw[symsR]
  refine (NZ.name _ _).bind fun x s1=>?_
  split
  ·exact .ok _ _
  ·exact (NZ.must _ _).bind fun _ s2=>NZ.syms n m _ s2
theorem NZ.fields {T:Bool→List Nat→PS→Res Nat} (hT:TZ T) (n:Nat):∀(m:Nat) (l:List (ByteArray×Bool×Nat)) (s:PS),NZ (fieldsR T n m l s)
 | 0,l,s=>.fail _ _ (by decide)
 | m+1,l,s=>by
  rw[fieldsR]
  split
  ·exact .ok _ _
  ·exact (NZ.name _ _).bind fun x s1=>(NZ.must _ _).bind fun _ s2=>(hT _ _ _).bind fun t s3=>(NZ.must _ _).bind fun _ s4=>NZ.fields hT n m _ s4
theorem gate_nz {fuel:Nat} {u:Bool} {a:List Nat} {s:PS} {k:Int} {n:Option Nat} {w:Nat} (h:gateR fuel u a s k n=some w):w≠0:=by
 unfold gateR at h
 split at h
 ·injection h with h;omega
 ·split at h
  ·injection h with h;omega
  ·split at h
   ·injection h with h;omega
   ·split at h
    ·injection h with h;omega
    ·split at h
     ·injection h with h;omega
     ·cases h
theorem typedR_nz:∀(fuel:Nat),TZ (typedR fuel)
 | fuel,u,a,s=>by
  rw[typedR.eq_def]
  simp only
  split
  ·exact .fail _ _ (by decide)
  ·split
   ·next w hw=>exact .fail _ _ (gate_nz hw)
   ·split
    ·exact .ok _ _
    ·cases fuel with
     | zero=>exact .fail _ _ (by decide)
     | succ fuel=>
      have ih:=typedR_nz fuel
      simp only
      split
      ·exact NZ.bind ((ih _ _ _).bind fun _ _=>NZ.must _ _) fun _ _=>.ok _ _
      ·split
       ·exact NZ.bind ((ih _ _ _).bind fun _ _=>NZ.must _ _) fun _ _=>.ok _ _
       ·split
        ·exact (NZ.union ih _ _ _ _).bind fun _ _=>.ok _ _
        ·split
         ·refine NZ.bind ?_ fun _ _=>.ok _ _
          unfold definedR
          refine (NZ.name _ _).bind fun x s1=>?_
          simp only
          split
          ·exact (NZ.must _ _).bind fun _ s3=>NZ.syms _ _ _ _
          ·split
           ·split
            ·exact .fail _ _ (by decide)
            ·exact .ok _ _
           ·exact (NZ.must _ _).bind fun _ s3=>NZ.fields ih _ _ _ _
         ·exact .ok _ _
theorem parse_cases (s:ByteArray):((parseP s).1=[]∧(parseP s).2.2≠0)∨(words s=none∧∃n s',typedR 20 false [] ⟨toks s,[],fun _=>none⟩=.ok n s'∧(hd s'.l).k=3∧parseP s=(s'.ns,0,0)):=by
 unfold parseP
 cases hw:words s with
 | some r=>
  obtain⟨p,q⟩:=r
  refine .inl ⟨rfl,?_⟩
  show q≠0
  unfold words at hw
  have hr:∀(l:List Tok) (n:Nat) (p q:Int),wordsR l n=some (p,q)→q≠0:=by
   intro l
   induction l with
   | nil=>intro n p q h;cases h
   | cons t l ih=>
    intro n p q h
    rw[wordsR] at h
    split at h
    ·injection h with h;injection h with _ h;omega
    ·split at h
     ·injection h with h;injection h with _ h;omega
     ·exact ih _ _ _ h
  split at hw
  ·injection hw with hw;injection hw with _ hw;omega
  ·exact hr _ _ _ _ hw
 | none=>
  simp only
  cases ht:typedR 20 false [] ⟨toks s,[],fun _=>none⟩ with
  | bad a w=>exact .inl ⟨rfl,by have:=typedR_nz 20 false [] _ a w ht;simp only;omega⟩
  | ok n s'=>
   simp only
   by_cases hk:(hd s'.l).k=3
   ·rw[if_neg (by simp[hk])]
    exact .inr ⟨trivial,n,s',rfl,hk,rfl⟩
   ·rw[if_pos hk]
    exact .inl ⟨rfl,by show (4:Int)≠0;decide⟩
/-! ### A type -/
theorem idxOf_get {α:Type} [DecidableEq α]:∀(l:List α) (s d:α),0≤idxOf l s→l.getD (idxOf l s).toNat d=s
 | [],s,d,h=>by simp[idxOf] at h
 | x::l,s,d,h=>by
  rw[idxOf] at h ⊢
  split
  ·next e=>subst e;rfl
  ·next e=>
   rw[if_neg e] at h
   split at h
   ·omega
   ·next h2=>
    rw[if_neg h2]
    have:=idxOf_get l s d (by omega)
    rw[show (idxOf l s+1).toNat=(idxOf l s).toNat+1 by omega]
    exact this
theorem kind_cases {s:PS} {k:Int} (h:kindR s=some k):(k=6∧isT s cSqO=true)∨(k=7∧isT s cCuO=true)∨(k=8∧isT s cPaO=true)∨((hd s.l).k=0∧(hd s.l).s≠⟨#[]⟩∧0≤k∧k=idxOf wordsL (hd s.l).s)∨((hd s.l).k=0∧k = -1):=by
 unfold kindR at h
 split at h
 ·next ht=>injection h with h;exact .inl ⟨h.symm,ht⟩
 ·split at h
  ·next ht=>injection h with h;exact .inr (.inl ⟨h.symm,ht⟩)
  ·split at h
   ·next ht=>injection h with h;exact .inr (.inr (.inl ⟨h.symm,ht⟩))
   ·split at h
    ·cases h
    ·next hk=>
     simp only[ne_eq,Decidable.not_not] at hk
     split at h
     ·next hq=>
      injection h with h
      simp only[kwP,Bool.and_eq_true,decide_eq_true_eq] at hq
      exact .inr (.inr (.inr (.inl ⟨hk,hq.1,by omega,h.symm⟩)))
     ·split at h
      ·injection h with h;exact .inr (.inr (.inr (.inr ⟨hk,h.symm⟩)))
      ·cases h
theorem kind_word {s:PS} {k:Int} (h0:(hd s.l).s≠⟨#[]⟩) (h1:0≤k) (h2:k=idxOf wordsL (hd s.l).s):(hd s.l).s=wordsL.getD k.toNat ⟨#[]⟩∧k≠6∧k≠7∧k≠8:=by
 have:=idxOf_get wordsL (hd s.l).s ⟨#[]⟩ (by omega)
 rw[←h2] at this
 refine⟨this.symm,?_,?_,?_⟩<;>intro e<;>rw[e] at this<;>exact h0 this.symm
theorem wtyp_new {N:List Ne} {f n:Nat} {S:List UInt8} {d:Ne} (h:N[n]?=some d) (hS:S.length≤4096):wtyp N (f+1) (n:Int) ⟨S,n,false⟩=wbody (wtyp N f) d ⟨S,n+1,false⟩:=by
 have hl:n<N.length:=(List.getElem?_eq_some_iff.1 h).1
 rw[wtyp,if_neg,if_neg (by simp)]
 ·have:N.getD (n:Int).toNat neD=d:=by rw[Int.toNat_natCast,List.getD,h];rfl
  rw[this]
 ·unfold wstop
  simp
  omega
theorem wtyp_ref {N:List Ne} {f i n:Nat} {S:List UInt8} {d:Ne} (h:N[i]?=some d) (hi:i<n) (h9:9≤d.k) (hS:S.length≤4096):wtyp N (f+1) (i:Int) ⟨S,n,false⟩=⟨S++bs d.name,n,false⟩:=by
 have hl:i<N.length:=(List.getElem?_eq_some_iff.1 h).1
 rw[wtyp,if_neg,if_pos (by simp only;omega)]
 ·have:N.getD (i:Int).toNat neD=d:=by rw[Int.toNat_natCast,List.getD,h];rfl
  rw[this,decide_eq_false (by omega)]
  rfl
 ·unfold wstop
  simp
  omega
theorem typedR_sh (N:List Ne):∀(fuel:Nat),TR N (typedR fuel) (wtyp N fuel)
 | fuel,u,a,s,n,s',S,h,hw,ha,hm,hF,hb=>by
  rw[typedR.eq_def] at h
  simp only at h
  split at h
  ·cases h
  ·next k hk=>
   split at h
   ·cases h
   ·next hgate=>
    have hf0:fuel≠0:=by
     intro e
     unfold gateR at hgate
     rw[if_pos (.inl e)] at hgate
     cases hgate
    obtain⟨f,rfl⟩:=Nat.exists_eq_succ_of_ne_zero hf0
    split at h
    ·next hneg=>
     have hk0:(hd s.l).k=0:=by
      rcases kind_cases hk with⟨e,_⟩|⟨e,_⟩|⟨e,_⟩|⟨e,_,e2,_⟩|⟨e,_⟩
      ·omega
      ·omega
      ·omega
      ·exact e
      ·exact e
     injection h with h1 h2
     have hsome:∃i,s.nm (hd s.l).s=some i:=by
      cases hq:s.nm (hd s.l).s with
      | some i=>exact⟨i,rfl⟩
      | none=>
       unfold gateR at hgate
       rw[hq] at hgate
       split at hgate
       ·cases hgate
       ·rw[if_pos ⟨hneg,rfl⟩] at hgate;cases hgate
     obtain⟨i,hi⟩:=hsome
     rw[hi] at h1
     have h1:i=n:=h1
     subst h1
     obtain⟨hlt,d,e1,e2,e3⟩:=hm _ _ hi
     obtain⟨_,hw1,g,q1,_,q3,_⟩:=hw.step (by omega)
     refine⟨bs (hd s.l).s,?_,fun h2k=>?_,by rw[←h2];exact hw1,hm.same (by rw[←h2];rfl) (by rw[←h2];exact Nat.le_refl _)⟩
     ·rw[wtyp_ref e1 hlt e3 (by omega),e2,←h2];rfl
     ·rw[q1,q3 (by rw[←h2] at h2k;exact h2k),←h2];rfl
    ·next hneg=>
     have ih:=typedR_sh N f
     have hS:=typedR_shp f
     have hG:=typedR_len f
     simp only at h
     have hn1:s.ns.length<(s.ns++[Nd.ofKind k]).length:=by simp
     have ha1:AllN ShN ({ s.on with ns:=s.ns++[Nd.ofKind k] }:PS):=fun d hd=>by
      rcases List.mem_append.1 hd with hd|hd
      ·exact ha d hd
      ·rw[List.mem_singleton] at hd;subst hd;exact⟨.inl rfl,.inl rfl⟩
     have hl1:({ s.on with ns:=s.ns++[Nd.ofKind k] }:PS).ns.length=s.ns.length+1:=by simp
     have hd1:({ s.on with ns:=s.ns++[Nd.ofKind k] }:PS).ns[s.ns.length]?=some (Nd.ofKind k):=by simp
     have hll1:({ s.on with ns:=s.ns++[Nd.ofKind k] }:PS).l=s.on.l:=rfl
     have hmm1:({ s.on with ns:=s.ns++[Nd.ofKind k] }:PS).nm=s.nm:=rfl
     generalize hs1:({ s.on with ns:=s.ns++[Nd.ofKind k] }:PS)=s1 at h ha1 hl1 hd1 hll1 hmm1
     have hm1:Nam N s1:=hm.same hmm1 (by omega)
     have er1:sr s1=sr s.on:=by unfold sr;rw[hll1]
     have hN:s.ns.length<s'.ns.length→N[s.ns.length]?=(s'.ns[s.ns.length]?).map Nd.toE:=fun hlt=>hF _ (Nat.le_refl _) hlt
     have late:FnW N s1 s':=hF.late (by omega)
     have wnew:∀d,s'.ns[s.ns.length]?=some d→wtyp N (f+1) (s.ns.length:Int) ⟨S,s.ns.length,false⟩=wbody (wtyp N f) d.toE ⟨S,s1.ns.length,false⟩:=fun d hd=>by
      have hlt:s.ns.length<s'.ns.length:=(List.getElem?_eq_some_iff.1 hd).1
      rw[wtyp_new (d:=d.toE) (by rw[hN hlt,hd];rfl) (by omega),hl1]
     have sgn:∀c:UInt8,kindOf c=2→isT s ⟨#[c]⟩=true→sr s=c::sr s1∧WS s1:=fun c hc ht=>by
      obtain⟨_,e,w⟩:=sign_step hc hw ht
      exact⟨by rw[er1];exact e,by show WTs (s1.l.map tk);rw[hll1];exact w⟩
     have wrd:(hd s.l).k=0→∃g,sr s=bs (hd s.l).s++(g++sr s1)∧(2≤(hd s1.l).k→g=[])∧((hd s1.l).k=0→g=[32])∧WS s1:=fun hk0=>by
      obtain⟨_,hw1,g,q1,_,q3,q4⟩:=hw.step (by omega)
      exact⟨g,by rw[er1];exact q1,by rw[hll1];exact q3,by rw[hll1];exact fun e=>q4 hk0 (by omega) (by omega),by show WTs (s1.l.map tk);rw[hll1];exact hw1⟩
     split at h
     ·next k6=>
      subst k6
      obtain⟨_,s2,h1,h2⟩:=Res.bind_ok h
      injection h2 with h3 h4
      subst h3;subst h4
      have ht:isT s cSqO=true:=by
       rcases kind_cases hk with⟨e,e2⟩|⟨e,_⟩|⟨e,_⟩|⟨_,e0,e1,e2⟩|⟨_,e⟩
       ·exact e2
       ·omega
       ·omega
       ·exact absurd rfl (kind_word e0 e1 e2).2.1
       ·omega
      obtain⟨e,w1⟩:=sgn 91 (by decide +kernel) ht
      obtain⟨x,out,q1,q2,q3,q4,q5⟩:=itemR_sh ih hS hG (S:=S++[91]) h1 (by decide +kernel) w1 ha1 hm1 (by omega) late (by rw[e] at hb;simp at hb ⊢;omega)
      refine⟨91::out++[93],?_,fun _=>by rw[e,q3];simp,q4,q5⟩
      rw[wnew _ (q1 _ hd1)]
      show wbody (wtyp N f) ⟨6,⟨#[]⟩,0,[],[(x:Int)],[]⟩ _=_
      rw[wbody,if_pos rfl,witems,wlist,wlist]
      simp only[if_true]
      rw[show (WSt.put ⟨S,s1.ns.length,false⟩ [91])=⟨S++[91],s1.ns.length,false⟩ from rfl,q2]
      simp[WSt.put]
     ·split at h
      ·next k6 k7=>
       subst k7
       obtain⟨_,s2,h1,h2⟩:=Res.bind_ok h
       injection h2 with h3 h4
       subst h3;subst h4
       have ht:isT s cCuO=true:=by
        rcases kind_cases hk with⟨e,_⟩|⟨e,e2⟩|⟨e,_⟩|⟨_,e0,e1,e2⟩|⟨_,e⟩
        ·omega
        ·exact e2
        ·omega
        ·exact absurd rfl (kind_word e0 e1 e2).2.2.1
        ·omega
       obtain⟨e,w1⟩:=sgn 123 (by decide +kernel) ht
       obtain⟨x,out,q1,q2,q3,q4,q5⟩:=itemR_sh ih hS hG (S:=S++[123]) h1 (by decide +kernel) w1 ha1 hm1 (by omega) late (by rw[e] at hb;simp at hb ⊢;omega)
       refine⟨123::out++[125],?_,fun _=>by rw[e,q3];simp,q4,q5⟩
       rw[wnew _ (q1 _ hd1)]
       show wbody (wtyp N f) ⟨7,⟨#[]⟩,0,[],[(x:Int)],[]⟩ _=_
       rw[wbody,if_neg (show ¬(7:Int)=6 by decide),if_pos rfl,witems,wlist,wlist]
       simp only[if_true]
       rw[show (WSt.put ⟨S,s1.ns.length,false⟩ [123])=⟨S++[123],s1.ns.length,false⟩ from rfl,q2]
       simp[WSt.put]
      ·split at h
       ·next k6 k7 k8=>
        subst k8
        obtain⟨_,s2,h1,h2⟩:=Res.bind_ok h
        injection h2 with h3 h4
        subst h3;subst h4
        have ht:isT s cPaO=true:=by
         rcases kind_cases hk with⟨e,_⟩|⟨e,_⟩|⟨e,e2⟩|⟨_,e0,e1,e2⟩|⟨_,e⟩
         ·omega
         ·omega
         ·exact e2
         ·exact absurd rfl (kind_word e0 e1 e2).2.2.2
         ·omega
        obtain⟨e,w1⟩:=sgn 40 (by decide +kernel) ht
        obtain⟨x,more,out,q1,q2,q3,q4,q5⟩:=unionR_sh ih hS hG s.ns.length _ _ (S:=S++[40]) h1 w1 ha1 ⟨_,hd1,rfl⟩ hm1 (by omega) late (by rw[e] at hb;simp at hb ⊢;omega)
        refine⟨40::out++[41],?_,fun _=>by rw[e,q3];simp,q4,q5⟩
        rw[wnew _ (q1 _ hd1)]
        show wbody (wtyp N f) ⟨8,⟨#[]⟩,0,[],([]++x::more).map (fun (n:Nat)=>(n:Int)),[]⟩ _=_
        rw[wbody,if_neg (show ¬(8:Int)=6 by decide),if_neg (show ¬(8:Int)=7 by decide),if_pos rfl,List.nil_append,List.map_cons,witems,wlist]
        simp only[if_true]
        rw[show (WSt.put ⟨S,s1.ns.length,false⟩ [40])=⟨S++[40],s1.ns.length,false⟩ from rfl,q2]
        simp[WSt.put]
       ·next k6 k7 k8=>
        have hwd:(hd s.l).k=0∧(hd s.l).s=wordsL.getD k.toNat ⟨#[]⟩:=by
         rcases kind_cases hk with⟨e,_⟩|⟨e,_⟩|⟨e,_⟩|⟨h0,e0,e1,e2⟩|⟨_,e⟩
         ·exact absurd e k6
         ·exact absurd e k7
         ·exact absurd e k8
         ·exact⟨h0,(kind_word e0 e1 e2).1⟩
         ·omega
        obtain⟨g,e,g1,g2,w1⟩:=wrd hwd.1
        split at h
        ·next hkk=>
         obtain⟨_,s2,h1,h2⟩:=Res.bind_ok h
         injection h2 with h3 h4
         subst h3;subst h4
         have hlen:=(definedR_len hG h1).1
         have hk0:(hd s1.l).k=0:=by
          unfold definedR at h1
          obtain⟨x,s3,h5,_⟩:=Res.bind_ok h1
          exact (nameR_ok h5).1
         rw[g2 hk0] at e
         have hpre:bs (hd s.l).s++[32]=(if k=10 then sFix else if k=9 then sEn else sRec):=by
          rw[hwd.2]
          rcases hkk with e|e|e<;>subst e<;>rfl
         have hb1:S.length+(if k=10 then 6 else if k=9 then 5 else 7)+(sr s1).length≤4096:=by
          have hl:(bs (hd s.l).s++[32]).length=if k=10 then 6 else if k=9 then 5 else 7:=by
           rw[hpre]
           rcases hkk with e|e|e<;>subst e<;>rfl
          rw[←hl]
          rw[e] at hb
          simp only[List.length_append] at hb ⊢
          omega
         obtain⟨d,out,q1,q2,q3,q4,q5,q6,q7⟩:=definedR_sh ih hS hG (S:=S) hkk h1 w1 ha1 hd1 hm1 (by omega) late (hN (by omega)) hb1
         refine⟨(if k=10 then sFix else if k=9 then sEn else sRec)++out,?_,fun h2k=>?_,q6,q7⟩
         ·rw[wnew _ q1,q4]
         ·rw[e,q5 h2k,←hpre];simp
        ·next hkk=>
         injection h with h3 h4
         subst h3;subst h4
         refine⟨bs (hd s.l).s,?_,fun h2k=>by rw[e,g1 h2k];rfl,w1,hm1⟩
         rw[wnew _ hd1]
         have hr:=kindR_rng hk
         show wbody (wtyp N f) ⟨k,⟨#[]⟩,0,[],[],[]⟩ _=_
         rw[wbody]
         simp only
         rw[if_neg k6,if_neg k7,if_neg k8,if_neg (fun e=>hkk (.inl e)),if_neg (fun e=>hkk (.inr (.inl e))),if_neg (fun e=>hkk (.inr (.inr e))),if_neg (by omega),hwd.2]
         rfl
theorem show_back (s:ByteArray) (h:(parseP s).2.2=0):∃t,showP ((parseP s).1.map Nd.toE)=some t∧t.length≤s.size∧parseP ⟨t.toArray⟩=parseP s:=by
 rcases parse_cases s with⟨_,h1⟩|⟨hw,n,s',ht,hk,hp⟩
 ·exact absurd h h1
 have hsz:s.size≤4096∧wordsR (toks s) 0=none:=by
  unfold words at hw
  split at hw
  ·cases hw
  ·exact⟨by omega,hw⟩
 have hpos:∀(l:List Tok) (n:Nat),wordsR l n=none→∀t∈l,0≤t.k:=by
  intro l
  induction l with
  | nil=>intro n _ t ht;cases ht
  | cons x l ih=>
   intro n h t ht
   rw[wordsR] at h
   split at h
   ·cases h
   ·split at h
    ·cases h
    ·rcases List.mem_cons.1 ht with rfl|ht
     ·omega
     ·exact ih _ h t ht
 obtain⟨r1,r2,r3⟩:=relex s (hpos _ _ hsz.2)
 have hn0:n=0:=by
  have hk':=ht
  rw[typedR.eq_def] at hk'
  simp only at hk'
  split at hk'
  ·cases hk'
  ·split at hk'
   ·cases hk'
   ·next hg=>
    split at hk'
    ·injection hk' with e _;rw[←e];rfl
    ·repeat' split at hk'
     all_goals first
      | cases hk';done
      | (obtain⟨_,s2,_,h2⟩:=Res.bind_ok hk';injection h2 with e _;exact e.symm)
      | (injection hk' with e _;exact e.symm)
 subst hn0
 obtain⟨out,q1,q2,q3,q4⟩:=typedR_sh (s'.ns.map Nd.toE) 20 false [] ⟨toks s,[],fun _=>none⟩ 0 s' [] ht r1 (fun d hd=>by cases hd) (fun y i hy=>by cases hy) (fun i _ hi=>by rw[List.getElem?_map]) (by
  show 0+(ser ((toks s).map tk)).length≤4096
  omega)
 have hend:sr s'=[]:=by
  obtain⟨l,ns,nm⟩:=s'
  cases l with
  | nil=>cases q3
  | cons t r=>
   change WTs (tk t::r.map tk) at q3
   rcases wts_cons q3 with⟨e,e2⟩|⟨hx,_⟩
   ·unfold sr
    show ser (tk t::r.map tk)=[]
    rw[e,e2];rfl
   ·have:=hx.rng
    have hk:t.k=3:=hk
    have:(tk t).1=t.k:=rfl
    omega
 have hout:ser ((toks s).map tk)=out:=by
  have:=q2 (by omega)
  rw[hend,List.append_nil] at this
  exact this
 have hq:wtyp (s'.ns.map Nd.toE) 20 0 ⟨[],0,false⟩=⟨out,s'.ns.length,false⟩:=by
  have:=q1
  rw[List.nil_append] at this
  exact this
 have hsz2:(ByteArray.mk out.toArray).size=out.length:=by simp[ByteArray.size]
 have her:(toks s).map er=(toks ⟨out.toArray⟩).map er:=by
  have hinj:∀(l m:List Tok),l.map tk=m.map tk→l.map er=m.map er:=by
   intro l
   induction l with
   | nil=>intro m e;cases m with
    | nil=>rfl
    | cons=>cases e
   | cons x l ih=>intro m e;cases m with
    | nil=>cases e
    | cons y m=>
     rw[List.map_cons,List.map_cons] at e ⊢
     injection e with e1 e2
     rw[ih m e2]
     congr 1
     have e3:x.k=y.k:=congrArg Prod.fst e1
     have e4:bs x.s=bs y.s:=congrArg Prod.snd e1
     have e5:x.s=y.s:=by
      have:x.s.data=y.s.data:=Array.toList_inj.1 e4
      cases hx:x.s;cases hy:y.s
      rw[hx,hy] at this
      simp only at this
      rw[this]
     unfold er
     rw[e3,e5]
  rw[hout] at r3
  exact hinj _ _ r3.symm
 have hw2:words ⟨out.toArray⟩=none:=by
  have hwe:∀(l m:List Tok) (n:Nat),l.map er=m.map er→wordsR l n=none→wordsR m n=none:=by
   intro l
   induction l with
   | nil=>intro m n e _;cases m with
    | nil=>rfl
    | cons=>cases e
   | cons x l ih=>intro m n e h;cases m with
    | nil=>rfl
    | cons y m=>
     rw[List.map_cons,List.map_cons] at e
     injection e with e1 e2
     have e3:(er x).k=(er y).k:=by rw[e1]
     have e3:x.k=y.k:=e3
     rw[wordsR] at h ⊢
     rw[←e3]
     split at h
     ·cases h
     ·next h1=>
      rw[if_neg h1]
      split at h
      ·cases h
      ·next h2=>rw[if_neg h2];exact ih m _ e2 h
  unfold words
  rw[if_neg (by rw[hsz2,←hout];omega)]
  exact hwe _ _ 0 her hsz.2
 obtain⟨s'',t1,t2,t3⟩:=typedR_same her ht
 have hk2:(hd s''.l).k=3:=by
  have e:=hd_er s''.l
  rw[t3,hd_er] at e
  have:=congrArg Tok.k e
  exact this.symm.trans hk
 have hp2:parseP ⟨out.toArray⟩=(s'.ns,0,0):=by
  unfold parseP
  rw[hw2]
  simp only
  rw[t1]
  simp only
  rw[if_neg (by simp[hk2]),t2]
 refine⟨out,?_,by rw[←hout];exact r2,by rw[hp2,hp]⟩
 rw[hp]
 unfold showP
 simp only
 rw[hq]
 simp only
 rw[if_neg (by simp),hp2]
 simp
end Pr
namespace Cn
open Go.ChangeShapes Go.WideShapes Go.ChangeAt Go.RowKit
open Base Lx Mi Pr
theorem showP_len' {ns:List Ne} {t:List UInt8} (h:showP ns=some t):showLen ns=t.length:=by
 unfold showP at h
 simp only at h
 split at h
 ·cases h
 ·split at h
  ·cases h
  ·injection h with h;rw[←h];rfl
theorem parse_small' {s:ByteArray} (h:(parseP s).2.2=0):s.size≤4096:=by
 rcases parse_cases s with⟨_,h1⟩|⟨hw,n,s',ht,hk,hp⟩
 ·exact absurd h h1
 ·unfold words at hw
  split at hw
  ·cases hw
  ·omega
theorem back_plain' (s:ByteArray) (h:(parseP s).2.2=0):∃t:List UInt8,showP ((parseP s).1.map Nd.toE)=some t∧t.length≤s.size∧s.size≤4096∧parseP ⟨t.toArray⟩=parseP s∧showLen ((parseP s).1.map Nd.toE)≤100000000:=by
 obtain⟨t,h1,h2,h3⟩:=show_back s h
 have h4:=parse_small' h
 exact⟨t,h1,h2,h4,h3,by rw[showP_len' h1];omega⟩
def formP (s:ByteArray):ByteArray×Int×Int:=if (parseP s).2.2=0 then (⟨((showP ((parseP s).1.map Nd.toE)).getD []).toArray⟩,0,0) else (⟨#[]⟩,(parseP s).2.1,(parseP s).2.2)
def isP (s:ByteArray):Bool:=decide ((formP s).2.2=0) && decide ((formP s).1=s)
theorem ctext_any (s:ByteArray) (hs:s.size≤140737488351232) (w:World) (hwd:Wd w) (hpow:Pow w):Calls Tryz.prog 104 #[.string s] w fun e w'=>e=.returned (.tuple #[.string (formP s).1,.int .i64 (formP s).2.1,.int .i64 (formP s).2.2])∧Ext w w':=by
 have hp5:=hpow.lt
 have hpar:=parse_any s hs w hwd (by omega)
 have l7:=parse_rng s
 have hb:=back_plain' s
 obtain⟨F,hF⟩:∃z,Hid (formP s=z):=⟨_,Lib.hid rfl⟩
 have hFd:=hF.out
 rw[hF.out]
 unfold formP at hFd
 obtain⟨r,hr⟩:∃z,Hid (parseP s=z):=⟨_,Lib.hid rfl⟩
 rw[hr.out] at hpar l7 hb hFd
 obtain⟨ns,at_,why⟩:=r
 replace hpar:Calls Tryz.prog 76 #[.string s] w fun e w'=>∃v vs,e=.returned (.tuple #[.agg #[v],.int .i64 at_,.int .i64 why])∧Nds w.heap.size w' ns vs v∧Ext w w':=hpar
 replace l7:∀d∈ns,-9223372036854775808≤d.size∧d.size≤9223372036854775807:=l7
 simp only at hFd hb
 obtain⟨PO,hPO⟩:∃PO:Ending→World→Prop,Hid ((fun e w'=>e=.returned (.tuple #[.string F.1,.int .i64 F.2.1,.int .i64 F.2.2])∧Ext w w')=PO):=⟨_,Lib.hid rfl⟩
 rw[hPO.out]
 by_cases hw:why=0
 ·subst hw
  obtain⟨t,h1,_,_,_,h5⟩:=hb rfl
  rw[if_pos rfl,h1] at hFd
  have hp:∀W,Ext w W→PO (.returned (.tuple #[.string ⟨t.toArray⟩,.int .i64 0,.int .i64 0])) W:=fun W hW=>by rw[←hPO.out,←hFd];exact⟨rfl,hW⟩
  obtain⟨T,hT⟩:∃z,Hid (t.toArray=z):=⟨_,Lib.hid rfl⟩
  rw[hT.out] at hp
  obtain⟨nE,hnE⟩:∃z,Hid (ns.map Nd.toE=z):=⟨_,Lib.hid rfl⟩
  rw[hnE.out] at h1 h5
  replace h1:=Lib.hid h1
  replace l7:=Lib.hid l7
  clear hr hb hFd hF hPO
  go_enter Tryz.func104,Tryz.ntmps104
  go_wp2_with fail
  refine hpar.mono ?_
  rintro e w1 ⟨v,vs,rfl,hnd,hx1⟩
  have hS1:=Sch.ofNds hnd (Nat.le_refl _) l7.out
  rw[hnE.out] at hS1
  obtain⟨A,c,rfl,jj1,jj2,jj3,jj4⟩:=Rd.of_own hnd.row
  clear jj1 jj2 jj3 jj4 hpar hnd
  obtain⟨k,hk⟩:∃z,Hid (ns.length=z):=⟨_,Lib.hid rfl⟩
  rw[hk.out] at hS1 ⊢
  obtain⟨w2,hw2⟩:∃z,Hid (w1.alloc (.cells #[.slice A k c] 24)=z):=⟨_,rfl⟩
  have hx2:Ext w1 w2:=by rw[←hw2.out];exact (Ext.refl w1).alloc _
  have hS2:Sch w2.heap.size w2 (.slice A k c) nE:=(hS1.below hx2).mono hx2.size
  have hx02:=hx1.trans hx2
  have hsh:=show_any _ _ w2 hS2 (hwd.ext hx02) (hpow.ext hx02) h5
  rw[h1.out] at hsh
  clear hS1 hS2
  go_wp2_with fail
  rw[hw2.out]
  refine hsh.mono ?_
  rintro e w4 ⟨rfl,hx4⟩
  rw[show shV (some t)=Value.tuple #[.string ⟨t.toArray⟩,.int .i64 0] from rfl,hT.out]
  have hp4:=hp w4 (hx02.trans hx4)
  clear hsh hp
  go_wp2_with fail
  refine bodyPost_ret (results_tmp3 rfl _ _ _) rfl ?_
  exact hp4
 ·rw[if_neg hw] at hFd
  have hwb:((why:Int) != 0)=true:=by simpa using hw
  have hp:∀W,Ext w W→PO (.returned (.tuple #[.string ⟨#[]⟩,.int .i64 at_,.int .i64 why])) W:=fun W hW=>by rw[←hPO.out,←hFd];exact⟨rfl,hW⟩
  clear hr hb hFd hF hPO l7
  go_enter Tryz.func104,Tryz.ntmps104
  go_wp2_with fail
  refine hpar.mono ?_
  rintro e w1 ⟨v,vs,rfl,hnd,hx1⟩
  obtain⟨A,c,rfl,jj1,jj2,jj3,jj4⟩:=Rd.of_own hnd.row
  clear jj1 jj2 jj3 jj4 hpar hnd
  obtain⟨k,hk⟩:∃z,Hid (ns.length=z):=⟨_,Lib.hid rfl⟩
  rw[hk.out]
  obtain⟨w2,hw2⟩:∃z,Hid (w1.alloc (.cells #[.slice A k c] 24)=z):=⟨_,rfl⟩
  have hx2:Ext w1 w2:=by rw[←hw2.out];exact (Ext.refl w1).alloc _
  have hp4:=hp w2 (hx1.trans hx2)
  clear hp
  go_wp2_with fail
  rw[hw2.out]
  refine bodyPost_ret (results_tmp3 rfl _ _ _) rfl ?_
  exact hp4
theorem str_beq' (a b:ByteArray):(a.toList == b.toList)=decide (a=b):=by
 by_cases h:a=b
 ·subst h;simp
 ·rw[str_ne h];simpa using h
theorem cis_any (s:ByteArray) (hs:s.size≤140737488351232) (w:World) (hwd:Wd w) (hpow:Pow w):Calls Tryz.prog 75 #[.string s] w fun e w'=>e=.returned (.bool (isP s))∧Ext w w':=by
 have hc:=ctext_any s hs w hwd hpow
 have hi:isP s=(decide ((formP s).2.2=0) && decide ((formP s).1=s)):=rfl
 obtain⟨F,hF⟩:∃z,Hid (formP s=z):=⟨_,Lib.hid rfl⟩
 rw[hF.out] at hc hi
 rw[hi]
 obtain⟨t,a,y⟩:=F
 simp only at hc ⊢
 have hb:=str_beq' t s
 clear hi
 by_cases h0:y=0
 ·subst h0
  obtain⟨b,hbd⟩:∃z,Hid (decide (t=s)=z):=⟨_,Lib.hid rfl⟩
  rw[hbd.out] at hb ⊢
  go_enter Tryz.func75,Tryz.ntmps75
  go_wp2_with fail
  refine hc.mono ?_
  rintro e w1 ⟨rfl,hx1⟩
  go_wp2_with fail
  go_ret
  exact⟨by simp,hx1⟩
 ·have hyb:((y:Int) == 0)=false:=by simpa using h0
  rw[decide_eq_false h0,Bool.false_and]
  clear hb
  go_enter Tryz.func75,Tryz.ntmps75
  go_wp2_with fail
  refine hc.mono ?_
  rintro e w1 ⟨rfl,hx1⟩
  go_wp2_with fail
  go_ret
  exact⟨rfl,hx1⟩
end Cn
namespace Pr
open Go.ChangeShapes Go.WideShapes Go.ChangeAt Go.RowKit
open Base Lx Mi
theorem rints_any {B:Nat} {w:World} {v1 v2:Value} {l1 l2:List Int} (h1:Sl B w v1 l1.length (intsZ l1)) (h2:Sl B w v2 l2.length (intsZ l2)) (hB:B≤w.heap.size) :
  Calls Tryz.prog 61 #[v1,v2] w fun e w'=>e=.returned (.bool (decide (l1=l2)))∧Ext w w':=by
 obtain⟨R,hR⟩:∃R,Hid (decide (l1=l2)=R):=⟨_,rfl⟩
 rw[hR.out]
 obtain⟨A1,c1,rfl,hn1,hm1,_,hat1⟩:=h1.at_
 obtain⟨A2,c2,rfl,hn2,hm2,_,hat2⟩:=h2.at_
 unfold maxLen at hm1 hm2
 obtain⟨n,hn⟩:∃z,Hid (l1.length=z):=⟨_,rfl⟩
 obtain⟨n2,hn2'⟩:∃z,Hid (l2.length=z):=⟨_,rfl⟩
 rw[hn.out] at hn1 ⊢
 rw[hn2'.out] at hn2 ⊢
 by_cases hl:n=n2
 ·subst hl
  have hnb:((n:Int) != (n:Int))=false:=by simp
  go_enter Tryz.func61,Tryz.ntmps61
  go_wp2_with fail
  go_loopw [5,11,12,13,14,15,16,17,18,19,20,21,22,23,24,25] (fun v5 v11 v12 v13 v14 v15 v16 v17 v18 v19 v20 v21 v22 v23 v24 v25 wr=>∃i:Nat,i≤n∧v5=.int .i64 i∧EqAt l1 l2 i∧Ext w wr) (fun v5 _ _ _ _ _ _ _ _ _ _ _ _ _ _ _ _=>n-(intOf v5).toNat)
  case atStart=>exact⟨0,by omega,rfl,fun j hj=>by omega,Ext.refl w⟩
  case round=>
   obtain⟨i,hi,rfl,heq,hx⟩:=hrel
   by_cases hin:i<n
   ·have hin':(i:Int)<(n:Int):=by omega
    obtain⟨x,hx1⟩:∃x,l1[i]?=some x:=⟨_,List.getElem?_eq_getElem (by have:=hn.out;omega)⟩
    obtain⟨y,hx2⟩:∃x,l2[i]?=some x:=⟨_,List.getElem?_eq_getElem (by have:=hn2'.out;omega)⟩
    have hz1:(intsZ l1)[i]?=some (.int .i64 x):=by unfold intsZ;rw[List.getElem?_map,hx1];rfl
    have hz2:(intsZ l2)[i]?=some (.int .i64 y):=by unfold intsZ;rw[List.getElem?_map,hx2];rfl
    obtain⟨b1,o1,rfl,hb1,hc1⟩:=hat1 i _ hz1
    obtain⟨b2,o2,rfl,hb2,hc2⟩:=hat2 i _ hz2
    have d1:∀W,Ext wr W→W.cell? ⟨b1,o1+i,none⟩=some (.int .i64 x):=fun W hW=>hc1 W (Below.mono (hx.trans hW) hB) i _ hz1
    have d2:∀W,Ext wr W→W.cell? ⟨b2,o2+i,none⟩=some (.int .i64 y):=fun W hW=>hc2 W (Below.mono (hx.trans hW) hB) i _ hz2
    clear hz1 hz2 hc1 hc2
    by_cases he:x=y
    ·subst he
     have hE:=heq.next hx1 hx2
     clear hx1 hx2
     have hbq:(x != x)=false:=by simp
     go_wp2_with fail
     refine Reg.startE (by kernel_rfl) ?_
     iterate 9 ((first|refine Reg.tn ?_|refine Reg.sn ?_);(try simp only[Reg.nn]))
     refine Reg.fin (by kernel_rfl) (fun W hW=>?_)
     go_wp2_with fail
     go_roundw
     case rel=>exact⟨i+1,by omega,by go_num,hE,hx.trans hW⟩
     case measure=>simp[intOf];omega
    ·have hne:=ne_at hx1 hx2 he
     have hRf:R=false:=by rw[←hR.out];simpa using hne
     have hbq2:(x != y)=true:=by simpa using he
     subst hRf
     clear hx1 hx2 hne
     go_wp2_with fail
     refine Reg.startE (by kernel_rfl) ?_
     iterate 9 ((first|refine Reg.tn ?_|refine Reg.sn ?_);(try simp only[Reg.nn]))
     refine Reg.fin (by kernel_rfl) (fun W hW=>?_)
     go_wp2_with fail
     go_ret
     exact⟨rfl,hx.trans hW⟩
   ·obtain rfl:i=n:=by omega
    have hRt:R=true:=by rw[←hR.out];simpa using EqAt.all (by rw[hn.out,hn2'.out]) (by rw[hn.out];exact heq)
    subst hRt
    go_wp2_with fail
    go_ret
    exact⟨rfl,hx⟩
 ·have hRf:R=false:=by rw[←hR.out];simpa using ne_len (by rw[hn.out,hn2'.out];exact hl)
  have hnb:((n:Int) != (n2:Int))=true:=by simpa using (by omega:¬(n:Int)=(n2:Int))
  subst hRf
  go_enter Tryz.func61,Tryz.ntmps61
  go_wp2_with fail
  go_ret
  exact⟨rfl,Ext.refl w⟩
end Pr
namespace Cn
open Go.ChangeShapes Go.WideShapes Go.ChangeAt Go.RowKit
open Base Lx Mi Pr
def schP (s:ByteArray):List Ne:=if isP s=true then (parseP s).1.map Nd.toE else []
theorem resSchema {w:World} {tmps:Array Value} {a:Nat} {u v:Value} (ha:tmps[2]?.getD undef=.pointer (some ⟨a,0,none⟩)) (hb:tmps[3]?.getD undef=v)
  (h1:w.cell? ⟨a,0,none⟩=some u):(results Tryz.f57 tmps).run Tryz.prog w=.ok (.tuple #[.agg #[u],v]) w:=by
 simp[results,Tryz.f57,go_sem,ha,hb,h1]
theorem Sch.nil (B:Nat) (w:World):Sch B w (.slice none 0 0) []:=⟨[],rfl,⟨none,0,rfl,Rd.nil _ _,fun h=>absurd rfl h,Nat.le_refl _,Nat.zero_le _,fun _=>rfl⟩,fun i d v h _=>by simp at h⟩
theorem Schema_any (s:ByteArray) (hs:s.size≤140737488351232) (w:World) (hwd:Wd w) (hpow:Pow w) :
  Calls Tryz.prog 57 #[.string s] w fun e w'=>∃v,e=.returned (.tuple #[.agg #[v],.bool (isP s)])∧Sch w'.heap.size w' v (schP s)∧Ext w w':=by
 obtain⟨q,hq⟩:∃z,Hid (w.heap.size=z):=⟨_,rfl⟩
 obtain⟨w1,hw1⟩:∃z,Hid (w.alloc (.cells #[.slice none 0 0] 24)=z):=⟨_,rfl⟩
 have hx1:Ext w w1:=by rw[←hw1.out];exact (Ext.refl w).alloc _
 have hb1:Blk w1 q #[.slice none 0 0] 24:=by rw[←hw1.out,←hq.out];exact Blk.new w _ _
 have his:=cis_any s hs w1 (hwd.ext hx1) (hpow.ext hx1)
 have hpar:=fun W (hW:Ext w W)=>parse_any s hs W (hwd.ext hW) (by have:=hpow.lt;have:=hW.size;omega)
 have l7:=parse_rng s
 have hsc:schP s=if isP s=true then (parseP s).1.map Nd.toE else []:=rfl
 obtain⟨b,hb⟩:∃z,Hid (isP s=z):=⟨_,Lib.hid rfl⟩
 rw[hb.out] at his hsc ⊢
 rw[hsc]
 obtain⟨PO,hPO⟩:∃PO:Ending→World→Prop,Hid ((fun e w'=>∃v,e=.returned (.tuple #[.agg #[v],.bool b])∧Sch w'.heap.size w' v (if b=true then (parseP s).1.map Nd.toE else [])∧Ext w w')=PO):=⟨_,Lib.hid rfl⟩
 rw[hPO.out]
 cases b with
 | false=>
  go_enter Tryz.func57,Tryz.ntmps57
  go_wp2_with fail
  rw[hw1.out,hq.out]
  refine his.mono ?_
  rintro e w2 ⟨rfl,hx2⟩
  have hb2:=hb1.ext hx2
  have k0:=hb2.cell 0
  have f0:=hb2.frozen 0
  simp only[List.getElem?_toArray,List.getElem?_cons_zero] at k0
  have hbF:=hb2.set 0 (.slice none 0 0)
  have hxF:Ext w (w2.setCell ⟨q,0,none⟩ (.slice none 0 0)):=Ext.chg (hx1.trans hx2) (Chg.one w2 q 0 _) (fun i hi e=>by have e:i=q:=e;have:=hq.out;omega)
  clear his hpar
  go_wp2_with fail
  refine bodyPost_ret (resSchema rfl rfl (hbF.cell 0)) rfl ?_
  rw[←hPO.out]
  exact⟨_,rfl,by rw[if_neg (by decide)];exact Sch.nil _ _,hxF⟩
 | true=>
  obtain⟨r,hr⟩:∃z,Hid (parseP s=z):=⟨_,Lib.hid rfl⟩
  rw[hr.out] at l7
  simp only[hr.out] at hpar
  obtain⟨ns,at_,why⟩:=r
  replace hpar:∀W,Ext w W→Calls Tryz.prog 76 #[.string s] W fun e w'=>∃v vs,e=.returned (.tuple #[.agg #[v],.int .i64 at_,.int .i64 why])∧Nds W.heap.size w' ns vs v∧Ext W w':=hpar
  replace l7:∀d∈ns,-9223372036854775808≤d.size∧d.size≤9223372036854775807:=l7
  replace hpar:=Lib.hid hpar
  replace l7:=Lib.hid l7
  go_enter Tryz.func57,Tryz.ntmps57
  go_wp2_with fail
  rw[hw1.out,hq.out]
  refine his.mono ?_
  rintro e w2 ⟨rfl,hx2⟩
  have hx02:=hx1.trans hx2
  have hp2:=hpar.out w2 hx02
  have hb2:=hb1.ext hx2
  clear his hpar
  go_wp2_with fail
  refine hp2.mono ?_
  rintro e w3 ⟨v,vs,rfl,hnd,hx3⟩
  have hx03:=hx02.trans hx3
  obtain⟨A,c,rfl,jj1,jj2,jj3,jj4⟩:=Rd.of_own hnd.row
  clear jj1 jj2 jj3 jj4 hp2
  obtain⟨k,hk⟩:∃z,Hid (ns.length=z):=⟨_,Lib.hid rfl⟩
  rw[hk.out] at hnd ⊢
  obtain⟨w4,hw4⟩:∃z,Hid (w3.alloc (.cells #[.slice A k c] 24)=z):=⟨_,rfl⟩
  have hx4:Ext w3 w4:=by rw[←hw4.out];exact (Ext.refl w3).alloc _
  have hb4:=(hb2.ext hx3).ext hx4
  have hx04:=hx03.trans hx4
  have k0:=hb4.cell 0
  have f0:=hb4.frozen 0
  simp only[List.getElem?_toArray,List.getElem?_cons_zero] at k0
  have hbF:=hb4.set 0 (.slice A k c)
  have hch:=Chg.one w4 q 0 (.slice A k c)
  have hxF:Ext w (w4.setCell ⟨q,0,none⟩ (.slice A k c)):=Ext.chg hx04 hch (fun i hi e=>by have e:i=q:=e;have:=hq.out;omega)
  rw[←hw4.out] at k0 f0
  have hq2:q<w2.heap.size:=World.block_lt_of_cell? w2 ⟨q,0,none⟩ (hb2.cell 0)
  have hnF:=(hnd.ext hx4).low hch (fun k e=>by have e:k=q:=e;omega)
  have hSF:=Sch.ofNds hnF (Nat.le_refl _) l7.out
  have hp:PO (.returned (.tuple #[.agg #[.slice A k c],.bool true])) (w4.setCell ⟨q,0,none⟩ (.slice A k c)):=by
   rw[←hPO.out]
   refine⟨_,rfl,?_,hxF⟩
   rw[if_pos (by trivial),hr.out]
   exact hSF
  clear hnd hnF hSF hch hPO
  go_wp2_with fail
  rw[hw4.out]
  refine bodyPost_ret (resSchema rfl rfl (hbF.cell 0)) rfl ?_
  exact hp
end Cn
namespace Pf
def cls (n:Nat):Int:=if 4611686018427387904≤n then -1 else if 1073741824≤n then 3 else if 16384≤n then 2 else if 64≤n then 1 else 0
def be:Nat→Nat→List UInt8
 | 0,_=>[]
 | m+1,v=>UInt8.ofNat (v / 256 ^ m%256)::be m v
def putP (n k:Nat):List UInt8:=be (2 ^ k) (n+k*2 ^ (8*2 ^ k-2))
def encN (n:Nat):List UInt8:=putP n (cls n).toNat
def numB (a:Nat):List UInt8→Nat
 | []=>a
 | c::l=>numB (a*256+c.toNat) l
def takeP:List UInt8→Nat×List UInt8×Nat
 | []=>(0,[],3)
 | c::r=>if (c::r).length<2 ^ (c.toNat / 64) then (0,[],3)
  else if cls (numB (c.toNat%64) (r.take (2 ^ (c.toNat / 64)-1)))≠(c.toNat / 64:Nat) then (0,[],4)
  else (numB (c.toNat%64) (r.take (2 ^ (c.toNat / 64)-1)),(c::r).drop (2 ^ (c.toNat / 64)),0)
def takeTextP (l:List UInt8) (most:Nat):List UInt8×List UInt8×Nat:=
 if (takeP l).2.2≠0 then ([],[],(takeP l).2.2)
 else if most<(takeP l).1 then ([],[],2)
 else if (takeP l).2.1.length<(takeP l).1 then ([],[],3)
 else ((takeP l).2.1.take (takeP l).1,(takeP l).2.1.drop (takeP l).1,0)
def encT (s:List UInt8):List UInt8:=encN s.length++s
end Pf
namespace Ch
open Base Pf Cn Pr
structure Et where
 pol:Bool
 p:Int
 s:ByteArray
 id:Nat
 deriving DecidableEq
def e0:Et:=⟨false,0,⟨#[]⟩,0⟩
def entC (e:Et):List Value:=[.bool e.pol,.int .i64 e.p,.string e.s,.int .u64 (e.id:Int)]
def canP (e:Et):Bool:=
 if e.pol=true then decide (0≤e.p) && decide (e.p<7) && decide (e.s=⟨#[]⟩) && decide (e.id=0)
 else decide (e.p=0) && decide (1≤e.id) && decide (e.id≤2147483647) && isP e.s
def takeE:List UInt8→Et×List UInt8×Nat
 | []=>(e0,[],3)
 | c::r=>if 7<c.toNat then (e0,[],4) else if 0<c.toNat then (⟨true,(c.toNat:Int)-1,⟨#[]⟩,0⟩,r,0)
  else if (takeP r).2.2≠0 then (e0,[],(takeP r).2.2)
  else if (takeTextP (takeP r).2.1 4096).2.2≠0 then (e0,[],(takeTextP (takeP r).2.1 4096).2.2)
  else if canP ⟨false,0,Str (takeTextP (takeP r).2.1 4096).1,(takeP r).1⟩=true then (⟨false,0,Str (takeTextP (takeP r).2.1 4096).1,(takeP r).1⟩,(takeTextP (takeP r).2.1 4096).2.1,0)
  else (e0,[],4)
end Ch
namespace Pl
open Lx Pr Rv Cn Ch
abbrev Ns:=List Ne
def polP (p:Int):Bool:=decide (0≤p) && decide (p<7)
def allP (p:Int):Bool:=decide (3<p)
def backP (p:Int):Bool:=decide (p=1∨p=3∨p=4∨p=6)
def forthP (p:Int):Bool:=decide (p=2∨p=3∨p=5∨p=6)
noncomputable def folP (p:Int) (e o:Ns):Bool:=(!backP p || canB o e) && (!forthP p || canB e o)
def lastOf (p:Int) (l:List Ns):List Ns:=if allP p=false∧1<l.length then l.drop (l.length-1) else l
noncomputable def nextP (p:Int) (l:List Ns) (o:Ns):Bool:=(lastOf p l).all fun e=>folP p e o
noncomputable def holdsA (p:Int) (l:List Ns):Nat→Bool
 | 0=>true
 | n+1=>holdsA p l n && nextP p (l.take n) (l.getD n [])
noncomputable def holdsP (p:Int) (l:List Ns):Bool:=holdsA p l l.length
noncomputable def HoldsT (p:Int) (l:List ByteArray):Bool:=l.all isP && (polP p && holdsP p (l.map schP))
structure Adm where
 p:Int
 seen:List Ns
 vis:List Nat
 held:List Nat
noncomputable def admS (s:Adm) (i:Nat) (e:Et):Adm:=
 if e.pol=true then if polP e.p=true∧holdsP e.p s.seen=true then { s with p:=e.p } else { s with held:=s.held++[i] }
 else if isP e.s=true∧nextP s.p s.seen (schP e.s)=true then { s with seen:=s.seen++[schP e.s],vis:=s.vis++[i] } else { s with held:=s.held++[i] }
noncomputable def admA (l:List Et):Nat→Adm
 | 0=>⟨1,[],[],[]⟩
 | n+1=>admS (admA l n) n (l.getD n e0)
noncomputable def admP (l:List Et):Adm:=admA l l.length
theorem admA_take (l:List Et) (m:Nat):∀n,n≤m→admA (l.take m) n=admA l n
 | 0,_=>rfl
 | n+1,h=>by
  unfold admA
  rw[admA_take l m n (by omega)]
  have:(l.take m).getD n e0=l.getD n e0:=by rw[List.getD,List.getElem?_take,if_pos (show n<m by omega)];rfl
  rw[this]
theorem admA_more (l:List Et) (k:Nat):∀n,k≤n→∃t u,(admA l n).vis=(admA l k).vis++t∧(admA l n).held=(admA l k).held++u∧(∀i∈t,k≤i)∧∀i∈u,k≤i
 | 0,h=>by
  obtain rfl:k=0:=by omega
  exact⟨[],[],by simp,by simp,by simp,by simp⟩
 | n+1,h=>by
  by_cases e:k=n+1
  ·subst e;exact⟨[],[],by simp,by simp,by simp,by simp⟩
  ·obtain⟨t,u,h1,h2,h3,h4⟩:=admA_more l k n (by omega)
   have a1:∀x:List Nat,(∀i∈x,k≤i)→∀i∈x++[n],k≤i:=fun x hx i hi=>by
    rcases List.mem_append.1 hi with hi|hi
    ·exact hx i hi
    ·rw[List.mem_singleton] at hi;omega
   rw[show admA l (n+1)=admS (admA l n) n (l.getD n e0) from rfl]
   unfold admS
   split
   ·split
    ·exact⟨t,u,h1,h2,h3,h4⟩
    ·exact⟨t,u++[n],h1,by simp[h2],h3,a1 u h4⟩
   ·split
    ·exact⟨t++[n],u,by simp[h1],h2,a1 t h3,h4⟩
    ·exact⟨t,u++[n],h1,by simp[h2],h3,a1 u h4⟩
theorem admA_below (l:List Et):∀n,(∀i∈(admA l n).vis,i<n)∧∀i∈(admA l n).held,i<n
 | 0=>⟨by simp[admA],by simp[admA]⟩
 | n+1=>by
  obtain⟨h1,h2⟩:=admA_below l n
  have a1:∀x:List Nat,(∀i∈x,i<n)→∀i∈x++[n],i<n+1:=fun x hx i hi=>by
   rcases List.mem_append.1 hi with hi|hi
   ·have:=hx i hi;omega
   ·rw[List.mem_singleton] at hi;omega
  have a0:∀x:List Nat,(∀i∈x,i<n)→∀i∈x,i<n+1:=fun x hx i hi=>by have:=hx i hi;omega
  unfold admA admS
  split
  ·split
   ·exact⟨a0 _ h1,a0 _ h2⟩
   ·exact⟨a0 _ h1,a1 _ h2⟩
  ·split
   ·exact⟨a1 _ h1,a0 _ h2⟩
   ·exact⟨a0 _ h1,a1 _ h2⟩
theorem filter_split {k:Nat} {x t:List Nat} (h1:∀i∈x,i<k) (h2:∀i∈t,k≤i):(x++t).filter (fun i=>decide (i<k))=x:=by
 rw[List.filter_append,List.filter_eq_self.2 (fun i hi=>decide_eq_true (h1 i hi)),List.filter_eq_nil_iff.2 (fun i hi=>by have:=h2 i hi;simp;omega),List.append_nil]
theorem begins (l:List Et) (k:Nat) (hk:k≤l.length):(admP (l.take k)).vis=(admP l).vis.filter (fun i=>decide (i<k))∧(admP (l.take k)).held=(admP l).held.filter (fun i=>decide (i<k)):=by
 obtain⟨t,u,h1,h2,h3,h4⟩:=admA_more l k l.length hk
 obtain⟨b1,b2⟩:=admA_below l k
 have e:admP (l.take k)=admA l k:=by
  unfold admP
  rw[List.length_take,Nat.min_eq_left hk,admA_take l k k (Nat.le_refl _)]
 rw[e]
 unfold admP
 rw[h1,h2]
 exact⟨(filter_split b1 h3).symm,(filter_split b2 h4).symm⟩
end Pl
namespace Rv
open Go.ChangeShapes Go.WideShapes Go.ChangeAt Go.RowKit
open Base Lx Mi Pr
def idxP {α:Type} (p:α→Bool):List α→Int
 | [] => -1
 | x::l=>if p x=true then 0 else if idxP p l<0 then -1 else idxP p l+1
def NoP {α:Type} (p:α→Bool) (l:List α) (i:Nat):Prop:=∀(j:Nat) x,j<i→l[j]?=some x→p x=false
theorem idxP_ge {α:Type} (p:α→Bool):∀l,-1≤idxP p l
 | []=>by simp[idxP]
 | x::l=>by
  have:=idxP_ge p l
  unfold idxP
  split
  ·omega
  ·split<;>omega
theorem idxP_hit {α:Type} {p:α→Bool}:∀ {l:List α} {i:Nat} {x:α},NoP p l i→l[i]?=some x→p x=true→idxP p l=i
 | [],i,x,_,h,_=>by simp at h
 | y::l,0,x,_,h,hp=>by
  simp at h;subst h
  simp[idxP,hp]
 | y::l,i+1,x,hn,h,hp=>by
  have h0:=hn 0 y (by omega) rfl
  have ih:=idxP_hit (l:=l) (i:=i) (x:=x) (fun j z hj hz=>hn (j+1) z (by omega) (by simpa using hz)) (by simpa using h) hp
  unfold idxP
  rw[if_neg (by simp[h0]),ih,if_neg (by omega)]
  omega
theorem idxP_none {α:Type} {p:α→Bool}:∀ {l:List α},NoP p l l.length→idxP p l = -1
 | [],_=>rfl
 | y::l,hn=>by
  have h0:=hn 0 y (by simp) rfl
  have ih:=idxP_none (l:=l) (p:=p) (fun j z hj hz=>hn (j+1) z (by simpa using hj) (by simpa using hz))
  unfold idxP
  rw[if_neg (by simp[h0]),ih,if_pos (by omega)]
theorem idxP_any {α:Type} (p:α→Bool):∀l:List α,decide (0≤idxP p l)=l.any p
 | []=>rfl
 | x::l=>by
  have ih:=idxP_any p l
  unfold idxP
  by_cases hx:p x=true
  ·simp[hx]
  ·rw[if_neg hx,List.any_cons,←ih]
   have hx:p x=false:=by simpa using hx
   by_cases h:idxP p l<0
   ·simp[h,hx]
   ·rw[if_neg h,hx]
    have:0≤idxP p l:=by omega
    simp[this]
    omega
theorem idxP_find {α:Type} {p:α→Bool}:∀ {l:List α} {i:Nat},idxP p l=i→∃x,l[i]?=some x∧l.find? p=some x
 | [],i,h=>by simp[idxP] at h
 | x::l,i,h=>by
  unfold idxP at h
  by_cases hx:p x=true
  ·rw[if_pos hx] at h
   obtain rfl:i=0:=by omega
   exact⟨x,rfl,by simp[hx]⟩
  ·rw[if_neg hx] at h
   split at h
   ·omega
   ·next hn=>
    obtain⟨m,rfl⟩:∃m,i=m+1:=⟨i-1,by omega⟩
    obtain⟨y,h1,h2⟩:=idxP_find (p:=p) (l:=l) (i:=m) (by omega)
    exact⟨y,by simpa using h1,by simp[hx,h2]⟩
theorem idxP_find_none {α:Type} {p:α→Bool}:∀ {l:List α},idxP p l<0→l.find? p=none
 | [],_=>rfl
 | x::l,h=>by
  unfold idxP at h
  by_cases hx:p x=true
  ·rw[if_pos hx] at h;omega
  ·rw[if_neg hx] at h
   split at h
   ·next hn=>simp[hx,idxP_find_none hn]
   ·omega
theorem fldsZ_cell {w:World} {A:Option Addr} {l:List (ByteArray×Bool×Int)} (hr:Rd w A (fldsZ l)) (j:Nat) (x:ByteArray×Bool×Int) (hx:l[j]?=some x):∃b off,A=some ⟨b,off,none⟩∧w.cell? ⟨b,off+j*3,none⟩=some (.string x.1)∧w.cell? ⟨b,off+j*3+1,none⟩=some (.bool x.2.1)∧w.cell? ⟨b,off+j*3+2,none⟩=some (.int .i64 x.2.2):=by
 have hi:=(List.getElem?_eq_some_iff.1 hx).1
 obtain⟨b,off,e,h⟩:=hr (fun e=>by have:=fldsZ_at l j x hx 0 (by omega);rw[e] at this;simp[fldZ] at this)
 refine⟨b,off,e,?_,?_,?_⟩
 ·exact h (j*3+0) _ (by rw[fldsZ_at l j x hx 0 (by omega)];rfl)
 ·rw[Nat.add_assoc];exact h (j*3+1) _ (by rw[fldsZ_at l j x hx 1 (by omega)];rfl)
 ·rw[Nat.add_assoc];exact h (j*3+2) _ (by rw[fldsZ_at l j x hx 2 (by omega)];rfl)
theorem idxInt_any {F:FuncId} (q1 q2:Addr) (A:Option Addr) (c:Nat) (l:List (Int)) (p:Int→Bool) (w:World) (hr:Rd w A (intsZ l)) (n:Nat) (hn:l.length=n) (hl:n≤100000)
  (hF:∀args w,(callFunc F args).run Tryz.prog w=.ok (.enter F args) w)
  (hf:∀x∈l,∀W,Ext w W→Calls Tryz.prog F #[.int .i64 x,.pointer (some q1),.pointer (some q2)] W fun en w'=>en=.returned (.bool (p x))∧Ext W w') :
  Calls Tryz.prog 116 #[.slice A n c,.func (.func F) #[] #[.pointer (some q1),.pointer (some q2)]] w fun en w'=>en=.returned (.int .i64 (idxP p l))∧Ext w w':=by
 have Hn:=Lib.hid hn
 clear hn
 replace hf:=Lib.hid hf
 obtain⟨IX,hIX⟩:∃o,Hid (idxP p l=o):=⟨_,rfl⟩
 rw[hIX.out]
 go_enter Tryz.func116,Tryz.ntmps116
 go_wp2_with fail
 go_loopw [5,8,9,10,11,12,13,14,15,16,18] (fun v5 v8 v9 v10 v11 v12 v13 v14 v15 v16 v18 wr=>∃i:Nat,i≤n∧v8=.int .i64 i∧NoP p l i∧Ext w wr) (fun _ v8 _ _ _ _ _ _ _ _ _ _=>n-(intOf v8).toNat)
 case atStart=>exact⟨0,by omega,rfl,fun k f h=>by omega,Ext.refl w⟩
 case round=>
  obtain⟨i,hi,rfl,h1,hx⟩:=hrel
  by_cases hin:i<n
  ·have hin':(i:Int)<(n:Int):=by omega
   obtain⟨x,hme⟩:∃m,l[i]?=some m:=⟨_,List.getElem?_eq_getElem (by have:=Hn.out;omega)⟩
   obtain⟨b,off,rfl,hz,hc⟩:=(hr.ext hx).at_ (k:=i) (by simp only[intsZ,List.length_map];have:=Hn.out;omega)
   clear hz
   have hck:wr.cell? ⟨b,off+i,none⟩=some (.int .i64 x):=hc i _ (by simp[intsZ,hme])
   clear hc
   have hb:=hf.out x (List.mem_of_getElem? hme) wr hx
   have Hme:=Lib.hid hme
   clear hme
   obtain⟨BB,hBB⟩:∃o,Hid (p x=o):=⟨_,rfl⟩
   rw[hBB.out] at hb
   cases BB with
   | true=>
    have hat:IX=(i:Int):=by rw[←hIX.out];exact idxP_hit h1 Hme.out hBB.out
    have Hat:=Lib.hid hat
    clear hat
    go_wp2_with fail
    refine hb.mono ?_
    rintro e w1 ⟨rfl,hx2⟩
    go_wp2_with fail
    go_ret
    exact⟨by rw[Hat.out];rfl,hx.trans hx2⟩
   | false=>
    go_wp2_with fail
    refine hb.mono ?_
    rintro e w1 ⟨rfl,hx2⟩
    go_wp2_with fail
    refine⟨⟨i+1,by omega,by go_num,?_,hx.trans hx2⟩,by simp[intOf];omega⟩
    intro j y hk hy
    rcases Nat.lt_or_ge j i with h|h
    ·exact h1 j y h hy
    ·obtain rfl:j=i:=by omega
     rw[Hme.out] at hy
     injection hy with hy
     rw[←hy];exact hBB.out
  ·obtain rfl:i=n:=by omega
   have hat:IX = -1:=by
    rw[←hIX.out]
    exact idxP_none (by rw[Hn.out];exact h1)
   have Hat:=Lib.hid hat
   clear hat
   go_wp2_with fail
   go_ret
   exact⟨by rw[Hat.out];rfl,hx⟩
theorem hasInt_any {F:FuncId} (q1 q2:Addr) (A:Option Addr) (c:Nat) (l:List (Int)) (p:Int→Bool) (w:World) (hr:Rd w A (intsZ l)) (n:Nat) (hn:l.length=n) (hl:n≤100000)
  (hF:∀args w,(callFunc F args).run Tryz.prog w=.ok (.enter F args) w)
  (hf:∀x∈l,∀W,Ext w W→Calls Tryz.prog F #[.int .i64 x,.pointer (some q1),.pointer (some q2)] W fun en w'=>en=.returned (.bool (p x))∧Ext W w') :
  Calls Tryz.prog 95 #[.slice A n c,.func (.func F) #[] #[.pointer (some q1),.pointer (some q2)]] w fun en w'=>en=.returned (.bool (l.any p))∧Ext w w':=by
 have hi:=idxInt_any q1 q2 A c l p w hr n hn hl hF hf
 rw[←idxP_any]
 obtain⟨r,hr'⟩:∃o,Hid (idxP p l=o):=⟨_,rfl⟩
 rw[hr'.out] at hi ⊢
 clear hf hF
 go_enter Tryz.func95,Tryz.ntmps95
 go_wp2_with fail
 refine hi.mono ?_
 rintro e w1 ⟨rfl,hx⟩
 go_wp2_with fail
 go_ret
 exact⟨rfl,hx⟩
theorem idxStr_any {F:FuncId} (q1:Addr) (A:Option Addr) (c:Nat) (l:List (ByteArray)) (p:ByteArray→Bool) (w:World) (hr:Rd w A (txs l)) (n:Nat) (hn:l.length=n) (hl:n≤100000)
  (hF:∀args w,(callFunc F args).run Tryz.prog w=.ok (.enter F args) w)
  (hf:∀x∈l,∀W,Ext w W→Calls Tryz.prog F #[.string x,.pointer (some q1)] W fun en w'=>en=.returned (.bool (p x))∧Ext W w') :
  Calls Tryz.prog 117 #[.slice A n c,.func (.func F) #[] #[.pointer (some q1)]] w fun en w'=>en=.returned (.int .i64 (idxP p l))∧Ext w w':=by
 have Hn:=Lib.hid hn
 clear hn
 replace hf:=Lib.hid hf
 obtain⟨IX,hIX⟩:∃o,Hid (idxP p l=o):=⟨_,rfl⟩
 rw[hIX.out]
 go_enter Tryz.func117,Tryz.ntmps117
 go_wp2_with fail
 go_loopw [5,8,9,10,11,12,13,14,15,16,18] (fun v5 v8 v9 v10 v11 v12 v13 v14 v15 v16 v18 wr=>∃i:Nat,i≤n∧v8=.int .i64 i∧NoP p l i∧Ext w wr) (fun _ v8 _ _ _ _ _ _ _ _ _ _=>n-(intOf v8).toNat)
 case atStart=>exact⟨0,by omega,rfl,fun k f h=>by omega,Ext.refl w⟩
 case round=>
  obtain⟨i,hi,rfl,h1,hx⟩:=hrel
  by_cases hin:i<n
  ·have hin':(i:Int)<(n:Int):=by omega
   obtain⟨x,hme⟩:∃m,l[i]?=some m:=⟨_,List.getElem?_eq_getElem (by have:=Hn.out;omega)⟩
   obtain⟨b,off,rfl,hz,hc⟩:=(hr.ext hx).at_ (k:=i) (by simp only[txs,List.length_map];have:=Hn.out;omega)
   clear hz
   have hck:wr.cell? ⟨b,off+i,none⟩=some (.string x):=hc i _ (by simp[txs,hme])
   clear hc
   have hb:=hf.out x (List.mem_of_getElem? hme) wr hx
   have Hme:=Lib.hid hme
   clear hme
   obtain⟨BB,hBB⟩:∃o,Hid (p x=o):=⟨_,rfl⟩
   rw[hBB.out] at hb
   cases BB with
   | true=>
    have hat:IX=(i:Int):=by rw[←hIX.out];exact idxP_hit h1 Hme.out hBB.out
    have Hat:=Lib.hid hat
    clear hat
    go_wp2_with fail
    refine hb.mono ?_
    rintro e w1 ⟨rfl,hx2⟩
    go_wp2_with fail
    go_ret
    exact⟨by rw[Hat.out];rfl,hx.trans hx2⟩
   | false=>
    go_wp2_with fail
    refine hb.mono ?_
    rintro e w1 ⟨rfl,hx2⟩
    go_wp2_with fail
    refine⟨⟨i+1,by omega,by go_num,?_,hx.trans hx2⟩,by simp[intOf];omega⟩
    intro j y hk hy
    rcases Nat.lt_or_ge j i with h|h
    ·exact h1 j y h hy
    ·obtain rfl:j=i:=by omega
     rw[Hme.out] at hy
     injection hy with hy
     rw[←hy];exact hBB.out
  ·obtain rfl:i=n:=by omega
   have hat:IX = -1:=by
    rw[←hIX.out]
    exact idxP_none (by rw[Hn.out];exact h1)
   have Hat:=Lib.hid hat
   clear hat
   go_wp2_with fail
   go_ret
   exact⟨by rw[Hat.out];rfl,hx⟩
theorem hasStr_any {F:FuncId} (q1:Addr) (A:Option Addr) (c:Nat) (l:List (ByteArray)) (p:ByteArray→Bool) (w:World) (hr:Rd w A (txs l)) (n:Nat) (hn:l.length=n) (hl:n≤100000)
  (hF:∀args w,(callFunc F args).run Tryz.prog w=.ok (.enter F args) w)
  (hf:∀x∈l,∀W,Ext w W→Calls Tryz.prog F #[.string x,.pointer (some q1)] W fun en w'=>en=.returned (.bool (p x))∧Ext W w') :
  Calls Tryz.prog 98 #[.slice A n c,.func (.func F) #[] #[.pointer (some q1)]] w fun en w'=>en=.returned (.bool (l.any p))∧Ext w w':=by
 have hi:=idxStr_any q1 A c l p w hr n hn hl hF hf
 rw[←idxP_any]
 obtain⟨r,hr'⟩:∃o,Hid (idxP p l=o):=⟨_,rfl⟩
 rw[hr'.out] at hi ⊢
 clear hf hF
 go_enter Tryz.func98,Tryz.ntmps98
 go_wp2_with fail
 refine hi.mono ?_
 rintro e w1 ⟨rfl,hx⟩
 go_wp2_with fail
 go_ret
 exact⟨rfl,hx⟩
theorem idxFld_any {F:FuncId} (q1:Addr) (A:Option Addr) (c:Nat) (l:List (ByteArray×Bool×Int)) (p:ByteArray×Bool×Int→Bool) (w:World) (hr:Rd w A (fldsZ l)) (n:Nat) (hn:l.length=n) (hl:n≤100000)
  (hF:∀args w,(callFunc F args).run Tryz.prog w=.ok (.enter F args) w)
  (hf:∀x∈l,∀W,Ext w W→Calls Tryz.prog F #[.agg (fldZ x).toArray,.pointer (some q1)] W fun en w'=>en=.returned (.bool (p x))∧Ext W w') :
  Calls Tryz.prog 119 #[.slice A n c,.func (.func F) #[] #[.pointer (some q1)]] w fun en w'=>en=.returned (.int .i64 (idxP p l))∧Ext w w':=by
 have Hn:=Lib.hid hn
 clear hn
 replace hf:=Lib.hid hf
 obtain⟨IX,hIX⟩:∃o,Hid (idxP p l=o):=⟨_,rfl⟩
 rw[hIX.out]
 go_enter Tryz.func119,Tryz.ntmps119
 go_wp2_with fail
 go_loopw [5,8,9,10,11,12,13,14,15,16,18] (fun v5 v8 v9 v10 v11 v12 v13 v14 v15 v16 v18 wr=>∃i:Nat,i≤n∧v8=.int .i64 i∧NoP p l i∧Ext w wr) (fun _ v8 _ _ _ _ _ _ _ _ _ _=>n-(intOf v8).toNat)
 case atStart=>exact⟨0,by omega,rfl,fun k f h=>by omega,Ext.refl w⟩
 case round=>
  obtain⟨i,hi,rfl,h1,hx⟩:=hrel
  by_cases hin:i<n
  ·have hin':(i:Int)<(n:Int):=by omega
   obtain⟨x,hme⟩:∃m,l[i]?=some m:=⟨_,List.getElem?_eq_getElem (by have:=Hn.out;omega)⟩
   obtain⟨b,off,rfl,d0,d1,d2⟩:=fldsZ_cell (hr.ext hx) i x hme
   have hb:=hf.out x (List.mem_of_getElem? hme) wr hx
   obtain⟨y,yb,yt⟩:=x
   simp only[fldZ] at hb d0 d1 d2
   have Hme:=Lib.hid hme
   clear hme
   obtain⟨BB,hBB⟩:∃o,Hid (p (y,yb,yt)=o):=⟨_,rfl⟩
   rw[hBB.out] at hb
   cases BB with
   | true=>
    have hat:IX=(i:Int):=by rw[←hIX.out];exact idxP_hit h1 Hme.out hBB.out
    have Hat:=Lib.hid hat
    clear hat
    go_wp2_with fail
    refine hb.mono ?_
    rintro e w1 ⟨rfl,hx2⟩
    go_wp2_with fail
    go_ret
    exact⟨by rw[Hat.out];rfl,hx.trans hx2⟩
   | false=>
    go_wp2_with fail
    refine hb.mono ?_
    rintro e w1 ⟨rfl,hx2⟩
    go_wp2_with fail
    refine⟨⟨i+1,by omega,by go_num,?_,hx.trans hx2⟩,by simp[intOf];omega⟩
    intro j y hk hy
    rcases Nat.lt_or_ge j i with h|h
    ·exact h1 j y h hy
    ·obtain rfl:j=i:=by omega
     rw[Hme.out] at hy
     injection hy with hy
     rw[←hy];exact hBB.out
  ·obtain rfl:i=n:=by omega
   have hat:IX = -1:=by
    rw[←hIX.out]
    exact idxP_none (by rw[Hn.out];exact h1)
   have Hat:=Lib.hid hat
   clear hat
   go_wp2_with fail
   go_ret
   exact⟨by rw[Hat.out];rfl,hx⟩
end Rv
namespace Pl
open Go.ChangeShapes Go.WideShapes Go.ChangeAt Go.RowKit
open Base Lx Mi Pr Rv
def schZ (l:List (Value×List Ne)):List Value:=l.map (·.1)
theorem idxSch_any {F:FuncId} (q1 q2:Addr) (A:Option Addr) (c:Nat) (l:List (Value×List Ne)) (p:Value×List Ne→Bool) (w:World) (hr:Rd w A (schZ l)) (n:Nat) (hn:l.length=n) (hl:n≤100000)
  (hF:∀args w,(callFunc F args).run Tryz.prog w=.ok (.enter F args) w)
  (hf:∀x∈l,∀W,Ext w W→Calls Tryz.prog F #[.agg #[x.1],.pointer (some q1),.pointer (some q2)] W fun en w'=>en=.returned (.bool (p x))∧Ext W w') :
  Calls Tryz.prog 106 #[.slice A n c,.func (.func F) #[] #[.pointer (some q1),.pointer (some q2)]] w fun en w'=>en=.returned (.int .i64 (idxP p l))∧Ext w w':=by
 have Hn:=Lib.hid hn
 clear hn
 replace hf:=Lib.hid hf
 obtain⟨IX,hIX⟩:∃o,Hid (idxP p l=o):=⟨_,rfl⟩
 rw[hIX.out]
 go_enter Tryz.func106,Tryz.ntmps106
 go_wp2_with fail
 go_loopw [5,8,9,10,11,12,13,14,15,16,18] (fun v5 v8 v9 v10 v11 v12 v13 v14 v15 v16 v18 wr=>∃i:Nat,i≤n∧v8=.int .i64 i∧NoP p l i∧Ext w wr) (fun _ v8 _ _ _ _ _ _ _ _ _ _=>n-(intOf v8).toNat)
 case atStart=>exact⟨0,by omega,rfl,fun k f h=>by omega,Ext.refl w⟩
 case round=>
  obtain⟨i,hi,rfl,h1,hx⟩:=hrel
  by_cases hin:i<n
  ·have hin':(i:Int)<(n:Int):=by omega
   obtain⟨x,hme⟩:∃m,l[i]?=some m:=⟨_,List.getElem?_eq_getElem (by have:=Hn.out;omega)⟩
   obtain⟨b,off,rfl,hz,hc⟩:=(hr.ext hx).at_ (k:=i) (by simp only[schZ,List.length_map];have:=Hn.out;omega)
   clear hz
   have hck:wr.cell? ⟨b,off+i,none⟩=some (x.1):=hc i _ (by simp[schZ,hme])
   clear hc
   have hb:=hf.out x (List.mem_of_getElem? hme) wr hx
   have Hme:=Lib.hid hme
   clear hme
   obtain⟨BB,hBB⟩:∃o,Hid (p x=o):=⟨_,rfl⟩
   rw[hBB.out] at hb
   cases BB with
   | true=>
    have hat:IX=(i:Int):=by rw[←hIX.out];exact idxP_hit h1 Hme.out hBB.out
    have Hat:=Lib.hid hat
    clear hat
    go_wp2_with fail
    refine hb.mono ?_
    rintro e w1 ⟨rfl,hx2⟩
    go_wp2_with fail
    go_ret
    exact⟨by rw[Hat.out];rfl,hx.trans hx2⟩
   | false=>
    go_wp2_with fail
    refine hb.mono ?_
    rintro e w1 ⟨rfl,hx2⟩
    go_wp2_with fail
    refine⟨⟨i+1,by omega,by go_num,?_,hx.trans hx2⟩,by simp[intOf];omega⟩
    intro j y hk hy
    rcases Nat.lt_or_ge j i with h|h
    ·exact h1 j y h hy
    ·obtain rfl:j=i:=by omega
     rw[Hme.out] at hy
     injection hy with hy
     rw[←hy];exact hBB.out
  ·obtain rfl:i=n:=by omega
   have hat:IX = -1:=by
    rw[←hIX.out]
    exact idxP_none (by rw[Hn.out];exact h1)
   have Hat:=Lib.hid hat
   clear hat
   go_wp2_with fail
   go_ret
   exact⟨by rw[Hat.out];rfl,hx⟩
theorem hasSch_any {F:FuncId} (q1 q2:Addr) (A:Option Addr) (c:Nat) (l:List (Value×List Ne)) (p:Value×List Ne→Bool) (w:World) (hr:Rd w A (schZ l)) (n:Nat) (hn:l.length=n) (hl:n≤100000)
  (hF:∀args w,(callFunc F args).run Tryz.prog w=.ok (.enter F args) w)
  (hf:∀x∈l,∀W,Ext w W→Calls Tryz.prog F #[.agg #[x.1],.pointer (some q1),.pointer (some q2)] W fun en w'=>en=.returned (.bool (p x))∧Ext W w') :
  Calls Tryz.prog 77 #[.slice A n c,.func (.func F) #[] #[.pointer (some q1),.pointer (some q2)]] w fun en w'=>en=.returned (.bool (l.any p))∧Ext w w':=by
 have hi:=idxSch_any q1 q2 A c l p w hr n hn hl hF hf
 rw[←idxP_any]
 obtain⟨r,hr'⟩:∃o,Hid (idxP p l=o):=⟨_,rfl⟩
 rw[hr'.out] at hi ⊢
 clear hf hF
 go_enter Tryz.func77,Tryz.ntmps77
 go_wp2_with fail
 refine hi.mono ?_
 rintro e w1 ⟨rfl,hx⟩
 go_wp2_with fail
 go_ret
 exact⟨rfl,hx⟩
end Pl
end Go.Proofs.YtmaoochjbpohdaaGreatDoor
