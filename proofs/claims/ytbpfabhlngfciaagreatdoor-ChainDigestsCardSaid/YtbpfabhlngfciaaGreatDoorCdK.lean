/- parse: what is read is written, no longer than it was, and read as the same: plain. -/
import Derived.Test.YtbpfabhlngfciaaGreatDoorCdJ
import Derived.Maps.AppendAt
import Derived.Lib.AppendStr
set_option linter.unusedVariables false
set_option linter.unusedSimpArgs false
set_option maxRecDepth 100000
set_option maxHeartbeats 1000000
namespace Go.Proofs.YtbpfabhlngfciaaGreatDoor.Pr
open Lx
/-! ### What goes wrong has a number -/
def NZ {α:Type} (r:Res α):Prop:=∀a w,r=.bad a w→w≠0
theorem NZ.ok {α:Type} (a:α) (s:PS):NZ (.ok a s):=fun _ _ h=>by cases h
theorem NZ.fail {α:Type} (s:PS) (w:Nat) (h:w≠0):NZ (failR s w:Res α):=fun a v e=>by injection e with _ e;omega
theorem NZ.bind {α β:Type} {r:Res α} {f:α→PS→Res β} (h:NZ r) (hf:∀a s,NZ (f a s)):NZ (r.bind f):=by
 cases r with
 | ok a s=>exact hf a s
 | bad a w=>exact fun a' w' e=>by injection e with e1 e2;rw[←e2];exact h a w rfl
theorem NZ.must (s:PS) (x:ByteArray):NZ (mustR s x):=by
 unfold mustR
 split
 ·exact .ok _ _
 ·exact .fail _ _ (by decide)
theorem NZ.name (s:PS) (th:ByteArray→Bool):NZ (nameR s th):=by
 unfold nameR
 split
 ·exact .fail _ _ (by decide)
 ·split
  ·exact .fail _ _ (by decide)
  ·exact .ok _ _
def TZ (T:Bool→List Nat→PS→Res Nat):Prop:=∀u a s,NZ (T u a s)
theorem NZ.union {T:Bool→List Nat→PS→Res Nat} (hT:TZ T) (n:Nat):∀(m:Nat) (l:List Nat) (s:PS),NZ (unionR T n m l s)
 | 0,l,s=>.fail _ _ (by decide)
 | m+1,l,s=>by
  rw[unionR]
  refine (hT _ _ _).bind fun x s1=>?_
  split
  ·exact .ok _ _
  ·exact (NZ.must _ _).bind fun _ s2=>NZ.union hT n m _ s2
theorem NZ.syms (n:Nat):∀(m:Nat) (l:List ByteArray) (s:PS),NZ (symsR n m l s)
 | 0,l,s=>.fail _ _ (by decide)
 | m+1,l,s=>by
  rw[symsR]
  refine (NZ.name _ _).bind fun x s1=>?_
  split
  ·exact .ok _ _
  ·exact (NZ.must _ _).bind fun _ s2=>NZ.syms n m _ s2
theorem NZ.fields {T:Bool→List Nat→PS→Res Nat} (hT:TZ T) (n:Nat):∀(m:Nat) (l:List (ByteArray×Bool×Nat)) (s:PS),NZ (fieldsR T n m l s)
 | 0,l,s=>.fail _ _ (by decide)
 | m+1,l,s=>by
  rw[fieldsR]
  split
  ·exact .ok _ _
  ·exact (NZ.name _ _).bind fun x s1=>(NZ.must _ _).bind fun _ s2=>(hT _ _ _).bind fun t s3=>(NZ.must _ _).bind fun _ s4=>NZ.fields hT n m _ s4
theorem gate_nz {fuel:Nat} {u:Bool} {a:List Nat} {s:PS} {k:Int} {n:Option Nat} {w:Nat} (h:gateR fuel u a s k n=some w):w≠0:=by
 unfold gateR at h
 split at h
 ·injection h with h;omega
 ·split at h
  ·injection h with h;omega
  ·split at h
   ·injection h with h;omega
   ·split at h
    ·injection h with h;omega
    ·split at h
     ·injection h with h;omega
     ·cases h
theorem typedR_nz:∀(fuel:Nat),TZ (typedR fuel)
 | fuel,u,a,s=>by
  rw[typedR.eq_def]
  simp only
  split
  ·exact .fail _ _ (by decide)
  ·split
   ·next w hw=>exact .fail _ _ (gate_nz hw)
   ·split
    ·exact .ok _ _
    ·cases fuel with
     | zero=>exact .fail _ _ (by decide)
     | succ fuel=>
      have ih:=typedR_nz fuel
      simp only
      split
      ·exact NZ.bind ((ih _ _ _).bind fun _ _=>NZ.must _ _) fun _ _=>.ok _ _
      ·split
       ·exact NZ.bind ((ih _ _ _).bind fun _ _=>NZ.must _ _) fun _ _=>.ok _ _
       ·split
        ·exact (NZ.union ih _ _ _ _).bind fun _ _=>.ok _ _
        ·split
         ·refine NZ.bind ?_ fun _ _=>.ok _ _
          unfold definedR
          refine (NZ.name _ _).bind fun x s1=>?_
          simp only
          split
          ·exact (NZ.must _ _).bind fun _ s3=>NZ.syms _ _ _ _
          ·split
           ·split
            ·exact .fail _ _ (by decide)
            ·exact .ok _ _
           ·exact (NZ.must _ _).bind fun _ s3=>NZ.fields ih _ _ _ _
         ·exact .ok _ _
theorem parse_cases (s:ByteArray):((parseP s).1=[]∧(parseP s).2.2≠0)∨(words s=none∧∃n s',typedR 20 false [] ⟨toks s,[],fun _=>none⟩=.ok n s'∧(hd s'.l).k=3∧parseP s=(s'.ns,0,0)):=by
 unfold parseP
 cases hw:words s with
 | some r=>
  obtain⟨p,q⟩:=r
  refine .inl ⟨rfl,?_⟩
  show q≠0
  unfold words at hw
  have hr:∀(l:List Tok) (n:Nat) (p q:Int),wordsR l n=some (p,q)→q≠0:=by
   intro l
   induction l with
   | nil=>intro n p q h;cases h
   | cons t l ih=>
    intro n p q h
    rw[wordsR] at h
    split at h
    ·injection h with h;injection h with _ h;omega
    ·split at h
     ·injection h with h;injection h with _ h;omega
     ·exact ih _ _ _ h
  split at hw
  ·injection hw with hw;injection hw with _ hw;omega
  ·exact hr _ _ _ _ hw
 | none=>
  simp only
  cases ht:typedR 20 false [] ⟨toks s,[],fun _=>none⟩ with
  | bad a w=>exact .inl ⟨rfl,by have:=typedR_nz 20 false [] _ a w ht;simp only;omega⟩
  | ok n s'=>
   simp only
   by_cases hk:(hd s'.l).k=3
   ·rw[if_neg (by simp[hk])]
    exact .inr ⟨trivial,n,s',rfl,hk,rfl⟩
   ·rw[if_pos hk]
    exact .inl ⟨rfl,by show (4:Int)≠0;decide⟩
/-! ### A type -/
theorem idxOf_get {α:Type} [DecidableEq α]:∀(l:List α) (s d:α),0≤idxOf l s→l.getD (idxOf l s).toNat d=s
 | [],s,d,h=>by simp[idxOf] at h
 | x::l,s,d,h=>by
  rw[idxOf] at h ⊢
  split
  ·next e=>subst e;rfl
  ·next e=>
   rw[if_neg e] at h
   split at h
   ·omega
   ·next h2=>
    rw[if_neg h2]
    have:=idxOf_get l s d (by omega)
    rw[show (idxOf l s+1).toNat=(idxOf l s).toNat+1 by omega]
    exact this
theorem kind_cases {s:PS} {k:Int} (h:kindR s=some k):(k=6∧isT s cSqO=true)∨(k=7∧isT s cCuO=true)∨(k=8∧isT s cPaO=true)∨((hd s.l).k=0∧(hd s.l).s≠⟨#[]⟩∧0≤k∧k=idxOf wordsL (hd s.l).s)∨((hd s.l).k=0∧k = -1):=by
 unfold kindR at h
 split at h
 ·next ht=>injection h with h;exact .inl ⟨h.symm,ht⟩
 ·split at h
  ·next ht=>injection h with h;exact .inr (.inl ⟨h.symm,ht⟩)
  ·split at h
   ·next ht=>injection h with h;exact .inr (.inr (.inl ⟨h.symm,ht⟩))
   ·split at h
    ·cases h
    ·next hk=>
     simp only[ne_eq,Decidable.not_not] at hk
     split at h
     ·next hq=>
      injection h with h
      simp only[kwP,Bool.and_eq_true,decide_eq_true_eq] at hq
      exact .inr (.inr (.inr (.inl ⟨hk,hq.1,by omega,h.symm⟩)))
     ·split at h
      ·injection h with h;exact .inr (.inr (.inr (.inr ⟨hk,h.symm⟩)))
      ·cases h
theorem kind_word {s:PS} {k:Int} (h0:(hd s.l).s≠⟨#[]⟩) (h1:0≤k) (h2:k=idxOf wordsL (hd s.l).s):(hd s.l).s=wordsL.getD k.toNat ⟨#[]⟩∧k≠6∧k≠7∧k≠8:=by
 have:=idxOf_get wordsL (hd s.l).s ⟨#[]⟩ (by omega)
 rw[←h2] at this
 refine⟨this.symm,?_,?_,?_⟩<;>intro e<;>rw[e] at this<;>exact h0 this.symm
theorem wtyp_new {N:List Ne} {f n:Nat} {S:List UInt8} {d:Ne} (h:N[n]?=some d) (hS:S.length≤4096):wtyp N (f+1) (n:Int) ⟨S,n,false⟩=wbody (wtyp N f) d ⟨S,n+1,false⟩:=by
 have hl:n<N.length:=(List.getElem?_eq_some_iff.1 h).1
 rw[wtyp,if_neg,if_neg (by simp)]
 ·have:N.getD (n:Int).toNat neD=d:=by rw[Int.toNat_natCast,List.getD,h];rfl
  rw[this]
 ·unfold wstop
  simp
  omega
theorem wtyp_ref {N:List Ne} {f i n:Nat} {S:List UInt8} {d:Ne} (h:N[i]?=some d) (hi:i<n) (h9:9≤d.k) (hS:S.length≤4096):wtyp N (f+1) (i:Int) ⟨S,n,false⟩=⟨S++bs d.name,n,false⟩:=by
 have hl:i<N.length:=(List.getElem?_eq_some_iff.1 h).1
 rw[wtyp,if_neg,if_pos (by simp only;omega)]
 ·have:N.getD (i:Int).toNat neD=d:=by rw[Int.toNat_natCast,List.getD,h];rfl
  rw[this,decide_eq_false (by omega)]
  rfl
 ·unfold wstop
  simp
  omega
theorem typedR_sh (N:List Ne):∀(fuel:Nat),TR N (typedR fuel) (wtyp N fuel)
 | fuel,u,a,s,n,s',S,h,hw,ha,hm,hF,hb=>by
  rw[typedR.eq_def] at h
  simp only at h
  split at h
  ·cases h
  ·next k hk=>
   split at h
   ·cases h
   ·next hgate=>
    have hf0:fuel≠0:=by
     intro e
     unfold gateR at hgate
     rw[if_pos (.inl e)] at hgate
     cases hgate
    obtain⟨f,rfl⟩:=Nat.exists_eq_succ_of_ne_zero hf0
    split at h
    ·next hneg=>
     have hk0:(hd s.l).k=0:=by
      rcases kind_cases hk with⟨e,_⟩|⟨e,_⟩|⟨e,_⟩|⟨e,_,e2,_⟩|⟨e,_⟩
      ·omega
      ·omega
      ·omega
      ·exact e
      ·exact e
     injection h with h1 h2
     have hsome:∃i,s.nm (hd s.l).s=some i:=by
      cases hq:s.nm (hd s.l).s with
      | some i=>exact⟨i,rfl⟩
      | none=>
       unfold gateR at hgate
       rw[hq] at hgate
       split at hgate
       ·cases hgate
       ·rw[if_pos ⟨hneg,rfl⟩] at hgate;cases hgate
     obtain⟨i,hi⟩:=hsome
     rw[hi] at h1
     have h1:i=n:=h1
     subst h1
     obtain⟨hlt,d,e1,e2,e3⟩:=hm _ _ hi
     obtain⟨_,hw1,g,q1,_,q3,_⟩:=hw.step (by omega)
     refine⟨bs (hd s.l).s,?_,fun h2k=>?_,by rw[←h2];exact hw1,hm.same (by rw[←h2];rfl) (by rw[←h2];exact Nat.le_refl _)⟩
     ·rw[wtyp_ref e1 hlt e3 (by omega),e2,←h2];rfl
     ·rw[q1,q3 (by rw[←h2] at h2k;exact h2k),←h2];rfl
    ·next hneg=>
     have ih:=typedR_sh N f
     have hS:=typedR_shp f
     have hG:=typedR_len f
     simp only at h
     have hn1:s.ns.length<(s.ns++[Nd.ofKind k]).length:=by simp
     have ha1:AllN ShN ({ s.on with ns:=s.ns++[Nd.ofKind k] }:PS):=fun d hd=>by
      rcases List.mem_append.1 hd with hd|hd
      ·exact ha d hd
      ·rw[List.mem_singleton] at hd;subst hd;exact⟨.inl rfl,.inl rfl⟩
     have hl1:({ s.on with ns:=s.ns++[Nd.ofKind k] }:PS).ns.length=s.ns.length+1:=by simp
     have hd1:({ s.on with ns:=s.ns++[Nd.ofKind k] }:PS).ns[s.ns.length]?=some (Nd.ofKind k):=by simp
     have hll1:({ s.on with ns:=s.ns++[Nd.ofKind k] }:PS).l=s.on.l:=rfl
     have hmm1:({ s.on with ns:=s.ns++[Nd.ofKind k] }:PS).nm=s.nm:=rfl
     generalize hs1:({ s.on with ns:=s.ns++[Nd.ofKind k] }:PS)=s1 at h ha1 hl1 hd1 hll1 hmm1
     have hm1:Nam N s1:=hm.same hmm1 (by omega)
     have er1:sr s1=sr s.on:=by unfold sr;rw[hll1]
     have hN:s.ns.length<s'.ns.length→N[s.ns.length]?=(s'.ns[s.ns.length]?).map Nd.toE:=fun hlt=>hF _ (Nat.le_refl _) hlt
     have late:FnW N s1 s':=hF.late (by omega)
     have wnew:∀d,s'.ns[s.ns.length]?=some d→wtyp N (f+1) (s.ns.length:Int) ⟨S,s.ns.length,false⟩=wbody (wtyp N f) d.toE ⟨S,s1.ns.length,false⟩:=fun d hd=>by
      have hlt:s.ns.length<s'.ns.length:=(List.getElem?_eq_some_iff.1 hd).1
      rw[wtyp_new (d:=d.toE) (by rw[hN hlt,hd];rfl) (by omega),hl1]
     have sgn:∀c:UInt8,kindOf c=2→isT s ⟨#[c]⟩=true→sr s=c::sr s1∧WS s1:=fun c hc ht=>by
      obtain⟨_,e,w⟩:=sign_step hc hw ht
      exact⟨by rw[er1];exact e,by show WTs (s1.l.map tk);rw[hll1];exact w⟩
     have wrd:(hd s.l).k=0→∃g,sr s=bs (hd s.l).s++(g++sr s1)∧(2≤(hd s1.l).k→g=[])∧((hd s1.l).k=0→g=[32])∧WS s1:=fun hk0=>by
      obtain⟨_,hw1,g,q1,_,q3,q4⟩:=hw.step (by omega)
      exact⟨g,by rw[er1];exact q1,by rw[hll1];exact q3,by rw[hll1];exact fun e=>q4 hk0 (by omega) (by omega),by show WTs (s1.l.map tk);rw[hll1];exact hw1⟩
     split at h
     ·next k6=>
      subst k6
      obtain⟨_,s2,h1,h2⟩:=Res.bind_ok h
      injection h2 with h3 h4
      subst h3;subst h4
      have ht:isT s cSqO=true:=by
       rcases kind_cases hk with⟨e,e2⟩|⟨e,_⟩|⟨e,_⟩|⟨_,e0,e1,e2⟩|⟨_,e⟩
       ·exact e2
       ·omega
       ·omega
       ·exact absurd rfl (kind_word e0 e1 e2).2.1
       ·omega
      obtain⟨e,w1⟩:=sgn 91 (by decide +kernel) ht
      obtain⟨x,out,q1,q2,q3,q4,q5⟩:=itemR_sh ih hS hG (S:=S++[91]) h1 (by decide +kernel) w1 ha1 hm1 (by omega) late (by rw[e] at hb;simp at hb ⊢;omega)
      refine⟨91::out++[93],?_,fun _=>by rw[e,q3];simp,q4,q5⟩
      rw[wnew _ (q1 _ hd1)]
      show wbody (wtyp N f) ⟨6,⟨#[]⟩,0,[],[(x:Int)],[]⟩ _=_
      rw[wbody,if_pos rfl,witems,wlist,wlist]
      simp only[if_true]
      rw[show (WSt.put ⟨S,s1.ns.length,false⟩ [91])=⟨S++[91],s1.ns.length,false⟩ from rfl,q2]
      simp[WSt.put]
     ·split at h
      ·next k6 k7=>
       subst k7
       obtain⟨_,s2,h1,h2⟩:=Res.bind_ok h
       injection h2 with h3 h4
       subst h3;subst h4
       have ht:isT s cCuO=true:=by
        rcases kind_cases hk with⟨e,_⟩|⟨e,e2⟩|⟨e,_⟩|⟨_,e0,e1,e2⟩|⟨_,e⟩
        ·omega
        ·exact e2
        ·omega
        ·exact absurd rfl (kind_word e0 e1 e2).2.2.1
        ·omega
       obtain⟨e,w1⟩:=sgn 123 (by decide +kernel) ht
       obtain⟨x,out,q1,q2,q3,q4,q5⟩:=itemR_sh ih hS hG (S:=S++[123]) h1 (by decide +kernel) w1 ha1 hm1 (by omega) late (by rw[e] at hb;simp at hb ⊢;omega)
       refine⟨123::out++[125],?_,fun _=>by rw[e,q3];simp,q4,q5⟩
       rw[wnew _ (q1 _ hd1)]
       show wbody (wtyp N f) ⟨7,⟨#[]⟩,0,[],[(x:Int)],[]⟩ _=_
       rw[wbody,if_neg (show ¬(7:Int)=6 by decide),if_pos rfl,witems,wlist,wlist]
       simp only[if_true]
       rw[show (WSt.put ⟨S,s1.ns.length,false⟩ [123])=⟨S++[123],s1.ns.length,false⟩ from rfl,q2]
       simp[WSt.put]
      ·split at h
       ·next k6 k7 k8=>
        subst k8
        obtain⟨_,s2,h1,h2⟩:=Res.bind_ok h
        injection h2 with h3 h4
        subst h3;subst h4
        have ht:isT s cPaO=true:=by
         rcases kind_cases hk with⟨e,_⟩|⟨e,_⟩|⟨e,e2⟩|⟨_,e0,e1,e2⟩|⟨_,e⟩
         ·omega
         ·omega
         ·exact e2
         ·exact absurd rfl (kind_word e0 e1 e2).2.2.2
         ·omega
        obtain⟨e,w1⟩:=sgn 40 (by decide +kernel) ht
        obtain⟨x,more,out,q1,q2,q3,q4,q5⟩:=unionR_sh ih hS hG s.ns.length _ _ (S:=S++[40]) h1 w1 ha1 ⟨_,hd1,rfl⟩ hm1 (by omega) late (by rw[e] at hb;simp at hb ⊢;omega)
        refine⟨40::out++[41],?_,fun _=>by rw[e,q3];simp,q4,q5⟩
        rw[wnew _ (q1 _ hd1)]
        show wbody (wtyp N f) ⟨8,⟨#[]⟩,0,[],([]++x::more).map (fun (n:Nat)=>(n:Int)),[]⟩ _=_
        rw[wbody,if_neg (show ¬(8:Int)=6 by decide),if_neg (show ¬(8:Int)=7 by decide),if_pos rfl,List.nil_append,List.map_cons,witems,wlist]
        simp only[if_true]
        rw[show (WSt.put ⟨S,s1.ns.length,false⟩ [40])=⟨S++[40],s1.ns.length,false⟩ from rfl,q2]
        simp[WSt.put]
       ·next k6 k7 k8=>
        have hwd:(hd s.l).k=0∧(hd s.l).s=wordsL.getD k.toNat ⟨#[]⟩:=by
         rcases kind_cases hk with⟨e,_⟩|⟨e,_⟩|⟨e,_⟩|⟨h0,e0,e1,e2⟩|⟨_,e⟩
         ·exact absurd e k6
         ·exact absurd e k7
         ·exact absurd e k8
         ·exact⟨h0,(kind_word e0 e1 e2).1⟩
         ·omega
        obtain⟨g,e,g1,g2,w1⟩:=wrd hwd.1
        split at h
        ·next hkk=>
         obtain⟨_,s2,h1,h2⟩:=Res.bind_ok h
         injection h2 with h3 h4
         subst h3;subst h4
         have hlen:=(definedR_len hG h1).1
         have hk0:(hd s1.l).k=0:=by
          unfold definedR at h1
          obtain⟨x,s3,h5,_⟩:=Res.bind_ok h1
          exact (nameR_ok h5).1
         rw[g2 hk0] at e
         have hpre:bs (hd s.l).s++[32]=(if k=10 then sFix else if k=9 then sEn else sRec):=by
          rw[hwd.2]
          rcases hkk with e|e|e<;>subst e<;>rfl
         have hb1:S.length+(if k=10 then 6 else if k=9 then 5 else 7)+(sr s1).length≤4096:=by
          have hl:(bs (hd s.l).s++[32]).length=if k=10 then 6 else if k=9 then 5 else 7:=by
           rw[hpre]
           rcases hkk with e|e|e<;>subst e<;>rfl
          rw[←hl]
          rw[e] at hb
          simp only[List.length_append] at hb ⊢
          omega
         obtain⟨d,out,q1,q2,q3,q4,q5,q6,q7⟩:=definedR_sh ih hS hG (S:=S) hkk h1 w1 ha1 hd1 hm1 (by omega) late (hN (by omega)) hb1
         refine⟨(if k=10 then sFix else if k=9 then sEn else sRec)++out,?_,fun h2k=>?_,q6,q7⟩
         ·rw[wnew _ q1,q4]
         ·rw[e,q5 h2k,←hpre];simp
        ·next hkk=>
         injection h with h3 h4
         subst h3;subst h4
         refine⟨bs (hd s.l).s,?_,fun h2k=>by rw[e,g1 h2k];rfl,w1,hm1⟩
         rw[wnew _ hd1]
         have hr:=kindR_rng hk
         show wbody (wtyp N f) ⟨k,⟨#[]⟩,0,[],[],[]⟩ _=_
         rw[wbody]
         simp only
         rw[if_neg k6,if_neg k7,if_neg k8,if_neg (fun e=>hkk (.inl e)),if_neg (fun e=>hkk (.inr (.inl e))),if_neg (fun e=>hkk (.inr (.inr e))),if_neg (by omega),hwd.2]
         rfl
theorem show_back (s:ByteArray) (h:(parseP s).2.2=0):∃t,showP ((parseP s).1.map Nd.toE)=some t∧t.length≤s.size∧parseP ⟨t.toArray⟩=parseP s:=by
 rcases parse_cases s with⟨_,h1⟩|⟨hw,n,s',ht,hk,hp⟩
 ·exact absurd h h1
 have hsz:s.size≤4096∧wordsR (toks s) 0=none:=by
  unfold words at hw
  split at hw
  ·cases hw
  ·exact⟨by omega,hw⟩
 have hpos:∀(l:List Tok) (n:Nat),wordsR l n=none→∀t∈l,0≤t.k:=by
  intro l
  induction l with
  | nil=>intro n _ t ht;cases ht
  | cons x l ih=>
   intro n h t ht
   rw[wordsR] at h
   split at h
   ·cases h
   ·split at h
    ·cases h
    ·rcases List.mem_cons.1 ht with rfl|ht
     ·omega
     ·exact ih _ h t ht
 obtain⟨r1,r2,r3⟩:=relex s (hpos _ _ hsz.2)
 have hn0:n=0:=by
  have hk':=ht
  rw[typedR.eq_def] at hk'
  simp only at hk'
  split at hk'
  ·cases hk'
  ·split at hk'
   ·cases hk'
   ·next hg=>
    split at hk'
    ·injection hk' with e _;rw[←e];rfl
    ·repeat' split at hk'
     all_goals first
      | cases hk';done
      | (obtain⟨_,s2,_,h2⟩:=Res.bind_ok hk';injection h2 with e _;exact e.symm)
      | (injection hk' with e _;exact e.symm)
 subst hn0
 obtain⟨out,q1,q2,q3,q4⟩:=typedR_sh (s'.ns.map Nd.toE) 20 false [] ⟨toks s,[],fun _=>none⟩ 0 s' [] ht r1 (fun d hd=>by cases hd) (fun y i hy=>by cases hy) (fun i _ hi=>by rw[List.getElem?_map]) (by
  show 0+(ser ((toks s).map tk)).length≤4096
  omega)
 have hend:sr s'=[]:=by
  obtain⟨l,ns,nm⟩:=s'
  cases l with
  | nil=>cases q3
  | cons t r=>
   change WTs (tk t::r.map tk) at q3
   rcases wts_cons q3 with⟨e,e2⟩|⟨hx,_⟩
   ·unfold sr
    show ser (tk t::r.map tk)=[]
    rw[e,e2];rfl
   ·have:=hx.rng
    have hk:t.k=3:=hk
    have:(tk t).1=t.k:=rfl
    omega
 have hout:ser ((toks s).map tk)=out:=by
  have:=q2 (by omega)
  rw[hend,List.append_nil] at this
  exact this
 have hq:wtyp (s'.ns.map Nd.toE) 20 0 ⟨[],0,false⟩=⟨out,s'.ns.length,false⟩:=by
  have:=q1
  rw[List.nil_append] at this
  exact this
 have hsz2:(ByteArray.mk out.toArray).size=out.length:=by simp[ByteArray.size]
 have her:(toks s).map er=(toks ⟨out.toArray⟩).map er:=by
  have hinj:∀(l m:List Tok),l.map tk=m.map tk→l.map er=m.map er:=by
   intro l
   induction l with
   | nil=>intro m e;cases m with
    | nil=>rfl
    | cons=>cases e
   | cons x l ih=>intro m e;cases m with
    | nil=>cases e
    | cons y m=>
     rw[List.map_cons,List.map_cons] at e ⊢
     injection e with e1 e2
     rw[ih m e2]
     congr 1
     have e3:x.k=y.k:=congrArg Prod.fst e1
     have e4:bs x.s=bs y.s:=congrArg Prod.snd e1
     have e5:x.s=y.s:=by
      have:x.s.data=y.s.data:=Array.toList_inj.1 e4
      cases hx:x.s;cases hy:y.s
      rw[hx,hy] at this
      simp only at this
      rw[this]
     unfold er
     rw[e3,e5]
  rw[hout] at r3
  exact hinj _ _ r3.symm
 have hw2:words ⟨out.toArray⟩=none:=by
  have hwe:∀(l m:List Tok) (n:Nat),l.map er=m.map er→wordsR l n=none→wordsR m n=none:=by
   intro l
   induction l with
   | nil=>intro m n e _;cases m with
    | nil=>rfl
    | cons=>cases e
   | cons x l ih=>intro m n e h;cases m with
    | nil=>rfl
    | cons y m=>
     rw[List.map_cons,List.map_cons] at e
     injection e with e1 e2
     have e3:(er x).k=(er y).k:=by rw[e1]
     have e3:x.k=y.k:=e3
     rw[wordsR] at h ⊢
     rw[←e3]
     split at h
     ·cases h
     ·next h1=>
      rw[if_neg h1]
      split at h
      ·cases h
      ·next h2=>rw[if_neg h2];exact ih m _ e2 h
  unfold words
  rw[if_neg (by rw[hsz2,←hout];omega)]
  exact hwe _ _ 0 her hsz.2
 obtain⟨s'',t1,t2,t3⟩:=typedR_same her ht
 have hk2:(hd s''.l).k=3:=by
  have e:=hd_er s''.l
  rw[t3,hd_er] at e
  have:=congrArg Tok.k e
  exact this.symm.trans hk
 have hp2:parseP ⟨out.toArray⟩=(s'.ns,0,0):=by
  unfold parseP
  rw[hw2]
  simp only
  rw[t1]
  simp only
  rw[if_neg (by simp[hk2]),t2]
 refine⟨out,?_,by rw[←hout];exact r2,by rw[hp2,hp]⟩
 rw[hp]
 unfold showP
 simp only
 rw[hq]
 simp only
 rw[if_neg (by simp),hp2]
 simp
end Go.Proofs.YtbpfabhlngfciaaGreatDoor.Pr
namespace Go.Proofs.YtbpfabhlngfciaaGreatDoor.Cn
open Go.ChangeShapes Go.WideShapes Go.ChangeAt Go.RowKit
open Base Lx Mi Pr
theorem showP_len' {ns:List Ne} {t:List UInt8} (h:showP ns=some t):showLen ns=t.length:=by
 unfold showP at h
 simp only at h
 split at h
 ·cases h
 ·split at h
  ·cases h
  ·injection h with h;rw[←h];rfl
theorem parse_small' {s:ByteArray} (h:(parseP s).2.2=0):s.size≤4096:=by
 rcases parse_cases s with⟨_,h1⟩|⟨hw,n,s',ht,hk,hp⟩
 ·exact absurd h h1
 ·unfold words at hw
  split at hw
  ·cases hw
  ·omega
theorem back_plain' (s:ByteArray) (h:(parseP s).2.2=0):∃t:List UInt8,showP ((parseP s).1.map Nd.toE)=some t∧t.length≤s.size∧s.size≤4096∧parseP ⟨t.toArray⟩=parseP s∧showLen ((parseP s).1.map Nd.toE)≤100000000:=by
 obtain⟨t,h1,h2,h3⟩:=show_back s h
 have h4:=parse_small' h
 exact⟨t,h1,h2,h4,h3,by rw[showP_len' h1];omega⟩
def formP (s:ByteArray):ByteArray×Int×Int:=if (parseP s).2.2=0 then (⟨((showP ((parseP s).1.map Nd.toE)).getD []).toArray⟩,0,0) else (⟨#[]⟩,(parseP s).2.1,(parseP s).2.2)
def isP (s:ByteArray):Bool:=decide ((formP s).2.2=0) && decide ((formP s).1=s)
theorem isP_size {s:ByteArray} (h:isP s=true):s.size≤4096:=by
 unfold isP formP at h
 simp only[Bool.and_eq_true,decide_eq_true_eq] at h
 by_cases h0:(parseP s).2.2=0
 ·exact parse_small' h0
 ·rw[if_neg h0] at h;exact absurd h.1 h0
theorem ctext_any (s:ByteArray) (hs:s.size≤140737488351232) (w:World) (hwd:Wd w) (hpow:Pow w):Calls Tryz.prog 41 #[.string s] w fun e w'=>e=.returned (.tuple #[.string (formP s).1,.int .i64 (formP s).2.1,.int .i64 (formP s).2.2])∧Ext w w':=by
 have hp5:=hpow.lt
 have hpar:=parse_any s hs w hwd (by omega)
 have l7:=parse_rng s
 have hb:=back_plain' s
 obtain⟨F,hF⟩:∃z,Hid (formP s=z):=⟨_,Lib.hid rfl⟩
 have hFd:=hF.out
 rw[hF.out]
 unfold formP at hFd
 obtain⟨r,hr⟩:∃z,Hid (parseP s=z):=⟨_,Lib.hid rfl⟩
 rw[hr.out] at hpar l7 hb hFd
 obtain⟨ns,at_,why⟩:=r
 replace hpar:Calls Tryz.prog 48 #[.string s] w fun e w'=>∃v vs,e=.returned (.tuple #[.agg #[v],.int .i64 at_,.int .i64 why])∧Nds w.heap.size w' ns vs v∧Ext w w':=hpar
 replace l7:∀d∈ns,-9223372036854775808≤d.size∧d.size≤9223372036854775807:=l7
 simp only at hFd hb
 obtain⟨PO,hPO⟩:∃PO:Ending→World→Prop,Hid ((fun e w'=>e=.returned (.tuple #[.string F.1,.int .i64 F.2.1,.int .i64 F.2.2])∧Ext w w')=PO):=⟨_,Lib.hid rfl⟩
 rw[hPO.out]
 by_cases hw:why=0
 ·subst hw
  obtain⟨t,h1,_,_,_,h5⟩:=hb rfl
  rw[if_pos rfl,h1] at hFd
  have hp:∀W,Ext w W→PO (.returned (.tuple #[.string ⟨t.toArray⟩,.int .i64 0,.int .i64 0])) W:=fun W hW=>by rw[←hPO.out,←hFd];exact⟨rfl,hW⟩
  obtain⟨T,hT⟩:∃z,Hid (t.toArray=z):=⟨_,Lib.hid rfl⟩
  rw[hT.out] at hp
  obtain⟨nE,hnE⟩:∃z,Hid (ns.map Nd.toE=z):=⟨_,Lib.hid rfl⟩
  rw[hnE.out] at h1 h5
  replace h1:=Lib.hid h1
  replace l7:=Lib.hid l7
  clear hr hb hFd hF hPO
  go_enter Tryz.func41,Tryz.ntmps41
  go_wp2_with fail
  refine hpar.mono ?_
  rintro e w1 ⟨v,vs,rfl,hnd,hx1⟩
  have hS1:=Sch.ofNds hnd (Nat.le_refl _) l7.out
  rw[hnE.out] at hS1
  obtain⟨A,c,rfl,jj1,jj2,jj3,jj4⟩:=Rd.of_own hnd.row
  clear jj1 jj2 jj3 jj4 hpar hnd
  obtain⟨k,hk⟩:∃z,Hid (ns.length=z):=⟨_,Lib.hid rfl⟩
  rw[hk.out] at hS1 ⊢
  obtain⟨w2,hw2⟩:∃z,Hid (w1.alloc (.cells #[.slice A k c] 42)=z):=⟨_,rfl⟩
  have hx2:Ext w1 w2:=by rw[←hw2.out];exact (Ext.refl w1).alloc _
  have hS2:Sch w2.heap.size w2 (.slice A k c) nE:=(hS1.below hx2).mono hx2.size
  have hx02:=hx1.trans hx2
  have hsh:=show_any _ _ w2 hS2 (hwd.ext hx02) (hpow.ext hx02) h5
  rw[h1.out] at hsh
  clear hS1 hS2
  go_wp2_with fail
  rw[hw2.out]
  refine hsh.mono ?_
  rintro e w4 ⟨rfl,hx4⟩
  rw[show shV (some t)=Value.tuple #[.string ⟨t.toArray⟩,.int .i64 0] from rfl,hT.out]
  have hp4:=hp w4 (hx02.trans hx4)
  clear hsh hp
  go_wp2_with fail
  refine bodyPost_ret (results_tmp3 rfl _ _ _) rfl ?_
  exact hp4
 ·rw[if_neg hw] at hFd
  have hwb:((why:Int) != 0)=true:=by simpa using hw
  have hp:∀W,Ext w W→PO (.returned (.tuple #[.string ⟨#[]⟩,.int .i64 at_,.int .i64 why])) W:=fun W hW=>by rw[←hPO.out,←hFd];exact⟨rfl,hW⟩
  clear hr hb hFd hF hPO l7
  go_enter Tryz.func41,Tryz.ntmps41
  go_wp2_with fail
  refine hpar.mono ?_
  rintro e w1 ⟨v,vs,rfl,hnd,hx1⟩
  obtain⟨A,c,rfl,jj1,jj2,jj3,jj4⟩:=Rd.of_own hnd.row
  clear jj1 jj2 jj3 jj4 hpar hnd
  obtain⟨k,hk⟩:∃z,Hid (ns.length=z):=⟨_,Lib.hid rfl⟩
  rw[hk.out]
  obtain⟨w2,hw2⟩:∃z,Hid (w1.alloc (.cells #[.slice A k c] 42)=z):=⟨_,rfl⟩
  have hx2:Ext w1 w2:=by rw[←hw2.out];exact (Ext.refl w1).alloc _
  have hp4:=hp w2 (hx1.trans hx2)
  clear hp
  go_wp2_with fail
  rw[hw2.out]
  refine bodyPost_ret (results_tmp3 rfl _ _ _) rfl ?_
  exact hp4
theorem str_beq' (a b:ByteArray):(a.toList == b.toList)=decide (a=b):=by
 by_cases h:a=b
 ·subst h;simp
 ·rw[str_ne h];simpa using h
theorem cis_any (s:ByteArray) (hs:s.size≤140737488351232) (w:World) (hwd:Wd w) (hpow:Pow w):Calls Tryz.prog 47 #[.string s] w fun e w'=>e=.returned (.bool (isP s))∧Ext w w':=by
 have hc:=ctext_any s hs w hwd hpow
 have hi:isP s=(decide ((formP s).2.2=0) && decide ((formP s).1=s)):=rfl
 obtain⟨F,hF⟩:∃z,Hid (formP s=z):=⟨_,Lib.hid rfl⟩
 rw[hF.out] at hc hi
 rw[hi]
 obtain⟨t,a,y⟩:=F
 simp only at hc ⊢
 have hb:=str_beq' t s
 clear hi
 by_cases h0:y=0
 ·subst h0
  obtain⟨b,hbd⟩:∃z,Hid (decide (t=s)=z):=⟨_,Lib.hid rfl⟩
  rw[hbd.out] at hb ⊢
  go_enter Tryz.func47,Tryz.ntmps47
  go_wp2_with fail
  refine hc.mono ?_
  rintro e w1 ⟨rfl,hx1⟩
  go_wp2_with fail
  go_ret
  exact⟨by simp,hx1⟩
 ·have hyb:((y:Int) == 0)=false:=by simpa using h0
  rw[decide_eq_false h0,Bool.false_and]
  clear hb
  go_enter Tryz.func47,Tryz.ntmps47
  go_wp2_with fail
  refine hc.mono ?_
  rintro e w1 ⟨rfl,hx1⟩
  go_wp2_with fail
  go_ret
  exact⟨rfl,hx1⟩
theorem cIs_any (s:ByteArray) (hs:s.size≤140737488351232) (w:World) (hwd:Wd w) (hpow:Pow w):Calls Tryz.prog 19 #[.string s] w fun e w'=>e=.returned (.bool (isP s))∧Ext w w':=by
 have hc:=cis_any s hs w hwd hpow
 obtain⟨b,hb⟩:∃z,Hid (isP s=z):=⟨_,Lib.hid rfl⟩
 rw[hb.out] at hc ⊢
 go_enter Tryz.func19,Tryz.ntmps19
 go_wp2_with fail
 refine hc.mono ?_
 rintro e w1 ⟨rfl,hx1⟩
 go_wp2_with fail
 go_ret
 exact⟨rfl,hx1⟩
end Go.Proofs.YtbpfabhlngfciaaGreatDoor.Cn
namespace Go.Proofs.YtbpfabhlngfciaaGreatDoor.Ch
open Base Pf Cn Pr
structure Et where
 pol:Bool
 p:Int
 s:ByteArray
 id:Nat
 deriving DecidableEq
def e0:Et:=⟨false,0,⟨#[]⟩,0⟩
def entC (e:Et):List Value:=[.bool e.pol,.int .i64 e.p,.string e.s,.int .u64 (e.id:Int)]
def canP (e:Et):Bool:=
 if e.pol=true then decide (0≤e.p) && decide (e.p<7) && decide (e.s=⟨#[]⟩) && decide (e.id=0)
 else decide (e.p=0) && decide (1≤e.id) && decide (e.id≤2147483647) && isP e.s
def bytesP (e:Et):List UInt8:=if e.pol=true then [UInt8.ofNat (e.p.toNat+1)] else 0::(encN e.id++encT (bs e.s))
def takeE:List UInt8→Et×List UInt8×Nat
 | []=>(e0,[],3)
 | c::r=>if 7<c.toNat then (e0,[],4) else if 0<c.toNat then (⟨true,(c.toNat:Int)-1,⟨#[]⟩,0⟩,r,0)
  else if (takeP r).2.2≠0 then (e0,[],(takeP r).2.2)
  else if (takeTextP (takeP r).2.1 4096).2.2≠0 then (e0,[],(takeTextP (takeP r).2.1 4096).2.2)
  else if canP ⟨false,0,Str (takeTextP (takeP r).2.1 4096).1,(takeP r).1⟩=true then (⟨false,0,Str (takeTextP (takeP r).2.1 4096).1,(takeP r).1⟩,(takeTextP (takeP r).2.1 4096).2.1,0)
  else (e0,[],4)
theorem can_pol {e:Et} (hp:e.pol=true) (h:canP e=true):0≤e.p∧e.p<7∧e.s=⟨#[]⟩∧e.id=0:=by
 unfold canP at h
 rw[if_pos hp] at h
 simp only[Bool.and_eq_true,decide_eq_true_eq] at h
 exact⟨h.1.1.1,h.1.1.2,h.1.2,h.2⟩
theorem can_txt {e:Et} (hp:¬e.pol=true) (h:canP e=true):e.p=0∧1≤e.id∧e.id≤2147483647∧isP e.s=true:=by
 unfold canP at h
 rw[if_neg hp] at h
 simp only[Bool.and_eq_true,decide_eq_true_eq] at h
 exact⟨h.1.1.1,h.1.1.2,h.1.2,h.2⟩
theorem bytesP_len (e:Et) (h:canP e=true):(bytesP e).length≤5000:=by
 unfold bytesP
 by_cases hp:e.pol=true
 ·rw[if_pos hp];simp
 ·obtain⟨h1,h2,h3,h4⟩:=can_txt hp h
  have hsz:=isP_size h4
  have hbl:(bs e.s).length=e.s.size:=Array.length_toList
  rw[if_neg hp]
  have e1:=encN_length e.id
  have e2:=encN_length (bs e.s).length
  simp only[List.length_cons,List.length_append,encT]
  omega
end Go.Proofs.YtbpfabhlngfciaaGreatDoor.Ch
namespace Go.Proofs.YtbpfabhlngfciaaGreatDoor.Pf
open Go.ChangeShapes Go.WideShapes Go.ChangeAt Go.RowKit
open Base
theorem el8:El Tryz.prog 50 5 (.int .u8 0) 1 1:=⟨by kernel_rfl,by kernel_rfl,rfl,by omega⟩
theorem grw {B:Nat} {w w1 w':World} {v:Value} {n:Nat} {xs:List Value} (hB:B≤w.heap.size) (ho:w.ownsRow B 5 1 v n xs) (hx:Ext w w1) (hg:w1.grownBy w' v.ownBlock):Below B w w':=
 Below.grown (Below.mono hx hB) hg (Nat.le_trans hB hx.size) (fun k hk=>(ho.lt k hk).1)
abbrev Ow (B:Nat) (w:World) (v:Value) (l:List UInt8):Prop:=w.ownsRow B 5 1 v l.length (u8s l)
theorem clone_any (A:Option Addr) (n c:Nat) (l:List UInt8) (w:World) (hr:Rb w A l) (hl:l.length=n) (hA:A=none→c=0) (hn:n≤140737488355328) :
  Calls Tryz.prog 57 #[.slice A n c] w fun e w'=>∃v,e=.returned v∧Ow w.heap.size w' v l∧Ext w w':=by
 cases A with
 | none=>
  have hnil:l=[]:=by
   apply Classical.byContradiction
   intro h
   obtain⟨b,off,e,_⟩:=hr (by simpa [u8s] using h)
   cases e
  subst hnil
  obtain rfl:n=0:=by simpa using hl.symm
  obtain rfl:c=0:=hA rfl
  have e1:(binOp BinOp.eql 50 (.slice none 0 0) (.slice none 0 0)).run Tryz.prog w=.ok (.bool true) w:=by kernel_rfl
  go_enter Tryz.func57,Tryz.ntmps57
  go_wp2_with fail
  go_ret
  exact⟨_,rfl,World.ownsRow_nil _ _ _ _,Ext.refl w⟩
 | some a=>
  replace hA:=Lib.hid hA
  have hl2:(u8s l).length=n*1:=by rw[u8s_length];omega
  have hln:=Lib.hid hl
  replace hl2:=Lib.hid hl2
  clear hl
  have e1:(binOp BinOp.eql 50 (.slice (some a) n c) (.slice none 0 0)).run Tryz.prog w=.ok (.bool false) w:=by kernel_rfl
  go_enter Tryz.func57,Tryz.ntmps57
  go_wp2_with (
   refine wpList_app el8 _ rfl (.tmp 5) (.tmp 6) rfl w.heap.size _ 0 [] rfl (World.ownsRow_lit w #[] 0 (Nat.le_refl _) (Nat.zero_le _) rfl) (some a) n c (u8s l) rfl (Rd.ext hr ((Ext.refl _).alloc _)) hl2.out hA.out (u8s_one l) (by omega) (by omega) (by simp) (fun V1 w1 ho1 hg1 hv1=>?_))
  go_ret
  refine⟨_,rfl,?_,?_⟩
  ·have:=ho1;rw[List.nil_append,Nat.zero_add] at this;show w1.ownsRow _ _ _ _ l.length _;rw[hln.out];exact this
  ·exact Ext.then_grown ((Ext.refl w).alloc _) hg1 (fun k hk=>by
    have hk:some w.heap.size=some k:=hk
    injection hk with hk
    omega)
theorem class_any (n:Nat) (hn:n<18446744073709551616) (w:World):Calls Tryz.prog 87 #[.int .u64 (n:Int)] w fun e w'=>e=.returned (.int .i64 (cls n))∧w=w':=by
 obtain⟨r,hr⟩:∃r,Hid (cls n=r):=⟨_,Lib.hid rfl⟩
 rw[hr.out]
 by_cases h3:4611686018427387904≤n
 ·have e:r = -1:=by rw[←hr.out,cls,if_pos h3]
  subst e
  have h3':(4611686018427387904:Int)≤(n:Int):=by omega
  clear h3 hn
  go_enter Tryz.func87,Tryz.ntmps87
  go_wp2_with fail
  go_ret
  exact⟨rfl,rfl⟩
 have h3':¬(4611686018427387904:Int)≤(n:Int):=by omega
 by_cases h2:1073741824≤n
 ·have e:r=3:=by rw[←hr.out,cls,if_neg h3,if_pos h2]
  subst e
  have h2':(1073741824:Int)≤(n:Int):=by omega
  clear h3 hn h2
  go_enter Tryz.func87,Tryz.ntmps87
  go_wp2_with fail
  go_ret
  exact⟨rfl,rfl⟩
 have h2':¬(1073741824:Int)≤(n:Int):=by omega
 by_cases h1:16384≤n
 ·have e:r=2:=by rw[←hr.out,cls,if_neg h3,if_neg h2,if_pos h1]
  subst e
  have h1':(16384:Int)≤(n:Int):=by omega
  clear h3 hn h2 h1
  go_enter Tryz.func87,Tryz.ntmps87
  go_wp2_with fail
  go_ret
  exact⟨rfl,rfl⟩
 have h1':¬(16384:Int)≤(n:Int):=by omega
 by_cases h0:64≤n
 ·have e:r=1:=by rw[←hr.out,cls,if_neg h3,if_neg h2,if_neg h1,if_pos h0]
  subst e
  have h0':(64:Int)≤(n:Int):=by omega
  clear h3 hn h2 h1 h0
  go_enter Tryz.func87,Tryz.ntmps87
  go_wp2_with fail
  go_ret
  exact⟨rfl,rfl⟩
 ·have e:r=0:=by rw[←hr.out,cls,if_neg h3,if_neg h2,if_neg h1,if_neg h0]
  subst e
  have h0':¬(64:Int)≤(n:Int):=by omega
  clear h3 hn h2 h1 h0
  go_enter Tryz.func87,Tryz.ntmps87
  go_wp2_with fail
  go_ret
  exact⟨rfl,rfl⟩
theorem ints8_one (l:List Int):∀u∈l.map (Value.int .u8),u.oneCell'=true:=by
 intro u hu
 obtain⟨x,_,rfl⟩:=List.mem_map.1 hu
 rfl
theorem u8_be (m v:Nat):u8s (be (m+1) v)=.int .u8 ((v:Int) / ((256 ^ m:Nat):Int)%256)::u8s (be m v):=by
 rw[be]
 simp only[u8s,List.map_cons,List.cons.injEq,Value.int.injEq,true_and,and_true]
 rw[UInt8.toNat_ofNat_of_lt' (by show _%256<256;omega)]
 rfl
theorem or_top (a b i m:Nat) (hm:m=2 ^ i) (h:a<m):a ||| (b*m)=a+b*m:=by
 have h1:=Nat.shiftLeft_add_eq_or_of_lt (i:=i) (b:=a) (by omega) b
 rw[Nat.shiftLeft_eq,←hm] at h1
 rw[Nat.or_comm,←h1,Nat.add_comm]
theorem put_0 (B:Nat) (A:Option Addr) (m cap:Nat) (l:List UInt8) (n:Nat) (w:World) (ho:w.ownsRow B 5 1 (.slice A m cap) m (u8s l)) (hB:B≤w.heap.size) (hn:n<64) (hm:m≤140737488355000) :
  Calls Tryz.prog 86 #[.slice A m cap,.int .u64 (n:Int),.int .i64 0] w fun e w'=>∃A' c',e=.returned (.slice A' (m+1) c')∧w'.ownsRow B 5 1 (.slice A' (m+1) c') (m+1) (u8s (l++putP n 0))∧Below B w w':=by
 obtain⟨v,hv⟩:∃v,v=n:=⟨_,rfl⟩
 have hp:putP n 0=be 1 v:=by rw[hv];rfl
 subst hv
 have hor:bits BinOp.or IntKind.u64 (v:Int) 0=(v:Int):=by
  rw[show (0:Int)=((0:Nat):Int) from rfl,u64_or_nat v 0 (by omega) (by decide),Nat.or_zero]
 have hrow:u8s (l++be 1 v)=(u8s l++[(v:Int)%256].map (Value.int .u8)):=by
  rw[u8s_append,u8_be]
  simp[u8s,be]
 rw[hp,hrow]
 clear hp hrow hn
 try clear hv
 have hx0:=(Ext.refl w)
 go_enter Tryz.func86,Tryz.ntmps86
 go_wp2_with (first
  | (refine wpList_app el8 _ rfl (.tmp 52) (.tmp 55) rfl B (.slice A (m) cap) (m) (u8s l) rfl (own_ext ho ((Ext.refl w).alloc _)) (some ⟨w.heap.size, 0, none⟩) 1 1 ([(v : Int) % 256].map (Value.int .u8)) rfl (Rd.of_block w 5 (0, 0) rfl) rfl (fun h => by cases h) (ints8_one _) (by omega) (by omega) (by simp; omega) (fun V0 w0 ho0 hg0 hv0 => ?_)
     obtain⟨A0,c0,rfl,jj1,jj2,jj3,jj4⟩:=Rd.of_own ho0
     have gr0:=grw hB ho ((Ext.refl w).alloc _) hg0
     have hz0:B≤w0.heap.size:=by have:=gr0.size;omega
     clear jj1 jj2 jj3 jj4 hg0 hv0))
 go_ret
 exact⟨_,_,rfl,ho0,gr0⟩
theorem put_1 (B:Nat) (A:Option Addr) (m cap:Nat) (l:List UInt8) (n:Nat) (w:World) (ho:w.ownsRow B 5 1 (.slice A m cap) m (u8s l)) (hB:B≤w.heap.size) (hn:n<16384) (hm:m≤140737488355000) :
  Calls Tryz.prog 86 #[.slice A m cap,.int .u64 (n:Int),.int .i64 1] w fun e w'=>∃A' c',e=.returned (.slice A' (m+2) c')∧w'.ownsRow B 5 1 (.slice A' (m+2) c') (m+2) (u8s (l++putP n 1))∧Below B w w':=by
 obtain⟨v,hv⟩:∃v,v=n+16384:=⟨_,rfl⟩
 have hp:putP n 1=be 2 v:=by rw[hv];rfl
 have hor:bits BinOp.or IntKind.u64 (n:Int) 16384=(v:Int):=by
  rw[show (16384:Int)=((16384:Nat):Int) from rfl,u64_or_nat n 16384 (by omega) (by decide),show 16384=1*16384 from rfl,or_top n 1 14 16384 (by decide) (by omega),hv]
 have hrow:u8s (l++be 2 v)=((u8s l++[(v:Int) / 256%256].map (Value.int .u8))++[(v:Int)%256].map (Value.int .u8)):=by
  rw[u8s_append,u8_be,u8_be]
  simp[u8s,be]
 rw[hp,hrow]
 clear hp hrow hn
 try clear hv
 have hx0:=(Ext.refl w)
 go_enter Tryz.func86,Tryz.ntmps86
 go_wp2_with (first
  | (refine wpList_app el8 _ rfl (.tmp 46) (.tmp 50) rfl B (.slice A (m) cap) (m) (u8s l) rfl (own_ext ho ((Ext.refl w).alloc _)) (some ⟨w.heap.size, 0, none⟩) 1 1 ([(v : Int) / 256 % 256].map (Value.int .u8)) rfl (Rd.of_block w 5 (0, 0) rfl) rfl (fun h => by cases h) (ints8_one _) (by omega) (by omega) (by simp; omega) (fun V0 w0 ho0 hg0 hv0 => ?_)
     obtain⟨A0,c0,rfl,jj1,jj2,jj3,jj4⟩:=Rd.of_own ho0
     have gr0:=grw hB ho ((Ext.refl w).alloc _) hg0
     have hz0:B≤w0.heap.size:=by have:=gr0.size;omega
     clear jj1 jj2 jj3 jj4 hg0 hv0)
  | (refine wpList_app el8 _ rfl (.tmp 52) (.tmp 55) rfl B (.slice A0 (m + 1) c0) (m + 1) ((u8s l) ++ [(v : Int) / 256 % 256].map (Value.int .u8)) rfl (own_ext ho0 ((Ext.refl w0).alloc _)) (some ⟨w0.heap.size, 0, none⟩) 1 1 ([(v : Int) % 256].map (Value.int .u8)) rfl (Rd.of_block w0 5 (0, 0) rfl) rfl (fun h => by cases h) (ints8_one _) (by omega) (by omega) (by simp; omega) (fun V1 w1 ho1 hg1 hv1 => ?_)
     obtain⟨A1,c1,rfl,jj1,jj2,jj3,jj4⟩:=Rd.of_own ho1
     have gr1:=grw hz0 ho0 ((Ext.refl w0).alloc _) hg1
     have hz1:B≤w1.heap.size:=by have:=gr1.size;omega
     clear jj1 jj2 jj3 jj4 hg1 hv1))
 go_ret
 exact⟨_,_,rfl,ho1,(gr0).trans gr1⟩
theorem put_2 (B:Nat) (A:Option Addr) (m cap:Nat) (l:List UInt8) (n:Nat) (w:World) (ho:w.ownsRow B 5 1 (.slice A m cap) m (u8s l)) (hB:B≤w.heap.size) (hn:n<1073741824) (hm:m≤140737488355000) :
  Calls Tryz.prog 86 #[.slice A m cap,.int .u64 (n:Int),.int .i64 2] w fun e w'=>∃A' c',e=.returned (.slice A' (m+4) c')∧w'.ownsRow B 5 1 (.slice A' (m+4) c') (m+4) (u8s (l++putP n 2))∧Below B w w':=by
 obtain⟨v,hv⟩:∃v,v=n+2147483648:=⟨_,rfl⟩
 have hp:putP n 2=be 4 v:=by rw[hv];rfl
 have hor:bits BinOp.or IntKind.u64 (n:Int) 2147483648=(v:Int):=by
  rw[show (2147483648:Int)=((2147483648:Nat):Int) from rfl,u64_or_nat n 2147483648 (by omega) (by decide),show 2147483648=2*1073741824 from rfl,or_top n 2 30 1073741824 (by decide) (by omega),hv]
 have hrow:u8s (l++be 4 v)=(((u8s l++[(v:Int) / 16777216%256,(v:Int) / 65536%256].map (Value.int .u8))++[(v:Int) / 256%256].map (Value.int .u8))++[(v:Int)%256].map (Value.int .u8)):=by
  rw[u8s_append,u8_be,u8_be,u8_be,u8_be]
  simp[u8s,be]
 rw[hp,hrow]
 clear hp hrow hn
 try clear hv
 have hx0:=(Ext.refl w)
 go_enter Tryz.func86,Tryz.ntmps86
 go_wp2_with (first
  | (refine wpList_app el8 _ rfl (.tmp 37) (.tmp 44) rfl B (.slice A (m) cap) (m) (u8s l) rfl (own_ext ho ((Ext.refl w).alloc _)) (some ⟨w.heap.size, 0, none⟩) 2 2 ([(v : Int) / 16777216 % 256, (v : Int) / 65536 % 256].map (Value.int .u8)) rfl (Rd.of_block w 5 (0, 0) rfl) rfl (fun h => by cases h) (ints8_one _) (by omega) (by omega) (by simp; omega) (fun V0 w0 ho0 hg0 hv0 => ?_)
     obtain⟨A0,c0,rfl,jj1,jj2,jj3,jj4⟩:=Rd.of_own ho0
     have gr0:=grw hB ho ((Ext.refl w).alloc _) hg0
     have hz0:B≤w0.heap.size:=by have:=gr0.size;omega
     clear jj1 jj2 jj3 jj4 hg0 hv0)
  | (refine wpList_app el8 _ rfl (.tmp 46) (.tmp 50) rfl B (.slice A0 (m + 2) c0) (m + 2) ((u8s l) ++ [(v : Int) / 16777216 % 256, (v : Int) / 65536 % 256].map (Value.int .u8)) rfl (own_ext ho0 ((Ext.refl w0).alloc _)) (some ⟨w0.heap.size, 0, none⟩) 1 1 ([(v : Int) / 256 % 256].map (Value.int .u8)) rfl (Rd.of_block w0 5 (0, 0) rfl) rfl (fun h => by cases h) (ints8_one _) (by omega) (by omega) (by simp; omega) (fun V1 w1 ho1 hg1 hv1 => ?_)
     obtain⟨A1,c1,rfl,jj1,jj2,jj3,jj4⟩:=Rd.of_own ho1
     have gr1:=grw hz0 ho0 ((Ext.refl w0).alloc _) hg1
     have hz1:B≤w1.heap.size:=by have:=gr1.size;omega
     clear jj1 jj2 jj3 jj4 hg1 hv1)
  | (refine wpList_app el8 _ rfl (.tmp 52) (.tmp 55) rfl B (.slice A1 (m + 2 + 1) c1) (m + 2 + 1) (((u8s l) ++ [(v : Int) / 16777216 % 256, (v : Int) / 65536 % 256].map (Value.int .u8)) ++ [(v : Int) / 256 % 256].map (Value.int .u8)) rfl (own_ext ho1 ((Ext.refl w1).alloc _)) (some ⟨w1.heap.size, 0, none⟩) 1 1 ([(v : Int) % 256].map (Value.int .u8)) rfl (Rd.of_block w1 5 (0, 0) rfl) rfl (fun h => by cases h) (ints8_one _) (by omega) (by omega) (by simp; omega) (fun V2 w2 ho2 hg2 hv2 => ?_)
     obtain⟨A2,c2,rfl,jj1,jj2,jj3,jj4⟩:=Rd.of_own ho2
     have gr2:=grw hz1 ho1 ((Ext.refl w1).alloc _) hg2
     have hz2:B≤w2.heap.size:=by have:=gr2.size;omega
     clear jj1 jj2 jj3 jj4 hg2 hv2))
 go_ret
 exact⟨_,_,rfl,ho2,((gr0).trans gr1).trans gr2⟩
theorem put_3 (B:Nat) (A:Option Addr) (m cap:Nat) (l:List UInt8) (n:Nat) (w:World) (ho:w.ownsRow B 5 1 (.slice A m cap) m (u8s l)) (hB:B≤w.heap.size) (hn:n<4611686018427387904) (hm:m≤140737488355000) :
  Calls Tryz.prog 86 #[.slice A m cap,.int .u64 (n:Int),.int .i64 3] w fun e w'=>∃A' c',e=.returned (.slice A' (m+8) c')∧w'.ownsRow B 5 1 (.slice A' (m+8) c') (m+8) (u8s (l++putP n 3))∧Below B w w':=by
 obtain⟨v,hv⟩:∃v,v=n+13835058055282163712:=⟨_,rfl⟩
 have hp:putP n 3=be 8 v:=by rw[hv];rfl
 have hor:bits BinOp.or IntKind.u64 (n:Int) 13835058055282163712=(v:Int):=by
  rw[show (13835058055282163712:Int)=((13835058055282163712:Nat):Int) from rfl,u64_or_nat n 13835058055282163712 (by omega) (by decide),show 13835058055282163712=3*4611686018427387904 from rfl,or_top n 3 62 4611686018427387904 (by decide) (by omega),hv]
 have hrow:u8s (l++be 8 v)=((((u8s l++[(v:Int) / 72057594037927936%256,(v:Int) / 281474976710656%256,(v:Int) / 1099511627776%256,(v:Int) / 4294967296%256].map (Value.int .u8))++[(v:Int) / 16777216%256,(v:Int) / 65536%256].map (Value.int .u8))++[(v:Int) / 256%256].map (Value.int .u8))++[(v:Int)%256].map (Value.int .u8)):=by
  rw[u8s_append,u8_be,u8_be,u8_be,u8_be,u8_be,u8_be,u8_be,u8_be]
  simp[u8s,be]
 rw[hp,hrow]
 clear hp hrow hn
 try clear hv
 have hx0:=(Ext.refl w)
 go_enter Tryz.func86,Tryz.ntmps86
 go_wp2_with (first
  | (refine wpList_app el8 _ rfl (.tmp 22) (.tmp 35) rfl B (.slice A (m) cap) (m) (u8s l) rfl (own_ext ho ((Ext.refl w).alloc _)) (some ⟨w.heap.size, 0, none⟩) 4 4 ([(v : Int) / 72057594037927936 % 256, (v : Int) / 281474976710656 % 256, (v : Int) / 1099511627776 % 256, (v : Int) / 4294967296 % 256].map (Value.int .u8)) rfl (Rd.of_block w 5 (0, 0) rfl) rfl (fun h => by cases h) (ints8_one _) (by omega) (by omega) (by simp; omega) (fun V0 w0 ho0 hg0 hv0 => ?_)
     obtain⟨A0,c0,rfl,jj1,jj2,jj3,jj4⟩:=Rd.of_own ho0
     have gr0:=grw hB ho ((Ext.refl w).alloc _) hg0
     have hz0:B≤w0.heap.size:=by have:=gr0.size;omega
     clear jj1 jj2 jj3 jj4 hg0 hv0)
  | (refine wpList_app el8 _ rfl (.tmp 37) (.tmp 44) rfl B (.slice A0 (m + 4) c0) (m + 4) ((u8s l) ++ [(v : Int) / 72057594037927936 % 256, (v : Int) / 281474976710656 % 256, (v : Int) / 1099511627776 % 256, (v : Int) / 4294967296 % 256].map (Value.int .u8)) rfl (own_ext ho0 ((Ext.refl w0).alloc _)) (some ⟨w0.heap.size, 0, none⟩) 2 2 ([(v : Int) / 16777216 % 256, (v : Int) / 65536 % 256].map (Value.int .u8)) rfl (Rd.of_block w0 5 (0, 0) rfl) rfl (fun h => by cases h) (ints8_one _) (by omega) (by omega) (by simp; omega) (fun V1 w1 ho1 hg1 hv1 => ?_)
     obtain⟨A1,c1,rfl,jj1,jj2,jj3,jj4⟩:=Rd.of_own ho1
     have gr1:=grw hz0 ho0 ((Ext.refl w0).alloc _) hg1
     have hz1:B≤w1.heap.size:=by have:=gr1.size;omega
     clear jj1 jj2 jj3 jj4 hg1 hv1)
  | (refine wpList_app el8 _ rfl (.tmp 46) (.tmp 50) rfl B (.slice A1 (m + 4 + 2) c1) (m + 4 + 2) (((u8s l) ++ [(v : Int) / 72057594037927936 % 256, (v : Int) / 281474976710656 % 256, (v : Int) / 1099511627776 % 256, (v : Int) / 4294967296 % 256].map (Value.int .u8)) ++ [(v : Int) / 16777216 % 256, (v : Int) / 65536 % 256].map (Value.int .u8)) rfl (own_ext ho1 ((Ext.refl w1).alloc _)) (some ⟨w1.heap.size, 0, none⟩) 1 1 ([(v : Int) / 256 % 256].map (Value.int .u8)) rfl (Rd.of_block w1 5 (0, 0) rfl) rfl (fun h => by cases h) (ints8_one _) (by omega) (by omega) (by simp; omega) (fun V2 w2 ho2 hg2 hv2 => ?_)
     obtain⟨A2,c2,rfl,jj1,jj2,jj3,jj4⟩:=Rd.of_own ho2
     have gr2:=grw hz1 ho1 ((Ext.refl w1).alloc _) hg2
     have hz2:B≤w2.heap.size:=by have:=gr2.size;omega
     clear jj1 jj2 jj3 jj4 hg2 hv2)
  | (refine wpList_app el8 _ rfl (.tmp 52) (.tmp 55) rfl B (.slice A2 (m + 4 + 2 + 1) c2) (m + 4 + 2 + 1) ((((u8s l) ++ [(v : Int) / 72057594037927936 % 256, (v : Int) / 281474976710656 % 256, (v : Int) / 1099511627776 % 256, (v : Int) / 4294967296 % 256].map (Value.int .u8)) ++ [(v : Int) / 16777216 % 256, (v : Int) / 65536 % 256].map (Value.int .u8)) ++ [(v : Int) / 256 % 256].map (Value.int .u8)) rfl (own_ext ho2 ((Ext.refl w2).alloc _)) (some ⟨w2.heap.size, 0, none⟩) 1 1 ([(v : Int) % 256].map (Value.int .u8)) rfl (Rd.of_block w2 5 (0, 0) rfl) rfl (fun h => by cases h) (ints8_one _) (by omega) (by omega) (by simp; omega) (fun V3 w3 ho3 hg3 hv3 => ?_)
     obtain⟨A3,c3,rfl,jj1,jj2,jj3,jj4⟩:=Rd.of_own ho3
     have gr3:=grw hz2 ho2 ((Ext.refl w2).alloc _) hg3
     have hz3:B≤w3.heap.size:=by have:=gr3.size;omega
     clear jj1 jj2 jj3 jj4 hg3 hv3))
 go_ret
 exact⟨_,_,rfl,ho3,(((gr0).trans gr1).trans gr2).trans gr3⟩
end Go.Proofs.YtbpfabhlngfciaaGreatDoor.Pf
namespace Go.Proofs.YtbpfabhlngfciaaGreatDoor.Base
open Go.ChangeShapes Go.WideShapes Go.ChangeAt Go.RowKit
def cutA (A:Option Addr) (c l:Nat):Option Addr:=if c=l then A else A.map (·.add l)
theorem Rd.cut {w:World} {A:Option Addr} {L:List Value} (h:Rd w A L) {c l k:Nat} (hl:l≤k) (hk:k≤c):Rd w (cutA A c l) ((L.take k).drop l):=by
 intro hne
 have hlen:l<(L.take k).length:=by
  rcases Nat.lt_or_ge l (L.take k).length with x|x
  ·exact x
  ·exact absurd (List.drop_eq_nil_of_le x) hne
 have hL:L≠[]:=by rintro rfl;simp at hlen
 obtain⟨b,off,rfl,hc⟩:=h hL
 have hlk:l<k:=by rw[List.length_take] at hlen;omega
 refine⟨b,off+l,?_,fun j u hj=>?_⟩
 ·unfold cutA
  rw[if_neg (by omega)]
  simp only[Option.map_some]
  congr 1
  unfold Addr.add;split<;>simp_all
 ·rw[List.getElem?_drop,List.getElem?_take] at hj
  split at hj
  ·rw[Nat.add_assoc];exact hc _ u hj
  ·cases hj
theorem Rb.cut {w:World} {A:Option Addr} {L:List UInt8} (h:Rb w A L) {c l k:Nat} (hl:l≤k) (hk:k≤c):Rb w (cutA A c l) ((L.take k).drop l):=by
 have:=Rd.cut h hl hk
 rwa [u8s,←List.map_take,←List.map_drop] at this
end Go.Proofs.YtbpfabhlngfciaaGreatDoor.Base
namespace Go.Proofs.YtbpfabhlngfciaaGreatDoor.Pf
open Go.ChangeShapes Go.WideShapes Go.ChangeAt Go.RowKit
open Base
theorem own_shape {B:Nat} {w:World} {v:Value} {l:List UInt8} (h:Ow B w v l):∃A c,v=.slice A l.length c:=by
 obtain⟨A,c,e,_⟩:=Rd.of_own h
 exact⟨A,c,e⟩
theorem put_any (B:Nat) (v:Value) (l:List UInt8) (n:Nat) (w:World) (ho:Ow B w v l) (hB:B≤w.heap.size) (hn:n<4611686018427387904) (hm:l.length≤140737488355000) :
  Calls Tryz.prog 86 #[v,.int .u64 (n:Int),.int .i64 (cls n)] w fun e w'=>∃v',e=.returned v'∧Ow B w' v' (l++encN n)∧Below B w w':=by
 obtain⟨A,c,rfl⟩:=own_shape ho
 obtain⟨k,hk,hc⟩:=cls_k hn
 have hlt:=cls_lt hk hc
 have he:encN n=putP n k:=by unfold encN;rw[hc];rfl
 have hlen:(l++encN n).length=l.length+2 ^ k:=by rw[List.length_append,he,putP,be_length]
 unfold Ow
 rw[hlen,he,hc]
 have h4:k=0∨k=1∨k=2∨k=3:=by omega
 rcases h4 with rfl|rfl|rfl|rfl
 ·exact (put_0 B A _ c l n w ho hB (by simpa using hlt) hm).mono fun e w' ⟨A',c',h1,h2,h3⟩=>⟨_,h1,h2,h3⟩
 ·exact (put_1 B A _ c l n w ho hB (by simpa using hlt) hm).mono fun e w' ⟨A',c',h1,h2,h3⟩=>⟨_,h1,h2,h3⟩
 ·exact (put_2 B A _ c l n w ho hB (by simpa using hlt) hm).mono fun e w' ⟨A',c',h1,h2,h3⟩=>⟨_,h1,h2,h3⟩
 ·exact (put_3 B A _ c l n w ho hB (by simpa using hlt) hm).mono fun e w' ⟨A',c',h1,h2,h3⟩=>⟨_,h1,h2,h3⟩
theorem Put_any (A:Option Addr) (m c:Nat) (l:List UInt8) (n:Nat) (w:World) (hr:Rb w A l) (hl:l.length=m) (hA:A=none→c=0) (hm:m≤140737488355000) (hn:n<18446744073709551616) :
  Calls Tryz.prog 90 #[.slice A m c,.int .u64 (n:Int)] w fun e w'=>∃v',e=.returned (.tuple #[v',.int .i64 (if n<4611686018427387904 then 0 else 1)])∧Ow w.heap.size w' v' (if n<4611686018427387904 then l++encN n else l)∧Ext w w':=by
 have hcl:=clone_any A m c l w hr hl hA (by omega)
 have hcs:=fun W=>class_any n hn W
 by_cases h:n<4611686018427387904
 ·simp only[if_pos h]
  obtain⟨k,hk,hc⟩:=cls_k h
  have hk0:¬(cls n)<0:=by rw[hc];omega
  have hput:=fun v W ho hB=>put_any w.heap.size v l n W ho hB h (by omega)
  obtain⟨K,hK⟩:∃z,Hid (cls n=z):=⟨_,rfl⟩
  rw[hK.out] at hk0
  simp only[hK.out] at hcs hput
  obtain⟨E,hE⟩:∃z,Hid (l++encN n=z):=⟨_,Lib.hid rfl⟩
  simp only[hE.out] at hput
  rw[hE.out]
  replace hput:=Lib.hid hput
  clear hc h
  go_enter Tryz.func90,Tryz.ntmps90
  go_wp2_with fail
  refine hcl.mono ?_
  rintro e w1 ⟨v1,rfl,ho1,hx1⟩
  have hcs1:=hcs w1
  have hput1:=hput.out v1 w1 ho1 hx1.size
  clear hcl hcs hput
  go_wp2_with fail
  refine hcs1.mono ?_
  rintro e w2 ⟨rfl,hw2⟩
  subst hw2
  clear hcs1
  go_wp2_with fail
  refine hput1.mono ?_
  rintro e w3 ⟨v3,rfl,ho3,hg3⟩
  clear hput1
  go_wp2_with fail
  go_ret2
  exact⟨_,rfl,ho3,Below.trans hx1 hg3⟩
 ·simp only[if_neg h]
  have hc:cls n = -1:=by unfold cls;rw[if_pos (by omega)]
  simp only[hc] at hcs
  clear h hc
  go_enter Tryz.func90,Tryz.ntmps90
  go_wp2_with fail
  refine hcl.mono ?_
  rintro e w1 ⟨v1,rfl,ho1,hx1⟩
  have hcs1:=hcs w1
  clear hcl hcs
  go_wp2_with fail
  refine hcs1.mono ?_
  rintro e w2 ⟨rfl,hw2⟩
  subst hw2
  clear hcs1
  go_wp2_with fail
  go_ret2
  exact⟨_,rfl,ho1,hx1⟩
theorem str_u8s (s:ByteArray):Lib.strCells s=u8s s.data.toList:=by simp[Lib.strCells,u8s]
theorem text_any (B:Nat) (v:Value) (l:List UInt8) (s:ByteArray) (w:World) (ho:Ow B w v l) (hB:B≤w.heap.size) (hm:l.length+s.size≤140737488350000) :
  Calls Tryz.prog 88 #[v,.string s] w fun e w'=>∃v',e=.returned v'∧Ow B w' v' (l++encT s.data.toList)∧Below B w w':=by
 have hss:s.data.toList.length=s.size:=Array.length_toList
 have hcs:=fun W=>class_any s.size (by omega) W
 have hput:=put_any B v l s.size w ho hB (by omega) (by omega)
 obtain⟨K,hK⟩:∃z,Hid (cls s.size=z):=⟨_,rfl⟩
 rw[hK.out] at hput
 simp only[hK.out] at hcs
 have henc:encT s.data.toList=encN s.size++s.data.toList:=by unfold encT;rw[hss]
 have hel:(encN s.size).length≤8:=by rcases encN_length s.size with h|h;exact h;omega
 rw[henc,←List.append_assoc]
 obtain⟨E,hE⟩:∃z,Hid (l++encN s.size=z):=⟨_,Lib.hid rfl⟩
 have hEl:E.length≤l.length+8:=by rw[←hE.out,List.length_append];omega
 rw[hE.out] at hput ⊢
 obtain⟨i,hi,hz,hs,hby⟩:=info_parts el8.info
 replace hss:=Lib.hid hss
 have hcs1:=hcs w
 clear henc hel hcs ho
 go_enter Tryz.func88,Tryz.ntmps88
 go_wp2_with fail
 refine hcs1.mono ?_
 rintro e w1 ⟨rfl,hw1⟩
 subst hw1
 clear hcs1
 go_wp2_with fail
 refine hput.mono ?_
 rintro e w2 ⟨v2,rfl,ho2,hg2⟩
 have hB2:B≤w2.heap.size:=by have:=hg2.size;omega
 obtain⟨N2,hN2⟩:∃z,Hid (E.length=z):=⟨_,rfl⟩
 have ho2':w2.ownsRow B 5 1 v2 N2 (u8s E):=by rw[←hN2.out];exact ho2
 have hN2b:N2≤l.length+8:=by rw[←hN2.out];exact hEl
 obtain⟨A2,cap2,rfl,jj1,jj2,jj3,jj4⟩:=Rd.of_own ho2'
 clear jj1 jj2 jj3 jj4 hput ho2 hEl
 go_wp2_with (
  refine Lib.wpList_append_own_string _ rfl (.tmp 13) (.tmp 14) 50 9 rfl B 5 i el8.under Tryz.underlying9 hi hz hs hby (.slice A2 N2 cap2) N2 (u8s E) rfl ho2' s rfl (by unfold maxLen;omega) (by omega) hB2 (fun V3 w3 ho3 hg3 hv3=>?_))
 go_ret
 refine⟨V3,rfl,?_,hg2.trans (grw hB2 ho2' (Ext.refl _) hg3)⟩
 rw[str_u8s,←u8s_append] at ho3
 unfold Ow
 rw[List.length_append,hss.out,hN2.out]
 exact ho3
theorem PutText_any (A:Option Addr) (m c:Nat) (l:List UInt8) (s:ByteArray) (w:World) (hr:Rb w A l) (hl:l.length=m) (hA:A=none→c=0) (hm:m+s.size≤140737488350000) :
  Calls Tryz.prog 91 #[.slice A m c,.string s] w fun e w'=>∃v',e=.returned v'∧Ow w.heap.size w' v' (l++encT s.data.toList)∧Ext w w':=by
 have hcl:=clone_any A m c l w hr hl hA (by omega)
 have htx:=fun v W ho hB=>text_any w.heap.size v l s W ho hB (by omega)
 obtain⟨E,hE⟩:∃z,Hid (l++encT s.data.toList=z):=⟨_,Lib.hid rfl⟩
 simp only[hE.out] at htx
 rw[hE.out]
 replace htx:=Lib.hid htx
 clear hl hr
 go_enter Tryz.func91,Tryz.ntmps91
 go_wp2_with fail
 refine hcl.mono ?_
 rintro e w1 ⟨v1,rfl,ho1,hx1⟩
 have ht1:=htx.out v1 w1 ho1 hx1.size
 clear hcl htx
 go_wp2_with fail
 refine ht1.mono ?_
 rintro e w2 ⟨v2,rfl,ho2,hg2⟩
 go_wp2_with fail
 go_ret
 exact⟨_,rfl,ho2,Below.trans hx1 hg2⟩
def TkV (w:World) (r:Nat×List UInt8×Nat) (e:Ending) (w':World):Prop:=∃A' c',e=.returned (.tuple #[.int .u64 (r.1:Int),.slice A' r.2.1.length c',.int .i64 (r.2.2:Int)])∧Rb w' A' r.2.1∧(A'=none→c'=0)∧r.2.1.length≤c'∧c'≤maxLen∧Ext w w'
theorem TkV.no {w w':World} (n:Nat) (h:Ext w w'):TkV w (0,[],n) (.returned (.tuple #[.int .u64 0,.slice none 0 0,.int .i64 (n:Int)])) w':=⟨none,0,rfl,Rd.nil _ _,fun _=>rfl,Nat.le_refl _,by unfold maxLen;omega,h⟩
def TtV (w:World) (r:List UInt8×List UInt8×Nat) (e:Ending) (w':World):Prop:=∃A' c',e=.returned (.tuple #[.string (Str r.1),.slice A' r.2.1.length c',.int .i64 (r.2.2:Int)])∧Rb w' A' r.2.1∧(A'=none→c'=0)∧r.2.1.length≤c'∧c'≤maxLen∧Ext w w'
theorem TtV.no {w w':World} (n:Nat) (h:Ext w w'):TtV w ([],[],n) (.returned (.tuple #[.string ⟨#[]⟩,.slice none 0 0,.int .i64 (n:Int)])) w':=⟨none,0,rfl,Rd.nil _ _,fun _=>rfl,Nat.le_refl _,by unfold maxLen;omega,h⟩
theorem own_none {B:Nat} {w:World} {n:Nat} {xs:List Value} {A:Option Addr} {c:Nat} {t:TypeId} {z:Nat} (h:w.ownsRow B t z (.slice A n c) n xs):A=none→c=0:=fun e=>by
 rcases h.2 with⟨e2,_⟩|⟨g,cap2,cur,e2,_⟩
 ·injection e2
 ·rw[e] at e2;injection e2 with e2;cases e2
end Go.Proofs.YtbpfabhlngfciaaGreatDoor.Pf
