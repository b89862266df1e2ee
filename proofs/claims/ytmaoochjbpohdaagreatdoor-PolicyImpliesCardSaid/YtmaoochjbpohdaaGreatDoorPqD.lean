/- parse: what is read is written as its tokens are: plain. -/
import Derived.Test.YtmaoochjbpohdaaGreatDoorPqC
import Derived.Deep.Upon
set_option linter.unusedVariables false
set_option linter.unusedSimpArgs false
set_option maxRecDepth 100000
set_option maxHeartbeats 1000000
namespace Go.Proofs.YtmaoochjbpohdaaGreatDoor
namespace Pr
open Lx
def sr (s:PS):List UInt8:=ser (s.l.map tk)
abbrev WS (s:PS):Prop:=WTs (s.l.map tk)
theorem gap_hi {x y:TkL} (h:2≤x.1):gapT x y=[]:=by
 unfold gapT gapB
 rw[decide_eq_false (show ¬x.1=0 by omega),decide_eq_false (show ¬x.1=1 by omega)]
 rfl
theorem gap_hi2 {x y:TkL} (h:2≤y.1):gapT x y=[]:=by
 unfold gapT gapB
 rw[decide_eq_false (show ¬y.1=0 by omega),decide_eq_false (show ¬y.1=1 by omega)]
 simp
theorem gap_word {x y:TkL} (h:x.1=0) (h2:0≤y.1) (h3:y.1<2):gapT x y=[32]:=by
 unfold gapT gapB
 have:y.1=0∨y.1=1:=by omega
 rcases this with e|e<;>rw[h,e]<;>rfl
theorem WTk.rng {x:TkL} (h:WTk x):0≤x.1∧x.1<3:=by
 rcases h with⟨k,_⟩|⟨k,_⟩|⟨k,_⟩<;>rw[k]<;>decide
theorem wts_cons {x:TkL} {L:List TkL} (h:WTs (x::L)):(x=(3,[])∧L=[])∨(WTk x∧WTs L):=by
 cases h with
 | last=>exact .inl ⟨rfl,rfl⟩
 | cons hx hl=>exact .inr ⟨hx,hl⟩
theorem WS.step {s:PS} (h:WS s) (hk:(hd s.l).k<3):WTk (tk (hd s.l))∧WS s.on∧∃g,sr s=bs (hd s.l).s++(g++sr s.on)∧(2≤(hd s.l).k→g=[])∧(2≤(hd s.on.l).k→g=[])∧((hd s.l).k=0→0≤(hd s.on.l).k→(hd s.on.l).k<2→g=[32]):=by
 obtain⟨l,ns,nm⟩:=s
 cases l with
 | nil=>cases h
 | cons t r=>
  change WTs (tk t::r.map tk) at h
  rcases wts_cons h with⟨e,_⟩|⟨hx,hl⟩
  ·have:t.k=3:=congrArg Prod.fst e
   have hk':t.k<3:=hk
   omega
  ·cases r with
   | nil=>cases hl
   | cons y m=>
    exact⟨hx,hl,gapT (tk t) (tk y),rfl,fun h=>gap_hi h,fun h=>gap_hi2 h,fun h1 h2 h3=>gap_word h1 h2 h3⟩
theorem WS.rng {s:PS} (h:WS s):0≤(hd s.l).k∧(hd s.l).k≤3:=by
 obtain⟨l,ns,nm⟩:=s
 cases l with
 | nil=>cases h
 | cons t r=>
  change WTs (tk t::r.map tk) at h
  show 0≤t.k∧t.k≤3
  have:∀x L,WTs (x::L)→0≤x.1∧x.1≤3:=by
   intro x L hh
   cases hh with
   | last=>exact⟨by decide,by decide⟩
   | cons hx _=>have:=hx.rng;omega
  exact this _ _ h
theorem isT_s {s:PS} {x:ByteArray} (h:isT s x=true):(hd s.l).k≠3∧(hd s.l).s=x:=by simpa [isT] using h
theorem sign_step {s:PS} {c:UInt8} (hc:kindOf c=2) (h:WS s) (ht:isT s ⟨#[c]⟩=true):(hd s.l).k=2∧sr s=c::sr s.on∧WS s.on:=by
 obtain⟨h3,hs⟩:=isT_s ht
 have hr:=h.rng
 obtain⟨hw,hon,g,e,g1,_,_⟩:=h.step (by omega)
 have hsb:bs (hd s.l).s=[c]:=by rw[hs];rfl
 have k2:(hd s.l).k=2:=by
  rcases hw with⟨k,c',r,e1,e2,_⟩|⟨k,c',r,e1,e2,_⟩|⟨k,_⟩
  ·rw[show (tk (hd s.l)).2=bs (hd s.l).s from rfl,hsb] at e1
   injection e1 with e1 _;subst e1
   have:=((byte_sorts c).1 e2).1
   rw[hc] at this;cases this
  ·rw[show (tk (hd s.l)).2=bs (hd s.l).s from rfl,hsb] at e1
   injection e1 with e1 _;subst e1
   have:=((byte_sorts c).2.1 e2).1
   rw[hc] at this;cases this
  ·exact k
 refine⟨k2,?_,hon⟩
 rw[e,g1 (by omega),hsb];rfl
theorem must_step {s s':PS} {c:UInt8} {u:Unit} (hc:kindOf c=2) (h:WS s) (ht:mustR s ⟨#[c]⟩=.ok u s'):(hd s.l).k=2∧sr s=c::sr s'∧WS s'∧s'=s.on:=by
 obtain⟨h1,rfl⟩:=mustR_ok ht
 obtain⟨a,b,c⟩:=sign_step hc h h1
 exact⟨a,b,c,rfl⟩
theorem name_step {s s':PS} {th:ByteArray→Bool} {x:ByteArray} (h:WS s) (hn:nameR s th=.ok x s'):WS s'∧(hd s.l).k=0∧s'=s.on∧∃g,sr s=bs x++(g++sr s')∧(2≤(hd s'.l).k→g=[])∧(0≤(hd s'.l).k→(hd s'.l).k<2→g=[32]):=by
 obtain⟨k0,_,_,_,rfl,rfl⟩:=nameR_ok hn
 obtain⟨_,hon,g,e,_,g2,g3⟩:=h.step (by omega)
 exact⟨hon,k0,rfl,g,e,g2,g3 k0⟩
def Nam (N:List Ne) (s:PS):Prop:=∀y i,s.nm y=some i→i<s.ns.length∧∃d,N[i]?=some d∧d.name=y∧9≤d.k
theorem Nam.same {N:List Ne} {s s':PS} (h:Nam N s) (e:s'.nm=s.nm) (hl:s.ns.length≤s'.ns.length):Nam N s':=fun y i hy=>by
 rw[e] at hy
 obtain⟨h1,h2⟩:=h y i hy
 exact⟨by omega,h2⟩
def FnW (N:List Ne) (s s':PS):Prop:=∀i,s.ns.length≤i→i<s'.ns.length→N[i]?=(s'.ns[i]?).map Nd.toE
theorem FnW.cut {N:List Ne} {s s1 s':PS} {n:Nat} (h:FnW N s s') (hp:PreB n s1 s') (hl:s1.ns.length≤s'.ns.length) (hn:n<s.ns.length):FnW N s s1:=fun i h1 h2=>by
 rw[h i h1 (by omega),hp i h2 (by omega)]
theorem FnW.late {N:List Ne} {s s1 s':PS} (h:FnW N s s') (hl:s.ns.length≤s1.ns.length):FnW N s1 s':=fun i h1 h2=>h i (by omega) h2
def TR (N:List Ne) (T:Bool→List Nat→PS→Res Nat) (W:WT):Prop:=∀u a s n s' S,T u a s=.ok n s'→WS s→AllN ShN s→Nam N s→FnW N s s'→S.length+(sr s).length≤4096→
 ∃out,W (n:Int) ⟨S,s.ns.length,false⟩=⟨S++out,s'.ns.length,false⟩∧(2≤(hd s'.l).k→sr s=out++sr s')∧WS s'∧Nam N s'
theorem setN_get (s:PS) (n:Nat) (f:Nd→Nd) (d:Nd) (h:s.ns[n]?=some d):(s.setN n f).ns[n]?=some (f d):=by
 show (s.ns.modify n f)[n]?=_
 rw[List.getElem?_modify,h];simp
section
variable {N:List Ne} {T:Bool→List Nat→PS→Res Nat} {W:WT}
theorem itemR_sh (hT:TR N T W) (hS:TS T) (hG:TG T) {s s':PS} {n:Nat} {c:UInt8} {u:Unit} {S:List UInt8} (h:itemR T s n ⟨#[c]⟩=.ok u s') (hc:kindOf c=2) (hw:WS s) (ha:AllN ShN s) (hm:Nam N s) (hn:n<s.ns.length) (hF:FnW N s s') (hb:S.length+(sr s).length≤4096) :
  ∃(x:Nat) (out:List UInt8),(∀d,s.ns[n]?=some d→s'.ns[n]?=some { d with items:=[x] })∧W (x:Int) ⟨S,s.ns.length,false⟩=⟨S++out,s'.ns.length,false⟩∧sr s=out++c::sr s'∧WS s'∧Nam N s':=by
 obtain⟨x,s1,h1,h2⟩:=Res.bind_ok h
 have hlen:=hG _ _ _ _ _ h1
 obtain⟨_,hpre⟩:=hS _ _ _ _ _ h1 ha
 have hs':s'=(s1.setN n fun d=>{ d with items:=[x] }).on:=(mustR_ok h2).2
 have hl':s'.ns.length=s1.ns.length:=by rw[hs'];exact setN_len s1 n _
 have hF1:FnW N s s1:=hF.cut (n:=n) (fun i _ hi=>by rw[hs'];exact setN_at s1 n _ i hi) (by omega) hn
 obtain⟨out,hW,hsr,hw1,hm1⟩:=hT _ _ _ _ _ S h1 hw ha hm hF1 hb
 obtain⟨k2,e2,hw2,_⟩:=must_step hc (s:=s1.setN n fun d=>{ d with items:=[x] }) hw1 h2
 refine⟨x,out,fun d hd=>?_,by rw[hl'];exact hW,?_,hw2,?_⟩
 ·rw[hs']
  exact setN_get s1 n _ d (by rw[hpre n hn];exact hd)
 ·have k2':(hd s1.l).k=2:=k2
  have e2':sr s1=c::sr s':=e2
  rw[hsr (by omega),e2']
 ·exact hm1.same (by rw[hs'];rfl) (by omega)
theorem unionR_sh (hT:TR N T W) (hS:TS T) (hG:TG T) (n:Nat):∀(m:Nat) (l:List Nat) {s s':PS} {u:Unit} {S:List UInt8},unionR T n m l s=.ok u s'→WS s→AllN ShN s→KAt s n 8→Nam N s→n<s.ns.length→FnW N s s'→S.length+(sr s).length≤4096→
  ∃(x:Nat) (more:List Nat) (out:List UInt8),(∀d,s.ns[n]?=some d→s'.ns[n]?=some { d with items:=l++x::more })∧wlist W false (more.map fun (n:Nat)=>(n:Int)) (W (x:Int) ⟨S,s.ns.length,false⟩)=⟨S++out,s'.ns.length,false⟩∧sr s=out++41::sr s'∧WS s'∧Nam N s'
 | 0,l,s,s',u,S,h,_,_,_,_,_,_,_=>by cases h
 | m+1,l,s,s',u,S,h,hw,ha,hk,hm,hn,hF,hb=>by
  rw[unionR] at h
  obtain⟨x,s1,h1,h2⟩:=Res.bind_ok h
  have hlen:=hG _ _ _ _ _ h1
  obtain⟨ha1,hpre⟩:=hS _ _ _ _ _ h1 ha
  have hk1:=hk.pre hpre
  split at h2
  ·next ht=>
   injection h2 with _ h2
   have hl':s'.ns.length=s1.ns.length:=by rw[←h2];exact setN_len s1.on n _
   have hF1:FnW N s s1:=hF.cut (n:=n) (fun i _ hi=>by rw[←h2];exact setN_at s1.on n _ i hi) (by omega) hn
   obtain⟨out,hW,hsr,hw1,hm1⟩:=hT _ _ _ _ _ S h1 hw ha hm hF1 hb
   obtain⟨k2,e2,hw2⟩:=sign_step (c:=41) (by decide +kernel) hw1 ht
   refine⟨x,[],out,fun d hd=>?_,by rw[hl'];exact hW,?_,by rw[←h2];exact hw2,hm1.same (by rw[←h2];rfl) (by omega)⟩
   ·rw[←h2]
    exact setN_get s1.on n _ d (by show s1.ns[n]?=_;rw[hpre n hn];exact hd)
   ·rw[hsr (by omega),e2,←h2];rfl
  ·obtain⟨v,s2,h5,h6⟩:=Res.bind_ok h2
   obtain⟨_,hs2⟩:=mustR_ok h5
   subst hs2
   have hq:=unionR_len hG n m _ h6
   have hp2:=(unionR_shp hS n m _ h6 (ha1.same rfl) hk1).2
   have hF1:FnW N s s1:=hF.cut (n:=n) (s1:=s1) (fun i hi hne=>hp2 i hi hne) hq.1 hn
   obtain⟨out,hW,hsr,hw1,hm1⟩:=hT _ _ _ _ _ S h1 hw ha hm hF1 hb
   obtain⟨k2,e2,hw2,_⟩:=must_step (c:=124) (by decide +kernel) hw1 h5
   have esr:=hsr (by omega)
   have hb2:(S++out++[124]).length+(sr s1.on).length≤4096:=by
    rw[esr,e2] at hb
    simp only[List.length_append,List.length_cons,List.length_nil] at hb ⊢
    omega
   obtain⟨x2,more,out2,q1,q2,q3,q4,q5⟩:=unionR_sh hT hS hG n m (l++[x]) (S:=S++out++[124]) h6 hw2 (ha1.same rfl) hk1 (hm1.same rfl (Nat.le_refl _)) (Nat.lt_of_lt_of_le hn hlen.1) (hF.late (s1:=s1.on) hlen.1) hb2
   refine⟨x,x2::more,out++124::out2,fun d hd=>?_,?_,?_,q4,q5⟩
   ·have:=q1 d (by show s1.ns[n]?=_;rw[hpre n hn];exact hd)
    rw[this];simp
   ·rw[hW,List.map_cons,wlist]
    simp only[Bool.false_eq_true,if_false]
    rw[show (WSt.put ⟨S++out,s1.ns.length,false⟩ [124])=⟨S++out++[124],s1.on.ns.length,false⟩ from rfl,q2]
    simp
   ·rw[esr,e2,q3];simp
theorem inter_cons (a b:List UInt8) (l:List (List UInt8)):([44]:List UInt8).intercalate (a::b::l)=a++44::([44]:List UInt8).intercalate (b::l):=by
 simp[List.intercalate,List.intersperse]
theorem symsR_sh (n:Nat):∀(m:Nat) (l:List ByteArray) {s s':PS} {u:Unit},symsR n m l s=.ok u s'→WS s→
  ∃(x:ByteArray) (more:List ByteArray),(∀d,s.ns[n]?=some d→s'.ns[n]?=some { d with syms:=l++x::more })∧sr s=([44]:List UInt8).intercalate ((x::more).map bs)++62::sr s'∧WS s'∧s'.nm=s.nm∧s'.ns.length=s.ns.length
 | 0,l,s,s',u,h,_=>by cases h
 | m+1,l,s,s',u,h,hw=>by
  rw[symsR] at h
  obtain⟨x,s1,h1,h2⟩:=Res.bind_ok h
  obtain⟨hw1,k0,hs1,g,e1,g1,g2⟩:=name_step hw h1
  split at h2
  ·next ht=>
   injection h2 with _ h2
   obtain⟨k2,e2,hw2⟩:=sign_step (c:=62) (by decide +kernel) hw1 ht
   refine⟨x,[],fun d hd=>?_,?_,by rw[←h2];exact hw2,by rw[←h2,hs1];rfl,by rw[←h2,hs1];exact setN_len s.on.on n _⟩
   ·rw[←h2]
    exact setN_get s1.on n _ d (by rw[hs1];exact hd)
   ·rw[e1,g1 (by omega),e2,←h2]
    simp[List.intercalate]
    rfl
  ·obtain⟨v,s2,h5,h6⟩:=Res.bind_ok h2
   obtain⟨k2,e2,hw2,hs2⟩:=must_step (c:=44) (by decide +kernel) hw1 h5
   obtain⟨x2,more,q1,q2,q3,q4,q5⟩:=symsR_sh n m (l++[x]) h6 hw2
   refine⟨x,x2::more,fun d hd=>?_,?_,q3,by rw[q4,hs2,hs1];rfl,by rw[q5,hs2,hs1];rfl⟩
   ·have:=q1 d (by rw[hs2,hs1];exact hd)
    rw[this];simp
   ·rw[e1,g1 (by omega),e2,q2,List.map_cons,List.map_cons,List.map_cons,inter_cons,List.nil_append,List.append_assoc]
    rfl
def fE (f:ByteArray×Bool×Nat):ByteArray×Bool×Int:=(f.1,f.2.1,(f.2.2:Int))
theorem fieldsR_at (hS:TS T) (hG:TG T) (n:Nat):∀(m:Nat) (l:List (ByteArray×Bool×Nat)) {s s':PS} {u:Unit},fieldsR T n m l s=.ok u s'→AllN ShN s→n<s.ns.length→∀d,s.ns[n]?=some d→∃l',s'.ns[n]?=some { d with fields:=l' }
 | 0,l,s,s',u,h,_,_,_,_=>by cases h
 | m+1,l,s,s',u,h,ha,hn,d,hd=>by
  rw[fieldsR] at h
  split at h
  ·injection h with _ h
   rw[←h]
   exact⟨l,setN_get s.on n _ d hd⟩
  ·obtain⟨x,s1,h1,h2⟩:=Res.bind_ok h
   obtain⟨_,_,_,_,_,rfl⟩:=nameR_ok h1
   obtain⟨v,s2,h3,h4⟩:=Res.bind_ok h2
   obtain⟨h5,rfl⟩:=mustR_ok h3
   obtain⟨t,s3,h6,h7⟩:=Res.bind_ok h4
   obtain⟨v2,s4,h10,h11⟩:=Res.bind_ok h7
   obtain⟨h12,rfl⟩:=mustR_ok h10
   have e2:(goesR s.on cQ).2.on.ns=s.ns:=by show (goesR s.on cQ).2.ns=_;rw[goes_ns];rfl
   obtain⟨p1,p2⟩:=hS _ _ _ _ _ h6 (ha.same e2)
   have hl:=(hG _ _ _ _ _ h6).1
   rw[e2] at hl
   exact fieldsR_at hS hG n m _ h11 (p1.same rfl) (Nat.lt_of_lt_of_le hn hl) d (by show s3.ns[n]?=_;rw[p2 n (by rw[e2];exact hn),e2];exact hd)
theorem fieldsR_sh (hT:TR N T W) (hS:TS T) (hG:TG T) (n:Nat):∀(m:Nat) (l:List (ByteArray×Bool×Nat)) {s s':PS} {u:Unit} {S:List UInt8},fieldsR T n m l s=.ok u s'→WS s→AllN ShN s→KAt s n 11→Nam N s→n<s.ns.length→FnW N s s'→S.length+(sr s).length≤4096→
  ∃(more:List (ByteArray×Bool×Nat)) (out:List UInt8),(∀d,s.ns[n]?=some d→s'.ns[n]?=some { d with fields:=l++more })∧wflds W (more.map fE) ⟨S,s.ns.length,false⟩=⟨S++out,s'.ns.length,false⟩∧sr s=out++125::sr s'∧WS s'∧Nam N s'
 | 0,l,s,s',u,S,h,_,_,_,_,_,_,_=>by cases h
 | m+1,l,s,s',u,S,h,hw,ha,hk,hm,hn,hF,hb=>by
  rw[fieldsR] at h
  split at h
  ·next ht=>
   injection h with _ h
   obtain⟨k2,e2,hw2⟩:=sign_step (c:=125) (by decide +kernel) hw ht
   have hl':s'.ns.length=s.ns.length:=by rw[←h];exact setN_len s.on n _
   refine⟨[],[],fun d hd=>?_,by rw[hl'];simp[wflds],?_,by rw[←h];exact hw2,hm.same (by rw[←h];rfl) (by omega)⟩
   ·rw[←h]
    have:=setN_get s.on n (fun d=>{ d with fields:=l }) d hd
    rw[this];simp
   ·rw[e2,←h];rfl
  ·obtain⟨x,s1,h1,h2⟩:=Res.bind_ok h
   obtain⟨hw1,k0,hs1,g,e1,g1,g2⟩:=name_step hw h1
   subst hs1
   obtain⟨v,s2,h3,h4⟩:=Res.bind_ok h2
   have hq:∃o:List UInt8,sr s.on=o++58::sr s2∧o=(if (goesR s.on cQ).1 then [63] else [])∧(hd s.on.l).k=2∧WS s2∧s2.ns=s.ns∧s2.nm=s.nm:=by
    unfold goesR at h3 ⊢
    by_cases hqm:isT s.on cQ=true
    ·rw[if_pos hqm] at h3 ⊢
     obtain⟨a1,a2,a3⟩:=sign_step (c:=63) (by decide +kernel) hw1 hqm
     obtain⟨b1,b2,b3,b4⟩:=must_step (c:=58) (by decide +kernel) a3 h3
     exact⟨[63],by rw[a2,b2];rfl,rfl,a1,b3,by rw[b4];rfl,by rw[b4];rfl⟩
    ·rw[if_neg hqm] at h3 ⊢
     obtain⟨b1,b2,b3,b4⟩:=must_step (c:=58) (by decide +kernel) hw1 h3
     exact⟨[],by rw[b2];rfl,by simp,b1,b3,by rw[b4];rfl,by rw[b4];rfl⟩
   obtain⟨o,q1,q2,q3,hw2,q5,q6⟩:=hq
   have e1:sr s=bs x++(o++58::sr s2):=by rw[e1,g1 (by omega),q1];rfl
   clear h3
   obtain⟨t,s3,h6,h7⟩:=Res.bind_ok h4
   obtain⟨v2,s4,h10,h11⟩:=Res.bind_ok h7
   obtain⟨_,hs4⟩:=mustR_ok h10
   subst hs4
   obtain⟨p1,p2⟩:=hS _ _ _ _ _ h6 (ha.same q5)
   have hlen:=(hG _ _ _ _ _ h6).1
   rw[q5] at hlen
   have hk3:KAt s3 n 11:=(hk.pre (Pre.same (s':=s2) q5)).pre p2
   have hq:=fieldsR_len hG n m _ h11
   have hp2:=(fieldsR_shp hS n m _ h11 (p1.same rfl) hk3).2
   have hF2:FnW N s2 s':=fun i a b=>hF i (by rw[←q5];exact a) b
   have hF1:FnW N s2 s3:=hF2.cut (n:=n) (s1:=s3) (fun i hi hne=>hp2 i hi hne) hq.1 (by rw[q5];exact hn)
   have hb2:(S++bs x++o++[58]).length+(sr s2).length≤4096:=by
    rw[e1] at hb
    simp only[List.length_append,List.length_cons,List.length_nil] at hb ⊢
    omega
   obtain⟨out,hW,hsr,hw3,hm3⟩:=hT _ _ _ _ _ (S++bs x++o++[58]) h6 hw2 (ha.same q5) (hm.same q6 (by rw[q5];exact Nat.le_refl _)) hF1 hb2
   obtain⟨k2,e2,hw4,_⟩:=must_step (c:=59) (by decide +kernel) hw3 h10
   have esr:=hsr (by omega)
   have hb3:(S++bs x++o++[58]++out++[59]).length+(sr s3.on).length≤4096:=by
    rw[e1,esr,e2] at hb
    simp only[List.length_append,List.length_cons,List.length_nil] at hb ⊢
    omega
   obtain⟨more,out2,r1,r2,r3,r4,r5⟩:=fieldsR_sh hT hS hG n m _ (S:=S++bs x++o++[58]++out++[59]) h11 hw4 (p1.same rfl) hk3 (hm3.same rfl (Nat.le_refl _)) (Nat.lt_of_lt_of_le hn hlen) (hF.late (s1:=s3.on) hlen) hb3
   refine⟨(x,(goesR s.on cQ).1,t)::more,bs x++o++58::out++59::out2,fun d hd=>?_,?_,?_,r4,r5⟩
   ·have:=r1 d (by show s3.ns[n]?=_;rw[p2 n (by rw[q5];exact hn),q5];exact hd)
    rw[this];simp
   ·rw[List.map_cons,wflds,wfield]
    have hst:((if (fE (x,(goesR s.on cQ).1,t)).2.1 then (WSt.put ⟨S,s.ns.length,false⟩ (bs (fE (x,(goesR s.on cQ).1,t)).1)).put [63] else WSt.put ⟨S,s.ns.length,false⟩ (bs (fE (x,(goesR s.on cQ).1,t)).1)).put [58])=⟨S++bs x++o++[58],s2.ns.length,false⟩:=by
     rw[q2,q5]
     unfold fE WSt.put
     simp only
     by_cases hg:(goesR s.on cQ).1=true
     ·simp[hg]
     ·simp[hg]
    rw[hst,show (fE (x,(goesR s.on cQ).1,t)).2.2=(t:Int) from rfl,hW]
    rw[show (WSt.put ⟨S++bs x++o++[58]++out,s3.ns.length,false⟩ [59])=⟨S++bs x++o++[58]++out++[59],s3.on.ns.length,false⟩ from rfl,r2]
    simp
   ·rw[e1,esr,e2,r3];simp
theorem definedR_sh (hT:TR N T W) (hS:TS T) (hG:TG T) {s s':PS} {n:Nat} {k:Int} {u:Unit} {S:List UInt8} (hk:k=9∨k=10∨k=11) (h:definedR T s n k=.ok u s') (hw:WS s) (ha:AllN ShN s) (hd0:s.ns[n]?=some (Nd.ofKind k)) (hm:Nam N s) (hn:n<s.ns.length) (hF:FnW N s s') (hNn:N[n]?=(s'.ns[n]?).map Nd.toE) (hb:S.length+(if k=10 then 6 else if k=9 then 5 else 7)+(sr s).length≤4096) :
  ∃(d:Nd) (out:List UInt8),s'.ns[n]?=some d∧d.k=k∧(hd s.l).k=0∧wbody W d.toE ⟨S,s.ns.length,false⟩=⟨S++((if k=10 then sFix else if k=9 then sEn else sRec)++out),s'.ns.length,false⟩∧(2≤(hd s'.l).k→sr s=out++sr s')∧WS s'∧Nam N s':=by
 unfold definedR at h
 obtain⟨x,s1,h1,h2⟩:=Res.bind_ok h
 obtain⟨hw1,k0,hs1,g,e1,g1,g2⟩:=name_step hw h1
 subst hs1
 simp only at h2
 have hd2:(s.on.called n x).ns[n]?=some { Nd.ofKind k with name:=x }:=setN_get s.on n _ _ hd0
 have hl2:(s.on.called n x).ns.length=s.ns.length:=setN_len s.on n _
 have hl2':(s.on.called n x).l=s.on.l:=rfl
 have hnm2:(s.on.called n x).nm=fun y=>if y=x then some n else s.nm y:=rfl
 have ha2:AllN ShN (s.on.called n x):=((ha.same (s':=s.on) rfl).setN n (f:=fun d=>{ d with name:=x }) fun d hd=>hd).same rfl
 have hnam:(∃d,s'.ns[n]?=some d∧d.name=x∧d.k=k)→Nam N (s.on.called n x):=by
  rintro⟨d,f1,f2,f3⟩ y i hy
  rw[hnm2] at hy
  simp only at hy
  split at hy
  ·next hyx=>
   injection hy with hy
   subst hy
   rw[hl2]
   refine⟨hn,d.toE,by rw[hNn,f1];rfl,by rw[hyx];exact f2,?_⟩
   show 9≤d.k
   omega
  ·obtain⟨a,b⟩:=hm y i hy
   rw[hl2]
   exact⟨a,b⟩
 generalize hs2:s.on.called n x=s2 at h2 hd2 hl2 hl2' hnm2 ha2 hnam
 have hw2:WS s2:=by show WTs (s2.l.map tk);rw[hl2'];exact hw1
 have esr2:sr s2=sr s.on:=by unfold sr;rw[hl2']
 have hF2:FnW N s2 s':=hF.late (by omega)
 split at h2
 ·next k9=>
  subst k9
  obtain⟨v,s3,h5,h6⟩:=Res.bind_ok h2
  obtain⟨a1,a2,a3,a4⟩:=must_step (c:=60) (by decide +kernel) hw2 h5
  obtain⟨y,more,q1,q2,q3,q4,q5⟩:=symsR_sh n _ _ h6 a3
  have hfin:=q1 _ (by rw[a4];exact hd2)
  have hl':s'.ns.length=s.ns.length:=by rw[q5,a4];exact hl2
  refine⟨_,bs x++(60::([44]:List UInt8).intercalate ((y::more).map bs)++[62]),hfin,rfl,k0,?_,fun _=>?_,q3,(hnam ⟨_,hfin,rfl,rfl⟩).same (by rw[q4,a4];rfl) (by omega)⟩
  ·rw[hl']
   show wbody W ⟨9,x,0,[]++y::more,[],[]⟩ _=_
   rw[wbody]
   simp[WSt.put]
  ·rw[e1,g1 (by rw[←hl2',a1];decide),←esr2,a2,q2]
   simp
 ·split at h2
  ·next k10=>
   subst k10
   split at h2
   ·cases h2
   ·next hc=>
    injection h2 with _ h2
    simp only[not_or,ne_eq,Decidable.not_not] at hc
    obtain⟨c1,c2⟩:=hc
    obtain⟨_,hw3,g',e3,_,g3,_⟩:=hw2.step (by omega)
    have hfin:s'.ns[n]?=some { Nd.ofKind 10 with name:=x,size:=(((numO (hd s2.l).s.data.toList).getD 0:Nat):Int) }:=by
     rw[←h2];exact setN_get s2.on n _ _ hd2
    have hl':s'.ns.length=s.ns.length:=by rw[←h2];exact (setN_len s2.on n _).trans hl2
    obtain⟨w,hwn⟩:=Option.ne_none_iff_exists'.1 c2
    have hit:Lib.itoa (((numO (hd s2.l).s.data.toList).getD 0:Nat):Int)=bs (hd s2.l).s:=by rw[hwn];exact num_dec hwn
    refine⟨_,bs x++(32::bs (hd s2.l).s),hfin,rfl,k0,?_,fun h2k=>?_,by rw[←h2];exact hw3,(hnam ⟨_,hfin,rfl,rfl⟩).same (by rw[←h2];rfl) (by omega)⟩
    ·rw[hl']
     show wbody W ⟨10,x,_,[],[],[]⟩ _=_
     rw[wbody]
     simp only[show ¬(10:Int)=6 by decide,show ¬(10:Int)=7 by decide,show ¬(10:Int)=8 by decide,show ¬(10:Int)=9 by decide,if_false,if_true]
     rw[hit]
     simp[WSt.put]
    ·have hg:g=[32]:=g2 (by rw[←hl2',c1];decide) (by rw[←hl2',c1];decide)
     have hg':g'=[]:=g3 (by rw[←h2] at h2k;exact h2k)
     have e5:sr s'=sr s2.on:=by rw[←h2];rfl
     rw[e1,hg,←esr2,e3,hg',e5]
     simp
  ·next k9 k10=>
   obtain⟨v,s3,h5,h6⟩:=Res.bind_ok h2
   have hk11:k=11:=by omega
   subst hk11
   obtain⟨a1,a2,a3,a4⟩:=must_step (c:=123) (by decide +kernel) hw2 h5
   have hd3:s3.ns[n]?=some { Nd.ofKind 11 with name:=x }:=by rw[a4];exact hd2
   have hl3:s3.ns.length=s.ns.length:=by rw[a4];exact hl2
   have ha3:AllN ShN s3:=ha2.same (by rw[a4];rfl)
   obtain⟨l',hat⟩:=fieldsR_at hS hG n _ _ h6 ha3 (by omega) _ hd3
   have hm3:Nam N s3:=(hnam ⟨_,hat,rfl,rfl⟩).same (by rw[a4];rfl) (by omega)
   have esr:sr s=bs x++(123::sr s3):=by rw[e1,g1 (by rw[←hl2',a1];decide),←esr2,a2];rfl
   have hb3:(S++(sRec++bs x++[123])).length+(sr s3).length≤4096:=by
    rw[esr] at hb
    simp only[List.length_append,List.length_cons,List.length_nil,show ¬(11:Int)=10 by decide,show ¬(11:Int)=9 by decide,if_false,show sRec.length=7 from rfl] at hb ⊢
    omega
   obtain⟨more,out,r1,r2,r3,r4,r5⟩:=fieldsR_sh hT hS hG n _ _ (S:=S++(sRec++bs x++[123])) h6 a3 ha3 ⟨_,hd3,rfl⟩ hm3 (by omega) (hF.late (by omega)) hb3
   have hfin:=r1 _ hd3
   refine⟨_,bs x++(123::out++[125]),hfin,rfl,k0,?_,fun _=>?_,r4,r5⟩
   ·show wbody W ⟨11,x,0,[],[],([]++more).map fE⟩ _=_
    rw[wbody]
    simp only[show ¬(11:Int)=6 by decide,show ¬(11:Int)=7 by decide,show ¬(11:Int)=8 by decide,show ¬(11:Int)=9 by decide,show ¬(11:Int)=10 by decide,if_false,if_true,List.nil_append]
    rw[wrecord]
    simp only
    rw[show (WSt.put ⟨S,s.ns.length,false⟩ (sRec++bs x++[123]))=⟨S++(sRec++bs x++[123]),s3.ns.length,false⟩ by rw[hl3];rfl,r2]
    simp[WSt.put]
   ·rw[esr,r3];simp
end
/-! ### What goes wrong has a number -/
def NZ {α:Type} (r:Res α):Prop:=∀a w,r=.bad a w→w≠0
theorem NZ.ok {α:Type} (a:α) (s:PS):NZ (.ok a s):=fun _ _ h=>by cases h
theorem NZ.fail {α:Type} (s:PS) (w:Nat) (h:w≠0):NZ (failR s w:Res α):=fun a v e=>by injection e with _ e;omega
theorem NZ.bind {α β:Type} {r:Res α} {f:α→PS→Res β} (h:NZ r) (hf:∀a s,NZ (f a s)):NZ (r.bind f):=by
 cases r with
 | ok a s=>exact hf a s
 | bad a w=>exact fun a' w' e=>by injection e with e1 e2;rw[←e2];exact h a w rfl
theorem NZ.must (s:PS) (x:ByteArray):NZ (mustR s x):=by
 unfold mustR
 split
 ·exact .ok _ _
 ·exact .fail _ _ (by decide)
theorem NZ.name (s:PS) (th:ByteArray→Bool):NZ (nameR s th):=by
 unfold nameR
 split
 ·exact .fail _ _ (by decide)
 ·split
  ·exact .fail _ _ (by decide)
  ·exact .ok _ _
def TZ (T:Bool→List Nat→PS→Res Nat):Prop:=∀u a s,NZ (T u a s)
theorem NZ.union {T:Bool→List Nat→PS→Res Nat} (hT:TZ T) (n:Nat):∀(m:Nat) (l:List Nat) (s:PS),NZ (unionR T n m l s)
 | 0,l,s=>.fail _ _ (by decide)
 | m+1,l,s=>by
  rw[unionR]
  refine (hT _ _ _).bind fun x s1=>?_
  split
  ·exact .ok _ _
  ·exact (NZ.must _ _).bind fun _ s2=>NZ.union hT n m _ s2
theorem NZ.syms (n:Nat):∀(m:Nat) (l:List ByteArray) (s:PS),NZ (symsR n m l s)
 | 0,l,s=>.fail _ _ (by decide)
 | m+1,l,s=>by
  rw[symsR]
  refine (NZ.name _ _).bind fun x s1=>?_
  split
  ·exact .ok _ _
  ·exact (NZ.must _ _).bind fun _ s2=>NZ.syms n m _ s2
theorem NZ.fields {T:Bool→List Nat→PS→Res Nat} (hT:TZ T) (n:Nat):∀(m:Nat) (l:List (ByteArray×Bool×Nat)) (s:PS),NZ (fieldsR T n m l s)
 | 0,l,s=>.fail _ _ (by decide)
 | m+1,l,s=>by
  rw[fieldsR]
  split
  ·exact .ok _ _
  ·exact (NZ.name _ _).bind fun x s1=>(NZ.must _ _).bind fun _ s2=>(hT _ _ _).bind fun t s3=>(NZ.must _ _).bind fun _ s4=>NZ.fields hT n m _ s4
theorem gate_nz {fuel:Nat} {u:Bool} {a:List Nat} {s:PS} {k:Int} {n:Option Nat} {w:Nat} (h:gateR fuel u a s k n=some w):w≠0:=by
 unfold gateR at h
 split at h
 ·injection h with h;omega
 ·split at h
  ·injection h with h;omega
  ·split at h
   ·injection h with h;omega
   ·split at h
    ·injection h with h;omega
    ·split at h
     ·injection h with h;omega
     ·cases h
theorem typedR_nz:∀(fuel:Nat),TZ (typedR fuel)
 | fuel,u,a,s=>by
  rw[typedR.eq_def]
  simp only
  split
  ·exact .fail _ _ (by decide)
  ·split
   ·next w hw=>exact .fail _ _ (gate_nz hw)
   ·split
    ·exact .ok _ _
    ·cases fuel with
     | zero=>exact .fail _ _ (by decide)
     | succ fuel=>
      have ih:=typedR_nz fuel
      simp only
      split
      ·exact NZ.bind ((ih _ _ _).bind fun _ _=>NZ.must _ _) fun _ _=>.ok _ _
      ·split
       ·exact NZ.bind ((ih _ _ _).bind fun _ _=>NZ.must _ _) fun _ _=>.ok _ _
       ·split
        ·exact (NZ.union ih _ _ _ _).bind fun _ _=>.ok _ _
        ·split
         ·refine NZ.bind ?_ fun _ _=>.ok _ _
          unfold definedR
          refine (NZ.name _ _).bind fun x s1=>?_
          simp only
          split
          ·exact (NZ.must _ _).bind fun _ s3=>NZ.syms _ _ _ _
          ·split
           ·split
            ·exact .fail _ _ (by decide)
            ·exact .ok _ _
           ·exact (NZ.must _ _).bind fun _ s3=>NZ.fields ih _ _ _ _
         ·exact .ok _ _
theorem parse_cases (s:ByteArray):((parseP s).1=[]∧(parseP s).2.2≠0)∨(words s=none∧∃n s',typedR 20 false [] ⟨toks s,[],fun _=>none⟩=.ok n s'∧(hd s'.l).k=3∧parseP s=(s'.ns,0,0)):=by
 unfold parseP
 cases hw:words s with
 | some r=>
  obtain⟨p,q⟩:=r
  refine .inl ⟨rfl,?_⟩
  show q≠0
  unfold words at hw
  have hr:∀(l:List Tok) (n:Nat) (p q:Int),wordsR l n=some (p,q)→q≠0:=by
   intro l
   induction l with
   | nil=>intro n p q h;cases h
   | cons t l ih=>
    intro n p q h
    rw[wordsR] at h
    split at h
    ·injection h with h;injection h with _ h;omega
    ·split at h
     ·injection h with h;injection h with _ h;omega
     ·exact ih _ _ _ h
  split at hw
  ·injection hw with hw;injection hw with _ hw;omega
  ·exact hr _ _ _ _ hw
 | none=>
  simp only
  cases ht:typedR 20 false [] ⟨toks s,[],fun _=>none⟩ with
  | bad a w=>exact .inl ⟨rfl,by have:=typedR_nz 20 false [] _ a w ht;simp only;omega⟩
  | ok n s'=>
   simp only
   by_cases hk:(hd s'.l).k=3
   ·rw[if_neg (by simp[hk])]
    exact .inr ⟨trivial,n,s',rfl,hk,rfl⟩
   ·rw[if_pos hk]
    exact .inl ⟨rfl,by show (4:Int)≠0;decide⟩
/-! ### A type -/
theorem idxOf_get {α:Type} [DecidableEq α]:∀(l:List α) (s d:α),0≤idxOf l s→l.getD (idxOf l s).toNat d=s
 | [],s,d,h=>by simp[idxOf] at h
 | x::l,s,d,h=>by
  rw[idxOf] at h ⊢
  split
  ·next e=>subst e;rfl
  ·next e=>
   rw[if_neg e] at h
   split at h
   ·omega
   ·next h2=>
    rw[if_neg h2]
    have:=idxOf_get l s d (by omega)
    rw[show (idxOf l s+1).toNat=(idxOf l s).toNat+1 by omega]
    exact this
theorem kind_cases {s:PS} {k:Int} (h:kindR s=some k):(k=6∧isT s cSqO=true)∨(k=7∧isT s cCuO=true)∨(k=8∧isT s cPaO=true)∨((hd s.l).k=0∧(hd s.l).s≠⟨#[]⟩∧0≤k∧k=idxOf wordsL (hd s.l).s)∨((hd s.l).k=0∧k = -1):=by
 unfold kindR at h
 split at h
 ·next ht=>injection h with h;exact .inl ⟨h.symm,ht⟩
 ·split at h
  ·next ht=>injection h with h;exact .inr (.inl ⟨h.symm,ht⟩)
  ·split at h
   ·next ht=>injection h with h;exact .inr (.inr (.inl ⟨h.symm,ht⟩))
   ·split at h
    ·cases h
    ·next hk=>
     simp only[ne_eq,Decidable.not_not] at hk
     split at h
     ·next hq=>
      injection h with h
      simp only[kwP,Bool.and_eq_true,decide_eq_true_eq] at hq
      exact .inr (.inr (.inr (.inl ⟨hk,hq.1,by omega,h.symm⟩)))
     ·split at h
      ·injection h with h;exact .inr (.inr (.inr (.inr ⟨hk,h.symm⟩)))
      ·cases h
theorem kind_word {s:PS} {k:Int} (h0:(hd s.l).s≠⟨#[]⟩) (h1:0≤k) (h2:k=idxOf wordsL (hd s.l).s):(hd s.l).s=wordsL.getD k.toNat ⟨#[]⟩∧k≠6∧k≠7∧k≠8:=by
 have:=idxOf_get wordsL (hd s.l).s ⟨#[]⟩ (by omega)
 rw[←h2] at this
 refine⟨this.symm,?_,?_,?_⟩<;>intro e<;>rw[e] at this<;>exact h0 this.symm
theorem wtyp_new {N:List Ne} {f n:Nat} {S:List UInt8} {d:Ne} (h:N[n]?=some d) (hS:S.length≤4096):wtyp N (f+1) (n:Int) ⟨S,n,false⟩=wbody (wtyp N f) d ⟨S,n+1,false⟩:=by
 have hl:n<N.length:=(List.getElem?_eq_some_iff.1 h).1
 rw[wtyp,if_neg,if_neg (by simp)]
 ·have:N.getD (n:Int).toNat neD=d:=by rw[Int.toNat_natCast,List.getD,h];rfl
  rw[this]
 ·unfold wstop
  simp
  omega
theorem wtyp_ref {N:List Ne} {f i n:Nat} {S:List UInt8} {d:Ne} (h:N[i]?=some d) (hi:i<n) (h9:9≤d.k) (hS:S.length≤4096):wtyp N (f+1) (i:Int) ⟨S,n,false⟩=⟨S++bs d.name,n,false⟩:=by
 have hl:i<N.length:=(List.getElem?_eq_some_iff.1 h).1
 rw[wtyp,if_neg,if_pos (by simp only;omega)]
 ·have:N.getD (i:Int).toNat neD=d:=by rw[Int.toNat_natCast,List.getD,h];rfl
  rw[this,decide_eq_false (by omega)]
  rfl
 ·unfold wstop
  simp
  omega
theorem typedR_sh (N:List Ne):∀(fuel:Nat),TR N (typedR fuel) (wtyp N fuel)
 | fuel,u,a,s,n,s',S,h,hw,ha,hm,hF,hb=>by
  rw[typedR.eq_def] at h
  simp only at h
  split at h
  ·cases h
  ·next k hk=>
   split at h
   ·cases h
   ·next hgate=>
    have hf0:fuel≠0:=by
     intro e
     unfold gateR at hgate
     rw[if_pos (.inl e)] at hgate
     cases hgate
    obtain⟨f,rfl⟩:=Nat.exists_eq_succ_of_ne_zero hf0
    split at h
    ·next hneg=>
     have hk0:(hd s.l).k=0:=by
      rcases kind_cases hk with⟨e,_⟩|⟨e,_⟩|⟨e,_⟩|⟨e,_,e2,_⟩|⟨e,_⟩
      ·omega
      ·omega
      ·omega
      ·exact e
      ·exact e
     injection h with h1 h2
     have hsome:∃i,s.nm (hd s.l).s=some i:=by
      cases hq:s.nm (hd s.l).s with
      | some i=>exact⟨i,rfl⟩
      | none=>
       unfold gateR at hgate
       rw[hq] at hgate
       split at hgate
       ·cases hgate
       ·rw[if_pos ⟨hneg,rfl⟩] at hgate;cases hgate
     obtain⟨i,hi⟩:=hsome
     rw[hi] at h1
     have h1:i=n:=h1
     subst h1
     obtain⟨hlt,d,e1,e2,e3⟩:=hm _ _ hi
     obtain⟨_,hw1,g,q1,_,q3,_⟩:=hw.step (by omega)
     refine⟨bs (hd s.l).s,?_,fun h2k=>?_,by rw[←h2];exact hw1,hm.same (by rw[←h2];rfl) (by rw[←h2];exact Nat.le_refl _)⟩
     ·rw[wtyp_ref e1 hlt e3 (by omega),e2,←h2];rfl
     ·rw[q1,q3 (by rw[←h2] at h2k;exact h2k),←h2];rfl
    ·next hneg=>
     have ih:=typedR_sh N f
     have hS:=typedR_shp f
     have hG:=typedR_len f
     simp only at h
     have hn1:s.ns.length<(s.ns++[Nd.ofKind k]).length:=by simp
     have ha1:AllN ShN ({ s.on with ns:=s.ns++[Nd.ofKind k] }:PS):=fun d hd=>by
      rcases List.mem_append.1 hd with hd|hd
      ·exact ha d hd
      ·rw[List.mem_singleton] at hd;subst hd;exact⟨.inl rfl,.inl rfl⟩
     have hl1:({ s.on with ns:=s.ns++[Nd.ofKind k] }:PS).ns.length=s.ns.length+1:=by simp
     have hd1:({ s.on with ns:=s.ns++[Nd.ofKind k] }:PS).ns[s.ns.length]?=some (Nd.ofKind k):=by simp
     have hll1:({ s.on with ns:=s.ns++[Nd.ofKind k] }:PS).l=s.on.l:=rfl
     have hmm1:({ s.on with ns:=s.ns++[Nd.ofKind k] }:PS).nm=s.nm:=rfl
     generalize hs1:({ s.on with ns:=s.ns++[Nd.ofKind k] }:PS)=s1 at h ha1 hl1 hd1 hll1 hmm1
     have hm1:Nam N s1:=hm.same hmm1 (by omega)
     have er1:sr s1=sr s.on:=by unfold sr;rw[hll1]
     have hN:s.ns.length<s'.ns.length→N[s.ns.length]?=(s'.ns[s.ns.length]?).map Nd.toE:=fun hlt=>hF _ (Nat.le_refl _) hlt
     have late:FnW N s1 s':=hF.late (by omega)
     have wnew:∀d,s'.ns[s.ns.length]?=some d→wtyp N (f+1) (s.ns.length:Int) ⟨S,s.ns.length,false⟩=wbody (wtyp N f) d.toE ⟨S,s1.ns.length,false⟩:=fun d hd=>by
      have hlt:s.ns.length<s'.ns.length:=(List.getElem?_eq_some_iff.1 hd).1
      rw[wtyp_new (d:=d.toE) (by rw[hN hlt,hd];rfl) (by omega),hl1]
     have sgn:∀c:UInt8,kindOf c=2→isT s ⟨#[c]⟩=true→sr s=c::sr s1∧WS s1:=fun c hc ht=>by
      obtain⟨_,e,w⟩:=sign_step hc hw ht
      exact⟨by rw[er1];exact e,by show WTs (s1.l.map tk);rw[hll1];exact w⟩
     have wrd:(hd s.l).k=0→∃g,sr s=bs (hd s.l).s++(g++sr s1)∧(2≤(hd s1.l).k→g=[])∧((hd s1.l).k=0→g=[32])∧WS s1:=fun hk0=>by
      obtain⟨_,hw1,g,q1,_,q3,q4⟩:=hw.step (by omega)
      exact⟨g,by rw[er1];exact q1,by rw[hll1];exact q3,by rw[hll1];exact fun e=>q4 hk0 (by omega) (by omega),by show WTs (s1.l.map tk);rw[hll1];exact hw1⟩
     split at h
     ·next k6=>
      subst k6
      obtain⟨_,s2,h1,h2⟩:=Res.bind_ok h
      injection h2 with h3 h4
      subst h3;subst h4
      have ht:isT s cSqO=true:=by
       rcases kind_cases hk with⟨e,e2⟩|⟨e,_⟩|⟨e,_⟩|⟨_,e0,e1,e2⟩|⟨_,e⟩
       ·exact e2
       ·omega
       ·omega
       ·exact absurd rfl (kind_word e0 e1 e2).2.1
       ·omega
      obtain⟨e,w1⟩:=sgn 91 (by decide +kernel) ht
      obtain⟨x,out,q1,q2,q3,q4,q5⟩:=itemR_sh ih hS hG (S:=S++[91]) h1 (by decide +kernel) w1 ha1 hm1 (by omega) late (by rw[e] at hb;simp at hb ⊢;omega)
      refine⟨91::out++[93],?_,fun _=>by rw[e,q3];simp,q4,q5⟩
      rw[wnew _ (q1 _ hd1)]
      show wbody (wtyp N f) ⟨6,⟨#[]⟩,0,[],[(x:Int)],[]⟩ _=_
      rw[wbody,if_pos rfl,witems,wlist,wlist]
      simp only[if_true]
      rw[show (WSt.put ⟨S,s1.ns.length,false⟩ [91])=⟨S++[91],s1.ns.length,false⟩ from rfl,q2]
      simp[WSt.put]
     ·split at h
      ·next k6 k7=>
       subst k7
       obtain⟨_,s2,h1,h2⟩:=Res.bind_ok h
       injection h2 with h3 h4
       subst h3;subst h4
       have ht:isT s cCuO=true:=by
        rcases kind_cases hk with⟨e,_⟩|⟨e,e2⟩|⟨e,_⟩|⟨_,e0,e1,e2⟩|⟨_,e⟩
        ·omega
        ·exact e2
        ·omega
        ·exact absurd rfl (kind_word e0 e1 e2).2.2.1
        ·omega
       obtain⟨e,w1⟩:=sgn 123 (by decide +kernel) ht
       obtain⟨x,out,q1,q2,q3,q4,q5⟩:=itemR_sh ih hS hG (S:=S++[123]) h1 (by decide +kernel) w1 ha1 hm1 (by omega) late (by rw[e] at hb;simp at hb ⊢;omega)
       refine⟨123::out++[125],?_,fun _=>by rw[e,q3];simp,q4,q5⟩
       rw[wnew _ (q1 _ hd1)]
       show wbody (wtyp N f) ⟨7,⟨#[]⟩,0,[],[(x:Int)],[]⟩ _=_
       rw[wbody,if_neg (show ¬(7:Int)=6 by decide),if_pos rfl,witems,wlist,wlist]
       simp only[if_true]
       rw[show (WSt.put ⟨S,s1.ns.length,false⟩ [123])=⟨S++[123],s1.ns.length,false⟩ from rfl,q2]
       simp[WSt.put]
      ·split at h
       ·next k6 k7 k8=>
        subst k8
        obtain⟨_,s2,h1,h2⟩:=Res.bind_ok h
        injection h2 with h3 h4
        subst h3;subst h4
        have ht:isT s cPaO=true:=by
         rcases kind_cases hk with⟨e,_⟩|⟨e,_⟩|⟨e,e2⟩|⟨_,e0,e1,e2⟩|⟨_,e⟩
         ·omega
         ·omega
         ·exact e2
         ·exact absurd rfl (kind_word e0 e1 e2).2.2.2
         ·omega
        obtain⟨e,w1⟩:=sgn 40 (by decide +kernel) ht
        obtain⟨x,more,out,q1,q2,q3,q4,q5⟩:=unionR_sh ih hS hG s.ns.length _ _ (S:=S++[40]) h1 w1 ha1 ⟨_,hd1,rfl⟩ hm1 (by omega) late (by rw[e] at hb;simp at hb ⊢;omega)
        refine⟨40::out++[41],?_,fun _=>by rw[e,q3];simp,q4,q5⟩
        rw[wnew _ (q1 _ hd1)]
        show wbody (wtyp N f) ⟨8,⟨#[]⟩,0,[],([]++x::more).map (fun (n:Nat)=>(n:Int)),[]⟩ _=_
        rw[wbody,if_neg (show ¬(8:Int)=6 by decide),if_neg (show ¬(8:Int)=7 by decide),if_pos rfl,List.nil_append,List.map_cons,witems,wlist]
        simp only[if_true]
        rw[show (WSt.put ⟨S,s1.ns.length,false⟩ [40])=⟨S++[40],s1.ns.length,false⟩ from rfl,q2]
        simp[WSt.put]
       ·next k6 k7 k8=>
        have hwd:(hd s.l).k=0∧(hd s.l).s=wordsL.getD k.toNat ⟨#[]⟩:=by
         rcases kind_cases hk with⟨e,_⟩|⟨e,_⟩|⟨e,_⟩|⟨h0,e0,e1,e2⟩|⟨_,e⟩
         ·exact absurd e k6
         ·exact absurd e k7
         ·exact absurd e k8
         ·exact⟨h0,(kind_word e0 e1 e2).1⟩
         ·omega
        obtain⟨g,e,g1,g2,w1⟩:=wrd hwd.1
        split at h
        ·next hkk=>
         obtain⟨_,s2,h1,h2⟩:=Res.bind_ok h
         injection h2 with h3 h4
         subst h3;subst h4
         have hlen:=(definedR_len hG h1).1
         have hk0:(hd s1.l).k=0:=by
          unfold definedR at h1
          obtain⟨x,s3,h5,_⟩:=Res.bind_ok h1
          exact (nameR_ok h5).1
         rw[g2 hk0] at e
         have hpre:bs (hd s.l).s++[32]=(if k=10 then sFix else if k=9 then sEn else sRec):=by
          rw[hwd.2]
          rcases hkk with e|e|e<;>subst e<;>rfl
         have hb1:S.length+(if k=10 then 6 else if k=9 then 5 else 7)+(sr s1).length≤4096:=by
          have hl:(bs (hd s.l).s++[32]).length=if k=10 then 6 else if k=9 then 5 else 7:=by
           rw[hpre]
           rcases hkk with e|e|e<;>subst e<;>rfl
          rw[←hl]
          rw[e] at hb
          simp only[List.length_append] at hb ⊢
          omega
         obtain⟨d,out,q1,q2,q3,q4,q5,q6,q7⟩:=definedR_sh ih hS hG (S:=S) hkk h1 w1 ha1 hd1 hm1 (by omega) late (hN (by omega)) hb1
         refine⟨(if k=10 then sFix else if k=9 then sEn else sRec)++out,?_,fun h2k=>?_,q6,q7⟩
         ·rw[wnew _ q1,q4]
         ·rw[e,q5 h2k,←hpre];simp
        ·next hkk=>
         injection h with h3 h4
         subst h3;subst h4
         refine⟨bs (hd s.l).s,?_,fun h2k=>by rw[e,g1 h2k];rfl,w1,hm1⟩
         rw[wnew _ hd1]
         have hr:=kindR_rng hk
         show wbody (wtyp N f) ⟨k,⟨#[]⟩,0,[],[],[]⟩ _=_
         rw[wbody]
         simp only
         rw[if_neg k6,if_neg k7,if_neg k8,if_neg (fun e=>hkk (.inl e)),if_neg (fun e=>hkk (.inr (.inl e))),if_neg (fun e=>hkk (.inr (.inr e))),if_neg (by omega),hwd.2]
         rfl
theorem show_back (s:ByteArray) (h:(parseP s).2.2=0):∃t,showP ((parseP s).1.map Nd.toE)=some t∧t.length≤s.size∧parseP ⟨t.toArray⟩=parseP s:=by
 rcases parse_cases s with⟨_,h1⟩|⟨hw,n,s',ht,hk,hp⟩
 ·exact absurd h h1
 have hsz:s.size≤4096∧wordsR (toks s) 0=none:=by
  unfold words at hw
  split at hw
  ·cases hw
  ·exact⟨by omega,hw⟩
 have hpos:∀(l:List Tok) (n:Nat),wordsR l n=none→∀t∈l,0≤t.k:=by
  intro l
  induction l with
  | nil=>intro n _ t ht;cases ht
  | cons x l ih=>
   intro n h t ht
   rw[wordsR] at h
   split at h
   ·cases h
   ·split at h
    ·cases h
    ·rcases List.mem_cons.1 ht with rfl|ht
     ·omega
     ·exact ih _ h t ht
 obtain⟨r1,r2,r3⟩:=relex s (hpos _ _ hsz.2)
 have hn0:n=0:=by
  have hk':=ht
  rw[typedR.eq_def] at hk'
  simp only at hk'
  split at hk'
  ·cases hk'
  ·split at hk'
   ·cases hk'
   ·next hg=>
    split at hk'
    ·injection hk' with e _;rw[←e];rfl
    ·repeat' split at hk'
     all_goals first
      | cases hk';done
      | (obtain⟨_,s2,_,h2⟩:=Res.bind_ok hk';injection h2 with e _;exact e.symm)
      | (injection hk' with e _;exact e.symm)
 subst hn0
 obtain⟨out,q1,q2,q3,q4⟩:=typedR_sh (s'.ns.map Nd.toE) 20 false [] ⟨toks s,[],fun _=>none⟩ 0 s' [] ht r1 (fun d hd=>by cases hd) (fun y i hy=>by cases hy) (fun i _ hi=>by rw[List.getElem?_map]) (by
  show 0+(ser ((toks s).map tk)).length≤4096
  omega)
 have hend:sr s'=[]:=by
  obtain⟨l,ns,nm⟩:=s'
  cases l with
  | nil=>cases q3
  | cons t r=>
   change WTs (tk t::r.map tk) at q3
   rcases wts_cons q3 with⟨e,e2⟩|⟨hx,_⟩
   ·unfold sr
    show ser (tk t::r.map tk)=[]
    rw[e,e2];rfl
   ·have:=hx.rng
    have hk:t.k=3:=hk
    have:(tk t).1=t.k:=rfl
    omega
 have hout:ser ((toks s).map tk)=out:=by
  have:=q2 (by omega)
  rw[hend,List.append_nil] at this
  exact this
 have hq:wtyp (s'.ns.map Nd.toE) 20 0 ⟨[],0,false⟩=⟨out,s'.ns.length,false⟩:=by
  have:=q1
  rw[List.nil_append] at this
  exact this
 have hsz2:(ByteArray.mk out.toArray).size=out.length:=by simp[ByteArray.size]
 have her:(toks s).map er=(toks ⟨out.toArray⟩).map er:=by
  have hinj:∀(l m:List Tok),l.map tk=m.map tk→l.map er=m.map er:=by
   intro l
   induction l with
   | nil=>intro m e;cases m with
    | nil=>rfl
    | cons=>cases e
   | cons x l ih=>intro m e;cases m with
    | nil=>cases e
    | cons y m=>
     rw[List.map_cons,List.map_cons] at e ⊢
     injection e with e1 e2
     rw[ih m e2]
     congr 1
     have e3:x.k=y.k:=congrArg Prod.fst e1
     have e4:bs x.s=bs y.s:=congrArg Prod.snd e1
     have e5:x.s=y.s:=by
      have:x.s.data=y.s.data:=Array.toList_inj.1 e4
      cases hx:x.s;cases hy:y.s
      rw[hx,hy] at this
      simp only at this
      rw[this]
     unfold er
     rw[e3,e5]
  rw[hout] at r3
  exact hinj _ _ r3.symm
 have hw2:words ⟨out.toArray⟩=none:=by
  have hwe:∀(l m:List Tok) (n:Nat),l.map er=m.map er→wordsR l n=none→wordsR m n=none:=by
   intro l
   induction l with
   | nil=>intro m n e _;cases m with
    | nil=>rfl
    | cons=>cases e
   | cons x l ih=>intro m n e h;cases m with
    | nil=>rfl
    | cons y m=>
     rw[List.map_cons,List.map_cons] at e
     injection e with e1 e2
     have e3:(er x).k=(er y).k:=by rw[e1]
     have e3:x.k=y.k:=e3
     rw[wordsR] at h ⊢
     rw[←e3]
     split at h
     ·cases h
     ·next h1=>
      rw[if_neg h1]
      split at h
      ·cases h
      ·next h2=>rw[if_neg h2];exact ih m _ e2 h
  unfold words
  rw[if_neg (by rw[hsz2,←hout];omega)]
  exact hwe _ _ 0 her hsz.2
 obtain⟨s'',t1,t2,t3⟩:=typedR_same her ht
 have hk2:(hd s''.l).k=3:=by
  have e:=hd_er s''.l
  rw[t3,hd_er] at e
  have:=congrArg Tok.k e
  exact this.symm.trans hk
 have hp2:parseP ⟨out.toArray⟩=(s'.ns,0,0):=by
  unfold parseP
  rw[hw2]
  simp only
  rw[t1]
  simp only
  rw[if_neg (by simp[hk2]),t2]
 refine⟨out,?_,by rw[←hout];exact r2,by rw[hp2,hp]⟩
 rw[hp]
 unfold showP
 simp only
 rw[hq]
 simp only
 rw[if_neg (by simp),hp2]
 simp
def LN (M:Nat) (d:Nd):Prop:=d.syms.length≤M∧d.items.length≤M∧d.fields.length≤M
def LB (M:Nat) (s:PS):Prop:=AllN (LN M) s∧s.ns.length+s.l.length≤M
def TB (M:Nat) (T:Bool→List Nat→PS→Res Nat):Prop:=∀u a s n s',T u a s=.ok n s'→LB M s→LB M s'
theorem on_le (s:PS):s.on.l.length≤s.l.length:=by show s.l.tail.length≤_;rw[List.length_tail];omega
theorem LB.on {M:Nat} {s:PS} (h:LB M s):LB M s.on:=⟨h.1.same rfl,by have:=on_le s;have:=h.2;show s.ns.length+s.on.l.length≤M;omega⟩
theorem LB.setN {M:Nat} {s:PS} (h:LB M s) (n:Nat) {f:Nd→Nd} (hf:∀d,LN M d→LN M (f d)):LB M (s.setN n f):=⟨h.1.setN n hf,by rw[setN_len];exact h.2⟩
section
variable {M:Nat} {T:Bool→List Nat→PS→Res Nat}
theorem itemR_lb (hT:TB M T) {s s':PS} {n:Nat} {x:ByteArray} {u:Unit} (h:itemR T s n x=.ok u s') (hp:LB M s) (hM:1≤M):LB M s':=by
 obtain⟨a,s1,h1,h2⟩:=Res.bind_ok h
 obtain⟨h5,rfl⟩:=mustR_ok h2
 exact ((hT _ _ _ _ _ h1 hp).setN n (f:=fun d=>{ d with items:=[a] }) fun d hd=>⟨hd.1,by simpa using hM,hd.2.2⟩).on
theorem unionR_lb (hT:TB M T) (n:Nat):∀(m:Nat) (l:List Nat) {s s':PS} {u:Unit},unionR T n m l s=.ok u s'→LB M s→l.length+m≤M→LB M s'
 | 0,l,s,s',u,h,_,_=>by cases h
 | m+1,l,s,s',u,h,hp,hm=>by
  rw[unionR] at h
  obtain⟨a,s1,h1,h2⟩:=Res.bind_ok h
  have hp1:=hT _ _ _ _ _ h1 hp
  split at h2
  ·injection h2 with _ h2
   subst h2
   exact hp1.on.setN n fun d hd=>⟨hd.1,by simp;omega,hd.2.2⟩
  ·obtain⟨v,s2,h5,h6⟩:=Res.bind_ok h2
   obtain⟨h7,rfl⟩:=mustR_ok h5
   exact unionR_lb hT n m _ h6 hp1.on (by simp;omega)
theorem symsR_lb (n:Nat):∀(m:Nat) (l:List ByteArray) {s s':PS} {u:Unit},symsR n m l s=.ok u s'→LB M s→l.length+m≤M→LB M s'
 | 0,l,s,s',u,h,_,_=>by cases h
 | m+1,l,s,s',u,h,hp,hm=>by
  rw[symsR] at h
  obtain⟨x,s1,h1,h2⟩:=Res.bind_ok h
  obtain⟨_,_,_,_,_,rfl⟩:=nameR_ok h1
  split at h2
  ·injection h2 with _ h2
   subst h2
   exact hp.on.on.setN n fun d hd=>⟨by simp;omega,hd.2⟩
  ·obtain⟨v,s2,h5,h6⟩:=Res.bind_ok h2
   obtain⟨h7,rfl⟩:=mustR_ok h5
   exact symsR_lb n m _ h6 hp.on.on (by simp;omega)
theorem LB.goes {M:Nat} {s:PS} (h:LB M s) (x:ByteArray):LB M (goesR s x).2:=by
 unfold goesR
 split
 ·exact h.on
 ·exact h
theorem fieldsR_lb (hT:TB M T) (n:Nat):∀(m:Nat) (l:List (ByteArray×Bool×Nat)) {s s':PS} {u:Unit},fieldsR T n m l s=.ok u s'→LB M s→l.length+m≤M→LB M s'
 | 0,l,s,s',u,h,_,_=>by cases h
 | m+1,l,s,s',u,h,hp,hm=>by
  rw[fieldsR] at h
  split at h
  ·injection h with _ h
   subst h
   exact hp.on.setN n fun d hd=>⟨hd.1,hd.2.1,by show l.length≤M;omega⟩
  ·obtain⟨x,s1,h1,h2⟩:=Res.bind_ok h
   obtain⟨_,_,_,_,_,rfl⟩:=nameR_ok h1
   obtain⟨v,s2,h3,h4⟩:=Res.bind_ok h2
   obtain⟨h5,rfl⟩:=mustR_ok h3
   obtain⟨t,s3,h6,h7⟩:=Res.bind_ok h4
   obtain⟨v2,s4,h10,h11⟩:=Res.bind_ok h7
   obtain⟨h12,rfl⟩:=mustR_ok h10
   exact fieldsR_lb hT n m _ h11 (hT _ _ _ _ _ h6 (hp.on.goes cQ).on).on (by simp;omega)
theorem definedR_lb (hT:TB M T) {s s':PS} {n:Nat} {k:Int} {u:Unit} (h:definedR T s n k=.ok u s') (hp:LB M s):LB M s':=by
 unfold definedR at h
 obtain⟨x,s1,h1,h2⟩:=Res.bind_ok h
 obtain⟨_,_,_,_,_,rfl⟩:=nameR_ok h1
 simp only at h2
 have hp2:LB M (s.on.called n x):=by
  have:=hp.on.setN n (f:=fun d=>{ d with name:=x }) fun d hd=>hd
  exact⟨this.1.same rfl,this.2⟩
 generalize s.on.called n x=s2 at h2 hp2
 have hl:=hp2.2
 have ho:=on_le s2
 split at h2
 ·obtain⟨v,s3,h5,h6⟩:=Res.bind_ok h2
  obtain⟨h7,rfl⟩:=mustR_ok h5
  exact symsR_lb n _ _ h6 hp2.on (by simp;omega)
 ·split at h2
  ·split at h2
   ·cases h2
   ·injection h2 with _ h2
    subst h2
    exact hp2.on.setN n fun d hd=>hd
  ·obtain⟨v,s3,h5,h6⟩:=Res.bind_ok h2
   obtain⟨h7,rfl⟩:=mustR_ok h5
   exact fieldsR_lb hT n _ _ h6 hp2.on (by simp;omega)
end
theorem typedR_lb (M:Nat):∀(fuel:Nat),TB M (typedR fuel)
 | fuel,u,a,s,n,s',h,hp=>by
  rw[typedR.eq_def] at h
  simp only at h
  split at h
  ·cases h
  ·next k hk=>
   split at h
   ·cases h
   ·split at h
    ·injection h with _ h
     subst h
     exact hp.on
    ·have hpos:=on_len (kindR_pos hk)
     have hl:=hp.2
     have hp1:LB M ({ s.on with ns:=s.ns++[Nd.ofKind k] }:PS):=⟨fun d hd=>by
      rcases List.mem_append.1 hd with hd|hd
      ·exact hp.1 d hd
      ·rw[List.mem_singleton] at hd;subst hd;exact⟨Nat.zero_le _,Nat.zero_le _,Nat.zero_le _⟩,by simp only[List.length_append,List.length_cons,List.length_nil];omega⟩
     have hM:1≤M:=by omega
     have hm:s.on.l.length≤M:=by omega
     generalize ({ s.on with ns:=s.ns++[Nd.ofKind k] }:PS)=s1 at h hp1
     cases fuel with
     | zero=>cases h
     | succ fuel=>
      have ih:=typedR_lb M fuel
      simp only at h
      split at h
      ·obtain⟨_,s2,h1,h2⟩:=Res.bind_ok h
       injection h2 with _ h2;subst h2
       exact itemR_lb ih h1 hp1 hM
      ·split at h
       ·obtain⟨_,s2,h1,h2⟩:=Res.bind_ok h
        injection h2 with _ h2;subst h2
        exact itemR_lb ih h1 hp1 hM
       ·split at h
        ·obtain⟨_,s2,h1,h2⟩:=Res.bind_ok h
         injection h2 with _ h2;subst h2
         exact unionR_lb ih _ _ _ h1 hp1 (by simpa using hm)
        ·split at h
         ·obtain⟨_,s2,h1,h2⟩:=Res.bind_ok h
          injection h2 with _ h2;subst h2
          exact definedR_lb ih h1 hp1
         ·injection h with _ h
          subst h
          exact hp1
theorem parse_lens (s:ByteArray):(parseP s).1.length≤1500∧∀d∈(parseP s).1,LN 1500 d:=by
 rcases parse_cases s with⟨h1,_⟩|⟨hw,n,s',ht,_,hp⟩
 ·rw[h1];exact⟨by simp,fun d hd=>by cases hd⟩
 ·have hl:(toks s).length≤1500:=by
   unfold words at hw
   split at hw
   ·cases hw
   ·have:=wordsR_len _ _ (by omega) hw;omega
  have:=typedR_lb 1500 20 _ _ _ _ _ ht ⟨fun d hd=>(by cases hd),by simpa using hl⟩
  rw[hp]
  exact⟨by have:=this.2;show s'.ns.length≤1500;omega,this.1⟩
end Pr
namespace Base
open Go.ChangeShapes Go.WideShapes Go.ChangeAt Go.RowKit
structure Chg (S:Nat→Prop) (w w':World):Prop where
 os:w'.os=w.os
 tape:w'.tape=w.tape
 output:w'.output=w.output
 size:w.heap.size≤w'.heap.size
 block:∀k,k<w.heap.size→¬S k→w'.heap[k]?=w.heap[k]?
theorem Chg.refl (S:Nat→Prop) (w:World):Chg S w w:=⟨rfl,rfl,rfl,Nat.le_refl _,fun _ _ _=>rfl⟩
theorem Chg.trans {S T:Nat→Prop} {a b c:World} (h:Chg S a b) (k:Chg T b c) (hT:∀i,i<a.heap.size→T i→S i):Chg S a c:=
 ⟨k.os.trans h.os,k.tape.trans h.tape,k.output.trans h.output,Nat.le_trans h.size k.size,fun i hi hs=>(k.block i (Nat.lt_of_lt_of_le hi h.size) (fun ht=>hs (hT i hi ht))).trans (h.block i hi hs)⟩
theorem Chg.mono {S T:Nat→Prop} {a b:World} (h:Chg S a b) (hT:∀i,i<a.heap.size→S i→T i):Chg T a b:=
 ⟨h.os,h.tape,h.output,h.size,fun i hi hs=>h.block i hi (fun x=>hs (hT i hi x))⟩
theorem Chg.ofGrown {a b:World} {r:Option Nat} (h:a.grownBy b r):Chg (fun k=>r=some k) a b:=⟨h.os,h.tape,h.output,h.size,fun i hi hs=>h.block i hi (fun e=>hs e.symm)⟩
theorem Chg.ofExt {S:Nat→Prop} {a b:World} (h:Ext a b):Chg S a b:=⟨h.os,h.tape,h.output,h.size,fun i hi _=>h.block i hi⟩
theorem Chg.toExt {S:Nat→Prop} {a b:World} (h:Chg S a b) (hn:∀k,k<a.heap.size→¬S k):Ext a b:=⟨h.os,h.tape,h.output,h.size,fun i hi=>h.block i hi (hn i hi)⟩
theorem Ext.chg {S:Nat→Prop} {a b c:World} (h:Ext a b) (k:Chg S b c) (hn:∀i,i<a.heap.size→¬S i):Ext a c:=
 (Chg.toExt (S:=S) ((Chg.ofExt h).trans k (fun _ _ x=>x)) hn)
theorem Chg.set {S:Nat→Prop} {a b:World} (h:Chg S a b) {p:Addr} (hp:S p.block∨a.heap.size≤p.block) (u:Value):Chg S a (b.setCell p u):=
 ⟨h.os,h.tape,h.output,by simpa using h.size,fun i hi hs=>(heap_setCell_other b p i u (fun e=>by rcases hp with x|x;exact hs (e ▸ x);omega)).trans (h.block i hi hs)⟩
theorem Chg.blk {S:Nat→Prop} {a b:World} (h:Chg S a b) {g:Nat} {cs:Array Value} {t:TypeId} (hb:Blk a g cs t) (hg:¬S g):Blk b g cs t:=(h.block g hb.lt hg).trans hb
theorem Chg.cell {S:Nat→Prop} {a b:World} (h:Chg S a b) {p:Addr} {v:Value} (hc:a.cell? p=some v) (hn:¬S p.block):b.cell? p=some v:=
 (World.cell?_of_block (h.block p.block (World.block_lt_of_cell? a p hc) hn)).trans hc
theorem Chg.heap {S:Nat→Prop} {a b:World} (h:Chg S a b) {g:Nat} {o:Obj} (hg:a.heap[g]?=some o) (hn:¬S g):b.heap[g]?=some o:=
 (h.block g (Array.getElem?_eq_some_iff.1 hg).1 hn).trans hg
def OwnS (w:World) (v:Value) (cs:List Value):Prop:=∃ao b off cap,v=.slice ao cs.length cap∧Came w 1 ao b off cs.length cap cs∧cap≤maxLen
theorem OwnS.nil (w:World):OwnS w (.slice none 0 0) []:=
 ⟨none,0,0,0,rfl,⟨Nat.le_refl _,fun h=>absurd h (Nat.lt_irrefl _),fun h=>absurd h (Nat.lt_irrefl _),rfl,fun j u h=>by simp at h,fun j h=>by simp at h⟩,Nat.zero_le _⟩
theorem OwnS.zero (w:World) (ao:Option Addr):OwnS w (.slice ao 0 0) []:=
 ⟨ao,0,0,0,rfl,⟨Nat.le_refl _,fun h=>absurd h (Nat.lt_irrefl _),fun h=>absurd h (Nat.lt_irrefl _),rfl,fun j u h=>by simp at h,fun j h=>by simp at h⟩,Nat.zero_le _⟩
theorem OwnS.rd {w:World} {v:Value} {cs:List Value} (h:OwnS w v cs):∃A c,v=.slice A cs.length c∧Rd w A cs∧cs.length≤c∧c≤maxLen∧(A=none→c=0):=by
 obtain⟨ao,b,off,cap,rfl,hc,hm⟩:=h
 refine⟨ao,cap,rfl,fun hne=>?_,hc.le,hm,fun e=>?_⟩
 ·have hp:0<cap:=by have:=List.length_pos_iff.2 hne;have:=hc.le;omega
  exact⟨b,off,hc.addr hp,hc.olds⟩
 ·rcases Nat.eq_zero_or_pos cap with h0|h0
  ·exact h0
  ·have:=hc.addr h0;rw[e] at this;cases this
theorem OwnS.lt {w:World} {v:Value} {cs:List Value} (h:OwnS w v cs) (hn:cs≠[]):∀k,v.ownBlock=some k→k<w.heap.size:=by
 obtain⟨ao,b,off,cap,rfl,hc,hm⟩:=h
 intro k hk
 have hp:0<cap:=by have:=List.length_pos_iff.2 hn;have:=hc.le;omega
 rw[hc.addr hp] at hk
 simp only[Value.ownBlock,Option.some.injEq] at hk
 exact hk ▸ hc.lt hp
theorem OwnS.keep {S:Nat→Prop} {w w':World} {v:Value} {cs:List Value} (h:OwnS w v cs) (hx:Chg S w w') (hn:∀k,v.ownBlock=some k→¬S k):OwnS w' v cs:=by
 obtain⟨ao,b,off,cap,rfl,hc,hm⟩:=h
 refine⟨ao,b,off,cap,rfl,?_,hm⟩
 have hb:0<cap→w'.heap[b]?=w.heap[b]?:=fun hp=>hx.block b (hc.lt hp) (hn b (by rw[hc.addr hp];rfl))
 refine⟨hc.le,hc.addr,fun hp=>Nat.lt_of_lt_of_le (hc.lt hp) hx.size,hc.oldsLen,fun j u hj=>?_,fun j hj=>?_⟩
 ·have hp:0<cap:=by have:=(List.getElem?_eq_some_iff.1 hj).1;have:=hc.le;omega
  exact (World.cell?_of_block (a:=⟨b,off+j,none⟩) (hb hp)).trans (hc.olds j u hj)
 ·have hp:0<cap:=by omega
  rw[World.cell?_of_block (a:=⟨b,off+cs.length*1+j,none⟩) (hb hp),World.frozen?_of_block (a:=⟨b,off+cs.length*1+j,none⟩) (hb hp)]
  exact hc.spare j hj
theorem OwnS.ext {w w':World} {v:Value} {cs:List Value} (h:OwnS w v cs) (hx:Ext w w'):OwnS w' v cs:=h.keep (S:=fun _=>False) (Chg.ofExt hx) (fun _ _ x=>x)
theorem OwnS.drop {w:World} {b off n cap:Nat} {cs:List Value} (h:OwnS w (.slice (some ⟨b,off,none⟩) n cap) cs) (k:Nat) (hk:k≤n):OwnS w (.slice (some ⟨b,off+k,none⟩) (n-k) (cap-k)) (cs.drop k):=by
 obtain⟨ao,b',off',cap',e,hc,hm⟩:=h
 injection e with e1 e2 e3
 subst e1;subst e2;subst e3
 have hl:(cs.drop k).length=cs.length-k:=List.length_drop
 refine⟨_,b,off+k,cap-k,by rw[hl],?_,by omega⟩
 have hb:0<cap→b=b'∧off=off':=fun hp=>by
  have:=hc.addr hp
  simp only[Option.some.injEq,Addr.mk.injEq,and_true] at this
  exact this
 have hle:=hc.le
 refine⟨by omega,fun _=>rfl,fun hp=>by rw[(hb (by omega)).1];exact hc.lt (by omega),by omega,fun j u hj=>?_,fun j hj=>?_⟩
 ·have hj2:=(List.getElem?_eq_some_iff.1 hj).1
  rw[List.getElem?_drop] at hj
  have hx:=hc.olds (k+j) u hj
  obtain⟨rfl,rfl⟩:=hb (by omega)
  rwa [←Nat.add_assoc] at hx
 ·obtain⟨rfl,rfl⟩:=hb (by omega)
  have hx:=hc.spare j (by omega)
  rwa [show off+k+(cs.drop k).length*1+j=off+cs.length*1+j by omega]
theorem OwnS.cut {w:World} {b off n cap:Nat} {cs:List Value} (h:OwnS w (.slice (some ⟨b,off,none⟩) n cap) cs) (k:Nat) (hk:k≤n):OwnS w (.slice (if cap=k then some ⟨b,off,none⟩ else some ⟨b,off+k,none⟩) (n-k) (cap-k)) (cs.drop k):=by
 split
 ·next hc=>
  obtain⟨A,c,e,_,hle,_⟩:=h.rd
  injection e with e1 e2 e3
  have hl:(cs.drop k).length=0:=by rw[List.length_drop];omega
  have hnil:cs.drop k=[]:=List.eq_nil_of_length_eq_zero hl
  have hn:n-k=0:=by omega
  have hcap:cap-k=0:=by omega
  rw[hnil,hn,hcap]
  exact⟨_,b,off,0,rfl,⟨Nat.le_refl _,fun h=>absurd h (Nat.lt_irrefl _),fun h=>absurd h (Nat.lt_irrefl _),rfl,fun j u h=>by simp at h,fun j h=>by simp at h⟩,Nat.zero_le _⟩
 ·exact h.drop k hk
theorem Chg.one (w:World) (g i:Nat) (u:Value):Chg (fun k=>k=g) w (w.setCell ⟨g,i,none⟩ u):=Chg.set (S:=fun k=>k=g) (p:=⟨g,i,none⟩) (Chg.refl _ w) (.inl rfl) u
theorem Rd.chg {S:Nat→Prop} {w w':World} {A:Option Addr} {cs:List Value} (h:Rd w A cs) (hx:Chg S w w') (hn:∀a,A=some a→¬S a.block):Rd w' A cs:=fun hne=>
 let ⟨b,off,e,hc⟩:=h hne
 ⟨b,off,e,fun j u hj=>hx.cell (hc j u hj) (hn ⟨b,off,none⟩ e)⟩
end Base
end Go.Proofs.YtmaoochjbpohdaaGreatDoor
