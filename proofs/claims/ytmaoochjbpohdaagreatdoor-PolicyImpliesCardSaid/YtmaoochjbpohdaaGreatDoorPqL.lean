/- parse: what is read is well formed: each node's items and fields are nodes: plain. -/
import Derived.Test.YtmaoochjbpohdaaGreatDoorPqK
import Derived.Maps.OwnSet
import Derived.MapViews
import Derived.DeepKeys4
import Derived.WideKeyEntry
set_option linter.unusedVariables false
set_option linter.unusedSimpArgs false
set_option maxRecDepth 100000
set_option maxHeartbeats 1000000
namespace Go.Proofs.YtmaoochjbpohdaaGreatDoor
namespace Pr
open Lx
structure WN (M:Nat) (d:Nd):Prop where
 k0:0≤d.k
 k12:d.k<12
 its:∀x∈d.items,x<M
 fls:∀f∈d.fields,f.2.2<M
 one:d.k=6∨d.k=7→∃x,d.items=[x]
 nod:(d.fields.map (·.1)).Nodup
 nof:¬d.k=11→d.fields=[]
 ln:d.items.length≤5000∧d.syms.length≤5000∧d.fields.length≤5000
theorem WN.mono {M M':Nat} {d:Nd} (h:WN M d) (hM:M≤M'):WN M' d:=⟨h.k0,h.k12,fun x hx=>Nat.lt_of_lt_of_le (h.its x hx) hM,fun f hf=>Nat.lt_of_lt_of_le (h.fls f hf) hM,h.one,h.nod,h.nof,h.ln⟩
def NmOk (s:PS):Prop:=(∀x m,s.nm x=some m→m<s.ns.length)∧s.l.length≤5000
structure Gd (b:Nat) (s s':PS):Prop where
 le:s.ns.length≤s'.ns.length
 nm:NmOk s'
 old:∀i,i<s.ns.length→i≠b→s'.ns[i]?=s.ns[i]?
 new:∀i d,s.ns.length≤i→s'.ns[i]?=some d→WN s'.ns.length d
theorem Gd.to {s s':PS} (h:Gd s.ns.length s s') (b:Nat):Gd b s s':=⟨h.le,h.nm,fun i hi _=>h.old i hi (by omega),h.new⟩
theorem Gd.same {b:Nat} {s s':PS} (hn:NmOk s) (e:s'.ns=s.ns) (e2:s'.nm=s.nm) (e3:s'.l.length≤s.l.length):Gd b s s':=⟨by rw[e];exact Nat.le_refl _,⟨fun x m h=>by rw[e2] at h;rw[e];exact hn.1 x m h,Nat.le_trans e3 hn.2⟩,fun i _ _=>by rw[e],fun i d hi hd=>by
 rw[e,List.getElem?_eq_none hi] at hd;cases hd⟩
theorem Gd.on {b:Nat} {s:PS} (hn:NmOk s):Gd b s s.on:=Gd.same hn rfl rfl (by show s.l.tail.length≤_;rw[List.length_tail];omega)
theorem Gd.trans {b:Nat} {s s1 s':PS} (h:Gd b s s1) (k:Gd b s1 s') (hb:b<s.ns.length):Gd b s s':=⟨Nat.le_trans h.le k.le,k.nm,fun i hi hne=>by
  have:=h.le
  rw[k.old i (by omega) hne,h.old i hi hne],fun i d hi hd=>by
  by_cases hs:i<s1.ns.length
  ·rw[k.old i hs (by omega)] at hd
   exact (h.new i d hi hd).mono k.le
  ·exact k.new i d (by omega) hd⟩
theorem Gd.setN {s:PS} (hn:NmOk s) (n:Nat) (f:Nd→Nd):Gd n s (s.setN n f):=⟨by rw[setN_len];exact Nat.le_refl _,⟨fun x m h=>by rw[setN_len];exact hn.1 x m h,hn.2⟩,fun i hi hne=>by
  show (s.ns.modify n f)[i]?=_
  rw[List.getElem?_modify];have hne2:¬n=i:=fun e=>hne e.symm;cases s.ns[i]?<;>simp[hne2],fun i d hi hd=>by
  have:(s.setN n f).ns[i]?=none:=List.getElem?_eq_none (by rw[setN_len];exact hi)
  rw[this] at hd;cases hd⟩
def TW (T:Bool→List Nat→PS→Res Nat):Prop:=∀u a s n s',T u a s=.ok n s'→NmOk s→Gd s.ns.length s s'∧n<s'.ns.length
section
variable {T:Bool→List Nat→PS→Res Nat}
theorem itemR_w (hT:TW T) {s s':PS} {n:Nat} {x:ByteArray} {u:Unit} (h:itemR T s n x=.ok u s') (hn:NmOk s) (hb:n<s.ns.length) :
  Gd n s s'∧∃x,x<s'.ns.length∧∀d,s.ns[n]?=some d→s'.ns[n]?=some { d with items:=[x] }:=by
 obtain⟨a,s1,h1,h2⟩:=Res.bind_ok h
 obtain⟨h5,rfl⟩:=mustR_ok h2
 obtain⟨g,ha⟩:=hT _ _ _ _ _ h1 hn
 have g2:=Gd.setN g.nm n fun d=>{ d with items:=[a] }
 refine⟨((g.to n).trans g2 hb).trans (Gd.on g2.nm) hb,a,by show a<(s1.setN n _).ns.length;rw[setN_len];exact ha,fun d hd=>?_⟩
 have:=g.old n hb (by omega)
 rw[hd] at this
 exact setN_get s1 n _ d this
theorem unionR_w (hT:TW T) (n:Nat):∀(m:Nat) (l:List Nat) {s s':PS} {u:Unit},unionR T n m l s=.ok u s'→NmOk s→n<s.ns.length→(∀x∈l,x<s.ns.length)→
  Gd n s s'∧∃l',(∀x∈l',x<s'.ns.length)∧l'.length≤l.length+m∧∀d,s.ns[n]?=some d→s'.ns[n]?=some { d with items:=l' }
 | 0,l,s,s',u,h,_,_,_=>by cases h
 | m+1,l,s,s',u,h,hn,hb,hl=>by
  rw[unionR] at h
  obtain⟨a,s1,h1,h2⟩:=Res.bind_ok h
  obtain⟨g,ha⟩:=hT _ _ _ _ _ h1 hn
  have hl':∀x∈l++[a],x<s1.ns.length:=fun x hx=>by
   have:=g.le
   rcases List.mem_append.1 hx with hx|hx
   ·have:=hl x hx;omega
   ·rw[List.mem_singleton] at hx;subst hx;exact ha
  split at h2
  ·injection h2 with _ h2
   subst h2
   have g1:=Gd.on (b:=n) g.nm
   have g2:=Gd.setN g1.nm n fun d=>{ d with items:=l++[a] }
   refine⟨((g.to n).trans g1 hb).trans g2 hb,l++[a],fun x hx=>by rw[setN_len];exact hl' x hx,by simp<;>omega,fun d hd=>?_⟩
   have:=g.old n hb (by omega)
   rw[hd] at this
   exact setN_get s1.on n _ d this
  ·obtain⟨v,s2,h5,h6⟩:=Res.bind_ok h2
   obtain⟨h7,rfl⟩:=mustR_ok h5
   have g1:=Gd.on (b:=n) g.nm
   obtain⟨g3,l',k1,k3,k2⟩:=unionR_w hT n m _ h6 g1.nm (Nat.lt_of_lt_of_le hb g.le) hl'
   refine⟨((g.to n).trans g1 hb).trans g3 hb,l',k1,by simp at k3;omega,fun d hd=>k2 d ?_⟩
   have:=g.old n hb (by omega)
   rw[hd] at this
   exact this
theorem symsR_w (n:Nat):∀(m:Nat) (l:List ByteArray) {s s':PS} {u:Unit},symsR n m l s=.ok u s'→NmOk s→n<s.ns.length→
  Gd n s s'∧∃l',l'.length≤l.length+m∧∀d,s.ns[n]?=some d→s'.ns[n]?=some { d with syms:=l' }
 | 0,l,s,s',u,h,_,_=>by cases h
 | m+1,l,s,s',u,h,hn,hb=>by
  rw[symsR] at h
  obtain⟨x,s1,h1,h2⟩:=Res.bind_ok h
  obtain⟨_,_,_,_,_,rfl⟩:=nameR_ok h1
  split at h2
  ·injection h2 with _ h2
   subst h2
   have g1:=Gd.on (b:=n) hn
   have g0:=Gd.on (b:=n) g1.nm
   have g2:=Gd.setN g0.nm n fun d=>{ d with syms:=l++[x] }
   exact⟨(g1.trans g0 hb).trans g2 hb,l++[x],by simp<;>omega,fun d hd=>setN_get s.on.on n _ d hd⟩
  ·obtain⟨v,s2,h5,h6⟩:=Res.bind_ok h2
   obtain⟨h7,rfl⟩:=mustR_ok h5
   have g1:=Gd.on (b:=n) hn
   have g0:=Gd.on (b:=n) g1.nm
   obtain⟨g3,l',k3,k2⟩:=symsR_w n m _ h6 g0.nm hb
   exact⟨(g1.trans g0 hb).trans g3 hb,l',by simp at k3;omega,fun d hd=>k2 d hd⟩
theorem Gd.goes {b:Nat} {s:PS} (hn:NmOk s) (x:ByteArray):Gd b s (goesR s x).2:=by
 unfold goesR
 split
 ·exact Gd.on hn
 ·exact Gd.same hn rfl rfl (Nat.le_refl _)
theorem fieldsR_w (hT:TW T) (n:Nat):∀(m:Nat) (l:List (ByteArray×Bool×Nat)) {s s':PS} {u:Unit},fieldsR T n m l s=.ok u s'→NmOk s→n<s.ns.length→(∀f∈l,f.2.2<s.ns.length)→(l.map (·.1)).Nodup→
  Gd n s s'∧∃l',(∀f∈l',f.2.2<s'.ns.length)∧(l'.map (·.1)).Nodup∧l'.length≤l.length+m∧∀d,s.ns[n]?=some d→s'.ns[n]?=some { d with fields:=l' }
 | 0,l,s,s',u,h,_,_,_,_=>by cases h
 | m+1,l,s,s',u,h,hn,hb,hl,hd=>by
  rw[fieldsR] at h
  split at h
  ·injection h with _ h
   subst h
   have g1:=Gd.on (b:=n) hn
   have g2:=Gd.setN g1.nm n fun d=>{ d with fields:=l }
   exact⟨g1.trans g2 hb,l,fun f hf=>by rw[setN_len];exact hl f hf,hd,by omega,fun d hd=>setN_get s.on n _ d hd⟩
  ·obtain⟨x,s1,h1,h2⟩:=Res.bind_ok h
   obtain⟨_,_,_,hx,_,rfl⟩:=nameR_ok h1
   obtain⟨v,s2,h3,h4⟩:=Res.bind_ok h2
   obtain⟨h5,rfl⟩:=mustR_ok h3
   obtain⟨t,s3,h6,h7⟩:=Res.bind_ok h4
   obtain⟨v2,s4,h10,h11⟩:=Res.bind_ok h7
   obtain⟨h12,rfl⟩:=mustR_ok h10
   have g1:=Gd.on (b:=n) hn
   have g2:=Gd.goes (b:=n) g1.nm cQ
   have g3:=Gd.on (b:=n) g2.nm
   have e3:(goesR s.on cQ).2.on.ns=s.ns:=goes_ns s.on cQ
   obtain⟨g4,ht⟩:=hT _ _ _ _ _ h6 g3.nm
   have g5:=Gd.on (b:=n) g4.nm
   have hle:=g4.le
   rw[e3] at hle
   obtain⟨g6,l',k1,k2,k4,k3⟩:=fieldsR_w hT n m _ h11 g5.nm (Nat.lt_of_lt_of_le hb hle) (fun f hf=>by
    rcases List.mem_append.1 hf with hf|hf
    ·exact Nat.lt_of_lt_of_le (hl f hf) hle
    ·rw[List.mem_singleton] at hf;subst hf;exact ht) (by
    rw[List.map_append,List.nodup_append]
    refine⟨hd,by simp,fun y hy z hz e=>?_⟩
    simp only[List.map_cons,List.map_nil,List.mem_singleton] at hz
    subst hz
    subst e
    obtain⟨f,hf,e⟩:=List.mem_map.1 hy
    have:=List.any_eq_false.1 hx f hf
    simp[e] at this)
   have hb3:n<(goesR s.on cQ).2.on.ns.length:=by rw[e3];exact hb
   refine⟨((((g1.trans g2 hb).trans g3 hb).trans (g4.to n) hb).trans g5 hb).trans g6 hb,l',k1,k2,by simp at k4;omega,fun d hd=>k3 d ?_⟩
   have:=g4.old n hb3 (by omega)
   rw[e3,hd] at this
   exact this
theorem definedR_w (hT:TW T) {s s':PS} {n:Nat} {k:Int} {u:Unit} (h:definedR T s n k=.ok u s') (hn:NmOk s) (hb:n<s.ns.length) (d:Nd) (hd:s.ns[n]?=some d) (hf:d.fields=[]) (hy:d.syms=[]) :
  Gd n s s'∧∃d',s'.ns[n]?=some d'∧d'.k=d.k∧d'.items=d.items∧(∀f∈d'.fields,f.2.2<s'.ns.length)∧(d'.fields.map (·.1)).Nodup∧(k=9∨k=10→d'.fields=[])∧d'.syms.length≤5000∧d'.fields.length≤5000:=by
 unfold definedR at h
 obtain⟨x,s1,h1,h2⟩:=Res.bind_ok h
 obtain⟨_,_,_,_,_,rfl⟩:=nameR_ok h1
 simp only at h2
 have g1:=Gd.on (b:=n) hn
 have g2:=Gd.setN g1.nm n fun d=>{ d with name:=x }
 have g3:Gd n s (s.on.called n x):=by
  refine⟨by show _≤(s.on.setN n _).ns.length;rw[setN_len];exact Nat.le_refl _,⟨fun y m hy=>?_,g1.nm.2⟩,fun i hi hne=>(g1.trans g2 hb).old i hi hne,fun i d hi hd=>(g1.trans g2 hb).new i d hi hd⟩
  show m<(s.on.setN n _).ns.length
  rw[setN_len]
  have hy:(if y=x then some n else s.nm y)=some m:=hy
  split at hy
  ·injection hy with hy;subst hy;exact hb
  ·exact hn.1 y m hy
 have hd2:(s.on.called n x).ns[n]?=some { d with name:=x }:=setN_get s.on n _ d hd
 have hb2:n<(s.on.called n x).ns.length:=Nat.lt_of_lt_of_le hb g3.le
 generalize s.on.called n x=s2 at h2 g3 hd2 hb2
 split at h2
 ·obtain⟨v,s3,h5,h6⟩:=Res.bind_ok h2
  obtain⟨h7,rfl⟩:=mustR_ok h5
  have g4:=Gd.on (b:=n) g3.nm
  obtain⟨g5,l',k3,k⟩:=symsR_w n _ _ h6 g4.nm hb2
  have k4:=g4.nm.2
  exact⟨(g3.trans g4 hb).trans g5 hb,_,k _ hd2,rfl,rfl,fun f h=>(by simp[hf] at h),by simp[hf],fun _=>hf,by show l'.length≤_;simp at k3;omega,by show d.fields.length≤_;rw[hf];simp⟩
 ·split at h2
  ·split at h2
   ·cases h2
   ·injection h2 with _ h2
    subst h2
    have g4:=Gd.on (b:=n) g3.nm
    have g5:=Gd.setN g4.nm n fun d=>{ d with size:=((numO (Pr.hd s2.l).s.data.toList).getD 0:Nat) }
    exact⟨(g3.trans g4 hb).trans g5 hb,_,setN_get s2.on n _ _ hd2,rfl,rfl,fun f h=>(by simp[hf] at h),by simp[hf],fun _=>hf,by show d.syms.length≤_;rw[hy];simp,by show d.fields.length≤_;rw[hf];simp⟩
  ·obtain⟨v,s3,h5,h6⟩:=Res.bind_ok h2
   obtain⟨h7,rfl⟩:=mustR_ok h5
   have g4:=Gd.on (b:=n) g3.nm
   obtain⟨g5,l',k1,k2,k4,k3⟩:=fieldsR_w hT n _ _ h6 g4.nm hb2 (fun f h=>by cases h) List.nodup_nil
   have k5:=g4.nm.2
   exact⟨(g3.trans g4 hb).trans g5 hb,_,k3 _ hd2,rfl,rfl,k1,k2,fun e=>(by omega),by show d.syms.length≤_;rw[hy];simp,by show l'.length≤_;simp at k4;omega⟩
end
theorem typedR_w:∀(fuel:Nat),TW (typedR fuel)
 | fuel,u,a,s,n,s',h,hn=>by
  have hin:=typedR_in hn.1 h
  refine⟨?_,hin⟩
  rw[typedR.eq_def] at h
  simp only at h
  split at h
  ·cases h
  ·next k hk=>
   have hr:=kindR_rng hk
   split at h
   ·cases h
   ·split at h
    ·injection h with _ h
     subst h
     exact Gd.on hn
    ·next hk0=>
     have hn1:NmOk ({ s.on with ns:=s.ns++[Nd.ofKind k] }:PS):=⟨fun x m hm=>by
      have:=hn.1 x m hm
      simp only[List.length_append,List.length_cons,List.length_nil];omega,(Gd.on (b:=0) hn).nm.2⟩
     have hd1:({ s.on with ns:=s.ns++[Nd.ofKind k] }:PS).ns[s.ns.length]?=some (Nd.ofKind k):=by simp
     have hold:∀i,i<s.ns.length→({ s.on with ns:=s.ns++[Nd.ofKind k] }:PS).ns[i]?=s.ns[i]?:=fun i hi=>List.getElem?_append_left hi
     have hl1:({ s.on with ns:=s.ns++[Nd.ofKind k] }:PS).ns.length=s.ns.length+1:=by simp
     generalize ({ s.on with ns:=s.ns++[Nd.ofKind k] }:PS)=s1 at h hn1 hd1 hold hl1
     have fin:∀s2,Gd s.ns.length s1 s2→(∀d,s2.ns[s.ns.length]?=some d→WN s2.ns.length d)→Gd s.ns.length s s2:=fun s2 g hw=>⟨by have:=g.le;omega,g.nm,fun i hi hne=>by rw[g.old i (by omega) hne,hold i hi],fun i d hi hd=>by
      by_cases e:i=s.ns.length
      ·subst e;exact hw d hd
      ·exact g.new i d (by omega) hd⟩
     cases fuel with
     | zero=>cases h
     | succ fuel=>
      have ih:=typedR_w fuel
      simp only at h
      split at h
      ·next e6=>
       obtain⟨_,s2,h1,h2⟩:=Res.bind_ok h
       injection h2 with _ h2;subst h2
       obtain⟨g,x,hx,hh⟩:=itemR_w ih h1 hn1 (by omega)
       refine fin _ g fun d hd=>?_
       rw[hh _ hd1] at hd
       injection hd with hd;subst hd
       exact⟨by show 0≤k;omega,by show k<12;omega,fun y hy=>by rw[List.mem_singleton] at hy;subst hy;exact hx,fun f hf=>(by cases hf),fun _=>⟨x,rfl⟩,List.nodup_nil,fun _=>rfl,⟨by show 1≤_;omega,Nat.zero_le _,Nat.zero_le _⟩⟩
      ·split at h
       ·next e7=>
        obtain⟨_,s2,h1,h2⟩:=Res.bind_ok h
        injection h2 with _ h2;subst h2
        obtain⟨g,x,hx,hh⟩:=itemR_w ih h1 hn1 (by omega)
        refine fin _ g fun d hd=>?_
        rw[hh _ hd1] at hd
        injection hd with hd;subst hd
        exact⟨by show 0≤k;omega,by show k<12;omega,fun y hy=>by rw[List.mem_singleton] at hy;subst hy;exact hx,fun f hf=>(by cases hf),fun _=>⟨x,rfl⟩,List.nodup_nil,fun _=>rfl,⟨by show 1≤_;omega,Nat.zero_le _,Nat.zero_le _⟩⟩
       ·split at h
        ·next e8=>
         obtain⟨_,s2,h1,h2⟩:=Res.bind_ok h
         injection h2 with _ h2;subst h2
         obtain⟨g,l',hx,hm,hh⟩:=unionR_w ih _ _ _ h1 hn1 (by omega) (fun x hx=>(by cases hx))
         have hm2:=(Gd.on (b:=0) hn).nm.2
         refine fin _ g fun d hd=>?_
         rw[hh _ hd1] at hd
         injection hd with hd;subst hd
         exact⟨by show 0≤k;omega,by show k<12;omega,hx,fun f hf=>(by cases hf),fun e=>(by have e:k=6∨k=7:=e;omega),List.nodup_nil,fun _=>rfl,⟨by show l'.length≤_;simp at hm;omega,Nat.zero_le _,Nat.zero_le _⟩⟩
        ·split at h
         ·obtain⟨_,s2,h1,h2⟩:=Res.bind_ok h
          injection h2 with _ h2;subst h2
          obtain⟨g,d',hd',e1,e2,h3,h4,h5,h6,h7⟩:=definedR_w ih h1 hn1 (by omega) _ hd1 rfl rfl
          refine fin _ g fun d hd=>?_
          rw[hd'] at hd
          injection hd with hd;subst hd
          have e1:d'.k=k:=e1
          have e2:d'.items=[]:=e2
          exact⟨by omega,by omega,fun y hy=>(by rw[e2] at hy;cases hy),h3,fun e=>(by omega),h4,fun e=>h5 (by omega),⟨by rw[e2];simp,h6,h7⟩⟩
         ·injection h with _ h
          subst h
          refine fin _ (Gd.same hn1 rfl rfl (Nat.le_refl _)) fun d hd=>?_
          rw[hd1] at hd
          injection hd with hd;subst hd
          exact⟨by show 0≤k;omega,by show k<12;omega,fun y hy=>(by cases hy),fun f hf=>(by cases hf),fun e=>(by have e:k=6∨k=7:=e;omega),List.nodup_nil,fun _=>rfl,⟨Nat.zero_le _,Nat.zero_le _,Nat.zero_le _⟩⟩
theorem tokG_len (s:ByteArray):∀(f a:Nat),(tokG s f a).length≤f+1
 | 0,a=>by unfold tokG;simp
 | f+1,a=>by
  have:=tokG_len s f
  unfold tokG
  split
  ·have:=this (skp s (a+lenAt s a))
   rw[List.length_cons]
   omega
  ·simp
theorem parse_wn (s:ByteArray):∀d∈(parseP s).1,WN (parseP s).1.length d:=by
 rcases parse_cases s with⟨h1,_⟩|⟨hw,n,s',ht,_,hp⟩
 ·rw[h1];exact fun d hd=>(by cases hd)
 ·obtain⟨_,_,_,hz,_⟩:=Cn.back_plain' s (by rw[hp])
  rw[hp]
  intro d hd
  obtain⟨i,hi⟩:=List.getElem?_of_mem hd
  exact (typedR_w 20 _ _ _ _ _ ht ⟨fun x m h=>(by cases h),by
   have:=tokG_len s (s.size+1) (skp s 0)
   show (tokG s (s.size+1) (skp s 0)).length≤5000
   omega⟩).1.new i d (Nat.zero_le _) hi
theorem WN.toE {M:Nat} {d:Nd} (h:WN M d):WE M d.toE:=⟨h.k0,h.k12,fun x hx=>by
  obtain⟨y,hy,rfl⟩:=List.mem_map.1 hx
  have:=h.its y hy
  exact⟨Int.natCast_nonneg _,by omega⟩,fun f hf=>by
  obtain⟨y,hy,rfl⟩:=List.mem_map.1 hf
  have:=h.fls y hy
  exact⟨Int.natCast_nonneg _,by show (y.2.2:Int)<M;omega⟩,fun e=>by
  obtain⟨x,hx⟩:=h.one e
  exact⟨(x:Int),by show d.items.map _=_;rw[hx];rfl⟩,by
  have:d.toE.fields.map (·.1)=d.fields.map (·.1):=by show (d.fields.map _).map _=_;rw[List.map_map];rfl
  rw[this];exact h.nod,fun e=>(by show d.fields.map _=[];rw[h.nof e];rfl),⟨by show (d.items.map _).length≤_;rw[List.length_map];exact h.ln.1,h.ln.2.1,by show (d.fields.map _).length≤_;rw[List.length_map];exact h.ln.2.2⟩⟩
theorem show_we {ns:List Ne} {t:List UInt8} (h:showP ns=some t):0<ns.length∧ns.length≤1500∧∀d∈ns,WE ns.length d:=by
 unfold showP at h
 simp only at h
 split at h
 ·cases h
 ·next h1=>
  split at h
  ·cases h
  ·next h2=>
   have e:=Decidable.not_not.1 fun hc=>h2 (.inr hc)
   have hl:=(parse_lens ⟨(wtyp ns 20 0 ⟨[],0,false⟩).s.toArray⟩).1
   have hw:=parse_wn ⟨(wtyp ns 20 0 ⟨[],0,false⟩).s.toArray⟩
   generalize (parseP ⟨(wtyp ns 20 0 ⟨[],0,false⟩).s.toArray⟩).1=q at hw e hl
   have hln:ns.length=q.length:=by rw[←e,List.length_map]
   refine⟨?_,by omega,fun d hd=>?_⟩
   ·rcases Nat.eq_zero_or_pos ns.length with h0|h0
    ·exfalso
     apply h1
     left
     rw[List.eq_nil_of_length_eq_zero h0]
     rfl
    ·exact h0
   ·rw[←e] at hd
    obtain⟨y,hy,rfl⟩:=List.mem_map.1 hd
    rw[hln]
    exact (hw y hy).toE
end Pr
namespace Rv
open Lx Pr
abbrev P2:=Int×Int
abbrev Qs:=List P2×List P2
def allQ (q:Int→Qs→Bool×Qs):List Int→Qs→Bool×Qs
 | [],s=>(true,s)
 | x::l,s=>if (q x s).1=true then allQ q l (q x s).2 else (false,(q x s).2)
def anyQ (q:Int→Qs→Bool×Qs):List Int→Qs→Bool×Qs
 | [],s=>(false,s)
 | x::l,s=>if (q x s).1=true then (true,(q x s).2) else anyQ q l (q x s).2
def lookQ (q:Int→Qs→Bool×Qs) (nm:ByteArray):List Fd→Bool→Qs→Bool×Qs
 | [],ok,s=>(ok,s)
 | g::l,ok,s=>if g.1=nm then lookQ q nm l (q g.2.2 s).1 (q g.2.2 s).2 else lookQ q nm l ok s
def fldsQ (q:Int→Int→Qs→Bool×Qs) (lb:List Fd):List Fd→Qs→Bool×Qs
 | [],s=>(true,s)
 | f::l,s=>if (lookQ (q f.2.2) f.1 lb f.2.1 s).1=true then fldsQ q lb l (lookQ (q f.2.2) f.1 lb f.2.1 s).2 else (false,(lookQ (q f.2.2) f.1 lb f.2.1 s).2)
def symsIn (xs ys:List ByteArray):Bool:=ys.all fun s=>xs.any fun t=>decide (t=s)
def holdsQ (q:Int→Int→Qs→Bool×Qs) (x y:Ne) (r w:Int) (s:Qs):Bool×Qs:=
 if y.k=8 then allQ (fun t=>q r t) y.items s
 else if x.k=8 then anyQ (fun t=>q t w) x.items s
 else if ¬x.k=y.k∨x.k<6 then (promP x.k y.k,s)
 else if x.k=6∨x.k=7 then q (x.items.getD 0 0) (y.items.getD 0 0) s
 else if ¬x.name=y.name∨(x.k=10∧¬x.size=y.size) then (false,s)
 else if x.k=9∧symsIn x.syms y.syms=false then (false,s)
 else fldsQ q y.fields x.fields s
def readsQ (a b:List Ne):Nat→Int→Int→Qs→Bool×Qs
 | 0,r,w,s=>(true,s)
 | f+1,r,w,s=>if (r,w)∈s.1 then (false,s) else if (r,w)∈s.2 then (true,s)
  else if (holdsQ (readsQ a b f) (a.getD r.toNat neD) (b.getD w.toNat neD) r w (s.1,s.2++[(r,w)])).1=true then holdsQ (readsQ a b f) (a.getD r.toNat neD) (b.getD w.toNat neD) r w (s.1,s.2++[(r,w)])
  else (false,((holdsQ (readsQ a b f) (a.getD r.toNat neD) (b.getD w.toNat neD) r w (s.1,s.2++[(r,w)])).2.1++[(r,w)],(holdsQ (readsQ a b f) (a.getD r.toNat neD) (b.getD w.toNat neD) r w (s.1,s.2++[(r,w)])).2.2))
def InL (l:List P2):Rel:=fun i k=>decide ((i,k)∈l)
theorem InL_mono {l l':List P2} (h:∀p∈l,p∈l'):∀i k,InL l i k=true→InL l' i k=true:=by
 intro i k hk
 unfold InL at hk ⊢
 exact decide_eq_true (h _ (of_decide_eq_true hk))
def Rng (a b:List Ne) (p:P2):Prop:=∃i k:Nat,p=((i:Int),(k:Int))∧i<a.length∧k<b.length
def HAt (a b:List Ne) (R:Rel) (p:P2):Prop:=∀x y (i k:Nat),p=((i:Int),(k:Int))→a[i]?=some x→b[k]?=some y→holdP R x y i k=true
theorem HAt.mono {a b:List Ne} {R R':Rel} {p:P2} (h:HAt a b R p) (hm:∀i k,R i k=true→R' i k=true):HAt a b R' p:=fun x y i k e hx hy=>holdP_mono hm x y i k (h x y i k e hx hy)
open Classical in
noncomputable def GB (a b:List Ne):Rel:=fun i k=>decide (InR a b i k)
open Classical in
theorem GB_iff {a b:List Ne} {i k:Int}:GB a b i k=true↔InR a b i k:=by unfold GB;exact decide_eq_true_iff
theorem GB_stays (a b:List Ne):Stays a b (GB a b):=by
 intro i k x y hx hy h
 obtain⟨R,hs,hr⟩:=GB_iff.1 h
 exact holdP_mono (fun p q hpq=>GB_iff.2 ⟨R,hs,hpq⟩) x y i k (hs i k x y hx hy hr)
theorem length_le {a b:List Ne}:∀ {l:List P2},l.Nodup→(∀p∈l,Rng a b p)→l.length=cnt (InL l) b.length a.length
 | [],_,_=>by
  rw[cnt_none (fun i k=>by simp[InL])];rfl
 | p::l,hn,hr=>by
  obtain⟨i,k,rfl,hi,hk⟩:=hr p (by simp)
  obtain⟨h1,h2⟩:=List.nodup_cons.1 hn
  have ih:=length_le h2 (fun q hq=>hr q (List.mem_cons_of_mem _ hq))
  have e:InL (((i:Int),(k:Int))::l)=putN (InL l) i k:=by
   funext x y
   unfold InL putN
   by_cases hxy:x=i∧y=k
   ·rw[if_pos hxy];simp[hxy]
   ·rw[if_neg hxy]
    congr 1
    simp only[List.mem_cons,Prod.mk.injEq,hxy,false_or]
  rw[e,cnt_put (InL l) b.length i k (by unfold InL;exact decide_eq_false h1) hk a.length hi,List.length_cons,ih]
theorem length_rng {a b:List Ne} {l:List P2} (h1:l.Nodup) (h2:∀p∈l,Rng a b p):l.length≤a.length*b.length:=by
 rw[length_le h1 h2];exact cnt_le _ _ _
structure Run (a b:List Ne) (s s':Qs):Prop where
 n:∃t,s'.1=s.1++t
 ak:∃t,s'.2=s.2++t
 nw:∀p∈s'.1,p∈s.1∨(p∉s.2∧p∈s'.2)
 st:s'.1=s.1→∀p∈s'.2,p∉s.2→HAt a b (InL s'.2) p
structure Fine (a b:List Ne) (s:Qs):Prop where
 nd1:s.1.Nodup
 nd2:s.2.Nodup
 r1:∀p∈s.1,Rng a b p
 r2:∀p∈s.2,Rng a b p
 g:∀p∈s.1,¬InR a b p.1 p.2
theorem Run.refl (a b:List Ne) (s:Qs):Run a b s s:=⟨⟨[],by simp⟩,⟨[],by simp⟩,fun p hp=>.inl hp,fun _ p hp hn=>absurd hp hn⟩
theorem Run.sub {a b:List Ne} {s s':Qs} (h:Run a b s s'):∀p∈s.2,p∈s'.2:=by
 obtain⟨t,e⟩:=h.ak
 intro p hp;rw[e];exact List.mem_append_left _ hp
theorem Run.len {a b:List Ne} {s s':Qs} (h:Run a b s s'):s.2.length≤s'.2.length:=by
 obtain⟨t,e⟩:=h.ak
 rw[e,List.length_append];omega
theorem Run.trans {a b:List Ne} {s s' s'':Qs} (h:Run a b s s') (k:Run a b s' s''):Run a b s s'':=by
 obtain⟨t1,e1⟩:=h.n
 obtain⟨t2,e2⟩:=k.n
 obtain⟨u1,f1⟩:=h.ak
 obtain⟨u2,f2⟩:=k.ak
 refine⟨⟨t1++t2,by rw[e2,e1,List.append_assoc]⟩,⟨u1++u2,by rw[f2,f1,List.append_assoc]⟩,?_,?_⟩
 ·intro p hp
  rcases k.nw p hp with h1|⟨h1,h2⟩
  ·rcases h.nw p h1 with h3|⟨h3,h4⟩
   ·exact .inl h3
   ·exact .inr ⟨h3,k.sub p h4⟩
  ·exact .inr ⟨fun hs=>h1 (h.sub p hs),h2⟩
 ·intro e p hp hn
  have e3:t1++t2=[]:=by
   rw[e2,e1,List.append_assoc] at e
   exact List.append_right_eq_self.1 e
  obtain⟨rfl,rfl⟩:=List.append_eq_nil_iff.1 e3
  by_cases hq:p∈s'.2
  ·exact (h.st (by rw[e1,List.append_nil]) p hq hn).mono (InL_mono k.sub)
  ·exact k.st (by rw[e2,List.append_nil]) p hp hq
def QOk (a b:List Ne) (f:Nat) (q:Qs→Bool×Qs) (p:P2):Prop:=∀s,Fine a b s→a.length*b.length+1≤f+s.2.length→
 Fine a b (q s).2∧Run a b s (q s).2∧(InR a b p.1 p.2→(q s).1=true)∧((q s).1=true→p∈(q s).2.2)
theorem allQ_ok {a b:List Ne} {f:Nat} {q:Int→Qs→Bool×Qs} {c:Int→P2}:∀ {l:List Int},(∀x∈l,QOk a b f (q x) (c x))→∀s,Fine a b s→a.length*b.length+1≤f+s.2.length→
  Fine a b (allQ q l s).2∧Run a b s (allQ q l s).2∧((∀x∈l,InR a b (c x).1 (c x).2)→(allQ q l s).1=true)∧((allQ q l s).1=true→∀x∈l,c x∈(allQ q l s).2.2)
 | [],_,s,hs,hf=>⟨hs,Run.refl a b s,fun _=>rfl,fun _ x hx=>by cases hx⟩
 | x::l,h,s,hs,hf=>by
  obtain⟨h1,h2,h3,h4⟩:=h x (by simp) s hs hf
  unfold allQ
  by_cases hq:(q x s).1=true
  ·rw[if_pos hq]
   obtain⟨g1,g2,g3,g4⟩:=allQ_ok (l:=l) (fun y hy=>h y (List.mem_cons_of_mem _ hy)) (q x s).2 h1 (by have:=h2.len;omega)
   refine⟨g1,h2.trans g2,fun hg=>g3 fun y hy=>hg y (by simp[hy]),fun ho y hy=>?_⟩
   rcases List.mem_cons.1 hy with rfl|hy
   ·exact g2.sub _ (h4 hq)
   ·exact g4 ho y hy
  ·rw[if_neg hq]
   exact⟨h1,h2,fun hg=>absurd (h3 (hg x (by simp))) hq,fun ho=>by cases ho⟩
theorem anyQ_ok {a b:List Ne} {f:Nat} {q:Int→Qs→Bool×Qs} {c:Int→P2}:∀ {l:List Int},(∀x∈l,QOk a b f (q x) (c x))→∀s,Fine a b s→a.length*b.length+1≤f+s.2.length→
  Fine a b (anyQ q l s).2∧Run a b s (anyQ q l s).2∧((∃x∈l,InR a b (c x).1 (c x).2)→(anyQ q l s).1=true)∧((anyQ q l s).1=true→∃x∈l,c x∈(anyQ q l s).2.2)
 | [],_,s,hs,hf=>⟨hs,Run.refl a b s,fun ⟨x,hx,_⟩=>(by cases hx),fun h=>(by cases h)⟩
 | x::l,h,s,hs,hf=>by
  obtain⟨h1,h2,h3,h4⟩:=h x (by simp) s hs hf
  unfold anyQ
  by_cases hq:(q x s).1=true
  ·rw[if_pos hq]
   exact⟨h1,h2,fun _=>rfl,fun _=>⟨x,by simp,h4 hq⟩⟩
  ·rw[if_neg hq]
   obtain⟨g1,g2,g3,g4⟩:=anyQ_ok (l:=l) (fun y hy=>h y (List.mem_cons_of_mem _ hy)) (q x s).2 h1 (by have:=h2.len;omega)
   refine⟨g1,h2.trans g2,fun ⟨y,hy,hg⟩=>?_,fun ho=>?_⟩
   ·rcases List.mem_cons.1 hy with rfl|hy
    ·exact absurd (h3 hg) hq
    ·exact g3 ⟨y,hy,hg⟩
   ·obtain⟨y,hy,hm⟩:=g4 ho
    exact⟨y,by simp[hy],hm⟩
theorem lookQ_none {q:Int→Qs→Bool×Qs} {nm:ByteArray}:∀ {l:List Fd},(∀g∈l,¬g.1=nm)→∀ok s,lookQ q nm l ok s=(ok,s)
 | [],_,ok,s=>rfl
 | g::l,h,ok,s=>by
  unfold lookQ
  rw[if_neg (h g (by simp))]
  exact lookQ_none (fun x hx=>h x (by simp[hx])) ok s
theorem lookQ_eq {q:Int→Qs→Bool×Qs} {nm:ByteArray}:∀ {l:List Fd},(l.map (·.1)).Nodup→∀ok s,lookQ q nm l ok s=match l.find? fun g=>decide (g.1=nm) with
  | none=>(ok,s)
  | some g=>q g.2.2 s
 | [],_,ok,s=>rfl
 | g::l,h,ok,s=>by
  obtain⟨h1,h2⟩:=List.nodup_cons.1 h
  unfold lookQ
  by_cases e:g.1=nm
  ·rw[if_pos e,List.find?_cons_of_pos (by simp[e])]
   exact lookQ_none (fun x hx hn=>h1 (List.mem_map.2 ⟨x,hx,hn.trans e.symm⟩)) _ _
  ·rw[if_neg e,List.find?_cons_of_neg (by simp[e])]
   exact lookQ_eq h2 ok s
theorem fldsQ_ok {a b:List Ne} {f:Nat} {q:Int→Int→Qs→Bool×Qs} {lb:List Fd} (hn:(lb.map (·.1)).Nodup):∀ {l:List Fd},(∀x∈l,∀g∈lb,QOk a b f (q x.2.2 g.2.2) (x.2.2,g.2.2))→∀s,Fine a b s→a.length*b.length+1≤f+s.2.length→
  Fine a b (fldsQ q lb l s).2∧Run a b s (fldsQ q lb l s).2∧((∀x∈l,fieldP (GB a b) lb x=true)→(fldsQ q lb l s).1=true)∧((fldsQ q lb l s).1=true→∀x∈l,fieldP (InL (fldsQ q lb l s).2.2) lb x=true)
 | [],_,s,hs,hf=>⟨hs,Run.refl a b s,fun _=>rfl,fun _ x hx=>by cases hx⟩
 | x::l,h,s,hs,hf=>by
  have key:Fine a b (lookQ (q x.2.2) x.1 lb x.2.1 s).2∧Run a b s (lookQ (q x.2.2) x.1 lb x.2.1 s).2∧(fieldP (GB a b) lb x=true→(lookQ (q x.2.2) x.1 lb x.2.1 s).1=true)∧((lookQ (q x.2.2) x.1 lb x.2.1 s).1=true→fieldP (InL (lookQ (q x.2.2) x.1 lb x.2.1 s).2.2) lb x=true):=by
   rw[lookQ_eq hn]
   unfold fieldP
   cases e:lb.find? fun g=>decide (g.1=x.1) with
   | none=>exact⟨hs,Run.refl a b s,fun h=>h,fun h=>h⟩
   | some g=>
    obtain⟨h1,h2,h3,h4⟩:=h x (by simp) g (List.mem_of_find?_eq_some e) s hs hf
    exact⟨h1,h2,fun hg=>h3 (GB_iff.1 hg),fun ho=>decide_eq_true (h4 ho)⟩
  obtain⟨h1,h2,h3,h4⟩:=key
  unfold fldsQ
  by_cases hq:(lookQ (q x.2.2) x.1 lb x.2.1 s).1=true
  ·rw[if_pos hq]
   obtain⟨g1,g2,g3,g4⟩:=fldsQ_ok hn (l:=l) (fun y hy=>h y (List.mem_cons_of_mem _ hy)) (lookQ (q x.2.2) x.1 lb x.2.1 s).2 h1 (by have:=h2.len;omega)
   refine⟨g1,h2.trans g2,fun hg=>g3 fun y hy=>hg y (by simp[hy]),fun ho y hy=>?_⟩
   rcases List.mem_cons.1 hy with rfl|hy
   ·exact fieldP_mono (InL_mono g2.sub) _ _ (h4 hq)
   ·exact g4 ho y hy
  ·rw[if_neg hq]
   exact⟨h1,h2,fun hg=>absurd (h3 (hg x (by simp))) hq,fun ho=>by cases ho⟩
theorem holdsQ_ok {a b:List Ne} {f:Nat} {q:Int→Int→Qs→Bool×Qs} (hq:∀p,Rng a b p→QOk a b f (q p.1 p.2) p) {x y:Ne} (hx:WE a.length x) (hy:WE b.length y) {i k:Nat} (hi:i<a.length) (hk:k<b.length) :
  ∀s,Fine a b s→a.length*b.length+1≤f+s.2.length→Fine a b (holdsQ q x y i k s).2∧Run a b s (holdsQ q x y i k s).2∧(holdP (GB a b) x y i k=true→(holdsQ q x y i k s).1=true)∧((holdsQ q x y i k s).1=true→holdP (InL (holdsQ q x y i k s).2.2) x y i k=true):=by
 intro s hs hf
 have rx:∀t∈x.items,∃j:Nat,t=j∧j<a.length:=fun t ht=>⟨t.toNat,by have:=hx.its t ht;omega,by have:=hx.its t ht;omega⟩
 have ry:∀t∈y.items,∃j:Nat,t=j∧j<b.length:=fun t ht=>⟨t.toNat,by have:=hy.its t ht;omega,by have:=hy.its t ht;omega⟩
 unfold holdsQ
 by_cases y8:y.k=8
 ·rw[if_pos y8]
  obtain⟨h1,h2,h3,h4⟩:=allQ_ok (c:=fun t=>((i:Int),t)) (q:=fun t=>q i t) (l:=y.items) (fun t ht=>by
   obtain⟨j,rfl,hj⟩:=ry t ht
   exact hq ((i:Int),(j:Int)) ⟨i,j,rfl,hi,hj⟩) s hs hf
  refine⟨h1,h2,fun hh=>h3 fun t ht=>?_,fun ho=>?_⟩
  ·unfold holdP at hh
   rw[if_pos y8,List.all_eq_true] at hh
   exact GB_iff.1 (hh t ht)
  ·unfold holdP
   rw[if_pos y8,List.all_eq_true]
   exact fun t ht=>decide_eq_true (h4 ho t ht)
 rw[if_neg y8]
 by_cases x8:x.k=8
 ·rw[if_pos x8]
  obtain⟨h1,h2,h3,h4⟩:=anyQ_ok (c:=fun t=>(t,(k:Int))) (q:=fun t=>q t k) (l:=x.items) (fun t ht=>by
   obtain⟨j,rfl,hj⟩:=rx t ht
   exact hq ((j:Int),(k:Int)) ⟨j,k,rfl,hj,hk⟩) s hs hf
  refine⟨h1,h2,fun hh=>h3 ?_,fun ho=>?_⟩
  ·unfold holdP at hh
   rw[if_neg y8,if_pos x8,List.any_eq_true] at hh
   obtain⟨t,ht,hg⟩:=hh
   exact⟨t,ht,GB_iff.1 hg⟩
  ·unfold holdP
   rw[if_neg y8,if_pos x8,List.any_eq_true]
   obtain⟨t,ht,hm⟩:=h4 ho
   exact⟨t,ht,decide_eq_true hm⟩
 rw[if_neg x8]
 by_cases xy:¬x.k=y.k∨x.k<6
 ·rw[if_pos xy]
  have e:∀R,holdP R x y i k=promP x.k y.k:=by
   intro R
   unfold holdP
   rw[if_neg y8,if_neg x8]
   by_cases h:x.k=y.k
   ·have h6:x.k<6:=by omega
    have:=hx.k0
    rw[if_neg (by simpa using h),if_neg (by omega),if_neg (by omega),if_neg (by omega),if_neg (by omega)]
    unfold promP
    simp only[←h,decide_true,Bool.true_or,Bool.and_true]
    simp
    omega
   ·rw[if_pos h]
  exact⟨hs,Run.refl a b s,fun h=>by rw[←e];exact h,fun h=>by rw[e];exact h⟩
 rw[if_neg xy]
 have xyk:x.k=y.k:=by by_cases h:x.k=y.k<;>simp_all
 have x6:¬x.k<6:=fun h=>xy (.inr h)
 by_cases x67:x.k=6∨x.k=7
 ·rw[if_pos x67]
  obtain⟨t,ht⟩:=hx.one x67
  obtain⟨u,hu⟩:=hy.one (by rw[←xyk];exact x67)
  obtain⟨j,rfl,hj⟩:=rx t (by rw[ht];simp)
  obtain⟨m,rfl,hm⟩:=ry u (by rw[hu];simp)
  have e:∀R,holdP R x y i k=R j m:=by
   intro R
   unfold holdP
   rw[if_neg y8,if_neg x8,if_neg (by simpa using xyk),if_pos x67,ht,hu]
   rfl
  rw[ht,hu]
  obtain⟨h1,h2,h3,h4⟩:=hq ((j:Int),(m:Int)) ⟨j,m,rfl,hj,hm⟩ s hs hf
  exact⟨h1,h2,fun h=>h3 (GB_iff.1 (by rw[←e (GB a b)];exact h)),fun h=>by rw[e];exact decide_eq_true (h4 h)⟩
 rw[if_neg x67]
 by_cases hnm:¬x.name=y.name∨(x.k=10∧¬x.size=y.size)
 ·rw[if_pos hnm]
  refine⟨hs,Run.refl a b s,fun h=>?_,fun h=>by cases h⟩
  exfalso
  unfold holdP at h
  rw[if_neg y8,if_neg x8,if_neg (by simpa using xyk),if_neg x67] at h
  have:=hx.k12
  rcases hnm with hnm|⟨h10,hsz⟩
  ·by_cases h9:x.k=9
   ·rw[if_pos h9] at h;simp[hnm] at h
   ·rw[if_neg h9] at h
    by_cases h10:x.k=10
    ·rw[if_pos h10] at h;simp[hnm] at h
    ·rw[if_neg h10,if_pos (by omega)] at h;simp[hnm] at h
  ·rw[if_neg (by omega),if_pos h10] at h
   simp[hsz] at h
 rw[if_neg hnm]
 have hname:x.name=y.name:=by by_cases h:x.name=y.name<;>simp_all
 have h12:=hx.k12
 by_cases hsy:x.k=9∧symsIn x.syms y.syms=false
 ·rw[if_pos hsy]
  refine⟨hs,Run.refl a b s,fun h=>?_,fun h=>by cases h⟩
  exfalso
  unfold holdP at h
  rw[if_neg y8,if_neg x8,if_neg (by simpa using xyk),if_neg x67,if_pos hsy.1] at h
  have:=hsy.2
  unfold symsIn at this
  rw[this] at h
  simp at h
 rw[if_neg hsy]
 have hpair:∀u∈x.fields,∀g∈y.fields,QOk a b f (q u.2.2 g.2.2) (u.2.2,g.2.2):=by
  intro u hu g hg
  have h1:=hx.fls u hu
  have h2:=hy.fls g hg
  exact hq (u.2.2,g.2.2) ⟨u.2.2.toNat,g.2.2.toNat,by ext<;>simp<;>omega,by omega,by omega⟩
 obtain⟨h1,h2,h3,h4⟩:=fldsQ_ok hy.nod (l:=x.fields) hpair s hs hf
 have e:∀R,holdP R x y i k=x.fields.all (fieldP R y.fields):=by
  intro R
  unfold holdP
  rw[if_neg y8,if_neg x8,if_neg (by simpa using xyk),if_neg x67]
  by_cases h9:x.k=9
  ·rw[if_pos h9]
   have:symsIn x.syms y.syms=true:=by cases h:symsIn x.syms y.syms<;>simp_all
   unfold symsIn at this
   rw[this,hx.nof (by omega)]
   simp[hname]
  ·rw[if_neg h9]
   by_cases h10:x.k=10
   ·rw[if_pos h10,hx.nof (by omega)]
    have:x.size=y.size:=by by_cases h:x.size=y.size<;>simp_all
    simp[hname,this]
   ·rw[if_neg h10,if_pos (by omega)]
    simp[hname]
 refine⟨h1,h2,fun h=>h3 ?_,fun h=>?_⟩
 ·rw[e,List.all_eq_true] at h;exact h
 ·rw[e,List.all_eq_true];exact h4 h
theorem readsQ_ok {a b:List Ne} (ha:∀d∈a,WE a.length d) (hb:∀d∈b,WE b.length d):∀(f:Nat) (p:P2),Rng a b p→QOk a b f (readsQ a b f p.1 p.2) p
 | 0,p,hp,s,hs,hf=>by
  have:=length_rng hs.nd2 hs.r2
  omega
 | f+1,p,hp,s,hs,hf=>by
  obtain⟨i,k,rfl,hi,hk⟩:=hp
  simp only
  unfold readsQ
  by_cases h1:((i:Int),(k:Int))∈s.1
  ·rw[if_pos h1]
   exact⟨hs,Run.refl a b s,fun hg=>absurd hg (hs.g _ h1),fun h=>by cases h⟩
  rw[if_neg h1]
  by_cases h2:((i:Int),(k:Int))∈s.2
  ·rw[if_pos h2]
   exact⟨hs,Run.refl a b s,fun _=>rfl,fun _=>h2⟩
  rw[if_neg h2]
  have hx:a[i]?=some (a.getD (i:Int).toNat neD):=by simp[List.getD,List.getElem?_eq_getElem hi]
  have hy:b[k]?=some (b.getD (k:Int).toNat neD):=by simp[List.getD,List.getElem?_eq_getElem hk]
  generalize a.getD (i:Int).toNat neD=x at hx ⊢
  generalize b.getD (k:Int).toNat neD=y at hy ⊢
  have hs0:Fine a b (s.1,s.2++[((i:Int),(k:Int))]):=⟨hs.nd1,by
   show (s.2++[((i:Int),(k:Int))]).Nodup
   rw[List.nodup_append]
   exact⟨hs.nd2,by simp,fun u hu v hv e=>by
    rw[List.mem_singleton] at hv
    exact h2 (by rw[←hv,←e];exact hu)⟩,hs.r1,fun u hu=>by
   rcases List.mem_append.1 hu with hu|hu
   ·exact hs.r2 u hu
   ·rw[List.mem_singleton] at hu;rw[hu];exact⟨i,k,rfl,hi,hk⟩,hs.g⟩
  obtain⟨g1,g2,g3,g4⟩:=holdsQ_ok (f:=f) (q:=readsQ a b f) (readsQ_ok ha hb f) (ha x (List.mem_of_getElem? hx)) (hb y (List.mem_of_getElem? hy)) hi hk (s.1,s.2++[((i:Int),(k:Int))]) hs0 (by
   show _≤f+(s.2++[((i:Int),(k:Int))]).length
   rw[List.length_append,List.length_singleton];omega)
  generalize holdsQ (readsQ a b f) x y i k (s.1,s.2++[((i:Int),(k:Int))])=o at g1 g2 g3 g4 ⊢
  have hin:((i:Int),(k:Int))∈o.2.2:=g2.sub _ (by simp)
  obtain⟨t1,e1⟩:=g2.n
  obtain⟨t2,e2⟩:=g2.ak
  simp only at e1 e2
  by_cases ho:o.1=true
  ·rw[if_pos ho]
   refine⟨g1,⟨⟨t1,e1⟩,⟨[((i:Int),(k:Int))]++t2,by rw[e2,List.append_assoc]⟩,fun p hp=>?_,fun e p hp hn=>?_⟩,fun _=>ho,fun _=>hin⟩
   ·rcases g2.nw p hp with h|⟨h,h'⟩
    ·exact .inl h
    ·exact .inr ⟨fun hs=>h (List.mem_append_left _ hs),h'⟩
   ·by_cases hpe:p=((i:Int),(k:Int))
    ·subst hpe
     intro x' y' i' k' ee hx' hy'
     simp only[Prod.mk.injEq] at ee
     obtain⟨rfl,rfl⟩:i=i'∧k=k':=⟨by omega,by omega⟩
     rw[hx] at hx';rw[hy] at hy'
     injection hx' with hx'
     injection hy' with hy'
     rw[←hx',←hy']
     exact g4 ho
    ·refine g2.st e p hp ?_
     simp only[List.mem_append,List.mem_singleton,not_or]
     exact⟨hn,hpe⟩
  ·rw[if_neg ho]
   have hno:((i:Int),(k:Int))∉o.2.1:=by
    intro h
    rcases g2.nw _ h with h|⟨h,_⟩
    ·exact h1 h
    ·exact h (by simp)
   refine⟨⟨?_,g1.nd2,fun p hp=>?_,g1.r2,fun p hp=>?_⟩,⟨⟨t1++[((i:Int),(k:Int))],by simp[e1]⟩,⟨[((i:Int),(k:Int))]++t2,by simp[e2]⟩,fun p hp=>?_,fun e=>?_⟩,fun hg=>?_,fun h=>by cases h⟩
   ·show (o.2.1++[((i:Int),(k:Int))]).Nodup
    rw[List.nodup_append]
    exact⟨g1.nd1,by simp,fun u hu v hv e=>by
     rw[List.mem_singleton] at hv
     exact hno (by rw[←hv,←e];exact hu)⟩
   ·rcases List.mem_append.1 hp with hp|hp
    ·exact g1.r1 p hp
    ·rw[List.mem_singleton] at hp;rw[hp];exact⟨i,k,rfl,hi,hk⟩
   ·rcases List.mem_append.1 hp with hp|hp
    ·exact g1.g p hp
    ·rw[List.mem_singleton] at hp
     rw[hp]
     exact fun hg=>ho (g3 (GB_stays a b i k x y hx hy (GB_iff.2 hg)))
   ·rcases List.mem_append.1 hp with hp|hp
    ·rcases g2.nw p hp with h|⟨h,h'⟩
     ·exact .inl h
     ·exact .inr ⟨fun hs=>h (List.mem_append_left _ hs),h'⟩
    ·rw[List.mem_singleton] at hp
     rw[hp]
     exact .inr ⟨h2,hin⟩
   ·exfalso
    simp only[e1] at e
    rw[List.append_assoc] at e
    have:=List.append_right_eq_self.1 e
    simp at this
   ·exact absurd (g3 (GB_stays a b i k x y hx hy (GB_iff.2 hg))) ho
theorem asked {a b:List Ne} (ha:∀d∈a,WE a.length d) (hb:∀d∈b,WE b.length d) {N:List P2} (hN:Fine a b (N,[])) {f i k:Nat} (hf:a.length*b.length+1≤f) (hi:i<a.length) (hk:k<b.length) :
  Fine a b ((readsQ a b f i k (N,[])).2.1,[])∧(∃t,(readsQ a b f i k (N,[])).2.1=N++t)∧((readsQ a b f i k (N,[])).1=false→¬InR a b i k)∧((readsQ a b f i k (N,[])).1=true→(readsQ a b f i k (N,[])).2.1=N→InR a b i k):=by
 obtain⟨h1,h2,h3,h4⟩:=readsQ_ok ha hb f ((i:Int),(k:Int)) ⟨i,k,rfl,hi,hk⟩ (N,[]) hN (by simpa using hf)
 simp only at h1 h2 h3 h4
 refine⟨⟨h1.nd1,by simp,h1.r1,by simp,h1.g⟩,h2.n,fun h hg=>(by rw[h3 hg] at h;cases h),fun h e=>⟨InL (readsQ a b f i k (N,[])).2.2,?_,decide_eq_true (h4 h)⟩⟩
 intro p q x y hx hy hR
 exact h2.st e ((p:Int),(q:Int)) (of_decide_eq_true hR) (by simp) x y p q rfl hx hy
end Rv
namespace Rv
open Go.ChangeShapes Go.WideShapes Go.ChangeAt Go.RowKit
open Base Lx Mi Pr
def idxP {α:Type} (p:α→Bool):List α→Int
 | [] => -1
 | x::l=>if p x=true then 0 else if idxP p l<0 then -1 else idxP p l+1
def NoP {α:Type} (p:α→Bool) (l:List α) (i:Nat):Prop:=∀(j:Nat) x,j<i→l[j]?=some x→p x=false
theorem idxP_ge {α:Type} (p:α→Bool):∀l,-1≤idxP p l
 | []=>by simp[idxP]
 | x::l=>by
  have:=idxP_ge p l
  unfold idxP
  split
  ·omega
  ·split<;>omega
theorem idxP_hit {α:Type} {p:α→Bool}:∀ {l:List α} {i:Nat} {x:α},NoP p l i→l[i]?=some x→p x=true→idxP p l=i
 | [],i,x,_,h,_=>by simp at h
 | y::l,0,x,_,h,hp=>by
  simp at h;subst h
  simp[idxP,hp]
 | y::l,i+1,x,hn,h,hp=>by
  have h0:=hn 0 y (by omega) rfl
  have ih:=idxP_hit (l:=l) (i:=i) (x:=x) (fun j z hj hz=>hn (j+1) z (by omega) (by simpa using hz)) (by simpa using h) hp
  unfold idxP
  rw[if_neg (by simp[h0]),ih,if_neg (by omega)]
  omega
theorem idxP_none {α:Type} {p:α→Bool}:∀ {l:List α},NoP p l l.length→idxP p l = -1
 | [],_=>rfl
 | y::l,hn=>by
  have h0:=hn 0 y (by simp) rfl
  have ih:=idxP_none (l:=l) (p:=p) (fun j z hj hz=>hn (j+1) z (by simpa using hj) (by simpa using hz))
  unfold idxP
  rw[if_neg (by simp[h0]),ih,if_pos (by omega)]
theorem idxP_any {α:Type} (p:α→Bool):∀l:List α,decide (0≤idxP p l)=l.any p
 | []=>rfl
 | x::l=>by
  have ih:=idxP_any p l
  unfold idxP
  by_cases hx:p x=true
  ·simp[hx]
  ·rw[if_neg hx,List.any_cons,←ih]
   have hx:p x=false:=by simpa using hx
   by_cases h:idxP p l<0
   ·simp[h,hx]
   ·rw[if_neg h,hx]
    have:0≤idxP p l:=by omega
    simp[this]
    omega
theorem idxP_find {α:Type} {p:α→Bool}:∀ {l:List α} {i:Nat},idxP p l=i→∃x,l[i]?=some x∧l.find? p=some x
 | [],i,h=>by simp[idxP] at h
 | x::l,i,h=>by
  unfold idxP at h
  by_cases hx:p x=true
  ·rw[if_pos hx] at h
   obtain rfl:i=0:=by omega
   exact⟨x,rfl,by simp[hx]⟩
  ·rw[if_neg hx] at h
   split at h
   ·omega
   ·next hn=>
    obtain⟨m,rfl⟩:∃m,i=m+1:=⟨i-1,by omega⟩
    obtain⟨y,h1,h2⟩:=idxP_find (p:=p) (l:=l) (i:=m) (by omega)
    exact⟨y,by simpa using h1,by simp[hx,h2]⟩
theorem idxP_find_none {α:Type} {p:α→Bool}:∀ {l:List α},idxP p l<0→l.find? p=none
 | [],_=>rfl
 | x::l,h=>by
  unfold idxP at h
  by_cases hx:p x=true
  ·rw[if_pos hx] at h;omega
  ·rw[if_neg hx] at h
   split at h
   ·next hn=>simp[hx,idxP_find_none hn]
   ·omega
theorem fldsZ_cell {w:World} {A:Option Addr} {l:List (ByteArray×Bool×Int)} (hr:Rd w A (fldsZ l)) (j:Nat) (x:ByteArray×Bool×Int) (hx:l[j]?=some x):∃b off,A=some ⟨b,off,none⟩∧w.cell? ⟨b,off+j*3,none⟩=some (.string x.1)∧w.cell? ⟨b,off+j*3+1,none⟩=some (.bool x.2.1)∧w.cell? ⟨b,off+j*3+2,none⟩=some (.int .i64 x.2.2):=by
 have hi:=(List.getElem?_eq_some_iff.1 hx).1
 obtain⟨b,off,e,h⟩:=hr (fun e=>by have:=fldsZ_at l j x hx 0 (by omega);rw[e] at this;simp[fldZ] at this)
 refine⟨b,off,e,?_,?_,?_⟩
 ·exact h (j*3+0) _ (by rw[fldsZ_at l j x hx 0 (by omega)];rfl)
 ·rw[Nat.add_assoc];exact h (j*3+1) _ (by rw[fldsZ_at l j x hx 1 (by omega)];rfl)
 ·rw[Nat.add_assoc];exact h (j*3+2) _ (by rw[fldsZ_at l j x hx 2 (by omega)];rfl)
theorem idxInt_any {F:FuncId} (q1 q2:Addr) (A:Option Addr) (c:Nat) (l:List (Int)) (p:Int→Bool) (w:World) (hr:Rd w A (intsZ l)) (n:Nat) (hn:l.length=n) (hl:n≤100000)
  (hF:∀args w,(callFunc F args).run Tryz.prog w=.ok (.enter F args) w)
  (hf:∀x∈l,∀W,Ext w W→Calls Tryz.prog F #[.int .i64 x,.pointer (some q1),.pointer (some q2)] W fun en w'=>en=.returned (.bool (p x))∧Ext W w') :
  Calls Tryz.prog 116 #[.slice A n c,.func (.func F) #[] #[.pointer (some q1),.pointer (some q2)]] w fun en w'=>en=.returned (.int .i64 (idxP p l))∧Ext w w':=by
 have Hn:=Lib.hid hn
 clear hn
 replace hf:=Lib.hid hf
 obtain⟨IX,hIX⟩:∃o,Hid (idxP p l=o):=⟨_,rfl⟩
 rw[hIX.out]
 go_enter Tryz.func116,Tryz.ntmps116
 go_wp2_with fail
 go_loopw [5,8,9,10,11,12,13,14,15,16,18] (fun v5 v8 v9 v10 v11 v12 v13 v14 v15 v16 v18 wr=>∃i:Nat,i≤n∧v8=.int .i64 i∧NoP p l i∧Ext w wr) (fun _ v8 _ _ _ _ _ _ _ _ _ _=>n-(intOf v8).toNat)
 case atStart=>exact⟨0,by omega,rfl,fun k f h=>by omega,Ext.refl w⟩
 case round=>
  obtain⟨i,hi,rfl,h1,hx⟩:=hrel
  by_cases hin:i<n
  ·have hin':(i:Int)<(n:Int):=by omega
   obtain⟨x,hme⟩:∃m,l[i]?=some m:=⟨_,List.getElem?_eq_getElem (by have:=Hn.out;omega)⟩
   obtain⟨b,off,rfl,hz,hc⟩:=(hr.ext hx).at_ (k:=i) (by simp only[intsZ,List.length_map];have:=Hn.out;omega)
   clear hz
   have hck:wr.cell? ⟨b,off+i,none⟩=some (.int .i64 x):=hc i _ (by simp[intsZ,hme])
   clear hc
   have hb:=hf.out x (List.mem_of_getElem? hme) wr hx
   have Hme:=Lib.hid hme
   clear hme
   obtain⟨BB,hBB⟩:∃o,Hid (p x=o):=⟨_,rfl⟩
   rw[hBB.out] at hb
   cases BB with
   | true=>
    have hat:IX=(i:Int):=by rw[←hIX.out];exact idxP_hit h1 Hme.out hBB.out
    have Hat:=Lib.hid hat
    clear hat
    go_wp2_with fail
    refine hb.mono ?_
    rintro e w1 ⟨rfl,hx2⟩
    go_wp2_with fail
    go_ret
    exact⟨by rw[Hat.out];rfl,hx.trans hx2⟩
   | false=>
    go_wp2_with fail
    refine hb.mono ?_
    rintro e w1 ⟨rfl,hx2⟩
    go_wp2_with fail
    refine⟨⟨i+1,by omega,by go_num,?_,hx.trans hx2⟩,by simp[intOf];omega⟩
    intro j y hk hy
    rcases Nat.lt_or_ge j i with h|h
    ·exact h1 j y h hy
    ·obtain rfl:j=i:=by omega
     rw[Hme.out] at hy
     injection hy with hy
     rw[←hy];exact hBB.out
  ·obtain rfl:i=n:=by omega
   have hat:IX = -1:=by
    rw[←hIX.out]
    exact idxP_none (by rw[Hn.out];exact h1)
   have Hat:=Lib.hid hat
   clear hat
   go_wp2_with fail
   go_ret
   exact⟨by rw[Hat.out];rfl,hx⟩
theorem hasInt_any {F:FuncId} (q1 q2:Addr) (A:Option Addr) (c:Nat) (l:List (Int)) (p:Int→Bool) (w:World) (hr:Rd w A (intsZ l)) (n:Nat) (hn:l.length=n) (hl:n≤100000)
  (hF:∀args w,(callFunc F args).run Tryz.prog w=.ok (.enter F args) w)
  (hf:∀x∈l,∀W,Ext w W→Calls Tryz.prog F #[.int .i64 x,.pointer (some q1),.pointer (some q2)] W fun en w'=>en=.returned (.bool (p x))∧Ext W w') :
  Calls Tryz.prog 95 #[.slice A n c,.func (.func F) #[] #[.pointer (some q1),.pointer (some q2)]] w fun en w'=>en=.returned (.bool (l.any p))∧Ext w w':=by
 have hi:=idxInt_any q1 q2 A c l p w hr n hn hl hF hf
 rw[←idxP_any]
 obtain⟨r,hr'⟩:∃o,Hid (idxP p l=o):=⟨_,rfl⟩
 rw[hr'.out] at hi ⊢
 clear hf hF
 go_enter Tryz.func95,Tryz.ntmps95
 go_wp2_with fail
 refine hi.mono ?_
 rintro e w1 ⟨rfl,hx⟩
 go_wp2_with fail
 go_ret
 exact⟨rfl,hx⟩
theorem idxStr_any {F:FuncId} (q1:Addr) (A:Option Addr) (c:Nat) (l:List (ByteArray)) (p:ByteArray→Bool) (w:World) (hr:Rd w A (txs l)) (n:Nat) (hn:l.length=n) (hl:n≤100000)
  (hF:∀args w,(callFunc F args).run Tryz.prog w=.ok (.enter F args) w)
  (hf:∀x∈l,∀W,Ext w W→Calls Tryz.prog F #[.string x,.pointer (some q1)] W fun en w'=>en=.returned (.bool (p x))∧Ext W w') :
  Calls Tryz.prog 117 #[.slice A n c,.func (.func F) #[] #[.pointer (some q1)]] w fun en w'=>en=.returned (.int .i64 (idxP p l))∧Ext w w':=by
 have Hn:=Lib.hid hn
 clear hn
 replace hf:=Lib.hid hf
 obtain⟨IX,hIX⟩:∃o,Hid (idxP p l=o):=⟨_,rfl⟩
 rw[hIX.out]
 go_enter Tryz.func117,Tryz.ntmps117
 go_wp2_with fail
 go_loopw [5,8,9,10,11,12,13,14,15,16,18] (fun v5 v8 v9 v10 v11 v12 v13 v14 v15 v16 v18 wr=>∃i:Nat,i≤n∧v8=.int .i64 i∧NoP p l i∧Ext w wr) (fun _ v8 _ _ _ _ _ _ _ _ _ _=>n-(intOf v8).toNat)
 case atStart=>exact⟨0,by omega,rfl,fun k f h=>by omega,Ext.refl w⟩
 case round=>
  obtain⟨i,hi,rfl,h1,hx⟩:=hrel
  by_cases hin:i<n
  ·have hin':(i:Int)<(n:Int):=by omega
   obtain⟨x,hme⟩:∃m,l[i]?=some m:=⟨_,List.getElem?_eq_getElem (by have:=Hn.out;omega)⟩
   obtain⟨b,off,rfl,hz,hc⟩:=(hr.ext hx).at_ (k:=i) (by simp only[txs,List.length_map];have:=Hn.out;omega)
   clear hz
   have hck:wr.cell? ⟨b,off+i,none⟩=some (.string x):=hc i _ (by simp[txs,hme])
   clear hc
   have hb:=hf.out x (List.mem_of_getElem? hme) wr hx
   have Hme:=Lib.hid hme
   clear hme
   obtain⟨BB,hBB⟩:∃o,Hid (p x=o):=⟨_,rfl⟩
   rw[hBB.out] at hb
   cases BB with
   | true=>
    have hat:IX=(i:Int):=by rw[←hIX.out];exact idxP_hit h1 Hme.out hBB.out
    have Hat:=Lib.hid hat
    clear hat
    go_wp2_with fail
    refine hb.mono ?_
    rintro e w1 ⟨rfl,hx2⟩
    go_wp2_with fail
    go_ret
    exact⟨by rw[Hat.out];rfl,hx.trans hx2⟩
   | false=>
    go_wp2_with fail
    refine hb.mono ?_
    rintro e w1 ⟨rfl,hx2⟩
    go_wp2_with fail
    refine⟨⟨i+1,by omega,by go_num,?_,hx.trans hx2⟩,by simp[intOf];omega⟩
    intro j y hk hy
    rcases Nat.lt_or_ge j i with h|h
    ·exact h1 j y h hy
    ·obtain rfl:j=i:=by omega
     rw[Hme.out] at hy
     injection hy with hy
     rw[←hy];exact hBB.out
  ·obtain rfl:i=n:=by omega
   have hat:IX = -1:=by
    rw[←hIX.out]
    exact idxP_none (by rw[Hn.out];exact h1)
   have Hat:=Lib.hid hat
   clear hat
   go_wp2_with fail
   go_ret
   exact⟨by rw[Hat.out];rfl,hx⟩
theorem hasStr_any {F:FuncId} (q1:Addr) (A:Option Addr) (c:Nat) (l:List (ByteArray)) (p:ByteArray→Bool) (w:World) (hr:Rd w A (txs l)) (n:Nat) (hn:l.length=n) (hl:n≤100000)
  (hF:∀args w,(callFunc F args).run Tryz.prog w=.ok (.enter F args) w)
  (hf:∀x∈l,∀W,Ext w W→Calls Tryz.prog F #[.string x,.pointer (some q1)] W fun en w'=>en=.returned (.bool (p x))∧Ext W w') :
  Calls Tryz.prog 98 #[.slice A n c,.func (.func F) #[] #[.pointer (some q1)]] w fun en w'=>en=.returned (.bool (l.any p))∧Ext w w':=by
 have hi:=idxStr_any q1 A c l p w hr n hn hl hF hf
 rw[←idxP_any]
 obtain⟨r,hr'⟩:∃o,Hid (idxP p l=o):=⟨_,rfl⟩
 rw[hr'.out] at hi ⊢
 clear hf hF
 go_enter Tryz.func98,Tryz.ntmps98
 go_wp2_with fail
 refine hi.mono ?_
 rintro e w1 ⟨rfl,hx⟩
 go_wp2_with fail
 go_ret
 exact⟨rfl,hx⟩
theorem idxFld_any {F:FuncId} (q1:Addr) (A:Option Addr) (c:Nat) (l:List (ByteArray×Bool×Int)) (p:ByteArray×Bool×Int→Bool) (w:World) (hr:Rd w A (fldsZ l)) (n:Nat) (hn:l.length=n) (hl:n≤100000)
  (hF:∀args w,(callFunc F args).run Tryz.prog w=.ok (.enter F args) w)
  (hf:∀x∈l,∀W,Ext w W→Calls Tryz.prog F #[.agg (fldZ x).toArray,.pointer (some q1)] W fun en w'=>en=.returned (.bool (p x))∧Ext W w') :
  Calls Tryz.prog 119 #[.slice A n c,.func (.func F) #[] #[.pointer (some q1)]] w fun en w'=>en=.returned (.int .i64 (idxP p l))∧Ext w w':=by
 have Hn:=Lib.hid hn
 clear hn
 replace hf:=Lib.hid hf
 obtain⟨IX,hIX⟩:∃o,Hid (idxP p l=o):=⟨_,rfl⟩
 rw[hIX.out]
 go_enter Tryz.func119,Tryz.ntmps119
 go_wp2_with fail
 go_loopw [5,8,9,10,11,12,13,14,15,16,18] (fun v5 v8 v9 v10 v11 v12 v13 v14 v15 v16 v18 wr=>∃i:Nat,i≤n∧v8=.int .i64 i∧NoP p l i∧Ext w wr) (fun _ v8 _ _ _ _ _ _ _ _ _ _=>n-(intOf v8).toNat)
 case atStart=>exact⟨0,by omega,rfl,fun k f h=>by omega,Ext.refl w⟩
 case round=>
  obtain⟨i,hi,rfl,h1,hx⟩:=hrel
  by_cases hin:i<n
  ·have hin':(i:Int)<(n:Int):=by omega
   obtain⟨x,hme⟩:∃m,l[i]?=some m:=⟨_,List.getElem?_eq_getElem (by have:=Hn.out;omega)⟩
   obtain⟨b,off,rfl,d0,d1,d2⟩:=fldsZ_cell (hr.ext hx) i x hme
   have hb:=hf.out x (List.mem_of_getElem? hme) wr hx
   obtain⟨y,yb,yt⟩:=x
   simp only[fldZ] at hb d0 d1 d2
   have Hme:=Lib.hid hme
   clear hme
   obtain⟨BB,hBB⟩:∃o,Hid (p (y,yb,yt)=o):=⟨_,rfl⟩
   rw[hBB.out] at hb
   cases BB with
   | true=>
    have hat:IX=(i:Int):=by rw[←hIX.out];exact idxP_hit h1 Hme.out hBB.out
    have Hat:=Lib.hid hat
    clear hat
    go_wp2_with fail
    refine hb.mono ?_
    rintro e w1 ⟨rfl,hx2⟩
    go_wp2_with fail
    go_ret
    exact⟨by rw[Hat.out];rfl,hx.trans hx2⟩
   | false=>
    go_wp2_with fail
    refine hb.mono ?_
    rintro e w1 ⟨rfl,hx2⟩
    go_wp2_with fail
    refine⟨⟨i+1,by omega,by go_num,?_,hx.trans hx2⟩,by simp[intOf];omega⟩
    intro j y hk hy
    rcases Nat.lt_or_ge j i with h|h
    ·exact h1 j y h hy
    ·obtain rfl:j=i:=by omega
     rw[Hme.out] at hy
     injection hy with hy
     rw[←hy];exact hBB.out
  ·obtain rfl:i=n:=by omega
   have hat:IX = -1:=by
    rw[←hIX.out]
    exact idxP_none (by rw[Hn.out];exact h1)
   have Hat:=Lib.hid hat
   clear hat
   go_wp2_with fail
   go_ret
   exact⟨by rw[Hat.out];rfl,hx⟩
end Rv
namespace Mp
open Go.ChangeShapes Go.WideShapes Go.ChangeAt Go.RowKit Go.WideMaps
open Base
def pv (i k:Int):Value:=.agg #[.int .i64 i,.int .i64 k]
def I6 (i:Int):Prop := -9223372036854775808≤i∧i≤9223372036854775807
structure Bt (P:Program) (t k e:TypeId):Prop where
 under:P.underlying t=some (.map k e)
 law:KeyLaw P k
 elem:P.underlying e=some .bool
 zero:∀w,(zeroValue e).run P w=.ok (.bool false) w
 has:∀i j,I6 i→I6 j→∃l,keyOf P k (pv i j)=some l
theorem Bt.keyed {P:Program} {t k e:TypeId} (M:Bt P t k e):Maps.Keyed P k:=Maps.Keyed.of_law M.law
def MapB (P:Program) (k e:TypeId) (w:World) (b n:Nat) (N:Int→Int→Bool):Prop:=
 ∃D:DataW Unit,w.ownsMap P k (plainElem P e) b n D∧Maps.IsMap D∧∀i j l,keyOf P k (pv i j)=some l→D.atKey l (.lit (.bool false))=.lit (.bool (N i j))
theorem pv_inj {i j i' j':Int} (h:pv i j=pv i' j'):i=i'∧j=j':=by
 unfold pv at h
 injection h with h
 have h0:=congrArg (fun l=>l[0]?) h
 have h1:=congrArg (fun l=>l[1]?) h
 simp at h0 h1
 exact⟨h0,h1⟩
theorem bool_inv {H:Type} {P:Program} {e:TypeId} (he:P.underlying e=some .bool) {v:Value} {z:DataW H×List MemPlace} (h:plainElem P e v=some z):∃x,v=.bool x∧z=(.lit (.bool x),[]):=by
 unfold plainElem at h
 rw[he] at h
 cases v<;>simp at h
 exact⟨_,rfl,h.symm⟩
section
variable {P:Program} {t k e:TypeId} {w w':World} {b n:Nat} {N:Int→Int→Bool}
theorem MapB.kept {row:Option Nat} (h:MapB P k e w b n N) (hg:w.grownBy w' row) (hne:some b≠row):MapB P k e w' b n N:=by
 obtain⟨D,h1,h2⟩:=h
 exact⟨D,h1.kept hg hne,h2⟩
theorem MapB.ext (h:MapB P k e w b n N) (hx:Ext w w'):MapB P k e w' b n N:=by
 obtain⟨D,⟨es,clock,hb,r⟩,h2⟩:=h
 exact⟨D,⟨es,clock,hx.heap hb,r⟩,h2⟩
theorem MapB.lt (h:MapB P k e w b n N):b<w.heap.size:=by
 obtain⟨D,h1,h2⟩:=h
 exact h1.lt
theorem MapB.made (P:Program) (k e:TypeId) (w:World):MapB P k e (w.alloc (.map #[] 0)) w.heap.size 0 (fun _ _=>false):=
 ⟨.map [],World.ownsMap_made w P k (plainElem P e),Maps.isMap_empty,fun i j l _=>by simp[DataW.atKey]⟩
theorem MapB.look (M:Bt P t k e) (h:MapB P k e w b n N) {i j:Int} (hi:I6 i) (hj:I6 j) :
  (Instr.lookup t (.map (some b)) (.agg #[.int .i64 i,.int .i64 j]) false).run P w=.ok (.bool (N i j)) w:=by
 obtain⟨D,h1,h2,h3⟩:=h
 obtain⟨l,hl⟩:=M.has i j hi hj
 obtain⟨v,ps,hrun,hv⟩:=h1.lookup M.keyed M.under (M.zero w) (plainElem_bool M.elem false) hl
 obtain⟨c,rfl,hc⟩:=bool_inv M.elem hv
 simp only[Prod.mk.injEq] at hc
 have h4:=h3 i j l hl
 rw[hc.1] at h4
 simp only[DataW.lit.injEq,Lit.bool.injEq] at h4
 rw[←h4]
 exact hrun
theorem MapB.store (M:Bt P t k e) (h:MapB P k e w b n N) (hn:n<maxLen) {i j:Int} (hi:I6 i) (hj:I6 j) :
  ∃w',(Instr.mapUpdate t (.map (some b)) (.agg #[.int .i64 i,.int .i64 j]) (.bool true)).run P w=.ok () w'∧MapB P k e w' b (n+1) (fun x y=>if x=i∧y=j then true else N x y)∧w.grownBy w' (some b):=by
 obtain⟨D,h1,h2,h3⟩:=h
 obtain⟨l,hl⟩:=M.has i j hi hj
 obtain⟨w',hrun,ho,hg⟩:=h1.update M.keyed M.under hn hl (plainElem_bool (H:=Unit) M.elem true)
 refine⟨w',hrun,⟨_,ho,h2.put _ _,?_⟩,hg⟩
 intro x y m hm
 by_cases hxy:x=i∧y=j
 ·obtain⟨rfl,rfl⟩:=hxy
  obtain rfl:l=m:=Option.some.inj (hl.symm.trans hm)
  simp only[and_self,if_true]
  exact Maps.atKey_put_same h2 (M.keyed.key hl) _ _
 ·have hne:m≠l:=by
   rintro rfl
   exact hxy (pv_inj (M.keyed.inj hm hl))
  simp only[hxy,if_false]
  exact (Maps.atKey_put_other hne _ _).trans (h3 x y m hm)
theorem setBlock_twice (w:World) (b:Nat) (x y:Obj):ChangeMaps.setBlock (ChangeMaps.setBlock w b x) b y=ChangeMaps.setBlock w b y:=by
 simp[ChangeMaps.setBlock]
theorem MapB.entry (M:Bt P t k e) (h:MapB P k e w b n N) (hn:n<maxLen) {i j:Int} (hi:I6 i) (hj:I6 j) :
  ∃v0 st w1 w',(Instr.mapEntry t (.map (some b)) (.agg #[.int .i64 i,.int .i64 j])).run P w=.ok (.tuple #[v0,goInt st]) w1∧(Instr.entryStore t (.map (some b)) (goInt st) (.bool true)).run P w1=.ok () w'∧
   MapB P k e w' b (n+1) (fun x y=>if x=i∧y=j then true else N x y)∧w.grownBy w' (some b):=by
 obtain⟨w',hrun,hm,hg⟩:=h.store M hn hi hj
 obtain⟨D,⟨es,clock,hb,F,_⟩,_⟩:=h
 obtain⟨l,hl⟩:=M.has i j hi hj
 obtain⟨v0,st,es1,clock1,h1,_,h2⟩:=WideElems.entry_then_store (w:=w) M.law M.under M.zero hb F hl
 obtain⟨es',clock',h3,h4⟩:=h2 (ChangeMaps.setBlock w b (.map es1 clock1)) (.bool true) (ChangeMaps.heap_setBlock_same hb _)
 refine⟨v0,st,_,w',h1,?_,hm,hg⟩
 have h5:(Instr.mapUpdate t (.map (some b)) (pv i j) (.bool true)).run P w=.ok () w':=hrun
 rw[h4] at h5
 injection h5 with _ h5
 rw[h3,setBlock_twice,h5]
end
end Mp
end Go.Proofs.YtmaoochjbpohdaaGreatDoor
