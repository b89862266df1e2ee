/- parse: tokens written with no more blanks than they need are the same tokens: plain. -/
import Derived.Test.YtmaoochjbpohdaaGreatDoorRbK
set_option linter.unusedVariables false
set_option linter.unusedSimpArgs false
set_option maxRecDepth 100000
set_option maxHeartbeats 1000000
namespace Go.Proofs.YtmaoochjbpohdaaGreatDoor
namespace Pr
open Lx
theorem all_bytes {P:UInt8→Prop} (h:∀n:Fin 256,P (UInt8.ofNat n.val)) (c:UInt8):P c:=by
 have:=h ⟨c.toNat,UInt8.toNat_lt c⟩
 rwa [UInt8.ofNat_toNat] at this
theorem byte_sorts (c:UInt8):(letterP c=true→kindOf c=0∧innerP c=true∧digitP c=false∧Lx.blank c=false∧c.toNat≠35)∧(digitP c=true→kindOf c=1∧innerP c=true∧letterP c=false∧Lx.blank c=false∧c.toNat≠35)
  ∧ (kindOf c=2→innerP c=false∧letterP c=false∧digitP c=false∧Lx.blank c=false∧c.toNat≠35)∧(letterP c=false→digitP c=false→kindOf c=2∨kindOf c = -1)∧(innerP c=false→letterP c=false∧digitP c=false)∧(Lx.blank c=true→kindOf c = -1∧innerP c=false)∧(c.toNat=35→kindOf c = -1∧innerP c=false):=
 all_bytes (P:=fun c=>(letterP c=true→kindOf c=0∧innerP c=true∧digitP c=false∧Lx.blank c=false∧c.toNat≠35)∧(digitP c=true→kindOf c=1∧innerP c=true∧letterP c=false∧Lx.blank c=false∧c.toNat≠35)
  ∧ (kindOf c=2→innerP c=false∧letterP c=false∧digitP c=false∧Lx.blank c=false∧c.toNat≠35)∧(letterP c=false→digitP c=false→kindOf c=2∨kindOf c = -1)∧(innerP c=false→letterP c=false∧digitP c=false)∧(Lx.blank c=true→kindOf c = -1∧innerP c=false)∧(c.toNat=35→kindOf c = -1∧innerP c=false)) (by decide +kernel) c
abbrev TkL:=Int×List UInt8
def tk (t:Tok):TkL:=(t.k,bs t.s)
def lenL:List UInt8→Nat
 | []=>1
 | c::r=>if letterP c then runP innerP (c::r) else if digitP c then runP digitP (c::r) else 1
def lexL:Nat→List UInt8→List TkL
 | 0,_=>[]
 | f+1,l=>match l.drop (skipN false l) with
  | []=>[(3,[])]
  | c::r=>(kindOf c,(c::r).take (lenL (c::r)))::lexL f ((c::r).drop (lenL (c::r)))
theorem byteAt_drop (s:ByteArray) (a:Nat) (c:UInt8) (r:List UInt8) (h:s.data.toList.drop a=c::r):byteAt s a=c:=by
 unfold byteAt
 have:s.data.toList[a]?=some c:=by
  have:=congrArg (fun l=>l[0]?) h
  simpa [List.getElem?_drop] using this
 rw[List.getD,this];rfl
theorem lenAt_drop (s:ByteArray) (a:Nat) (c:UInt8) (r:List UInt8) (h:s.data.toList.drop a=c::r):lenAt s a=lenL (c::r):=by
 unfold lenAt lenL
 rw[byteAt_drop s a c r h,h]
theorem bs_extract (s:ByteArray) (a n:Nat):bs (s.extract a (a+n))=(s.data.toList.drop a).take n:=by
 unfold bs
 rw[ByteArray.data_extract,Array.toList_extract]
 simp[List.extract]
theorem tokG_lex (s:ByteArray):∀(f a:Nat),a≤s.size→(tokG s f (skp s a)).map tk=lexL f (s.data.toList.drop a)
 | 0,a,_=>rfl
 | f+1,a,ha=>by
  rw[lexL]
  have hd:(s.data.toList.drop a).drop (skipN false (s.data.toList.drop a))=s.data.toList.drop (skp s a):=by rw[List.drop_drop];rfl
  rw[hd]
  by_cases h:skp s a<s.size
  ·rw[tokG_step s f _ h]
   have hc:=drop_byteAt s (skp s a) h
   have hl:=lenAt_drop s (skp s a) _ _ hc
   rw[←hc] at hl
   rw[hc]
   simp only[List.map_cons]
   rw[←hc,←hl,List.drop_drop,tokG_lex s f _ (lenAt_le s _ h)]
   congr 1
   show (kindOf (byteAt s (skp s a)),bs (s.extract (skp s a) (skp s a+lenAt s (skp s a))))=_
   rw[bs_extract]
  ·rw[tokG_end s f _ h,List.drop_eq_nil_of_le (by rw[size_list];omega)]
   rfl
theorem toks_lex (s:ByteArray):(toks s).map tk=lexL (s.size+1) (bs s):=tokG_lex s (s.size+1) 0 (Nat.zero_le _)
def gapB (x y:TkL):Bool:=decide (x.1=0) && (decide (y.1=0) || decide (y.1=1)) || decide (x.1=1) && decide (y.1=1)
def gapT (x y:TkL):List UInt8:=if gapB x y then [32] else []
def ser:List TkL→List UInt8
 | []=>[]
 | [x]=>x.2
 | x::y::l=>x.2++(gapT x y++ser (y::l))
def WTk (x:TkL):Prop:=(x.1=0∧∃c r,x.2=c::r∧letterP c=true∧∀b∈r,innerP b=true)∨(x.1=1∧∃c r,x.2=c::r∧digitP c=true∧∀b∈r,digitP b=true)∨(x.1=2∧∃c,x.2=[c]∧kindOf c=2)
inductive WTs:List TkL→Prop
 | last:WTs [(3,[])]
 | cons {x:TkL} {l:List TkL}:WTk x→WTs l→WTs (x::l)
theorem run_all (p:UInt8→Bool):∀(l r:List UInt8),(∀b∈l,p b=true)→(∀c t,r=c::t→p c=false)→runP p (l++r)=l.length
 | [],r,_,h=>by
  cases r with
  | nil=>rfl
  | cons c t=>unfold runP;rw[List.nil_append,List.takeWhile_cons,h c t rfl];rfl
 | c::l,r,h1,h2=>by
  have:=run_all p l r (fun b hb=>h1 b (.tail _ hb)) h2
  unfold runP at this ⊢
  rw[List.cons_append,List.takeWhile_cons,if_pos (h1 c (.head _)),List.length_cons,this,List.length_cons]
theorem skip_no {c:UInt8} (l:List UInt8) (h1:Lx.blank c=false) (h2:c.toNat≠35):skipN false (c::l)=0:=by
 rw[skipN,if_neg h2,h1];rfl
theorem lexL_gap (f:Nat) (l:List UInt8):lexL f (32::l)=lexL f l:=by
 cases f with
 | zero=>rfl
 | succ f=>
  rw[lexL,lexL]
  have:skipN false (32::l)=1+skipN false l:=by rw[skipN,if_neg (by decide),if_pos (by decide)]
  rw[this,Nat.add_comm,List.drop_succ_cons]
theorem lexL_gapT (f:Nat) (x y:TkL) (l:List UInt8):lexL f (gapT x y++l)=lexL f l:=by
 unfold gapT
 split
 ·exact lexL_gap f l
 ·rfl
theorem WTs.head {y:TkL} {l:List TkL} (h:WTs (y::l)):(y.1=3∧ser (y::l)=[])∨(WTk y∧∃c t,y.2=c::t∧∃u,ser (y::l)=c::u):=by
 cases h with
 | last=>exact .inl ⟨rfl,rfl⟩
 | cons hx hl=>
  refine .inr ⟨hx,?_⟩
  have:∃c t,y.2=c::t:=by
   rcases hx with⟨_,c,r,e,_⟩|⟨_,c,r,e,_⟩|⟨_,c,e,_⟩
   ·exact⟨c,r,e⟩
   ·exact⟨c,r,e⟩
   ·exact⟨c,[],e⟩
  obtain⟨c,t,e⟩:=this
  refine⟨c,t,e,?_⟩
  cases hl with
  | last=>exact⟨_,by rw[ser,e];rfl⟩
  | cons hy hm=>exact⟨_,by rw[ser,e];rfl⟩
theorem after_word {x y:TkL} {l:List TkL} (hx:x.1=0) (h:WTs (y::l)):∀c t,gapT x y++ser (y::l)=c::t→innerP c=false:=by
 intro c t e
 unfold gapT at e
 split at e
 ·injection e with e1 _;subst e1;decide
 ·next hg=>
  rw[List.nil_append] at e
  rcases h.head with⟨_,e0⟩|⟨hy,c',t',e1,u,e2⟩
  ·rw[e0] at e;cases e
  ·rw[e2] at e;injection e with e3 _;subst e3
   rcases hy with⟨k,_⟩|⟨k,_⟩|⟨_,c2,e4,k2⟩
   ·exact absurd (by simp[gapB,hx,k]) hg
   ·exact absurd (by simp[gapB,hx,k]) hg
   ·rw[e1] at e4;injection e4 with e5 _;subst e5
    exact ((byte_sorts c').2.2.1 k2).1
theorem after_num {x y:TkL} {l:List TkL} (hx:x.1=1) (h:WTs (y::l)):∀c t,gapT x y++ser (y::l)=c::t→digitP c=false:=by
 intro c t e
 unfold gapT at e
 split at e
 ·injection e with e1 _;subst e1;decide
 ·next hg=>
  rw[List.nil_append] at e
  rcases h.head with⟨_,e0⟩|⟨hy,c',t',e1,u,e2⟩
  ·rw[e0] at e;cases e
  ·rw[e2] at e;injection e with e3 _;subst e3
   rcases hy with⟨k,c2,r2,e4,k2,_⟩|⟨k,_⟩|⟨_,c2,e4,k2⟩
   ·rw[e1] at e4;injection e4 with e5 _;subst e5
    exact ((byte_sorts c').1 k2).2.2.1
   ·exact absurd (by simp[gapB,hx,k]) hg
   ·rw[e1] at e4;injection e4 with e5 _;subst e5
    exact ((byte_sorts c').2.2.1 k2).2.2.1
theorem lex_ser:∀ {l:List TkL},WTs l→∀f,l.length≤f→lexL f (ser l)=l
 | _,.last,f,hf=>by
  cases f with
  | zero=>simp at hf
  | succ f=>rfl
 | _,.cons (x:=x) (l:=l) hx hl,f,hf=>by
  cases l with
  | nil=>cases hl
  | cons y r=>
   cases f with
   | zero=>simp at hf
   | succ f=>
    have ih:=lex_ser hl f (by simpa using hf)
    have key:∀c t,x.2=c::t→kindOf c=x.1→Lx.blank c=false→c.toNat≠35→lenL (x.2++(gapT x y++ser (y::r)))=x.2.length→lexL (f+1) (ser (x::y::r))=x::y::r:=by
     intro c t e hk hb h35 hlen
     rw[ser,lexL]
     rw[e] at hlen ⊢
     rw[List.cons_append,skip_no _ hb h35,List.drop_zero]
     rw[List.cons_append] at hlen
     simp only
     rw[hlen,←List.cons_append,List.take_left',List.drop_left',lexL_gapT,ih,hk,←e]
     ·rfl
     ·rfl
    rcases hx with⟨k,c,t,e,hc,ht⟩|⟨k,c,t,e,hc,ht⟩|⟨k,c,e,hc⟩
    ·have hs:=(byte_sorts c).1 hc
     refine key c t e (by rw[hs.1,k]) hs.2.2.2.1 hs.2.2.2.2 ?_
     have hr:=run_all innerP x.2 (gapT x y++ser (y::r)) (by rw[e];intro b hb;exact (List.mem_cons.1 hb).elim (fun e=>e ▸ hs.2.1) (ht b)) (after_word k hl)
     rw[←hr]
     rw[e,List.cons_append,lenL,if_pos hc]
    ·have hs:=(byte_sorts c).2.1 hc
     refine key c t e (by rw[hs.1,k]) hs.2.2.2.1 hs.2.2.2.2 ?_
     have hr:=run_all digitP x.2 (gapT x y++ser (y::r)) (by rw[e];intro b hb;exact (List.mem_cons.1 hb).elim (fun e=>e ▸ hc) (ht b)) (after_num k hl)
     rw[←hr]
     rw[e,List.cons_append,lenL,if_neg (by rw[hs.2.2.1];decide),if_pos hc]
    ·have hs:=(byte_sorts c).2.2.1 hc
     refine key c [] e (by rw[hc,k]) hs.2.2.2.1 hs.2.2.2.2 ?_
     rw[e,List.cons_append,lenL,if_neg (by rw[hs.2.1];decide),if_neg (by rw[hs.2.2.1];decide)]
     rfl
/-! ### A text's tokens -/
theorem take_run (p:UInt8→Bool):∀(l:List UInt8),∀b∈l.take (runP p l),p b=true
 | [],b,hb=>by simp at hb
 | c::l,b,hb=>by
  have ih:=take_run p l b
  unfold runP at hb ih
  rw[List.takeWhile_cons] at hb
  split at hb
  ·next hc=>
   rw[List.length_cons,List.take_succ_cons] at hb
   rcases List.mem_cons.1 hb with rfl|hb
   ·exact hc
   ·exact ih hb
  ·simp at hb
theorem run_pos {p:UInt8→Bool} {c:UInt8} {l:List UInt8} (h:p c=true):runP p (c::l)=runP p l+1:=by unfold runP;rw[List.takeWhile_cons,if_pos h];rfl
theorem lenL_pos (c:UInt8) (r:List UInt8):1≤lenL (c::r):=by
 rw[lenL]
 split
 ·next h=>rw[run_pos ((byte_sorts c).1 h).2.1];omega
 ·split
  ·next h=>rw[run_pos h];omega
  ·exact Nat.le_refl _
theorem wtk_of {c:UInt8} {r:List UInt8} (h:0≤kindOf c):WTk (kindOf c,(c::r).take (lenL (c::r))):=by
 by_cases hc:letterP c=true
 ·have hs:=(byte_sorts c).1 hc
  refine .inl ⟨hs.1,c,r.take (runP innerP r),?_,hc,take_run innerP r⟩
  rw[lenL,if_pos hc,run_pos hs.2.1,List.take_succ_cons]
 ·by_cases hd:digitP c=true
  ·have hs:=(byte_sorts c).2.1 hd
   refine .inr (.inl ⟨hs.1,c,r.take (runP digitP r),?_,hd,take_run digitP r⟩)
   rw[lenL,if_neg hc,if_pos hd,run_pos hd,List.take_succ_cons]
  ·have hk:kindOf c=2:=by
    rcases (byte_sorts c).2.2.2.1 (by simpa using hc) (by simpa using hd) with e|e
    ·exact e
    ·omega
   exact .inr (.inr ⟨hk,c,by rw[lenL,if_neg hc,if_neg hd];rfl,hk⟩)
theorem lexL_wf:∀(f:Nat) (l:List UInt8),l.length<f→(∀x∈lexL f l,0≤x.1)→WTs (lexL f l)
 | 0,l,h,_=>by omega
 | f+1,l,h,hk=>by
  rw[lexL] at hk ⊢
  cases hd:l.drop (skipN false l) with
  | nil=>exact .last
  | cons c r=>
   rw[hd] at hk
   simp only at hk ⊢
   have hl:(c::r).length≤l.length:=by rw[←hd,List.length_drop];omega
   refine .cons (wtk_of (hk _ (.head _))) (lexL_wf f _ ?_ fun x hx=>hk x (.tail _ hx))
   have:=lenL_pos c r
   have h1:1≤(c::r).length:=by simp
   rw[List.length_drop]
   omega
theorem run_end (p:UInt8→Bool):∀(l:List UInt8) (c:UInt8) (t:List UInt8),l.drop (runP p l)=c::t→p c=false
 | [],c,t,h=>by simp[runP] at h
 | a::l,c,t,h=>by
  by_cases ha:p a=true
  ·rw[run_pos ha,List.drop_succ_cons] at h
   exact run_end p l c t h
  ·unfold runP at h
   rw[List.takeWhile_cons,if_neg ha] at h
   injection h with h1 _
   rw[←h1];simpa using ha
theorem ser_len:∀(f:Nat) (l:List UInt8),l.length<f→(ser (lexL f l)).length+skipN false l≤l.length
 | 0,l,h=>by omega
 | f+1,l,h=>by
  have hsk:=skipN_le false l
  rw[lexL]
  cases hd:l.drop (skipN false l) with
  | nil=>simpa [ser] using hsk
  | cons c r=>
   simp only
   have hl:(c::r).length=l.length-skipN false l:=by rw[←hd,List.length_drop]
   have hp:=lenL_pos c r
   generalize hn:lenL (c::r)=n at hp ⊢
   have hr:((c::r).drop n).length<f:=by
    rw[List.length_drop]
    have:1≤(c::r).length:=by simp
    omega
   have ih:=ser_len f ((c::r).drop n) hr
   have hnl:n≤(c::r).length:=by
    rw[←hn,lenL]
    split
    ·exact runP_le _ _
    ·split
     ·exact runP_le _ _
     ·simp
   have ht:((c::r).take n).length=n:=by rw[List.length_take];omega
   rw[List.length_drop] at ih
   cases hx:lexL f ((c::r).drop n) with
   | nil=>rw[ser];simp only;omega
   | cons y m=>
    rw[hx] at ih
    rw[ser,List.length_append,List.length_append]
    simp only
    rw[ht]
    have hg:(gapT (kindOf c,(c::r).take n) y).length≤skipN false ((c::r).drop n):=by
     unfold gapT
     split
     ·next hg=>
      show 1≤_
      rcases Nat.eq_zero_or_pos (skipN false ((c::r).drop n)) with h0|h0
      ·exfalso
       cases f with
       | zero=>omega
       | succ f=>
        rw[lexL,h0,List.drop_zero] at hx
        cases hd2:(c::r).drop n with
        | nil=>
         rw[hd2] at hx
         injection hx with e _
         subst e
         simp[gapB] at hg
        | cons c2 r2=>
         rw[hd2] at hx
         injection hx with e _
         subst e
         simp only[gapB,Bool.or_eq_true,Bool.and_eq_true,decide_eq_true_eq] at hg
         have hs2:=byte_sorts c2
         by_cases hc:letterP c=true
         ·rw[lenL,if_pos hc] at hn
          subst hn
          have:=run_end innerP (c::r) c2 r2 hd2
          obtain⟨q1,q2⟩:=hs2.2.2.2.2.1 this
          have:=hs2.2.2.2.1 q1 q2
          omega
         ·by_cases hdc:digitP c=true
          ·have hk:=(byte_sorts c).2.1 hdc
           rw[lenL,if_neg hc,if_pos hdc] at hn
           subst hn
           have hq:=run_end digitP (c::r) c2 r2 hd2
           rcases Bool.eq_false_or_eq_true (letterP c2) with q1|q1
           ·have:=hs2.1 q1;omega
           ·have:=hs2.2.2.2.1 q1 hq;omega
          ·have:=(byte_sorts c).2.2.2.1 (by simpa using hc) (by simpa using hdc)
           omega
      ·exact h0
     ·simp
    omega
theorem relex (s:ByteArray) (h:∀t∈toks s,0≤t.k):WTs ((toks s).map tk)∧(ser ((toks s).map tk)).length≤s.size∧(toks ⟨(ser ((toks s).map tk)).toArray⟩).map tk=(toks s).map tk:=by
 have e:=toks_lex s
 have hsz:(bs s).length=s.size:=size_list s
 have hw:WTs ((toks s).map tk):=by
  rw[e]
  refine lexL_wf _ _ (by rw[hsz];omega) fun x hx=>?_
  rw[←e] at hx
  obtain⟨t,ht,rfl⟩:=List.mem_map.1 hx
  exact h t ht
 have hlen:(ser ((toks s).map tk)).length≤s.size:=by
  have:=ser_len (s.size+1) (bs s) (by rw[hsz];omega)
  rw[e];omega
 refine⟨hw,hlen,?_⟩
 rw[toks_lex]
 have hb:bs ⟨(ser ((toks s).map tk)).toArray⟩=ser ((toks s).map tk):=by simp[bs]
 rw[hb]
 refine lex_ser hw _ ?_
 have:∀ {l:List TkL},WTs l→l.length≤(ser l).length+1:=by
  intro l hl
  induction hl with
  | last=>simp
  | @cons x l hx hl ih=>
   have h1:1≤x.2.length:=by
    rcases hx with⟨_,c,r,e,_⟩|⟨_,c,r,e,_⟩|⟨_,c,e,_⟩<;>rw[e]<;>simp
   cases l with
   | nil=>cases hl
   | cons y m=>
    rw[ser,List.length_append,List.length_append,List.length_cons]
    omega
 have h2:=this hw
 rw[show (ByteArray.mk (ser ((toks s).map tk)).toArray).size=(ser ((toks s).map tk)).length by simp[ByteArray.size]]
 exact h2
theorem valP_snoc:∀(l:List UInt8) (c:UInt8) (n:Nat),valP (l++[c]) n=10*valP l n+(c.toNat-48)
 | [],c,n=>rfl
 | a::l,c,n=>by rw[List.cons_append,valP,valP,valP_snoc l c]
theorem valP_ge:∀(l:List UInt8) (n:Nat),n≤valP l n
 | [],n=>Nat.le_refl _
 | a::l,n=>by rw[valP];exact Nat.le_trans (by omega) (valP_ge l _)
theorem digit_byte (c:UInt8):digitP c=true→UInt8.ofNat (48+(c.toNat-48))=c∧c.toNat-48<10∧(c.toNat≠48→1≤c.toNat-48):=
 all_bytes (P:=fun c=>digitP c=true→UInt8.ofNat (48+(c.toNat-48))=c∧c.toNat-48<10∧(c.toNat≠48→1≤c.toNat-48)) (by decide +kernel) c
theorem dec_one (c:UInt8) (h:digitP c=true):Lib.decDigits (valP [c] 0)=[c]:=by
 obtain⟨h1,h2,_⟩:=digit_byte c h
 rw[show valP [c] 0=c.toNat-48 by simp[valP],Lib.decDigits_one h2,h1]
theorem dec_more {l:List UInt8} {c:UInt8} (hc:digitP c=true) (hv:1≤valP l 0):Lib.decDigits (valP (l++[c]) 0)=Lib.decDigits (valP l 0)++[c]:=by
 obtain⟨h1,h2,_⟩:=digit_byte c hc
 rw[valP_snoc,Lib.decDigits,dif_neg (by omega)]
 have e1:(10*valP l 0+(c.toNat-48)) / 10=valP l 0:=by omega
 have e2:(10*valP l 0+(c.toNat-48))%10=c.toNat-48:=by omega
 rw[e1,e2,h1]
theorem run_full:∀ {p:UInt8→Bool} {l:List UInt8},runP p l=l.length→∀b∈l,p b=true
 | p,[],_,b,hb=>by cases hb
 | p,c::l,h,b,hb=>by
  unfold runP at h
  rw[List.takeWhile_cons] at h
  split at h
  ·next hc=>
   rcases List.mem_cons.1 hb with rfl|hb
   ·exact hc
   ·exact run_full (p:=p) (l:=l) (by unfold runP;simpa using h) b hb
  ·simp at h
theorem num_dec {l:List UInt8} {v:Nat} (h:numO l=some v):Lib.itoa (v:Int)=l:=by
 unfold numO at h
 split at h
 ·cases h
 ·next h0=>
  split at h
  ·cases h
  ·next h1=>
   split at h
   ·cases h
   ·next h2=>
    split at h
    ·cases h
    ·next h3=>
     split at h
     ·cases h
     ·injection h with h
      subst h
      have hd:∀b∈l,digitP b=true:=run_full (by simpa using h2)
      have e:Lib.itoa ((valP l 0:Nat):Int)=Lib.decDigits (valP l 0):=by
       unfold Lib.itoa;rw[if_neg (by omega)];rfl
      rw[e]
      match l,h0,h1,h3,hd with
      | [a],_,_,_,hd=>exact dec_one a (hd a (by simp))
      | [a,b],_,h1,_,hd=>
       have ha:1≤valP [a] 0:=by
        have:=(digit_byte a (hd a (by simp))).2.2 (fun e=>h1 ⟨by simp,e⟩)
        simpa [valP] using this
       rw[show [a,b]=[a]++[b] from rfl,dec_more (hd b (by simp)) ha,dec_one a (hd a (by simp))]
      | [a,b,c],_,h1,_,hd=>
       have ha:1≤valP [a] 0:=by
        have:=(digit_byte a (hd a (by simp))).2.2 (fun e=>h1 ⟨by simp,e⟩)
        simpa [valP] using this
       have hb:1≤valP ([a]++[b]) 0:=by rw[valP_snoc];omega
       rw[show [a,b,c]=([a]++[b])++[c] from rfl,dec_more (hd c (by simp)) hb,dec_more (hd b (by simp)) ha,dec_one a (hd a (by simp))]
      | [a,b,c,d],_,h1,_,hd=>
       have ha:1≤valP [a] 0:=by
        have:=(digit_byte a (hd a (by simp))).2.2 (fun e=>h1 ⟨by simp,e⟩)
        simpa [valP] using this
       have hb:1≤valP ([a]++[b]) 0:=by rw[valP_snoc];omega
       have hc:1≤valP (([a]++[b])++[c]) 0:=by rw[valP_snoc];omega
       rw[show [a,b,c,d]=(([a]++[b])++[c])++[d] from rfl,dec_more (hd d (by simp)) hc,dec_more (hd c (by simp)) hb,dec_more (hd b (by simp)) ha,dec_one a (hd a (by simp))]
      | a::b::c::d::e::r,_,_,h3,_=>simp at h3
abbrev DT:=Int→Nat→Option (Nat×Nat)
def dlist (D:DT):List Int→Nat→Nat→Option (Nat×Nat)
 | [],next,most=>some (most,next)
 | n::l,next,most=>match D n next with
  | none=>none
  | some (d,nx)=>dlist D l nx (max most d)
def dtyp (ns:List Ne):Nat→DT
 | 0,_,_=>none
 | f+1,n,next=>
  if n<0∨(ns.length:Int)≤n∨(next:Int)<n then none
  else if n<(next:Int) then some (1,next)
  else match dlist (dtyp ns f) (ns.getD n.toNat neD).items (next+1) 0 with
   | none=>none
   | some (m,nx)=>match dlist (dtyp ns f) ((ns.getD n.toNat neD).fields.map fun f=>f.2.2) nx m with
    | none=>none
    | some (m,nx)=>some (m+1,nx)
def Shp (d:Ne):Prop:=(d.items=[]∨d.k=6∨d.k=7∨d.k=8)∧(d.fields=[]∨d.k=11)
def WB (T:WT):Prop:=∀n st,st.bad=true→(T n st).bad=true
theorem wlist_bad {T:WT} (h:WB T):∀(b:Bool) (l:List Int) (st:WSt),st.bad=true→(wlist T b l st).bad=true
 | _,[],st,hb=>hb
 | b,n::l,st,hb=>by
  rw[wlist]
  refine wlist_bad h false l _ (h n _ ?_)
  split
  ·exact hb
  ·exact hb
theorem wflds_bad {T:WT} (h:WB T):∀(l:List (ByteArray×Bool×Int)) (st:WSt),st.bad=true→(wflds T l st).bad=true
 | [],st,hb=>hb
 | f::l,st,hb=>by
  rw[wflds]
  refine wflds_bad h l _ ?_
  unfold wfield
  refine h f.2.2 _ ?_
  show (if f.2.1 then (st.put (bs f.1)).put [63] else st.put (bs f.1)).bad=true
  split
  ·exact hb
  ·exact hb
theorem wtyp_bad (ns:List Ne):∀f,WB (wtyp ns f)
 | 0,n,st,hb=>rfl
 | f+1,n,st,hb=>by
  rw[wtyp,if_pos (.inl hb)]
def DW (T:WT) (D:DT):Prop:=∀n st,(T n st).bad=false→∃d,D n st.next=some (d,(T n st).next)
theorem wlist_deep {T:WT} {D:DT} (hb:WB T) (h:DW T D):∀(b:Bool) (l:List Int) (st:WSt) (most:Nat),(wlist T b l st).bad=false→∃d,dlist D l st.next most=some (d,(wlist T b l st).next)
 | _,[],st,most,_=>⟨most,rfl⟩
 | b,n::l,st,most,he=>by
  rw[wlist] at he ⊢
  have h1:(T n (if b then st else st.put [124])).bad=false:=by
   cases hq:(T n (if b then st else st.put [124])).bad with
   | false=>rfl
   | true=>rw[wlist_bad hb false l _ hq] at he;cases he
  obtain⟨d,hd⟩:=h n _ h1
  have hn:(if b then st else st.put [124]).next=st.next:=by split<;>rfl
  rw[hn] at hd
  obtain⟨d2,hd2⟩:=wlist_deep hb h false l (T n (if b then st else st.put [124])) (max most d) he
  exact⟨d2,by rw[dlist,hd];exact hd2⟩
theorem wflds_deep {T:WT} {D:DT} (hb:WB T) (h:DW T D):∀(l:List (ByteArray×Bool×Int)) (st:WSt) (most:Nat),(wflds T l st).bad=false→∃d,dlist D (l.map fun f=>f.2.2) st.next most=some (d,(wflds T l st).next)
 | [],st,most,_=>⟨most,rfl⟩
 | f::l,st,most,he=>by
  rw[wflds] at he ⊢
  obtain⟨st2,hst2⟩:∃z,z=((if f.2.1 then (st.put (bs f.1)).put [63] else st.put (bs f.1)).put [58]):=⟨_,rfl⟩
  have hw:wfield T f st=(T f.2.2 st2).put [59]:=by rw[hst2];rfl
  have hn:st2.next=st.next:=by rw[hst2];show (if f.2.1 then (st.put (bs f.1)).put [63] else st.put (bs f.1)).next=_;split<;>rfl
  rw[hw] at he ⊢
  have h1:(T f.2.2 st2).bad=false:=by
   cases hq:(T f.2.2 st2).bad with
   | false=>rfl
   | true=>have hz:=wflds_bad hb l ((T f.2.2 st2).put [59]) hq;rw[hz] at he;cases he
  obtain⟨d,hd⟩:=h f.2.2 _ h1
  rw[hn] at hd
  obtain⟨d2,hd2⟩:=wflds_deep hb h l ((T f.2.2 st2).put [59]) (max most d) he
  refine⟨d2,?_⟩
  rw[List.map_cons,dlist,hd]
  exact hd2
theorem wtyp_deep {ns:List Ne} (hs:∀d∈ns,Shp d):∀f,DW (wtyp ns f) (dtyp ns f)
 | 0,n,st,h=>by cases h
 | f+1,n,st,h=>by
  rw[wtyp] at h ⊢
  split at h
  ·cases h
  ·next hst=>
   rw[if_neg hst] at ⊢
   have hst2:=hst
   unfold wstop at hst2
   simp only[not_or,Int.not_lt,Int.not_le,Nat.not_lt] at hst2
   obtain⟨q1,q2,q3,q4,q5,q6⟩:=hst2
   rw[dtyp,if_neg (by omega)]
   split at h
   ·next hlt=>rw[if_pos hlt,if_pos hlt];exact⟨1,rfl⟩
   ·next hlt=>
    rw[if_neg hlt,if_neg hlt]
    have hmem:ns.getD n.toNat neD∈ns:=by
     have:n.toNat<ns.length:=by omega
     rw[show ns.getD n.toNat neD=ns[n.toNat] by simp[List.getD,List.getElem?_eq_getElem this]]
     exact List.getElem_mem this
    obtain⟨h1,h2⟩:=hs _ hmem
    generalize ns.getD n.toNat neD=x at h h1 h2
    have ih:=wtyp_deep hs f
    have hb:=wtyp_bad ns f
    have hitem:∀(a c:List UInt8),x.fields=[]→(witems (wtyp ns f) a x.items c { st with next:=st.next+1 }).bad=false→∃d,(match dlist (dtyp ns f) x.items (st.next+1) 0 with
      | none=>none
      | some (m,nx)=>match dlist (dtyp ns f) (x.fields.map fun f=>f.2.2) nx m with
       | none=>none
       | some (m,nx)=>some (m+1,nx))=some (d,(witems (wtyp ns f) a x.items c { st with next:=st.next+1 }).next):=fun a c hf he=>by
     obtain⟨d,hd⟩:=wlist_deep hb ih true x.items (({ st with next:=st.next+1 }:WSt).put a) 0 he
     have hd:dlist (dtyp ns f) x.items (st.next+1) 0=_:=hd
     rw[hd,hf]
     exact⟨d+1,rfl⟩
    unfold wbody at h ⊢
    split at h
    ·next hk=>rw[if_pos hk];exact hitem _ _ (h2.resolve_right (by omega)) h
    ·next k6=>
     rw[if_neg k6]
     split at h
     ·next hk=>rw[if_pos hk];exact hitem _ _ (h2.resolve_right (by omega)) h
     ·next k7=>
      rw[if_neg k7]
      split at h
      ·next hk=>rw[if_pos hk];exact hitem _ _ (h2.resolve_right (by omega)) h
      ·next k8=>
       rw[if_neg k8]
       have hi0:x.items=[]:=h1.resolve_right (by omega)
       rw[hi0]
       simp only[dlist]
       split at h
       ·next hk=>rw[if_pos hk,h2.resolve_right (by omega)];exact⟨1,rfl⟩
       ·next k9=>
        rw[if_neg k9]
        split at h
        ·next hk=>rw[if_pos hk,h2.resolve_right (by omega)];exact⟨1,rfl⟩
        ·next k10=>
         rw[if_neg k10]
         split at h
         ·next hk=>
          rw[if_pos hk]
          unfold wrecord at h ⊢
          obtain⟨d,hd⟩:=wflds_deep hb ih x.fields (({ st with next:=st.next+1 }:WSt).put (sRec++bs x.name++[123])) 0 h
          have hd:dlist (dtyp ns f) (x.fields.map fun f=>f.2.2) (st.next+1) 0=_:=hd
          rw[hd]
          exact⟨d+1,rfl⟩
         ·next k11=>
          rw[if_neg k11,h2.resolve_right (by omega)]
          split at h
          ·cases h
          ·next hk=>rw[if_neg hk];exact⟨1,rfl⟩
def depthP (ns:List Ne):Nat:=match showP ns with
 | none=>0
 | some _=>match dtyp ns 20 0 0 with
  | none=>0
  | some (d,_)=>d
/-! ### What is read has nodes of such shapes, and what was there stays -/
def ShN (d:Nd):Prop:=(d.items=[]∨d.k=6∨d.k=7∨d.k=8)∧(d.fields=[]∨d.k=11)
theorem ShN.toE {d:Nd} (h:ShN d):Shp d.toE:=by
 refine⟨h.1.imp (fun e=>by show d.items.map _=[];rw[e];rfl) (fun e=>e),h.2.imp (fun e=>by show d.fields.map _=[];rw[e];rfl) (fun e=>e)⟩
def Pre (s s':PS):Prop:=∀i,i<s.ns.length→s'.ns[i]?=s.ns[i]?
theorem Pre.len {s s':PS} (h:Pre s s'):s.ns.length≤s'.ns.length:=by
 rcases Nat.lt_or_ge s'.ns.length s.ns.length with h1|h1
 ·have:=h s'.ns.length h1
  rw[List.getElem?_eq_none (Nat.le_refl _),List.getElem?_eq_getElem h1] at this
  cases this
 ·exact h1
theorem Pre.trans {a b c:PS} (h:Pre a b) (k:Pre b c):Pre a c:=fun i hi=>(k i (Nat.lt_of_lt_of_le hi h.len)).trans (h i hi)
theorem Pre.same {s s':PS} (e:s'.ns=s.ns):Pre s s':=fun i _=>by rw[e]
def PreB (n:Nat) (s s':PS):Prop:=∀i,i<s.ns.length→i≠n→s'.ns[i]?=s.ns[i]?
theorem setN_at (s:PS) (n:Nat) (f:Nd→Nd) (i:Nat) (h:i≠n):(s.setN n f).ns[i]?=s.ns[i]?:=by
 show (s.ns.modify n f)[i]?=_
 have h':¬n=i:=fun e=>h e.symm
 rw[List.getElem?_modify];simp[h']
theorem AllN.setAt {p:Nd→Prop} {s:PS} (h:AllN p s) (n:Nat) {f:Nd→Nd} (hf:∀d,s.ns[n]?=some d→p d→p (f d)):AllN p (s.setN n f):=fun d hd=>by
 obtain⟨i,hi⟩:=List.mem_iff_getElem?.1 hd
 have hi:(s.ns.modify n f)[i]?=some d:=hi
 rw[List.getElem?_modify] at hi
 obtain⟨d0,h0,rfl⟩:=Option.map_eq_some_iff.1 hi
 have:=h d0 (List.mem_of_getElem? h0)
 split
 ·next e=>subst e;exact hf d0 h0 this
 ·exact this
def TS (T:Bool→List Nat→PS→Res Nat):Prop:=∀u a s n s',T u a s=.ok n s'→AllN ShN s→AllN ShN s'∧Pre s s'
def KAt (s:PS) (n:Nat) (k:Int):Prop:=∃d,s.ns[n]?=some d∧d.k=k
theorem KAt.pre {s s':PS} {n:Nat} {k:Int} (h:KAt s n k) (hp:Pre s s'):KAt s' n k:=by
 obtain⟨d,h1,h2⟩:=h
 exact⟨d,by rw[hp n (List.getElem?_eq_some_iff.1 h1).1];exact h1,h2⟩
theorem PreB.of {n:Nat} {s s1 s':PS} (h:Pre s s1) (k:∀i,i≠n→s'.ns[i]?=s1.ns[i]?):PreB n s s':=fun i hi hne=>(k i hne).trans (h i hi)
theorem itemR_shp {T:Bool→List Nat→PS→Res Nat} (hT:TS T) {s s':PS} {n:Nat} {k:Int} {x:ByteArray} {u:Unit} (h:itemR T s n x=.ok u s') (hp:AllN ShN s) (hk:KAt s n k) (hkk:k=6∨k=7∨k=8):AllN ShN s'∧PreB n s s':=by
 obtain⟨a,s1,h1,h2⟩:=Res.bind_ok h
 obtain⟨h5,rfl⟩:=mustR_ok h2
 obtain⟨p1,p2⟩:=hT _ _ _ _ _ h1 hp
 obtain⟨d0,e0,e1⟩:=hk.pre p2
 refine⟨(p1.setAt n fun d hd hs=>?_).same rfl,PreB.of p2 fun i hi=>setN_at s1 n _ i hi⟩
 rw[e0] at hd;injection hd with hd;subst hd
 exact⟨.inr (by show d0.k=6∨d0.k=7∨d0.k=8;rw[e1];exact hkk),hs.2⟩
theorem PreB.trans {n:Nat} {a b c:PS} (h:Pre a b) (k:PreB n b c):PreB n a c:=fun i hi hne=>(k i (Nat.lt_of_lt_of_le hi h.len) hne).trans (h i hi)
theorem unionR_shp {T:Bool→List Nat→PS→Res Nat} (hT:TS T) (n:Nat):∀(m:Nat) (l:List Nat) {s s':PS} {u:Unit},unionR T n m l s=.ok u s'→AllN ShN s→KAt s n 8→AllN ShN s'∧PreB n s s'
 | 0,l,s,s',u,h,_,_=>by cases h
 | m+1,l,s,s',u,h,hp,hk=>by
  rw[unionR] at h
  obtain⟨a,s1,h1,h2⟩:=Res.bind_ok h
  obtain⟨p1,p2⟩:=hT _ _ _ _ _ h1 hp
  have hk1:=hk.pre p2
  split at h2
  ·injection h2 with _ h2
   subst h2
   obtain⟨d0,e0,e1⟩:=hk1
   refine⟨(p1.same (s':=s1.on) rfl).setAt n fun d hd hs=>?_,PreB.of p2 fun i hi=>setN_at s1.on n _ i hi⟩
   rw[show s1.on.ns=s1.ns from rfl,e0] at hd;injection hd with hd;subst hd
   exact⟨.inr (.inr (.inr e1)),hs.2⟩
  ·obtain⟨v,s2,h5,h6⟩:=Res.bind_ok h2
   obtain⟨h7,rfl⟩:=mustR_ok h5
   obtain⟨q1,q2⟩:=unionR_shp hT n m _ h6 (p1.same rfl) hk1
   exact⟨q1,PreB.trans (b:=s1.on) p2 q2⟩
theorem fieldsR_shp {T:Bool→List Nat→PS→Res Nat} (hT:TS T) (n:Nat):∀(m:Nat) (l:List (ByteArray×Bool×Nat)) {s s':PS} {u:Unit},fieldsR T n m l s=.ok u s'→AllN ShN s→KAt s n 11→AllN ShN s'∧PreB n s s'
 | 0,l,s,s',u,h,_,_=>by cases h
 | m+1,l,s,s',u,h,hp,hk=>by
  rw[fieldsR] at h
  split at h
  ·injection h with _ h
   subst h
   obtain⟨d0,e0,e1⟩:=hk
   refine⟨(hp.same (s':=s.on) rfl).setAt n fun d hd hs=>?_,fun i _ hi=>setN_at s.on n _ i hi⟩
   rw[show s.on.ns=s.ns from rfl,e0] at hd;injection hd with hd;subst hd
   exact⟨hs.1,.inr e1⟩
  ·obtain⟨x,s1,h1,h2⟩:=Res.bind_ok h
   obtain⟨_,_,_,_,_,rfl⟩:=nameR_ok h1
   obtain⟨v,s2,h3,h4⟩:=Res.bind_ok h2
   obtain⟨h5,rfl⟩:=mustR_ok h3
   obtain⟨t,s3,h6,h7⟩:=Res.bind_ok h4
   obtain⟨v2,s4,h10,h11⟩:=Res.bind_ok h7
   obtain⟨h12,rfl⟩:=mustR_ok h10
   have e2:(goesR s.on cQ).2.on.ns=s.ns:=by show (goesR s.on cQ).2.ns=_;rw[goes_ns];rfl
   obtain⟨p1,p2⟩:=hT _ _ _ _ _ h6 (hp.same e2)
   have p3:Pre s s3:=(Pre.same e2).trans p2
   obtain⟨q1,q2⟩:=fieldsR_shp hT n m _ h11 (p1.same rfl) (hk.pre (p3.trans (Pre.same (s':=s3.on) rfl)))
   exact⟨q1,PreB.trans (b:=s3.on) p3 q2⟩
theorem symsR_shp (n:Nat):∀(m:Nat) (l:List ByteArray) {s s':PS} {u:Unit},symsR n m l s=.ok u s'→AllN ShN s→AllN ShN s'∧PreB n s s'
 | 0,l,s,s',u,h,_=>by cases h
 | m+1,l,s,s',u,h,hp=>by
  rw[symsR] at h
  obtain⟨x,s1,h1,h2⟩:=Res.bind_ok h
  obtain⟨_,_,_,_,_,rfl⟩:=nameR_ok h1
  split at h2
  ·injection h2 with _ h2
   subst h2
   exact⟨(hp.same (s':=s.on.on) rfl).setN n fun d hd=>hd,fun i _ hi=>setN_at s.on.on n _ i hi⟩
  ·obtain⟨v,s2,h5,h6⟩:=Res.bind_ok h2
   obtain⟨h7,rfl⟩:=mustR_ok h5
   obtain⟨q1,q2⟩:=symsR_shp n m _ h6 (hp.same (s':=s.on.on) rfl)
   exact⟨q1,q2⟩
theorem definedR_shp {T:Bool→List Nat→PS→Res Nat} (hT:TS T) {s s':PS} {n:Nat} {k:Int} {u:Unit} (hkk:k=9∨k=10∨k=11) (h:definedR T s n k=.ok u s') (hp:AllN ShN s) (hk:KAt s n k):AllN ShN s'∧PreB n s s':=by
 unfold definedR at h
 obtain⟨x,s1,h1,h2⟩:=Res.bind_ok h
 obtain⟨_,_,_,_,_,rfl⟩:=nameR_ok h1
 simp only at h2
 have hp2:AllN ShN (s.on.called n x):=((hp.same (s':=s.on) rfl).setN n (f:=fun d=>{ d with name:=x }) fun d hd=>hd).same rfl
 have hb2:PreB n s (s.on.called n x):=fun i _ hi=>setN_at s.on n _ i hi
 have hl2:(s.on.called n x).ns.length=s.ns.length:=setN_len s.on n _
 have hk2:KAt (s.on.called n x) n k:=by
  obtain⟨d,e1,e2⟩:=hk
  refine⟨{ d with name:=x },?_,e2⟩
  show (s.ns.modify n _)[n]?=_
  rw[List.getElem?_modify,e1];simp
 generalize hs2:s.on.called n x=s2 at h2 hp2 hb2 hl2 hk2
 have tr:∀s3,PreB n s2 s3→PreB n s s3:=fun s3 h3 i hi hne=>(h3 i (by omega) hne).trans (hb2 i hi hne)
 split at h2
 ·obtain⟨v,s3,h5,h6⟩:=Res.bind_ok h2
  obtain⟨h7,rfl⟩:=mustR_ok h5
  obtain⟨q1,q2⟩:=symsR_shp n _ _ h6 (hp2.same rfl)
  exact⟨q1,tr _ q2⟩
 ·split at h2
  ·split at h2
   ·cases h2
   ·injection h2 with _ h2
    subst h2
    exact⟨(hp2.same (s':=s2.on) rfl).setN n fun d hd=>hd,tr _ fun i _ hi=>setN_at s2.on n _ i hi⟩
  ·next k9 k10=>
   obtain⟨v,s3,h5,h6⟩:=Res.bind_ok h2
   obtain⟨h7,rfl⟩:=mustR_ok h5
   have hk11:k=11:=by omega
   subst hk11
   obtain⟨q1,q2⟩:=fieldsR_shp hT n _ _ h6 (hp2.same rfl) hk2
   exact⟨q1,tr _ q2⟩
theorem typedR_shp:∀(fuel:Nat),TS (typedR fuel)
 | fuel,u,a,s,n,s',h,hp=>by
  rw[typedR.eq_def] at h
  simp only at h
  split at h
  ·cases h
  ·next k hk=>
   split at h
   ·cases h
   ·split at h
    ·injection h with _ h
     subst h
     exact⟨hp.same rfl,Pre.same rfl⟩
    ·cases fuel with
     | zero=>cases h
     | succ fuel=>
      have ih:=typedR_shp fuel
      simp only at h
      have hp1:AllN ShN ({ s.on with ns:=s.ns++[Nd.ofKind k] }:PS):=fun d hd=>by
       rcases List.mem_append.1 hd with hd|hd
       ·exact hp d hd
       ·rw[List.mem_singleton] at hd;subst hd;exact⟨.inl rfl,.inl rfl⟩
      have hpre:Pre s ({ s.on with ns:=s.ns++[Nd.ofKind k] }:PS):=fun i hi=>List.getElem?_append_left hi
      have hka:KAt ({ s.on with ns:=s.ns++[Nd.ofKind k] }:PS) s.ns.length k:=⟨Nd.ofKind k,by simp,rfl⟩
      generalize hs1:({ s.on with ns:=s.ns++[Nd.ofKind k] }:PS)=s1 at h hp1 hpre hka
      have fin:∀s2,PreB s.ns.length s1 s2→Pre s s2:=fun s2 hb i hi=>(hb i (Nat.lt_of_lt_of_le hi hpre.len) (by omega)).trans (hpre i hi)
      split at h
      ·next k6=>
       obtain⟨_,s2,h1,h2⟩:=Res.bind_ok h
       injection h2 with _ h2;subst h2
       obtain⟨q1,q2⟩:=itemR_shp ih h1 hp1 hka (.inl k6)
       exact⟨q1,fin _ q2⟩
      ·split at h
       ·next k7=>
        obtain⟨_,s2,h1,h2⟩:=Res.bind_ok h
        injection h2 with _ h2;subst h2
        obtain⟨q1,q2⟩:=itemR_shp ih h1 hp1 hka (.inr (.inl k7))
        exact⟨q1,fin _ q2⟩
       ·split at h
        ·next k8=>
         obtain⟨_,s2,h1,h2⟩:=Res.bind_ok h
         injection h2 with _ h2;subst h2
         subst k8
         obtain⟨q1,q2⟩:=unionR_shp ih _ _ _ h1 hp1 hka
         exact⟨q1,fin _ q2⟩
        ·split at h
         ·next kd=>
          obtain⟨_,s2,h1,h2⟩:=Res.bind_ok h
          injection h2 with _ h2;subst h2
          obtain⟨q1,q2⟩:=definedR_shp ih kd h1 hp1 hka
          exact⟨q1,fin _ q2⟩
         ·injection h with _ h;subst h
          exact⟨hp1,hpre⟩
theorem parse_shp (s:ByteArray):∀d∈(parseP s).1,ShN d:=by
 unfold parseP
 split
 ·intro d hd;cases hd
 ·split
  ·intro d hd;cases hd
  ·next s' he=>
   split
   ·intro d hd;cases hd
   ·exact (typedR_shp 20 _ _ _ _ _ he (fun d hd=>by cases hd)).1
theorem show_deep {ns:List Ne} {t:List UInt8} (h:showP ns=some t):∃d,dtyp ns 20 0 0=some (d,ns.length)∧depthP ns=d:=by
 have h0:=h
 unfold showP at h
 simp only at h
 split at h
 ·cases h
 ·next hb=>
  split at h
  ·cases h
  ·next hp=>
   simp only[not_or,Bool.not_eq_true,ne_eq,Decidable.not_not] at hb hp
   have hs:∀d∈ns,Shp d:=by
    rw[←hp.2]
    intro d hd
    obtain⟨d0,h1,rfl⟩:=List.mem_map.1 hd
    exact (parse_shp _ d0 h1).toE
   obtain⟨d,hd⟩:=wtyp_deep hs 20 0 ⟨[],0,false⟩ hb.1
   rw[hb.2] at hd
   refine⟨d,hd,?_⟩
   unfold depthP
   have hd:dtyp ns 20 0 0=some (d,ns.length):=hd
   rw[h0,hd]
def sr (s:PS):List UInt8:=ser (s.l.map tk)
abbrev WS (s:PS):Prop:=WTs (s.l.map tk)
theorem gap_hi {x y:TkL} (h:2≤x.1):gapT x y=[]:=by
 unfold gapT gapB
 rw[decide_eq_false (show ¬x.1=0 by omega),decide_eq_false (show ¬x.1=1 by omega)]
 rfl
theorem gap_hi2 {x y:TkL} (h:2≤y.1):gapT x y=[]:=by
 unfold gapT gapB
 rw[decide_eq_false (show ¬y.1=0 by omega),decide_eq_false (show ¬y.1=1 by omega)]
 simp
theorem gap_word {x y:TkL} (h:x.1=0) (h2:0≤y.1) (h3:y.1<2):gapT x y=[32]:=by
 unfold gapT gapB
 have:y.1=0∨y.1=1:=by omega
 rcases this with e|e<;>rw[h,e]<;>rfl
theorem WTk.rng {x:TkL} (h:WTk x):0≤x.1∧x.1<3:=by
 rcases h with⟨k,_⟩|⟨k,_⟩|⟨k,_⟩<;>rw[k]<;>decide
theorem wts_cons {x:TkL} {L:List TkL} (h:WTs (x::L)):(x=(3,[])∧L=[])∨(WTk x∧WTs L):=by
 cases h with
 | last=>exact .inl ⟨rfl,rfl⟩
 | cons hx hl=>exact .inr ⟨hx,hl⟩
theorem WS.step {s:PS} (h:WS s) (hk:(hd s.l).k<3):WTk (tk (hd s.l))∧WS s.on∧∃g,sr s=bs (hd s.l).s++(g++sr s.on)∧(2≤(hd s.l).k→g=[])∧(2≤(hd s.on.l).k→g=[])∧((hd s.l).k=0→0≤(hd s.on.l).k→(hd s.on.l).k<2→g=[32]):=by
 obtain⟨l,ns,nm⟩:=s
 cases l with
 | nil=>cases h
 | cons t r=>
  change WTs (tk t::r.map tk) at h
  rcases wts_cons h with⟨e,_⟩|⟨hx,hl⟩
  ·have:t.k=3:=congrArg Prod.fst e
   have hk':t.k<3:=hk
   omega
  ·cases r with
   | nil=>cases hl
   | cons y m=>
    exact⟨hx,hl,gapT (tk t) (tk y),rfl,fun h=>gap_hi h,fun h=>gap_hi2 h,fun h1 h2 h3=>gap_word h1 h2 h3⟩
theorem WS.rng {s:PS} (h:WS s):0≤(hd s.l).k∧(hd s.l).k≤3:=by
 obtain⟨l,ns,nm⟩:=s
 cases l with
 | nil=>cases h
 | cons t r=>
  change WTs (tk t::r.map tk) at h
  show 0≤t.k∧t.k≤3
  have:∀x L,WTs (x::L)→0≤x.1∧x.1≤3:=by
   intro x L hh
   cases hh with
   | last=>exact⟨by decide,by decide⟩
   | cons hx _=>have:=hx.rng;omega
  exact this _ _ h
theorem isT_s {s:PS} {x:ByteArray} (h:isT s x=true):(hd s.l).k≠3∧(hd s.l).s=x:=by simpa [isT] using h
theorem sign_step {s:PS} {c:UInt8} (hc:kindOf c=2) (h:WS s) (ht:isT s ⟨#[c]⟩=true):(hd s.l).k=2∧sr s=c::sr s.on∧WS s.on:=by
 obtain⟨h3,hs⟩:=isT_s ht
 have hr:=h.rng
 obtain⟨hw,hon,g,e,g1,_,_⟩:=h.step (by omega)
 have hsb:bs (hd s.l).s=[c]:=by rw[hs];rfl
 have k2:(hd s.l).k=2:=by
  rcases hw with⟨k,c',r,e1,e2,_⟩|⟨k,c',r,e1,e2,_⟩|⟨k,_⟩
  ·rw[show (tk (hd s.l)).2=bs (hd s.l).s from rfl,hsb] at e1
   injection e1 with e1 _;subst e1
   have:=((byte_sorts c).1 e2).1
   rw[hc] at this;cases this
  ·rw[show (tk (hd s.l)).2=bs (hd s.l).s from rfl,hsb] at e1
   injection e1 with e1 _;subst e1
   have:=((byte_sorts c).2.1 e2).1
   rw[hc] at this;cases this
  ·exact k
 refine⟨k2,?_,hon⟩
 rw[e,g1 (by omega),hsb];rfl
theorem must_step {s s':PS} {c:UInt8} {u:Unit} (hc:kindOf c=2) (h:WS s) (ht:mustR s ⟨#[c]⟩=.ok u s'):(hd s.l).k=2∧sr s=c::sr s'∧WS s'∧s'=s.on:=by
 obtain⟨h1,rfl⟩:=mustR_ok ht
 obtain⟨a,b,c⟩:=sign_step hc h h1
 exact⟨a,b,c,rfl⟩
theorem name_step {s s':PS} {th:ByteArray→Bool} {x:ByteArray} (h:WS s) (hn:nameR s th=.ok x s'):WS s'∧(hd s.l).k=0∧s'=s.on∧∃g,sr s=bs x++(g++sr s')∧(2≤(hd s'.l).k→g=[])∧(0≤(hd s'.l).k→(hd s'.l).k<2→g=[32]):=by
 obtain⟨k0,_,_,_,rfl,rfl⟩:=nameR_ok hn
 obtain⟨_,hon,g,e,_,g2,g3⟩:=h.step (by omega)
 exact⟨hon,k0,rfl,g,e,g2,g3 k0⟩
def Nam (N:List Ne) (s:PS):Prop:=∀y i,s.nm y=some i→i<s.ns.length∧∃d,N[i]?=some d∧d.name=y∧9≤d.k
theorem Nam.same {N:List Ne} {s s':PS} (h:Nam N s) (e:s'.nm=s.nm) (hl:s.ns.length≤s'.ns.length):Nam N s':=fun y i hy=>by
 rw[e] at hy
 obtain⟨h1,h2⟩:=h y i hy
 exact⟨by omega,h2⟩
def FnW (N:List Ne) (s s':PS):Prop:=∀i,s.ns.length≤i→i<s'.ns.length→N[i]?=(s'.ns[i]?).map Nd.toE
theorem FnW.cut {N:List Ne} {s s1 s':PS} {n:Nat} (h:FnW N s s') (hp:PreB n s1 s') (hl:s1.ns.length≤s'.ns.length) (hn:n<s.ns.length):FnW N s s1:=fun i h1 h2=>by
 rw[h i h1 (by omega),hp i h2 (by omega)]
theorem FnW.late {N:List Ne} {s s1 s':PS} (h:FnW N s s') (hl:s.ns.length≤s1.ns.length):FnW N s1 s':=fun i h1 h2=>h i (by omega) h2
def TR (N:List Ne) (T:Bool→List Nat→PS→Res Nat) (W:WT):Prop:=∀u a s n s' S,T u a s=.ok n s'→WS s→AllN ShN s→Nam N s→FnW N s s'→S.length+(sr s).length≤4096→
 ∃out,W (n:Int) ⟨S,s.ns.length,false⟩=⟨S++out,s'.ns.length,false⟩∧(2≤(hd s'.l).k→sr s=out++sr s')∧WS s'∧Nam N s'
theorem setN_get (s:PS) (n:Nat) (f:Nd→Nd) (d:Nd) (h:s.ns[n]?=some d):(s.setN n f).ns[n]?=some (f d):=by
 show (s.ns.modify n f)[n]?=_
 rw[List.getElem?_modify,h];simp
section
variable {N:List Ne} {T:Bool→List Nat→PS→Res Nat} {W:WT}
theorem itemR_sh (hT:TR N T W) (hS:TS T) (hG:TG T) {s s':PS} {n:Nat} {c:UInt8} {u:Unit} {S:List UInt8} (h:itemR T s n ⟨#[c]⟩=.ok u s') (hc:kindOf c=2) (hw:WS s) (ha:AllN ShN s) (hm:Nam N s) (hn:n<s.ns.length) (hF:FnW N s s') (hb:S.length+(sr s).length≤4096) :
  ∃(x:Nat) (out:List UInt8),(∀d,s.ns[n]?=some d→s'.ns[n]?=some { d with items:=[x] })∧W (x:Int) ⟨S,s.ns.length,false⟩=⟨S++out,s'.ns.length,false⟩∧sr s=out++c::sr s'∧WS s'∧Nam N s':=by
 obtain⟨x,s1,h1,h2⟩:=Res.bind_ok h
 have hlen:=hG _ _ _ _ _ h1
 obtain⟨_,hpre⟩:=hS _ _ _ _ _ h1 ha
 have hs':s'=(s1.setN n fun d=>{ d with items:=[x] }).on:=(mustR_ok h2).2
 have hl':s'.ns.length=s1.ns.length:=by rw[hs'];exact setN_len s1 n _
 have hF1:FnW N s s1:=hF.cut (n:=n) (fun i _ hi=>by rw[hs'];exact setN_at s1 n _ i hi) (by omega) hn
 obtain⟨out,hW,hsr,hw1,hm1⟩:=hT _ _ _ _ _ S h1 hw ha hm hF1 hb
 obtain⟨k2,e2,hw2,_⟩:=must_step hc (s:=s1.setN n fun d=>{ d with items:=[x] }) hw1 h2
 refine⟨x,out,fun d hd=>?_,by rw[hl'];exact hW,?_,hw2,?_⟩
 ·rw[hs']
  exact setN_get s1 n _ d (by rw[hpre n hn];exact hd)
 ·have k2':(hd s1.l).k=2:=k2
  have e2':sr s1=c::sr s':=e2
  rw[hsr (by omega),e2']
 ·exact hm1.same (by rw[hs'];rfl) (by omega)
theorem unionR_sh (hT:TR N T W) (hS:TS T) (hG:TG T) (n:Nat):∀(m:Nat) (l:List Nat) {s s':PS} {u:Unit} {S:List UInt8},unionR T n m l s=.ok u s'→WS s→AllN ShN s→KAt s n 8→Nam N s→n<s.ns.length→FnW N s s'→S.length+(sr s).length≤4096→
  ∃(x:Nat) (more:List Nat) (out:List UInt8),(∀d,s.ns[n]?=some d→s'.ns[n]?=some { d with items:=l++x::more })∧wlist W false (more.map fun (n:Nat)=>(n:Int)) (W (x:Int) ⟨S,s.ns.length,false⟩)=⟨S++out,s'.ns.length,false⟩∧sr s=out++41::sr s'∧WS s'∧Nam N s'
 | 0,l,s,s',u,S,h,_,_,_,_,_,_,_=>by cases h
 | m+1,l,s,s',u,S,h,hw,ha,hk,hm,hn,hF,hb=>by
  rw[unionR] at h
  obtain⟨x,s1,h1,h2⟩:=Res.bind_ok h
  have hlen:=hG _ _ _ _ _ h1
  obtain⟨ha1,hpre⟩:=hS _ _ _ _ _ h1 ha
  have hk1:=hk.pre hpre
  split at h2
  ·next ht=>
   injection h2 with _ h2
   have hl':s'.ns.length=s1.ns.length:=by rw[←h2];exact setN_len s1.on n _
   have hF1:FnW N s s1:=hF.cut (n:=n) (fun i _ hi=>by rw[←h2];exact setN_at s1.on n _ i hi) (by omega) hn
   obtain⟨out,hW,hsr,hw1,hm1⟩:=hT _ _ _ _ _ S h1 hw ha hm hF1 hb
   obtain⟨k2,e2,hw2⟩:=sign_step (c:=41) (by decide +kernel) hw1 ht
   refine⟨x,[],out,fun d hd=>?_,by rw[hl'];exact hW,?_,by rw[←h2];exact hw2,hm1.same (by rw[←h2];rfl) (by omega)⟩
   ·rw[←h2]
    exact setN_get s1.on n _ d (by show s1.ns[n]?=_;rw[hpre n hn];exact hd)
   ·rw[hsr (by omega),e2,←h2];rfl
  ·obtain⟨v,s2,h5,h6⟩:=Res.bind_ok h2
   obtain⟨_,hs2⟩:=mustR_ok h5
   subst hs2
   have hq:=unionR_len hG n m _ h6
   have hp2:=(unionR_shp hS n m _ h6 (ha1.same rfl) hk1).2
   have hF1:FnW N s s1:=hF.cut (n:=n) (s1:=s1) (fun i hi hne=>hp2 i hi hne) hq.1 hn
   obtain⟨out,hW,hsr,hw1,hm1⟩:=hT _ _ _ _ _ S h1 hw ha hm hF1 hb
   obtain⟨k2,e2,hw2,_⟩:=must_step (c:=124) (by decide +kernel) hw1 h5
   have esr:=hsr (by omega)
   have hb2:(S++out++[124]).length+(sr s1.on).length≤4096:=by
    rw[esr,e2] at hb
    simp only[List.length_append,List.length_cons,List.length_nil] at hb ⊢
    omega
   obtain⟨x2,more,out2,q1,q2,q3,q4,q5⟩:=unionR_sh hT hS hG n m (l++[x]) (S:=S++out++[124]) h6 hw2 (ha1.same rfl) hk1 (hm1.same rfl (Nat.le_refl _)) (Nat.lt_of_lt_of_le hn hlen.1) (hF.late (s1:=s1.on) hlen.1) hb2
   refine⟨x,x2::more,out++124::out2,fun d hd=>?_,?_,?_,q4,q5⟩
   ·have:=q1 d (by show s1.ns[n]?=_;rw[hpre n hn];exact hd)
    rw[this];simp
   ·rw[hW,List.map_cons,wlist]
    simp only[Bool.false_eq_true,if_false]
    rw[show (WSt.put ⟨S++out,s1.ns.length,false⟩ [124])=⟨S++out++[124],s1.on.ns.length,false⟩ from rfl,q2]
    simp
   ·rw[esr,e2,q3];simp
theorem inter_cons (a b:List UInt8) (l:List (List UInt8)):([44]:List UInt8).intercalate (a::b::l)=a++44::([44]:List UInt8).intercalate (b::l):=by
 simp[List.intercalate,List.intersperse]
theorem symsR_sh (n:Nat):∀(m:Nat) (l:List ByteArray) {s s':PS} {u:Unit},symsR n m l s=.ok u s'→WS s→
  ∃(x:ByteArray) (more:List ByteArray),(∀d,s.ns[n]?=some d→s'.ns[n]?=some { d with syms:=l++x::more })∧sr s=([44]:List UInt8).intercalate ((x::more).map bs)++62::sr s'∧WS s'∧s'.nm=s.nm∧s'.ns.length=s.ns.length
 | 0,l,s,s',u,h,_=>by cases h
 | m+1,l,s,s',u,h,hw=>by
  rw[symsR] at h
  obtain⟨x,s1,h1,h2⟩:=Res.bind_ok h
  obtain⟨hw1,k0,hs1,g,e1,g1,g2⟩:=name_step hw h1
  split at h2
  ·next ht=>
   injection h2 with _ h2
   obtain⟨k2,e2,hw2⟩:=sign_step (c:=62) (by decide +kernel) hw1 ht
   refine⟨x,[],fun d hd=>?_,?_,by rw[←h2];exact hw2,by rw[←h2,hs1];rfl,by rw[←h2,hs1];exact setN_len s.on.on n _⟩
   ·rw[←h2]
    exact setN_get s1.on n _ d (by rw[hs1];exact hd)
   ·rw[e1,g1 (by omega),e2,←h2]
    simp[List.intercalate]
    rfl
  ·obtain⟨v,s2,h5,h6⟩:=Res.bind_ok h2
   obtain⟨k2,e2,hw2,hs2⟩:=must_step (c:=44) (by decide +kernel) hw1 h5
   obtain⟨x2,more,q1,q2,q3,q4,q5⟩:=symsR_sh n m (l++[x]) h6 hw2
   refine⟨x,x2::more,fun d hd=>?_,?_,q3,by rw[q4,hs2,hs1];rfl,by rw[q5,hs2,hs1];rfl⟩
   ·have:=q1 d (by rw[hs2,hs1];exact hd)
    rw[this];simp
   ·rw[e1,g1 (by omega),e2,q2,List.map_cons,List.map_cons,List.map_cons,inter_cons,List.nil_append,List.append_assoc]
    rfl
def fE (f:ByteArray×Bool×Nat):ByteArray×Bool×Int:=(f.1,f.2.1,(f.2.2:Int))
theorem fieldsR_at (hS:TS T) (hG:TG T) (n:Nat):∀(m:Nat) (l:List (ByteArray×Bool×Nat)) {s s':PS} {u:Unit},fieldsR T n m l s=.ok u s'→AllN ShN s→n<s.ns.length→∀d,s.ns[n]?=some d→∃l',s'.ns[n]?=some { d with fields:=l' }
 | 0,l,s,s',u,h,_,_,_,_=>by cases h
 | m+1,l,s,s',u,h,ha,hn,d,hd=>by
  rw[fieldsR] at h
  split at h
  ·injection h with _ h
   rw[←h]
   exact⟨l,setN_get s.on n _ d hd⟩
  ·obtain⟨x,s1,h1,h2⟩:=Res.bind_ok h
   obtain⟨_,_,_,_,_,rfl⟩:=nameR_ok h1
   obtain⟨v,s2,h3,h4⟩:=Res.bind_ok h2
   obtain⟨h5,rfl⟩:=mustR_ok h3
   obtain⟨t,s3,h6,h7⟩:=Res.bind_ok h4
   obtain⟨v2,s4,h10,h11⟩:=Res.bind_ok h7
   obtain⟨h12,rfl⟩:=mustR_ok h10
   have e2:(goesR s.on cQ).2.on.ns=s.ns:=by show (goesR s.on cQ).2.ns=_;rw[goes_ns];rfl
   obtain⟨p1,p2⟩:=hS _ _ _ _ _ h6 (ha.same e2)
   have hl:=(hG _ _ _ _ _ h6).1
   rw[e2] at hl
   exact fieldsR_at hS hG n m _ h11 (p1.same rfl) (Nat.lt_of_lt_of_le hn hl) d (by show s3.ns[n]?=_;rw[p2 n (by rw[e2];exact hn),e2];exact hd)
theorem fieldsR_sh (hT:TR N T W) (hS:TS T) (hG:TG T) (n:Nat):∀(m:Nat) (l:List (ByteArray×Bool×Nat)) {s s':PS} {u:Unit} {S:List UInt8},fieldsR T n m l s=.ok u s'→WS s→AllN ShN s→KAt s n 11→Nam N s→n<s.ns.length→FnW N s s'→S.length+(sr s).length≤4096→
  ∃(more:List (ByteArray×Bool×Nat)) (out:List UInt8),(∀d,s.ns[n]?=some d→s'.ns[n]?=some { d with fields:=l++more })∧wflds W (more.map fE) ⟨S,s.ns.length,false⟩=⟨S++out,s'.ns.length,false⟩∧sr s=out++125::sr s'∧WS s'∧Nam N s'
 | 0,l,s,s',u,S,h,_,_,_,_,_,_,_=>by cases h
 | m+1,l,s,s',u,S,h,hw,ha,hk,hm,hn,hF,hb=>by
  rw[fieldsR] at h
  split at h
  ·next ht=>
   injection h with _ h
   obtain⟨k2,e2,hw2⟩:=sign_step (c:=125) (by decide +kernel) hw ht
   have hl':s'.ns.length=s.ns.length:=by rw[←h];exact setN_len s.on n _
   refine⟨[],[],fun d hd=>?_,by rw[hl'];simp[wflds],?_,by rw[←h];exact hw2,hm.same (by rw[←h];rfl) (by omega)⟩
   ·rw[←h]
    have:=setN_get s.on n (fun d=>{ d with fields:=l }) d hd
    rw[this];simp
   ·rw[e2,←h];rfl
  ·obtain⟨x,s1,h1,h2⟩:=Res.bind_ok h
   obtain⟨hw1,k0,hs1,g,e1,g1,g2⟩:=name_step hw h1
   subst hs1
   obtain⟨v,s2,h3,h4⟩:=Res.bind_ok h2
   have hq:∃o:List UInt8,sr s.on=o++58::sr s2∧o=(if (goesR s.on cQ).1 then [63] else [])∧(hd s.on.l).k=2∧WS s2∧s2.ns=s.ns∧s2.nm=s.nm:=by
    unfold goesR at h3 ⊢
    by_cases hqm:isT s.on cQ=true
    ·rw[if_pos hqm] at h3 ⊢
     obtain⟨a1,a2,a3⟩:=sign_step (c:=63) (by decide +kernel) hw1 hqm
     obtain⟨b1,b2,b3,b4⟩:=must_step (c:=58) (by decide +kernel) a3 h3
     exact⟨[63],by rw[a2,b2];rfl,rfl,a1,b3,by rw[b4];rfl,by rw[b4];rfl⟩
    ·rw[if_neg hqm] at h3 ⊢
     obtain⟨b1,b2,b3,b4⟩:=must_step (c:=58) (by decide +kernel) hw1 h3
     exact⟨[],by rw[b2];rfl,by simp,b1,b3,by rw[b4];rfl,by rw[b4];rfl⟩
   obtain⟨o,q1,q2,q3,hw2,q5,q6⟩:=hq
   have e1:sr s=bs x++(o++58::sr s2):=by rw[e1,g1 (by omega),q1];rfl
   clear h3
   obtain⟨t,s3,h6,h7⟩:=Res.bind_ok h4
   obtain⟨v2,s4,h10,h11⟩:=Res.bind_ok h7
   obtain⟨_,hs4⟩:=mustR_ok h10
   subst hs4
   obtain⟨p1,p2⟩:=hS _ _ _ _ _ h6 (ha.same q5)
   have hlen:=(hG _ _ _ _ _ h6).1
   rw[q5] at hlen
   have hk3:KAt s3 n 11:=(hk.pre (Pre.same (s':=s2) q5)).pre p2
   have hq:=fieldsR_len hG n m _ h11
   have hp2:=(fieldsR_shp hS n m _ h11 (p1.same rfl) hk3).2
   have hF2:FnW N s2 s':=fun i a b=>hF i (by rw[←q5];exact a) b
   have hF1:FnW N s2 s3:=hF2.cut (n:=n) (s1:=s3) (fun i hi hne=>hp2 i hi hne) hq.1 (by rw[q5];exact hn)
   have hb2:(S++bs x++o++[58]).length+(sr s2).length≤4096:=by
    rw[e1] at hb
    simp only[List.length_append,List.length_cons,List.length_nil] at hb ⊢
    omega
   obtain⟨out,hW,hsr,hw3,hm3⟩:=hT _ _ _ _ _ (S++bs x++o++[58]) h6 hw2 (ha.same q5) (hm.same q6 (by rw[q5];exact Nat.le_refl _)) hF1 hb2
   obtain⟨k2,e2,hw4,_⟩:=must_step (c:=59) (by decide +kernel) hw3 h10
   have esr:=hsr (by omega)
   have hb3:(S++bs x++o++[58]++out++[59]).length+(sr s3.on).length≤4096:=by
    rw[e1,esr,e2] at hb
    simp only[List.length_append,List.length_cons,List.length_nil] at hb ⊢
    omega
   obtain⟨more,out2,r1,r2,r3,r4,r5⟩:=fieldsR_sh hT hS hG n m _ (S:=S++bs x++o++[58]++out++[59]) h11 hw4 (p1.same rfl) hk3 (hm3.same rfl (Nat.le_refl _)) (Nat.lt_of_lt_of_le hn hlen) (hF.late (s1:=s3.on) hlen) hb3
   refine⟨(x,(goesR s.on cQ).1,t)::more,bs x++o++58::out++59::out2,fun d hd=>?_,?_,?_,r4,r5⟩
   ·have:=r1 d (by show s3.ns[n]?=_;rw[p2 n (by rw[q5];exact hn),q5];exact hd)
    rw[this];simp
   ·rw[List.map_cons,wflds,wfield]
    have hst:((if (fE (x,(goesR s.on cQ).1,t)).2.1 then (WSt.put ⟨S,s.ns.length,false⟩ (bs (fE (x,(goesR s.on cQ).1,t)).1)).put [63] else WSt.put ⟨S,s.ns.length,false⟩ (bs (fE (x,(goesR s.on cQ).1,t)).1)).put [58])=⟨S++bs x++o++[58],s2.ns.length,false⟩:=by
     rw[q2,q5]
     unfold fE WSt.put
     simp only
     by_cases hg:(goesR s.on cQ).1=true
     ·simp[hg]
     ·simp[hg]
    rw[hst,show (fE (x,(goesR s.on cQ).1,t)).2.2=(t:Int) from rfl,hW]
    rw[show (WSt.put ⟨S++bs x++o++[58]++out,s3.ns.length,false⟩ [59])=⟨S++bs x++o++[58]++out++[59],s3.on.ns.length,false⟩ from rfl,r2]
    simp
   ·rw[e1,esr,e2,r3];simp
theorem definedR_sh (hT:TR N T W) (hS:TS T) (hG:TG T) {s s':PS} {n:Nat} {k:Int} {u:Unit} {S:List UInt8} (hk:k=9∨k=10∨k=11) (h:definedR T s n k=.ok u s') (hw:WS s) (ha:AllN ShN s) (hd0:s.ns[n]?=some (Nd.ofKind k)) (hm:Nam N s) (hn:n<s.ns.length) (hF:FnW N s s') (hNn:N[n]?=(s'.ns[n]?).map Nd.toE) (hb:S.length+(if k=10 then 6 else if k=9 then 5 else 7)+(sr s).length≤4096) :
  ∃(d:Nd) (out:List UInt8),s'.ns[n]?=some d∧d.k=k∧(hd s.l).k=0∧wbody W d.toE ⟨S,s.ns.length,false⟩=⟨S++((if k=10 then sFix else if k=9 then sEn else sRec)++out),s'.ns.length,false⟩∧(2≤(hd s'.l).k→sr s=out++sr s')∧WS s'∧Nam N s':=by
 unfold definedR at h
 obtain⟨x,s1,h1,h2⟩:=Res.bind_ok h
 obtain⟨hw1,k0,hs1,g,e1,g1,g2⟩:=name_step hw h1
 subst hs1
 simp only at h2
 have hd2:(s.on.called n x).ns[n]?=some { Nd.ofKind k with name:=x }:=setN_get s.on n _ _ hd0
 have hl2:(s.on.called n x).ns.length=s.ns.length:=setN_len s.on n _
 have hl2':(s.on.called n x).l=s.on.l:=rfl
 have hnm2:(s.on.called n x).nm=fun y=>if y=x then some n else s.nm y:=rfl
 have ha2:AllN ShN (s.on.called n x):=((ha.same (s':=s.on) rfl).setN n (f:=fun d=>{ d with name:=x }) fun d hd=>hd).same rfl
 have hnam:(∃d,s'.ns[n]?=some d∧d.name=x∧d.k=k)→Nam N (s.on.called n x):=by
  rintro⟨d,f1,f2,f3⟩ y i hy
  rw[hnm2] at hy
  simp only at hy
  split at hy
  ·next hyx=>
   injection hy with hy
   subst hy
   rw[hl2]
   refine⟨hn,d.toE,by rw[hNn,f1];rfl,by rw[hyx];exact f2,?_⟩
   show 9≤d.k
   omega
  ·obtain⟨a,b⟩:=hm y i hy
   rw[hl2]
   exact⟨a,b⟩
 generalize hs2:s.on.called n x=s2 at h2 hd2 hl2 hl2' hnm2 ha2 hnam
 have hw2:WS s2:=by show WTs (s2.l.map tk);rw[hl2'];exact hw1
 have esr2:sr s2=sr s.on:=by unfold sr;rw[hl2']
 have hF2:FnW N s2 s':=hF.late (by omega)
 split at h2
 ·next k9=>
  subst k9
  obtain⟨v,s3,h5,h6⟩:=Res.bind_ok h2
  obtain⟨a1,a2,a3,a4⟩:=must_step (c:=60) (by decide +kernel) hw2 h5
  obtain⟨y,more,q1,q2,q3,q4,q5⟩:=symsR_sh n _ _ h6 a3
  have hfin:=q1 _ (by rw[a4];exact hd2)
  have hl':s'.ns.length=s.ns.length:=by rw[q5,a4];exact hl2
  refine⟨_,bs x++(60::([44]:List UInt8).intercalate ((y::more).map bs)++[62]),hfin,rfl,k0,?_,fun _=>?_,q3,(hnam ⟨_,hfin,rfl,rfl⟩).same (by rw[q4,a4];rfl) (by omega)⟩
  ·rw[hl']
   show wbody W ⟨9,x,0,[]++y::more,[],[]⟩ _=_
   rw[wbody]
   simp[WSt.put]
  ·rw[e1,g1 (by rw[←hl2',a1];decide),←esr2,a2,q2]
   simp
 ·split at h2
  ·next k10=>
   subst k10
   split at h2
   ·cases h2
   ·next hc=>
    injection h2 with _ h2
    simp only[not_or,ne_eq,Decidable.not_not] at hc
    obtain⟨c1,c2⟩:=hc
    obtain⟨_,hw3,g',e3,_,g3,_⟩:=hw2.step (by omega)
    have hfin:s'.ns[n]?=some { Nd.ofKind 10 with name:=x,size:=(((numO (hd s2.l).s.data.toList).getD 0:Nat):Int) }:=by
     rw[←h2];exact setN_get s2.on n _ _ hd2
    have hl':s'.ns.length=s.ns.length:=by rw[←h2];exact (setN_len s2.on n _).trans hl2
    obtain⟨w,hwn⟩:=Option.ne_none_iff_exists'.1 c2
    have hit:Lib.itoa (((numO (hd s2.l).s.data.toList).getD 0:Nat):Int)=bs (hd s2.l).s:=by rw[hwn];exact num_dec hwn
    refine⟨_,bs x++(32::bs (hd s2.l).s),hfin,rfl,k0,?_,fun h2k=>?_,by rw[←h2];exact hw3,(hnam ⟨_,hfin,rfl,rfl⟩).same (by rw[←h2];rfl) (by omega)⟩
    ·rw[hl']
     show wbody W ⟨10,x,_,[],[],[]⟩ _=_
     rw[wbody]
     simp only[show ¬(10:Int)=6 by decide,show ¬(10:Int)=7 by decide,show ¬(10:Int)=8 by decide,show ¬(10:Int)=9 by decide,if_false,if_true]
     rw[hit]
     simp[WSt.put]
    ·have hg:g=[32]:=g2 (by rw[←hl2',c1];decide) (by rw[←hl2',c1];decide)
     have hg':g'=[]:=g3 (by rw[←h2] at h2k;exact h2k)
     have e5:sr s'=sr s2.on:=by rw[←h2];rfl
     rw[e1,hg,←esr2,e3,hg',e5]
     simp
  ·next k9 k10=>
   obtain⟨v,s3,h5,h6⟩:=Res.bind_ok h2
   have hk11:k=11:=by omega
   subst hk11
   obtain⟨a1,a2,a3,a4⟩:=must_step (c:=123) (by decide +kernel) hw2 h5
   have hd3:s3.ns[n]?=some { Nd.ofKind 11 with name:=x }:=by rw[a4];exact hd2
   have hl3:s3.ns.length=s.ns.length:=by rw[a4];exact hl2
   have ha3:AllN ShN s3:=ha2.same (by rw[a4];rfl)
   obtain⟨l',hat⟩:=fieldsR_at hS hG n _ _ h6 ha3 (by omega) _ hd3
   have hm3:Nam N s3:=(hnam ⟨_,hat,rfl,rfl⟩).same (by rw[a4];rfl) (by omega)
   have esr:sr s=bs x++(123::sr s3):=by rw[e1,g1 (by rw[←hl2',a1];decide),←esr2,a2];rfl
   have hb3:(S++(sRec++bs x++[123])).length+(sr s3).length≤4096:=by
    rw[esr] at hb
    simp only[List.length_append,List.length_cons,List.length_nil,show ¬(11:Int)=10 by decide,show ¬(11:Int)=9 by decide,if_false,show sRec.length=7 from rfl] at hb ⊢
    omega
   obtain⟨more,out,r1,r2,r3,r4,r5⟩:=fieldsR_sh hT hS hG n _ _ (S:=S++(sRec++bs x++[123])) h6 a3 ha3 ⟨_,hd3,rfl⟩ hm3 (by omega) (hF.late (by omega)) hb3
   have hfin:=r1 _ hd3
   refine⟨_,bs x++(123::out++[125]),hfin,rfl,k0,?_,fun _=>?_,r4,r5⟩
   ·show wbody W ⟨11,x,0,[],[],([]++more).map fE⟩ _=_
    rw[wbody]
    simp only[show ¬(11:Int)=6 by decide,show ¬(11:Int)=7 by decide,show ¬(11:Int)=8 by decide,show ¬(11:Int)=9 by decide,show ¬(11:Int)=10 by decide,if_false,if_true,List.nil_append]
    rw[wrecord]
    simp only
    rw[show (WSt.put ⟨S,s.ns.length,false⟩ (sRec++bs x++[123]))=⟨S++(sRec++bs x++[123]),s3.ns.length,false⟩ by rw[hl3];rfl,r2]
    simp[WSt.put]
   ·rw[esr,r3];simp
end
end Pr
end Go.Proofs.YtmaoochjbpohdaaGreatDoor
