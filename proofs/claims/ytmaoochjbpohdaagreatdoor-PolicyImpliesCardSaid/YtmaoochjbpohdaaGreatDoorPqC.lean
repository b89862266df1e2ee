/- parse: reading asks no places: plain. -/
import Derived.Test.YtmaoochjbpohdaaGreatDoorPqB
set_option linter.unusedVariables false
set_option linter.unusedSimpArgs false
set_option maxRecDepth 100000
set_option maxHeartbeats 1000000
namespace Go.Proofs.YtmaoochjbpohdaaGreatDoor
namespace Pr
open Lx
def er (t:Tok):Tok:=⟨t.k,t.s,0⟩
def PS.er (s:PS):PS:={ s with l:=s.l.map Pr.er }
def Res.er {α:Type}:Res α→Res α
 | .ok a s=>.ok a s.er
 | .bad _ w=>.bad 0 w
theorem hd_er (l:List Tok):hd (l.map er)=er (hd l):=by cases l<;>rfl
theorem isT_er (s:PS) (x:ByteArray):isT s.er x=isT s x:=by
 unfold isT
 rw[show s.er.l=s.l.map Pr.er from rfl,hd_er]
 rfl
theorem on_er (s:PS):s.er.on=s.on.er:=by
 unfold PS.on PS.er
 simp[List.map_tail]
theorem failR_er {α:Type} (s:PS) (w:Nat):(failR s.er w:Res α)=(failR s w).er:=by
 unfold failR
 rw[show s.er.l=s.l.map Pr.er from rfl,hd_er]
 rfl
theorem bind_er {α β:Type} {r r':Res α} {f f':α→PS→Res β} (h:r'=r.er) (hf:∀a s,f' a s.er=(f a s).er):r'.bind f'=(r.bind f).er:=by
 subst h
 cases r with
 | ok a s=>exact hf a s
 | bad a w=>rfl
theorem mustR_er (s:PS) (x:ByteArray):mustR s.er x=(mustR s x).er:=by
 unfold mustR
 rw[isT_er,on_er,failR_er]
 split<;>rfl
theorem goesR_er (s:PS) (x:ByteArray):goesR s.er x=((goesR s x).1,(goesR s x).2.er):=by
 unfold goesR
 rw[isT_er,on_er]
 split<;>rfl
theorem nameR_er (s:PS) (th:ByteArray→Bool):nameR s.er th=(nameR s th).er:=by
 unfold nameR
 rw[failR_er,failR_er,on_er,show s.er.l=s.l.map Pr.er from rfl,hd_er,show (Pr.er (hd s.l)).k=(hd s.l).k from rfl,show (Pr.er (hd s.l)).s=(hd s.l).s from rfl]
 split
 ·rfl
 ·split<;>rfl
theorem kindR_er (s:PS):kindR s.er=kindR s:=by
 unfold kindR
 rw[isT_er,isT_er,isT_er,show s.er.l=s.l.map Pr.er from rfl,hd_er]
 rfl
theorem setN_er (s:PS) (n:Nat) (f:Nd→Nd):s.er.setN n f=(s.setN n f).er:=rfl
def TE (T:Bool→List Nat→PS→Res Nat):Prop:=∀u a s,T u a s.er=(T u a s).er
section
variable {T:Bool→List Nat→PS→Res Nat}
theorem itemR_er (hT:TE T) (s:PS) (n:Nat) (x:ByteArray):itemR T s.er n x=(itemR T s n x).er:=by
 unfold itemR
 refine bind_er (hT _ _ _) fun a s1=>?_
 rw[setN_er,mustR_er]
theorem unionR_er (hT:TE T) (n:Nat):∀(m:Nat) (l:List Nat) (s:PS),unionR T n m l s.er=(unionR T n m l s).er
 | 0,l,s=>by rw[unionR,unionR,failR_er]
 | m+1,l,s=>by
  rw[unionR,unionR]
  refine bind_er (hT _ _ _) fun a s1=>?_
  rw[isT_er,on_er,setN_er]
  split
  ·rfl
  ·exact bind_er (mustR_er _ _) fun _ s2=>unionR_er hT n m _ s2
theorem symsR_er (n:Nat):∀(m:Nat) (l:List ByteArray) (s:PS),symsR n m l s.er=(symsR n m l s).er
 | 0,l,s=>by rw[symsR,symsR,failR_er]
 | m+1,l,s=>by
  rw[symsR,symsR]
  refine bind_er (nameR_er _ _) fun a s1=>?_
  rw[isT_er,on_er,setN_er]
  split
  ·rfl
  ·exact bind_er (mustR_er _ _) fun _ s2=>symsR_er n m _ s2
theorem fieldsR_er (hT:TE T) (n:Nat):∀(m:Nat) (l:List (ByteArray×Bool×Nat)) (s:PS),fieldsR T n m l s.er=(fieldsR T n m l s).er
 | 0,l,s=>by rw[fieldsR,fieldsR,failR_er]
 | m+1,l,s=>by
  rw[fieldsR,fieldsR,isT_er,on_er,setN_er]
  split
  ·rfl
  ·refine bind_er (nameR_er _ _) fun x s1=>?_
   rw[goesR_er]
   refine bind_er (mustR_er _ _) fun _ s2=>?_
   refine bind_er (hT _ _ _) fun t s3=>?_
   exact bind_er (mustR_er _ _) fun _ s4=>fieldsR_er hT n m _ s4
theorem er_len (s:PS):s.er.l.length=s.l.length:=by show (s.l.map Pr.er).length=_;rw[List.length_map]
theorem definedR_er (hT:TE T) (s:PS) (n:Nat) (k:Int):definedR T s.er n k=(definedR T s n k).er:=by
 unfold definedR
 refine bind_er (nameR_er _ _) fun x s1=>?_
 rw[show s1.er.called n x=(s1.called n x).er from rfl]
 generalize s1.called n x=s2
 simp only
 split
 ·refine bind_er (mustR_er _ _) fun _ s3=>?_
  rw[er_len,symsR_er]
 ·split
  ·rw[failR_er,on_er,setN_er,show s2.er.l=s2.l.map Pr.er from rfl,hd_er,show (Pr.er (hd s2.l)).k=(hd s2.l).k from rfl,show (Pr.er (hd s2.l)).s=(hd s2.l).s from rfl]
   split<;>rfl
  ·refine bind_er (mustR_er _ _) fun _ s3=>?_
   rw[er_len,fieldsR_er hT]
end
theorem typedR_er:∀(fuel:Nat),TE (typedR fuel)
 | fuel,u,a,s=>by
  rw[typedR.eq_def,typedR.eq_def fuel u a s]
  simp only
  rw[kindR_er]
  split
  ·exact failR_er _ _
  ·next k hk=>
   rw[show s.er.l=s.l.map Pr.er from rfl,hd_er,show (Pr.er (hd s.l)).s=(hd s.l).s from rfl,show s.er.nm=s.nm from rfl,show gateR fuel u a s.er k (s.nm (hd s.l).s)=gateR fuel u a s k (s.nm (hd s.l).s) from rfl]
   split
   ·exact failR_er _ _
   ·split
    ·show Res.ok _ s.er.on=_
     rw[on_er];rfl
    ·rw[on_er,show s.er.ns=s.ns from rfl,show ({ s.on.er with ns:=s.ns++[Nd.ofKind k] }:PS)=({ s.on with ns:=s.ns++[Nd.ofKind k] }:PS).er from rfl]
     generalize ({ s.on with ns:=s.ns++[Nd.ofKind k] }:PS)=s1
     cases fuel with
     | zero=>exact failR_er _ _
     | succ fuel=>
      have ih:=typedR_er fuel
      simp only
      split
      ·exact bind_er (itemR_er ih _ _ _) fun _ s2=>rfl
      ·split
       ·exact bind_er (itemR_er ih _ _ _) fun _ s2=>rfl
       ·split
        ·rw[er_len]
         exact bind_er (unionR_er ih _ _ _ _) fun _ s2=>rfl
        ·split
         ·exact bind_er (definedR_er ih _ _ _) fun _ s2=>rfl
         ·rfl
theorem typedR_same {l l':List Tok} (h:l.map er=l'.map er) {fuel:Nat} {u:Bool} {a:List Nat} {ns:List Nd} {nm:ByteArray→Option Nat} {n:Nat} {s':PS} (e:typedR fuel u a ⟨l,ns,nm⟩=.ok n s') :
  ∃s'',typedR fuel u a ⟨l',ns,nm⟩=.ok n s''∧s''.ns=s'.ns∧s''.l.map er=s'.l.map er:=by
 have h1:=typedR_er fuel u a ⟨l,ns,nm⟩
 have h2:=typedR_er fuel u a ⟨l',ns,nm⟩
 rw[show PS.er ⟨l,ns,nm⟩=PS.er ⟨l',ns,nm⟩ by unfold PS.er;rw[h],h2,e] at h1
 cases hr:typedR fuel u a ⟨l',ns,nm⟩ with
 | bad x y=>rw[hr] at h1;cases h1
 | ok m s''=>
  rw[hr] at h1
  injection h1 with h3 h4
  subst h3
  have a:s''.er.ns=s'.er.ns:=by rw[h4]
  have b:s''.er.l=s'.er.l:=by rw[h4]
  exact⟨s'',rfl,a,b⟩
theorem all_bytes {P:UInt8→Prop} (h:∀n:Fin 256,P (UInt8.ofNat n.val)) (c:UInt8):P c:=by
 have:=h ⟨c.toNat,UInt8.toNat_lt c⟩
 rwa [UInt8.ofNat_toNat] at this
theorem byte_sorts (c:UInt8):(letterP c=true→kindOf c=0∧innerP c=true∧digitP c=false∧Lx.blank c=false∧c.toNat≠35)∧(digitP c=true→kindOf c=1∧innerP c=true∧letterP c=false∧Lx.blank c=false∧c.toNat≠35)
  ∧ (kindOf c=2→innerP c=false∧letterP c=false∧digitP c=false∧Lx.blank c=false∧c.toNat≠35)∧(letterP c=false→digitP c=false→kindOf c=2∨kindOf c = -1)∧(innerP c=false→letterP c=false∧digitP c=false)∧(Lx.blank c=true→kindOf c = -1∧innerP c=false)∧(c.toNat=35→kindOf c = -1∧innerP c=false):=
 all_bytes (P:=fun c=>(letterP c=true→kindOf c=0∧innerP c=true∧digitP c=false∧Lx.blank c=false∧c.toNat≠35)∧(digitP c=true→kindOf c=1∧innerP c=true∧letterP c=false∧Lx.blank c=false∧c.toNat≠35)
  ∧ (kindOf c=2→innerP c=false∧letterP c=false∧digitP c=false∧Lx.blank c=false∧c.toNat≠35)∧(letterP c=false→digitP c=false→kindOf c=2∨kindOf c = -1)∧(innerP c=false→letterP c=false∧digitP c=false)∧(Lx.blank c=true→kindOf c = -1∧innerP c=false)∧(c.toNat=35→kindOf c = -1∧innerP c=false)) (by decide +kernel) c
abbrev TkL:=Int×List UInt8
def tk (t:Tok):TkL:=(t.k,bs t.s)
def lenL:List UInt8→Nat
 | []=>1
 | c::r=>if letterP c then runP innerP (c::r) else if digitP c then runP digitP (c::r) else 1
def lexL:Nat→List UInt8→List TkL
 | 0,_=>[]
 | f+1,l=>match l.drop (skipN false l) with
  | []=>[(3,[])]
  | c::r=>(kindOf c,(c::r).take (lenL (c::r)))::lexL f ((c::r).drop (lenL (c::r)))
theorem byteAt_drop (s:ByteArray) (a:Nat) (c:UInt8) (r:List UInt8) (h:s.data.toList.drop a=c::r):byteAt s a=c:=by
 unfold byteAt
 have:s.data.toList[a]?=some c:=by
  have:=congrArg (fun l=>l[0]?) h
  simpa [List.getElem?_drop] using this
 rw[List.getD,this];rfl
theorem lenAt_drop (s:ByteArray) (a:Nat) (c:UInt8) (r:List UInt8) (h:s.data.toList.drop a=c::r):lenAt s a=lenL (c::r):=by
 unfold lenAt lenL
 rw[byteAt_drop s a c r h,h]
theorem bs_extract (s:ByteArray) (a n:Nat):bs (s.extract a (a+n))=(s.data.toList.drop a).take n:=by
 unfold bs
 rw[ByteArray.data_extract,Array.toList_extract]
 simp[List.extract]
theorem tokG_lex (s:ByteArray):∀(f a:Nat),a≤s.size→(tokG s f (skp s a)).map tk=lexL f (s.data.toList.drop a)
 | 0,a,_=>rfl
 | f+1,a,ha=>by
  rw[lexL]
  have hd:(s.data.toList.drop a).drop (skipN false (s.data.toList.drop a))=s.data.toList.drop (skp s a):=by rw[List.drop_drop];rfl
  rw[hd]
  by_cases h:skp s a<s.size
  ·rw[tokG_step s f _ h]
   have hc:=drop_byteAt s (skp s a) h
   have hl:=lenAt_drop s (skp s a) _ _ hc
   rw[←hc] at hl
   rw[hc]
   simp only[List.map_cons]
   rw[←hc,←hl,List.drop_drop,tokG_lex s f _ (lenAt_le s _ h)]
   congr 1
   show (kindOf (byteAt s (skp s a)),bs (s.extract (skp s a) (skp s a+lenAt s (skp s a))))=_
   rw[bs_extract]
  ·rw[tokG_end s f _ h,List.drop_eq_nil_of_le (by rw[size_list];omega)]
   rfl
theorem toks_lex (s:ByteArray):(toks s).map tk=lexL (s.size+1) (bs s):=tokG_lex s (s.size+1) 0 (Nat.zero_le _)
def gapB (x y:TkL):Bool:=decide (x.1=0) && (decide (y.1=0) || decide (y.1=1)) || decide (x.1=1) && decide (y.1=1)
def gapT (x y:TkL):List UInt8:=if gapB x y then [32] else []
def ser:List TkL→List UInt8
 | []=>[]
 | [x]=>x.2
 | x::y::l=>x.2++(gapT x y++ser (y::l))
def WTk (x:TkL):Prop:=(x.1=0∧∃c r,x.2=c::r∧letterP c=true∧∀b∈r,innerP b=true)∨(x.1=1∧∃c r,x.2=c::r∧digitP c=true∧∀b∈r,digitP b=true)∨(x.1=2∧∃c,x.2=[c]∧kindOf c=2)
inductive WTs:List TkL→Prop
 | last:WTs [(3,[])]
 | cons {x:TkL} {l:List TkL}:WTk x→WTs l→WTs (x::l)
theorem run_all (p:UInt8→Bool):∀(l r:List UInt8),(∀b∈l,p b=true)→(∀c t,r=c::t→p c=false)→runP p (l++r)=l.length
 | [],r,_,h=>by
  cases r with
  | nil=>rfl
  | cons c t=>unfold runP;rw[List.nil_append,List.takeWhile_cons,h c t rfl];rfl
 | c::l,r,h1,h2=>by
  have:=run_all p l r (fun b hb=>h1 b (.tail _ hb)) h2
  unfold runP at this ⊢
  rw[List.cons_append,List.takeWhile_cons,if_pos (h1 c (.head _)),List.length_cons,this,List.length_cons]
theorem skip_no {c:UInt8} (l:List UInt8) (h1:Lx.blank c=false) (h2:c.toNat≠35):skipN false (c::l)=0:=by
 rw[skipN,if_neg h2,h1];rfl
theorem lexL_gap (f:Nat) (l:List UInt8):lexL f (32::l)=lexL f l:=by
 cases f with
 | zero=>rfl
 | succ f=>
  rw[lexL,lexL]
  have:skipN false (32::l)=1+skipN false l:=by rw[skipN,if_neg (by decide),if_pos (by decide)]
  rw[this,Nat.add_comm,List.drop_succ_cons]
theorem lexL_gapT (f:Nat) (x y:TkL) (l:List UInt8):lexL f (gapT x y++l)=lexL f l:=by
 unfold gapT
 split
 ·exact lexL_gap f l
 ·rfl
theorem WTs.head {y:TkL} {l:List TkL} (h:WTs (y::l)):(y.1=3∧ser (y::l)=[])∨(WTk y∧∃c t,y.2=c::t∧∃u,ser (y::l)=c::u):=by
 cases h with
 | last=>exact .inl ⟨rfl,rfl⟩
 | cons hx hl=>
  refine .inr ⟨hx,?_⟩
  have:∃c t,y.2=c::t:=by
   rcases hx with⟨_,c,r,e,_⟩|⟨_,c,r,e,_⟩|⟨_,c,e,_⟩
   ·exact⟨c,r,e⟩
   ·exact⟨c,r,e⟩
   ·exact⟨c,[],e⟩
  obtain⟨c,t,e⟩:=this
  refine⟨c,t,e,?_⟩
  cases hl with
  | last=>exact⟨_,by rw[ser,e];rfl⟩
  | cons hy hm=>exact⟨_,by rw[ser,e];rfl⟩
theorem after_word {x y:TkL} {l:List TkL} (hx:x.1=0) (h:WTs (y::l)):∀c t,gapT x y++ser (y::l)=c::t→innerP c=false:=by
 intro c t e
 unfold gapT at e
 split at e
 ·injection e with e1 _;subst e1;decide
 ·next hg=>
  rw[List.nil_append] at e
  rcases h.head with⟨_,e0⟩|⟨hy,c',t',e1,u,e2⟩
  ·rw[e0] at e;cases e
  ·rw[e2] at e;injection e with e3 _;subst e3
   rcases hy with⟨k,_⟩|⟨k,_⟩|⟨_,c2,e4,k2⟩
   ·exact absurd (by simp[gapB,hx,k]) hg
   ·exact absurd (by simp[gapB,hx,k]) hg
   ·rw[e1] at e4;injection e4 with e5 _;subst e5
    exact ((byte_sorts c').2.2.1 k2).1
theorem after_num {x y:TkL} {l:List TkL} (hx:x.1=1) (h:WTs (y::l)):∀c t,gapT x y++ser (y::l)=c::t→digitP c=false:=by
 intro c t e
 unfold gapT at e
 split at e
 ·injection e with e1 _;subst e1;decide
 ·next hg=>
  rw[List.nil_append] at e
  rcases h.head with⟨_,e0⟩|⟨hy,c',t',e1,u,e2⟩
  ·rw[e0] at e;cases e
  ·rw[e2] at e;injection e with e3 _;subst e3
   rcases hy with⟨k,c2,r2,e4,k2,_⟩|⟨k,_⟩|⟨_,c2,e4,k2⟩
   ·rw[e1] at e4;injection e4 with e5 _;subst e5
    exact ((byte_sorts c').1 k2).2.2.1
   ·exact absurd (by simp[gapB,hx,k]) hg
   ·rw[e1] at e4;injection e4 with e5 _;subst e5
    exact ((byte_sorts c').2.2.1 k2).2.2.1
theorem lex_ser:∀ {l:List TkL},WTs l→∀f,l.length≤f→lexL f (ser l)=l
 | _,.last,f,hf=>by
  cases f with
  | zero=>simp at hf
  | succ f=>rfl
 | _,.cons (x:=x) (l:=l) hx hl,f,hf=>by
  cases l with
  | nil=>cases hl
  | cons y r=>
   cases f with
   | zero=>simp at hf
   | succ f=>
    have ih:=lex_ser hl f (by simpa using hf)
    have key:∀c t,x.2=c::t→kindOf c=x.1→Lx.blank c=false→c.toNat≠35→lenL (x.2++(gapT x y++ser (y::r)))=x.2.length→lexL (f+1) (ser (x::y::r))=x::y::r:=by
     intro c t e hk hb h35 hlen
     rw[ser,lexL]
     rw[e] at hlen ⊢
     rw[List.cons_append,skip_no _ hb h35,List.drop_zero]
     rw[List.cons_append] at hlen
     simp only
     rw[hlen,←List.cons_append,List.take_left',List.drop_left',lexL_gapT,ih,hk,←e]
     ·rfl
     ·rfl
    rcases hx with⟨k,c,t,e,hc,ht⟩|⟨k,c,t,e,hc,ht⟩|⟨k,c,e,hc⟩
    ·have hs:=(byte_sorts c).1 hc
     refine key c t e (by rw[hs.1,k]) hs.2.2.2.1 hs.2.2.2.2 ?_
     have hr:=run_all innerP x.2 (gapT x y++ser (y::r)) (by rw[e];intro b hb;exact (List.mem_cons.1 hb).elim (fun e=>e ▸ hs.2.1) (ht b)) (after_word k hl)
     rw[←hr]
     rw[e,List.cons_append,lenL,if_pos hc]
    ·have hs:=(byte_sorts c).2.1 hc
     refine key c t e (by rw[hs.1,k]) hs.2.2.2.1 hs.2.2.2.2 ?_
     have hr:=run_all digitP x.2 (gapT x y++ser (y::r)) (by rw[e];intro b hb;exact (List.mem_cons.1 hb).elim (fun e=>e ▸ hc) (ht b)) (after_num k hl)
     rw[←hr]
     rw[e,List.cons_append,lenL,if_neg (by rw[hs.2.2.1];decide),if_pos hc]
    ·have hs:=(byte_sorts c).2.2.1 hc
     refine key c [] e (by rw[hc,k]) hs.2.2.2.1 hs.2.2.2.2 ?_
     rw[e,List.cons_append,lenL,if_neg (by rw[hs.2.1];decide),if_neg (by rw[hs.2.2.1];decide)]
     rfl
/-! ### A text's tokens -/
theorem take_run (p:UInt8→Bool):∀(l:List UInt8),∀b∈l.take (runP p l),p b=true
 | [],b,hb=>by simp at hb
 | c::l,b,hb=>by
  have ih:=take_run p l b
  unfold runP at hb ih
  rw[List.takeWhile_cons] at hb
  split at hb
  ·next hc=>
   rw[List.length_cons,List.take_succ_cons] at hb
   rcases List.mem_cons.1 hb with rfl|hb
   ·exact hc
   ·exact ih hb
  ·simp at hb
theorem run_pos {p:UInt8→Bool} {c:UInt8} {l:List UInt8} (h:p c=true):runP p (c::l)=runP p l+1:=by unfold runP;rw[List.takeWhile_cons,if_pos h];rfl
theorem lenL_pos (c:UInt8) (r:List UInt8):1≤lenL (c::r):=by
 rw[lenL]
 split
 ·next h=>rw[run_pos ((byte_sorts c).1 h).2.1];omega
 ·split
  ·next h=>rw[run_pos h];omega
  ·exact Nat.le_refl _
theorem wtk_of {c:UInt8} {r:List UInt8} (h:0≤kindOf c):WTk (kindOf c,(c::r).take (lenL (c::r))):=by
 by_cases hc:letterP c=true
 ·have hs:=(byte_sorts c).1 hc
  refine .inl ⟨hs.1,c,r.take (runP innerP r),?_,hc,take_run innerP r⟩
  rw[lenL,if_pos hc,run_pos hs.2.1,List.take_succ_cons]
 ·by_cases hd:digitP c=true
  ·have hs:=(byte_sorts c).2.1 hd
   refine .inr (.inl ⟨hs.1,c,r.take (runP digitP r),?_,hd,take_run digitP r⟩)
   rw[lenL,if_neg hc,if_pos hd,run_pos hd,List.take_succ_cons]
  ·have hk:kindOf c=2:=by
    rcases (byte_sorts c).2.2.2.1 (by simpa using hc) (by simpa using hd) with e|e
    ·exact e
    ·omega
   exact .inr (.inr ⟨hk,c,by rw[lenL,if_neg hc,if_neg hd];rfl,hk⟩)
theorem lexL_wf:∀(f:Nat) (l:List UInt8),l.length<f→(∀x∈lexL f l,0≤x.1)→WTs (lexL f l)
 | 0,l,h,_=>by omega
 | f+1,l,h,hk=>by
  rw[lexL] at hk ⊢
  cases hd:l.drop (skipN false l) with
  | nil=>exact .last
  | cons c r=>
   rw[hd] at hk
   simp only at hk ⊢
   have hl:(c::r).length≤l.length:=by rw[←hd,List.length_drop];omega
   refine .cons (wtk_of (hk _ (.head _))) (lexL_wf f _ ?_ fun x hx=>hk x (.tail _ hx))
   have:=lenL_pos c r
   have h1:1≤(c::r).length:=by simp
   rw[List.length_drop]
   omega
theorem run_end (p:UInt8→Bool):∀(l:List UInt8) (c:UInt8) (t:List UInt8),l.drop (runP p l)=c::t→p c=false
 | [],c,t,h=>by simp[runP] at h
 | a::l,c,t,h=>by
  by_cases ha:p a=true
  ·rw[run_pos ha,List.drop_succ_cons] at h
   exact run_end p l c t h
  ·unfold runP at h
   rw[List.takeWhile_cons,if_neg ha] at h
   injection h with h1 _
   rw[←h1];simpa using ha
theorem ser_len:∀(f:Nat) (l:List UInt8),l.length<f→(ser (lexL f l)).length+skipN false l≤l.length
 | 0,l,h=>by omega
 | f+1,l,h=>by
  have hsk:=skipN_le false l
  rw[lexL]
  cases hd:l.drop (skipN false l) with
  | nil=>simpa [ser] using hsk
  | cons c r=>
   simp only
   have hl:(c::r).length=l.length-skipN false l:=by rw[←hd,List.length_drop]
   have hp:=lenL_pos c r
   generalize hn:lenL (c::r)=n at hp ⊢
   have hr:((c::r).drop n).length<f:=by
    rw[List.length_drop]
    have:1≤(c::r).length:=by simp
    omega
   have ih:=ser_len f ((c::r).drop n) hr
   have hnl:n≤(c::r).length:=by
    rw[←hn,lenL]
    split
    ·exact runP_le _ _
    ·split
     ·exact runP_le _ _
     ·simp
   have ht:((c::r).take n).length=n:=by rw[List.length_take];omega
   rw[List.length_drop] at ih
   cases hx:lexL f ((c::r).drop n) with
   | nil=>rw[ser];simp only;omega
   | cons y m=>
    rw[hx] at ih
    rw[ser,List.length_append,List.length_append]
    simp only
    rw[ht]
    have hg:(gapT (kindOf c,(c::r).take n) y).length≤skipN false ((c::r).drop n):=by
     unfold gapT
     split
     ·next hg=>
      show 1≤_
      rcases Nat.eq_zero_or_pos (skipN false ((c::r).drop n)) with h0|h0
      ·exfalso
       cases f with
       | zero=>omega
       | succ f=>
        rw[lexL,h0,List.drop_zero] at hx
        cases hd2:(c::r).drop n with
        | nil=>
         rw[hd2] at hx
         injection hx with e _
         subst e
         simp[gapB] at hg
        | cons c2 r2=>
         rw[hd2] at hx
         injection hx with e _
         subst e
         simp only[gapB,Bool.or_eq_true,Bool.and_eq_true,decide_eq_true_eq] at hg
         have hs2:=byte_sorts c2
         by_cases hc:letterP c=true
         ·rw[lenL,if_pos hc] at hn
          subst hn
          have:=run_end innerP (c::r) c2 r2 hd2
          obtain⟨q1,q2⟩:=hs2.2.2.2.2.1 this
          have:=hs2.2.2.2.1 q1 q2
          omega
         ·by_cases hdc:digitP c=true
          ·have hk:=(byte_sorts c).2.1 hdc
           rw[lenL,if_neg hc,if_pos hdc] at hn
           subst hn
           have hq:=run_end digitP (c::r) c2 r2 hd2
           rcases Bool.eq_false_or_eq_true (letterP c2) with q1|q1
           ·have:=hs2.1 q1;omega
           ·have:=hs2.2.2.2.1 q1 hq;omega
          ·have:=(byte_sorts c).2.2.2.1 (by simpa using hc) (by simpa using hdc)
           omega
      ·exact h0
     ·simp
    omega
theorem relex (s:ByteArray) (h:∀t∈toks s,0≤t.k):WTs ((toks s).map tk)∧(ser ((toks s).map tk)).length≤s.size∧(toks ⟨(ser ((toks s).map tk)).toArray⟩).map tk=(toks s).map tk:=by
 have e:=toks_lex s
 have hsz:(bs s).length=s.size:=size_list s
 have hw:WTs ((toks s).map tk):=by
  rw[e]
  refine lexL_wf _ _ (by rw[hsz];omega) fun x hx=>?_
  rw[←e] at hx
  obtain⟨t,ht,rfl⟩:=List.mem_map.1 hx
  exact h t ht
 have hlen:(ser ((toks s).map tk)).length≤s.size:=by
  have:=ser_len (s.size+1) (bs s) (by rw[hsz];omega)
  rw[e];omega
 refine⟨hw,hlen,?_⟩
 rw[toks_lex]
 have hb:bs ⟨(ser ((toks s).map tk)).toArray⟩=ser ((toks s).map tk):=by simp[bs]
 rw[hb]
 refine lex_ser hw _ ?_
 have:∀ {l:List TkL},WTs l→l.length≤(ser l).length+1:=by
  intro l hl
  induction hl with
  | last=>simp
  | @cons x l hx hl ih=>
   have h1:1≤x.2.length:=by
    rcases hx with⟨_,c,r,e,_⟩|⟨_,c,r,e,_⟩|⟨_,c,e,_⟩<;>rw[e]<;>simp
   cases l with
   | nil=>cases hl
   | cons y m=>
    rw[ser,List.length_append,List.length_append,List.length_cons]
    omega
 have h2:=this hw
 rw[show (ByteArray.mk (ser ((toks s).map tk)).toArray).size=(ser ((toks s).map tk)).length by simp[ByteArray.size]]
 exact h2
theorem valP_snoc:∀(l:List UInt8) (c:UInt8) (n:Nat),valP (l++[c]) n=10*valP l n+(c.toNat-48)
 | [],c,n=>rfl
 | a::l,c,n=>by rw[List.cons_append,valP,valP,valP_snoc l c]
theorem valP_ge:∀(l:List UInt8) (n:Nat),n≤valP l n
 | [],n=>Nat.le_refl _
 | a::l,n=>by rw[valP];exact Nat.le_trans (by omega) (valP_ge l _)
theorem digit_byte (c:UInt8):digitP c=true→UInt8.ofNat (48+(c.toNat-48))=c∧c.toNat-48<10∧(c.toNat≠48→1≤c.toNat-48):=
 all_bytes (P:=fun c=>digitP c=true→UInt8.ofNat (48+(c.toNat-48))=c∧c.toNat-48<10∧(c.toNat≠48→1≤c.toNat-48)) (by decide +kernel) c
theorem dec_one (c:UInt8) (h:digitP c=true):Lib.decDigits (valP [c] 0)=[c]:=by
 obtain⟨h1,h2,_⟩:=digit_byte c h
 rw[show valP [c] 0=c.toNat-48 by simp[valP],Lib.decDigits_one h2,h1]
theorem dec_more {l:List UInt8} {c:UInt8} (hc:digitP c=true) (hv:1≤valP l 0):Lib.decDigits (valP (l++[c]) 0)=Lib.decDigits (valP l 0)++[c]:=by
 obtain⟨h1,h2,_⟩:=digit_byte c hc
 rw[valP_snoc,Lib.decDigits,dif_neg (by omega)]
 have e1:(10*valP l 0+(c.toNat-48)) / 10=valP l 0:=by omega
 have e2:(10*valP l 0+(c.toNat-48))%10=c.toNat-48:=by omega
 rw[e1,e2,h1]
theorem run_full:∀ {p:UInt8→Bool} {l:List UInt8},runP p l=l.length→∀b∈l,p b=true
 | p,[],_,b,hb=>by cases hb
 | p,c::l,h,b,hb=>by
  unfold runP at h
  rw[List.takeWhile_cons] at h
  split at h
  ·next hc=>
   rcases List.mem_cons.1 hb with rfl|hb
   ·exact hc
   ·exact run_full (p:=p) (l:=l) (by unfold runP;simpa using h) b hb
  ·simp at h
theorem num_dec {l:List UInt8} {v:Nat} (h:numO l=some v):Lib.itoa (v:Int)=l:=by
 unfold numO at h
 split at h
 ·cases h
 ·next h0=>
  split at h
  ·cases h
  ·next h1=>
   split at h
   ·cases h
   ·next h2=>
    split at h
    ·cases h
    ·next h3=>
     split at h
     ·cases h
     ·injection h with h
      subst h
      have hd:∀b∈l,digitP b=true:=run_full (by simpa using h2)
      have e:Lib.itoa ((valP l 0:Nat):Int)=Lib.decDigits (valP l 0):=by
       unfold Lib.itoa;rw[if_neg (by omega)];rfl
      rw[e]
      match l,h0,h1,h3,hd with
      | [a],_,_,_,hd=>exact dec_one a (hd a (by simp))
      | [a,b],_,h1,_,hd=>
       have ha:1≤valP [a] 0:=by
        have:=(digit_byte a (hd a (by simp))).2.2 (fun e=>h1 ⟨by simp,e⟩)
        simpa [valP] using this
       rw[show [a,b]=[a]++[b] from rfl,dec_more (hd b (by simp)) ha,dec_one a (hd a (by simp))]
      | [a,b,c],_,h1,_,hd=>
       have ha:1≤valP [a] 0:=by
        have:=(digit_byte a (hd a (by simp))).2.2 (fun e=>h1 ⟨by simp,e⟩)
        simpa [valP] using this
       have hb:1≤valP ([a]++[b]) 0:=by rw[valP_snoc];omega
       rw[show [a,b,c]=([a]++[b])++[c] from rfl,dec_more (hd c (by simp)) hb,dec_more (hd b (by simp)) ha,dec_one a (hd a (by simp))]
      | [a,b,c,d],_,h1,_,hd=>
       have ha:1≤valP [a] 0:=by
        have:=(digit_byte a (hd a (by simp))).2.2 (fun e=>h1 ⟨by simp,e⟩)
        simpa [valP] using this
       have hb:1≤valP ([a]++[b]) 0:=by rw[valP_snoc];omega
       have hc:1≤valP (([a]++[b])++[c]) 0:=by rw[valP_snoc];omega
       rw[show [a,b,c,d]=(([a]++[b])++[c])++[d] from rfl,dec_more (hd d (by simp)) hc,dec_more (hd c (by simp)) hb,dec_more (hd b (by simp)) ha,dec_one a (hd a (by simp))]
      | a::b::c::d::e::r,_,_,h3,_=>simp at h3
def AllN (p:Nd→Prop) (s:PS):Prop:=∀d∈s.ns,p d
theorem AllN.setN {p:Nd→Prop} {s:PS} (h:AllN p s) (n:Nat) {f:Nd→Nd} (hf:∀d,p d→p (f d)):AllN p (s.setN n f):=fun d hd=>by
 obtain⟨i,hi⟩:=List.mem_iff_getElem?.1 hd
 have hi:(s.ns.modify n f)[i]?=some d:=hi
 rw[List.getElem?_modify] at hi
 obtain⟨d0,h0,rfl⟩:=Option.map_eq_some_iff.1 hi
 have:=h d0 (List.mem_of_getElem? h0)
 split
 ·exact hf d0 this
 ·exact this
theorem AllN.same {p:Nd→Prop} {s s':PS} (h:AllN p s) (e:s'.ns=s.ns):AllN p s':=fun d hd=>h d (by rw[←e];exact hd)
def TA (p:Nd→Prop) (T:Bool→List Nat→PS→Res Nat):Prop:=∀u a s n s',T u a s=.ok n s'→AllN p s→AllN p s'
section
variable {p:Nd→Prop} {T:Bool→List Nat→PS→Res Nat}
theorem itemR_all (hT:TA p T) (hi:∀d l,p d→p { d with items:=l }) {s s':PS} {n:Nat} {x:ByteArray} {u:Unit} (h:itemR T s n x=.ok u s') (hp:AllN p s):AllN p s':=by
 obtain⟨a,s1,h1,h2⟩:=Res.bind_ok h
 obtain⟨h5,rfl⟩:=mustR_ok h2
 exact ((hT _ _ _ _ _ h1 hp).setN n fun d hd=>hi d _ hd).same rfl
theorem unionR_all (hT:TA p T) (hi:∀d l,p d→p { d with items:=l }) (n:Nat):∀(m:Nat) (l:List Nat) {s s':PS} {u:Unit},unionR T n m l s=.ok u s'→AllN p s→AllN p s'
 | 0,l,s,s',u,h,_=>by cases h
 | m+1,l,s,s',u,h,hp=>by
  rw[unionR] at h
  obtain⟨a,s1,h1,h2⟩:=Res.bind_ok h
  have hp1:=hT _ _ _ _ _ h1 hp
  split at h2
  ·injection h2 with _ h2
   subst h2
   exact (hp1.same (s':=s1.on) rfl).setN n fun d hd=>hi d _ hd
  ·obtain⟨v,s2,h5,h6⟩:=Res.bind_ok h2
   obtain⟨h7,rfl⟩:=mustR_ok h5
   exact unionR_all hT hi n m _ h6 (hp1.same rfl)
theorem goes_ns (s:PS) (x:ByteArray):(goesR s x).2.ns=s.ns:=by unfold goesR;split<;>rfl
theorem fieldsR_all (hT:TA p T) (hf:∀d l,p d→p { d with fields:=l }) (n:Nat):∀(m:Nat) (l:List (ByteArray×Bool×Nat)) {s s':PS} {u:Unit},fieldsR T n m l s=.ok u s'→AllN p s→AllN p s'
 | 0,l,s,s',u,h,_=>by cases h
 | m+1,l,s,s',u,h,hp=>by
  rw[fieldsR] at h
  split at h
  ·injection h with _ h
   subst h
   exact (hp.same (s':=s.on) rfl).setN n fun d hd=>hf d _ hd
  ·obtain⟨x,s1,h1,h2⟩:=Res.bind_ok h
   obtain⟨_,_,_,_,_,rfl⟩:=nameR_ok h1
   obtain⟨v,s2,h3,h4⟩:=Res.bind_ok h2
   obtain⟨h5,rfl⟩:=mustR_ok h3
   obtain⟨t,s3,h6,h7⟩:=Res.bind_ok h4
   obtain⟨v2,s4,h10,h11⟩:=Res.bind_ok h7
   obtain⟨h12,rfl⟩:=mustR_ok h10
   have hp3:=hT _ _ _ _ _ h6 (hp.same (by show (goesR s.on cQ).2.ns=_;rw[goes_ns];rfl))
   exact fieldsR_all hT hf n m _ h11 (hp3.same rfl)
theorem symsR_all (hy:∀d l,p d→p { d with syms:=l }) (n:Nat):∀(m:Nat) (l:List ByteArray) {s s':PS} {u:Unit},symsR n m l s=.ok u s'→AllN p s→AllN p s'
 | 0,l,s,s',u,h,_=>by cases h
 | m+1,l,s,s',u,h,hp=>by
  rw[symsR] at h
  obtain⟨x,s1,h1,h2⟩:=Res.bind_ok h
  obtain⟨_,_,_,_,_,rfl⟩:=nameR_ok h1
  split at h2
  ·injection h2 with _ h2
   subst h2
   exact (hp.same (s':=s.on.on) rfl).setN n fun d hd=>hy d _ hd
  ·obtain⟨v,s2,h5,h6⟩:=Res.bind_ok h2
   obtain⟨h7,rfl⟩:=mustR_ok h5
   exact symsR_all hy n m _ h6 (hp.same rfl)
theorem definedR_all (hT:TA p T) (hy:∀d l,p d→p { d with syms:=l }) (hf:∀d l,p d→p { d with fields:=l }) (hn:∀d x,p d→p { d with name:=x }) (hz:∀d (v:Nat) l,numO l=some v→p d→p { d with size:=(v:Int) }) {s s':PS} {n:Nat} {k:Int} {u:Unit} (h:definedR T s n k=.ok u s') (hp:AllN p s):AllN p s':=by
 unfold definedR at h
 obtain⟨x,s1,h1,h2⟩:=Res.bind_ok h
 obtain⟨_,_,_,_,_,rfl⟩:=nameR_ok h1
 simp only at h2
 have hp2:AllN p (s.on.called n x):=((hp.same (s':=s.on) rfl).setN n fun d hd=>hn d x hd).same rfl
 generalize hs2:s.on.called n x=s2 at h2 hp2
 split at h2
 ·obtain⟨v,s3,h5,h6⟩:=Res.bind_ok h2
  obtain⟨h7,rfl⟩:=mustR_ok h5
  exact symsR_all hy n _ _ h6 (hp2.same rfl)
 ·split at h2
  ·split at h2
   ·cases h2
   ·next hq=>
    injection h2 with _ h2
    subst h2
    simp only[not_or,ne_eq,Decidable.not_not] at hq
    obtain⟨v,hv⟩:=Option.ne_none_iff_exists'.1 hq.2
    refine (hp2.same (s':=s2.on) rfl).setN n fun d hd=>?_
    rw[hv]
    exact hz d v _ hv hd
  ·obtain⟨v,s3,h5,h6⟩:=Res.bind_ok h2
   obtain⟨h7,rfl⟩:=mustR_ok h5
   exact fieldsR_all hT hf n _ _ h6 (hp2.same rfl)
end
theorem typedR_all {p:Nd→Prop} (h0:∀k,p (Nd.ofKind k)) (hi:∀d l,p d→p { d with items:=l }) (hy:∀d l,p d→p { d with syms:=l }) (hf:∀d l,p d→p { d with fields:=l }) (hn:∀d x,p d→p { d with name:=x }) (hz:∀d (v:Nat) l,numO l=some v→p d→p { d with size:=(v:Int) }):∀(fuel:Nat),TA p (typedR fuel)
 | fuel,u,a,s,n,s',h,hp=>by
  rw[typedR.eq_def] at h
  simp only at h
  split at h
  ·cases h
  ·next k hk=>
   split at h
   ·cases h
   ·split at h
    ·injection h with _ h
     subst h
     exact hp.same rfl
    ·cases fuel with
     | zero=>cases h
     | succ fuel=>
      have ih:=typedR_all h0 hi hy hf hn hz fuel
      simp only at h
      have hp1:AllN p ({ s.on with ns:=s.ns++[Nd.ofKind k] }:PS):=fun d hd=>by
       rcases List.mem_append.1 hd with hd|hd
       ·exact hp d hd
       ·rw[List.mem_singleton] at hd;subst hd;exact h0 k
      generalize hs1:({ s.on with ns:=s.ns++[Nd.ofKind k] }:PS)=s1 at h hp1
      split at h
      ·obtain⟨_,s2,h1,h2⟩:=Res.bind_ok h
       injection h2 with _ h2;subst h2
       exact itemR_all ih hi h1 hp1
      ·split at h
       ·obtain⟨_,s2,h1,h2⟩:=Res.bind_ok h
        injection h2 with _ h2;subst h2
        exact itemR_all ih hi h1 hp1
       ·split at h
        ·obtain⟨_,s2,h1,h2⟩:=Res.bind_ok h
         injection h2 with _ h2;subst h2
         exact unionR_all ih hi _ _ _ h1 hp1
        ·split at h
         ·obtain⟨_,s2,h1,h2⟩:=Res.bind_ok h
          injection h2 with _ h2;subst h2
          exact definedR_all ih hy hf hn hz h1 hp1
         ·injection h with _ h;subst h
          exact hp1
theorem numO_le {l:List UInt8} {v:Nat} (h:numO l=some v):v≤4096:=by
 unfold numO at h
 split at h
 ·cases h
 ·split at h
  ·cases h
  ·split at h
   ·cases h
   ·split at h
    ·cases h
    ·split at h
     ·cases h
     ·injection h with h;omega
theorem parseP_all {p:Nd→Prop} (h0:∀k,p (Nd.ofKind k)) (hi:∀d l,p d→p { d with items:=l }) (hy:∀d l,p d→p { d with syms:=l }) (hf:∀d l,p d→p { d with fields:=l }) (hn:∀d x,p d→p { d with name:=x }) (hz:∀d (v:Nat) l,numO l=some v→p d→p { d with size:=(v:Int) }) (s:ByteArray):∀d∈(parseP s).1,p d:=by
 unfold parseP
 split
 ·intro d hd;cases hd
 ·split
  ·intro d hd;cases hd
  ·next s' he=>
   split
   ·intro d hd;cases hd
   ·exact typedR_all h0 hi hy hf hn hz 20 _ _ _ _ _ he (fun d hd=>by cases hd)
theorem parse_sizes (s:ByteArray):∀d∈(parseP s).1,0≤d.size∧d.size≤4096:=
 parseP_all (p:=fun d=>0≤d.size∧d.size≤4096) (fun k=>by simp[Nd.ofKind]) (fun d l h=>h) (fun d l h=>h) (fun d l h=>h) (fun d x h=>h) (fun d v l hv h=>by have:=numO_le hv;simp only;omega) s
theorem parse_rng (s:ByteArray):∀d∈(parseP s).1,-9223372036854775808≤d.size∧d.size≤9223372036854775807:=fun d hd=>by
 have:=parse_sizes s d hd;omega
theorem wbody_pos (T:WT) (hG:WG T) (x:Ne) (st:WSt):(wbody T x st).bad=true∨st.s.length<(wbody T x st).s.length:=by
 unfold wbody
 have hi:∀(a b:UInt8) l,st.s.length<(witems T [a] l [b] st).s.length:=fun a b l=>by
  unfold witems
  rw[WSt.put_len]
  have:=wlist_len hG true l (st.put [a])
  rw[WSt.put_len] at this
  simp only[List.length_cons,List.length_nil] at *
  omega
 split
 ·exact .inr (hi _ _ _)
 ·split
  ·exact .inr (hi _ _ _)
  ·split
   ·exact .inr (hi _ _ _)
   ·split
    ·right;rw[WSt.put_len];simp[sEn]
    ·split
     ·right;rw[WSt.put_len];simp[sFix]
     ·split
      ·right
       unfold wrecord
       rw[WSt.put_len]
       have:=wflds_len hG x.fields (st.put (sRec++bs x.name++[123]))
       rw[WSt.put_len] at this
       simp only[List.length_cons,List.length_nil] at *
       omega
      ·split
       ·left;rfl
       ·next h1 h2 h3 h4 h5 h6 h7=>
        right
        rw[WSt.put_len]
        have hk:x.k=0∨x.k=1∨x.k=2∨x.k=3∨x.k=4∨x.k=5:=by omega
        rcases hk with e|e|e|e|e|e<;>rw[e]<;>simp[wordsL,bs,sNull,sBool,sInt,sLong,sBytes,sText]
theorem show_ne (ns:List Ne) (h:(wtyp ns 20 0 ⟨[],0,false⟩).bad=false):(wtyp ns 20 0 ⟨[],0,false⟩).s≠[]:=by
 rw[wtyp] at h ⊢
 split at h
 ·simp at h
 ·next hst=>
  rw[if_neg hst]
  rw[if_neg (by simp)] at h ⊢
  rcases wbody_pos (wtyp ns 19) (wtyp_len ns 19) (ns.getD (0:Int).toNat neD) { s:=[],next:=1,bad:=false } with e|e
  ·rw[e] at h;cases h
  ·intro he
   rw[he] at e
   simp at e
def Shp (d:Ne):Prop:=(d.items=[]∨d.k=6∨d.k=7∨d.k=8)∧(d.fields=[]∨d.k=11)
/-! ### What is read has nodes of such shapes, and what was there stays -/
def ShN (d:Nd):Prop:=(d.items=[]∨d.k=6∨d.k=7∨d.k=8)∧(d.fields=[]∨d.k=11)
theorem ShN.toE {d:Nd} (h:ShN d):Shp d.toE:=by
 refine⟨h.1.imp (fun e=>by show d.items.map _=[];rw[e];rfl) (fun e=>e),h.2.imp (fun e=>by show d.fields.map _=[];rw[e];rfl) (fun e=>e)⟩
def Pre (s s':PS):Prop:=∀i,i<s.ns.length→s'.ns[i]?=s.ns[i]?
theorem Pre.len {s s':PS} (h:Pre s s'):s.ns.length≤s'.ns.length:=by
 rcases Nat.lt_or_ge s'.ns.length s.ns.length with h1|h1
 ·have:=h s'.ns.length h1
  rw[List.getElem?_eq_none (Nat.le_refl _),List.getElem?_eq_getElem h1] at this
  cases this
 ·exact h1
theorem Pre.trans {a b c:PS} (h:Pre a b) (k:Pre b c):Pre a c:=fun i hi=>(k i (Nat.lt_of_lt_of_le hi h.len)).trans (h i hi)
theorem Pre.same {s s':PS} (e:s'.ns=s.ns):Pre s s':=fun i _=>by rw[e]
def PreB (n:Nat) (s s':PS):Prop:=∀i,i<s.ns.length→i≠n→s'.ns[i]?=s.ns[i]?
theorem setN_at (s:PS) (n:Nat) (f:Nd→Nd) (i:Nat) (h:i≠n):(s.setN n f).ns[i]?=s.ns[i]?:=by
 show (s.ns.modify n f)[i]?=_
 have h':¬n=i:=fun e=>h e.symm
 rw[List.getElem?_modify];simp[h']
theorem AllN.setAt {p:Nd→Prop} {s:PS} (h:AllN p s) (n:Nat) {f:Nd→Nd} (hf:∀d,s.ns[n]?=some d→p d→p (f d)):AllN p (s.setN n f):=fun d hd=>by
 obtain⟨i,hi⟩:=List.mem_iff_getElem?.1 hd
 have hi:(s.ns.modify n f)[i]?=some d:=hi
 rw[List.getElem?_modify] at hi
 obtain⟨d0,h0,rfl⟩:=Option.map_eq_some_iff.1 hi
 have:=h d0 (List.mem_of_getElem? h0)
 split
 ·next e=>subst e;exact hf d0 h0 this
 ·exact this
def TS (T:Bool→List Nat→PS→Res Nat):Prop:=∀u a s n s',T u a s=.ok n s'→AllN ShN s→AllN ShN s'∧Pre s s'
def KAt (s:PS) (n:Nat) (k:Int):Prop:=∃d,s.ns[n]?=some d∧d.k=k
theorem KAt.pre {s s':PS} {n:Nat} {k:Int} (h:KAt s n k) (hp:Pre s s'):KAt s' n k:=by
 obtain⟨d,h1,h2⟩:=h
 exact⟨d,by rw[hp n (List.getElem?_eq_some_iff.1 h1).1];exact h1,h2⟩
theorem PreB.of {n:Nat} {s s1 s':PS} (h:Pre s s1) (k:∀i,i≠n→s'.ns[i]?=s1.ns[i]?):PreB n s s':=fun i hi hne=>(k i hne).trans (h i hi)
theorem itemR_shp {T:Bool→List Nat→PS→Res Nat} (hT:TS T) {s s':PS} {n:Nat} {k:Int} {x:ByteArray} {u:Unit} (h:itemR T s n x=.ok u s') (hp:AllN ShN s) (hk:KAt s n k) (hkk:k=6∨k=7∨k=8):AllN ShN s'∧PreB n s s':=by
 obtain⟨a,s1,h1,h2⟩:=Res.bind_ok h
 obtain⟨h5,rfl⟩:=mustR_ok h2
 obtain⟨p1,p2⟩:=hT _ _ _ _ _ h1 hp
 obtain⟨d0,e0,e1⟩:=hk.pre p2
 refine⟨(p1.setAt n fun d hd hs=>?_).same rfl,PreB.of p2 fun i hi=>setN_at s1 n _ i hi⟩
 rw[e0] at hd;injection hd with hd;subst hd
 exact⟨.inr (by show d0.k=6∨d0.k=7∨d0.k=8;rw[e1];exact hkk),hs.2⟩
theorem PreB.trans {n:Nat} {a b c:PS} (h:Pre a b) (k:PreB n b c):PreB n a c:=fun i hi hne=>(k i (Nat.lt_of_lt_of_le hi h.len) hne).trans (h i hi)
theorem unionR_shp {T:Bool→List Nat→PS→Res Nat} (hT:TS T) (n:Nat):∀(m:Nat) (l:List Nat) {s s':PS} {u:Unit},unionR T n m l s=.ok u s'→AllN ShN s→KAt s n 8→AllN ShN s'∧PreB n s s'
 | 0,l,s,s',u,h,_,_=>by cases h
 | m+1,l,s,s',u,h,hp,hk=>by
  rw[unionR] at h
  obtain⟨a,s1,h1,h2⟩:=Res.bind_ok h
  obtain⟨p1,p2⟩:=hT _ _ _ _ _ h1 hp
  have hk1:=hk.pre p2
  split at h2
  ·injection h2 with _ h2
   subst h2
   obtain⟨d0,e0,e1⟩:=hk1
   refine⟨(p1.same (s':=s1.on) rfl).setAt n fun d hd hs=>?_,PreB.of p2 fun i hi=>setN_at s1.on n _ i hi⟩
   rw[show s1.on.ns=s1.ns from rfl,e0] at hd;injection hd with hd;subst hd
   exact⟨.inr (.inr (.inr e1)),hs.2⟩
  ·obtain⟨v,s2,h5,h6⟩:=Res.bind_ok h2
   obtain⟨h7,rfl⟩:=mustR_ok h5
   obtain⟨q1,q2⟩:=unionR_shp hT n m _ h6 (p1.same rfl) hk1
   exact⟨q1,PreB.trans (b:=s1.on) p2 q2⟩
theorem fieldsR_shp {T:Bool→List Nat→PS→Res Nat} (hT:TS T) (n:Nat):∀(m:Nat) (l:List (ByteArray×Bool×Nat)) {s s':PS} {u:Unit},fieldsR T n m l s=.ok u s'→AllN ShN s→KAt s n 11→AllN ShN s'∧PreB n s s'
 | 0,l,s,s',u,h,_,_=>by cases h
 | m+1,l,s,s',u,h,hp,hk=>by
  rw[fieldsR] at h
  split at h
  ·injection h with _ h
   subst h
   obtain⟨d0,e0,e1⟩:=hk
   refine⟨(hp.same (s':=s.on) rfl).setAt n fun d hd hs=>?_,fun i _ hi=>setN_at s.on n _ i hi⟩
   rw[show s.on.ns=s.ns from rfl,e0] at hd;injection hd with hd;subst hd
   exact⟨hs.1,.inr e1⟩
  ·obtain⟨x,s1,h1,h2⟩:=Res.bind_ok h
   obtain⟨_,_,_,_,_,rfl⟩:=nameR_ok h1
   obtain⟨v,s2,h3,h4⟩:=Res.bind_ok h2
   obtain⟨h5,rfl⟩:=mustR_ok h3
   obtain⟨t,s3,h6,h7⟩:=Res.bind_ok h4
   obtain⟨v2,s4,h10,h11⟩:=Res.bind_ok h7
   obtain⟨h12,rfl⟩:=mustR_ok h10
   have e2:(goesR s.on cQ).2.on.ns=s.ns:=by show (goesR s.on cQ).2.ns=_;rw[goes_ns];rfl
   obtain⟨p1,p2⟩:=hT _ _ _ _ _ h6 (hp.same e2)
   have p3:Pre s s3:=(Pre.same e2).trans p2
   obtain⟨q1,q2⟩:=fieldsR_shp hT n m _ h11 (p1.same rfl) (hk.pre (p3.trans (Pre.same (s':=s3.on) rfl)))
   exact⟨q1,PreB.trans (b:=s3.on) p3 q2⟩
theorem symsR_shp (n:Nat):∀(m:Nat) (l:List ByteArray) {s s':PS} {u:Unit},symsR n m l s=.ok u s'→AllN ShN s→AllN ShN s'∧PreB n s s'
 | 0,l,s,s',u,h,_=>by cases h
 | m+1,l,s,s',u,h,hp=>by
  rw[symsR] at h
  obtain⟨x,s1,h1,h2⟩:=Res.bind_ok h
  obtain⟨_,_,_,_,_,rfl⟩:=nameR_ok h1
  split at h2
  ·injection h2 with _ h2
   subst h2
   exact⟨(hp.same (s':=s.on.on) rfl).setN n fun d hd=>hd,fun i _ hi=>setN_at s.on.on n _ i hi⟩
  ·obtain⟨v,s2,h5,h6⟩:=Res.bind_ok h2
   obtain⟨h7,rfl⟩:=mustR_ok h5
   obtain⟨q1,q2⟩:=symsR_shp n m _ h6 (hp.same (s':=s.on.on) rfl)
   exact⟨q1,q2⟩
theorem definedR_shp {T:Bool→List Nat→PS→Res Nat} (hT:TS T) {s s':PS} {n:Nat} {k:Int} {u:Unit} (hkk:k=9∨k=10∨k=11) (h:definedR T s n k=.ok u s') (hp:AllN ShN s) (hk:KAt s n k):AllN ShN s'∧PreB n s s':=by
 unfold definedR at h
 obtain⟨x,s1,h1,h2⟩:=Res.bind_ok h
 obtain⟨_,_,_,_,_,rfl⟩:=nameR_ok h1
 simp only at h2
 have hp2:AllN ShN (s.on.called n x):=((hp.same (s':=s.on) rfl).setN n (f:=fun d=>{ d with name:=x }) fun d hd=>hd).same rfl
 have hb2:PreB n s (s.on.called n x):=fun i _ hi=>setN_at s.on n _ i hi
 have hl2:(s.on.called n x).ns.length=s.ns.length:=setN_len s.on n _
 have hk2:KAt (s.on.called n x) n k:=by
  obtain⟨d,e1,e2⟩:=hk
  refine⟨{ d with name:=x },?_,e2⟩
  show (s.ns.modify n _)[n]?=_
  rw[List.getElem?_modify,e1];simp
 generalize hs2:s.on.called n x=s2 at h2 hp2 hb2 hl2 hk2
 have tr:∀s3,PreB n s2 s3→PreB n s s3:=fun s3 h3 i hi hne=>(h3 i (by omega) hne).trans (hb2 i hi hne)
 split at h2
 ·obtain⟨v,s3,h5,h6⟩:=Res.bind_ok h2
  obtain⟨h7,rfl⟩:=mustR_ok h5
  obtain⟨q1,q2⟩:=symsR_shp n _ _ h6 (hp2.same rfl)
  exact⟨q1,tr _ q2⟩
 ·split at h2
  ·split at h2
   ·cases h2
   ·injection h2 with _ h2
    subst h2
    exact⟨(hp2.same (s':=s2.on) rfl).setN n fun d hd=>hd,tr _ fun i _ hi=>setN_at s2.on n _ i hi⟩
  ·next k9 k10=>
   obtain⟨v,s3,h5,h6⟩:=Res.bind_ok h2
   obtain⟨h7,rfl⟩:=mustR_ok h5
   have hk11:k=11:=by omega
   subst hk11
   obtain⟨q1,q2⟩:=fieldsR_shp hT n _ _ h6 (hp2.same rfl) hk2
   exact⟨q1,tr _ q2⟩
theorem typedR_shp:∀(fuel:Nat),TS (typedR fuel)
 | fuel,u,a,s,n,s',h,hp=>by
  rw[typedR.eq_def] at h
  simp only at h
  split at h
  ·cases h
  ·next k hk=>
   split at h
   ·cases h
   ·split at h
    ·injection h with _ h
     subst h
     exact⟨hp.same rfl,Pre.same rfl⟩
    ·cases fuel with
     | zero=>cases h
     | succ fuel=>
      have ih:=typedR_shp fuel
      simp only at h
      have hp1:AllN ShN ({ s.on with ns:=s.ns++[Nd.ofKind k] }:PS):=fun d hd=>by
       rcases List.mem_append.1 hd with hd|hd
       ·exact hp d hd
       ·rw[List.mem_singleton] at hd;subst hd;exact⟨.inl rfl,.inl rfl⟩
      have hpre:Pre s ({ s.on with ns:=s.ns++[Nd.ofKind k] }:PS):=fun i hi=>List.getElem?_append_left hi
      have hka:KAt ({ s.on with ns:=s.ns++[Nd.ofKind k] }:PS) s.ns.length k:=⟨Nd.ofKind k,by simp,rfl⟩
      generalize hs1:({ s.on with ns:=s.ns++[Nd.ofKind k] }:PS)=s1 at h hp1 hpre hka
      have fin:∀s2,PreB s.ns.length s1 s2→Pre s s2:=fun s2 hb i hi=>(hb i (Nat.lt_of_lt_of_le hi hpre.len) (by omega)).trans (hpre i hi)
      split at h
      ·next k6=>
       obtain⟨_,s2,h1,h2⟩:=Res.bind_ok h
       injection h2 with _ h2;subst h2
       obtain⟨q1,q2⟩:=itemR_shp ih h1 hp1 hka (.inl k6)
       exact⟨q1,fin _ q2⟩
      ·split at h
       ·next k7=>
        obtain⟨_,s2,h1,h2⟩:=Res.bind_ok h
        injection h2 with _ h2;subst h2
        obtain⟨q1,q2⟩:=itemR_shp ih h1 hp1 hka (.inr (.inl k7))
        exact⟨q1,fin _ q2⟩
       ·split at h
        ·next k8=>
         obtain⟨_,s2,h1,h2⟩:=Res.bind_ok h
         injection h2 with _ h2;subst h2
         subst k8
         obtain⟨q1,q2⟩:=unionR_shp ih _ _ _ h1 hp1 hka
         exact⟨q1,fin _ q2⟩
        ·split at h
         ·next kd=>
          obtain⟨_,s2,h1,h2⟩:=Res.bind_ok h
          injection h2 with _ h2;subst h2
          obtain⟨q1,q2⟩:=definedR_shp ih kd h1 hp1 hka
          exact⟨q1,fin _ q2⟩
         ·injection h with _ h;subst h
          exact⟨hp1,hpre⟩
end Pr
end Go.Proofs.YtmaoochjbpohdaaGreatDoor
