/- parse: the reference's writer: plain; what it shows is what the program shows. -/
import Derived.Test.YtmaoochjbpohdaaGreatDoorRbN
import Derived.Lib.IndexLaws
set_option linter.unusedVariables false
set_option linter.unusedSimpArgs false
set_option maxRecDepth 100000
set_option maxHeartbeats 1000000
namespace Go.Proofs.YtmaoochjbpohdaaGreatDoor
namespace Pr
open Lx
def digR (n:Int):List UInt8:=if n<0∨4096<n then [120] else Lib.itoa n
def rlist (T:WT):Bool→List Int→WSt→WSt
 | _,[],st=>st
 | first,n::l,st=>if st.bad=true then st else rlist T false l (T n (if first then st else st.put [124]))
def ritems (T:WT) (op:List UInt8) (l:List Int) (sh:List UInt8) (st:WSt):WSt:=(rlist T true l (st.put op)).put sh
def rflds (T:WT):List (ByteArray×Bool×Int)→WSt→WSt
 | [],st=>st
 | f::l,st=>if st.bad=true then st else rflds T l (wfield T f st)
def rsyms:Bool→List ByteArray→WSt→WSt
 | _,[],st=>st
 | first,x::l,st=>if 4096<st.s.length then st else rsyms false l ((if first then st else st.put [44]).put (bs x))
def rrecord (T:WT) (x:Ne) (st:WSt):WSt:=(rflds T x.fields (((st.put sRec).put (bs x.name)).put [123])).put [125]
def renum (x:Ne) (st:WSt):WSt:=(rsyms true x.syms (((st.put sEn).put (bs x.name)).put [60])).put [62]
def rfix (x:Ne) (st:WSt):WSt:=((st.put sFix).put (bs x.name)).put ([32]++digR x.size)
def rbody (T:WT) (x:Ne) (st:WSt):WSt:=
 if x.k=6 then ritems T [91] x.items [93] st
 else if x.k=7 then ritems T [123] x.items [125] st
 else if x.k=8 then ritems T [40] x.items [41] st
 else if x.k=9 then renum x st
 else if x.k=10 then rfix x st
 else if x.k=11 then rrecord T x st
 else if x.k<0∨12≤x.k then { st with bad:=true }
 else st.put (bs (wordsL.getD x.k.toNat ⟨#[]⟩))
def rtyp (ns:List Ne):Nat→WT
 | 0,n,st=>{ st with bad:=true }
 | f+1,n,st=>
  if wstop ns (f+1) n st then { st with bad:=true }
  else if n<st.next then { (st.put (bs (ns.getD n.toNat neD).name)) with bad:=decide ((ns.getD n.toNat neD).k<9) }
  else rbody (rtyp ns f) (ns.getD n.toNat neD) { st with next:=st.next+1 }
def showR (ns:List Ne):Option (List UInt8):=
 let st:=rtyp ns 20 0 ⟨[],0,false⟩
 if st.bad=true∨st.next≠ns.length then none
 else
  let r:=parseP ⟨st.s.toArray⟩
  if r.2.2≠0∨r.1.map Nd.toE≠ns then none else some st.s
def Dm (st:WSt):Prop:=st.bad=true∨4096<st.s.length
theorem Dm.put {st:WSt} (h:Dm st) (t:List UInt8):Dm (st.put t):=by
 rcases h with h|h
 ·exact .inl h
 ·right;rw[WSt.put_len];omega
def Sync (a b:WSt):Prop:=a=b∨(Dm a∧Dm b)
theorem Sync.put {a b:WSt} (h:Sync a b) (t:List UInt8):Sync (a.put t) (b.put t):=by
 rcases h with rfl|⟨h,k⟩
 ·exact .inl rfl
 ·exact .inr ⟨h.put t,k.put t⟩
theorem WSt.put_put (st:WSt) (a b:List UInt8):(st.put a).put b=st.put (a++b):=by simp[WSt.put]
def TD (T:WT):Prop:=∀n st,Dm st→Dm (T n st)
theorem wtyp_dm (ns:List Ne) (f:Nat):TD (wtyp ns f):=fun n st h=>by
 cases f with
 | zero=>exact .inl rfl
 | succ f=>
  rw[wtyp,if_pos]
  ·exact .inl rfl
  ·rcases h with h|h
   ·exact .inl h
   ·exact .inr (.inr (.inr (.inr (.inr h))))
theorem rtyp_dm (ns:List Ne) (f:Nat):TD (rtyp ns f):=fun n st h=>by
 cases f with
 | zero=>exact .inl rfl
 | succ f=>
  rw[rtyp,if_pos]
  ·exact .inl rfl
  ·rcases h with h|h
   ·exact .inl h
   ·exact .inr (.inr (.inr (.inr (.inr h))))
theorem wlist_dm {T:WT} (hT:TD T):∀(b:Bool) (l:List Int) (st:WSt),Dm st→Dm (wlist T b l st)
 | _,[],st,h=>h
 | b,n::l,st,h=>by
  rw[wlist]
  refine wlist_dm hT false l _ (hT _ _ ?_)
  split
  ·exact h
  ·exact h.put _
theorem rlist_dm {T:WT} (hT:TD T):∀(b:Bool) (l:List Int) (st:WSt),Dm st→Dm (rlist T b l st)
 | _,[],st,h=>h
 | b,n::l,st,h=>by
  rw[rlist]
  split
  ·exact h
  ·refine rlist_dm hT false l _ (hT _ _ ?_)
   split
   ·exact h
   ·exact h.put _
theorem wfield_dm {T:WT} (hT:TD T) (f:ByteArray×Bool×Int) (st:WSt) (h:Dm st):Dm (wfield T f st):=by
 unfold wfield
 refine (hT _ _ (Dm.put ?_ _)).put _
 split
 ·exact (h.put _).put _
 ·exact h.put _
theorem wflds_dm {T:WT} (hT:TD T):∀(l:List (ByteArray×Bool×Int)) (st:WSt),Dm st→Dm (wflds T l st)
 | [],st,h=>h
 | f::l,st,h=>by rw[wflds];exact wflds_dm hT l _ (wfield_dm hT f st h)
theorem rflds_dm {T:WT} (hT:TD T):∀(l:List (ByteArray×Bool×Int)) (st:WSt),Dm st→Dm (rflds T l st)
 | [],st,h=>h
 | f::l,st,h=>by
  rw[rflds]
  split
  ·exact h
  ·exact rflds_dm hT l _ (wfield_dm hT f st h)
section
variable {T U:WT}
def TSy (T U:WT):Prop:=∀n a b,Sync a b→Sync (T n a) (U n b)
theorem list_sync (h:TSy T U) (hT:TD T) (hU:TD U):∀(first:Bool) (l:List Int) (a b:WSt),Sync a b→Sync (wlist T first l a) (rlist U first l b)
 | _,[],a,b,hs=>hs
 | first,n::l,a,b,hs=>by
  rw[wlist,rlist]
  have h1:Sync (if first=true then a else a.put [124]) (if first=true then b else b.put [124]):=by
   split
   ·exact hs
   ·exact hs.put _
  by_cases hbb:b.bad=true
  ·rw[if_pos hbb]
   have hb:Dm b:=.inl hbb
   have ha:Dm a:=by
    rcases hs with rfl|hs
    ·exact hb
    ·exact hs.1
   refine .inr ⟨?_,hb⟩
   refine wlist_dm hT false l _ (hT _ _ ?_)
   split
   ·exact ha
   ·exact ha.put _
  ·rw[if_neg hbb]
   exact list_sync h hT hU false l _ _ (h n _ _ h1)
theorem items_sync (h:TSy T U) (hT:TD T) (hU:TD U) (op:List UInt8) (l:List Int) (sh:List UInt8) (a b:WSt) (hs:Sync a b):Sync (witems T op l sh a) (ritems U op l sh b):=
 (list_sync h hT hU true l _ _ (hs.put op)).put sh
theorem field_sync (h:TSy T U) (f:ByteArray×Bool×Int) (a b:WSt) (hs:Sync a b):Sync (wfield T f a) (wfield U f b):=by
 unfold wfield
 refine (h _ _ _ (Sync.put ?_ _)).put _
 split
 ·exact (hs.put _).put _
 ·exact hs.put _
theorem flds_sync (h:TSy T U) (hT:TD T) (hU:TD U):∀(l:List (ByteArray×Bool×Int)) (a b:WSt),Sync a b→Sync (wflds T l a) (rflds U l b)
 | [],a,b,hs=>hs
 | f::l,a,b,hs=>by
  rw[wflds,rflds]
  split
  ·next hb=>
   have hb:Dm b:=.inl hb
   have ha:Dm a:=by
    rcases hs with rfl|hs
    ·exact hb
    ·exact hs.1
   exact .inr ⟨wflds_dm hT l _ (wfield_dm hT f a ha),hb⟩
  ·exact flds_sync h hT hU l _ _ (field_sync h f a b hs)
theorem rsyms_dm:∀(first:Bool) (l:List ByteArray) (st:WSt),Dm st→Dm (rsyms first l st)
 | _,[],st,h=>h
 | b,n::l,st,h=>by
  rw[rsyms]
  split
  ·exact h
  ·refine rsyms_dm false l _ (Dm.put ?_ _)
   split
   ·exact h
   ·exact h.put _
theorem syms_sync:∀(first:Bool) (l:List ByteArray) (a:WSt),Sync (a.put ((if first=true∨l=[] then [] else [44])++([44]:List UInt8).intercalate (l.map bs))) (rsyms first l a)
 | first,[],a=>.inl (by simp[rsyms,WSt.put])
 | first,x::l,a=>by
  rw[rsyms]
  by_cases hbb:4096<a.s.length
  ·have hb:Dm a:=.inr hbb
   rw[if_pos hbb]
   exact .inr ⟨hb.put _,hb⟩
  ·rw[if_neg hbb]
   have ih:=syms_sync false l ((if first=true then a else a.put [44]).put (bs x))
   have e:a.put ((if first=true∨x::l=[] then [] else [44])++([44]:List UInt8).intercalate ((x::l).map bs))=((if first=true then a else a.put [44]).put (bs x)).put ((if false=true∨l=[] then [] else [44])++([44]:List UInt8).intercalate (l.map bs)):=by
    cases first<;>cases l<;>simp[WSt.put,List.intercalate]
   rw[e]
   exact ih
theorem enum_sync (x:Ne) (a b:WSt) (hs:Sync a b):Sync (a.put (sEn++bs x.name++[60]++([44]:List UInt8).intercalate (x.syms.map bs)++[62])) (renum x b):=by
 rcases hs with rfl|⟨ha,hb⟩
 ·have h:=(syms_sync true x.syms (((a.put sEn).put (bs x.name)).put [60])).put [62]
  have e:((((a.put sEn).put (bs x.name)).put [60]).put ((if true=true∨x.syms=[] then [] else [44])++([44]:List UInt8).intercalate (x.syms.map bs))).put [62]=a.put (sEn++bs x.name++[60]++([44]:List UInt8).intercalate (x.syms.map bs)++[62]):=by
   simp[WSt.put_put]
  rw[e] at h
  exact h
 ·exact .inr ⟨ha.put _,(rsyms_dm _ _ _ (((hb.put _).put _).put _)).put _⟩
theorem record_sync (h:TSy T U) (hT:TD T) (hU:TD U) (x:Ne) (a b:WSt) (hs:Sync a b):Sync (wrecord T x a) (rrecord U x b):=by
 unfold wrecord rrecord
 refine (flds_sync h hT hU x.fields _ _ ?_).put _
 rw[show a.put (sRec++bs x.name++[123])=((a.put sRec).put (bs x.name)).put [123] by simp[WSt.put_put]]
 exact ((hs.put _).put _).put _
theorem body_sync (h:TSy T U) (hT:TD T) (hU:TD U) (x:Ne) (a b:WSt) (hs:Sync a b) (hz:0≤x.size∧x.size≤4096):Sync (wbody T x a) (rbody U x b):=by
 unfold wbody rbody
 split
 ·exact items_sync h hT hU _ _ _ _ _ hs
 ·split
  ·exact items_sync h hT hU _ _ _ _ _ hs
  ·split
   ·exact items_sync h hT hU _ _ _ _ _ hs
   ·split
    ·exact enum_sync x a b hs
    ·split
     ·unfold rfix digR
      rw[if_neg (by omega),WSt.put_put,WSt.put_put]
      have:=hs.put (sFix++bs x.name++[32]++Lib.itoa x.size)
      simpa using this
     ·split
      ·exact record_sync h hT hU x a b hs
      ·split
       ·exact .inr ⟨.inl rfl,.inl rfl⟩
       ·exact hs.put _
end
theorem typ_sync (ns:List Ne) (hz:∀d∈ns,0≤d.size∧d.size≤4096):∀f,TSy (wtyp ns f) (rtyp ns f)
 | 0,n,a,b,hs=>.inr ⟨.inl rfl,.inl rfl⟩
 | f+1,n,a,b,hs=>by
  rcases hs with rfl|⟨ha,hb⟩
  ·rw[wtyp,rtyp]
   split
   ·exact .inl rfl
   ·next hst=>
    split
    ·exact .inl rfl
    ·have hx:ns.getD n.toNat neD∈ns:=by
      unfold wstop at hst
      simp only[not_or,Int.not_lt,Int.not_le] at hst
      have hlt:n.toNat<ns.length:=by omega
      rw[List.getD,List.getElem?_eq_getElem hlt]
      exact List.getElem_mem hlt
     exact body_sync (typ_sync ns hz f) (wtyp_dm ns f) (rtyp_dm ns f) _ _ _ (.inl rfl) (hz _ hx)
  ·exact .inr ⟨wtyp_dm ns _ n a ha,rtyp_dm ns _ n b hb⟩
theorem parse_long {s:List UInt8} (h:4096<s.length):(parseP ⟨s.toArray⟩).2.2≠0:=by
 have hs:4096<(⟨s.toArray⟩:ByteArray).size:=by simpa [ByteArray.size] using h
 unfold parseP
 cases hw:words ⟨s.toArray⟩ with
 | some r=>
  obtain⟨p,er⟩:=r
  rcases words_er hw with rfl|rfl<;>simp
 | none=>
  have:=(words_ok hw).1
  omega
theorem show_dm {ns:List Ne} {st:WSt} (h:Dm st) (o:Option (List UInt8)) (ho:o=if st.bad=true∨st.next≠ns.length then none else if (parseP ⟨st.s.toArray⟩).2.2≠0∨(parseP ⟨st.s.toArray⟩).1.map Nd.toE≠ns then none else some st.s):o=none:=by
 rw[ho]
 rcases h with h|h
 ·rw[if_pos (.inl h)]
 ·split
  ·rfl
  ·rw[if_pos (.inl (parse_long h))]
theorem show_szs {ns:List Ne} {st:WSt} {t:List UInt8} (h:(if st.bad=true∨st.next≠ns.length then none else if (parseP ⟨st.s.toArray⟩).2.2≠0∨(parseP ⟨st.s.toArray⟩).1.map Nd.toE≠ns then none else some st.s)=some t):∀d∈ns,0≤d.size∧d.size≤4096:=by
 split at h
 ·cases h
 ·split at h
  ·cases h
  ·next hn=>
   simp only[not_or,ne_eq,Decidable.not_not] at hn
   intro d hd
   rw[←hn.2] at hd
   obtain⟨e,he,rfl⟩:=List.mem_map.1 hd
   exact parse_sizes _ e he
theorem show_r (ns:List Ne):showR ns=showP ns:=by
 by_cases hz:∀d∈ns,0≤d.size∧d.size≤4096
 ·rcases typ_sync ns hz 20 0 ⟨[],0,false⟩ ⟨[],0,false⟩ (.inl rfl) with h|⟨h,k⟩
  ·unfold showR showP
   rw[h]
  ·rw[show_dm (ns:=ns) h (showP ns) rfl,show_dm (ns:=ns) k (showR ns) rfl]
 ·have h1:showP ns=none:=by
   cases h:showP ns with
   | none=>rfl
   | some t=>exact absurd (show_szs h) hz
  have h2:showR ns=none:=by
   cases h:showR ns with
   | none=>rfl
   | some t=>exact absurd (show_szs h) hz
  rw[h1,h2]
/- how long it can become -/
section
variable {ns:List Ne} {B:Nat}
theorem rlist_gr {T:WT} (h:GT ns B T):∀(b:Bool) (l:List Int) (st:WSt),st.next≤ns.length→Gr ns B l.length st (rlist T b l st)
 | _,[],st,hn=>⟨Nat.le_refl _,hn,by rw[rlist];omega⟩
 | b,n::l,st,hn=>by
  rw[rlist]
  split
  ·exact⟨Nat.le_refl _,hn,by omega⟩
  ·have h1:Gr ns B 1 st (if b then st else st.put [124]):=by
    split
    ·exact⟨Nat.le_refl _,hn,by omega⟩
    ·exact Gr.put hn [124]
   have h2:=h n _ h1.top
   exact ((h1.trans h2).trans (rlist_gr h false l _ h2.top)).le (by simp only[List.length_cons];omega)
theorem ritems_gr {T:WT} (h:GT ns B T) (op:List UInt8) (l:List Int) (sh:List UInt8) (st:WSt) (hn:st.next≤ns.length):Gr ns B (op.length+l.length+sh.length) st (ritems T op l sh st):=by
 unfold ritems
 have h1:=Gr.put (B:=B) hn op
 have h2:=rlist_gr h true l _ h1.top
 exact (h1.trans h2).trans (Gr.put h2.top sh)
theorem rflds_gr {T:WT} (h:GT ns B T):∀(l:List (ByteArray×Bool×Int)) (st:WSt),st.next≤ns.length→Gr ns B (l.map fun f=>f.1.size+3).sum st (rflds T l st)
 | [],st,hn=>⟨Nat.le_refl _,hn,by rw[rflds];omega⟩
 | f::l,st,hn=>by
  rw[rflds]
  split
  ·exact⟨Nat.le_refl _,hn,by omega⟩
  ·have h1:=wfield_gr h f st hn
   exact (h1.trans (rflds_gr h l _ h1.top)).le (by simp)
theorem rsyms_gr:∀(b:Bool) (l:List ByteArray) (st:WSt),st.next≤ns.length→Gr ns B (l.map fun s=>s.size+1).sum st (rsyms b l st)
 | _,[],st,hn=>⟨Nat.le_refl _,hn,by rw[rsyms];omega⟩
 | b,x::l,st,hn=>by
  rw[rsyms]
  split
  ·exact⟨Nat.le_refl _,hn,by omega⟩
  ·have h1:Gr ns B 1 st (if b then st else st.put [44]):=by
    split
    ·exact⟨Nat.le_refl _,hn,by omega⟩
    ·exact Gr.put hn [44]
   have h2:=h1.trans (Gr.put h1.top (bs x))
   exact (h2.trans (rsyms_gr false l _ h2.top)).le (by simp only[List.map_cons,List.sum_cons,bs_len];omega)
theorem digR_len (n:Int) (hz : -9223372036854775808≤n∧n≤9223372036854775807):(digR n).length≤21:=by
 unfold digR
 split
 ·simp
 ·exact Lib.itoa_length_le n hz.1 hz.2
theorem rbody_gr {T:WT} (h:GT ns B T) (x:Ne) (st:WSt) (hn:st.next≤ns.length) (hz : -9223372036854775808≤x.size∧x.size≤9223372036854775807):Gr ns B (nodeW x) st (rbody T x st):=by
 unfold rbody
 have hi:∀(a b:UInt8),Gr ns B (nodeW x) st (ritems T [a] x.items [b] st):=fun a b=>(ritems_gr h _ _ _ st hn).le (by unfold nodeW;simp only[List.length_cons,List.length_nil];omega)
 split
 ·exact hi _ _
 ·split
  ·exact hi _ _
  ·split
   ·exact hi _ _
   ·split
    ·unfold renum
     have h1:=Gr.put (B:=B) hn sEn
     have h2:=h1.trans (Gr.put h1.top (bs x.name))
     have h3:=h2.trans (Gr.put h2.top [60])
     have h4:=h3.trans (rsyms_gr true x.syms _ h3.top)
     refine (h4.trans (Gr.put h4.top [62])).le ?_
     unfold nodeW
     simp only[bs_len,sEn,List.length_cons,List.length_nil]
     omega
    ·split
     ·unfold rfix
      have h1:=Gr.put (B:=B) hn sFix
      have h2:=h1.trans (Gr.put h1.top (bs x.name))
      refine (h2.trans (Gr.put h2.top _)).le ?_
      have:=digR_len x.size hz
      unfold nodeW
      simp only[List.length_append,bs_len,sFix,List.length_cons,List.length_nil]
      omega
     ·split
      ·unfold rrecord
       have h1:=Gr.put (B:=B) hn sRec
       have h2:=h1.trans (Gr.put h1.top (bs x.name))
       have h3:=h2.trans (Gr.put h2.top [123])
       have h4:=h3.trans (rflds_gr h x.fields _ h3.top)
       refine (h4.trans (Gr.put h4.top [125])).le ?_
       unfold nodeW
       simp only[bs_len,sRec,List.length_cons,List.length_nil]
       omega
      ·split
       ·exact⟨Nat.le_refl _,hn,by show max st.s.length B+wsum ns st.next≤max st.s.length B+nodeW x+wsum ns st.next;omega⟩
       ·refine (Gr.put hn _).le ?_
        next h1 h2 h3 h4 h5 h6 h7=>
        have hk:x.k.toNat<12:=by omega
        have:∀k,k<12→(bs (wordsL.getD k ⟨#[]⟩)).length≤6:=by decide
        have:=this _ hk
        unfold nodeW
        omega
theorem rtyp_gr (hB:∀d∈ns,4096+d.name.size≤B) (hz:∀d∈ns,-9223372036854775808≤d.size∧d.size≤9223372036854775807):∀f,GT ns B (rtyp ns f)
 | 0,n,st,hn=>⟨Nat.le_refl _,hn,by rw[rtyp];simp⟩
 | f+1,n,st,hn=>by
  rw[rtyp]
  split
  ·exact⟨Nat.le_refl _,hn,by simp⟩
  ·next hs=>
   unfold wstop at hs
   simp only[not_or,Int.not_lt,Int.not_le,Nat.not_lt] at hs
   obtain⟨h1,h2,h3,h4,h5,h6⟩:=hs
   obtain⟨m,rfl⟩:∃m:Nat,n=m:=⟨n.toNat,by omega⟩
   have hm:m<ns.length:=by omega
   have hg:ns.getD m neD=ns[m]:=by rw[List.getD,List.getElem?_eq_getElem hm];rfl
   have hmem:ns[m]∈ns:=List.getElem_mem hm
   rw[Int.toNat_natCast,hg]
   split
   ·refine⟨Nat.le_refl _,hn,?_⟩
    show max (st.put _).s.length B+wsum ns st.next≤max st.s.length B+0+wsum ns st.next
    rw[WSt.put_len,bs_len]
    have:=hB _ hmem
    omega
   ·next hlt=>
    obtain rfl:m=st.next:=by omega
    have hb:=rbody_gr (rtyp_gr hB hz f) ns[st.next] { st with next:=st.next+1 } (by show st.next+1≤_;omega) (hz _ hmem)
    have e:=wsum_succ (ns:=ns) (k:=st.next) (List.getElem?_eq_getElem hm)
    refine⟨by have:=hb.up;simp only at this;omega,hb.top,?_⟩
    have:=hb.len
    simp only at this
    rw[e] at this
    omega
end
def showRLen (ns:List Ne):Nat:=(rtyp ns 20 0 ⟨[],0,false⟩).s.length
theorem showR_bound {ns:List Ne} (hb:Args.schB ns≤1048576) (hz:∀d∈ns,-9223372036854775808≤d.size∧d.size≤9223372036854775807):showRLen ns≤100000000:=by
 have hM:∀d∈ns,4096+d.name.size≤2000000:=fun d hd=>by
  have:=sum_mem (ns.map Args.nodeB) (Args.nodeB d) (List.mem_map_of_mem hd)
  unfold Args.schB at hb
  have:d.name.size≤Args.nodeB d:=by unfold Args.nodeB;omega
  omega
 have h:=rtyp_gr hM hz 20 0 ⟨[],0,false⟩ (Nat.zero_le _)
 have h1:=h.len
 have h2:=wsum_mono ns h.top
 have h3:wsum ns ns.length≤40*Args.schB ns:=by
  unfold wsum Args.schB
  rw[List.take_length]
  exact sum_nodeW ns
 show (rtyp ns 20 0 ⟨[],0,false⟩).s.length≤_
 have h4:([]:List UInt8).length=0:=rfl
 simp only[List.length_nil] at h1
 omega
theorem rlist_len {T:WT} (h:WG T):∀(b:Bool) (l:List Int) (st:WSt),st.s.length≤(rlist T b l st).s.length
 | _,[],st=>Nat.le_refl _
 | b,n::l,st=>by
  rw[rlist]
  split
  ·exact Nat.le_refl _
  ·refine Nat.le_trans ?_ (rlist_len h false l _)
   refine Nat.le_trans ?_ (h n _)
   split
   ·exact Nat.le_refl _
   ·rw[WSt.put_len];omega
theorem rflds_len {T:WT} (h:WG T):∀(l:List (ByteArray×Bool×Int)) (st:WSt),st.s.length≤(rflds T l st).s.length
 | [],st=>Nat.le_refl _
 | f::l,st=>by
  rw[rflds]
  split
  ·exact Nat.le_refl _
  ·exact Nat.le_trans (wfield_len h f st) (rflds_len h l _)
theorem rsyms_len:∀(b:Bool) (l:List ByteArray) (st:WSt),st.s.length≤(rsyms b l st).s.length
 | _,[],st=>Nat.le_refl _
 | b,x::l,st=>by
  rw[rsyms]
  split
  ·exact Nat.le_refl _
  ·refine Nat.le_trans ?_ (rsyms_len false l _)
   rw[WSt.put_len]
   split
   ·omega
   ·rw[WSt.put_len];omega
theorem rbody_len {T:WT} (h:WG T) (x:Ne) (st:WSt):st.s.length≤(rbody T x st).s.length:=by
 unfold rbody
 have hi:∀(a b:UInt8),st.s.length≤(ritems T [a] x.items [b] st).s.length:=fun a b=>by
  unfold ritems
  rw[WSt.put_len]
  have:=rlist_len h true x.items (st.put [a])
  rw[WSt.put_len] at this
  omega
 split
 ·exact hi _ _
 ·split
  ·exact hi _ _
  ·split
   ·exact hi _ _
   ·split
    ·unfold renum
     rw[WSt.put_len]
     have:=rsyms_len true x.syms (((st.put sEn).put (bs x.name)).put [60])
     rw[WSt.put_len,WSt.put_len,WSt.put_len] at this
     omega
    ·split
     ·unfold rfix;rw[WSt.put_len,WSt.put_len,WSt.put_len];omega
     ·split
      ·unfold rrecord
       rw[WSt.put_len]
       have:=rflds_len h x.fields (((st.put sRec).put (bs x.name)).put [123])
       rw[WSt.put_len,WSt.put_len,WSt.put_len] at this
       omega
      ·split
       ·exact Nat.le_refl _
       ·rw[WSt.put_len];omega
theorem rtyp_len (ns:List Ne):∀f,WG (rtyp ns f)
 | 0,n,st=>Nat.le_refl _
 | f+1,n,st=>by
  rw[rtyp]
  split
  ·exact Nat.le_refl _
  ·split
   ·show _≤(st.put _).s.length
    rw[WSt.put_len];omega
   ·exact rbody_len (rtyp_len ns f) _ { st with next:=st.next+1 }
end Pr
namespace Pr
open Go.ChangeShapes Go.WideShapes Go.ChangeAt Go.RowKit
open Base Lx Mi
def refL:List ByteArray:=[sNull,sBool,sInt,sLong,sBytes,sText,cSqO,cCuO,cPaO,sEnum,sFixed,sRecord]
def refKw (s:ByteArray):Bool:=decide (0≤idxOf refL s) && (decide (idxOf refL s<6) || decide (8<idxOf refL s))
theorem idxOf_mem {l:List ByteArray} {s:ByteArray}:0≤idxOf l s↔s∈l:=by
 have h:=idxOf_in l s
 constructor
 ·intro h0
  rw[decide_eq_true h0] at h
  simpa using h.symm
 ·intro hm
  have:(l.any fun y=>decide (y=s))=true:=by simpa using hm
  rw[this] at h
  simpa using h
theorem kw_eq (s:ByteArray):kwP s=refKw s:=by
 by_cases h:s∈refL
 ·simp only[refL,List.mem_cons,List.not_mem_nil,or_false] at h
  rcases h with rfl|rfl|rfl|rfl|rfl|rfl|rfl|rfl|rfl|rfl|rfl|rfl<;>decide +kernel
 ·have h1:¬0≤idxOf refL s:=fun e=>h (idxOf_mem.1 e)
  have h2:refKw s=false:=by simp[refKw,h1]
  rw[h2]
  unfold kwP
  by_cases h3:0≤idxOf wordsL s
  ·have h4:=idxOf_mem.1 h3
   simp only[wordsL,List.mem_cons,List.not_mem_nil,or_false] at h4
   simp only[refL,List.mem_cons,List.not_mem_nil,or_false,not_or] at h
   have:s=⟨#[]⟩:=by
    rcases h4 with e|e|e|e|e|e|e|e|e|e|e|e
    ·exact absurd e h.1
    ·exact absurd e h.2.1
    ·exact absurd e h.2.2.1
    ·exact absurd e h.2.2.2.1
    ·exact absurd e h.2.2.2.2.1
    ·exact absurd e h.2.2.2.2.2.1
    ·exact e
    ·exact e
    ·exact e
    ·exact absurd e h.2.2.2.2.2.2.2.2.2.1
    ·exact absurd e h.2.2.2.2.2.2.2.2.2.2.1
    ·exact absurd e h.2.2.2.2.2.2.2.2.2.2.2
   simp[this]
  ·simp[h3]
theorem word_any (s:ByteArray) (w:World):Calls Tryz.prog 85 #[.string s] w fun e w'=>e=.returned (.int .i64 (idxOf refL s))∧Ext w w':=by
 obtain⟨R,hR⟩:∃R,Hid (idxOf refL s=R):=⟨_,Lib.hid rfl⟩
 rw[hR.out]
 obtain⟨w1,hw1⟩:∃z,Hid (w.alloc (.cells (txs refL).toArray 9)=z):=⟨_,Lib.hid rfl⟩
 have hx1:Ext w w1:=by rw[←hw1.out];exact (Ext.refl w).alloc _
 have hr1:Rd w1 (some ⟨w.heap.size,0,none⟩) (txs refL):=by rw[←hw1.out];exact Rd.of_block w 9 (0,0) rfl
 obtain⟨q,hq⟩:∃z,Hid (w.heap.size=z):=⟨_,rfl⟩
 rw[hq.out] at hr1
 have hw2:Hid (w.alloc (.cells #[.string ⟨#[110,117,108,108]⟩,.string ⟨#[98,111,111,108]⟩,.string ⟨#[105,110,116]⟩,.string ⟨#[108,111,110,103]⟩,.string ⟨#[98,121,116,101,115]⟩,.string ⟨#[116,101,120,116]⟩,.string ⟨#[91]⟩,.string ⟨#[123]⟩,.string ⟨#[40]⟩,.string ⟨#[101,110,117,109]⟩,.string ⟨#[102,105,120,101,100]⟩,.string ⟨#[114,101,99,111,114,100]⟩] 9)=w1):=hw1
 clear hw1
 go_enter Tryz.func85,Tryz.ntmps85
 go_wp2_with fail
 rw[hw2.out,hq.out]
 go_loopw [4,6,7,8,9,10,11,12,13,14,15,16,17,18] (fun v4 v6 v7 v8 v9 v10 v11 v12 v13 v14 v15 v16 v17 v18 wr=>∃i:Nat,i≤12∧v4=.int .i64 i∧NoAt refL i s∧wr=w1) (fun v4 _ _ _ _ _ _ _ _ _ _ _ _ _ _=>12-(intOf v4).toNat)
 case atStart=>exact⟨0,by omega,rfl,NoAt.zero refL s,rfl⟩
 case round=>
  obtain⟨i,hi,rfl,h1,rfl⟩:=hrel
  by_cases hin:i<12
  ·have hin':(i:Int)<12:=by omega
   obtain⟨x,hxe⟩:∃x,refL[i]?=some x:=⟨_,List.getElem?_eq_getElem (by show i<12;exact hin)⟩
   have hxz:(txs refL)[i]?=some (.string x):=by unfold txs;rw[List.getElem?_map,hxe];rfl
   obtain⟨b0,o0,e0,hc0⟩:=hr1 (by simp[txs,refL])
   simp only[Option.some.injEq,Addr.mk.injEq,and_true] at e0
   obtain⟨rfl,rfl⟩:=e0
   have hck:wr.cell? ⟨q,i,none⟩=some (.string x):=by have:=hc0 i _ hxz;rwa [Nat.zero_add] at this
   clear hc0 hxz
   by_cases he:x=s
   ·subst he
    have hq:=idxOf_at hxe h1
    rw[hR.out] at hq
    subst hq
    clear hxe
    go_wp2_with fail
    go_ret
    exact⟨rfl,hx1⟩
   ·have hbq:=str_ne he
    have h2:=h1.next hxe he
    clear hxe
    go_wp2_with fail
    go_roundw
    case rel=>exact⟨i+1,by omega,by go_num,h2,by first|rfl|trivial⟩
    case measure=>simp[intOf];omega
  ·obtain rfl:i=12:=by omega
   have hq:R = -1:=by
    rw[←hR.out]
    exact idxOf_none fun j x hx=>h1 j x (by have:=(List.getElem?_eq_some_iff.1 hx).1;exact this) hx
   subst hq
   go_wp2_with fail
   go_ret
   exact⟨rfl,hx1⟩
theorem refKeyword_any (s:ByteArray) (w:World):Calls Tryz.prog 108 #[.string s] w fun e w'=>e=.returned (.bool (refKw s))∧Ext w w':=by
 have hc:=word_any s w
 obtain⟨k,hk⟩:∃k,Hid (idxOf refL s=k):=⟨_,Lib.hid rfl⟩
 have hr:refKw s=(decide (0≤k) && (decide (k<6) || decide (8<k))):=by rw[←hk.out];rfl
 rw[hk.out] at hc
 rw[hr]
 clear hr
 by_cases h0:0≤k
 ·by_cases h6:k<6
  ·rw[show (decide (0≤k) && (decide (k<6) || decide (8<k)))=true by simp[h0,h6]]
   go_enter Tryz.func108,Tryz.ntmps108
   go_wp2_with fail
   refine hc.mono ?_
   rintro e w2 ⟨rfl,hx⟩
   go_wp2_with fail
   go_ret
   exact⟨by first|rfl|simp[*],hx⟩
  ·by_cases h8:8<k
   ·rw[show (decide (0≤k) && (decide (k<6) || decide (8<k)))=true by simp[h0,h8]]
    go_enter Tryz.func108,Tryz.ntmps108
    go_wp2_with fail
    refine hc.mono ?_
    rintro e w2 ⟨rfl,hx⟩
    go_wp2_with fail
    go_ret
    exact⟨by first|rfl|simp[*],hx⟩
   ·rw[show (decide (0≤k) && (decide (k<6) || decide (8<k)))=false by simp[h6,h8]]
    go_enter Tryz.func108,Tryz.ntmps108
    go_wp2_with fail
    refine hc.mono ?_
    rintro e w2 ⟨rfl,hx⟩
    go_wp2_with fail
    go_ret
    exact⟨by first|rfl|simp[*],hx⟩
 ·rw[show (decide (0≤k) && (decide (k<6) || decide (8<k)))=false by simp[h0]]
  go_enter Tryz.func108,Tryz.ntmps108
  go_wp2_with fail
  refine hc.mono ?_
  rintro e w2 ⟨rfl,hx⟩
  go_wp2_with fail
  go_ret
  exact⟨by first|rfl|simp[*],hx⟩
end Pr
namespace Pr
open Lx
structure QS where
 at_:Nat
 ns:List Nd
 why:Nat
 bad:Nat
def tkQ (L:List Tok) (q:QS):Tok:=L.getD q.at_ ⟨3,⟨#[]⟩,0⟩
def badQ (L:List Tok) (q:QS) (b:Bool) (e:Nat):QS:=if b=true∧q.why=0 then { q with why:=e,bad:=(tkQ L q).a } else q
def onQ (L:List Tok) (q:QS):QS:=if q.why=0∧q.at_+1<L.length then { q with at_:=q.at_+1 } else q
def hereQ (L:List Tok) (q:QS) (x:ByteArray):Bool:=decide ((tkQ L q).k=2) && decide ((tkQ L q).s=x)
def signQ (L:List Tok) (q:QS) (x:ByteArray):QS:=onQ L (badQ L q (!hereQ L q x) 4)
def calledN (ns:List Nd) (x:ByteArray):Option Nat:=ns.findIdx? fun d=>decide (9≤d.k) && decide (d.name=x)
def optI:Option Nat→Int
 | some n=>(n:Int)
 | none => -1
def nameQ (L:List Tok) (q:QS):QS:=badQ L q (decide ((tkQ L q).k≠0) || !nameP (tkQ L q).s || refKw (tkQ L q).s) 4
def sameQ (ns:List Nd) (l:List Nat) (k n:Int):Bool:=l.any fun (m:Nat)=>decide ((m:Int)=n) || (decide (0≤k) && decide (k<9) && decide (ns[m]?.map (·.k)=some k))
def QS.setN (q:QS) (n:Nat) (f:Nd→Nd):QS:={ q with ns:=q.ns.modify n f }
def QS.nd (q:QS) (n:Nat):Nd:=q.ns.getD n (Nd.ofKind 0)
abbrev QT:=Bool→List Nat→QS→Nat×QS
def itemQ (L:List Tok) (T:QT) (n:Nat) (sh:ByteArray) (q:QS):QS:=signQ L ((T false [] q).2.setN n fun d=>{ d with items:=[(T false [] q).1] }) sh
def allQ (L:List Tok) (T:QT) (n:Nat):Nat→QS→QS
 | 0,q=>q
 | m+1,q=>if q.why≠0 then q else
  if hereQ L ((T true (q.nd n).items q).2.setN n fun d=>{ d with items:=d.items++[(T true (q.nd n).items q).1] }) cPaC=true
  then onQ L ((T true (q.nd n).items q).2.setN n fun d=>{ d with items:=d.items++[(T true (q.nd n).items q).1] })
  else allQ L T n m (signQ L ((T true (q.nd n).items q).2.setN n fun d=>{ d with items:=d.items++[(T true (q.nd n).items q).1] }) cBar)
def symQ (L:List Tok) (n:Nat) (q:QS):QS:=
 onQ L ((badQ L (nameQ L q) ((q.nd n).syms.any fun y=>decide (y=(tkQ L q).s)) 6).setN n fun d=>{ d with syms:=d.syms++[(tkQ L q).s] })
def symsQ (L:List Tok) (n:Nat):Nat→QS→QS
 | 0,q=>q
 | m+1,q=>if q.why≠0 then q else
  if hereQ L (symQ L n q) cGt=true then onQ L (symQ L n q) else symsQ L n m (signQ L (symQ L n q) cCom)
def fldA (L:List Tok) (n:Nat) (q:QS):QS:=onQ L (badQ L (nameQ L q) ((q.nd n).fields.any fun f=>decide (f.1=(tkQ L q).s)) 6)
def fldQ (L:List Tok) (n:Nat) (q:QS):QS:=signQ L (if hereQ L (fldA L n q) cQ=true then onQ L (fldA L n q) else fldA L n q) cCol
def fieldsQ (L:List Tok) (T:QT) (n:Nat):Nat→QS→QS
 | 0,q=>q
 | m+1,q=>if q.why≠0∨hereQ L q cCuC=true then signQ L q cCuC else
  if (fldQ L n q).why≠0 then fldQ L n q else
  fieldsQ L T n m ((signQ L (T false [] (fldQ L n q)).2 cSem).setN n fun d=>{ d with fields:=d.fields++[((tkQ L q).s,hereQ L (fldA L n q) cQ,(T false [] (fldQ L n q)).1)] })
def defQ (L:List Tok) (n:Nat) (q:QS):QS:=onQ L ((badQ L (nameQ L q) ((calledN q.ns (tkQ L q).s).isSome) 6).setN n fun d=>{ d with name:=(tkQ L q).s })
def sizeQ (L:List Tok) (n:Nat) (q:QS):QS:=onQ L ((badQ L q (decide ((tkQ L q).k≠1) || (numO (tkQ L q).s.data.toList).isNone) 4).setN n fun d=>{ d with size:=(((numO (tkQ L q).s.data.toList).getD 0:Nat):Int) })
def definedQ (L:List Tok) (T:QT) (n:Nat) (k:Int) (q:QS):QS:=
 if k=10 then sizeQ L n (defQ L n q)
 else if k=11 then fieldsQ L T n L.length (signQ L (defQ L n q) cCuO)
 else symsQ L n L.length (signQ L (defQ L n q) cLt)
def kOf (t:Tok):Int:=if t.k=0∨t.k=2 then idxOf refL t.s else -1
def gate1 (L:List Tok) (q:QS):QS:=if kOf (tkQ L q)<0 then nameQ L q else q
def calledQ (L:List Tok) (q:QS):Int:=if kOf (tkQ L q)<0 then optI (calledN q.ns (tkQ L q).s) else -1
def gateQ (L:List Tok) (fuel:Nat) (union:Bool) (l:List Nat) (q:QS):QS:=
 badQ L (badQ L (badQ L (badQ L (gate1 L q) (decide (fuel=0) || (decide (0≤kOf (tkQ L q)) && decide (200≤q.ns.length))) 2)
  (decide (kOf (tkQ L q)<0) && decide (calledQ L q<0)) 5) (union && decide (kOf (tkQ L q)=8)) 4)
  (union && sameQ q.ns l (kOf (tkQ L q)) (calledQ L q) && (decide (0≤kOf (tkQ L q)) || decide (0≤calledQ L q))) 6
def newQ (L:List Tok) (k:Int) (q:QS):QS:={ onQ L q with ns:=q.ns++[Nd.ofKind k] }
def restQ (L:List Tok) (T:QT) (k:Int) (n:Nat) (q:QS):QS:=
 if k=6 then itemQ L T n cSqC q else if k=7 then itemQ L T n cCuC q else if k=8 then allQ L T n L.length q
 else if k=9∨k=10∨k=11 then definedQ L T n k q else q
def typedQ (L:List Tok):Nat→QT
 | 0,union,l,q=>(0,gateQ L 0 union l q)
 | fuel+1,union,l,q=>
  if (gateQ L (fuel+1) union l q).why≠0 then (0,gateQ L (fuel+1) union l q)
  else if kOf (tkQ L q)<0 then ((calledQ L q).toNat,onQ L (gateQ L (fuel+1) union l q))
  else (q.ns.length,restQ L (typedQ L fuel) (kOf (tkQ L q)) q.ns.length (newQ L (kOf (tkQ L q)) (gateQ L (fuel+1) union l q)))
def parseQ (s:ByteArray):List Nd×Int×Int:=match words s with
 | some (p,er)=>([],p,er)
 | none=>let r:=(typedQ (toks s) 20 false [] ⟨0,[],0,0⟩).2
  let r2:=badQ (toks s) r (decide ((tkQ (toks s) r).k≠3)) 4
  if r2.why≠0 then ([],r2.bad,r2.why) else (r2.ns,0,0)
def tTry:List ByteArray:=[tLive,⟨#[91,105,110,116,93]⟩,⟨#[40,105,110,116,124,105,110,116,41]⟩,⟨#[101,110,117,109,32,97,60,98,44,98,62]⟩,⟨#[102,105,120,101,100,32,97,32,52]⟩,⟨#[123,120,125]⟩]
theorem try_same:tTry.map parseQ=tTry.map parseP:=by decide +kernel
end Pr
namespace Lx
open Go.ChangeShapes Go.WideShapes Go.ChangeAt Go.RowKit Go.Shelf
open Base
theorem lower_any (c:UInt8) (w:World):Calls Tryz.prog 82 #[.int .u8 (c.toNat:Int)] w fun e w'=>e=.returned (.bool (letterP c))∧w'=w:=by
 go_enter Tryz.func82,Tryz.ntmps82
 by_cases h1:(c.toNat:Int)≥97
 ·by_cases h2:(c.toNat:Int)≤122
  ·go_wp2_with fail
   go_ret
   have:letterP c=true:=by simp[letterP];omega
   rw[this];exact⟨rfl,rfl⟩
  ·go_wp2_with fail
   go_ret
   have:letterP c=false:=by simp[letterP];omega
   rw[this];exact⟨rfl,rfl⟩
 ·go_wp2_with fail
  go_ret
  have:letterP c=false:=by simp[letterP];omega
  rw[this];exact⟨rfl,rfl⟩
theorem num_any (c:UInt8) (w:World):Calls Tryz.prog 83 #[.int .u8 (c.toNat:Int)] w fun e w'=>e=.returned (.bool (digitP c))∧w'=w:=by
 go_enter Tryz.func83,Tryz.ntmps83
 by_cases h1:(c.toNat:Int)≥48
 ·by_cases h2:(c.toNat:Int)≤57
  ·go_wp2_with fail
   go_ret
   have:digitP c=true:=by simp[digitP];omega
   rw[this];exact⟨rfl,rfl⟩
  ·go_wp2_with fail
   go_ret
   have:digitP c=false:=by simp[digitP];omega
   rw[this];exact⟨rfl,rfl⟩
 ·go_wp2_with fail
  go_ret
  have:digitP c=false:=by simp[digitP];omega
  rw[this];exact⟨rfl,rfl⟩
theorem refName_any (s:ByteArray) (hs:s.size≤140737488351232) (w:World):Calls Tryz.prog 107 #[.string s] w fun e w'=>e=.returned (.bool (nameP s))∧w'=w:=by
 by_cases h0:s.size=0
 ·obtain rfl:=size_zero h0
  go_enter Tryz.func107,Tryz.ntmps107
  go_wp2_with fail
  go_ret
  exact⟨rfl,rfl⟩
 ·obtain⟨q1,q2⟩:=ne_empty h0
  have hin:0<s.size:=by omega
  have hin':(0:Int)<(s.size:Int):=by omega
  have hlet:=lower_any (byteAt s 0)
  obtain⟨R,hR⟩:∃R,Hid (runP innerP s.data.toList=R):=⟨_,rfl⟩
  have hRl:R≤s.size:=by have h:=runP_le innerP s.data.toList;rw[hR.out,size_list] at h;exact h
  have hb:=byteAt_get s 0 hin
  go_enter Tryz.func107,Tryz.ntmps107
  by_cases h40:s.size≤40
  ·have h40':(s.size:Int)≤40:=by omega
   go_wp2_with fail
   refine (hlet w).mono ?_
   rintro e w1 ⟨rfl,hw⟩
   subst hw
   clear hb
   cases hl:letterP (byteAt s 0)
   ·go_wp2_with fail
    go_ret
    have:nameP s=false:=by simp[nameP,hl]
    rw[this];exact⟨rfl,rfl⟩
   ·go_wp2_with fail
    go_loopw [3] (fun v3 wr=>∃i:Nat,i≤R∧v3=.int .i64 i∧wr=w1) (fun v3 _=>R-(intOf v3).toNat)
    case atStart=>exact⟨0,by omega,rfl,rfl⟩
    case round=>
     obtain⟨i,hi,rfl,hw⟩:=hrel
     have hw:=hw.symm
     subst hw
     by_cases hiR:i<R
     ·obtain⟨h1,h2⟩:=runP_lt (p:=innerP) (l:=s.data.toList) (n:=i) (by rw[hR.out];exact hiR)
      have his:i<s.size:=by omega
      have hil:(i:Int)<(s.size:Int):=by omega
      have hp:innerP (s[i]'his)=true:=h2
      have hlo:=lower_any (s[i]'his) w1
      have hnu:=num_any (s[i]'his) w1
      cases k1:letterP (s[i]'his)
      ·rw[k1] at hlo
       cases k2:digitP (s[i]'his)
       ·rw[k2] at hnu
        have k3:(s[i]'his).toNat=95:=by simpa [innerP,k1,k2] using hp
        have k4:(((s[i]'his).toNat:Int) != 95)=false:=by rw[k3];rfl
        clear hp h2 k3
        go_wp2_with fail
        refine hlo.mono ?_
        rintro e w2 ⟨rfl,hw⟩
        subst hw
        go_wp2_with fail
        refine hnu.mono ?_
        rintro e w3 ⟨rfl,hw⟩
        subst hw
        go_wp2_with fail
        refine⟨⟨i+1,by omega,rfl,trivial⟩,?_⟩
        simp[intOf]
        omega
       ·rw[k2] at hnu
        clear hp h2
        go_wp2_with fail
        refine hlo.mono ?_
        rintro e w2 ⟨rfl,hw⟩
        subst hw
        go_wp2_with fail
        refine hnu.mono ?_
        rintro e w3 ⟨rfl,hw⟩
        subst hw
        go_wp2_with fail
        refine⟨⟨i+1,by omega,rfl,trivial⟩,?_⟩
        simp[intOf]
        omega
      ·rw[k1] at hlo
       clear hp h2
       go_wp2_with fail
       refine hlo.mono ?_
       rintro e w2 ⟨rfl,hw⟩
       subst hw
       go_wp2_with fail
       refine⟨⟨i+1,by omega,rfl,trivial⟩,?_⟩
       simp[intOf]
       omega
     ·obtain rfl:i=R:=by omega
      by_cases his:i<s.size
      ·have hil:(i:Int)<(s.size:Int):=by omega
       have hp:innerP (s[i]'his)=false:=by
        rcases runP_end innerP s.data.toList with h|⟨h1,h2⟩
        ·rw[hR.out,size_list] at h;omega
        ·simp only[hR.out] at h2;exact h2
       have hnm:nameP s=false:=by simp[nameP,hR.out];intro _ _ _;omega
       have k1:letterP (s[i]'his)=false:=by cases k:letterP (s[i]'his)<;>simp_all [innerP]
       have k2:digitP (s[i]'his)=false:=by cases k:digitP (s[i]'his)<;>simp_all [innerP]
       have k3:¬(s[i]'his).toNat=95:=by intro k;simp[innerP,k] at hp
       have k4:(((s[i]'his).toNat:Int) != 95)=true:=by simp;omega
       have hlo:=lower_any (s[i]'his) w1
       have hnu:=num_any (s[i]'his) w1
       rw[k1] at hlo
       rw[k2] at hnu
       clear hp k3
       go_wp2_with fail
       refine hlo.mono ?_
       rintro e w2 ⟨rfl,hw⟩
       subst hw
       go_wp2_with fail
       refine hnu.mono ?_
       rintro e w3 ⟨rfl,hw⟩
       subst hw
       go_wp2_with fail
       go_ret
       first|exact⟨rfl,rfl⟩|(rw[hnm];exact⟨rfl,rfl⟩)
      ·have hil:¬(i:Int)<(s.size:Int):=by omega
       have hnm:nameP s=true:=by simp[nameP,hR.out,hl];omega
       go_wp2_with fail
       go_ret
       first|exact⟨rfl,rfl⟩|(rw[hnm];exact⟨rfl,rfl⟩)
  ·have h40':¬(s.size:Int)≤40:=by omega
   go_wp2_with fail
   go_ret
   have:nameP s=false:=by simp[nameP,h40]
   rw[this];exact⟨rfl,rfl⟩
theorem refNumber_any (s:ByteArray) (hs:s.size≤140737488351232) (w:World):Calls Tryz.prog 110 #[.string s] w fun e w'=>e=.returned (numV (refO s.data.toList))∧w'=w:=by
 obtain⟨o,ho⟩:∃o,Hid (refO s.data.toList=o):=⟨_,rfl⟩
 obtain⟨X,hX⟩:∃X,Hid (refN s.data.toList 0 0=X):=⟨_,rfl⟩
 have hno:X=none→none=o:=fun h=>by rw[←ho.out,refO,hX.out,h]
 rw[ho.out]
 go_enter Tryz.func110,Tryz.ntmps110
 go_wp2_with fail
 go_loopw [4,5] (fun v4 v5 wr=>∃i v:Nat,i≤s.size∧v5=.int .i64 i∧v4=.int .i64 v∧v≤40969∧Hid (refN (s.data.toList.drop i) i v=X)∧wr=w) (fun _ v5 _=>s.size-(intOf v5).toNat)
 case atStart=>exact⟨0,0,by omega,rfl,rfl,by omega,hX,rfl⟩
 case round=>
  obtain⟨i,v,hi,rfl,rfl,hv,hXi,hw⟩:=hrel
  have hw:=hw.symm
  subst hw
  by_cases hin:i<s.size
  ·have hin':(i:Int)<(s.size:Int):=by omega
   have hXi:=hXi.out
   rw[drop_byteAt s i hin] at hXi
   have hnu:=num_any (byteAt s i) w
   have hb:=byteAt_get s i hin
   cases hd:digitP (byteAt s i)
   ·have hn:X=none:=by rw[←hXi,refN,if_pos (.inl hd)]
    have ho2:=hno hn
    subst ho2
    rw[hd] at hnu
    clear hXi
    go_wp2_with fail
    refine hnu.mono ?_
    rintro e w1 ⟨rfl,hw⟩
    subst hw
    go_wp2_with fail
    go_ret2
    exact⟨rfl,rfl⟩
   ·have hbd:=digit_bounds hd
    rw[hd] at hnu
    by_cases hbig:4096<v
    ·have hn:X=none:=by rw[←hXi,refN,if_pos (.inr (.inl hbig))]
     have ho2:=hno hn
     subst ho2
     have hb4:(v:Int)>4096:=by omega
     clear hXi
     go_wp2_with fail
     refine hnu.mono ?_
     rintro e w1 ⟨rfl,hw⟩
     subst hw
     go_wp2_with fail
     go_ret2
     exact⟨rfl,rfl⟩
    ·have hb4:¬(v:Int)>4096:=by omega
     by_cases h1:i=1
     ·subst h1
      by_cases h0:v=0
      ·subst h0
       have hn:X=none:=by rw[←hXi,refN,if_pos (.inr (.inr ⟨rfl,rfl⟩))]
       have ho2:=hno hn
       subst ho2
       clear hXi
       go_wp2_with fail
       refine hnu.mono ?_
       rintro e w1 ⟨rfl,hw⟩
       subst hw
       go_wp2_with fail
       go_ret2
       exact⟨rfl,rfl⟩
      ·have z1:((v:Int) == 0)=false:=by simp;omega
       have hX2:Hid (refN (s.data.toList.drop (1+1)) (1+1) (v*10+((byteAt s 1).toNat-48))=X):=by show _=_;rw[←hXi,refN_go hd (by omega) (by omega)]
       clear hXi
       go_wp2_with fail
       refine hnu.mono ?_
       rintro e w1 ⟨rfl,hw⟩
       subst hw
       go_wp2_with fail
       refine⟨⟨1+1,v*10+((byteAt s 1).toNat-48),by omega,rfl,congrArg (Value.int .i64) (by omega),by omega,hX2,trivial⟩,?_⟩
       simp[intOf]
       omega
     ·have z0:((i:Int) == 1)=false:=by simp;omega
      have hX2:Hid (refN (s.data.toList.drop (i+1)) (i+1) (v*10+((byteAt s i).toNat-48))=X):=by show _=_;rw[←hXi,refN_go hd (by omega) (by omega)]
      clear hXi
      go_wp2_with fail
      refine hnu.mono ?_
      rintro e w1 ⟨rfl,hw⟩
      subst hw
      go_wp2_with fail
      refine⟨⟨i+1,v*10+((byteAt s i).toNat-48),by omega,rfl,congrArg (Value.int .i64) (by omega),by omega,hX2,trivial⟩,?_⟩
      simp[intOf]
      omega
  ·obtain rfl:i=s.size:=by omega
   have hin':¬(s.size:Int)<(s.size:Int):=by omega
   have hXv:some v=X:=by have h:=hXi.out;rw[List.drop_of_length_le (by rw[size_list];omega)] at h;exact h
   clear hXi
   by_cases h0:s.size=0
   ·have hn:s.data.toList=[]:=List.eq_nil_of_length_eq_zero (by rw[size_list];exact h0)
    have ho2:none=o:=by rw[←ho.out,refO,hX.out,←hXv];simp[hn]
    subst ho2
    have q:s.toList.isEmpty=true:=by rw[ByteArray.toList_eq,hn];rfl
    clear hn
    go_wp2_with fail
    go_ret2
    exact⟨rfl,rfl⟩
   ·obtain⟨q1,q2⟩:=ne_empty h0
    have hne:¬s.data.toList=[]:=fun e=>by have:=size_list s;rw[e] at this;simp at this;omega
    by_cases hbig:4096<v
    ·have ho2:none=o:=by rw[←ho.out,refO,hX.out,←hXv];simp[hbig]
     subst ho2
     have hb4:(v:Int)>4096:=by omega
     go_wp2_with fail
     go_ret2
     exact⟨rfl,rfl⟩
    ·have ho2:some v=o:=by rw[←ho.out,refO,hX.out,←hXv];simp[hbig,hne]
     subst ho2
     have hb4:¬(v:Int)>4096:=by omega
     go_wp2_with fail
     go_ret2
     exact⟨by first|rfl|(rw[←hXv];rfl),rfl⟩
def signP (c:UInt8):Bool:=decide (0≤Lib.indexByte signs.data.toList c)
theorem signP_at {c:UInt8} {i:Nat} (h:byteAt signs i=c) (hi:i<13):signP c=true:=by
 unfold signP
 apply decide_eq_true
 rcases Int.lt_or_le (Lib.indexByte signs.data.toList c) 0 with h1|h1
 ·have h2:=Lib.indexByte_ge signs.data.toList c
  have h3:=Lib.indexByte_none (l:=signs.data.toList) (c:=c) (by omega) i
  exfalso
  apply h3
  have hl:i<signs.data.toList.length:=hi
  rw[List.getElem?_eq_getElem hl,←h]
  unfold byteAt
  rw[List.getD,List.getElem?_eq_getElem hl]
  rfl
 ·exact h1
theorem signP_none {c:UInt8} (h:∀i,i<13→byteAt signs i≠c):signP c=false:=by
 unfold signP
 apply decide_eq_false
 intro h1
 obtain⟨o,ho⟩:∃o:Nat,Lib.indexByte signs.data.toList c=o:=⟨(Lib.indexByte signs.data.toList c).toNat,by omega⟩
 have h2:=(Lib.indexByte_some ho).1
 have hl:o<signs.data.toList.length:=(List.getElem?_eq_some_iff.1 h2).1
 refine h o hl ?_
 unfold byteAt
 rw[List.getD,h2]
 rfl
theorem signs_size:signs.size=13:=rfl
theorem sign_any (c:UInt8) (w:World):Calls Tryz.prog 84 #[.int .u8 (c.toNat:Int)] w fun e w'=>e=.returned (.bool (signP c))∧w'=w:=by
 obtain⟨R,hR⟩:∃R,Hid (signP c=R):=⟨_,Lib.hid rfl⟩
 rw[hR.out]
 have hsz:=signs_size
 have hsg:∀i,i<13→byteAt signs i=c→R=true:=fun i hi h=>by rw[←hR.out];exact signP_at h hi
 have hno:(∀i,i<13→byteAt signs i≠c)→R=false:=fun h=>by rw[←hR.out];exact signP_none h
 go_enter Tryz.func84,Tryz.ntmps84
 go_wp2_with fail
 rw[show (⟨#[40,41,91,93,123,125,60,62,124,58,59,44,63]⟩:ByteArray)=signs from rfl]
 have hby:=byteAt_get signs
 obtain⟨S,hS⟩:∃S,Hid (signs=S):=⟨_,Lib.hid rfl⟩
 rw[hS.out] at hsz hsg hno hby ⊢
 go_loopw [4] (fun v4 wr=>∃i:Nat,i≤13∧v4=.int .i64 i∧(∀j,j<i→byteAt S j≠c)∧wr=w) (fun v4 _=>13-(intOf v4).toNat)
 case atStart=>exact⟨0,by omega,rfl,fun j hj=>by omega,rfl⟩
 case round=>
  obtain⟨i,hi,rfl,hne,hw⟩:=hrel
  have hw:=hw.symm
  subst hw
  by_cases hin:i<13
  ·have hiS:i<S.size:=by omega
   have hin':(i:Int)<(S.size:Int):=by omega
   have hb:=hby i hiS
   by_cases he:byteAt S i=c
   ·have hRt:=hsg i hin he
    subst hRt
    rw[he] at hb
    clear hsg hno hne hby he
    have hcc:(((c.toNat:Nat):Int) == (c.toNat:Int))=true:=by simp
    go_wp2_with fail
    go_ret
    exact⟨rfl,rfl⟩
   ·have hcc:(((byteAt S i).toNat:Int) == (c.toNat:Int))=false:=by
     apply beq_eq_false_iff_ne.2
     intro h
     exact he (UInt8.toNat_inj.1 (by omega))
    clear hsg hno hby
    go_wp2_with fail
    go_roundw
    case rel=>exact⟨i+1,by omega,by go_num,fun j hj=>by rcases Nat.lt_or_ge j i with h|h;exact hne j h;(obtain rfl:j=i:=by omega);exact he,by first|rfl|trivial⟩
    case measure=>simp[intOf];omega
  ·obtain rfl:i=13:=by omega
   have hRf:=hno hne
   subst hRf
   have hnot:¬((13:Nat):Int)<(S.size:Int):=by omega
   clear hsg hno hby hne
   go_wp2_with fail
   go_ret
   exact⟨rfl,rfl⟩
set_option maxHeartbeats 2000000 in
theorem skipR_any (s:ByteArray) (a:Nat) (hs:s.size≤140737488351232) (ha:a≤s.size) (w:World):Calls Tryz.prog 81 #[.string s,.int .i64 (a:Int)] w fun e w'=>e=.returned (.int .i64 (skp s a:Int))∧w'=w:=by
 obtain⟨R,hR⟩:∃R,Hid (skp s a=R):=⟨_,Lib.hid rfl⟩
 rw[hR.out]
 go_enter Tryz.func81,Tryz.ntmps81
 go_wp2_with fail
 go_loopw [1,5,6] (fun v1 v5 v6 wr=>∃(i:Nat) (b:Bool),i≤s.size∧v1=.int .i64 i∧v5=.bool b∧Hid (i+skipN b (s.data.toList.drop i)=R)∧wr=w) (fun v1 _ _ _=>s.size-(intOf v1).toNat)
 case atStart=>exact⟨a,false,ha,rfl,rfl,hR,rfl⟩
 case round=>
  obtain⟨i,b,hi,rfl,rfl,hRi,hw⟩:=hrel
  have hw:=hw.symm
  subst hw
  by_cases hin:i<s.size
  ·have hin':(i:Int)<(s.size:Int):=by omega
   have hRi:=hRi.out
   rw[drop_byteAt s i hin] at hRi
   have hb:=byteAt_get s i hin
   obtain⟨c,hc⟩:∃c,Hid (byteAt s i=c):=⟨_,Lib.hid rfl⟩
   rw[hc.out] at hRi hb
   by_cases h10:(c.toNat:Int)=10
   ·have h35:¬(c.toNat:Int)=35:=by omega
    have hn:Hid (i+1+skipN false (s.data.toList.drop (i+1))=R):=Lib.hid (by
     rw[←hRi]
     have e1:¬c.toNat=35:=by omega
     have e2:blank c=true:=by simp[blank];omega
     have e3:c.toNat=10:=by omega
     cases b
     ·rw[skipN,if_neg e1,if_pos e2];omega
     ·rw[skipN,if_pos e3];omega)
    clear hRi
    cases b <;>
    (go_wp2_with fail
     go_roundw
     case rel=>exact⟨i+1,false,by omega,by go_num,rfl,hn,by first|rfl|trivial⟩
     case measure=>simp[intOf];omega)
   ·by_cases h35:(c.toNat:Int)=35
    ·have hn:Hid (i+1+skipN true (s.data.toList.drop (i+1))=R):=Lib.hid (by
      rw[←hRi]
      have e1:c.toNat=35:=by omega
      have e3:¬c.toNat=10:=by omega
      cases b
      ·rw[skipN,if_pos e1];omega
      ·rw[skipN,if_neg e3];omega)
     clear hRi
     cases b <;>
     (go_wp2_with fail
      go_roundw
      case rel=>exact⟨i+1,true,by omega,by go_num,rfl,hn,by first|rfl|trivial⟩
      case measure=>simp[intOf];omega)
    ·cases b with
     | true=>
      have hn:Hid (i+1+skipN true (s.data.toList.drop (i+1))=R):=Lib.hid (by
       rw[←hRi]
       have e3:¬c.toNat=10:=by omega
       rw[skipN,if_neg e3];omega)
      clear hRi
      go_wp2_with fail
      go_roundw
      case rel=>exact⟨i+1,true,by omega,by go_num,rfl,hn,by first|rfl|trivial⟩
      case measure=>simp[intOf];omega
     | false=>
      by_cases hbl:blank c=true
      ·have hn:Hid (i+1+skipN false (s.data.toList.drop (i+1))=R):=Lib.hid (by
        rw[←hRi]
        have e1:¬c.toNat=35:=by omega
        rw[skipN,if_neg e1,if_pos hbl];omega)
       have hor:(c.toNat:Int)=32∨(c.toNat:Int)=9∨(c.toNat:Int)=13:=by simp[blank] at hbl;omega
       clear hRi hbl
       by_cases h32:(c.toNat:Int)=32
       ·clear hor
        go_wp2_with fail
        go_roundw
        case rel=>exact⟨i+1,false,by omega,by go_num,rfl,hn,by first|rfl|trivial⟩
        case measure=>simp[intOf];omega
       ·by_cases h9:(c.toNat:Int)=9
        ·clear hor
         go_wp2_with fail
         go_roundw
         case rel=>exact⟨i+1,false,by omega,by go_num,rfl,hn,by first|rfl|trivial⟩
         case measure=>simp[intOf];omega
        ·have h13:(c.toNat:Int)=13:=by omega
         clear hor
         go_wp2_with fail
         go_roundw
         case rel=>exact⟨i+1,false,by omega,by go_num,rfl,hn,by first|rfl|trivial⟩
         case measure=>simp[intOf];omega
      ·have hRe:R=i:=by
        rw[←hRi]
        have e1:¬c.toNat=35:=by omega
        rw[skipN,if_neg e1,if_neg hbl];omega
       have hor:¬(c.toNat:Int)=32∧¬(c.toNat:Int)=9∧¬(c.toNat:Int)=13:=by simp[blank] at hbl;omega
       obtain⟨h32,h9,h13⟩:=hor
       have k32:((c.toNat:Int) != 32)=true:=by simpa using h32
       have k9:((c.toNat:Int) != 9)=true:=by simpa using h9
       have k10:((c.toNat:Int) != 10)=true:=by simpa using h10
       have k13:((c.toNat:Int) != 13)=true:=by simpa using h13
       subst hRe
       clear hRi hbl
       go_wp2_with fail
       go_ret
       exact⟨rfl,rfl⟩
  ·obtain rfl:i=s.size:=by omega
   have hRe:R=s.size:=by
    rw[←hRi.out,List.drop_eq_nil_of_le (by rw[size_list];omega)]
    cases b<;>simp[skipN]
   subst hRe
   clear hRi
   go_wp2_with fail
   go_ret
   exact⟨rfl,rfl⟩
end Lx
end Go.Proofs.YtmaoochjbpohdaaGreatDoor
