/- parse: the reference's reader: plain. -/
import Derived.Test.YtmaoochjbpohdaaGreatDoorPqO
import Derived.Lib.IndexLaws
set_option linter.unusedVariables false
set_option linter.unusedSimpArgs false
set_option maxRecDepth 100000
set_option maxHeartbeats 1000000
namespace Go.Proofs.YtmaoochjbpohdaaGreatDoor
namespace Pr
open Lx
structure QS where
 at_:Nat
 ns:List Nd
 why:Nat
 bad:Nat
def tkQ (L:List Tok) (q:QS):Tok:=L.getD q.at_ ⟨3,⟨#[]⟩,0⟩
def badQ (L:List Tok) (q:QS) (b:Bool) (e:Nat):QS:=if b=true∧q.why=0 then { q with why:=e,bad:=(tkQ L q).a } else q
def onQ (L:List Tok) (q:QS):QS:=if q.why=0∧q.at_+1<L.length then { q with at_:=q.at_+1 } else q
def hereQ (L:List Tok) (q:QS) (x:ByteArray):Bool:=decide ((tkQ L q).k=2) && decide ((tkQ L q).s=x)
def signQ (L:List Tok) (q:QS) (x:ByteArray):QS:=onQ L (badQ L q (!hereQ L q x) 4)
def calledN (ns:List Nd) (x:ByteArray):Option Nat:=ns.findIdx? fun d=>decide (9≤d.k) && decide (d.name=x)
def optI:Option Nat→Int
 | some n=>(n:Int)
 | none => -1
def nameQ (L:List Tok) (q:QS):QS:=badQ L q (decide ((tkQ L q).k≠0) || !nameP (tkQ L q).s || refKw (tkQ L q).s) 4
def sameQ (ns:List Nd) (l:List Nat) (k n:Int):Bool:=l.any fun (m:Nat)=>decide ((m:Int)=n) || (decide (0≤k) && decide (k<9) && decide (ns[m]?.map (·.k)=some k))
def QS.setN (q:QS) (n:Nat) (f:Nd→Nd):QS:={ q with ns:=q.ns.modify n f }
def QS.nd (q:QS) (n:Nat):Nd:=q.ns.getD n (Nd.ofKind 0)
abbrev QT:=Bool→List Nat→QS→Nat×QS
def itemQ (L:List Tok) (T:QT) (n:Nat) (sh:ByteArray) (q:QS):QS:=signQ L ((T false [] q).2.setN n fun d=>{ d with items:=[(T false [] q).1] }) sh
def allQ (L:List Tok) (T:QT) (n:Nat):Nat→QS→QS
 | 0,q=>q
 | m+1,q=>if q.why≠0 then q else
  if hereQ L ((T true (q.nd n).items q).2.setN n fun d=>{ d with items:=d.items++[(T true (q.nd n).items q).1] }) cPaC=true
  then onQ L ((T true (q.nd n).items q).2.setN n fun d=>{ d with items:=d.items++[(T true (q.nd n).items q).1] })
  else allQ L T n m (signQ L ((T true (q.nd n).items q).2.setN n fun d=>{ d with items:=d.items++[(T true (q.nd n).items q).1] }) cBar)
def symQ (L:List Tok) (n:Nat) (q:QS):QS:=
 onQ L ((badQ L (nameQ L q) ((q.nd n).syms.any fun y=>decide (y=(tkQ L q).s)) 6).setN n fun d=>{ d with syms:=d.syms++[(tkQ L q).s] })
def symsQ (L:List Tok) (n:Nat):Nat→QS→QS
 | 0,q=>q
 | m+1,q=>if q.why≠0 then q else
  if hereQ L (symQ L n q) cGt=true then onQ L (symQ L n q) else symsQ L n m (signQ L (symQ L n q) cCom)
def fldA (L:List Tok) (n:Nat) (q:QS):QS:=onQ L (badQ L (nameQ L q) ((q.nd n).fields.any fun f=>decide (f.1=(tkQ L q).s)) 6)
def fldQ (L:List Tok) (n:Nat) (q:QS):QS:=signQ L (if hereQ L (fldA L n q) cQ=true then onQ L (fldA L n q) else fldA L n q) cCol
def fieldsQ (L:List Tok) (T:QT) (n:Nat):Nat→QS→QS
 | 0,q=>q
 | m+1,q=>if q.why≠0∨hereQ L q cCuC=true then signQ L q cCuC else
  if (fldQ L n q).why≠0 then fldQ L n q else
  fieldsQ L T n m ((signQ L (T false [] (fldQ L n q)).2 cSem).setN n fun d=>{ d with fields:=d.fields++[((tkQ L q).s,hereQ L (fldA L n q) cQ,(T false [] (fldQ L n q)).1)] })
def defQ (L:List Tok) (n:Nat) (q:QS):QS:=onQ L ((badQ L (nameQ L q) ((calledN q.ns (tkQ L q).s).isSome) 6).setN n fun d=>{ d with name:=(tkQ L q).s })
def sizeQ (L:List Tok) (n:Nat) (q:QS):QS:=onQ L ((badQ L q (decide ((tkQ L q).k≠1) || (numO (tkQ L q).s.data.toList).isNone) 4).setN n fun d=>{ d with size:=(((numO (tkQ L q).s.data.toList).getD 0:Nat):Int) })
def definedQ (L:List Tok) (T:QT) (n:Nat) (k:Int) (q:QS):QS:=
 if k=10 then sizeQ L n (defQ L n q)
 else if k=11 then fieldsQ L T n L.length (signQ L (defQ L n q) cCuO)
 else symsQ L n L.length (signQ L (defQ L n q) cLt)
def kOf (t:Tok):Int:=if t.k=0∨t.k=2 then idxOf refL t.s else -1
def gate1 (L:List Tok) (q:QS):QS:=if kOf (tkQ L q)<0 then nameQ L q else q
def calledQ (L:List Tok) (q:QS):Int:=if kOf (tkQ L q)<0 then optI (calledN q.ns (tkQ L q).s) else -1
def gateQ (L:List Tok) (fuel:Nat) (union:Bool) (l:List Nat) (q:QS):QS:=
 badQ L (badQ L (badQ L (badQ L (gate1 L q) (decide (fuel=0) || (decide (0≤kOf (tkQ L q)) && decide (200≤q.ns.length))) 2)
  (decide (kOf (tkQ L q)<0) && decide (calledQ L q<0)) 5) (union && decide (kOf (tkQ L q)=8)) 4)
  (union && sameQ q.ns l (kOf (tkQ L q)) (calledQ L q) && (decide (0≤kOf (tkQ L q)) || decide (0≤calledQ L q))) 6
def newQ (L:List Tok) (k:Int) (q:QS):QS:={ onQ L q with ns:=q.ns++[Nd.ofKind k] }
def restQ (L:List Tok) (T:QT) (k:Int) (n:Nat) (q:QS):QS:=
 if k=6 then itemQ L T n cSqC q else if k=7 then itemQ L T n cCuC q else if k=8 then allQ L T n L.length q
 else if k=9∨k=10∨k=11 then definedQ L T n k q else q
def typedQ (L:List Tok):Nat→QT
 | 0,union,l,q=>(0,gateQ L 0 union l q)
 | fuel+1,union,l,q=>
  if (gateQ L (fuel+1) union l q).why≠0 then (0,gateQ L (fuel+1) union l q)
  else if kOf (tkQ L q)<0 then ((calledQ L q).toNat,onQ L (gateQ L (fuel+1) union l q))
  else (q.ns.length,restQ L (typedQ L fuel) (kOf (tkQ L q)) q.ns.length (newQ L (kOf (tkQ L q)) (gateQ L (fuel+1) union l q)))
def parseQ (s:ByteArray):List Nd×Int×Int:=match words s with
 | some (p,er)=>([],p,er)
 | none=>let r:=(typedQ (toks s) 20 false [] ⟨0,[],0,0⟩).2
  let r2:=badQ (toks s) r (decide ((tkQ (toks s) r).k≠3)) 4
  if r2.why≠0 then ([],r2.bad,r2.why) else (r2.ns,0,0)
end Pr
namespace Lx
open Go.ChangeShapes Go.WideShapes Go.ChangeAt Go.RowKit Go.Shelf
open Base
theorem lower_any (c:UInt8) (w:World):Calls Tryz.prog 82 #[.int .u8 (c.toNat:Int)] w fun e w'=>e=.returned (.bool (letterP c))∧w'=w:=by
 go_enter Tryz.func82,Tryz.ntmps82
 by_cases h1:(c.toNat:Int)≥97
 ·by_cases h2:(c.toNat:Int)≤122
  ·go_wp2_with fail
   go_ret
   have:letterP c=true:=by simp[letterP];omega
   rw[this];exact⟨rfl,rfl⟩
  ·go_wp2_with fail
   go_ret
   have:letterP c=false:=by simp[letterP];omega
   rw[this];exact⟨rfl,rfl⟩
 ·go_wp2_with fail
  go_ret
  have:letterP c=false:=by simp[letterP];omega
  rw[this];exact⟨rfl,rfl⟩
theorem num_any (c:UInt8) (w:World):Calls Tryz.prog 83 #[.int .u8 (c.toNat:Int)] w fun e w'=>e=.returned (.bool (digitP c))∧w'=w:=by
 go_enter Tryz.func83,Tryz.ntmps83
 by_cases h1:(c.toNat:Int)≥48
 ·by_cases h2:(c.toNat:Int)≤57
  ·go_wp2_with fail
   go_ret
   have:digitP c=true:=by simp[digitP];omega
   rw[this];exact⟨rfl,rfl⟩
  ·go_wp2_with fail
   go_ret
   have:digitP c=false:=by simp[digitP];omega
   rw[this];exact⟨rfl,rfl⟩
 ·go_wp2_with fail
  go_ret
  have:digitP c=false:=by simp[digitP];omega
  rw[this];exact⟨rfl,rfl⟩
theorem refName_any (s:ByteArray) (hs:s.size≤140737488351232) (w:World):Calls Tryz.prog 107 #[.string s] w fun e w'=>e=.returned (.bool (nameP s))∧w'=w:=by
 by_cases h0:s.size=0
 ·obtain rfl:=size_zero h0
  go_enter Tryz.func107,Tryz.ntmps107
  go_wp2_with fail
  go_ret
  exact⟨rfl,rfl⟩
 ·obtain⟨q1,q2⟩:=ne_empty h0
  have hin:0<s.size:=by omega
  have hin':(0:Int)<(s.size:Int):=by omega
  have hlet:=lower_any (byteAt s 0)
  obtain⟨R,hR⟩:∃R,Hid (runP innerP s.data.toList=R):=⟨_,rfl⟩
  have hRl:R≤s.size:=by have h:=runP_le innerP s.data.toList;rw[hR.out,size_list] at h;exact h
  have hb:=byteAt_get s 0 hin
  go_enter Tryz.func107,Tryz.ntmps107
  by_cases h40:s.size≤40
  ·have h40':(s.size:Int)≤40:=by omega
   go_wp2_with fail
   refine (hlet w).mono ?_
   rintro e w1 ⟨rfl,hw⟩
   subst hw
   clear hb
   cases hl:letterP (byteAt s 0)
   ·go_wp2_with fail
    go_ret
    have:nameP s=false:=by simp[nameP,hl]
    rw[this];exact⟨rfl,rfl⟩
   ·go_wp2_with fail
    go_loopw [3] (fun v3 wr=>∃i:Nat,i≤R∧v3=.int .i64 i∧wr=w1) (fun v3 _=>R-(intOf v3).toNat)
    case atStart=>exact⟨0,by omega,rfl,rfl⟩
    case round=>
     obtain⟨i,hi,rfl,hw⟩:=hrel
     have hw:=hw.symm
     subst hw
     by_cases hiR:i<R
     ·obtain⟨h1,h2⟩:=runP_lt (p:=innerP) (l:=s.data.toList) (n:=i) (by rw[hR.out];exact hiR)
      have his:i<s.size:=by omega
      have hil:(i:Int)<(s.size:Int):=by omega
      have hp:innerP (s[i]'his)=true:=h2
      have hlo:=lower_any (s[i]'his) w1
      have hnu:=num_any (s[i]'his) w1
      cases k1:letterP (s[i]'his)
      ·rw[k1] at hlo
       cases k2:digitP (s[i]'his)
       ·rw[k2] at hnu
        have k3:(s[i]'his).toNat=95:=by simpa [innerP,k1,k2] using hp
        have k4:(((s[i]'his).toNat:Int) != 95)=false:=by rw[k3];rfl
        clear hp h2 k3
        go_wp2_with fail
        refine hlo.mono ?_
        rintro e w2 ⟨rfl,hw⟩
        subst hw
        go_wp2_with fail
        refine hnu.mono ?_
        rintro e w3 ⟨rfl,hw⟩
        subst hw
        go_wp2_with fail
        refine⟨⟨i+1,by omega,rfl,trivial⟩,?_⟩
        simp[intOf]
        omega
       ·rw[k2] at hnu
        clear hp h2
        go_wp2_with fail
        refine hlo.mono ?_
        rintro e w2 ⟨rfl,hw⟩
        subst hw
        go_wp2_with fail
        refine hnu.mono ?_
        rintro e w3 ⟨rfl,hw⟩
        subst hw
        go_wp2_with fail
        refine⟨⟨i+1,by omega,rfl,trivial⟩,?_⟩
        simp[intOf]
        omega
      ·rw[k1] at hlo
       clear hp h2
       go_wp2_with fail
       refine hlo.mono ?_
       rintro e w2 ⟨rfl,hw⟩
       subst hw
       go_wp2_with fail
       refine⟨⟨i+1,by omega,rfl,trivial⟩,?_⟩
       simp[intOf]
       omega
     ·obtain rfl:i=R:=by omega
      by_cases his:i<s.size
      ·have hil:(i:Int)<(s.size:Int):=by omega
       have hp:innerP (s[i]'his)=false:=by
        rcases runP_end innerP s.data.toList with h|⟨h1,h2⟩
        ·rw[hR.out,size_list] at h;omega
        ·simp only[hR.out] at h2;exact h2
       have hnm:nameP s=false:=by simp[nameP,hR.out];intro _ _ _;omega
       have k1:letterP (s[i]'his)=false:=by cases k:letterP (s[i]'his)<;>simp_all [innerP]
       have k2:digitP (s[i]'his)=false:=by cases k:digitP (s[i]'his)<;>simp_all [innerP]
       have k3:¬(s[i]'his).toNat=95:=by intro k;simp[innerP,k] at hp
       have k4:(((s[i]'his).toNat:Int) != 95)=true:=by simp;omega
       have hlo:=lower_any (s[i]'his) w1
       have hnu:=num_any (s[i]'his) w1
       rw[k1] at hlo
       rw[k2] at hnu
       clear hp k3
       go_wp2_with fail
       refine hlo.mono ?_
       rintro e w2 ⟨rfl,hw⟩
       subst hw
       go_wp2_with fail
       refine hnu.mono ?_
       rintro e w3 ⟨rfl,hw⟩
       subst hw
       go_wp2_with fail
       go_ret
       first|exact⟨rfl,rfl⟩|(rw[hnm];exact⟨rfl,rfl⟩)
      ·have hil:¬(i:Int)<(s.size:Int):=by omega
       have hnm:nameP s=true:=by simp[nameP,hR.out,hl];omega
       go_wp2_with fail
       go_ret
       first|exact⟨rfl,rfl⟩|(rw[hnm];exact⟨rfl,rfl⟩)
  ·have h40':¬(s.size:Int)≤40:=by omega
   go_wp2_with fail
   go_ret
   have:nameP s=false:=by simp[nameP,h40]
   rw[this];exact⟨rfl,rfl⟩
theorem refNumber_any (s:ByteArray) (hs:s.size≤140737488351232) (w:World):Calls Tryz.prog 110 #[.string s] w fun e w'=>e=.returned (numV (refO s.data.toList))∧w'=w:=by
 obtain⟨o,ho⟩:∃o,Hid (refO s.data.toList=o):=⟨_,rfl⟩
 obtain⟨X,hX⟩:∃X,Hid (refN s.data.toList 0 0=X):=⟨_,rfl⟩
 have hno:X=none→none=o:=fun h=>by rw[←ho.out,refO,hX.out,h]
 rw[ho.out]
 go_enter Tryz.func110,Tryz.ntmps110
 go_wp2_with fail
 go_loopw [4,5] (fun v4 v5 wr=>∃i v:Nat,i≤s.size∧v5=.int .i64 i∧v4=.int .i64 v∧v≤40969∧Hid (refN (s.data.toList.drop i) i v=X)∧wr=w) (fun _ v5 _=>s.size-(intOf v5).toNat)
 case atStart=>exact⟨0,0,by omega,rfl,rfl,by omega,hX,rfl⟩
 case round=>
  obtain⟨i,v,hi,rfl,rfl,hv,hXi,hw⟩:=hrel
  have hw:=hw.symm
  subst hw
  by_cases hin:i<s.size
  ·have hin':(i:Int)<(s.size:Int):=by omega
   have hXi:=hXi.out
   rw[drop_byteAt s i hin] at hXi
   have hnu:=num_any (byteAt s i) w
   have hb:=byteAt_get s i hin
   cases hd:digitP (byteAt s i)
   ·have hn:X=none:=by rw[←hXi,refN,if_pos (.inl hd)]
    have ho2:=hno hn
    subst ho2
    rw[hd] at hnu
    clear hXi
    go_wp2_with fail
    refine hnu.mono ?_
    rintro e w1 ⟨rfl,hw⟩
    subst hw
    go_wp2_with fail
    go_ret2
    exact⟨rfl,rfl⟩
   ·have hbd:=digit_bounds hd
    rw[hd] at hnu
    by_cases hbig:4096<v
    ·have hn:X=none:=by rw[←hXi,refN,if_pos (.inr (.inl hbig))]
     have ho2:=hno hn
     subst ho2
     have hb4:(v:Int)>4096:=by omega
     clear hXi
     go_wp2_with fail
     refine hnu.mono ?_
     rintro e w1 ⟨rfl,hw⟩
     subst hw
     go_wp2_with fail
     go_ret2
     exact⟨rfl,rfl⟩
    ·have hb4:¬(v:Int)>4096:=by omega
     by_cases h1:i=1
     ·subst h1
      by_cases h0:v=0
      ·subst h0
       have hn:X=none:=by rw[←hXi,refN,if_pos (.inr (.inr ⟨rfl,rfl⟩))]
       have ho2:=hno hn
       subst ho2
       clear hXi
       go_wp2_with fail
       refine hnu.mono ?_
       rintro e w1 ⟨rfl,hw⟩
       subst hw
       go_wp2_with fail
       go_ret2
       exact⟨rfl,rfl⟩
      ·have z1:((v:Int) == 0)=false:=by simp;omega
       have hX2:Hid (refN (s.data.toList.drop (1+1)) (1+1) (v*10+((byteAt s 1).toNat-48))=X):=by show _=_;rw[←hXi,refN_go hd (by omega) (by omega)]
       clear hXi
       go_wp2_with fail
       refine hnu.mono ?_
       rintro e w1 ⟨rfl,hw⟩
       subst hw
       go_wp2_with fail
       refine⟨⟨1+1,v*10+((byteAt s 1).toNat-48),by omega,rfl,congrArg (Value.int .i64) (by omega),by omega,hX2,trivial⟩,?_⟩
       simp[intOf]
       omega
     ·have z0:((i:Int) == 1)=false:=by simp;omega
      have hX2:Hid (refN (s.data.toList.drop (i+1)) (i+1) (v*10+((byteAt s i).toNat-48))=X):=by show _=_;rw[←hXi,refN_go hd (by omega) (by omega)]
      clear hXi
      go_wp2_with fail
      refine hnu.mono ?_
      rintro e w1 ⟨rfl,hw⟩
      subst hw
      go_wp2_with fail
      refine⟨⟨i+1,v*10+((byteAt s i).toNat-48),by omega,rfl,congrArg (Value.int .i64) (by omega),by omega,hX2,trivial⟩,?_⟩
      simp[intOf]
      omega
  ·obtain rfl:i=s.size:=by omega
   have hin':¬(s.size:Int)<(s.size:Int):=by omega
   have hXv:some v=X:=by have h:=hXi.out;rw[List.drop_of_length_le (by rw[size_list];omega)] at h;exact h
   clear hXi
   by_cases h0:s.size=0
   ·have hn:s.data.toList=[]:=List.eq_nil_of_length_eq_zero (by rw[size_list];exact h0)
    have ho2:none=o:=by rw[←ho.out,refO,hX.out,←hXv];simp[hn]
    subst ho2
    have q:s.toList.isEmpty=true:=by rw[ByteArray.toList_eq,hn];rfl
    clear hn
    go_wp2_with fail
    go_ret2
    exact⟨rfl,rfl⟩
   ·obtain⟨q1,q2⟩:=ne_empty h0
    have hne:¬s.data.toList=[]:=fun e=>by have:=size_list s;rw[e] at this;simp at this;omega
    by_cases hbig:4096<v
    ·have ho2:none=o:=by rw[←ho.out,refO,hX.out,←hXv];simp[hbig]
     subst ho2
     have hb4:(v:Int)>4096:=by omega
     go_wp2_with fail
     go_ret2
     exact⟨rfl,rfl⟩
    ·have ho2:some v=o:=by rw[←ho.out,refO,hX.out,←hXv];simp[hbig,hne]
     subst ho2
     have hb4:¬(v:Int)>4096:=by omega
     go_wp2_with fail
     go_ret2
     exact⟨by first|rfl|(rw[←hXv];rfl),rfl⟩
def signP (c:UInt8):Bool:=decide (0≤Lib.indexByte signs.data.toList c)
theorem signP_at {c:UInt8} {i:Nat} (h:byteAt signs i=c) (hi:i<13):signP c=true:=by
 unfold signP
 apply decide_eq_true
 rcases Int.lt_or_le (Lib.indexByte signs.data.toList c) 0 with h1|h1
 ·have h2:=Lib.indexByte_ge signs.data.toList c
  have h3:=Lib.indexByte_none (l:=signs.data.toList) (c:=c) (by omega) i
  exfalso
  apply h3
  have hl:i<signs.data.toList.length:=hi
  rw[List.getElem?_eq_getElem hl,←h]
  unfold byteAt
  rw[List.getD,List.getElem?_eq_getElem hl]
  rfl
 ·exact h1
theorem signP_none {c:UInt8} (h:∀i,i<13→byteAt signs i≠c):signP c=false:=by
 unfold signP
 apply decide_eq_false
 intro h1
 obtain⟨o,ho⟩:∃o:Nat,Lib.indexByte signs.data.toList c=o:=⟨(Lib.indexByte signs.data.toList c).toNat,by omega⟩
 have h2:=(Lib.indexByte_some ho).1
 have hl:o<signs.data.toList.length:=(List.getElem?_eq_some_iff.1 h2).1
 refine h o hl ?_
 unfold byteAt
 rw[List.getD,h2]
 rfl
theorem signs_size:signs.size=13:=rfl
theorem sign_any (c:UInt8) (w:World):Calls Tryz.prog 84 #[.int .u8 (c.toNat:Int)] w fun e w'=>e=.returned (.bool (signP c))∧w'=w:=by
 obtain⟨R,hR⟩:∃R,Hid (signP c=R):=⟨_,Lib.hid rfl⟩
 rw[hR.out]
 have hsz:=signs_size
 have hsg:∀i,i<13→byteAt signs i=c→R=true:=fun i hi h=>by rw[←hR.out];exact signP_at h hi
 have hno:(∀i,i<13→byteAt signs i≠c)→R=false:=fun h=>by rw[←hR.out];exact signP_none h
 go_enter Tryz.func84,Tryz.ntmps84
 go_wp2_with fail
 rw[show (⟨#[40,41,91,93,123,125,60,62,124,58,59,44,63]⟩:ByteArray)=signs from rfl]
 have hby:=byteAt_get signs
 obtain⟨S,hS⟩:∃S,Hid (signs=S):=⟨_,Lib.hid rfl⟩
 rw[hS.out] at hsz hsg hno hby ⊢
 go_loopw [4] (fun v4 wr=>∃i:Nat,i≤13∧v4=.int .i64 i∧(∀j,j<i→byteAt S j≠c)∧wr=w) (fun v4 _=>13-(intOf v4).toNat)
 case atStart=>exact⟨0,by omega,rfl,fun j hj=>by omega,rfl⟩
 case round=>
  obtain⟨i,hi,rfl,hne,hw⟩:=hrel
  have hw:=hw.symm
  subst hw
  by_cases hin:i<13
  ·have hiS:i<S.size:=by omega
   have hin':(i:Int)<(S.size:Int):=by omega
   have hb:=hby i hiS
   by_cases he:byteAt S i=c
   ·have hRt:=hsg i hin he
    subst hRt
    rw[he] at hb
    clear hsg hno hne hby he
    have hcc:(((c.toNat:Nat):Int) == (c.toNat:Int))=true:=by simp
    go_wp2_with fail
    go_ret
    exact⟨rfl,rfl⟩
   ·have hcc:(((byteAt S i).toNat:Int) == (c.toNat:Int))=false:=by
     apply beq_eq_false_iff_ne.2
     intro h
     exact he (UInt8.toNat_inj.1 (by omega))
    clear hsg hno hby
    go_wp2_with fail
    go_roundw
    case rel=>exact⟨i+1,by omega,by go_num,fun j hj=>by rcases Nat.lt_or_ge j i with h|h;exact hne j h;(obtain rfl:j=i:=by omega);exact he,by first|rfl|trivial⟩
    case measure=>simp[intOf];omega
  ·obtain rfl:i=13:=by omega
   have hRf:=hno hne
   subst hRf
   have hnot:¬((13:Nat):Int)<(S.size:Int):=by omega
   clear hsg hno hby hne
   go_wp2_with fail
   go_ret
   exact⟨rfl,rfl⟩
set_option maxHeartbeats 2000000 in
theorem skipR_any (s:ByteArray) (a:Nat) (hs:s.size≤140737488351232) (ha:a≤s.size) (w:World):Calls Tryz.prog 81 #[.string s,.int .i64 (a:Int)] w fun e w'=>e=.returned (.int .i64 (skp s a:Int))∧w'=w:=by
 obtain⟨R,hR⟩:∃R,Hid (skp s a=R):=⟨_,Lib.hid rfl⟩
 rw[hR.out]
 go_enter Tryz.func81,Tryz.ntmps81
 go_wp2_with fail
 go_loopw [1,5,6] (fun v1 v5 v6 wr=>∃(i:Nat) (b:Bool),i≤s.size∧v1=.int .i64 i∧v5=.bool b∧Hid (i+skipN b (s.data.toList.drop i)=R)∧wr=w) (fun v1 _ _ _=>s.size-(intOf v1).toNat)
 case atStart=>exact⟨a,false,ha,rfl,rfl,hR,rfl⟩
 case round=>
  obtain⟨i,b,hi,rfl,rfl,hRi,hw⟩:=hrel
  have hw:=hw.symm
  subst hw
  by_cases hin:i<s.size
  ·have hin':(i:Int)<(s.size:Int):=by omega
   have hRi:=hRi.out
   rw[drop_byteAt s i hin] at hRi
   have hb:=byteAt_get s i hin
   obtain⟨c,hc⟩:∃c,Hid (byteAt s i=c):=⟨_,Lib.hid rfl⟩
   rw[hc.out] at hRi hb
   by_cases h10:(c.toNat:Int)=10
   ·have h35:¬(c.toNat:Int)=35:=by omega
    have hn:Hid (i+1+skipN false (s.data.toList.drop (i+1))=R):=Lib.hid (by
     rw[←hRi]
     have e1:¬c.toNat=35:=by omega
     have e2:blank c=true:=by simp[blank];omega
     have e3:c.toNat=10:=by omega
     cases b
     ·rw[skipN,if_neg e1,if_pos e2];omega
     ·rw[skipN,if_pos e3];omega)
    clear hRi
    cases b <;>
    (go_wp2_with fail
     go_roundw
     case rel=>exact⟨i+1,false,by omega,by go_num,rfl,hn,by first|rfl|trivial⟩
     case measure=>simp[intOf];omega)
   ·by_cases h35:(c.toNat:Int)=35
    ·have hn:Hid (i+1+skipN true (s.data.toList.drop (i+1))=R):=Lib.hid (by
      rw[←hRi]
      have e1:c.toNat=35:=by omega
      have e3:¬c.toNat=10:=by omega
      cases b
      ·rw[skipN,if_pos e1];omega
      ·rw[skipN,if_neg e3];omega)
     clear hRi
     cases b <;>
     (go_wp2_with fail
      go_roundw
      case rel=>exact⟨i+1,true,by omega,by go_num,rfl,hn,by first|rfl|trivial⟩
      case measure=>simp[intOf];omega)
    ·cases b with
     | true=>
      have hn:Hid (i+1+skipN true (s.data.toList.drop (i+1))=R):=Lib.hid (by
       rw[←hRi]
       have e3:¬c.toNat=10:=by omega
       rw[skipN,if_neg e3];omega)
      clear hRi
      go_wp2_with fail
      go_roundw
      case rel=>exact⟨i+1,true,by omega,by go_num,rfl,hn,by first|rfl|trivial⟩
      case measure=>simp[intOf];omega
     | false=>
      by_cases hbl:blank c=true
      ·have hn:Hid (i+1+skipN false (s.data.toList.drop (i+1))=R):=Lib.hid (by
        rw[←hRi]
        have e1:¬c.toNat=35:=by omega
        rw[skipN,if_neg e1,if_pos hbl];omega)
       have hor:(c.toNat:Int)=32∨(c.toNat:Int)=9∨(c.toNat:Int)=13:=by simp[blank] at hbl;omega
       clear hRi hbl
       by_cases h32:(c.toNat:Int)=32
       ·clear hor
        go_wp2_with fail
        go_roundw
        case rel=>exact⟨i+1,false,by omega,by go_num,rfl,hn,by first|rfl|trivial⟩
        case measure=>simp[intOf];omega
       ·by_cases h9:(c.toNat:Int)=9
        ·clear hor
         go_wp2_with fail
         go_roundw
         case rel=>exact⟨i+1,false,by omega,by go_num,rfl,hn,by first|rfl|trivial⟩
         case measure=>simp[intOf];omega
        ·have h13:(c.toNat:Int)=13:=by omega
         clear hor
         go_wp2_with fail
         go_roundw
         case rel=>exact⟨i+1,false,by omega,by go_num,rfl,hn,by first|rfl|trivial⟩
         case measure=>simp[intOf];omega
      ·have hRe:R=i:=by
        rw[←hRi]
        have e1:¬c.toNat=35:=by omega
        rw[skipN,if_neg e1,if_neg hbl];omega
       have hor:¬(c.toNat:Int)=32∧¬(c.toNat:Int)=9∧¬(c.toNat:Int)=13:=by simp[blank] at hbl;omega
       obtain⟨h32,h9,h13⟩:=hor
       have k32:((c.toNat:Int) != 32)=true:=by simpa using h32
       have k9:((c.toNat:Int) != 9)=true:=by simpa using h9
       have k10:((c.toNat:Int) != 10)=true:=by simpa using h10
       have k13:((c.toNat:Int) != 13)=true:=by simpa using h13
       subst hRe
       clear hRi hbl
       go_wp2_with fail
       go_ret
       exact⟨rfl,rfl⟩
  ·obtain rfl:i=s.size:=by omega
   have hRe:R=s.size:=by
    rw[←hRi.out,List.drop_eq_nil_of_le (by rw[size_list];omega)]
    cases b<;>simp[skipN]
   subst hRe
   clear hRi
   go_wp2_with fail
   go_ret
   exact⟨rfl,rfl⟩
end Lx
end Go.Proofs.YtmaoochjbpohdaaGreatDoor
