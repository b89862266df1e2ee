/- the reference's canon: the one form of a text; whether it is its own: walked. -/
import Derived.Test.YtbpfabhlngfciaaGreatDoorCdW
import Derived.Deep.Upon
import Derived.Deep.AppendSrc
set_option linter.unusedVariables false
set_option linter.unusedSimpArgs false
set_option maxRecDepth 100000
set_option maxHeartbeats 1000000
namespace Go.Proofs.YtbpfabhlngfciaaGreatDoor.Rc
open Go.ChangeShapes Go.WideShapes Go.ChangeAt Go.RowKit
open Base Lx Mi Pr Cn
theorem showR_len' {ns:List Ne} {t:List UInt8} (h:showP ns=some t):showRLen ns=t.length:=by
 rw[←show_r] at h
 unfold showR at h
 simp only at h
 split at h
 ·cases h
 ·split at h
  ·cases h
  ·injection h with h;rw[←h];rfl
theorem rtext_any (s:ByteArray) (hs:s.size≤140737488351232) (w:World):Calls Tryz.prog 17 #[.string s] w fun e w'=>e=.returned (.tuple #[.string (formP s).1,.int .i64 (formP s).2.1,.int .i64 (formP s).2.2])∧Ext w w':=by
 have hpar:=refParse_any s hs w
 rw[parse_q] at hpar
 have l7:=parse_rng s
 have hb:=back_plain' s
 have hbl:=fun ns t=>showR_len' (ns:=ns) (t:=t)
 obtain⟨F,hF⟩:∃z,Hid (formP s=z):=⟨_,Lib.hid rfl⟩
 have hFd:=hF.out
 rw[hF.out]
 unfold formP at hFd
 obtain⟨r,hr⟩:∃z,Hid (parseP s=z):=⟨_,Lib.hid rfl⟩
 rw[hr.out] at hpar l7 hb hFd
 obtain⟨ns,at_,why⟩:=r
 replace hpar:Calls Tryz.prog 21 #[.string s] w fun e w'=>∃v vs,e=.returned (.tuple #[.agg #[v],.int .i64 at_,.int .i64 why])∧Nds w.heap.size w' ns vs v∧Ext w w':=hpar
 replace l7:∀d∈ns,-9223372036854775808≤d.size∧d.size≤9223372036854775807:=l7
 simp only at hFd hb
 obtain⟨PO,hPO⟩:∃PO:Ending→World→Prop,Hid ((fun e w'=>e=.returned (.tuple #[.string F.1,.int .i64 F.2.1,.int .i64 F.2.2])∧Ext w w')=PO):=⟨_,Lib.hid rfl⟩
 rw[hPO.out]
 by_cases hw:why=0
 ·subst hw
  obtain⟨t,h1,ht,hs4,_,_⟩:=hb rfl
  have h5:=hbl _ _ h1
  rw[if_pos rfl,h1] at hFd
  have hp:∀W,Ext w W→PO (.returned (.tuple #[.string ⟨t.toArray⟩,.int .i64 0,.int .i64 0])) W:=fun W hW=>by rw[←hPO.out,←hFd];exact⟨rfl,hW⟩
  obtain⟨T,hT⟩:∃z,Hid (t.toArray=z):=⟨_,Lib.hid rfl⟩
  rw[hT.out] at hp
  obtain⟨nE,hnE⟩:∃z,Hid (ns.map Nd.toE=z):=⟨_,Lib.hid rfl⟩
  rw[hnE.out] at h1 h5
  replace h1:=Lib.hid h1
  replace l7:=Lib.hid l7
  clear hr hb hbl hFd hF hPO
  go_enter Tryz.func17,Tryz.ntmps17
  go_wp2_with fail
  refine hpar.mono ?_
  rintro e w1 ⟨v,vs,rfl,hnd,hx1⟩
  have hS1:=Sch.ofNds hnd (Nat.le_refl _) l7.out
  rw[hnE.out] at hS1
  obtain⟨A,c,rfl,jj1,jj2,jj3,jj4⟩:=Rd.of_own hnd.row
  clear jj1 jj2 jj3 jj4 hpar hnd
  obtain⟨k,hk⟩:∃z,Hid (ns.length=z):=⟨_,Lib.hid rfl⟩
  rw[hk.out] at hS1 ⊢
  obtain⟨w2,hw2⟩:∃z,Hid (w1.alloc (.cells #[.slice A k c] 42)=z):=⟨_,rfl⟩
  have hx2:Ext w1 w2:=by rw[←hw2.out];exact (Ext.refl w1).alloc _
  have hS2:Sch w2.heap.size w2 (.slice A k c) nE:=(hS1.below hx2).mono hx2.size
  have hx02:=hx1.trans hx2
  have hsh:=refShow_any _ _ w2 hS2 (by omega)
  rw[h1.out] at hsh
  clear hS1 hS2
  go_wp2_with fail
  rw[hw2.out]
  refine hsh.mono ?_
  rintro e w4 ⟨rfl,hx4⟩
  rw[show shV (some t)=Value.tuple #[.string ⟨t.toArray⟩,.int .i64 0] from rfl,hT.out]
  have hp4:=hp w4 (hx02.trans hx4)
  clear hsh hp
  go_wp2_with fail
  refine bodyPost_ret (results_tmp3 rfl _ _ _) rfl ?_
  exact hp4
 ·rw[if_neg hw] at hFd
  have hwb:((why:Int) != 0)=true:=by simpa using hw
  have hp:∀W,Ext w W→PO (.returned (.tuple #[.string ⟨#[]⟩,.int .i64 at_,.int .i64 why])) W:=fun W hW=>by rw[←hPO.out,←hFd];exact⟨rfl,hW⟩
  clear hr hb hbl hFd hF hPO l7
  go_enter Tryz.func17,Tryz.ntmps17
  go_wp2_with fail
  refine hpar.mono ?_
  rintro e w1 ⟨v,vs,rfl,hnd,hx1⟩
  obtain⟨A,c,rfl,jj1,jj2,jj3,jj4⟩:=Rd.of_own hnd.row
  clear jj1 jj2 jj3 jj4 hpar hnd
  obtain⟨k,hk⟩:∃z,Hid (ns.length=z):=⟨_,Lib.hid rfl⟩
  rw[hk.out]
  obtain⟨w2,hw2⟩:∃z,Hid (w1.alloc (.cells #[.slice A k c] 42)=z):=⟨_,rfl⟩
  have hx2:Ext w1 w2:=by rw[←hw2.out];exact (Ext.refl w1).alloc _
  have hp4:=hp w2 (hx1.trans hx2)
  clear hp
  go_wp2_with fail
  rw[hw2.out]
  refine bodyPost_ret (results_tmp3 rfl _ _ _) rfl ?_
  exact hp4
theorem rIs_any (s:ByteArray) (hs:s.size≤140737488351232) (w:World):Calls Tryz.prog 20 #[.string s] w fun e w'=>e=.returned (.bool (isP s))∧Ext w w':=by
 have hc:=rtext_any s hs w
 have hi:isP s=(decide ((formP s).2.2=0) && decide ((formP s).1=s)):=rfl
 obtain⟨F,hF⟩:∃z,Hid (formP s=z):=⟨_,Lib.hid rfl⟩
 rw[hF.out] at hc hi
 rw[hi]
 obtain⟨t,a,y⟩:=F
 simp only at hc ⊢
 have hb:=str_beq' t s
 clear hi
 by_cases h0:y=0
 ·subst h0
  obtain⟨b,hbd⟩:∃z,Hid (decide (t=s)=z):=⟨_,Lib.hid rfl⟩
  rw[hbd.out] at hb ⊢
  go_enter Tryz.func20,Tryz.ntmps20
  go_wp2_with fail
  refine hc.mono ?_
  rintro e w1 ⟨rfl,hx1⟩
  go_wp2_with fail
  go_ret
  exact⟨by simp,hx1⟩
 ·have hyb:((y:Int) == 0)=false:=by simpa using h0
  rw[decide_eq_false h0,Bool.false_and]
  clear hb
  go_enter Tryz.func20,Tryz.ntmps20
  go_wp2_with fail
  refine hc.mono ?_
  rintro e w1 ⟨rfl,hx1⟩
  go_wp2_with fail
  go_ret
  exact⟨rfl,hx1⟩
end Go.Proofs.YtbpfabhlngfciaaGreatDoor.Rc
namespace Go.Proofs.YtbpfabhlngfciaaGreatDoor.Rk
open Go.ChangeShapes Go.WideShapes Go.ChangeAt Go.RowKit
open Base Pf Cn Pr Lx Mi Ch Rc
theorem rcan_any (e:Et) (he:EtOk e) (w:World):Calls Tryz.prog 29 #[entV e] w fun en w'=>en=.returned (.bool (canP e))∧Ext w w':=by
 obtain⟨p1,p2,s1,id1⟩:=he
 have hcan:canP e=if e.pol=true then decide (0≤e.p) && decide (e.p<7) && decide (e.s=⟨#[]⟩) && decide (e.id=0) else decide (e.p=0) && decide (1≤e.id) && decide (e.id≤2147483647) && isP e.s:=rfl
 obtain⟨R,hR⟩:∃z,Hid (canP e=z):=⟨_,Lib.hid rfl⟩
 rw[hR.out] at hcan ⊢
 obtain⟨pol,p,s,id⟩:=e
 unfold entV
 simp only at *
 obtain⟨w1,hw1⟩:∃z,Hid (w.alloc (.cells #[.bool pol,.int .i64 p,.string s,.int .u64 (id:Int)] 55)=z):=⟨_,rfl⟩
 have hx1:Ext w w1:=by rw[←hw1.out];exact (Ext.refl w).alloc _
 have his:=rIs_any s (by omega) w1
 obtain⟨b,hb⟩:∃z,Hid (isP s=z):=⟨_,Lib.hid rfl⟩
 rw[hb.out] at his hcan
 clear p1 p2 s1 id1
 cases pol with
 | true=>
  rw[if_pos rfl] at hcan
  clear his
  by_cases q1:0≤p
  ·by_cases q2:p<7
   ·have q26:p≤6:=by omega
    by_cases q3:s=⟨#[]⟩
    ·obtain⟨z1,z2,z3⟩:=str_em q3
     by_cases q4:id=0
     ·have hR1:R=true:=by rw[hcan];simp[q1,q2,q3,q4]
      subst hR1
      subst q4
      subst q3
      clear hcan
      go_enter Tryz.func29,Tryz.ntmps29
      go_wp2_with fail
      go_ret
      exact⟨rfl,(Ext.refl w).alloc _⟩
     ·have hR1:R=false:=by rw[hcan];simp[q4]
      subst hR1
      have q4b:((id:Int) == 0)=false:=by simpa using (by omega:¬(id:Int)=0)
      have q4c:¬(id:Int)=0:=by omega
      subst q3
      clear hcan
      go_enter Tryz.func29,Tryz.ntmps29
      go_wp2_with fail
      go_ret
      exact⟨rfl,(Ext.refl w).alloc _⟩
    ·obtain⟨z1,z2,z3⟩:=str_ne0 q3
     have hR1:R=false:=by rw[hcan];simp[q3]
     subst hR1
     clear q3 hcan
     go_enter Tryz.func29,Tryz.ntmps29
     go_wp2_with fail
     go_ret
     exact⟨rfl,(Ext.refl w).alloc _⟩
   ·have q26:¬p≤6:=by omega
    have hR1:R=false:=by rw[hcan];simp[q2]
    subst hR1
    clear hcan
    go_enter Tryz.func29,Tryz.ntmps29
    go_wp2_with fail
    go_ret
    exact⟨rfl,(Ext.refl w).alloc _⟩
  ·have hR1:R=false:=by rw[hcan];simp[q1]
   subst hR1
   clear hcan
   go_enter Tryz.func29,Tryz.ntmps29
   go_wp2_with fail
   go_ret
   exact⟨rfl,(Ext.refl w).alloc _⟩
 | false=>
  rw[if_neg (by decide)] at hcan
  by_cases q1:p=0
  ·subst q1
   by_cases q2:1≤id
   ·have q2i:0<id:=by omega
    by_cases q3:id≤2147483647
    ·have q3i:id<2147483648:=by omega
     have hR1:R=b:=by rw[hcan];simp[q2,q3]
     subst hR1
     clear hcan
     obtain⟨k,rfl⟩:∃k,id=k+1:=⟨id-1,by omega⟩
     have k3i:(k:Int)+1<2147483648:=by omega
     rw[show ((k+1:Nat):Int)=(k:Int)+1 by omega] at hw1
     clear q3 q2 q2i q3i
     go_enter Tryz.func29,Tryz.ntmps29
     go_wp2_with fail
     rw[hw1.out]
     refine his.mono ?_
     rintro en w2 ⟨rfl,hx2⟩
     go_wp2_with fail
     go_ret
     exact⟨rfl,hx1.trans hx2⟩
    ·have q3i:¬id<2147483648:=by omega
     have hR1:R=false:=by rw[hcan];simp[q3]
     subst hR1
     clear hcan his
     obtain⟨k,rfl⟩:∃k,id=k+1:=⟨id-1,by omega⟩
     have k3i:¬(k:Int)+1<2147483648:=by omega
     clear q3 q2 q2i q3i
     go_enter Tryz.func29,Tryz.ntmps29
     go_wp2_with fail
     go_ret
     exact⟨rfl,(Ext.refl w).alloc _⟩
   ·have q2i:¬0<id:=by omega
    have hR1:R=false:=by rw[hcan];simp[q2]
    subst hR1
    clear hcan his
    go_enter Tryz.func29,Tryz.ntmps29
    go_wp2_with fail
    go_ret
    exact⟨rfl,(Ext.refl w).alloc _⟩
  ·have hR1:R=false:=by rw[hcan];simp[q1]
   subst hR1
   have q1b:((p:Int) == 0)=false:=by simpa using q1
   clear hcan his
   go_enter Tryz.func29,Tryz.ntmps29
   go_wp2_with fail
   go_ret
   exact⟨rfl,(Ext.refl w).alloc _⟩
end Go.Proofs.YtbpfabhlngfciaaGreatDoor.Rk
namespace Go.Proofs.YtbpfabhlngfciaaGreatDoor.Rf
open Base Pf
def sizeP (n:Nat):Nat:=if n<64 then 1 else if n<16384 then 2 else if n<1073741824 then 4 else if n<4611686018427387904 then 8 else 0
theorem size_cls (n:Nat) (j:Nat) (hj:j≤3):sizeP n=2 ^ j↔cls n=(j:Int):=by
 have:j=0∨j=1∨j=2∨j=3:=by omega
 unfold sizeP cls
 rcases this with rfl|rfl|rfl|rfl<;>(repeat' split)<;>simp<;>omega
theorem size_no (n:Nat):sizeP n=0↔4611686018427387904≤n:=by
 unfold sizeP
 repeat' split
 all_goals omega
end Go.Proofs.YtbpfabhlngfciaaGreatDoor.Rf
namespace Go.Proofs.YtbpfabhlngfciaaGreatDoor.Rf
open Go.ChangeShapes Go.WideShapes Go.ChangeAt Go.RowKit
open Base Pf
theorem Size_any (n:Nat) (hn:n<18446744073709551616) (w:World):Calls Tryz.prog 89 #[.int .u64 (n:Int)] w fun e w'=>e=.returned (.int .i64 (sizeP n:Int))∧w'=w:=by
 obtain⟨r,hr⟩:∃r,Hid (sizeP n=r):=⟨_,Lib.hid rfl⟩
 rw[hr.out]
 by_cases h0:n<64
 ·have e:r=1:=by rw[←hr.out,sizeP,if_pos h0]
  subst e
  have h0':(n:Int)<64:=by omega
  clear hn hr
  go_enter Tryz.func89,Tryz.ntmps89
  go_wp2_with fail
  go_ret
  exact⟨rfl,rfl⟩
 have h0':¬(n:Int)<64:=by omega
 by_cases h1:n<16384
 ·have e:r=2:=by rw[←hr.out,sizeP,if_neg h0,if_pos h1]
  subst e
  have h1':(n:Int)<16384:=by omega
  clear hn hr
  go_enter Tryz.func89,Tryz.ntmps89
  go_wp2_with fail
  go_ret
  exact⟨rfl,rfl⟩
 have h1':¬(n:Int)<16384:=by omega
 by_cases h2:n<1073741824
 ·have e:r=4:=by rw[←hr.out,sizeP,if_neg h0,if_neg h1,if_pos h2]
  subst e
  have h2':(n:Int)<1073741824:=by omega
  clear hn hr
  go_enter Tryz.func89,Tryz.ntmps89
  go_wp2_with fail
  go_ret
  exact⟨rfl,rfl⟩
 have h2':¬(n:Int)<1073741824:=by omega
 by_cases h3:n<4611686018427387904
 ·have e:r=8:=by rw[←hr.out,sizeP,if_neg h0,if_neg h1,if_neg h2,if_pos h3]
  subst e
  have h3':(n:Int)<4611686018427387904:=by omega
  clear hn hr
  go_enter Tryz.func89,Tryz.ntmps89
  go_wp2_with fail
  go_ret
  exact⟨rfl,rfl⟩
 have h3':¬(n:Int)<4611686018427387904:=by omega
 have e:r=0:=by rw[←hr.out,sizeP,if_neg h0,if_neg h1,if_neg h2,if_neg h3]
 subst e
 clear hn hr
 go_enter Tryz.func89,Tryz.ntmps89
 go_wp2_with fail
 go_ret
 exact⟨rfl,rfl⟩
end Go.Proofs.YtbpfabhlngfciaaGreatDoor.Rf
namespace Go.Proofs.YtbpfabhlngfciaaGreatDoor.Pr
open Go.ChangeShapes Go.WideShapes Go.ChangeAt Go.RowKit
open Base
theorem app0_run {P:Program} {t e:TypeId} {z:Value} {size bytes:Nat} (E:El P t e z size bytes) (w:World) (ty:TypeId) (base:Nat)
  (g:Nat) (hown:w.ownsRow base e size (.slice (some ⟨g,0,none⟩) 0 0) 0 [])
  (A:Option Addr) (m c:Nat) (news:List Value) (hr:Rd w A news) (hl:news.length=m*size) (hA:A=none→c=0)
  (hbytes:m*bytes≤140737488355328) (hby:0<bytes) (hbase:base≤w.heap.size) :
  ∃v' w',(Builtin.append_ #[t,t] ty #[.slice (some ⟨g,0,none⟩) 0 0,.slice A m c]).run P w=.ok v' w'∧w'.ownsRow base e size v' m news∧Ext w w':=by
 obtain⟨i,hi,hz,hs,hb⟩:=info_parts E.info
 have hpos:=E.pos
 by_cases hne:news=[]
 ·subst hne
  have hm:m=0:=by
   rcases Nat.eq_zero_or_pos m with h|h
   ·exact h
   ·have:=Nat.mul_pos h hpos;simp at hl;omega
  subst hm
  refine⟨_,w,?_,hown,Ext.refl w⟩
  cases A with
  | none=>
   rw[hA rfl]
   exact run_append_nothing (P:=P) w t t ty e i E.under hi (some ⟨g,0,none⟩) 0 0 (Nat.le_refl _) _ (Src.ofNil (P:=P) (w:=w) E.under 0)
  | some ad=>
   exact run_append_nothing (P:=P) w t t ty e i E.under hi (some ⟨g,0,none⟩) 0 0 (Nat.le_refl _) _ (Src.ofSlice (P:=P) (w:=w) E.under ad 0 c [] (by simp) (by simp) (fun u hu=>by cases hu))
 ·obtain⟨b,off,rfl,hc⟩:=hr hne
  have hm:0<m:=by
   rcases Nat.eq_zero_or_pos m with h|h
   ·subst h;rw[Nat.zero_mul] at hl;exact absurd (List.eq_nil_of_length_eq_zero hl) hne
   ·exact h
  have h63:m≤maxLen:=by
   have h:m*1≤m*bytes:=Nat.mul_le_mul_left _ hby
   unfold maxLen;omega
  have h63':((0+m:Nat):Int)≤9223372036854775807:=by unfold maxLen at h63;omega
  have hr:=run_append_grow (P:=P) w t ty e i z E.under hi hz ⟨g,0,none⟩ 0 0 [] (by simp) (by simp) ⟨b,off,none⟩ m c news (by rw[hs];exact hl) (fun j u hj=>by
   have hadd:(⟨b,off,none⟩:Addr).add j=⟨b,off+j,none⟩:=by unfold Addr.add;split<;>simp_all
   rw[hadd];exact hc j u hj) (by omega) h63' (growslice_fits (by omega) (by rw[hb,Nat.zero_add];exact hbytes))
  have hge:=grownCap_ge w (0+m) 0 e
  have hcm:grownCap w (0+m) 0 e≤maxLen:=grownCap_le_maxLen w (0+m) 0 e (by omega)
  refine⟨_,_,hr,⟨hl,.inr ⟨w.heap.size,_,_,by rw[Nat.zero_add],hbase,heap_alloc_new w.drew _,by rw[Nat.zero_add] at hge;exact hge,by rw[Nat.zero_add] at hcm;exact hcm,?_,?_⟩⟩,((Ext.refl w).drew).alloc _⟩
  ·have e1:m*size+(grownCap w (0+m) 0 e-(0+m))*size=grownCap w (0+m) 0 e*size:=by
    rw[←Nat.add_mul];congr 1;omega
   simp only[Array.size_append,List.size_toArray,size_zeroCells,E.cells,hl,List.length_nil,Nat.zero_add] at e1 ⊢
   exact e1
  ·simp only[Array.toList_append,List.append_assoc]
   rw[←hl]
   simp
theorem wp_app0 {P:Program} {t e:TypeId} {z:Value} {size bytes:Nat} (E:El P t e z size bytes) (w:World) {o:Oper} {a:Act} {K:Act→World→Prop} {Q:Exit→Act→World→Prop} (s x:Operand)
  (ho:o.op=.call { callee:=.builtin .append,args := #[s,x],argTypes := #[t,t] }) (base:Nat)
  (g:Nat) (hs:a.eval s=.slice (some ⟨g,0,none⟩) 0 0) (hown:w.ownsRow base e size (.slice (some ⟨g,0,none⟩) 0 0) 0 [])
  (A:Option Addr) (m c:Nat) (news:List Value) (hx:a.eval x=.slice A m c) (hr:Rd w A news) (hl:news.length=m*size) (hA:A=none→c=0)
  (hbytes:m*bytes≤140737488355328) (hby:0<bytes) (hbase:base≤w.heap.size)
  (h:∀v' w',w'.ownsRow base e size v' m news→Ext w w'→K (a.put o.dst v') w'):o.wp P a w K Q:=by
 obtain⟨v',w',hrun,h2,h3⟩:=app0_run E w o.type base g hown A m c news hr hl hA hbytes hby hbase
 unfold Oper.wp execOp
 simp only[ho,resolve,invoke,builtin,Sem.run_bind,Sem.run_pure,Result.andThen_ok,List.map_toArray,List.map_cons,List.map_nil,hs,hx,hrun]
 exact h v' w' h2 h3
end Go.Proofs.YtbpfabhlngfciaaGreatDoor.Pr
namespace Go.Proofs.YtbpfabhlngfciaaGreatDoor.Rf
open Go.ChangeShapes Go.WideShapes Go.ChangeAt Go.RowKit
open Base Pf Piece Pr
theorem wpList_app0 {P:Program} {t e:TypeId} {z:Value} {size bytes:Nat} (E:El P t e z size bytes) (w:World) {ops:Array Oper} {rest:List Oper} {o:Oper} {a:Act} {Q:Exit→Act→World→Prop} (hgd:o.guard=none) (s x:Operand)
  (ho:o.op=.call { callee:=.builtin .append,args := #[s,x],argTypes := #[t,t] }) (base:Nat)
  (g:Nat) (hs:a.eval s=.slice (some ⟨g,0,none⟩) 0 0) (hown:w.ownsRow base e size (.slice (some ⟨g,0,none⟩) 0 0) 0 [])
  (A:Option Addr) (m c:Nat) (news:List Value) (hx:a.eval x=.slice A m c) (hr:Rd w A news) (hl:news.length=m*size) (hA:A=none→c=0)
  (hbytes:m*bytes≤140737488355328) (hby:0<bytes) (hbase:base≤w.heap.size)
  (h:∀v' w',w'.ownsRow base e size v' m news→Ext w w'→wpList P ops Q rest (a.put o.dst v') w'):wpList P ops Q (o::rest) a w:=
 wpList_plain hgd fun _ hK=>wp_app0 E w s x ho base g hs hown A m c news hx hr hl hA hbytes hby hbase fun v' w' h2 h3=>hK _ _ (h v' w' h2 h3)
theorem seqM' {P:Program} {a b:Code} {Q:Exit→Act→World→Prop} {act:Act} {w:World} (M:Act→World→Prop) (h1:∀K:Act→World→Prop,(∀a w,M a w→K a w)→a.wp P (Exit.then K Q) act w) (h2:∀a w,M a w→b.wp P Q a w):(Code.seq a b).wp P Q act w:=wp_seq (h1 _ h2)
theorem be_get:∀(m v t:Nat),t<m→(be m v)[t]?=some (UInt8.ofNat (v / 256 ^ (m-1-t)%256))
 | 0,_,_,h=>by omega
 | m+1,v,0,h=>by simp[be]
 | m+1,v,t+1,h=>by
  rw[be,List.getElem?_cons_succ,be_get m v t (by omega)]
  congr 5
  omega
theorem enc_get {n j:Nat} (hj:j≤3) (h:cls n=j) (t:Nat) (ht:t<2 ^ j):∃y:UInt8,(encN n)[t]?=some y∧y.toNat=n / 256 ^ (2 ^ j-1-t)%256+(if t=0 then 64*j else 0):=by
 have hlt:=cls_lt hj h
 have hkk:(cls n).toNat=j:=by rw[h];rfl
 obtain⟨m,hm⟩:∃m,2 ^ j=m+1:=⟨2 ^ j-1,by have:0<2 ^ j:=Nat.two_pow_pos j;omega⟩
 have hp:2 ^ (8*2 ^ j-2)=64*256 ^ m:=by
  rw[hm,show 8*(m+1)-2=8*m+6 by omega,Nat.pow_add,Nat.pow_mul]
  rw[Nat.mul_comm]
 rw[hm] at hlt ht ⊢
 simp only[Nat.add_sub_cancel] at hlt ⊢
 refine⟨_,by unfold encN putP;rw[hkk,hm,be_get _ _ _ ht,←hm,hp,hm],?_⟩
 simp only[Nat.add_sub_cancel]
 rw[UInt8.toNat_ofNat_of_lt' (by show _%256<256;omega)]
 cases t with
 | zero=>
  have hP:0<256 ^ m:=Nat.pos_of_ne_zero (by simp)
  obtain⟨q,hq0⟩:∃q,n / 256 ^ m=q:=⟨_,rfl⟩
  have hq:q<64:=by rw[←hq0,Nat.div_lt_iff_lt_mul hP];exact hlt
  rw[Nat.sub_zero,if_pos rfl,←Nat.mul_assoc,Nat.add_mul_div_right _ _ hP,hq0]
  omega
 | succ t=>
  have hP:0<256 ^ (m-(t+1)):=Nat.pos_of_ne_zero (by simp)
  have e:256 ^ m=256 ^ t*256*256 ^ (m-(t+1)):=by rw[←Nat.pow_succ,←Nat.pow_add];congr 1;omega
  rw[if_neg (by omega),e,Nat.add_zero]
  have e2:j*(64*(256 ^ t*256*256 ^ (m-(t+1))))=(j*64*256 ^ t*256)*256 ^ (m-(t+1)):=by
   simp only[Nat.mul_assoc]
  rw[e2,Nat.add_mul_div_right _ _ hP,Nat.add_mul_mod_self_right];rfl
set_option maxRecDepth 1000000 in
theorem lay49 {v0 v1 v2 v3 v4 v5 v6 v7:Value} {a:Act} (h:Piece.Fr 49 [v0,v1,v2,v3,v4,v5,v6,v7] a):∃u:Nat→Value,a=⟨(v0::v1::v2::v3::v4::v5::v6::v7::u 8::u 9::u 10::u 11::u 12::u 13::u 14::u 15::u 16::u 17::u 18::u 19::u 20::u 21::u 22::u 23::u 24::u 25::u 26::u 27::u 28::u 29::u 30::u 31::u 32::u 33::u 34::u 35::u 36::u 37::u 38::u 39::u 40::u 41::u 42::u 43::u 44::u 45::u 46::u 47::u 48::[]).toArray,[]⟩:=by
 obtain⟨u,hu⟩:=h.spread
 refine⟨u,hu.trans ?_⟩
 kernel_rfl
set_option maxRecDepth 1000000 in
theorem lay499 {v0 v1 v2 v3 v4 v5 v6 v7 v8:Value} {a:Act} (h:Piece.Fr 49 [v0,v1,v2,v3,v4,v5,v6,v7,v8] a):∃u:Nat→Value,a=⟨(v0::v1::v2::v3::v4::v5::v6::v7::v8::u 9::u 10::u 11::u 12::u 13::u 14::u 15::u 16::u 17::u 18::u 19::u 20::u 21::u 22::u 23::u 24::u 25::u 26::u 27::u 28::u 29::u 30::u 31::u 32::u 33::u 34::u 35::u 36::u 37::u 38::u 39::u 40::u 41::u 42::u 43::u 44::u 45::u 46::u 47::u 48::[]).toArray,[]⟩:=by
 obtain⟨u,hu⟩:=h.spread
 refine⟨u,hu.trans ?_⟩
 kernel_rfl
set_option maxRecDepth 1000000 in
theorem lay496 {v0 v1 v2 v3 v4 v5:Value} {a:Act} (h:Piece.Fr 49 [v0,v1,v2,v3,v4,v5] a):∃u:Nat→Value,a=⟨(v0::v1::v2::v3::v4::v5::u 6::u 7::u 8::u 9::u 10::u 11::u 12::u 13::u 14::u 15::u 16::u 17::u 18::u 19::u 20::u 21::u 22::u 23::u 24::u 25::u 26::u 27::u 28::u 29::u 30::u 31::u 32::u 33::u 34::u 35::u 36::u 37::u 38::u 39::u 40::u 41::u 42::u 43::u 44::u 45::u 46::u 47::u 48::[]).toArray,[]⟩:=by
 obtain⟨u,hu⟩:=h.spread
 refine⟨u,hu.trans ?_⟩
 kernel_rfl
theorem rPut_any (A:Option Addr) (m c:Nat) (l:List UInt8) (n:Nat) (w:World) (hr:Rb w A l) (hl:l.length=m) (hA:A=none→c=0) (hm:m≤140737488355000) (hn:n<18446744073709551616) :
  Calls Tryz.prog 55 #[.slice A m c,.int .u64 (n:Int)] w fun e w'=>∃v',e=.returned (.tuple #[v',.int .i64 (if n<4611686018427387904 then 0 else 1)])∧Ow w.heap.size w' v' (if n<4611686018427387904 then l++encN n else l)∧Ext w w':=by
 have hsz:=fun W=>Size_any n hn W
 obtain⟨SZ,hSZ⟩:∃z,Hid (sizeP n=z):=⟨_,Lib.hid rfl⟩
 simp only[hSZ.out] at hsz
 obtain⟨wl,hwl⟩:∃z,Hid (w.alloc (.cells #[] 5)=z):=⟨_,rfl⟩
 have hx1:Ext w wl:=by rw[←hwl.out];exact (Ext.refl w).alloc _
 have hlit:(w.alloc (.cells #[] 5)).ownsRow w.heap.size 5 1 (.slice (some ⟨w.heap.size,0,none⟩) 0 0) 0 []:=World.ownsRow_lit w #[] 0 (Nat.le_refl _) (Nat.zero_le _) rfl
 have hr1:=hr.ext ((Ext.refl w).alloc (.cells #[] 5))
 have hb1:=((Ext.refl w).alloc (.cells #[] 5)).size
 have hl8:(u8s l).length=m*1:=by rw[u8s_length,hl,Nat.mul_one]
 replace hA:=Lib.hid hA
 replace hsz:=Lib.hid hsz
 by_cases h:n<4611686018427387904
 ·simp only[if_pos h]
  obtain⟨j,hj,hc⟩:=cls_k h
  have hget:=enc_get hj hc
  have hsj:=(size_cls n j hj).2 hc
  obtain⟨E,hE⟩:∃z,Hid (encN n=z):=⟨_,Lib.hid rfl⟩
  rw[hE.out] at hget ⊢
  have hEl:E.length=2 ^ j:=by rw[←hE.out];unfold encN putP;rw[be_length,hc];rfl
  obtain⟨PO,hPO⟩:∃PO:Ending→World→Prop,Hid ((fun e w'=>∃v',e=.returned (.tuple #[v',.int .i64 0])∧Ow w.heap.size w' v' (l++E)∧Ext w w')=PO):=⟨_,Lib.hid rfl⟩
  rw[hPO.out]
  rw[hSZ.out] at hsj
  subst hsj
  have hfin:∀v' w',Ow w.heap.size w' v' (l++E)→Ext w w'→PO (.returned (.tuple #[v',.int .i64 0])) w':=fun v' w' q1 q2=>by rw[←hPO.out];exact⟨v',rfl,q1,q2⟩
  obtain⟨KK,hKK⟩:∃z,Hid (2 ^ j=z):=⟨_,Lib.hid rfl⟩
  have hj4:j=0∨j=1∨j=2∨j=3:=by omega
  have hK8:1≤KK∧KK≤8:=by rw[←hKK.out];rcases hj4 with rfl|rfl|rfl|rfl<;>decide
  rw[hKK.out] at hsz hget hEl
  have hk0:((KK:Int) == 0)=false:=by simp;omega
  replace hget:=Lib.hid hget
  replace hfin:=Lib.hid hfin
  clear hPO hSZ hE hc h
  go_enter Tryz.func55,Tryz.ntmps55
  conv=>arg 2;whnf
  refine seqM' (fun a' w'=>Fr 49 [.slice A m c,.int .u64 (n:Int),undef,undef,.slice none 0 0,.int .i64 0] a'∧w'=w) ?_ ?_
  ·intro K hK
   go_wp2_with fail
   first|exact⟨⟨_,rfl,rfl⟩,rfl⟩|exact⟨_,rfl,rfl⟩
  rintro a1 w1 ⟨hF,hw1⟩
  replace hw1:=hw1.symm
  subst hw1
  obtain⟨u,rfl⟩:=lay496 hF
  clear hF
  refine seqM' (fun a' w'=>∃v,Fr 49 [.slice A m c,.int .u64 (n:Int),undef,undef,.slice none 0 0,.int .i64 0,v,.int .i64 (KK:Int)] a'∧w'.ownsRow w.heap.size 5 1 v m (u8s l)∧Ext w w') ?_ ?_
  ·intro K hK
   go_wp2_with (
    refine wpList_app0 el8 _ rfl (.tmp 11) (.tmp 12) rfl _ _ rfl hlit A m c (u8s l) rfl hr1 hl8 hA.out (by omega) (by omega) hb1 (fun v' w' ho' hx'=>?_)
    have hs1:=hsz.out w'
    clear hlit hr1 hl8 hb1)
   refine hs1.mono ?_
   rintro e w3 ⟨rfl,hw3⟩
   replace hw3:=hw3.symm
   subst hw3
   go_wp2_with fail
   exact⟨v',⟨_,rfl,rfl⟩,ho',((Ext.refl w).alloc _).trans hx'⟩
  rintro a1 w2 ⟨v2,hF,ho2,hx2⟩
  obtain⟨u,rfl⟩:=lay49 hF
  clear hF hlit hr1 hl8 hb1
  refine seqM' (fun a' w'=>Fr 49 [.slice A m c,.int .u64 (n:Int),undef,undef,.slice none 0 0,.int .i64 0,v2,.int .i64 (KK:Int)] a'∧w'=w2) ?_ ?_
  ·intro K hK
   go_wp2_with fail
   first|exact⟨⟨_,rfl,rfl⟩,rfl⟩|exact⟨_,rfl,rfl⟩
  rintro a1 w1 ⟨hF,hw1⟩
  replace hw1:=hw1.symm
  subst hw1
  obtain⟨u,rfl⟩:=lay49 hF
  clear hF
  refine seqM' (fun a' w'=>Fr 49 [.slice A m c,.int .u64 (n:Int),undef,undef,.slice none 0 0,.int .i64 0,v2,.int .i64 (KK:Int),.int .u8 0] a'∧w'=w2) ?_ ?_
  ·intro K hK
   go_wp2_with fail
   first|exact⟨⟨_,rfl,rfl⟩,rfl⟩|exact⟨_,rfl,rfl⟩
  rintro a1 w1 ⟨hF,hw1⟩
  replace hw1:=hw1.symm
  subst hw1
  obtain⟨u,rfl⟩:=lay499 hF
  clear hF
  refine seqM' (fun a' w'=>Fr 49 [.slice A m c,.int .u64 (n:Int),undef,undef,.slice none 0 0,.int .i64 0,v2,.int .i64 (KK:Int),.int .u8 ((64*j:Nat):Int)] a'∧w'=w2) ?_ ?_
  ·intro K hK
   rcases hj4 with rfl|rfl|rfl|rfl
   ·obtain rfl:KK=1:=by rw[←hKK.out]
    go_wp2_with fail
    all_goals first|exact⟨⟨_,rfl,rfl⟩,rfl⟩|exact⟨_,rfl,rfl⟩
   ·obtain rfl:KK=2:=by rw[←hKK.out]
    go_wp2_with fail
    all_goals first|exact⟨⟨_,rfl,rfl⟩,rfl⟩|exact⟨_,rfl,rfl⟩
   ·obtain rfl:KK=4:=by rw[←hKK.out]
    go_wp2_with fail
    all_goals first|exact⟨⟨_,rfl,rfl⟩,rfl⟩|exact⟨_,rfl,rfl⟩
   ·obtain rfl:KK=8:=by rw[←hKK.out]
    go_wp2_with fail
    all_goals first|exact⟨⟨_,rfl,rfl⟩,rfl⟩|exact⟨_,rfl,rfl⟩
  rintro a1 w1 ⟨hF,hw1⟩
  replace hw1:=hw1.symm
  subst hw1
  obtain⟨u,rfl⟩:=lay499 hF
  clear hF
  obtain⟨hb,hhb⟩:∃z,Hid (64*j=z):=⟨_,Lib.hid rfl⟩
  rw[hhb.out]
  go_wp2_with fail
  go_loopw [6,9] (fun v6 v9 wr=>∃t i:Nat,t+i=KK∧v9=.int .i64 ((i:Int)-1)∧Ow w.heap.size wr v6 (l++E.take t)∧Ext w wr) (fun _ v9 _=>(intOf v9+1).toNat)
  case atStart=>exact⟨0,KK,by omega,rfl,by rw[List.take_zero,List.append_nil];unfold Ow;rw[hl];exact ho2,hx2⟩
  case round=>
   obtain⟨t,i,hti,rfl,ho,hx⟩:=hrel
   obtain⟨A6,c6,rfl,jj1,jj2,jj3,jj4⟩:=Rd.of_own ho
   have hlen:(l++E.take t).length=m+t:=by rw[List.length_append,hl,List.length_take];omega
   have ho6:wr.ownsRow w.heap.size 5 1 (.slice A6 (m+t) c6) (m+t) (u8s (l++E.take t)):=by have:=ho;unfold Ow at this;rw[hlen] at this;exact this
   rw[hlen]
   clear jj1 jj2 jj3 jj4
   cases i with
   | zero=>
    have htk:t=KK:=by omega
    subst htk
    rw[List.take_of_length_le (by omega)] at ho
    have hp:=hfin.out _ _ ho hx
    rw[show (l++E).length=m+t by rw[List.length_append,hl,hEl]] at hp
    rw[show (((0:Nat):Int)-1) = -1 by omega]
    clear hget hfin ho ho6 hlen
    go_wp2_with fail
    exact hp
   | succ i=>
    rw[show (((i+1:Nat):Int)-1)=(i:Int) by omega]
    obtain⟨y,hy,hyn⟩:=hget.out t (by omega)
    rw[show KK-1-t=i by omega] at hyn
    have hi8:i<8:=by omega
    have hpw:(256:Nat) ^ i=2 ^ (8*i):=by rw[Nat.pow_mul]
    rw[hpw] at hyn
    have hsn:E.take (t+1)=E.take t++[y]:=by rw[List.take_add_one,hy];rfl
    have hrow:u8s (l++E.take t)++[(y.toNat:Int)].map (Value.int .u8)=u8s (l++E.take (t+1)):=by rw[hsn,←List.append_assoc,u8s_append (l++E.take t)];rfl
    have hlen':(l++E.take (t+1)).length=m+t+1:=by rw[List.length_append,hl,List.length_take];omega
    have hBr:=hx.size
    have hbb:(m+t+1)*1≤140737488355328:=by omega
    have hrel:∀v w',w'.ownsRow w.heap.size 5 1 v (m+t+1) (u8s (l++E.take t)++[(y.toNat:Int)].map (Value.int .u8))→Ow w.heap.size w' v (l++E.take (t+1)):=fun v w' h=>by unfold Ow;rw[hlen',←hrow];exact h
    clear hget hfin hrow hsn hlen hlen' ho hy
    by_cases ht0:t=0
    ·rw[if_pos ht0] at hyn
     have hik:((i:Int) == (KK:Int)-1)=true:=by simp;omega
     have hyv:((n:Int) / 2 ^ (8*i)+(hb:Int))%256=(y.toNat:Int):=by
      have h1:=y.toNat_lt
      have h2:(n:Int) / 2 ^ (8*i)=((n / 2 ^ (8*i):Nat):Int):=by simp
      rw[h2,hhb.out.symm]
      omega
     clear hyn
     go_wp2_with (
      try simp only[hyv]
      refine wpList_app el8 _ rfl (.tmp 44) (.tmp 46) rfl w.heap.size (.slice A6 (m+t) c6) (m+t) (u8s (l++E.take t)) rfl (own_ext ho6 ((Ext.refl wr).alloc _)) (some ⟨wr.heap.size,0,none⟩) 1 1 ([(y.toNat:Int)].map (Value.int .u8)) rfl (Rd.of_block wr 5 (0,0) rfl) rfl (fun h=>by cases h) (ints8_one _) hbb (by omega) (Nat.le_trans hBr ((Ext.refl wr).alloc _).size) (fun V2 w3 ho3 hg3 hv3=>?_)
      have hr3:=hrel _ _ ho3
      have hx3:=Below.trans hx (grw hBr ho6 ((Ext.refl wr).alloc _) hg3))
     go_roundw
     case rel=>exact⟨t+1,i,by omega,rfl,hr3,hx3⟩
     case measure=>simp[intOf]<;>omega
    ·rw[if_neg ht0] at hyn
     have hik:((i:Int) == (KK:Int)-1)=false:=by simp;omega
     have hyv:(n:Int) / 2 ^ (8*i)%256=(y.toNat:Int):=by
      have h2:(n:Int) / 2 ^ (8*i)=((n / 2 ^ (8*i):Nat):Int):=by simp
      rw[h2]
      omega
     clear hyn
     go_wp2_with (
      try simp only[hyv]
      refine wpList_app el8 _ rfl (.tmp 44) (.tmp 46) rfl w.heap.size (.slice A6 (m+t) c6) (m+t) (u8s (l++E.take t)) rfl (own_ext ho6 ((Ext.refl wr).alloc _)) (some ⟨wr.heap.size,0,none⟩) 1 1 ([(y.toNat:Int)].map (Value.int .u8)) rfl (Rd.of_block wr 5 (0,0) rfl) rfl (fun h=>by cases h) (ints8_one _) hbb (by omega) (Nat.le_trans hBr ((Ext.refl wr).alloc _).size) (fun V2 w3 ho3 hg3 hv3=>?_)
      have hr3:=hrel _ _ ho3
      have hx3:=Below.trans hx (grw hBr ho6 ((Ext.refl wr).alloc _) hg3))
     go_roundw
     case rel=>exact⟨t+1,i,by omega,rfl,hr3,hx3⟩
     case measure=>simp[intOf]<;>omega
 ·simp only[if_neg h]
  have hs0:SZ=0:=by rw[←hSZ.out];exact (size_no n).2 (by omega)
  subst hs0
  clear h hSZ
  go_enter Tryz.func55,Tryz.ntmps55
  go_wp2_with (
   refine wpList_app0 el8 _ rfl (.tmp 11) (.tmp 12) rfl _ _ rfl hlit A m c (u8s l) rfl hr1 hl8 hA.out (by omega) (by omega) hb1 (fun v' w' ho' hx'=>?_)
   have hs1:=hsz.out w'
   clear hlit hr1 hl8 hb1)
  refine hs1.mono ?_
  rintro e w3 ⟨rfl,hw3⟩
  replace hw3:=hw3.symm
  subst hw3
  go_wp2_with fail
  go_ret2
  exact⟨_,rfl,by unfold Ow;rw[hl];exact ho',((Ext.refl w).alloc _).trans hx'⟩
end Go.Proofs.YtbpfabhlngfciaaGreatDoor.Rf
namespace Go.Proofs.YtbpfabhlngfciaaGreatDoor.Rf
open Go.ChangeShapes Go.WideShapes Go.ChangeAt Go.RowKit
open Base Pf
theorem rText_any (A:Option Addr) (m c:Nat) (l:List UInt8) (s:ByteArray) (w:World) (hr:Rb w A l) (hl:l.length=m) (hA:A=none→c=0) (hm:m+s.size≤140737488350000) :
  Calls Tryz.prog 56 #[.slice A m c,.string s] w fun e w'=>∃v',e=.returned v'∧Ow w.heap.size w' v' (l++encT s.data.toList)∧Ext w w':=by
 have hss:s.data.toList.length=s.size:=Array.length_toList
 have hput:=rPut_any A m c l s.size w hr hl hA (by omega) (by omega)
 rw[if_pos (by omega),if_pos (by omega)] at hput
 have henc:encT s.data.toList=encN s.size++s.data.toList:=by unfold encT;rw[hss]
 have hel:(encN s.size).length≤8:=by rcases encN_length s.size with h|h;exact h;omega
 rw[henc,←List.append_assoc]
 obtain⟨E,hE⟩:∃z,Hid (l++encN s.size=z):=⟨_,Lib.hid rfl⟩
 have hEl:E.length≤l.length+8:=by rw[←hE.out,List.length_append];omega
 rw[hE.out] at hput ⊢
 obtain⟨i,hi,hz,hs,hby⟩:=info_parts el8.info
 replace hss:=Lib.hid hss
 have hw64:IntKind.u64.wrap (s.size:Int)=(s.size:Int):=by rw[IntKind.wrap_u64];omega
 clear henc hel
 go_enter Tryz.func56,Tryz.ntmps56
 go_wp2_with fail
 refine hput.mono ?_
 rintro e w2 ⟨v2,rfl,ho2,hg2⟩
 have hB2:=hg2.size
 obtain⟨N2,hN2⟩:∃z,Hid (E.length=z):=⟨_,rfl⟩
 have ho2':w2.ownsRow w.heap.size 5 1 v2 N2 (u8s E):=by rw[←hN2.out];exact ho2
 have hN2b:N2≤l.length+8:=by rw[←hN2.out];exact hEl
 obtain⟨A2,cap2,rfl,jj1,jj2,jj3,jj4⟩:=Rd.of_own ho2'
 clear jj1 jj2 jj3 jj4 hput ho2 hEl
 go_wp2_with (
  refine Lib.wpList_append_own_string _ rfl (.tmp 15) (.tmp 16) 50 9 rfl w.heap.size 5 i el8.under Tryz.underlying9 hi hz hs hby (.slice A2 N2 cap2) N2 (u8s E) rfl ho2' s rfl (by unfold maxLen;omega) (by omega) hB2 (fun V3 w3 ho3 hg3 hv3=>?_))
 go_ret
 refine⟨V3,rfl,?_,Below.trans hg2 (grw hB2 ho2' (Ext.refl _) hg3)⟩
 rw[str_u8s,←u8s_append] at ho3
 unfold Ow
 rw[List.length_append,hss.out,hN2.out]
 exact ho3
end Go.Proofs.YtbpfabhlngfciaaGreatDoor.Rf
namespace Go.Proofs.YtbpfabhlngfciaaGreatDoor.Rk
open Go.ChangeShapes Go.WideShapes Go.ChangeAt Go.RowKit
open Base Pf Cn Pr Lx Mi Ch Rc Rf
theorem rBytes_any (e:Et) (he:EtOk e) (w:World) :
  Calls Tryz.prog 27 #[entV e] w fun en w'=>∃v',en=.returned v'∧Ow w.heap.size w' v' (if canP e=true then bytesP e else [])∧Ext w w':=by
 obtain⟨w1,hw1⟩:∃z,Hid (w.alloc (.cells #[.bool e.pol,.int .i64 e.p,.string e.s,.int .u64 (e.id:Int)] 55)=z):=⟨_,rfl⟩
 obtain⟨q,hq⟩:∃z,Hid (w.heap.size=z):=⟨_,rfl⟩
 have hx1:Ext w w1:=by rw[←hw1.out];exact (Ext.refl w).alloc _
 have hs1:w1.heap.size=q+1:=by rw[←hw1.out,←hq.out];simp
 have hbk1:Blk w1 q #[.bool e.pol,.int .i64 e.p,.string e.s,.int .u64 (e.id:Int)] 55:=by rw[←hw1.out,←hq.out];exact Blk.new w _ _
 have hcan:=rcan_any e he w1
 obtain⟨b,hb⟩:∃z,Hid (canP e=z):=⟨_,Lib.hid rfl⟩
 rw[hb.out] at hcan ⊢
 obtain⟨PO,hPO⟩:∃PO:Ending→World→Prop,Hid ((fun en w'=>∃v',en=.returned v'∧Ow w.heap.size w' v' (if b=true then bytesP e else [])∧Ext w w')=PO):=⟨_,Lib.hid rfl⟩
 rw[hPO.out]
 have hent:∀W,Ext w1 W→∀i,W.cell? ⟨q,i,none⟩ = #[Value.bool e.pol,.int .i64 e.p,.string e.s,.int .u64 (e.id:Int)][i]?:=fun W hW i=>(hbk1.ext hW).cell i
 replace hent:=Lib.hid hent
 cases b with
 | false=>
  have hp:∀v' w',Ow w.heap.size w' v' []→Ext w w'→PO (.returned v') w':=fun v' w' q1 q2=>by rw[←hPO.out];exact⟨v',rfl,by rw[if_neg (by decide)];exact q1,q2⟩
  unfold entV at *
  go_enter Tryz.func27,Tryz.ntmps27
  go_wp2_with fail
  rw[hw1.out]
  refine hcan.mono ?_
  rintro en w2 ⟨rfl,hx2⟩
  have hx02:=hx1.trans hx2
  have hf:=hp _ _ (World.ownsRow_lit w2 #[] 0 hx02.size (Nat.zero_le _) rfl) (hx02.alloc _)
  clear hcan hp
  go_wp2_with fail
  first|exact hf|(go_ret;exact hf)
 | true=>
  have hp:∀v' w',Ow w.heap.size w' v' (bytesP e)→Ext w w'→PO (.returned v') w':=fun v' w' q1 q2=>by rw[←hPO.out];exact⟨v',rfl,by rw[if_pos rfl];exact q1,q2⟩
  clear hPO
  by_cases hpol:e.pol=true
  ·obtain⟨h1,h2,h3,h4⟩:=can_pol hpol hb.out
   have hby:bytesP e=[UInt8.ofNat (e.p.toNat+1)]:=by unfold bytesP;rw[if_pos hpol]
   rw[hby] at hp
   obtain⟨pol,p,s,id⟩:=e
   unfold entV at *
   simp only at *
   subst hpol
   subst h3
   subst h4
   rw[show ((0:Nat):Int)=0 from rfl] at hw1
   obtain⟨k,rfl⟩:∃k:Nat,p=k:=⟨p.toNat,by omega⟩
   have hu:u8s [UInt8.ofNat ((k:Int).toNat+1)]=[.int .u8 ((k:Int)+1)]:=by
    simp only[u8s,List.map_cons,List.map_nil,Int.toNat_natCast]
    rw[UInt8.toNat_ofNat_of_lt' (by show _<256;omega)]
    simp
   have hw8:IntKind.u8.wrap (k:Int)=(k:Int):=by
    have:IntKind.u8.wrap (k:Int)=(k:Int)%256:=by rfl
    rw[this];omega
   have hw9:IntKind.u8.wrap ((k:Int)+1)=(k:Int)+1:=by
    have:IntKind.u8.wrap ((k:Int)+1)=((k:Int)+1)%256:=by rfl
    rw[this];omega
   go_enter Tryz.func27,Tryz.ntmps27
   go_wp2_with fail
   rw[hw1.out,hq.out]
   refine hcan.mono ?_
   rintro en w2 ⟨rfl,hx2⟩
   have hx02:=hx1.trans hx2
   have k0:w2.cell? ⟨q,0,none⟩=some (.bool true):=hent.out w2 hx2 0
   have k1:w2.cell? ⟨q,1,none⟩=some (.int .i64 (k:Int)):=hent.out w2 hx2 1
   have hf:=hp (.slice (some ⟨w2.heap.size,0,none⟩) 1 1) (w2.alloc (.cells #[.int .u8 ((k:Int)+1)] 5)) (by unfold Ow;rw[hu];exact World.ownsRow_lit w2 #[.int .u8 ((k:Int)+1)] 1 hx02.size (by decide) rfl) (hx02.alloc _)
   clear hcan hp hent hw1
   go_wp2_with fail
   first|exact hf|(go_ret;exact hf)
  ·obtain⟨h1,h2,h3,h4⟩:=can_txt hpol hb.out
   have hsz:=isP_size h4
   have hby:bytesP e=([0]++encN e.id)++encT (bs e.s):=by unfold bytesP;rw[if_neg hpol];simp
   have hel:(encN e.id).length≤8:=by rcases encN_length e.id with h|h;exact h;omega
   rw[hby] at hp
   have hpol':e.pol=false:=by simpa using hpol
   obtain⟨pol,p,s,id⟩:=e
   unfold entV at *
   simp only at *
   subst hpol'
   subst h1
   obtain⟨E,hE⟩:∃z,Hid ([0]++encN id=z):=⟨_,Lib.hid rfl⟩
   have hEl:E.length≤9:=by rw[←hE.out,List.length_append];simp only[List.length_cons,List.length_nil];omega
   rw[hE.out] at hp
   go_enter Tryz.func27,Tryz.ntmps27
   go_wp2_with fail
   rw[hw1.out,hq.out]
   refine hcan.mono ?_
   rintro en w2 ⟨rfl,hx2⟩
   have hx02:=hx1.trans hx2
   have k0:w2.cell? ⟨q,0,none⟩=some (.bool false):=hent.out w2 hx2 0
   obtain⟨w3,hw3⟩:∃z,Hid (w2.alloc (.cells #[.int .u8 0] 5)=z):=⟨_,rfl⟩
   have hx3:Ext w2 w3:=by rw[←hw3.out];exact (Ext.refl w2).alloc _
   have k3:w3.cell? ⟨q,3,none⟩=some (.int .u64 (id:Int)):=hent.out w3 (hx2.trans hx3) 3
   rw[←hw3.out] at k3
   have hput:=rPut_any (some ⟨w2.heap.size,0,none⟩) 1 1 [0] id w3 (by rw[←hw3.out];exact Rd.of_block w2 5 (0,0) rfl) rfl (fun h=>by cases h) (by omega) (by omega)
   rw[if_pos (by omega),if_pos (by omega),hE.out] at hput
   clear hcan hbk1 hw1
   go_wp2_with fail
   rw[hw3.out]
   refine hput.mono ?_
   rintro en w5 ⟨v5,rfl,ho5,hX5⟩
   have hx25:=hx3.trans hX5
   obtain⟨A7,c7,rfl,jj1,jj2,jj3,jj4⟩:=Rd.of_own ho5
   have hA7:A7=none→c7=0:=own_none ho5
   have htx:=rText_any A7 E.length c7 E s w5 jj3 rfl hA7 (by omega)
   have z2:w5.cell? ⟨q,2,none⟩=some (.string s):=hent.out w5 (hx2.trans hx25) 2
   obtain⟨NE,hNE⟩:∃z,Hid (E.length=z):=⟨_,rfl⟩
   rw[hNE.out] at htx ⊢
   have hx05:=hx02.trans hx25
   clear hput jj1 jj2 jj3 jj4 hA7 ho5 k0 k3
   go_wp2_with fail
   refine htx.mono ?_
   rintro en w6 ⟨v6,rfl,ho6,hX6⟩
   have hf:=hp v6 w6 (own_base ho6 hx05.size) (hx05.trans hX6)
   clear hp htx
   go_wp2_with fail
   first|exact hf|(go_ret;exact hf)
end Go.Proofs.YtbpfabhlngfciaaGreatDoor.Rk
namespace Go.Proofs.YtbpfabhlngfciaaGreatDoor.ShaW
open Go.ChangeShapes Go.WideShapes Go.ChangeAt Go.RowKit
open ShaP Base Piece
set_option maxRecDepth 1000000 in
theorem lay315 {v0 v1 v2 v3 v4 v5 v6 v7 v8 v9 v10 v11 v12 v13 v14 v15 v16 v17 v18 v19 v20 v21:Value} {a:Act} (h:Piece.Fr 315 [v0,v1,v2,v3,v4,v5,v6,v7,v8,v9,v10,v11,v12,v13,v14,v15,v16,v17,v18,v19,v20,v21] a):∃u:Nat→Value,a=⟨(v0::v1::v2::v3::v4::v5::v6::v7::v8::v9::v10::v11::v12::v13::v14::v15::v16::v17::v18::v19::v20::v21::u 22::u 23::u 24::u 25::u 26::u 27::u 28::u 29::u 30::u 31::u 32::u 33::u 34::u 35::u 36::u 37::u 38::u 39::u 40::u 41::u 42::u 43::u 44::u 45::u 46::u 47::u 48::u 49::u 50::u 51::u 52::u 53::u 54::u 55::u 56::u 57::u 58::u 59::u 60::u 61::u 62::u 63::u 64::u 65::u 66::u 67::u 68::u 69::u 70::u 71::u 72::u 73::u 74::u 75::u 76::u 77::u 78::u 79::u 80::u 81::u 82::u 83::u 84::u 85::u 86::u 87::u 88::u 89::u 90::u 91::u 92::u 93::u 94::u 95::u 96::u 97::u 98::u 99::u 100::u 101::u 102::u 103::u 104::u 105::u 106::u 107::u 108::u 109::u 110::u 111::u 112::u 113::u 114::u 115::u 116::u 117::u 118::u 119::u 120::u 121::u 122::u 123::u 124::u 125::u 126::u 127::u 128::u 129::u 130::u 131::u 132::u 133::u 134::u 135::u 136::u 137::u 138::u 139::u 140::u 141::u 142::u 143::u 144::u 145::u 146::u 147::u 148::u 149::u 150::u 151::u 152::u 153::u 154::u 155::u 156::u 157::u 158::u 159::u 160::u 161::u 162::u 163::u 164::u 165::u 166::u 167::u 168::u 169::u 170::u 171::u 172::u 173::u 174::u 175::u 176::u 177::u 178::u 179::u 180::u 181::u 182::u 183::u 184::u 185::u 186::u 187::u 188::u 189::u 190::u 191::u 192::u 193::u 194::u 195::u 196::u 197::u 198::u 199::u 200::u 201::u 202::u 203::u 204::u 205::u 206::u 207::u 208::u 209::u 210::u 211::u 212::u 213::u 214::u 215::u 216::u 217::u 218::u 219::u 220::u 221::u 222::u 223::u 224::u 225::u 226::u 227::u 228::u 229::u 230::u 231::u 232::u 233::u 234::u 235::u 236::u 237::u 238::u 239::u 240::u 241::u 242::u 243::u 244::u 245::u 246::u 247::u 248::u 249::u 250::u 251::u 252::u 253::u 254::u 255::u 256::u 257::u 258::u 259::u 260::u 261::u 262::u 263::u 264::u 265::u 266::u 267::u 268::u 269::u 270::u 271::u 272::u 273::u 274::u 275::u 276::u 277::u 278::u 279::u 280::u 281::u 282::u 283::u 284::u 285::u 286::u 287::u 288::u 289::u 290::u 291::u 292::u 293::u 294::u 295::u 296::u 297::u 298::u 299::u 300::u 301::u 302::u 303::u 304::u 305::u 306::u 307::u 308::u 309::u 310::u 311::u 312::u 313::u 314::[]).toArray,[]⟩:=by
 obtain⟨u,hu⟩:=h.spread
 refine⟨u,hu.trans ?_⟩
 kernel_rfl
noncomputable def refBody (n:Nat):Code:=loopBody n Tryz.f39.body
theorem el_u32:El Tryz.prog 99 102 (.int .u32 0) 1 4:=⟨by kernel_rfl,by kernel_rfl,rfl,by omega⟩
theorem words_any (w:World):Calls Tryz.prog 65 #[] w fun e w'=>e=.returned (.slice (some ⟨w.heap.size,0,none⟩) 8 8)∧Blk w' w.heap.size (us first).toArray 102∧Ext w w':=by
 have hb:Blk (w.alloc (.cells (us first).toArray 102)) w.heap.size (us first).toArray 102:=Blk.new _ _ _
 have hx:=(Ext.refl w).alloc (.cells (us first).toArray 102)
 go_enter Tryz.func65,Tryz.ntmps65
 go_wp2_with fail
 go_ret
 exact⟨rfl,hb,hx⟩
theorem roots_any (w:World):Calls Tryz.prog 66 #[] w fun e w'=>e=.returned (.slice (some ⟨w.heap.size,0,none⟩) 64 64)∧Rd w' (some ⟨w.heap.size,0,none⟩) (us roots)∧Ext w w':=by
 have hb:Rd (w.alloc (.cells (us roots).toArray 102)) (some ⟨w.heap.size,0,none⟩) (us roots):=Rd.of_block _ _ _ rfl
 have hx:=(Ext.refl w).alloc (.cells (us roots).toArray 102)
 go_enter Tryz.func66,Tryz.ntmps66
 go_wp2_with fail
 go_ret
 exact⟨rfl,hb,hx⟩
theorem at8_take (L:List UInt8) (i:Nat) (h:i<L.length):L[i]=at8 L i:=by simp[at8,List.getD,List.getElem?_eq_getElem h]
theorem be_sum (a b c d:UInt8):(a.toNat:Int)*16777216+(b.toNat:Int)*65536+(c.toNat:Int)*256+(d.toNat:Int)=U (be a b c d):=by
 have ha:=a.toNat_lt;have hb:=b.toNat_lt;have hc:=c.toNat_lt;have hd:=d.toNat_lt
 unfold U be
 rw[BitVec.toNat_ofNat,Nat.mod_eq_of_lt (by omega)]
 omega
theorem be_wrap (a b c d:UInt8):IntKind.u32.wrap (IntKind.u32.wrap (IntKind.u32.wrap (IntKind.u32.wrap (IntKind.u32.wrap (a.toNat:Int)*16777216)+IntKind.u32.wrap (IntKind.u32.wrap (b.toNat:Int)*65536))+IntKind.u32.wrap (IntKind.u32.wrap (c.toNat:Int)*256))+IntKind.u32.wrap (d.toNat:Int))=U (be a b c d):=by
 rw[←be_sum]
 have ha:=a.toNat_lt;have hb:=b.toNat_lt;have hc:=c.toNat_lt;have hd:=d.toNat_lt
 simp only[IntKind.wrap_u32]
 omega
set_option maxRecDepth 1000000 in
set_option maxHeartbeats 4000000 in
theorem loop0 {Q:Exit→Act→World→Prop} (v0 v1 v2 v3 v4 v6 v7 v8 v9 v10 v11 v12 v13 v14 v15 v16 v17 v18 v19 v20 v21:Value) (a:Act) (wb wa:World) (A1:Option Addr) (c1 nb:Nat) (T:List UInt8)
  (hnb:nb≤40000) (hT:T.length=nb+1)
  (hF:Fr 315 [v0,v1,v2,v3,v4,.slice A1 (nb+1) c1,v6,v7,v8,v9,v10,v11,v12,v13,v14,v15,v16,v17,v18,v19,v20,v21] a) (hx:Ext wb wa) (ho:OwnS wa (.slice A1 (nb+1) c1) (u8s T)) (hb:∀k,(Value.slice A1 (nb+1) c1).ownBlock=some k→wb.heap.size≤k)
  (hQ:∀a' w' A1 c1,Fr 315 [v0,v1,v2,v3,v4,.slice A1 (nb+1+noughts nb) c1,v6,v7,v8,v9,v10,v11,v12,v13,v14,v15,v16,v17,v18,v19,v20,v21] a'→OwnS w' (.slice A1 (nb+1+noughts nb) c1) (u8s (T++List.replicate (noughts nb) 0))→(∀k,(Value.slice A1 (nb+1+noughts nb) c1).ownBlock=some k→wb.heap.size≤k)→Ext wb w'→Q (.exit 0) a' w') :
  (Code.loop (refBody 0)).wp Tryz.prog Q a wa:=by
 obtain⟨N,hN⟩:∃N,Held (noughts nb=N):=⟨_,⟨rfl⟩⟩
 have hN2:N=(119-nb%64)%64:=by rw[←hN.out,noughts]
 rw[hN.out] at hQ
 refine wp_loop (fun a wv=>∃(k:Nat) (A1:Option Addr) (c1:Nat),k≤N∧Fr 315 [v0,v1,v2,v3,v4,.slice A1 (nb+1+k) c1,v6,v7,v8,v9,v10,v11,v12,v13,v14,v15,v16,v17,v18,v19,v20,v21] a∧OwnS wv (.slice A1 (nb+1+k) c1) (u8s (T++List.replicate k 0))∧(∀j,(Value.slice A1 (nb+1+k) c1).ownBlock=some j→wb.heap.size≤j)∧Ext wb wv) (fun a _=>50000-lenOf (a.tmps.getD 5 undef)) ⟨0,A1,c1,by omega,hF,by simpa using ho,hb,hx⟩ ?_
 clear hF ho hb hx a wa c1 A1
 rintro a w ⟨k,A1,c1,hk,hF,ho,hb,hx⟩
 obtain⟨u,rfl⟩:=lay315 hF
 clear hF
 conv=>arg 2;whnf
 obtain⟨n,hn⟩:∃n,Held (nb+1+k=n):=⟨_,⟨rfl⟩⟩
 rw[hn.out] at ho hb ⊢
 have hn5:n≤40200:=by have:=hn.out;omega
 by_cases hc:n%64=56
 ·have hci:(n:Int)%64=56:=by omega
  obtain rfl:k=N:=by have:=hn.out;omega
  rw[hn.out] at hQ
  go_wp2_with fail
  exact hQ _ _ A1 c1 ⟨_,rfl,rfl⟩ ho hb hx
 ·clear hQ
  have hci:¬(n:Int)%64=56:=by omega
  have hkN:k<N:=by have:=hn.out;omega
  obtain⟨T1,hT1⟩:∃T1,Held (T++List.replicate k 0=T1):=⟨_,⟨rfl⟩⟩
  have hT1n:T1.length=n:=by rw[←hT1.out,List.length_append,List.length_replicate,hT,hn.out]
  have hT2:T++List.replicate (k+1) 0=T1++[0]:=by rw[List.replicate_succ',←List.append_assoc,hT1.out]
  rw[hT1.out] at ho
  clear hT1
  have hsx:=hx.size
  go_wp2_with (
   refine wpList_oapp el_u8 _ rfl (.tmp 33) (.tmp 34) rfl (.slice A1 n c1) (u8s T1) rfl (ho.ext ((Ext.refl w).alloc _)) (u8s_one _) (some ⟨w.heap.size,0,none⟩) 1 1 (u8s [0]) rfl (Rd.of_block w 5 (0,0) rfl) rfl (fun h=>by cases h) (u8s_one _) (by rw[u8s_length];omega) (by omega) (fun V1 w2 ho1 hgr1 hv1=>?_)
   have hx1:Ext wb w2:=(hx.alloc _).then_grown hgr1 hb
   have hb1:=own_ge hv1 hb (by simp;omega)
   clear hgr1 hv1
   obtain⟨A2,c2',rfl,_⟩:=ho1.rd
   rw[←u8s_append,←hT2,show (u8s (T++List.replicate (k+1) 0)).length=nb+1+(k+1) by rw[u8s_length,List.length_append,List.length_replicate,hT]] at ho1
   rw[←u8s_append,show (u8s (T1++[0])).length=nb+1+(k+1) by rw[u8s_length,List.length_append,hT1n,←hn.out];rfl] at hb1 ⊢)
  refine⟨⟨k+1,A2,c2',by omega,⟨_,rfl,rfl⟩,ho1,hb1,hx1⟩,?_⟩
  have:=hn.out
  simp[lenOf]
  omega
set_option maxRecDepth 1000000 in
set_option maxHeartbeats 4000000 in
theorem loop2 {Q:Exit→Act→World→Prop} (v1 v2 v3 v4 v7 v8 v9 v10 v11 v12 v13 v14 v15 v16 v17 v18 v19 v20 v21:Value) (a:Act) (wb wa:World) (A0 A1:Option Addr) (c0 c1 nb n:Nat) (T:List UInt8)
  (hnb:nb≤40000) (hT:T.length=n) (hn5:n≤40200)
  (hF:Fr 315 [.slice A0 nb c0,v1,v2,v3,v4,.slice A1 n c1,.int .i64 7,v7,v8,v9,v10,v11,v12,v13,v14,v15,v16,v17,v18,v19,v20,v21] a) (hx:Ext wb wa) (ho:OwnS wa (.slice A1 n c1) (u8s T)) (hb:∀k,(Value.slice A1 n c1).ownBlock=some k→wb.heap.size≤k)
  (hQ:∀a' w' A1 c1 x6,Fr 315 [.slice A0 nb c0,v1,v2,v3,v4,.slice A1 (n+8) c1,x6,v7,v8,v9,v10,v11,v12,v13,v14,v15,v16,v17,v18,v19,v20,v21] a'→OwnS w' (.slice A1 (n+8) c1) (u8s (T++be8 (nb*8)))→(∀k,(Value.slice A1 (n+8) c1).ownBlock=some k→wb.heap.size≤k)→Ext wb w'→Q (.exit 2) a' w') :
  (Code.loop (refBody 2)).wp Tryz.prog Q a wa:=by
 refine wp_loop (fun a wv=>∃(j:Nat) (A1:Option Addr) (c1:Nat),j≤8∧Fr 315 [.slice A0 nb c0,v1,v2,v3,v4,.slice A1 (n+j) c1,.int .i64 (7-(j:Int)),v7,v8,v9,v10,v11,v12,v13,v14,v15,v16,v17,v18,v19,v20,v21] a∧OwnS wv (.slice A1 (n+j) c1) (u8s (T++(be8 (nb*8)).take j))∧(∀k,(Value.slice A1 (n+j) c1).ownBlock=some k→wb.heap.size≤k)∧Ext wb wv) (fun a _=>(intOf (a.tmps.getD 6 undef)+1).toNat) ⟨0,A1,c1,by omega,by simpa using hF,by simpa using ho,hb,hx⟩ ?_
 clear hF ho hb hx a wa c1 A1
 rintro a w ⟨j,A1,c1,hj,hF,ho,hb,hx⟩
 obtain⟨u,rfl⟩:=lay315 hF
 clear hF
 conv=>arg 2;whnf
 by_cases hj8:j<8
 ·clear hQ
  obtain⟨S,hSd⟩:∃S:Nat,Held ((8:Int)*(7-(j:Int))=(S:Int)):=⟨56-8*j,⟨by omega⟩⟩
  obtain⟨z,hz⟩:∃z:Int,Held (7-(j:Int)=z):=⟨_,⟨rfl⟩⟩
  have hSj:S+8*j=56:=by have:=hSd.out;omega
  have hz0:0≤z:=by have:=hz.out;omega
  have hz7:z≤7:=by have:=hz.out;omega
  have hzS:IntKind.i64.wrap (8*z)=(S:Int):=by have:=hSd.out;have:=hz.out;rw[IntKind.wrap_i64];omega
  have hzS':wrap64 (8*z)=(S:Int):=by have:=hSd.out;have:=hz.out;unfold wrap64;omega
  have hzS2:8*z=(S:Int):=by have:=hSd.out;have:=hz.out;omega
  obtain⟨bb,hbb⟩:∃x,Held (UInt8.ofNat (nb*8 / 2 ^ S)=x):=⟨_,⟨rfl⟩⟩
  have hbyte:(nb:Int)*8 / 2 ^ S%256=(bb.toNat:Int):=by
   have h:=byte_at nb j hj8 S hSj
   rw[Nat.mod_eq_of_lt (by omega),IntKind.wrap_u64,Int.emod_eq_of_lt (by omega) (by omega),IntKind.wrap_u8] at h
   rw[h,hbb.out]
  have hT2:T++(be8 (nb*8)).take (j+1)=T++(be8 (nb*8)).take j++[bb]:=by rw[be8_take _ j hj8 S hSj,List.append_assoc,hbb.out]
  obtain⟨n2,hn2⟩:∃x,Held (n+j=x):=⟨_,⟨rfl⟩⟩
  obtain⟨T1,hT1⟩:∃x,Held (T++(be8 (nb*8)).take j=x):=⟨_,⟨rfl⟩⟩
  have hT1n:T1.length=n2:=by rw[←hT1.out,List.length_append,List.length_take,hT,←hn2.out];simp[be8];omega
  have hT2n:(T++(be8 (nb*8)).take (j+1)).length=n+(j+1):=by rw[List.length_append,List.length_take,hT];simp[be8];omega
  rw[hT1.out] at ho hT2
  rw[hn2.out] at ho hb
  have hn2s:n2≤40300:=by have:=hn2.out;omega
  have hzj:Held (z-1=7-((j+1:Nat):Int)):=⟨by have:=hz.out;omega⟩
  have hsx:=hx.size
  rw[hn2.out,hz.out]
  clear hT1 hbb hSd
  go_wp2_with (
   refine wpList_oapp el_u8 _ rfl (.tmp 40) (.tmp 50) rfl (.slice A1 n2 c1) (u8s T1) rfl (ho.ext ((Ext.refl w).alloc _)) (u8s_one _) (some ⟨w.heap.size,0,none⟩) 1 1 (u8s [bb]) rfl (Rd.of_block w 5 (0,0) rfl) rfl (fun h=>by cases h) (u8s_one _) (by rw[u8s_length];omega) (by omega) (fun V1 w2 ho1 hgr1 hv1=>?_)
   have hx1:Ext wb w2:=(hx.alloc _).then_grown hgr1 hb
   have hb1:=own_ge hv1 hb (by simp;omega)
   clear hgr1 hv1
   obtain⟨A2,c2',rfl,_⟩:=ho1.rd
   rw[←u8s_append,←hT2,show (u8s (T++(be8 (nb*8)).take (j+1))).length=n+(j+1) by rw[u8s_length,hT2n]] at ho1
   rw[←u8s_append,←hT2,show (u8s (T++(be8 (nb*8)).take (j+1))).length=n+(j+1) by rw[u8s_length,hT2n]] at hb1 ⊢)
  rw[hzj.out]
  refine⟨⟨j+1,A2,c2',by omega,⟨_,rfl,rfl⟩,ho1,hb1,hx1⟩,?_⟩
  have:=hz.out
  simp[intOf]
  omega
 ·obtain rfl:j=8:=by omega
  clear hj8
  go_wp2_with fail
  exact hQ _ _ A1 c1 _ ⟨_,rfl,rfl⟩ ho hb hx
set_option maxRecDepth 1000000 in
set_option maxHeartbeats 4000000 in
theorem loop14 {Q:Exit→Act→World→Prop} (v0 v1 v2 v4 v5 v6 v7 v8 v9 v10 v11 v12 v13 v14 v15 v16 v17 v18 v19:Value) (a:Act) (wb wa:World) (G O:Nat) (s:ShaP.St)
  (hF:Fr 315 [v0,v1,v2,.slice (some ⟨G,0,none⟩) 8 8,v4,v5,v6,v7,v8,v9,v10,v11,v12,v13,v14,v15,v16,v17,v18,v19,.pointer (some ⟨O,0,none⟩),.int .i64 0] a) (hx:Ext wb wa) (hG:Blk wa G (us s.list).toArray 102) (hO:Blk wa O (otab s 0) 23) (hGO:G≠O) (hbO:wb.heap.size≤O)
  (hQ:∀a' w',Fr 315 [v0,v1,v2,.slice (some ⟨G,0,none⟩) 8 8,v4,v5,v6,v7,v8,v9,v10,v11,v12,v13,v14,v15,v16,v17,v18,v19,.pointer (some ⟨O,0,none⟩),.int .i64 32] a'→Blk w' O (otab s 32) 23→Ext wb w'→Q (.exit 14) a' w') :
  (Code.loop (refBody 14)).wp Tryz.prog Q a wa:=by
 refine wp_loop (fun a wv=>∃i:Nat,i≤32∧Fr 315 [v0,v1,v2,.slice (some ⟨G,0,none⟩) 8 8,v4,v5,v6,v7,v8,v9,v10,v11,v12,v13,v14,v15,v16,v17,v18,v19,.pointer (some ⟨O,0,none⟩),.int .i64 i] a∧Blk wv G (us s.list).toArray 102∧Blk wv O (otab s i) 23∧Ext wb wv) (fun a _=>(32-intOf (a.tmps.getD 21 undef)).toNat) ⟨0,by omega,hF,hG,hO,hx⟩ ?_
 clear hF hx hG hO a wa
 rintro a w ⟨i,hi,hF,hG,hO,hx⟩
 obtain⟨u,rfl⟩:=lay315 hF
 clear hF
 conv=>arg 2;whnf
 by_cases hi32:i<32
 ·clear hQ
  obtain⟨q,hq⟩:∃q:Nat,Held (i / 4=q):=⟨_,⟨rfl⟩⟩
  obtain⟨r,hr⟩:∃r:Nat,Held (i%4=r):=⟨_,⟨rfl⟩⟩
  have hq':(i:Int) / 4=(q:Int):=by have:=hq.out;omega
  have hr':(i:Int)%4=(r:Int):=by have:=hr.out;omega
  have hq8:(q:Int)<8:=by have:=hq.out;omega
  have hi':(i:Int)<32:=by omega
  have e3:w.cell? ⟨G,q,none⟩=some (.int .u32 (U (at32 s.list q))):=by rw[hG.cell q,List.getElem?_toArray];exact us_at _ _ (by show q<8;omega)
  obtain⟨S,hS⟩:∃S:Nat,Held (24-8*(r:Int)=(S:Int)):=⟨24-8*r,⟨by have:=hr.out;omega⟩⟩
  have hS':(24:Int)-8*(r:Int)=(S:Int):=hS.out
  have hS0:¬(S:Int)<0:=by omega
  have hS32:S+8*r=24:=by omega
  have eO:w.cell? ⟨O,i,none⟩=some ((otab s i)[i]'(by rw[otab_size s i hi];exact hi32)):=(hO.cell i).trans (Array.getElem?_eq_getElem _)
  have fO:=hO.frozen i
  have hby:=out_at s i q r S hi32 hq.out hr.out hS32
  go_wp2_with fail
  have hq2:=hO.set i (.int .u8 ((at8 (out s) i).toNat:Int))
  rw[otab_set s i hi32] at hq2
  refine⟨⟨i+1,by omega,⟨_,rfl,rfl⟩,hG.far (by show G≠O;exact hGO) _,hq2,hx.setCell (by show _≤O;omega) _⟩,?_⟩
  simp[intOf]
  omega
 ·obtain rfl:i=32:=by omega
  clear hi32
  go_wp2_with fail
  exact hQ _ _ ⟨_,rfl,rfl⟩ hO hx
set_option maxRecDepth 1000000 in
set_option maxHeartbeats 4000000 in
theorem loop6 {Q:Exit→Act→World→Prop} (v0 v1 v2 v3 v4 v6 v10 v11 v12 v13 v14 v15 v16 v17 v18 v19 v20 v21:Value) (a:Act) (w wa:World) (A A8:Option Addr) (mm cm at_ c8:Nat) (L ch:List UInt8)
  (hr:Rb w A L) (hl:L.length=mm) (hmc:mm≤cm) (hat:at_+64≤mm) (hmm:mm≤50000) (hch:∀i,i<64→at8 L (at_+i)=at8 ch i)
  (hF:Fr 315 [v0,v1,v2,v3,v4,.slice A mm cm,v6,.int .i64 at_,.slice A8 0 c8,.int .i64 0,v10,v11,v12,v13,v14,v15,v16,v17,v18,v19,v20,v21] a) (hx:Ext w wa) (ho:OwnS wa (.slice A8 0 c8) []) (hb:∀k,(Value.slice A8 0 c8).ownBlock=some k→w.heap.size≤k)
  (hP:∀c a a2 w,Q (.panic c) a w→Q (.panic c) a2 w)
  (hQ:∀a' w' A1 c1 x10,Fr 315 [v0,v1,v2,v3,v4,.slice A mm cm,v6,.int .i64 at_,.slice A1 16 c1,.int .i64 16,x10,v11,v12,v13,v14,v15,v16,v17,v18,v19,v20,v21] a'→OwnS w' (.slice A1 16 c1) (us (sch ch 16))→(∀k,(Value.slice A1 16 c1).ownBlock=some k→w.heap.size≤k)→Ext w w'→Q (.exit 6) a' w') :
  (Code.loop (refBody 6)).wp Tryz.prog Q a wa:=by
 refine wp_loop (fun a wv=>∃(n:Nat) (A1:Option Addr) (c1:Nat) (x10:Value),n≤16∧Fr 315 [v0,v1,v2,v3,v4,.slice A mm cm,v6,.int .i64 at_,.slice A1 n c1,.int .i64 n,x10,v11,v12,v13,v14,v15,v16,v17,v18,v19,v20,v21] a∧OwnS wv (.slice A1 n c1) (us (sch ch n))∧(∀k,(Value.slice A1 n c1).ownBlock=some k→w.heap.size≤k)∧Ext w wv) (fun a _=>(16-intOf (a.tmps.getD 9 undef)).toNat) ⟨0,A8,c8,v10,by omega,hF,ho,hb,hx⟩ ?_
 obtain⟨b,off,rfl⟩:=hr.some_ (by omega)
 clear hF ho hb hx a wa
 rintro a wr ⟨n,A1,c1,x10,hn,hF,ho,hb,hx⟩
 obtain⟨u,rfl⟩:=lay315 hF
 clear hF
 conv=>arg 2;whnf
 by_cases hlt:n<16
 ·clear hQ
  have hlt':(n:Int)<16:=by omega
  have hbytes:∀j,j<4→∀W,Ext w W→W.cell? ⟨b,off+(at_+4*n)+j,none⟩=some (.int .u8 ((at8 ch (4*n+j)).toNat:Int)):=fun j hj W hW=>by
   obtain⟨b',off',e,hc⟩:=(hr.ext hW).at_ (k:=at_+(4*n+j)) (by omega)
   simp only[Option.some.injEq,Addr.mk.injEq,and_true] at e
   obtain⟨rfl,rfl⟩:=e
   rw[show off+(at_+4*n)+j=off+(at_+(4*n+j)) by omega,hc,at8_take,hch _ (by omega)]
  have hword:sch ch (n+1)=sch ch n++[be (at8 ch (4*n+0)) (at8 ch (4*n+1)) (at8 ch (4*n+2)) (at8 ch (4*n+3))]:=by rw[sch,if_pos hlt];rfl
  have hlen:(us (sch ch n)).length=n:=by rw[us_length,sch_length]
  go_wp2_with fail
  rw[show at_+4*n+4-(at_+4*n)=4 by omega]
  generalize cm-(at_+4*n)=cr
  obtain⟨o,hod⟩:∃o,Hid (off+(at_+4*n)=o):=⟨_,rfl⟩
  rw[hod.out] at hbytes ⊢
  refine Reg.startX (R:=Go.RowKit.Below w.heap.size) (by kernel_rfl) ?_
  generalize hwq:World.drew _=wq
  have hxq:Ext w wq:=by rw[←hwq];exact hx.drew
  have hoq:OwnS wq (.slice A1 n c1) (us (sch ch n)):=by rw[←hwq];exact ho.ext ((Ext.refl wr).drew)
  clear hwq hx ho wr
  have hsq:=hxq.size
  have c0:∀W,Go.RowKit.Below w.heap.size wq W→W.cell? ⟨b,o,none⟩=_:=fun W hW=>hbytes 0 (by omega) W (Go.RowKit.Below.trans hxq hW)
  have c1':∀W,Go.RowKit.Below w.heap.size wq W→W.cell? ⟨b,o+1,none⟩=_:=fun W hW=>hbytes 1 (by omega) W (Go.RowKit.Below.trans hxq hW)
  have c2:∀W,Go.RowKit.Below w.heap.size wq W→W.cell? ⟨b,o+2,none⟩=_:=fun W hW=>hbytes 2 (by omega) W (Go.RowKit.Below.trans hxq hW)
  have c3:∀W,Go.RowKit.Below w.heap.size wq W→W.cell? ⟨b,o+3,none⟩=_:=fun W hW=>hbytes 3 (by omega) W (Go.RowKit.Below.trans hxq hW)
  clear hbytes hod
  generalize at8 ch (4*n+0)=x0 at c0 hword
  generalize at8 ch (4*n+1)=x1 at c1' hword
  generalize at8 ch (4*n+2)=x2 at c2 hword
  generalize at8 ch (4*n+3)=x3 at c3 hword
  have y0:=x0.toNat_lt;have y1:=x1.toNat_lt;have y2:=x2.toNat_lt;have y3:=x3.toNat_lt
  have hsum:=be_wrap x0 x1 x2 x3
  generalize be x0 x1 x2 x3=X at hword hsum
  generalize hS:sch ch n=S at hoq hlen hword
  clear hS
  have hlen':S.length=n:=by rwa [us_length] at hlen
  iterate 3 ((first|refine Reg.un (Reg.rl_below _) ?_|refine Reg.vn (Reg.rl_below _) ?_);(try simp only[Reg.nn]))
  refine Reg.tx (Reg.rl_below _) 3 ?_;(try simp only[Reg.nn])
  refine Reg.tx (Reg.rl_below _) 4 ?_;(try simp only[Reg.nn])
  iterate 3 ((first|refine Reg.un (Reg.rl_below _) ?_|refine Reg.vn (Reg.rl_below _) ?_);(try simp only[Reg.nn]))
  refine Reg.tx (Reg.rl_below _) 8 ?_;(try simp only[Reg.nn])
  refine Reg.tx (Reg.rl_below _) 9 ?_;(try simp only[Reg.nn])
  iterate 4 ((first|refine Reg.un (Reg.rl_below _) ?_|refine Reg.vn (Reg.rl_below _) ?_);(try simp only[Reg.nn]))
  refine Reg.tx (Reg.rl_below _) 14 ?_;(try simp only[Reg.nn])
  refine Reg.tx (Reg.rl_below _) 15 ?_;(try simp only[Reg.nn])
  iterate 4 ((first|refine Reg.un (Reg.rl_below _) ?_|refine Reg.vn (Reg.rl_below _) ?_);(try simp only[Reg.nn]))
  refine Reg.tx (Reg.rl_below _) 20 ?_;(try simp only[Reg.nn])
  refine Reg.tx (Reg.rl_below _) 21 ?_;(try simp only[Reg.nn])
  refine Reg.tx (Reg.rl_below _) 22 ?_;(try simp only[Reg.nn])
  refine Reg.onlyX 23 _ rfl (by kernel_rfl) (by decide) (by rfl) (fun K hK=>?_);go_simp
  refine hK.out _ _ (Go.RowKit.Below.alloc (Go.RowKit.Below.refl _ _) hsq _) ?_;clear hK K;(try simp only[Reg.nn])
  refine Reg.onlyX 24 _ rfl (by kernel_rfl) (by decide) (by rfl) (fun K hK=>?_)
  refine wp_oapp el_u32 _ (.tmp 74) (.tmp 97) rfl (.slice A1 n c1) (us S) rfl (hoq.ext ((Ext.refl wq).alloc _)) (us_one _) _ 1 1 (us [X]) rfl (Rd.of_block wq 102 (0,0) rfl) rfl (fun h=>by cases h) (us_one _) (by rw[us_length];omega) (by omega) ?_
  intro V1 w1 ho1 hgr1 hv1
  have hbel:=Go.RowKit.Below.grown (Go.RowKit.Below.refl w.heap.size _) hgr1 (by simp;omega) hb
  refine hK.out _ _ hbel ?_
  clear hK K
  have hx1:Ext w w1:=(hxq.alloc _).then_grown hgr1 hb
  have hb1:=own_ge hv1 hb (by simp;omega)
  clear hgr1 hv1 hbel
  obtain⟨A2,c2',rfl,_⟩:=ho1.rd
  rw[show us S++us [X]=us (S++[X]) by simp[us],us_length,List.length_append,hlen',show [X].length=1 from rfl,←hword] at ho1
  rw[show (us S++us [X]).length=n+1 by simp[us,hlen']] at hb1 ⊢
  (try simp only[Reg.nn])
  refine Reg.tx (Reg.rl_below _) 25 ?_;(try simp only[Reg.nn])
  refine Reg.finX (by kernel_rfl) ?_
  go_wp2_with fail
  trace_state
  refine⟨⟨n+1,A2,c2',_,by omega,⟨_,rfl,rfl⟩,ho1,hb1,hx1⟩,?_⟩
  simp[intOf]
  omega
 ·obtain rfl:n=16:=by omega
  clear hlt
  go_wp2_with fail
  exact hQ _ _ A1 c1 x10 ⟨_,rfl,rfl⟩ ho hb hx
end Go.Proofs.YtbpfabhlngfciaaGreatDoor.ShaW
