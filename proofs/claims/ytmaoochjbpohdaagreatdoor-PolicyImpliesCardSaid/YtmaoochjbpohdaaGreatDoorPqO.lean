/- resolve: the greatest relation of two schemas' nodes, step by step: walked. -/
import Derived.Test.YtmaoochjbpohdaaGreatDoorPqN
import Derived.Deep.LoopGhost
import Derived.SizedLaws
import Derived.ShutString
import Derived.ChangeOld
import Derived.SliceStrings
import Derived.Deep.Slices
import Derived.OpenShut
import Derived.ChangeSame
import Derived.Lib.ItoaLen
set_option linter.unusedVariables false
set_option linter.unusedSimpArgs false
set_option maxRecDepth 100000
set_option maxHeartbeats 1000000
namespace Go.Proofs.YtmaoochjbpohdaaGreatDoor
namespace Rv
open Go.ChangeShapes Go.WideShapes Go.ChangeAt Go.RowKit
open Base Lx Mi Pr Mp
theorem getD_mem {l:List Ne} {i:Nat} (h:i<l.length):l.getD i neD∈l:=by
 rw[List.getD,List.getElem?_eq_getElem h];exact List.getElem_mem h
structure RS (a b:List Ne) (va vb:Value) (w0:World) (bx bm c0:Nat) (N:Rel) (gb:Bool) (i k:Nat) (W:World):Prop where
 rx:RX W bx bm (cnt N b.length a.length) va vb N
 al:AllIn a b N
 inn:Inn a b N
 c:c0≤cnt N b.length a.length
 yes:gb=true→c0<cnt N b.length a.length
 no:gb=false→Ahead a b N i k
 x:Ext w0 W
structure RT (a b:List Ne) (va vb:Value) (w0:World) (bx bm:Nat) (N:Rel) (gb:Bool) (W:World):Prop where
 rx:RX W bx bm (cnt N b.length a.length) va vb N
 al:AllIn a b N
 inn:Inn a b N
 no:gb=false→Stays a b (notR N)
 x:Ext w0 W
section
variable {a b:List Ne} {va vb:Value} {w0:World} {bx bm c0:Nat} {N:Rel} {gb:Bool} {i k:Nat} {W:World}
theorem RS.ext {W':World} (h:RS a b va vb w0 bx bm c0 N gb i k W) (hx:Ext W W'):RS a b va vb w0 bx bm c0 N gb i k W':=⟨h.rx.ext hx,h.al,h.inn,h.c,h.yes,h.no,h.x.trans hx⟩
theorem rs_skip (h:RS a b va vb w0 bx bm c0 N gb i k W) (hN:N i k=true):RS a b va vb w0 bx bm c0 N gb i (k+1) W:=
 ⟨h.rx,h.al,h.inn,h.c,h.yes,fun e=>ahead_next (h.no e) (fun x y _ _ hn=>(by rw[hN] at hn;cases hn)),h.x⟩
theorem rs_holds (h:RS a b va vb w0 bx bm c0 N gb i k W) (hh:holdP (fun p q => !N p q) (a.getD i neD) (b.getD k neD) i k=true):RS a b va vb w0 bx bm c0 N gb i (k+1) W:=
 ⟨h.rx,h.al,h.inn,h.c,h.yes,fun e=>ahead_next (h.no e) (fun x y hx hy _=>by
  have e1:a.getD i neD=x:=by rw[List.getD,hx];rfl
  have e2:b.getD k neD=y:=by rw[List.getD,hy];rfl
  rw[e1,e2] at hh
  exact hh),h.x⟩
theorem rs_row {n:Nat} (h:RS a b va vb w0 bx bm c0 N gb i n W) (hn:b.length=n):RS a b va vb w0 bx bm c0 N gb (i+1) 0 W:=⟨h.rx,h.al,h.inn,h.c,h.yes,fun e=>ahead_row (by rw[hn];exact h.no e),h.x⟩
theorem rs_round {n:Nat} (h:RS a b va vb w0 bx bm c0 N gb n 0 W) (hn:a.length=n):RT a b va vb w0 bx bm N gb W:=⟨h.rx,h.al,h.inn,fun e=>ahead_all (by rw[hn];exact h.no e),h.x⟩
theorem rs_put {W':World} (h:RS a b va vb w0 bx bm c0 N gb i k W) (hN:N i k=false) (hh:holdP (fun p q => !N p q) (a.getD i neD) (b.getD k neD) i k=false) (hi:i<a.length) (hk:k<b.length)
  (hM:MapB Tryz.prog 112 4 W' bm (cnt N b.length a.length+1) (putN N i k)) (hg:W.grownBy W' (some bm)) (hne:bx≠bm) (hbm:w0.heap.size≤bm):RS a b va vb w0 bx bm c0 (putN N i k) true i (k+1) W':=by
 have hx:a[i]?=some (a.getD i neD):=by simp[List.getD,List.getElem?_eq_getElem hi]
 have hy:b[k]?=some (b.getD k neD):=by simp[List.getD,List.getElem?_eq_getElem hk]
 have hc:=cnt_put N b.length i k hN hk a.length hi
 have h1:=h.c
 exact⟨⟨h.rx.blk.grown hg (fun e=>hne (by injection e)),by rw[hc];exact hM⟩,allIn_put h.al h.inn hx hy hh,inn_put h.inn hi hk,by omega,fun _=>by omega,fun e=>(by cases e),h.x.then_grown hg (fun m hm=>by injection hm with hm;omega)⟩
end
set_option maxHeartbeats 4000000 in
theorem related_some (a b:List Ne) (va vb:Value) (w:World) (hSa:Sch w.heap.size w va a) (hSb:Sch w.heap.size w vb b) (hwd:Wd w) (hpow:Pow w) (hLa:showLen a≤100000000) (hLb:showLen b≤100000000)
  (ta tb:List UInt8) (hta:showP a=some ta) (htb:showP b=some tb) (hla:a.length≤1500) (hlb:b.length≤1500) (hwa:∀d∈a,WE a.length d) (hwb:∀d∈b,WE b.length d) :
  Calls Tryz.prog 49 #[.agg #[va],.agg #[vb]] w fun en w'=>(∃bx bm n N,en=.returned (.pointer (some ⟨bx,0,none⟩))∧RX w' bx bm n va vb N∧Stays a b (notR N)∧AllIn a b N)∧Ext w w':=by
 obtain⟨na,hna⟩:∃z,Hid (a.length=z):=⟨_,rfl⟩
 obtain⟨nb,hnb⟩:∃z,Hid (b.length=z):=⟨_,rfl⟩
 obtain⟨Aa,ca,rfl⟩:∃A c,va=.slice A na c:=by
  obtain⟨vs,_,⟨A,c,e,_⟩,_⟩:=hSa
  exact⟨A,c,by rw[e,hna.out]⟩
 obtain⟨Ab,cb,rfl⟩:∃A c,vb=.slice A nb c:=by
  obtain⟨vs,_,⟨A,c,e,_⟩,_⟩:=hSb
  exact⟨A,c,by rw[e,hnb.out]⟩
 have hsa:=fun W (hW:Ext w W)=>show_any _ a W ((hSa.below hW).mono hW.size) (hwd.ext hW) (hpow.ext hW) hLa
 have hsb:=fun W (hW:Ext w W)=>show_any _ b W ((hSb.below hW).mono hW.size) (hwd.ext hW) (hpow.ext hW) hLb
 simp only[hta,shV] at hsa
 simp only[htb,shV] at hsb
 obtain⟨sa,hsa'⟩:∃z,Hid ((⟨ta.toArray⟩:ByteArray)=z):=⟨_,rfl⟩
 obtain⟨sb,hsb'⟩:∃z,Hid ((⟨tb.toArray⟩:ByteArray)=z):=⟨_,rfl⟩
 simp only[hsa'.out] at hsa
 simp only[hsb'.out] at hsb
 clear hta htb hLa hLb
 obtain⟨w1,hw1⟩:∃z,Hid (w.alloc (.cells #[.slice Aa na ca] 24)=z):=⟨_,rfl⟩
 obtain⟨w2,hw2⟩:∃z,Hid (w1.alloc (.cells #[.slice Ab nb cb] 24)=z):=⟨_,rfl⟩
 have hx1:Ext w w1:=by rw[←hw1.out];exact (Ext.refl w).alloc _
 have hx12:Ext w1 w2:=by rw[←hw2.out];exact (Ext.refl w1).alloc _
 obtain⟨q2,hq2⟩:∃z,Hid (w.heap.size=z):=⟨_,rfl⟩
 obtain⟨q3,hq3⟩:∃z,Hid (w.heap.size+1=z):=⟨_,rfl⟩
 have hs1:w1.heap.size=w.heap.size+1:=by rw[←hw1.out];simp
 have b2:Blk w2 q2 #[.slice Aa na ca] 24:=by rw[←hq2.out];exact (by rw[←hw1.out];exact Blk.new w _ _:Blk w1 w.heap.size #[.slice Aa na ca] 24).ext hx12
 have b3:Blk w2 q3 #[.slice Ab nb cb] 24:=by rw[←hq3.out,←hs1,←hw2.out];exact Blk.new w1 _ _
 have hx2:=hx1.trans hx12
 obtain⟨PO,hPO⟩:∃PO:Ending→World→Prop,Hid ((fun en w'=>(∃bx bm n N,en=.returned (.pointer (some ⟨bx,0,none⟩))∧RX w' bx bm n (.slice Aa na ca) (.slice Ab nb cb) N∧Stays a b (notR N)∧AllIn a b N)∧Ext w w')=PO):=⟨_,Lib.hid rfl⟩
 rw[hPO.out]
 have fin:∀bx bm n N W,RX W bx bm n (.slice Aa na ca) (.slice Ab nb cb) N→Stays a b (notR N)→AllIn a b N→Ext w W→PO (.returned (.pointer (some ⟨bx,0,none⟩))) W:=fun bx bm n N W h1 h2 h3 h4=>by rw[←hPO.out];exact⟨⟨bx,bm,n,N,rfl,h1,h2,h3⟩,h4⟩
 replace fin:=Lib.hid fin
 have hhold:=fun W (hW:Ext w W) bx bm n N (h:RX W bx bm n (.slice Aa na ca) (.slice Ab nb cb) N) i k (hi:i<a.length) (hk:k<b.length)=>holds_any a b _ _ h (hSa.below hW) (hSb.below hW) hW.size hi hk (by omega) (by omega) (hwa _ (getD_mem hi)) (hwb _ (getD_mem hk))
 replace hhold:=Lib.hid hhold
 clear hSa hSb
 have k2:=b2.cell 0
 have k3:=b3.cell 0
 simp only[List.getElem?_toArray,List.getElem?_cons_zero] at k2 k3
 have hla':na≤1500:=by rw[←hna.out];exact hla
 have hlb':nb≤1500:=by rw[←hnb.out];exact hlb
 clear hla hlb hwa hwb
 have hs2:=hsa w2 hx2
 replace hsb:=Lib.hid hsb
 clear hsa hs1
 go_enter Tryz.func49,Tryz.ntmps49
 go_wp2_with fail
 rw[hw1.out,hw2.out,hq3.out,hq2.out]
 refine hs2.mono ?_
 rintro en w3 ⟨rfl,hx3⟩
 clear hs2
 have hs3:=hsb.out w3 (hx2.trans hx3)
 have k3':=hx3.cell k3
 go_wp2_with fail
 refine hs3.mono ?_
 rintro en w4 ⟨rfl,hx4⟩
 clear hs3
 have hx24:=hx3.trans hx4
 have j2:=hx24.cell k2
 have j3:=hx24.cell k3
 have hm5:=MapB.made Tryz.prog 112 4 w4
 obtain⟨w5,hw5⟩:∃z,Hid (w4.alloc (.map #[] 0)=z):=⟨_,rfl⟩
 obtain⟨bm,hbm⟩:∃z,Hid (w4.heap.size=z):=⟨_,rfl⟩
 rw[hw5.out,hbm.out] at hm5
 have hx45:Ext w4 w5:=by rw[←hw5.out];exact (Ext.refl w4).alloc _
 obtain⟨w6,hw6⟩:∃z,Hid (w5.alloc (.cells #[.slice Aa na ca,.slice Ab nb cb,.map (some bm)] 110)=z):=⟨_,rfl⟩
 obtain⟨bx,hbx⟩:∃z,Hid (bm+1=z):=⟨_,rfl⟩
 have hs5:w5.heap.size=bm+1:=by rw[←hw5.out,←hbm.out];simp
 have hx56:Ext w5 w6:=by rw[←hw6.out];exact (Ext.refl w5).alloc _
 have hb6:Blk w6 bx #[.slice Aa na ca,.slice Ab nb cb,.map (some bm)] 110:=by rw[←hbx.out,←hs5,←hw6.out];exact Blk.new w5 _ _
 have hx46:=hx45.trans hx56
 have hne:bx≠bm:=by have:=hbx.out;omega
 have hrx6:RX w6 bx bm 0 (.slice Aa na ca) (.slice Ab nb cb) (fun _ _=>false):=⟨hb6,hm5.ext hx56⟩
 have hc0:cnt (fun _ _=>false) b.length a.length=0:=cnt_none (fun _ _=>rfl) _ _
 have hbm4:w4.heap.size≤bm:=by rw[hbm.out];exact Nat.le_refl _
 replace hbm4:=Lib.hid hbm4
 replace hne:=Lib.hid hne
 have hw4:Ext w w4:=hx2.trans hx24
 clear hsb hm5 hb6 k2 k3 k3'
 have hmm:=@run_makeMap Tryz.prog
 go_wp2_with fail
 rw[hw5.out,hbm.out,hw6.out,hbx.out]
 clear hmm
 replace hrx6:=Lib.hid hrx6
 replace hc0:=Lib.hid hc0
 go_loopg [10,11,12,32,33,34,35,36,37,38,39,40,41,42,43,44,45,46,47,48,49,50,51,52,53,54,55,56,57,58,59,60,61,62,63,64,65,66] (2*(na*nb)+1) (fun g v10 v11 v12 v32 v33 v34 v35 v36 v37 v38 v39 v40 v41 v42 v43 v44 v45 v46 v47 v48 v49 v50 v51 v52 v53 v54 v55 v56 v57 v58 v59 v60 v61 v62 v63 v64 v65 v66 wr=>∃(N:Rel) (gb:Bool),v10=.bool gb∧RT a b (.slice Aa na ca) (.slice Ab nb cb) w4 bx bm N gb wr∧2*(na*nb-cnt N nb na)+(if gb=true then 1 else 0)=g)
 case atStart=>
  refine⟨fun _ _=>false,true,rfl,⟨?_,allIn_none a b,inn_none a b,fun h=>(by cases h),hx46⟩,?_⟩
  ·have:=hrx6.out
   rw[hc0.out];exact this
  ·have:=hc0.out
   rw[hna.out,hnb.out] at this
   rw[this];rfl
 case round=>
  obtain⟨N,gb,rfl,hT,hg⟩:=hrel
  cases gb with
  | false=>
   have hf:=fin.out bx bm _ N wr hT.rx (hT.no rfl) hT.al (hw4.trans hT.x)
   clear hT
   go_wp2_with fail
   exact hf
  | true=>
   have j2r:=hT.x.cell j2
   obtain⟨c0,hc0'⟩:∃z,Hid (cnt N nb na=z):=⟨_,rfl⟩
   have hS:RS a b (.slice Aa na ca) (.slice Ab nb cb) w4 bx bm c0 N false 0 0 wr:=⟨hT.rx,hT.al,hT.inn,by rw[hna.out,hnb.out,hc0'.out];exact Nat.le_refl _,fun h=>(by cases h),fun _=>ahead_zero a b N,hT.x⟩
   replace hg:2*(na*nb-c0)+1=gk:=by rw[←hc0'.out];simpa using hg
   replace hg:=Lib.hid hg
   clear hT hc0'
   obtain⟨wo,hwo⟩:∃z,z=wr:=⟨_,rfl⟩
   subst hwo
   go_wp2_with fail
   go_loopw [10,11,12,36,37,38,39,40,41,42,43,44,45,46,47,48,49,50,51,52,53,54,55,56,57,58,59,60,61,62,63,64,65,66] (fun v10 v11 v12 v36 v37 v38 v39 v40 v41 v42 v43 v44 v45 v46 v47 v48 v49 v50 v51 v52 v53 v54 v55 v56 v57 v58 v59 v60 v61 v62 v63 v64 v65 v66 wr=>∃(N:Rel) (i:Nat) (gb:Bool),i≤na∧v36=.int .i64 (i:Int)∧v10=.bool gb∧RS a b (.slice Aa na ca) (.slice Ab nb cb) w4 bx bm c0 N gb i 0 wr) (fun _ _ _ v36 _ _ _ _ _ _ _ _ _ _ _ _ _ _ _ _ _ _ _ _ _ _ _ _ _ _ _ _ _ _ _=>na-(intOf v36).toNat)
   case atStart=>exact⟨N,0,false,Nat.zero_le _,rfl,rfl,hS⟩
   case round=>
    clear hS j2r
    obtain⟨N,i,gb,hi,rfl,rfl,hS⟩:=hrel
    by_cases hin:i<na
    ·have hin':(i:Int)<(na:Int):=by omega
     have j3r:=hS.x.cell j3
     obtain⟨w8,hw8⟩:∃z,z=wr:=⟨_,rfl⟩
     subst hw8
     go_wp2_with fail
     go_loopw [10,12,42,43,44,45,46,47,48,49,50,51,52,53,54,55,56,57,58,59,60,61,62,63,64,65] (fun v10 v12 v42 v43 v44 v45 v46 v47 v48 v49 v50 v51 v52 v53 v54 v55 v56 v57 v58 v59 v60 v61 v62 v63 v64 v65 wr=>∃(N:Rel) (k:Nat) (gb:Bool),k≤nb∧v42=.int .i64 (k:Int)∧v10=.bool gb∧RS a b (.slice Aa na ca) (.slice Ab nb cb) w4 bx bm c0 N gb i k wr) (fun _ _ v42 _ _ _ _ _ _ _ _ _ _ _ _ _ _ _ _ _ _ _ _ _ _ _ _=>nb-(intOf v42).toNat)
     case atStart=>exact⟨N,0,gb,Nat.zero_le _,rfl,rfl,hS⟩
     case round=>
      clear hS j3r
      obtain⟨N,k,gb,hk,rfl,rfl,hS⟩:=hrel
      by_cases hkn:k<nb
      ·have hkn':(k:Int)<(nb:Int):=by omega
       have hr:=reads_any hS.rx (i:=(i:Int)) (j:=(k:Int)) ⟨by omega,by omega⟩ ⟨by omega,by omega⟩
       cases hN:N i k with
       | true=>
        rw[hN] at hr
        have hn:=rs_skip hS hN
        clear hS hN
        go_wp2_with fail
        refine hr.mono ?_
        rintro en wA ⟨rfl,hxA⟩
        clear hr
        go_wp2_with fail
        go_roundw
        case rel=>exact⟨N,k+1,gb,by omega,by go_num,rfl,hn.ext hxA⟩
        case measure=>simp[intOf]<;>omega
       | false=>
        rw[hN] at hr
        have hh:=fun W (hW:Ext wr W)=>hhold.out W (hw4.trans (hS.x.trans hW)) bx bm _ N (hS.rx.ext hW) i k (by rw[hna.out];exact hin) (by rw[hnb.out];exact hkn)
        obtain⟨v,hv⟩:∃z,Hid (holdP (fun p q => !N p q) (a.getD i neD) (b.getD k neD) i k=z):=⟨_,rfl⟩
        simp only[hv.out] at hh
        replace hh:=Lib.hid hh
        replace hN:=Lib.hid hN
        replace hS:=Lib.hid hS
        cases v with
        | true=>
         go_wp2_with fail
         refine hr.mono ?_
         rintro en wA ⟨rfl,hxA⟩
         have hh2:=hh.out wA hxA
         clear hr
         go_wp2_with fail
         refine hh2.mono ?_
         rintro en wB ⟨rfl,hxB⟩
         clear hh2
         go_wp2_with fail
         go_roundw
         case rel=>exact⟨N,k+1,gb,by omega,by go_num,rfl,(rs_holds hS.out hv.out).ext (hxA.trans hxB)⟩
         case measure=>simp[intOf]<;>omega
        | false=>
         go_wp2_with fail
         refine hr.mono ?_
         rintro en wA ⟨rfl,hxA⟩
         have hh2:=hh.out wA hxA
         clear hr
         go_wp2_with fail
         refine hh2.mono ?_
         rintro en wB ⟨rfl,hxB⟩
         clear hh2
         have hSB:=hS.out.ext (hxA.trans hxB)
         have hlt:=cnt_le N b.length a.length
         have hsm:a.length*b.length≤1500*1500:=Nat.mul_le_mul (by rw[hna.out];exact hla') (by rw[hnb.out];exact hlb')
         obtain⟨x0,st,wC,wD,hE,hF,hMB,hgr⟩:=hSB.rx.map.entry bt (by unfold maxLen;omega) (i:=(i:Int)) (j:=(k:Int)) ⟨by omega,by omega⟩ ⟨by omega,by omega⟩
         have kk2:=hSB.rx.blk.cell 2
         simp only[List.getElem?_toArray,List.getElem?_cons_zero,List.getElem?_cons_succ] at kk2
         have hF':(Instr.entryStore 108 (.map (some bm)) (.int .i64 (st:Int)) (.bool true)).run Tryz.prog wC=.ok () wD:=hF
         have hE':(Instr.mapEntry 108 (.map (some bm)) (.agg #[.int .i64 (i:Int),.int .i64 (k:Int)])).run Tryz.prog wB=.ok (.tuple #[x0,.int .i64 (st:Int)]) wC:=hE
         have hnew:=rs_put hSB hN.out hv.out (by rw[hna.out];exact hin) (by rw[hnb.out];exact hkn) hMB hgr hne.out hbm4.out
         clear hE hF hSB hMB hgr hlt hsm
         go_wp2_with fail
         go_roundw
         case rel=>exact⟨_,k+1,true,by omega,by go_num,rfl,hnew⟩
         case measure=>simp[intOf]<;>omega
      ·obtain rfl:k=nb:=by omega
       have hn:=rs_row hS hnb.out
       clear hS
       go_wp2_with fail
       go_roundw
       case rel=>exact⟨N,i+1,gb,by omega,by go_num,rfl,hn⟩
       case measure=>simp[intOf]<;>omega
    ·obtain rfl:i=na:=by omega
     have hT:=rs_round hS hna.out
     have hcl:=hS.c
     have hcy:=hS.yes
     have hle:=cnt_le N b.length a.length
     rw[hna.out,hnb.out] at hcl hcy hle
     replace hcl:=Lib.hid hcl
     replace hcy:=Lib.hid hcy
     replace hle:=Lib.hid hle
     clear hS
     go_wp2_with fail
     go_roundg (2*(i*nb-cnt N nb i)+(if gb=true then 1 else 0))
     case rel=>exact⟨N,gb,rfl,hT,rfl⟩
     case measure=>
      have h1:=hcl.out
      have h2:=hcy.out
      have h3:=hle.out
      have h4:=hg.out
      cases gb
      ·simp;omega
      ·have:=h2 rfl
       simp;omega
theorem Sch.slice {B:Nat} {w:World} {v:Value} {ns:List Ne} (h:Sch B w v ns):∃A n c,v=.slice A n c:=by
 obtain⟨vs,_,⟨A,c,e,_⟩,_⟩:=h
 exact⟨A,_,c,e⟩
theorem related_no1 (a:List Ne) (va vb:Value) (w:World) (hSa:Sch w.heap.size w va a) (hwd:Wd w) (hpow:Pow w) (hLa:showLen a≤100000000) (hta:showP a=none) :
  Calls Tryz.prog 49 #[.agg #[va],.agg #[vb]] w fun en w'=>en=.returned (.pointer none)∧Ext w w':=by
 have hsa:=fun W (hW:Ext w W)=>show_any va a W ((hSa.below hW).mono hW.size) (hwd.ext hW) (hpow.ext hW) hLa
 simp only[hta,shV] at hsa
 obtain⟨w1,hw1⟩:∃z,Hid ((w.alloc (.cells #[va] 24)).alloc (.cells #[vb] 24)=z):=⟨_,rfl⟩
 have hx1:Ext w w1:=by rw[←hw1.out];exact ((Ext.refl w).alloc _).alloc _
 have hs:=hsa w1 hx1
 clear hsa hta hSa
 go_enter Tryz.func49,Tryz.ntmps49
 go_wp2_with fail
 rw[hw1.out]
 refine hs.mono ?_
 rintro en w3 ⟨rfl,hx3⟩
 go_wp2_with fail
 go_ret
 exact⟨rfl,hx1.trans hx3⟩
theorem related_no2 (a b:List Ne) (va vb:Value) (w:World) (hSa:Sch w.heap.size w va a) (hSb:Sch w.heap.size w vb b) (hwd:Wd w) (hpow:Pow w) (hLa:showLen a≤100000000) (hLb:showLen b≤100000000) (ta:List UInt8) (hta:showP a=some ta) (htb:showP b=none) :
  Calls Tryz.prog 49 #[.agg #[va],.agg #[vb]] w fun en w'=>en=.returned (.pointer none)∧Ext w w':=by
 have hsa:=fun W (hW:Ext w W)=>show_any va a W ((hSa.below hW).mono hW.size) (hwd.ext hW) (hpow.ext hW) hLa
 have hsb:=fun W (hW:Ext w W)=>show_any vb b W ((hSb.below hW).mono hW.size) (hwd.ext hW) (hpow.ext hW) hLb
 simp only[hta,shV] at hsa
 simp only[htb,shV] at hsb
 obtain⟨sa,hsa'⟩:∃z,Hid ((⟨ta.toArray⟩:ByteArray)=z):=⟨_,rfl⟩
 simp only[hsa'.out] at hsa
 obtain⟨w1,hw1⟩:∃z,Hid (w.alloc (.cells #[va] 24)=z):=⟨_,rfl⟩
 obtain⟨w2,hw2⟩:∃z,Hid (w1.alloc (.cells #[vb] 24)=z):=⟨_,rfl⟩
 have hx1:Ext w w1:=by rw[←hw1.out];exact (Ext.refl w).alloc _
 have hx12:Ext w1 w2:=by rw[←hw2.out];exact (Ext.refl w1).alloc _
 have hs1:w1.heap.size=w.heap.size+1:=by rw[←hw1.out];simp
 obtain⟨q3,hq3⟩:∃z,Hid (w.heap.size+1=z):=⟨_,rfl⟩
 have b3:Blk w2 q3 #[vb] 24:=by rw[←hq3.out,←hs1,←hw2.out];exact Blk.new w1 _ _
 have hx2:=hx1.trans hx12
 have k3:=b3.cell 0
 simp only[List.getElem?_toArray,List.getElem?_cons_zero] at k3
 have hs:=hsa w2 hx2
 replace hsb:=Lib.hid hsb
 clear hsa hta htb hSa hSb hs1 b3
 go_enter Tryz.func49,Tryz.ntmps49
 go_wp2_with fail
 rw[hw1.out,hw2.out,hq3.out]
 refine hs.mono ?_
 rintro en w3 ⟨rfl,hx3⟩
 have hs3:=hsb.out w3 (hx2.trans hx3)
 have k3':=hx3.cell k3
 go_wp2_with fail
 refine hs3.mono ?_
 rintro en w4 ⟨rfl,hx4⟩
 go_wp2_with fail
 go_ret
 exact⟨rfl,hx2.trans (hx3.trans hx4)⟩
def relV (a b:List Ne) (va vb:Value) (v:Value) (w':World):Prop:=
 (v=.pointer none∧canB a b=false)∨∃bx bm n N,v=.pointer (some ⟨bx,0,none⟩)∧RX w' bx bm n va vb N∧Stays a b (notR N)∧AllIn a b N∧(!N 0 0)=canB a b∧(∃t,showP a=some t)∧∃t,showP b=some t
open Classical in
theorem canB_no1 {a b:List Ne} (h:showP a=none):canB a b=false:=by unfold canB;exact decide_eq_false fun hc=>by have:=hc.1;rw[h] at this;cases this
open Classical in
theorem canB_no2 {a b:List Ne} (h:showP b=none):canB a b=false:=by unfold canB;exact decide_eq_false fun hc=>by have:=hc.2.1;rw[h] at this;cases this
open Classical in
theorem canB_of {a b:List Ne} {ta tb:List UInt8} (ha:showP a=some ta) (hb:showP b=some tb) {N:Rel} (h1:Stays a b (notR N)) (h2:AllIn a b N):(!N 0 0)=canB a b:=by
 have hi:=(show_we ha).1
 have hk:=(show_we hb).1
 have h3:=inR_not h1 h2 hi hk
 unfold canB
 cases hN:N 0 0 with
 | true=>
  symm
  exact decide_eq_false fun hc=>by have:=h3.1 hc.2.2;rw[show N ((0:Nat):Int) ((0:Nat):Int)=N 0 0 from rfl,hN] at this;cases this
 | false=>
  symm
  exact decide_eq_true ⟨by rw[ha];rfl,by rw[hb];rfl,h3.2 hN⟩
theorem related_any (a b:List Ne) (va vb:Value) (w:World) (hSa:Sch w.heap.size w va a) (hSb:Sch w.heap.size w vb b) (hwd:Wd w) (hpow:Pow w) (hLa:showLen a≤100000000) (hLb:showLen b≤100000000) :
  Calls Tryz.prog 49 #[.agg #[va],.agg #[vb]] w fun en w'=>∃v,en=.returned v∧relV a b va vb v w'∧Ext w w':=by
 cases hta:showP a with
 | none=>exact (related_no1 a va vb w hSa hwd hpow hLa hta).mono fun en w' h=>⟨_,h.1,.inl ⟨rfl,canB_no1 hta⟩,h.2⟩
 | some ta=>
  cases htb:showP b with
  | none=>exact (related_no2 a b va vb w hSa hSb hwd hpow hLa hLb ta hta htb).mono fun en w' h=>⟨_,h.1,.inl ⟨rfl,canB_no2 htb⟩,h.2⟩
  | some tb=>
   have h1:=show_we hta
   have h2:=show_we htb
   refine (related_some a b va vb w hSa hSb hwd hpow hLa hLb ta tb hta htb h1.2.1 h2.2.1 h1.2.2 h2.2.2).mono ?_
   rintro en w' ⟨⟨bx,bm,n,N,rfl,h3,h4,h5⟩,h6⟩
   exact⟨_,rfl,.inr ⟨bx,bm,n,N,rfl,h3,h4,h5,canB_of hta htb h4 h5,⟨ta,hta⟩,tb,htb⟩,h6⟩
theorem can_any (a b:List Ne) (va vb:Value) (w:World) (hSa:Sch w.heap.size w va a) (hSb:Sch w.heap.size w vb b) (hwd:Wd w) (hpow:Pow w) (hLa:showLen a≤100000000) (hLb:showLen b≤100000000) :
  Calls Tryz.prog 46 #[.agg #[va],.agg #[vb]] w fun en w'=>en=.returned (.bool (canB a b))∧Ext w w':=by
 obtain⟨w1,hw1⟩:∃z,Hid ((w.alloc (.cells #[va] 24)).alloc (.cells #[vb] 24)=z):=⟨_,rfl⟩
 have hx1:Ext w w1:=by rw[←hw1.out];exact ((Ext.refl w).alloc _).alloc _
 have hc:=related_any a b va vb w1 ((hSa.below hx1).mono hx1.size) ((hSb.below hx1).mono hx1.size) (hwd.ext hx1) (hpow.ext hx1) hLa hLb
 clear hSa hSb
 obtain⟨r,hr⟩:∃z,Hid (canB a b=z):=⟨_,rfl⟩
 rw[hr.out]
 obtain⟨PO,hPO⟩:∃PO:Ending→World→Prop,Hid ((fun en w'=>en=.returned (.bool r)∧Ext w w')=PO):=⟨_,Lib.hid rfl⟩
 have fin:∀W,Ext w W→PO (.returned (.bool r)) W:=fun W hW=>by rw[←hPO.out];exact⟨rfl,hW⟩
 rw[hPO.out]
 go_enter Tryz.func46,Tryz.ntmps46
 go_wp2_with fail
 rw[hw1.out]
 refine hc.mono ?_
 rintro en w2 ⟨v,rfl,hv,hx2⟩
 clear hc
 rcases hv with⟨rfl,e⟩|⟨bx,bm,n,N,rfl,hrx,_,_,e,_,_⟩
 ·rw[hr.out] at e
  subst e
  have hf:=fin w2 (hx1.trans hx2)
  have hxx:=hx1.trans hx2
  go_wp2_with fail
  first|exact hf|exact hxx
 ·rw[hr.out] at e
  have hrd:=reads_any hrx (i:=0) (j:=0) ⟨by decide,by decide⟩ ⟨by decide,by decide⟩
  rw[e] at hrd
  clear e
  go_wp2_with fail
  refine hrd.mono ?_
  rintro en w3 ⟨rfl,hx3⟩
  have hf:=fin w3 (hx1.trans (hx2.trans hx3))
  have hxx:=hx1.trans (hx2.trans hx3)
  go_wp2_with fail
  first|exact hf|exact hxx
theorem Can_any (a b:List Ne) (va vb:Value) (w:World) (hSa:Sch w.heap.size w va a) (hSb:Sch w.heap.size w vb b) (hwd:Wd w) (hpow:Pow w) (hLa:showLen a≤100000000) (hLb:showLen b≤100000000) :
  Calls Tryz.prog 18 #[.agg #[va],.agg #[vb]] w fun en w'=>en=.returned (.bool (canB a b))∧Ext w w':=by
 obtain⟨w1,hw1⟩:∃z,Hid ((w.alloc (.cells #[va] 24)).alloc (.cells #[vb] 24)=z):=⟨_,rfl⟩
 have hx1:Ext w w1:=by rw[←hw1.out];exact ((Ext.refl w).alloc _).alloc _
 have hc:=can_any a b va vb w1 ((hSa.below hx1).mono hx1.size) ((hSb.below hx1).mono hx1.size) (hwd.ext hx1) (hpow.ext hx1) hLa hLb
 clear hSa hSb
 obtain⟨r,hr⟩:∃z,Hid (canB a b=z):=⟨_,rfl⟩
 rw[hr.out] at hc ⊢
 go_enter Tryz.func18,Tryz.ntmps18
 go_wp2_with fail
 rw[hw1.out]
 refine hc.mono ?_
 rintro en w2 ⟨rfl,hx2⟩
 go_wp2_with fail
 go_ret
 exact⟨rfl,hx1.trans hx2⟩
end Rv
namespace Rx
open Go.ChangeShapes Go.WideShapes Go.ChangeAt Go.RowKit
open Base Lx Mi Pr Rv
theorem readsC_all {a b:List Ne} {vR vW:Value} {w0:World} {qx:Nat} (hSa:Sch w0.heap.size w0 vR a) (hSb:Sch w0.heap.size w0 vW b) (hla:a.length≤5000) (hlb:b.length≤5000) (hwa:∀d∈a,WE a.length d) (hwb:∀d∈b,WE b.length d):∀f,ReadsC a b vR vW w0 qx f
 | 0=>by
  intro i k s nV aV W hi hk hs hf
  have:=length_rng hs.nd2 hs.r2
  omega
 | f+1=>reads_of hla hlb hwa hwb (holds_of hSa hSb hla hlb hwa hwb (readsC_all hSa hSb hla hlb hwa hwb f) (fields_of hwa hwb (readsC_all hSa hSb hla hlb hwa hwb f)))
theorem XX.reset {w0:World} {qx:Nat} {vR vW:Value} {s:Qs} {nV aV:Value} {W:World} (h:XX w0 qx vR vW s nV aV W) :
  XX w0 qx vR vW (s.1,[]) nV (.slice (some ⟨W.heap.size,0,none⟩) 0 0) ((W.alloc (.cells #[] 113)).setCell ⟨qx,3,none⟩ (.slice (some ⟨W.heap.size,0,none⟩) 0 0)):=by
 have hx:Ext W (W.alloc (.cells #[] 113)):=(Ext.refl W).alloc _
 have hb:=h.blk.ext hx
 refine⟨by simpa using hb.set 3 _,own_setCell (own_ext h.no hx) hb (by decide) _,own_setCell (World.ownsRow_lit W #[] 0 h.x.size (Nat.zero_le _) rfl) hb (by decide) _,?_,(h.x.trans hx).setCell h.hq _,h.hq⟩
 cases hn:nV.ownBlock with
 | none=>exact .inl rfl
 | some k=>
  refine .inr fun e=>?_
  have:=(h.no.lt k hn).2
  have e2:some k=some W.heap.size:=e
  injection e2 with e2
  omega
open Classical in
theorem gb_no {a b:List Ne} {i k:Int} (h:¬InR a b i k):GB a b i k=false:=by unfold GB;exact decide_eq_false h
open Classical in
theorem gb_yes {a b:List Ne} {i k:Int} (h:InR a b i k):GB a b i k=true:=by unfold GB;exact decide_eq_true h
def leftM (M qx:Nat) (W:World):Nat:=match W.cell? ⟨qx,2,none⟩ with
 | some (.slice _ n _)=>M-n
 | _=>0
set_option maxHeartbeats 3000000 in
theorem Reads_any {a b:List Ne} {vR vW:Value} (w:World) (hSa:Sch w.heap.size w vR a) (hSb:Sch w.heap.size w vW b) (hla:a.length≤5000) (hlb:b.length≤5000) (hwa:∀d∈a,WE a.length d) (hwb:∀d∈b,WE b.length d) (i k:Nat) (hi:i<a.length) (hk:k<b.length) :
  Calls Tryz.prog 24 #[.agg #[vR],.agg #[vW],.int .i64 (i:Int),.int .i64 (k:Int)] w fun en w'=>en=.returned (.bool (GB a b i k))∧Ext w w':=by
 obtain⟨PO,hPO⟩:∃PO:Ending→World→Prop,Hid ((fun en w'=>en=.returned (.bool (GB a b i k))∧Ext w w')=PO):=⟨_,Lib.hid rfl⟩
 rw[hPO.out]
 obtain⟨q,hq⟩:∃z,Hid (w.heap.size+1+1=z):=⟨_,rfl⟩
 obtain⟨M,hM⟩:∃z,Hid (a.length*b.length=z):=⟨_,rfl⟩
 obtain⟨f,hf⟩:∃z,Hid (M+1=z):=⟨_,rfl⟩
 have hC:=readsC_all (qx:=q) hSa hSb hla hlb hwa hwb f
 have hask:=fun (N:List P2) (hN:Fine a b (N,[]))=>asked (f:=f) hwa hwb hN (by rw[hM.out,←hf.out];exact Nat.le_refl _) hi hk
 have hcall:∀(N:List P2) (nV aV:Value) (W:World),Fine a b (N,[])→XX w q vR vW (N,[]) nV aV W→Calls Tryz.prog 51 #[.pointer (some ⟨q,0,none⟩),.int .i64 (i:Int),.int .i64 (k:Int)] W fun en W'=>∃nV' aV',en=.returned (.bool (readsQ a b f i k (N,[])).1)∧XX w q vR vW (readsQ a b f i k (N,[])).2 nV' aV' W':=fun N nV aV W hN hX=>
  (hC i k (N,[]) nV aV W hi hk hN (by rw[hM.out,←hf.out];simp) hX).mono (by rintro en W' ⟨n1,a1,h1,h2,_⟩;exact⟨n1,a1,h1,h2⟩)
 have hlen:∀N,Fine a b (N,[])→N.length≤M:=fun N hN=>by rw[←hM.out];exact length_rng hN.nd1 hN.r1
 have fin0:∀W,¬InR a b i k→Ext w W→PO (.returned (.bool false)) W:=fun W h1 h2=>by
  rw[←hPO.out];exact⟨by rw[gb_no h1],h2⟩
 have fin1:∀W,InR a b i k→Ext w W→PO (.returned (.bool true)) W:=fun W h1 h2=>by
  rw[←hPO.out];exact⟨by rw[gb_yes h1],h2⟩
 have hF0:Fine a b ([],[]):=⟨List.nodup_nil,List.nodup_nil,fun p hp=>(by cases hp),fun p hp=>(by cases hp),fun p hp=>(by cases hp)⟩
 obtain⟨w1,hw1⟩:∃z,Hid (((w.alloc (.cells #[vR] 24)).alloc (.cells #[vW] 24)).alloc (.cells #[vR,vW,.slice none 0 0,.slice none 0 0] 76)=z):=⟨_,rfl⟩
 have hX0:XX w q vR vW ([],[]) (.slice none 0 0) (.slice none 0 0) w1:=by
  have hb:Blk w1 q #[vR,vW,.slice none 0 0,.slice none 0 0] 76:=by
   have hn:=Blk.new ((w.alloc (.cells #[vR] 24)).alloc (.cells #[vW] 24)) #[vR,vW,.slice none 0 0,.slice none 0 0] 76
   rw[World.size_alloc,World.size_alloc,hq.out,hw1.out] at hn
   exact hn
  have hx1:Ext w w1:=by rw[←hw1.out];exact (((Ext.refl w).alloc _).alloc _).alloc _
  exact⟨hb,⟨rfl,.inl ⟨rfl,rfl⟩⟩,⟨rfl,.inl ⟨rfl,rfl⟩⟩,.inl rfl,hx1,by rw[←hq.out];omega⟩
 have hq2:((w.alloc (.cells #[vR] 24)).alloc (.cells #[vW] 24)).heap.size=q:=by rw[World.size_alloc,World.size_alloc,hq.out]
 obtain⟨A1,k1,c1,rfl⟩:=Rv.Sch.slice hSa
 obtain⟨A2,kk,c2,rfl⟩:=Rv.Sch.slice hSb
 have hst0:Hid (XX w q (.slice A1 k1 c1) (.slice A2 kk c2) ([],[]) (.slice none 0 0) (.slice none 0 0) w1∧Fine a b ([],[])):=Lib.hid ⟨hX0,hF0⟩
 clear hX0 hF0 hC hSa hSb hPO hwa hwb hla hlb
 replace hask:=Lib.hid hask
 replace hcall:=Lib.hid hcall
 replace hlen:=Lib.hid hlen
 replace fin0:=Lib.hid fin0
 replace fin1:=Lib.hid fin1
 replace hi:=Lib.hid hi
 replace hk:=Lib.hid hk
 go_enter Tryz.func24,Tryz.ntmps24
 go_wp2_with fail
 rw[hw1.out]
 try rw[hq.out]
 go_loopw [10,15,16,17,18,19,20,21,22,23,24,25,26,27,28,29,30,31,32,33,34,35] (fun v10 v15 v16 v17 v18 v19 v20 v21 v22 v23 v24 v25 v26 v27 v28 v29 v30 v31 v32 v33 v34 v35 wr=>∃(N A:List P2) (nV aV:Value),Hid (XX w q (.slice A1 k1 c1) (.slice A2 kk c2) (N,A) nV aV wr∧Fine a b (N,[]))) (fun _ _ _ _ _ _ _ _ _ _ _ _ _ _ _ _ _ _ _ _ _ _ W=>leftM M q W)
 case atStart=>exact⟨[],[],_,_,hst0⟩
 case round=>
  obtain⟨N,A,nV,aV,hst⟩:=hrel
  clear hst0
  obtain⟨An,cn,en,_,_,_,_⟩:=Rd.of_own hst.out.1.no
  obtain⟨n1,hn1⟩:∃z,Hid (N.length=z):=⟨_,rfl⟩
  replace en:nV=.slice An n1 cn:=by rw[en];show Value.slice An N.length cn=_;rw[hn1.out]
  subst en
  have cc:=hst.out.1.cells
  have hbk:=hst.out.1.blk.ext ((Ext.refl wr).alloc (.cells #[] 113))
  have k2:=cc.2.2.1
  have k3:=hbk.cell 3
  have f3:=hbk.frozen 3
  simp only[List.getElem?_toArray,List.getElem?_cons_zero,List.getElem?_cons_succ] at k3
  clear cc hbk
  have hXr:=hst.out.1.reset
  have hca:=hcall.out N _ _ _ hst.out.2 hXr
  have hM1:leftM M q wr=M-n1:=by unfold leftM;rw[k2]
  replace hXr:=Lib.hid hXr
  replace hM1:=Lib.hid hM1
  go_wp2_with fail
  refine hca.mono ?_
  rintro e w5 ⟨nV5,aV5,rfl,hX5⟩
  clear hca hXr k2 k3 f3
  have hak:=hask.out N hst.out.2
  obtain⟨o,ho⟩:∃z,Hid (readsQ a b f i k (N,[])=z):=⟨_,Lib.hid rfl⟩
  rw[ho.out] at hX5 hak ⊢
  obtain⟨ok,N5,A5⟩:=o
  simp only at hak
  obtain⟨a1,⟨t,a2⟩,a3,a4⟩:=hak
  cases ok with
  | false=>
   have hf:=fin0.out w5 (a3 rfl) hX5.x
   clear a1 a2 a3 a4 hX5
   go_wp2_with fail
   exact hf
  | true=>
   have hno5:=hX5.no
   obtain⟨Am,cm,em,_,_,_,_⟩:=Rd.of_own hno5
   obtain⟨n5,hn5⟩:∃z,Hid (N5.length=z):=⟨_,rfl⟩
   replace em:nV5=.slice Am n5 cm:=by rw[em];show Value.slice Am N5.length cm=_;rw[hn5.out]
   subst em
   have k2:=hX5.cells.2.2.1
   have ht:n5=n1+t.length:=by rw[←hn5.out,←hn1.out,a2,List.length_append]
   by_cases he:n5=n1
   ·have hN:N5=N:=by
     rw[a2];rw[he] at ht
     have:t=[]:=List.length_eq_zero_iff.1 (by omega)
     rw[this,List.append_nil]
    have hf:=fin1.out w5 (a4 rfl hN) hX5.x
    clear a1 a2 a3 a4 hX5 hno5 hN ht
    subst he
    go_wp2_with fail
    exact hf
   ·have hle:=hlen.out N5 a1
    rw[hn5.out] at hle
    have hM5:leftM M q w5=M-n5:=by unfold leftM;rw[k2]
    have hb:(((n5:Nat):Int) == ((n1:Nat):Int))=false:=by simp;omega
    have hfin5:M-n5<M-n1:=by omega
    have hst5:Hid (XX w q (.slice A1 k1 c1) (.slice A2 kk c2) (N5,A5) (.slice Am n5 cm) aV5 w5∧Fine a b (N5,[])):=Lib.hid ⟨hX5,a1⟩
    replace hfin5:=Lib.hid hfin5
    replace hM5:=Lib.hid hM5
    clear a1 a2 a3 a4 hX5 hno5 ht hle
    go_wp2_with fail
    go_roundw
    case rel=>exact⟨N5,A5,_,_,hst5⟩
    case measure=>first|(rw[hM1.out,hM5.out];exact hfin5.out)|(show leftM M q w5<leftM M q wr;rw[hM1.out,hM5.out];exact hfin5.out)
end Rx
namespace Args
open Go.ChangeShapes Go.WideShapes Go.ChangeAt Go.RowKit
open Go.ChangeMaps (open_string shut_string)
open Base
theorem string_reach {H:Type} {P:Program} {ts:List TypeId} {ds:List (DataW H)} (h:(DataW.weightsEach P ts ds).all (· ≤ reachBytes)=true) {j t:Nat} {s:ByteArray}
  (ht:ts[j]?=some t) (hd:ds[j]?=some (.lit (.string s.data.toList))):s.size≤140737488351232:=by
 have:=sized_string h ht hd
 simp only[reachBytes] at this
 have e:s.data.toList.length=s.size:=Array.length_toList
 omega
theorem plain_addr {w:World} {a:Addr} {v:Value} (h:w.cell? a=some v):a=⟨a.block,a.off,none⟩:=by
 unfold World.cell? at h
 cases hs:a.spot with
 | none=>cases a;simp at hs;subst hs;rfl
 | some k=>simp[hs] at h;split at h<;>simp at h
theorem Addr.add_zero' (a:Addr):a.add 0=a:=by simp[Addr.add]
theorem strs_arg {H:Type} {enc:TypeId×Value→H} {P:Program} {W:World} {base t e:Nat} (hu:P.underlying t=some (.slice e)) (he:P.underlying e=some .string) (hc:P.cellsOf e=1)
  {v:Value} {d:DataW H} {p:List MemPlace} (hv:Value.okWide P W .any base t v) (h:DataW.Trod enc P W 0 (fun _=>true) true t v d p) :
  ∃A n c l,v=.slice A n c∧l.length=n∧Rd W A (txs l)∧n≤c∧c≤maxLen∧(A=none→c=0)∧(∀s∈l,s.size≤maxLen)∧((d=.nil∧n=0)∨∃sp,d=.slice (l.map fun s=>.lit (.string s.data.toList)) sp∧sp.length=c-n):=by
 obtain⟨A,n,c,rfl⟩:=okWide_slice hu hv
 obtain⟨fuel,hf⟩:=h
 rcases open_strings hu he hc hf with⟨hcs,hx⟩|⟨x,l,c',ss,hcs,_,hl,hm,hz,hx,hcell,hws⟩
 ·simp[Value.cells] at hcs
  obtain⟨rfl,rfl,rfl⟩:=hcs
  exact⟨none,0,0,[],rfl,rfl,Rd.nil _ _,Nat.le_refl _,Nat.zero_le _,fun _=>rfl,by simp,.inl ⟨by simpa using congrArg Prod.fst hx,rfl⟩⟩
 ·simp[Value.cells] at hcs
  obtain⟨rfl,rfl,rfl⟩:=hcs
  simp at hz
  have hd:=congrArg Prod.fst hx
  simp only at hd
  refine⟨some x,n,c,ss.take n,rfl,by simp;omega,?_,hl,hm,(fun e=>by cases e),(fun s hs=>hws s (List.mem_of_mem_take hs)),.inr ⟨_,by rw[hd];rfl,by rw[←hz];simp[ChangeShapes.strs]⟩⟩
  intro hne
  have hpos:0<ss.length:=by
   rcases Nat.eq_zero_or_pos ss.length with h|h
   ·have:ss=[]:=List.eq_nil_of_length_eq_zero h
    subst this;simp[txs] at hne
   ·exact h
  obtain⟨b,o,sp⟩:=x
  have hx0:=plain_addr (hcell 0 hpos)
  rw[Addr.add_zero'] at hx0
  simp only[Addr.mk.injEq,true_and] at hx0
  subst hx0
  refine⟨b,o,rfl,fun j u hj=>?_⟩
  have hjl:j<n∧j<ss.length:=by
   have:=(List.getElem?_eq_some_iff.1 hj).1
   simp[txs] at this
   omega
  have h1:=hcell j hjl.2
  have h2:(⟨b,o,none⟩:Addr).add j=⟨b,o+j,none⟩:=by
   unfold Addr.add;split<;>simp_all
  rw[←h2,h1]
  simp only[txs,List.getElem?_map,List.getElem?_take,hjl.1,if_true,List.getElem?_eq_getElem hjl.2,Option.map_some,Option.some.injEq] at hj
  rw[←hj]
  simp[List.getD,List.getElem?_eq_getElem hjl.2]
end Args
namespace Args
open Go.ChangeShapes Go.WideShapes Go.ChangeAt Go.RowKit
open Base Pr
structure Rdr {H α:Type} (enc:TypeId×Value→H) (P:Program) (W:World) (e:TypeId) (cells:α→List Value) (G:α→DataW H→Prop):Prop where
 rd:∀fuel cs D pl,DataW.trod enc P W 0 (fun _=>true) true fuel e cs=some (D,pl)→∃x,cs=cells x∧G x D
def Bk {H α:Type} (G:α→DataW H→Prop) (l:List α) (D:DataW H):Prop:=(D=.nil∧l=[])∨∃ds sp,D=.slice ds sp∧ds.length=l.length∧∀(i:Nat) x d,l[i]?=some x→ds[i]?=some d→G x d
theorem Bk.mono {H α:Type} {G G':α→DataW H→Prop} {l:List α} {D:DataW H} (h:Bk G l D) (hg:∀x d,G x d→G' x d):Bk G' l D:=by
 rcases h with h|⟨ds,sp,h1,h2,h3⟩
 ·exact .inl h
 ·exact .inr ⟨ds,sp,h1,h2,fun i x d a b=>hg _ _ (h3 i x d a b)⟩
theorem Bk.all {H α:Type} {G:α→DataW H→Prop} {l:List α} {D:DataW H} (h:Bk G l D):∀(i:Nat) x,l[i]?=some x→∃d,G x d:=by
 intro i x hx
 rcases h with⟨_,rfl⟩|⟨ds,sp,h1,h2,h3⟩
 ·simp at hx
 ·have hi:i<ds.length:=by rw[h2];exact (List.getElem?_eq_some_iff.1 hx).1
  exact⟨ds[i],h3 i x _ hx (List.getElem?_eq_getElem hi)⟩
theorem flatMap_at {α:Type} {cells:α→List Value} {s:Nat} (hs:∀x,(cells x).length=s):∀(l:List α) (j:Nat) (x:α),l[j]?=some x→∀i,i<s→(l.flatMap cells)[j*s+i]?=(cells x)[i]?
 | [],j,x,h,i,hi=>by simp at h
 | y::l,0,x,h,i,hi=>by
  simp at h;subst h
  rw[List.flatMap_cons,List.getElem?_append_left (by rw[hs];omega)]
  congr 1;omega
 | y::l,j+1,x,h,i,hi=>by
  have ih:=flatMap_at hs l j x (by simpa using h) i hi
  have e:(j+1)*s=j*s+s:=Nat.succ_mul j s
  rw[List.flatMap_cons,List.getElem?_append_right (by rw[hs];omega),←ih]
  congr 1
  rw[hs];omega
theorem flatMap_len {α:Type} {cells:α→List Value} {s:Nat} (hs:∀x,(cells x).length=s) (l:List α):(l.flatMap cells).length=l.length*s:=by
 induction l with
 | nil=>simp
 | cons x l ih=>rw[List.flatMap_cons,List.length_append,hs,ih,List.length_cons,Nat.succ_mul];omega
theorem Rdr.slice {H α:Type} [Inhabited α] {enc:TypeId×Value→H} {P:Program} {W:World} {t e:TypeId} {cells:α→List Value} {G:α→DataW H→Prop} (h:Rdr enc P W e cells G) (hu:P.underlying t=some (.slice e)) {s:Nat} (hce:P.cellsOf e=s) (hs:∀x,(cells x).length=s) (hp:0<s) :
  Rdr enc P W t (fun x:Value×List α=>[x.1]) (fun x D=>Sl W.heap.size W x.1 x.2.length (x.2.flatMap cells)∧Bk G x.2 D):=by
 refine⟨fun fuel cs D pl hf=>?_⟩
 rcases Deep.open_slice hu hf with⟨rfl,hx⟩|⟨a,n,c,m,k,Ds,Pl,rfl,_,hl,hm,hmm,hx,hel⟩
 ·injection hx with hx _
  exact⟨(.slice none 0 0,[]),rfl,⟨none,0,rfl,Rd.nil _ _,fun h=>absurd rfl h,Nat.le_refl _,Nat.zero_le _,fun _=>rfl⟩,.inl ⟨hx,rfl⟩⟩
 ·have hmm:m=c:=by simpa using hmm
  subst hmm
  injection hx with hx _
  have hcell:∀j,j<n→∃x:α,(∀i,i<s→W.cell? (a.add (j*s+i))=(cells x)[i]?)∧G x (Ds j):=by
   intro j hj
   obtain⟨cs',g1,g2⟩:=hel j (by omega)
   rw[hce] at g1
   obtain⟨_,hlen,hc⟩:=World.cells?_some g1
   obtain⟨x,rfl,hg⟩:=h.rd _ _ _ _ g2
   refine⟨x,fun i hi=>?_,hg⟩
   have h4:=hc i hi
   rwa [Deep.add_add] at h4
  obtain⟨f,hfz⟩:=Deep.choose_lt hcell
  have hrd:Rd W (some a) (((List.range n).map f).flatMap cells):=by
   intro hne
   have hpos:0<n:=by
    rcases Nat.eq_zero_or_pos n with h|h
    ·rw[h] at hne;simp at hne
    ·exact h
   obtain⟨b,off,spot⟩:=a
   have hspot:spot=none:=by
    have h9:=(hfz 0 hpos).1 0 hp
    rw[List.getElem?_eq_getElem (by rw[hs];exact hp)] at h9
    simpa [Addr.add] using World.cell?_spot h9
   subst hspot
   refine⟨b,off,rfl,fun j u hj=>?_⟩
   have hjl:j<n*s:=by
    have:=(List.getElem?_eq_some_iff.1 hj).1
    rw[flatMap_len hs] at this
    simpa using this
   have hd:j / s<n:=by rw[Nat.div_lt_iff_lt_mul hp];exact hjl
   have hr:j%s<s:=Nat.mod_lt _ hp
   have hje:j / s*s+j%s=j:=by rw[Nat.mul_comm];exact Nat.div_add_mod j s
   have h5:=(hfz (j / s) hd).1 (j%s) hr
   rw[hje] at h5
   rw[←Go.WideShapes.add_plain,h5]
   have h6:=flatMap_at hs ((List.range n).map f) (j / s) (f (j / s)) (by simp[hd]) (j%s) hr
   rw[hje] at h6
   rw[←h6]
   exact hj
  refine⟨(.slice (some a) n m,(List.range n).map f),rfl,⟨some a,m,by simp,hrd,fun hne a' ha=>?_,by simpa using hl,hm,fun e=>by cases e⟩,.inr ⟨_,_,hx,by simp,fun i x d h1 h2=>?_⟩⟩
  ·injection ha with ha
   subst ha
   obtain⟨b,off,e1,h7⟩:=hrd hne
   injection e1 with e1
   subst e1
   have h8:0<(((List.range n).map f).flatMap cells).length:=List.length_pos_iff.2 hne
   have h9:=h7 0 _ (List.getElem?_eq_getElem h8)
   exact World.block_lt_of_cell? W _ h9
  ·have hi:i<n:=by have:=(List.getElem?_eq_some_iff.1 h1).1;simpa using this
   simp only[List.getElem?_map,List.getElem?_range hi,Option.map_some,Option.some.injEq] at h1 h2
   subst h1;subst h2
   exact (hfz i hi).2
instance:Inhabited (Ne×V3):=⟨(neD,v0)⟩
end Args
namespace Pr
open Lx
def nodeW (d:Ne):Nat:=d.name.size+(d.syms.map fun s=>s.size+1).sum+d.items.length+(d.fields.map fun f=>f.1.size+3).sum+40
def wsum (ns:List Ne) (k:Nat):Nat:=((ns.take k).map nodeW).sum
structure Gr (ns:List Ne) (B c:Nat) (st st':WSt):Prop where
 up:st.next≤st'.next
 top:st'.next≤ns.length
 len:max st'.s.length B+wsum ns st.next≤max st.s.length B+c+wsum ns st'.next
section
variable {ns:List Ne} {B:Nat}
theorem Gr.trans {c1 c2:Nat} {a b d:WSt} (h:Gr ns B c1 a b) (k:Gr ns B c2 b d):Gr ns B (c1+c2) a d:=⟨Nat.le_trans h.up k.up,k.top,by have:=h.len;have:=k.len;omega⟩
theorem Gr.le {c1 c2:Nat} {a b:WSt} (h:Gr ns B c1 a b) (k:c1≤c2):Gr ns B c2 a b:=⟨h.up,h.top,by have:=h.len;omega⟩
theorem Gr.put {st:WSt} (h:st.next≤ns.length) (t:List UInt8):Gr ns B t.length st (st.put t):=⟨Nat.le_refl _,h,by rw[WSt.put_len];show _+wsum ns st.next≤_+wsum ns st.next;omega⟩
end
def digR (n:Int):List UInt8:=if n<0∨4096<n then [120] else Lib.itoa n
def rlist (T:WT):Bool→List Int→WSt→WSt
 | _,[],st=>st
 | first,n::l,st=>if st.bad=true then st else rlist T false l (T n (if first then st else st.put [124]))
def ritems (T:WT) (op:List UInt8) (l:List Int) (sh:List UInt8) (st:WSt):WSt:=(rlist T true l (st.put op)).put sh
def rflds (T:WT):List (ByteArray×Bool×Int)→WSt→WSt
 | [],st=>st
 | f::l,st=>if st.bad=true then st else rflds T l (wfield T f st)
def rsyms:Bool→List ByteArray→WSt→WSt
 | _,[],st=>st
 | first,x::l,st=>if 4096<st.s.length then st else rsyms false l ((if first then st else st.put [44]).put (bs x))
def rrecord (T:WT) (x:Ne) (st:WSt):WSt:=(rflds T x.fields (((st.put sRec).put (bs x.name)).put [123])).put [125]
def renum (x:Ne) (st:WSt):WSt:=(rsyms true x.syms (((st.put sEn).put (bs x.name)).put [60])).put [62]
def rfix (x:Ne) (st:WSt):WSt:=((st.put sFix).put (bs x.name)).put ([32]++digR x.size)
def rbody (T:WT) (x:Ne) (st:WSt):WSt:=
 if x.k=6 then ritems T [91] x.items [93] st
 else if x.k=7 then ritems T [123] x.items [125] st
 else if x.k=8 then ritems T [40] x.items [41] st
 else if x.k=9 then renum x st
 else if x.k=10 then rfix x st
 else if x.k=11 then rrecord T x st
 else if x.k<0∨12≤x.k then { st with bad:=true }
 else st.put (bs (wordsL.getD x.k.toNat ⟨#[]⟩))
def rtyp (ns:List Ne):Nat→WT
 | 0,n,st=>{ st with bad:=true }
 | f+1,n,st=>
  if wstop ns (f+1) n st then { st with bad:=true }
  else if n<st.next then { (st.put (bs (ns.getD n.toNat neD).name)) with bad:=decide ((ns.getD n.toNat neD).k<9) }
  else rbody (rtyp ns f) (ns.getD n.toNat neD) { st with next:=st.next+1 }
def showR (ns:List Ne):Option (List UInt8):=
 let st:=rtyp ns 20 0 ⟨[],0,false⟩
 if st.bad=true∨st.next≠ns.length then none
 else
  let r:=parseP ⟨st.s.toArray⟩
  if r.2.2≠0∨r.1.map Nd.toE≠ns then none else some st.s
def Dm (st:WSt):Prop:=st.bad=true∨4096<st.s.length
theorem Dm.put {st:WSt} (h:Dm st) (t:List UInt8):Dm (st.put t):=by
 rcases h with h|h
 ·exact .inl h
 ·right;rw[WSt.put_len];omega
def Sync (a b:WSt):Prop:=a=b∨(Dm a∧Dm b)
theorem Sync.put {a b:WSt} (h:Sync a b) (t:List UInt8):Sync (a.put t) (b.put t):=by
 rcases h with rfl|⟨h,k⟩
 ·exact .inl rfl
 ·exact .inr ⟨h.put t,k.put t⟩
theorem WSt.put_put (st:WSt) (a b:List UInt8):(st.put a).put b=st.put (a++b):=by simp[WSt.put]
def TD (T:WT):Prop:=∀n st,Dm st→Dm (T n st)
theorem wtyp_dm (ns:List Ne) (f:Nat):TD (wtyp ns f):=fun n st h=>by
 cases f with
 | zero=>exact .inl rfl
 | succ f=>
  rw[wtyp,if_pos]
  ·exact .inl rfl
  ·rcases h with h|h
   ·exact .inl h
   ·exact .inr (.inr (.inr (.inr (.inr h))))
theorem rtyp_dm (ns:List Ne) (f:Nat):TD (rtyp ns f):=fun n st h=>by
 cases f with
 | zero=>exact .inl rfl
 | succ f=>
  rw[rtyp,if_pos]
  ·exact .inl rfl
  ·rcases h with h|h
   ·exact .inl h
   ·exact .inr (.inr (.inr (.inr (.inr h))))
theorem wlist_dm {T:WT} (hT:TD T):∀(b:Bool) (l:List Int) (st:WSt),Dm st→Dm (wlist T b l st)
 | _,[],st,h=>h
 | b,n::l,st,h=>by
  rw[wlist]
  refine wlist_dm hT false l _ (hT _ _ ?_)
  split
  ·exact h
  ·exact h.put _
theorem wfield_dm {T:WT} (hT:TD T) (f:ByteArray×Bool×Int) (st:WSt) (h:Dm st):Dm (wfield T f st):=by
 unfold wfield
 refine (hT _ _ (Dm.put ?_ _)).put _
 split
 ·exact (h.put _).put _
 ·exact h.put _
theorem wflds_dm {T:WT} (hT:TD T):∀(l:List (ByteArray×Bool×Int)) (st:WSt),Dm st→Dm (wflds T l st)
 | [],st,h=>h
 | f::l,st,h=>by rw[wflds];exact wflds_dm hT l _ (wfield_dm hT f st h)
section
variable {T U:WT}
def TSy (T U:WT):Prop:=∀n a b,Sync a b→Sync (T n a) (U n b)
theorem list_sync (h:TSy T U) (hT:TD T) (hU:TD U):∀(first:Bool) (l:List Int) (a b:WSt),Sync a b→Sync (wlist T first l a) (rlist U first l b)
 | _,[],a,b,hs=>hs
 | first,n::l,a,b,hs=>by
  rw[wlist,rlist]
  have h1:Sync (if first=true then a else a.put [124]) (if first=true then b else b.put [124]):=by
   split
   ·exact hs
   ·exact hs.put _
  by_cases hbb:b.bad=true
  ·rw[if_pos hbb]
   have hb:Dm b:=.inl hbb
   have ha:Dm a:=by
    rcases hs with rfl|hs
    ·exact hb
    ·exact hs.1
   refine .inr ⟨?_,hb⟩
   refine wlist_dm hT false l _ (hT _ _ ?_)
   split
   ·exact ha
   ·exact ha.put _
  ·rw[if_neg hbb]
   exact list_sync h hT hU false l _ _ (h n _ _ h1)
theorem items_sync (h:TSy T U) (hT:TD T) (hU:TD U) (op:List UInt8) (l:List Int) (sh:List UInt8) (a b:WSt) (hs:Sync a b):Sync (witems T op l sh a) (ritems U op l sh b):=
 (list_sync h hT hU true l _ _ (hs.put op)).put sh
theorem field_sync (h:TSy T U) (f:ByteArray×Bool×Int) (a b:WSt) (hs:Sync a b):Sync (wfield T f a) (wfield U f b):=by
 unfold wfield
 refine (h _ _ _ (Sync.put ?_ _)).put _
 split
 ·exact (hs.put _).put _
 ·exact hs.put _
theorem flds_sync (h:TSy T U) (hT:TD T) (hU:TD U):∀(l:List (ByteArray×Bool×Int)) (a b:WSt),Sync a b→Sync (wflds T l a) (rflds U l b)
 | [],a,b,hs=>hs
 | f::l,a,b,hs=>by
  rw[wflds,rflds]
  split
  ·next hb=>
   have hb:Dm b:=.inl hb
   have ha:Dm a:=by
    rcases hs with rfl|hs
    ·exact hb
    ·exact hs.1
   exact .inr ⟨wflds_dm hT l _ (wfield_dm hT f a ha),hb⟩
  ·exact flds_sync h hT hU l _ _ (field_sync h f a b hs)
theorem rsyms_dm:∀(first:Bool) (l:List ByteArray) (st:WSt),Dm st→Dm (rsyms first l st)
 | _,[],st,h=>h
 | b,n::l,st,h=>by
  rw[rsyms]
  split
  ·exact h
  ·refine rsyms_dm false l _ (Dm.put ?_ _)
   split
   ·exact h
   ·exact h.put _
theorem syms_sync:∀(first:Bool) (l:List ByteArray) (a:WSt),Sync (a.put ((if first=true∨l=[] then [] else [44])++([44]:List UInt8).intercalate (l.map bs))) (rsyms first l a)
 | first,[],a=>.inl (by simp[rsyms,WSt.put])
 | first,x::l,a=>by
  rw[rsyms]
  by_cases hbb:4096<a.s.length
  ·have hb:Dm a:=.inr hbb
   rw[if_pos hbb]
   exact .inr ⟨hb.put _,hb⟩
  ·rw[if_neg hbb]
   have ih:=syms_sync false l ((if first=true then a else a.put [44]).put (bs x))
   have e:a.put ((if first=true∨x::l=[] then [] else [44])++([44]:List UInt8).intercalate ((x::l).map bs))=((if first=true then a else a.put [44]).put (bs x)).put ((if false=true∨l=[] then [] else [44])++([44]:List UInt8).intercalate (l.map bs)):=by
    cases first<;>cases l<;>simp[WSt.put,List.intercalate]
   rw[e]
   exact ih
theorem enum_sync (x:Ne) (a b:WSt) (hs:Sync a b):Sync (a.put (sEn++bs x.name++[60]++([44]:List UInt8).intercalate (x.syms.map bs)++[62])) (renum x b):=by
 rcases hs with rfl|⟨ha,hb⟩
 ·have h:=(syms_sync true x.syms (((a.put sEn).put (bs x.name)).put [60])).put [62]
  have e:((((a.put sEn).put (bs x.name)).put [60]).put ((if true=true∨x.syms=[] then [] else [44])++([44]:List UInt8).intercalate (x.syms.map bs))).put [62]=a.put (sEn++bs x.name++[60]++([44]:List UInt8).intercalate (x.syms.map bs)++[62]):=by
   simp[WSt.put_put]
  rw[e] at h
  exact h
 ·exact .inr ⟨ha.put _,(rsyms_dm _ _ _ (((hb.put _).put _).put _)).put _⟩
theorem record_sync (h:TSy T U) (hT:TD T) (hU:TD U) (x:Ne) (a b:WSt) (hs:Sync a b):Sync (wrecord T x a) (rrecord U x b):=by
 unfold wrecord rrecord
 refine (flds_sync h hT hU x.fields _ _ ?_).put _
 rw[show a.put (sRec++bs x.name++[123])=((a.put sRec).put (bs x.name)).put [123] by simp[WSt.put_put]]
 exact ((hs.put _).put _).put _
theorem body_sync (h:TSy T U) (hT:TD T) (hU:TD U) (x:Ne) (a b:WSt) (hs:Sync a b) (hz:0≤x.size∧x.size≤4096):Sync (wbody T x a) (rbody U x b):=by
 unfold wbody rbody
 split
 ·exact items_sync h hT hU _ _ _ _ _ hs
 ·split
  ·exact items_sync h hT hU _ _ _ _ _ hs
  ·split
   ·exact items_sync h hT hU _ _ _ _ _ hs
   ·split
    ·exact enum_sync x a b hs
    ·split
     ·unfold rfix digR
      rw[if_neg (by omega),WSt.put_put,WSt.put_put]
      have:=hs.put (sFix++bs x.name++[32]++Lib.itoa x.size)
      simpa using this
     ·split
      ·exact record_sync h hT hU x a b hs
      ·split
       ·exact .inr ⟨.inl rfl,.inl rfl⟩
       ·exact hs.put _
end
theorem typ_sync (ns:List Ne) (hz:∀d∈ns,0≤d.size∧d.size≤4096):∀f,TSy (wtyp ns f) (rtyp ns f)
 | 0,n,a,b,hs=>.inr ⟨.inl rfl,.inl rfl⟩
 | f+1,n,a,b,hs=>by
  rcases hs with rfl|⟨ha,hb⟩
  ·rw[wtyp,rtyp]
   split
   ·exact .inl rfl
   ·next hst=>
    split
    ·exact .inl rfl
    ·have hx:ns.getD n.toNat neD∈ns:=by
      unfold wstop at hst
      simp only[not_or,Int.not_lt,Int.not_le] at hst
      have hlt:n.toNat<ns.length:=by omega
      rw[List.getD,List.getElem?_eq_getElem hlt]
      exact List.getElem_mem hlt
     exact body_sync (typ_sync ns hz f) (wtyp_dm ns f) (rtyp_dm ns f) _ _ _ (.inl rfl) (hz _ hx)
  ·exact .inr ⟨wtyp_dm ns _ n a ha,rtyp_dm ns _ n b hb⟩
theorem parse_long {s:List UInt8} (h:4096<s.length):(parseP ⟨s.toArray⟩).2.2≠0:=by
 have hs:4096<(⟨s.toArray⟩:ByteArray).size:=by simpa [ByteArray.size] using h
 unfold parseP
 cases hw:words ⟨s.toArray⟩ with
 | some r=>
  obtain⟨p,er⟩:=r
  rcases words_er hw with rfl|rfl<;>simp
 | none=>
  have:=(words_ok hw).1
  omega
theorem show_dm {ns:List Ne} {st:WSt} (h:Dm st) (o:Option (List UInt8)) (ho:o=if st.bad=true∨st.next≠ns.length then none else if (parseP ⟨st.s.toArray⟩).2.2≠0∨(parseP ⟨st.s.toArray⟩).1.map Nd.toE≠ns then none else some st.s):o=none:=by
 rw[ho]
 rcases h with h|h
 ·rw[if_pos (.inl h)]
 ·split
  ·rfl
  ·rw[if_pos (.inl (parse_long h))]
theorem show_szs {ns:List Ne} {st:WSt} {t:List UInt8} (h:(if st.bad=true∨st.next≠ns.length then none else if (parseP ⟨st.s.toArray⟩).2.2≠0∨(parseP ⟨st.s.toArray⟩).1.map Nd.toE≠ns then none else some st.s)=some t):∀d∈ns,0≤d.size∧d.size≤4096:=by
 split at h
 ·cases h
 ·split at h
  ·cases h
  ·next hn=>
   simp only[not_or,ne_eq,Decidable.not_not] at hn
   intro d hd
   rw[←hn.2] at hd
   obtain⟨e,he,rfl⟩:=List.mem_map.1 hd
   exact parse_sizes _ e he
theorem show_r (ns:List Ne):showR ns=showP ns:=by
 by_cases hz:∀d∈ns,0≤d.size∧d.size≤4096
 ·rcases typ_sync ns hz 20 0 ⟨[],0,false⟩ ⟨[],0,false⟩ (.inl rfl) with h|⟨h,k⟩
  ·unfold showR showP
   rw[h]
  ·rw[show_dm (ns:=ns) h (showP ns) rfl,show_dm (ns:=ns) k (showR ns) rfl]
 ·have h1:showP ns=none:=by
   cases h:showP ns with
   | none=>rfl
   | some t=>exact absurd (show_szs h) hz
  have h2:showR ns=none:=by
   cases h:showR ns with
   | none=>rfl
   | some t=>exact absurd (show_szs h) hz
  rw[h1,h2]
/- how long it can become -/
section
variable {ns:List Ne} {B:Nat}
theorem digR_len (n:Int) (hz : -9223372036854775808≤n∧n≤9223372036854775807):(digR n).length≤21:=by
 unfold digR
 split
 ·simp
 ·exact Lib.itoa_length_le n hz.1 hz.2
end
def showRLen (ns:List Ne):Nat:=(rtyp ns 20 0 ⟨[],0,false⟩).s.length
theorem rlist_len {T:WT} (h:WG T):∀(b:Bool) (l:List Int) (st:WSt),st.s.length≤(rlist T b l st).s.length
 | _,[],st=>Nat.le_refl _
 | b,n::l,st=>by
  rw[rlist]
  split
  ·exact Nat.le_refl _
  ·refine Nat.le_trans ?_ (rlist_len h false l _)
   refine Nat.le_trans ?_ (h n _)
   split
   ·exact Nat.le_refl _
   ·rw[WSt.put_len];omega
theorem rflds_len {T:WT} (h:WG T):∀(l:List (ByteArray×Bool×Int)) (st:WSt),st.s.length≤(rflds T l st).s.length
 | [],st=>Nat.le_refl _
 | f::l,st=>by
  rw[rflds]
  split
  ·exact Nat.le_refl _
  ·exact Nat.le_trans (wfield_len h f st) (rflds_len h l _)
theorem rsyms_len:∀(b:Bool) (l:List ByteArray) (st:WSt),st.s.length≤(rsyms b l st).s.length
 | _,[],st=>Nat.le_refl _
 | b,x::l,st=>by
  rw[rsyms]
  split
  ·exact Nat.le_refl _
  ·refine Nat.le_trans ?_ (rsyms_len false l _)
   rw[WSt.put_len]
   split
   ·omega
   ·rw[WSt.put_len];omega
theorem rbody_len {T:WT} (h:WG T) (x:Ne) (st:WSt):st.s.length≤(rbody T x st).s.length:=by
 unfold rbody
 have hi:∀(a b:UInt8),st.s.length≤(ritems T [a] x.items [b] st).s.length:=fun a b=>by
  unfold ritems
  rw[WSt.put_len]
  have:=rlist_len h true x.items (st.put [a])
  rw[WSt.put_len] at this
  omega
 split
 ·exact hi _ _
 ·split
  ·exact hi _ _
  ·split
   ·exact hi _ _
   ·split
    ·unfold renum
     rw[WSt.put_len]
     have:=rsyms_len true x.syms (((st.put sEn).put (bs x.name)).put [60])
     rw[WSt.put_len,WSt.put_len,WSt.put_len] at this
     omega
    ·split
     ·unfold rfix;rw[WSt.put_len,WSt.put_len,WSt.put_len];omega
     ·split
      ·unfold rrecord
       rw[WSt.put_len]
       have:=rflds_len h x.fields (((st.put sRec).put (bs x.name)).put [123])
       rw[WSt.put_len,WSt.put_len,WSt.put_len] at this
       omega
      ·split
       ·exact Nat.le_refl _
       ·rw[WSt.put_len];omega
theorem rtyp_len (ns:List Ne):∀f,WG (rtyp ns f)
 | 0,n,st=>Nat.le_refl _
 | f+1,n,st=>by
  rw[rtyp]
  split
  ·exact Nat.le_refl _
  ·split
   ·show _≤(st.put _).s.length
    rw[WSt.put_len];omega
   ·exact rbody_len (rtyp_len ns f) _ { st with next:=st.next+1 }
end Pr
namespace Pr
open Go.ChangeShapes Go.WideShapes Go.ChangeAt Go.RowKit
open Base Lx Mi
def refL:List ByteArray:=[sNull,sBool,sInt,sLong,sBytes,sText,cSqO,cCuO,cPaO,sEnum,sFixed,sRecord]
def refKw (s:ByteArray):Bool:=decide (0≤idxOf refL s) && (decide (idxOf refL s<6) || decide (8<idxOf refL s))
theorem idxOf_mem {l:List ByteArray} {s:ByteArray}:0≤idxOf l s↔s∈l:=by
 have h:=idxOf_in l s
 constructor
 ·intro h0
  rw[decide_eq_true h0] at h
  simpa using h.symm
 ·intro hm
  have:(l.any fun y=>decide (y=s))=true:=by simpa using hm
  rw[this] at h
  simpa using h
theorem kw_eq (s:ByteArray):kwP s=refKw s:=by
 by_cases h:s∈refL
 ·simp only[refL,List.mem_cons,List.not_mem_nil,or_false] at h
  rcases h with rfl|rfl|rfl|rfl|rfl|rfl|rfl|rfl|rfl|rfl|rfl|rfl<;>decide +kernel
 ·have h1:¬0≤idxOf refL s:=fun e=>h (idxOf_mem.1 e)
  have h2:refKw s=false:=by simp[refKw,h1]
  rw[h2]
  unfold kwP
  by_cases h3:0≤idxOf wordsL s
  ·have h4:=idxOf_mem.1 h3
   simp only[wordsL,List.mem_cons,List.not_mem_nil,or_false] at h4
   simp only[refL,List.mem_cons,List.not_mem_nil,or_false,not_or] at h
   have:s=⟨#[]⟩:=by
    rcases h4 with e|e|e|e|e|e|e|e|e|e|e|e
    ·exact absurd e h.1
    ·exact absurd e h.2.1
    ·exact absurd e h.2.2.1
    ·exact absurd e h.2.2.2.1
    ·exact absurd e h.2.2.2.2.1
    ·exact absurd e h.2.2.2.2.2.1
    ·exact e
    ·exact e
    ·exact e
    ·exact absurd e h.2.2.2.2.2.2.2.2.2.1
    ·exact absurd e h.2.2.2.2.2.2.2.2.2.2.1
    ·exact absurd e h.2.2.2.2.2.2.2.2.2.2.2
   simp[this]
  ·simp[h3]
theorem word_any (s:ByteArray) (w:World):Calls Tryz.prog 85 #[.string s] w fun e w'=>e=.returned (.int .i64 (idxOf refL s))∧Ext w w':=by
 obtain⟨R,hR⟩:∃R,Hid (idxOf refL s=R):=⟨_,Lib.hid rfl⟩
 rw[hR.out]
 obtain⟨w1,hw1⟩:∃z,Hid (w.alloc (.cells (txs refL).toArray 9)=z):=⟨_,Lib.hid rfl⟩
 have hx1:Ext w w1:=by rw[←hw1.out];exact (Ext.refl w).alloc _
 have hr1:Rd w1 (some ⟨w.heap.size,0,none⟩) (txs refL):=by rw[←hw1.out];exact Rd.of_block w 9 (0,0) rfl
 obtain⟨q,hq⟩:∃z,Hid (w.heap.size=z):=⟨_,rfl⟩
 rw[hq.out] at hr1
 have hw2:Hid (w.alloc (.cells #[.string ⟨#[110,117,108,108]⟩,.string ⟨#[98,111,111,108]⟩,.string ⟨#[105,110,116]⟩,.string ⟨#[108,111,110,103]⟩,.string ⟨#[98,121,116,101,115]⟩,.string ⟨#[116,101,120,116]⟩,.string ⟨#[91]⟩,.string ⟨#[123]⟩,.string ⟨#[40]⟩,.string ⟨#[101,110,117,109]⟩,.string ⟨#[102,105,120,101,100]⟩,.string ⟨#[114,101,99,111,114,100]⟩] 9)=w1):=hw1
 clear hw1
 go_enter Tryz.func85,Tryz.ntmps85
 go_wp2_with fail
 rw[hw2.out,hq.out]
 go_loopw [4,6,7,8,9,10,11,12,13,14,15,16,17,18] (fun v4 v6 v7 v8 v9 v10 v11 v12 v13 v14 v15 v16 v17 v18 wr=>∃i:Nat,i≤12∧v4=.int .i64 i∧NoAt refL i s∧wr=w1) (fun v4 _ _ _ _ _ _ _ _ _ _ _ _ _ _=>12-(intOf v4).toNat)
 case atStart=>exact⟨0,by omega,rfl,NoAt.zero refL s,rfl⟩
 case round=>
  obtain⟨i,hi,rfl,h1,rfl⟩:=hrel
  by_cases hin:i<12
  ·have hin':(i:Int)<12:=by omega
   obtain⟨x,hxe⟩:∃x,refL[i]?=some x:=⟨_,List.getElem?_eq_getElem (by show i<12;exact hin)⟩
   have hxz:(txs refL)[i]?=some (.string x):=by unfold txs;rw[List.getElem?_map,hxe];rfl
   obtain⟨b0,o0,e0,hc0⟩:=hr1 (by simp[txs,refL])
   simp only[Option.some.injEq,Addr.mk.injEq,and_true] at e0
   obtain⟨rfl,rfl⟩:=e0
   have hck:wr.cell? ⟨q,i,none⟩=some (.string x):=by have:=hc0 i _ hxz;rwa [Nat.zero_add] at this
   clear hc0 hxz
   by_cases he:x=s
   ·subst he
    have hq:=idxOf_at hxe h1
    rw[hR.out] at hq
    subst hq
    clear hxe
    go_wp2_with fail
    go_ret
    exact⟨rfl,hx1⟩
   ·have hbq:=str_ne he
    have h2:=h1.next hxe he
    clear hxe
    go_wp2_with fail
    go_roundw
    case rel=>exact⟨i+1,by omega,by go_num,h2,by first|rfl|trivial⟩
    case measure=>simp[intOf];omega
  ·obtain rfl:i=12:=by omega
   have hq:R = -1:=by
    rw[←hR.out]
    exact idxOf_none fun j x hx=>h1 j x (by have:=(List.getElem?_eq_some_iff.1 hx).1;exact this) hx
   subst hq
   go_wp2_with fail
   go_ret
   exact⟨rfl,hx1⟩
theorem refKeyword_any (s:ByteArray) (w:World):Calls Tryz.prog 108 #[.string s] w fun e w'=>e=.returned (.bool (refKw s))∧Ext w w':=by
 have hc:=word_any s w
 obtain⟨k,hk⟩:∃k,Hid (idxOf refL s=k):=⟨_,Lib.hid rfl⟩
 have hr:refKw s=(decide (0≤k) && (decide (k<6) || decide (8<k))):=by rw[←hk.out];rfl
 rw[hk.out] at hc
 rw[hr]
 clear hr
 by_cases h0:0≤k
 ·by_cases h6:k<6
  ·rw[show (decide (0≤k) && (decide (k<6) || decide (8<k)))=true by simp[h0,h6]]
   go_enter Tryz.func108,Tryz.ntmps108
   go_wp2_with fail
   refine hc.mono ?_
   rintro e w2 ⟨rfl,hx⟩
   go_wp2_with fail
   go_ret
   exact⟨by first|rfl|simp[*],hx⟩
  ·by_cases h8:8<k
   ·rw[show (decide (0≤k) && (decide (k<6) || decide (8<k)))=true by simp[h0,h8]]
    go_enter Tryz.func108,Tryz.ntmps108
    go_wp2_with fail
    refine hc.mono ?_
    rintro e w2 ⟨rfl,hx⟩
    go_wp2_with fail
    go_ret
    exact⟨by first|rfl|simp[*],hx⟩
   ·rw[show (decide (0≤k) && (decide (k<6) || decide (8<k)))=false by simp[h6,h8]]
    go_enter Tryz.func108,Tryz.ntmps108
    go_wp2_with fail
    refine hc.mono ?_
    rintro e w2 ⟨rfl,hx⟩
    go_wp2_with fail
    go_ret
    exact⟨by first|rfl|simp[*],hx⟩
 ·rw[show (decide (0≤k) && (decide (k<6) || decide (8<k)))=false by simp[h0]]
  go_enter Tryz.func108,Tryz.ntmps108
  go_wp2_with fail
  refine hc.mono ?_
  rintro e w2 ⟨rfl,hx⟩
  go_wp2_with fail
  go_ret
  exact⟨by first|rfl|simp[*],hx⟩
end Pr
end Go.Proofs.YtmaoochjbpohdaaGreatDoor
