/- resolve: the greatest relation of two schemas' nodes, step by step: walked. -/
import Derived.Test.YtmaoochjbpohdaaGreatDoorPvL
import Derived.Deep.LoopGhost
set_option linter.unusedVariables false
set_option linter.unusedSimpArgs false
set_option maxRecDepth 100000
set_option maxHeartbeats 1000000
namespace Go.Proofs.YtmaoochjbpohdaaGreatDoor
namespace Rv
open Go.ChangeShapes Go.WideShapes Go.ChangeAt Go.RowKit
open Base Lx Mi Pr Mp
theorem getD_mem {l:List Ne} {i:Nat} (h:i<l.length):l.getD i neD∈l:=by
 rw[List.getD,List.getElem?_eq_getElem h];exact List.getElem_mem h
structure RS (a b:List Ne) (va vb:Value) (w0:World) (bx bm c0:Nat) (N:Rel) (gb:Bool) (i k:Nat) (W:World):Prop where
 rx:RX W bx bm (cnt N b.length a.length) va vb N
 al:AllIn a b N
 inn:Inn a b N
 c:c0≤cnt N b.length a.length
 yes:gb=true→c0<cnt N b.length a.length
 no:gb=false→Ahead a b N i k
 x:Ext w0 W
structure RT (a b:List Ne) (va vb:Value) (w0:World) (bx bm:Nat) (N:Rel) (gb:Bool) (W:World):Prop where
 rx:RX W bx bm (cnt N b.length a.length) va vb N
 al:AllIn a b N
 inn:Inn a b N
 no:gb=false→Stays a b (notR N)
 x:Ext w0 W
section
variable {a b:List Ne} {va vb:Value} {w0:World} {bx bm c0:Nat} {N:Rel} {gb:Bool} {i k:Nat} {W:World}
theorem RS.ext {W':World} (h:RS a b va vb w0 bx bm c0 N gb i k W) (hx:Ext W W'):RS a b va vb w0 bx bm c0 N gb i k W':=⟨h.rx.ext hx,h.al,h.inn,h.c,h.yes,h.no,h.x.trans hx⟩
theorem rs_skip (h:RS a b va vb w0 bx bm c0 N gb i k W) (hN:N i k=true):RS a b va vb w0 bx bm c0 N gb i (k+1) W:=
 ⟨h.rx,h.al,h.inn,h.c,h.yes,fun e=>ahead_next (h.no e) (fun x y _ _ hn=>(by rw[hN] at hn;cases hn)),h.x⟩
theorem rs_holds (h:RS a b va vb w0 bx bm c0 N gb i k W) (hh:holdP (fun p q => !N p q) (a.getD i neD) (b.getD k neD) i k=true):RS a b va vb w0 bx bm c0 N gb i (k+1) W:=
 ⟨h.rx,h.al,h.inn,h.c,h.yes,fun e=>ahead_next (h.no e) (fun x y hx hy _=>by
  have e1:a.getD i neD=x:=by rw[List.getD,hx];rfl
  have e2:b.getD k neD=y:=by rw[List.getD,hy];rfl
  rw[e1,e2] at hh
  exact hh),h.x⟩
theorem rs_row {n:Nat} (h:RS a b va vb w0 bx bm c0 N gb i n W) (hn:b.length=n):RS a b va vb w0 bx bm c0 N gb (i+1) 0 W:=⟨h.rx,h.al,h.inn,h.c,h.yes,fun e=>ahead_row (by rw[hn];exact h.no e),h.x⟩
theorem rs_round {n:Nat} (h:RS a b va vb w0 bx bm c0 N gb n 0 W) (hn:a.length=n):RT a b va vb w0 bx bm N gb W:=⟨h.rx,h.al,h.inn,fun e=>ahead_all (by rw[hn];exact h.no e),h.x⟩
theorem rs_put {W':World} (h:RS a b va vb w0 bx bm c0 N gb i k W) (hN:N i k=false) (hh:holdP (fun p q => !N p q) (a.getD i neD) (b.getD k neD) i k=false) (hi:i<a.length) (hk:k<b.length)
  (hM:MapB Tryz.prog 112 4 W' bm (cnt N b.length a.length+1) (putN N i k)) (hg:W.grownBy W' (some bm)) (hne:bx≠bm) (hbm:w0.heap.size≤bm):RS a b va vb w0 bx bm c0 (putN N i k) true i (k+1) W':=by
 have hx:a[i]?=some (a.getD i neD):=by simp[List.getD,List.getElem?_eq_getElem hi]
 have hy:b[k]?=some (b.getD k neD):=by simp[List.getD,List.getElem?_eq_getElem hk]
 have hc:=cnt_put N b.length i k hN hk a.length hi
 have h1:=h.c
 exact⟨⟨h.rx.blk.grown hg (fun e=>hne (by injection e)),by rw[hc];exact hM⟩,allIn_put h.al h.inn hx hy hh,inn_put h.inn hi hk,by omega,fun _=>by omega,fun e=>(by cases e),h.x.then_grown hg (fun m hm=>by injection hm with hm;omega)⟩
end
set_option maxHeartbeats 4000000 in
theorem related_some (a b:List Ne) (va vb:Value) (w:World) (hSa:Sch w.heap.size w va a) (hSb:Sch w.heap.size w vb b) (hwd:Wd w) (hpow:Pow w) (hLa:showLen a≤100000000) (hLb:showLen b≤100000000)
  (ta tb:List UInt8) (hta:showP a=some ta) (htb:showP b=some tb) (hla:a.length≤1500) (hlb:b.length≤1500) (hwa:∀d∈a,WE a.length d) (hwb:∀d∈b,WE b.length d) :
  Calls Tryz.prog 49 #[.agg #[va],.agg #[vb]] w fun en w'=>(∃bx bm n N,en=.returned (.pointer (some ⟨bx,0,none⟩))∧RX w' bx bm n va vb N∧Stays a b (notR N)∧AllIn a b N)∧Ext w w':=by
 obtain⟨na,hna⟩:∃z,Hid (a.length=z):=⟨_,rfl⟩
 obtain⟨nb,hnb⟩:∃z,Hid (b.length=z):=⟨_,rfl⟩
 obtain⟨Aa,ca,rfl⟩:∃A c,va=.slice A na c:=by
  obtain⟨vs,_,⟨A,c,e,_⟩,_⟩:=hSa
  exact⟨A,c,by rw[e,hna.out]⟩
 obtain⟨Ab,cb,rfl⟩:∃A c,vb=.slice A nb c:=by
  obtain⟨vs,_,⟨A,c,e,_⟩,_⟩:=hSb
  exact⟨A,c,by rw[e,hnb.out]⟩
 have hsa:=fun W (hW:Ext w W)=>show_any _ a W ((hSa.below hW).mono hW.size) (hwd.ext hW) (hpow.ext hW) hLa
 have hsb:=fun W (hW:Ext w W)=>show_any _ b W ((hSb.below hW).mono hW.size) (hwd.ext hW) (hpow.ext hW) hLb
 simp only[hta,shV] at hsa
 simp only[htb,shV] at hsb
 obtain⟨sa,hsa'⟩:∃z,Hid ((⟨ta.toArray⟩:ByteArray)=z):=⟨_,rfl⟩
 obtain⟨sb,hsb'⟩:∃z,Hid ((⟨tb.toArray⟩:ByteArray)=z):=⟨_,rfl⟩
 simp only[hsa'.out] at hsa
 simp only[hsb'.out] at hsb
 clear hta htb hLa hLb
 obtain⟨w1,hw1⟩:∃z,Hid (w.alloc (.cells #[.slice Aa na ca] 24)=z):=⟨_,rfl⟩
 obtain⟨w2,hw2⟩:∃z,Hid (w1.alloc (.cells #[.slice Ab nb cb] 24)=z):=⟨_,rfl⟩
 have hx1:Ext w w1:=by rw[←hw1.out];exact (Ext.refl w).alloc _
 have hx12:Ext w1 w2:=by rw[←hw2.out];exact (Ext.refl w1).alloc _
 obtain⟨q2,hq2⟩:∃z,Hid (w.heap.size=z):=⟨_,rfl⟩
 obtain⟨q3,hq3⟩:∃z,Hid (w.heap.size+1=z):=⟨_,rfl⟩
 have hs1:w1.heap.size=w.heap.size+1:=by rw[←hw1.out];simp
 have b2:Blk w2 q2 #[.slice Aa na ca] 24:=by rw[←hq2.out];exact (by rw[←hw1.out];exact Blk.new w _ _:Blk w1 w.heap.size #[.slice Aa na ca] 24).ext hx12
 have b3:Blk w2 q3 #[.slice Ab nb cb] 24:=by rw[←hq3.out,←hs1,←hw2.out];exact Blk.new w1 _ _
 have hx2:=hx1.trans hx12
 obtain⟨PO,hPO⟩:∃PO:Ending→World→Prop,Hid ((fun en w'=>(∃bx bm n N,en=.returned (.pointer (some ⟨bx,0,none⟩))∧RX w' bx bm n (.slice Aa na ca) (.slice Ab nb cb) N∧Stays a b (notR N)∧AllIn a b N)∧Ext w w')=PO):=⟨_,Lib.hid rfl⟩
 rw[hPO.out]
 have fin:∀bx bm n N W,RX W bx bm n (.slice Aa na ca) (.slice Ab nb cb) N→Stays a b (notR N)→AllIn a b N→Ext w W→PO (.returned (.pointer (some ⟨bx,0,none⟩))) W:=fun bx bm n N W h1 h2 h3 h4=>by rw[←hPO.out];exact⟨⟨bx,bm,n,N,rfl,h1,h2,h3⟩,h4⟩
 replace fin:=Lib.hid fin
 have hhold:=fun W (hW:Ext w W) bx bm n N (h:RX W bx bm n (.slice Aa na ca) (.slice Ab nb cb) N) i k (hi:i<a.length) (hk:k<b.length)=>holds_any a b _ _ h (hSa.below hW) (hSb.below hW) hW.size hi hk (by omega) (by omega) (hwa _ (getD_mem hi)) (hwb _ (getD_mem hk))
 replace hhold:=Lib.hid hhold
 clear hSa hSb
 have k2:=b2.cell 0
 have k3:=b3.cell 0
 simp only[List.getElem?_toArray,List.getElem?_cons_zero] at k2 k3
 have hla':na≤1500:=by rw[←hna.out];exact hla
 have hlb':nb≤1500:=by rw[←hnb.out];exact hlb
 clear hla hlb hwa hwb
 have hs2:=hsa w2 hx2
 replace hsb:=Lib.hid hsb
 clear hsa hs1
 go_enter Tryz.func49,Tryz.ntmps49
 go_wp2_with fail
 rw[hw1.out,hw2.out,hq3.out,hq2.out]
 refine hs2.mono ?_
 rintro en w3 ⟨rfl,hx3⟩
 clear hs2
 have hs3:=hsb.out w3 (hx2.trans hx3)
 have k3':=hx3.cell k3
 go_wp2_with fail
 refine hs3.mono ?_
 rintro en w4 ⟨rfl,hx4⟩
 clear hs3
 have hx24:=hx3.trans hx4
 have j2:=hx24.cell k2
 have j3:=hx24.cell k3
 have hm5:=MapB.made Tryz.prog 112 4 w4
 obtain⟨w5,hw5⟩:∃z,Hid (w4.alloc (.map #[] 0)=z):=⟨_,rfl⟩
 obtain⟨bm,hbm⟩:∃z,Hid (w4.heap.size=z):=⟨_,rfl⟩
 rw[hw5.out,hbm.out] at hm5
 have hx45:Ext w4 w5:=by rw[←hw5.out];exact (Ext.refl w4).alloc _
 obtain⟨w6,hw6⟩:∃z,Hid (w5.alloc (.cells #[.slice Aa na ca,.slice Ab nb cb,.map (some bm)] 110)=z):=⟨_,rfl⟩
 obtain⟨bx,hbx⟩:∃z,Hid (bm+1=z):=⟨_,rfl⟩
 have hs5:w5.heap.size=bm+1:=by rw[←hw5.out,←hbm.out];simp
 have hx56:Ext w5 w6:=by rw[←hw6.out];exact (Ext.refl w5).alloc _
 have hb6:Blk w6 bx #[.slice Aa na ca,.slice Ab nb cb,.map (some bm)] 110:=by rw[←hbx.out,←hs5,←hw6.out];exact Blk.new w5 _ _
 have hx46:=hx45.trans hx56
 have hne:bx≠bm:=by have:=hbx.out;omega
 have hrx6:RX w6 bx bm 0 (.slice Aa na ca) (.slice Ab nb cb) (fun _ _=>false):=⟨hb6,hm5.ext hx56⟩
 have hc0:cnt (fun _ _=>false) b.length a.length=0:=cnt_none (fun _ _=>rfl) _ _
 have hbm4:w4.heap.size≤bm:=by rw[hbm.out];exact Nat.le_refl _
 replace hbm4:=Lib.hid hbm4
 replace hne:=Lib.hid hne
 have hw4:Ext w w4:=hx2.trans hx24
 clear hsb hm5 hb6 k2 k3 k3'
 have hmm:=@run_makeMap Tryz.prog
 go_wp2_with fail
 rw[hw5.out,hbm.out,hw6.out,hbx.out]
 clear hmm
 replace hrx6:=Lib.hid hrx6
 replace hc0:=Lib.hid hc0
 go_loopg [10,11,12,32,33,34,35,36,37,38,39,40,41,42,43,44,45,46,47,48,49,50,51,52,53,54,55,56,57,58,59,60,61,62,63,64,65,66] (2*(na*nb)+1) (fun g v10 v11 v12 v32 v33 v34 v35 v36 v37 v38 v39 v40 v41 v42 v43 v44 v45 v46 v47 v48 v49 v50 v51 v52 v53 v54 v55 v56 v57 v58 v59 v60 v61 v62 v63 v64 v65 v66 wr=>∃(N:Rel) (gb:Bool),v10=.bool gb∧RT a b (.slice Aa na ca) (.slice Ab nb cb) w4 bx bm N gb wr∧2*(na*nb-cnt N nb na)+(if gb=true then 1 else 0)=g)
 case atStart=>
  refine⟨fun _ _=>false,true,rfl,⟨?_,allIn_none a b,inn_none a b,fun h=>(by cases h),hx46⟩,?_⟩
  ·have:=hrx6.out
   rw[hc0.out];exact this
  ·have:=hc0.out
   rw[hna.out,hnb.out] at this
   rw[this];rfl
 case round=>
  obtain⟨N,gb,rfl,hT,hg⟩:=hrel
  cases gb with
  | false=>
   have hf:=fin.out bx bm _ N wr hT.rx (hT.no rfl) hT.al (hw4.trans hT.x)
   clear hT
   go_wp2_with fail
   exact hf
  | true=>
   have j2r:=hT.x.cell j2
   obtain⟨c0,hc0'⟩:∃z,Hid (cnt N nb na=z):=⟨_,rfl⟩
   have hS:RS a b (.slice Aa na ca) (.slice Ab nb cb) w4 bx bm c0 N false 0 0 wr:=⟨hT.rx,hT.al,hT.inn,by rw[hna.out,hnb.out,hc0'.out];exact Nat.le_refl _,fun h=>(by cases h),fun _=>ahead_zero a b N,hT.x⟩
   replace hg:2*(na*nb-c0)+1=gk:=by rw[←hc0'.out];simpa using hg
   replace hg:=Lib.hid hg
   clear hT hc0'
   obtain⟨wo,hwo⟩:∃z,z=wr:=⟨_,rfl⟩
   subst hwo
   go_wp2_with fail
   go_loopw [10,11,12,36,37,38,39,40,41,42,43,44,45,46,47,48,49,50,51,52,53,54,55,56,57,58,59,60,61,62,63,64,65,66] (fun v10 v11 v12 v36 v37 v38 v39 v40 v41 v42 v43 v44 v45 v46 v47 v48 v49 v50 v51 v52 v53 v54 v55 v56 v57 v58 v59 v60 v61 v62 v63 v64 v65 v66 wr=>∃(N:Rel) (i:Nat) (gb:Bool),i≤na∧v36=.int .i64 (i:Int)∧v10=.bool gb∧RS a b (.slice Aa na ca) (.slice Ab nb cb) w4 bx bm c0 N gb i 0 wr) (fun _ _ _ v36 _ _ _ _ _ _ _ _ _ _ _ _ _ _ _ _ _ _ _ _ _ _ _ _ _ _ _ _ _ _ _=>na-(intOf v36).toNat)
   case atStart=>exact⟨N,0,false,Nat.zero_le _,rfl,rfl,hS⟩
   case round=>
    clear hS j2r
    obtain⟨N,i,gb,hi,rfl,rfl,hS⟩:=hrel
    by_cases hin:i<na
    ·have hin':(i:Int)<(na:Int):=by omega
     have j3r:=hS.x.cell j3
     obtain⟨w8,hw8⟩:∃z,z=wr:=⟨_,rfl⟩
     subst hw8
     go_wp2_with fail
     go_loopw [10,12,42,43,44,45,46,47,48,49,50,51,52,53,54,55,56,57,58,59,60,61,62,63,64,65] (fun v10 v12 v42 v43 v44 v45 v46 v47 v48 v49 v50 v51 v52 v53 v54 v55 v56 v57 v58 v59 v60 v61 v62 v63 v64 v65 wr=>∃(N:Rel) (k:Nat) (gb:Bool),k≤nb∧v42=.int .i64 (k:Int)∧v10=.bool gb∧RS a b (.slice Aa na ca) (.slice Ab nb cb) w4 bx bm c0 N gb i k wr) (fun _ _ v42 _ _ _ _ _ _ _ _ _ _ _ _ _ _ _ _ _ _ _ _ _ _ _ _=>nb-(intOf v42).toNat)
     case atStart=>exact⟨N,0,gb,Nat.zero_le _,rfl,rfl,hS⟩
     case round=>
      clear hS j3r
      obtain⟨N,k,gb,hk,rfl,rfl,hS⟩:=hrel
      by_cases hkn:k<nb
      ·have hkn':(k:Int)<(nb:Int):=by omega
       have hr:=reads_any hS.rx (i:=(i:Int)) (j:=(k:Int)) ⟨by omega,by omega⟩ ⟨by omega,by omega⟩
       cases hN:N i k with
       | true=>
        rw[hN] at hr
        have hn:=rs_skip hS hN
        clear hS hN
        go_wp2_with fail
        refine hr.mono ?_
        rintro en wA ⟨rfl,hxA⟩
        clear hr
        go_wp2_with fail
        go_roundw
        case rel=>exact⟨N,k+1,gb,by omega,by go_num,rfl,hn.ext hxA⟩
        case measure=>simp[intOf]<;>omega
       | false=>
        rw[hN] at hr
        have hh:=fun W (hW:Ext wr W)=>hhold.out W (hw4.trans (hS.x.trans hW)) bx bm _ N (hS.rx.ext hW) i k (by rw[hna.out];exact hin) (by rw[hnb.out];exact hkn)
        obtain⟨v,hv⟩:∃z,Hid (holdP (fun p q => !N p q) (a.getD i neD) (b.getD k neD) i k=z):=⟨_,rfl⟩
        simp only[hv.out] at hh
        replace hh:=Lib.hid hh
        replace hN:=Lib.hid hN
        replace hS:=Lib.hid hS
        cases v with
        | true=>
         go_wp2_with fail
         refine hr.mono ?_
         rintro en wA ⟨rfl,hxA⟩
         have hh2:=hh.out wA hxA
         clear hr
         go_wp2_with fail
         refine hh2.mono ?_
         rintro en wB ⟨rfl,hxB⟩
         clear hh2
         go_wp2_with fail
         go_roundw
         case rel=>exact⟨N,k+1,gb,by omega,by go_num,rfl,(rs_holds hS.out hv.out).ext (hxA.trans hxB)⟩
         case measure=>simp[intOf]<;>omega
        | false=>
         go_wp2_with fail
         refine hr.mono ?_
         rintro en wA ⟨rfl,hxA⟩
         have hh2:=hh.out wA hxA
         clear hr
         go_wp2_with fail
         refine hh2.mono ?_
         rintro en wB ⟨rfl,hxB⟩
         clear hh2
         have hSB:=hS.out.ext (hxA.trans hxB)
         have hlt:=cnt_le N b.length a.length
         have hsm:a.length*b.length≤1500*1500:=Nat.mul_le_mul (by rw[hna.out];exact hla') (by rw[hnb.out];exact hlb')
         obtain⟨x0,st,wC,wD,hE,hF,hMB,hgr⟩:=hSB.rx.map.entry bt (by unfold maxLen;omega) (i:=(i:Int)) (j:=(k:Int)) ⟨by omega,by omega⟩ ⟨by omega,by omega⟩
         have kk2:=hSB.rx.blk.cell 2
         simp only[List.getElem?_toArray,List.getElem?_cons_zero,List.getElem?_cons_succ] at kk2
         have hF':(Instr.entryStore 108 (.map (some bm)) (.int .i64 (st:Int)) (.bool true)).run Tryz.prog wC=.ok () wD:=hF
         have hE':(Instr.mapEntry 108 (.map (some bm)) (.agg #[.int .i64 (i:Int),.int .i64 (k:Int)])).run Tryz.prog wB=.ok (.tuple #[x0,.int .i64 (st:Int)]) wC:=hE
         have hnew:=rs_put hSB hN.out hv.out (by rw[hna.out];exact hin) (by rw[hnb.out];exact hkn) hMB hgr hne.out hbm4.out
         clear hE hF hSB hMB hgr hlt hsm
         go_wp2_with fail
         go_roundw
         case rel=>exact⟨_,k+1,true,by omega,by go_num,rfl,hnew⟩
         case measure=>simp[intOf]<;>omega
      ·obtain rfl:k=nb:=by omega
       have hn:=rs_row hS hnb.out
       clear hS
       go_wp2_with fail
       go_roundw
       case rel=>exact⟨N,i+1,gb,by omega,by go_num,rfl,hn⟩
       case measure=>simp[intOf]<;>omega
    ·obtain rfl:i=na:=by omega
     have hT:=rs_round hS hna.out
     have hcl:=hS.c
     have hcy:=hS.yes
     have hle:=cnt_le N b.length a.length
     rw[hna.out,hnb.out] at hcl hcy hle
     replace hcl:=Lib.hid hcl
     replace hcy:=Lib.hid hcy
     replace hle:=Lib.hid hle
     clear hS
     go_wp2_with fail
     go_roundg (2*(i*nb-cnt N nb i)+(if gb=true then 1 else 0))
     case rel=>exact⟨N,gb,rfl,hT,rfl⟩
     case measure=>
      have h1:=hcl.out
      have h2:=hcy.out
      have h3:=hle.out
      have h4:=hg.out
      cases gb
      ·simp;omega
      ·have:=h2 rfl
       simp;omega
end Rv
namespace Pr
open Lx
def LN (M:Nat) (d:Nd):Prop:=d.syms.length≤M∧d.items.length≤M∧d.fields.length≤M
def LB (M:Nat) (s:PS):Prop:=AllN (LN M) s∧s.ns.length+s.l.length≤M
def TB (M:Nat) (T:Bool→List Nat→PS→Res Nat):Prop:=∀u a s n s',T u a s=.ok n s'→LB M s→LB M s'
theorem on_le (s:PS):s.on.l.length≤s.l.length:=by show s.l.tail.length≤_;rw[List.length_tail];omega
theorem LB.on {M:Nat} {s:PS} (h:LB M s):LB M s.on:=⟨h.1.same rfl,by have:=on_le s;have:=h.2;show s.ns.length+s.on.l.length≤M;omega⟩
theorem LB.setN {M:Nat} {s:PS} (h:LB M s) (n:Nat) {f:Nd→Nd} (hf:∀d,LN M d→LN M (f d)):LB M (s.setN n f):=⟨h.1.setN n hf,by rw[setN_len];exact h.2⟩
section
variable {M:Nat} {T:Bool→List Nat→PS→Res Nat}
theorem itemR_lb (hT:TB M T) {s s':PS} {n:Nat} {x:ByteArray} {u:Unit} (h:itemR T s n x=.ok u s') (hp:LB M s) (hM:1≤M):LB M s':=by
 obtain⟨a,s1,h1,h2⟩:=Res.bind_ok h
 obtain⟨h5,rfl⟩:=mustR_ok h2
 exact ((hT _ _ _ _ _ h1 hp).setN n (f:=fun d=>{ d with items:=[a] }) fun d hd=>⟨hd.1,by simpa using hM,hd.2.2⟩).on
theorem unionR_lb (hT:TB M T) (n:Nat):∀(m:Nat) (l:List Nat) {s s':PS} {u:Unit},unionR T n m l s=.ok u s'→LB M s→l.length+m≤M→LB M s'
 | 0,l,s,s',u,h,_,_=>by cases h
 | m+1,l,s,s',u,h,hp,hm=>by
  rw[unionR] at h
  obtain⟨a,s1,h1,h2⟩:=Res.bind_ok h
  have hp1:=hT _ _ _ _ _ h1 hp
  split at h2
  ·injection h2 with _ h2
   subst h2
   exact hp1.on.setN n fun d hd=>⟨hd.1,by simp;omega,hd.2.2⟩
  ·obtain⟨v,s2,h5,h6⟩:=Res.bind_ok h2
   obtain⟨h7,rfl⟩:=mustR_ok h5
   exact unionR_lb hT n m _ h6 hp1.on (by simp;omega)
theorem symsR_lb (n:Nat):∀(m:Nat) (l:List ByteArray) {s s':PS} {u:Unit},symsR n m l s=.ok u s'→LB M s→l.length+m≤M→LB M s'
 | 0,l,s,s',u,h,_,_=>by cases h
 | m+1,l,s,s',u,h,hp,hm=>by
  rw[symsR] at h
  obtain⟨x,s1,h1,h2⟩:=Res.bind_ok h
  obtain⟨_,_,_,_,_,rfl⟩:=nameR_ok h1
  split at h2
  ·injection h2 with _ h2
   subst h2
   exact hp.on.on.setN n fun d hd=>⟨by simp;omega,hd.2⟩
  ·obtain⟨v,s2,h5,h6⟩:=Res.bind_ok h2
   obtain⟨h7,rfl⟩:=mustR_ok h5
   exact symsR_lb n m _ h6 hp.on.on (by simp;omega)
theorem LB.goes {M:Nat} {s:PS} (h:LB M s) (x:ByteArray):LB M (goesR s x).2:=by
 unfold goesR
 split
 ·exact h.on
 ·exact h
theorem fieldsR_lb (hT:TB M T) (n:Nat):∀(m:Nat) (l:List (ByteArray×Bool×Nat)) {s s':PS} {u:Unit},fieldsR T n m l s=.ok u s'→LB M s→l.length+m≤M→LB M s'
 | 0,l,s,s',u,h,_,_=>by cases h
 | m+1,l,s,s',u,h,hp,hm=>by
  rw[fieldsR] at h
  split at h
  ·injection h with _ h
   subst h
   exact hp.on.setN n fun d hd=>⟨hd.1,hd.2.1,by show l.length≤M;omega⟩
  ·obtain⟨x,s1,h1,h2⟩:=Res.bind_ok h
   obtain⟨_,_,_,_,_,rfl⟩:=nameR_ok h1
   obtain⟨v,s2,h3,h4⟩:=Res.bind_ok h2
   obtain⟨h5,rfl⟩:=mustR_ok h3
   obtain⟨t,s3,h6,h7⟩:=Res.bind_ok h4
   obtain⟨v2,s4,h10,h11⟩:=Res.bind_ok h7
   obtain⟨h12,rfl⟩:=mustR_ok h10
   exact fieldsR_lb hT n m _ h11 (hT _ _ _ _ _ h6 (hp.on.goes cQ).on).on (by simp;omega)
theorem definedR_lb (hT:TB M T) {s s':PS} {n:Nat} {k:Int} {u:Unit} (h:definedR T s n k=.ok u s') (hp:LB M s):LB M s':=by
 unfold definedR at h
 obtain⟨x,s1,h1,h2⟩:=Res.bind_ok h
 obtain⟨_,_,_,_,_,rfl⟩:=nameR_ok h1
 simp only at h2
 have hp2:LB M (s.on.called n x):=by
  have:=hp.on.setN n (f:=fun d=>{ d with name:=x }) fun d hd=>hd
  exact⟨this.1.same rfl,this.2⟩
 generalize s.on.called n x=s2 at h2 hp2
 have hl:=hp2.2
 have ho:=on_le s2
 split at h2
 ·obtain⟨v,s3,h5,h6⟩:=Res.bind_ok h2
  obtain⟨h7,rfl⟩:=mustR_ok h5
  exact symsR_lb n _ _ h6 hp2.on (by simp;omega)
 ·split at h2
  ·split at h2
   ·cases h2
   ·injection h2 with _ h2
    subst h2
    exact hp2.on.setN n fun d hd=>hd
  ·obtain⟨v,s3,h5,h6⟩:=Res.bind_ok h2
   obtain⟨h7,rfl⟩:=mustR_ok h5
   exact fieldsR_lb hT n _ _ h6 hp2.on (by simp;omega)
end
theorem typedR_lb (M:Nat):∀(fuel:Nat),TB M (typedR fuel)
 | fuel,u,a,s,n,s',h,hp=>by
  rw[typedR.eq_def] at h
  simp only at h
  split at h
  ·cases h
  ·next k hk=>
   split at h
   ·cases h
   ·split at h
    ·injection h with _ h
     subst h
     exact hp.on
    ·have hpos:=on_len (kindR_pos hk)
     have hl:=hp.2
     have hp1:LB M ({ s.on with ns:=s.ns++[Nd.ofKind k] }:PS):=⟨fun d hd=>by
      rcases List.mem_append.1 hd with hd|hd
      ·exact hp.1 d hd
      ·rw[List.mem_singleton] at hd;subst hd;exact⟨Nat.zero_le _,Nat.zero_le _,Nat.zero_le _⟩,by simp only[List.length_append,List.length_cons,List.length_nil];omega⟩
     have hM:1≤M:=by omega
     have hm:s.on.l.length≤M:=by omega
     generalize ({ s.on with ns:=s.ns++[Nd.ofKind k] }:PS)=s1 at h hp1
     cases fuel with
     | zero=>cases h
     | succ fuel=>
      have ih:=typedR_lb M fuel
      simp only at h
      split at h
      ·obtain⟨_,s2,h1,h2⟩:=Res.bind_ok h
       injection h2 with _ h2;subst h2
       exact itemR_lb ih h1 hp1 hM
      ·split at h
       ·obtain⟨_,s2,h1,h2⟩:=Res.bind_ok h
        injection h2 with _ h2;subst h2
        exact itemR_lb ih h1 hp1 hM
       ·split at h
        ·obtain⟨_,s2,h1,h2⟩:=Res.bind_ok h
         injection h2 with _ h2;subst h2
         exact unionR_lb ih _ _ _ h1 hp1 (by simpa using hm)
        ·split at h
         ·obtain⟨_,s2,h1,h2⟩:=Res.bind_ok h
          injection h2 with _ h2;subst h2
          exact definedR_lb ih h1 hp1
         ·injection h with _ h
          subst h
          exact hp1
theorem parse_lens (s:ByteArray):(parseP s).1.length≤1500∧∀d∈(parseP s).1,LN 1500 d:=by
 rcases parse_cases s with⟨h1,_⟩|⟨hw,n,s',ht,_,hp⟩
 ·rw[h1];exact⟨by simp,fun d hd=>by cases hd⟩
 ·have hl:(toks s).length≤1500:=by
   unfold words at hw
   split at hw
   ·cases hw
   ·have:=wordsR_len _ _ (by omega) hw;omega
  have:=typedR_lb 1500 20 _ _ _ _ _ ht ⟨fun d hd=>(by cases hd),by simpa using hl⟩
  rw[hp]
  exact⟨by have:=this.2;show s'.ns.length≤1500;omega,this.1⟩
structure WN (M:Nat) (d:Nd):Prop where
 k0:0≤d.k
 k12:d.k<12
 its:∀x∈d.items,x<M
 fls:∀f∈d.fields,f.2.2<M
 one:d.k=6∨d.k=7→∃x,d.items=[x]
 nod:(d.fields.map (·.1)).Nodup
 nof:¬d.k=11→d.fields=[]
 ln:d.items.length≤5000∧d.syms.length≤5000∧d.fields.length≤5000
theorem WN.mono {M M':Nat} {d:Nd} (h:WN M d) (hM:M≤M'):WN M' d:=⟨h.k0,h.k12,fun x hx=>Nat.lt_of_lt_of_le (h.its x hx) hM,fun f hf=>Nat.lt_of_lt_of_le (h.fls f hf) hM,h.one,h.nod,h.nof,h.ln⟩
def NmOk (s:PS):Prop:=(∀x m,s.nm x=some m→m<s.ns.length)∧s.l.length≤5000
structure Gd (b:Nat) (s s':PS):Prop where
 le:s.ns.length≤s'.ns.length
 nm:NmOk s'
 old:∀i,i<s.ns.length→i≠b→s'.ns[i]?=s.ns[i]?
 new:∀i d,s.ns.length≤i→s'.ns[i]?=some d→WN s'.ns.length d
theorem Gd.to {s s':PS} (h:Gd s.ns.length s s') (b:Nat):Gd b s s':=⟨h.le,h.nm,fun i hi _=>h.old i hi (by omega),h.new⟩
theorem Gd.same {b:Nat} {s s':PS} (hn:NmOk s) (e:s'.ns=s.ns) (e2:s'.nm=s.nm) (e3:s'.l.length≤s.l.length):Gd b s s':=⟨by rw[e];exact Nat.le_refl _,⟨fun x m h=>by rw[e2] at h;rw[e];exact hn.1 x m h,Nat.le_trans e3 hn.2⟩,fun i _ _=>by rw[e],fun i d hi hd=>by
 rw[e,List.getElem?_eq_none hi] at hd;cases hd⟩
theorem Gd.on {b:Nat} {s:PS} (hn:NmOk s):Gd b s s.on:=Gd.same hn rfl rfl (by show s.l.tail.length≤_;rw[List.length_tail];omega)
theorem Gd.trans {b:Nat} {s s1 s':PS} (h:Gd b s s1) (k:Gd b s1 s') (hb:b<s.ns.length):Gd b s s':=⟨Nat.le_trans h.le k.le,k.nm,fun i hi hne=>by
  have:=h.le
  rw[k.old i (by omega) hne,h.old i hi hne],fun i d hi hd=>by
  by_cases hs:i<s1.ns.length
  ·rw[k.old i hs (by omega)] at hd
   exact (h.new i d hi hd).mono k.le
  ·exact k.new i d (by omega) hd⟩
theorem Gd.setN {s:PS} (hn:NmOk s) (n:Nat) (f:Nd→Nd):Gd n s (s.setN n f):=⟨by rw[setN_len];exact Nat.le_refl _,⟨fun x m h=>by rw[setN_len];exact hn.1 x m h,hn.2⟩,fun i hi hne=>by
  show (s.ns.modify n f)[i]?=_
  rw[List.getElem?_modify];have hne2:¬n=i:=fun e=>hne e.symm;cases s.ns[i]?<;>simp[hne2],fun i d hi hd=>by
  have:(s.setN n f).ns[i]?=none:=List.getElem?_eq_none (by rw[setN_len];exact hi)
  rw[this] at hd;cases hd⟩
def TW (T:Bool→List Nat→PS→Res Nat):Prop:=∀u a s n s',T u a s=.ok n s'→NmOk s→Gd s.ns.length s s'∧n<s'.ns.length
section
variable {T:Bool→List Nat→PS→Res Nat}
theorem itemR_w (hT:TW T) {s s':PS} {n:Nat} {x:ByteArray} {u:Unit} (h:itemR T s n x=.ok u s') (hn:NmOk s) (hb:n<s.ns.length) :
  Gd n s s'∧∃x,x<s'.ns.length∧∀d,s.ns[n]?=some d→s'.ns[n]?=some { d with items:=[x] }:=by
 obtain⟨a,s1,h1,h2⟩:=Res.bind_ok h
 obtain⟨h5,rfl⟩:=mustR_ok h2
 obtain⟨g,ha⟩:=hT _ _ _ _ _ h1 hn
 have g2:=Gd.setN g.nm n fun d=>{ d with items:=[a] }
 refine⟨((g.to n).trans g2 hb).trans (Gd.on g2.nm) hb,a,by show a<(s1.setN n _).ns.length;rw[setN_len];exact ha,fun d hd=>?_⟩
 have:=g.old n hb (by omega)
 rw[hd] at this
 exact setN_get s1 n _ d this
theorem unionR_w (hT:TW T) (n:Nat):∀(m:Nat) (l:List Nat) {s s':PS} {u:Unit},unionR T n m l s=.ok u s'→NmOk s→n<s.ns.length→(∀x∈l,x<s.ns.length)→
  Gd n s s'∧∃l',(∀x∈l',x<s'.ns.length)∧l'.length≤l.length+m∧∀d,s.ns[n]?=some d→s'.ns[n]?=some { d with items:=l' }
 | 0,l,s,s',u,h,_,_,_=>by cases h
 | m+1,l,s,s',u,h,hn,hb,hl=>by
  rw[unionR] at h
  obtain⟨a,s1,h1,h2⟩:=Res.bind_ok h
  obtain⟨g,ha⟩:=hT _ _ _ _ _ h1 hn
  have hl':∀x∈l++[a],x<s1.ns.length:=fun x hx=>by
   have:=g.le
   rcases List.mem_append.1 hx with hx|hx
   ·have:=hl x hx;omega
   ·rw[List.mem_singleton] at hx;subst hx;exact ha
  split at h2
  ·injection h2 with _ h2
   subst h2
   have g1:=Gd.on (b:=n) g.nm
   have g2:=Gd.setN g1.nm n fun d=>{ d with items:=l++[a] }
   refine⟨((g.to n).trans g1 hb).trans g2 hb,l++[a],fun x hx=>by rw[setN_len];exact hl' x hx,by simp<;>omega,fun d hd=>?_⟩
   have:=g.old n hb (by omega)
   rw[hd] at this
   exact setN_get s1.on n _ d this
  ·obtain⟨v,s2,h5,h6⟩:=Res.bind_ok h2
   obtain⟨h7,rfl⟩:=mustR_ok h5
   have g1:=Gd.on (b:=n) g.nm
   obtain⟨g3,l',k1,k3,k2⟩:=unionR_w hT n m _ h6 g1.nm (Nat.lt_of_lt_of_le hb g.le) hl'
   refine⟨((g.to n).trans g1 hb).trans g3 hb,l',k1,by simp at k3;omega,fun d hd=>k2 d ?_⟩
   have:=g.old n hb (by omega)
   rw[hd] at this
   exact this
theorem symsR_w (n:Nat):∀(m:Nat) (l:List ByteArray) {s s':PS} {u:Unit},symsR n m l s=.ok u s'→NmOk s→n<s.ns.length→
  Gd n s s'∧∃l',l'.length≤l.length+m∧∀d,s.ns[n]?=some d→s'.ns[n]?=some { d with syms:=l' }
 | 0,l,s,s',u,h,_,_=>by cases h
 | m+1,l,s,s',u,h,hn,hb=>by
  rw[symsR] at h
  obtain⟨x,s1,h1,h2⟩:=Res.bind_ok h
  obtain⟨_,_,_,_,_,rfl⟩:=nameR_ok h1
  split at h2
  ·injection h2 with _ h2
   subst h2
   have g1:=Gd.on (b:=n) hn
   have g0:=Gd.on (b:=n) g1.nm
   have g2:=Gd.setN g0.nm n fun d=>{ d with syms:=l++[x] }
   exact⟨(g1.trans g0 hb).trans g2 hb,l++[x],by simp<;>omega,fun d hd=>setN_get s.on.on n _ d hd⟩
  ·obtain⟨v,s2,h5,h6⟩:=Res.bind_ok h2
   obtain⟨h7,rfl⟩:=mustR_ok h5
   have g1:=Gd.on (b:=n) hn
   have g0:=Gd.on (b:=n) g1.nm
   obtain⟨g3,l',k3,k2⟩:=symsR_w n m _ h6 g0.nm hb
   exact⟨(g1.trans g0 hb).trans g3 hb,l',by simp at k3;omega,fun d hd=>k2 d hd⟩
theorem Gd.goes {b:Nat} {s:PS} (hn:NmOk s) (x:ByteArray):Gd b s (goesR s x).2:=by
 unfold goesR
 split
 ·exact Gd.on hn
 ·exact Gd.same hn rfl rfl (Nat.le_refl _)
theorem fieldsR_w (hT:TW T) (n:Nat):∀(m:Nat) (l:List (ByteArray×Bool×Nat)) {s s':PS} {u:Unit},fieldsR T n m l s=.ok u s'→NmOk s→n<s.ns.length→(∀f∈l,f.2.2<s.ns.length)→(l.map (·.1)).Nodup→
  Gd n s s'∧∃l',(∀f∈l',f.2.2<s'.ns.length)∧(l'.map (·.1)).Nodup∧l'.length≤l.length+m∧∀d,s.ns[n]?=some d→s'.ns[n]?=some { d with fields:=l' }
 | 0,l,s,s',u,h,_,_,_,_=>by cases h
 | m+1,l,s,s',u,h,hn,hb,hl,hd=>by
  rw[fieldsR] at h
  split at h
  ·injection h with _ h
   subst h
   have g1:=Gd.on (b:=n) hn
   have g2:=Gd.setN g1.nm n fun d=>{ d with fields:=l }
   exact⟨g1.trans g2 hb,l,fun f hf=>by rw[setN_len];exact hl f hf,hd,by omega,fun d hd=>setN_get s.on n _ d hd⟩
  ·obtain⟨x,s1,h1,h2⟩:=Res.bind_ok h
   obtain⟨_,_,_,hx,_,rfl⟩:=nameR_ok h1
   obtain⟨v,s2,h3,h4⟩:=Res.bind_ok h2
   obtain⟨h5,rfl⟩:=mustR_ok h3
   obtain⟨t,s3,h6,h7⟩:=Res.bind_ok h4
   obtain⟨v2,s4,h10,h11⟩:=Res.bind_ok h7
   obtain⟨h12,rfl⟩:=mustR_ok h10
   have g1:=Gd.on (b:=n) hn
   have g2:=Gd.goes (b:=n) g1.nm cQ
   have g3:=Gd.on (b:=n) g2.nm
   have e3:(goesR s.on cQ).2.on.ns=s.ns:=goes_ns s.on cQ
   obtain⟨g4,ht⟩:=hT _ _ _ _ _ h6 g3.nm
   have g5:=Gd.on (b:=n) g4.nm
   have hle:=g4.le
   rw[e3] at hle
   obtain⟨g6,l',k1,k2,k4,k3⟩:=fieldsR_w hT n m _ h11 g5.nm (Nat.lt_of_lt_of_le hb hle) (fun f hf=>by
    rcases List.mem_append.1 hf with hf|hf
    ·exact Nat.lt_of_lt_of_le (hl f hf) hle
    ·rw[List.mem_singleton] at hf;subst hf;exact ht) (by
    rw[List.map_append,List.nodup_append]
    refine⟨hd,by simp,fun y hy z hz e=>?_⟩
    simp only[List.map_cons,List.map_nil,List.mem_singleton] at hz
    subst hz
    subst e
    obtain⟨f,hf,e⟩:=List.mem_map.1 hy
    have:=List.any_eq_false.1 hx f hf
    simp[e] at this)
   have hb3:n<(goesR s.on cQ).2.on.ns.length:=by rw[e3];exact hb
   refine⟨((((g1.trans g2 hb).trans g3 hb).trans (g4.to n) hb).trans g5 hb).trans g6 hb,l',k1,k2,by simp at k4;omega,fun d hd=>k3 d ?_⟩
   have:=g4.old n hb3 (by omega)
   rw[e3,hd] at this
   exact this
theorem definedR_w (hT:TW T) {s s':PS} {n:Nat} {k:Int} {u:Unit} (h:definedR T s n k=.ok u s') (hn:NmOk s) (hb:n<s.ns.length) (d:Nd) (hd:s.ns[n]?=some d) (hf:d.fields=[]) (hy:d.syms=[]) :
  Gd n s s'∧∃d',s'.ns[n]?=some d'∧d'.k=d.k∧d'.items=d.items∧(∀f∈d'.fields,f.2.2<s'.ns.length)∧(d'.fields.map (·.1)).Nodup∧(k=9∨k=10→d'.fields=[])∧d'.syms.length≤5000∧d'.fields.length≤5000:=by
 unfold definedR at h
 obtain⟨x,s1,h1,h2⟩:=Res.bind_ok h
 obtain⟨_,_,_,_,_,rfl⟩:=nameR_ok h1
 simp only at h2
 have g1:=Gd.on (b:=n) hn
 have g2:=Gd.setN g1.nm n fun d=>{ d with name:=x }
 have g3:Gd n s (s.on.called n x):=by
  refine⟨by show _≤(s.on.setN n _).ns.length;rw[setN_len];exact Nat.le_refl _,⟨fun y m hy=>?_,g1.nm.2⟩,fun i hi hne=>(g1.trans g2 hb).old i hi hne,fun i d hi hd=>(g1.trans g2 hb).new i d hi hd⟩
  show m<(s.on.setN n _).ns.length
  rw[setN_len]
  have hy:(if y=x then some n else s.nm y)=some m:=hy
  split at hy
  ·injection hy with hy;subst hy;exact hb
  ·exact hn.1 y m hy
 have hd2:(s.on.called n x).ns[n]?=some { d with name:=x }:=setN_get s.on n _ d hd
 have hb2:n<(s.on.called n x).ns.length:=Nat.lt_of_lt_of_le hb g3.le
 generalize s.on.called n x=s2 at h2 g3 hd2 hb2
 split at h2
 ·obtain⟨v,s3,h5,h6⟩:=Res.bind_ok h2
  obtain⟨h7,rfl⟩:=mustR_ok h5
  have g4:=Gd.on (b:=n) g3.nm
  obtain⟨g5,l',k3,k⟩:=symsR_w n _ _ h6 g4.nm hb2
  have k4:=g4.nm.2
  exact⟨(g3.trans g4 hb).trans g5 hb,_,k _ hd2,rfl,rfl,fun f h=>(by simp[hf] at h),by simp[hf],fun _=>hf,by show l'.length≤_;simp at k3;omega,by show d.fields.length≤_;rw[hf];simp⟩
 ·split at h2
  ·split at h2
   ·cases h2
   ·injection h2 with _ h2
    subst h2
    have g4:=Gd.on (b:=n) g3.nm
    have g5:=Gd.setN g4.nm n fun d=>{ d with size:=((numO (Pr.hd s2.l).s.data.toList).getD 0:Nat) }
    exact⟨(g3.trans g4 hb).trans g5 hb,_,setN_get s2.on n _ _ hd2,rfl,rfl,fun f h=>(by simp[hf] at h),by simp[hf],fun _=>hf,by show d.syms.length≤_;rw[hy];simp,by show d.fields.length≤_;rw[hf];simp⟩
  ·obtain⟨v,s3,h5,h6⟩:=Res.bind_ok h2
   obtain⟨h7,rfl⟩:=mustR_ok h5
   have g4:=Gd.on (b:=n) g3.nm
   obtain⟨g5,l',k1,k2,k4,k3⟩:=fieldsR_w hT n _ _ h6 g4.nm hb2 (fun f h=>by cases h) List.nodup_nil
   have k5:=g4.nm.2
   exact⟨(g3.trans g4 hb).trans g5 hb,_,k3 _ hd2,rfl,rfl,k1,k2,fun e=>(by omega),by show d.syms.length≤_;rw[hy];simp,by show l'.length≤_;simp at k4;omega⟩
end
theorem typedR_w:∀(fuel:Nat),TW (typedR fuel)
 | fuel,u,a,s,n,s',h,hn=>by
  have hin:=typedR_in hn.1 h
  refine⟨?_,hin⟩
  rw[typedR.eq_def] at h
  simp only at h
  split at h
  ·cases h
  ·next k hk=>
   have hr:=kindR_rng hk
   split at h
   ·cases h
   ·split at h
    ·injection h with _ h
     subst h
     exact Gd.on hn
    ·next hk0=>
     have hn1:NmOk ({ s.on with ns:=s.ns++[Nd.ofKind k] }:PS):=⟨fun x m hm=>by
      have:=hn.1 x m hm
      simp only[List.length_append,List.length_cons,List.length_nil];omega,(Gd.on (b:=0) hn).nm.2⟩
     have hd1:({ s.on with ns:=s.ns++[Nd.ofKind k] }:PS).ns[s.ns.length]?=some (Nd.ofKind k):=by simp
     have hold:∀i,i<s.ns.length→({ s.on with ns:=s.ns++[Nd.ofKind k] }:PS).ns[i]?=s.ns[i]?:=fun i hi=>List.getElem?_append_left hi
     have hl1:({ s.on with ns:=s.ns++[Nd.ofKind k] }:PS).ns.length=s.ns.length+1:=by simp
     generalize ({ s.on with ns:=s.ns++[Nd.ofKind k] }:PS)=s1 at h hn1 hd1 hold hl1
     have fin:∀s2,Gd s.ns.length s1 s2→(∀d,s2.ns[s.ns.length]?=some d→WN s2.ns.length d)→Gd s.ns.length s s2:=fun s2 g hw=>⟨by have:=g.le;omega,g.nm,fun i hi hne=>by rw[g.old i (by omega) hne,hold i hi],fun i d hi hd=>by
      by_cases e:i=s.ns.length
      ·subst e;exact hw d hd
      ·exact g.new i d (by omega) hd⟩
     cases fuel with
     | zero=>cases h
     | succ fuel=>
      have ih:=typedR_w fuel
      simp only at h
      split at h
      ·next e6=>
       obtain⟨_,s2,h1,h2⟩:=Res.bind_ok h
       injection h2 with _ h2;subst h2
       obtain⟨g,x,hx,hh⟩:=itemR_w ih h1 hn1 (by omega)
       refine fin _ g fun d hd=>?_
       rw[hh _ hd1] at hd
       injection hd with hd;subst hd
       exact⟨by show 0≤k;omega,by show k<12;omega,fun y hy=>by rw[List.mem_singleton] at hy;subst hy;exact hx,fun f hf=>(by cases hf),fun _=>⟨x,rfl⟩,List.nodup_nil,fun _=>rfl,⟨by show 1≤_;omega,Nat.zero_le _,Nat.zero_le _⟩⟩
      ·split at h
       ·next e7=>
        obtain⟨_,s2,h1,h2⟩:=Res.bind_ok h
        injection h2 with _ h2;subst h2
        obtain⟨g,x,hx,hh⟩:=itemR_w ih h1 hn1 (by omega)
        refine fin _ g fun d hd=>?_
        rw[hh _ hd1] at hd
        injection hd with hd;subst hd
        exact⟨by show 0≤k;omega,by show k<12;omega,fun y hy=>by rw[List.mem_singleton] at hy;subst hy;exact hx,fun f hf=>(by cases hf),fun _=>⟨x,rfl⟩,List.nodup_nil,fun _=>rfl,⟨by show 1≤_;omega,Nat.zero_le _,Nat.zero_le _⟩⟩
       ·split at h
        ·next e8=>
         obtain⟨_,s2,h1,h2⟩:=Res.bind_ok h
         injection h2 with _ h2;subst h2
         obtain⟨g,l',hx,hm,hh⟩:=unionR_w ih _ _ _ h1 hn1 (by omega) (fun x hx=>(by cases hx))
         have hm2:=(Gd.on (b:=0) hn).nm.2
         refine fin _ g fun d hd=>?_
         rw[hh _ hd1] at hd
         injection hd with hd;subst hd
         exact⟨by show 0≤k;omega,by show k<12;omega,hx,fun f hf=>(by cases hf),fun e=>(by have e:k=6∨k=7:=e;omega),List.nodup_nil,fun _=>rfl,⟨by show l'.length≤_;simp at hm;omega,Nat.zero_le _,Nat.zero_le _⟩⟩
        ·split at h
         ·obtain⟨_,s2,h1,h2⟩:=Res.bind_ok h
          injection h2 with _ h2;subst h2
          obtain⟨g,d',hd',e1,e2,h3,h4,h5,h6,h7⟩:=definedR_w ih h1 hn1 (by omega) _ hd1 rfl rfl
          refine fin _ g fun d hd=>?_
          rw[hd'] at hd
          injection hd with hd;subst hd
          have e1:d'.k=k:=e1
          have e2:d'.items=[]:=e2
          exact⟨by omega,by omega,fun y hy=>(by rw[e2] at hy;cases hy),h3,fun e=>(by omega),h4,fun e=>h5 (by omega),⟨by rw[e2];simp,h6,h7⟩⟩
         ·injection h with _ h
          subst h
          refine fin _ (Gd.same hn1 rfl rfl (Nat.le_refl _)) fun d hd=>?_
          rw[hd1] at hd
          injection hd with hd;subst hd
          exact⟨by show 0≤k;omega,by show k<12;omega,fun y hy=>(by cases hy),fun f hf=>(by cases hf),fun e=>(by have e:k=6∨k=7:=e;omega),List.nodup_nil,fun _=>rfl,⟨Nat.zero_le _,Nat.zero_le _,Nat.zero_le _⟩⟩
theorem tokG_len (s:ByteArray):∀(f a:Nat),(tokG s f a).length≤f+1
 | 0,a=>by unfold tokG;simp
 | f+1,a=>by
  have:=tokG_len s f
  unfold tokG
  split
  ·have:=this (skp s (a+lenAt s a))
   rw[List.length_cons]
   omega
  ·simp
theorem parse_wn (s:ByteArray):∀d∈(parseP s).1,WN (parseP s).1.length d:=by
 rcases parse_cases s with⟨h1,_⟩|⟨hw,n,s',ht,_,hp⟩
 ·rw[h1];exact fun d hd=>(by cases hd)
 ·obtain⟨_,_,_,hz,_⟩:=Cn.back_plain' s (by rw[hp])
  rw[hp]
  intro d hd
  obtain⟨i,hi⟩:=List.getElem?_of_mem hd
  exact (typedR_w 20 _ _ _ _ _ ht ⟨fun x m h=>(by cases h),by
   have:=tokG_len s (s.size+1) (skp s 0)
   show (tokG s (s.size+1) (skp s 0)).length≤5000
   omega⟩).1.new i d (Nat.zero_le _) hi
theorem WN.toE {M:Nat} {d:Nd} (h:WN M d):WE M d.toE:=⟨h.k0,h.k12,fun x hx=>by
  obtain⟨y,hy,rfl⟩:=List.mem_map.1 hx
  have:=h.its y hy
  exact⟨Int.natCast_nonneg _,by omega⟩,fun f hf=>by
  obtain⟨y,hy,rfl⟩:=List.mem_map.1 hf
  have:=h.fls y hy
  exact⟨Int.natCast_nonneg _,by show (y.2.2:Int)<M;omega⟩,fun e=>by
  obtain⟨x,hx⟩:=h.one e
  exact⟨(x:Int),by show d.items.map _=_;rw[hx];rfl⟩,by
  have:d.toE.fields.map (·.1)=d.fields.map (·.1):=by show (d.fields.map _).map _=_;rw[List.map_map];rfl
  rw[this];exact h.nod,fun e=>(by show d.fields.map _=[];rw[h.nof e];rfl),⟨by show (d.items.map _).length≤_;rw[List.length_map];exact h.ln.1,h.ln.2.1,by show (d.fields.map _).length≤_;rw[List.length_map];exact h.ln.2.2⟩⟩
theorem show_we {ns:List Ne} {t:List UInt8} (h:showP ns=some t):0<ns.length∧ns.length≤1500∧∀d∈ns,WE ns.length d:=by
 unfold showP at h
 simp only at h
 split at h
 ·cases h
 ·next h1=>
  split at h
  ·cases h
  ·next h2=>
   have e:=Decidable.not_not.1 fun hc=>h2 (.inr hc)
   have hl:=(parse_lens ⟨(wtyp ns 20 0 ⟨[],0,false⟩).s.toArray⟩).1
   have hw:=parse_wn ⟨(wtyp ns 20 0 ⟨[],0,false⟩).s.toArray⟩
   generalize (parseP ⟨(wtyp ns 20 0 ⟨[],0,false⟩).s.toArray⟩).1=q at hw e hl
   have hln:ns.length=q.length:=by rw[←e,List.length_map]
   refine⟨?_,by omega,fun d hd=>?_⟩
   ·rcases Nat.eq_zero_or_pos ns.length with h0|h0
    ·exfalso
     apply h1
     left
     rw[List.eq_nil_of_length_eq_zero h0]
     rfl
    ·exact h0
   ·rw[←e] at hd
    obtain⟨y,hy,rfl⟩:=List.mem_map.1 hd
    rw[hln]
    exact (hw y hy).toE
end Pr
namespace Rv
open Go.ChangeShapes Go.WideShapes Go.ChangeAt Go.RowKit
open Base Lx Mi Pr Mp
theorem Sch.slice {B:Nat} {w:World} {v:Value} {ns:List Ne} (h:Sch B w v ns):∃A n c,v=.slice A n c:=by
 obtain⟨vs,_,⟨A,c,e,_⟩,_⟩:=h
 exact⟨A,_,c,e⟩
theorem related_no1 (a:List Ne) (va vb:Value) (w:World) (hSa:Sch w.heap.size w va a) (hwd:Wd w) (hpow:Pow w) (hLa:showLen a≤100000000) (hta:showP a=none) :
  Calls Tryz.prog 49 #[.agg #[va],.agg #[vb]] w fun en w'=>en=.returned (.pointer none)∧Ext w w':=by
 have hsa:=fun W (hW:Ext w W)=>show_any va a W ((hSa.below hW).mono hW.size) (hwd.ext hW) (hpow.ext hW) hLa
 simp only[hta,shV] at hsa
 obtain⟨w1,hw1⟩:∃z,Hid ((w.alloc (.cells #[va] 24)).alloc (.cells #[vb] 24)=z):=⟨_,rfl⟩
 have hx1:Ext w w1:=by rw[←hw1.out];exact ((Ext.refl w).alloc _).alloc _
 have hs:=hsa w1 hx1
 clear hsa hta hSa
 go_enter Tryz.func49,Tryz.ntmps49
 go_wp2_with fail
 rw[hw1.out]
 refine hs.mono ?_
 rintro en w3 ⟨rfl,hx3⟩
 go_wp2_with fail
 go_ret
 exact⟨rfl,hx1.trans hx3⟩
theorem related_no2 (a b:List Ne) (va vb:Value) (w:World) (hSa:Sch w.heap.size w va a) (hSb:Sch w.heap.size w vb b) (hwd:Wd w) (hpow:Pow w) (hLa:showLen a≤100000000) (hLb:showLen b≤100000000) (ta:List UInt8) (hta:showP a=some ta) (htb:showP b=none) :
  Calls Tryz.prog 49 #[.agg #[va],.agg #[vb]] w fun en w'=>en=.returned (.pointer none)∧Ext w w':=by
 have hsa:=fun W (hW:Ext w W)=>show_any va a W ((hSa.below hW).mono hW.size) (hwd.ext hW) (hpow.ext hW) hLa
 have hsb:=fun W (hW:Ext w W)=>show_any vb b W ((hSb.below hW).mono hW.size) (hwd.ext hW) (hpow.ext hW) hLb
 simp only[hta,shV] at hsa
 simp only[htb,shV] at hsb
 obtain⟨sa,hsa'⟩:∃z,Hid ((⟨ta.toArray⟩:ByteArray)=z):=⟨_,rfl⟩
 simp only[hsa'.out] at hsa
 obtain⟨w1,hw1⟩:∃z,Hid (w.alloc (.cells #[va] 24)=z):=⟨_,rfl⟩
 obtain⟨w2,hw2⟩:∃z,Hid (w1.alloc (.cells #[vb] 24)=z):=⟨_,rfl⟩
 have hx1:Ext w w1:=by rw[←hw1.out];exact (Ext.refl w).alloc _
 have hx12:Ext w1 w2:=by rw[←hw2.out];exact (Ext.refl w1).alloc _
 have hs1:w1.heap.size=w.heap.size+1:=by rw[←hw1.out];simp
 obtain⟨q3,hq3⟩:∃z,Hid (w.heap.size+1=z):=⟨_,rfl⟩
 have b3:Blk w2 q3 #[vb] 24:=by rw[←hq3.out,←hs1,←hw2.out];exact Blk.new w1 _ _
 have hx2:=hx1.trans hx12
 have k3:=b3.cell 0
 simp only[List.getElem?_toArray,List.getElem?_cons_zero] at k3
 have hs:=hsa w2 hx2
 replace hsb:=Lib.hid hsb
 clear hsa hta htb hSa hSb hs1 b3
 go_enter Tryz.func49,Tryz.ntmps49
 go_wp2_with fail
 rw[hw1.out,hw2.out,hq3.out]
 refine hs.mono ?_
 rintro en w3 ⟨rfl,hx3⟩
 have hs3:=hsb.out w3 (hx2.trans hx3)
 have k3':=hx3.cell k3
 go_wp2_with fail
 refine hs3.mono ?_
 rintro en w4 ⟨rfl,hx4⟩
 go_wp2_with fail
 go_ret
 exact⟨rfl,hx2.trans (hx3.trans hx4)⟩
def relV (a b:List Ne) (va vb:Value) (v:Value) (w':World):Prop:=
 (v=.pointer none∧canB a b=false)∨∃bx bm n N,v=.pointer (some ⟨bx,0,none⟩)∧RX w' bx bm n va vb N∧Stays a b (notR N)∧AllIn a b N∧(!N 0 0)=canB a b∧(∃t,showP a=some t)∧∃t,showP b=some t
open Classical in
theorem canB_no1 {a b:List Ne} (h:showP a=none):canB a b=false:=by unfold canB;exact decide_eq_false fun hc=>by have:=hc.1;rw[h] at this;cases this
open Classical in
theorem canB_no2 {a b:List Ne} (h:showP b=none):canB a b=false:=by unfold canB;exact decide_eq_false fun hc=>by have:=hc.2.1;rw[h] at this;cases this
open Classical in
theorem canB_of {a b:List Ne} {ta tb:List UInt8} (ha:showP a=some ta) (hb:showP b=some tb) {N:Rel} (h1:Stays a b (notR N)) (h2:AllIn a b N):(!N 0 0)=canB a b:=by
 have hi:=(show_we ha).1
 have hk:=(show_we hb).1
 have h3:=inR_not h1 h2 hi hk
 unfold canB
 cases hN:N 0 0 with
 | true=>
  symm
  exact decide_eq_false fun hc=>by have:=h3.1 hc.2.2;rw[show N ((0:Nat):Int) ((0:Nat):Int)=N 0 0 from rfl,hN] at this;cases this
 | false=>
  symm
  exact decide_eq_true ⟨by rw[ha];rfl,by rw[hb];rfl,h3.2 hN⟩
theorem related_any (a b:List Ne) (va vb:Value) (w:World) (hSa:Sch w.heap.size w va a) (hSb:Sch w.heap.size w vb b) (hwd:Wd w) (hpow:Pow w) (hLa:showLen a≤100000000) (hLb:showLen b≤100000000) :
  Calls Tryz.prog 49 #[.agg #[va],.agg #[vb]] w fun en w'=>∃v,en=.returned v∧relV a b va vb v w'∧Ext w w':=by
 cases hta:showP a with
 | none=>exact (related_no1 a va vb w hSa hwd hpow hLa hta).mono fun en w' h=>⟨_,h.1,.inl ⟨rfl,canB_no1 hta⟩,h.2⟩
 | some ta=>
  cases htb:showP b with
  | none=>exact (related_no2 a b va vb w hSa hSb hwd hpow hLa hLb ta hta htb).mono fun en w' h=>⟨_,h.1,.inl ⟨rfl,canB_no2 htb⟩,h.2⟩
  | some tb=>
   have h1:=show_we hta
   have h2:=show_we htb
   refine (related_some a b va vb w hSa hSb hwd hpow hLa hLb ta tb hta htb h1.2.1 h2.2.1 h1.2.2 h2.2.2).mono ?_
   rintro en w' ⟨⟨bx,bm,n,N,rfl,h3,h4,h5⟩,h6⟩
   exact⟨_,rfl,.inr ⟨bx,bm,n,N,rfl,h3,h4,h5,canB_of hta htb h4 h5,⟨ta,hta⟩,tb,htb⟩,h6⟩
theorem can_any (a b:List Ne) (va vb:Value) (w:World) (hSa:Sch w.heap.size w va a) (hSb:Sch w.heap.size w vb b) (hwd:Wd w) (hpow:Pow w) (hLa:showLen a≤100000000) (hLb:showLen b≤100000000) :
  Calls Tryz.prog 46 #[.agg #[va],.agg #[vb]] w fun en w'=>en=.returned (.bool (canB a b))∧Ext w w':=by
 obtain⟨w1,hw1⟩:∃z,Hid ((w.alloc (.cells #[va] 24)).alloc (.cells #[vb] 24)=z):=⟨_,rfl⟩
 have hx1:Ext w w1:=by rw[←hw1.out];exact ((Ext.refl w).alloc _).alloc _
 have hc:=related_any a b va vb w1 ((hSa.below hx1).mono hx1.size) ((hSb.below hx1).mono hx1.size) (hwd.ext hx1) (hpow.ext hx1) hLa hLb
 clear hSa hSb
 obtain⟨r,hr⟩:∃z,Hid (canB a b=z):=⟨_,rfl⟩
 rw[hr.out]
 obtain⟨PO,hPO⟩:∃PO:Ending→World→Prop,Hid ((fun en w'=>en=.returned (.bool r)∧Ext w w')=PO):=⟨_,Lib.hid rfl⟩
 have fin:∀W,Ext w W→PO (.returned (.bool r)) W:=fun W hW=>by rw[←hPO.out];exact⟨rfl,hW⟩
 rw[hPO.out]
 go_enter Tryz.func46,Tryz.ntmps46
 go_wp2_with fail
 rw[hw1.out]
 refine hc.mono ?_
 rintro en w2 ⟨v,rfl,hv,hx2⟩
 clear hc
 rcases hv with⟨rfl,e⟩|⟨bx,bm,n,N,rfl,hrx,_,_,e,_,_⟩
 ·rw[hr.out] at e
  subst e
  have hf:=fin w2 (hx1.trans hx2)
  have hxx:=hx1.trans hx2
  go_wp2_with fail
  first|exact hf|exact hxx
 ·rw[hr.out] at e
  have hrd:=reads_any hrx (i:=0) (j:=0) ⟨by decide,by decide⟩ ⟨by decide,by decide⟩
  rw[e] at hrd
  clear e
  go_wp2_with fail
  refine hrd.mono ?_
  rintro en w3 ⟨rfl,hx3⟩
  have hf:=fin w3 (hx1.trans (hx2.trans hx3))
  have hxx:=hx1.trans (hx2.trans hx3)
  go_wp2_with fail
  first|exact hf|exact hxx
theorem Can_any (a b:List Ne) (va vb:Value) (w:World) (hSa:Sch w.heap.size w va a) (hSb:Sch w.heap.size w vb b) (hwd:Wd w) (hpow:Pow w) (hLa:showLen a≤100000000) (hLb:showLen b≤100000000) :
  Calls Tryz.prog 18 #[.agg #[va],.agg #[vb]] w fun en w'=>en=.returned (.bool (canB a b))∧Ext w w':=by
 obtain⟨w1,hw1⟩:∃z,Hid ((w.alloc (.cells #[va] 24)).alloc (.cells #[vb] 24)=z):=⟨_,rfl⟩
 have hx1:Ext w w1:=by rw[←hw1.out];exact ((Ext.refl w).alloc _).alloc _
 have hc:=can_any a b va vb w1 ((hSa.below hx1).mono hx1.size) ((hSb.below hx1).mono hx1.size) (hwd.ext hx1) (hpow.ext hx1) hLa hLb
 clear hSa hSb
 obtain⟨r,hr⟩:∃z,Hid (canB a b=z):=⟨_,rfl⟩
 rw[hr.out] at hc ⊢
 go_enter Tryz.func18,Tryz.ntmps18
 go_wp2_with fail
 rw[hw1.out]
 refine hc.mono ?_
 rintro en w2 ⟨rfl,hx2⟩
 go_wp2_with fail
 go_ret
 exact⟨rfl,hx1.trans hx2⟩
end Rv
namespace Base
open Go.ChangeShapes Go.WideShapes Go.ChangeAt Go.RowKit
def cutA (A:Option Addr) (c l:Nat):Option Addr:=if c=l then A else A.map (·.add l)
theorem Rd.cut {w:World} {A:Option Addr} {L:List Value} (h:Rd w A L) {c l k:Nat} (hl:l≤k) (hk:k≤c):Rd w (cutA A c l) ((L.take k).drop l):=by
 intro hne
 have hlen:l<(L.take k).length:=by
  rcases Nat.lt_or_ge l (L.take k).length with x|x
  ·exact x
  ·exact absurd (List.drop_eq_nil_of_le x) hne
 have hL:L≠[]:=by rintro rfl;simp at hlen
 obtain⟨b,off,rfl,hc⟩:=h hL
 have hlk:l<k:=by rw[List.length_take] at hlen;omega
 refine⟨b,off+l,?_,fun j u hj=>?_⟩
 ·unfold cutA
  rw[if_neg (by omega)]
  simp only[Option.map_some]
  congr 1
  unfold Addr.add;split<;>simp_all
 ·rw[List.getElem?_drop,List.getElem?_take] at hj
  split at hj
  ·rw[Nat.add_assoc];exact hc _ u hj
  ·cases hj
theorem Rb.cut {w:World} {A:Option Addr} {L:List UInt8} (h:Rb w A L) {c l k:Nat} (hl:l≤k) (hk:k≤c):Rb w (cutA A c l) ((L.take k).drop l):=by
 have:=Rd.cut h hl hk
 rwa [u8s,←List.map_take,←List.map_drop] at this
theorem run_cut {P:Program} {t e:TypeId} (ht:P.underlying t=some (.slice e)) (he:(P.info? e).map (·.size)=some 1) (w:World) (A:Option Addr) (n c l k:Nat) (lo hi:Option Value)
  (hlo:lo=some (.int .i64 (l:Int))∨lo=none∧l=0) (hhi:hi=some (.int .i64 (k:Int))∨hi=none∧k=n) (hl:l≤k) (hk:k≤c) (hn:hi=none→n≤c) :
  (Instr.slice t (.slice A n c) lo hi none).run P w=.ok (.slice (cutA A c l) (k-l) (c-l)) w:=by
 have h1:(0:Int)≤(l:Int)∧(l:Int)≤(k:Int):=by omega
 have h2:(0:Int)≤(k:Int)∧(k:Int)≤(c:Int):=by omega
 cases hq:P.info? e with
 | none=>simp[hq] at he
 | some i=>
  have hi1:i.size=1:=by simpa [hq] using he
  rcases hlo with rfl|⟨rfl,rfl⟩<;>rcases hhi with rfl|⟨rfl,rfl⟩ <;>
   simp[Instr.slice,Instr.sliceBounds,Instr.sliceBound,run_underlying ht,asIntOf,h1,h2,sizeOf,typeInfo,hq,hi1,cutA,go_sem] <;>
   (try rw[if_pos hk,if_pos hl])<;>(try (intro h;omega))
theorem run_cutAt {P:Program} {t e:TypeId} (ht:P.underlying t=some (.slice e)) (he:(P.info? e).map (·.size)=some 1) (w:World) (A:Option Addr) (n c l k:Nat) (lo hi:Option Value)
  (hlo:lo=some (.int .i64 (l:Int))∨lo=none∧l=0) (hhi:hi=some (.int .i64 (k:Int))∨hi=none∧k=n) (hl:l≤k) (hk:k≤c) (hn:hi=none→n≤c) :
  (Instr.sliceAt t (.slice A n c) lo hi none).run P w=.ok (.slice (cutA A c l) (k-l) (c-l)) w:=by
 rw[←run_cut ht he w A n c l k lo hi hlo hhi hl hk hn]
 simp[Instr.sliceAt,run_underlying ht]
end Base
namespace Pl
open Go.ChangeShapes Go.WideShapes Go.ChangeAt Go.RowKit
open Base Lx Mi Pr Rv Cn
theorem pol_cases {p:Int} (h:polP p=true):p=0∨p=1∨p=2∨p=3∨p=4∨p=5∨p=6:=by
 unfold polP at h
 simp at h
 omega
theorem is_any (p:Int) (w:World):Calls Tryz.prog 53 #[.int .i64 p] w fun en w'=>en=.returned (.bool (polP p))∧Ext w w':=by
 obtain⟨PO,hPO⟩:∃PO:Ending→World→Prop,Hid ((fun en w'=>en=.returned (.bool (polP p))∧Ext w w')=PO):=⟨_,Lib.hid rfl⟩
 have fin:∀b:Bool,polP p=b→PO (.returned (.bool b)) w:=fun b h=>by rw[←hPO.out,h];exact⟨rfl,Ext.refl w⟩
 rw[hPO.out]
 unfold polP at fin
 by_cases h1:0≤p
 ·by_cases h2:p<7
  ·have h3:=fin true (by simp;omega)
   clear fin
   go_enter Tryz.func53,Tryz.ntmps53
   go_wp2_with fail
   exact h3
  ·have h3:=fin false (by simp;omega)
   clear fin
   go_enter Tryz.func53,Tryz.ntmps53
   go_wp2_with fail
   exact h3
 ·have h3:=fin false (by simp;omega)
  clear fin
  go_enter Tryz.func53,Tryz.ntmps53
  go_wp2_with fail
  exact h3
def bitsP (p:Int):Int:=if 3<p then p-3 else p
noncomputable def folB (b:Int) (e o:Ns):Bool:=(decide (b=0∨b=2) || canB o e) && (decide (b<2) || canB e o)
theorem folB_eq {p:Int} (h:polP p=true) (e o:Ns):folB (bitsP p) e o=folP p e o:=by
 rcases pol_cases h with rfl|rfl|rfl|rfl|rfl|rfl|rfl<;>simp[folB,folP,bitsP,backP,forthP]
theorem asks_any (p:Int) (h:polP p=true) (w:World):Calls Tryz.prog 60 #[.int .i64 p] w fun en w'=>en=.returned (.tuple #[.int .i64 (bitsP p),.bool (allP p)])∧Ext w w':=by
 rcases pol_cases h with rfl|rfl|rfl|rfl|rfl|rfl|rfl
 all_goals
  go_enter Tryz.func60,Tryz.ntmps60
  go_wp2_with fail
  go_ret2
  exact⟨rfl,Ext.refl w⟩
theorem follows_any (b:Int) (hb:0≤b∧b≤3) (e o:Ns) (ve vo:Value) (w:World) (hSe:Sch w.heap.size w ve e) (hSo:Sch w.heap.size w vo o) (hwd:Wd w) (hpow:Pow w) (hLe:showLen e≤100000000) (hLo:showLen o≤100000000) :
  Calls Tryz.prog 79 #[.int .i64 b,.agg #[ve],.agg #[vo]] w fun en w'=>en=.returned (.bool (folB b e o))∧Ext w w':=by
 obtain⟨w1,hw1⟩:∃z,Hid (w.alloc (.cells #[ve] 24)=z):=⟨_,rfl⟩
 obtain⟨w2,hw2⟩:∃z,Hid (w1.alloc (.cells #[vo] 24)=z):=⟨_,rfl⟩
 have hx1:Ext w w1:=by rw[←hw1.out];exact (Ext.refl w).alloc _
 have hx12:Ext w1 w2:=by rw[←hw2.out];exact (Ext.refl w1).alloc _
 have hs1:w1.heap.size=w.heap.size+1:=by rw[←hw1.out];simp
 obtain⟨q4,hq4⟩:∃z,Hid (w.heap.size=z):=⟨_,rfl⟩
 obtain⟨q5,hq5⟩:∃z,Hid (w.heap.size+1=z):=⟨_,rfl⟩
 have b4:Blk w2 q4 #[ve] 24:=by rw[←hq4.out];exact (by rw[←hw1.out];exact Blk.new w _ _:Blk w1 w.heap.size #[ve] 24).ext hx12
 have b5:Blk w2 q5 #[vo] 24:=by rw[←hq5.out,←hs1,←hw2.out];exact Blk.new w1 _ _
 have hx2:=hx1.trans hx12
 have k4:∀W,Ext w2 W→W.cell? ⟨q4,0,none⟩=some ve:=fun W hW=>by have:=(b4.ext hW).cell 0;simpa using this
 have k5:∀W,Ext w2 W→W.cell? ⟨q5,0,none⟩=some vo:=fun W hW=>by have:=(b5.ext hW).cell 0;simpa using this
 have h1:=fun W (hW:Ext w W)=>Can_any o e vo ve W ((hSo.below hW).mono hW.size) ((hSe.below hW).mono hW.size) (hwd.ext hW) (hpow.ext hW) hLo hLe
 have h2:=fun W (hW:Ext w W)=>Can_any e o ve vo W ((hSe.below hW).mono hW.size) ((hSo.below hW).mono hW.size) (hwd.ext hW) (hpow.ext hW) hLe hLo
 have hf:folB b e o=((decide (b=0∨b=2) || canB o e) && (decide (b<2) || canB e o)):=rfl
 obtain⟨c1,hc1⟩:∃z,Hid (canB o e=z):=⟨_,rfl⟩
 obtain⟨c2,hc2⟩:∃z,Hid (canB e o=z):=⟨_,rfl⟩
 simp only[hc1.out] at h1 hf
 simp only[hc2.out] at h2 hf
 rw[hf]
 replace h1:=Lib.hid h1
 replace h2:=Lib.hid h2
 have l4:=k4 w2 (Ext.refl _)
 have l5:=k5 w2 (Ext.refl _)
 replace k4:=Lib.hid k4
 replace k5:=Lib.hid k5
 clear hf hSe hSo hs1 b4 b5 hx1 hx12
 obtain⟨PO,hPO⟩:∃PO:Ending→World→Prop,Hid ((fun en w'=>en=.returned (.bool ((decide (b=0∨b=2) || c1) && (decide (b<2) || c2)))∧Ext w w')=PO):=⟨_,Lib.hid rfl⟩
 have fin:∀(v:Bool) W,Ext w W→((decide (b=0∨b=2) || c1) && (decide (b<2) || c2))=v→PO (.returned (.bool v)) W:=fun v W hW h=>by rw[←hPO.out,h];exact⟨rfl,hW⟩
 rw[hPO.out]
 replace fin:=Lib.hid fin
 have hb4:b=0∨b=1∨b=2∨b=3:=by omega
 have a01:(Op.binOp .and 3 (.const (.int .i64 0)) (.const (.int .i64 1)) 3)=(Op.binOp .and 3 (.const (.int .i64 0)) (.const (.int .i64 1)) 3):=rfl
 clear a01 hb
 rcases hb4 with rfl|rfl|rfl|rfl
 ·have hg:=fin.out true w2 hx2 (by simp)
  go_enter Tryz.func79,Tryz.ntmps79
  go_wp2_with fail
  rw[hw1.out,hw2.out]
  exact hg
 ·have hc:=h1.out w2 hx2
  cases c1 with
  | true=>
   go_enter Tryz.func79,Tryz.ntmps79
   go_wp2_with fail
   rw[hw1.out,hw2.out,hq5.out,hq4.out]
   go_wp2_with fail
   refine hc.mono ?_
   rintro en w3 ⟨rfl,hx3⟩
   have hg:=fin.out true w3 (hx2.trans hx3) (by simp)
   go_wp2_with fail
   exact hg
  | false=>
   go_enter Tryz.func79,Tryz.ntmps79
   go_wp2_with fail
   rw[hw1.out,hw2.out,hq5.out,hq4.out]
   go_wp2_with fail
   refine hc.mono ?_
   rintro en w3 ⟨rfl,hx3⟩
   have hg:=fin.out false w3 (hx2.trans hx3) (by simp)
   go_wp2_with fail
   exact hg
 ·have hc:=h2.out w2 hx2
  go_enter Tryz.func79,Tryz.ntmps79
  go_wp2_with fail
  rw[hw1.out,hw2.out,hq5.out,hq4.out]
  go_wp2_with fail
  refine hc.mono ?_
  rintro en w3 ⟨rfl,hx3⟩
  have hg:=fin.out c2 w3 (hx2.trans hx3) (by simp)
  go_wp2_with fail
  exact hg
 ·have hc:=h1.out w2 hx2
  cases c1 with
  | true=>
   go_enter Tryz.func79,Tryz.ntmps79
   go_wp2_with fail
   rw[hw1.out,hw2.out,hq5.out,hq4.out]
   go_wp2_with fail
   refine hc.mono ?_
   rintro en w3 ⟨rfl,hx3⟩
   have hd:=h2.out w3 (hx2.trans hx3)
   have m4:=k4.out w3 hx3
   have m5:=k5.out w3 hx3
   clear hc
   go_wp2_with fail
   refine hd.mono ?_
   rintro en w4 ⟨rfl,hx4⟩
   have hg:=fin.out c2 w4 (hx2.trans (hx3.trans hx4)) (by simp)
   go_wp2_with fail
   exact hg
  | false=>
   go_enter Tryz.func79,Tryz.ntmps79
   go_wp2_with fail
   rw[hw1.out,hw2.out,hq5.out,hq4.out]
   go_wp2_with fail
   refine hc.mono ?_
   rintro en w3 ⟨rfl,hx3⟩
   have hg:=fin.out false w3 (hx2.trans hx3) (by simp)
   go_wp2_with fail
   exact hg
end Pl
end Go.Proofs.YtmaoochjbpohdaaGreatDoor
