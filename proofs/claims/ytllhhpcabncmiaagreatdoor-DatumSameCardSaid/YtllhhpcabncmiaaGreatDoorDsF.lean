/- parse: the writer's types, walked: fixed, records, words. -/
import Derived.Test.YtllhhpcabncmiaaGreatDoorDsE
set_option linter.unusedVariables false
set_option linter.unusedSimpArgs false
set_option maxRecDepth 100000
set_option maxHeartbeats 1000000
namespace Go.Proofs.YtllhhpcabncmiaaGreatDoor
namespace Pr
open Go.ChangeShapes Go.WideShapes Go.ChangeAt Go.RowKit
open Base Lx Mi
set_option maxHeartbeats 2000000 in
theorem wtyped_newB {B m f deep j:Nat} {no:Value} {ns:List Ne} (hdf:deep+(f+1)=20) (H:WTypC B m no ns f (deep+1)) (st:WSt) (w:World) (h:WInv B w m no st) (hS:En B w no ns) (hj:j<ns.length) (hbad:st.bad=false) (h46:¬4096<st.s.length) (hjn:j=st.next)
  (hkk:(ns.getD j neD).k<6∨9<(ns.getD j neD).k)
  (hL:(wbody (wtyp ns f) (ns.getD j neD) { st with next:=st.next+1 }).s.length≤100000000) :
  Calls Tryz.prog 94 #[.pointer (some ⟨m,0,none⟩),.int .i64 (j:Int),.int .i64 (deep:Int)] w fun e w'=>e=.returned (.tuple #[])∧WK B w w'∧WInv B w' m no (wbody (wtyp ns f) (ns.getD j neD) { st with next:=st.next+1 }):=by
 obtain⟨v,b,off,c,rfl,hbB,hsub,hnc,hcm,hcell⟩:=hS.sch.node j hj
 have hd20:¬(20:Int)≤(deep:Int):=by omega
 obtain⟨d,hd⟩:∃z,z=ns.getD j neD:=⟨_,rfl⟩
 rw[←hd] at hsub hcell
 obtain⟨k,name,size,syms,items,fields⟩:=d
 obtain⟨va,vb,vc⟩:=v
 have hSy:Sl B w va syms.length (txs syms):=hsub.syms
 have hSi:Sl B w vb items.length (intsZ items):=hsub.items
 have hSf:Sl B w vc fields.length (fldsZ fields):=hsub.fields
 have hrng : -9223372036854775808≤size∧size≤9223372036854775807:=hsub.rng
 obtain⟨As,cs,rfl,hs1⟩:=id hSy
 obtain⟨Ai,ci,rfl,hs2⟩:=id hSi
 obtain⟨Af,cf,rfl,hs3⟩:=id hSf
 clear hs1 hs2 hs3
 obtain⟨ny,hny⟩:∃z,Hid (syms.length=z):=⟨_,rfl⟩
 obtain⟨ni,hni⟩:∃z,Hid (items.length=z):=⟨_,rfl⟩
 obtain⟨nf,hnf⟩:∃z,Hid (fields.length=z):=⟨_,rfl⟩
 rw[hny.out] at hSy hsub hcell
 rw[hni.out] at hSi hsub hcell
 rw[hnf.out] at hSf hsub hcell
 have hlow:∀W',WK B w W'→∀i,i<6→W'.cell? ⟨b,off+(j*6+i),none⟩=(neC ⟨k,name,size,syms,items,fields⟩ (.slice As ny cs,.slice Ai ni ci,.slice Af nf cf))[i]?:=fun W' hW' i hi=>(Below.cell hW'.below (p:=⟨b,off+(j*6+i),none⟩) hbB).trans (hcell i hi)
 have k0:w.cell? ⟨b,off+j*6,none⟩=some (.int .i64 k):=by have:=hcell 0 (by omega);simpa [neC] using this
 have k1:w.cell? ⟨b,off+j*6+1,none⟩=some (.string name):=by have:=hcell 1 (by omega);simpa [neC,Nat.add_assoc] using this
 have k2:w.cell? ⟨b,off+j*6+2,none⟩=some (.int .i64 size):=by have:=hcell 2 (by omega);simpa [neC,Nat.add_assoc] using this
 have k3:w.cell? ⟨b,off+j*6+3,none⟩=some (.slice As ny cs):=by have:=hcell 3 (by omega);simpa [neC,Nat.add_assoc] using this
 have k4:w.cell? ⟨b,off+j*6+4,none⟩=some (.slice Ai ni ci):=by have:=hcell 4 (by omega);simpa [neC,Nat.add_assoc] using this
 have k5:w.cell? ⟨b,off+j*6+5,none⟩=some (.slice Af nf cf):=by have:=hcell 5 (by omega);simpa [neC,Nat.add_assoc] using this
 obtain⟨c2,c3,c4,f3,f4⟩:=h.cells
 have hlen:=wlen_any h
 have hBw:=h.size
 obtain⟨ln,hln⟩:∃z,Hid (ns.length=z):=⟨_,rfl⟩
 rw[hln.out] at c2 hj
 have hjI:(j:Int)<(ln:Int):=by omega
 have hjN:¬(ln:Int)≤(j:Int):=by omega
 have hj0:¬(j:Int)<0:=by omega
 obtain⟨sl,hsl⟩:∃z,Hid (st.s.length=z):=⟨_,rfl⟩
 rw[hsl.out] at hlen h46
 have h46I:¬(4096:Int)<(sl:Int):=by omega
 rw[hbad] at c4
 obtain⟨q,hq⟩:∃z,Hid (w.heap.size=z):=⟨_,rfl⟩
 obtain⟨w1,hw1⟩:∃z,Hid (w.alloc (.cells #[.int .i64 k,.string name,.int .i64 size,.slice As ny cs,.slice Ai ni ci,.slice Af nf cf] 47)=z):=⟨_,rfl⟩
 have hx1:Ext w w1:=by rw[←hw1.out];exact (Ext.refl w).alloc _
 have hbq1:Blk w1 q #[.int .i64 k,.string name,.int .i64 size,.slice As ny cs,.slice Ai ni ci,.slice Af nf cf] 47:=by rw[←hw1.out,←hq.out];exact Blk.new w _ _
 have hBq:B≤q:=by rw[←hq.out];exact h.size
 have h1:=h.ext hx1
 obtain⟨c2',c3',c4',f3',f4'⟩:=h1.cells
 rw[hbad] at c4'
 rw[←hd] at hL hkk ⊢
 clear hd
 replace hkk:=Lib.hid hkk
 have hjn':st.next=j:=hjn.symm
 have hjnI:¬(j:Int)<(j:Int):=by omega
 have hwr:IntKind.i64.wrap ((j:Int)+1)=(j:Int)+1:=by rw[IntKind.wrap_i64];have:=hln.out;unfold maxLen at hcm;omega
 rw[hjn'] at c3 c3'
 have q0:w1.cell? ⟨q,0,none⟩=some (.int .i64 k):=hbq1.cell 0
 obtain⟨hk2,hi2⟩:=h1.setNext (st.next+1)
 obtain⟨w2,hw2⟩:∃z,Hid (w1.setCell ⟨m,3,none⟩ (.int .i64 ((j:Int)+1))=z):=⟨_,rfl⟩
 rw[hjn',show ((j+1:Nat):Int)=(j:Int)+1 by omega,hw2.out] at hk2
 rw[hjn',show ((j+1:Nat):Int)=(j:Int)+1 by omega,hw2.out] at hi2
 rw[hjn'] at hL ⊢
 have hbq2:=hk2.keep q _ _ hbq1 (by decide) (by decide)
 have hkA:WK B w w2:=(WK.ofExt hx1 hBw).trans hk2
 have hS2:=hS.below hkA.below
 have hSi2:=hSi.below hkA.below
 have hSy2:=hSy.below hkA.below
 have hSf2:=hSf.below hkA.below
 have qq:∀W',Ext w2 W'→∀i,W'.cell? ⟨q,i,none⟩ = #[.int .i64 k,.string name,.int .i64 size,.slice As ny cs,.slice Ai ni ci,.slice Af nf cf][i]?:=fun W' hW' i=>(hbq2.ext hW').cell i
 have r0:w2.cell? ⟨q,0,none⟩=some (.int .i64 k):=qq w2 (Ext.refl _) 0
 have r1:w2.cell? ⟨q,1,none⟩=some (.string name):=qq w2 (Ext.refl _) 1
 have r2:w2.cell? ⟨q,2,none⟩=some (.int .i64 size):=qq w2 (Ext.refl _) 2
 have r3:w2.cell? ⟨q,3,none⟩=some (.slice As ny cs):=qq w2 (Ext.refl _) 3
 have r4:w2.cell? ⟨q,4,none⟩=some (.slice Ai ni ci):=qq w2 (Ext.refl _) 4
 have r5:w2.cell? ⟨q,5,none⟩=some (.slice Af nf cf):=qq w2 (Ext.refl _) 5
 rw[←hw1.out] at c3' c4' f3' f4'
 rw[←hw2.out,←hw1.out,←hq.out] at r0 r1 r2 r3 r4 r5
 rw[←hw1.out,←hq.out] at q0
 have hb2:=hi2.size
 clear hS hSi hSy hSf hcell hlow hbad hjn hbq1 h1 hk2 c2' hj hBq
 obtain⟨PO,hPO⟩:∃PO:Ending→World→Prop,Hid ((fun e w'=>e=.returned (.tuple #[])∧WK B w w'∧WInv B w' m (.slice (some ⟨b,off,none⟩) ns.length c) (wbody (wtyp ns f) ⟨k,name,size,syms,items,fields⟩ { st with next:=j+1 }))=PO):=⟨_,rfl⟩
 rw[hPO.out]
 have hk':=hkk.out
 simp only at hk'
 by_cases k10:k=10
 ·subst k10
  have hre:wbody (wtyp ns f) ⟨10,name,size,syms,items,fields⟩ { st with next:=j+1 }=({ st with next:=j+1 }:WSt).put (sFix++bs name++[32]++Lib.itoa size):=by
   rw[wbody,if_neg (by simp),if_neg (by simp),if_neg (by simp),if_neg (by simp),if_pos rfl]
  rw[hre] at hL hPO
  rw[WSt.put_len] at hL
  obtain⟨J,hJ⟩:∃J:ByteArray,J=⟨(Lib.itoa size).toArray⟩:=⟨_,rfl⟩
  have hbJ:bs J=Lib.itoa size:=by rw[hJ];rfl
  have hsJ:=bs_size J
  have hsn:=bs_size name
  rw[←hbJ] at hL hPO
  simp only[List.length_append,hsJ,hsn,List.length_cons,List.length_nil,sFix] at hL
  have hjo:=fun W' (hW':Ext w2 W')=>itoa_any size hrng.1 hrng.2 W' (hS2.pow.ext hW')
  rw[←hJ] at hjo
  have hz1:¬9223372036854775807<6+name.size:=by omega
  have hz2:¬9223372036854775807<6+name.size+1:=by omega
  have hz3:¬9223372036854775807<6+name.size+1+J.size:=by omega
  have s1:∀W',Ext w2 W'→W'.cell? ⟨q,1,none⟩=some (.string name):=fun W' hW'=>qq W' hW' 1
  have s2:∀W',Ext w2 W'→W'.cell? ⟨q,2,none⟩=some (.int .i64 size):=fun W' hW'=>qq W' hW' 2
  have hwo:=fun W' (hW':Ext w2 W')=>wstr_any (⟨#[102,105,120,101,100,32]⟩++name++⟨#[32]⟩++J) (hi2.ext hW') (by
   have e1:=bs_size (⟨#[102,105,120,101,100,32]⟩++name++⟨#[32]⟩++J)
   rw[bs_append,bs_append,bs_append] at e1
   simp only[List.length_append,hsJ,hsn] at e1
   rw[←e1]
   show st.s.length+(6+name.size+1+J.size)≤_
   omega)
  rw[bs_append,bs_append,bs_append] at hwo
  clear hJ hbJ hsJ hsn hre qq
  go_enter Tryz.func94,Tryz.ntmps94
  go_wp2_with fail
  refine hlen.mono ?_
  rintro e w0 ⟨rfl,rfl⟩
  go_wp2_with fail
  rw[hw1.out,hq.out,hw2.out]
  refine Reg.startE (by kernel_rfl) ?_
  iterate 9 ((first|refine Reg.tn ?_|refine Reg.sn ?_);(try simp only[Reg.nn]))
  refine Reg.onlyE 9 _ rfl (by kernel_rfl) (by decide) (by rfl) (fun W hW K hK=>?_);go_simp
  refine (hjo W hW).mono ?_
  rintro e wX ⟨rfl,hX⟩
  refine hK.out _ _ (hX) ?_;clear hK K;(try simp only[Reg.nn])
  refine Reg.tk 10 ?_;(try simp only[Reg.nn])
  refine Reg.lastD 11 _ rfl (by kernel_rfl) (by kernel_rfl) (by kernel_rfl) (by decide) (by rfl) (fun W hW K hK=>?_)
  have hwo:=hwo W ((by repeat (first|assumption|exact Ext.refl _|refine Ext.trans (by assumption) ?_|apply Ext.drew|apply Ext.drewN|apply Ext.alloc)))
  go_simp
  refine hwo.mono ?_
  rintro e w3 ⟨rfl,hb3,h3⟩
  have hkF:WK B w w3:=(hkA.trans (WK.ofExt ((by repeat (first|assumption|exact Ext.refl _|refine Ext.trans (by assumption) ?_|apply Ext.drew|apply Ext.drewN|apply Ext.alloc))) hb2)).trans hb3
  refine hK.out _ _ ?_;clear hK K;(try simp only[Reg.nn])
  go_wp2_with fail
  go_end0
  rw[←hPO.out]
  exact⟨rfl,hkF,h3⟩
 by_cases k11:k=11
 ·subst k11
  have hre:wbody (wtyp ns f) ⟨11,name,size,syms,items,fields⟩ { st with next:=j+1 }=wrecord (wtyp ns f) ⟨11,name,size,syms,items,fields⟩ { st with next:=j+1 }:=by
   rw[wbody,if_neg (by simp),if_neg (by simp),if_neg (by simp),if_neg (by simp),if_neg (by simp),if_pos rfl]
  rw[hre] at hL hPO
  have hcall:Calls Tryz.prog 111 #[.pointer (some ⟨m,0,none⟩),.agg #[.int .i64 11,.string name,.int .i64 size,.slice As ny cs,.slice Ai ni ci,.slice Af nf cf],.int .i64 (deep:Int)] w2 _:=wrecord_any H (by omega) ⟨11,name,size,syms,items,fields⟩ (.slice As ny cs,.slice Ai ni ci,.slice Af nf cf) { st with next:=j+1 } w2 hi2 hS2 ⟨by rw[hny.out];exact hSy2,by rw[hni.out];exact hSi2,by rw[hnf.out];exact hSf2,hrng⟩ hL
  clear qq hre hL
  go_enter Tryz.func94,Tryz.ntmps94
  go_wp2_with fail
  refine hlen.mono ?_
  rintro e w0 ⟨rfl,rfl⟩
  go_wp2_with fail
  rw[hw1.out,hw2.out]
  refine hcall.mono ?_
  rintro e w3 ⟨rfl,hk3,hi3⟩
  go_wp2_with fail
  go_end0
  rw[←hPO.out]
  exact⟨rfl,hkA.trans hk3,hi3⟩
 have n6:(k == 6)=false:=by simpa using (by omega:¬k=6)
 have n7:(k == 7)=false:=by simpa using (by omega:¬k=7)
 have n8:(k == 8)=false:=by simpa using (by omega:¬k=8)
 have n9:(k == 9)=false:=by simpa using (by omega:¬k=9)
 have n10:(k == 10)=false:=by simpa using (by omega:¬k=10)
 have n11:(k == 11)=false:=by simpa using (by omega:¬k=11)
 by_cases kb:k<0∨12≤k
 ·have hre:wbody (wtyp ns f) ⟨k,name,size,syms,items,fields⟩ { st with next:=j+1 }={ st with next:=j+1,bad:=true }:=by
   rw[wbody,if_neg (by simp only;omega),if_neg (by simp only;omega),if_neg (by simp only;omega),if_neg (by simp only;omega),if_neg (by simp only;omega),if_neg (by simp only;omega),if_pos (by simp only;omega)]
  rw[hre] at hPO
  obtain⟨hk3,hi3⟩:=hi2.setBad true
  have f24:=hi2.cells.2.2.2.2
  have c24:=hi2.cells.2.2.1
  rw[←hw2.out,←hw1.out] at f24 c24
  clear qq hre hL
  rcases kb with kb|kb
  ·go_enter Tryz.func94,Tryz.ntmps94
   go_wp2_with fail
   refine hlen.mono ?_
   rintro e w0 ⟨rfl,rfl⟩
   go_wp2_with fail
   rw[hw1.out,hw2.out]
   refine bodyPost_ret (results_none rfl _ _ _) rfl ?_
   rw[←hPO.out]
   exact⟨rfl,hkA.trans hk3,hi3⟩
  ·have kb':¬k<0:=by omega
   go_enter Tryz.func94,Tryz.ntmps94
   go_wp2_with fail
   refine hlen.mono ?_
   rintro e w0 ⟨rfl,rfl⟩
   go_wp2_with fail
   rw[hw1.out,hw2.out]
   refine bodyPost_ret (results_none rfl _ _ _) rfl ?_
   rw[←hPO.out]
   exact⟨rfl,hkA.trans hk3,hi3⟩
 ·obtain⟨kk,rfl⟩:∃kk:Nat,k=(kk:Int):=⟨k.toNat,by omega⟩
  have hkk6:kk<6:=by omega
  obtain⟨t,ht1,ht2,ht3⟩:=getD_words kk hkk6
  have hre:wbody (wtyp ns f) ⟨kk,name,size,syms,items,fields⟩ { st with next:=j+1 }=({ st with next:=j+1 }:WSt).put (bs t):=by
   rw[wbody,if_neg (by simp only;omega),if_neg (by simp only;omega),if_neg (by simp only;omega),if_neg (by simp only;omega),if_neg (by simp only;omega),if_neg (by simp only;omega),if_neg (by simp only;omega)]
   show ({ st with next:=j+1 }:WSt).put (bs (wordsL.getD (kk:Int).toNat ⟨#[]⟩))=_
   rw[Int.toNat_natCast,ht2]
  rw[hre] at hPO
  have s0:∀W',Ext w2 W'→W'.cell? ⟨q,0,none⟩=some (.int .i64 (kk:Int)):=fun W' hW'=>qq W' hW' 0
  have sw:∀W',Ext w2 W'→W'.cell? ⟨0,kk,none⟩=some (.string t):=fun W' hW'=>by
   obtain⟨b0,o0,e0,hc0⟩:=(hS2.wd.ext hW') (by simp[txs,wordsL])
   simp only[Option.some.injEq,Addr.mk.injEq,and_true] at e0
   obtain⟨rfl,rfl⟩:=e0
   have:=hc0 kk (.string t) (by unfold txs;rw[List.getElem?_map,ht1];rfl)
   rwa [Nat.zero_add] at this
  have hwo:=fun W' (hW':Ext w2 W')=>wstr_any t (hi2.ext hW') (by show st.s.length+t.size≤_;have:=hsl.out;omega)
  have hk12:(kk:Int)<12:=by omega
  have hk12':¬(12:Int)≤(kk:Int):=by omega
  have hk0':¬(kk:Int)<0:=by omega
  have hkn:kk<12:=by omega
  clear qq hre hL kb ht1 ht2
  go_enter Tryz.func94,Tryz.ntmps94
  go_wp2_with fail
  refine hlen.mono ?_
  rintro e w0 ⟨rfl,rfl⟩
  go_wp2_with fail
  rw[hw1.out,hq.out,hw2.out]
  refine Reg.startE (by kernel_rfl) ?_
  iterate 7 ((first|refine Reg.tn ?_|refine Reg.sn ?_);(try simp only[Reg.nn]))
  refine Reg.lastD 7 _ rfl (by kernel_rfl) (by kernel_rfl) (by kernel_rfl) (by decide) (by rfl) (fun W hW K hK=>?_)
  have hwo:=hwo W hW
  go_simp
  refine hwo.mono ?_
  rintro e w3 ⟨rfl,hb3,h3⟩
  have hkF:WK B w w3:=(hkA.trans (WK.ofExt hW hb2)).trans hb3
  refine hK.out _ _ ?_;clear hK K;(try simp only[Reg.nn])
  go_wp2_with fail
  go_end0
  rw[←hPO.out]
  exact⟨rfl,hkF,h3⟩
theorem wtyped_all {B m:Nat} {no:Value} {ns:List Ne}:∀(f deep:Nat),deep+f=20→WTypC B m no ns f deep
 | f,deep,hdf=>by
  intro n st w h hS hL
  by_cases hst:wstop ns f n st
  ·rw[wtyp_stop hst]
   exact wtyped_stop hdf n st w h hS hst
  ·cases f with
   | zero=>exact absurd (.inr (.inr (.inr (.inr (.inl rfl))))) hst
   | succ f=>
    have hst':=hst
    unfold wstop at hst
    simp only[not_or,Int.not_lt,Int.not_le,Nat.not_lt] at hst
    obtain⟨q1,q2,q3,q4,q5,q6⟩:=hst
    obtain⟨j,rfl⟩:=Int.eq_ofNat_of_zero_le q2
    rw[wtyp_go hst'] at hL ⊢
    rw[Int.toNat_natCast] at hL ⊢
    by_cases hjn:(j:Int)<(st.next:Int)
    ·rw[if_pos hjn] at hL ⊢
     exact wtyped_ref hdf st w h hS (by omega) (by simpa using q1) (by omega) (by omega) hL
    ·rw[if_neg hjn] at hL ⊢
     by_cases hk:(ns.getD j neD).k=6∨(ns.getD j neD).k=7∨(ns.getD j neD).k=8∨(ns.getD j neD).k=9
     ·exact wtyped_newA hdf (wtyped_all f (deep+1) (by omega)) st w h hS (by omega) (by simpa using q1) (by omega) (by omega) hk hL
     ·exact wtyped_newB hdf (wtyped_all f (deep+1) (by omega)) st w h hS (by omega) (by simpa using q1) (by omega) (by omega) (by omega) hL
theorem Sch.node2 {B:Nat} {w:World} {vn:Value} {ns:List Ne} (h:Sch B w vn ns) (j:Nat) (d:Ne) (hd:ns[j]?=some d):∃b off c As cs Ai ci Af cf,vn=.slice (some ⟨b,off,none⟩) ns.length c∧b<B∧SubE B w d (.slice As d.syms.length cs,.slice Ai d.items.length ci,.slice Af d.fields.length cf)∧∀W,Below B w W→W.cell? ⟨b,off+j*6,none⟩=some (.int .i64 d.k)∧W.cell? ⟨b,off+j*6+1,none⟩=some (.string d.name)∧W.cell? ⟨b,off+j*6+2,none⟩=some (.int .i64 d.size)∧W.cell? ⟨b,off+j*6+3,none⟩=some (.slice As d.syms.length cs)∧W.cell? ⟨b,off+j*6+4,none⟩=some (.slice Ai d.items.length ci)∧W.cell? ⟨b,off+j*6+5,none⟩=some (.slice Af d.fields.length cf):=by
 have hj:j<ns.length:=(List.getElem?_eq_some_iff.1 hd).1
 obtain⟨v,b,off,c,e,hb,hs,hc1,hc2,hc⟩:=h.node j hj
 have hg:ns.getD j neD=d:=by simp[List.getD,hd]
 rw[hg] at hs hc
 obtain⟨va,vb,vc⟩:=v
 obtain⟨As,cs,rfl,q1⟩:∃As cs,va=.slice As d.syms.length cs∧True:=by obtain⟨A,c,e,_⟩:=hs.syms;exact⟨A,c,e,trivial⟩
 obtain⟨Ai,ci,rfl,q2⟩:∃As cs,vb=.slice As d.items.length cs∧True:=by obtain⟨A,c,e,_⟩:=hs.items;exact⟨A,c,e,trivial⟩
 obtain⟨Af,cf,rfl,q3⟩:∃As cs,vc=.slice As d.fields.length cs∧True:=by obtain⟨A,c,e,_⟩:=hs.fields;exact⟨A,c,e,trivial⟩
 refine⟨b,off,c,As,cs,Ai,ci,Af,cf,e,hb,hs,fun W hW=>?_⟩
 have k:∀i,i<6→W.cell? ⟨b,off+(j*6+i),none⟩=(neC d (.slice As d.syms.length cs,.slice Ai d.items.length ci,.slice Af d.fields.length cf))[i]?:=fun i hi=>(Below.cell hW (p:=⟨b,off+(j*6+i),none⟩) hb).trans (hc i hi)
 have k0:=k 0 (by omega)
 have k1:=k 1 (by omega)
 have k2:=k 2 (by omega)
 have k3:=k 3 (by omega)
 have k4:=k 4 (by omega)
 have k5:=k 5 (by omega)
 simp only[←Nat.add_assoc] at k0 k1 k2 k3 k4 k5
 exact⟨k0,k1,k2,k3,k4,k5⟩
theorem equalF_any {B:Nat} {w:World} {v1 v2:Value} {l1 l2:List Ne} (h1:Sch B w v1 l1) (h2:Sch B w v2 l2) (hB:B≤w.heap.size) :
  Calls Tryz.prog 97 #[v1,v2,.func (.func 98) #[] #[]] w fun e w'=>e=.returned (.bool (decide (l1=l2)))∧Ext w w':=by
 obtain⟨R,hR⟩:∃R,Hid (decide (l1=l2)=R):=⟨_,Lib.hid rfl⟩
 rw[hR.out]
 have hm1:l1.length≤9223372036854775807:=by obtain⟨vs,_,⟨A,c,e,_,_,q1,q2,_⟩,_⟩:=h1;unfold maxLen at q2;omega
 obtain⟨A1,c1,rfl⟩:=h1.slice
 obtain⟨A2,c2,rfl⟩:=h2.slice
 obtain⟨n,hn⟩:∃z,Hid (l1.length=z):=⟨_,rfl⟩
 obtain⟨n2,hn2'⟩:∃z,Hid (l2.length=z):=⟨_,rfl⟩
 rw[hn.out] at hm1 ⊢
 rw[hn2'.out]
 by_cases hl:n=n2
 ·subst hl
  have hnb:((n:Int) != (n:Int))=false:=by simp
  go_enter Tryz.func97,Tryz.ntmps97
  go_wp2_with fail
  go_loopw [7,8,9,17,18,19,20,21,22,23,24,25,26,27,28,29,30,31] (fun v7 v8 v9 v17 v18 v19 v20 v21 v22 v23 v24 v25 v26 v27 v28 v29 v30 v31 wr=>∃i:Nat,i≤n∧v17=.int .i64 i∧EqAt l1 l2 i∧Ext w wr) (fun _ _ _ v17 _ _ _ _ _ _ _ _ _ _ _ _ _ _ _=>n-(intOf v17).toNat)
  case atStart=>exact⟨0,by omega,rfl,fun j hj=>by omega,Ext.refl w⟩
  case round=>
   obtain⟨i,hi,rfl,heq,hx⟩:=hrel
   by_cases hin:i<n
   ·have hin':(i:Int)<(n:Int):=by omega
    obtain⟨x,hx1⟩:∃x,l1[i]?=some x:=⟨_,List.getElem?_eq_getElem (by have:=hn.out;omega)⟩
    obtain⟨y,hx2⟩:∃x,l2[i]?=some x:=⟨_,List.getElem?_eq_getElem (by have:=hn2'.out;omega)⟩
    obtain⟨b1,o1,d1,As1,cs1,Ai1,ci1,Af1,cf1,e1,hb1,hs1,hc1⟩:=h1.node2 i x hx1
    obtain⟨b2,o2,d2,As2,cs2,Ai2,ci2,Af2,cf2,e2,hb2,hs2,hc2⟩:=h2.node2 i y hx2
    injection e1 with e1 _ e1'
    injection e2 with e2 _ e2'
    subst e1;subst e1';subst e2;subst e2'
    obtain⟨p0,p1,p2,p3,p4,p5⟩:=hc1 wr (Below.mono hx hB)
    have hbw2:Below B w (wr.alloc (.cells #[.int .i64 x.k,.string x.name,.int .i64 x.size,.slice As1 x.syms.length cs1,.slice Ai1 x.items.length ci1,.slice Af1 x.fields.length cf1] 47)):=Below.mono (hx.alloc _) hB
    obtain⟨q0,q1,q2,q3,q4,q5⟩:=hc2 _ hbw2
    obtain⟨w1,hw1⟩:∃z,Hid ((wr.alloc (.cells #[.int .i64 x.k,.string x.name,.int .i64 x.size,.slice As1 x.syms.length cs1,.slice Ai1 x.items.length ci1,.slice Af1 x.fields.length cf1] 47)).alloc (.cells #[.int .i64 y.k,.string y.name,.int .i64 y.size,.slice As2 y.syms.length cs2,.slice Ai2 y.items.length ci2,.slice Af2 y.fields.length cf2] 47)=z):=⟨_,rfl⟩
    have hxw:Ext wr w1:=by rw[←hw1.out];exact ((Ext.refl wr).alloc _).alloc _
    have hb1w:=Below.mono (hx.trans hxw) hB
    have hcall:=samen_any (w:=w1) (B:=B) (d1:=x) (d2:=y) (v1:=(.slice As1 x.syms.length cs1,.slice Ai1 x.items.length ci1,.slice Af1 x.fields.length cf1)) (v2:=(.slice As2 y.syms.length cs2,.slice Ai2 y.items.length ci2,.slice Af2 y.fields.length cf2)) ⟨hs1.syms.below hb1w,hs1.items.below hb1w,hs1.fields.below hb1w,hs1.rng⟩ ⟨hs2.syms.below hb1w,hs2.items.below hb1w,hs2.fields.below hb1w,hs2.rng⟩ (Nat.le_trans hB (hx.trans hxw).size)
    simp only[neC] at hcall
    by_cases he:x=y
    ·rw[show decide (x=y)=true by simpa using he] at hcall
     rw[←he] at hx2
     have hE:=heq.next hx1 hx2
     clear hx1 hx2 hc1 hc2 hs1 hs2 he
     go_wp2_with fail
     rw[hw1.out]
     refine hcall.mono ?_
     rintro e w2 ⟨rfl,hx3⟩
     go_wp2_with fail
     go_roundw
     case rel=>exact⟨i+1,by omega,by go_num,hE,(hx.trans hxw).trans hx3⟩
     case measure=>simp[intOf];omega
    ·have hne:=ne_at hx1 hx2 he
     have hRf:R=false:=by rw[←hR.out];simpa using hne
     rw[show decide (x=y)=false by simpa using he] at hcall
     subst hRf
     clear hx1 hx2 hne hc1 hc2 hs1 hs2 he
     go_wp2_with fail
     rw[hw1.out]
     refine hcall.mono ?_
     rintro e w2 ⟨rfl,hx3⟩
     go_wp2_with fail
     go_ret
     exact⟨rfl,(hx.trans hxw).trans hx3⟩
   ·obtain rfl:i=n:=by omega
    have hRt:R=true:=by rw[←hR.out];simpa using EqAt.all (by rw[hn.out,hn2'.out]) (by rw[hn.out];exact heq)
    subst hRt
    go_wp2_with fail
    go_ret
    exact⟨rfl,hx⟩
 ·have hRf:R=false:=by rw[←hR.out];simpa using ne_len (by rw[hn.out,hn2'.out];exact hl)
  have hnb:((n:Int) != (n2:Int))=true:=by simpa using (by omega:¬(n:Int)=(n2:Int))
  subst hRf
  go_enter Tryz.func97,Tryz.ntmps97
  go_wp2_with fail
  go_ret
  exact⟨rfl,Ext.refl w⟩
end Pr
namespace Pr
open Lx
theorem Res.bind_ok {α β:Type} {r:Res α} {f:α→PS→Res β} {b:β} {s':PS} (h:r.bind f=.ok b s'):∃a s1,r=.ok a s1∧f a s1=.ok b s':=by
 cases r with
 | ok a s1=>exact⟨a,s1,rfl,h⟩
 | bad x y=>cases h
theorem isT_pos {s:PS} {x:ByteArray} (h:isT s x=true):s.l≠[]:=by
 intro e
 unfold isT hd at h
 rw[e] at h
 simp at h
theorem on_len {s:PS} (h:s.l≠[]):s.on.l.length+1=s.l.length:=by
 cases hl:s.l with
 | nil=>exact absurd hl h
 | cons t r=>simp[PS.on,hl]
theorem mustR_ok {s s':PS} {x:ByteArray} {u:Unit} (h:mustR s x=.ok u s'):isT s x=true∧s'=s.on:=by
 unfold mustR at h
 split at h
 ·next ht=>injection h with _ h;exact⟨ht,h.symm⟩
 ·cases h
theorem nameR_ok {s s':PS} {th:ByteArray→Bool} {x:ByteArray} (h:nameR s th=.ok x s'):(hd s.l).k=0∧kwP x=false∧nameP x=true∧th x=false∧x=(hd s.l).s∧s'=s.on:=by
 unfold nameR at h
 split at h
 ·cases h
 ·next h1=>
  split at h
  ·cases h
  ·next h2=>
   injection h with h3 h4
   subst h3
   simp only[not_or,Bool.not_eq_true,ne_eq,Decidable.not_not,Bool.not_eq_false] at h1 h2
   exact⟨h1.1,h1.2.1,h1.2.2,h2,rfl,h4.symm⟩
theorem k0_pos {s:PS} (h:(hd s.l).k=0):s.l≠[]:=by
 intro e
 rw[e] at h
 simp[hd] at h
theorem kindR_pos {s:PS} {k:Int} (h:kindR s=some k):s.l≠[]:=by
 unfold kindR at h
 split at h
 ·next ht=>exact isT_pos ht
 ·split at h
  ·next ht=>exact isT_pos ht
  ·split at h
   ·next ht=>exact isT_pos ht
   ·split at h
    ·cases h
    ·next hk=>exact k0_pos (by simpa using hk)
theorem kindR_rng {s:PS} {k:Int} (h:kindR s=some k) : -1≤k∧k<12:=by
 have hi:∀(l:List ByteArray) (x:ByteArray),-1≤idxOf l x∧idxOf l x<l.length:=by
  intro l x
  induction l with
  | nil=>simp[idxOf]
  | cons y r ih=>
   rw[idxOf]
   split
   ·simp
   ·split
    ·simp;omega
    ·simp only[List.length_cons];omega
 unfold kindR at h
 split at h
 ·injection h with h;omega
 ·split at h
  ·injection h with h;omega
  ·split at h
   ·injection h with h;omega
   ·split at h
    ·cases h
    ·split at h
     ·injection h with h
      have:=hi wordsL (hd s.l).s
      have e:wordsL.length=12:=rfl
      omega
     ·split at h
      ·injection h with h;omega
      ·cases h
theorem setN_len (s:PS) (n:Nat) (f:Nd→Nd):(s.setN n f).ns.length=s.ns.length:=by simp[PS.setN]
def TG (T:Bool→List Nat→PS→Res Nat):Prop:=∀u a s n s',T u a s=.ok n s'→s.ns.length≤s'.ns.length∧s'.l.length<s.l.length
section
variable {T:Bool→List Nat→PS→Res Nat} (hT:TG T)
include hT
theorem itemR_len {s s':PS} {n:Nat} {x:ByteArray} {u:Unit} (h:itemR T s n x=.ok u s'):s.ns.length≤s'.ns.length∧s'.l.length<s.l.length:=by
 obtain⟨a,s1,h1,h2⟩:=Res.bind_ok h
 obtain⟨h3,h4⟩:=hT _ _ _ _ _ h1
 obtain⟨h5,rfl⟩:=mustR_ok h2
 have:=on_len (isT_pos h5)
 have h6:=setN_len s1 n fun d=>{ d with items:=[a] }
 refine⟨?_,?_⟩
 ·show s.ns.length≤(s1.setN n _).ns.length
  omega
 ·have h7:(s1.setN n fun d=>{ d with items:=[a] }).l=s1.l:=rfl
  rw[h7] at this
  omega
theorem unionR_len (n:Nat):∀(m:Nat) (l:List Nat) {s s':PS} {u:Unit},unionR T n m l s=.ok u s'→s.ns.length≤s'.ns.length∧s'.l.length<s.l.length
 | 0,l,s,s',u,h=>by cases h
 | m+1,l,s,s',u,h=>by
  rw[unionR] at h
  obtain⟨a,s1,h1,h2⟩:=Res.bind_ok h
  obtain⟨h3,h4⟩:=hT _ _ _ _ _ h1
  split at h2
  ·next ht=>
   injection h2 with _ h2
   subst h2
   have:=on_len (isT_pos ht)
   have h6:=setN_len s1.on n fun d=>{ d with items:=l++[a] }
   refine⟨?_,?_⟩
   ·rw[h6];exact h3
   ·show s1.on.l.length<_;omega
  ·obtain⟨v,s2,h5,h6⟩:=Res.bind_ok h2
   obtain⟨h7,rfl⟩:=mustR_ok h5
   have:=on_len (isT_pos h7)
   obtain⟨h8,h9⟩:=unionR_len n m _ h6
   exact⟨Nat.le_trans h3 h8,by omega⟩
theorem fieldsR_len (n:Nat):∀(m:Nat) (l:List (ByteArray×Bool×Nat)) {s s':PS} {u:Unit},fieldsR T n m l s=.ok u s'→s.ns.length≤s'.ns.length∧s'.l.length<s.l.length
 | 0,l,s,s',u,h=>by cases h
 | m+1,l,s,s',u,h=>by
  rw[fieldsR] at h
  split at h
  ·next ht=>
   injection h with _ h
   subst h
   have:=on_len (isT_pos ht)
   have h6:=setN_len s.on n fun d=>{ d with fields:=l }
   refine⟨?_,?_⟩
   ·rw[h6];exact Nat.le_refl _
   ·show s.on.l.length<_;omega
  ·obtain⟨x,s1,h1,h2⟩:=Res.bind_ok h
   obtain⟨hk,_,_,_,_,rfl⟩:=nameR_ok h1
   have e1:=on_len (k0_pos hk)
   obtain⟨v,s2,h3,h4⟩:=Res.bind_ok h2
   obtain⟨h5,rfl⟩:=mustR_ok h3
   have e2:=on_len (isT_pos h5)
   have e3:(goesR s.on cQ).2.l.length≤s.on.l.length∧(goesR s.on cQ).2.ns=s.on.ns:=by
    unfold goesR
    split
    ·next hq=>exact⟨by have:=on_len (isT_pos hq);show s.on.on.l.length≤_;omega,rfl⟩
    ·exact⟨Nat.le_refl _,rfl⟩
   obtain⟨t,s3,h6,h7⟩:=Res.bind_ok h4
   obtain⟨h8,h9⟩:=hT _ _ _ _ _ h6
   obtain⟨v2,s4,h10,h11⟩:=Res.bind_ok h7
   obtain⟨h12,rfl⟩:=mustR_ok h10
   have e4:=on_len (isT_pos h12)
   obtain⟨h13,h14⟩:=fieldsR_len n m _ h11
   have e5:(goesR s.on cQ).2.on.ns.length=s.ns.length:=by show (goesR s.on cQ).2.ns.length=_;rw[e3.2];rfl
   refine⟨?_,?_⟩
   ·have h13':s3.ns.length≤s'.ns.length:=h13
    omega
   ·omega
omit hT in
theorem symsR_len (n:Nat):∀(m:Nat) (l:List ByteArray) {s s':PS} {u:Unit},symsR n m l s=.ok u s'→s.ns.length≤s'.ns.length∧s'.l.length<s.l.length
 | 0,l,s,s',u,h=>by cases h
 | m+1,l,s,s',u,h=>by
  rw[symsR] at h
  obtain⟨x,s1,h1,h2⟩:=Res.bind_ok h
  obtain⟨hk,_,_,_,_,rfl⟩:=nameR_ok h1
  have e1:=on_len (k0_pos hk)
  split at h2
  ·next ht=>
   injection h2 with _ h2
   subst h2
   have:=on_len (isT_pos ht)
   have h6:=setN_len s.on.on n fun d=>{ d with syms:=l++[x] }
   refine⟨?_,?_⟩
   ·rw[h6];exact Nat.le_refl _
   ·show s.on.on.l.length<_;omega
  ·obtain⟨v,s2,h5,h6⟩:=Res.bind_ok h2
   obtain⟨h7,rfl⟩:=mustR_ok h5
   have:=on_len (isT_pos h7)
   obtain⟨h8,h9⟩:=symsR_len n m _ h6
   exact⟨h8,by omega⟩
theorem definedR_len {s s':PS} {n:Nat} {k:Int} {u:Unit} (h:definedR T s n k=.ok u s'):s.ns.length≤s'.ns.length∧s'.l.length<s.l.length:=by
 unfold definedR at h
 obtain⟨x,s1,h1,h2⟩:=Res.bind_ok h
 obtain⟨hk,_,_,_,_,rfl⟩:=nameR_ok h1
 have e1:=on_len (k0_pos hk)
 simp only at h2
 generalize hs2:s.on.called n x=s2 at h2
 have el:s2.l=s.on.l:=by rw[←hs2];rfl
 have en:s2.ns.length=s.ns.length:=by rw[←hs2];exact setN_len s.on n _
 split at h2
 ·obtain⟨v,s3,h5,h6⟩:=Res.bind_ok h2
  obtain⟨h7,rfl⟩:=mustR_ok h5
  have:=on_len (isT_pos h7)
  obtain⟨h8,h9⟩:=symsR_len n _ _ h6
  have h8':s2.ns.length≤s'.ns.length:=h8
  rw[el] at this
  exact⟨by omega,by omega⟩
 ·split at h2
  ·split at h2
   ·cases h2
   ·next hq=>
    injection h2 with _ h2
    subst h2
    simp only[not_or,ne_eq,Decidable.not_not] at hq
    have hne:s2.l≠[]:=by intro e;have:=hq.1;rw[e] at this;simp[hd] at this
    have:=on_len hne
    have h6:=setN_len s2.on n fun d=>{ d with size:=((numO (hd s2.l).s.data.toList).getD 0:Nat) }
    refine⟨?_,?_⟩
    ·rw[h6];show s.ns.length≤s2.ns.length;omega
    ·show s2.on.l.length<_;rw[el] at this;omega
  ·obtain⟨v,s3,h5,h6⟩:=Res.bind_ok h2
   obtain⟨h7,rfl⟩:=mustR_ok h5
   have:=on_len (isT_pos h7)
   obtain⟨h8,h9⟩:=fieldsR_len hT n _ _ h6
   have h8':s2.ns.length≤s'.ns.length:=h8
   rw[el] at this
   exact⟨by omega,by omega⟩
end
theorem typedR_len:∀(fuel:Nat),TG (typedR fuel)
 | fuel,u,a,s,n,s',h=>by
  rw[typedR.eq_def] at h
  simp only at h
  split at h
  ·cases h
  ·next k hk=>
   split at h
   ·cases h
   ·split at h
    ·injection h with _ h
     subst h
     have:=on_len (kindR_pos hk)
     exact⟨Nat.le_refl _,by omega⟩
    ·have e1:=on_len (kindR_pos hk)
     cases fuel with
     | zero=>cases h
     | succ fuel=>
      have ih:=typedR_len fuel
      simp only at h
      generalize hs1:({ s.on with ns:=s.ns++[Nd.ofKind k] }:PS)=s1 at h
      have el:s1.l=s.on.l:=by rw[←hs1]
      have en:s1.ns.length=s.ns.length+1:=by rw[←hs1];simp
      rw[←el] at e1
      split at h
      ·obtain⟨_,s2,h1,h2⟩:=Res.bind_ok h
       injection h2 with _ h2;subst h2
       have:=itemR_len ih h1
       exact⟨by omega,by omega⟩
      ·split at h
       ·obtain⟨_,s2,h1,h2⟩:=Res.bind_ok h
        injection h2 with _ h2;subst h2
        have:=itemR_len ih h1
        exact⟨by omega,by omega⟩
       ·split at h
        ·obtain⟨_,s2,h1,h2⟩:=Res.bind_ok h
         injection h2 with _ h2;subst h2
         have:=unionR_len ih _ _ _ h1
         exact⟨by omega,by omega⟩
        ·split at h
         ·obtain⟨_,s2,h1,h2⟩:=Res.bind_ok h
          injection h2 with _ h2;subst h2
          have:=definedR_len ih h1
          exact⟨by omega,by omega⟩
         ·injection h with _ h;subst h
          exact⟨by omega,by omega⟩
theorem typedR_in {fuel:Nat} {u:Bool} {a:List Nat} {s s':PS} {n:Nat} (hn:∀x m,s.nm x=some m→m<s.ns.length) (h:typedR fuel u a s=.ok n s'):n<s'.ns.length:=by
 rw[typedR.eq_def] at h
 simp only at h
 split at h
 ·cases h
 ·next k hk=>
  split at h
  ·cases h
  ·next hg=>
   split at h
   ·next hk0=>
    injection h with h1 h2
    subst h2
    cases hm:s.nm (hd s.l).s with
    | some m=>rw[hm] at h1;simp at h1;subst h1;exact hn _ _ hm
    | none=>
     rw[hm] at hg
     unfold gateR at hg
     split at hg
     ·cases hg
     ·rw[if_pos ⟨hk0,rfl⟩] at hg;cases hg
   ·cases fuel with
    | zero=>cases h
    | succ fuel=>
     have ih:=typedR_len fuel
     simp only at h
     generalize hs1:({ s.on with ns:=s.ns++[Nd.ofKind k] }:PS)=s1 at h
     have en:s1.ns.length=s.ns.length+1:=by rw[←hs1];simp
     split at h
     ·obtain⟨_,s2,h1,h2⟩:=Res.bind_ok h
      injection h2 with h3 h2;subst h2;subst h3
      have:=(itemR_len ih h1).1;omega
     ·split at h
      ·obtain⟨_,s2,h1,h2⟩:=Res.bind_ok h
       injection h2 with h3 h2;subst h2;subst h3
       have:=(itemR_len ih h1).1;omega
      ·split at h
       ·obtain⟨_,s2,h1,h2⟩:=Res.bind_ok h
        injection h2 with h3 h2;subst h2;subst h3
        have:=(unionR_len ih _ _ _ h1).1;omega
       ·split at h
        ·obtain⟨_,s2,h1,h2⟩:=Res.bind_ok h
         injection h2 with h3 h2;subst h2;subst h3
         have:=(definedR_len ih h1).1;omega
        ·injection h with h3 h;subst h;subst h3;omega
def AllN (p:Nd→Prop) (s:PS):Prop:=∀d∈s.ns,p d
theorem AllN.setN {p:Nd→Prop} {s:PS} (h:AllN p s) (n:Nat) {f:Nd→Nd} (hf:∀d,p d→p (f d)):AllN p (s.setN n f):=fun d hd=>by
 obtain⟨i,hi⟩:=List.mem_iff_getElem?.1 hd
 have hi:(s.ns.modify n f)[i]?=some d:=hi
 rw[List.getElem?_modify] at hi
 obtain⟨d0,h0,rfl⟩:=Option.map_eq_some_iff.1 hi
 have:=h d0 (List.mem_of_getElem? h0)
 split
 ·exact hf d0 this
 ·exact this
theorem AllN.same {p:Nd→Prop} {s s':PS} (h:AllN p s) (e:s'.ns=s.ns):AllN p s':=fun d hd=>h d (by rw[←e];exact hd)
def TA (p:Nd→Prop) (T:Bool→List Nat→PS→Res Nat):Prop:=∀u a s n s',T u a s=.ok n s'→AllN p s→AllN p s'
section
variable {p:Nd→Prop} {T:Bool→List Nat→PS→Res Nat}
theorem itemR_all (hT:TA p T) (hi:∀d l,p d→p { d with items:=l }) {s s':PS} {n:Nat} {x:ByteArray} {u:Unit} (h:itemR T s n x=.ok u s') (hp:AllN p s):AllN p s':=by
 obtain⟨a,s1,h1,h2⟩:=Res.bind_ok h
 obtain⟨h5,rfl⟩:=mustR_ok h2
 exact ((hT _ _ _ _ _ h1 hp).setN n fun d hd=>hi d _ hd).same rfl
theorem unionR_all (hT:TA p T) (hi:∀d l,p d→p { d with items:=l }) (n:Nat):∀(m:Nat) (l:List Nat) {s s':PS} {u:Unit},unionR T n m l s=.ok u s'→AllN p s→AllN p s'
 | 0,l,s,s',u,h,_=>by cases h
 | m+1,l,s,s',u,h,hp=>by
  rw[unionR] at h
  obtain⟨a,s1,h1,h2⟩:=Res.bind_ok h
  have hp1:=hT _ _ _ _ _ h1 hp
  split at h2
  ·injection h2 with _ h2
   subst h2
   exact (hp1.same (s':=s1.on) rfl).setN n fun d hd=>hi d _ hd
  ·obtain⟨v,s2,h5,h6⟩:=Res.bind_ok h2
   obtain⟨h7,rfl⟩:=mustR_ok h5
   exact unionR_all hT hi n m _ h6 (hp1.same rfl)
theorem goes_ns (s:PS) (x:ByteArray):(goesR s x).2.ns=s.ns:=by unfold goesR;split<;>rfl
theorem fieldsR_all (hT:TA p T) (hf:∀d l,p d→p { d with fields:=l }) (n:Nat):∀(m:Nat) (l:List (ByteArray×Bool×Nat)) {s s':PS} {u:Unit},fieldsR T n m l s=.ok u s'→AllN p s→AllN p s'
 | 0,l,s,s',u,h,_=>by cases h
 | m+1,l,s,s',u,h,hp=>by
  rw[fieldsR] at h
  split at h
  ·injection h with _ h
   subst h
   exact (hp.same (s':=s.on) rfl).setN n fun d hd=>hf d _ hd
  ·obtain⟨x,s1,h1,h2⟩:=Res.bind_ok h
   obtain⟨_,_,_,_,_,rfl⟩:=nameR_ok h1
   obtain⟨v,s2,h3,h4⟩:=Res.bind_ok h2
   obtain⟨h5,rfl⟩:=mustR_ok h3
   obtain⟨t,s3,h6,h7⟩:=Res.bind_ok h4
   obtain⟨v2,s4,h10,h11⟩:=Res.bind_ok h7
   obtain⟨h12,rfl⟩:=mustR_ok h10
   have hp3:=hT _ _ _ _ _ h6 (hp.same (by show (goesR s.on cQ).2.ns=_;rw[goes_ns];rfl))
   exact fieldsR_all hT hf n m _ h11 (hp3.same rfl)
theorem symsR_all (hy:∀d l,p d→p { d with syms:=l }) (n:Nat):∀(m:Nat) (l:List ByteArray) {s s':PS} {u:Unit},symsR n m l s=.ok u s'→AllN p s→AllN p s'
 | 0,l,s,s',u,h,_=>by cases h
 | m+1,l,s,s',u,h,hp=>by
  rw[symsR] at h
  obtain⟨x,s1,h1,h2⟩:=Res.bind_ok h
  obtain⟨_,_,_,_,_,rfl⟩:=nameR_ok h1
  split at h2
  ·injection h2 with _ h2
   subst h2
   exact (hp.same (s':=s.on.on) rfl).setN n fun d hd=>hy d _ hd
  ·obtain⟨v,s2,h5,h6⟩:=Res.bind_ok h2
   obtain⟨h7,rfl⟩:=mustR_ok h5
   exact symsR_all hy n m _ h6 (hp.same rfl)
theorem definedR_all (hT:TA p T) (hy:∀d l,p d→p { d with syms:=l }) (hf:∀d l,p d→p { d with fields:=l }) (hn:∀d x,p d→p { d with name:=x }) (hz:∀d (v:Nat) l,numO l=some v→p d→p { d with size:=(v:Int) }) {s s':PS} {n:Nat} {k:Int} {u:Unit} (h:definedR T s n k=.ok u s') (hp:AllN p s):AllN p s':=by
 unfold definedR at h
 obtain⟨x,s1,h1,h2⟩:=Res.bind_ok h
 obtain⟨_,_,_,_,_,rfl⟩:=nameR_ok h1
 simp only at h2
 have hp2:AllN p (s.on.called n x):=((hp.same (s':=s.on) rfl).setN n fun d hd=>hn d x hd).same rfl
 generalize hs2:s.on.called n x=s2 at h2 hp2
 split at h2
 ·obtain⟨v,s3,h5,h6⟩:=Res.bind_ok h2
  obtain⟨h7,rfl⟩:=mustR_ok h5
  exact symsR_all hy n _ _ h6 (hp2.same rfl)
 ·split at h2
  ·split at h2
   ·cases h2
   ·next hq=>
    injection h2 with _ h2
    subst h2
    simp only[not_or,ne_eq,Decidable.not_not] at hq
    obtain⟨v,hv⟩:=Option.ne_none_iff_exists'.1 hq.2
    refine (hp2.same (s':=s2.on) rfl).setN n fun d hd=>?_
    rw[hv]
    exact hz d v _ hv hd
  ·obtain⟨v,s3,h5,h6⟩:=Res.bind_ok h2
   obtain⟨h7,rfl⟩:=mustR_ok h5
   exact fieldsR_all hT hf n _ _ h6 (hp2.same rfl)
end
theorem typedR_all {p:Nd→Prop} (h0:∀k,p (Nd.ofKind k)) (hi:∀d l,p d→p { d with items:=l }) (hy:∀d l,p d→p { d with syms:=l }) (hf:∀d l,p d→p { d with fields:=l }) (hn:∀d x,p d→p { d with name:=x }) (hz:∀d (v:Nat) l,numO l=some v→p d→p { d with size:=(v:Int) }):∀(fuel:Nat),TA p (typedR fuel)
 | fuel,u,a,s,n,s',h,hp=>by
  rw[typedR.eq_def] at h
  simp only at h
  split at h
  ·cases h
  ·next k hk=>
   split at h
   ·cases h
   ·split at h
    ·injection h with _ h
     subst h
     exact hp.same rfl
    ·cases fuel with
     | zero=>cases h
     | succ fuel=>
      have ih:=typedR_all h0 hi hy hf hn hz fuel
      simp only at h
      have hp1:AllN p ({ s.on with ns:=s.ns++[Nd.ofKind k] }:PS):=fun d hd=>by
       rcases List.mem_append.1 hd with hd|hd
       ·exact hp d hd
       ·rw[List.mem_singleton] at hd;subst hd;exact h0 k
      generalize hs1:({ s.on with ns:=s.ns++[Nd.ofKind k] }:PS)=s1 at h hp1
      split at h
      ·obtain⟨_,s2,h1,h2⟩:=Res.bind_ok h
       injection h2 with _ h2;subst h2
       exact itemR_all ih hi h1 hp1
      ·split at h
       ·obtain⟨_,s2,h1,h2⟩:=Res.bind_ok h
        injection h2 with _ h2;subst h2
        exact itemR_all ih hi h1 hp1
       ·split at h
        ·obtain⟨_,s2,h1,h2⟩:=Res.bind_ok h
         injection h2 with _ h2;subst h2
         exact unionR_all ih hi _ _ _ h1 hp1
        ·split at h
         ·obtain⟨_,s2,h1,h2⟩:=Res.bind_ok h
          injection h2 with _ h2;subst h2
          exact definedR_all ih hy hf hn hz h1 hp1
         ·injection h with _ h;subst h
          exact hp1
theorem numO_le {l:List UInt8} {v:Nat} (h:numO l=some v):v≤4096:=by
 unfold numO at h
 split at h
 ·cases h
 ·split at h
  ·cases h
  ·split at h
   ·cases h
   ·split at h
    ·cases h
    ·split at h
     ·cases h
     ·injection h with h;omega
theorem parseP_all {p:Nd→Prop} (h0:∀k,p (Nd.ofKind k)) (hi:∀d l,p d→p { d with items:=l }) (hy:∀d l,p d→p { d with syms:=l }) (hf:∀d l,p d→p { d with fields:=l }) (hn:∀d x,p d→p { d with name:=x }) (hz:∀d (v:Nat) l,numO l=some v→p d→p { d with size:=(v:Int) }) (s:ByteArray):∀d∈(parseP s).1,p d:=by
 unfold parseP
 split
 ·intro d hd;cases hd
 ·split
  ·intro d hd;cases hd
  ·next s' he=>
   split
   ·intro d hd;cases hd
   ·exact typedR_all h0 hi hy hf hn hz 20 _ _ _ _ _ he (fun d hd=>by cases hd)
theorem parse_sizes (s:ByteArray):∀d∈(parseP s).1,0≤d.size∧d.size≤4096:=
 parseP_all (p:=fun d=>0≤d.size∧d.size≤4096) (fun k=>by simp[Nd.ofKind]) (fun d l h=>h) (fun d l h=>h) (fun d l h=>h) (fun d x h=>h) (fun d v l hv h=>by have:=numO_le hv;simp only;omega) s
theorem parse_rng (s:ByteArray):∀d∈(parseP s).1,-9223372036854775808≤d.size∧d.size≤9223372036854775807:=fun d hd=>by
 have:=parse_sizes s d hd;omega
theorem wbody_pos (T:WT) (hG:WG T) (x:Ne) (st:WSt):(wbody T x st).bad=true∨st.s.length<(wbody T x st).s.length:=by
 unfold wbody
 have hi:∀(a b:UInt8) l,st.s.length<(witems T [a] l [b] st).s.length:=fun a b l=>by
  unfold witems
  rw[WSt.put_len]
  have:=wlist_len hG true l (st.put [a])
  rw[WSt.put_len] at this
  simp only[List.length_cons,List.length_nil] at *
  omega
 split
 ·exact .inr (hi _ _ _)
 ·split
  ·exact .inr (hi _ _ _)
  ·split
   ·exact .inr (hi _ _ _)
   ·split
    ·right;rw[WSt.put_len];simp[sEn]
    ·split
     ·right;rw[WSt.put_len];simp[sFix]
     ·split
      ·right
       unfold wrecord
       rw[WSt.put_len]
       have:=wflds_len hG x.fields (st.put (sRec++bs x.name++[123]))
       rw[WSt.put_len] at this
       simp only[List.length_cons,List.length_nil] at *
       omega
      ·split
       ·left;rfl
       ·next h1 h2 h3 h4 h5 h6 h7=>
        right
        rw[WSt.put_len]
        have hk:x.k=0∨x.k=1∨x.k=2∨x.k=3∨x.k=4∨x.k=5:=by omega
        rcases hk with e|e|e|e|e|e<;>rw[e]<;>simp[wordsL,bs,sNull,sBool,sInt,sLong,sBytes,sText]
theorem show_ne (ns:List Ne) (h:(wtyp ns 20 0 ⟨[],0,false⟩).bad=false):(wtyp ns 20 0 ⟨[],0,false⟩).s≠[]:=by
 rw[wtyp] at h ⊢
 split at h
 ·simp at h
 ·next hst=>
  rw[if_neg hst]
  rw[if_neg (by simp)] at h ⊢
  rcases wbody_pos (wtyp ns 19) (wtyp_len ns 19) (ns.getD (0:Int).toNat neD) { s:=[],next:=1,bad:=false } with e|e
  ·rw[e] at h;cases h
  ·intro he
   rw[he] at e
   simp at e
end Pr
namespace Pr
open Go.ChangeShapes Go.WideShapes Go.ChangeAt Go.RowKit
open Base Lx Mi
section
variable {B R M:Nat} {vl vn:Value} {vs:List V3} {s:PS}
theorem fail_any (why:Int) (w:World) (h:Rs B w R M vl vn vs s):Calls Tryz.prog 115 #[.pointer (some ⟨R,0,none⟩),.int .i64 why] w fun e w'=>e=.panicked [{ v:=.iface 142 (.agg #[.int .i64 ((hd s.l).a:Int),.int .i64 why]),recovered:=false }]∧w=w':=by
 obtain⟨tg,off,cap,rfl,hp,hnc,hcm,hh⟩:=h.head
 obtain⟨c0,c1,c2,f0,f1⟩:=h.cells
 obtain⟨k0,k1,k2⟩:=hh w (Ext.refl w)
 obtain⟨n,hn⟩:∃n,Hid (s.l.length=n):=⟨_,rfl⟩
 rw[hn.out] at c0 hp
 have hp':(0:Int)<(n:Int):=by omega
 go_enter Tryz.func115,Tryz.ntmps115
 go_wp2_with fail
 exact⟨rfl,rfl,rfl⟩
theorem is_any (x:ByteArray) (w:World) (h:Rs B w R M vl vn vs s):Calls Tryz.prog 141 #[.pointer (some ⟨R,0,none⟩),.string x] w fun e w'=>e=.returned (.bool (isT s x))∧w=w':=by
 obtain⟨tg,off,cap,rfl,hp,hnc,hcm,hh⟩:=h.head
 obtain⟨c0,c1,c2,f0,f1⟩:=h.cells
 obtain⟨k0,k1,k2⟩:=hh w (Ext.refl w)
 obtain⟨n,hn⟩:∃n,Hid (s.l.length=n):=⟨_,rfl⟩
 rw[hn.out] at c0 hp
 obtain⟨t,ht⟩:∃t,Hid (hd s.l=t):=⟨_,rfl⟩
 rw[ht.out] at k0 k1 k2
 have hp':(0:Int)<(n:Int):=by omega
 by_cases hk:t.k=3
 ·have e:isT s x=false:=by simp[isT,ht.out,hk]
  rw[e]
  rw[hk] at k0
  go_enter Tryz.func141,Tryz.ntmps141
  go_wp2_with fail
  go_ret
  exact⟨rfl,rfl⟩
 ·have hkb:((t.k:Int) == 3)=false:=by simpa using hk
  have hkn:((t.k:Int) != 3)=true:=by simpa using hk
  by_cases hx:t.s=x
  ·have e:isT s x=true:=by simp[isT,ht.out,hk,hx]
   rw[e]
   rw[hx] at k1
   go_enter Tryz.func141,Tryz.ntmps141
   go_wp2_with fail
   go_ret
   exact⟨rfl,rfl⟩
  ·have e:isT s x=false:=by simp[isT,ht.out,hx]
   rw[e]
   have hbq:=str_ne hx
   go_enter Tryz.func141,Tryz.ntmps141
   go_wp2_with fail
   go_ret
   exact⟨rfl,rfl⟩
theorem isT_k {x:ByteArray} (h:isT s x=true):(hd s.l).k≠3:=by
 unfold isT at h
 simp only[Bool.and_eq_true,decide_eq_true_eq] at h
 exact h.1
end
def PL (B R M:Nat) (w:World) (vn:Value) (vs:List V3) {α:Type} (enc:α→Value) (r:Res α) (e:Ending) (w':World):Prop:=match r with
 | .ok a s'=>e=.returned (enc a)∧Chg (fun k=>k=R) w w'∧∃vl',Rs B w' R M vl' vn vs s'
 | .bad a y=>e=.panicked (stopV a y)∧Chg (fun k=>k=R) w w'
def Old (w:World) (vs:List V3) (i:Nat) (p:V3→Value) (v':V3):Prop:=∀k,(p v').ownBlock=some k→w.heap.size≤k∨∃v,vs[i]?=some v∧(p v).ownBlock=some k
def SF (w:World) (vs vs':List V3):Prop:=∀(i:Nat) v',vs'[i]?=some v'→Old w vs i (fun v=>v.1) v'∧Old w vs i (fun v=>v.2.1) v'∧Old w vs i (fun v=>v.2.2) v'
theorem SF.refl (w:World) (vs:List V3):SF w vs vs:=fun i v' h=>⟨fun k hk=>.inr ⟨v',h,hk⟩,fun k hk=>.inr ⟨v',h,hk⟩,fun k hk=>.inr ⟨v',h,hk⟩⟩
theorem SF.trans {w w2:World} {a b c:List V3} (h:SF w a b) (k:SF w2 b c) (hs:w.heap.size≤w2.heap.size):SF w a c:=fun i v' hv=>by
 obtain⟨k1,k2,k3⟩:=k i v' hv
 refine⟨fun q hq=>?_,fun q hq=>?_,fun q hq=>?_⟩
 ·rcases k1 q hq with e|⟨v,e1,e2⟩
  ·exact .inl (by omega)
  ·exact (h i v e1).1 q e2
 ·rcases k2 q hq with e|⟨v,e1,e2⟩
  ·exact .inl (by omega)
  ·exact (h i v e1).2.1 q e2
 ·rcases k3 q hq with e|⟨v,e1,e2⟩
  ·exact .inl (by omega)
  ·exact (h i v e1).2.2 q e2
def PW (B R M:Nat) (w:World) (vn:Value) (vs:List V3) {α:Type} (enc:α→Value) (r:Res α) (e:Ending) (w':World):Prop:=match r with
 | .ok a s'=>e=.returned (enc a)∧Chg (Wr R M vn) w w'∧∃vl' vn' vs',Rs B w' R M vl' vn' vs' s'∧Fresh w vn vn'∧SF w vs vs'
 | .bad a y=>e=.panicked (stopV a y)∧Chg (Wr R M vn) w w'
section
variable {B R M:Nat} {vl vn:Value} {vs:List V3} {s:PS} {w w':World} {e:Ending} {α:Type} {enc:α→Value} {r:Res α}
theorem PL.cases (h:PL B R M w vn vs enc r e w'):(∃a s' vl',Hid (r=.ok a s')∧e=.returned (enc a)∧Chg (fun k=>k=R) w w'∧Rs B w' R M vl' vn vs s')∨(∃a y,Hid (r=.bad a y)∧e=.panicked (stopV a y)∧Chg (fun k=>k=R) w w'):=by
 unfold PL at h
 cases r with
 | ok a s'=>obtain⟨h1,h2,vl',h3⟩:=h;exact .inl ⟨a,s',vl',Lib.hid rfl,h1,h2,h3⟩
 | bad a y=>exact .inr ⟨a,y,Lib.hid rfl,h.1,h.2⟩
theorem PW.cases (h:PW B R M w vn vs enc r e w'):(∃a s' vl' vn' vs',Hid (r=.ok a s')∧e=.returned (enc a)∧Chg (Wr R M vn) w w'∧Rs B w' R M vl' vn' vs' s'∧Fresh w vn vn'∧SF w vs vs')∨(∃a y,Hid (r=.bad a y)∧e=.panicked (stopV a y)∧Chg (Wr R M vn) w w'):=by
 unfold PW at h
 cases r with
 | ok a s'=>obtain⟨h1,h2,vl',vn',vs',h3,h4⟩:=h;exact .inl ⟨a,s',vl',vn',vs',Lib.hid rfl,h1,h2,h3,h4⟩
 | bad a y=>exact .inr ⟨a,y,Lib.hid rfl,h.1,h.2⟩
theorem PL.okI {a:α} {s':PS} {vl':Value} (hr:r=.ok a s') (he:e=.returned (enc a)) (hc:Chg (fun k=>k=R) w w') (hs:Rs B w' R M vl' vn vs s'):PL B R M w vn vs enc r e w':=by subst hr;exact⟨he,hc,vl',hs⟩
theorem PL.badI {a y:Nat} (hr:r=.bad a y) (he:e=.panicked (stopV a y)) (hc:Chg (fun k=>k=R) w w'):PL B R M w vn vs enc r e w':=by subst hr;exact⟨he,hc⟩
theorem PW.okI {a:α} {s':PS} {vl' vn':Value} {vs':List V3} (hr:r=.ok a s') (he:e=.returned (enc a)) (hc:Chg (Wr R M vn) w w') (hs:Rs B w' R M vl' vn' vs' s') (hf:Fresh w vn vn') (hg:SF w vs vs'):PW B R M w vn vs enc r e w':=by subst hr;exact⟨he,hc,vl',vn',vs',hs,hf,hg⟩
theorem PW.badI {a y:Nat} (hr:r=.bad a y) (he:e=.panicked (stopV a y)) (hc:Chg (Wr R M vn) w w'):PW B R M w vn vs enc r e w':=by subst hr;exact⟨he,hc⟩
theorem PL.pw (h:PL B R M w vn vs enc r e w'):PW B R M w vn vs enc r e w':=by
 unfold PL at h;unfold PW
 cases r with
 | ok a s'=>obtain⟨h1,h2,vl',h3⟩:=h;exact⟨h1,h2.mono fun k _ e=>.inl e,vl',vn,vs,h3,.inl rfl,SF.refl _ _⟩
 | bad a y=>exact⟨h.1,h.2.mono fun k _ e=>.inl e⟩
theorem must_any (x:ByteArray) (w:World) (h:Rs B w R M vl vn vs s):Calls Tryz.prog 146 #[.pointer (some ⟨R,0,none⟩),.string x] w fun e w'=>PL B R M w vn vs (fun _=>.tuple #[]) (mustR s x) e w':=by
 have his:=is_any x w h
 have hf:=fail_any 4 w h
 by_cases ht:isT s x=true
 ·have hk:=isT_k ht
  have hr:mustR s x=.ok () s.on:=by simp[mustR,ht]
  rw[ht] at his
  rw[hr]
  have Ht:=Lib.hid ht
  clear ht hr
  obtain⟨tg,off,cap,rfl,hp,hnc,hcm,hh⟩:=h.head
  obtain⟨c0,c1,c2,f0,f1⟩:=h.cells
  have hl:=(h.tok.tail hk).2
  have hp2:=(h.tok.tail hk).1.pos
  have hon:=h.on hk
  obtain⟨n,hn⟩:∃n,Hid (s.l.length=n):=⟨_,rfl⟩
  rw[hn.out] at c0 hp hnc hl hon
  have hi1:1≤n:=hp
  have hc1:¬cap=1:=by omega
  have hcI:(1:Int)≤(n:Int):=by omega
  go_enter Tryz.func146,Tryz.ntmps146
  go_wp2_with fail
  refine his.mono ?_
  rintro e w1 ⟨rfl,rfl⟩
  go_wp2_with fail
  go_end0
  exact PL.okI rfl rfl (Chg.one w R 0 _) hon
 ·have ht':isT s x=false:=by simpa using ht
  have hr:mustR s x=.bad (hd s.l).a 4:=by simp[mustR,ht',failR]
  rw[ht'] at his
  rw[hr]
  clear ht ht' hr
  go_enter Tryz.func146,Tryz.ntmps146
  go_wp2_with fail
  refine his.mono ?_
  rintro e w1 ⟨rfl,rfl⟩
  go_wp2_with fail
  refine hf.mono ?_
  rintro e w1 ⟨rfl,rfl⟩
  go_wp2_with fail
  exact⟨rfl,PL.badI rfl rfl (Chg.refl _ _)⟩
theorem goes_any (x:ByteArray) (w:World) (h:Rs B w R M vl vn vs s):Calls Tryz.prog 147 #[.pointer (some ⟨R,0,none⟩),.string x] w fun e w'=>e=.returned (.bool (isT s x))∧Chg (fun k=>k=R) w w'∧∃vl',Rs B w' R M vl' vn vs (goesR s x).2:=by
 have his:=is_any x w h
 by_cases ht:isT s x=true
 ·have hk:=isT_k ht
  have hr:(goesR s x).2=s.on:=by simp[goesR,ht]
  rw[ht] at his
  rw[hr,ht]
  have Ht:=Lib.hid ht
  clear ht hr
  obtain⟨tg,off,cap,rfl,hp,hnc,hcm,hh⟩:=h.head
  obtain⟨c0,c1,c2,f0,f1⟩:=h.cells
  have hl:=(h.tok.tail hk).2
  have hp2:=(h.tok.tail hk).1.pos
  have hon:=h.on hk
  obtain⟨n,hn⟩:∃n,Hid (s.l.length=n):=⟨_,rfl⟩
  rw[hn.out] at c0 hp hnc hl hon
  have hi1:1≤n:=hp
  have hc1:¬cap=1:=by omega
  have hcI:(1:Int)≤(n:Int):=by omega
  go_enter Tryz.func147,Tryz.ntmps147
  go_wp2_with fail
  refine his.mono ?_
  rintro e w1 ⟨rfl,rfl⟩
  go_wp2_with fail
  go_ret
  exact⟨rfl,Chg.one w R 0 _,_,hon⟩
 ·have ht':isT s x=false:=by simpa using ht
  have hr:(goesR s x).2=s:=by simp[goesR,ht']
  rw[ht'] at his
  rw[hr,ht']
  clear ht ht' hr
  go_enter Tryz.func147,Tryz.ntmps147
  go_wp2_with fail
  refine his.mono ?_
  rintro e w1 ⟨rfl,rfl⟩
  go_wp2_with fail
  go_ret
  exact⟨rfl,Chg.refl _ _,_,h⟩
end
end Pr
end Go.Proofs.YtllhhpcabncmiaaGreatDoor
