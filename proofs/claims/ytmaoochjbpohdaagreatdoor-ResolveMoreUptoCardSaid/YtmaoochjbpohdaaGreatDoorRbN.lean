/- parse: which schemas have not too many parts, by the document. -/
import Derived.Test.YtmaoochjbpohdaaGreatDoorRbM
import Derived.SizedLaws
import Derived.ShutString
import Derived.ChangeOld
import Derived.SliceStrings
import Derived.Deep.Slices
import Derived.OpenShut
import Derived.ChangeSame
import Derived.Lib.ItoaLen
set_option linter.unusedVariables false
set_option linter.unusedSimpArgs false
set_option maxRecDepth 100000
set_option maxHeartbeats 1000000
namespace Go.Proofs.YtmaoochjbpohdaaGreatDoor
namespace Pr
open Go.ChangeShapes Go.WideShapes Go.ChangeAt Go.RowKit
open Base Lx Mi
def nodeP (d:Ne):Nat:=d.syms.length+d.items.length+d.fields.length
def partsN (ns:List Ne):Nat:=ns.length+(ns.map nodeP).sum
theorem sum_take_le:∀(l:List Nat) (i:Nat),(l.take i).sum≤l.sum
 | [],i=>by simp
 | x::l,0=>by simp
 | x::l,i+1=>by
  have:=sum_take_le l i
  simp only[List.take_succ_cons,List.sum_cons]
  omega
theorem sum_take_succ (l:List Nat) (i x:Nat) (h:l[i]?=some x):(l.take (i+1)).sum=(l.take i).sum+x:=by
 rw[List.take_add_one,h,List.sum_append]
 simp
theorem small_any {B:Nat} {w:World} {v:Value} {ns:List Ne} (h:Sch B w v ns) (hB:B≤w.heap.size) (hl:ns.length≤2000000) (hd:∀d∈ns,nodeP d≤2000000) :
  Calls Tryz.prog 45 #[.agg #[v]] w fun e w'=>e=.returned (.bool (decide (partsN ns≤3000)))∧Ext w w':=by
 obtain⟨A,c,rfl⟩:=h.slice
 obtain⟨n,hn⟩:∃z,Hid (ns.length=z):=⟨_,Lib.hid rfl⟩
 rw[hn.out] at hl ⊢
 obtain⟨T,hT⟩:∃z,Hid (partsN ns=z):=⟨_,Lib.hid rfl⟩
 rw[hT.out]
 obtain⟨q,hq⟩:∃z,Hid (w.heap.size=z):=⟨_,rfl⟩
 obtain⟨w1,hw1⟩:∃z,Hid (w.alloc (.cells #[.slice A n c] 24)=z):=⟨_,rfl⟩
 have hx1:Ext w w1:=by rw[←hw1.out];exact (Ext.refl w).alloc _
 have hb1:Blk w1 q #[.slice A n c] 24:=by rw[←hw1.out,←hq.out];exact Blk.new w _ _
 have hc1:w1.cell? ⟨q,0,none⟩=some (.slice A n c):=hb1.cell 0
 go_enter Tryz.func45,Tryz.ntmps45
 go_wp2_with fail
 rw[hw1.out,hq.out]
 have hc0:(w.alloc (.cells #[.slice A n c] 24)).cell? ⟨q,0,none⟩=some (.slice A n c):=by rw[hw1.out];exact hc1
 go_wp2_with fail
 go_loopw [3,4] (fun v3 v4 wr=>∃i m:Nat,i≤n∧v4=.int .i64 i∧v3=.int .i64 m∧Hid (m=n+((ns.map nodeP).take i).sum)∧m≤2003000∧Ext w1 wr) (fun _ v4 _=>n-(intOf v4).toNat)
 case atStart=>exact⟨0,n,by omega,rfl,rfl,Lib.hid (by simp),by omega,by first|exact Ext.refl _|exact (by rw[hw1.out];exact Ext.refl _)⟩
 case round=>
  obtain⟨i,m,hi,rfl,rfl,hm,hmb,hx⟩:=hrel
  have hcr:∀W,Ext wr W→W.cell? ⟨q,0,none⟩=some (.slice A n c):=fun W hW=>(hx.trans hW).cell hc1
  have hcr0:=hcr wr (Ext.refl wr)
  have hmT:m≤T:=by
   have:=sum_take_le (ns.map nodeP) i
   rw[←hT.out,partsN,hn.out,hm.out];omega
  by_cases hin:i<n
  ·by_cases hbig:m≤3000
   ·have hin':(i:Int)<(n:Int):=by omega
    have hbig':(m:Int)≤3000:=by omega
    obtain⟨x,hxi⟩:∃x,ns[i]?=some x:=⟨_,List.getElem?_eq_getElem (by have:=hn.out;omega)⟩
    obtain⟨b1,o1,d1,As1,cs1,Ai1,ci1,Af1,cf1,e1,hb1,hs1,hcc⟩:=h.node2 i x hxi
    injection e1 with e1 _ e1'
    subst e1;subst e1'
    have p3:∀W,Ext wr W→W.cell? ⟨b1,o1+i*6+3,none⟩=some (.slice As1 x.syms.length cs1):=fun W hW=>(hcc W (Below.mono ((hx1.trans hx).trans hW) hB)).2.2.2.1
    have p4:∀W,Ext wr W→W.cell? ⟨b1,o1+i*6+4,none⟩=some (.slice Ai1 x.items.length ci1):=fun W hW=>(hcc W (Below.mono ((hx1.trans hx).trans hW) hB)).2.2.2.2.1
    have p5:∀W,Ext wr W→W.cell? ⟨b1,o1+i*6+5,none⟩=some (.slice Af1 x.fields.length cf1):=fun W hW=>(hcc W (Below.mono ((hx1.trans hx).trans hW) hB)).2.2.2.2.2
    have hp:=hd x (List.mem_of_getElem? hxi)
    have hm2:Hid (m+x.syms.length+x.items.length+x.fields.length=n+((ns.map nodeP).take (i+1)).sum):=Lib.hid (by
     rw[sum_take_succ (ns.map nodeP) i (nodeP x) (by rw[List.getElem?_map,hxi];rfl),hm.out];unfold nodeP;omega)
    have hb2:x.syms.length+x.items.length+x.fields.length≤2000000:=hp
    obtain⟨sa,hsa⟩:∃z,Hid (x.syms.length=z):=⟨_,Lib.hid rfl⟩
    obtain⟨sb,hsb⟩:∃z,Hid (x.items.length=z):=⟨_,Lib.hid rfl⟩
    obtain⟨sc,hsc⟩:∃z,Hid (x.fields.length=z):=⟨_,Lib.hid rfl⟩
    rw[hsa.out] at p3 hm2 hb2
    rw[hsb.out] at p4 hm2 hb2
    rw[hsc.out] at p5 hm2 hb2
    have hw1':IntKind.i64.wrap ((m:Int)+(sa:Int))=(m:Int)+(sa:Int):=by rw[IntKind.wrap_i64];omega
    have hw2':IntKind.i64.wrap ((m:Int)+(sa:Int)+(sb:Int))=(m:Int)+(sa:Int)+(sb:Int):=by rw[IntKind.wrap_i64];omega
    have hw3':IntKind.i64.wrap ((m:Int)+(sa:Int)+(sb:Int)+(sc:Int))=(m:Int)+(sa:Int)+(sb:Int)+(sc:Int):=by rw[IntKind.wrap_i64];omega
    clear hcc hp hs1 hmT hm
    go_wp2_with fail
    refine Reg.startE (by kernel_rfl) ?_
    iterate 26 ((first|refine Reg.tn ?_|refine Reg.sn ?_);(try simp only[Reg.nn]))
    refine Reg.fin (by kernel_rfl) (fun W hW=>?_)
    go_wp2_with fail
    go_roundw
    case rel=>exact⟨i+1,m+sa+sb+sc,by omega,by go_num,by go_num,hm2,by omega,hx.trans hW⟩
    case measure=>simp[intOf];omega
   ·have hin':(i:Int)<(n:Int):=by omega
    have hbig':¬(m:Int)≤3000:=by omega
    have hTf:decide (T≤3000)=false:=decide_eq_false (by omega)
    go_wp2_with fail
    go_ret
    exact⟨by first|rfl|rw[hTf],hx1.trans hx⟩
  ·obtain rfl:i=n:=by omega
   have hmT2:m=T:=by rw[hm.out,←hT.out,partsN,hn.out,List.take_of_length_le (by rw[List.length_map];have:=hn.out;omega)]
   subst hmT2
   have hnot:¬(i:Int)<(i:Int):=by omega
   by_cases hbig:m≤3000
   ·have hbig':(m:Int)≤3000:=by omega
    have hTf:=decide_eq_true hbig
    go_wp2_with fail
    go_ret
    exact⟨by first|rfl|rw[hTf],hx1.trans hx⟩
   ·have hbig':¬(m:Int)≤3000:=by omega
    have hTf:=decide_eq_false hbig
    go_wp2_with fail
    go_ret
    exact⟨by first|rfl|rw[hTf],hx1.trans hx⟩
end Pr
namespace Rv
open Go.ChangeShapes Go.WideShapes Go.ChangeAt Go.RowKit
open Base Lx Mi Pr Mp
def ne1 (k:Int):Ne:=⟨k,⟨#[]⟩,0,[],[],[]⟩
theorem show2:showP [ne1 2]=some [105,110,116]:=by decide +kernel
theorem show3:showP [ne1 3]=some [108,111,110,103]:=by decide +kernel
open Classical in
theorem can32:canB [ne1 3] [ne1 2]=true:=by
 unfold canB
 refine decide_eq_true ⟨by rw[show3];rfl,by rw[show2];rfl,fun _ _=>true,?_,rfl⟩
 intro i k x y hx hy _
 cases i with
 | succ i=>simp at hx
 | zero=>
  cases k with
  | succ k=>simp at hy
  | zero=>
   simp at hx hy
   subst hx;subst hy
   rfl
open Classical in
theorem can23:canB [ne1 2] [ne1 3]=false:=by
 unfold canB
 refine decide_eq_false fun h=>?_
 obtain⟨R,hs,hr⟩:=h.2.2
 have:=hs 0 0 (ne1 2) (ne1 3) rfl rfl hr
 have e:holdP R (ne1 2) (ne1 3) ((0:Nat):Int) ((0:Nat):Int)=false:=rfl
 rw[e] at this
 cases this
theorem len2:showLen [ne1 2]≤100000000:=by decide +kernel
theorem len3:showLen [ne1 3]≤100000000:=by decide +kernel
theorem sch_one {w:World} {q:Nat} {k:Int} (h:Blk w q #[.int .i64 k,.string ⟨#[]⟩,.int .i64 0,.slice none 0 0,.slice none 0 0,.slice none 0 0] 36):Sch w.heap.size w (.slice (some ⟨q,0,none⟩) 1 1) [ne1 k]:=by
 have hn:∀cs:List Value,cs=[]→Sl w.heap.size w (.slice none 0 0) 0 cs:=fun cs e=>by subst e;exact⟨none,0,rfl,Rd.nil _ _,fun h=>absurd rfl h,Nat.le_refl _,Nat.zero_le _,fun _=>rfl⟩
 refine⟨[(.slice none 0 0,.slice none 0 0,.slice none 0 0)],rfl,⟨some ⟨q,0,none⟩,1,rfl,fun _=>⟨q,0,rfl,fun j u hj=>?_⟩,fun _ a ha=>?_,Nat.le_refl _,by unfold maxLen;omega,fun e=>by cases e⟩,fun i d v h1 h2=>?_⟩
 ·rw[Nat.zero_add,h.cell j,←hj]
  rw[←Array.getElem?_toList]
  rfl
 ·injection ha with ha
  subst ha
  exact h.lt
 ·cases i with
  | succ i=>simp at h1
  | zero=>
   simp at h1 h2
   subst h1;subst h2
   exact⟨hn _ rfl,hn _ rfl,hn _ rfl,by simp[ne1]⟩
theorem resOne {w:World} {tmps:Array Value} {a:Nat} {u:Value} (ha:tmps[2]?.getD undef=.pointer (some ⟨a,0,none⟩)) (h1:w.cell? ⟨a,0,none⟩=some u):(results Tryz.f47 tmps).run Tryz.prog w=.ok (.agg #[u]) w:=by
 simp[results,Tryz.f47,go_sem,ha,h1]
theorem one_any (k:Int) (w:World):Calls Tryz.prog 47 #[.int .i64 k] w fun en w'=>∃v,en=.returned (.agg #[v])∧Sch w'.heap.size w' v [ne1 k]∧Ext w w':=by
 obtain⟨w1,hw1⟩:∃z,Hid (w.alloc (.cells #[.slice (some ⟨w.heap.size+1,0,none⟩) 1 1] 24)=z):=⟨_,rfl⟩
 obtain⟨w2,hw2⟩:∃z,Hid (w1.alloc (.cells #[.int .i64 k,.string ⟨#[]⟩,.int .i64 0,.slice none 0 0,.slice none 0 0,.slice none 0 0] 36)=z):=⟨_,rfl⟩
 have hs1:w1.heap.size=w.heap.size+1:=by rw[←hw1.out];simp
 have hx1:Ext w w1:=by rw[←hw1.out];exact (Ext.refl w).alloc _
 have hx12:Ext w1 w2:=by rw[←hw2.out];exact (Ext.refl w1).alloc _
 have b1:Blk w2 w.heap.size #[.slice (some ⟨w.heap.size+1,0,none⟩) 1 1] 24:=(by rw[←hw1.out];exact Blk.new w _ _:Blk w1 w.heap.size #[.slice (some ⟨w.heap.size+1,0,none⟩) 1 1] 24).ext hx12
 have b2:Blk w2 (w.heap.size+1) #[.int .i64 k,.string ⟨#[]⟩,.int .i64 0,.slice none 0 0,.slice none 0 0,.slice none 0 0] 36:=by rw[←hs1,←hw2.out];exact Blk.new w1 _ _
 obtain⟨PO,hPO⟩:∃PO:Ending→World→Prop,Hid ((fun en w'=>∃v,en=.returned (.agg #[v])∧Sch w'.heap.size w' v [ne1 k]∧Ext w w')=PO):=⟨_,Lib.hid rfl⟩
 have hp:PO (.returned (.agg #[.slice (some ⟨w.heap.size+1,0,none⟩) 1 1])) w2:=by
  rw[←hPO.out]
  exact⟨_,rfl,sch_one b2,hx1.trans hx12⟩
 rw[hPO.out]
 have hc:=b1.cell 0
 simp only[List.getElem?_toArray,List.getElem?_cons_zero] at hc
 replace hc:=Lib.hid hc
 clear hPO hs1 b1 b2
 go_enter Tryz.func47,Tryz.ntmps47
 go_wp2_with fail
 rw[hw1.out,hw2.out]
 refine bodyPost_ret (resOne rfl hc.out) rfl ?_
 exact hp
theorem Prom_any (r t:Int) (w:World):Calls Tryz.prog 48 #[.int .i64 r,.int .i64 t] w fun en w'=>en=.returned (.bool (promP r t))∧Ext w w':=by
 have hc:=prom_any r t w
 obtain⟨v,hv⟩:∃z,Hid (promP r t=z):=⟨_,rfl⟩
 rw[hv.out] at hc ⊢
 go_enter Tryz.func48,Tryz.ntmps48
 go_wp2_with fail
 refine hc.mono ?_
 rintro en w1 ⟨rfl,hx⟩
 go_wp2_with fail
 go_ret
 exact⟨rfl,hx⟩
theorem lives10_any (w:World) (hwd:Wd w) (hpow:Pow w):Calls Tryz.prog 20 #[] w fun en w'=>en=.returned (.bool true)∧Ext w w':=by
 have h3:=fun W=>one_any 3 W
 have h2:=fun W=>one_any 2 W
 have hc1:=fun va vb W (hW:Ext w W) (ha:Sch W.heap.size W va [ne1 3]) (hb:Sch W.heap.size W vb [ne1 2])=>Can_any [ne1 3] [ne1 2] va vb W ha hb (hwd.ext hW) (hpow.ext hW) len3 len2
 have hc2:=fun va vb W (hW:Ext w W) (ha:Sch W.heap.size W va [ne1 2]) (hb:Sch W.heap.size W vb [ne1 3])=>Can_any [ne1 2] [ne1 3] va vb W ha hb (hwd.ext hW) (hpow.ext hW) len2 len3
 simp only[can32] at hc1
 simp only[can23] at hc2
 have hp:=fun W=>Prom_any 5 4 W
 have e5:promP 5 4=true:=rfl
 simp only[e5] at hp
 clear e5
 have g1:=h3 w
 replace h3:=Lib.hid h3
 replace h2:=Lib.hid h2
 replace hc1:=Lib.hid hc1
 replace hc2:=Lib.hid hc2
 replace hp:=Lib.hid hp
 go_enter Tryz.func20,Tryz.ntmps20
 go_wp2_with fail
 refine g1.mono ?_
 rintro en w1 ⟨v1,rfl,S1,hx1⟩
 replace S1:=Lib.hid S1
 have g2:=h2.out w1
 clear g1
 go_wp2_with fail
 refine g2.mono ?_
 rintro en w2 ⟨v2,rfl,S2,hx2⟩
 have g3:=hc1.out v1 v2 w2 (hx1.trans hx2) ((S1.out.below hx2).mono hx2.size) S2
 clear g2 S1 S2
 go_wp2_with fail
 refine g3.mono ?_
 rintro en w3 ⟨rfl,hx3⟩
 have hx03:=hx1.trans (hx2.trans hx3)
 have g4:=h2.out w3
 clear g3
 go_wp2_with fail
 refine g4.mono ?_
 rintro en w4 ⟨v4,rfl,S4,hx4⟩
 replace S4:=Lib.hid S4
 have g5:=h3.out w4
 clear g4
 go_wp2_with fail
 refine g5.mono ?_
 rintro en w5 ⟨v5,rfl,S5,hx5⟩
 have g6:=hc2.out v4 v5 w5 (hx03.trans (hx4.trans hx5)) ((S4.out.below hx5).mono hx5.size) S5
 clear g5 S4 S5
 go_wp2_with fail
 refine g6.mono ?_
 rintro en w6 ⟨rfl,hx6⟩
 have g7:=hp.out w6
 clear g6
 go_wp2_with fail
 refine g7.mono ?_
 rintro en w7 ⟨rfl,hx7⟩
 go_wp2_with fail
 go_ret
 exact⟨rfl,hx03.trans (hx4.trans (hx5.trans (hx6.trans hx7)))⟩
def fewP (a b:List Ne):Bool:=decide (a.length≤30) && (decide (b.length≤30) && (decide (partsN a≤3000) && decide (partsN b≤3000)))
structure Bnd (a:List Ne):Prop where
 len:a.length≤2000000
 parts:∀d∈a,nodeP d≤2000000
theorem few10_any (a b:List Ne) (va vb:Value) (w:World) (hSa:Sch w.heap.size w va a) (hSb:Sch w.heap.size w vb b) (hBa:Bnd a) (hBb:Bnd b) :
  Calls Tryz.prog 17 #[.agg #[va],.agg #[vb]] w fun en w'=>en=.returned (.bool (fewP a b))∧Ext w w':=by
 obtain⟨na,hna⟩:∃z,Hid (a.length=z):=⟨_,rfl⟩
 obtain⟨nb,hnb⟩:∃z,Hid (b.length=z):=⟨_,rfl⟩
 obtain⟨Aa,ca,rfl⟩:∃A c,va=.slice A na c:=by
  obtain⟨vs,_,⟨A,c,e,_⟩,_⟩:=hSa
  exact⟨A,c,by rw[e,hna.out]⟩
 obtain⟨Ab,cb,rfl⟩:∃A c,vb=.slice A nb c:=by
  obtain⟨vs,_,⟨A,c,e,_⟩,_⟩:=hSb
  exact⟨A,c,by rw[e,hnb.out]⟩
 obtain⟨w1,hw1⟩:∃z,Hid (w.alloc (.cells #[.slice Aa na ca] 24)=z):=⟨_,rfl⟩
 obtain⟨w2,hw2⟩:∃z,Hid (w1.alloc (.cells #[.slice Ab nb cb] 24)=z):=⟨_,rfl⟩
 have hx1:Ext w w1:=by rw[←hw1.out];exact (Ext.refl w).alloc _
 have hx12:Ext w1 w2:=by rw[←hw2.out];exact (Ext.refl w1).alloc _
 have hs1:w1.heap.size=w.heap.size+1:=by rw[←hw1.out];simp
 obtain⟨q2,hq2⟩:∃z,Hid (w.heap.size=z):=⟨_,rfl⟩
 obtain⟨q3,hq3⟩:∃z,Hid (w.heap.size+1=z):=⟨_,rfl⟩
 have b3:Blk w2 q3 #[.slice Ab nb cb] 24:=by rw[←hq3.out,←hs1,←hw2.out];exact Blk.new w1 _ _
 have hx2:=hx1.trans hx12
 have k3:∀W,Ext w2 W→W.cell? ⟨q3,0,none⟩=some (.slice Ab nb cb):=fun W hW=>by have:=(b3.ext hW).cell 0;simpa using this
 have ha:=small_any ((hSa.below hx2).mono hx2.size) (Nat.le_refl _) hBa.len hBa.parts
 have hb:=fun W (hW:Ext w W)=>small_any ((hSb.below hW).mono hW.size) (Nat.le_refl _) hBb.len hBb.parts
 obtain⟨sa,hsa⟩:∃z,Hid (decide (partsN a≤3000)=z):=⟨_,rfl⟩
 obtain⟨sb,hsb⟩:∃z,Hid (decide (partsN b≤3000)=z):=⟨_,rfl⟩
 have hf:fewP a b=(decide (na≤30) && (decide (nb≤30) && (sa && sb))):=by unfold fewP;rw[hna.out,hnb.out,hsa.out,hsb.out]
 rw[hsa.out] at ha
 simp only[hsb.out] at hb
 obtain⟨PO,hPO⟩:∃PO:Ending→World→Prop,Hid ((fun en w'=>en=.returned (.bool (fewP a b))∧Ext w w')=PO):=⟨_,Lib.hid rfl⟩
 have fin:∀v W,Ext w W→(decide (na≤30) && (decide (nb≤30) && (sa && sb)))=v→PO (.returned (.bool v)) W:=fun v W hW h=>by rw[←hPO.out,hf,h];exact⟨rfl,hW⟩
 rw[hPO.out]
 replace fin:=Lib.hid fin
 replace hb:=Lib.hid hb
 replace k3:=Lib.hid k3
 clear hf hSa hSb hs1 b3 hBa hBb hna hnb
 by_cases h1:na≤30
 case neg=>
  have h1':¬(na:Int)≤30:=by omega
  have hg:=fin.out false w2 hx2 (by simp[h1])
  clear h1
  go_enter Tryz.func17,Tryz.ntmps17
  go_wp2_with fail
  rw[hw1.out,hw2.out]
  exact hg
 have h1':(na:Int)≤30:=by omega
 by_cases h2:nb≤30
 case neg=>
  have h2':¬(nb:Int)≤30:=by omega
  have hg:=fin.out false w2 hx2 (by simp[h2])
  clear h1 h2
  go_enter Tryz.func17,Tryz.ntmps17
  go_wp2_with fail
  rw[hw1.out,hw2.out]
  exact hg
 have h2':(nb:Int)≤30:=by omega
 cases sa with
 | false=>
  have hg:=fun W (hW:Ext w2 W)=>fin.out false W (hx2.trans hW) (by simp)
  replace hg:=Lib.hid hg
  clear h1 h2
  go_enter Tryz.func17,Tryz.ntmps17
  go_wp2_with fail
  rw[hw1.out,hw2.out]
  refine ha.mono ?_
  rintro en w3 ⟨rfl,hx3⟩
  have hgg:=hg.out w3 hx3
  go_wp2_with fail
  exact hgg
 | true=>
  have hg:=fun W (hW:Ext w2 W)=>fin.out sb W (hx2.trans hW) (by simp[h1,h2])
  replace hg:=Lib.hid hg
  clear h1 h2
  go_enter Tryz.func17,Tryz.ntmps17
  go_wp2_with fail
  rw[hw1.out,hw2.out,hq3.out]
  refine ha.mono ?_
  rintro en w3 ⟨rfl,hx3⟩
  have hb3:=hb.out w3 (hx2.trans hx3)
  have k33:=k3.out w3 hx3
  clear ha
  go_wp2_with fail
  refine hb3.mono ?_
  rintro en w4 ⟨rfl,hx4⟩
  have hgg:=hg.out w4 (hx3.trans hx4)
  go_wp2_with fail
  exact hgg
end Rv
namespace Rv
open Lx Pr
inductive Sub (a:List Ne):Int→Int→Prop
 | refl (i:Int):Sub a i i
 | step {i:Nat} {x:Ne} {r k:Int}:a[i]?=some x→x.k=8→r∈x.items→Sub a r k→Sub a (i:Int) k
theorem Sub.snoc {a:List Ne} {i k:Int} (h:Sub a i k):∀ {n:Nat} {y:Ne} {v:Int},k=(n:Int)→a[n]?=some y→y.k=8→v∈y.items→Sub a i v:=by
 induction h with
 | refl i=>intro n y v e hy h8 hv;subst e;exact .step hy h8 hv (.refl v)
 | step hx h8 hr _ ih=>intro n y v e hy hy8 hv;exact .step hx h8 hr (ih e hy hy8 hv)
open Classical in
noncomputable def subB (a:List Ne):Rel:=fun i k=>decide (Sub a i k)
open Classical in
theorem subB_iff {a:List Ne} {i k:Int}:subB a i k=true↔Sub a i k:=by unfold subB;exact decide_eq_true_iff
theorem find_self {l:List Fd} (h:(l.map (·.1)).Nodup) {f:Fd} (hf:f∈l):(l.find? fun g=>decide (g.1=f.1))=some f:=by
 induction l with
 | nil=>cases hf
 | cons g l ih=>
  obtain⟨h1,h2⟩:=List.nodup_cons.1 h
  by_cases e:g.1=f.1
  ·rw[List.find?_cons_of_pos (by simp[e])]
   rcases List.mem_cons.1 hf with rfl|hf
   ·rfl
   ·exact absurd (List.mem_map.2 ⟨f,hf,e.symm⟩) h1
  ·rw[List.find?_cons_of_neg (by simp[e])]
   rcases List.mem_cons.1 hf with rfl|hf
   ·exact absurd rfl e
   ·exact ih h2 hf
theorem holdP_refl {a:List Ne} {x:Ne} {i:Nat} (hx:WE a.length x) (h8:¬x.k=8):holdP (subB a) x x i i=true:=by
 have rf:∀t:Int,subB a t t=true:=fun t=>subB_iff.2 (.refl t)
 unfold holdP
 rw[if_neg h8,if_neg h8,if_neg (by simp)]
 split
 ·exact rf _
 split
 ·simp
 split
 ·simp
 split
 ·simp only[decide_true,Bool.true_and,List.all_eq_true]
  intro f hf
  unfold fieldP
  rw[find_self hx.nod hf]
  exact rf _
 ·rfl
theorem stays_sub {a:List Ne} (ha:∀d∈a,WE a.length d):Stays a a (subB a):=by
 intro i k x y hx hy h
 have hs:=subB_iff.1 h
 by_cases y8:y.k=8
 ·unfold holdP
  rw[if_pos y8,List.all_eq_true]
  exact fun v hv=>subB_iff.2 (hs.snoc rfl hy y8 hv)
 ·generalize hi:(i:Int)=i' at hs
  generalize hk:(k:Int)=k' at hs
  cases hs with
  | refl _=>
   obtain rfl:i=k:=by omega
   rw[hx] at hy
   injection hy with hy
   subst hy
   first|exact holdP_refl (ha _ (List.mem_of_getElem? hx)) y8|(rw[←hi];exact holdP_refl (ha _ (List.mem_of_getElem? hx)) y8)
  | step hx' x8 hr hrk=>
   rename_i j x' r
   obtain rfl:i=j:=by omega
   rw[hx] at hx'
   injection hx' with hx'
   subst hx'
   unfold holdP
   rw[if_neg y8,if_pos x8,List.any_eq_true]
   exact⟨r,hr,subB_iff.2 (by first|exact hrk|(subst hk;exact hrk))⟩
open Classical in
theorem canB_self (a:List Ne):canB a a=(showP a).isSome:=by
 unfold canB
 cases h:showP a with
 | none=>exact decide_eq_false fun hc=>by have:=hc.1;rw[h] at this;cases this
 | some t=>
  have hw:=show_we h
  exact decide_eq_true ⟨by rw[h];rfl,by rw[h];rfl,subB a,stays_sub hw.2.2,subB_iff.2 (.refl 0)⟩
end Rv
namespace Args
open Go.ChangeShapes Go.WideShapes Go.ChangeAt Go.RowKit
open Go.ChangeMaps (open_string shut_string)
open Base
theorem bytes_arg {H:Type} {enc:TypeId×Value→H} {P:Program} {W:World} {base t e:Nat} (hu:P.underlying t=some (.slice e)) (he:P.underlying e=some (.int .u8)) (hc:P.cellsOf e=1)
  {v:Value} {d:DataW H} {p:List MemPlace} (hv:Value.okWide P W .any base t v) (h:DataW.Trod enc P W 0 (fun _=>true) true t v d p) :
  ∃A n c l,v=.slice A n c∧l.length=n∧Rb W A l∧n≤c∧c≤maxLen∧(A=none→c=0)∧((d=.nil∧n=0)∨∃el sp,d=.slice el sp∧el.length=n∧sp.length=c-n):=by
 obtain⟨A,n,c,rfl⟩:=okWide_slice hu hv
 obtain⟨fuel,hf⟩:=h
 rcases open_ints hu he hc hf with⟨hcs,hx⟩|⟨x,l,c',zs,hcs,_,hl,hm,hz,hx,hcell,hwz⟩
 ·simp[Value.cells] at hcs
  obtain⟨rfl,rfl,rfl⟩:=hcs
  exact⟨none,0,0,[],rfl,rfl,Rd.nil _ _,Nat.le_refl _,Nat.zero_le _,fun _=>rfl,.inl ⟨by simpa using congrArg Prod.fst hx,rfl⟩⟩
 ·simp[Value.cells] at hcs
  obtain⟨rfl,rfl,rfl⟩:=hcs
  simp at hz
  have hd:=congrArg Prod.fst hx
  simp only at hd
  have hb:∀z∈zs,0≤z∧z≤255:=fun z hz=>by simpa [Lit.wf,IntKind.min,IntKind.max,IntKind.signed,IntKind.bits] using hwz z hz
  refine⟨some x,n,c,(zs.take n).map fun z=>UInt8.ofNat z.toNat,rfl,by simp;omega,?_,hl,hm,(fun e=>by cases e),.inr ⟨_,_,hd,by simp[lits];omega,by simp[lits];omega⟩⟩
  intro hne
  have hpos:0<n:=by
   rcases Nat.eq_zero_or_pos n with h|h
   ·subst h;simp[u8s] at hne
   ·exact h
  obtain⟨b,off,rfl,hc'⟩:=ints_at hcell (by omega)
  refine⟨b,off,rfl,fun j u hj=>?_⟩
  have hjl:j<n:=by
   rcases Nat.lt_or_ge j n with h|h
   ·exact h
   ·rw[List.getElem?_eq_none (by simp[u8s];omega)] at hj;cases hj
  have h1:=hc' j (by omega)
  rw[h1]
  have h2:zs[j]?=some zs[j]:=List.getElem?_eq_getElem (by omega)
  have h3:=hb zs[j] (List.getElem_mem _)
  simp only[u8s,List.getElem?_map,List.getElem?_take,hjl,if_true,h2,Option.map_some,Option.some.injEq] at hj
  rw[←hj]
  simp only[List.getD,h2,Option.getD_some,UInt8.toNat_ofNat']
  congr 1
  congr 1
  omega
theorem bytes_reach {H:Type} {P:Program} {ts:List TypeId} {ds:List (DataW H)} (h:(DataW.weightsEach P ts ds).all (· ≤ reachBytes)=true) {j t e:Nat} {d:DataW H} {n c:Nat}
  (ht:ts[j]?=some t) (hd:ds[j]?=some d) (hu:P.underlying t=some (.slice e)) (hb:P.bytesOf e=1) (hw:(d=.nil∧n=0)∨∃el sp,d=.slice el sp∧el.length=n∧sp.length=c-n):n≤140737488351232:=by
 rcases hw with⟨_,rfl⟩|⟨el,sp,rfl,h1,h2⟩
 ·omega
 ·have:=sized_slice h ht hd hu
  rw[hb] at this
  simp only[reachBytes] at this
  omega
theorem string_reach {H:Type} {P:Program} {ts:List TypeId} {ds:List (DataW H)} (h:(DataW.weightsEach P ts ds).all (· ≤ reachBytes)=true) {j t:Nat} {s:ByteArray}
  (ht:ts[j]?=some t) (hd:ds[j]?=some (.lit (.string s.data.toList))):s.size≤140737488351232:=by
 have:=sized_string h ht hd
 simp only[reachBytes] at this
 have e:s.data.toList.length=s.size:=Array.length_toList
 omega
theorem bulk_le {H:Type} {l:List (DataW H)} (hk:Rows.uptoSmall H l=true):Rows.uptoBulkAll l≤1048576:=of_decide_eq_true hk
theorem bulk_one {H:Type} (d:DataW H):1≤Rows.uptoBulk d:=by
 cases d with
 | lit l=>cases l<;>simp[Rows.uptoBulk]
 | nil=>simp[Rows.uptoBulk]
 | ptr d=>simp[Rows.uptoBulk]
 | slice elems spare=>simp[Rows.uptoBulk]
 | agg parts=>simp[Rows.uptoBulk]
 | iface t d=>simp[Rows.uptoBulk]
 | map entries=>simp[Rows.uptoBulk]
 | held h=>simp[Rows.uptoBulk]
theorem bulk_at {H:Type} {l:List (DataW H)} {b:Nat} (h:Rows.uptoBulkAll l≤b) {j:Nat} {d:DataW H} (hd:l[j]?=some d):Rows.uptoBulk d≤b:=by
 induction l generalizing j b with
 | nil=>simp at hd
 | cons x r ih=>
  simp only[Rows.uptoBulkAll] at h
  cases j with
  | zero=>simp only[List.getElem?_cons_zero,Option.some.injEq] at hd;subst hd;omega
  | succ j=>simp only[List.getElem?_cons_succ] at hd;have:=ih (b:=b-Rows.uptoBulk x) (by omega) hd;omega
theorem bulk_length {H:Type} (l:List (DataW H)):l.length≤Rows.uptoBulkAll l:=by
 induction l with
 | nil=>simp[Rows.uptoBulkAll]
 | cons x r ih=>have:=bulk_one x;simp only[Rows.uptoBulkAll,List.length_cons];omega
theorem bytes_bulk {H:Type} {ds:List (DataW H)} {b:Nat} (h:Rows.uptoBulkAll ds≤b) {j:Nat} {d:DataW H} {n c:Nat} (hd:ds[j]?=some d)
  (hw:(d=.nil∧n=0)∨∃el sp,d=.slice el sp∧el.length=n∧sp.length=c-n):n≤b:=by
 have h1:=bulk_at h hd
 rcases hw with⟨_,rfl⟩|⟨el,sp,rfl,h2,h3⟩
 ·omega
 ·have:=bulk_length el
  simp only[Rows.uptoBulk] at h1
  omega
theorem string_bulk {H:Type} {ds:List (DataW H)} {b:Nat} (h:Rows.uptoBulkAll ds≤b) {j:Nat} {s:ByteArray} (hd:ds[j]?=some (.lit (.string s.data.toList))):s.size≤b:=by
 have h1:=bulk_at h hd
 simp only[Rows.uptoBulk] at h1
 have e:s.data.toList.length=s.size:=Array.length_toList
 omega
theorem plain_addr {w:World} {a:Addr} {v:Value} (h:w.cell? a=some v):a=⟨a.block,a.off,none⟩:=by
 unfold World.cell? at h
 cases hs:a.spot with
 | none=>cases a;simp at hs;subst hs;rfl
 | some k=>simp[hs] at h;split at h<;>simp at h
theorem Addr.add_zero' (a:Addr):a.add 0=a:=by simp[Addr.add]
theorem strs_arg {H:Type} {enc:TypeId×Value→H} {P:Program} {W:World} {base t e:Nat} (hu:P.underlying t=some (.slice e)) (he:P.underlying e=some .string) (hc:P.cellsOf e=1)
  {v:Value} {d:DataW H} {p:List MemPlace} (hv:Value.okWide P W .any base t v) (h:DataW.Trod enc P W 0 (fun _=>true) true t v d p) :
  ∃A n c l,v=.slice A n c∧l.length=n∧Rd W A (txs l)∧n≤c∧c≤maxLen∧(A=none→c=0)∧(∀s∈l,s.size≤maxLen)∧((d=.nil∧n=0)∨∃sp,d=.slice (l.map fun s=>.lit (.string s.data.toList)) sp∧sp.length=c-n):=by
 obtain⟨A,n,c,rfl⟩:=okWide_slice hu hv
 obtain⟨fuel,hf⟩:=h
 rcases open_strings hu he hc hf with⟨hcs,hx⟩|⟨x,l,c',ss,hcs,_,hl,hm,hz,hx,hcell,hws⟩
 ·simp[Value.cells] at hcs
  obtain⟨rfl,rfl,rfl⟩:=hcs
  exact⟨none,0,0,[],rfl,rfl,Rd.nil _ _,Nat.le_refl _,Nat.zero_le _,fun _=>rfl,by simp,.inl ⟨by simpa using congrArg Prod.fst hx,rfl⟩⟩
 ·simp[Value.cells] at hcs
  obtain⟨rfl,rfl,rfl⟩:=hcs
  simp at hz
  have hd:=congrArg Prod.fst hx
  simp only at hd
  refine⟨some x,n,c,ss.take n,rfl,by simp;omega,?_,hl,hm,(fun e=>by cases e),(fun s hs=>hws s (List.mem_of_mem_take hs)),.inr ⟨_,by rw[hd];rfl,by rw[←hz];simp[ChangeShapes.strs]⟩⟩
  intro hne
  have hpos:0<ss.length:=by
   rcases Nat.eq_zero_or_pos ss.length with h|h
   ·have:ss=[]:=List.eq_nil_of_length_eq_zero h
    subst this;simp[txs] at hne
   ·exact h
  obtain⟨b,o,sp⟩:=x
  have hx0:=plain_addr (hcell 0 hpos)
  rw[Addr.add_zero'] at hx0
  simp only[Addr.mk.injEq,true_and] at hx0
  subst hx0
  refine⟨b,o,rfl,fun j u hj=>?_⟩
  have hjl:j<n∧j<ss.length:=by
   have:=(List.getElem?_eq_some_iff.1 hj).1
   simp[txs] at this
   omega
  have h1:=hcell j hjl.2
  have h2:(⟨b,o,none⟩:Addr).add j=⟨b,o+j,none⟩:=by
   unfold Addr.add;split<;>simp_all
  rw[←h2,h1]
  simp only[txs,List.getElem?_map,List.getElem?_take,hjl.1,if_true,List.getElem?_eq_getElem hjl.2,Option.map_some,Option.some.injEq] at hj
  rw[←hj]
  simp[List.getD,List.getElem?_eq_getElem hjl.2]
theorem arr2_arg {H:Type} {enc:TypeId×Value→H} {P:Program} {W:World} {base t e:Nat} (hu:P.underlying t=some (.array 2 e)) (he:P.underlying e=some (.int .u32)) (hc:P.cellsOf e=1) (hc2:P.cellsOf t=2)
  {v:Value} {d:DataW H} {p:List MemPlace} (hv:Value.okWide P W .any base t v) (h:DataW.Trod enc P W 0 (fun _=>true) true t v d p) :
  ∃x y,v=.agg #[.int .u32 x,.int .u32 y]∧(0≤x∧x≤4294967295)∧(0≤y∧y≤4294967295):=by
 obtain⟨cs,rfl,hsz,_⟩:∃cs,v=.agg cs∧cs.size=P.cellsOf t∧True:=by
  unfold Value.okWide at hv
  rw[hu] at hv
  obtain⟨cs,h1,h2,_⟩:=hv
  exact⟨cs,h1,h2,trivial⟩
 obtain⟨c0,c1,rfl⟩:∃c0 c1,cs = #[c0,c1]:=by
  rw[hc2] at hsz
  match cs,hsz with
  | ⟨[a,b]⟩,_=>exact⟨a,b,rfl⟩
 obtain⟨fuel,hf⟩:=h
 obtain⟨xs,m,_,_,_,hxl,hx⟩:=DataW.trod_array hu hf
 have h0:=hx 0 (by omega)
 have h1:=hx 1 (by omega)
 rw[hc] at h0 h1
 simp only[Value.cells,Nat.zero_mul,Nat.one_mul,List.drop_zero,List.drop_succ_cons,List.take_succ_cons,List.take_zero] at h0 h1
 match xs,hxl with
 | [y0,y1],_=>
  obtain⟨a,e0,_,wa⟩:=DataW.trod_int he h0
  obtain⟨b,e1,_,wb⟩:=DataW.trod_int he h1
  simp only[List.cons.injEq,and_true] at e0 e1
  subst e0 e1
  exact⟨a,b,rfl,by simpa [Lit.wf,IntKind.min,IntKind.max,IntKind.signed,IntKind.bits] using wa,by simpa [Lit.wf,IntKind.min,IntKind.max,IntKind.signed,IntKind.bits] using wb⟩
end Args
namespace Args
open Go.ChangeShapes Go.WideShapes Go.ChangeAt Go.RowKit
open Base Pr
structure Rdr {H α:Type} (enc:TypeId×Value→H) (P:Program) (W:World) (e:TypeId) (cells:α→List Value) (G:α→DataW H→Prop):Prop where
 rd:∀fuel cs D pl,DataW.trod enc P W 0 (fun _=>true) true fuel e cs=some (D,pl)→∃x,cs=cells x∧G x D
def Bk {H α:Type} (G:α→DataW H→Prop) (l:List α) (D:DataW H):Prop:=(D=.nil∧l=[])∨∃ds sp,D=.slice ds sp∧ds.length=l.length∧∀(i:Nat) x d,l[i]?=some x→ds[i]?=some d→G x d
theorem Bk.mono {H α:Type} {G G':α→DataW H→Prop} {l:List α} {D:DataW H} (h:Bk G l D) (hg:∀x d,G x d→G' x d):Bk G' l D:=by
 rcases h with h|⟨ds,sp,h1,h2,h3⟩
 ·exact .inl h
 ·exact .inr ⟨ds,sp,h1,h2,fun i x d a b=>hg _ _ (h3 i x d a b)⟩
theorem Bk.all {H α:Type} {G:α→DataW H→Prop} {l:List α} {D:DataW H} (h:Bk G l D):∀(i:Nat) x,l[i]?=some x→∃d,G x d:=by
 intro i x hx
 rcases h with⟨_,rfl⟩|⟨ds,sp,h1,h2,h3⟩
 ·simp at hx
 ·have hi:i<ds.length:=by rw[h2];exact (List.getElem?_eq_some_iff.1 hx).1
  exact⟨ds[i],h3 i x _ hx (List.getElem?_eq_getElem hi)⟩
theorem bulkAll_ge {H α:Type} {G:α→DataW H→Prop} {g:α→Nat} (hg:∀x d,G x d→g x≤Rows.uptoBulk d):∀(l:List α) (ds:List (DataW H)),ds.length=l.length→(∀(i:Nat) x d,l[i]?=some x→ds[i]?=some d→G x d)→(l.map g).sum≤Rows.uptoBulkAll ds
 | [],ds,_,_=>by simp
 | x::l,[],h,_=>by simp at h
 | x::l,d::ds,h,k=>by
  have h1:=hg x d (k 0 x d rfl rfl)
  have h2:=bulkAll_ge hg l ds (by simpa using h) (fun i y e a b=>k (i+1) y e (by simpa using a) (by simpa using b))
  simp only[List.map_cons,List.sum_cons,Rows.uptoBulkAll]
  omega
theorem Bk.bulk {H α:Type} {G:α→DataW H→Prop} {g:α→Nat} (hg:∀x d,G x d→g x≤Rows.uptoBulk d) {l:List α} {D:DataW H} (h:Bk G l D):(l.map g).sum+1≤Rows.uptoBulk D:=by
 rcases h with⟨rfl,rfl⟩|⟨ds,sp,rfl,h2,h3⟩
 ·simp[Rows.uptoBulk]
 ·have:=bulkAll_ge hg l ds h2 h3
  simp only[Rows.uptoBulk]
  omega
theorem flatMap_at {α:Type} {cells:α→List Value} {s:Nat} (hs:∀x,(cells x).length=s):∀(l:List α) (j:Nat) (x:α),l[j]?=some x→∀i,i<s→(l.flatMap cells)[j*s+i]?=(cells x)[i]?
 | [],j,x,h,i,hi=>by simp at h
 | y::l,0,x,h,i,hi=>by
  simp at h;subst h
  rw[List.flatMap_cons,List.getElem?_append_left (by rw[hs];omega)]
  congr 1;omega
 | y::l,j+1,x,h,i,hi=>by
  have ih:=flatMap_at hs l j x (by simpa using h) i hi
  have e:(j+1)*s=j*s+s:=Nat.succ_mul j s
  rw[List.flatMap_cons,List.getElem?_append_right (by rw[hs];omega),←ih]
  congr 1
  rw[hs];omega
theorem flatMap_len {α:Type} {cells:α→List Value} {s:Nat} (hs:∀x,(cells x).length=s) (l:List α):(l.flatMap cells).length=l.length*s:=by
 induction l with
 | nil=>simp
 | cons x l ih=>rw[List.flatMap_cons,List.length_append,hs,ih,List.length_cons,Nat.succ_mul];omega
theorem Rdr.slice {H α:Type} [Inhabited α] {enc:TypeId×Value→H} {P:Program} {W:World} {t e:TypeId} {cells:α→List Value} {G:α→DataW H→Prop} (h:Rdr enc P W e cells G) (hu:P.underlying t=some (.slice e)) {s:Nat} (hce:P.cellsOf e=s) (hs:∀x,(cells x).length=s) (hp:0<s) :
  Rdr enc P W t (fun x:Value×List α=>[x.1]) (fun x D=>Sl W.heap.size W x.1 x.2.length (x.2.flatMap cells)∧Bk G x.2 D):=by
 refine⟨fun fuel cs D pl hf=>?_⟩
 rcases Deep.open_slice hu hf with⟨rfl,hx⟩|⟨a,n,c,m,k,Ds,Pl,rfl,_,hl,hm,hmm,hx,hel⟩
 ·injection hx with hx _
  exact⟨(.slice none 0 0,[]),rfl,⟨none,0,rfl,Rd.nil _ _,fun h=>absurd rfl h,Nat.le_refl _,Nat.zero_le _,fun _=>rfl⟩,.inl ⟨hx,rfl⟩⟩
 ·have hmm:m=c:=by simpa using hmm
  subst hmm
  injection hx with hx _
  have hcell:∀j,j<n→∃x:α,(∀i,i<s→W.cell? (a.add (j*s+i))=(cells x)[i]?)∧G x (Ds j):=by
   intro j hj
   obtain⟨cs',g1,g2⟩:=hel j (by omega)
   rw[hce] at g1
   obtain⟨_,hlen,hc⟩:=World.cells?_some g1
   obtain⟨x,rfl,hg⟩:=h.rd _ _ _ _ g2
   refine⟨x,fun i hi=>?_,hg⟩
   have h4:=hc i hi
   rwa [Deep.add_add] at h4
  obtain⟨f,hfz⟩:=Deep.choose_lt hcell
  have hrd:Rd W (some a) (((List.range n).map f).flatMap cells):=by
   intro hne
   have hpos:0<n:=by
    rcases Nat.eq_zero_or_pos n with h|h
    ·rw[h] at hne;simp at hne
    ·exact h
   obtain⟨b,off,spot⟩:=a
   have hspot:spot=none:=by
    have h9:=(hfz 0 hpos).1 0 hp
    rw[List.getElem?_eq_getElem (by rw[hs];exact hp)] at h9
    simpa [Addr.add] using World.cell?_spot h9
   subst hspot
   refine⟨b,off,rfl,fun j u hj=>?_⟩
   have hjl:j<n*s:=by
    have:=(List.getElem?_eq_some_iff.1 hj).1
    rw[flatMap_len hs] at this
    simpa using this
   have hd:j / s<n:=by rw[Nat.div_lt_iff_lt_mul hp];exact hjl
   have hr:j%s<s:=Nat.mod_lt _ hp
   have hje:j / s*s+j%s=j:=by rw[Nat.mul_comm];exact Nat.div_add_mod j s
   have h5:=(hfz (j / s) hd).1 (j%s) hr
   rw[hje] at h5
   rw[←Go.WideShapes.add_plain,h5]
   have h6:=flatMap_at hs ((List.range n).map f) (j / s) (f (j / s)) (by simp[hd]) (j%s) hr
   rw[hje] at h6
   rw[←h6]
   exact hj
  refine⟨(.slice (some a) n m,(List.range n).map f),rfl,⟨some a,m,by simp,hrd,fun hne a' ha=>?_,by simpa using hl,hm,fun e=>by cases e⟩,.inr ⟨_,_,hx,by simp,fun i x d h1 h2=>?_⟩⟩
  ·injection ha with ha
   subst ha
   obtain⟨b,off,e1,h7⟩:=hrd hne
   injection e1 with e1
   subst e1
   have h8:0<(((List.range n).map f).flatMap cells).length:=List.length_pos_iff.2 hne
   have h9:=h7 0 _ (List.getElem?_eq_getElem h8)
   exact World.block_lt_of_cell? W _ h9
  ·have hi:i<n:=by have:=(List.getElem?_eq_some_iff.1 h1).1;simpa using this
   simp only[List.getElem?_map,List.getElem?_range hi,Option.map_some,Option.some.injEq] at h1 h2
   subst h1;subst h2
   exact (hfz i hi).2
theorem rdr_int {H:Type} {enc:TypeId×Value→H} {P:Program} {W:World} {t:TypeId} {k:IntKind} (hu:P.underlying t=some (.int k)):Rdr enc P W t (fun n:Int=>[.int k n]) (fun n D=>D=.lit (.int k n)∧(Lit.int k n).wf=true):=
 ⟨fun fuel cs D pl hf=>by
  obtain⟨z,e0,e1,w0⟩:=DataW.trod_int hu hf
  injection e1 with e1 _
  exact⟨z,e0,e1,w0⟩⟩
theorem rdr_string {H:Type} {enc:TypeId×Value→H} {P:Program} {W:World} {t:TypeId} (hu:P.underlying t=some .string):Rdr enc P W t (fun s:ByteArray=>[.string s]) (fun s D=>D=.lit (.string s.data.toList)∧s.size≤maxLen):=
 ⟨fun fuel cs D pl hf=>by
  obtain⟨z,e0,e1,w0⟩:=DataW.trod_string hu hf
  injection e1 with e1 _
  exact⟨z,e0,e1,w0⟩⟩
theorem rdr_bool {H:Type} {enc:TypeId×Value→H} {P:Program} {W:World} {t:TypeId} (hu:P.underlying t=some .bool):Rdr enc P W t (fun b:Bool=>[.bool b]) (fun b D=>D=.lit (.bool b)):=
 ⟨fun fuel cs D pl hf=>by
  obtain⟨z,e0,e1⟩:=DataW.trod_bool hu hf
  injection e1 with e1 _
  exact⟨z,e0,e1⟩⟩
def fldB (f:ByteArray×Bool×Int):Nat:=f.1.size+4
def nodeB (d:Ne):Nat:=d.name.size+(d.syms.map fun s=>s.size+1).sum+d.items.length+(d.fields.map fldB).sum+7
theorem sum_one {α:Type} (l:List α):(l.map fun _=>1).sum=l.length:=by
 induction l with
 | nil=>rfl
 | cons x l ih=>simp[ih];omega
theorem flat_one {α:Type} (l:List α) (f:α→Value):(l.flatMap fun x=>[f x])=l.map f:=by
 induction l with
 | nil=>rfl
 | cons x l ih=>rw[List.flatMap_cons,ih];rfl
instance:Inhabited (Ne×V3):=⟨(neD,v0)⟩
theorem cells_fld:Tryz.prog.cellsOf 38=3:=by kernel_rfl
theorem cells_node:Tryz.prog.cellsOf 36=6:=by kernel_rfl
theorem cells_sch:Tryz.prog.cellsOf 24=1:=by kernel_rfl
theorem rdr_fld {H:Type} {enc:TypeId×Value→H} {W:World}:Rdr enc Tryz.prog W 38 fldZ (fun f D=>fldB f≤Rows.uptoBulk D):=by
 refine⟨fun fuel cs D pl hf=>?_⟩
 obtain⟨xs,m,_,hx,hl,hlen,hfs⟩:=DataW.trod_struct Tryz.underlying38 hf
 injection hx with hD _
 match xs,hlen with
 | [y0,y1,y2],_=>
  have g0:=hfs 0 _ rfl
  have g1:=hfs 1 _ rfl
  have g2:=hfs 2 _ rfl
  have hl3:cs.length=3:=hl.trans cells_fld
  match cs,hl3 with
  | [c0,c1,c2],_=>
   have g0:DataW.trod enc Tryz.prog W 0 (fun _=>true) true m 9 [c0]=some y0:=g0
   have g1:DataW.trod enc Tryz.prog W 0 (fun _=>true) true m 4 [c1]=some y1:=g1
   have g2:DataW.trod enc Tryz.prog W 0 (fun _=>true) true m 3 [c2]=some y2:=g2
   obtain⟨z0,e0,f0,_⟩:=(rdr_string Tryz.underlying9).rd _ _ _ _ g0
   obtain⟨z1,e1,f1⟩:=(rdr_bool Tryz.underlying4).rd _ _ _ _ g1
   obtain⟨z2,e2,f2,_⟩:=(rdr_int Tryz.underlying3).rd _ _ _ _ g2
   injection e0 with e0 _
   injection e1 with e1 _
   injection e2 with e2 _
   subst e0;subst e1;subst e2
   refine⟨(z0,z1,z2),rfl,?_⟩
   rw[hD]
   simp only[List.map_cons,List.map_nil,f0,f1,f2,Rows.uptoBulk,Rows.uptoBulkAll]
   have:z0.data.toList.length=z0.size:=Array.length_toList
   show z0.size+4≤_
   omega
theorem rdr_node {H:Type} {enc:TypeId×Value→H} {W:World}:Rdr enc Tryz.prog W 36 (fun x:Ne×V3=>neC x.1 x.2) (fun x D=>SubE W.heap.size W x.1 x.2∧nodeB x.1≤Rows.uptoBulk D):=by
 refine⟨fun fuel cs D pl hf=>?_⟩
 obtain⟨xs,m,_,hx,hl,hlen,hfs⟩:=DataW.trod_struct Tryz.underlying36 hf
 injection hx with hD _
 match xs,hlen with
 | [y0,y1,y2,y3,y4,y5],_=>
  have g0:=hfs 0 _ rfl
  have g1:=hfs 1 _ rfl
  have g2:=hfs 2 _ rfl
  have g3:=hfs 3 _ rfl
  have g4:=hfs 4 _ rfl
  have g5:=hfs 5 _ rfl
  have hl6:cs.length=6:=hl.trans cells_node
  match cs,hl6 with
  | [c0,c1,c2,c3,c4,c5],_=>
   have g0:DataW.trod enc Tryz.prog W 0 (fun _=>true) true m 3 [c0]=some y0:=g0
   have g1:DataW.trod enc Tryz.prog W 0 (fun _=>true) true m 9 [c1]=some y1:=g1
   have g2:DataW.trod enc Tryz.prog W 0 (fun _=>true) true m 3 [c2]=some y2:=g2
   have g3:DataW.trod enc Tryz.prog W 0 (fun _=>true) true m 32 [c3]=some y3:=g3
   have g4:DataW.trod enc Tryz.prog W 0 (fun _=>true) true m 33 [c4]=some y4:=g4
   have g5:DataW.trod enc Tryz.prog W 0 (fun _=>true) true m 34 [c5]=some y5:=g5
   obtain⟨z0,e0,f0,_⟩:=(rdr_int Tryz.underlying3).rd _ _ _ _ g0
   obtain⟨z1,e1,f1,_⟩:=(rdr_string Tryz.underlying9).rd _ _ _ _ g1
   obtain⟨z2,e2,f2,w2⟩:=(rdr_int Tryz.underlying3).rd _ _ _ _ g2
   obtain⟨⟨v3,l3⟩,e3,s3,f3⟩:=((rdr_string Tryz.underlying9).slice (t:=32) (by kernel_rfl) (s:=1) (by kernel_rfl) (fun _=>rfl) (by omega)).rd _ _ _ _ g3
   obtain⟨⟨v4,l4⟩,e4,s4,f4⟩:=((rdr_int Tryz.underlying3).slice (t:=33) (by kernel_rfl) (s:=1) (by kernel_rfl) (fun _=>rfl) (by omega)).rd _ _ _ _ g4
   obtain⟨⟨v5,l5⟩,e5,s5,f5⟩:=(rdr_fld.slice (t:=34) (by kernel_rfl) (s:=3) (by kernel_rfl) (fun _=>rfl) (by omega)).rd _ _ _ _ g5
   injection e0 with e0 _
   injection e1 with e1 _
   injection e2 with e2 _
   injection e3 with e3 _
   injection e4 with e4 _
   injection e5 with e5 _
   subst e0;subst e1;subst e2;subst e3;subst e4;subst e5
   have w2' : -9223372036854775808≤z2∧z2≤9223372036854775807:=by simpa [Lit.wf,IntKind.min,IntKind.max,IntKind.signed,IntKind.bits] using w2
   have q3:=flat_one l3 Value.string
   have q4:=flat_one l4 (Value.int .i64)
   simp only at s3 s4 s5 f3 f4 f5
   rw[q3] at s3
   rw[q4] at s4
   replace s3:Sl W.heap.size W c3 l3.length (txs l3):=s3
   replace s4:Sl W.heap.size W c4 l4.length (intsZ l4):=s4
   refine⟨(⟨z0,z1,z2,l3,l4,l5⟩,(c3,c4,c5)),rfl,⟨s3,s4,s5,w2'⟩,?_⟩
   have b3:=f3.bulk (g:=fun s:ByteArray=>s.size+1) (fun x d h=>by rw[h.1];simp only[Rows.uptoBulk];have:x.data.toList.length=x.size:=Array.length_toList;omega)
   have b4:=f4.bulk (g:=fun _:Int=>1) (fun x d h=>by rw[h.1];simp[Rows.uptoBulk])
   have b5:=f5.bulk (g:=fldB) (fun x d h=>h)
   rw[sum_one] at b4
   rw[hD]
   simp only[List.map_cons,List.map_nil,f0,f1,f2,Rows.uptoBulk,Rows.uptoBulkAll]
   show z1.size+(l3.map fun s=>s.size+1).sum+l4.length+(l5.map fldB).sum+7≤_
   have:z1.data.toList.length=z1.size:=Array.length_toList
   omega
theorem nesC_zip:∀(l:List (Ne×V3)),l.flatMap (fun x=>neC x.1 x.2)=nesC (l.map (·.1)) (l.map (·.2))
 | []=>rfl
 | x::l=>by rw[List.flatMap_cons,nesC_zip l];rfl
def schB (ns:List Ne):Nat:=(ns.map nodeB).sum
theorem sch_arg {H:Type} {enc:TypeId×Value→H} {W:World} {base:Nat} {v:Value} {d:DataW H} {p:List MemPlace} (hv:Value.okWide Tryz.prog W .any base 24 v) (h:DataW.Trod enc Tryz.prog W 0 (fun _=>true) true 24 v d p) :
  ∃u ns,v=.agg #[u]∧Sch W.heap.size W u ns∧schB ns≤Rows.uptoBulk d:=by
 obtain⟨cs,rfl,hsz⟩:∃cs,v=.agg cs∧cs.size=1:=by
  unfold Value.okWide at hv
  rw[Tryz.underlying24] at hv
  obtain⟨cs,h1,h2,_⟩:=hv
  exact⟨cs,h1,h2.trans cells_sch⟩
 obtain⟨u,rfl⟩:∃u,cs = #[u]:=by
  match cs,hsz with
  | ⟨[a]⟩,_=>exact⟨a,rfl⟩
 obtain⟨fuel,hf⟩:=h
 obtain⟨y0,m,hx,_,g⟩:=trod_struct1 Tryz.underlying24 hf
 injection hx with hD _
 have g:DataW.trod enc Tryz.prog W 0 (fun _=>true) true m 22 [u]=some y0:=g
 obtain⟨⟨v3,l3⟩,e3,s3,f3⟩:=(rdr_node.slice (t:=22) (by kernel_rfl) (s:=6) (by kernel_rfl) (fun _=>rfl) (by omega)).rd _ _ _ _ g
 injection e3 with e3 _
 subst e3
 simp only at s3 f3
 rw[nesC_zip] at s3
 refine⟨u,l3.map (·.1),rfl,⟨l3.map (·.2),by simp,by rw[List.length_map];exact s3,fun i d v h1 h2=>?_⟩,?_⟩
 ·rw[List.getElem?_map] at h1 h2
  cases hx:l3[i]? with
  | none=>rw[hx] at h1;cases h1
  | some x=>
   rw[hx] at h1 h2
   injection h1 with h1
   injection h2 with h2
   subst h1;subst h2
   obtain⟨d,hd⟩:=f3.all i x hx
   exact hd.1
 ·have:=f3.bulk (g:=fun x=>nodeB x.1) (fun x d h=>h.2)
  rw[hD]
  simp only[Rows.uptoBulk,Rows.uptoBulkAll,schB,List.map_map,Function.comp_def]
  omega
end Args
namespace Pr
open Lx
def nodeW (d:Ne):Nat:=d.name.size+(d.syms.map fun s=>s.size+1).sum+d.items.length+(d.fields.map fun f=>f.1.size+3).sum+40
def wsum (ns:List Ne) (k:Nat):Nat:=((ns.take k).map nodeW).sum
theorem wsum_succ {ns:List Ne} {k:Nat} {d:Ne} (h:ns[k]?=some d):wsum ns (k+1)=wsum ns k+nodeW d:=by
 unfold wsum
 rw[List.take_add_one,h,List.map_append,List.sum_append]
 simp
theorem wsum_mono (ns:List Ne) {a b:Nat} (h:a≤b):wsum ns a≤wsum ns b:=by
 induction b with
 | zero => obtain rfl : a = 0 := by omega
           exact Nat.le_refl _
 | succ b ih=>
  rcases Nat.eq_or_lt_of_le h with e|e
  ·rw[e];exact Nat.le_refl _
  ·refine Nat.le_trans (ih (by omega)) ?_
   cases hd:ns[b]? with
   | some d=>rw[wsum_succ hd];omega
   | none=>unfold wsum;rw[List.take_add_one,hd];simp
theorem bs_len (t:ByteArray):(bs t).length=t.size:=size_list t
structure Gr (ns:List Ne) (B c:Nat) (st st':WSt):Prop where
 up:st.next≤st'.next
 top:st'.next≤ns.length
 len:max st'.s.length B+wsum ns st.next≤max st.s.length B+c+wsum ns st'.next
section
variable {ns:List Ne} {B:Nat}
theorem Gr.trans {c1 c2:Nat} {a b d:WSt} (h:Gr ns B c1 a b) (k:Gr ns B c2 b d):Gr ns B (c1+c2) a d:=⟨Nat.le_trans h.up k.up,k.top,by have:=h.len;have:=k.len;omega⟩
theorem Gr.le {c1 c2:Nat} {a b:WSt} (h:Gr ns B c1 a b) (k:c1≤c2):Gr ns B c2 a b:=⟨h.up,h.top,by have:=h.len;omega⟩
theorem Gr.put {st:WSt} (h:st.next≤ns.length) (t:List UInt8):Gr ns B t.length st (st.put t):=⟨Nat.le_refl _,h,by rw[WSt.put_len];show _+wsum ns st.next≤_+wsum ns st.next;omega⟩
def GT (ns:List Ne) (B:Nat) (T:WT):Prop:=∀n st,st.next≤ns.length→Gr ns B 0 st (T n st)
theorem wlist_gr {T:WT} (h:GT ns B T):∀(b:Bool) (l:List Int) (st:WSt),st.next≤ns.length→Gr ns B l.length st (wlist T b l st)
 | _,[],st,hn=>⟨Nat.le_refl _,hn,by rw[wlist];omega⟩
 | b,n::l,st,hn=>by
  rw[wlist]
  have h1:Gr ns B 1 st (if b then st else st.put [124]):=by
   split
   ·exact⟨Nat.le_refl _,hn,by omega⟩
   ·exact Gr.put hn [124]
  have h2:=h n _ h1.top
  exact ((h1.trans h2).trans (wlist_gr h false l _ h2.top)).le (by simp only[List.length_cons];omega)
theorem witems_gr {T:WT} (h:GT ns B T) (op:List UInt8) (l:List Int) (sh:List UInt8) (st:WSt) (hn:st.next≤ns.length):Gr ns B (op.length+l.length+sh.length) st (witems T op l sh st):=by
 unfold witems
 have h1:=Gr.put (B:=B) hn op
 have h2:=wlist_gr h true l _ h1.top
 exact (h1.trans h2).trans (Gr.put h2.top sh)
theorem wfield_gr {T:WT} (h:GT ns B T) (f:ByteArray×Bool×Int) (st:WSt) (hn:st.next≤ns.length):Gr ns B (f.1.size+3) st (wfield T f st):=by
 unfold wfield
 have h1:=Gr.put (B:=B) hn (bs f.1)
 have h2:Gr ns B (f.1.size+1) st (if f.2.1 then (st.put (bs f.1)).put [63] else st.put (bs f.1)):=by
  split
  ·exact (h1.trans (Gr.put h1.top [63])).le (by rw[bs_len];simp)
  ·exact h1.le (by rw[bs_len];omega)
 have h3:=h2.trans (Gr.put h2.top [58])
 have h4:=h3.trans (h f.2.2 _ h3.top)
 exact (h4.trans (Gr.put h4.top [59])).le (by simp only[List.length_cons,List.length_nil];omega)
theorem wflds_gr {T:WT} (h:GT ns B T):∀(l:List (ByteArray×Bool×Int)) (st:WSt),st.next≤ns.length→Gr ns B (l.map fun f=>f.1.size+3).sum st (wflds T l st)
 | [],st,hn=>⟨Nat.le_refl _,hn,by rw[wflds];omega⟩
 | f::l,st,hn=>by
  rw[wflds]
  have h1:=wfield_gr h f st hn
  exact (h1.trans (wflds_gr h l _ h1.top)).le (by simp)
theorem inter_le (l:List ByteArray):(([44]:List UInt8).intercalate (l.map bs)).length≤(l.map fun s=>s.size+1).sum:=by
 induction l with
 | nil=>simp
 | cons x l ih=>
  cases l with
  | nil=>
   have:bs x=x.data.toList:=rfl
   simp[List.intercalate,bs_len]
  | cons y l=>
   have e:([44]:List UInt8).intercalate ((x::y::l).map bs)=bs x++[44]++([44]:List UInt8).intercalate ((y::l).map bs):=by simp[List.intercalate]
   rw[e]
   have e2:((x::y::l).map fun s=>s.size+1).sum=(x.size+1)+((y::l).map fun s=>s.size+1).sum:=by rw[List.map_cons,List.sum_cons]
   rw[e2]
   simp only[List.length_append,bs_len,List.length_cons,List.length_nil] at ih ⊢
   omega
theorem wbody_gr {T:WT} (h:GT ns B T) (x:Ne) (st:WSt) (hn:st.next≤ns.length) (hz : -9223372036854775808≤x.size∧x.size≤9223372036854775807):Gr ns B (nodeW x) st (wbody T x st):=by
 unfold wbody
 have hi:∀(a b:UInt8),Gr ns B (nodeW x) st (witems T [a] x.items [b] st):=fun a b=>(witems_gr h _ _ _ st hn).le (by unfold nodeW;simp only[List.length_cons,List.length_nil];omega)
 split
 ·exact hi _ _
 ·split
  ·exact hi _ _
  ·split
   ·exact hi _ _
   ·split
    ·refine (Gr.put hn _).le ?_
     have:=inter_le x.syms
     unfold nodeW
     simp only[List.length_append,bs_len,sEn,List.length_cons,List.length_nil]
     omega
    ·split
     ·refine (Gr.put hn _).le ?_
      have:=Lib.itoa_length_le x.size hz.1 hz.2
      unfold nodeW
      simp only[List.length_append,bs_len,sFix,List.length_cons,List.length_nil]
      omega
     ·split
      ·unfold wrecord
       have h1:=Gr.put (B:=B) hn (sRec++bs x.name++[123])
       have h2:=h1.trans (wflds_gr h x.fields _ h1.top)
       refine (h2.trans (Gr.put h2.top [125])).le ?_
       unfold nodeW
       simp only[List.length_append,bs_len,sRec,List.length_cons,List.length_nil]
       omega
      ·split
       ·exact⟨Nat.le_refl _,hn,by show max st.s.length B+wsum ns st.next≤max st.s.length B+nodeW x+wsum ns st.next;omega⟩
       ·refine (Gr.put hn _).le ?_
        next h1 h2 h3 h4 h5 h6 h7=>
        have hk:x.k.toNat<12:=by omega
        have:∀k,k<12→(bs (wordsL.getD k ⟨#[]⟩)).length≤6:=by decide
        have:=this _ hk
        unfold nodeW
        omega
theorem wtyp_gr (hB:∀d∈ns,4096+d.name.size≤B) (hz:∀d∈ns,-9223372036854775808≤d.size∧d.size≤9223372036854775807):∀f,GT ns B (wtyp ns f)
 | 0,n,st,hn=>⟨Nat.le_refl _,hn,by rw[wtyp];simp⟩
 | f+1,n,st,hn=>by
  rw[wtyp]
  split
  ·exact⟨Nat.le_refl _,hn,by simp⟩
  ·next hs=>
   unfold wstop at hs
   simp only[not_or,Int.not_lt,Int.not_le,Nat.not_lt] at hs
   obtain⟨h1,h2,h3,h4,h5,h6⟩:=hs
   obtain⟨m,rfl⟩:∃m:Nat,n=m:=⟨n.toNat,by omega⟩
   have hm:m<ns.length:=by omega
   have hg:ns.getD m neD=ns[m]:=by rw[List.getD,List.getElem?_eq_getElem hm];rfl
   have hmem:ns[m]∈ns:=List.getElem_mem hm
   rw[Int.toNat_natCast,hg]
   split
   ·refine⟨Nat.le_refl _,hn,?_⟩
    show max (st.put _).s.length B+wsum ns st.next≤max st.s.length B+0+wsum ns st.next
    rw[WSt.put_len,bs_len]
    have:=hB _ hmem
    omega
   ·next hlt=>
    obtain rfl:m=st.next:=by omega
    have hb:=wbody_gr (wtyp_gr hB hz f) ns[st.next] { st with next:=st.next+1 } (by show st.next+1≤_;omega) (hz _ hmem)
    have e:=wsum_succ (ns:=ns) (k:=st.next) (List.getElem?_eq_getElem hm)
    refine⟨by have:=hb.up;simp only at this;omega,hb.top,?_⟩
    have:=hb.len
    simp only at this
    rw[e] at this
    omega
end
theorem sum_mem (l:List Nat) (x:Nat) (h:x∈l):x≤l.sum:=by
 induction l with
 | nil=>cases h
 | cons y l ih=>
  rcases List.mem_cons.1 h with e|e
  ·subst e;simp
  ·have:=ih e;simp;omega
theorem nodeW_le (d:Ne):nodeW d≤40*Args.nodeB d:=by
 have h1:(d.fields.map fun f=>f.1.size+3).sum≤(d.fields.map Args.fldB).sum:=by
  generalize d.fields=l
  induction l with
  | nil=>simp
  | cons f l ih=>simp only[List.map_cons,List.sum_cons,Args.fldB];omega
 unfold nodeW Args.nodeB
 omega
theorem sum_nodeW (l:List Ne):(l.map nodeW).sum≤40*(l.map Args.nodeB).sum:=by
 induction l with
 | nil=>simp
 | cons d l ih=>have:=nodeW_le d;simp only[List.map_cons,List.sum_cons];omega
theorem show_bound {ns:List Ne} (hb:Args.schB ns≤1048576) (hz:∀d∈ns,-9223372036854775808≤d.size∧d.size≤9223372036854775807):showLen ns≤100000000:=by
 have hM:∀d∈ns,4096+d.name.size≤2000000:=fun d hd=>by
  have:=sum_mem (ns.map Args.nodeB) (Args.nodeB d) (List.mem_map_of_mem hd)
  unfold Args.schB at hb
  have:d.name.size≤Args.nodeB d:=by unfold Args.nodeB;omega
  omega
 have h:=wtyp_gr hM hz 20 0 ⟨[],0,false⟩ (Nat.zero_le _)
 have h1:=h.len
 have h2:=wsum_mono ns h.top
 have h3:wsum ns ns.length≤40*Args.schB ns:=by
  unfold wsum Args.schB
  rw[List.take_length]
  exact sum_nodeW ns
 show (wtyp ns 20 0 ⟨[],0,false⟩).s.length≤_
 have h4:([]:List UInt8).length=0:=rfl
 simp only[List.length_nil] at h1
 omega
theorem sch_lens {ns:List Ne} (hb:Args.schB ns≤1048576):ns.length≤1000000∧∀d∈ns,d.syms.length≤1048576∧d.items.length≤1048576∧d.fields.length≤1048576∧d.syms.length+d.items.length+d.fields.length≤1048576:=by
 have h1:∀l:List Ne,7*l.length≤(l.map Args.nodeB).sum:=by
  intro l
  induction l with
  | nil=>simp
  | cons d l ih=>simp only[List.map_cons,List.sum_cons,List.length_cons,Args.nodeB];omega
 refine⟨by have:=h1 ns;unfold Args.schB at hb;omega,fun d hd=>?_⟩
 have h2:=sum_mem (ns.map Args.nodeB) (Args.nodeB d) (List.mem_map_of_mem hd)
 unfold Args.schB at hb
 have h3:d.syms.length≤(d.syms.map fun s=>s.size+1).sum:=by
  generalize d.syms=l
  induction l with
  | nil=>simp
  | cons f l ih=>simp only[List.map_cons,List.sum_cons,List.length_cons];omega
 have h4:d.fields.length≤(d.fields.map Args.fldB).sum:=by
  generalize d.fields=l
  induction l with
  | nil=>simp
  | cons f l ih=>simp only[List.map_cons,List.sum_cons,List.length_cons,Args.fldB];omega
 have:d.syms.length+d.items.length+d.fields.length≤Args.nodeB d:=by unfold Args.nodeB;omega
 omega
theorem show_inj {a b:List Ne} {s t:List UInt8} (h:showP a=some s) (k:showP b=some t):s=t↔a=b:=by
 have q:∀ {a:List Ne} {s:List UInt8},showP a=some s→(parseP ⟨s.toArray⟩).1.map Nd.toE=a:=by
  intro a s h
  unfold showP at h
  simp only at h
  split at h
  ·cases h
  ·split at h
   ·cases h
   ·next hn=>
    injection h with h
    subst h
    simp only[not_or,ne_eq,Decidable.not_not] at hn
    exact hn.2
 constructor
 ·intro e
  rw[←q h,←q k,e]
 ·intro e
  rw[e,k] at h
  injection h with h
  exact h.symm
end Pr
end Go.Proofs.YtmaoochjbpohdaaGreatDoor
