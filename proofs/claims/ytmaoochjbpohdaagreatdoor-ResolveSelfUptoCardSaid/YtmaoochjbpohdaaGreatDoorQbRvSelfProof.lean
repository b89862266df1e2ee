/- suffragan/suffraganlaw10.ResolveSelf: the given statement, out of the contract of its walk. Of what reads up to the bound. -/
import Derived.Test.YtmaoochjbpohdaaGreatDoorQbZ
set_option linter.unusedVariables false
set_option linter.unusedSimpArgs false
set_option maxRecDepth 100000
set_option maxHeartbeats 1000000
namespace Go.Proofs.YtmaoochjbpohdaaGreatDoor.Rv
open Go.ChangeShapes Go.WideShapes Go.ChangeAt Go.RowKit
open Base Lx Mi Pr Mp
def ne1 (k:Int):Ne:=⟨k,⟨#[]⟩,0,[],[],[]⟩
theorem show2:showP [ne1 2]=some [105,110,116]:=by decide +kernel
theorem show3:showP [ne1 3]=some [108,111,110,103]:=by decide +kernel
open Classical in
theorem can32:canB [ne1 3] [ne1 2]=true:=by
 unfold canB
 refine decide_eq_true ⟨by rw[show3];rfl,by rw[show2];rfl,fun _ _=>true,?_,rfl⟩
 intro i k x y hx hy _
 cases i with
 | succ i=>simp at hx
 | zero=>
  cases k with
  | succ k=>simp at hy
  | zero=>
   simp at hx hy
   subst hx;subst hy
   rfl
open Classical in
theorem can23:canB [ne1 2] [ne1 3]=false:=by
 unfold canB
 refine decide_eq_false fun h=>?_
 obtain⟨R,hs,hr⟩:=h.2.2
 have:=hs 0 0 (ne1 2) (ne1 3) rfl rfl hr
 have e:holdP R (ne1 2) (ne1 3) ((0:Nat):Int) ((0:Nat):Int)=false:=rfl
 rw[e] at this
 cases this
theorem len2:showLen [ne1 2]≤100000000:=by decide +kernel
theorem len3:showLen [ne1 3]≤100000000:=by decide +kernel
theorem sch_one {w:World} {q:Nat} {k:Int} (h:Blk w q #[.int .i64 k,.string ⟨#[]⟩,.int .i64 0,.slice none 0 0,.slice none 0 0,.slice none 0 0] 36):Sch w.heap.size w (.slice (some ⟨q,0,none⟩) 1 1) [ne1 k]:=by
 have hn:∀cs:List Value,cs=[]→Sl w.heap.size w (.slice none 0 0) 0 cs:=fun cs e=>by subst e;exact⟨none,0,rfl,Rd.nil _ _,fun h=>absurd rfl h,Nat.le_refl _,Nat.zero_le _,fun _=>rfl⟩
 refine⟨[(.slice none 0 0,.slice none 0 0,.slice none 0 0)],rfl,⟨some ⟨q,0,none⟩,1,rfl,fun _=>⟨q,0,rfl,fun j u hj=>?_⟩,fun _ a ha=>?_,Nat.le_refl _,by unfold maxLen;omega,fun e=>by cases e⟩,fun i d v h1 h2=>?_⟩
 ·rw[Nat.zero_add,h.cell j,←hj]
  rw[←Array.getElem?_toList]
  rfl
 ·injection ha with ha
  subst ha
  exact h.lt
 ·cases i with
  | succ i=>simp at h1
  | zero=>
   simp at h1 h2
   subst h1;subst h2
   exact⟨hn _ rfl,hn _ rfl,hn _ rfl,by simp[ne1]⟩
theorem resOne {w:World} {tmps:Array Value} {a:Nat} {u:Value} (ha:tmps[2]?.getD undef=.pointer (some ⟨a,0,none⟩)) (h1:w.cell? ⟨a,0,none⟩=some u):(results Tryz.f47 tmps).run Tryz.prog w=.ok (.agg #[u]) w:=by
 simp[results,Tryz.f47,go_sem,ha,h1]
theorem one_any (k:Int) (w:World):Calls Tryz.prog 47 #[.int .i64 k] w fun en w'=>∃v,en=.returned (.agg #[v])∧Sch w'.heap.size w' v [ne1 k]∧Ext w w':=by
 obtain⟨w1,hw1⟩:∃z,Hid (w.alloc (.cells #[.slice (some ⟨w.heap.size+1,0,none⟩) 1 1] 24)=z):=⟨_,rfl⟩
 obtain⟨w2,hw2⟩:∃z,Hid (w1.alloc (.cells #[.int .i64 k,.string ⟨#[]⟩,.int .i64 0,.slice none 0 0,.slice none 0 0,.slice none 0 0] 36)=z):=⟨_,rfl⟩
 have hs1:w1.heap.size=w.heap.size+1:=by rw[←hw1.out];simp
 have hx1:Ext w w1:=by rw[←hw1.out];exact (Ext.refl w).alloc _
 have hx12:Ext w1 w2:=by rw[←hw2.out];exact (Ext.refl w1).alloc _
 have b1:Blk w2 w.heap.size #[.slice (some ⟨w.heap.size+1,0,none⟩) 1 1] 24:=(by rw[←hw1.out];exact Blk.new w _ _:Blk w1 w.heap.size #[.slice (some ⟨w.heap.size+1,0,none⟩) 1 1] 24).ext hx12
 have b2:Blk w2 (w.heap.size+1) #[.int .i64 k,.string ⟨#[]⟩,.int .i64 0,.slice none 0 0,.slice none 0 0,.slice none 0 0] 36:=by rw[←hs1,←hw2.out];exact Blk.new w1 _ _
 obtain⟨PO,hPO⟩:∃PO:Ending→World→Prop,Hid ((fun en w'=>∃v,en=.returned (.agg #[v])∧Sch w'.heap.size w' v [ne1 k]∧Ext w w')=PO):=⟨_,Lib.hid rfl⟩
 have hp:PO (.returned (.agg #[.slice (some ⟨w.heap.size+1,0,none⟩) 1 1])) w2:=by
  rw[←hPO.out]
  exact⟨_,rfl,sch_one b2,hx1.trans hx12⟩
 rw[hPO.out]
 have hc:=b1.cell 0
 simp only[List.getElem?_toArray,List.getElem?_cons_zero] at hc
 replace hc:=Lib.hid hc
 clear hPO hs1 b1 b2
 go_enter Tryz.func47,Tryz.ntmps47
 go_wp2_with fail
 rw[hw1.out,hw2.out]
 refine bodyPost_ret (resOne rfl hc.out) rfl ?_
 exact hp
theorem Prom_any (r t:Int) (w:World):Calls Tryz.prog 48 #[.int .i64 r,.int .i64 t] w fun en w'=>en=.returned (.bool (promP r t))∧Ext w w':=by
 have hc:=prom_any r t w
 obtain⟨v,hv⟩:∃z,Hid (promP r t=z):=⟨_,rfl⟩
 rw[hv.out] at hc ⊢
 go_enter Tryz.func48,Tryz.ntmps48
 go_wp2_with fail
 refine hc.mono ?_
 rintro en w1 ⟨rfl,hx⟩
 go_wp2_with fail
 go_ret
 exact⟨rfl,hx⟩
theorem lives10_any (w:World) (hwd:Wd w) (hpow:Pow w):Calls Tryz.prog 20 #[] w fun en w'=>en=.returned (.bool true)∧Ext w w':=by
 have h3:=fun W=>one_any 3 W
 have h2:=fun W=>one_any 2 W
 have hc1:=fun va vb W (hW:Ext w W) (ha:Sch W.heap.size W va [ne1 3]) (hb:Sch W.heap.size W vb [ne1 2])=>Can_any [ne1 3] [ne1 2] va vb W ha hb (hwd.ext hW) (hpow.ext hW) len3 len2
 have hc2:=fun va vb W (hW:Ext w W) (ha:Sch W.heap.size W va [ne1 2]) (hb:Sch W.heap.size W vb [ne1 3])=>Can_any [ne1 2] [ne1 3] va vb W ha hb (hwd.ext hW) (hpow.ext hW) len2 len3
 simp only[can32] at hc1
 simp only[can23] at hc2
 have hp:=fun W=>Prom_any 5 4 W
 have e5:promP 5 4=true:=rfl
 simp only[e5] at hp
 clear e5
 have g1:=h3 w
 replace h3:=Lib.hid h3
 replace h2:=Lib.hid h2
 replace hc1:=Lib.hid hc1
 replace hc2:=Lib.hid hc2
 replace hp:=Lib.hid hp
 go_enter Tryz.func20,Tryz.ntmps20
 go_wp2_with fail
 refine g1.mono ?_
 rintro en w1 ⟨v1,rfl,S1,hx1⟩
 replace S1:=Lib.hid S1
 have g2:=h2.out w1
 clear g1
 go_wp2_with fail
 refine g2.mono ?_
 rintro en w2 ⟨v2,rfl,S2,hx2⟩
 have g3:=hc1.out v1 v2 w2 (hx1.trans hx2) ((S1.out.below hx2).mono hx2.size) S2
 clear g2 S1 S2
 go_wp2_with fail
 refine g3.mono ?_
 rintro en w3 ⟨rfl,hx3⟩
 have hx03:=hx1.trans (hx2.trans hx3)
 have g4:=h2.out w3
 clear g3
 go_wp2_with fail
 refine g4.mono ?_
 rintro en w4 ⟨v4,rfl,S4,hx4⟩
 replace S4:=Lib.hid S4
 have g5:=h3.out w4
 clear g4
 go_wp2_with fail
 refine g5.mono ?_
 rintro en w5 ⟨v5,rfl,S5,hx5⟩
 have g6:=hc2.out v4 v5 w5 (hx03.trans (hx4.trans hx5)) ((S4.out.below hx5).mono hx5.size) S5
 clear g5 S4 S5
 go_wp2_with fail
 refine g6.mono ?_
 rintro en w6 ⟨rfl,hx6⟩
 have g7:=hp.out w6
 clear g6
 go_wp2_with fail
 refine g7.mono ?_
 rintro en w7 ⟨rfl,hx7⟩
 go_wp2_with fail
 go_ret
 exact⟨rfl,hx03.trans (hx4.trans (hx5.trans (hx6.trans hx7)))⟩
def fewP (a b:List Ne):Bool:=decide (a.length≤30) && (decide (b.length≤30) && (decide (partsN a≤3000) && decide (partsN b≤3000)))
structure Bnd (a:List Ne):Prop where
 len:a.length≤2000000
 parts:∀d∈a,nodeP d≤2000000
theorem few10_any (a b:List Ne) (va vb:Value) (w:World) (hSa:Sch w.heap.size w va a) (hSb:Sch w.heap.size w vb b) (hBa:Bnd a) (hBb:Bnd b) :
  Calls Tryz.prog 17 #[.agg #[va],.agg #[vb]] w fun en w'=>en=.returned (.bool (fewP a b))∧Ext w w':=by
 obtain⟨na,hna⟩:∃z,Hid (a.length=z):=⟨_,rfl⟩
 obtain⟨nb,hnb⟩:∃z,Hid (b.length=z):=⟨_,rfl⟩
 obtain⟨Aa,ca,rfl⟩:∃A c,va=.slice A na c:=by
  obtain⟨vs,_,⟨A,c,e,_⟩,_⟩:=hSa
  exact⟨A,c,by rw[e,hna.out]⟩
 obtain⟨Ab,cb,rfl⟩:∃A c,vb=.slice A nb c:=by
  obtain⟨vs,_,⟨A,c,e,_⟩,_⟩:=hSb
  exact⟨A,c,by rw[e,hnb.out]⟩
 obtain⟨w1,hw1⟩:∃z,Hid (w.alloc (.cells #[.slice Aa na ca] 24)=z):=⟨_,rfl⟩
 obtain⟨w2,hw2⟩:∃z,Hid (w1.alloc (.cells #[.slice Ab nb cb] 24)=z):=⟨_,rfl⟩
 have hx1:Ext w w1:=by rw[←hw1.out];exact (Ext.refl w).alloc _
 have hx12:Ext w1 w2:=by rw[←hw2.out];exact (Ext.refl w1).alloc _
 have hs1:w1.heap.size=w.heap.size+1:=by rw[←hw1.out];simp
 obtain⟨q2,hq2⟩:∃z,Hid (w.heap.size=z):=⟨_,rfl⟩
 obtain⟨q3,hq3⟩:∃z,Hid (w.heap.size+1=z):=⟨_,rfl⟩
 have b3:Blk w2 q3 #[.slice Ab nb cb] 24:=by rw[←hq3.out,←hs1,←hw2.out];exact Blk.new w1 _ _
 have hx2:=hx1.trans hx12
 have k3:∀W,Ext w2 W→W.cell? ⟨q3,0,none⟩=some (.slice Ab nb cb):=fun W hW=>by have:=(b3.ext hW).cell 0;simpa using this
 have ha:=small_any ((hSa.below hx2).mono hx2.size) (Nat.le_refl _) hBa.len hBa.parts
 have hb:=fun W (hW:Ext w W)=>small_any ((hSb.below hW).mono hW.size) (Nat.le_refl _) hBb.len hBb.parts
 obtain⟨sa,hsa⟩:∃z,Hid (decide (partsN a≤3000)=z):=⟨_,rfl⟩
 obtain⟨sb,hsb⟩:∃z,Hid (decide (partsN b≤3000)=z):=⟨_,rfl⟩
 have hf:fewP a b=(decide (na≤30) && (decide (nb≤30) && (sa && sb))):=by unfold fewP;rw[hna.out,hnb.out,hsa.out,hsb.out]
 rw[hsa.out] at ha
 simp only[hsb.out] at hb
 obtain⟨PO,hPO⟩:∃PO:Ending→World→Prop,Hid ((fun en w'=>en=.returned (.bool (fewP a b))∧Ext w w')=PO):=⟨_,Lib.hid rfl⟩
 have fin:∀v W,Ext w W→(decide (na≤30) && (decide (nb≤30) && (sa && sb)))=v→PO (.returned (.bool v)) W:=fun v W hW h=>by rw[←hPO.out,hf,h];exact⟨rfl,hW⟩
 rw[hPO.out]
 replace fin:=Lib.hid fin
 replace hb:=Lib.hid hb
 replace k3:=Lib.hid k3
 clear hf hSa hSb hs1 b3 hBa hBb hna hnb
 by_cases h1:na≤30
 case neg=>
  have h1':¬(na:Int)≤30:=by omega
  have hg:=fin.out false w2 hx2 (by simp[h1])
  clear h1
  go_enter Tryz.func17,Tryz.ntmps17
  go_wp2_with fail
  rw[hw1.out,hw2.out]
  exact hg
 have h1':(na:Int)≤30:=by omega
 by_cases h2:nb≤30
 case neg=>
  have h2':¬(nb:Int)≤30:=by omega
  have hg:=fin.out false w2 hx2 (by simp[h2])
  clear h1 h2
  go_enter Tryz.func17,Tryz.ntmps17
  go_wp2_with fail
  rw[hw1.out,hw2.out]
  exact hg
 have h2':(nb:Int)≤30:=by omega
 cases sa with
 | false=>
  have hg:=fun W (hW:Ext w2 W)=>fin.out false W (hx2.trans hW) (by simp)
  replace hg:=Lib.hid hg
  clear h1 h2
  go_enter Tryz.func17,Tryz.ntmps17
  go_wp2_with fail
  rw[hw1.out,hw2.out]
  refine ha.mono ?_
  rintro en w3 ⟨rfl,hx3⟩
  have hgg:=hg.out w3 hx3
  go_wp2_with fail
  exact hgg
 | true=>
  have hg:=fun W (hW:Ext w2 W)=>fin.out sb W (hx2.trans hW) (by simp[h1,h2])
  replace hg:=Lib.hid hg
  clear h1 h2
  go_enter Tryz.func17,Tryz.ntmps17
  go_wp2_with fail
  rw[hw1.out,hw2.out,hq3.out]
  refine ha.mono ?_
  rintro en w3 ⟨rfl,hx3⟩
  have hb3:=hb.out w3 (hx2.trans hx3)
  have k33:=k3.out w3 hx3
  clear ha
  go_wp2_with fail
  refine hb3.mono ?_
  rintro en w4 ⟨rfl,hx4⟩
  have hgg:=hg.out w4 (hx3.trans hx4)
  go_wp2_with fail
  exact hgg
end Go.Proofs.YtmaoochjbpohdaaGreatDoor.Rv
namespace Go.Proofs.YtmaoochjbpohdaaGreatDoor.Rv
open Lx Pr
inductive Sub (a:List Ne):Int→Int→Prop
 | refl (i:Int):Sub a i i
 | step {i:Nat} {x:Ne} {r k:Int}:a[i]?=some x→x.k=8→r∈x.items→Sub a r k→Sub a (i:Int) k
theorem Sub.snoc {a:List Ne} {i k:Int} (h:Sub a i k):∀ {n:Nat} {y:Ne} {v:Int},k=(n:Int)→a[n]?=some y→y.k=8→v∈y.items→Sub a i v:=by
 induction h with
 | refl i=>intro n y v e hy h8 hv;subst e;exact .step hy h8 hv (.refl v)
 | step hx h8 hr _ ih=>intro n y v e hy hy8 hv;exact .step hx h8 hr (ih e hy hy8 hv)
open Classical in
noncomputable def subB (a:List Ne):Rel:=fun i k=>decide (Sub a i k)
open Classical in
theorem subB_iff {a:List Ne} {i k:Int}:subB a i k=true↔Sub a i k:=by unfold subB;exact decide_eq_true_iff
theorem find_self {l:List Fd} (h:(l.map (·.1)).Nodup) {f:Fd} (hf:f∈l):(l.find? fun g=>decide (g.1=f.1))=some f:=by
 induction l with
 | nil=>cases hf
 | cons g l ih=>
  obtain⟨h1,h2⟩:=List.nodup_cons.1 h
  by_cases e:g.1=f.1
  ·rw[List.find?_cons_of_pos (by simp[e])]
   rcases List.mem_cons.1 hf with rfl|hf
   ·rfl
   ·exact absurd (List.mem_map.2 ⟨f,hf,e.symm⟩) h1
  ·rw[List.find?_cons_of_neg (by simp[e])]
   rcases List.mem_cons.1 hf with rfl|hf
   ·exact absurd rfl e
   ·exact ih h2 hf
theorem holdP_refl {a:List Ne} {x:Ne} {i:Nat} (hx:WE a.length x) (h8:¬x.k=8):holdP (subB a) x x i i=true:=by
 have rf:∀t:Int,subB a t t=true:=fun t=>subB_iff.2 (.refl t)
 unfold holdP
 rw[if_neg h8,if_neg h8,if_neg (by simp)]
 split
 ·exact rf _
 split
 ·simp
 split
 ·simp
 split
 ·simp only[decide_true,Bool.true_and,List.all_eq_true]
  intro f hf
  unfold fieldP
  rw[find_self hx.nod hf]
  exact rf _
 ·rfl
theorem stays_sub {a:List Ne} (ha:∀d∈a,WE a.length d):Stays a a (subB a):=by
 intro i k x y hx hy h
 have hs:=subB_iff.1 h
 by_cases y8:y.k=8
 ·unfold holdP
  rw[if_pos y8,List.all_eq_true]
  exact fun v hv=>subB_iff.2 (hs.snoc rfl hy y8 hv)
 ·generalize hi:(i:Int)=i' at hs
  generalize hk:(k:Int)=k' at hs
  cases hs with
  | refl _=>
   obtain rfl:i=k:=by omega
   rw[hx] at hy
   injection hy with hy
   subst hy
   first|exact holdP_refl (ha _ (List.mem_of_getElem? hx)) y8|(rw[←hi];exact holdP_refl (ha _ (List.mem_of_getElem? hx)) y8)
  | step hx' x8 hr hrk=>
   rename_i j x' r
   obtain rfl:i=j:=by omega
   rw[hx] at hx'
   injection hx' with hx'
   subst hx'
   unfold holdP
   rw[if_neg y8,if_pos x8,List.any_eq_true]
   exact⟨r,hr,subB_iff.2 (by first|exact hrk|(subst hk;exact hrk))⟩
open Classical in
theorem canB_self (a:List Ne):canB a a=(showP a).isSome:=by
 unfold canB
 cases h:showP a with
 | none=>exact decide_eq_false fun hc=>by have:=hc.1;rw[h] at this;cases this
 | some t=>
  have hw:=show_we h
  exact decide_eq_true ⟨by rw[h];rfl,by rw[h];rfl,subB a,stays_sub hw.2.2,subB_iff.2 (.refl 0)⟩
end Go.Proofs.YtmaoochjbpohdaaGreatDoor.Rv
namespace Go.Proofs.YtmaoochjbpohdaaGreatDoor.Rv
open Go.ChangeShapes Go.WideShapes Go.ChangeAt Go.RowKit
open Base Lx Mi Pr Mp
theorem sch_rng' {B:Nat} {w:World} {v:Value} {ns:List Ne} (h:Sch B w v ns):∀d∈ns,-9223372036854775808≤d.size∧d.size≤9223372036854775807:=by
 intro d hd
 obtain⟨vs,h1,h2,h3⟩:=h
 obtain⟨i,hi,rfl⟩:=List.mem_iff_getElem.1 hd
 exact (h3 i _ _ (List.getElem?_eq_getElem hi) (List.getElem?_eq_getElem (by rw[h1];exact hi))).rng
theorem parts_len6 {ns:List Ne} (h:partsN ns≤3000):∀d∈ns,Len6 d:=fun d hd=>by
 have h1:=sum_mem (ns.map nodeP) (nodeP d) (List.mem_map_of_mem hd)
 unfold partsN at h
 have h2:nodeP d≤3000:=by omega
 unfold nodeP at h2
 clear h h1
 refine⟨?_,?_,?_⟩<;>omega
theorem few_len6 {a b:List Ne} (h:fewP a b=true):(∀d∈a,Len6 d)∧∀d∈b,Len6 d:=by
 unfold fewP at h
 simp only[Bool.and_eq_true,decide_eq_true_eq] at h
 exact⟨parts_len6 h.2.2.1,parts_len6 h.2.2.2⟩
structure Fine1 (n1:List Ne):Prop where
 bnd:Bnd n1
 l1:n1.length≤1000000
 sh:showLen n1≤100000000
 shR:showRLen n1≤100000000
theorem fine1 {w:World} {u1:Value} {n1:List Ne} (h1:Sch w.heap.size w u1 n1) (hb1:Args.schB n1≤1048576):Fine1 n1:=by
 obtain⟨l1,d1⟩:=sch_lens hb1
 exact⟨⟨by omega,fun d hd=>by have:=(d1 d hd).2.2.2;unfold nodeP;omega⟩,l1,show_bound hb1 (sch_rng' h1),showR_bound hb1 (sch_rng' h1)⟩
set_option maxHeartbeats 2000000 in
theorem self_any (u1:Value) (n1:List Ne) (w:World) (h1:Sch w.heap.size w u1 n1) (hb1:Args.schB n1≤1048576) (hwd:Wd w) (hpow:Pow w) :
  Calls Tryz.prog 3 #[.agg #[u1]] w fun e w'=>e=.returned (.bool true)∧Ext w w':=by
 have F:=fine1 h1 hb1
 obtain⟨A1,k1,c1,rfl⟩:=Rv.Sch.slice h1
 obtain⟨q,hq⟩:∃z,Hid (w.heap.size=z):=⟨_,rfl⟩
 obtain⟨w1,hw1⟩:∃z,Hid (w.alloc (.cells #[.slice A1 k1 c1] 24)=z):=⟨_,rfl⟩
 have hx1:Ext w w1:=by rw[←hw1.out];exact (Ext.refl w).alloc _
 have hbA:Blk w1 q #[.slice A1 k1 c1] 24:=by rw[←hw1.out,←hq.out];exact Blk.new w _ _
 have S1:∀W,Ext w1 W→Sch W.heap.size W (.slice A1 k1 c1) n1:=fun W hW=>(h1.below (hx1.trans hW)).mono (hx1.trans hW).size
 have cA:∀W,Ext w1 W→W.cell? ⟨q,0,none⟩=some (.slice A1 k1 c1):=fun W hW=>by have:=(hbA.ext hW).cell 0;simpa using this
 have hli:=fun W (hW:Ext w1 W)=>lives10_any W (hwd.ext (hx1.trans hW)) (hpow.ext (hx1.trans hW))
 have hown:=fun W hW=>own_any (S1 W hW) (Nat.le_refl _) F.l1
 have hrsh:=fun W hW=>refShow_any _ _ W (S1 W hW) F.shR
 have hcan:=fun W v (hW:Ext w1 W) hS=>Can_any n1 n1 _ v W (S1 W hW) hS (hwd.ext (hx1.trans hW)) (hpow.ext (hx1.trans hW)) F.sh F.sh
 have hfew:=fun W hW=>few10_any n1 n1 _ _ W (S1 W hW) (S1 W hW) F.bnd F.bnd
 have hl6:fewP n1 n1=true→∀d∈n1,Len6 d:=fun h=>(few_len6 h).1
 simp only[canB_self] at hcan
 obtain⟨S,er,ok,hSe,hok,heq⟩:∃S er ok,shV (showP n1)=.tuple #[.string S,.int .i64 er]∧(showP n1).isSome=ok∧((er=0∧ok=true)∨(er=1∧ok=false)):=by
  cases showP n1 with
  | none=>exact⟨_,_,_,rfl,rfl,.inr ⟨rfl,rfl⟩⟩
  | some s=>exact⟨_,_,_,rfl,rfl,.inl ⟨rfl,rfl⟩⟩
 simp only[hSe] at hrsh
 simp only[hok] at hcan
 obtain⟨m1,hm1⟩:∃z,Hid (fewP n1 n1=z):=⟨_,Lib.hid rfl⟩
 simp only[hm1.out] at hfew hl6
 have g1:=cA w1 (Ext.refl _)
 have hr1:=hrsh w1 (Ext.refl _)
 clear F hSe hok hb1 hrsh hbA h1
 replace hl6:=Lib.hid hl6
 replace hown:=Lib.hid hown
 replace hcan:=Lib.hid hcan
 replace hli:=Lib.hid hli
 replace hfew:=Lib.hid hfew
 replace S1:=Lib.hid S1
 replace cA:=Lib.hid cA
 obtain⟨PO,hPO⟩:∃PO:Ending→World→Prop,Hid ((fun e w'=>e=.returned (.bool true)∧Ext w w')=PO):=⟨_,Lib.hid rfl⟩
 have fin:∀W,Ext w W→PO (.returned (.bool true)) W:=fun W hW=>by rw[←hPO.out];exact⟨rfl,hW⟩
 rw[hPO.out]
 replace fin:=Lib.hid fin
 rcases heq with⟨rfl,rfl⟩|⟨rfl,rfl⟩
 all_goals
  go_enter Tryz.func3,Tryz.ntmps3
  go_wp2_with fail
  rw[hw1.out,hq.out]
  refine hr1.mono ?_
  rintro e w2 ⟨rfl,hx2⟩
  clear hr1
  have c2:∀W,Ext w2 W→W.cell? ⟨q,0,none⟩=some (.slice A1 k1 c1):=fun W hW=>cA.out W (hx2.trans hW)
  go_wp2_with fail
  cases m1 with
  | false=>
   refine Reg.startE (by kernel_rfl) ?_
   iterate 2 ((first|refine Reg.tn ?_|refine Reg.sn ?_);(try simp only[Reg.nn]))
   refine Reg.onlyE 2 _ rfl (by kernel_rfl) (by decide) (by rfl) (fun W hW K hK=>?_);go_simp
   refine (hfew.out W (hx2.trans hW)).mono ?_
   rintro e wX ⟨rfl,hX⟩
   have hq1:=hx2.trans (hW.trans hX)
   refine hK.out _ _ (hX) ?_;clear hK K;(try simp only[Reg.nn])
   iterate 11 ((first|refine Reg.tn ?_|refine Reg.sn ?_);(try simp only[Reg.nn]))
   refine Reg.onlyE 14 _ rfl (by kernel_rfl) (by decide) (by rfl) (fun W hW K hK=>?_);go_simp
   refine (hli.out W (hq1.trans hW)).mono ?_
   rintro e wY ⟨rfl,hY⟩
   have hq2:=hq1.trans (hW.trans hY)
   refine hK.out _ _ (hY) ?_;clear hK K;(try simp only[Reg.nn])
   iterate 2 ((first|refine Reg.tn ?_|refine Reg.sn ?_);(try simp only[Reg.nn]))
   refine Reg.fin (by kernel_rfl) (fun W hW=>?_)
   have hf:=fin.out W (hx1.trans (hq2.trans hW))
   go_wp2_with fail
   exact hf
  | true=>
   have hl:=hl6.out rfl
   replace hl:=Lib.hid hl
   refine Reg.startE (by kernel_rfl) ?_
   iterate 2 ((first|refine Reg.tn ?_|refine Reg.sn ?_);(try simp only[Reg.nn]))
   refine Reg.onlyE 2 _ rfl (by kernel_rfl) (by decide) (by rfl) (fun W hW K hK=>?_);go_simp
   refine (hfew.out W (hx2.trans hW)).mono ?_
   rintro e wX ⟨rfl,hX⟩
   have hq1:=hx2.trans (hW.trans hX)
   have cX:∀W,Ext wX W→W.cell? ⟨q,0,none⟩=some (.slice A1 k1 c1):=fun W hW=>cA.out W (hq1.trans hW)
   refine hK.out _ _ (hX) ?_;clear hK K;(try simp only[Reg.nn])
   iterate 4 ((first|refine Reg.tn ?_|refine Reg.sn ?_);(try simp only[Reg.nn]))
   refine Reg.tk 9 ?_;(try simp only[Reg.nn])
   refine Reg.tk 10 ?_;(try simp only[Reg.nn])
   refine Reg.onlyE 7 _ rfl (by kernel_rfl) (by decide) (by rfl) (fun W hW K hK=>?_);go_simp
   refine (hown.out W (hq1.trans hW) hl.out).mono ?_
   rintro e wY ⟨v6,vs6,rfl,hO6,hY⟩
   have hq2:=hq1.trans (hW.trans hY)
   have hS6:=hO6.sch (Nat.le_refl _)
   replace hS6:=Lib.hid hS6
   clear hO6
   refine hK.out _ _ (hY) ?_;clear hK K;(try simp only[Reg.nn])
   refine Reg.onlyE 8 _ rfl (by kernel_rfl) (by decide) (by rfl) (fun W hW K hK=>?_);go_simp
   refine (hcan.out W v6 (hq2.trans hW) ((hS6.out.below hW).mono hW.size)).mono ?_
   rintro e wZ ⟨rfl,hZ⟩
   have hq3:=hq2.trans (hW.trans hZ)
   refine hK.out _ _ (hZ) ?_;clear hK K;(try simp only[Reg.nn])
   iterate 3 ((first|refine Reg.tn ?_|refine Reg.sn ?_);(try simp only[Reg.nn]))
   refine Reg.onlyE 14 _ rfl (by kernel_rfl) (by decide) (by rfl) (fun W hW K hK=>?_);go_simp
   refine (hli.out W (hq3.trans hW)).mono ?_
   rintro e wV ⟨rfl,hV⟩
   have hq4:=hq3.trans (hW.trans hV)
   refine hK.out _ _ (hV) ?_;clear hK K;(try simp only[Reg.nn])
   iterate 2 ((first|refine Reg.tn ?_|refine Reg.sn ?_);(try simp only[Reg.nn]))
   refine Reg.fin (by kernel_rfl) (fun W hW=>?_)
   have hf:=fin.out W (hx1.trans (hq4.trans hW))
   go_wp2_with fail
   exact hf
end Go.Proofs.YtmaoochjbpohdaaGreatDoor.Rv
namespace Go.Proofs.YtmaoochjbpohdaaGreatDoor.resolveSelfUpto
open Go.ChangeShapes Go.WideShapes Go.ChangeAt Go.RowKit
open Go.ChangeMaps (open_string shut_string)
open Base Args
theorem own:ownKnob Tryz.prog.godebug=none:=by kernel_rfl
theorem laidOut:laidOutB Tryz.prog=true:=by kernel_rfl
theorem laid_met (os:Os):laidMet Tryz.prog Rows.resolveSelfUptoRow.laid ((Pr.laidWorld os).forCall (fun _ _=>0) ⟨#[],#[.agg #[.slice none 0 0]],[]⟩).memory:=
 laidMet_of_run' 8 (by kernel_rfl) (by kernel_rfl)
theorem reads (os:Os) {H:Type} (enc:TypeId×Value→H):∃places,DataW.whole enc Tryz.prog ((Pr.laidWorld os).forCall (fun _ _=>0) ⟨#[],#[.agg #[.slice none 0 0]],[]⟩).memory Tryz.f3.params.toList Rows.resolveSelfSpec.vars false (#[.agg #[.slice none 0 0]]:Array Value).toList 8=some ([.agg [.nil]],[],places):=
 ⟨[],by kernel_rfl⟩
theorem lifted (os:Os) (started:os.Started) (H:Type) (enc:TypeId×Value→H) (F:Stop.Interp) :
  ReturnsInHanded {} Tryz.checked os 3 .any ((Rows.OpenSpec.upto Rows.resolveSelfSpec).preRow enc Tryz.prog Tryz.f3 Rows.resolveSelfUptoRow.domain false Rows.resolveSelfUptoRow.laid) (((Rows.OpenSpec.upto Rows.resolveSelfSpec).at F).post enc Tryz.prog Tryz.f3 false true false false):=by
 obtain⟨places,hx⟩:=reads os enc
 refine returnsInHanded_of_row (C:=Tryz.checked) (s:=(Rows.OpenSpec.upto Rows.resolveSelfSpec)) own started (by kernel_rfl) Tryz.func3
  (witness_row_at (enc:=enc) (C:=Tryz.checked) false (Pr.laidWorld os) #[.agg #[.slice none 0 0]] rfl (by kernel_rfl) (by kernel_rfl) (by kernel_rfl)
   (OpenSpec.preRow_of_cond 8 hx (by kernel_rfl) (fun k hk=>by cases hk;kernel_rfl) (by kernel_rfl) (laid_met os))) ?_
 intro W base args ds gs before hval0 hW hcnd hk0 hsz0 hL _ _
 have hk:=hk0 _ rfl
 have hval:∀(j:Nat) t v,Tryz.f3.params[j]?=some t→args[j]?=some v→Value.okWide Tryz.prog W .any base t v:=hval0
 have hW':=hW
 obtain⟨p,q,hAz,hV,rfl,hfz,hnd⟩:=hW
 have hA:DataW.TrodAll enc Tryz.prog W 0 (fun _=>true) true Tryz.f3.params.toList args.toList ds p:=hAz
 rw[Tryz.params3] at hA hval
 obtain⟨v0,vs0,d0,ds0,p0,q0,hargs,rfl,rfl,h0,r0⟩:=trodAll_cons hA
 obtain⟨rfl,rfl,rfl⟩:=trodAll_nil r0
 obtain rfl:args = #[v0]:=by cases args;simp_all
 obtain⟨rfl,rfl⟩:=trodVars_none hV
 have hbulk:=bulk_le hk
 have k0:=h0
 have lt0:∀x∈p0,x.block<W.heap.size:=by obtain⟨m,hm⟩:=k0;exact DataW.trod_lt m _ _ _ hm
 obtain⟨u0,n0,rfl,hS0,hB0⟩:=sch_arg (hval 0 24 v0 rfl rfl) h0
 have hz0:schB n0≤1048576:=Nat.le_trans hB0 (bulk_at hbulk (j:=0) rfl)
 clear hAz hval0
 refine (Rv.self_any u0 n0 W hS0 hz0 (Pr.tabs hL).1 (Pr.tabs hL).2).mono fun e W' ⟨he,bel⟩=>?_
 have bel:Below W.heap.size W W':=bel
 subst he
 exact⟨_,rfl,_,_,_,[],_,[],hW',trodAll_mk1 (shut_bool Tryz.underlying4 _),(trodAll_cons_mk (Below.trod laidOut (by kernel_rfl) (of_decide_eq_true (by kernel_rfl)) k0 bel lt0) trodAll_mk0),rfl,bel.frame _,fun h=>by cases h⟩
theorem and2 {a b:Bool} (h:a=true) (k:b=true):(a && b)=true:=by rw[h,k];rfl
theorem joined:joinedFacts Tryz.pinned.checked.prog 3 Tryz.f3 (Rows.OpenSpec.upto Rows.resolveSelfSpec).bare Rows.resolveSelfUptoRow=true:=by
 unfold joinedFacts
 repeat' (with_reducible refine and2 ?_ ?_)
 all_goals as_aux_lemma=>kernel_rfl
theorem said:Rows.ResolveSelfUptoSaid:=
 OpenClaim.holds_of_cond 3 Tryz.f3 rfl rfl rfl rfl rfl rfl rfl ⟨rfl,rfl,rfl,rfl,rfl⟩ rfl rfl rfl rfl rfl (by kernel_rfl) Tryz.func3 joined
  (of_decide_eq_true (by kernel_rfl)) (by unfold Func.isWrapper;first|(rw[if_pos (by decide +kernel)];kernel_rfl)|(rw[if_neg (by decide +kernel)];exact⟨rfl,rfl⟩))
  (fun os started H enc _ F=>by rw[OpenClaim.pre_eq_preRow];exact lifted os started H enc F)
theorem plain (f:FuncId) (fn:Func) (hf:Tryz.pinned.checked.prog.funcNamed "suffragan/suffraganlaw10.ResolveSelf" = some f) (hfn:Tryz.pinned.checked.prog.funcs[f]?=some fn) :
  true=Tryz.pinned.checked.prog.looks []∧∀(j:Nat) t,fn.params[j]?=some t→Tryz.pinned.checked.prog.wantsStandIn t=false:=by
 obtain rfl:f=3:=Option.some.inj ((show Tryz.prog.funcNamed "suffragan/suffraganlaw10.ResolveSelf" = some 3 by kernel_rfl).symm.trans hf) |>.symm
 obtain rfl:fn=Tryz.f3:=(Option.some.inj (Tryz.func3.symm.trans hfn)).symm
 refine⟨by kernel_rfl,fun j t ht=>?_⟩
 rw[Tryz.params3] at ht
 have hm:=Array.mem_of_getElem? ht
 simp only[Array.mem_def,List.mem_cons,List.mem_nil_iff,or_false,or_self] at hm
 subst hm
 exact (show Tryz.prog.wantsStandIn 24=false by kernel_rfl)
theorem proved:Rows.ResolveSelfUptoCardSaid:=
 Claim7.holds_tied_plain_at .later [] _ _ _ _ said (fun _ h=>by cases h) (by kernel_rfl) (fun _ h=>by cases h) resolveSelfUpto_row_tie rfl ⟨rfl,rfl⟩ (by kernel_rfl) rfl plain (by kernel_rfl)
#print axioms proved
end Go.Proofs.YtmaoochjbpohdaaGreatDoor.resolveSelfUpto
