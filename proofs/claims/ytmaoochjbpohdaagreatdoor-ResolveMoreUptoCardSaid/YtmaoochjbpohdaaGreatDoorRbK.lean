/- parse: a text read, whole. -/
import Derived.Test.YtmaoochjbpohdaaGreatDoorRbJ
import Derived.Deep.LoopGhost
set_option linter.unusedVariables false
set_option linter.unusedSimpArgs false
set_option maxRecDepth 100000
set_option maxHeartbeats 1000000
namespace Go.Proofs.YtmaoochjbpohdaaGreatDoor
namespace Pr
open Go.ChangeShapes Go.WideShapes Go.ChangeAt Go.RowKit
open Base Lx Mi Piece
theorem wordsR_er:∀(l:List Tok) (n:Nat) {p er:Int},wordsR l n=some (p,er)→er=4∨er=2
 | [],n,p,er,h=>by cases h
 | x::l,n,p,er,h=>by
  rw[wordsR] at h
  split at h
  ·injection h with h;injection h with h1 h2;exact .inl h2.symm
  ·split at h
   ·injection h with h;injection h with h1 h2;exact .inr h2.symm
   ·exact wordsR_er l _ h
theorem words_er {s:ByteArray} {p er:Int} (h:words s=some (p,er)):er=4∨er=2:=by
 unfold words at h
 split at h
 ·injection h with h;injection h with h1 h2;exact .inr h2.symm
 ·exact wordsR_er _ _ h
def PP (r:List Nd×Int×Int) (w:World) (e:Ending) (w':World):Prop:=∃v vs,e=.returned (.tuple #[.agg #[v],.int .i64 r.2.1,.int .i64 r.2.2])∧Nds w.heap.size w' r.1 vs v∧Ext w w'
theorem nds_nil (B:Nat) (w:World):Nds B w [] [] (.slice none 0 0):=⟨rfl,World.ownsRow_nil _ _ _ _,fun i d v h=>by simp at h⟩
theorem Sub.mono {B B':Nat} {w:World} {d:Nd} {v:V3} (h:Sub B w d v) (hB:B'≤B):Sub B' w d v:=⟨own_mono h.syms hB,own_mono h.items hB,own_mono h.fields hB⟩
theorem Nds.mono {B B':Nat} {w:World} {ns:List Nd} {vs:List V3} {vn:Value} (h:Nds B w ns vs vn) (hB:B'≤B):Nds B' w ns vs vn:=⟨h.len,own_mono h.row hB,fun i d v h1 h2=>(h.sub i d v h1 h2).mono hB⟩
theorem Nds.low {B:Nat} {w w':World} {ns:List Nd} {vs:List V3} {vn:Value} {S:Nat→Prop} (h:Nds B w ns vs vn) (hc:Chg S w w') (hS:∀k,S k→k<B):Nds B w' ns vs vn:=by
 have q:∀ {e:TypeId} {size n:Nat} {v:Value} {xs:List Value},w.ownsRow B e size v n xs→∀k,v.ownBlock=some k→¬S k:=fun ho k hk e=>by
  have:=(ho.lt k hk).1;have:=hS k e;omega
 exact⟨h.len,own_chg h.row hc (q h.row),fun i d v h1 h2=>by
  have hs:=h.sub i d v h1 h2
  exact hs.chg hc (q hs.syms) (q hs.items) (q hs.fields)⟩
theorem resP {w:World} {tmps:Array Value} {a b c:Nat} {u v x:Value} (ha:tmps[2]?.getD undef=.pointer (some ⟨a,0,none⟩)) (hb:tmps[3]?.getD undef=.pointer (some ⟨b,0,none⟩)) (hc:tmps[4]?.getD undef=.pointer (some ⟨c,0,none⟩))
  (h1:w.cell? ⟨a,0,none⟩=some u) (h2:w.cell? ⟨b,0,none⟩=some v) (h3:w.cell? ⟨c,0,none⟩=some x):(results Tryz.f105 tmps).run Tryz.prog w=.ok (.tuple #[.agg #[u],v,x]) w:=by
 simp[results,Tryz.f105,go_sem,ha,hb,hc,h1,h2,h3]
theorem hne3 {w:World} {v:Value} {s:ByteArray} {g:Nat} {u:Value} {t:TypeId} (h:Rt w v (toks s)) (hb:Blk w g #[u] t):∀u2,Rt (w.setCell ⟨g,0,none⟩ u2) v (toks s):=fun u2=>by
 obtain⟨g',cap,rfl,hc,h1,h2⟩:=h
 refine⟨g',cap,rfl,fun j x hj=>?_,h1,h2⟩
 have hne:¬g'=g:=fun e=>by
  subst e
  have hp:=(toks_ok s).pos
  obtain⟨t,l,e⟩:∃t l,toks s=t::l:=by
   cases h:toks s with
   | nil=>rw[h] at hp;simp at hp
   | cons t l=>exact⟨t,l,rfl⟩
  have:=hc 1 (.string t.s) (by rw[e];rfl)
  rw[hb.cell 1] at this
  simp at this
 exact (Chg.one w g 0 u2).cell (hc j x hj) hne
theorem rs_new {w3:World} {v:Value} {s:ByteArray} (hrt:Rt w3 v (toks s)) (hw:words s=none) (hwd:Wd w3) (h0:1<w3.heap.size) :
  Rs w3.heap.size ((w3.alloc (.map #[] 0)).alloc (.cells #[v,.slice none 0 0,.map (some w3.heap.size)] 152)) (w3.heap.size+1) w3.heap.size v (.slice none 0 0) [] ⟨toks s,[],fun _=>none⟩:=by
 obtain⟨hs,hl,hts⟩:=words_ok hw
 obtain⟨g,cap,rfl,hc,h1,h2⟩:=hrt
 have hx:Ext w3 ((w3.alloc (.map #[] 0)).alloc (.cells #[.slice (some ⟨g,0,none⟩) (toks s).length cap,.slice none 0 0,.map (some w3.heap.size)] 152)):=((Ext.refl w3).alloc _).alloc _
 have hp:=(toks_ok s).pos
 have hg:g<w3.heap.size:=by
  obtain⟨t,l,e⟩:∃t l,toks s=t::l:=by
   cases h:toks s with
   | nil=>rw[h] at hp;simp at hp
   | cons t l=>exact⟨t,l,rfl⟩
  have:=hc 0 (.int .i64 t.k) (by rw[e];rfl)
  exact World.block_lt_of_cell? w3 ⟨g,0,none⟩ this
 have hb:=Blk.new (w3.alloc (.map #[] 0)) #[.slice (some ⟨g,0,none⟩) (toks s).length cap,.slice none 0 0,.map (some w3.heap.size)] 152
 rw[show (w3.alloc (.map #[] 0)).heap.size=w3.heap.size+1 by simp] at hb
 refine⟨hb,⟨g,0,cap,rfl,Rd.ext (fun _=>⟨g,0,rfl,fun j u hj=>by rw[Nat.zero_add];exact hc j u hj⟩) hx,h1,h2,hg⟩,nds_nil _ _,⟨0,(MapU.made _ _ _ w3).alloc _,by show 0+(toks s).length≤_;omega⟩,(fun x n h=>(by cases h)),toks_ok s,(show (toks s).length≤2000 by omega),hts,Nat.zero_le _,(by omega),Nat.le_refl _,hwd.ext hx,h0⟩
theorem parsed_any (s:ByteArray) (hs:s.size≤140737488351232) (w:World) (hwd:Wd w) (h0:1<w.heap.size):Calls Tryz.prog 105 #[.string s] w fun e w'=>PP (parseP s) w e w':=by
 have hmf:∀(fn:Fn) (first cap:Array Value) (w:World),(Instr.makeFunc fn first cap).run Tryz.prog w=.ok (.func fn first cap) w:=fun _ _ _ _=>rfl
 obtain⟨r,hr⟩:∃z,Hid (parseP s=z):=⟨_,rfl⟩
 rw[hr.out]
 obtain⟨PO,hPO⟩:∃PO:Ending→World→Prop,Hid ((fun e w'=>PP r w e w')=PO):=⟨_,rfl⟩
 rw[hPO.out]
 obtain⟨a,ha⟩:∃z,Hid (w.heap.size=z):=⟨_,rfl⟩
 obtain⟨w1,hw1⟩:∃z,Hid (((w.alloc (.cells #[.slice none 0 0] 24)).alloc (.cells #[.int .i64 0] 3)).alloc (.cells #[.int .i64 0] 25)=z):=⟨_,rfl⟩
 have hx1:Ext w w1:=by rw[←hw1.out];exact (((Ext.refl w).alloc _).alloc _).alloc _
 have hs1:w1.heap.size=a+3:=by rw[←hw1.out,←ha.out];simp
 have h2:Blk w1 a #[.slice none 0 0] 24:=by rw[←hw1.out,←ha.out];exact ((Blk.new w _ _).alloc _).alloc _
 have h3:Blk w1 (a+1) #[.int .i64 0] 3:=by rw[←hw1.out,←ha.out];have:=(Blk.new (w.alloc (.cells #[.slice none 0 0] 24)) #[.int .i64 0] 3).alloc (.cells #[.int .i64 0] 25);simpa using this
 have h4:Blk w1 (a+1+1) #[.int .i64 0] 25:=by rw[←hw1.out,←ha.out];have:=Blk.new ((w.alloc (.cells #[.slice none 0 0] 24)).alloc (.cells #[.int .i64 0] 3)) #[.int .i64 0] 25;simpa using this
 have hwo:=words_any s hs w1
 go_enter_defers Tryz.func105,Tryz.ntmps105
 go_wp2_with fail
 rw[hw1.out,ha.out]
 refine hwo.mono ?_
 rintro e w2 ⟨v,p,er,rfl,hcase,hx2⟩
 have g2:=h2.ext hx2
 have g3:=h3.ext hx2
 have g4:=h4.ext hx2
 have c3:=g3.cell 0
 have f3:=g3.frozen 0
 rcases hcase with⟨hw,rfl⟩|⟨hw,rfl,rfl,hrt⟩
 ·have hrr:r=([],p,er):=by rw[←hr.out,parseP,hw]
  have hne:(er != 0)=true:=by rcases words_er hw with rfl|rfl<;>rfl
  have Hw:=Lib.hid hw
  clear hw
  go_wp2_with fail
  have n23:¬a=a+1:=by omega
  have n24:¬a=a+1+1:=by omega
  have n34:¬a+1=a+1+1:=by omega
  obtain⟨wd,hwd2⟩:∃z,Hid (w2.setCell ⟨a+1,0,none⟩ (.int .i64 p)=z):=⟨_,rfl⟩
  have hxd:Ext w wd:=by rw[←hwd2.out];exact (hx1.trans hx2).setCell (by show w.heap.size≤a+1;have:=ha.out;omega) _
  have e2:Blk wd a #[.slice none 0 0] 24:=by rw[←hwd2.out];exact g2.far (p:=⟨a+1,0,none⟩) n23 _
  have e3:Blk wd (a+1) #[.int .i64 p] 3:=by rw[←hwd2.out];exact g3.set 0 _
  have e4:Blk wd (a+1+1) #[.int .i64 0] 25:=by rw[←hwd2.out];exact g4.far (p:=⟨a+1,0,none⟩) (fun e=>n34 e.symm) _
  rw[hwd2.out]
  clear g2 g3 g4 c3 f3
  have d2:Blk (wd.setCell ⟨a,0,none⟩ (.slice none 0 0)) a #[.slice none 0 0] 24:=e2.set 0 _
  have d3:=e3.far (p:=⟨a,0,none⟩) (fun e=>n23 e.symm) (.slice none 0 0)
  have d4:=e4.far (p:=⟨a,0,none⟩) (fun e=>n24 e.symm) (.slice none 0 0)
  have d22:=d2.far (p:=⟨a+1,0,none⟩) n23 (.int .i64 p)
  have d33:Blk ((wd.setCell ⟨a,0,none⟩ (.slice none 0 0)).setCell ⟨a+1,0,none⟩ (.int .i64 p)) (a+1) #[.int .i64 p] 3:=d3.set 0 _
  have d44:=d4.far (p:=⟨a+1,0,none⟩) (fun e=>n34 e.symm) (.int .i64 p)
  have d222:=d22.far (p:=⟨a+1+1,0,none⟩) n24 (.int .i64 er)
  have d333:=d33.far (p:=⟨a+1+1,0,none⟩) n34 (.int .i64 er)
  have d444:Blk (((wd.setCell ⟨a,0,none⟩ (.slice none 0 0)).setCell ⟨a+1,0,none⟩ (.int .i64 p)).setCell ⟨a+1+1,0,none⟩ (.int .i64 er)) (a+1+1) #[.int .i64 er] 25:=d44.set 0 _
  have c2:wd.cell? ⟨a,0,none⟩=some (.slice none 0 0):=e2.cell 0
  have f2:=e2.frozen 0
  have c33:wd.cell? ⟨a+1,0,none⟩=some (.int .i64 p):=e3.cell 0
  have c3:(wd.setCell ⟨a,0,none⟩ (.slice none 0 0)).cell? ⟨a+1,0,none⟩=some (.int .i64 p):=d3.cell 0
  have f3:=d3.frozen 0
  have c4:((wd.setCell ⟨a,0,none⟩ (.slice none 0 0)).setCell ⟨a+1,0,none⟩ (.int .i64 p)).cell? ⟨a+1+1,0,none⟩=some (.int .i64 0):=d44.cell 0
  have f4:=d44.frozen 0
  have hxF:Ext w (((wd.setCell ⟨a,0,none⟩ (.slice none 0 0)).setCell ⟨a+1,0,none⟩ (.int .i64 p)).setCell ⟨a+1+1,0,none⟩ (.int .i64 er)):=((hxd.setCell (by show w.heap.size≤a;have:=ha.out;omega) _).setCell (by show w.heap.size≤a+1;have:=ha.out;omega) _).setCell (by show w.heap.size≤a+1+1;have:=ha.out;omega) _
  go_region
  all_goals
   go_wp2_with fail
   refine⟨_,resP rfl rfl rfl (d222.drew.cell 0) (d333.drew.cell 0) (d444.drew.cell 0),?_⟩
   rw[←hPO.out,hrr]
   exact⟨_,_,rfl,nds_nil _ _,hxF.drew⟩
 ·have n1:=hne3 hrt g3 (.int .i64 0)
  obtain⟨w3,hw3⟩:∃z,Hid (w2.setCell ⟨a+1,0,none⟩ (.int .i64 0)=z):=⟨_,rfl⟩
  rw[hw3.out] at n1
  have hs2:=hx2.size
  have hs3:w3.heap.size=w2.heap.size:=by rw[←hw3.out];simp
  have hch3:Chg (fun k=>k=a+1) w2 w3:=by rw[←hw3.out];exact Chg.one w2 (a+1) 0 _
  have hx3:Ext w w3:=by rw[←hw3.out];exact (hx1.trans hx2).setCell (by show w.heap.size≤a+1;have:=ha.out;omega) _
  have e2:Blk w3 a #[.slice none 0 0] 24:=hch3.blk g2 (by omega)
  have e3:Blk w3 (a+1) #[.int .i64 0] 3:=by rw[←hw3.out];exact g3.set 0 _
  have e4:Blk w3 (a+1+1) #[.int .i64 0] 25:=hch3.blk g4 (by omega)
  have hrs:=rs_new n1 hw (hwd.ext hx3) (by omega)
  obtain⟨tg,cap,rfl,hrt1,hrt2,hrt3⟩:=hrt
  clear hrt1 hrt2 hrt3 n1
  have hT:=typed_all (B:=w3.heap.size) (R:=w3.heap.size+1) (M:=w3.heap.size) 20 0 rfl false [] none 0 0 _ _ _ _ _ hrs (Rd.nil _ _) rfl (by omega) (by simp) (by simp;omega)
  rw[show ((0:Nat):Int)=0 from rfl] at hT
  obtain⟨ln,hln⟩:∃z,Hid ((toks s).length=z):=⟨_,rfl⟩
  rw[hln.out,hs3] at hT hrs
  rw[hln.out]
  have hmm:=@run_makeMap Tryz.prog
  have hrr:r=match typedR 20 false [] ⟨toks s,[],fun _=>none⟩ with
   | .bad a w=>([],(a:Int),(w:Int))
   | .ok _ s'=>if (hd s'.l).k≠3 then ([],((hd s'.l).a:Int),4) else (s'.ns,0,0):=by rw[←hr.out,parseP,hw];rfl
  have Hrr:=Lib.hid hrr
  clear hrr hw
  go_wp2_with fail
  rw[hw3.out]
  refine hT.mono ?_
  intro e w6 hpw
  have hnil:∀k,Wr (w2.heap.size+1) w2.heap.size (.slice none 0 0) k→w2.heap.size≤k:=by
   rintro k (e|e|e)
   ·omega
   ·omega
   ·cases e
  have hx5:Ext w3 ((w3.alloc (.map #[] 0)).alloc (.cells #[.slice (some ⟨tg,0,none⟩) ln cap,.slice none 0 0,.map (some w2.heap.size)] 152)):=((Ext.refl w3).alloc _).alloc _
  obtain⟨S3,hS3⟩:∃S:Nat→Prop,S=fun k=>k=a∨k=a+1∨k=a+1+1:=⟨_,rfl⟩
  have hfin:∀(w6:World),Chg (Wr (w2.heap.size+1) w2.heap.size (.slice none 0 0)) ((w3.alloc (.map #[] 0)).alloc (.cells #[.slice (some ⟨tg,0,none⟩) ln cap,.slice none 0 0,.map (some w2.heap.size)] 152)) w6→Ext w3 w6:=fun w6 hc=>by
   have:=(Chg.ofExt (S:=fun _=>False) hx5).trans hc (fun i hi e=>by have:=hnil i e;omega)
   exact this.toExt (fun _ _ e=>e)
  rcases hpw.cases with⟨n,s6,vl6,vn6,vs6,hr6,rfl,hc6,h6,hf6,hg6⟩|⟨at_,why,hr6,rfl,hc6⟩
  ·have hx6:=hfin _ hc6
   obtain⟨An,cn,rfl,jj1,jj2,jj3,jj4⟩:=Rd.of_own h6.nds.row
   clear jj1 jj2 jj3 jj4
   have hrr:r=if (hd s6.l).k≠3 then ([],((hd s6.l).a:Int),4) else (s6.ns,0,0):=by rw[Hrr.out,hr6.out]
   clear Hrr
   have Hrr:=Lib.hid hrr
   clear hrr hT hpw
   have i2:=e2.ext hx6
   have i3:=e3.ext hx6
   have i4:=e4.ext hx6
   have hfail:=fail_any 4 w6 h6
   obtain⟨tg6,off6,cap6,rfl,hp6,hnc6,hcm6,hh6⟩:=h6.head
   obtain⟨c60,c61,c62,f60,f61⟩:=h6.cells
   obtain⟨k60,k61,k62⟩:=hh6 w6 (Ext.refl _)
   obtain⟨t,ht⟩:∃z,Hid (hd s6.l=z):=⟨_,rfl⟩
   rw[ht.out] at k60 k61 k62 hfail
   obtain⟨l6,hl6⟩:∃z,Hid (s6.l.length=z):=⟨_,rfl⟩
   rw[hl6.out] at c60 hp6 hnc6
   obtain⟨nn,hnn⟩:∃z,Hid (s6.ns.length=z):=⟨_,rfl⟩
   have hnds:=h6.nds
   rw[hnn.out] at c61 hnds
   have hp6':(0:Int)<(l6:Int):=by omega
   by_cases hk:t.k=3
   ·have hk1:((t.k:Int) != 3)=false:=by simpa using hk
    have hrr:r=(s6.ns,0,0):=by rw[Hrr.out,ht.out,if_neg (by simp[hk])]
    have j2:w6.cell? ⟨a,0,none⟩=some (.slice none 0 0):=i2.cell 0
    have g2':=i2.frozen 0
    have m2:Blk (w6.setCell ⟨a,0,none⟩ (.slice An nn cn)) a #[(.slice An nn cn)] 24:=i2.set 0 _
    have m3:=i3.far (p:=⟨a,0,none⟩) (by show ¬a+1=a;omega) (.slice An nn cn)
    have m4:=i4.far (p:=⟨a,0,none⟩) (by show ¬a+1+1=a;omega) (.slice An nn cn)
    have j3:(w6.setCell ⟨a,0,none⟩ (.slice An nn cn)).cell? ⟨a+1,0,none⟩=some (.int .i64 0):=m3.cell 0
    have g3':=m3.frozen 0
    have n2:=m2.far (p:=⟨a+1,0,none⟩) (by show ¬a=a+1;omega) (.int .i64 0)
    have n3:Blk ((w6.setCell ⟨a,0,none⟩ (.slice An nn cn)).setCell ⟨a+1,0,none⟩ (.int .i64 0)) (a+1) #[.int .i64 0] 3:=m3.set 0 _
    have n4:=m4.far (p:=⟨a+1,0,none⟩) (by show ¬a+1+1=a+1;omega) (.int .i64 0)
    have j4:((w6.setCell ⟨a,0,none⟩ (.slice An nn cn)).setCell ⟨a+1,0,none⟩ (.int .i64 0)).cell? ⟨a+1+1,0,none⟩=some (.int .i64 0):=n4.cell 0
    have g4':=n4.frozen 0
    have o2:=n2.far (p:=⟨a+1+1,0,none⟩) (by show ¬a=a+1+1;omega) (.int .i64 0)
    have o3:=n3.far (p:=⟨a+1+1,0,none⟩) (by show ¬a+1=a+1+1;omega) (.int .i64 0)
    have o4:Blk (((w6.setCell ⟨a,0,none⟩ (.slice An nn cn)).setCell ⟨a+1,0,none⟩ (.int .i64 0)).setCell ⟨a+1+1,0,none⟩ (.int .i64 0)) (a+1+1) #[.int .i64 0] 25:=n4.set 0 _
    have hch:Chg S3 w6 (((w6.setCell ⟨a,0,none⟩ (.slice An nn cn)).setCell ⟨a+1,0,none⟩ (.int .i64 0)).setCell ⟨a+1+1,0,none⟩ (.int .i64 0)):=(((Chg.refl S3 w6).set (p:=⟨a,0,none⟩) (.inl (by rw[hS3];exact .inl rfl)) _).set (p:=⟨a+1,0,none⟩) (.inl (by rw[hS3];exact .inr (.inl rfl))) _).set (p:=⟨a+1+1,0,none⟩) (.inl (by rw[hS3];exact .inr (.inr rfl))) _
    have hB6:∀k,S3 k→k<w2.heap.size:=fun k hk=>by rw[hS3] at hk;omega
    have hnF:=(hnds.low hch hB6).mono (B':=w.heap.size) (by have:=ha.out;omega)
    have hxF:Ext w _:=(((Chg.ofExt (S:=fun _=>False) (hx3.trans hx6)).trans hch (fun i hi e=>by rw[hS3] at e;have:=ha.out;omega)).toExt (fun _ _ e=>e))
    go_wp2_with fail
    refine leaves_cons (f:=122) (args := #[.pointer (some ⟨a,0,none⟩),.pointer (some ⟨a+1,0,none⟩),.pointer (some ⟨a+1+1,0,none⟩)]) (by simp) (by simp[go_sem]) ?_
    refine (catch_idle a (a+1) (a+1+1) _).mono ?_
    rintro e u' w8 ⟨rfl,rfl,rfl⟩
    refine⟨_,resP rfl rfl rfl (o2.cell 0) (o3.cell 0) (o4.cell 0),?_⟩
    rw[←hPO.out,hrr]
    exact⟨_,_,rfl,hnF,hxF⟩
   ·have hk1:((t.k:Int) != 3)=true:=by simpa using hk
    have hrr:r=([],(t.a:Int),4):=by rw[Hrr.out,ht.out,if_pos hk]
    go_wp2_with fail
    refine hfail.mono ?_
    rintro e w7 ⟨rfl,rfl⟩
    go_wp2_with fail
    refine leaves_cons (f:=122) (args := #[.pointer (some ⟨a,0,none⟩),.pointer (some ⟨a+1,0,none⟩),.pointer (some ⟨a+1+1,0,none⟩)]) (by simp) (by simp[go_sem]) ?_
    refine (catch_stop a (a+1) (a+1+1) _ _ _ t.a 4 w6 i2 i3 i4).mono ?_
    rintro e u' w8 ⟨rfl,rfl,hc8,b2,b3,b4⟩
    refine⟨_,resP rfl rfl rfl (b2.cell 0) (b3.cell 0) (b4.cell 0),?_⟩
    rw[←hPO.out,hrr]
    exact⟨_,_,rfl,nds_nil _ _,((Chg.ofExt (S:=fun _=>False) (hx3.trans hx6)).trans hc8 (fun i hi e=>by have:=ha.out;omega)).toExt (fun _ _ e=>e)⟩
  ·have hx6:=hfin _ hc6
   have hrr:r=([],(at_:Int),(why:Int)):=by rw[Hrr.out,hr6.out]
   clear Hrr hT hpw
   have i2:=e2.ext hx6
   have i3:=e3.ext hx6
   have i4:=e4.ext hx6
   go_wp2_with fail
   refine leaves_cons (f:=122) (args := #[.pointer (some ⟨a,0,none⟩),.pointer (some ⟨a+1,0,none⟩),.pointer (some ⟨a+1+1,0,none⟩)]) (by simp) (by simp[go_sem]) ?_
   refine (catch_stop a (a+1) (a+1+1) _ _ _ at_ why w6 i2 i3 i4).mono ?_
   rintro e u' w8 ⟨rfl,rfl,hc8,b2,b3,b4⟩
   refine⟨_,resP rfl rfl rfl (b2.cell 0) (b3.cell 0) (b4.cell 0),?_⟩
   rw[←hPO.out,hrr]
   exact⟨_,_,rfl,nds_nil _ _,((Chg.ofExt (S:=fun _=>False) (hx3.trans hx6)).trans hc8 (fun i hi e=>by have:=ha.out;omega)).toExt (fun _ _ e=>e)⟩
end Pr
namespace Pr
open Go.ChangeShapes Go.WideShapes Go.ChangeAt Go.RowKit
open Base Lx Mi
def shV:Option (List UInt8)→Value
 | some s=>.tuple #[.string ⟨s.toArray⟩,.int .i64 0]
 | none=>.tuple #[.string ⟨#[]⟩,.int .i64 1]
def showLen (ns:List Ne):Nat:=(wtyp ns 20 0 ⟨[],0,false⟩).s.length
set_option maxHeartbeats 2000000 in
theorem shown_any (v:Value) (ns:List Ne) (w:World) (hS:Sch w.heap.size w v ns) (hwd:Wd w) (hpow:Pow w) (hL:showLen ns≤100000000) :
  Calls Tryz.prog 94 #[.agg #[v]] w fun e w'=>e=.returned (shV (showP ns))∧Ext w w':=by
 have h5:=hpow.lt
 obtain⟨A,c,rfl⟩:=hS.slice
 obtain⟨n,hn⟩:∃z,Hid (ns.length=z):=⟨_,rfl⟩
 obtain⟨q,hq⟩:∃z,Hid (w.heap.size=z):=⟨_,rfl⟩
 obtain⟨w1,hw1⟩:∃z,Hid (w.alloc (.cells #[.slice A n c] 24)=z):=⟨_,rfl⟩
 obtain⟨w2,hw2⟩:∃z,Hid (w1.alloc (.cells #[.pointer none,.slice none 0 0,.slice A n c,.int .i64 0,.bool false] 139)=z):=⟨_,rfl⟩
 have hx1:Ext w w1:=by rw[←hw1.out];exact (Ext.refl w).alloc _
 have hs1:w1.heap.size=q+1:=by rw[←hw1.out,←hq.out];simp
 have hb1:Blk w1 q #[.slice A n c] 24:=by rw[←hw1.out,←hq.out];exact Blk.new w _ _
 have hx2:Ext w1 w2:=by rw[←hw2.out];exact (Ext.refl w1).alloc _
 have hb2:Blk w2 (q+1) #[.pointer none,.slice none 0 0,.slice A n c,.int .i64 0,.bool false] 139:=by rw[←hw2.out,←hs1];exact Blk.new w1 _ _
 have hbq2:=hb1.ext hx2
 have hI:WInv q w2 (q+1) (.slice A n c) ⟨[],0,false⟩:=⟨⟨none,.slice none 0 0,.inl rfl,hb2,World.ownsRow_nil _ _ _ _⟩,by omega⟩
 have hxw2:=hx1.trans hx2
 rw[hq.out] at hS h5
 rw[hn.out] at hS
 have hbe2:Below q w w2:=by rw[←hq.out];exact hxw2
 have hE:En q w2 (.slice A n c) ns:=⟨hS.below hbe2,hwd.ext hxw2,hpow.ext hxw2,h5⟩
 have hT:=wtyped_all 20 0 rfl 0 ⟨[],0,false⟩ w2 hI hE hL
 rw[show ((0:Nat):Int)=0 from rfl] at hT
 obtain⟨st,hst⟩:∃z,Hid (wtyp ns 20 0 ⟨[],0,false⟩=z):=⟨_,Lib.hid rfl⟩
 have hne:=show_ne ns
 have hsh:showP ns=if st.bad=true∨st.next≠ns.length then none else if (parseP ⟨st.s.toArray⟩).2.2≠0∨(parseP ⟨st.s.toArray⟩).1.map Nd.toE≠ns then none else some st.s:=by rw[←hst.out];rfl
 rw[hst.out] at hT hne
 have hL : st.s.length ≤ 100000000 := by have : showLen ns = st.s.length := by rw [← hst.out]; rfl
                                         omega
 replace hne:=Lib.hid hne
 obtain⟨o,ho⟩:∃z,Hid (showP ns=z):=⟨_,Lib.hid rfl⟩
 rw[ho.out] at hsh ⊢
 replace hsh:=Lib.hid hsh
 obtain⟨PO,hPO⟩:∃PO:Ending→World→Prop,Hid ((fun e w'=>e=.returned (shV o)∧Ext w w')=PO):=⟨_,Lib.hid rfl⟩
 rw[hPO.out,hn.out]
 clear hb2
 go_enter Tryz.func94,Tryz.ntmps94
 go_wp2_with fail
 rw[hw1.out,hq.out,hw2.out]
 refine hT.mono ?_
 rintro e w3 ⟨rfl,hk3,h3⟩
 have hx3:Ext w w3:=Below.trans (B:=w.heap.size) hxw2 (by rw[hq.out];exact hk3.below)
 have hbq3:=hk3.keep q _ _ hbq2 (by decide) (by decide)
 obtain⟨c2,c3,c4,f3,f4⟩:=h3.cells
 have e1:∀W,Ext w3 W→W.cell? ⟨q,0,none⟩=some (.slice A n c):=fun W hW=>(hbq3.ext hW).cell 0
 obtain⟨nx,hnx⟩:∃z,Hid (st.next=z):=⟨_,rfl⟩
 have e3:∀W,Ext w3 W→W.cell? ⟨q+1,3,none⟩=some (.int .i64 (nx:Int)):=fun W hW=>by rw[←hnx.out];exact hW.cell c3
 by_cases hbad:st.bad=true
 ·have ho0:o=none:=by rw[hsh.out,if_pos (.inl hbad)]
  have e4:∀W,Ext w3 W→W.cell? ⟨q+1,4,none⟩=some (.bool true):=fun W hW=>by rw[←hbad];exact hW.cell c4
  clear c2 c3 c4 f3 f4 hbad
  go_wp2_with fail
  refine Reg.startE (by kernel_rfl) ?_
  iterate 14 ((first|refine Reg.tn ?_|refine Reg.sn ?_);(try simp only[Reg.nn]))
  refine Reg.fin (by kernel_rfl) (fun W hW=>?_)
  go_wp2_with fail
  rw[←hPO.out,ho0]
  exact⟨rfl,hx3.trans hW⟩
 ·have hbad':st.bad=false:=by simpa using hbad
  have e4:∀W,Ext w3 W→W.cell? ⟨q+1,4,none⟩=some (.bool false):=fun W hW=>by rw[←hbad'];exact hW.cell c4
  have hsne:=hne.out hbad'
  clear c2 c3 c4 f3 f4 hne
  by_cases hnn:nx=n
  ·have hnb:((nx:Int) != (n:Int))=false:=by simp[hnn]
   have hstr:=fun W (hW:Ext w3 W)=>wstring_any (h3.ext hW) hL hsne
   obtain⟨r,hr⟩:∃z,Hid (parseP ⟨st.s.toArray⟩=z):=⟨_,Lib.hid rfl⟩
   have hsz:(⟨st.s.toArray⟩:ByteArray).size=st.s.length:=by simp[ByteArray.size]
   have hpar:=fun W (hW:Ext w W)=>parsed_any ⟨st.s.toArray⟩ (by rw[hsz];omega) W (hwd.ext hW) (by have:=hW.size;have:=hq.out;omega)
   have hres:o=if r.2.2≠0∨r.1.map Nd.toE≠ns then none else some st.s:=by
    rw[hsh.out,if_neg (by rintro (e|e);exact hbad e;exact e (by rw[hnx.out,hnn,hn.out])),hr.out]
   rw[hr.out] at hpar
   have hrg:∀d∈r.1,-9223372036854775808≤d.size∧d.size≤9223372036854775807:=by rw[←hr.out];exact parse_rng _
   obtain⟨S,hS'⟩:∃S:ByteArray,S=⟨st.s.toArray⟩:=⟨_,rfl⟩
   rw[←hS'] at hpar hstr
   replace hS':=Lib.hid hS'
   clear hsz
   have Hres:=Lib.hid hres
   clear hres hsh
   go_wp2_with fail
   refine Reg.startE (by kernel_rfl) ?_
   iterate 14 ((first|refine Reg.tn ?_|refine Reg.sn ?_);(try simp only[Reg.nn]))
   refine Reg.fin (by kernel_rfl) (fun W hW=>?_)
   have hstr:=hstr W hW
   clear e1 e3 e4
   have hxW:=hx3.trans hW
   go_wp2_with fail
   refine hstr.mono ?_
   rintro e w4 ⟨rfl,hb4⟩
   have hx4:Ext w w4:=Below.trans (B:=w.heap.size) hxW (by rw[hq.out];exact hb4.below)
   have hp:=hpar w4 hx4
   clear hpar hstr
   go_wp2_with fail
   go_fit hp
   rintro e w5 ⟨v5,vs5,rfl,hnd,hx5⟩
   obtain⟨A5,c5,rfl,jj1,jj2,jj3,jj4⟩:=Rd.of_own hnd.row
   clear jj1 jj2 jj3 jj4 hp
   obtain⟨n5,hn5⟩:∃z,Hid (r.1.length=z):=⟨_,Lib.hid rfl⟩
   rw[hn5.out] at hnd ⊢
   obtain⟨w6,hw6⟩:∃z,Hid (w5.alloc (.cells #[.slice A5 n5 c5] 24)=z):=⟨_,rfl⟩
   have hx6:Ext w5 w6:=by rw[←hw6.out];exact (Ext.refl w5).alloc _
   obtain⟨q6,hq6⟩:∃z,Hid (w5.heap.size=z):=⟨_,rfl⟩
   have hb6:Blk w6 q6 #[.slice A5 n5 c5] 24:=by rw[←hw6.out,←hq6.out];exact Blk.new w5 _ _
   have hbq6:w6.cell? ⟨q,0,none⟩=some (.slice A n c):=(((hb4.keep q _ _ (hbq3.ext hW) (by decide) (by decide)).ext hx5).ext hx6).cell 0
   have hc6:w6.cell? ⟨q6,0,none⟩=some (.slice A5 n5 c5):=hb6.cell 0
   rw[←hw6.out] at hbq6
   have hx06:Ext w w6:=(hx4.trans hx5).trans hx6
   have hSo:Sch w5.heap.size w6 (.slice A n c) ns:=(hS.below (by rw[←hq.out];exact hx06)).mono (by have:=(hx4.trans hx5).size;have:=hq.out;omega)
   have hSp:Sch w5.heap.size w6 (.slice A5 n5 c5) (r.1.map Nd.toE):=(Sch.ofNds hnd (Nat.le_refl _) hrg).below hx6
   have hcmp:=equalF_any (w:=w6) hSp hSo hx6.size
   by_cases her:r.2.2=0
   ·have hrb:(r.2.2 != 0)=false:=by simpa using her
    by_cases hqq:r.1.map Nd.toE=ns
    ·have ho0:o=some st.s:=by rw[Hres.out,if_neg (by rintro (e|e);exact e her;exact e hqq)]
     rw[show decide (r.1.map Nd.toE=ns)=true by simpa using hqq] at hcmp
     clear hSo hSp hqq
     go_wp2_with fail
     rw[hw6.out]
     refine hcmp.mono ?_
     rintro e w7 ⟨rfl,hx7⟩
     go_wp2_with fail
     rw[←hPO.out,ho0,hS'.out]
     exact⟨rfl,hx06.trans hx7⟩
    ·have ho0:o=none:=by rw[Hres.out,if_pos (.inr hqq)]
     rw[show decide (r.1.map Nd.toE=ns)=false by simpa using hqq] at hcmp
     clear hSo hSp hqq
     go_wp2_with fail
     rw[hw6.out]
     refine hcmp.mono ?_
     rintro e w7 ⟨rfl,hx7⟩
     go_wp2_with fail
     rw[←hPO.out,ho0]
     exact⟨rfl,hx06.trans hx7⟩
   ·have hrb:(r.2.2 != 0)=true:=by simpa using her
    have ho0:o=none:=by rw[Hres.out,if_pos (.inl her)]
    clear hcmp hSo hSp
    go_wp2_with fail
    rw[hw6.out]
    rw[←hPO.out,ho0]
    exact⟨rfl,hx06⟩
  ·have hnb:((nx:Int) != (n:Int))=true:=by simpa using (by omega:¬(nx:Int)=(n:Int))
   have ho0:o=none:=by rw[hsh.out,if_pos (.inr (by rw[hnx.out,hn.out];exact hnn))]
   go_wp2_with fail
   refine Reg.startE (by kernel_rfl) ?_
   iterate 14 ((first|refine Reg.tn ?_|refine Reg.sn ?_);(try simp only[Reg.nn]))
   refine Reg.fin (by kernel_rfl) (fun W hW=>?_)
   go_wp2_with fail
   rw[←hPO.out,ho0]
   exact⟨rfl,hx3.trans hW⟩
theorem resParse {w:World} {tmps:Array Value} {a:Nat} {u v x:Value} (ha:tmps[2]?.getD undef=.pointer (some ⟨a,0,none⟩)) (hb:tmps[3]?.getD undef=v) (hc:tmps[4]?.getD undef=x)
  (h1:w.cell? ⟨a,0,none⟩=some u):(results Tryz.f76 tmps).run Tryz.prog w=.ok (.tuple #[.agg #[u],v,x]) w:=by
 simp[results,Tryz.f76,go_sem,ha,hb,hc,h1]
theorem parse_any (s:ByteArray) (hs:s.size≤140737488351232) (w:World) (hwd:Wd w) (h0:1<w.heap.size):Calls Tryz.prog 76 #[.string s] w fun e w'=>PP (parseP s) w e w':=by
 obtain⟨r,hr⟩:∃z,Hid (parseP s=z):=⟨_,Lib.hid rfl⟩
 obtain⟨w1,hw1⟩:∃z,Hid (w.alloc (.cells #[.slice none 0 0] 24)=z):=⟨_,rfl⟩
 obtain⟨q,hq⟩:∃z,Hid (w.heap.size=z):=⟨_,rfl⟩
 have hx1:Ext w w1:=by rw[←hw1.out];exact (Ext.refl w).alloc _
 have hb1:Blk w1 q #[.slice none 0 0] 24:=by rw[←hw1.out,←hq.out];exact Blk.new w _ _
 have hc:=parsed_any s hs w1 (hwd.ext hx1) (by have:=hx1.size;omega)
 rw[hr.out] at hc ⊢
 obtain⟨PO,hPO⟩:∃PO:Ending→World→Prop,Hid ((fun e w'=>PP r w e w')=PO):=⟨_,Lib.hid rfl⟩
 rw[hPO.out]
 go_enter Tryz.func76,Tryz.ntmps76
 go_wp2_with fail
 rw[hw1.out,hq.out]
 refine hc.mono ?_
 rintro e w2 ⟨v,vs,rfl,hnd,hx2⟩
 obtain⟨A,c,rfl,jj1,jj2,jj3,jj4⟩:=Rd.of_own hnd.row
 clear jj1 jj2 jj3 jj4 hc
 obtain⟨n,hn⟩:∃z,Hid (r.1.length=z):=⟨_,Lib.hid rfl⟩
 rw[hn.out] at hnd ⊢
 have hb2:=hb1.ext hx2
 have c2:w2.cell? ⟨q,0,none⟩=some (.slice none 0 0):=hb2.cell 0
 have f2:=hb2.frozen 0
 have hb3:Blk (w2.setCell ⟨q,0,none⟩ (.slice A n c)) q #[.slice A n c] 24:=hb2.set 0 _
 have hsz:=hx1.size
 have hqs:=hq.out
 have hs1:w1.heap.size=w.heap.size+1:=by rw[←hw1.out];simp
 have hlow:∀k,k=q→k<w1.heap.size:=fun k e=>by omega
 have hnF:=(hnd.low (Chg.one w2 q 0 (.slice A n c)) hlow).mono hsz
 have hxF:Ext w (w2.setCell ⟨q,0,none⟩ (.slice A n c)):=(hx1.trans hx2).setCell (by show w.heap.size≤q;omega) _
 clear hsz hqs hs1 hlow
 go_wp2_with fail
 refine bodyPost_ret (resParse rfl rfl rfl (hb3.cell 0)) rfl ?_
 rw[←hPO.out]
 exact⟨_,_,rfl,hnF,hxF⟩
theorem show_any (v:Value) (ns:List Ne) (w:World) (hS:Sch w.heap.size w v ns) (hwd:Wd w) (hpow:Pow w) (hL:showLen ns≤100000000) :
  Calls Tryz.prog 70 #[.agg #[v]] w fun e w'=>e=.returned (shV (showP ns))∧Ext w w':=by
 obtain⟨w1,hw1⟩:∃z,Hid (w.alloc (.cells #[v] 24)=z):=⟨_,rfl⟩
 have hx1:Ext w w1:=by rw[←hw1.out];exact (Ext.refl w).alloc _
 have hc:=shown_any v ns w1 ((hS.below hx1).mono hx1.size) (hwd.ext hx1) (hpow.ext hx1) hL
 obtain⟨o,ho⟩:∃z,Hid (showP ns=z):=⟨_,Lib.hid rfl⟩
 rw[ho.out] at hc ⊢
 obtain⟨A,c,rfl⟩:=hS.slice
 go_enter Tryz.func70,Tryz.ntmps70
 go_wp2_with fail
 rw[hw1.out]
 refine hc.mono ?_
 rintro e w2 ⟨rfl,hx2⟩
 cases o with
 | none=>
  rw[show shV none=Value.tuple #[.string ⟨#[]⟩,.int .i64 1] from rfl]
  go_wp2_with fail
  go_ret2
  exact⟨rfl,hx1.trans hx2⟩
 | some s=>
  rw[show shV (some s)=Value.tuple #[.string ⟨s.toArray⟩,.int .i64 0] from rfl]
  go_wp2_with fail
  go_ret2
  exact⟨rfl,hx1.trans hx2⟩
end Pr
namespace Rv
open Go.ChangeShapes Go.WideShapes Go.ChangeAt Go.RowKit
open Base Lx Mi Pr Mp
theorem getD_mem {l:List Ne} {i:Nat} (h:i<l.length):l.getD i neD∈l:=by
 rw[List.getD,List.getElem?_eq_getElem h];exact List.getElem_mem h
structure RS (a b:List Ne) (va vb:Value) (w0:World) (bx bm c0:Nat) (N:Rel) (gb:Bool) (i k:Nat) (W:World):Prop where
 rx:RX W bx bm (cnt N b.length a.length) va vb N
 al:AllIn a b N
 inn:Inn a b N
 c:c0≤cnt N b.length a.length
 yes:gb=true→c0<cnt N b.length a.length
 no:gb=false→Ahead a b N i k
 x:Ext w0 W
structure RT (a b:List Ne) (va vb:Value) (w0:World) (bx bm:Nat) (N:Rel) (gb:Bool) (W:World):Prop where
 rx:RX W bx bm (cnt N b.length a.length) va vb N
 al:AllIn a b N
 inn:Inn a b N
 no:gb=false→Stays a b (notR N)
 x:Ext w0 W
section
variable {a b:List Ne} {va vb:Value} {w0:World} {bx bm c0:Nat} {N:Rel} {gb:Bool} {i k:Nat} {W:World}
theorem RS.ext {W':World} (h:RS a b va vb w0 bx bm c0 N gb i k W) (hx:Ext W W'):RS a b va vb w0 bx bm c0 N gb i k W':=⟨h.rx.ext hx,h.al,h.inn,h.c,h.yes,h.no,h.x.trans hx⟩
theorem rs_skip (h:RS a b va vb w0 bx bm c0 N gb i k W) (hN:N i k=true):RS a b va vb w0 bx bm c0 N gb i (k+1) W:=
 ⟨h.rx,h.al,h.inn,h.c,h.yes,fun e=>ahead_next (h.no e) (fun x y _ _ hn=>(by rw[hN] at hn;cases hn)),h.x⟩
theorem rs_holds (h:RS a b va vb w0 bx bm c0 N gb i k W) (hh:holdP (fun p q => !N p q) (a.getD i neD) (b.getD k neD) i k=true):RS a b va vb w0 bx bm c0 N gb i (k+1) W:=
 ⟨h.rx,h.al,h.inn,h.c,h.yes,fun e=>ahead_next (h.no e) (fun x y hx hy _=>by
  have e1:a.getD i neD=x:=by rw[List.getD,hx];rfl
  have e2:b.getD k neD=y:=by rw[List.getD,hy];rfl
  rw[e1,e2] at hh
  exact hh),h.x⟩
theorem rs_row {n:Nat} (h:RS a b va vb w0 bx bm c0 N gb i n W) (hn:b.length=n):RS a b va vb w0 bx bm c0 N gb (i+1) 0 W:=⟨h.rx,h.al,h.inn,h.c,h.yes,fun e=>ahead_row (by rw[hn];exact h.no e),h.x⟩
theorem rs_round {n:Nat} (h:RS a b va vb w0 bx bm c0 N gb n 0 W) (hn:a.length=n):RT a b va vb w0 bx bm N gb W:=⟨h.rx,h.al,h.inn,fun e=>ahead_all (by rw[hn];exact h.no e),h.x⟩
theorem rs_put {W':World} (h:RS a b va vb w0 bx bm c0 N gb i k W) (hN:N i k=false) (hh:holdP (fun p q => !N p q) (a.getD i neD) (b.getD k neD) i k=false) (hi:i<a.length) (hk:k<b.length)
  (hM:MapB Tryz.prog 112 4 W' bm (cnt N b.length a.length+1) (putN N i k)) (hg:W.grownBy W' (some bm)) (hne:bx≠bm) (hbm:w0.heap.size≤bm):RS a b va vb w0 bx bm c0 (putN N i k) true i (k+1) W':=by
 have hx:a[i]?=some (a.getD i neD):=by simp[List.getD,List.getElem?_eq_getElem hi]
 have hy:b[k]?=some (b.getD k neD):=by simp[List.getD,List.getElem?_eq_getElem hk]
 have hc:=cnt_put N b.length i k hN hk a.length hi
 have h1:=h.c
 exact⟨⟨h.rx.blk.grown hg (fun e=>hne (by injection e)),by rw[hc];exact hM⟩,allIn_put h.al h.inn hx hy hh,inn_put h.inn hi hk,by omega,fun _=>by omega,fun e=>(by cases e),h.x.then_grown hg (fun m hm=>by injection hm with hm;omega)⟩
end
set_option maxHeartbeats 4000000 in
theorem related_some (a b:List Ne) (va vb:Value) (w:World) (hSa:Sch w.heap.size w va a) (hSb:Sch w.heap.size w vb b) (hwd:Wd w) (hpow:Pow w) (hLa:showLen a≤100000000) (hLb:showLen b≤100000000)
  (ta tb:List UInt8) (hta:showP a=some ta) (htb:showP b=some tb) (hla:a.length≤1500) (hlb:b.length≤1500) (hwa:∀d∈a,WE a.length d) (hwb:∀d∈b,WE b.length d) :
  Calls Tryz.prog 49 #[.agg #[va],.agg #[vb]] w fun en w'=>(∃bx bm n N,en=.returned (.pointer (some ⟨bx,0,none⟩))∧RX w' bx bm n va vb N∧Stays a b (notR N)∧AllIn a b N)∧Ext w w':=by
 obtain⟨na,hna⟩:∃z,Hid (a.length=z):=⟨_,rfl⟩
 obtain⟨nb,hnb⟩:∃z,Hid (b.length=z):=⟨_,rfl⟩
 obtain⟨Aa,ca,rfl⟩:∃A c,va=.slice A na c:=by
  obtain⟨vs,_,⟨A,c,e,_⟩,_⟩:=hSa
  exact⟨A,c,by rw[e,hna.out]⟩
 obtain⟨Ab,cb,rfl⟩:∃A c,vb=.slice A nb c:=by
  obtain⟨vs,_,⟨A,c,e,_⟩,_⟩:=hSb
  exact⟨A,c,by rw[e,hnb.out]⟩
 have hsa:=fun W (hW:Ext w W)=>show_any _ a W ((hSa.below hW).mono hW.size) (hwd.ext hW) (hpow.ext hW) hLa
 have hsb:=fun W (hW:Ext w W)=>show_any _ b W ((hSb.below hW).mono hW.size) (hwd.ext hW) (hpow.ext hW) hLb
 simp only[hta,shV] at hsa
 simp only[htb,shV] at hsb
 obtain⟨sa,hsa'⟩:∃z,Hid ((⟨ta.toArray⟩:ByteArray)=z):=⟨_,rfl⟩
 obtain⟨sb,hsb'⟩:∃z,Hid ((⟨tb.toArray⟩:ByteArray)=z):=⟨_,rfl⟩
 simp only[hsa'.out] at hsa
 simp only[hsb'.out] at hsb
 clear hta htb hLa hLb
 obtain⟨w1,hw1⟩:∃z,Hid (w.alloc (.cells #[.slice Aa na ca] 24)=z):=⟨_,rfl⟩
 obtain⟨w2,hw2⟩:∃z,Hid (w1.alloc (.cells #[.slice Ab nb cb] 24)=z):=⟨_,rfl⟩
 have hx1:Ext w w1:=by rw[←hw1.out];exact (Ext.refl w).alloc _
 have hx12:Ext w1 w2:=by rw[←hw2.out];exact (Ext.refl w1).alloc _
 obtain⟨q2,hq2⟩:∃z,Hid (w.heap.size=z):=⟨_,rfl⟩
 obtain⟨q3,hq3⟩:∃z,Hid (w.heap.size+1=z):=⟨_,rfl⟩
 have hs1:w1.heap.size=w.heap.size+1:=by rw[←hw1.out];simp
 have b2:Blk w2 q2 #[.slice Aa na ca] 24:=by rw[←hq2.out];exact (by rw[←hw1.out];exact Blk.new w _ _:Blk w1 w.heap.size #[.slice Aa na ca] 24).ext hx12
 have b3:Blk w2 q3 #[.slice Ab nb cb] 24:=by rw[←hq3.out,←hs1,←hw2.out];exact Blk.new w1 _ _
 have hx2:=hx1.trans hx12
 obtain⟨PO,hPO⟩:∃PO:Ending→World→Prop,Hid ((fun en w'=>(∃bx bm n N,en=.returned (.pointer (some ⟨bx,0,none⟩))∧RX w' bx bm n (.slice Aa na ca) (.slice Ab nb cb) N∧Stays a b (notR N)∧AllIn a b N)∧Ext w w')=PO):=⟨_,Lib.hid rfl⟩
 rw[hPO.out]
 have fin:∀bx bm n N W,RX W bx bm n (.slice Aa na ca) (.slice Ab nb cb) N→Stays a b (notR N)→AllIn a b N→Ext w W→PO (.returned (.pointer (some ⟨bx,0,none⟩))) W:=fun bx bm n N W h1 h2 h3 h4=>by rw[←hPO.out];exact⟨⟨bx,bm,n,N,rfl,h1,h2,h3⟩,h4⟩
 replace fin:=Lib.hid fin
 have hhold:=fun W (hW:Ext w W) bx bm n N (h:RX W bx bm n (.slice Aa na ca) (.slice Ab nb cb) N) i k (hi:i<a.length) (hk:k<b.length)=>holds_any a b _ _ h (hSa.below hW) (hSb.below hW) hW.size hi hk (by omega) (by omega) (hwa _ (getD_mem hi)) (hwb _ (getD_mem hk))
 replace hhold:=Lib.hid hhold
 clear hSa hSb
 have k2:=b2.cell 0
 have k3:=b3.cell 0
 simp only[List.getElem?_toArray,List.getElem?_cons_zero] at k2 k3
 have hla':na≤1500:=by rw[←hna.out];exact hla
 have hlb':nb≤1500:=by rw[←hnb.out];exact hlb
 clear hla hlb hwa hwb
 have hs2:=hsa w2 hx2
 replace hsb:=Lib.hid hsb
 clear hsa hs1
 go_enter Tryz.func49,Tryz.ntmps49
 go_wp2_with fail
 rw[hw1.out,hw2.out,hq3.out,hq2.out]
 refine hs2.mono ?_
 rintro en w3 ⟨rfl,hx3⟩
 clear hs2
 have hs3:=hsb.out w3 (hx2.trans hx3)
 have k3':=hx3.cell k3
 go_wp2_with fail
 refine hs3.mono ?_
 rintro en w4 ⟨rfl,hx4⟩
 clear hs3
 have hx24:=hx3.trans hx4
 have j2:=hx24.cell k2
 have j3:=hx24.cell k3
 have hm5:=MapB.made Tryz.prog 112 4 w4
 obtain⟨w5,hw5⟩:∃z,Hid (w4.alloc (.map #[] 0)=z):=⟨_,rfl⟩
 obtain⟨bm,hbm⟩:∃z,Hid (w4.heap.size=z):=⟨_,rfl⟩
 rw[hw5.out,hbm.out] at hm5
 have hx45:Ext w4 w5:=by rw[←hw5.out];exact (Ext.refl w4).alloc _
 obtain⟨w6,hw6⟩:∃z,Hid (w5.alloc (.cells #[.slice Aa na ca,.slice Ab nb cb,.map (some bm)] 110)=z):=⟨_,rfl⟩
 obtain⟨bx,hbx⟩:∃z,Hid (bm+1=z):=⟨_,rfl⟩
 have hs5:w5.heap.size=bm+1:=by rw[←hw5.out,←hbm.out];simp
 have hx56:Ext w5 w6:=by rw[←hw6.out];exact (Ext.refl w5).alloc _
 have hb6:Blk w6 bx #[.slice Aa na ca,.slice Ab nb cb,.map (some bm)] 110:=by rw[←hbx.out,←hs5,←hw6.out];exact Blk.new w5 _ _
 have hx46:=hx45.trans hx56
 have hne:bx≠bm:=by have:=hbx.out;omega
 have hrx6:RX w6 bx bm 0 (.slice Aa na ca) (.slice Ab nb cb) (fun _ _=>false):=⟨hb6,hm5.ext hx56⟩
 have hc0:cnt (fun _ _=>false) b.length a.length=0:=cnt_none (fun _ _=>rfl) _ _
 have hbm4:w4.heap.size≤bm:=by rw[hbm.out];exact Nat.le_refl _
 replace hbm4:=Lib.hid hbm4
 replace hne:=Lib.hid hne
 have hw4:Ext w w4:=hx2.trans hx24
 clear hsb hm5 hb6 k2 k3 k3'
 have hmm:=@run_makeMap Tryz.prog
 go_wp2_with fail
 rw[hw5.out,hbm.out,hw6.out,hbx.out]
 clear hmm
 replace hrx6:=Lib.hid hrx6
 replace hc0:=Lib.hid hc0
 go_loopg [10,11,12,32,33,34,35,36,37,38,39,40,41,42,43,44,45,46,47,48,49,50,51,52,53,54,55,56,57,58,59,60,61,62,63,64,65,66] (2*(na*nb)+1) (fun g v10 v11 v12 v32 v33 v34 v35 v36 v37 v38 v39 v40 v41 v42 v43 v44 v45 v46 v47 v48 v49 v50 v51 v52 v53 v54 v55 v56 v57 v58 v59 v60 v61 v62 v63 v64 v65 v66 wr=>∃(N:Rel) (gb:Bool),v10=.bool gb∧RT a b (.slice Aa na ca) (.slice Ab nb cb) w4 bx bm N gb wr∧2*(na*nb-cnt N nb na)+(if gb=true then 1 else 0)=g)
 case atStart=>
  refine⟨fun _ _=>false,true,rfl,⟨?_,allIn_none a b,inn_none a b,fun h=>(by cases h),hx46⟩,?_⟩
  ·have:=hrx6.out
   rw[hc0.out];exact this
  ·have:=hc0.out
   rw[hna.out,hnb.out] at this
   rw[this];rfl
 case round=>
  obtain⟨N,gb,rfl,hT,hg⟩:=hrel
  cases gb with
  | false=>
   have hf:=fin.out bx bm _ N wr hT.rx (hT.no rfl) hT.al (hw4.trans hT.x)
   clear hT
   go_wp2_with fail
   exact hf
  | true=>
   have j2r:=hT.x.cell j2
   obtain⟨c0,hc0'⟩:∃z,Hid (cnt N nb na=z):=⟨_,rfl⟩
   have hS:RS a b (.slice Aa na ca) (.slice Ab nb cb) w4 bx bm c0 N false 0 0 wr:=⟨hT.rx,hT.al,hT.inn,by rw[hna.out,hnb.out,hc0'.out];exact Nat.le_refl _,fun h=>(by cases h),fun _=>ahead_zero a b N,hT.x⟩
   replace hg:2*(na*nb-c0)+1=gk:=by rw[←hc0'.out];simpa using hg
   replace hg:=Lib.hid hg
   clear hT hc0'
   obtain⟨wo,hwo⟩:∃z,z=wr:=⟨_,rfl⟩
   subst hwo
   go_wp2_with fail
   go_loopw [10,11,12,36,37,38,39,40,41,42,43,44,45,46,47,48,49,50,51,52,53,54,55,56,57,58,59,60,61,62,63,64,65,66] (fun v10 v11 v12 v36 v37 v38 v39 v40 v41 v42 v43 v44 v45 v46 v47 v48 v49 v50 v51 v52 v53 v54 v55 v56 v57 v58 v59 v60 v61 v62 v63 v64 v65 v66 wr=>∃(N:Rel) (i:Nat) (gb:Bool),i≤na∧v36=.int .i64 (i:Int)∧v10=.bool gb∧RS a b (.slice Aa na ca) (.slice Ab nb cb) w4 bx bm c0 N gb i 0 wr) (fun _ _ _ v36 _ _ _ _ _ _ _ _ _ _ _ _ _ _ _ _ _ _ _ _ _ _ _ _ _ _ _ _ _ _ _=>na-(intOf v36).toNat)
   case atStart=>exact⟨N,0,false,Nat.zero_le _,rfl,rfl,hS⟩
   case round=>
    clear hS j2r
    obtain⟨N,i,gb,hi,rfl,rfl,hS⟩:=hrel
    by_cases hin:i<na
    ·have hin':(i:Int)<(na:Int):=by omega
     have j3r:=hS.x.cell j3
     obtain⟨w8,hw8⟩:∃z,z=wr:=⟨_,rfl⟩
     subst hw8
     go_wp2_with fail
     go_loopw [10,12,42,43,44,45,46,47,48,49,50,51,52,53,54,55,56,57,58,59,60,61,62,63,64,65] (fun v10 v12 v42 v43 v44 v45 v46 v47 v48 v49 v50 v51 v52 v53 v54 v55 v56 v57 v58 v59 v60 v61 v62 v63 v64 v65 wr=>∃(N:Rel) (k:Nat) (gb:Bool),k≤nb∧v42=.int .i64 (k:Int)∧v10=.bool gb∧RS a b (.slice Aa na ca) (.slice Ab nb cb) w4 bx bm c0 N gb i k wr) (fun _ _ v42 _ _ _ _ _ _ _ _ _ _ _ _ _ _ _ _ _ _ _ _ _ _ _ _=>nb-(intOf v42).toNat)
     case atStart=>exact⟨N,0,gb,Nat.zero_le _,rfl,rfl,hS⟩
     case round=>
      clear hS j3r
      obtain⟨N,k,gb,hk,rfl,rfl,hS⟩:=hrel
      by_cases hkn:k<nb
      ·have hkn':(k:Int)<(nb:Int):=by omega
       have hr:=reads_any hS.rx (i:=(i:Int)) (j:=(k:Int)) ⟨by omega,by omega⟩ ⟨by omega,by omega⟩
       cases hN:N i k with
       | true=>
        rw[hN] at hr
        have hn:=rs_skip hS hN
        clear hS hN
        go_wp2_with fail
        refine hr.mono ?_
        rintro en wA ⟨rfl,hxA⟩
        clear hr
        go_wp2_with fail
        go_roundw
        case rel=>exact⟨N,k+1,gb,by omega,by go_num,rfl,hn.ext hxA⟩
        case measure=>simp[intOf]<;>omega
       | false=>
        rw[hN] at hr
        have hh:=fun W (hW:Ext wr W)=>hhold.out W (hw4.trans (hS.x.trans hW)) bx bm _ N (hS.rx.ext hW) i k (by rw[hna.out];exact hin) (by rw[hnb.out];exact hkn)
        obtain⟨v,hv⟩:∃z,Hid (holdP (fun p q => !N p q) (a.getD i neD) (b.getD k neD) i k=z):=⟨_,rfl⟩
        simp only[hv.out] at hh
        replace hh:=Lib.hid hh
        replace hN:=Lib.hid hN
        replace hS:=Lib.hid hS
        cases v with
        | true=>
         go_wp2_with fail
         refine hr.mono ?_
         rintro en wA ⟨rfl,hxA⟩
         have hh2:=hh.out wA hxA
         clear hr
         go_wp2_with fail
         refine hh2.mono ?_
         rintro en wB ⟨rfl,hxB⟩
         clear hh2
         go_wp2_with fail
         go_roundw
         case rel=>exact⟨N,k+1,gb,by omega,by go_num,rfl,(rs_holds hS.out hv.out).ext (hxA.trans hxB)⟩
         case measure=>simp[intOf]<;>omega
        | false=>
         go_wp2_with fail
         refine hr.mono ?_
         rintro en wA ⟨rfl,hxA⟩
         have hh2:=hh.out wA hxA
         clear hr
         go_wp2_with fail
         refine hh2.mono ?_
         rintro en wB ⟨rfl,hxB⟩
         clear hh2
         have hSB:=hS.out.ext (hxA.trans hxB)
         have hlt:=cnt_le N b.length a.length
         have hsm:a.length*b.length≤1500*1500:=Nat.mul_le_mul (by rw[hna.out];exact hla') (by rw[hnb.out];exact hlb')
         obtain⟨x0,st,wC,wD,hE,hF,hMB,hgr⟩:=hSB.rx.map.entry bt (by unfold maxLen;omega) (i:=(i:Int)) (j:=(k:Int)) ⟨by omega,by omega⟩ ⟨by omega,by omega⟩
         have kk2:=hSB.rx.blk.cell 2
         simp only[List.getElem?_toArray,List.getElem?_cons_zero,List.getElem?_cons_succ] at kk2
         have hF':(Instr.entryStore 108 (.map (some bm)) (.int .i64 (st:Int)) (.bool true)).run Tryz.prog wC=.ok () wD:=hF
         have hE':(Instr.mapEntry 108 (.map (some bm)) (.agg #[.int .i64 (i:Int),.int .i64 (k:Int)])).run Tryz.prog wB=.ok (.tuple #[x0,.int .i64 (st:Int)]) wC:=hE
         have hnew:=rs_put hSB hN.out hv.out (by rw[hna.out];exact hin) (by rw[hnb.out];exact hkn) hMB hgr hne.out hbm4.out
         clear hE hF hSB hMB hgr hlt hsm
         go_wp2_with fail
         go_roundw
         case rel=>exact⟨_,k+1,true,by omega,by go_num,rfl,hnew⟩
         case measure=>simp[intOf]<;>omega
      ·obtain rfl:k=nb:=by omega
       have hn:=rs_row hS hnb.out
       clear hS
       go_wp2_with fail
       go_roundw
       case rel=>exact⟨N,i+1,gb,by omega,by go_num,rfl,hn⟩
       case measure=>simp[intOf]<;>omega
    ·obtain rfl:i=na:=by omega
     have hT:=rs_round hS hna.out
     have hcl:=hS.c
     have hcy:=hS.yes
     have hle:=cnt_le N b.length a.length
     rw[hna.out,hnb.out] at hcl hcy hle
     replace hcl:=Lib.hid hcl
     replace hcy:=Lib.hid hcy
     replace hle:=Lib.hid hle
     clear hS
     go_wp2_with fail
     go_roundg (2*(i*nb-cnt N nb i)+(if gb=true then 1 else 0))
     case rel=>exact⟨N,gb,rfl,hT,rfl⟩
     case measure=>
      have h1:=hcl.out
      have h2:=hcy.out
      have h3:=hle.out
      have h4:=hg.out
      cases gb
      ·simp;omega
      ·have:=h2 rfl
       simp;omega
end Rv
namespace Pr
open Lx
def er (t:Tok):Tok:=⟨t.k,t.s,0⟩
def PS.er (s:PS):PS:={ s with l:=s.l.map Pr.er }
def Res.er {α:Type}:Res α→Res α
 | .ok a s=>.ok a s.er
 | .bad _ w=>.bad 0 w
theorem hd_er (l:List Tok):hd (l.map er)=er (hd l):=by cases l<;>rfl
theorem isT_er (s:PS) (x:ByteArray):isT s.er x=isT s x:=by
 unfold isT
 rw[show s.er.l=s.l.map Pr.er from rfl,hd_er]
 rfl
theorem on_er (s:PS):s.er.on=s.on.er:=by
 unfold PS.on PS.er
 simp[List.map_tail]
theorem failR_er {α:Type} (s:PS) (w:Nat):(failR s.er w:Res α)=(failR s w).er:=by
 unfold failR
 rw[show s.er.l=s.l.map Pr.er from rfl,hd_er]
 rfl
theorem bind_er {α β:Type} {r r':Res α} {f f':α→PS→Res β} (h:r'=r.er) (hf:∀a s,f' a s.er=(f a s).er):r'.bind f'=(r.bind f).er:=by
 subst h
 cases r with
 | ok a s=>exact hf a s
 | bad a w=>rfl
theorem mustR_er (s:PS) (x:ByteArray):mustR s.er x=(mustR s x).er:=by
 unfold mustR
 rw[isT_er,on_er,failR_er]
 split<;>rfl
theorem goesR_er (s:PS) (x:ByteArray):goesR s.er x=((goesR s x).1,(goesR s x).2.er):=by
 unfold goesR
 rw[isT_er,on_er]
 split<;>rfl
theorem nameR_er (s:PS) (th:ByteArray→Bool):nameR s.er th=(nameR s th).er:=by
 unfold nameR
 rw[failR_er,failR_er,on_er,show s.er.l=s.l.map Pr.er from rfl,hd_er,show (Pr.er (hd s.l)).k=(hd s.l).k from rfl,show (Pr.er (hd s.l)).s=(hd s.l).s from rfl]
 split
 ·rfl
 ·split<;>rfl
theorem kindR_er (s:PS):kindR s.er=kindR s:=by
 unfold kindR
 rw[isT_er,isT_er,isT_er,show s.er.l=s.l.map Pr.er from rfl,hd_er]
 rfl
theorem setN_er (s:PS) (n:Nat) (f:Nd→Nd):s.er.setN n f=(s.setN n f).er:=rfl
def TE (T:Bool→List Nat→PS→Res Nat):Prop:=∀u a s,T u a s.er=(T u a s).er
section
variable {T:Bool→List Nat→PS→Res Nat}
theorem itemR_er (hT:TE T) (s:PS) (n:Nat) (x:ByteArray):itemR T s.er n x=(itemR T s n x).er:=by
 unfold itemR
 refine bind_er (hT _ _ _) fun a s1=>?_
 rw[setN_er,mustR_er]
theorem unionR_er (hT:TE T) (n:Nat):∀(m:Nat) (l:List Nat) (s:PS),unionR T n m l s.er=(unionR T n m l s).er
 | 0,l,s=>by rw[unionR,unionR,failR_er]
 | m+1,l,s=>by
  rw[unionR,unionR]
  refine bind_er (hT _ _ _) fun a s1=>?_
  rw[isT_er,on_er,setN_er]
  split
  ·rfl
  ·exact bind_er (mustR_er _ _) fun _ s2=>unionR_er hT n m _ s2
theorem symsR_er (n:Nat):∀(m:Nat) (l:List ByteArray) (s:PS),symsR n m l s.er=(symsR n m l s).er
 | 0,l,s=>by rw[symsR,symsR,failR_er]
 | m+1,l,s=>by
  rw[symsR,symsR]
  refine bind_er (nameR_er _ _) fun a s1=>?_
  rw[isT_er,on_er,setN_er]
  split
  ·rfl
  ·exact bind_er (mustR_er _ _) fun _ s2=>symsR_er n m _ s2
theorem fieldsR_er (hT:TE T) (n:Nat):∀(m:Nat) (l:List (ByteArray×Bool×Nat)) (s:PS),fieldsR T n m l s.er=(fieldsR T n m l s).er
 | 0,l,s=>by rw[fieldsR,fieldsR,failR_er]
 | m+1,l,s=>by
  rw[fieldsR,fieldsR,isT_er,on_er,setN_er]
  split
  ·rfl
  ·refine bind_er (nameR_er _ _) fun x s1=>?_
   rw[goesR_er]
   refine bind_er (mustR_er _ _) fun _ s2=>?_
   refine bind_er (hT _ _ _) fun t s3=>?_
   exact bind_er (mustR_er _ _) fun _ s4=>fieldsR_er hT n m _ s4
theorem er_len (s:PS):s.er.l.length=s.l.length:=by show (s.l.map Pr.er).length=_;rw[List.length_map]
theorem definedR_er (hT:TE T) (s:PS) (n:Nat) (k:Int):definedR T s.er n k=(definedR T s n k).er:=by
 unfold definedR
 refine bind_er (nameR_er _ _) fun x s1=>?_
 rw[show s1.er.called n x=(s1.called n x).er from rfl]
 generalize s1.called n x=s2
 simp only
 split
 ·refine bind_er (mustR_er _ _) fun _ s3=>?_
  rw[er_len,symsR_er]
 ·split
  ·rw[failR_er,on_er,setN_er,show s2.er.l=s2.l.map Pr.er from rfl,hd_er,show (Pr.er (hd s2.l)).k=(hd s2.l).k from rfl,show (Pr.er (hd s2.l)).s=(hd s2.l).s from rfl]
   split<;>rfl
  ·refine bind_er (mustR_er _ _) fun _ s3=>?_
   rw[er_len,fieldsR_er hT]
end
theorem typedR_er:∀(fuel:Nat),TE (typedR fuel)
 | fuel,u,a,s=>by
  rw[typedR.eq_def,typedR.eq_def fuel u a s]
  simp only
  rw[kindR_er]
  split
  ·exact failR_er _ _
  ·next k hk=>
   rw[show s.er.l=s.l.map Pr.er from rfl,hd_er,show (Pr.er (hd s.l)).s=(hd s.l).s from rfl,show s.er.nm=s.nm from rfl,show gateR fuel u a s.er k (s.nm (hd s.l).s)=gateR fuel u a s k (s.nm (hd s.l).s) from rfl]
   split
   ·exact failR_er _ _
   ·split
    ·show Res.ok _ s.er.on=_
     rw[on_er];rfl
    ·rw[on_er,show s.er.ns=s.ns from rfl,show ({ s.on.er with ns:=s.ns++[Nd.ofKind k] }:PS)=({ s.on with ns:=s.ns++[Nd.ofKind k] }:PS).er from rfl]
     generalize ({ s.on with ns:=s.ns++[Nd.ofKind k] }:PS)=s1
     cases fuel with
     | zero=>exact failR_er _ _
     | succ fuel=>
      have ih:=typedR_er fuel
      simp only
      split
      ·exact bind_er (itemR_er ih _ _ _) fun _ s2=>rfl
      ·split
       ·exact bind_er (itemR_er ih _ _ _) fun _ s2=>rfl
       ·split
        ·rw[er_len]
         exact bind_er (unionR_er ih _ _ _ _) fun _ s2=>rfl
        ·split
         ·exact bind_er (definedR_er ih _ _ _) fun _ s2=>rfl
         ·rfl
theorem typedR_same {l l':List Tok} (h:l.map er=l'.map er) {fuel:Nat} {u:Bool} {a:List Nat} {ns:List Nd} {nm:ByteArray→Option Nat} {n:Nat} {s':PS} (e:typedR fuel u a ⟨l,ns,nm⟩=.ok n s') :
  ∃s'',typedR fuel u a ⟨l',ns,nm⟩=.ok n s''∧s''.ns=s'.ns∧s''.l.map er=s'.l.map er:=by
 have h1:=typedR_er fuel u a ⟨l,ns,nm⟩
 have h2:=typedR_er fuel u a ⟨l',ns,nm⟩
 rw[show PS.er ⟨l,ns,nm⟩=PS.er ⟨l',ns,nm⟩ by unfold PS.er;rw[h],h2,e] at h1
 cases hr:typedR fuel u a ⟨l',ns,nm⟩ with
 | bad x y=>rw[hr] at h1;cases h1
 | ok m s''=>
  rw[hr] at h1
  injection h1 with h3 h4
  subst h3
  have a:s''.er.ns=s'.er.ns:=by rw[h4]
  have b:s''.er.l=s'.er.l:=by rw[h4]
  exact⟨s'',rfl,a,b⟩
end Pr
end Go.Proofs.YtmaoochjbpohdaaGreatDoor
