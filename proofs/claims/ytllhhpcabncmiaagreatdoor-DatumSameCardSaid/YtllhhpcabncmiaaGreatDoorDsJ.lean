/- parse: a text read, whole. -/
import Derived.Test.YtllhhpcabncmiaaGreatDoorDsI
set_option linter.unusedVariables false
set_option linter.unusedSimpArgs false
set_option maxRecDepth 100000
set_option maxHeartbeats 1000000
namespace Go.Proofs.YtllhhpcabncmiaaGreatDoor
namespace Pr
open Go.ChangeShapes Go.WideShapes Go.ChangeAt Go.RowKit
open Base Lx Mi Piece
theorem wordsR_er:∀(l:List Tok) (n:Nat) {p er:Int},wordsR l n=some (p,er)→er=4∨er=2
 | [],n,p,er,h=>by cases h
 | x::l,n,p,er,h=>by
  rw[wordsR] at h
  split at h
  ·injection h with h;injection h with h1 h2;exact .inl h2.symm
  ·split at h
   ·injection h with h;injection h with h1 h2;exact .inr h2.symm
   ·exact wordsR_er l _ h
theorem words_er {s:ByteArray} {p er:Int} (h:words s=some (p,er)):er=4∨er=2:=by
 unfold words at h
 split at h
 ·injection h with h;injection h with h1 h2;exact .inr h2.symm
 ·exact wordsR_er _ _ h
def PP (r:List Nd×Int×Int) (w:World) (e:Ending) (w':World):Prop:=∃v vs,e=.returned (.tuple #[.agg #[v],.int .i64 r.2.1,.int .i64 r.2.2])∧Nds w.heap.size w' r.1 vs v∧Ext w w'
theorem nds_nil (B:Nat) (w:World):Nds B w [] [] (.slice none 0 0):=⟨rfl,World.ownsRow_nil _ _ _ _,fun i d v h=>by simp at h⟩
theorem Sub.mono {B B':Nat} {w:World} {d:Nd} {v:V3} (h:Sub B w d v) (hB:B'≤B):Sub B' w d v:=⟨own_mono h.syms hB,own_mono h.items hB,own_mono h.fields hB⟩
theorem Nds.mono {B B':Nat} {w:World} {ns:List Nd} {vs:List V3} {vn:Value} (h:Nds B w ns vs vn) (hB:B'≤B):Nds B' w ns vs vn:=⟨h.len,own_mono h.row hB,fun i d v h1 h2=>(h.sub i d v h1 h2).mono hB⟩
theorem Nds.low {B:Nat} {w w':World} {ns:List Nd} {vs:List V3} {vn:Value} {S:Nat→Prop} (h:Nds B w ns vs vn) (hc:Chg S w w') (hS:∀k,S k→k<B):Nds B w' ns vs vn:=by
 have q:∀ {e:TypeId} {size n:Nat} {v:Value} {xs:List Value},w.ownsRow B e size v n xs→∀k,v.ownBlock=some k→¬S k:=fun ho k hk e=>by
  have:=(ho.lt k hk).1;have:=hS k e;omega
 exact⟨h.len,own_chg h.row hc (q h.row),fun i d v h1 h2=>by
  have hs:=h.sub i d v h1 h2
  exact hs.chg hc (q hs.syms) (q hs.items) (q hs.fields)⟩
theorem resP {w:World} {tmps:Array Value} {a b c:Nat} {u v x:Value} (ha:tmps[2]?.getD undef=.pointer (some ⟨a,0,none⟩)) (hb:tmps[3]?.getD undef=.pointer (some ⟨b,0,none⟩)) (hc:tmps[4]?.getD undef=.pointer (some ⟨c,0,none⟩))
  (h1:w.cell? ⟨a,0,none⟩=some u) (h2:w.cell? ⟨b,0,none⟩=some v) (h3:w.cell? ⟨c,0,none⟩=some x):(results Tryz.f96 tmps).run Tryz.prog w=.ok (.tuple #[.agg #[u],v,x]) w:=by
 simp[results,Tryz.f96,go_sem,ha,hb,hc,h1,h2,h3]
theorem hne3 {w:World} {v:Value} {s:ByteArray} {g:Nat} {u:Value} {t:TypeId} (h:Rt w v (toks s)) (hb:Blk w g #[u] t):∀u2,Rt (w.setCell ⟨g,0,none⟩ u2) v (toks s):=fun u2=>by
 obtain⟨g',cap,rfl,hc,h1,h2⟩:=h
 refine⟨g',cap,rfl,fun j x hj=>?_,h1,h2⟩
 have hne:¬g'=g:=fun e=>by
  subst e
  have hp:=(toks_ok s).pos
  obtain⟨t,l,e⟩:∃t l,toks s=t::l:=by
   cases h:toks s with
   | nil=>rw[h] at hp;simp at hp
   | cons t l=>exact⟨t,l,rfl⟩
  have:=hc 1 (.string t.s) (by rw[e];rfl)
  rw[hb.cell 1] at this
  simp at this
 exact (Chg.one w g 0 u2).cell (hc j x hj) hne
theorem rs_new {w3:World} {v:Value} {s:ByteArray} (hrt:Rt w3 v (toks s)) (hw:words s=none) (hwd:Wd w3) (h0:0<w3.heap.size) :
  Rs w3.heap.size ((w3.alloc (.map #[] 0)).alloc (.cells #[v,.slice none 0 0,.map (some w3.heap.size)] 147)) (w3.heap.size+1) w3.heap.size v (.slice none 0 0) [] ⟨toks s,[],fun _=>none⟩:=by
 obtain⟨hs,hl,hts⟩:=words_ok hw
 obtain⟨g,cap,rfl,hc,h1,h2⟩:=hrt
 have hx:Ext w3 ((w3.alloc (.map #[] 0)).alloc (.cells #[.slice (some ⟨g,0,none⟩) (toks s).length cap,.slice none 0 0,.map (some w3.heap.size)] 147)):=((Ext.refl w3).alloc _).alloc _
 have hp:=(toks_ok s).pos
 have hg:g<w3.heap.size:=by
  obtain⟨t,l,e⟩:∃t l,toks s=t::l:=by
   cases h:toks s with
   | nil=>rw[h] at hp;simp at hp
   | cons t l=>exact⟨t,l,rfl⟩
  have:=hc 0 (.int .i64 t.k) (by rw[e];rfl)
  exact World.block_lt_of_cell? w3 ⟨g,0,none⟩ this
 have hb:=Blk.new (w3.alloc (.map #[] 0)) #[.slice (some ⟨g,0,none⟩) (toks s).length cap,.slice none 0 0,.map (some w3.heap.size)] 147
 rw[show (w3.alloc (.map #[] 0)).heap.size=w3.heap.size+1 by simp] at hb
 refine⟨hb,⟨g,0,cap,rfl,Rd.ext (fun _=>⟨g,0,rfl,fun j u hj=>by rw[Nat.zero_add];exact hc j u hj⟩) hx,h1,h2,hg⟩,nds_nil _ _,⟨0,(MapU.made _ _ _ w3).alloc _,by show 0+(toks s).length≤_;omega⟩,(fun x n h=>(by cases h)),toks_ok s,(show (toks s).length≤2000 by omega),hts,Nat.zero_le _,(by omega),Nat.le_refl _,hwd.ext hx,h0⟩
theorem parsed_any (s:ByteArray) (hs:s.size≤140737488351232) (w:World) (hwd:Wd w) (h0:0<w.heap.size):Calls Tryz.prog 96 #[.string s] w fun e w'=>PP (parseP s) w e w':=by
 have hmf:∀(fn:Fn) (first cap:Array Value) (w:World),(Instr.makeFunc fn first cap).run Tryz.prog w=.ok (.func fn first cap) w:=fun _ _ _ _=>rfl
 obtain⟨r,hr⟩:∃z,Hid (parseP s=z):=⟨_,rfl⟩
 rw[hr.out]
 obtain⟨PO,hPO⟩:∃PO:Ending→World→Prop,Hid ((fun e w'=>PP r w e w')=PO):=⟨_,rfl⟩
 rw[hPO.out]
 obtain⟨a,ha⟩:∃z,Hid (w.heap.size=z):=⟨_,rfl⟩
 obtain⟨w1,hw1⟩:∃z,Hid (((w.alloc (.cells #[.slice none 0 0] 24)).alloc (.cells #[.int .i64 0] 3)).alloc (.cells #[.int .i64 0] 33)=z):=⟨_,rfl⟩
 have hx1:Ext w w1:=by rw[←hw1.out];exact (((Ext.refl w).alloc _).alloc _).alloc _
 have hs1:w1.heap.size=a+3:=by rw[←hw1.out,←ha.out];simp
 have h2:Blk w1 a #[.slice none 0 0] 24:=by rw[←hw1.out,←ha.out];exact ((Blk.new w _ _).alloc _).alloc _
 have h3:Blk w1 (a+1) #[.int .i64 0] 3:=by rw[←hw1.out,←ha.out];have:=(Blk.new (w.alloc (.cells #[.slice none 0 0] 24)) #[.int .i64 0] 3).alloc (.cells #[.int .i64 0] 33);simpa using this
 have h4:Blk w1 (a+1+1) #[.int .i64 0] 33:=by rw[←hw1.out,←ha.out];have:=Blk.new ((w.alloc (.cells #[.slice none 0 0] 24)).alloc (.cells #[.int .i64 0] 3)) #[.int .i64 0] 33;simpa using this
 have hwo:=words_any s hs w1
 go_enter_defers Tryz.func96,Tryz.ntmps96
 go_wp2_with fail
 rw[hw1.out,ha.out]
 refine hwo.mono ?_
 rintro e w2 ⟨v,p,er,rfl,hcase,hx2⟩
 have g2:=h2.ext hx2
 have g3:=h3.ext hx2
 have g4:=h4.ext hx2
 have c3:=g3.cell 0
 have f3:=g3.frozen 0
 rcases hcase with⟨hw,rfl⟩|⟨hw,rfl,rfl,hrt⟩
 ·have hrr:r=([],p,er):=by rw[←hr.out,parseP,hw]
  have hne:(er != 0)=true:=by rcases words_er hw with rfl|rfl<;>rfl
  have Hw:=Lib.hid hw
  clear hw
  go_wp2_with fail
  have n23:¬a=a+1:=by omega
  have n24:¬a=a+1+1:=by omega
  have n34:¬a+1=a+1+1:=by omega
  obtain⟨wd,hwd2⟩:∃z,Hid (w2.setCell ⟨a+1,0,none⟩ (.int .i64 p)=z):=⟨_,rfl⟩
  have hxd:Ext w wd:=by rw[←hwd2.out];exact (hx1.trans hx2).setCell (by show w.heap.size≤a+1;have:=ha.out;omega) _
  have e2:Blk wd a #[.slice none 0 0] 24:=by rw[←hwd2.out];exact g2.far (p:=⟨a+1,0,none⟩) n23 _
  have e3:Blk wd (a+1) #[.int .i64 p] 3:=by rw[←hwd2.out];exact g3.set 0 _
  have e4:Blk wd (a+1+1) #[.int .i64 0] 33:=by rw[←hwd2.out];exact g4.far (p:=⟨a+1,0,none⟩) (fun e=>n34 e.symm) _
  rw[hwd2.out]
  clear g2 g3 g4 c3 f3
  have d2:Blk (wd.setCell ⟨a,0,none⟩ (.slice none 0 0)) a #[.slice none 0 0] 24:=e2.set 0 _
  have d3:=e3.far (p:=⟨a,0,none⟩) (fun e=>n23 e.symm) (.slice none 0 0)
  have d4:=e4.far (p:=⟨a,0,none⟩) (fun e=>n24 e.symm) (.slice none 0 0)
  have d22:=d2.far (p:=⟨a+1,0,none⟩) n23 (.int .i64 p)
  have d33:Blk ((wd.setCell ⟨a,0,none⟩ (.slice none 0 0)).setCell ⟨a+1,0,none⟩ (.int .i64 p)) (a+1) #[.int .i64 p] 3:=d3.set 0 _
  have d44:=d4.far (p:=⟨a+1,0,none⟩) (fun e=>n34 e.symm) (.int .i64 p)
  have d222:=d22.far (p:=⟨a+1+1,0,none⟩) n24 (.int .i64 er)
  have d333:=d33.far (p:=⟨a+1+1,0,none⟩) n34 (.int .i64 er)
  have d444:Blk (((wd.setCell ⟨a,0,none⟩ (.slice none 0 0)).setCell ⟨a+1,0,none⟩ (.int .i64 p)).setCell ⟨a+1+1,0,none⟩ (.int .i64 er)) (a+1+1) #[.int .i64 er] 33:=d44.set 0 _
  have c2:wd.cell? ⟨a,0,none⟩=some (.slice none 0 0):=e2.cell 0
  have f2:=e2.frozen 0
  have c33:wd.cell? ⟨a+1,0,none⟩=some (.int .i64 p):=e3.cell 0
  have c3:(wd.setCell ⟨a,0,none⟩ (.slice none 0 0)).cell? ⟨a+1,0,none⟩=some (.int .i64 p):=d3.cell 0
  have f3:=d3.frozen 0
  have c4:((wd.setCell ⟨a,0,none⟩ (.slice none 0 0)).setCell ⟨a+1,0,none⟩ (.int .i64 p)).cell? ⟨a+1+1,0,none⟩=some (.int .i64 0):=d44.cell 0
  have f4:=d44.frozen 0
  have hxF:Ext w (((wd.setCell ⟨a,0,none⟩ (.slice none 0 0)).setCell ⟨a+1,0,none⟩ (.int .i64 p)).setCell ⟨a+1+1,0,none⟩ (.int .i64 er)):=((hxd.setCell (by show w.heap.size≤a;have:=ha.out;omega) _).setCell (by show w.heap.size≤a+1;have:=ha.out;omega) _).setCell (by show w.heap.size≤a+1+1;have:=ha.out;omega) _
  go_region
  all_goals
   go_wp2_with fail
   refine⟨_,resP rfl rfl rfl (d222.drew.cell 0) (d333.drew.cell 0) (d444.drew.cell 0),?_⟩
   rw[←hPO.out,hrr]
   exact⟨_,_,rfl,nds_nil _ _,hxF.drew⟩
 ·have n1:=hne3 hrt g3 (.int .i64 0)
  obtain⟨w3,hw3⟩:∃z,Hid (w2.setCell ⟨a+1,0,none⟩ (.int .i64 0)=z):=⟨_,rfl⟩
  rw[hw3.out] at n1
  have hs2:=hx2.size
  have hs3:w3.heap.size=w2.heap.size:=by rw[←hw3.out];simp
  have hch3:Chg (fun k=>k=a+1) w2 w3:=by rw[←hw3.out];exact Chg.one w2 (a+1) 0 _
  have hx3:Ext w w3:=by rw[←hw3.out];exact (hx1.trans hx2).setCell (by show w.heap.size≤a+1;have:=ha.out;omega) _
  have e2:Blk w3 a #[.slice none 0 0] 24:=hch3.blk g2 (by omega)
  have e3:Blk w3 (a+1) #[.int .i64 0] 3:=by rw[←hw3.out];exact g3.set 0 _
  have e4:Blk w3 (a+1+1) #[.int .i64 0] 33:=hch3.blk g4 (by omega)
  have hrs:=rs_new n1 hw (hwd.ext hx3) (by omega)
  obtain⟨tg,cap,rfl,hrt1,hrt2,hrt3⟩:=hrt
  clear hrt1 hrt2 hrt3 n1
  have hT:=typed_all (B:=w3.heap.size) (R:=w3.heap.size+1) (M:=w3.heap.size) 20 0 rfl false [] none 0 0 _ _ _ _ _ hrs (Rd.nil _ _) rfl (by omega) (by simp) (by simp;omega)
  rw[show ((0:Nat):Int)=0 from rfl] at hT
  obtain⟨ln,hln⟩:∃z,Hid ((toks s).length=z):=⟨_,rfl⟩
  rw[hln.out,hs3] at hT hrs
  rw[hln.out]
  have hmm:=@run_makeMap Tryz.prog
  have hrr:r=match typedR 20 false [] ⟨toks s,[],fun _=>none⟩ with
   | .bad a w=>([],(a:Int),(w:Int))
   | .ok _ s'=>if (hd s'.l).k≠3 then ([],((hd s'.l).a:Int),4) else (s'.ns,0,0):=by rw[←hr.out,parseP,hw];rfl
  have Hrr:=Lib.hid hrr
  clear hrr hw
  go_wp2_with fail
  rw[hw3.out]
  refine hT.mono ?_
  intro e w6 hpw
  have hnil:∀k,Wr (w2.heap.size+1) w2.heap.size (.slice none 0 0) k→w2.heap.size≤k:=by
   rintro k (e|e|e)
   ·omega
   ·omega
   ·cases e
  have hx5:Ext w3 ((w3.alloc (.map #[] 0)).alloc (.cells #[.slice (some ⟨tg,0,none⟩) ln cap,.slice none 0 0,.map (some w2.heap.size)] 147)):=((Ext.refl w3).alloc _).alloc _
  obtain⟨S3,hS3⟩:∃S:Nat→Prop,S=fun k=>k=a∨k=a+1∨k=a+1+1:=⟨_,rfl⟩
  have hfin:∀(w6:World),Chg (Wr (w2.heap.size+1) w2.heap.size (.slice none 0 0)) ((w3.alloc (.map #[] 0)).alloc (.cells #[.slice (some ⟨tg,0,none⟩) ln cap,.slice none 0 0,.map (some w2.heap.size)] 147)) w6→Ext w3 w6:=fun w6 hc=>by
   have:=(Chg.ofExt (S:=fun _=>False) hx5).trans hc (fun i hi e=>by have:=hnil i e;omega)
   exact this.toExt (fun _ _ e=>e)
  rcases hpw.cases with⟨n,s6,vl6,vn6,vs6,hr6,rfl,hc6,h6,hf6,hg6⟩|⟨at_,why,hr6,rfl,hc6⟩
  ·have hx6:=hfin _ hc6
   obtain⟨An,cn,rfl,jj1,jj2,jj3,jj4⟩:=Rd.of_own h6.nds.row
   clear jj1 jj2 jj3 jj4
   have hrr:r=if (hd s6.l).k≠3 then ([],((hd s6.l).a:Int),4) else (s6.ns,0,0):=by rw[Hrr.out,hr6.out]
   clear Hrr
   have Hrr:=Lib.hid hrr
   clear hrr hT hpw
   have i2:=e2.ext hx6
   have i3:=e3.ext hx6
   have i4:=e4.ext hx6
   have hfail:=fail_any 4 w6 h6
   obtain⟨tg6,off6,cap6,rfl,hp6,hnc6,hcm6,hh6⟩:=h6.head
   obtain⟨c60,c61,c62,f60,f61⟩:=h6.cells
   obtain⟨k60,k61,k62⟩:=hh6 w6 (Ext.refl _)
   obtain⟨t,ht⟩:∃z,Hid (hd s6.l=z):=⟨_,rfl⟩
   rw[ht.out] at k60 k61 k62 hfail
   obtain⟨l6,hl6⟩:∃z,Hid (s6.l.length=z):=⟨_,rfl⟩
   rw[hl6.out] at c60 hp6 hnc6
   obtain⟨nn,hnn⟩:∃z,Hid (s6.ns.length=z):=⟨_,rfl⟩
   have hnds:=h6.nds
   rw[hnn.out] at c61 hnds
   have hp6':(0:Int)<(l6:Int):=by omega
   by_cases hk:t.k=3
   ·have hk1:((t.k:Int) != 3)=false:=by simpa using hk
    have hrr:r=(s6.ns,0,0):=by rw[Hrr.out,ht.out,if_neg (by simp[hk])]
    have j2:w6.cell? ⟨a,0,none⟩=some (.slice none 0 0):=i2.cell 0
    have g2':=i2.frozen 0
    have m2:Blk (w6.setCell ⟨a,0,none⟩ (.slice An nn cn)) a #[(.slice An nn cn)] 24:=i2.set 0 _
    have m3:=i3.far (p:=⟨a,0,none⟩) (by show ¬a+1=a;omega) (.slice An nn cn)
    have m4:=i4.far (p:=⟨a,0,none⟩) (by show ¬a+1+1=a;omega) (.slice An nn cn)
    have j3:(w6.setCell ⟨a,0,none⟩ (.slice An nn cn)).cell? ⟨a+1,0,none⟩=some (.int .i64 0):=m3.cell 0
    have g3':=m3.frozen 0
    have n2:=m2.far (p:=⟨a+1,0,none⟩) (by show ¬a=a+1;omega) (.int .i64 0)
    have n3:Blk ((w6.setCell ⟨a,0,none⟩ (.slice An nn cn)).setCell ⟨a+1,0,none⟩ (.int .i64 0)) (a+1) #[.int .i64 0] 3:=m3.set 0 _
    have n4:=m4.far (p:=⟨a+1,0,none⟩) (by show ¬a+1+1=a+1;omega) (.int .i64 0)
    have j4:((w6.setCell ⟨a,0,none⟩ (.slice An nn cn)).setCell ⟨a+1,0,none⟩ (.int .i64 0)).cell? ⟨a+1+1,0,none⟩=some (.int .i64 0):=n4.cell 0
    have g4':=n4.frozen 0
    have o2:=n2.far (p:=⟨a+1+1,0,none⟩) (by show ¬a=a+1+1;omega) (.int .i64 0)
    have o3:=n3.far (p:=⟨a+1+1,0,none⟩) (by show ¬a+1=a+1+1;omega) (.int .i64 0)
    have o4:Blk (((w6.setCell ⟨a,0,none⟩ (.slice An nn cn)).setCell ⟨a+1,0,none⟩ (.int .i64 0)).setCell ⟨a+1+1,0,none⟩ (.int .i64 0)) (a+1+1) #[.int .i64 0] 33:=n4.set 0 _
    have hch:Chg S3 w6 (((w6.setCell ⟨a,0,none⟩ (.slice An nn cn)).setCell ⟨a+1,0,none⟩ (.int .i64 0)).setCell ⟨a+1+1,0,none⟩ (.int .i64 0)):=(((Chg.refl S3 w6).set (p:=⟨a,0,none⟩) (.inl (by rw[hS3];exact .inl rfl)) _).set (p:=⟨a+1,0,none⟩) (.inl (by rw[hS3];exact .inr (.inl rfl))) _).set (p:=⟨a+1+1,0,none⟩) (.inl (by rw[hS3];exact .inr (.inr rfl))) _
    have hB6:∀k,S3 k→k<w2.heap.size:=fun k hk=>by rw[hS3] at hk;omega
    have hnF:=(hnds.low hch hB6).mono (B':=w.heap.size) (by have:=ha.out;omega)
    have hxF:Ext w _:=(((Chg.ofExt (S:=fun _=>False) (hx3.trans hx6)).trans hch (fun i hi e=>by rw[hS3] at e;have:=ha.out;omega)).toExt (fun _ _ e=>e))
    go_wp2_with fail
    refine leaves_cons (f:=113) (args := #[.pointer (some ⟨a,0,none⟩),.pointer (some ⟨a+1,0,none⟩),.pointer (some ⟨a+1+1,0,none⟩)]) (by simp) (by simp[go_sem]) ?_
    refine (catch_idle a (a+1) (a+1+1) _).mono ?_
    rintro e u' w8 ⟨rfl,rfl,rfl⟩
    refine⟨_,resP rfl rfl rfl (o2.cell 0) (o3.cell 0) (o4.cell 0),?_⟩
    rw[←hPO.out,hrr]
    exact⟨_,_,rfl,hnF,hxF⟩
   ·have hk1:((t.k:Int) != 3)=true:=by simpa using hk
    have hrr:r=([],(t.a:Int),4):=by rw[Hrr.out,ht.out,if_pos hk]
    go_wp2_with fail
    refine hfail.mono ?_
    rintro e w7 ⟨rfl,rfl⟩
    go_wp2_with fail
    refine leaves_cons (f:=113) (args := #[.pointer (some ⟨a,0,none⟩),.pointer (some ⟨a+1,0,none⟩),.pointer (some ⟨a+1+1,0,none⟩)]) (by simp) (by simp[go_sem]) ?_
    refine (catch_stop a (a+1) (a+1+1) _ _ _ t.a 4 w6 i2 i3 i4).mono ?_
    rintro e u' w8 ⟨rfl,rfl,hc8,b2,b3,b4⟩
    refine⟨_,resP rfl rfl rfl (b2.cell 0) (b3.cell 0) (b4.cell 0),?_⟩
    rw[←hPO.out,hrr]
    exact⟨_,_,rfl,nds_nil _ _,((Chg.ofExt (S:=fun _=>False) (hx3.trans hx6)).trans hc8 (fun i hi e=>by have:=ha.out;omega)).toExt (fun _ _ e=>e)⟩
  ·have hx6:=hfin _ hc6
   have hrr:r=([],(at_:Int),(why:Int)):=by rw[Hrr.out,hr6.out]
   clear Hrr hT hpw
   have i2:=e2.ext hx6
   have i3:=e3.ext hx6
   have i4:=e4.ext hx6
   go_wp2_with fail
   refine leaves_cons (f:=113) (args := #[.pointer (some ⟨a,0,none⟩),.pointer (some ⟨a+1,0,none⟩),.pointer (some ⟨a+1+1,0,none⟩)]) (by simp) (by simp[go_sem]) ?_
   refine (catch_stop a (a+1) (a+1+1) _ _ _ at_ why w6 i2 i3 i4).mono ?_
   rintro e u' w8 ⟨rfl,rfl,hc8,b2,b3,b4⟩
   refine⟨_,resP rfl rfl rfl (b2.cell 0) (b3.cell 0) (b4.cell 0),?_⟩
   rw[←hPO.out,hrr]
   exact⟨_,_,rfl,nds_nil _ _,((Chg.ofExt (S:=fun _=>False) (hx3.trans hx6)).trans hc8 (fun i hi e=>by have:=ha.out;omega)).toExt (fun _ _ e=>e)⟩
end Pr
namespace Pr
open Go.ChangeShapes Go.WideShapes Go.ChangeAt Go.RowKit
open Base Lx Mi
def shV:Option (List UInt8)→Value
 | some s=>.tuple #[.string ⟨s.toArray⟩,.int .i64 0]
 | none=>.tuple #[.string ⟨#[]⟩,.int .i64 1]
def showLen (ns:List Ne):Nat:=(wtyp ns 20 0 ⟨[],0,false⟩).s.length
set_option maxHeartbeats 2000000 in
theorem shown_any (v:Value) (ns:List Ne) (w:World) (hS:Sch w.heap.size w v ns) (hwd:Wd w) (hpow:Pow w) (hL:showLen ns≤100000000) :
  Calls Tryz.prog 72 #[.agg #[v]] w fun e w'=>e=.returned (shV (showP ns))∧Ext w w':=by
 have h5:=hpow.lt
 obtain⟨A,c,rfl⟩:=hS.slice
 obtain⟨n,hn⟩:∃z,Hid (ns.length=z):=⟨_,rfl⟩
 obtain⟨q,hq⟩:∃z,Hid (w.heap.size=z):=⟨_,rfl⟩
 obtain⟨w1,hw1⟩:∃z,Hid (w.alloc (.cells #[.slice A n c] 24)=z):=⟨_,rfl⟩
 obtain⟨w2,hw2⟩:∃z,Hid (w1.alloc (.cells #[.pointer none,.slice none 0 0,.slice A n c,.int .i64 0,.bool false] 125)=z):=⟨_,rfl⟩
 have hx1:Ext w w1:=by rw[←hw1.out];exact (Ext.refl w).alloc _
 have hs1:w1.heap.size=q+1:=by rw[←hw1.out,←hq.out];simp
 have hb1:Blk w1 q #[.slice A n c] 24:=by rw[←hw1.out,←hq.out];exact Blk.new w _ _
 have hx2:Ext w1 w2:=by rw[←hw2.out];exact (Ext.refl w1).alloc _
 have hb2:Blk w2 (q+1) #[.pointer none,.slice none 0 0,.slice A n c,.int .i64 0,.bool false] 125:=by rw[←hw2.out,←hs1];exact Blk.new w1 _ _
 have hbq2:=hb1.ext hx2
 have hI:WInv q w2 (q+1) (.slice A n c) ⟨[],0,false⟩:=⟨⟨none,.slice none 0 0,.inl rfl,hb2,World.ownsRow_nil _ _ _ _⟩,by omega⟩
 have hxw2:=hx1.trans hx2
 rw[hq.out] at hS h5
 rw[hn.out] at hS
 have hbe2:Below q w w2:=by rw[←hq.out];exact hxw2
 have hE:En q w2 (.slice A n c) ns:=⟨hS.below hbe2,hwd.ext hxw2,hpow.ext hxw2,h5⟩
 have hT:=wtyped_all 20 0 rfl 0 ⟨[],0,false⟩ w2 hI hE hL
 rw[show ((0:Nat):Int)=0 from rfl] at hT
 obtain⟨st,hst⟩:∃z,Hid (wtyp ns 20 0 ⟨[],0,false⟩=z):=⟨_,Lib.hid rfl⟩
 have hne:=show_ne ns
 have hsh:showP ns=if st.bad=true∨st.next≠ns.length then none else if (parseP ⟨st.s.toArray⟩).2.2≠0∨(parseP ⟨st.s.toArray⟩).1.map Nd.toE≠ns then none else some st.s:=by rw[←hst.out];rfl
 rw[hst.out] at hT hne
 have hL : st.s.length ≤ 100000000 := by have : showLen ns = st.s.length := by rw [← hst.out]; rfl
                                         omega
 replace hne:=Lib.hid hne
 obtain⟨o,ho⟩:∃z,Hid (showP ns=z):=⟨_,Lib.hid rfl⟩
 rw[ho.out] at hsh ⊢
 replace hsh:=Lib.hid hsh
 obtain⟨PO,hPO⟩:∃PO:Ending→World→Prop,Hid ((fun e w'=>e=.returned (shV o)∧Ext w w')=PO):=⟨_,Lib.hid rfl⟩
 rw[hPO.out,hn.out]
 clear hb2
 go_enter Tryz.func72,Tryz.ntmps72
 go_wp2_with fail
 rw[hw1.out,hq.out,hw2.out]
 refine hT.mono ?_
 rintro e w3 ⟨rfl,hk3,h3⟩
 have hx3:Ext w w3:=Below.trans (B:=w.heap.size) hxw2 (by rw[hq.out];exact hk3.below)
 have hbq3:=hk3.keep q _ _ hbq2 (by decide) (by decide)
 obtain⟨c2,c3,c4,f3,f4⟩:=h3.cells
 have e1:∀W,Ext w3 W→W.cell? ⟨q,0,none⟩=some (.slice A n c):=fun W hW=>(hbq3.ext hW).cell 0
 obtain⟨nx,hnx⟩:∃z,Hid (st.next=z):=⟨_,rfl⟩
 have e3:∀W,Ext w3 W→W.cell? ⟨q+1,3,none⟩=some (.int .i64 (nx:Int)):=fun W hW=>by rw[←hnx.out];exact hW.cell c3
 by_cases hbad:st.bad=true
 ·have ho0:o=none:=by rw[hsh.out,if_pos (.inl hbad)]
  have e4:∀W,Ext w3 W→W.cell? ⟨q+1,4,none⟩=some (.bool true):=fun W hW=>by rw[←hbad];exact hW.cell c4
  clear c2 c3 c4 f3 f4 hbad
  go_wp2_with fail
  refine Reg.startE (by kernel_rfl) ?_
  iterate 14 ((first|refine Reg.tn ?_|refine Reg.sn ?_);(try simp only[Reg.nn]))
  refine Reg.fin (by kernel_rfl) (fun W hW=>?_)
  go_wp2_with fail
  rw[←hPO.out,ho0]
  exact⟨rfl,hx3.trans hW⟩
 ·have hbad':st.bad=false:=by simpa using hbad
  have e4:∀W,Ext w3 W→W.cell? ⟨q+1,4,none⟩=some (.bool false):=fun W hW=>by rw[←hbad'];exact hW.cell c4
  have hsne:=hne.out hbad'
  clear c2 c3 c4 f3 f4 hne
  by_cases hnn:nx=n
  ·have hnb:((nx:Int) != (n:Int))=false:=by simp[hnn]
   have hstr:=fun W (hW:Ext w3 W)=>wstring_any (h3.ext hW) hL hsne
   obtain⟨r,hr⟩:∃z,Hid (parseP ⟨st.s.toArray⟩=z):=⟨_,Lib.hid rfl⟩
   have hsz:(⟨st.s.toArray⟩:ByteArray).size=st.s.length:=by simp[ByteArray.size]
   have hpar:=fun W (hW:Ext w W)=>parsed_any ⟨st.s.toArray⟩ (by rw[hsz];omega) W (hwd.ext hW) (by have:=hW.size;have:=hq.out;omega)
   have hres:o=if r.2.2≠0∨r.1.map Nd.toE≠ns then none else some st.s:=by
    rw[hsh.out,if_neg (by rintro (e|e);exact hbad e;exact e (by rw[hnx.out,hnn,hn.out])),hr.out]
   rw[hr.out] at hpar
   have hrg:∀d∈r.1,-9223372036854775808≤d.size∧d.size≤9223372036854775807:=by rw[←hr.out];exact parse_rng _
   obtain⟨S,hS'⟩:∃S:ByteArray,S=⟨st.s.toArray⟩:=⟨_,rfl⟩
   rw[←hS'] at hpar hstr
   replace hS':=Lib.hid hS'
   clear hsz
   have Hres:=Lib.hid hres
   clear hres hsh
   go_wp2_with fail
   refine Reg.startE (by kernel_rfl) ?_
   iterate 14 ((first|refine Reg.tn ?_|refine Reg.sn ?_);(try simp only[Reg.nn]))
   refine Reg.fin (by kernel_rfl) (fun W hW=>?_)
   have hstr:=hstr W hW
   clear e1 e3 e4
   have hxW:=hx3.trans hW
   go_wp2_with fail
   refine hstr.mono ?_
   rintro e w4 ⟨rfl,hb4⟩
   have hx4:Ext w w4:=Below.trans (B:=w.heap.size) hxW (by rw[hq.out];exact hb4.below)
   have hp:=hpar w4 hx4
   clear hpar hstr
   go_wp2_with fail
   go_fit hp
   rintro e w5 ⟨v5,vs5,rfl,hnd,hx5⟩
   obtain⟨A5,c5,rfl,jj1,jj2,jj3,jj4⟩:=Rd.of_own hnd.row
   clear jj1 jj2 jj3 jj4 hp
   obtain⟨n5,hn5⟩:∃z,Hid (r.1.length=z):=⟨_,Lib.hid rfl⟩
   rw[hn5.out] at hnd ⊢
   obtain⟨w6,hw6⟩:∃z,Hid (w5.alloc (.cells #[.slice A5 n5 c5] 24)=z):=⟨_,rfl⟩
   have hx6:Ext w5 w6:=by rw[←hw6.out];exact (Ext.refl w5).alloc _
   obtain⟨q6,hq6⟩:∃z,Hid (w5.heap.size=z):=⟨_,rfl⟩
   have hb6:Blk w6 q6 #[.slice A5 n5 c5] 24:=by rw[←hw6.out,←hq6.out];exact Blk.new w5 _ _
   have hbq6:w6.cell? ⟨q,0,none⟩=some (.slice A n c):=(((hb4.keep q _ _ (hbq3.ext hW) (by decide) (by decide)).ext hx5).ext hx6).cell 0
   have hc6:w6.cell? ⟨q6,0,none⟩=some (.slice A5 n5 c5):=hb6.cell 0
   rw[←hw6.out] at hbq6
   have hx06:Ext w w6:=(hx4.trans hx5).trans hx6
   have hSo:Sch w5.heap.size w6 (.slice A n c) ns:=(hS.below (by rw[←hq.out];exact hx06)).mono (by have:=(hx4.trans hx5).size;have:=hq.out;omega)
   have hSp:Sch w5.heap.size w6 (.slice A5 n5 c5) (r.1.map Nd.toE):=(Sch.ofNds hnd (Nat.le_refl _) hrg).below hx6
   have hcmp:=equalF_any (w:=w6) hSp hSo hx6.size
   by_cases her:r.2.2=0
   ·have hrb:(r.2.2 != 0)=false:=by simpa using her
    by_cases hqq:r.1.map Nd.toE=ns
    ·have ho0:o=some st.s:=by rw[Hres.out,if_neg (by rintro (e|e);exact e her;exact e hqq)]
     rw[show decide (r.1.map Nd.toE=ns)=true by simpa using hqq] at hcmp
     clear hSo hSp hqq
     go_wp2_with fail
     rw[hw6.out]
     refine hcmp.mono ?_
     rintro e w7 ⟨rfl,hx7⟩
     go_wp2_with fail
     rw[←hPO.out,ho0,hS'.out]
     exact⟨rfl,hx06.trans hx7⟩
    ·have ho0:o=none:=by rw[Hres.out,if_pos (.inr hqq)]
     rw[show decide (r.1.map Nd.toE=ns)=false by simpa using hqq] at hcmp
     clear hSo hSp hqq
     go_wp2_with fail
     rw[hw6.out]
     refine hcmp.mono ?_
     rintro e w7 ⟨rfl,hx7⟩
     go_wp2_with fail
     rw[←hPO.out,ho0]
     exact⟨rfl,hx06.trans hx7⟩
   ·have hrb:(r.2.2 != 0)=true:=by simpa using her
    have ho0:o=none:=by rw[Hres.out,if_pos (.inl her)]
    clear hcmp hSo hSp
    go_wp2_with fail
    rw[hw6.out]
    rw[←hPO.out,ho0]
    exact⟨rfl,hx06⟩
  ·have hnb:((nx:Int) != (n:Int))=true:=by simpa using (by omega:¬(nx:Int)=(n:Int))
   have ho0:o=none:=by rw[hsh.out,if_pos (.inr (by rw[hnx.out,hn.out];exact hnn))]
   go_wp2_with fail
   refine Reg.startE (by kernel_rfl) ?_
   iterate 14 ((first|refine Reg.tn ?_|refine Reg.sn ?_);(try simp only[Reg.nn]))
   refine Reg.fin (by kernel_rfl) (fun W hW=>?_)
   go_wp2_with fail
   rw[←hPO.out,ho0]
   exact⟨rfl,hx3.trans hW⟩
theorem show_any (v:Value) (ns:List Ne) (w:World) (hS:Sch w.heap.size w v ns) (hwd:Wd w) (hpow:Pow w) (hL:showLen ns≤100000000) :
  Calls Tryz.prog 48 #[.agg #[v]] w fun e w'=>e=.returned (shV (showP ns))∧Ext w w':=by
 obtain⟨w1,hw1⟩:∃z,Hid (w.alloc (.cells #[v] 24)=z):=⟨_,rfl⟩
 have hx1:Ext w w1:=by rw[←hw1.out];exact (Ext.refl w).alloc _
 have hc:=shown_any v ns w1 ((hS.below hx1).mono hx1.size) (hwd.ext hx1) (hpow.ext hx1) hL
 obtain⟨o,ho⟩:∃z,Hid (showP ns=z):=⟨_,Lib.hid rfl⟩
 rw[ho.out] at hc ⊢
 obtain⟨A,c,rfl⟩:=hS.slice
 go_enter Tryz.func48,Tryz.ntmps48
 go_wp2_with fail
 rw[hw1.out]
 refine hc.mono ?_
 rintro e w2 ⟨rfl,hx2⟩
 cases o with
 | none=>
  rw[show shV none=Value.tuple #[.string ⟨#[]⟩,.int .i64 1] from rfl]
  go_wp2_with fail
  go_ret2
  exact⟨rfl,hx1.trans hx2⟩
 | some s=>
  rw[show shV (some s)=Value.tuple #[.string ⟨s.toArray⟩,.int .i64 0] from rfl]
  go_wp2_with fail
  go_ret2
  exact⟨rfl,hx1.trans hx2⟩
theorem rtexts_any {B:Nat} {w:World} {v1 v2:Value} {l1 l2:List ByteArray} (h1:Sl B w v1 l1.length (txs l1)) (h2:Sl B w v2 l2.length (txs l2)) (hB:B≤w.heap.size) :
  Calls Tryz.prog 92 #[v1,v2] w fun e w'=>e=.returned (.bool (decide (l1=l2)))∧Ext w w':=by
 obtain⟨R,hR⟩:∃R,Hid (decide (l1=l2)=R):=⟨_,rfl⟩
 rw[hR.out]
 obtain⟨A1,c1,rfl,hn1,hm1,_,hat1⟩:=h1.at_
 obtain⟨A2,c2,rfl,hn2,hm2,_,hat2⟩:=h2.at_
 unfold maxLen at hm1 hm2
 obtain⟨n,hn⟩:∃z,Hid (l1.length=z):=⟨_,rfl⟩
 obtain⟨n2,hn2'⟩:∃z,Hid (l2.length=z):=⟨_,rfl⟩
 rw[hn.out] at hn1 ⊢
 rw[hn2'.out] at hn2 ⊢
 by_cases hl:n=n2
 ·subst hl
  have hnb:((n:Int) != (n:Int))=false:=by simp
  go_enter Tryz.func92,Tryz.ntmps92
  go_wp2_with fail
  go_loopw [5,11,12,13,14,15,16,17,18,19,20,21,22,23,24,25] (fun v5 v11 v12 v13 v14 v15 v16 v17 v18 v19 v20 v21 v22 v23 v24 v25 wr=>∃i:Nat,i≤n∧v5=.int .i64 i∧EqAt l1 l2 i∧Ext w wr) (fun v5 _ _ _ _ _ _ _ _ _ _ _ _ _ _ _ _=>n-(intOf v5).toNat)
  case atStart=>exact⟨0,by omega,rfl,fun j hj=>by omega,Ext.refl w⟩
  case round=>
   obtain⟨i,hi,rfl,heq,hx⟩:=hrel
   by_cases hin:i<n
   ·have hin':(i:Int)<(n:Int):=by omega
    obtain⟨x,hx1⟩:∃x,l1[i]?=some x:=⟨_,List.getElem?_eq_getElem (by have:=hn.out;omega)⟩
    obtain⟨y,hx2⟩:∃x,l2[i]?=some x:=⟨_,List.getElem?_eq_getElem (by have:=hn2'.out;omega)⟩
    have hz1:(txs l1)[i]?=some (.string x):=by unfold txs;rw[List.getElem?_map,hx1];rfl
    have hz2:(txs l2)[i]?=some (.string y):=by unfold txs;rw[List.getElem?_map,hx2];rfl
    obtain⟨b1,o1,rfl,hb1,hc1⟩:=hat1 i _ hz1
    obtain⟨b2,o2,rfl,hb2,hc2⟩:=hat2 i _ hz2
    have d1:∀W,Ext wr W→W.cell? ⟨b1,o1+i,none⟩=some (.string x):=fun W hW=>hc1 W (Below.mono (hx.trans hW) hB) i _ hz1
    have d2:∀W,Ext wr W→W.cell? ⟨b2,o2+i,none⟩=some (.string y):=fun W hW=>hc2 W (Below.mono (hx.trans hW) hB) i _ hz2
    clear hz1 hz2 hc1 hc2
    by_cases he:x=y
    ·subst he
     have hE:=heq.next hx1 hx2
     clear hx1 hx2
     have hbq:(x.toList != x.toList)=false:=by simp
     go_wp2_with fail
     refine Reg.startE (by kernel_rfl) ?_
     iterate 9 ((first|refine Reg.tn ?_|refine Reg.sn ?_);(try simp only[Reg.nn]))
     refine Reg.fin (by kernel_rfl) (fun W hW=>?_)
     go_wp2_with fail
     go_roundw
     case rel=>exact⟨i+1,by omega,by go_num,hE,hx.trans hW⟩
     case measure=>simp[intOf];omega
    ·have hne:=ne_at hx1 hx2 he
     have hRf:R=false:=by rw[←hR.out];simpa using hne
     have hbq:=str_ne he
     have hbq2:(x.toList != y.toList)=true:=by simpa [bne] using hbq
     subst hRf
     clear hx1 hx2 hne
     go_wp2_with fail
     refine Reg.startE (by kernel_rfl) ?_
     iterate 9 ((first|refine Reg.tn ?_|refine Reg.sn ?_);(try simp only[Reg.nn]))
     refine Reg.fin (by kernel_rfl) (fun W hW=>?_)
     go_wp2_with fail
     go_ret
     exact⟨rfl,hx.trans hW⟩
   ·obtain rfl:i=n:=by omega
    have hRt:R=true:=by rw[←hR.out];simpa using EqAt.all (by rw[hn.out,hn2'.out]) (by rw[hn.out];exact heq)
    subst hRt
    go_wp2_with fail
    go_ret
    exact⟨rfl,hx⟩
 ·have hRf:R=false:=by rw[←hR.out];simpa using ne_len (by rw[hn.out,hn2'.out];exact hl)
  have hnb:((n:Int) != (n2:Int))=true:=by simpa using (by omega:¬(n:Int)=(n2:Int))
  subst hRf
  go_enter Tryz.func92,Tryz.ntmps92
  go_wp2_with fail
  go_ret
  exact⟨rfl,Ext.refl w⟩
theorem rints_any {B:Nat} {w:World} {v1 v2:Value} {l1 l2:List Int} (h1:Sl B w v1 l1.length (intsZ l1)) (h2:Sl B w v2 l2.length (intsZ l2)) (hB:B≤w.heap.size) :
  Calls Tryz.prog 93 #[v1,v2] w fun e w'=>e=.returned (.bool (decide (l1=l2)))∧Ext w w':=by
 obtain⟨R,hR⟩:∃R,Hid (decide (l1=l2)=R):=⟨_,rfl⟩
 rw[hR.out]
 obtain⟨A1,c1,rfl,hn1,hm1,_,hat1⟩:=h1.at_
 obtain⟨A2,c2,rfl,hn2,hm2,_,hat2⟩:=h2.at_
 unfold maxLen at hm1 hm2
 obtain⟨n,hn⟩:∃z,Hid (l1.length=z):=⟨_,rfl⟩
 obtain⟨n2,hn2'⟩:∃z,Hid (l2.length=z):=⟨_,rfl⟩
 rw[hn.out] at hn1 ⊢
 rw[hn2'.out] at hn2 ⊢
 by_cases hl:n=n2
 ·subst hl
  have hnb:((n:Int) != (n:Int))=false:=by simp
  go_enter Tryz.func93,Tryz.ntmps93
  go_wp2_with fail
  go_loopw [5,11,12,13,14,15,16,17,18,19,20,21,22,23,24,25] (fun v5 v11 v12 v13 v14 v15 v16 v17 v18 v19 v20 v21 v22 v23 v24 v25 wr=>∃i:Nat,i≤n∧v5=.int .i64 i∧EqAt l1 l2 i∧Ext w wr) (fun v5 _ _ _ _ _ _ _ _ _ _ _ _ _ _ _ _=>n-(intOf v5).toNat)
  case atStart=>exact⟨0,by omega,rfl,fun j hj=>by omega,Ext.refl w⟩
  case round=>
   obtain⟨i,hi,rfl,heq,hx⟩:=hrel
   by_cases hin:i<n
   ·have hin':(i:Int)<(n:Int):=by omega
    obtain⟨x,hx1⟩:∃x,l1[i]?=some x:=⟨_,List.getElem?_eq_getElem (by have:=hn.out;omega)⟩
    obtain⟨y,hx2⟩:∃x,l2[i]?=some x:=⟨_,List.getElem?_eq_getElem (by have:=hn2'.out;omega)⟩
    have hz1:(intsZ l1)[i]?=some (.int .i64 x):=by unfold intsZ;rw[List.getElem?_map,hx1];rfl
    have hz2:(intsZ l2)[i]?=some (.int .i64 y):=by unfold intsZ;rw[List.getElem?_map,hx2];rfl
    obtain⟨b1,o1,rfl,hb1,hc1⟩:=hat1 i _ hz1
    obtain⟨b2,o2,rfl,hb2,hc2⟩:=hat2 i _ hz2
    have d1:∀W,Ext wr W→W.cell? ⟨b1,o1+i,none⟩=some (.int .i64 x):=fun W hW=>hc1 W (Below.mono (hx.trans hW) hB) i _ hz1
    have d2:∀W,Ext wr W→W.cell? ⟨b2,o2+i,none⟩=some (.int .i64 y):=fun W hW=>hc2 W (Below.mono (hx.trans hW) hB) i _ hz2
    clear hz1 hz2 hc1 hc2
    by_cases he:x=y
    ·subst he
     have hE:=heq.next hx1 hx2
     clear hx1 hx2
     have hbq:(x != x)=false:=by simp
     go_wp2_with fail
     refine Reg.startE (by kernel_rfl) ?_
     iterate 9 ((first|refine Reg.tn ?_|refine Reg.sn ?_);(try simp only[Reg.nn]))
     refine Reg.fin (by kernel_rfl) (fun W hW=>?_)
     go_wp2_with fail
     go_roundw
     case rel=>exact⟨i+1,by omega,by go_num,hE,hx.trans hW⟩
     case measure=>simp[intOf];omega
    ·have hne:=ne_at hx1 hx2 he
     have hRf:R=false:=by rw[←hR.out];simpa using hne
     have hbq2:(x != y)=true:=by simpa using he
     subst hRf
     clear hx1 hx2 hne
     go_wp2_with fail
     refine Reg.startE (by kernel_rfl) ?_
     iterate 9 ((first|refine Reg.tn ?_|refine Reg.sn ?_);(try simp only[Reg.nn]))
     refine Reg.fin (by kernel_rfl) (fun W hW=>?_)
     go_wp2_with fail
     go_ret
     exact⟨rfl,hx.trans hW⟩
   ·obtain rfl:i=n:=by omega
    have hRt:R=true:=by rw[←hR.out];simpa using EqAt.all (by rw[hn.out,hn2'.out]) (by rw[hn.out];exact heq)
    subst hRt
    go_wp2_with fail
    go_ret
    exact⟨rfl,hx⟩
 ·have hRf:R=false:=by rw[←hR.out];simpa using ne_len (by rw[hn.out,hn2'.out];exact hl)
  have hnb:((n:Int) != (n2:Int))=true:=by simpa using (by omega:¬(n:Int)=(n2:Int))
  subst hRf
  go_enter Tryz.func93,Tryz.ntmps93
  go_wp2_with fail
  go_ret
  exact⟨rfl,Ext.refl w⟩
theorem rnode_any {B:Nat} {w:World} {d1 d2:Ne} {v1 v2:V3} (h1:SubE B w d1 v1) (h2:SubE B w d2 v2) (hB:B≤w.heap.size) :
  Calls Tryz.prog 71 #[.agg (neC d1 v1).toArray,.agg (neC d2 v2).toArray] w fun e w'=>e=.returned (.bool (decide (d1=d2)))∧Ext w w':=by
 obtain⟨k1,m1,z1,s1,i1,f1⟩:=d1
 obtain⟨k2,m2,z2,s2,i2,f2⟩:=d2
 obtain⟨a1,b1,c1⟩:=v1
 obtain⟨a2,b2,c2⟩:=v2
 have hs1:Sl B w a1 s1.length (txs s1):=h1.syms
 have hi1:Sl B w b1 i1.length (intsZ i1):=h1.items
 have hf1:Sl B w c1 f1.length (fldsZ f1):=h1.fields
 have hs2:Sl B w a2 s2.length (txs s2):=h2.syms
 have hi2:Sl B w b2 i2.length (intsZ i2):=h2.items
 have hf2:Sl B w c2 f2.length (fldsZ f2):=h2.fields
 clear h1 h2
 obtain⟨F1,cc1,rfl,hn1,hm1,_,hat1⟩:=hf1.at_
 obtain⟨F2,cc2,rfl,hn2,hm2,_,hat2⟩:=hf2.at_
 unfold maxLen at hm1 hm2
 simp only[neC]
 obtain⟨n,hn⟩:∃z,Hid (f1.length=z):=⟨_,Lib.hid rfl⟩
 obtain⟨n2,hn2'⟩:∃z,Hid (f2.length=z):=⟨_,Lib.hid rfl⟩
 rw[hn.out] at hn1 ⊢
 rw[hn2'.out] at hn2 ⊢
 obtain⟨w1,hw1⟩:∃z,Hid ((w.alloc (.cells #[.int .i64 k1,.string m1,.int .i64 z1,a1,b1,.slice F1 n cc1] 47)).alloc (.cells #[.int .i64 k2,.string m2,.int .i64 z2,a2,b2,.slice F2 n2 cc2] 47)=z):=⟨_,rfl⟩
 have hx1:Ext w w1:=by rw[←hw1.out];exact ((Ext.refl w).alloc _).alloc _
 obtain⟨q,hq⟩:∃z,Hid (w.heap.size=z):=⟨_,rfl⟩
 have hbA:Blk w1 q #[.int .i64 k1,.string m1,.int .i64 z1,a1,b1,.slice F1 n cc1] 47:=by rw[←hw1.out,←hq.out];exact (Blk.new w _ _).alloc _
 have hbB:Blk w1 (q+1) #[.int .i64 k2,.string m2,.int .i64 z2,a2,b2,.slice F2 n2 cc2] 47:=by
  rw[←hw1.out,←hq.out]
  have:=Blk.new (w.alloc (.cells #[.int .i64 k1,.string m1,.int .i64 z1,a1,b1,.slice F1 n cc1] 47)) #[.int .i64 k2,.string m2,.int .i64 z2,a2,b2,.slice F2 n2 cc2] 47
  simpa using this
 have pA:∀W,Ext w1 W→W.cell? ⟨q,5,none⟩=some (.slice F1 n cc1):=fun W hW=>(hbA.ext hW).cell 5
 have pB:∀W,Ext w1 W→W.cell? ⟨q+1,5,none⟩=some (.slice F2 n2 cc2):=fun W hW=>(hbB.ext hW).cell 5
 have hcs:=fun W (hW:Ext w W)=>rtexts_any (hs1.below (Below.mono hW hB)) (hs2.below (Below.mono hW hB)) (Nat.le_trans hB hW.size)
 have hci:=fun W (hW:Ext w W)=>rints_any (hi1.below (Below.mono hW hB)) (hi2.below (Below.mono hW hB)) (Nat.le_trans hB hW.size)
 obtain⟨R,hR⟩:∃R,Hid (decide ((⟨k1,m1,z1,s1,i1,f1⟩:Ne)=⟨k2,m2,z2,s2,i2,f2⟩)=R):=⟨_,Lib.hid rfl⟩
 rw[hR.out]
 by_cases e1:¬(k1=k2)
 ·have hR0:R=false:=by rw[←hR.out];simp[e1]
  have hb:(k1 == k2)=false:=by simpa using e1
  have hb':(k1 != k2)=true:=by simpa using e1
  subst hR0
  clear pA pB hcs hci
  go_enter Tryz.func71,Tryz.ntmps71
  go_wp2_with fail
  rw[hw1.out]
  go_ret
  exact⟨rfl,hx1⟩
 have e1:k1=k2:=Classical.not_not.1 e1
 subst e1
 have hbk:(k1 != k1)=false:=by simp
 by_cases e2:¬(m1=m2)
 ·have hR0:R=false:=by rw[←hR.out];simp[e2]
  have hb2:=str_ne e2
  have hb2':(m1.toList != m2.toList)=true:=by simpa [bne] using hb2
  subst hR0
  clear pA pB hcs hci
  go_enter Tryz.func71,Tryz.ntmps71
  go_wp2_with fail
  rw[hw1.out]
  go_ret
  exact⟨rfl,hx1⟩
 have e2:m1=m2:=Classical.not_not.1 e2
 subst e2
 have hbm:(m1.toList != m1.toList)=false:=by simp
 by_cases e3:¬(z1=z2)
 ·have hR0:R=false:=by rw[←hR.out];simp[e3]
  have hb3:(z1 == z2)=false:=by simpa using e3
  have hb3':(z1 != z2)=true:=by simpa using e3
  subst hR0
  clear pA pB hcs hci
  go_enter Tryz.func71,Tryz.ntmps71
  go_wp2_with fail
  rw[hw1.out]
  go_ret
  exact⟨rfl,hx1⟩
 have e3:z1=z2:=Classical.not_not.1 e3
 subst e3
 have hbz:(z1 != z1)=false:=by simp
 by_cases e4:¬(n=n2)
 ·have hR0:R=false:=by
   rw[←hR.out]
   have:f1≠f2:=ne_len (by rw[hn.out,hn2'.out];exact e4)
   simp[this]
  have hnb:((n:Int) != (n2:Int))=true:=by simpa using (by omega:¬(n:Int)=(n2:Int))
  subst hR0
  clear pA pB hcs hci
  go_enter Tryz.func71,Tryz.ntmps71
  go_wp2_with fail
  rw[hw1.out]
  go_ret
  exact⟨rfl,hx1⟩
 have e4:n=n2:=Classical.not_not.1 e4
 subst e4
 have hnb:((n:Int) != (n:Int))=false:=by simp
 go_enter Tryz.func71,Tryz.ntmps71
 go_wp2_with fail
 rw[hw1.out,hq.out]
 replace hcs:=Lib.hid hcs
 replace hci:=Lib.hid hci
 go_loopw [5,34,35,36,37,38,39,40,41,42,43,44,45,46,47,48,49,50,51] (fun v5 v34 v35 v36 v37 v38 v39 v40 v41 v42 v43 v44 v45 v46 v47 v48 v49 v50 v51 wr=>∃i:Nat,i≤n∧v5=.int .i64 i∧EqAt f1 f2 i∧Ext w1 wr) (fun v5 _ _ _ _ _ _ _ _ _ _ _ _ _ _ _ _ _ _ _=>n-(intOf v5).toNat)
 case atStart=>exact⟨0,by omega,rfl,fun j hj=>by omega,Ext.refl w1⟩
 case round=>
  obtain⟨i,hi,rfl,heq,hx⟩:=hrel
  have pAr:=pA wr hx
  have pBr:=pB wr hx
  by_cases hin:i<n
  ·have hin':(i:Int)<(n:Int):=by omega
   obtain⟨x,hx1'⟩:∃x,f1[i]?=some x:=⟨_,List.getElem?_eq_getElem (by have:=hn.out;omega)⟩
   obtain⟨y,hx2⟩:∃x,f2[i]?=some x:=⟨_,List.getElem?_eq_getElem (by have:=hn2'.out;omega)⟩
   have hz1:=fldsZ_at f1 i _ hx1'
   have hz2:=fldsZ_at f2 i _ hx2
   obtain⟨xn,xh,xt⟩:=x
   obtain⟨yn,yh,yt⟩:=y
   obtain⟨b1',o1,rfl,hb1,hc1⟩:=hat1 (i*3+0) (.string xn) (by rw[hz1 0 (by omega)];rfl)
   obtain⟨b2',o2,rfl,hb2,hc2⟩:=hat2 (i*3+0) (.string yn) (by rw[hz2 0 (by omega)];rfl)
   have d10:∀W,Ext wr W→W.cell? ⟨b1',o1+i*3,none⟩=some (.string xn):=fun W hW=>by have:=hc1 W (Below.mono ((hx1.trans hx).trans hW) hB) (i*3+0) _ (by rw[hz1 0 (by omega)];rfl);simpa [Nat.add_assoc] using this
   have d11:∀W,Ext wr W→W.cell? ⟨b1',o1+i*3+1,none⟩=some (.bool xh):=fun W hW=>by have:=hc1 W (Below.mono ((hx1.trans hx).trans hW) hB) (i*3+1) _ (by rw[hz1 1 (by omega)];rfl);simpa [Nat.add_assoc] using this
   have d12:∀W,Ext wr W→W.cell? ⟨b1',o1+i*3+2,none⟩=some (.int .i64 xt):=fun W hW=>by have:=hc1 W (Below.mono ((hx1.trans hx).trans hW) hB) (i*3+2) _ (by rw[hz1 2 (by omega)];rfl);simpa [Nat.add_assoc] using this
   have d20:∀W,Ext wr W→W.cell? ⟨b2',o2+i*3,none⟩=some (.string yn):=fun W hW=>by have:=hc2 W (Below.mono ((hx1.trans hx).trans hW) hB) (i*3+0) _ (by rw[hz2 0 (by omega)];rfl);simpa [Nat.add_assoc] using this
   have d21:∀W,Ext wr W→W.cell? ⟨b2',o2+i*3+1,none⟩=some (.bool yh):=fun W hW=>by have:=hc2 W (Below.mono ((hx1.trans hx).trans hW) hB) (i*3+1) _ (by rw[hz2 1 (by omega)];rfl);simpa [Nat.add_assoc] using this
   have d22:∀W,Ext wr W→W.cell? ⟨b2',o2+i*3+2,none⟩=some (.int .i64 yt):=fun W hW=>by have:=hc2 W (Below.mono ((hx1.trans hx).trans hW) hB) (i*3+2) _ (by rw[hz2 2 (by omega)];rfl);simpa [Nat.add_assoc] using this
   have pA':∀W,Ext wr W→W.cell? ⟨q,5,none⟩=some (.slice (some ⟨b1',o1,none⟩) n cc1):=fun W hW=>pA W (hx.trans hW)
   have pB':∀W,Ext wr W→W.cell? ⟨q+1,5,none⟩=some (.slice (some ⟨b2',o2,none⟩) n cc2):=fun W hW=>pB W (hx.trans hW)
   have hcmp:=fun W=>neq_fld xn yn xh yh xt yt W
   clear hz1 hz2 hc1 hc2
   by_cases he:(xn,xh,xt)=(yn,yh,yt)
   ·have hd:decide ((xn,xh,xt)=(yn,yh,yt))=true:=by simpa using he
    rw[hd] at hcmp
    rw[←he] at hx2
    have hE:=heq.next hx1' hx2
    clear hx1' hx2
    go_wp2_with fail
    clear pA pB
    refine Reg.startE (by kernel_rfl) ?_
    iterate 11 ((first|refine Reg.tn ?_|refine Reg.sn ?_);(try simp only[Reg.nn]))
    refine Reg.fin (by kernel_rfl) (fun W hW=>?_)
    go_wp2_with fail
    go_roundw
    case rel=>exact⟨i+1,by omega,by go_num,hE,hx.trans hW⟩
    case measure=>simp[intOf];omega
   ·have hne:=ne_at hx1' hx2 he
    have hRf:R=false:=by rw[←hR.out];simp[hne]
    have hd:decide ((xn,xh,xt)=(yn,yh,yt))=false:=by simpa using he
    rw[hd] at hcmp
    subst hRf
    clear hx1' hx2 hne
    go_wp2_with fail
    clear pA pB
    refine Reg.startE (by kernel_rfl) ?_
    iterate 11 ((first|refine Reg.tn ?_|refine Reg.sn ?_);(try simp only[Reg.nn]))
    refine Reg.fin (by kernel_rfl) (fun W hW=>?_)
    go_wp2_with fail
    go_ret
    exact⟨rfl,(hx1.trans hx).trans hW⟩
  ·obtain rfl:i=n:=by omega
   have hff:f1=f2:=EqAt.all (by rw[hn.out,hn2'.out]) (by rw[hn.out];exact heq)
   have hRb:R=(decide (s1=s2) && decide (i1=i2)):=by rw[←hR.out];simp[hff]
   have p3:wr.cell? ⟨q,3,none⟩=some a1:=(hbA.ext hx).cell 3
   have p3':wr.cell? ⟨q+1,3,none⟩=some a2:=(hbB.ext hx).cell 3
   have hcs1:=hcs.out wr (hx1.trans hx)
   clear pA pB
   by_cases e5:s1=s2
   ·have hci1:=hci.out
    rw[show decide (s1=s2)=true by simpa using e5] at hcs1 hRb
    rw[Bool.true_and] at hRb
    subst hRb
    replace hci1:=Lib.hid hci1
    go_wp2_with fail
    refine hcs1.mono ?_
    rintro e w2 ⟨rfl,hx2⟩
    have p4:w2.cell? ⟨q,4,none⟩=some b1:=((hbA.ext hx).ext hx2).cell 4
    have p4':w2.cell? ⟨q+1,4,none⟩=some b2:=((hbB.ext hx).ext hx2).cell 4
    have hci2:=hci1.out w2 ((hx1.trans hx).trans hx2)
    go_wp2_with fail
    refine hci2.mono ?_
    rintro e w3 ⟨rfl,hx3⟩
    go_wp2_with fail
    go_ret
    exact⟨rfl,((hx1.trans hx).trans hx2).trans hx3⟩
   ·rw[show decide (s1=s2)=false by simpa using e5] at hcs1 hRb
    rw[Bool.false_and] at hRb
    subst hRb
    go_wp2_with fail
    refine hcs1.mono ?_
    rintro e w2 ⟨rfl,hx2⟩
    go_wp2_with fail
    go_ret
    exact⟨rfl,(hx1.trans hx).trans hx2⟩
theorem rsame_any {B:Nat} {w:World} {v1 v2:Value} {l1 l2:List Ne} (h1:Sch B w v1 l1) (h2:Sch B w v2 l2) (hB:B≤w.heap.size) :
  Calls Tryz.prog 46 #[.agg #[v1],.agg #[v2]] w fun e w'=>e=.returned (.bool (decide (l1=l2)))∧Ext w w':=by
 obtain⟨R,hR⟩:∃R,Hid (decide (l1=l2)=R):=⟨_,Lib.hid rfl⟩
 rw[hR.out]
 have hm1:l1.length≤9223372036854775807:=by obtain⟨vs,_,⟨A,c,e,_,_,q1,q2,_⟩,_⟩:=h1;unfold maxLen at q2;omega
 obtain⟨A1,c1,rfl⟩:=h1.slice
 obtain⟨A2,c2,rfl⟩:=h2.slice
 obtain⟨n,hn⟩:∃z,Hid (l1.length=z):=⟨_,rfl⟩
 obtain⟨n2,hn2'⟩:∃z,Hid (l2.length=z):=⟨_,rfl⟩
 rw[hn.out] at hm1 ⊢
 rw[hn2'.out]
 obtain⟨w1,hw1⟩:∃z,Hid ((w.alloc (.cells #[.slice A1 n c1] 24)).alloc (.cells #[.slice A2 n2 c2] 24)=z):=⟨_,rfl⟩
 have hx1:Ext w w1:=by rw[←hw1.out];exact ((Ext.refl w).alloc _).alloc _
 obtain⟨q,hq⟩:∃z,Hid (w.heap.size=z):=⟨_,rfl⟩
 have hbA:Blk w1 q #[.slice A1 n c1] 24:=by rw[←hw1.out,←hq.out];exact (Blk.new w _ _).alloc _
 have hbB:Blk w1 (q+1) #[.slice A2 n2 c2] 24:=by
  rw[←hw1.out,←hq.out]
  have:=Blk.new (w.alloc (.cells #[.slice A1 n c1] 24)) #[.slice A2 n2 c2] 24
  simpa using this
 by_cases hl:n=n2
 ·subst hl
  have hnb:((n:Int) != (n:Int))=false:=by simp
  go_enter Tryz.func46,Tryz.ntmps46
  go_wp2_with fail
  rw[hw1.out,hq.out]
  go_loopw [5,13,14,15,16,17,18,19,20,21,22,23,24,25,26,27,28,29,30,31] (fun v5 v13 v14 v15 v16 v17 v18 v19 v20 v21 v22 v23 v24 v25 v26 v27 v28 v29 v30 v31 wr=>∃i:Nat,i≤n∧v5=.int .i64 i∧EqAt l1 l2 i∧Ext w1 wr) (fun v5 _ _ _ _ _ _ _ _ _ _ _ _ _ _ _ _ _ _ _ _=>n-(intOf v5).toNat)
  case atStart=>exact⟨0,by omega,rfl,fun j hj=>by omega,Ext.refl w1⟩
  case round=>
   obtain⟨i,hi,rfl,heq,hx⟩:=hrel
   have pA:=(hbA.ext hx).cell 0
   by_cases hin:i<n
   ·have hin':(i:Int)<(n:Int):=by omega
    obtain⟨x,hx1'⟩:∃x,l1[i]?=some x:=⟨_,List.getElem?_eq_getElem (by have:=hn.out;omega)⟩
    obtain⟨y,hx2⟩:∃x,l2[i]?=some x:=⟨_,List.getElem?_eq_getElem (by have:=hn2'.out;omega)⟩
    obtain⟨b1,o1,d1,As1,cs1,Ai1,ci1,Af1,cf1,e1,hb1,hs1,hc1⟩:=h1.node2 i x hx1'
    obtain⟨b2,o2,d2,As2,cs2,Ai2,ci2,Af2,cf2,e2,hb2,hs2,hc2⟩:=h2.node2 i y hx2
    injection e1 with e1 _ e1'
    injection e2 with e2 _ e2'
    subst e1;subst e1';subst e2;subst e2'
    have pA':∀W,Ext wr W→W.cell? ⟨q,0,none⟩=some (.slice (some ⟨b1,o1,none⟩) n c1):=fun W hW=>(hbA.ext (hx.trans hW)).cell 0
    have pB':∀W,Ext wr W→W.cell? ⟨q+1,0,none⟩=some (.slice (some ⟨b2,o2,none⟩) n c2):=fun W hW=>(hbB.ext (hx.trans hW)).cell 0
    have c10:∀W,Ext wr W→W.cell? ⟨b1,o1+i*6,none⟩=some (.int .i64 x.k):=fun W hW=>(hc1 W (Below.mono ((hx1.trans hx).trans hW) hB)).1
    have c11:∀W,Ext wr W→W.cell? ⟨b1,o1+i*6+1,none⟩=some (.string x.name):=fun W hW=>(hc1 W (Below.mono ((hx1.trans hx).trans hW) hB)).2.1
    have c12:∀W,Ext wr W→W.cell? ⟨b1,o1+i*6+2,none⟩=some (.int .i64 x.size):=fun W hW=>(hc1 W (Below.mono ((hx1.trans hx).trans hW) hB)).2.2.1
    have c13:∀W,Ext wr W→W.cell? ⟨b1,o1+i*6+3,none⟩=some (.slice As1 x.syms.length cs1):=fun W hW=>(hc1 W (Below.mono ((hx1.trans hx).trans hW) hB)).2.2.2.1
    have c14:∀W,Ext wr W→W.cell? ⟨b1,o1+i*6+4,none⟩=some (.slice Ai1 x.items.length ci1):=fun W hW=>(hc1 W (Below.mono ((hx1.trans hx).trans hW) hB)).2.2.2.2.1
    have c15:∀W,Ext wr W→W.cell? ⟨b1,o1+i*6+5,none⟩=some (.slice Af1 x.fields.length cf1):=fun W hW=>(hc1 W (Below.mono ((hx1.trans hx).trans hW) hB)).2.2.2.2.2
    have c20:∀W,Ext wr W→W.cell? ⟨b2,o2+i*6,none⟩=some (.int .i64 y.k):=fun W hW=>(hc2 W (Below.mono ((hx1.trans hx).trans hW) hB)).1
    have c21:∀W,Ext wr W→W.cell? ⟨b2,o2+i*6+1,none⟩=some (.string y.name):=fun W hW=>(hc2 W (Below.mono ((hx1.trans hx).trans hW) hB)).2.1
    have c22:∀W,Ext wr W→W.cell? ⟨b2,o2+i*6+2,none⟩=some (.int .i64 y.size):=fun W hW=>(hc2 W (Below.mono ((hx1.trans hx).trans hW) hB)).2.2.1
    have c23:∀W,Ext wr W→W.cell? ⟨b2,o2+i*6+3,none⟩=some (.slice As2 y.syms.length cs2):=fun W hW=>(hc2 W (Below.mono ((hx1.trans hx).trans hW) hB)).2.2.2.1
    have c24:∀W,Ext wr W→W.cell? ⟨b2,o2+i*6+4,none⟩=some (.slice Ai2 y.items.length ci2):=fun W hW=>(hc2 W (Below.mono ((hx1.trans hx).trans hW) hB)).2.2.2.2.1
    have c25:∀W,Ext wr W→W.cell? ⟨b2,o2+i*6+5,none⟩=some (.slice Af2 y.fields.length cf2):=fun W hW=>(hc2 W (Below.mono ((hx1.trans hx).trans hW) hB)).2.2.2.2.2
    have hcall:∀W,Ext wr W→_:=fun W hW=>rnode_any (w:=W) (B:=B) (d1:=x) (d2:=y) (v1:=(.slice As1 x.syms.length cs1,.slice Ai1 x.items.length ci1,.slice Af1 x.fields.length cf1)) (v2:=(.slice As2 y.syms.length cs2,.slice Ai2 y.items.length ci2,.slice Af2 y.fields.length cf2)) ⟨hs1.syms.below (Below.mono ((hx1.trans hx).trans hW) hB),hs1.items.below (Below.mono ((hx1.trans hx).trans hW) hB),hs1.fields.below (Below.mono ((hx1.trans hx).trans hW) hB),hs1.rng⟩ ⟨hs2.syms.below (Below.mono ((hx1.trans hx).trans hW) hB),hs2.items.below (Below.mono ((hx1.trans hx).trans hW) hB),hs2.fields.below (Below.mono ((hx1.trans hx).trans hW) hB),hs2.rng⟩ (Nat.le_trans hB ((hx1.trans hx).trans hW).size)
    simp only[neC] at hcall
    by_cases he:x=y
    ·rw[show decide (x=y)=true by simpa using he] at hcall
     replace hcall:=Lib.hid hcall
     rw[←he] at hx2
     have hE:=heq.next hx1' hx2
     clear hx1' hx2 hc1 hc2 hs1 hs2 he
     go_wp2_with fail
     clear pA
     refine Reg.startE (by kernel_rfl) ?_
     iterate 10 ((first|refine Reg.tn ?_|refine Reg.sn ?_);(try simp only[Reg.nn]))
     refine Reg.onlyE 10 _ rfl (by kernel_rfl) (by decide) (by rfl) (fun W hW K hK=>?_);go_simp
     refine (hcall.out _ (by repeat (first|assumption|exact Ext.refl _|refine Ext.trans (by assumption) ?_|apply Ext.drew|apply Ext.drewN|apply Ext.alloc))).mono ?_
     rintro e wX ⟨rfl,hX⟩
     refine hK.out _ _ (hX) ?_;clear hK K;(try simp only[Reg.nn])
     refine Reg.tk 11 ?_;(try simp only[Reg.nn])
     refine Reg.fin (by kernel_rfl) (fun W hW=>?_)
     go_wp2_with fail
     go_roundw
     case rel=>exact⟨i+1,by omega,by go_num,hE,hx.trans (by repeat (first|assumption|exact Ext.refl _|refine Ext.trans (by assumption) ?_|apply Ext.drew|apply Ext.drewN|apply Ext.alloc))⟩
     case measure=>simp[intOf];omega
    ·have hne:=ne_at hx1' hx2 he
     have hRf:R=false:=by rw[←hR.out];simpa using hne
     rw[show decide (x=y)=false by simpa using he] at hcall
     replace hcall:=Lib.hid hcall
     subst hRf
     clear hx1' hx2 hne hc1 hc2 hs1 hs2 he
     go_wp2_with fail
     clear pA
     refine Reg.startE (by kernel_rfl) ?_
     iterate 10 ((first|refine Reg.tn ?_|refine Reg.sn ?_);(try simp only[Reg.nn]))
     refine Reg.onlyE 10 _ rfl (by kernel_rfl) (by decide) (by rfl) (fun W hW K hK=>?_);go_simp
     refine (hcall.out _ (by repeat (first|assumption|exact Ext.refl _|refine Ext.trans (by assumption) ?_|apply Ext.drew|apply Ext.drewN|apply Ext.alloc))).mono ?_
     rintro e wX ⟨rfl,hX⟩
     refine hK.out _ _ (hX) ?_;clear hK K;(try simp only[Reg.nn])
     refine Reg.tk 11 ?_;(try simp only[Reg.nn])
     refine Reg.fin (by kernel_rfl) (fun W hW=>?_)
     go_wp2_with fail
     go_ret
     exact⟨rfl,(hx1.trans hx).trans (by repeat (first|assumption|exact Ext.refl _|refine Ext.trans (by assumption) ?_|apply Ext.drew|apply Ext.drewN|apply Ext.alloc))⟩
   ·obtain rfl:i=n:=by omega
    have hRt:R=true:=by rw[←hR.out];simpa using EqAt.all (by rw[hn.out,hn2'.out]) (by rw[hn.out];exact heq)
    subst hRt
    go_wp2_with fail
    go_ret
    exact⟨rfl,hx1.trans hx⟩
 ·have hRf:R=false:=by rw[←hR.out];simpa using ne_len (by rw[hn.out,hn2'.out];exact hl)
  have hnb:((n:Int) != (n2:Int))=true:=by simpa using (by omega:¬(n:Int)=(n2:Int))
  subst hRf
  go_enter Tryz.func46,Tryz.ntmps46
  go_wp2_with fail
  rw[hw1.out]
  go_ret
  exact⟨rfl,hx1⟩
end Pr
namespace Reg
open Base
def rgn (n:Nat):Code→Option Code
 | .region m o b=>bif Nat.beq m n then some (.region m o b) else none
 | .block m c=>rgn n c
 | .seq a b=>match rgn n a with
  | some c=>some c
  | none=>rgn n b
 | .cond _ a b=>match rgn n a with
  | some c=>some c
  | none=>rgn n b
 | .loop c=>rgn n c
 | .scope c=>rgn n c
 | .rangeFunc _ _ a b=>match rgn n a with
  | some c=>some c
  | none=>rgn n b
 | _=>none
def regionOf (n:Nat) (c:Option Code):Code:=match c with
 | some c=>(rgn n c).getD .skip
 | none=>.skip
section
variable {P:Program} {ops:Array Oper} {Q:Exit→Act→World→Prop}
def frameN (a:Act):List (Nat×Nat)→(Nat→Value)→Act
 | [],f=>a
 | i::l,f=>(frameN a l f).put (some i.2) (f i.1)
def updN (f:Nat→Value) (i:Nat) (x:Value):Nat→Value:=fun j=>if j=i then x else f j
theorem put_put (a:Act) (d:Option Nat) (u v:Value):(a.put d u).put d v=a.put d v:=by
 cases d with
 | none=>rfl
 | some d=>simp[Act.put]
theorem frameN_upd_no (a:Act) (f:Nat→Value) (i:Nat) (x:Value):∀(l:List (Nat×Nat)),(∀p∈l,p.1≠i)→frameN a l (updN f i x)=frameN a l f
 | [],_=>rfl
 | j::l,h=>by
  have hj:=h j (.head _)
  rw[frameN,frameN,frameN_upd_no a f i x l (fun p hp=>h p (.tail _ hp))]
  simp[updN,hj]
theorem frameN_upd (a:Act) (f:Nat→Value) (i d:Nat) (x:Value):∀(l:List (Nat×Nat)),(i,d)∈l→(l.map (·.1)).Nodup→(∀p∈l,p.1≠i→p.2≠d)→frameN a l (updN f i x)=(frameN a l f).put (some d) x
 | [],h,_,_=>by cases h
 | j::l,h,hn,hd=>by
  rw[List.map_cons,List.nodup_cons] at hn
  rw[frameN,frameN]
  by_cases hji:j.1=i
  ·have hj:j=(i,d):=by
    rcases List.mem_cons.1 h with e|e
    ·exact e.symm
    ·exact absurd (List.mem_map.2 ⟨_,e,rfl⟩) (by rw[←hji] at *;exact hn.1)
   subst hj
   rw[frameN_upd_no a f i x l (fun p hp e=>hn.1 (List.mem_map.2 ⟨p,hp,e⟩)),put_put]
   simp[updN]
  ·have hm:(i,d)∈l:=by
    rcases List.mem_cons.1 h with e|e
    ·exact absurd (by rw[←e]) hji
    ·exact e
   rw[frameN_upd a f i d x l hm hn.2 (fun k hk=>hd k (.tail _ hk))]
   rw[put_comm _ (fun e=>hd j (.head _) hji (by injection e with e;exact e.symm))]
   simp[updN,hji]
def okN (ops:Array Oper) (done L:List Nat) (prd:Nat→List Nat):Nat→List Nat→Bool
 | 0,S=>decide (marked ops.size (S++done)=marked ops.size (L++done)) && L.all S.contains
 | n+1,S => !(Region.ready .any ops (marked ops.size (S++done))).isEmpty && (Region.ready .any ops (marked ops.size (S++done))).all fun i=>L.contains i && !S.contains i && (prd i).all S.contains && okN ops done L prd n (i::S)
def distN (ops:Array Oper) (L:List (Nat×Nat)):Bool:=decide (L.map (·.1)).Nodup && (L.all fun i=>(match ops[i.1]? with|some o=>o.guard.isNone && o.dst == some i.2|none=>false) && L.all fun j=>j.1 == i.1 || !(j.2 == i.2))
theorem layN {B:Nat} (L:List (Nat×Nat)) (prd:Nat→List Nat) {done:List Nat} {a:Act} {w:World} (hB:B≤w.heap.size) (hok:okN ops done (L.map (·.1)) prd L.length []=true) (hdist:distN ops L=true) (hn:done.length+L.length≤ops.size)
  (f0:Nat→Value) (hu:frameN a L f0=a) (F:Nat→Value→World→Prop) (stab:∀p∈L,∀v w1 w2,F p.1 v w1→Ext w1 w2→F p.1 v w2)
  (step:∀p∈L,∀oi,ops[p.1]?=some oi→∀f X,Ext w X→(∀j∈prd p.1,F j (f j) X)→∀K:Act→World→Prop,Shut (∀x X2,Ext X X2→F p.1 x X2→K ((frameN a L f).put (some p.2) x) X2)→oi.wp P (frameN a L f) X K Q)
  (h:∀f X,Ext w X→(∀p∈L,F p.1 (f p.1) X)→At P ops Q (Go.RowKit.Below B) (L.map (·.1)++done) (frameN a L f) X):At P ops Q (Go.RowKit.Below B) done a w:=by
 simp only[distN,Bool.and_eq_true,decide_eq_true_eq,List.all_eq_true,Bool.or_eq_true,beq_iff_eq,Bool.not_eq_true'] at hdist
 obtain⟨hnd,hds⟩:=hdist
 have main:∀(n:Nat) (S:List Nat) (f:Nat→Value) (X:World),n+S.length=L.length→okN ops done (L.map (·.1)) prd n S=true→Ext w X→(∀j∈S,∃p∈L,p.1=j)→(∀j∈S,F j (f j) X)→At P ops Q (Go.RowKit.Below B) (S++done) (frameN a L f) X:=by
  intro n
  induction n with
  | zero=>
   intro S f X hl ho hX hSL hF
   simp only[okN,Bool.and_eq_true,decide_eq_true_eq,List.all_eq_true] at ho
   refine At.perm ho.1 (by rw[List.length_append,List.length_append,List.length_map];omega) (h f X hX fun p hp=>hF p.1 (by simpa using ho.2 p.1 (List.mem_map.2 ⟨p,hp,rfl⟩)))
  | succ n ih=>
   intro S f X hl ho hX hSL hF
   simp only[okN,Bool.and_eq_true,List.all_eq_true] at ho
   obtain⟨hne,hall⟩:=ho
   intro hcl
   have e:ops.size-(S++done).length=(ops.size-(S++done).length-1)+1:=by rw[List.length_append];omega
   rw[e]
   refine⟨fun h0=>(by rw[h0] at hne;cases hne),fun i hi=>?_⟩
   obtain⟨⟨⟨hiL,hiS⟩,hpr⟩,hnext⟩:=hall i hi
   have hiL:i∈L.map (·.1):=by simpa using hiL
   have hiS:i∉S:=by simpa using hiS
   obtain⟨p,hpL,rfl⟩:=List.mem_map.1 hiL
   obtain⟨hg,hdd⟩:=hds p hpL
   cases hoi:ops[p.1]? with
   | none=>rw[hoi] at hg;cases hg
   | some oi=>
    rw[hoi] at hg
    simp only[Bool.and_eq_true,beq_iff_eq] at hg
    obtain⟨hg,hdst⟩:=hg
    have hgn:oi.guard=none:=by simpa using hg
    unfold wpOp
    simp only[hoi,show ∀t,Region.wanted oi t=true from fun t=>by simp[Region.wanted,hgn],if_true]
    refine .inl (step p hpL oi hoi f X hX (fun j hj=>hF j (by simpa using hpr j hj)) _ (fun x X2 hx hFx=>⟨.inl (Go.RowKit.Below.mono hx (Nat.le_trans hB hX.size)),?_⟩))
    have:=ih (p.1::S) (updN f p.1 x) X2 (by rw[List.length_cons];omega) hnext (hX.trans hx) (fun j hj=>by
     rcases List.mem_cons.1 hj with rfl|hj
     ·exact⟨p,hpL,rfl⟩
     ·exact hSL j hj) (fun j hj=>by
     rcases List.mem_cons.1 hj with rfl|hj
     ·simpa [updN] using hFx
     ·have hji:¬j=p.1:=fun e=>hiS (e ▸ hj)
      simp only[updN,hji,if_false]
      obtain⟨p',hp',rfl⟩:=hSL j hj
      exact stab p' hp' _ _ _ (hF _ hj) hx)
    rw[frameN_upd a f p.1 p.2 x L hpL hnd (fun j hj hji=>by
     rcases hdd j hj with e|e
     ·exact absurd e hji
     ·simpa using e)] at this
    have h2:=this (hcl.set hi)
    rw[show ops.size-(p.1::S++done).length=ops.size-(S++done).length-1 by rw[List.cons_append,List.length_cons];omega] at h2
    exact h2
 have:=main L.length [] f0 w (by simp) hok (Ext.refl w) (fun j hj=>by cases hj) (fun j hj=>by cases hj)
 rw[hu] at this
 exact this
end
end Reg
end Go.Proofs.YtllhhpcabncmiaaGreatDoor
