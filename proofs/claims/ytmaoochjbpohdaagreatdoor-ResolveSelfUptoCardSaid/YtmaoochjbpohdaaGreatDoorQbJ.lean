/- parse: schemas held against each other; the writer's types, all. -/
import Derived.Test.YtmaoochjbpohdaaGreatDoorQbI
import Derived.ChangeSame
import Derived.Lib.ItoaLen
set_option linter.unusedVariables false
set_option linter.unusedSimpArgs false
set_option maxRecDepth 100000
set_option maxHeartbeats 1000000
namespace Go.Proofs.YtmaoochjbpohdaaGreatDoor.Pr
open Go.ChangeShapes Go.WideShapes Go.ChangeAt Go.RowKit
open Base Lx Mi
theorem wtyped_all {B m:Nat} {no:Value} {ns:List Ne}:∀(f deep:Nat),deep+f=20→WTypC B m no ns f deep
 | f,deep,hdf=>by
  intro n st w h hS hL
  by_cases hst:wstop ns f n st
  ·rw[wtyp_stop hst]
   exact wtyped_stop hdf n st w h hS hst
  ·cases f with
   | zero=>exact absurd (.inr (.inr (.inr (.inr (.inl rfl))))) hst
   | succ f=>
    have hst':=hst
    unfold wstop at hst
    simp only[not_or,Int.not_lt,Int.not_le,Nat.not_lt] at hst
    obtain⟨q1,q2,q3,q4,q5,q6⟩:=hst
    obtain⟨j,rfl⟩:=Int.eq_ofNat_of_zero_le q2
    rw[wtyp_go hst'] at hL ⊢
    rw[Int.toNat_natCast] at hL ⊢
    by_cases hjn:(j:Int)<(st.next:Int)
    ·rw[if_pos hjn] at hL ⊢
     exact wtyped_ref hdf st w h hS (by omega) (by simpa using q1) (by omega) (by omega) hL
    ·rw[if_neg hjn] at hL ⊢
     by_cases hk:(ns.getD j neD).k=6∨(ns.getD j neD).k=7∨(ns.getD j neD).k=8∨(ns.getD j neD).k=9
     ·exact wtyped_newA hdf (wtyped_all f (deep+1) (by omega)) st w h hS (by omega) (by simpa using q1) (by omega) (by omega) hk hL
     ·exact wtyped_newB hdf (wtyped_all f (deep+1) (by omega)) st w h hS (by omega) (by simpa using q1) (by omega) (by omega) (by omega) hL
theorem Sch.node2 {B:Nat} {w:World} {vn:Value} {ns:List Ne} (h:Sch B w vn ns) (j:Nat) (d:Ne) (hd:ns[j]?=some d):∃b off c As cs Ai ci Af cf,vn=.slice (some ⟨b,off,none⟩) ns.length c∧b<B∧SubE B w d (.slice As d.syms.length cs,.slice Ai d.items.length ci,.slice Af d.fields.length cf)∧∀W,Below B w W→W.cell? ⟨b,off+j*6,none⟩=some (.int .i64 d.k)∧W.cell? ⟨b,off+j*6+1,none⟩=some (.string d.name)∧W.cell? ⟨b,off+j*6+2,none⟩=some (.int .i64 d.size)∧W.cell? ⟨b,off+j*6+3,none⟩=some (.slice As d.syms.length cs)∧W.cell? ⟨b,off+j*6+4,none⟩=some (.slice Ai d.items.length ci)∧W.cell? ⟨b,off+j*6+5,none⟩=some (.slice Af d.fields.length cf):=by
 have hj:j<ns.length:=(List.getElem?_eq_some_iff.1 hd).1
 obtain⟨v,b,off,c,e,hb,hs,hc1,hc2,hc⟩:=h.node j hj
 have hg:ns.getD j neD=d:=by simp[List.getD,hd]
 rw[hg] at hs hc
 obtain⟨va,vb,vc⟩:=v
 obtain⟨As,cs,rfl,q1⟩:∃As cs,va=.slice As d.syms.length cs∧True:=by obtain⟨A,c,e,_⟩:=hs.syms;exact⟨A,c,e,trivial⟩
 obtain⟨Ai,ci,rfl,q2⟩:∃As cs,vb=.slice As d.items.length cs∧True:=by obtain⟨A,c,e,_⟩:=hs.items;exact⟨A,c,e,trivial⟩
 obtain⟨Af,cf,rfl,q3⟩:∃As cs,vc=.slice As d.fields.length cs∧True:=by obtain⟨A,c,e,_⟩:=hs.fields;exact⟨A,c,e,trivial⟩
 refine⟨b,off,c,As,cs,Ai,ci,Af,cf,e,hb,hs,fun W hW=>?_⟩
 have k:∀i,i<6→W.cell? ⟨b,off+(j*6+i),none⟩=(neC d (.slice As d.syms.length cs,.slice Ai d.items.length ci,.slice Af d.fields.length cf))[i]?:=fun i hi=>(Below.cell hW (p:=⟨b,off+(j*6+i),none⟩) hb).trans (hc i hi)
 have k0:=k 0 (by omega)
 have k1:=k 1 (by omega)
 have k2:=k 2 (by omega)
 have k3:=k 3 (by omega)
 have k4:=k 4 (by omega)
 have k5:=k 5 (by omega)
 simp only[←Nat.add_assoc] at k0 k1 k2 k3 k4 k5
 exact⟨k0,k1,k2,k3,k4,k5⟩
theorem equalF_any {B:Nat} {w:World} {v1 v2:Value} {l1 l2:List Ne} (h1:Sch B w v1 l1) (h2:Sch B w v2 l2) (hB:B≤w.heap.size) :
  Calls Tryz.prog 114 #[v1,v2,.func (.func 115) #[] #[]] w fun e w'=>e=.returned (.bool (decide (l1=l2)))∧Ext w w':=by
 obtain⟨R,hR⟩:∃R,Hid (decide (l1=l2)=R):=⟨_,Lib.hid rfl⟩
 rw[hR.out]
 have hm1:l1.length≤9223372036854775807:=by obtain⟨vs,_,⟨A,c,e,_,_,q1,q2,_⟩,_⟩:=h1;unfold maxLen at q2;omega
 obtain⟨A1,c1,rfl⟩:=h1.slice
 obtain⟨A2,c2,rfl⟩:=h2.slice
 obtain⟨n,hn⟩:∃z,Hid (l1.length=z):=⟨_,rfl⟩
 obtain⟨n2,hn2'⟩:∃z,Hid (l2.length=z):=⟨_,rfl⟩
 rw[hn.out] at hm1 ⊢
 rw[hn2'.out]
 by_cases hl:n=n2
 ·subst hl
  have hnb:((n:Int) != (n:Int))=false:=by simp
  go_enter Tryz.func114,Tryz.ntmps114
  go_wp2_with fail
  go_loopw [7,8,9,17,18,19,20,21,22,23,24,25,26,27,28,29,30,31] (fun v7 v8 v9 v17 v18 v19 v20 v21 v22 v23 v24 v25 v26 v27 v28 v29 v30 v31 wr=>∃i:Nat,i≤n∧v17=.int .i64 i∧EqAt l1 l2 i∧Ext w wr) (fun _ _ _ v17 _ _ _ _ _ _ _ _ _ _ _ _ _ _ _=>n-(intOf v17).toNat)
  case atStart=>exact⟨0,by omega,rfl,fun j hj=>by omega,Ext.refl w⟩
  case round=>
   obtain⟨i,hi,rfl,heq,hx⟩:=hrel
   by_cases hin:i<n
   ·have hin':(i:Int)<(n:Int):=by omega
    obtain⟨x,hx1⟩:∃x,l1[i]?=some x:=⟨_,List.getElem?_eq_getElem (by have:=hn.out;omega)⟩
    obtain⟨y,hx2⟩:∃x,l2[i]?=some x:=⟨_,List.getElem?_eq_getElem (by have:=hn2'.out;omega)⟩
    obtain⟨b1,o1,d1,As1,cs1,Ai1,ci1,Af1,cf1,e1,hb1,hs1,hc1⟩:=h1.node2 i x hx1
    obtain⟨b2,o2,d2,As2,cs2,Ai2,ci2,Af2,cf2,e2,hb2,hs2,hc2⟩:=h2.node2 i y hx2
    injection e1 with e1 _ e1'
    injection e2 with e2 _ e2'
    subst e1;subst e1';subst e2;subst e2'
    obtain⟨p0,p1,p2,p3,p4,p5⟩:=hc1 wr (Below.mono hx hB)
    have hbw2:Below B w (wr.alloc (.cells #[.int .i64 x.k,.string x.name,.int .i64 x.size,.slice As1 x.syms.length cs1,.slice Ai1 x.items.length ci1,.slice Af1 x.fields.length cf1] 36)):=Below.mono (hx.alloc _) hB
    obtain⟨q0,q1,q2,q3,q4,q5⟩:=hc2 _ hbw2
    obtain⟨w1,hw1⟩:∃z,Hid ((wr.alloc (.cells #[.int .i64 x.k,.string x.name,.int .i64 x.size,.slice As1 x.syms.length cs1,.slice Ai1 x.items.length ci1,.slice Af1 x.fields.length cf1] 36)).alloc (.cells #[.int .i64 y.k,.string y.name,.int .i64 y.size,.slice As2 y.syms.length cs2,.slice Ai2 y.items.length ci2,.slice Af2 y.fields.length cf2] 36)=z):=⟨_,rfl⟩
    have hxw:Ext wr w1:=by rw[←hw1.out];exact ((Ext.refl wr).alloc _).alloc _
    have hb1w:=Below.mono (hx.trans hxw) hB
    have hcall:=samen_any (w:=w1) (B:=B) (d1:=x) (d2:=y) (v1:=(.slice As1 x.syms.length cs1,.slice Ai1 x.items.length ci1,.slice Af1 x.fields.length cf1)) (v2:=(.slice As2 y.syms.length cs2,.slice Ai2 y.items.length ci2,.slice Af2 y.fields.length cf2)) ⟨hs1.syms.below hb1w,hs1.items.below hb1w,hs1.fields.below hb1w,hs1.rng⟩ ⟨hs2.syms.below hb1w,hs2.items.below hb1w,hs2.fields.below hb1w,hs2.rng⟩ (Nat.le_trans hB (hx.trans hxw).size)
    simp only[neC] at hcall
    by_cases he:x=y
    ·rw[show decide (x=y)=true by simpa using he] at hcall
     rw[←he] at hx2
     have hE:=heq.next hx1 hx2
     clear hx1 hx2 hc1 hc2 hs1 hs2 he
     go_wp2_with fail
     rw[hw1.out]
     refine hcall.mono ?_
     rintro e w2 ⟨rfl,hx3⟩
     go_wp2_with fail
     go_roundw
     case rel=>exact⟨i+1,by omega,by go_num,hE,(hx.trans hxw).trans hx3⟩
     case measure=>simp[intOf];omega
    ·have hne:=ne_at hx1 hx2 he
     have hRf:R=false:=by rw[←hR.out];simpa using hne
     rw[show decide (x=y)=false by simpa using he] at hcall
     subst hRf
     clear hx1 hx2 hne hc1 hc2 hs1 hs2 he
     go_wp2_with fail
     rw[hw1.out]
     refine hcall.mono ?_
     rintro e w2 ⟨rfl,hx3⟩
     go_wp2_with fail
     go_ret
     exact⟨rfl,(hx.trans hxw).trans hx3⟩
   ·obtain rfl:i=n:=by omega
    have hRt:R=true:=by rw[←hR.out];simpa using EqAt.all (by rw[hn.out,hn2'.out]) (by rw[hn.out];exact heq)
    subst hRt
    go_wp2_with fail
    go_ret
    exact⟨rfl,hx⟩
 ·have hRf:R=false:=by rw[←hR.out];simpa using ne_len (by rw[hn.out,hn2'.out];exact hl)
  have hnb:((n:Int) != (n2:Int))=true:=by simpa using (by omega:¬(n:Int)=(n2:Int))
  subst hRf
  go_enter Tryz.func114,Tryz.ntmps114
  go_wp2_with fail
  go_ret
  exact⟨rfl,Ext.refl w⟩
end Go.Proofs.YtmaoochjbpohdaaGreatDoor.Pr
namespace Go.Proofs.YtmaoochjbpohdaaGreatDoor.Pr
open Go.ChangeShapes Go.WideShapes Go.ChangeAt Go.RowKit
open Base Lx Mi Piece
theorem wordsR_er:∀(l:List Tok) (n:Nat) {p er:Int},wordsR l n=some (p,er)→er=4∨er=2
 | [],n,p,er,h=>by cases h
 | x::l,n,p,er,h=>by
  rw[wordsR] at h
  split at h
  ·injection h with h;injection h with h1 h2;exact .inl h2.symm
  ·split at h
   ·injection h with h;injection h with h1 h2;exact .inr h2.symm
   ·exact wordsR_er l _ h
theorem words_er {s:ByteArray} {p er:Int} (h:words s=some (p,er)):er=4∨er=2:=by
 unfold words at h
 split at h
 ·injection h with h;injection h with h1 h2;exact .inr h2.symm
 ·exact wordsR_er _ _ h
def PP (r:List Nd×Int×Int) (w:World) (e:Ending) (w':World):Prop:=∃v vs,e=.returned (.tuple #[.agg #[v],.int .i64 r.2.1,.int .i64 r.2.2])∧Nds w.heap.size w' r.1 vs v∧Ext w w'
theorem nds_nil (B:Nat) (w:World):Nds B w [] [] (.slice none 0 0):=⟨rfl,World.ownsRow_nil _ _ _ _,fun i d v h=>by simp at h⟩
theorem Sub.mono {B B':Nat} {w:World} {d:Nd} {v:V3} (h:Sub B w d v) (hB:B'≤B):Sub B' w d v:=⟨own_mono h.syms hB,own_mono h.items hB,own_mono h.fields hB⟩
theorem Nds.mono {B B':Nat} {w:World} {ns:List Nd} {vs:List V3} {vn:Value} (h:Nds B w ns vs vn) (hB:B'≤B):Nds B' w ns vs vn:=⟨h.len,own_mono h.row hB,fun i d v h1 h2=>(h.sub i d v h1 h2).mono hB⟩
theorem Nds.low {B:Nat} {w w':World} {ns:List Nd} {vs:List V3} {vn:Value} {S:Nat→Prop} (h:Nds B w ns vs vn) (hc:Chg S w w') (hS:∀k,S k→k<B):Nds B w' ns vs vn:=by
 have q:∀ {e:TypeId} {size n:Nat} {v:Value} {xs:List Value},w.ownsRow B e size v n xs→∀k,v.ownBlock=some k→¬S k:=fun ho k hk e=>by
  have:=(ho.lt k hk).1;have:=hS k e;omega
 exact⟨h.len,own_chg h.row hc (q h.row),fun i d v h1 h2=>by
  have hs:=h.sub i d v h1 h2
  exact hs.chg hc (q hs.syms) (q hs.items) (q hs.fields)⟩
theorem resP {w:World} {tmps:Array Value} {a b c:Nat} {u v x:Value} (ha:tmps[2]?.getD undef=.pointer (some ⟨a,0,none⟩)) (hb:tmps[3]?.getD undef=.pointer (some ⟨b,0,none⟩)) (hc:tmps[4]?.getD undef=.pointer (some ⟨c,0,none⟩))
  (h1:w.cell? ⟨a,0,none⟩=some u) (h2:w.cell? ⟨b,0,none⟩=some v) (h3:w.cell? ⟨c,0,none⟩=some x):(results Tryz.f105 tmps).run Tryz.prog w=.ok (.tuple #[.agg #[u],v,x]) w:=by
 simp[results,Tryz.f105,go_sem,ha,hb,hc,h1,h2,h3]
theorem hne3 {w:World} {v:Value} {s:ByteArray} {g:Nat} {u:Value} {t:TypeId} (h:Rt w v (toks s)) (hb:Blk w g #[u] t):∀u2,Rt (w.setCell ⟨g,0,none⟩ u2) v (toks s):=fun u2=>by
 obtain⟨g',cap,rfl,hc,h1,h2⟩:=h
 refine⟨g',cap,rfl,fun j x hj=>?_,h1,h2⟩
 have hne:¬g'=g:=fun e=>by
  subst e
  have hp:=(toks_ok s).pos
  obtain⟨t,l,e⟩:∃t l,toks s=t::l:=by
   cases h:toks s with
   | nil=>rw[h] at hp;simp at hp
   | cons t l=>exact⟨t,l,rfl⟩
  have:=hc 1 (.string t.s) (by rw[e];rfl)
  rw[hb.cell 1] at this
  simp at this
 exact (Chg.one w g 0 u2).cell (hc j x hj) hne
theorem rs_new {w3:World} {v:Value} {s:ByteArray} (hrt:Rt w3 v (toks s)) (hw:words s=none) (hwd:Wd w3) (h0:1<w3.heap.size) :
  Rs w3.heap.size ((w3.alloc (.map #[] 0)).alloc (.cells #[v,.slice none 0 0,.map (some w3.heap.size)] 152)) (w3.heap.size+1) w3.heap.size v (.slice none 0 0) [] ⟨toks s,[],fun _=>none⟩:=by
 obtain⟨hs,hl,hts⟩:=words_ok hw
 obtain⟨g,cap,rfl,hc,h1,h2⟩:=hrt
 have hx:Ext w3 ((w3.alloc (.map #[] 0)).alloc (.cells #[.slice (some ⟨g,0,none⟩) (toks s).length cap,.slice none 0 0,.map (some w3.heap.size)] 152)):=((Ext.refl w3).alloc _).alloc _
 have hp:=(toks_ok s).pos
 have hg:g<w3.heap.size:=by
  obtain⟨t,l,e⟩:∃t l,toks s=t::l:=by
   cases h:toks s with
   | nil=>rw[h] at hp;simp at hp
   | cons t l=>exact⟨t,l,rfl⟩
  have:=hc 0 (.int .i64 t.k) (by rw[e];rfl)
  exact World.block_lt_of_cell? w3 ⟨g,0,none⟩ this
 have hb:=Blk.new (w3.alloc (.map #[] 0)) #[.slice (some ⟨g,0,none⟩) (toks s).length cap,.slice none 0 0,.map (some w3.heap.size)] 152
 rw[show (w3.alloc (.map #[] 0)).heap.size=w3.heap.size+1 by simp] at hb
 refine⟨hb,⟨g,0,cap,rfl,Rd.ext (fun _=>⟨g,0,rfl,fun j u hj=>by rw[Nat.zero_add];exact hc j u hj⟩) hx,h1,h2,hg⟩,nds_nil _ _,⟨0,(MapU.made _ _ _ w3).alloc _,by show 0+(toks s).length≤_;omega⟩,(fun x n h=>(by cases h)),toks_ok s,(show (toks s).length≤2000 by omega),hts,Nat.zero_le _,(by omega),Nat.le_refl _,hwd.ext hx,h0⟩
theorem parsed_any (s:ByteArray) (hs:s.size≤140737488351232) (w:World) (hwd:Wd w) (h0:1<w.heap.size):Calls Tryz.prog 105 #[.string s] w fun e w'=>PP (parseP s) w e w':=by
 have hmf:∀(fn:Fn) (first cap:Array Value) (w:World),(Instr.makeFunc fn first cap).run Tryz.prog w=.ok (.func fn first cap) w:=fun _ _ _ _=>rfl
 obtain⟨r,hr⟩:∃z,Hid (parseP s=z):=⟨_,rfl⟩
 rw[hr.out]
 obtain⟨PO,hPO⟩:∃PO:Ending→World→Prop,Hid ((fun e w'=>PP r w e w')=PO):=⟨_,rfl⟩
 rw[hPO.out]
 obtain⟨a,ha⟩:∃z,Hid (w.heap.size=z):=⟨_,rfl⟩
 obtain⟨w1,hw1⟩:∃z,Hid (((w.alloc (.cells #[.slice none 0 0] 24)).alloc (.cells #[.int .i64 0] 3)).alloc (.cells #[.int .i64 0] 25)=z):=⟨_,rfl⟩
 have hx1:Ext w w1:=by rw[←hw1.out];exact (((Ext.refl w).alloc _).alloc _).alloc _
 have hs1:w1.heap.size=a+3:=by rw[←hw1.out,←ha.out];simp
 have h2:Blk w1 a #[.slice none 0 0] 24:=by rw[←hw1.out,←ha.out];exact ((Blk.new w _ _).alloc _).alloc _
 have h3:Blk w1 (a+1) #[.int .i64 0] 3:=by rw[←hw1.out,←ha.out];have:=(Blk.new (w.alloc (.cells #[.slice none 0 0] 24)) #[.int .i64 0] 3).alloc (.cells #[.int .i64 0] 25);simpa using this
 have h4:Blk w1 (a+1+1) #[.int .i64 0] 25:=by rw[←hw1.out,←ha.out];have:=Blk.new ((w.alloc (.cells #[.slice none 0 0] 24)).alloc (.cells #[.int .i64 0] 3)) #[.int .i64 0] 25;simpa using this
 have hwo:=words_any s hs w1
 go_enter_defers Tryz.func105,Tryz.ntmps105
 go_wp2_with fail
 rw[hw1.out,ha.out]
 refine hwo.mono ?_
 rintro e w2 ⟨v,p,er,rfl,hcase,hx2⟩
 have g2:=h2.ext hx2
 have g3:=h3.ext hx2
 have g4:=h4.ext hx2
 have c3:=g3.cell 0
 have f3:=g3.frozen 0
 rcases hcase with⟨hw,rfl⟩|⟨hw,rfl,rfl,hrt⟩
 ·have hrr:r=([],p,er):=by rw[←hr.out,parseP,hw]
  have hne:(er != 0)=true:=by rcases words_er hw with rfl|rfl<;>rfl
  have Hw:=Lib.hid hw
  clear hw
  go_wp2_with fail
  have n23:¬a=a+1:=by omega
  have n24:¬a=a+1+1:=by omega
  have n34:¬a+1=a+1+1:=by omega
  obtain⟨wd,hwd2⟩:∃z,Hid (w2.setCell ⟨a+1,0,none⟩ (.int .i64 p)=z):=⟨_,rfl⟩
  have hxd:Ext w wd:=by rw[←hwd2.out];exact (hx1.trans hx2).setCell (by show w.heap.size≤a+1;have:=ha.out;omega) _
  have e2:Blk wd a #[.slice none 0 0] 24:=by rw[←hwd2.out];exact g2.far (p:=⟨a+1,0,none⟩) n23 _
  have e3:Blk wd (a+1) #[.int .i64 p] 3:=by rw[←hwd2.out];exact g3.set 0 _
  have e4:Blk wd (a+1+1) #[.int .i64 0] 25:=by rw[←hwd2.out];exact g4.far (p:=⟨a+1,0,none⟩) (fun e=>n34 e.symm) _
  rw[hwd2.out]
  clear g2 g3 g4 c3 f3
  have d2:Blk (wd.setCell ⟨a,0,none⟩ (.slice none 0 0)) a #[.slice none 0 0] 24:=e2.set 0 _
  have d3:=e3.far (p:=⟨a,0,none⟩) (fun e=>n23 e.symm) (.slice none 0 0)
  have d4:=e4.far (p:=⟨a,0,none⟩) (fun e=>n24 e.symm) (.slice none 0 0)
  have d22:=d2.far (p:=⟨a+1,0,none⟩) n23 (.int .i64 p)
  have d33:Blk ((wd.setCell ⟨a,0,none⟩ (.slice none 0 0)).setCell ⟨a+1,0,none⟩ (.int .i64 p)) (a+1) #[.int .i64 p] 3:=d3.set 0 _
  have d44:=d4.far (p:=⟨a+1,0,none⟩) (fun e=>n34 e.symm) (.int .i64 p)
  have d222:=d22.far (p:=⟨a+1+1,0,none⟩) n24 (.int .i64 er)
  have d333:=d33.far (p:=⟨a+1+1,0,none⟩) n34 (.int .i64 er)
  have d444:Blk (((wd.setCell ⟨a,0,none⟩ (.slice none 0 0)).setCell ⟨a+1,0,none⟩ (.int .i64 p)).setCell ⟨a+1+1,0,none⟩ (.int .i64 er)) (a+1+1) #[.int .i64 er] 25:=d44.set 0 _
  have c2:wd.cell? ⟨a,0,none⟩=some (.slice none 0 0):=e2.cell 0
  have f2:=e2.frozen 0
  have c33:wd.cell? ⟨a+1,0,none⟩=some (.int .i64 p):=e3.cell 0
  have c3:(wd.setCell ⟨a,0,none⟩ (.slice none 0 0)).cell? ⟨a+1,0,none⟩=some (.int .i64 p):=d3.cell 0
  have f3:=d3.frozen 0
  have c4:((wd.setCell ⟨a,0,none⟩ (.slice none 0 0)).setCell ⟨a+1,0,none⟩ (.int .i64 p)).cell? ⟨a+1+1,0,none⟩=some (.int .i64 0):=d44.cell 0
  have f4:=d44.frozen 0
  have hxF:Ext w (((wd.setCell ⟨a,0,none⟩ (.slice none 0 0)).setCell ⟨a+1,0,none⟩ (.int .i64 p)).setCell ⟨a+1+1,0,none⟩ (.int .i64 er)):=((hxd.setCell (by show w.heap.size≤a;have:=ha.out;omega) _).setCell (by show w.heap.size≤a+1;have:=ha.out;omega) _).setCell (by show w.heap.size≤a+1+1;have:=ha.out;omega) _
  go_region
  all_goals
   go_wp2_with fail
   refine⟨_,resP rfl rfl rfl (d222.drew.cell 0) (d333.drew.cell 0) (d444.drew.cell 0),?_⟩
   rw[←hPO.out,hrr]
   exact⟨_,_,rfl,nds_nil _ _,hxF.drew⟩
 ·have n1:=hne3 hrt g3 (.int .i64 0)
  obtain⟨w3,hw3⟩:∃z,Hid (w2.setCell ⟨a+1,0,none⟩ (.int .i64 0)=z):=⟨_,rfl⟩
  rw[hw3.out] at n1
  have hs2:=hx2.size
  have hs3:w3.heap.size=w2.heap.size:=by rw[←hw3.out];simp
  have hch3:Chg (fun k=>k=a+1) w2 w3:=by rw[←hw3.out];exact Chg.one w2 (a+1) 0 _
  have hx3:Ext w w3:=by rw[←hw3.out];exact (hx1.trans hx2).setCell (by show w.heap.size≤a+1;have:=ha.out;omega) _
  have e2:Blk w3 a #[.slice none 0 0] 24:=hch3.blk g2 (by omega)
  have e3:Blk w3 (a+1) #[.int .i64 0] 3:=by rw[←hw3.out];exact g3.set 0 _
  have e4:Blk w3 (a+1+1) #[.int .i64 0] 25:=hch3.blk g4 (by omega)
  have hrs:=rs_new n1 hw (hwd.ext hx3) (by omega)
  obtain⟨tg,cap,rfl,hrt1,hrt2,hrt3⟩:=hrt
  clear hrt1 hrt2 hrt3 n1
  have hT:=typed_all (B:=w3.heap.size) (R:=w3.heap.size+1) (M:=w3.heap.size) 20 0 rfl false [] none 0 0 _ _ _ _ _ hrs (Rd.nil _ _) rfl (by omega) (by simp) (by simp;omega)
  rw[show ((0:Nat):Int)=0 from rfl] at hT
  obtain⟨ln,hln⟩:∃z,Hid ((toks s).length=z):=⟨_,rfl⟩
  rw[hln.out,hs3] at hT hrs
  rw[hln.out]
  have hmm:=@run_makeMap Tryz.prog
  have hrr:r=match typedR 20 false [] ⟨toks s,[],fun _=>none⟩ with
   | .bad a w=>([],(a:Int),(w:Int))
   | .ok _ s'=>if (hd s'.l).k≠3 then ([],((hd s'.l).a:Int),4) else (s'.ns,0,0):=by rw[←hr.out,parseP,hw];rfl
  have Hrr:=Lib.hid hrr
  clear hrr hw
  go_wp2_with fail
  rw[hw3.out]
  refine hT.mono ?_
  intro e w6 hpw
  have hnil:∀k,Wr (w2.heap.size+1) w2.heap.size (.slice none 0 0) k→w2.heap.size≤k:=by
   rintro k (e|e|e)
   ·omega
   ·omega
   ·cases e
  have hx5:Ext w3 ((w3.alloc (.map #[] 0)).alloc (.cells #[.slice (some ⟨tg,0,none⟩) ln cap,.slice none 0 0,.map (some w2.heap.size)] 152)):=((Ext.refl w3).alloc _).alloc _
  obtain⟨S3,hS3⟩:∃S:Nat→Prop,S=fun k=>k=a∨k=a+1∨k=a+1+1:=⟨_,rfl⟩
  have hfin:∀(w6:World),Chg (Wr (w2.heap.size+1) w2.heap.size (.slice none 0 0)) ((w3.alloc (.map #[] 0)).alloc (.cells #[.slice (some ⟨tg,0,none⟩) ln cap,.slice none 0 0,.map (some w2.heap.size)] 152)) w6→Ext w3 w6:=fun w6 hc=>by
   have:=(Chg.ofExt (S:=fun _=>False) hx5).trans hc (fun i hi e=>by have:=hnil i e;omega)
   exact this.toExt (fun _ _ e=>e)
  rcases hpw.cases with⟨n,s6,vl6,vn6,vs6,hr6,rfl,hc6,h6,hf6,hg6⟩|⟨at_,why,hr6,rfl,hc6⟩
  ·have hx6:=hfin _ hc6
   obtain⟨An,cn,rfl,jj1,jj2,jj3,jj4⟩:=Rd.of_own h6.nds.row
   clear jj1 jj2 jj3 jj4
   have hrr:r=if (hd s6.l).k≠3 then ([],((hd s6.l).a:Int),4) else (s6.ns,0,0):=by rw[Hrr.out,hr6.out]
   clear Hrr
   have Hrr:=Lib.hid hrr
   clear hrr hT hpw
   have i2:=e2.ext hx6
   have i3:=e3.ext hx6
   have i4:=e4.ext hx6
   have hfail:=fail_any 4 w6 h6
   obtain⟨tg6,off6,cap6,rfl,hp6,hnc6,hcm6,hh6⟩:=h6.head
   obtain⟨c60,c61,c62,f60,f61⟩:=h6.cells
   obtain⟨k60,k61,k62⟩:=hh6 w6 (Ext.refl _)
   obtain⟨t,ht⟩:∃z,Hid (hd s6.l=z):=⟨_,rfl⟩
   rw[ht.out] at k60 k61 k62 hfail
   obtain⟨l6,hl6⟩:∃z,Hid (s6.l.length=z):=⟨_,rfl⟩
   rw[hl6.out] at c60 hp6 hnc6
   obtain⟨nn,hnn⟩:∃z,Hid (s6.ns.length=z):=⟨_,rfl⟩
   have hnds:=h6.nds
   rw[hnn.out] at c61 hnds
   have hp6':(0:Int)<(l6:Int):=by omega
   by_cases hk:t.k=3
   ·have hk1:((t.k:Int) != 3)=false:=by simpa using hk
    have hrr:r=(s6.ns,0,0):=by rw[Hrr.out,ht.out,if_neg (by simp[hk])]
    have j2:w6.cell? ⟨a,0,none⟩=some (.slice none 0 0):=i2.cell 0
    have g2':=i2.frozen 0
    have m2:Blk (w6.setCell ⟨a,0,none⟩ (.slice An nn cn)) a #[(.slice An nn cn)] 24:=i2.set 0 _
    have m3:=i3.far (p:=⟨a,0,none⟩) (by show ¬a+1=a;omega) (.slice An nn cn)
    have m4:=i4.far (p:=⟨a,0,none⟩) (by show ¬a+1+1=a;omega) (.slice An nn cn)
    have j3:(w6.setCell ⟨a,0,none⟩ (.slice An nn cn)).cell? ⟨a+1,0,none⟩=some (.int .i64 0):=m3.cell 0
    have g3':=m3.frozen 0
    have n2:=m2.far (p:=⟨a+1,0,none⟩) (by show ¬a=a+1;omega) (.int .i64 0)
    have n3:Blk ((w6.setCell ⟨a,0,none⟩ (.slice An nn cn)).setCell ⟨a+1,0,none⟩ (.int .i64 0)) (a+1) #[.int .i64 0] 3:=m3.set 0 _
    have n4:=m4.far (p:=⟨a+1,0,none⟩) (by show ¬a+1+1=a+1;omega) (.int .i64 0)
    have j4:((w6.setCell ⟨a,0,none⟩ (.slice An nn cn)).setCell ⟨a+1,0,none⟩ (.int .i64 0)).cell? ⟨a+1+1,0,none⟩=some (.int .i64 0):=n4.cell 0
    have g4':=n4.frozen 0
    have o2:=n2.far (p:=⟨a+1+1,0,none⟩) (by show ¬a=a+1+1;omega) (.int .i64 0)
    have o3:=n3.far (p:=⟨a+1+1,0,none⟩) (by show ¬a+1=a+1+1;omega) (.int .i64 0)
    have o4:Blk (((w6.setCell ⟨a,0,none⟩ (.slice An nn cn)).setCell ⟨a+1,0,none⟩ (.int .i64 0)).setCell ⟨a+1+1,0,none⟩ (.int .i64 0)) (a+1+1) #[.int .i64 0] 25:=n4.set 0 _
    have hch:Chg S3 w6 (((w6.setCell ⟨a,0,none⟩ (.slice An nn cn)).setCell ⟨a+1,0,none⟩ (.int .i64 0)).setCell ⟨a+1+1,0,none⟩ (.int .i64 0)):=(((Chg.refl S3 w6).set (p:=⟨a,0,none⟩) (.inl (by rw[hS3];exact .inl rfl)) _).set (p:=⟨a+1,0,none⟩) (.inl (by rw[hS3];exact .inr (.inl rfl))) _).set (p:=⟨a+1+1,0,none⟩) (.inl (by rw[hS3];exact .inr (.inr rfl))) _
    have hB6:∀k,S3 k→k<w2.heap.size:=fun k hk=>by rw[hS3] at hk;omega
    have hnF:=(hnds.low hch hB6).mono (B':=w.heap.size) (by have:=ha.out;omega)
    have hxF:Ext w _:=(((Chg.ofExt (S:=fun _=>False) (hx3.trans hx6)).trans hch (fun i hi e=>by rw[hS3] at e;have:=ha.out;omega)).toExt (fun _ _ e=>e))
    go_wp2_with fail
    refine leaves_cons (f:=122) (args := #[.pointer (some ⟨a,0,none⟩),.pointer (some ⟨a+1,0,none⟩),.pointer (some ⟨a+1+1,0,none⟩)]) (by simp) (by simp[go_sem]) ?_
    refine (catch_idle a (a+1) (a+1+1) _).mono ?_
    rintro e u' w8 ⟨rfl,rfl,rfl⟩
    refine⟨_,resP rfl rfl rfl (o2.cell 0) (o3.cell 0) (o4.cell 0),?_⟩
    rw[←hPO.out,hrr]
    exact⟨_,_,rfl,hnF,hxF⟩
   ·have hk1:((t.k:Int) != 3)=true:=by simpa using hk
    have hrr:r=([],(t.a:Int),4):=by rw[Hrr.out,ht.out,if_pos hk]
    go_wp2_with fail
    refine hfail.mono ?_
    rintro e w7 ⟨rfl,rfl⟩
    go_wp2_with fail
    refine leaves_cons (f:=122) (args := #[.pointer (some ⟨a,0,none⟩),.pointer (some ⟨a+1,0,none⟩),.pointer (some ⟨a+1+1,0,none⟩)]) (by simp) (by simp[go_sem]) ?_
    refine (catch_stop a (a+1) (a+1+1) _ _ _ t.a 4 w6 i2 i3 i4).mono ?_
    rintro e u' w8 ⟨rfl,rfl,hc8,b2,b3,b4⟩
    refine⟨_,resP rfl rfl rfl (b2.cell 0) (b3.cell 0) (b4.cell 0),?_⟩
    rw[←hPO.out,hrr]
    exact⟨_,_,rfl,nds_nil _ _,((Chg.ofExt (S:=fun _=>False) (hx3.trans hx6)).trans hc8 (fun i hi e=>by have:=ha.out;omega)).toExt (fun _ _ e=>e)⟩
  ·have hx6:=hfin _ hc6
   have hrr:r=([],(at_:Int),(why:Int)):=by rw[Hrr.out,hr6.out]
   clear Hrr hT hpw
   have i2:=e2.ext hx6
   have i3:=e3.ext hx6
   have i4:=e4.ext hx6
   go_wp2_with fail
   refine leaves_cons (f:=122) (args := #[.pointer (some ⟨a,0,none⟩),.pointer (some ⟨a+1,0,none⟩),.pointer (some ⟨a+1+1,0,none⟩)]) (by simp) (by simp[go_sem]) ?_
   refine (catch_stop a (a+1) (a+1+1) _ _ _ at_ why w6 i2 i3 i4).mono ?_
   rintro e u' w8 ⟨rfl,rfl,hc8,b2,b3,b4⟩
   refine⟨_,resP rfl rfl rfl (b2.cell 0) (b3.cell 0) (b4.cell 0),?_⟩
   rw[←hPO.out,hrr]
   exact⟨_,_,rfl,nds_nil _ _,((Chg.ofExt (S:=fun _=>False) (hx3.trans hx6)).trans hc8 (fun i hi e=>by have:=ha.out;omega)).toExt (fun _ _ e=>e)⟩
end Go.Proofs.YtmaoochjbpohdaaGreatDoor.Pr
namespace Go.Proofs.YtmaoochjbpohdaaGreatDoor.Pr
open Go.ChangeShapes Go.WideShapes Go.ChangeAt Go.RowKit
open Base Lx Mi
def shV:Option (List UInt8)→Value
 | some s=>.tuple #[.string ⟨s.toArray⟩,.int .i64 0]
 | none=>.tuple #[.string ⟨#[]⟩,.int .i64 1]
def showLen (ns:List Ne):Nat:=(wtyp ns 20 0 ⟨[],0,false⟩).s.length
set_option maxHeartbeats 2000000 in
theorem shown_any (v:Value) (ns:List Ne) (w:World) (hS:Sch w.heap.size w v ns) (hwd:Wd w) (hpow:Pow w) (hL:showLen ns≤100000000) :
  Calls Tryz.prog 94 #[.agg #[v]] w fun e w'=>e=.returned (shV (showP ns))∧Ext w w':=by
 have h5:=hpow.lt
 obtain⟨A,c,rfl⟩:=hS.slice
 obtain⟨n,hn⟩:∃z,Hid (ns.length=z):=⟨_,rfl⟩
 obtain⟨q,hq⟩:∃z,Hid (w.heap.size=z):=⟨_,rfl⟩
 obtain⟨w1,hw1⟩:∃z,Hid (w.alloc (.cells #[.slice A n c] 24)=z):=⟨_,rfl⟩
 obtain⟨w2,hw2⟩:∃z,Hid (w1.alloc (.cells #[.pointer none,.slice none 0 0,.slice A n c,.int .i64 0,.bool false] 139)=z):=⟨_,rfl⟩
 have hx1:Ext w w1:=by rw[←hw1.out];exact (Ext.refl w).alloc _
 have hs1:w1.heap.size=q+1:=by rw[←hw1.out,←hq.out];simp
 have hb1:Blk w1 q #[.slice A n c] 24:=by rw[←hw1.out,←hq.out];exact Blk.new w _ _
 have hx2:Ext w1 w2:=by rw[←hw2.out];exact (Ext.refl w1).alloc _
 have hb2:Blk w2 (q+1) #[.pointer none,.slice none 0 0,.slice A n c,.int .i64 0,.bool false] 139:=by rw[←hw2.out,←hs1];exact Blk.new w1 _ _
 have hbq2:=hb1.ext hx2
 have hI:WInv q w2 (q+1) (.slice A n c) ⟨[],0,false⟩:=⟨⟨none,.slice none 0 0,.inl rfl,hb2,World.ownsRow_nil _ _ _ _⟩,by omega⟩
 have hxw2:=hx1.trans hx2
 rw[hq.out] at hS h5
 rw[hn.out] at hS
 have hbe2:Below q w w2:=by rw[←hq.out];exact hxw2
 have hE:En q w2 (.slice A n c) ns:=⟨hS.below hbe2,hwd.ext hxw2,hpow.ext hxw2,h5⟩
 have hT:=wtyped_all 20 0 rfl 0 ⟨[],0,false⟩ w2 hI hE hL
 rw[show ((0:Nat):Int)=0 from rfl] at hT
 obtain⟨st,hst⟩:∃z,Hid (wtyp ns 20 0 ⟨[],0,false⟩=z):=⟨_,Lib.hid rfl⟩
 have hne:=show_ne ns
 have hsh:showP ns=if st.bad=true∨st.next≠ns.length then none else if (parseP ⟨st.s.toArray⟩).2.2≠0∨(parseP ⟨st.s.toArray⟩).1.map Nd.toE≠ns then none else some st.s:=by rw[←hst.out];rfl
 rw[hst.out] at hT hne
 have hL : st.s.length ≤ 100000000 := by have : showLen ns = st.s.length := by rw [← hst.out]; rfl
                                         omega
 replace hne:=Lib.hid hne
 obtain⟨o,ho⟩:∃z,Hid (showP ns=z):=⟨_,Lib.hid rfl⟩
 rw[ho.out] at hsh ⊢
 replace hsh:=Lib.hid hsh
 obtain⟨PO,hPO⟩:∃PO:Ending→World→Prop,Hid ((fun e w'=>e=.returned (shV o)∧Ext w w')=PO):=⟨_,Lib.hid rfl⟩
 rw[hPO.out,hn.out]
 clear hb2
 go_enter Tryz.func94,Tryz.ntmps94
 go_wp2_with fail
 rw[hw1.out,hq.out,hw2.out]
 refine hT.mono ?_
 rintro e w3 ⟨rfl,hk3,h3⟩
 have hx3:Ext w w3:=Below.trans (B:=w.heap.size) hxw2 (by rw[hq.out];exact hk3.below)
 have hbq3:=hk3.keep q _ _ hbq2 (by decide) (by decide)
 obtain⟨c2,c3,c4,f3,f4⟩:=h3.cells
 have e1:∀W,Ext w3 W→W.cell? ⟨q,0,none⟩=some (.slice A n c):=fun W hW=>(hbq3.ext hW).cell 0
 obtain⟨nx,hnx⟩:∃z,Hid (st.next=z):=⟨_,rfl⟩
 have e3:∀W,Ext w3 W→W.cell? ⟨q+1,3,none⟩=some (.int .i64 (nx:Int)):=fun W hW=>by rw[←hnx.out];exact hW.cell c3
 by_cases hbad:st.bad=true
 ·have ho0:o=none:=by rw[hsh.out,if_pos (.inl hbad)]
  have e4:∀W,Ext w3 W→W.cell? ⟨q+1,4,none⟩=some (.bool true):=fun W hW=>by rw[←hbad];exact hW.cell c4
  clear c2 c3 c4 f3 f4 hbad
  go_wp2_with fail
  refine Reg.startE (by kernel_rfl) ?_
  iterate 14 ((first|refine Reg.tn ?_|refine Reg.sn ?_);(try simp only[Reg.nn]))
  refine Reg.fin (by kernel_rfl) (fun W hW=>?_)
  go_wp2_with fail
  rw[←hPO.out,ho0]
  exact⟨rfl,hx3.trans hW⟩
 ·have hbad':st.bad=false:=by simpa using hbad
  have e4:∀W,Ext w3 W→W.cell? ⟨q+1,4,none⟩=some (.bool false):=fun W hW=>by rw[←hbad'];exact hW.cell c4
  have hsne:=hne.out hbad'
  clear c2 c3 c4 f3 f4 hne
  by_cases hnn:nx=n
  ·have hnb:((nx:Int) != (n:Int))=false:=by simp[hnn]
   have hstr:=fun W (hW:Ext w3 W)=>wstring_any (h3.ext hW) hL hsne
   obtain⟨r,hr⟩:∃z,Hid (parseP ⟨st.s.toArray⟩=z):=⟨_,Lib.hid rfl⟩
   have hsz:(⟨st.s.toArray⟩:ByteArray).size=st.s.length:=by simp[ByteArray.size]
   have hpar:=fun W (hW:Ext w W)=>parsed_any ⟨st.s.toArray⟩ (by rw[hsz];omega) W (hwd.ext hW) (by have:=hW.size;have:=hq.out;omega)
   have hres:o=if r.2.2≠0∨r.1.map Nd.toE≠ns then none else some st.s:=by
    rw[hsh.out,if_neg (by rintro (e|e);exact hbad e;exact e (by rw[hnx.out,hnn,hn.out])),hr.out]
   rw[hr.out] at hpar
   have hrg:∀d∈r.1,-9223372036854775808≤d.size∧d.size≤9223372036854775807:=by rw[←hr.out];exact parse_rng _
   obtain⟨S,hS'⟩:∃S:ByteArray,S=⟨st.s.toArray⟩:=⟨_,rfl⟩
   rw[←hS'] at hpar hstr
   replace hS':=Lib.hid hS'
   clear hsz
   have Hres:=Lib.hid hres
   clear hres hsh
   go_wp2_with fail
   refine Reg.startE (by kernel_rfl) ?_
   iterate 14 ((first|refine Reg.tn ?_|refine Reg.sn ?_);(try simp only[Reg.nn]))
   refine Reg.fin (by kernel_rfl) (fun W hW=>?_)
   have hstr:=hstr W hW
   clear e1 e3 e4
   have hxW:=hx3.trans hW
   go_wp2_with fail
   refine hstr.mono ?_
   rintro e w4 ⟨rfl,hb4⟩
   have hx4:Ext w w4:=Below.trans (B:=w.heap.size) hxW (by rw[hq.out];exact hb4.below)
   have hp:=hpar w4 hx4
   clear hpar hstr
   go_wp2_with fail
   go_fit hp
   rintro e w5 ⟨v5,vs5,rfl,hnd,hx5⟩
   obtain⟨A5,c5,rfl,jj1,jj2,jj3,jj4⟩:=Rd.of_own hnd.row
   clear jj1 jj2 jj3 jj4 hp
   obtain⟨n5,hn5⟩:∃z,Hid (r.1.length=z):=⟨_,Lib.hid rfl⟩
   rw[hn5.out] at hnd ⊢
   obtain⟨w6,hw6⟩:∃z,Hid (w5.alloc (.cells #[.slice A5 n5 c5] 24)=z):=⟨_,rfl⟩
   have hx6:Ext w5 w6:=by rw[←hw6.out];exact (Ext.refl w5).alloc _
   obtain⟨q6,hq6⟩:∃z,Hid (w5.heap.size=z):=⟨_,rfl⟩
   have hb6:Blk w6 q6 #[.slice A5 n5 c5] 24:=by rw[←hw6.out,←hq6.out];exact Blk.new w5 _ _
   have hbq6:w6.cell? ⟨q,0,none⟩=some (.slice A n c):=(((hb4.keep q _ _ (hbq3.ext hW) (by decide) (by decide)).ext hx5).ext hx6).cell 0
   have hc6:w6.cell? ⟨q6,0,none⟩=some (.slice A5 n5 c5):=hb6.cell 0
   rw[←hw6.out] at hbq6
   have hx06:Ext w w6:=(hx4.trans hx5).trans hx6
   have hSo:Sch w5.heap.size w6 (.slice A n c) ns:=(hS.below (by rw[←hq.out];exact hx06)).mono (by have:=(hx4.trans hx5).size;have:=hq.out;omega)
   have hSp:Sch w5.heap.size w6 (.slice A5 n5 c5) (r.1.map Nd.toE):=(Sch.ofNds hnd (Nat.le_refl _) hrg).below hx6
   have hcmp:=equalF_any (w:=w6) hSp hSo hx6.size
   by_cases her:r.2.2=0
   ·have hrb:(r.2.2 != 0)=false:=by simpa using her
    by_cases hqq:r.1.map Nd.toE=ns
    ·have ho0:o=some st.s:=by rw[Hres.out,if_neg (by rintro (e|e);exact e her;exact e hqq)]
     rw[show decide (r.1.map Nd.toE=ns)=true by simpa using hqq] at hcmp
     clear hSo hSp hqq
     go_wp2_with fail
     rw[hw6.out]
     refine hcmp.mono ?_
     rintro e w7 ⟨rfl,hx7⟩
     go_wp2_with fail
     rw[←hPO.out,ho0,hS'.out]
     exact⟨rfl,hx06.trans hx7⟩
    ·have ho0:o=none:=by rw[Hres.out,if_pos (.inr hqq)]
     rw[show decide (r.1.map Nd.toE=ns)=false by simpa using hqq] at hcmp
     clear hSo hSp hqq
     go_wp2_with fail
     rw[hw6.out]
     refine hcmp.mono ?_
     rintro e w7 ⟨rfl,hx7⟩
     go_wp2_with fail
     rw[←hPO.out,ho0]
     exact⟨rfl,hx06.trans hx7⟩
   ·have hrb:(r.2.2 != 0)=true:=by simpa using her
    have ho0:o=none:=by rw[Hres.out,if_pos (.inl her)]
    clear hcmp hSo hSp
    go_wp2_with fail
    rw[hw6.out]
    rw[←hPO.out,ho0]
    exact⟨rfl,hx06⟩
  ·have hnb:((nx:Int) != (n:Int))=true:=by simpa using (by omega:¬(nx:Int)=(n:Int))
   have ho0:o=none:=by rw[hsh.out,if_pos (.inr (by rw[hnx.out,hn.out];exact hnn))]
   go_wp2_with fail
   refine Reg.startE (by kernel_rfl) ?_
   iterate 14 ((first|refine Reg.tn ?_|refine Reg.sn ?_);(try simp only[Reg.nn]))
   refine Reg.fin (by kernel_rfl) (fun W hW=>?_)
   go_wp2_with fail
   rw[←hPO.out,ho0]
   exact⟨rfl,hx3.trans hW⟩
end Go.Proofs.YtmaoochjbpohdaaGreatDoor.Pr
namespace Go.Proofs.YtmaoochjbpohdaaGreatDoor.Args
open Go.ChangeShapes Go.WideShapes Go.ChangeAt Go.RowKit
open Base Pr
def fldB (f:ByteArray×Bool×Int):Nat:=f.1.size+4
def nodeB (d:Ne):Nat:=d.name.size+(d.syms.map fun s=>s.size+1).sum+d.items.length+(d.fields.map fldB).sum+7
theorem sum_one {α:Type} (l:List α):(l.map fun _=>1).sum=l.length:=by
 induction l with
 | nil=>rfl
 | cons x l ih=>simp[ih];omega
theorem flat_one {α:Type} (l:List α) (f:α→Value):(l.flatMap fun x=>[f x])=l.map f:=by
 induction l with
 | nil=>rfl
 | cons x l ih=>rw[List.flatMap_cons,ih];rfl
instance:Inhabited (Ne×V3):=⟨(neD,v0)⟩
theorem cells_fld:Tryz.prog.cellsOf 38=3:=by kernel_rfl
theorem cells_node:Tryz.prog.cellsOf 36=6:=by kernel_rfl
theorem cells_sch:Tryz.prog.cellsOf 24=1:=by kernel_rfl
theorem rdr_fld {H:Type} {enc:TypeId×Value→H} {W:World}:Rdr enc Tryz.prog W 38 fldZ (fun f D=>fldB f≤Rows.uptoBulk D):=by
 refine⟨fun fuel cs D pl hf=>?_⟩
 obtain⟨xs,m,_,hx,hl,hlen,hfs⟩:=DataW.trod_struct Tryz.underlying38 hf
 injection hx with hD _
 match xs,hlen with
 | [y0,y1,y2],_=>
  have g0:=hfs 0 _ rfl
  have g1:=hfs 1 _ rfl
  have g2:=hfs 2 _ rfl
  have hl3:cs.length=3:=hl.trans cells_fld
  match cs,hl3 with
  | [c0,c1,c2],_=>
   have g0:DataW.trod enc Tryz.prog W 0 (fun _=>true) true m 9 [c0]=some y0:=g0
   have g1:DataW.trod enc Tryz.prog W 0 (fun _=>true) true m 4 [c1]=some y1:=g1
   have g2:DataW.trod enc Tryz.prog W 0 (fun _=>true) true m 3 [c2]=some y2:=g2
   obtain⟨z0,e0,f0,_⟩:=(rdr_string Tryz.underlying9).rd _ _ _ _ g0
   obtain⟨z1,e1,f1⟩:=(rdr_bool Tryz.underlying4).rd _ _ _ _ g1
   obtain⟨z2,e2,f2,_⟩:=(rdr_int Tryz.underlying3).rd _ _ _ _ g2
   injection e0 with e0 _
   injection e1 with e1 _
   injection e2 with e2 _
   subst e0;subst e1;subst e2
   refine⟨(z0,z1,z2),rfl,?_⟩
   rw[hD]
   simp only[List.map_cons,List.map_nil,f0,f1,f2,Rows.uptoBulk,Rows.uptoBulkAll]
   have:z0.data.toList.length=z0.size:=Array.length_toList
   show z0.size+4≤_
   omega
theorem rdr_node {H:Type} {enc:TypeId×Value→H} {W:World}:Rdr enc Tryz.prog W 36 (fun x:Ne×V3=>neC x.1 x.2) (fun x D=>SubE W.heap.size W x.1 x.2∧nodeB x.1≤Rows.uptoBulk D):=by
 refine⟨fun fuel cs D pl hf=>?_⟩
 obtain⟨xs,m,_,hx,hl,hlen,hfs⟩:=DataW.trod_struct Tryz.underlying36 hf
 injection hx with hD _
 match xs,hlen with
 | [y0,y1,y2,y3,y4,y5],_=>
  have g0:=hfs 0 _ rfl
  have g1:=hfs 1 _ rfl
  have g2:=hfs 2 _ rfl
  have g3:=hfs 3 _ rfl
  have g4:=hfs 4 _ rfl
  have g5:=hfs 5 _ rfl
  have hl6:cs.length=6:=hl.trans cells_node
  match cs,hl6 with
  | [c0,c1,c2,c3,c4,c5],_=>
   have g0:DataW.trod enc Tryz.prog W 0 (fun _=>true) true m 3 [c0]=some y0:=g0
   have g1:DataW.trod enc Tryz.prog W 0 (fun _=>true) true m 9 [c1]=some y1:=g1
   have g2:DataW.trod enc Tryz.prog W 0 (fun _=>true) true m 3 [c2]=some y2:=g2
   have g3:DataW.trod enc Tryz.prog W 0 (fun _=>true) true m 32 [c3]=some y3:=g3
   have g4:DataW.trod enc Tryz.prog W 0 (fun _=>true) true m 33 [c4]=some y4:=g4
   have g5:DataW.trod enc Tryz.prog W 0 (fun _=>true) true m 34 [c5]=some y5:=g5
   obtain⟨z0,e0,f0,_⟩:=(rdr_int Tryz.underlying3).rd _ _ _ _ g0
   obtain⟨z1,e1,f1,_⟩:=(rdr_string Tryz.underlying9).rd _ _ _ _ g1
   obtain⟨z2,e2,f2,w2⟩:=(rdr_int Tryz.underlying3).rd _ _ _ _ g2
   obtain⟨⟨v3,l3⟩,e3,s3,f3⟩:=((rdr_string Tryz.underlying9).slice (t:=32) (by kernel_rfl) (s:=1) (by kernel_rfl) (fun _=>rfl) (by omega)).rd _ _ _ _ g3
   obtain⟨⟨v4,l4⟩,e4,s4,f4⟩:=((rdr_int Tryz.underlying3).slice (t:=33) (by kernel_rfl) (s:=1) (by kernel_rfl) (fun _=>rfl) (by omega)).rd _ _ _ _ g4
   obtain⟨⟨v5,l5⟩,e5,s5,f5⟩:=(rdr_fld.slice (t:=34) (by kernel_rfl) (s:=3) (by kernel_rfl) (fun _=>rfl) (by omega)).rd _ _ _ _ g5
   injection e0 with e0 _
   injection e1 with e1 _
   injection e2 with e2 _
   injection e3 with e3 _
   injection e4 with e4 _
   injection e5 with e5 _
   subst e0;subst e1;subst e2;subst e3;subst e4;subst e5
   have w2' : -9223372036854775808≤z2∧z2≤9223372036854775807:=by simpa [Lit.wf,IntKind.min,IntKind.max,IntKind.signed,IntKind.bits] using w2
   have q3:=flat_one l3 Value.string
   have q4:=flat_one l4 (Value.int .i64)
   simp only at s3 s4 s5 f3 f4 f5
   rw[q3] at s3
   rw[q4] at s4
   replace s3:Sl W.heap.size W c3 l3.length (txs l3):=s3
   replace s4:Sl W.heap.size W c4 l4.length (intsZ l4):=s4
   refine⟨(⟨z0,z1,z2,l3,l4,l5⟩,(c3,c4,c5)),rfl,⟨s3,s4,s5,w2'⟩,?_⟩
   have b3:=f3.bulk (g:=fun s:ByteArray=>s.size+1) (fun x d h=>by rw[h.1];simp only[Rows.uptoBulk];have:x.data.toList.length=x.size:=Array.length_toList;omega)
   have b4:=f4.bulk (g:=fun _:Int=>1) (fun x d h=>by rw[h.1];simp[Rows.uptoBulk])
   have b5:=f5.bulk (g:=fldB) (fun x d h=>h)
   rw[sum_one] at b4
   rw[hD]
   simp only[List.map_cons,List.map_nil,f0,f1,f2,Rows.uptoBulk,Rows.uptoBulkAll]
   show z1.size+(l3.map fun s=>s.size+1).sum+l4.length+(l5.map fldB).sum+7≤_
   have:z1.data.toList.length=z1.size:=Array.length_toList
   omega
theorem nesC_zip:∀(l:List (Ne×V3)),l.flatMap (fun x=>neC x.1 x.2)=nesC (l.map (·.1)) (l.map (·.2))
 | []=>rfl
 | x::l=>by rw[List.flatMap_cons,nesC_zip l];rfl
def schB (ns:List Ne):Nat:=(ns.map nodeB).sum
theorem sch_arg {H:Type} {enc:TypeId×Value→H} {W:World} {base:Nat} {v:Value} {d:DataW H} {p:List MemPlace} (hv:Value.okWide Tryz.prog W .any base 24 v) (h:DataW.Trod enc Tryz.prog W 0 (fun _=>true) true 24 v d p) :
  ∃u ns,v=.agg #[u]∧Sch W.heap.size W u ns∧schB ns≤Rows.uptoBulk d:=by
 obtain⟨cs,rfl,hsz⟩:∃cs,v=.agg cs∧cs.size=1:=by
  unfold Value.okWide at hv
  rw[Tryz.underlying24] at hv
  obtain⟨cs,h1,h2,_⟩:=hv
  exact⟨cs,h1,h2.trans cells_sch⟩
 obtain⟨u,rfl⟩:∃u,cs = #[u]:=by
  match cs,hsz with
  | ⟨[a]⟩,_=>exact⟨a,rfl⟩
 obtain⟨fuel,hf⟩:=h
 obtain⟨y0,m,hx,_,g⟩:=trod_struct1 Tryz.underlying24 hf
 injection hx with hD _
 have g:DataW.trod enc Tryz.prog W 0 (fun _=>true) true m 22 [u]=some y0:=g
 obtain⟨⟨v3,l3⟩,e3,s3,f3⟩:=(rdr_node.slice (t:=22) (by kernel_rfl) (s:=6) (by kernel_rfl) (fun _=>rfl) (by omega)).rd _ _ _ _ g
 injection e3 with e3 _
 subst e3
 simp only at s3 f3
 rw[nesC_zip] at s3
 refine⟨u,l3.map (·.1),rfl,⟨l3.map (·.2),by simp,by rw[List.length_map];exact s3,fun i d v h1 h2=>?_⟩,?_⟩
 ·rw[List.getElem?_map] at h1 h2
  cases hx:l3[i]? with
  | none=>rw[hx] at h1;cases h1
  | some x=>
   rw[hx] at h1 h2
   injection h1 with h1
   injection h2 with h2
   subst h1;subst h2
   obtain⟨d,hd⟩:=f3.all i x hx
   exact hd.1
 ·have:=f3.bulk (g:=fun x=>nodeB x.1) (fun x d h=>h.2)
  rw[hD]
  simp only[Rows.uptoBulk,Rows.uptoBulkAll,schB,List.map_map,Function.comp_def]
  omega
end Go.Proofs.YtmaoochjbpohdaaGreatDoor.Args
namespace Go.Proofs.YtmaoochjbpohdaaGreatDoor.Pr
open Lx
def nodeW (d:Ne):Nat:=d.name.size+(d.syms.map fun s=>s.size+1).sum+d.items.length+(d.fields.map fun f=>f.1.size+3).sum+40
def wsum (ns:List Ne) (k:Nat):Nat:=((ns.take k).map nodeW).sum
theorem wsum_succ {ns:List Ne} {k:Nat} {d:Ne} (h:ns[k]?=some d):wsum ns (k+1)=wsum ns k+nodeW d:=by
 unfold wsum
 rw[List.take_add_one,h,List.map_append,List.sum_append]
 simp
theorem wsum_mono (ns:List Ne) {a b:Nat} (h:a≤b):wsum ns a≤wsum ns b:=by
 induction b with
 | zero => obtain rfl : a = 0 := by omega
           exact Nat.le_refl _
 | succ b ih=>
  rcases Nat.eq_or_lt_of_le h with e|e
  ·rw[e];exact Nat.le_refl _
  ·refine Nat.le_trans (ih (by omega)) ?_
   cases hd:ns[b]? with
   | some d=>rw[wsum_succ hd];omega
   | none=>unfold wsum;rw[List.take_add_one,hd];simp
theorem bs_len (t:ByteArray):(bs t).length=t.size:=size_list t
structure Gr (ns:List Ne) (B c:Nat) (st st':WSt):Prop where
 up:st.next≤st'.next
 top:st'.next≤ns.length
 len:max st'.s.length B+wsum ns st.next≤max st.s.length B+c+wsum ns st'.next
section
variable {ns:List Ne} {B:Nat}
theorem Gr.trans {c1 c2:Nat} {a b d:WSt} (h:Gr ns B c1 a b) (k:Gr ns B c2 b d):Gr ns B (c1+c2) a d:=⟨Nat.le_trans h.up k.up,k.top,by have:=h.len;have:=k.len;omega⟩
theorem Gr.le {c1 c2:Nat} {a b:WSt} (h:Gr ns B c1 a b) (k:c1≤c2):Gr ns B c2 a b:=⟨h.up,h.top,by have:=h.len;omega⟩
theorem Gr.put {st:WSt} (h:st.next≤ns.length) (t:List UInt8):Gr ns B t.length st (st.put t):=⟨Nat.le_refl _,h,by rw[WSt.put_len];show _+wsum ns st.next≤_+wsum ns st.next;omega⟩
def GT (ns:List Ne) (B:Nat) (T:WT):Prop:=∀n st,st.next≤ns.length→Gr ns B 0 st (T n st)
theorem wlist_gr {T:WT} (h:GT ns B T):∀(b:Bool) (l:List Int) (st:WSt),st.next≤ns.length→Gr ns B l.length st (wlist T b l st)
 | _,[],st,hn=>⟨Nat.le_refl _,hn,by rw[wlist];omega⟩
 | b,n::l,st,hn=>by
  rw[wlist]
  have h1:Gr ns B 1 st (if b then st else st.put [124]):=by
   split
   ·exact⟨Nat.le_refl _,hn,by omega⟩
   ·exact Gr.put hn [124]
  have h2:=h n _ h1.top
  exact ((h1.trans h2).trans (wlist_gr h false l _ h2.top)).le (by simp only[List.length_cons];omega)
theorem witems_gr {T:WT} (h:GT ns B T) (op:List UInt8) (l:List Int) (sh:List UInt8) (st:WSt) (hn:st.next≤ns.length):Gr ns B (op.length+l.length+sh.length) st (witems T op l sh st):=by
 unfold witems
 have h1:=Gr.put (B:=B) hn op
 have h2:=wlist_gr h true l _ h1.top
 exact (h1.trans h2).trans (Gr.put h2.top sh)
theorem wfield_gr {T:WT} (h:GT ns B T) (f:ByteArray×Bool×Int) (st:WSt) (hn:st.next≤ns.length):Gr ns B (f.1.size+3) st (wfield T f st):=by
 unfold wfield
 have h1:=Gr.put (B:=B) hn (bs f.1)
 have h2:Gr ns B (f.1.size+1) st (if f.2.1 then (st.put (bs f.1)).put [63] else st.put (bs f.1)):=by
  split
  ·exact (h1.trans (Gr.put h1.top [63])).le (by rw[bs_len];simp)
  ·exact h1.le (by rw[bs_len];omega)
 have h3:=h2.trans (Gr.put h2.top [58])
 have h4:=h3.trans (h f.2.2 _ h3.top)
 exact (h4.trans (Gr.put h4.top [59])).le (by simp only[List.length_cons,List.length_nil];omega)
theorem wflds_gr {T:WT} (h:GT ns B T):∀(l:List (ByteArray×Bool×Int)) (st:WSt),st.next≤ns.length→Gr ns B (l.map fun f=>f.1.size+3).sum st (wflds T l st)
 | [],st,hn=>⟨Nat.le_refl _,hn,by rw[wflds];omega⟩
 | f::l,st,hn=>by
  rw[wflds]
  have h1:=wfield_gr h f st hn
  exact (h1.trans (wflds_gr h l _ h1.top)).le (by simp)
theorem inter_le (l:List ByteArray):(([44]:List UInt8).intercalate (l.map bs)).length≤(l.map fun s=>s.size+1).sum:=by
 induction l with
 | nil=>simp
 | cons x l ih=>
  cases l with
  | nil=>
   have:bs x=x.data.toList:=rfl
   simp[List.intercalate,bs_len]
  | cons y l=>
   have e:([44]:List UInt8).intercalate ((x::y::l).map bs)=bs x++[44]++([44]:List UInt8).intercalate ((y::l).map bs):=by simp[List.intercalate]
   rw[e]
   have e2:((x::y::l).map fun s=>s.size+1).sum=(x.size+1)+((y::l).map fun s=>s.size+1).sum:=by rw[List.map_cons,List.sum_cons]
   rw[e2]
   simp only[List.length_append,bs_len,List.length_cons,List.length_nil] at ih ⊢
   omega
theorem wbody_gr {T:WT} (h:GT ns B T) (x:Ne) (st:WSt) (hn:st.next≤ns.length) (hz : -9223372036854775808≤x.size∧x.size≤9223372036854775807):Gr ns B (nodeW x) st (wbody T x st):=by
 unfold wbody
 have hi:∀(a b:UInt8),Gr ns B (nodeW x) st (witems T [a] x.items [b] st):=fun a b=>(witems_gr h _ _ _ st hn).le (by unfold nodeW;simp only[List.length_cons,List.length_nil];omega)
 split
 ·exact hi _ _
 ·split
  ·exact hi _ _
  ·split
   ·exact hi _ _
   ·split
    ·refine (Gr.put hn _).le ?_
     have:=inter_le x.syms
     unfold nodeW
     simp only[List.length_append,bs_len,sEn,List.length_cons,List.length_nil]
     omega
    ·split
     ·refine (Gr.put hn _).le ?_
      have:=Lib.itoa_length_le x.size hz.1 hz.2
      unfold nodeW
      simp only[List.length_append,bs_len,sFix,List.length_cons,List.length_nil]
      omega
     ·split
      ·unfold wrecord
       have h1:=Gr.put (B:=B) hn (sRec++bs x.name++[123])
       have h2:=h1.trans (wflds_gr h x.fields _ h1.top)
       refine (h2.trans (Gr.put h2.top [125])).le ?_
       unfold nodeW
       simp only[List.length_append,bs_len,sRec,List.length_cons,List.length_nil]
       omega
      ·split
       ·exact⟨Nat.le_refl _,hn,by show max st.s.length B+wsum ns st.next≤max st.s.length B+nodeW x+wsum ns st.next;omega⟩
       ·refine (Gr.put hn _).le ?_
        next h1 h2 h3 h4 h5 h6 h7=>
        have hk:x.k.toNat<12:=by omega
        have:∀k,k<12→(bs (wordsL.getD k ⟨#[]⟩)).length≤6:=by decide
        have:=this _ hk
        unfold nodeW
        omega
theorem wtyp_gr (hB:∀d∈ns,4096+d.name.size≤B) (hz:∀d∈ns,-9223372036854775808≤d.size∧d.size≤9223372036854775807):∀f,GT ns B (wtyp ns f)
 | 0,n,st,hn=>⟨Nat.le_refl _,hn,by rw[wtyp];simp⟩
 | f+1,n,st,hn=>by
  rw[wtyp]
  split
  ·exact⟨Nat.le_refl _,hn,by simp⟩
  ·next hs=>
   unfold wstop at hs
   simp only[not_or,Int.not_lt,Int.not_le,Nat.not_lt] at hs
   obtain⟨h1,h2,h3,h4,h5,h6⟩:=hs
   obtain⟨m,rfl⟩:∃m:Nat,n=m:=⟨n.toNat,by omega⟩
   have hm:m<ns.length:=by omega
   have hg:ns.getD m neD=ns[m]:=by rw[List.getD,List.getElem?_eq_getElem hm];rfl
   have hmem:ns[m]∈ns:=List.getElem_mem hm
   rw[Int.toNat_natCast,hg]
   split
   ·refine⟨Nat.le_refl _,hn,?_⟩
    show max (st.put _).s.length B+wsum ns st.next≤max st.s.length B+0+wsum ns st.next
    rw[WSt.put_len,bs_len]
    have:=hB _ hmem
    omega
   ·next hlt=>
    obtain rfl:m=st.next:=by omega
    have hb:=wbody_gr (wtyp_gr hB hz f) ns[st.next] { st with next:=st.next+1 } (by show st.next+1≤_;omega) (hz _ hmem)
    have e:=wsum_succ (ns:=ns) (k:=st.next) (List.getElem?_eq_getElem hm)
    refine⟨by have:=hb.up;simp only at this;omega,hb.top,?_⟩
    have:=hb.len
    simp only at this
    rw[e] at this
    omega
end
theorem sum_mem (l:List Nat) (x:Nat) (h:x∈l):x≤l.sum:=by
 induction l with
 | nil=>cases h
 | cons y l ih=>
  rcases List.mem_cons.1 h with e|e
  ·subst e;simp
  ·have:=ih e;simp;omega
theorem nodeW_le (d:Ne):nodeW d≤40*Args.nodeB d:=by
 have h1:(d.fields.map fun f=>f.1.size+3).sum≤(d.fields.map Args.fldB).sum:=by
  generalize d.fields=l
  induction l with
  | nil=>simp
  | cons f l ih=>simp only[List.map_cons,List.sum_cons,Args.fldB];omega
 unfold nodeW Args.nodeB
 omega
theorem sum_nodeW (l:List Ne):(l.map nodeW).sum≤40*(l.map Args.nodeB).sum:=by
 induction l with
 | nil=>simp
 | cons d l ih=>have:=nodeW_le d;simp only[List.map_cons,List.sum_cons];omega
theorem show_bound {ns:List Ne} (hb:Args.schB ns≤1048576) (hz:∀d∈ns,-9223372036854775808≤d.size∧d.size≤9223372036854775807):showLen ns≤100000000:=by
 have hM:∀d∈ns,4096+d.name.size≤2000000:=fun d hd=>by
  have:=sum_mem (ns.map Args.nodeB) (Args.nodeB d) (List.mem_map_of_mem hd)
  unfold Args.schB at hb
  have:d.name.size≤Args.nodeB d:=by unfold Args.nodeB;omega
  omega
 have h:=wtyp_gr hM hz 20 0 ⟨[],0,false⟩ (Nat.zero_le _)
 have h1:=h.len
 have h2:=wsum_mono ns h.top
 have h3:wsum ns ns.length≤40*Args.schB ns:=by
  unfold wsum Args.schB
  rw[List.take_length]
  exact sum_nodeW ns
 show (wtyp ns 20 0 ⟨[],0,false⟩).s.length≤_
 have h4:([]:List UInt8).length=0:=rfl
 simp only[List.length_nil] at h1
 omega
theorem sch_lens {ns:List Ne} (hb:Args.schB ns≤1048576):ns.length≤1000000∧∀d∈ns,d.syms.length≤1048576∧d.items.length≤1048576∧d.fields.length≤1048576∧d.syms.length+d.items.length+d.fields.length≤1048576:=by
 have h1:∀l:List Ne,7*l.length≤(l.map Args.nodeB).sum:=by
  intro l
  induction l with
  | nil=>simp
  | cons d l ih=>simp only[List.map_cons,List.sum_cons,List.length_cons,Args.nodeB];omega
 refine⟨by have:=h1 ns;unfold Args.schB at hb;omega,fun d hd=>?_⟩
 have h2:=sum_mem (ns.map Args.nodeB) (Args.nodeB d) (List.mem_map_of_mem hd)
 unfold Args.schB at hb
 have h3:d.syms.length≤(d.syms.map fun s=>s.size+1).sum:=by
  generalize d.syms=l
  induction l with
  | nil=>simp
  | cons f l ih=>simp only[List.map_cons,List.sum_cons,List.length_cons];omega
 have h4:d.fields.length≤(d.fields.map Args.fldB).sum:=by
  generalize d.fields=l
  induction l with
  | nil=>simp
  | cons f l ih=>simp only[List.map_cons,List.sum_cons,List.length_cons,Args.fldB];omega
 have:d.syms.length+d.items.length+d.fields.length≤Args.nodeB d:=by unfold Args.nodeB;omega
 omega
theorem show_inj {a b:List Ne} {s t:List UInt8} (h:showP a=some s) (k:showP b=some t):s=t↔a=b:=by
 have q:∀ {a:List Ne} {s:List UInt8},showP a=some s→(parseP ⟨s.toArray⟩).1.map Nd.toE=a:=by
  intro a s h
  unfold showP at h
  simp only at h
  split at h
  ·cases h
  ·split at h
   ·cases h
   ·next hn=>
    injection h with h
    subst h
    simp only[not_or,ne_eq,Decidable.not_not] at hn
    exact hn.2
 constructor
 ·intro e
  rw[←q h,←q k,e]
 ·intro e
  rw[e,k] at h
  injection h with h
  exact h.symm
end Go.Proofs.YtmaoochjbpohdaaGreatDoor.Pr
