/- lex: Words, walked. -/
import Derived.Test.YtllhhpcabncmiaaGreatDoorDsA
import Derived.Maps.AppendAt
import Derived.Maps.OwnIn
import Derived.Deep.Upon
set_option linter.unusedVariables false
set_option linter.unusedSimpArgs false
set_option maxRecDepth 100000
set_option maxHeartbeats 1000000
namespace Go.Proofs.YtllhhpcabncmiaaGreatDoor
namespace Lx
open Go.RowKit Go.Shelf
open Base
attribute [local go_sem] Oper.semAt_some
def tcells (x:Tok):List Value:=[.int .i64 x.k,.string x.s,.int .i64 (x.a:Int)]
def rows (l:List Tok):List Value:=l.flatMap tcells
theorem rows_snoc (l:List Tok) (x:Tok):rows (l++[x])=rows l++tcells x:=by simp[rows]
theorem rows_length (l:List Tok):(rows l).length=l.length*3:=by
 induction l with
 | nil=>rfl
 | cons x l ih=>simp only[rows,List.flatMap_cons,List.length_append,List.length_cons] at *;rw[ih];simp[tcells];omega
def wordsR:List Tok→Nat→Option (Int×Int)
 | [],_=>none
 | x::l,n=>if x.k<0 then some (x.a,4) else if n=1500 then some (4096,2) else wordsR l (n+1)
theorem wordsR_append:∀(l m:List Tok) (n:Nat),wordsR (l++m) n=match wordsR l n with|some r=>some r|none=>wordsR m (n+l.length)
 | [],m,n=>rfl
 | x::l,m,n=>by
  rw[List.cons_append,wordsR,wordsR]
  split
  ·rfl
  ·split
   ·rfl
   ·rw[wordsR_append l m (n+1),List.length_cons,show n+1+l.length=n+(l.length+1) by omega]
theorem wordsR_len:∀(l:List Tok) (n:Nat),n≤1500→wordsR l n=none→n+l.length≤1500
 | [],n,h,_=>h
 | x::l,n,h,e=>by
  rw[wordsR] at e
  split at e
  ·cases e
  ·split at e
   ·cases e
   ·have:=wordsR_len l (n+1) (by omega) e
    rw[List.length_cons];omega
def words (s:ByteArray):Option (Int×Int):=if 4096<s.size then some (0,2) else wordsR (toks s) 0
def Rt (w:World) (v:Value) (l:List Tok):Prop:=∃g cap,v=.slice (some ⟨g,0,none⟩) l.length cap∧(∀j u,(rows l)[j]?=some u→w.cell? ⟨g,j,none⟩=some u)∧l.length≤cap∧cap≤maxLen
theorem blk_own {β:Type} (B:Nat) (t:TypeId) (f:β→Array Value):Own (fun s W=>Blk W B (f s) t):=fun s X Y row hs hg hrow=>
 (hg.block B hs.lt (fun e'=>by obtain⟨o,ho,hc⟩:=hrow B e'.symm;rw[show X.heap[B]?=_ from hs] at ho;cases ho;cases hc)).trans hs
theorem infoTok:(Tryz.prog.info? 102).map (fun i=>(i.zero,i.size,i.bytes))=some (some (.agg #[.int .i64 0,.string ByteArray.empty,.int .i64 0]),3,32):=by kernel_rfl
theorem Kp.turn {Bn:Nat} {w:World} (hB:Bn<w.heap.size) (W:World) (l:Nat) (o o':Obj) (hl:w.heap.size≤l) (h:W.heap[l]?=some o) (_:o.isCells=false) (_:o.isWalk=false):Kp Bn W (W.putObj l o'):=
 ⟨by simp,fun o2 h2=>((grownBy_putObj' W l o').block Bn (Array.getElem?_eq_some_iff.1 h2).1 (fun e=>by injection e with e;omega)).trans h2⟩
theorem Kp.of_box {Bn:Nat} {t:TypeId} {v:Value} {W W':World} (h:W.heap.size≤W'.heap.size) (b:Boxed W Bn t v) (b':Boxed W' Bn t v):Kp Bn W W':=⟨h,fun o ho=>by rw[show W.heap[Bn]?=_ from b] at ho;rw[←ho];exact b'⟩
theorem toks_ne (s:ByteArray):toks s≠[]:=by
 unfold toks
 rw[tokG]
 split<;>simp
theorem rt_of_own {w:World} {base:Nat} {v:Value} {l:List Tok} (h:w.ownsRow base 102 3 v l.length (rows l)) (hl:l≠[]):Rt w v l:=by
 rcases h.2 with⟨rfl,h0⟩|⟨g,cap,cur,rfl,_,hg,_,_,hc,ht⟩
 ·exact absurd (List.eq_nil_of_length_eq_zero h0) hl
 ·refine⟨g,cap,rfl,fun j u hj=>?_,by assumption,by assumption⟩
  rw[show w.cell? ⟨g,j,none⟩=cur[j]? from cell_of_row w g j cur 102 (0,0) hg]
  rw[←ht,List.getElem?_take] at hj
  split at hj
  ·simpa using hj
  ·cases hj
theorem own_slice {w:World} {base:Nat} {e:TypeId} {size n:Nat} {v:Value} {xs:List Value} (h:w.ownsRow base e size v n xs):∃A cap,v=.slice A n cap:=by
 rcases h.2 with⟨rfl,rfl⟩|⟨g,cap,cur,rfl,_⟩
 ·exact⟨none,0,rfl⟩
 ·exact⟨_,cap,rfl⟩
theorem cells_new (w:World) (cs:List Value) (t:TypeId):∀j u,cs[j]?=some u→(w.alloc (.cells cs.toArray t)).cell? ((⟨w.heap.size,0,none⟩:Addr).add j)=some u:=fun j u hj=>by
 have hadd:(⟨w.heap.size,0,none⟩:Addr).add j=⟨w.heap.size,j,none⟩:=by unfold Addr.add;split<;>simp_all
 rw[hadd,(Blk.new w cs.toArray t).cell j,List.getElem?_toArray,hj]
theorem three {w W:World} {B:Nat} {t2 t3 t4:TypeId} {v2 v3 v4:Value} (x y z:Value) (c2:Boxed W B t2 v2) (c3:Boxed W (B+1) t3 v3) (c4:Boxed W (B+1+1) t4 v4) (hB:Below B w W) :
  Boxed (((W.setCell ⟨B,0,none⟩ x).setCell ⟨B+1,0,none⟩ y).setCell ⟨B+1+1,0,none⟩ z) B t2 x∧Boxed (((W.setCell ⟨B,0,none⟩ x).setCell ⟨B+1,0,none⟩ y).setCell ⟨B+1+1,0,none⟩ z) (B+1) t3 y∧
  Boxed (((W.setCell ⟨B,0,none⟩ x).setCell ⟨B+1,0,none⟩ y).setCell ⟨B+1+1,0,none⟩ z) (B+1+1) t4 z∧KeepsOthers W (((W.setCell ⟨B,0,none⟩ x).setCell ⟨B+1,0,none⟩ y).setCell ⟨B+1+1,0,none⟩ z)∧
  Below B w (((W.setCell ⟨B,0,none⟩ x).setCell ⟨B+1,0,none⟩ y).setCell ⟨B+1+1,0,none⟩ z):=
 ⟨((c2.set x).other (by omega) _).other (by omega) _,((c3.other (by omega) _).set y).other (by omega) _,((c4.other (by omega) _).other (by omega) _).set z,
  ((KeepsOthers.setCell _ _ _).trans (KeepsOthers.setCell _ _ _)).trans (KeepsOthers.setCell _ _ _),
  ((hB.setCell (p:=⟨B,0,none⟩) (Nat.le_refl _) _).setCell (p:=⟨B+1,0,none⟩) (by show B≤B+1;omega) _).setCell (p:=⟨B+1+1,0,none⟩) (by show B≤B+1+1;omega) _⟩
theorem res3 {w:World} {tmps:Array Value} {a b c:Nat} {u v x:Value} (ha:tmps[2]?.getD undef=.pointer (some ⟨a,0,none⟩)) (hb:tmps[3]?.getD undef=.pointer (some ⟨b,0,none⟩)) (hc:tmps[4]?.getD undef=.pointer (some ⟨c,0,none⟩))
  (h1:w.cell? ⟨a,0,none⟩=some u) (h2:w.cell? ⟨b,0,none⟩=some v) (h3:w.cell? ⟨c,0,none⟩=some x):(results Tryz.f112 tmps).run Tryz.prog w=.ok (.tuple #[u,v,x]) w:=by
 simp[results,Tryz.f112,go_sem,ha,hb,hc,h1,h2,h3]
set_option maxHeartbeats 4000000 in
theorem words_any (s:ByteArray) (hs:s.size≤140737488351232) (w:World) :
  Calls Tryz.prog 112 #[.string s] w fun e w'=>∃v p er,e=.returned (.tuple #[v,.int .i64 p,.int .i64 er])∧(words s=some (p,er)∧v=.slice none 0 0∨words s=none∧p=0∧er=0∧Rt w' v (toks s))∧Ext w w':=by
 obtain⟨i0,hi,hz0,hz1,hz2⟩:=info_parts infoTok
 have htok:=tokens_any s
 refine (callsIn_wide (n:=10)).1 ?_
 refine callsIn_of_wp_marks Tryz.func112 rfl trivial ?_ rfl
 simp only[Tryz.ntmps112,List.size_toArray,List.length_cons,List.length_nil,Nat.reduceAdd,Nat.reduceSub,Array.replicate_succ,Array.replicate_zero,List.push_toArray,List.append_toArray,List.nil_append,List.cons_append]
 by_cases hlong:4096<s.size
 ·have hl:(s.size:Int)>4096:=by omega
  have hw:words s=some (0,2):=by rw[words,if_pos hlong]
  gi_wp2
  have b2:Boxed (((w.alloc (.cells #[.slice none 0 0] 94)).alloc (.cells #[.int .i64 0] 3)).alloc (.cells #[.int .i64 2] 33)) w.heap.size 94 (.slice none 0 0):=((Boxed.new w _ _).alloc _).alloc _
  have b3:Boxed (((w.alloc (.cells #[.slice none 0 0] 94)).alloc (.cells #[.int .i64 0] 3)).alloc (.cells #[.int .i64 2] 33)) (w.heap.size+1) 3 (.int .i64 0):=by
   have h:=(Boxed.new (w.alloc (.cells #[.slice none 0 0] 94)) 3 (.int .i64 0)).alloc (.cells #[.int .i64 2] 33)
   rwa [World.size_alloc] at h
  have b4:Boxed (((w.alloc (.cells #[.slice none 0 0] 94)).alloc (.cells #[.int .i64 0] 3)).alloc (.cells #[.int .i64 2] 33)) (w.heap.size+1+1) 33 (.int .i64 2):=by
   have h:=Boxed.new ((w.alloc (.cells #[.slice none 0 0] 94)).alloc (.cells #[.int .i64 0] 3)) 33 (.int .i64 2)
   rwa [World.size_alloc,World.size_alloc] at h
  refine⟨_,res3 rfl rfl rfl b2.cell b3.cell b4.cell,_,_,_,rfl,.inl ⟨hw,rfl⟩,?_⟩
  exact (((Ext.refl w).alloc _).alloc _).alloc _
 ·have hl:¬(s.size:Int)>4096:=by omega
  gi_wp2_with (refine⟨trivial,?_⟩;gi_at_call 122;refine (callsIn_wide.2 (htok _)).mono ?_;rintro e w' ⟨rfl,rfl⟩)
  have hwd:words s=wordsR (toks s) 0:=by rw[words,if_neg hlong]
  have hB0:Below w.heap.size w (((((w.alloc (.cells #[.slice none 0 0] 94)).alloc (.cells #[.int .i64 0] 3)).alloc (.cells #[.int .i64 0] 33)).alloc (.cells #[.slice none 0 0] 94)).alloc (.cells #[.string s] 9)):=(((((Below.refl _ w).alloc (Nat.le_refl _) _).alloc (by simp) _).alloc (by simp;omega) _).alloc (by simp;omega) _).alloc (by simp;omega) _
  have hsz:(((((w.alloc (.cells #[.slice none 0 0] 94)).alloc (.cells #[.int .i64 0] 3)).alloc (.cells #[.int .i64 0] 33)).alloc (.cells #[.slice none 0 0] 94)).alloc (.cells #[.string s] 9)).heap.size=w.heap.size+5:=by simp
  have b2:Boxed (((((w.alloc (.cells #[.slice none 0 0] 94)).alloc (.cells #[.int .i64 0] 3)).alloc (.cells #[.int .i64 0] 33)).alloc (.cells #[.slice none 0 0] 94)).alloc (.cells #[.string s] 9)) w.heap.size 94 (.slice none 0 0):=((((Boxed.new w _ _).alloc _).alloc _).alloc _).alloc _
  have b3:Boxed (((((w.alloc (.cells #[.slice none 0 0] 94)).alloc (.cells #[.int .i64 0] 3)).alloc (.cells #[.int .i64 0] 33)).alloc (.cells #[.slice none 0 0] 94)).alloc (.cells #[.string s] 9)) (w.heap.size+1) 3 (.int .i64 0):=by
   have h:=(((Boxed.new (w.alloc (.cells #[.slice none 0 0] 94)) 3 (.int .i64 0)).alloc (.cells #[.int .i64 0] 33)).alloc (.cells #[.slice none 0 0] 94)).alloc (.cells #[.string s] 9)
   rwa [World.size_alloc] at h
  have b4:Boxed (((((w.alloc (.cells #[.slice none 0 0] 94)).alloc (.cells #[.int .i64 0] 3)).alloc (.cells #[.int .i64 0] 33)).alloc (.cells #[.slice none 0 0] 94)).alloc (.cells #[.string s] 9)) (w.heap.size+1+1) 33 (.int .i64 0):=by
   have h:=((Boxed.new ((w.alloc (.cells #[.slice none 0 0] 94)).alloc (.cells #[.int .i64 0] 3)) 33 (.int .i64 0)).alloc (.cells #[.slice none 0 0] 94)).alloc (.cells #[.string s] 9)
   rwa [World.size_alloc,World.size_alloc] at h
  have b5:Boxed (((((w.alloc (.cells #[.slice none 0 0] 94)).alloc (.cells #[.int .i64 0] 3)).alloc (.cells #[.int .i64 0] 33)).alloc (.cells #[.slice none 0 0] 94)).alloc (.cells #[.string s] 9)) (w.heap.size+1+1+1) 94 (.slice none 0 0):=by
   have h:=(Boxed.new (((w.alloc (.cells #[.slice none 0 0] 94)).alloc (.cells #[.int .i64 0] 3)).alloc (.cells #[.int .i64 0] 33)) 94 (.slice none 0 0)).alloc (.cells #[.string s] 9)
   rwa [World.size_alloc,World.size_alloc,World.size_alloc] at h
  have b9:Boxed (((((w.alloc (.cells #[.slice none 0 0] 94)).alloc (.cells #[.int .i64 0] 3)).alloc (.cells #[.int .i64 0] 33)).alloc (.cells #[.slice none 0 0] 94)).alloc (.cells #[.string s] 9)) (w.heap.size+1+1+1+1) 9 (.string s):=by
   have h:=Boxed.new ((((w.alloc (.cells #[.slice none 0 0] 94)).alloc (.cells #[.int .i64 0] 3)).alloc (.cells #[.int .i64 0] 33)).alloc (.cells #[.slice none 0 0] 94)) 9 (.string s)
   rwa [World.size_alloc,World.size_alloc,World.size_alloc,World.size_alloc] at h
  obtain⟨W0,hW0⟩:∃W0,((((w.alloc (.cells #[.slice none 0 0] 94)).alloc (.cells #[.int .i64 0] 3)).alloc (.cells #[.int .i64 0] 33)).alloc (.cells #[.slice none 0 0] 94)).alloc (.cells #[.string s] 9)=W0:=⟨_,rfl⟩
  rw[hW0] at b2 b3 b4 b5 b9 hB0 hsz ⊢
  clear hW0
  refine wpIn_rangeFunc_ownH rfl (by omega) (gf:=134) (lb := #[.pointer (some ⟨w.heap.size+1+1+1+1,0,none⟩)]) rfl trivial (enters_of Tryz.func134 (by kernel_rfl) rfl)
   (iter_stops _ (by omega) (w.heap.size+1+1+1+1) s hs W0 b9) Kp.trans (Kp.turn (by omega)) (Below.refl _ _) (fun _=>rfl)
   (fun pre W=>(((((∃v,Boxed W (w.heap.size+1+1+1) 94 v∧W.ownsRow w.heap.size 102 3 v pre.length (rows pre)∧wordsR pre 0=none)∧Boxed W w.heap.size 94 (.slice none 0 0))∧Boxed W (w.heap.size+1) 3 (.int .i64 0))∧Boxed W (w.heap.size+1+1) 33 (.int .i64 0))∧Boxed W (w.heap.size+1+1+1+1) 9 (.string s))∧Below w.heap.size w W)
   (fun c pre W=>(∃r:Int×Int,c=.ret∧wordsR pre 0=some r∧Boxed W w.heap.size 94 (.slice none 0 0)∧Boxed W (w.heap.size+1) 3 (.int .i64 r.1)∧Boxed W (w.heap.size+1+1) 33 (.int .i64 r.2))∧Below w.heap.size w W)
   (OwnFrom.and (OwnFrom.and (OwnFrom.and (OwnFrom.and (OwnFrom.and (Own.from (holdsRow_own w.heap.size (w.heap.size+1+1+1) 94 102 3 (fun pre:List Tok=>pre.length) rows (fun pre v=>wordsR pre 0=none)) _) (Own.from (boxed_own _ _ _) _)) (Own.from (boxed_own _ _ _) _)) (Own.from (boxed_own _ _ _) _)) (Own.from (boxed_own _ _ _) _)) (ownFrom_below (Nat.le_refl _) (by omega)))
   (fun c=>OwnFrom.and (Own.from (fun pre X Y row hs hg hr=>by
    obtain⟨r,h1,h2,h3,h4,h5⟩:=hs
    exact⟨r,h1,h2,boxed_own w.heap.size 94 (fun (_:Unit)=>Value.slice none 0 0) () X Y row h3 hg hr,boxed_own (w.heap.size+1) 3 (fun (_:Unit)=>Value.int .i64 r.1) () X Y row h4 hg hr,boxed_own (w.heap.size+1+1) 33 (fun (_:Unit)=>Value.int .i64 r.2) () X Y row h5 hg hr⟩) _) (ownFrom_below (Nat.le_refl _) (by omega)))
   ⟨⟨⟨⟨⟨⟨_,b5,World.ownsRow_nil _ _ _ _,rfl⟩,b2⟩,b3⟩,b4⟩,b9⟩,hB0⟩
   (fun x a' W=>∃Bx,w.heap.size+1+1+1+1<Bx∧Blk W Bx (tcells x).toArray 102∧a'={ tmps := #[.string s,undef,.pointer (some ⟨w.heap.size,0,none⟩),.pointer (some ⟨w.heap.size+1,0,none⟩),.pointer (some ⟨w.heap.size+1+1,0,none⟩),.pointer (some ⟨w.heap.size+1+1+1,0,none⟩),.pointer (some ⟨Bx,0,none⟩),.string s,.int .i64 (s.size:Int),.bool false,.string s,.func (.func 134) #[] #[.pointer (some ⟨w.heap.size+1+1+1+1,0,none⟩)],encT x,undef,undef,undef,undef,undef,undef,undef,undef,undef,undef,undef,undef,undef,undef,undef],defers:=[] })
   (fun x a' _ X Y row hs hg hr=>by obtain⟨Bx,h1,h2,h3⟩:=hs;exact⟨Bx,h1,blk_own Bx 102 (fun (_:Unit)=>(tcells x).toArray) () X Y row h2 hg (fun r e=>(hr r e).2),h3⟩)
   ?assign ?body ?done ?stop
  case assign=>
   rintro l pre x W K ⟨⟨⟨⟨⟨⟨v,hv,hrow,hok⟩,c2⟩,c3⟩,c4⟩,c9⟩,hB⟩ hK
   have hex:encT x=.agg #[.int .i64 x.k,.string x.s,.int .i64 (x.a:Int)]:=rfl
   rw[hex]
   gi_wp2
   refine hK _ _ ((KeepsOthers.alloc _ _).from _) (Kp.of_box (by simp) c9 (c9.alloc _)) ⟨⟨⟨⟨⟨⟨v,hv.alloc _,hrow.alloc _,hok⟩,c2.alloc _⟩,c3.alloc _⟩,c4.alloc _⟩,c9.alloc _⟩,hB.alloc hB.size _⟩ ⟨W.heap.size,c9.lt,Blk.new W _ _,rfl⟩
  case body=>
   rintro l pre x a' W hl2 ⟨r,hr⟩ ⟨⟨⟨⟨⟨⟨v,hv,hrow,hok⟩,c2⟩,c3⟩,c4⟩,c9⟩,hB⟩ ⟨Bx,hBx,bX,rfl⟩ hlt
   have ck:W.cell? ⟨Bx,0,none⟩=some (.int .i64 x.k):=bX.cell 0
   have cs:W.cell? ⟨Bx,1,none⟩=some (.string x.s):=bX.cell 1
   have ca:W.cell? ⟨Bx,2,none⟩=some (.int .i64 (x.a:Int)):=bX.cell 2
   have d2:=c2.cell;have d3:=c3.cell;have d4:=c4.cell;have dv:=hv.cell
   have f2:=c2.frozen;have f3:=c3.frozen;have f4:=c4.frozen;have fv:=hv.frozen
   by_cases hk:x.k<0
   ·gi_wp2
    have hre:wordsR (pre++[x]) 0=some ((x.a:Int),4):=by rw[wordsR_append,hok];simp[wordsR,hk]
    obtain⟨e2,e3,e4,hko,hbe⟩:=three (w:=w) (.slice none 0 0) (.int .i64 (x.a:Int)) (.int .i64 4) c2 c3 c4 hB
    gi_region
    all_goals gi_wp2
    all_goals exact⟨(hko.trans (KeepsOthers.drew _)).from _,⟨_,rfl,hre,e2,e3,e4⟩,hbe.drew⟩
   ·have hk0:0≤x.k:=by omega
    by_cases h15:pre.length=1500
    ·have hre:wordsR (pre++[x]) 0=some (4096,2):=by rw[wordsR_append,hok];simp[wordsR,hk,h15]
     obtain⟨e2,e3,e4,hko,hbe⟩:=three (w:=w) (.slice none 0 0) (.int .i64 4096) (.int .i64 2) c2 c3 c4 hB
     obtain⟨A,cap,rfl⟩:=own_slice hrow
     have hb15:((pre.length:Int) == 1500)=true:=by rw[h15];rfl
     gi_wp2
     exact⟨hko.from _,⟨rfl,_,_,hre,e2,e3,e4⟩,hbe⟩
    ·have hre:wordsR (pre++[x]) 0=none:=by rw[wordsR_append,hok];simp[wordsR,hk,h15]
     have hpl:=wordsR_len pre 0 (by omega) hok
     have hpl2:pre.length≤1499:=by omega
     obtain⟨A,cap,rfl⟩:=own_slice hrow
     have hb15:((pre.length:Int) == 1500)=false:=by simp;omega
     have hrl:=rows_snoc pre x
     have hone:∀u∈tcells x,u.oneCell'=true:=by intro u hu;simp only[tcells,List.mem_cons,List.not_mem_nil,or_false] at hu;rcases hu with rfl|rfl|rfl<;>rfl
     have hWs:=hB.size
     gi_wp2_with (gi_at_builtin;refine wpListIn_append_own _ rfl _ _ 94 rfl w.heap.size 102 i0 _ 3 32 Tryz.underlying94 hi hz0 hz1 hz2 rfl (by decide) _ _ _ rfl (hrow.alloc _) ⟨W.heap.size,0,none⟩ 1 1 (tcells x) rfl rfl (cells_new W (tcells x) 102) hone (by unfold maxLen;omega) (by omega) (by simp;omega) ?_;intro v' w1 hown' hgrow _;obtain⟨g',cap',rfl⟩:=ownsRow_succ hown';obtain⟨hv1,hv2,hr2,hk2,hb2⟩:=hv.appended (by decide) hrow hB.size (by omega) hown' hgrow;have hc1:=hv1.cell;have hf1:=hv1.frozen)
     have q2:=((c2.alloc _).kept hgrow (c2.not_row (by decide) hrow)).other (show w.heap.size≠w.heap.size+1+1+1 by omega) (.slice (some ⟨g',0,none⟩) (pre.length+1) cap')
     have q3:=((c3.alloc _).kept hgrow (c3.not_row (by decide) hrow)).other (show w.heap.size+1≠w.heap.size+1+1+1 by omega) (.slice (some ⟨g',0,none⟩) (pre.length+1) cap')
     have q4:=((c4.alloc _).kept hgrow (c4.not_row (by decide) hrow)).other (show w.heap.size+1+1≠w.heap.size+1+1+1 by omega) (.slice (some ⟨g',0,none⟩) (pre.length+1) cap')
     have q9:=((c9.alloc _).kept hgrow (c9.not_row (by decide) hrow)).other (show w.heap.size+1+1+1+1≠w.heap.size+1+1+1 by omega) (.slice (some ⟨g',0,none⟩) (pre.length+1) cap')
     rw[←hrl] at hr2
     refine⟨hk2.from _,Kp.of_box hb2.size c9 q9,⟨⟨⟨⟨⟨_,hv2,by rw[List.length_append];exact hr2,hre⟩,q2⟩,q3⟩,q4⟩,q9⟩,hB.trans hb2⟩
  case done=>
   rintro D ys W hD rfl ⟨⟨⟨⟨⟨⟨v,hv,hrow,hok⟩,c2⟩,c3⟩,c4⟩,c9⟩,hB⟩ hK
   have d2:=c2.cell;have d3:=c3.cell;have d4:=c4.cell;have dv:=hv.cell
   have f2:=c2.frozen;have f3:=c3.frozen;have f4:=c4.frozen
   obtain⟨A,cap,rfl⟩:=own_slice hrow
   obtain⟨e2,e3,e4,hko,hbe⟩:=three (w:=w) (.slice A (toks s).length cap) (.int .i64 0) (.int .i64 0) c2 c3 c4 hB
   have hrow3:=((hrow.kept (grownBy_setCell' W w.heap.size (.slice A (toks s).length cap)) (.inr (c2.not_row (by decide) hrow).symm)).kept (grownBy_setCell' _ (w.heap.size+1) (.int .i64 0)) (.inr ((c3.other (by omega) _).not_row (by decide) (hrow.kept (grownBy_setCell' W w.heap.size (.slice A (toks s).length cap)) (.inr (c2.not_row (by decide) hrow).symm))).symm)).kept (grownBy_setCell' _ (w.heap.size+1+1) (.int .i64 0)) (.inr (((c4.other (by omega) _).other (by omega) _).not_row (by decide) ((hrow.kept (grownBy_setCell' W w.heap.size (.slice A (toks s).length cap)) (.inr (c2.not_row (by decide) hrow).symm)).kept (grownBy_setCell' _ (w.heap.size+1) (.int .i64 0)) (.inr ((c3.other (by omega) _).not_row (by decide) (hrow.kept (grownBy_setCell' W w.heap.size (.slice A (toks s).length cap)) (.inr (c2.not_row (by decide) hrow).symm))).symm))).symm)
   have hK':=hko.same D _ hK rfl
   gi_wp2
   refine⟨by simp,.inl ⟨_,_,rfl,run_takeDeferred hK',?_⟩⟩
   have hkc:∀ {a:Addr} {u:Value},World.cell? _ a=some u→World.cell? _ a=some u:=fun h=>cell_kept h (grownBy_putObj' _ D (.deferred none)) (fun r e=>by cases e;exact⟨_,hK',rfl⟩)
   refine⟨_,res3 rfl rfl rfl (hkc e2.cell) (hkc e3.cell) (hkc e4.cell),_,_,_,rfl,.inr ⟨by rw[hwd];exact hok,rfl,rfl,rt_of_own (ownsRow_putObj hrow3 _ hK' rfl) (toks_ne s)⟩,hbe.trans (belowK_b (w:=w) (Nat.le_refl _) _ D _ _ (by omega) hK' rfl rfl)⟩
  case stop=>
   rintro D c pre W hD hpre ⟨⟨r,rfl,hr,c2,c3,c4⟩,hB⟩ hK
   gi_wp2
   refine⟨by simp,.inl ⟨_,_,rfl,run_takeDeferred hK,?_⟩⟩
   have hkc:∀ {a:Addr} {u:Value},World.cell? _ a=some u→World.cell? _ a=some u:=fun h=>cell_kept h (grownBy_putObj' W D (.deferred none)) (fun r e=>by cases e;exact⟨_,hK,rfl⟩)
   have hw:words s=some (r.1,r.2):=by
    obtain⟨rest,he⟩:=hpre
    rw[hwd,←he,wordsR_append,hr]
   refine⟨_,res3 rfl rfl rfl (hkc c2.cell) (hkc c3.cell) (hkc c4.cell),_,_,_,rfl,.inl ⟨hw,rfl⟩,hB.trans (belowK_b (w:=w) (Nat.le_refl _) _ D _ _ (by omega) hK rfl rfl)⟩
end Lx
namespace Lx
open Go.ChangeShapes Go.WideShapes Go.ChangeAt Go.RowKit Go.Shelf
open Base
def nameP (s:ByteArray):Bool:=decide (1≤s.size) && decide (s.size≤40) && letterP (byteAt s 0) && decide (runP innerP s.data.toList=s.size)
theorem size_zero {s:ByteArray} (h:s.size=0):s=⟨#[]⟩:=by
 cases s with
 | mk d=>congr 1;exact Array.eq_empty_of_size_eq_zero h
theorem ne_empty {s:ByteArray} (h:s.size≠0):s.toList.isEmpty=false∧¬s.toList=[]:=by
 have e:s.toList.length=s.size:=by rw[ByteArray.toList_eq];exact Array.length_toList
 have hne:¬s.toList=[]:=fun e2=>h (by rw[←e,e2];rfl)
 exact⟨by simpa using hne,hne⟩
theorem name_any (s:ByteArray) (hs:s.size≤140737488351232) (w:World):Calls Tryz.prog 143 #[.string s] w fun e w'=>e=.returned (.bool (nameP s))∧w'=w:=by
 by_cases h0:s.size=0
 ·obtain rfl:=size_zero h0
  go_enter Tryz.func143,Tryz.ntmps143
  go_wp2_with fail
  go_ret
  exact⟨rfl,rfl⟩
 ·obtain⟨q1,q2⟩:=ne_empty h0
  have hin:0<s.size:=by omega
  have hin':(0:Int)<(s.size:Int):=by omega
  have hlet:=letter_any (byteAt s 0)
  have hrun:=run_any s 0 138 innerP hs (by omega) enters_inner inner_any w
  rw[List.drop_zero] at hrun
  obtain⟨r,hr⟩:∃r,Hid (runP innerP s.data.toList=r):=⟨_,rfl⟩
  rw[hr.out] at hrun
  have hb:=byteAt_get s 0 hin
  go_enter Tryz.func143,Tryz.ntmps143
  by_cases h40:s.size≤40
  ·have h40':(s.size:Int)≤40:=by omega
   go_wp2_with fail
   refine (hlet w).mono ?_
   rintro e w1 ⟨rfl,hw⟩
   subst hw
   cases hl:letterP (byteAt s 0)
   ·go_wp2_with fail
    go_ret
    have:nameP s=false:=by simp[nameP,hl]
    rw[this];exact⟨rfl,rfl⟩
   ·go_wp2_with fail
    refine hrun.mono ?_
    rintro e w2 ⟨rfl,hw⟩
    subst hw
    by_cases hrs:r=s.size
    ·have hrb:((r:Int) == (s.size:Int))=true:=by rw[hrs];exact beq_self_eq_true _
     go_wp2_with fail
     go_ret
     have:nameP s=true:=by simp[nameP,hl,hr.out,hrs,h40];omega
     rw[this];exact⟨rfl,rfl⟩
    ·have hrb:((r:Int) == (s.size:Int))=false:=by simp;omega
     go_wp2_with fail
     go_ret
     have:nameP s=false:=by simp[nameP,hr.out,hrs]
     rw[this];exact⟨rfl,rfl⟩
  ·have h40':¬(s.size:Int)≤40:=by omega
   go_wp2_with fail
   go_ret
   have:nameP s=false:=by simp[nameP,h40]
   rw[this];exact⟨rfl,rfl⟩
end Lx
namespace Lx
def valP:List UInt8→Nat→Nat
 | [],n=>n
 | c::l,n=>valP l (10*n+(c.toNat-48))
def numO (l:List UInt8):Option Nat:=
 if l=[] then none else if 1<l.length∧(l.getD 0 0).toNat=48 then none else if ¬runP digitP l=l.length then none else if 4<l.length then none else if 4096<valP l 0 then none else some (valP l 0)
def refN:List UInt8→Nat→Nat→Option Nat
 | [],_,n=>some n
 | c::l,i,n=>if digitP c=false∨4096<n∨i=1∧n=0 then none else refN l (i+1) (n*10+(c.toNat-48))
def refO (l:List UInt8):Option Nat:=match refN l 0 0 with
 | some n=>if l=[]∨4096<n then none else some n
 | none=>none
theorem run_cons (p:UInt8→Bool) (c:UInt8) (l:List UInt8):runP p (c::l)=if p c=true then runP p l+1 else 0:=by
 unfold runP;rw[List.takeWhile_cons];split<;>rfl
theorem refN_big:∀(l:List UInt8) (i n:Nat),4096<n→refN l i n=none∨∃m,refN l i n=some m∧4096<m
 | [],i,n,h=>.inr ⟨n,rfl,h⟩
 | c::l,i,n,h=>by left;rw[refN,if_pos (.inr (.inl h))]
theorem digit_bounds {c:UInt8} (h:digitP c=true):48≤c.toNat∧c.toNat≤57:=by simpa [digitP] using h
theorem refN_no (l:List UInt8):∀(i n:Nat),¬runP digitP l=l.length→refN l i n=none:=by
 induction l with
 | nil=>intro i n h;exact absurd rfl h
 | cons c l ih=>
  intro i n h
  rw[refN]
  split
  ·rfl
  ·rename_i hc
   have hd:digitP c=true:=by cases hq:digitP c<;>simp_all
   rw[run_cons,if_pos hd,List.length_cons] at h
   exact ih _ _ (by omega)
theorem all_digit {c:UInt8} {l:List UInt8} (h:runP digitP (c::l)=(c::l).length):digitP c=true∧runP digitP l=l.length:=by
 rw[run_cons] at h
 split at h
 ·rename_i hd
  rw[List.length_cons] at h
  exact⟨hd,by omega⟩
 ·simp at h
theorem refN_go {c:UInt8} {l:List UInt8} {i n:Nat} (hd:digitP c=true) (hn:n≤4096) (hi:¬(i=1∧n=0)):refN (c::l) i n=refN l (i+1) (n*10+(c.toNat-48)):=by
 rw[refN,if_neg]
 rintro (h|h|h)
 ·rw[hd] at h;cases h
 ·omega
 ·exact hi h
theorem ref_eq (l:List UInt8):refO l=numO l:=by
 unfold refO
 by_cases hr:runP digitP l=l.length
 case neg=>
  rw[refN_no l 0 0 hr]
  unfold numO
  by_cases h0:l=[]
  ·subst h0;exact absurd rfl hr
  ·simp only[h0,if_false,hr,not_false_eq_true,if_true]
   split<;>rfl
 case pos=>
  match l,hr with
  | [],_=>simp[numO,refN]
  | [a],hr=>
   obtain⟨da,_⟩:=all_digit hr
   have ba:=digit_bounds da
   rw[refN_go da (by omega) (by omega),refN]
   simp only[numO,hr,valP,List.length_cons,List.length_nil]
   simp
  | [a,b],hr=>
   obtain⟨da,h1⟩:=all_digit hr
   obtain⟨db,_⟩:=all_digit h1
   have ba:=digit_bounds da;have bb:=digit_bounds db
   rw[refN_go da (by omega) (by omega)]
   by_cases hz:a.toNat=48
   ·rw[refN,if_pos (by omega)]
    simp[numO,hz]
   ·rw[refN_go db (by omega) (by omega),refN]
    have e:valP [a,b] 0=(0*10+(a.toNat-48))*10+(b.toNat-48):=by simp[valP];omega
    simp only[numO,hr,e,List.length_cons,List.length_nil]
    simp[hz]
  | [a,b,c],hr=>
   obtain⟨da,h1⟩:=all_digit hr
   obtain⟨db,h2⟩:=all_digit h1
   obtain⟨dc,_⟩:=all_digit h2
   have ba:=digit_bounds da;have bb:=digit_bounds db;have bc:=digit_bounds dc
   rw[refN_go da (by omega) (by omega)]
   by_cases hz:a.toNat=48
   ·rw[refN,if_pos (by omega)]
    simp[numO,hz]
   ·rw[refN_go db (by omega) (by omega),refN_go dc (by omega) (by omega),refN]
    have e:valP [a,b,c] 0=((0*10+(a.toNat-48))*10+(b.toNat-48))*10+(c.toNat-48):=by simp[valP];omega
    simp only[numO,hr,e,List.length_cons,List.length_nil]
    simp[hz]
  | [a,b,c,d],hr=>
   obtain⟨da,h1⟩:=all_digit hr
   obtain⟨db,h2⟩:=all_digit h1
   obtain⟨dc,h3⟩:=all_digit h2
   obtain⟨dd,_⟩:=all_digit h3
   have ba:=digit_bounds da;have bb:=digit_bounds db;have bc:=digit_bounds dc;have bd:=digit_bounds dd
   rw[refN_go da (by omega) (by omega)]
   by_cases hz:a.toNat=48
   ·rw[refN,if_pos (by omega)]
    simp[numO,hz]
   ·rw[refN_go db (by omega) (by omega),refN_go dc (by omega) (by omega),refN_go dd (by omega) (by omega),refN]
    have e:valP [a,b,c,d] 0=(((0*10+(a.toNat-48))*10+(b.toNat-48))*10+(c.toNat-48))*10+(d.toNat-48):=by simp[valP];omega
    simp only[numO,hr,e,List.length_cons,List.length_nil]
    simp[hz]
  | a::b::c::d::x::r,hr=>
   obtain⟨da,h1⟩:=all_digit hr
   obtain⟨db,h2⟩:=all_digit h1
   obtain⟨dc,h3⟩:=all_digit h2
   obtain⟨dd,h4⟩:=all_digit h3
   obtain⟨dx,_⟩:=all_digit h4
   have ba:=digit_bounds da;have bb:=digit_bounds db;have bc:=digit_bounds dc;have bd:=digit_bounds dd;have bx:=digit_bounds dx
   have hno:numO (a::b::c::d::x::r)=none:=by simp[numO]
   rw[hno,refN_go da (by omega) (by omega)]
   by_cases hz:a.toNat=48
   ·rw[refN,if_pos (by omega)]
   ·rw[refN_go db (by omega) (by omega),refN_go dc (by omega) (by omega),refN_go dd (by omega) (by omega)]
    by_cases hb:4096<(((0*10+(a.toNat-48))*10+(b.toNat-48))*10+(c.toNat-48))*10+(d.toNat-48)
    ·rw[refN,if_pos (.inr (.inl hb))]
    ·rw[refN_go dx (by omega) (by omega)]
     rcases refN_big r (0+1+1+1+1+1) (((((0*10+(a.toNat-48))*10+(b.toNat-48))*10+(c.toNat-48))*10+(d.toNat-48))*10+(x.toNat-48)) (by omega) with h|⟨m,h,hm⟩
     ·rw[h]
     ·rw[h];simp[hm]
theorem valP_ge:∀(l:List UInt8) (n:Nat),n≤valP l n
 | [],n=>Nat.le_refl _
 | c::l,n=>by have:=valP_ge l (10*n+(c.toNat-48));rw[valP];omega
theorem valP_le:∀(l:List UInt8) (n:Nat),runP digitP l=l.length→valP l n+1≤(n+1)*10 ^ l.length
 | [],n,h=>by simp[valP]
 | c::l,n,h=>by
  obtain⟨h1,h2⟩:=all_digit h
  have hb:=digit_bounds h1
  have ih:=valP_le l (10*n+(c.toNat-48)) h2
  rw[valP,List.length_cons,Nat.pow_succ]
  have h3:(10*n+(c.toNat-48)+1)≤(n+1)*10:=by omega
  calc valP l (10*n+(c.toNat-48))+1≤(10*n+(c.toNat-48)+1)*10 ^ l.length:=ih
   _≤((n+1)*10)*10 ^ l.length:=Nat.mul_le_mul_right _ h3
   _=(n+1)*(10 ^ l.length*10):=by rw[Nat.mul_assoc,Nat.mul_comm 10]
theorem valP_small (l:List UInt8) (h:runP digitP l=l.length) (h4:l.length≤4):valP l 0≤9999:=by
 have h1:=valP_le l 0 h
 have h2:10 ^ l.length≤10 ^ 4:=Nat.pow_le_pow_right (by omega) h4
 omega
end Lx
namespace Pr
open Lx
def sNull:ByteArray:=⟨#[110,117,108,108]⟩
def sBool:ByteArray:=⟨#[98,111,111,108]⟩
def sInt:ByteArray:=⟨#[105,110,116]⟩
def sLong:ByteArray:=⟨#[108,111,110,103]⟩
def sBytes:ByteArray:=⟨#[98,121,116,101,115]⟩
def sText:ByteArray:=⟨#[116,101,120,116]⟩
def sEnum:ByteArray:=⟨#[101,110,117,109]⟩
def sFixed:ByteArray:=⟨#[102,105,120,101,100]⟩
def sRecord:ByteArray:=⟨#[114,101,99,111,114,100]⟩
def wordsL:List ByteArray:=[sNull,sBool,sInt,sLong,sBytes,sText,⟨#[]⟩,⟨#[]⟩,⟨#[]⟩,sEnum,sFixed,sRecord]
def idxOf {α:Type} [DecidableEq α]:List α→α→Int
 | [],_ => -1
 | x::l,s=>if s=x then 0 else if idxOf l s<0 then -1 else idxOf l s+1
def kwP (s:ByteArray):Bool:=decide (s≠⟨#[]⟩) && decide (0≤idxOf wordsL s)
structure Nd where
 k:Int
 name:ByteArray
 size:Int
 syms:List ByteArray
 items:List Nat
 fields:List (ByteArray×Bool×Nat)
 deriving DecidableEq
structure PS where
 l:List Tok
 ns:List Nd
 nm:ByteArray→Option Nat
inductive Res (α:Type)
 | ok (a:α) (s:PS)
 | bad (at_ why:Nat)
def hd (l:List Tok):Tok:=l.headD ⟨3,⟨#[]⟩,0⟩
def failR {α:Type} (s:PS) (why:Nat):Res α:=.bad (hd s.l).a why
def isT (s:PS) (x:ByteArray):Bool:=decide ((hd s.l).k≠3) && decide ((hd s.l).s=x)
def PS.on (s:PS):PS:={ s with l:=s.l.tail }
def Res.bind {α β:Type} (r:Res α) (f:α→PS→Res β):Res β:=match r with
 | .ok a s=>f a s
 | .bad a w=>.bad a w
def mustR (s:PS) (x:ByteArray):Res Unit:=if isT s x then .ok () s.on else failR s 4
def goesR (s:PS) (x:ByteArray):Bool×PS:=if isT s x then (true,s.on) else (false,s)
def nameR (s:PS) (there:ByteArray→Bool):Res ByteArray:=
 if (hd s.l).k≠0∨kwP (hd s.l).s=true∨nameP (hd s.l).s=false then failR s 4
 else if there (hd s.l).s then failR s 6
 else .ok (hd s.l).s s.on
def cSqO:ByteArray:=⟨#[91]⟩
def cSqC:ByteArray:=⟨#[93]⟩
def cCuO:ByteArray:=⟨#[123]⟩
def cCuC:ByteArray:=⟨#[125]⟩
def cPaO:ByteArray:=⟨#[40]⟩
def cPaC:ByteArray:=⟨#[41]⟩
def cBar:ByteArray:=⟨#[124]⟩
def cLt:ByteArray:=⟨#[60]⟩
def cGt:ByteArray:=⟨#[62]⟩
def cCom:ByteArray:=⟨#[44]⟩
def cQ:ByteArray:=⟨#[63]⟩
def cCol:ByteArray:=⟨#[58]⟩
def cSem:ByteArray:=⟨#[59]⟩
def kindR (s:PS):Option Int:=
 if isT s cSqO then some 6 else if isT s cCuO then some 7 else if isT s cPaO then some 8
 else if (hd s.l).k≠0 then none
 else if kwP (hd s.l).s then some (idxOf wordsL (hd s.l).s)
 else if nameP (hd s.l).s then some (-1) else none
def gateR (fuel:Nat) (union:Bool) (ahead:List Nat) (s:PS) (k:Int) (n:Option Nat):Option Nat:=
 if fuel=0∨(0≤k∧200≤s.ns.length) then some 2
 else if k<0∧n=none then some 5
 else if union=true∧k=8 then some 4
 else if union=true∧k<0∧(n.getD 0)∈ahead then some 6
 else if union=true∧0≤k∧k<9∧(ahead.any fun m=>decide ((s.ns[m]?.map (·.k))=some k))=true then some 6
 else none
def Nd.ofKind (k:Int):Nd:=⟨k,⟨#[]⟩,0,[],[],[]⟩
def PS.setN (s:PS) (n:Nat) (f:Nd→Nd):PS:={ s with ns:=s.ns.modify n f }
def itemR (T:Bool→List Nat→PS→Res Nat) (s:PS) (n:Nat) (shut:ByteArray):Res Unit:=
 (T false [] s).bind fun x s1=>mustR (s1.setN n fun d=>{ d with items:=[x] }) shut
def unionR (T:Bool→List Nat→PS→Res Nat) (n:Nat):Nat→List Nat→PS→Res Unit
 | 0,_,s=>failR s 4
 | m+1,l,s=>(T true l s).bind fun x s1=>
  if isT s1 cPaC then .ok () (s1.on.setN n fun d=>{ d with items:=l++[x] })
  else (mustR s1 cBar).bind fun _ s2=>unionR T n m (l++[x]) s2
def symsR (n:Nat):Nat→List ByteArray→PS→Res Unit
 | 0,_,s=>failR s 4
 | m+1,l,s=>(nameR s fun x=>l.any fun y=>decide (y=x)).bind fun x s1=>
  if isT s1 cGt then .ok () (s1.on.setN n fun d=>{ d with syms:=l++[x] })
  else (mustR s1 cCom).bind fun _ s2=>symsR n m (l++[x]) s2
def fieldsR (T:Bool→List Nat→PS→Res Nat) (n:Nat):Nat→List (ByteArray×Bool×Nat)→PS→Res Unit
 | 0,_,s=>failR s 4
 | m+1,l,s=>
  if isT s cCuC then .ok () (s.on.setN n fun d=>{ d with fields:=l })
  else (nameR s fun x=>l.any fun f=>decide (f.1=x)).bind fun x s1=>
   (mustR (goesR s1 cQ).2 cCol).bind fun _ s2=>(T false [] s2).bind fun t s3=>(mustR s3 cSem).bind fun _ s4=>fieldsR T n m (l++[(x,(goesR s1 cQ).1,t)]) s4
def PS.called (s:PS) (n:Nat) (x:ByteArray):PS:={ l:=s.l,ns:=(s.setN n fun d=>{ d with name:=x }).ns,nm:=fun y=>if y=x then some n else s.nm y }
def definedR (T:Bool→List Nat→PS→Res Nat) (s:PS) (n:Nat) (k:Int):Res Unit:=
 (nameR s fun x=>(s.nm x).isSome).bind fun x s1=>
  let s2:PS:=s1.called n x
  if k=9 then (mustR s2 cLt).bind fun _ s3=>symsR n s3.l.length [] s3
  else if k=10 then
   (if (hd s2.l).k≠1∨numO (hd s2.l).s.data.toList=none then failR s2 4
   else .ok () (s2.on.setN n fun d=>{ d with size:=((numO (hd s2.l).s.data.toList).getD 0:Nat) }))
  else (mustR s2 cCuO).bind fun _ s3=>fieldsR T n s3.l.length [] s3
def typedR:Nat→Bool→List Nat→PS→Res Nat
 | fuel,union,ahead,s=>
  match kindR s with
  | none=>failR s 4
  | some k=>
   match gateR fuel union ahead s k (s.nm (hd s.l).s) with
   | some why=>failR s why
   | none=>
    if k<0 then .ok ((s.nm (hd s.l).s).getD 0) s.on
    else
     let n:=s.ns.length
     let s1:PS:={ s.on with ns:=s.ns++[Nd.ofKind k] }
     match fuel with
     | 0=>failR s 4
     | fuel+1=>
      if k=6 then (itemR (typedR fuel) s1 n cSqC).bind fun _ s2=>.ok n s2
      else if k=7 then (itemR (typedR fuel) s1 n cCuC).bind fun _ s2=>.ok n s2
      else if k=8 then (unionR (typedR fuel) n s1.l.length [] s1).bind fun _ s2=>.ok n s2
      else if k=9∨k=10∨k=11 then (definedR (typedR fuel) s1 n k).bind fun _ s2=>.ok n s2
      else .ok n s1
def parseP (s:ByteArray):List Nd×Int×Int:=match words s with
 | some (p,er)=>([],p,er)
 | none=>match typedR 20 false [] ⟨toks s,[],fun _=>none⟩ with
  | .bad a w=>([],a,w)
  | .ok _ s'=>if (hd s'.l).k≠3 then ([],(hd s'.l).a,4) else (s'.ns,0,0)
def tLive:ByteArray:=⟨#[114,101,99,111,114,100,32,112,123,97,63,58,40,110,117,108,108,124,112,41,59,125]⟩
theorem live_parse:parseP tLive=([⟨11,⟨#[112]⟩,0,[],[],[(⟨#[97]⟩,true,1)]⟩,⟨8,⟨#[]⟩,0,[],[2,0],[]⟩,⟨0,⟨#[]⟩,0,[],[],[]⟩],0,0):=by decide +kernel
end Pr
namespace Base
open Go.ChangeShapes Go.WideShapes Go.ChangeAt Go.RowKit
structure Chg (S:Nat→Prop) (w w':World):Prop where
 os:w'.os=w.os
 tape:w'.tape=w.tape
 output:w'.output=w.output
 size:w.heap.size≤w'.heap.size
 block:∀k,k<w.heap.size→¬S k→w'.heap[k]?=w.heap[k]?
theorem Chg.refl (S:Nat→Prop) (w:World):Chg S w w:=⟨rfl,rfl,rfl,Nat.le_refl _,fun _ _ _=>rfl⟩
theorem Chg.trans {S T:Nat→Prop} {a b c:World} (h:Chg S a b) (k:Chg T b c) (hT:∀i,i<a.heap.size→T i→S i):Chg S a c:=
 ⟨k.os.trans h.os,k.tape.trans h.tape,k.output.trans h.output,Nat.le_trans h.size k.size,fun i hi hs=>(k.block i (Nat.lt_of_lt_of_le hi h.size) (fun ht=>hs (hT i hi ht))).trans (h.block i hi hs)⟩
theorem Chg.mono {S T:Nat→Prop} {a b:World} (h:Chg S a b) (hT:∀i,i<a.heap.size→S i→T i):Chg T a b:=
 ⟨h.os,h.tape,h.output,h.size,fun i hi hs=>h.block i hi (fun x=>hs (hT i hi x))⟩
theorem Chg.ofGrown {a b:World} {r:Option Nat} (h:a.grownBy b r):Chg (fun k=>r=some k) a b:=⟨h.os,h.tape,h.output,h.size,fun i hi hs=>h.block i hi (fun e=>hs e.symm)⟩
theorem Chg.ofExt {S:Nat→Prop} {a b:World} (h:Ext a b):Chg S a b:=⟨h.os,h.tape,h.output,h.size,fun i hi _=>h.block i hi⟩
theorem Chg.toExt {S:Nat→Prop} {a b:World} (h:Chg S a b) (hn:∀k,k<a.heap.size→¬S k):Ext a b:=⟨h.os,h.tape,h.output,h.size,fun i hi=>h.block i hi (hn i hi)⟩
theorem Ext.chg {S:Nat→Prop} {a b c:World} (h:Ext a b) (k:Chg S b c) (hn:∀i,i<a.heap.size→¬S i):Ext a c:=
 (Chg.toExt (S:=S) ((Chg.ofExt h).trans k (fun _ _ x=>x)) hn)
theorem Chg.set {S:Nat→Prop} {a b:World} (h:Chg S a b) {p:Addr} (hp:S p.block∨a.heap.size≤p.block) (u:Value):Chg S a (b.setCell p u):=
 ⟨h.os,h.tape,h.output,by simpa using h.size,fun i hi hs=>(heap_setCell_other b p i u (fun e=>by rcases hp with x|x;exact hs (e ▸ x);omega)).trans (h.block i hi hs)⟩
theorem Chg.blk {S:Nat→Prop} {a b:World} (h:Chg S a b) {g:Nat} {cs:Array Value} {t:TypeId} (hb:Blk a g cs t) (hg:¬S g):Blk b g cs t:=(h.block g hb.lt hg).trans hb
theorem Chg.cell {S:Nat→Prop} {a b:World} (h:Chg S a b) {p:Addr} {v:Value} (hc:a.cell? p=some v) (hn:¬S p.block):b.cell? p=some v:=
 (World.cell?_of_block (h.block p.block (World.block_lt_of_cell? a p hc) hn)).trans hc
theorem Chg.heap {S:Nat→Prop} {a b:World} (h:Chg S a b) {g:Nat} {o:Obj} (hg:a.heap[g]?=some o) (hn:¬S g):b.heap[g]?=some o:=
 (h.block g (Array.getElem?_eq_some_iff.1 hg).1 hn).trans hg
def OwnS (w:World) (v:Value) (cs:List Value):Prop:=∃ao b off cap,v=.slice ao cs.length cap∧Came w 1 ao b off cs.length cap cs∧cap≤maxLen
theorem OwnS.nil (w:World):OwnS w (.slice none 0 0) []:=
 ⟨none,0,0,0,rfl,⟨Nat.le_refl _,fun h=>absurd h (Nat.lt_irrefl _),fun h=>absurd h (Nat.lt_irrefl _),rfl,fun j u h=>by simp at h,fun j h=>by simp at h⟩,Nat.zero_le _⟩
theorem OwnS.zero (w:World) (ao:Option Addr):OwnS w (.slice ao 0 0) []:=
 ⟨ao,0,0,0,rfl,⟨Nat.le_refl _,fun h=>absurd h (Nat.lt_irrefl _),fun h=>absurd h (Nat.lt_irrefl _),rfl,fun j u h=>by simp at h,fun j h=>by simp at h⟩,Nat.zero_le _⟩
theorem OwnS.rd {w:World} {v:Value} {cs:List Value} (h:OwnS w v cs):∃A c,v=.slice A cs.length c∧Rd w A cs∧cs.length≤c∧c≤maxLen∧(A=none→c=0):=by
 obtain⟨ao,b,off,cap,rfl,hc,hm⟩:=h
 refine⟨ao,cap,rfl,fun hne=>?_,hc.le,hm,fun e=>?_⟩
 ·have hp:0<cap:=by have:=List.length_pos_iff.2 hne;have:=hc.le;omega
  exact⟨b,off,hc.addr hp,hc.olds⟩
 ·rcases Nat.eq_zero_or_pos cap with h0|h0
  ·exact h0
  ·have:=hc.addr h0;rw[e] at this;cases this
theorem OwnS.lt {w:World} {v:Value} {cs:List Value} (h:OwnS w v cs) (hn:cs≠[]):∀k,v.ownBlock=some k→k<w.heap.size:=by
 obtain⟨ao,b,off,cap,rfl,hc,hm⟩:=h
 intro k hk
 have hp:0<cap:=by have:=List.length_pos_iff.2 hn;have:=hc.le;omega
 rw[hc.addr hp] at hk
 simp only[Value.ownBlock,Option.some.injEq] at hk
 exact hk ▸ hc.lt hp
theorem OwnS.keep {S:Nat→Prop} {w w':World} {v:Value} {cs:List Value} (h:OwnS w v cs) (hx:Chg S w w') (hn:∀k,v.ownBlock=some k→¬S k):OwnS w' v cs:=by
 obtain⟨ao,b,off,cap,rfl,hc,hm⟩:=h
 refine⟨ao,b,off,cap,rfl,?_,hm⟩
 have hb:0<cap→w'.heap[b]?=w.heap[b]?:=fun hp=>hx.block b (hc.lt hp) (hn b (by rw[hc.addr hp];rfl))
 refine⟨hc.le,hc.addr,fun hp=>Nat.lt_of_lt_of_le (hc.lt hp) hx.size,hc.oldsLen,fun j u hj=>?_,fun j hj=>?_⟩
 ·have hp:0<cap:=by have:=(List.getElem?_eq_some_iff.1 hj).1;have:=hc.le;omega
  exact (World.cell?_of_block (a:=⟨b,off+j,none⟩) (hb hp)).trans (hc.olds j u hj)
 ·have hp:0<cap:=by omega
  rw[World.cell?_of_block (a:=⟨b,off+cs.length*1+j,none⟩) (hb hp),World.frozen?_of_block (a:=⟨b,off+cs.length*1+j,none⟩) (hb hp)]
  exact hc.spare j hj
theorem OwnS.ext {w w':World} {v:Value} {cs:List Value} (h:OwnS w v cs) (hx:Ext w w'):OwnS w' v cs:=h.keep (S:=fun _=>False) (Chg.ofExt hx) (fun _ _ x=>x)
theorem OwnS.drop {w:World} {b off n cap:Nat} {cs:List Value} (h:OwnS w (.slice (some ⟨b,off,none⟩) n cap) cs) (k:Nat) (hk:k≤n):OwnS w (.slice (some ⟨b,off+k,none⟩) (n-k) (cap-k)) (cs.drop k):=by
 obtain⟨ao,b',off',cap',e,hc,hm⟩:=h
 injection e with e1 e2 e3
 subst e1;subst e2;subst e3
 have hl:(cs.drop k).length=cs.length-k:=List.length_drop
 refine⟨_,b,off+k,cap-k,by rw[hl],?_,by omega⟩
 have hb:0<cap→b=b'∧off=off':=fun hp=>by
  have:=hc.addr hp
  simp only[Option.some.injEq,Addr.mk.injEq,and_true] at this
  exact this
 have hle:=hc.le
 refine⟨by omega,fun _=>rfl,fun hp=>by rw[(hb (by omega)).1];exact hc.lt (by omega),by omega,fun j u hj=>?_,fun j hj=>?_⟩
 ·have hj2:=(List.getElem?_eq_some_iff.1 hj).1
  rw[List.getElem?_drop] at hj
  have hx:=hc.olds (k+j) u hj
  obtain⟨rfl,rfl⟩:=hb (by omega)
  rwa [←Nat.add_assoc] at hx
 ·obtain⟨rfl,rfl⟩:=hb (by omega)
  have hx:=hc.spare j (by omega)
  rwa [show off+k+(cs.drop k).length*1+j=off+cs.length*1+j by omega]
theorem OwnS.cut {w:World} {b off n cap:Nat} {cs:List Value} (h:OwnS w (.slice (some ⟨b,off,none⟩) n cap) cs) (k:Nat) (hk:k≤n):OwnS w (.slice (if cap=k then some ⟨b,off,none⟩ else some ⟨b,off+k,none⟩) (n-k) (cap-k)) (cs.drop k):=by
 split
 ·next hc=>
  obtain⟨A,c,e,_,hle,_⟩:=h.rd
  injection e with e1 e2 e3
  have hl:(cs.drop k).length=0:=by rw[List.length_drop];omega
  have hnil:cs.drop k=[]:=List.eq_nil_of_length_eq_zero hl
  have hn:n-k=0:=by omega
  have hcap:cap-k=0:=by omega
  rw[hnil,hn,hcap]
  exact⟨_,b,off,0,rfl,⟨Nat.le_refl _,fun h=>absurd h (Nat.lt_irrefl _),fun h=>absurd h (Nat.lt_irrefl _),rfl,fun j u h=>by simp at h,fun j h=>by simp at h⟩,Nat.zero_le _⟩
 ·exact h.drop k hk
theorem block_cut (c:Prop) [Decidable c] (b o o' n m:Nat):(Value.slice (if c then some ⟨b,o,none⟩ else some ⟨b,o',none⟩) n m).ownBlock=some b:=by split<;>rfl
theorem tape_setCells (g:Nat):∀(vs:List Value) (o:Nat) (w:World),(w.setCells g o vs).tape=w.tape∧(w.setCells g o vs).heap.size=w.heap.size
 | [],_,_=>⟨rfl,rfl⟩
 | v::r,o,w=>by
  rw[World.setCells]
  have:=tape_setCells g r (o+1) (w.setCell ⟨g,o,none⟩ v)
  exact⟨this.1.trans rfl,this.2.trans (by simp)⟩
theorem src_of {P:Program} {t e:TypeId} (ht:P.underlying t=some (.slice e)) {w:World} {A:Option Addr} {m c:Nat} {news:List Value} (hr:Rd w A news) (hl:news.length=m) (hA:A=none→c=0) (h1:∀u∈news,u.oneCell'=true) :
  Src P 1 t (.slice A m c) m news w:=by
 cases A with
 | none=>
  have hn:news=[]:=by
   apply Classical.byContradiction
   intro hne
   obtain⟨b,off,e,_⟩:=hr hne
   cases e
  subst hn
  obtain rfl:m=0:=by simpa using hl.symm
  exact Src.ofNil w ht c
 | some a=>
  refine Src.ofSlice w ht a m c news (by omega) (fun j u hj=>?_) h1
  have hne:news≠[]:=by rintro rfl;simp at hj
  obtain⟨b,off,e,hc⟩:=hr hne
  cases e
  have hadd:(⟨b,off,none⟩:Addr).add j=⟨b,off+j,none⟩:=by unfold Addr.add;split<;>simp_all
  rw[hadd];exact hc j u hj
theorem OwnS.app {P:Program} {t et:TypeId} {z:Value} {bytes:Nat} (E:El P t et z 1 bytes) {w:World} (ty:TypeId) {v:Value} {cs:List Value} (h:OwnS w v cs) (hcs:∀u∈cs,u.oneCell'=true)
  {A:Option Addr} {m c:Nat} {news:List Value} (hr:Rd w A news) (hl:news.length=m) (hA:A=none→c=0) (h1:∀u∈news,u.oneCell'=true)
  (hbytes:(cs.length+m)*bytes≤140737488355328) (hby:0<bytes) :
  ∃v' w',(Builtin.append_ #[t,t] ty #[v,.slice A m c]).run P w=.ok v' w'∧OwnS w' v' (cs++news)∧w.grownBy w' v.ownBlock∧(v'.ownBlock=v.ownBlock∨v'.ownBlock=some w.heap.size∧w.heap.size<w'.heap.size):=by
 obtain⟨i,hi,hz,hs,hb⟩:=info_parts E.info
 have hs':=src_of E.under hr hl hA h1
 rw[←hs] at hs'
 have h63:cs.length+m≤maxLen:=by
  have h:(cs.length+m)*1≤(cs.length+m)*bytes:=Nat.mul_le_mul_left _ hby
  unfold maxLen;omega
 obtain⟨A',c',rfl,hrd,hle,hmx,hA'⟩:=h.rd
 have hsv:=src_of E.under hrd rfl hA' hcs
 rw[←hs] at hsv
 obtain⟨ao,b,off,cap,e,hc,hm⟩:=h
 injection e with e1 e2 e3
 subst e1;subst e3
 by_cases hfit:cs.length+m≤c'
 ·rcases Nat.eq_zero_or_pos c' with h0|hp
  ·have hm0:m=0:=by omega
   subst hm0
   have hn:news=[]:=List.eq_nil_of_length_eq_zero hl
   subst hn
   exact⟨_,w,run_append_nothing (P:=P) w t t ty _ i E.under hi _ _ _ hle _ hs',by rw[List.append_nil];exact⟨A',b,off,c',rfl,hc,hm⟩,World.grownBy.refl w _,.inl rfl⟩
  ·have ha:=hc.addr hp
   subst ha
   have hsp:∀j,j<news.length→(w.cell? ⟨b,off+cs.length*i.size+j,none⟩).isSome=true∧w.frozen? ⟨b,off+cs.length*i.size+j,none⟩=false:=fun j hj=>by
    rw[hs];exact hc.spare j (by omega)
   have hrun:=run_append_room_src (P:=P) w t t ty _ i E.under hi b off cs.length c' _ m news hs' hfit (fun j hj=>(hsp j hj).1) (fun j hj=>(hsp j hj).2)
   refine⟨_,_,hrun,⟨_,b,off,c',by rw[List.length_append,hl],?_,hm⟩,⟨World.os_setCells _ _ _ _,(tape_setCells _ _ _ _).1,World.output_setCells _ _ _ _,Nat.le_of_eq (tape_setCells _ _ _ _).2.symm,fun k hk hne=>World.heap_setCells_other w b _ _ hk (fun e=>hne (by rw[e];rfl))⟩,.inl rfl⟩
   rw[hs]
   refine⟨by rw[List.length_append];omega,fun _=>rfl,fun _=>by rw[(tape_setCells _ _ _ _).2];exact hc.lt hp,by omega,fun j u hj=>?_,fun j hj=>?_⟩
   ·by_cases hjc:j<cs.length
    ·rw[List.getElem?_append_left hjc] at hj
     rw[World.cell?_setCells_out b news _ w _ (fun _ _=>.inl (by show off+j<_;omega))]
     exact hc.olds j u hj
    ·rw[List.getElem?_append_right (by omega)] at hj
     have hlt:=(List.getElem?_eq_some_iff.1 hj).1
     have:=World.cell?_setCells_in b news (off+cs.length*1) w (fun j hj=>by have:=hsp j hj;rw[hs] at this;exact this.1) (j-cs.length) hlt
     rw[show off+cs.length*1+(j-cs.length)=off+j by omega] at this
     rw[this,←hj,List.getElem?_eq_getElem hlt]
   ·have hx:=hc.spare (m+j) (by rw[List.length_append] at hj;omega)
    rw[show off+cs.length*1+(m+j)=off+(cs++news).length*1+j by rw[List.length_append];omega] at hx
    exact⟨World.isSome_setCells b news _ w _ hx.1,by rw[World.frozen?_setCells];exact hx.2⟩
 ·have hrun:=run_append_grow_src (P:=P) w t t ty _ i z E.under hi hz A' cs.length c' cs hsv.cellsD _ m news hs' (by omega) (by unfold maxLen at h63;omega) (by rw[hb];exact growslice_fits (by omega) hbytes)
  have hge:=grownCap_ge w (cs.length+m) c' et
  have hcm:=grownCap_le_maxLen w (cs.length+m) c' et h63
  refine⟨_,_,hrun,⟨_,w.heap.size,0,_,by rw[List.length_append,hl],?_,hcm⟩,⟨rfl,rfl,rfl,by simp,fun k hk _=>Below.heap_alloc w.drew _ k hk⟩,.inr ⟨rfl,by simp⟩⟩
  have hsz:((cs++news).toArray++Builtin.zeroCells z.cells (grownCap w (cs.length+m) c' et-(cs.length+m))).size=grownCap w (cs.length+m) c' et:=by
   rw[Array.size_append,List.size_toArray,List.length_append,size_zeroCells,E.cells];omega
  refine⟨by rw[List.length_append];omega,fun _=>rfl,fun _=>by simp,by omega,fun j u hj=>?_,fun j hj=>⟨?_,?_⟩⟩
  ·have e1:=World.cell?_alloc_new w.drew ((cs++news).toArray++Builtin.zeroCells z.cells (grownCap w (cs.length+m) c' et-(cs.length+m))) et j
   rw[Nat.zero_add]
   refine Eq.trans e1 ?_
   rw[Array.getElem?_append_left (by have:=(List.getElem?_eq_some_iff.1 hj).1;simpa using this),List.getElem?_toArray]
   exact hj
  ·have e1:=World.cell?_alloc_new w.drew ((cs++news).toArray++Builtin.zeroCells z.cells (grownCap w (cs.length+m) c' et-(cs.length+m))) et (0+(cs++news).length*1+j)
   have hlt:0+(cs++news).length*1+j<((cs++news).toArray++Builtin.zeroCells z.cells (grownCap w (cs.length+m) c' et-(cs.length+m))).size:=by rw[hsz];omega
   have e2:=e1.trans (Array.getElem?_eq_getElem hlt)
   exact Option.isSome_iff_exists.2 ⟨_,e2⟩
  ·exact World.frozen?_alloc_new w.drew _ _ _
theorem Chg.one (w:World) (g i:Nat) (u:Value):Chg (fun k=>k=g) w (w.setCell ⟨g,i,none⟩ u):=Chg.set (S:=fun k=>k=g) (p:=⟨g,i,none⟩) (Chg.refl _ w) (.inl rfl) u
theorem Rd.chg {S:Nat→Prop} {w w':World} {A:Option Addr} {cs:List Value} (h:Rd w A cs) (hx:Chg S w w') (hn:∀a,A=some a→¬S a.block):Rd w' A cs:=fun hne=>
 let ⟨b,off,e,hc⟩:=h hne
 ⟨b,off,e,fun j u hj=>hx.cell (hc j u hj) (hn ⟨b,off,none⟩ e)⟩
theorem wp_oapp {P:Program} {t et:TypeId} {z:Value} {bytes:Nat} (E:El P t et z 1 bytes) (w:World) {o:Oper} {a:Act} {K:Act→World→Prop} {Q:Exit→Act→World→Prop} (s x:Operand)
  (ho:o.op=.call { callee:=.builtin .append,args := #[s,x],argTypes := #[t,t] }) (v:Value) (cs:List Value) (hs:a.eval s=v) (hown:OwnS w v cs) (hcs:∀u∈cs,u.oneCell'=true)
  (A:Option Addr) (m c:Nat) (news:List Value) (hx:a.eval x=.slice A m c) (hr:Rd w A news) (hl:news.length=m) (hA:A=none→c=0) (h1:∀u∈news,u.oneCell'=true)
  (hbytes:(cs.length+m)*bytes≤140737488355328) (hby:0<bytes)
  (h:∀v' w',OwnS w' v' (cs++news)→w.grownBy w' v.ownBlock→(v'.ownBlock=v.ownBlock∨v'.ownBlock=some w.heap.size∧w.heap.size<w'.heap.size)→K (a.put o.dst v') w'):o.wp P a w K Q:=by
 obtain⟨v',w',hrun,h2,h3,h4⟩:=hown.app E o.type hcs hr hl hA h1 hbytes hby
 unfold Oper.wp execOp
 simp only[ho,resolve,invoke,builtin,Sem.run_bind,Sem.run_pure,Result.andThen_ok,List.map_toArray,List.map_cons,List.map_nil,hs,hx,hrun]
 exact h v' w' h2 h3 h4
theorem wpList_oapp {P:Program} {t et:TypeId} {z:Value} {bytes:Nat} (E:El P t et z 1 bytes) (w:World) {ops:Array Oper} {rest:List Oper} {o:Oper} {a:Act} {Q:Exit→Act→World→Prop} (hgd:o.guard=none) (s x:Operand)
  (ho:o.op=.call { callee:=.builtin .append,args := #[s,x],argTypes := #[t,t] }) (v:Value) (cs:List Value) (hs:a.eval s=v) (hown:OwnS w v cs) (hcs:∀u∈cs,u.oneCell'=true)
  (A:Option Addr) (m c:Nat) (news:List Value) (hx:a.eval x=.slice A m c) (hr:Rd w A news) (hl:news.length=m) (hA:A=none→c=0) (h1:∀u∈news,u.oneCell'=true)
  (hbytes:(cs.length+m)*bytes≤140737488355328) (hby:0<bytes)
  (h:∀v' w',OwnS w' v' (cs++news)→w.grownBy w' v.ownBlock→(v'.ownBlock=v.ownBlock∨v'.ownBlock=some w.heap.size∧w.heap.size<w'.heap.size)→wpList P ops Q rest (a.put o.dst v') w'):wpList P ops Q (o::rest) a w:=
 wpList_plain hgd fun _ hK=>wp_oapp E w s x ho v cs hs hown hcs A m c news hx hr hl hA h1 hbytes hby fun v' w' h2 h3 h4=>hK _ _ (h v' w' h2 h3 h4)
end Base
end Go.Proofs.YtllhhpcabncmiaaGreatDoor
