/- datum: values as trees: how many parts, how deep, one by one; plain. -/
import Derived.Test.YtllhhpcabncmiaaGreatDoorRows
import Derived.WalkKit
import Derived.ProofKit
import Derived.OpenShut
import Derived.Lib.Hide
import Derived.WalkSpells
import Derived.WalkLawsBesides
import Derived.Deep.RegionHeld3
import Derived.Deep.DeepFit
import Derived.Deep.DeepMust
import Derived.Deep.LoopGhost
import Derived.JoinedCond
import Derived.Maps.AppendAt
import Derived.Lib.SlBytesConst
import Derived.Laws.BytesArg
import Derived.Lib.Bytealg
import Derived.Stop.Asserts
import Derived.Shelf.Abstract
import Derived.RangeFuncNested
import Derived.RangeFuncBound
import Derived.RangeFuncCalls
import Derived.RangeFuncLeaves
import Derived.Shelf.RegionOpen
import Derived.OwnWalkIn
import Derived.TacticsInMore
import Derived.LoopNIn
import Derived.LoopIn
set_option linter.unusedVariables false
set_option linter.unusedSimpArgs false
set_option maxRecDepth 100000
set_option maxHeartbeats 1000000
namespace Go.Proofs.YtllhhpcabncmiaaGreatDoor
namespace Dm
inductive Da where
 | mk (n:Int) (s:ByteArray) (ks:List ByteArray) (l:List Da)
def Da.n:Da→Int | .mk n _ _ _=>n
def Da.s:Da→ByteArray | .mk _ s _ _=>s
def Da.ks:Da→List ByteArray | .mk _ _ k _=>k
def Da.l:Da→List Da | .mk _ _ _ l=>l
theorem Da.eta (d:Da):.mk d.n d.s d.ks d.l=d:=by cases d;rfl
theorem Da.ext {a b:Da} (h1:a.n=b.n) (h2:a.s=b.s) (h3:a.ks=b.ks) (h4:a.l=b.l):a=b:=by
 obtain⟨n,s,k,l⟩:=a
 obtain⟨n',s',k',l'⟩:=b
 have h1:n=n':=h1
 have h2:s=s':=h2
 have h3:k=k':=h3
 have h4:l=l':=h4
 rw[h1,h2,h3,h4]
noncomputable def eqD (a b:Da):Bool:=@decide (a=b) (Classical.propDecidable _)
theorem eqD_true {a b:Da} (h:a=b):eqD a b=true:=@decide_eq_true _ (Classical.propDecidable _) h
theorem eqD_false {a b:Da} (h:¬a=b):eqD a b=false:=@decide_eq_false _ (Classical.propDecidable _) h
theorem Da.ind {P:Da→Prop} (h:∀d,(∀x∈d.l,P x)→P d) (d:Da):P d:=
 Da.rec (motive_1:=P) (motive_2:=fun l=>∀x∈l,P x) (fun n s ks l ih=>h _ ih) (fun x hx=>by cases hx)
  (fun x l hx hl y hy=>by rcases List.mem_cons.1 hy with rfl|hy;exact hx;exact hl y hy) d
mutual
def Da.parts:Da→Nat
 | .mk _ _ _ l=>partsL l+1
def partsL:List Da→Nat
 | []=>0
 | x::l=>x.parts+partsL l
end
mutual
def Da.deep:Da→Nat
 | .mk _ _ _ l=>deepL l+1
def deepL:List Da→Nat
 | []=>0
 | x::l=>max x.deep (deepL l)
end
mutual
def cntD:Da→Int→Int→Int
 | .mk _ _ _ l,deep,most=>if deep>100∨most<1 then -1 else cntL l deep most 1
def cntL:List Da→Int→Int→Int→Int
 | [],_,_,n=>n
 | x::l,deep,most,n=>if cntD x (deep+1) (most-n)<0 then -1 else cntL l deep most (n+cntD x (deep+1) (most-n))
end
mutual
def Da.KL (M:Nat):Da→Prop
 | .mk _ _ ks l=>ks.length≤M∧kLL M l
def kLL (M:Nat):List Da→Prop
 | []=>True
 | x::l=>x.KL M∧kLL M l
end
theorem kLL_mem {M:Nat}:∀ {l:List Da},kLL M l→∀x∈l,x.KL M
 | [],_,x,hx=>by cases hx
 | y::l,h,x,hx=>by
  rw[kLL] at h
  rcases List.mem_cons.1 hx with rfl|hx
  ·exact h.1
  ·exact kLL_mem h.2 x hx
theorem Da.KL.ks {M:Nat} {d:Da} (h:d.KL M):d.ks.length≤M:=by cases d;rw[Da.KL] at h;exact h.1
theorem Da.KL.l {M:Nat} {d:Da} (h:d.KL M):∀x∈d.l,x.KL M:=by cases d;rw[Da.KL] at h;exact kLL_mem h.2
theorem parts_pos (d:Da):1≤d.parts:=by cases d;rw[Da.parts];omega
theorem deep_pos (d:Da):1≤d.deep:=by cases d;rw[Da.deep];omega
theorem cnt_is (d:Da):∀deep most:Int,cntD d deep most=if deep+d.deep≤101∧(d.parts:Int)≤most then (d.parts:Int) else -1:=by
 induction d using Da.ind with
 | h d ih=>
  intro deep most
  obtain⟨n,s,ks,l⟩:=d
  have key:∀(l':List Da),(∀x∈l',∀deep most:Int,cntD x deep most=if deep+x.deep≤101∧(x.parts:Int)≤most then (x.parts:Int) else -1)→∀n:Int,1≤n→
    cntL l' deep most n=if (l'=[]∨deep+1+deepL l'≤101∧n+partsL l'≤most) then n+partsL l' else -1:=by
   intro l'
   induction l' with
   | nil=>intro _ n _;simp[cntL,partsL]
   | cons x l' ihl=>
    intro hx n hn
    rw[cntL,hx x (by simp),partsL,deepL]
    have hp:=parts_pos x
    have hd:=deep_pos x
    by_cases hc:deep+1+(x.deep:Int)≤101∧(x.parts:Int)≤most-n
    ·rw[if_pos hc,if_neg (by omega),ihl (fun y hy=>hx y (by simp[hy])) _ (by omega)]
     by_cases hl:l'=[]
     ·subst hl
      rw[if_pos (.inl rfl),if_pos (.inr (by simp only[partsL,deepL];omega))]<;>(simp only[partsL];omega)
     ·by_cases hq:deep+1+(deepL l':Int)≤101∧n+x.parts+partsL l'≤most
      ·rw[if_pos (.inr hq),if_pos (.inr (by omega))];omega
      ·rw[if_neg (by rintro (h|h);exact hl h;exact hq h),if_neg (by rintro (h|h);cases h;exact hq (by omega))]
    ·rw[if_neg hc,if_pos (by omega),if_neg (by rintro (h|h);cases h;exact hc (by omega))]
  rw[cntD,Da.deep,Da.parts]
  by_cases hg:deep>100∨most<1
  ·rw[if_pos hg,if_neg (by omega)]
  ·rw[if_neg hg,key l ih 1 (by omega)]
   by_cases hl:l=[]
   ·subst hl
    rw[if_pos (.inl rfl),if_pos (by simp only[partsL,deepL];omega)]
    simp only[partsL];omega
   ·by_cases hq:deep+1+(deepL l:Int)≤101∧1+(partsL l:Int)≤most
    ·rw[if_pos (.inr hq),if_pos (by omega)];omega
    ·rw[if_neg (by rintro (h|h);exact hl h;exact hq h),if_neg (by omega)]
theorem cnt_ge (d:Da) (deep most:Int) : -1≤cntD d deep most:=by rw[cnt_is];split<;>omega
theorem cnt_le (d:Da) (deep most:Int) (h:0≤cntD d deep most):1≤cntD d deep most∧cntD d deep most≤most:=by
 rw[cnt_is] at h ⊢
 have:=parts_pos d
 split<;>rename_i hc
 ·omega
 ·rw[if_neg hc] at h;omega
theorem partsL_sum:∀l:List Da,partsL l=(l.map Da.parts).sum
 | []=>by simp[partsL]
 | x::l=>by rw[partsL,partsL_sum l];simp
theorem parts_mem {d x:Da} (h:x∈d.l):x.parts<d.parts:=by
 obtain⟨n,s,ks,l⟩:=d
 have:∀l:List Da,x∈l→x.parts≤partsL l:=by
  intro l
  induction l with
  | nil=>intro h;cases h
  | cons y l ih=>
   intro h
   rw[partsL]
   rcases List.mem_cons.1 h with rfl|h
   ·omega
   ·have:=ih h;omega
 have:=this l h
 rw[Da.parts];omega
theorem deep_mem {d x:Da} (h:x∈d.l):x.deep<d.deep:=by
 obtain⟨n,s,ks,l⟩:=d
 have:∀l:List Da,x∈l→x.deep≤deepL l:=by
  intro l
  induction l with
  | nil=>intro h;cases h
  | cons y l ih=>
   intro h
   rw[deepL]
   rcases List.mem_cons.1 h with rfl|h
   ·omega
   ·have:=ih h;omega
 have:=this l h
 rw[Da.deep];omega
theorem len_parts (d:Da):d.l.length<d.parts:=by
 obtain⟨n,s,ks,l⟩:=d
 have:∀l:List Da,l.length≤partsL l:=by
  intro l
  induction l with
  | nil=>simp
  | cons y l ih=>rw[partsL,List.length_cons];have:=parts_pos y;omega
 have:=this l
 rw[Da.parts]
 show l.length<_
 omega
end Dm
namespace Base
open Go.ChangeShapes Go.WideShapes Go.ChangeAt Go.RowKit
def Ext (w w':World):Prop:=Below w.heap.size w w'
theorem Ext.refl (w:World):Ext w w:=Below.refl _ _
theorem Ext.size {w w':World} (h:Ext w w'):w.heap.size≤w'.heap.size:=Below.size h
theorem Ext.trans {a b c:World} (h:Ext a b) (k:Ext b c):Ext a c:=Below.trans h (Below.mono k h.size)
theorem Ext.drew {a w:World} (h:Ext a w):Ext a w.drew:=Below.drew h
theorem Ext.drewN {a w:World} (h:Ext a w) (n:Nat):Ext a (w.drewN n):=by
 have h':Below a.heap.size a w:=h
 exact⟨h'.os,h'.tape,h'.output,h'.size,h'.block⟩
theorem Ext.alloc {a w:World} (h:Ext a w) (o:Obj):Ext a (w.alloc o):=Below.alloc h h.size o
theorem Ext.undrew {w x:World} (h:Ext w.drew x):Ext w x:=Ext.trans ((Ext.refl w).drew) h
theorem Ext.undrewN {w x:World} {n:Nat} (h:Ext (w.drewN n) x):Ext w x:=Ext.trans ((Ext.refl w).drewN n) h
theorem Ext.unalloc {w x:World} {o:Obj} (h:Ext (w.alloc o) x):Ext w x:=Ext.trans ((Ext.refl w).alloc o) h
theorem Ext.setCell {a w:World} (h:Ext a w) {p:Addr} (hp:a.heap.size≤p.block) (u:Value):Ext a (w.setCell p u):=Below.setCell h hp u
theorem Ext.cell {w w':World} (h:Ext w w') {p:Addr} {v:Value} (hc:w.cell? p=some v):w'.cell? p=some v:=
 (Below.cell h (World.block_lt_of_cell? w p hc)).trans hc
theorem Ext.heap {w w':World} (h:Ext w w') {g:Nat} {o:Obj} (hg:w.heap[g]?=some o):w'.heap[g]?=some o:=
 (Below.block h g (Array.getElem?_eq_some_iff.1 hg).1).trans hg
theorem Ext.grown {w w':World} {row:Option Nat} (hg:w.grownBy w' row) (hr:∀k,row=some k→w.heap.size≤k):Ext w w':=
 Below.grown (Below.refl _ _) hg (Nat.le_refl _) hr
theorem Ext.then_grown {a w w':World} {row:Option Nat} (h:Ext a w) (hg:w.grownBy w' row) (hr:∀k,row=some k→a.heap.size≤k):Ext a w':=
 Below.grown h hg h.size hr
def Rd (w:World) (A:Option Addr) (cs:List Value):Prop:=
 cs≠[]→∃b off,A=some ⟨b,off,none⟩∧∀(j:Nat) (u:Value),cs[j]?=some u→w.cell? ⟨b,off+j,none⟩=some u
theorem Rd.ext {w w':World} {A:Option Addr} {cs:List Value} (h:Rd w A cs) (hx:Ext w w'):Rd w' A cs:=fun hne=>
 let ⟨b,off,e,hc⟩:=h hne
 ⟨b,off,e,fun j u hj=>hx.cell (hc j u hj)⟩
theorem Rd.nil (w:World) (A:Option Addr):Rd w A []:=fun h=>absurd rfl h
theorem Rd.keep {w w':World} {A:Option Addr} {cs:List Value} (h:Rd w A cs) (hx:∀p v,w.cell? p=some v→w'.cell? p=some v):Rd w' A cs:=fun hne=>
 let ⟨b,off,e,hc⟩:=h hne
 ⟨b,off,e,fun j u hj=>hx _ _ (hc j u hj)⟩
theorem Rd.at_ {w:World} {A:Option Addr} {cs:List Value} (h:Rd w A cs) {k:Nat} (hk:k<cs.length) :
  ∃b off,A=some ⟨b,off,none⟩∧w.cell? ⟨b,off+k,none⟩=some cs[k]∧∀(j:Nat) (u:Value),cs[j]?=some u→w.cell? ⟨b,off+j,none⟩=some u:=by
 have hne:cs≠[]:=by rintro rfl;simp at hk
 obtain⟨b,off,e,hc⟩:=h hne
 exact⟨b,off,e,hc k _ (List.getElem?_eq_getElem hk),hc⟩
theorem Rd.drop {w:World} {b off:Nat} {cs:List Value} (h:Rd w (some ⟨b,off,none⟩) cs) (k:Nat):Rd w (some ⟨b,off+k,none⟩) (cs.drop k):=fun hne=>by
 have hne':cs≠[]:=by rintro rfl;simp at hne
 obtain⟨b',off',e,hc⟩:=h hne'
 simp only[Option.some.injEq,Addr.mk.injEq,and_true] at e
 obtain⟨rfl,rfl⟩:=e
 exact⟨b,off+k,rfl,fun j u hj=>by rw[List.getElem?_drop] at hj;rw[Nat.add_assoc];exact hc _ u hj⟩
theorem Rd.take {w:World} {A:Option Addr} {cs:List Value} (h:Rd w A cs) (k:Nat):Rd w A (cs.take k):=fun hne=>by
 have hne':cs≠[]:=by rintro rfl;simp at hne
 obtain⟨b,off,e,hc⟩:=h hne'
 refine⟨b,off,e,fun j u hj=>hc j u ?_⟩
 rw[List.getElem?_take] at hj
 split at hj
 ·exact hj
 ·cases hj
def u8s (l:List UInt8):List Value:=l.map fun c=>.int .u8 (c.toNat:Int)
theorem u8s_length (l:List UInt8):(u8s l).length=l.length:=by simp[u8s]
theorem u8s_append (a b:List UInt8):u8s (a++b)=u8s a++u8s b:=by simp[u8s]
theorem u8s_inj {a b:List UInt8} (h:u8s a=u8s b):a=b:=by
 induction a generalizing b with
 | nil=>cases b with
  | nil=>rfl
  | cons c b=>simp[u8s] at h
 | cons c a ih=>cases b with
  | nil=>simp[u8s] at h
  | cons d b=>
   simp only[u8s,List.map_cons,List.cons.injEq,Value.int.injEq,true_and] at h
   have e:c=d:=UInt8.toNat_inj.1 (by omega)
   rw[e,ih (b:=b) h.2]
theorem u8s_one (l:List UInt8):∀u∈u8s l,u.oneCell'=true:=by
 intro u hu
 simp only[u8s,List.mem_map] at hu
 obtain⟨c,_,rfl⟩:=hu
 rfl
def Rb (w:World) (A:Option Addr) (l:List UInt8):Prop:=Rd w A (u8s l)
theorem Rb.ext {w w':World} {A:Option Addr} {l:List UInt8} (h:Rb w A l) (hx:Ext w w'):Rb w' A l:=Rd.ext h hx
theorem Rb.at_ {w:World} {A:Option Addr} {l:List UInt8} (h:Rb w A l) {k:Nat} (hk:k<l.length) :
  ∃b off,A=some ⟨b,off,none⟩∧w.cell? ⟨b,off+k,none⟩=some (.int .u8 (l[k].toNat:Int)):=by
 obtain⟨b,off,e,hc,_⟩:=Rd.at_ (k:=k) h (by rw[u8s_length];exact hk)
 exact⟨b,off,e,by rw[hc];simp[u8s]⟩
theorem Rb.drop {w:World} {b off:Nat} {l:List UInt8} (h:Rb w (some ⟨b,off,none⟩) l) (k:Nat):Rb w (some ⟨b,off+k,none⟩) (l.drop k):=by
 have:=Rd.drop h k
 rwa [u8s,←List.map_drop] at this
theorem Rb.take {w:World} {A:Option Addr} {l:List UInt8} (h:Rb w A l) (k:Nat):Rb w A (l.take k):=by
 have:=Rd.take h k
 rwa [u8s,←List.map_take] at this
theorem Rb.some_ {w:World} {A:Option Addr} {l:List UInt8} (h:Rb w A l) (hl:0<l.length):∃b off,A=some ⟨b,off,none⟩:=by
 obtain⟨b,off,e,_⟩:=h.at_ hl
 exact⟨b,off,e⟩
theorem Rd.of_own {w:World} {base:Nat} {e:TypeId} {size n:Nat} {v:Value} {xs:List Value} (h:w.ownsRow base e size v n xs) :
  ∃A c,v=.slice A n c∧n≤c∧c≤maxLen∧Rd w A xs∧xs.length=n*size:=by
 rcases h.2 with⟨rfl,rfl⟩|⟨g,cap,cur,rfl,hb,hg,h1,h2,h3,h4⟩
 ·have hx:xs=[]:=List.eq_nil_of_length_eq_zero (by simpa using h.1)
  subst hx
  exact⟨none,0,rfl,Nat.le_refl _,Nat.zero_le _,Rd.nil _ _,h.1⟩
 ·refine⟨_,cap,rfl,h1,h2,fun _=>⟨g,0,rfl,fun j u hj=>?_⟩,h.1⟩
  have:=World.ownsRow.cells h (g:=g) rfl j u hj
  have hadd:(⟨g,0,none⟩:Addr).add j=⟨g,0+j,none⟩:=by unfold Addr.add;split<;>simp_all
  rw[hadd] at this
  exact this
theorem own_ext {w w':World} {base:Nat} {e:TypeId} {size n:Nat} {v:Value} {xs:List Value} (h:w.ownsRow base e size v n xs) (hx:Ext w w'):w'.ownsRow base e size v n xs:=by
 refine⟨h.1,?_⟩
 rcases h.2 with h2|⟨g,cap,cur,hv,hb,hg,r⟩
 ·exact .inl h2
 ·exact .inr ⟨g,cap,cur,hv,hb,hx.heap hg,r⟩
theorem own_base {w:World} {base base':Nat} {e:TypeId} {size n:Nat} {v:Value} {xs:List Value} (h:w.ownsRow base e size v n xs) (hx:base'≤base):w.ownsRow base' e size v n xs:=by
 refine⟨h.1,?_⟩
 rcases h.2 with h2|⟨g,cap,cur,hv,hb,hg,r⟩
 ·exact .inl h2
 ·exact .inr ⟨g,cap,cur,hv,Nat.le_trans hx hb,hg,r⟩
def Blk (w:World) (g:Nat) (cs:Array Value) (t:TypeId):Prop:=w.heap[g]?=some (.cells cs t (0,0))
theorem Blk.lt {w:World} {g:Nat} {cs:Array Value} {t:TypeId} (h:Blk w g cs t):g<w.heap.size:=(Array.getElem?_eq_some_iff.1 h).1
theorem Blk.cell {w:World} {g:Nat} {cs:Array Value} {t:TypeId} (h:Blk w g cs t) (i:Nat):w.cell? ⟨g,i,none⟩=cs[i]?:=cell_of_row w g i cs t (0,0) h
theorem Blk.frozen {w:World} {g:Nat} {cs:Array Value} {t:TypeId} (h:Blk w g cs t) (i:Nat):w.frozen? ⟨g,i,none⟩=false:=by
 unfold Blk at h
 simp[World.frozen?,h]
theorem Blk.new (w:World) (cs:Array Value) (t:TypeId):Blk (w.alloc (.cells cs t)) w.heap.size cs t:=heap_alloc_new w _
theorem Blk.ext {w w':World} {g:Nat} {cs:Array Value} {t:TypeId} (h:Blk w g cs t) (hx:Ext w w'):Blk w' g cs t:=hx.heap h
theorem Blk.drew {w:World} {g:Nat} {cs:Array Value} {t:TypeId} (h:Blk w g cs t):Blk w.drew g cs t:=h
theorem Blk.alloc {w:World} {g:Nat} {cs:Array Value} {t:TypeId} (h:Blk w g cs t) (o:Obj):Blk (w.alloc o) g cs t:=(Below.heap_alloc w o g h.lt).trans h
theorem Blk.set {w:World} {g:Nat} {cs:Array Value} {t:TypeId} (h:Blk w g cs t) (i:Nat) (u:Value):Blk (w.setCell ⟨g,i,none⟩ u) g (cs.setIfInBounds i u) t:=by
 unfold Blk at h ⊢
 simp[World.setCell,Array.getElem?_modify,h]
theorem Blk.far {w:World} {g:Nat} {cs:Array Value} {t:TypeId} (h:Blk w g cs t) {p:Addr} (hp:g≠p.block) (u:Value):Blk (w.setCell p u) g cs t:=(Below.heap_setCell w p u g hp).trans h
theorem Blk.grown {w w':World} {row:Option Nat} {g:Nat} {cs:Array Value} {t:TypeId} (h:Blk w g cs t) (hb:w.grownBy w' row) (hg:some g≠row):Blk w' g cs t:=(hb.block g h.lt hg).trans h
theorem Rd.of_block (w:World) (t:TypeId) (fr:Nat×Nat) {cs:Array Value} {l:List Value} (h:cs.toList=l):Rd (w.alloc (.cells cs t fr)) (some ⟨w.heap.size,0,none⟩) l:=fun _=>
 ⟨_,0,rfl,fun j u hj=>by
  subst h
  rw[Nat.zero_add,cell_of_row _ _ j cs t fr (heap_alloc_new w _)]
  simpa using hj⟩
structure El (P:Program) (t e:TypeId) (z:Value) (size bytes:Nat):Prop where
 under:P.underlying t=some (.slice e)
 info:(P.info? e).map (fun i=>(i.zero,i.size,i.bytes))=some (some z,size,bytes)
 cells:z.cells.size=size
 pos:0<size
theorem app_run {P:Program} {t e:TypeId} {z:Value} {size bytes:Nat} (E:El P t e z size bytes) (w:World) (ty:TypeId) (base:Nat)
  (v:Value) (n:Nat) (xs:List Value) (hown:w.ownsRow base e size v n xs)
  (A:Option Addr) (m c:Nat) (news:List Value) (hr:Rd w A news) (hl:news.length=m*size) (hA:A=none→c=0) (h1:∀u∈news,u.oneCell'=true)
  (hbytes:(n+m)*bytes≤140737488355328) (hby:0<bytes) (hbase:base≤w.heap.size) :
  ∃v' w',(Builtin.append_ #[t,t] ty #[v,.slice A m c]).run P w=.ok v' w'∧w'.ownsRow base e size v' (n+m) (xs++news)∧w.grownBy w' v.ownBlock∧
   (v'.ownBlock=v.ownBlock∨v'.ownBlock=some w.heap.size):=by
 obtain⟨i,hi,hz,hs,hb⟩:=info_parts E.info
 have hpos:=E.pos
 have h63:n+m≤maxLen:=by
  have h:(n+m)*1≤(n+m)*bytes:=Nat.mul_le_mul_left _ hby
  unfold maxLen;omega
 by_cases hne:news=[]
 ·subst hne
  have hm:m=0:=by
   rcases Nat.eq_zero_or_pos m with h|h
   ·exact h
   ·have:=Nat.mul_pos h hpos;simp at hl;omega
  subst hm
  cases A with
  | none=>
   rw[hA rfl]
   have:=run_append_owned_none (P:=P) w base t ty e i size E.under hi v n xs hown
   exact⟨v,w,this,by simpa using hown,World.grownBy.refl w _,.inl rfl⟩
  | some ad=>
   obtain⟨v',w',r,r2,r3,_,r4⟩:=run_append_own_at (P:=P) w base t ty e i z size bytes E.under hi hz hs hb E.cells hpos v n xs hown ad 0 c [] (by simp) (by simp) h1 h63 hbytes hbase
   exact⟨v',w',r,r2,r3,r4⟩
 ·obtain⟨b,off,rfl,hc⟩:=hr hne
  obtain⟨v',w',r,r2,r3,_,r4⟩:=run_append_own_at (P:=P) w base t ty e i z size bytes E.under hi hz hs hb E.cells hpos v n xs hown ⟨b,off,none⟩ m c news hl (fun j u hj=>by
   have hadd:(⟨b,off,none⟩:Addr).add j=⟨b,off+j,none⟩:=by unfold Addr.add;split<;>simp_all
   rw[hadd];exact hc j u hj) h1 h63 hbytes hbase
  exact⟨v',w',r,r2,r3,r4⟩
theorem wp_app {P:Program} {t e:TypeId} {z:Value} {size bytes:Nat} (E:El P t e z size bytes) (w:World) {o:Oper} {a:Act} {K:Act→World→Prop} {Q:Exit→Act→World→Prop} (s x:Operand)
  (ho:o.op=.call { callee:=.builtin .append,args := #[s,x],argTypes := #[t,t] }) (base:Nat)
  (v:Value) (n:Nat) (xs:List Value) (hs:a.eval s=v) (hown:w.ownsRow base e size v n xs)
  (A:Option Addr) (m c:Nat) (news:List Value) (hx:a.eval x=.slice A m c) (hr:Rd w A news) (hl:news.length=m*size) (hA:A=none→c=0) (h1:∀u∈news,u.oneCell'=true)
  (hbytes:(n+m)*bytes≤140737488355328) (hby:0<bytes) (hbase:base≤w.heap.size)
  (h:∀v' w',w'.ownsRow base e size v' (n+m) (xs++news)→w.grownBy w' v.ownBlock→(v'.ownBlock=v.ownBlock∨v'.ownBlock=some w.heap.size)→K (a.put o.dst v') w'):o.wp P a w K Q:=by
 obtain⟨v',w',hrun,h2,h3,h4⟩:=app_run E w o.type base v n xs hown A m c news hr hl hA h1 hbytes hby hbase
 unfold Oper.wp execOp
 simp only[ho,resolve,invoke,builtin,Sem.run_bind,Sem.run_pure,Result.andThen_ok,List.map_toArray,List.map_cons,List.map_nil,hs,hx,hrun]
 exact h v' w' h2 h3 h4
theorem wpList_app {P:Program} {t e:TypeId} {z:Value} {size bytes:Nat} (E:El P t e z size bytes) (w:World) {ops:Array Oper} {rest:List Oper} {o:Oper} {a:Act} {Q:Exit→Act→World→Prop} (hgd:o.guard=none) (s x:Operand)
  (ho:o.op=.call { callee:=.builtin .append,args := #[s,x],argTypes := #[t,t] }) (base:Nat)
  (v:Value) (n:Nat) (xs:List Value) (hs:a.eval s=v) (hown:w.ownsRow base e size v n xs)
  (A:Option Addr) (m c:Nat) (news:List Value) (hx:a.eval x=.slice A m c) (hr:Rd w A news) (hl:news.length=m*size) (hA:A=none→c=0) (h1:∀u∈news,u.oneCell'=true)
  (hbytes:(n+m)*bytes≤140737488355328) (hby:0<bytes) (hbase:base≤w.heap.size)
  (h:∀v' w',w'.ownsRow base e size v' (n+m) (xs++news)→w.grownBy w' v.ownBlock→(v'.ownBlock=v.ownBlock∨v'.ownBlock=some w.heap.size)→wpList P ops Q rest (a.put o.dst v') w'):wpList P ops Q (o::rest) a w:=
 wpList_plain hgd fun _ hK=>wp_app E w s x ho base v n xs hs hown A m c news hx hr hl hA h1 hbytes hby hbase fun v' w' h2 h3 h4=>hK _ _ (h v' w' h2 h3 h4)
theorem own_ne_blk {w:World} {base:Nat} {e t:TypeId} {size n:Nat} {v:Value} {xs:List Value} {g:Nat} {cs:Array Value} (h:w.ownsRow base e size v n xs) (hb:Blk w g cs t) (hne:e≠t):some g≠v.ownBlock:=by
 intro heq
 rcases h.2 with⟨rfl,_⟩|⟨g',cap,cur,rfl,_,hh,_⟩
 ·simp[Value.ownBlock] at heq
 ·simp only[Value.ownBlock,Option.some.injEq] at heq
  subst heq
  unfold Blk at hb
  rw[hh] at hb
  injection hb with hb
  injection hb with _ ht
  exact hne ht
theorem own_ne_own {w:World} {base base':Nat} {e e':TypeId} {size size' n n':Nat} {v v':Value} {xs xs':List Value} (h:w.ownsRow base e size v n xs) (h':w.ownsRow base' e' size' v' n' xs') (hne:e≠e') :
  v'.ownBlock=none∨v'.ownBlock≠v.ownBlock:=by
 rcases h'.2 with⟨rfl,_⟩|⟨g',cap,cur,rfl,_,hh,_⟩
 ·exact .inl rfl
 ·exact .inr (own_ne_blk h (show Blk w g' cur e' from hh) hne)
theorem own_setCell {w:World} {base:Nat} {e t:TypeId} {size n:Nat} {v:Value} {xs:List Value} {g i:Nat} {cs:Array Value} (h:w.ownsRow base e size v n xs) (hb:Blk w g cs t) (hne:e≠t) (u:Value):(w.setCell ⟨g,i,none⟩ u).ownsRow base e size v n xs:=by
 refine⟨h.1,?_⟩
 rcases h.2 with h2|⟨g',cap,cur,hv,hb',hh,r⟩
 ·exact .inl h2
 ·refine .inr ⟨g',cap,cur,hv,hb',?_,r⟩
  have hgg:g'≠g:=fun e=>by
   have h3:=own_ne_blk h hb hne
   subst hv
   exact h3 (by simp[Value.ownBlock,e])
  exact (Below.heap_setCell w ⟨g,i,none⟩ u g' hgg).trans hh
def txs (l:List ByteArray):List Value:=l.map Value.string
theorem txs_length (l:List ByteArray):(txs l).length=l.length:=by simp[txs]
theorem txs_one (l:List ByteArray):∀u∈txs l,u.oneCell'=true:=by
 intro u hu
 simp only[txs,List.mem_map] at hu
 obtain⟨c,_,rfl⟩:=hu
 rfl
def Str (l:List UInt8):ByteArray:=⟨l.toArray⟩
theorem Str_inj {a b:List UInt8} (h:Str a=Str b):a=b:=by
 have:=congrArg (fun s=>s.data.toList) h
 simpa [Str] using this
theorem conv_rd {P:Program} {src dst e:TypeId} (hs:P.underlying src=some (.slice e)) (he:P.underlying e=some (.int .u8)) (hd:P.underlying dst=some .string) {w:World} {A:Option Addr} {l:List UInt8} {n:Nat} (c:Nat) (hn:l.length=n) (h:Rb w A l) :
  (convert src dst (.slice A n c)).run P w=.ok (.string (Str l)) w:=by
 by_cases hl:l=[]
 ·subst hl
  simp at hn
  subst hn
  rw[run_convert_bytes_string w src dst e A 0 c hs he hd]
  cases A with
  | none=>simp[Conv.bytesToString,Str];rfl
  | some ad=>simp[Conv.bytesToString,loadCells,loadCellsFrom,Str];rfl
 ·obtain⟨b,off,rfl,hc⟩:=h (by simpa [u8s] using hl)
  rw[run_convert_bytes_arg w src e hs he b off n c (l.map fun x=>(x.toNat:Int)) (by simpa using hn) (fun i hi=>by
   rw[hc i (.int .u8 (l[i]'(by omega)).toNat) (by simp[u8s,List.getElem?_eq_getElem (show i<l.length by omega)])]
   simp[List.getD,List.getElem?_eq_getElem (show i<l.length by omega)]) dst hd]
  congr 2
  simp[strOfNums,Str,Function.comp_def]
end Base
namespace Lx
def letterP (c:UInt8):Bool:=decide (97≤c.toNat) && decide (c.toNat≤122)
def digitP (c:UInt8):Bool:=decide (48≤c.toNat) && decide (c.toNat≤57)
def innerP (c:UInt8):Bool:=letterP c || digitP c || decide (c.toNat=95)
def notNl (c:UInt8):Bool := !decide (c.toNat=10)
def runP (p:UInt8→Bool) (l:List UInt8):Nat:=(l.takeWhile p).length
theorem runP_le (p:UInt8→Bool) (l:List UInt8):runP p l≤l.length:=by
 unfold runP
 induction l with
 | nil=>simp
 | cons a l ih=>rw[List.takeWhile_cons];split<;>simp<;>omega
theorem runP_lt {p:UInt8→Bool}:∀ {l:List UInt8} {n:Nat},n<runP p l→∃h:n<l.length,p l[n]=true
 | [],n,h=>by simp[runP] at h
 | a::l,n,h=>by
  unfold runP at h
  rw[List.takeWhile_cons] at h
  split at h
  ·rename_i ha
   cases n with
   | zero=>exact⟨by simp,ha⟩
   | succ n=>
    obtain⟨h1,h2⟩:=runP_lt (p:=p) (l:=l) (n:=n) (by unfold runP;simpa using h)
    exact⟨by simpa using h1,by simpa using h2⟩
  ·simp at h
theorem runP_end (p:UInt8→Bool):∀(l:List UInt8),runP p l=l.length∨∃h:runP p l<l.length,p l[runP p l]=false
 | []=>by simp[runP]
 | a::l=>by
  by_cases ha:p a=true
  ·have e:runP p (a::l)=runP p l+1:=by unfold runP;rw[List.takeWhile_cons,if_pos ha];rfl
   rcases runP_end p l with h|⟨h1,h2⟩
   ·left;rw[e,h];rfl
   ·right;exact⟨by rw[e];simpa using h1,by simp only[e,List.getElem_cons_succ];exact h2⟩
  ·have e:runP p (a::l)=0:=by unfold runP;rw[List.takeWhile_cons,if_neg ha];rfl
   right;exact⟨by rw[e];simp,by simp only[e,List.getElem_cons_zero];simpa using ha⟩
def blank (c:UInt8):Bool:=decide (c.toNat=32) || decide (c.toNat=9) || decide (c.toNat=10) || decide (c.toNat=13)
def skipN:Bool→List UInt8→Nat
 | _,[]=>0
 | false,c::l=>if c.toNat=35 then 1+skipN true l else if blank c then 1+skipN false l else 0
 | true,c::l=>if c.toNat=10 then 1+skipN false l else 1+skipN true l
theorem skipN_le:∀(b:Bool) (l:List UInt8),skipN b l≤l.length
 | _,[]=>by cases ‹Bool›<;>simp[skipN]
 | false,c::l=>by
  have h1:=skipN_le true l
  have h2:=skipN_le false l
  unfold skipN
  simp only[List.length_cons]
  split
  ·omega
  ·split<;>omega
 | true,c::l=>by
  have h1:=skipN_le true l
  have h2:=skipN_le false l
  unfold skipN
  simp only[List.length_cons]
  split<;>omega
theorem skip_run:∀(l:List UInt8),skipN true l=runP notNl l+skipN false (l.drop (runP notNl l))
 | []=>by simp[skipN,runP]
 | c::l=>by
  by_cases h:c.toNat=10
  ·have e:runP notNl (c::l)=0:=by simp[runP,List.takeWhile_cons,notNl,h]
   rw[e]
   simp[skipN,h,blank]
  ·have e:runP notNl (c::l)=runP notNl l+1:=by simp[runP,List.takeWhile_cons,notNl,h]
   rw[e,List.drop_succ_cons,skipN,if_neg h,skip_run l]
   omega
theorem skip_hash (c:UInt8) (l:List UInt8) (h:c.toNat=35):skipN false (c::l)=skipN true (c::l):=by
 simp[skipN,h]
end Lx
namespace Lx
open Go.ChangeShapes Go.WideShapes Go.ChangeAt Go.RowKit Go.Shelf
open Base
theorem letter_any (c:UInt8) (w:World):Calls Tryz.prog 136 #[.int .u8 (c.toNat:Int)] w fun e w'=>e=.returned (.bool (letterP c))∧w'=w:=by
 go_enter Tryz.func136,Tryz.ntmps136
 by_cases h1:97≤(c.toNat:Int)
 ·by_cases h2:(c.toNat:Int)≤122
  ·go_wp2_with fail
   go_ret
   have:letterP c=true:=by simp[letterP];omega
   rw[this];exact⟨rfl,rfl⟩
  ·go_wp2_with fail
   go_ret
   have:letterP c=false:=by simp[letterP];omega
   rw[this];exact⟨rfl,rfl⟩
 ·go_wp2_with fail
  go_ret
  have:letterP c=false:=by simp[letterP];omega
  rw[this];exact⟨rfl,rfl⟩
theorem digit_any (c:UInt8) (w:World):Calls Tryz.prog 139 #[.int .u8 (c.toNat:Int)] w fun e w'=>e=.returned (.bool (digitP c))∧w'=w:=by
 go_enter Tryz.func139,Tryz.ntmps139
 by_cases h1:48≤(c.toNat:Int)
 ·by_cases h2:(c.toNat:Int)≤57
  ·go_wp2_with fail
   go_ret
   have:digitP c=true:=by simp[digitP];omega
   rw[this];exact⟨rfl,rfl⟩
  ·go_wp2_with fail
   go_ret
   have:digitP c=false:=by simp[digitP];omega
   rw[this];exact⟨rfl,rfl⟩
 ·go_wp2_with fail
  go_ret
  have:digitP c=false:=by simp[digitP];omega
  rw[this];exact⟨rfl,rfl⟩
theorem notNl_any (c:UInt8) (w:World):Calls Tryz.prog 158 #[.int .u8 (c.toNat:Int)] w fun e w'=>e=.returned (.bool (notNl c))∧w'=w:=by
 go_enter Tryz.func158,Tryz.ntmps158
 by_cases h1:(c.toNat:Int)=10
 ·have hb:((c.toNat:Int) != 10)=false:=by simpa using h1
  go_wp2_with fail
  go_ret
  have:notNl c=false:=by simp[notNl];omega
  rw[this];exact⟨rfl,rfl⟩
 ·have hb:((c.toNat:Int) != 10)=true:=by simpa using h1
  go_wp2_with fail
  go_ret
  have:notNl c=true:=by simp[notNl];omega
  rw[this];exact⟨rfl,rfl⟩
theorem inner_any (c:UInt8) (w:World):Calls Tryz.prog 138 #[.int .u8 (c.toNat:Int)] w fun e w'=>e=.returned (.bool (innerP c))∧w'=w:=by
 have hl:=letter_any c
 have hd:=digit_any c
 go_enter Tryz.func138,Tryz.ntmps138
 go_wp2_with fail
 refine (hl w).mono ?_
 rintro e w1 ⟨rfl,hw⟩
 subst hw
 cases h1:letterP c
 ·go_wp2_with fail
  refine (hd w1).mono ?_
  rintro e w2 ⟨rfl,hw⟩
  subst hw
  cases h2:digitP c
  ·by_cases h3:(c.toNat:Int)=95
   ·have hb:((c.toNat:Int) == 95)=true:=by simpa using h3
    go_wp2_with fail
    go_ret
    have:innerP c=true:=by simp[innerP,h1,h2];omega
    rw[this];exact⟨rfl,rfl⟩
   ·have hb:((c.toNat:Int) == 95)=false:=by simpa using h3
    go_wp2_with fail
    go_ret
    have:innerP c=false:=by simp[innerP,h1,h2];omega
    rw[this];exact⟨rfl,rfl⟩
  ·go_wp2_with fail
   go_ret
   have:innerP c=true:=by simp[innerP,h1,h2]
   rw[this];exact⟨rfl,rfl⟩
 ·go_wp2_with fail
  go_ret
  have:innerP c=true:=by simp[innerP,h1]
  rw[this];exact⟨rfl,rfl⟩
theorem run_any (s:ByteArray) (at_ fid:Nat) (p:UInt8→Bool) (hs:s.size≤140737488351232) (ha:at_≤s.size) (hen:∀args w,(callFunc fid args).run Tryz.prog w=.ok (.enter fid args) w) (his:∀(c:UInt8) w,Calls Tryz.prog fid #[.int .u8 (c.toNat:Int)] w fun e w'=>e=.returned (.bool (p c))∧w'=w) (w:World) :
  Calls Tryz.prog 137 #[.string s,.int .i64 at_,.func (.func fid) #[] #[]] w fun e w'=>e=.returned (.int .i64 (runP p (s.data.toList.drop at_)))∧w'=w:=by
 obtain⟨R,hR⟩:∃R,Hid (runP p (s.data.toList.drop at_)=R):=⟨_,rfl⟩
 have hRl:at_+R≤s.size:=by have h:=runP_le p (s.data.toList.drop at_);rw[hR.out,List.length_drop] at h;have:s.data.toList.length=s.size:=Array.length_toList;omega
 rw[hR.out]
 go_enter Tryz.func137,Tryz.ntmps137
 go_wp2_with fail
 go_loopw [7] (fun v7 wv=>∃n:Nat,n≤R∧v7=.int .i64 n∧wv=w) (fun v7 _=>R-(intOf v7).toNat)
 case atStart=>exact⟨0,by omega,rfl,rfl⟩
 case round=>
  obtain⟨n,hn,rfl,hw⟩:=hrel
  have hw:=hw.symm
  subst hw
  by_cases hlt:n<R
  ·obtain⟨h1,h2⟩:=runP_lt (p:=p) (l:=s.data.toList.drop at_) (n:=n) (by rw[hR.out];exact hlt)
   have hl:s.data.toList.length=s.size:=Array.length_toList
   have hin:at_+n<s.size:=by rw[List.length_drop] at h1;omega
   have hp:p (s[at_+n]'hin)=true:=by rw[List.getElem_drop] at h2;exact h2
   have hil:(at_:Int)+(n:Int)<(s.size:Int):=by omega
   have hcall:=his (s[at_+n]'hin) w
   rw[hp] at hcall
   go_wp2_with fail
   refine hcall.mono ?_
   rintro e w1 ⟨rfl,hw⟩
   subst hw
   go_wp2_with fail
   refine⟨⟨n+1,by omega,rfl,trivial⟩,?_⟩
   simp[intOf]
   omega
  ·obtain rfl:n=R:=by omega
   by_cases hin:at_+n<s.size
   ·have hl:s.data.toList.length=s.size:=Array.length_toList
    have hp:p (s[at_+n]'hin)=false:=by
     rcases runP_end p (s.data.toList.drop at_) with h|⟨h1,h2⟩
     ·rw[hR.out,List.length_drop] at h;omega
     ·simp only[hR.out,List.getElem_drop] at h2;exact h2
    have hil:(at_:Int)+(n:Int)<(s.size:Int):=by omega
    have hcall:=his (s[at_+n]'hin) w
    rw[hp] at hcall
    go_wp2_with fail
    refine hcall.mono ?_
    rintro e w1 ⟨rfl,hw⟩
    subst hw
    go_wp2_with fail
    go_ret
    exact⟨rfl,rfl⟩
   ·have hil:¬(at_:Int)+(n:Int)<(s.size:Int):=by omega
    go_wp2_with fail
    go_ret
    exact⟨rfl,rfl⟩
theorem enters_notNl:∀args w,(callFunc 158 args).run Tryz.prog w=.ok (.enter 158 args) w:=enters_of Tryz.func158 (by kernel_rfl) rfl
theorem enters_inner:∀args w,(callFunc 138 args).run Tryz.prog w=.ok (.enter 138 args) w:=enters_of Tryz.func138 (by kernel_rfl) rfl
theorem enters_digit:∀args w,(callFunc 139 args).run Tryz.prog w=.ok (.enter 139 args) w:=enters_of Tryz.func139 (by kernel_rfl) rfl
theorem skip_any (s:ByteArray) (at_:Nat) (hs:s.size≤140737488351232) (ha:at_≤s.size) (w:World) :
  Calls Tryz.prog 135 #[.string s,.int .i64 at_] w fun e w'=>e=.returned (.int .i64 ((at_+skipN false (s.data.toList.drop at_):Nat):Int))∧w'=w:=by
 obtain⟨E,hE⟩:∃E,Hid (at_+skipN false (s.data.toList.drop at_)=E):=⟨_,rfl⟩
 have hl:s.data.toList.length=s.size:=Array.length_toList
 rw[hE.out]
 go_enter Tryz.func135,Tryz.ntmps135
 go_wp2_with fail
 go_loopw [1] (fun v1 wv=>∃k:Nat,k≤s.size∧v1=.int .i64 k∧wv=w∧Hid (k+skipN false (s.data.toList.drop k)=E)) (fun v1 _=>s.size-(intOf v1).toNat)
 case atStart=>exact⟨at_,ha,rfl,rfl,hE⟩
 case round=>
  clear hE ha
  obtain⟨k,hk,rfl,hw,hE⟩:=hrel
  have hw:=hw.symm
  subst hw
  by_cases hin:k<s.size
  ·have hil:(k:Int)<(s.size:Int):=by omega
   have hdr:s.data.toList.drop k=s[k]'hin::s.data.toList.drop (k+1):=List.drop_eq_getElem_cons (by rw[hl];exact hin)
   obtain⟨c,hc⟩:∃c,Hid (s[k]'hin=c):=⟨_,rfl⟩
   have hrun:=run_any s k 158 notNl hs hk enters_notNl notNl_any w
   rw[hdr,hc.out] at hE hrun
   by_cases hv:c.toNat=35
   ·obtain⟨r,hr⟩:∃r,Hid (runP notNl (c::s.data.toList.drop (k+1))=r):=⟨_,rfl⟩
    have hr1:1≤r:=by rw[←hr.out];simp[runP,List.takeWhile_cons,notNl,hv]
    have hr2:k+r≤s.size:=by
     have h:=runP_le notNl (c::s.data.toList.drop (k+1))
     rw[hr.out] at h
     simp at h
     omega
    have hE2:Hid (k+r+skipN false (s.data.toList.drop (k+r))=E):=by
     have h1:=skip_run (c::s.data.toList.drop (k+1))
     show _=_
     rw[←hE.out,skip_hash c _ hv,h1,hr.out,←hc.out,←hdr,List.drop_drop]
     omega
    rw[hr.out] at hrun
    clear hE
    have b35:(((s[k]'hin).toNat:Int) == 35)=true:=by rw[hc.out,hv];rfl
    go_wp2_with fail
    refine hrun.mono ?_
    rintro e w1 ⟨rfl,hw⟩
    subst hw
    go_wp2_with fail
    refine⟨⟨k+r,by omega,rfl,trivial,hE2⟩,?_⟩
    simp[intOf]
    omega
   by_cases hbl:blank c=true
   ·have hbl:c.toNat=32∨c.toNat=9∨c.toNat=10∨c.toNat=13:=by simpa [blank,or_assoc] using hbl
    rcases hbl with hv|hv|hv|hv
    ·have hv:c.toNat=32:=hv
     have b35:(((s[k]'hin).toNat:Int) == 35)=false:=by rw[hc.out,hv];rfl
     have b32:(((s[k]'hin).toNat:Int) == 32)=true:=by rw[hc.out,hv];rfl
     have b9:(((s[k]'hin).toNat:Int) == 9)=false:=by rw[hc.out,hv];rfl
     have b10:(((s[k]'hin).toNat:Int) == 10)=false:=by rw[hc.out,hv];rfl
     have b13:(((s[k]'hin).toNat:Int) == 13)=false:=by rw[hc.out,hv];rfl
     have hE2:Hid (k+1+skipN false (s.data.toList.drop (k+1))=E):=by show _=_;rw[←hE.out];simp[skipN,blank,hv];omega
     clear hE
     go_wp2_with fail
     refine⟨⟨k+1,by omega,rfl,trivial,hE2⟩,?_⟩
     simp[intOf]
     omega
    ·have hv:c.toNat=9:=hv
     have b35:(((s[k]'hin).toNat:Int) == 35)=false:=by rw[hc.out,hv];rfl
     have b32:(((s[k]'hin).toNat:Int) == 32)=false:=by rw[hc.out,hv];rfl
     have b9:(((s[k]'hin).toNat:Int) == 9)=true:=by rw[hc.out,hv];rfl
     have b10:(((s[k]'hin).toNat:Int) == 10)=false:=by rw[hc.out,hv];rfl
     have b13:(((s[k]'hin).toNat:Int) == 13)=false:=by rw[hc.out,hv];rfl
     have hE2:Hid (k+1+skipN false (s.data.toList.drop (k+1))=E):=by show _=_;rw[←hE.out];simp[skipN,blank,hv];omega
     clear hE
     go_wp2_with fail
     refine⟨⟨k+1,by omega,rfl,trivial,hE2⟩,?_⟩
     simp[intOf]
     omega
    ·have hv:c.toNat=10:=hv
     have b35:(((s[k]'hin).toNat:Int) == 35)=false:=by rw[hc.out,hv];rfl
     have b32:(((s[k]'hin).toNat:Int) == 32)=false:=by rw[hc.out,hv];rfl
     have b9:(((s[k]'hin).toNat:Int) == 9)=false:=by rw[hc.out,hv];rfl
     have b10:(((s[k]'hin).toNat:Int) == 10)=true:=by rw[hc.out,hv];rfl
     have b13:(((s[k]'hin).toNat:Int) == 13)=false:=by rw[hc.out,hv];rfl
     have hE2:Hid (k+1+skipN false (s.data.toList.drop (k+1))=E):=by show _=_;rw[←hE.out];simp[skipN,blank,hv];omega
     clear hE
     go_wp2_with fail
     refine⟨⟨k+1,by omega,rfl,trivial,hE2⟩,?_⟩
     simp[intOf]
     omega
    ·have hv:c.toNat=13:=hv
     have b35:(((s[k]'hin).toNat:Int) == 35)=false:=by rw[hc.out,hv];rfl
     have b32:(((s[k]'hin).toNat:Int) == 32)=false:=by rw[hc.out,hv];rfl
     have b9:(((s[k]'hin).toNat:Int) == 9)=false:=by rw[hc.out,hv];rfl
     have b10:(((s[k]'hin).toNat:Int) == 10)=false:=by rw[hc.out,hv];rfl
     have b13:(((s[k]'hin).toNat:Int) == 13)=true:=by rw[hc.out,hv];rfl
     have hE2:Hid (k+1+skipN false (s.data.toList.drop (k+1))=E):=by show _=_;rw[←hE.out];simp[skipN,blank,hv];omega
     clear hE
     go_wp2_with fail
     refine⟨⟨k+1,by omega,rfl,trivial,hE2⟩,?_⟩
     simp[intOf]
     omega
   ·have hnb:=hbl
    have hE0:k=E:=by rw[←hE.out];simp[skipN,hv,hbl]
    subst hE0
    have b35:(((s[k]'hin).toNat:Int) == 35)=false:=by rw[hc.out];simp;omega
    simp[blank] at hnb
    have b32:(((s[k]'hin).toNat:Int) == 32)=false:=by rw[hc.out];simp;omega
    have b9:(((s[k]'hin).toNat:Int) == 9)=false:=by rw[hc.out];simp;omega
    have b10:(((s[k]'hin).toNat:Int) == 10)=false:=by rw[hc.out];simp;omega
    have b13:(((s[k]'hin).toNat:Int) == 13)=false:=by rw[hc.out];simp;omega
    clear hnb hbl hv
    go_wp2_with fail
    go_ret
    exact⟨rfl,rfl⟩
  ·have hil:¬(k:Int)<(s.size:Int):=by omega
   obtain rfl:k=s.size:=by omega
   have hE0:=hE.out
   rw[List.drop_of_length_le (by omega)] at hE0
   have hE0:s.size=E:=hE0
   subst hE0
   clear hE
   go_wp2_with fail
   go_ret
   exact⟨rfl,rfl⟩
end Lx
namespace Lx
structure Tok where
 k:Int
 s:ByteArray
 a:Nat
def signs:ByteArray:=⟨#[40,41,91,93,123,125,60,62,124,58,59,44,63]⟩
def kindOf (c:UInt8):Int:=if letterP c then 0 else if digitP c then 1 else if 0≤Lib.indexByte signs.data.toList c then 2 else -1
def byteAt (s:ByteArray) (a:Nat):UInt8:=s.data.toList.getD a 0
def lenAt (s:ByteArray) (a:Nat):Nat:=if letterP (byteAt s a) then runP innerP (s.data.toList.drop a) else if digitP (byteAt s a) then runP digitP (s.data.toList.drop a) else 1
def tokAt (s:ByteArray) (a:Nat):Tok:=⟨kindOf (byteAt s a),s.extract a (a+lenAt s a),a⟩
def skp (s:ByteArray) (a:Nat):Nat:=a+skipN false (s.data.toList.drop a)
def tokG (s:ByteArray):Nat→Nat→List Tok
 | 0,_=>[]
 | f+1,a=>if a<s.size then tokAt s a::tokG s f (skp s (a+lenAt s a)) else [⟨3,ByteArray.empty,s.size⟩]
def toks (s:ByteArray):List Tok:=tokG s (s.size+1) (skp s 0)
theorem size_list (s:ByteArray):s.data.toList.length=s.size:=Array.length_toList
theorem skp_le (s:ByteArray) (a:Nat) (h:a≤s.size):skp s a≤s.size:=by
 have:=skipN_le false (s.data.toList.drop a)
 rw[List.length_drop,size_list] at this
 unfold skp;omega
theorem skp_ge (s:ByteArray) (a:Nat):a≤skp s a:=by unfold skp;omega
theorem byteAt_get (s:ByteArray) (a:Nat) (h:a<s.size):s[a]=byteAt s a:=by
 unfold byteAt
 rw[List.getD,List.getElem?_eq_getElem (by rw[size_list];exact h)]
 rfl
theorem drop_byteAt (s:ByteArray) (a:Nat) (h:a<s.size):s.data.toList.drop a=byteAt s a::s.data.toList.drop (a+1):=by
 rw[List.drop_eq_getElem_cons (by rw[size_list];exact h),←byteAt_get s a h]
 rfl
theorem lenAt_pos (s:ByteArray) (a:Nat) (h:a<s.size):1≤lenAt s a:=by
 unfold lenAt
 split
 ·rename_i hl
  rw[drop_byteAt s a h];simp[runP,List.takeWhile_cons,innerP,hl]
 ·split
  ·rename_i hl
   rw[drop_byteAt s a h];simp[runP,List.takeWhile_cons,hl]
  ·exact Nat.le_refl _
theorem lenAt_le (s:ByteArray) (a:Nat) (h:a<s.size):a+lenAt s a≤s.size:=by
 have h1:=runP_le innerP (s.data.toList.drop a)
 have h2:=runP_le digitP (s.data.toList.drop a)
 rw[List.length_drop,size_list] at h1 h2
 unfold lenAt
 split
 ·omega
 ·split<;>omega
theorem tokG_step (s:ByteArray) (f a:Nat) (h:a<s.size):tokG s (f+1) a=tokAt s a::tokG s f (skp s (a+lenAt s a)):=by rw[tokG,if_pos h]
theorem tokG_end (s:ByteArray) (f a:Nat) (h:¬a<s.size):tokG s (f+1) a=[⟨3,ByteArray.empty,s.size⟩]:=by rw[tokG,if_neg h]
end Lx
namespace Lx
open Go.RowKit Go.Shelf
open Base
attribute [local go_sem] Oper.semAt_some
def encT (x:Tok):Value:=.agg #[.int .i64 x.k,.string x.s,.int .i64 (x.a:Int)]
def Kp (Bn:Nat) (W W':World):Prop:=W.heap.size≤W'.heap.size∧∀o,W.heap[Bn]?=some o→W'.heap[Bn]?=some o
theorem Kp.refl (Bn:Nat) (W:World):Kp Bn W W:=⟨Nat.le_refl _,fun _ h=>h⟩
theorem index_any (c:UInt8) (w:World):Calls Tryz.prog 140 #[.string signs,.int .u8 (c.toNat:Int)] w fun e w'=>e=.returned (.int .i64 (Lib.indexByte signs.data.toList c))∧w'=w:=by
 have h24:=@run_callFunc_extern Tryz.prog 169 _ Extern.BytealgIndexByte.indexByte Tryz.func169 (by kernel_rfl) (by kernel_rfl) (by kernel_rfl) (by kernel_rfl)
 have hrun:=Lib.run_indexByteString (P:=Tryz.prog) signs (c.toNat:Int) w
 have hc:((c.toNat:Int)).toNat.toUInt8=c:=by simp
 rw[hc] at hrun
 go_enter Tryz.func140,Tryz.ntmps140
 go_wp2
 go_ret
 exact⟨rfl,rfl⟩
theorem tokens_any (s:ByteArray) (w:World):Calls Tryz.prog 122 #[.string s] w fun e w'=>e=.returned (.func (.func 134) #[] #[.pointer (some ⟨w.heap.size,0,none⟩)])∧w'=w.alloc (.cells #[.string s] 9):=by
 go_enter Tryz.func122,Tryz.ntmps122
 go_wp2
 go_ret
 exact⟨rfl,rfl⟩
set_option maxHeartbeats 2000000 in
theorem iter_in (n:Nat) (hn:1≤n) (l Bn:Nat) (s:ByteArray) (hs:s.size≤140737488351232) (J Jx:List Tok→World→Prop)
  (hY:∀pre x W,J pre W→pre.length<(toks s).length→YieldAt Fence.wide (n-1) Tryz.prog l #[encT x] W fun e W'=>
   (e=.returned (.bool true)∧J (pre++[x]) W'∧Kp Bn W W')∨(e=.returned (.bool false)∧Jx (pre++[x]) W'))
  (W:World) (hJ:AbidesFrom W.heap.size J) (hBn:Boxed W Bn 9 (.string s)) (h0:J [] W) :
  CallsIn Fence.wide n Tryz.prog 134 #[.func (.yield l) #[] #[],.pointer (some ⟨Bn,0,none⟩)] W fun e W'=>(∃v,e=.returned v)∧
   ((∃ys,ys=toks s∧J ys W')∨(∃pre,pre <+: toks s∧Jx pre W')):=by
 obtain⟨T,hT⟩:∃T,Hid (toks s=T):=⟨_,rfl⟩
 have hskip:=fun (a:Nat) (ha:a≤s.size) w=>(skip_any s a hs ha w)
 rw[hT.out] at hY ⊢
 have hc:=hBn.cell
 have hsk0:=hskip 0 (Nat.zero_le _) W
 refine callsIn_of_wp Tryz.func134 rfl trivial ?_ rfl
 simp only[Tryz.ntmps134,List.size_toArray,List.length_cons,List.length_nil,Nat.reduceAdd,Nat.reduceSub,Array.replicate_succ,Array.replicate_zero,List.push_toArray,List.append_toArray,List.nil_append,List.cons_append]
 gi_wp2_with (refine⟨trivial,?_⟩;gi_at_call 135;refine (callsIn_wide.2 hsk0).mono ?_;rintro e w' ⟨rfl,rfl⟩)
 gi_loopw [3] (fun v3 wr=>∃(pre:List Tok) (f a:Nat),v3=.int .i64 a∧a≤s.size∧s.size+1≤a+f∧Hid (T=pre++tokG s f a)∧J pre wr∧Boxed wr Bn 9 (.string s)) (fun v3 _=>s.size-(intOf v3).toNat)
 case atStart=>
  refine⟨[],s.size+1,skp s 0,?_,skp_le s 0 (Nat.zero_le _),by omega,hT.out.symm,h0,hBn⟩
  simp[skp]
 case round=>
  clear hsk0 hBn h0 hc hT
  obtain⟨pre,f,a,rfl,ha,hf,hTe,hJs,hBn⟩:=hrel
  have hc:=hBn.cell
  by_cases hin:a<s.size
  ·have hin':(a:Int)<(s.size:Int):=by omega
   have hca:∀o,(wr.alloc o).cell? ⟨Bn,0,none⟩=some (.string s):=fun o=>(hBn.alloc o).cell
   have hBl:=hBn.lt
   have hBl2:¬wr.heap.size=Bn:=by omega
   have hBl3:¬Bn=wr.heap.size:=by omega
   have hlet:=letter_any (s[a]'hin)
   have hdig:=digit_any (s[a]'hin)
   cases f with
   | zero=>omega
   | succ f=>
   have hstep:=tokG_step s f a hin
   cases hl:letterP (s[a]'hin)
   ·rw[hl] at hlet
    cases hd:digitP (s[a]'hin)
    ·rw[hd] at hdig
     obtain⟨ix,hix⟩:∃ix,Hid (Lib.indexByte signs.data.toList (s[a]'hin)=ix):=⟨_,rfl⟩
     have hidx:=index_any (s[a]'hin)
     rw[hix.out] at hidx
     by_cases hge:0≤ix
     ·have hkind:kindOf (byteAt s a)=2:=by simp only[kindOf,←byteAt_get s a hin,hl,hd,hix.out,hge,if_true,if_false,Bool.false_eq_true]
      have hlen:lenAt s a=1:=by simp only[lenAt,←byteAt_get s a hin,hl,hd,if_true,if_false,Bool.false_eq_true]
      have hr2:a+1≤s.size:=by omega
      have htk:encT (tokAt s a)=.agg #[.int .i64 2,.string (s.extract a (a+1)),.int .i64 (a:Int)]:=by simp only[encT,tokAt,hkind,hlen]
      have hJ1:J pre (wr.alloc (.cells #[.int .i64 2,.string (s.extract a (a+1)),.int .i64 (a:Int)] 102)):=hJ _ _ _ none hJs (World.grownBy_alloc _ _ none) (fun r e=>by cases e)
      obtain⟨fn,tm,asg,bd,hy,hR⟩:=hY pre (tokAt s a) _ hJ1 (by rw[hTe.out,hstep];simp)
      rw[htk] at hy
      gi_wp2_with (first
       | (refine ⟨trivial, ?_⟩; gi_at_call 136; refine (callsIn_wide.2 (hlet _)).mono ?_; rintro e w' ⟨rfl, rfl⟩)
               | (refine⟨trivial,?_⟩;gi_at_call 139;refine (callsIn_wide.2 (hdig _)).mono ?_;rintro e w' ⟨rfl,rfl⟩)
               | (refine⟨trivial,?_⟩;gi_at_call 140;refine (callsIn_wide.2 (hidx _)).mono ?_;rintro e w' ⟨rfl,rfl⟩))
      refine hR.mono ?_
      clear hR hy
      rintro e W3 (⟨rfl,hJ3,hk3⟩|⟨rfl,hJx3⟩)
      ·have hB3:Boxed W3 Bn 9 (.string s):=hk3.2 _ (hBn.alloc _)
       have hc3:=hB3.cell
       have hsk:=hskip (a+1) (by omega)
       obtain⟨a2,ha2⟩:∃a2,Hid (a+1+skipN false (s.data.toList.drop (a+1))=a2):=⟨_,rfl⟩
       have ha2':skp s (a+1)=a2:=ha2.out
       have ha2l:a2≤s.size:=by rw[←ha2'];exact skp_le s _ (by omega)
       have ha2g:a<a2:=by have:=skp_ge s (a+1);omega
       rw[ha2.out] at hsk
       gi_wp2_with (refine⟨trivial,?_⟩;gi_at_call 135;refine (callsIn_wide.2 (hsk _)).mono ?_;rintro e w' ⟨rfl,rfl⟩)
       refine⟨⟨pre++[tokAt s a],f,a2,rfl,ha2l,by omega,?_,hJ3,hB3⟩,?_⟩
       ·show _=_
        rw[hTe.out,hstep,hlen,ha2',List.append_assoc];rfl
       ·simp[intOf];omega
      ·gi_wp2
       refine bodyPost_ret (results_none rfl _ _ _) rfl ?_
       exact⟨⟨_,rfl⟩,.inr ⟨pre++[tokAt s a],⟨_,by rw[hTe.out,hstep,List.append_assoc];rfl⟩,hJx3⟩⟩
     ·have hkind:kindOf (byteAt s a) = -1:=by simp only[kindOf,←byteAt_get s a hin,hl,hd,hix.out,hge,if_true,if_false,Bool.false_eq_true]
      have hlen:lenAt s a=1:=by simp only[lenAt,←byteAt_get s a hin,hl,hd,if_true,if_false,Bool.false_eq_true]
      have hr2:a+1≤s.size:=by omega
      have htk:encT (tokAt s a)=.agg #[.int .i64 (-1),.string (s.extract a (a+1)),.int .i64 (a:Int)]:=by simp only[encT,tokAt,hkind,hlen]
      have hJ1:J pre (wr.alloc (.cells #[.int .i64 (-1),.string (s.extract a (a+1)),.int .i64 (a:Int)] 102)):=hJ _ _ _ none hJs (World.grownBy_alloc _ _ none) (fun r e=>by cases e)
      obtain⟨fn,tm,asg,bd,hy,hR⟩:=hY pre (tokAt s a) _ hJ1 (by rw[hTe.out,hstep];simp)
      rw[htk] at hy
      gi_wp2_with (first
       | (refine ⟨trivial, ?_⟩; gi_at_call 136; refine (callsIn_wide.2 (hlet _)).mono ?_; rintro e w' ⟨rfl, rfl⟩)
               | (refine⟨trivial,?_⟩;gi_at_call 139;refine (callsIn_wide.2 (hdig _)).mono ?_;rintro e w' ⟨rfl,rfl⟩)
               | (refine⟨trivial,?_⟩;gi_at_call 140;refine (callsIn_wide.2 (hidx _)).mono ?_;rintro e w' ⟨rfl,rfl⟩))
      refine hR.mono ?_
      clear hR hy
      rintro e W3 (⟨rfl,hJ3,hk3⟩|⟨rfl,hJx3⟩)
      ·have hB3:Boxed W3 Bn 9 (.string s):=hk3.2 _ (hBn.alloc _)
       have hc3:=hB3.cell
       have hsk:=hskip (a+1) (by omega)
       obtain⟨a2,ha2⟩:∃a2,Hid (a+1+skipN false (s.data.toList.drop (a+1))=a2):=⟨_,rfl⟩
       have ha2':skp s (a+1)=a2:=ha2.out
       have ha2l:a2≤s.size:=by rw[←ha2'];exact skp_le s _ (by omega)
       have ha2g:a<a2:=by have:=skp_ge s (a+1);omega
       rw[ha2.out] at hsk
       gi_wp2_with (refine⟨trivial,?_⟩;gi_at_call 135;refine (callsIn_wide.2 (hsk _)).mono ?_;rintro e w' ⟨rfl,rfl⟩)
       refine⟨⟨pre++[tokAt s a],f,a2,rfl,ha2l,by omega,?_,hJ3,hB3⟩,?_⟩
       ·show _=_
        rw[hTe.out,hstep,hlen,ha2',List.append_assoc];rfl
       ·simp[intOf];omega
      ·gi_wp2
       refine bodyPost_ret (results_none rfl _ _ _) rfl ?_
       exact⟨⟨_,rfl⟩,.inr ⟨pre++[tokAt s a],⟨_,by rw[hTe.out,hstep,List.append_assoc];rfl⟩,hJx3⟩⟩
    ·rw[hd] at hdig
     have hkind:kindOf (byteAt s a)=1:=by simp only[kindOf,←byteAt_get s a hin,hl,hd,if_true,if_false,Bool.false_eq_true]
     have hrun:=run_any s a 139 digitP hs ha enters_digit digit_any
     obtain⟨r,hr⟩:∃r,Hid (runP digitP (s.data.toList.drop a)=r):=⟨_,rfl⟩
     rw[hr.out] at hrun
     have hlen:lenAt s a=r:=by simp only[lenAt,←byteAt_get s a hin,hl,hd,if_true,if_false,Bool.false_eq_true];exact hr.out
     have hr1:=lenAt_pos s a hin
     have hr2:=lenAt_le s a hin
     rw[hlen] at hr1 hr2
     have htk:encT (tokAt s a)=.agg #[.int .i64 1,.string (s.extract a (a+r)),.int .i64 (a:Int)]:=by simp only[encT,tokAt,hkind,hlen]
     have hJ1:J pre (wr.alloc (.cells #[.int .i64 1,.string (s.extract a (a+r)),.int .i64 (a:Int)] 102)):=hJ _ _ _ none hJs (World.grownBy_alloc _ _ none) (fun r e=>by cases e)
     obtain⟨fn,tm,asg,bd,hy,hR⟩:=hY pre (tokAt s a) _ hJ1 (by rw[hTe.out,hstep];simp)
     rw[htk] at hy
     gi_wp2_with (first
      | (refine ⟨trivial, ?_⟩; gi_at_call 136; refine (callsIn_wide.2 (hlet _)).mono ?_; rintro e w' ⟨rfl, rfl⟩)
              | (refine⟨trivial,?_⟩;gi_at_call 139;refine (callsIn_wide.2 (hdig _)).mono ?_;rintro e w' ⟨rfl,rfl⟩)
              | (refine⟨trivial,?_⟩;gi_at_call 137;refine (callsIn_wide.2 (hrun _)).mono ?_;rintro e w' ⟨rfl,rfl⟩))
     refine hR.mono ?_
     clear hR hy
     rintro e W3 (⟨rfl,hJ3,hk3⟩|⟨rfl,hJx3⟩)
     ·have hB3:Boxed W3 Bn 9 (.string s):=hk3.2 _ (hBn.alloc _)
      have hc3:=hB3.cell
      have hsk:=hskip (a+r) (by omega)
      obtain⟨a2,ha2⟩:∃a2,Hid (a+r+skipN false (s.data.toList.drop (a+r))=a2):=⟨_,rfl⟩
      have ha2':skp s (a+r)=a2:=ha2.out
      have ha2l:a2≤s.size:=by rw[←ha2'];exact skp_le s _ (by omega)
      have ha2g:a<a2:=by have:=skp_ge s (a+r);omega
      rw[ha2.out] at hsk
      gi_wp2_with (refine⟨trivial,?_⟩;gi_at_call 135;refine (callsIn_wide.2 (hsk _)).mono ?_;rintro e w' ⟨rfl,rfl⟩)
      refine⟨⟨pre++[tokAt s a],f,a2,rfl,ha2l,by omega,?_,hJ3,hB3⟩,?_⟩
      ·show _=_
       rw[hTe.out,hstep,hlen,ha2',List.append_assoc];rfl
      ·simp[intOf];omega
     ·gi_wp2
      refine bodyPost_ret (results_none rfl _ _ _) rfl ?_
      exact⟨⟨_,rfl⟩,.inr ⟨pre++[tokAt s a],⟨_,by rw[hTe.out,hstep,List.append_assoc];rfl⟩,hJx3⟩⟩
   ·rw[hl] at hlet
    have hkind:kindOf (byteAt s a)=0:=by simp only[kindOf,←byteAt_get s a hin,hl,if_true,if_false,Bool.false_eq_true]
    have hrun:=run_any s a 138 innerP hs ha enters_inner inner_any
    obtain⟨r,hr⟩:∃r,Hid (runP innerP (s.data.toList.drop a)=r):=⟨_,rfl⟩
    rw[hr.out] at hrun
    have hlen:lenAt s a=r:=by simp only[lenAt,←byteAt_get s a hin,hl,if_true,if_false,Bool.false_eq_true];exact hr.out
    have hr1:=lenAt_pos s a hin
    have hr2:=lenAt_le s a hin
    rw[hlen] at hr1 hr2
    have htk:encT (tokAt s a)=.agg #[.int .i64 0,.string (s.extract a (a+r)),.int .i64 (a:Int)]:=by simp only[encT,tokAt,hkind,hlen]
    have hJ1:J pre (wr.alloc (.cells #[.int .i64 0,.string (s.extract a (a+r)),.int .i64 (a:Int)] 102)):=hJ _ _ _ none hJs (World.grownBy_alloc _ _ none) (fun r e=>by cases e)
    obtain⟨fn,tm,asg,bd,hy,hR⟩:=hY pre (tokAt s a) _ hJ1 (by rw[hTe.out,hstep];simp)
    rw[htk] at hy
    gi_wp2_with (first
     | (refine ⟨trivial, ?_⟩; gi_at_call 136; refine (callsIn_wide.2 (hlet _)).mono ?_; rintro e w' ⟨rfl, rfl⟩)
             | (refine⟨trivial,?_⟩;gi_at_call 137;refine (callsIn_wide.2 (hrun _)).mono ?_;rintro e w' ⟨rfl,rfl⟩))
    refine hR.mono ?_
    clear hR hy
    rintro e W3 (⟨rfl,hJ3,hk3⟩|⟨rfl,hJx3⟩)
    ·have hB3:Boxed W3 Bn 9 (.string s):=hk3.2 _ (hBn.alloc _)
     have hc3:=hB3.cell
     have hsk:=hskip (a+r) (by omega)
     obtain⟨a2,ha2⟩:∃a2,Hid (a+r+skipN false (s.data.toList.drop (a+r))=a2):=⟨_,rfl⟩
     have ha2':skp s (a+r)=a2:=ha2.out
     have ha2l:a2≤s.size:=by rw[←ha2'];exact skp_le s _ (by omega)
     have ha2g:a<a2:=by have:=skp_ge s (a+r);omega
     rw[ha2.out] at hsk
     gi_wp2_with (refine⟨trivial,?_⟩;gi_at_call 135;refine (callsIn_wide.2 (hsk _)).mono ?_;rintro e w' ⟨rfl,rfl⟩)
     refine⟨⟨pre++[tokAt s a],f,a2,rfl,ha2l,by omega,?_,hJ3,hB3⟩,?_⟩
     ·show _=_
      rw[hTe.out,hstep,hlen,ha2',List.append_assoc];rfl
     ·simp[intOf];omega
    ·gi_wp2
     refine bodyPost_ret (results_none rfl _ _ _) rfl ?_
     exact⟨⟨_,rfl⟩,.inr ⟨pre++[tokAt s a],⟨_,by rw[hTe.out,hstep,List.append_assoc];rfl⟩,hJx3⟩⟩
  ·have hin':¬(a:Int)<(s.size:Int):=by omega
   cases f with
   | zero=>omega
   | succ f=>
   have hend:=tokG_end s f a hin
   obtain⟨fn,tm,asg,bd,hy,hR⟩:=hY pre ⟨3,ByteArray.empty,s.size⟩ _ hJs (by rw[hTe.out,hend];simp)
   have htk:encT ⟨3,ByteArray.empty,s.size⟩=.agg #[.int .i64 3,.string { data := #[] },.int .i64 (s.size:Int)]:=rfl
   rw[htk] at hy
   gi_wp2
   refine hR.mono ?_
   rintro e W3 (⟨rfl,hJ3,hk3⟩|⟨rfl,hJx3⟩)
   ·gi_wp2
    go_end0
    exact⟨⟨_,rfl⟩,.inl ⟨_,by rw[hTe.out,hend],hJ3⟩⟩
   ·gi_wp2
    go_end0
    exact⟨⟨_,rfl⟩,.inr ⟨_,⟨[],by rw[hTe.out,hend,List.append_nil]⟩,hJx3⟩⟩
theorem iter_stops (n:Nat) (hn:1≤n) (Bn:Nat) (s:ByteArray) (hs:s.size≤140737488351232) (w:World) (hBn:Boxed w Bn 9 (.string s)) :
  SeqStopsK Fence.wide n Tryz.prog 134 #[.pointer (some ⟨Bn,0,none⟩)] (fun x:Tok => #[encT x]) (Kp Bn) (fun ys=>ys=toks s) (fun pre=>pre <+: toks s) (toks s).length w:=fun l J Jx W hW hJ _ hY h0=>
 iter_in n hn l Bn s hs J Jx hY W hJ ((hW.block _ hBn.lt).trans hBn) h0
theorem Kp.trans {Bn:Nat} {A B C:World} (h:Kp Bn A B) (k:Kp Bn B C):Kp Bn A C:=⟨Nat.le_trans h.1 k.1,fun o ho=>k.2 o (h.2 o ho)⟩
end Lx
end Go.Proofs.YtllhhpcabncmiaaGreatDoor
