/- sha: the hash of what has come. -/
import Derived.Test.YtbpfabhlngfciaaGreatDoorCdM
import Derived.Lib.Builder
import Derived.Lib.UnsafeStr
import Derived.Laws.ResultCell
import Derived.SizedLaws
import Derived.ShutString
import Derived.ChangeOld
import Derived.SliceStrings
import Derived.Deep.Slices
import Derived.OpenShut
set_option linter.unusedVariables false
set_option linter.unusedSimpArgs false
set_option maxRecDepth 100000
set_option maxHeartbeats 1000000
namespace Go.Proofs.YtbpfabhlngfciaaGreatDoor.ShaW
open Go.ChangeShapes Go.WideShapes Go.ChangeAt Go.RowKit
open ShaP Base
def z32:Array Value:=(u8s (List.replicate 32 0)).toArray
theorem below_ext {B:Nat} {a b:World} (h:Go.RowKit.Below B a b) (hB:a.heap.size≤B):Ext a b:=h.mono hB
theorem one_rd {X:World} {q:Nat} {b:UInt8} (h:X.cell? ⟨q,0,none⟩=some (.int .u8 (b.toNat:Int))):Rd X (some ⟨q,0,none⟩) (u8s [b]):=fun _=>
 ⟨q,0,rfl,fun j u hj=>by
  have:j=0:=by
   have:=(List.getElem?_eq_some_iff.1 hj).1
   simp[u8s] at this;omega
  subst this
  simp only[u8s,List.map_cons,List.getElem?_cons_zero,Option.some.injEq] at hj
  rw[←hj];exact h⟩
def SInv (w W:World) (s:ShaP.St) (c:Int) (V:Value) (l:List UInt8):Prop:=
 Ext w W∧Blk W w.heap.size z32 23∧Blk W (w.heap.size+1) ((us s.list).toArray ++ #[V,.int .u64 c]) 144∧OwnS W V (u8s l)∧∀k,V.ownBlock=some k→w.heap.size+2≤k
theorem SInv.put {w W:World} {s:ShaP.St} {c:Int} {V0 V:Value} {l:List UInt8} (hx:Ext w W) (hz:Blk W w.heap.size z32 23) (hg:Blk W (w.heap.size+1) ((us s.list).toArray ++ #[V0,.int .u64 c]) 144) (ho:OwnS W V (u8s l)) (hb:∀k,V.ownBlock=some k→w.heap.size+2≤k) :
  SInv w (W.setCell ⟨w.heap.size+1,8,none⟩ V) s c V l:=by
 have h:=hg.set 8 V
 rw[words8] at h
 exact⟨hx.setCell (by show _≤w.heap.size+1;omega) _,hz.far (by show w.heap.size≠w.heap.size+1;omega) _,h,ho.keep (Chg.one W _ 8 V) (fun k hk e=>by have:=hb k hk;omega),hb⟩
theorem SInv.drew {w W:World} {s:ShaP.St} {c:Int} {V:Value} {l:List UInt8} (h:SInv w W s c V l):SInv w W.drew s c V l:=
 ⟨h.1.drew,h.2.1,h.2.2.1,h.2.2.2.1.ext ((Ext.refl W).drew),h.2.2.2.2⟩
theorem SInv.app {w W X w1:World} {s:ShaP.St} {c:Int} {V V1:Value} {l:List UInt8} {b:UInt8} (h:SInv w W s c V l) (hX:Ext W X) (ho:OwnS w1 V1 (u8s l++u8s [b])) (hg:X.grownBy w1 V.ownBlock) (hv:V1.ownBlock=V.ownBlock∨V1.ownBlock=some X.heap.size∧X.heap.size<w1.heap.size) :
  Ext w w1∧Blk w1 w.heap.size z32 23∧Blk w1 (w.heap.size+1) ((us s.list).toArray ++ #[V,.int .u64 c]) 144∧OwnS w1 V1 (u8s (l++[b]))∧∀k,V1.ownBlock=some k→w.heap.size+2≤k:=by
 obtain⟨hx,hz,hgb,_,hb⟩:=h
 have hs:=hgb.lt
 have hsX:=hX.size
 refine⟨(hx.trans hX).then_grown hg (fun k hk=>by have:=hb k hk;omega),(hz.ext hX).grown hg (fun e=>by have:=hb _ e.symm;omega),(hgb.ext hX).grown hg (fun e=>by have:=hb _ e.symm;omega),by rw[u8s_append];exact ho,fun k hk=>?_⟩
 rcases hv with e|e
 ·exact hb k (by rw[←e,hk])
 ·rw[e.1] at hk;injection hk with hk;omega
theorem byte_at (N j:Nat) (hj:j<8) (S:Nat) (hS:S+8*j=56):IntKind.u8.wrap (IntKind.u64.wrap (((N%18446744073709551616:Nat):Int)*8) / 2 ^ S)=((UInt8.ofNat (N*8 / 2 ^ S)).toNat:Int):=by
 rw[IntKind.wrap_u64,IntKind.wrap_u8,UInt8.toNat_ofNat']
 have:j=0∨j=1∨j=2∨j=3∨j=4∨j=5∨j=6∨j=7:=by omega
 rcases this with rfl|rfl|rfl|rfl|rfl|rfl|rfl|rfl
 ·obtain rfl:S=56:=by omega
  simp only[Nat.reducePow,Int.reducePow];omega
 ·obtain rfl:S=48:=by omega
  simp only[Nat.reducePow,Int.reducePow];omega
 ·obtain rfl:S=40:=by omega
  simp only[Nat.reducePow,Int.reducePow];omega
 ·obtain rfl:S=32:=by omega
  simp only[Nat.reducePow,Int.reducePow];omega
 ·obtain rfl:S=24:=by omega
  simp only[Nat.reducePow,Int.reducePow];omega
 ·obtain rfl:S=16:=by omega
  simp only[Nat.reducePow,Int.reducePow];omega
 ·obtain rfl:S=8:=by omega
  simp only[Nat.reducePow,Int.reducePow];omega
 ·obtain rfl:S=0:=by omega
  simp only[Nat.reducePow,Int.reducePow];omega
theorem be8_take (X j:Nat) (hj:j<8) (S:Nat) (hS:S+8*j=56):(be8 X).take (j+1)=(be8 X).take j++[UInt8.ofNat (X / 2 ^ S)]:=by
 have:j=0∨j=1∨j=2∨j=3∨j=4∨j=5∨j=6∨j=7:=by omega
 rcases this with rfl|rfl|rfl|rfl|rfl|rfl|rfl|rfl
 ·obtain rfl:S=56:=by omega
  rfl
 ·obtain rfl:S=48:=by omega
  rfl
 ·obtain rfl:S=40:=by omega
  rfl
 ·obtain rfl:S=32:=by omega
  rfl
 ·obtain rfl:S=24:=by omega
  rfl
 ·obtain rfl:S=16:=by omega
  rfl
 ·obtain rfl:S=8:=by omega
  rfl
 ·obtain rfl:S=0:=by omega
  simp[be8]
theorem sha_tail (m Lf:List UInt8) (h:m.drop (64*(m.length / 64))=Lf):sha m=out (blocks (blocks begin_ m (m.length / 64)) (Lf++[128]++List.replicate (noughts m.length) 0++be8 (m.length*8)) ((Lf++[128]++List.replicate (noughts m.length) 0++be8 (m.length*8)).length / 64)):=by
 have hp:padded m m.length=m++([128]++List.replicate (noughts m.length) 0++be8 (m.length*8)):=by simp[padded]
 have hP:Lf++[128]++List.replicate (noughts m.length) 0++be8 (m.length*8)=Lf++([128]++List.replicate (noughts m.length) 0++be8 (m.length*8)):=by simp
 rw[sha,hp,hP]
 generalize [128]++List.replicate (noughts m.length) 0++be8 (m.length*8)=R
 have hl:Lf.length=m.length-64*(m.length / 64):=by rw[←h];simp
 have hq:(m++R).length / 64=m.length / 64+(Lf++R).length / 64:=by rw[List.length_append,List.length_append,hl];omega
 rw[hq,blocks_add m,blocks_append m R _ _ m (by omega),List.drop_append_of_le_length (by omega),h]
def lenOf:Value→Nat
 | .slice _ n _=>n
 | _=>0
theorem out_length (s:ShaP.St):(out s).length=32:=by simp[out,St.list]
def otab (s:ShaP.St) (i:Nat):Array Value:=(u8s ((out s).take i++List.replicate (32-i) 0)).toArray
theorem otab_zero (s:ShaP.St):otab s 0=z32:=by simp[otab,z32]
theorem otab_full (s:ShaP.St):otab s 32=(u8s (out s)).toArray:=by
 rw[otab,List.take_of_length_le (by rw[out_length];omega)];simp
theorem otab_size (s:ShaP.St) (i:Nat) (h:i≤32):(otab s i).size=32:=by simp[otab,u8s_length,out_length];omega
theorem otab_set (s:ShaP.St) (i:Nat) (h:i<32):(otab s i).setIfInBounds i (.int .u8 ((at8 (out s) i).toNat:Int))=otab s (i+1):=by
 have hl:=out_length s
 have e:32-i=(32-(i+1))+1:=by omega
 have ht:(out s).take (i+1)=(out s).take i++[at8 (out s) i]:=by
  rw[List.take_add_one,at8,List.getD,List.getElem?_eq_getElem (by omega)];rfl
 unfold otab
 rw[List.setIfInBounds_toArray,ht,e,List.replicate_succ]
 congr 1
 rw[u8s_append,u8s_append,u8s_append,List.set_append_right _ _ (by rw[u8s_length,List.length_take];omega)]
 rw[u8s_length,List.length_take,Nat.min_eq_left (by omega),Nat.sub_self]
 simp[u8s]
theorem head8 (s:ShaP.St) (r:Array Value) (k:Nat) (h:k<8):((us s.list).toArray++r)[k]?=some (.int .u32 (U (at32 s.list k))):=by
 rw[Array.getElem?_append_left (by simp[us,St.list];omega),List.getElem?_toArray,us_at _ _ (by simp[St.list];omega)]
theorem out_at (s:ShaP.St) (i q r S:Nat) (hi:i<32) (hq:i / 4=q) (hr:i%4=r) (hS:S+8*r=24):IntKind.u8.wrap (U (at32 s.list q) / 2 ^ S)=((at8 (out s) i).toNat:Int):=by
 have h4:∀x:BitVec 32,(x.toNat:Int)=((x.toNat:Nat):Int):=fun _=>rfl
 have hb:at8 (out s) i=UInt8.ofNat ((at32 s.list q).toNat / 2 ^ S):=by
  subst hq;subst hr
  have:i=0∨i=1∨i=2∨i=3∨i=4∨i=5∨i=6∨i=7∨i=8∨i=9∨i=10∨i=11∨i=12∨i=13∨i=14∨i=15∨i=16∨i=17∨i=18∨i=19∨i=20∨i=21∨i=22∨i=23∨i=24∨i=25∨i=26∨i=27∨i=28∨i=29∨i=30∨i=31:=by omega
  rcases this with rfl|rfl|rfl|rfl|rfl|rfl|rfl|rfl|rfl|rfl|rfl|rfl|rfl|rfl|rfl|rfl|rfl|rfl|rfl|rfl|rfl|rfl|rfl|rfl|rfl|rfl|rfl|rfl|rfl|rfl|rfl|rfl <;>
   first
    | (obtain rfl : S = 24 := by omega
       rfl)
    | (obtain rfl : S = 16 := by omega
       rfl)
    | (obtain rfl : S = 8 := by omega
       rfl)
    | (obtain rfl : S = 0 := by omega
       simp[out,at8,at32,St.list])
 rw[hb,IntKind.wrap_u8,UInt8.toNat_ofNat',U]
 have h2:S=24∨S=16∨S=8∨S=0:=by omega
 generalize (at32 s.list q).toNat=X
 rcases h2 with rfl|rfl|rfl|rfl<;>(simp only[Nat.reducePow,Int.reducePow];omega)
theorem setMany_full:∀(vs pre old:List Value),old.length=vs.length→setMany (pre++old).toArray pre.length vs=(pre++vs).toArray
 | [],pre,old,h=>by
  have:old=[]:=List.eq_nil_of_length_eq_zero h
  rw[this];rfl
 | v::r,pre,[],h=>by cases h
 | v::r,pre,o::old,h=>by
  rw[setMany,List.setIfInBounds_toArray,List.set_append_right _ _ (Nat.le_refl _),Nat.sub_self,List.set_cons_zero]
  have:=setMany_full r (pre++[v]) old (by simpa using h)
  simpa using this
set_option maxRecDepth 20000 in
theorem sum_any (w:World) (g:Nat) (lb:Option Nat) (m:List UInt8) (hroots:∀j v,(us roots)[j]?=some v→w.cell? ⟨1,j,none⟩=some v)
  (h:HInv w g lb m) (h1:1<w.heap.size) :
  Calls Tryz.prog 85 #[.pointer (some ⟨g,0,none⟩)] w fun e w'=>e=.returned (.agg (u8s (sha m)).toArray)∧Ext w w':=by
 obtain⟨v,hb,ho,hv,hne,hlb⟩:=h
 obtain⟨Lf,hLf⟩:∃x,Held (m.drop (64*(m.length / 64))=x):=⟨_,⟨rfl⟩⟩
 rw[hLf.out] at ho
 obtain⟨lv,cv,rfl,hrv,hlev,hmxv,hAv⟩:=ho.rd
 have hLl:Lf.length<64:=by rw[←hLf.out,List.length_drop];omega
 obtain⟨s0,hs0⟩:∃x,Held (blocks begin_ m (m.length / 64)=x):=⟨_,⟨rfl⟩⟩
 rw[hs0.out] at hb
 go_enter Tryz.func85,Tryz.ntmps85
 go_wp2_with fail
 refine Reg.startX (R:=Go.RowKit.Below (w.heap.size+1)) (by kernel_rfl) ?_
 generalize hwd:World.drew _=wd
 have hxd:Ext w wd:=by rw[←hwd];exact ((Ext.refl w).alloc _).drew
 have hsd:wd.heap.size=w.heap.size+1:=by rw[←hwd];simp
 have hHd:Blk wd w.heap.size z32 23:=by rw[←hwd];exact Blk.new w z32 _
 clear hwd
 have hbd:=hb.ext hxd
 have hgc:∀W,Go.RowKit.Below (w.heap.size+1) wd W→∀i,W.cell? ⟨g,i,none⟩=((us s0.list).toArray ++ #[.slice lv (u8s Lf).length cv,.int .u64 (cnt m)])[i]?:=fun W hW i=>by
  exact (hbd.ext (below_ext hW (by omega))).cell i
 have e0:∀W,Go.RowKit.Below (w.heap.size+1) wd W→W.cell? ⟨g,0,none⟩=some (.int .u32 (U s0.a)):=fun W hW=>hgc W hW 0
 have e1:∀W,Go.RowKit.Below (w.heap.size+1) wd W→W.cell? ⟨g,1,none⟩=some (.int .u32 (U s0.b)):=fun W hW=>hgc W hW 1
 have e2:∀W,Go.RowKit.Below (w.heap.size+1) wd W→W.cell? ⟨g,2,none⟩=some (.int .u32 (U s0.c)):=fun W hW=>hgc W hW 2
 have e3:∀W,Go.RowKit.Below (w.heap.size+1) wd W→W.cell? ⟨g,3,none⟩=some (.int .u32 (U s0.d)):=fun W hW=>hgc W hW 3
 have e4:∀W,Go.RowKit.Below (w.heap.size+1) wd W→W.cell? ⟨g,4,none⟩=some (.int .u32 (U s0.e)):=fun W hW=>hgc W hW 4
 have e5:∀W,Go.RowKit.Below (w.heap.size+1) wd W→W.cell? ⟨g,5,none⟩=some (.int .u32 (U s0.f)):=fun W hW=>hgc W hW 5
 have e6:∀W,Go.RowKit.Below (w.heap.size+1) wd W→W.cell? ⟨g,6,none⟩=some (.int .u32 (U s0.g)):=fun W hW=>hgc W hW 6
 have e7:∀W,Go.RowKit.Below (w.heap.size+1) wd W→W.cell? ⟨g,7,none⟩=some (.int .u32 (U s0.h)):=fun W hW=>hgc W hW 7
 have e9:∀W,Go.RowKit.Below (w.heap.size+1) wd W→W.cell? ⟨g,9,none⟩=some (.int .u64 (cnt m)):=fun W hW=>hgc W hW 9
 clear hgc
 iterate 3 ((first|refine Reg.un (Reg.rl_below _) ?_|refine Reg.vn (Reg.rl_below _) ?_);(try simp only[Reg.nn]))
 refine Reg.tx (Reg.rl_below _) 3 ?_;(try simp only[Reg.nn])
 iterate 3 ((first|refine Reg.un (Reg.rl_below _) ?_|refine Reg.vn (Reg.rl_below _) ?_);(try simp only[Reg.nn]))
 refine Reg.tx (Reg.rl_below _) 7 ?_;(try simp only[Reg.nn])
 refine Reg.tx (Reg.rl_below _) 8 ?_;(try simp only[Reg.nn])
 refine Reg.onlyX 9 _ rfl (by kernel_rfl) (by decide) (by rfl) (fun K hK=>?_);go_simp
 refine hK.out _ _ (Go.RowKit.Below.alloc (Go.RowKit.Below.refl _ _) (by omega) _) ?_;clear hK K;(try simp only[Reg.nn])
 refine Reg.tx (Reg.rl_below _) 10 ?_;(try simp only[Reg.nn])
 refine Reg.finX (by kernel_rfl) ?_
 have hg0:Blk (wd.alloc (.cells #[.int .u32 (U s0.a),.int .u32 (U s0.b),.int .u32 (U s0.c),.int .u32 (U s0.d),.int .u32 (U s0.e),.int .u32 (U s0.f),.int .u32 (U s0.g),.int .u32 (U s0.h),.slice none 0 0,.int .u64 (cnt m)] 144)) (w.heap.size+1) ((us s0.list).toArray ++ #[.slice none 0 0,.int .u64 (cnt m)]) 144:=by
  rw[←hsd];exact Blk.new wd _ _
 generalize hW1:World.alloc wd _=W1 at hg0 ⊢
 have hx1:Ext w W1:=by rw[←hW1];exact hxd.alloc _
 have hH1:Blk W1 w.heap.size z32 23:=by rw[←hW1];exact hHd.alloc _
 have hs1:W1.heap.size=w.heap.size+2:=by rw[←hW1];simp[hsd]
 clear hW1 hHd hxd hsd hbd e0 e1 e2 e3 e4 e5 e6 e7 e9 wd
 go_wp2_with fail
 refine Reg.startX (R:=Go.RowKit.Below (w.heap.size+2)) (by kernel_rfl) ?_
 generalize hwd:World.drew _=wd
 have hxd:Ext w wd:=by rw[←hwd];exact hx1.drew
 have hsd:wd.heap.size=w.heap.size+2:=by rw[←hwd];exact hs1
 have hHd:Blk wd w.heap.size z32 23:=by rw[←hwd];exact hH1
 have hgd:Blk wd (w.heap.size+1) ((us s0.list).toArray ++ #[.slice none 0 0,.int .u64 (cnt m)]) 144:=by rw[←hwd];exact hg0
 have hbd:=hb.ext hxd
 clear hwd hx1 hs1 hH1 hg0
 have hrd:=hrv.ext hxd
 have e8:∀W,Go.RowKit.Below (w.heap.size+2) wd W→W.cell? ⟨g,8,none⟩=some (.slice lv (u8s Lf).length cv):=fun W hW=>(hbd.ext (below_ext hW (by omega))).cell 8
 have f8:∀W,Go.RowKit.Below (w.heap.size+2) wd W→W.cell? ⟨w.heap.size+1,8,none⟩=some (.slice none 0 0):=fun W hW=>(hgd.ext (below_ext hW (by omega))).cell 8
 iterate 9 ((first|refine Reg.un (Reg.rl_below _) ?_|refine Reg.vn (Reg.rl_below _) ?_);(try simp only[Reg.nn]))
 refine Reg.bothY 9 10 _ _ (by omega) rfl rfl rfl rfl (by decide) (by decide) (by kernel_rfl) (by kernel_rfl) (by kernel_rfl) (by decide)
  (fun V X=>OwnS X V (u8s Lf)∧∀k,V.ownBlock=some k→w.heap.size+2≤k) (fun V X=>∃q,V=.slice (some ⟨q,0,none⟩) 1 1∧X.cell? ⟨q,0,none⟩=some (.int .u8 128))
  (fun v w1 w2 h hx=>⟨h.1.ext hx,h.2⟩) (fun v w1 w2 h hx=>h.imp fun q h=>⟨h.1,hx.cell h.2⟩) ?_ ?_ ?_
 ·rintro a' w1 (rfl|⟨v,rfl⟩) hx1 K hK
  ·refine wp_oapp el_u8 w1 (.tmp 23) (.tmp 27) rfl (.slice none 0 0) [] rfl (OwnS.nil w1) (fun _ h=>by cases h) lv (u8s Lf).length cv (u8s Lf) rfl (hrd.ext hx1) rfl hAv (u8s_one _) (by rw[u8s_length];simp;omega) (by omega) ?_
   intro v' w' h1 h2 h3
   exact hK.out v' w' (Ext.grown h2 (fun k hk=>by cases hk)) ⟨by simpa using h1,fun k hk=>by rcases h3 with h3|h3;rw[h3] at hk;cases hk;rw[h3.1] at hk;injection hk with hk;have:=hx1.size;omega⟩
  ·refine wp_oapp el_u8 w1 (.tmp 23) (.tmp 27) rfl (.slice none 0 0) [] rfl (OwnS.nil w1) (fun _ h=>by cases h) lv (u8s Lf).length cv (u8s Lf) rfl (hrd.ext hx1) rfl hAv (u8s_one _) (by rw[u8s_length];simp;omega) (by omega) ?_
   intro v' w' h1 h2 h3
   exact hK.out v' w' (Ext.grown h2 (fun k hk=>by cases hk)) ⟨by simpa using h1,fun k hk=>by rcases h3 with h3|h3;rw[h3] at hk;cases hk;rw[h3.1] at hk;injection hk with hk;have:=hx1.size;omega⟩
 ·rintro a' w1 (rfl|⟨v,rfl⟩) hx1 K hK
  ·go_simp
   exact hK.out _ _ ((Ext.refl w1).alloc _) ⟨w1.heap.size,rfl,(Blk.new w1 #[.int .u8 128] 5).cell 0⟩
  ·go_simp
   exact hK.out _ _ ((Ext.refl w1).alloc _) ⟨w1.heap.size,rfl,(Blk.new w1 #[.int .u8 128] 5).cell 0⟩
 ·rintro V28 V29 X hX ⟨ho28,hb28⟩ ⟨q,rfl,hq⟩
  (try simp only[Reg.nn])
  have hsX:=hX.size
  have hbX:Go.RowKit.Below (w.heap.size+2) wd X:=Go.RowKit.Below.mono hX (by omega)
  refine Reg.onlyX 11 _ rfl (by kernel_rfl) (by decide) (by rfl) (fun K hK=>?_)
  refine wp_oapp el_u8 X (.tmp 28) (.tmp 29) rfl V28 (u8s Lf) rfl ho28 (u8s_one _) (some ⟨q,0,none⟩) 1 1 (u8s [128]) rfl (one_rd hq) rfl (fun h=>by cases h) (u8s_one _) (by rw[u8s_length];omega) (by omega) ?_
  intro V30 X3 ho30 hgr hv30
  have hb30:∀k,V30.ownBlock=some k→w.heap.size+2≤k:=fun k hk=>by
   rcases hv30 with e|e
   ·exact hb28 k (by rw[←e,hk])
   ·rw[e.1] at hk;injection hk with hk;omega
  have hbel:Go.RowKit.Below (w.heap.size+2) X X3:=Go.RowKit.Below.grown (Go.RowKit.Below.refl _ _) hgr (by omega) hb28
  refine hK.out _ _ hbel ?_
  clear hK K
  (try simp only[Reg.nn])
  have hx3:Ext wd X3:=below_ext (hbX.trans hbel) (by omega)
  rw[←u8s_append] at ho30
  have hS:SInv w (X3.setCell ⟨w.heap.size+1,8,none⟩ V30) s0 (cnt m) V30 (Lf++[128]):=
   SInv.put (hxd.trans hx3) (hHd.ext hx3) (hgd.ext hx3) ho30 hb30
  have hf8:=(hgd.ext hx3).frozen 8
  have hc8:X3.cell? ⟨w.heap.size+1,8,none⟩=some (.slice none 0 0):=(hgd.ext hx3).cell 8
  obtain⟨A3,c3,rfl,_⟩:=ho30.rd
  clear ho30 hgr hv30 hb30 ho28 hb28 hq hX hbX hbel hx3 e8 f8 hrd hbd hgd hHd hxd
  iterate 2 ((first|refine Reg.un (Reg.rl_below _) ?_|refine Reg.vn (Reg.rl_below _) ?_);(try simp only[Reg.nn]))
  refine Reg.lastX 14 _ rfl (by kernel_rfl) (by kernel_rfl) (by kernel_rfl) (by decide) (by rfl) (fun K hK=>?_)
  go_simp
  refine hK.out _ _ ?_;clear hK K;(try simp only[Reg.nn])
  generalize World.setCell X3 _ _=X4 at hS ⊢
  clear hf8 hc8
  obtain⟨NO,hNO⟩:∃x,Held (noughts m.length=x):=⟨_,⟨rfl⟩⟩
  have hmL:m.length%64=Lf.length:=by rw[←hLf.out,List.length_drop];omega
  have hNL:NO=(119-Lf.length)%64:=by rw[←hNO.out,noughts,hmL]
  have hl1:(u8s (Lf++[(128:UInt8)])).length=Lf.length+1:=by simp[u8s_length]
  rw[hl1] at hS ⊢
  clear hl1
  go_wp2_with fail
  go_loopw [33,34,35,36,37,38,40,41,42,43,44,45,46,47,48] (fun v33 v34 v35 v36 v37 v38 v40 v41 v42 v43 v44 v45 v46 v47 v48 wv=>∃k A c,k≤NO∧SInv w wv s0 (cnt m) (.slice A (Lf.length+1+k) c) (Lf++[128]++List.replicate k 0)) (fun _ _ _ _ _ _ _ _ _ _ _ _ _ _ _ wv=>200-lenAt wv (w.heap.size+1) 8)
  case atStart=>exact⟨0,A3,c3,Nat.zero_le _,by simpa using hS⟩
  case round=>
   clear hS
   obtain⟨k,A,c,hk,hS⟩:=hrel
   obtain⟨n,hn⟩:∃x,Held (Lf.length+1+k=x):=⟨_,⟨rfl⟩⟩
   obtain⟨T,hT⟩:∃x,Held (Lf++[128]++List.replicate k 0=x):=⟨_,⟨rfl⟩⟩
   have hTn:T.length=n:=by rw[←hT.out,←hn.out];simp;omega
   rw[hn.out,hT.out] at hS
   have e8:wr.cell? ⟨w.heap.size+1,8,none⟩=some (.slice A n c):=hS.2.2.1.cell 8
   by_cases hc:n%64=56
   ·have hci:(n:Int)%64=56:=by omega
    have e9:wr.cell? ⟨g,9,none⟩=some (.int .u64 (cnt m)):=(hb.ext hS.1).cell 9
    go_wp2_with fail
    have hkN:k=NO:=by have:=hn.out;omega
    subst hkN
    obtain⟨C8,hC8⟩:∃x,Held (IntKind.u64.wrap (cnt m*8)=x):=⟨_,⟨rfl⟩⟩
    rw[hC8.out]
    clear e8 e9 hci
    go_loopw [5,54,56,57,58,59,60,61,62,63,64,65,66,67,68,69,70] (fun v5 v54 v56 v57 v58 v59 v60 v61 v62 v63 v64 v65 v66 v67 v68 v69 v70 wv=>∃(j:Nat) (A:Option Addr) (c:Nat),j≤8∧v5=.int .i64 (56-8*(j:Int))∧SInv w wv s0 (cnt m) (.slice A (n+j) c) (T++(be8 (m.length*8)).take j)) (fun v5 _ _ _ _ _ _ _ _ _ _ _ _ _ _ _ _ _=>(intOf v5+8).toNat)
    case atStart=>exact⟨0,A,c,by omega,by simp,by simpa using hS⟩
    case round=>
     clear hS
     obtain⟨j,A,c,hj,rfl,hS⟩:=hrel
     by_cases hj8:j<8
     ·obtain⟨S,hSd⟩:∃S:Nat,Held (56-8*(j:Int)=(S:Int)):=⟨56-8*j,⟨by omega⟩⟩
      rw[hSd.out]
      have hS0:(0:Int)≤S:=by omega
      obtain⟨T2,hT2⟩:∃x,Held (T++(be8 (m.length*8)).take j=x):=⟨_,⟨rfl⟩⟩
      rw[hT2.out] at hS
      obtain⟨n2,hn2⟩:∃x,Held (n+j=x):=⟨_,⟨rfl⟩⟩
      rw[hn2.out] at hS
      have hSj:S+8*j=56:=by have:=hSd.out;omega
      have hT2n:T2.length=n2:=by rw[←hT2.out,List.length_append,List.length_take,hTn,←hn2.out];simp[be8];omega
      obtain⟨bb,hbb⟩:∃x,Held (UInt8.ofNat (m.length*8 / 2 ^ S)=x):=⟨_,⟨rfl⟩⟩
      have hbyte:IntKind.u8.wrap (C8 / 2 ^ S)=(bb.toNat:Int):=by rw[←hC8.out,←hbb.out];exact byte_at m.length j hj8 S hSj
      have hn2s:n2≤300:=by have:=hn2.out;have:=hn.out;omega
      go_wp2_with fail
      refine Reg.startX (R:=Go.RowKit.Below (w.heap.size+2)) (by kernel_rfl) ?_
      generalize hwq:World.drew _=wq
      have hSq:SInv w wq s0 (cnt m) (.slice A n2 c) T2:=by rw[←hwq];exact hS.drew
      clear hwq hS
      have hsq:=hSq.2.2.1.lt
      have e8:∀W,Go.RowKit.Below (w.heap.size+2) wq W→W.cell? ⟨w.heap.size+1,8,none⟩=some (.slice A n2 c):=fun W hW=>(World.cell?_of_block (a:=⟨w.heap.size+1,8,none⟩) (hW.block _ (by show w.heap.size+1<_;omega))).trans (hSq.2.2.1.cell 8)
      iterate 4 ((first|refine Reg.un (Reg.rl_below _) ?_|refine Reg.vn (Reg.rl_below _) ?_);(try simp only[Reg.nn]))
      refine Reg.tx (Reg.rl_below _) 4 ?_;(try simp only[Reg.nn])
      iterate 3 ((first|refine Reg.un (Reg.rl_below _) ?_|refine Reg.vn (Reg.rl_below _) ?_);(try simp only[Reg.nn]))
      refine Reg.tx (Reg.rl_below _) 8 ?_;(try simp only[Reg.nn])
      refine Reg.onlyX 9 _ rfl (by kernel_rfl) (by decide) (by rfl) (fun K hK=>?_);go_simp
      try rw[hbyte]
      refine hK.out _ _ (Go.RowKit.Below.alloc (Go.RowKit.Below.refl _ _) (by omega) _) ?_;clear hK K;(try simp only[Reg.nn])
      refine Reg.onlyX 10 _ rfl (by kernel_rfl) (by decide) (by rfl) (fun K hK=>?_)
      refine wp_oapp el_u8 _ (.tmp 62) (.tmp 67) rfl (.slice A n2 c) (u8s T2) rfl (hSq.2.2.2.1.ext ((Ext.refl wq).alloc _)) (u8s_one _) (some ⟨wq.heap.size,0,none⟩) 1 1 (u8s [bb]) rfl (Rd.of_block wq 5 (0,0) rfl) rfl (fun h=>by cases h) (u8s_one _) (by rw[u8s_length,hT2n];omega) (by omega) ?_
      intro V1 w1 ho1 hgr1 hv1
      have hbel:=Go.RowKit.Below.grown (Go.RowKit.Below.refl (w.heap.size+2) _) hgr1 (by simp;omega) hSq.2.2.2.2
      obtain⟨hx1,hz1,hg1,ho1,hb1⟩:=hSq.app ((Ext.refl wq).alloc _) ho1 hgr1 hv1
      have hS1:=SInv.put hx1 hz1 hg1 ho1 hb1
      refine hK.out _ _ hbel ?_
      clear hK K
      have hc8:w1.cell? ⟨w.heap.size+1,8,none⟩=some (.slice A n2 c):=hg1.cell 8
      have f8:=hg1.frozen 8
      obtain⟨A1,c1,rfl,_⟩:=ho1.rd
      clear hgr1 hv1 ho1 hb1 hx1 hz1 hg1 hbel
      (try simp only[Reg.nn])
      iterate 2 ((first|refine Reg.un (Reg.rl_below _) ?_|refine Reg.vn (Reg.rl_below _) ?_);(try simp only[Reg.nn]))
      refine Reg.lastX 13 _ rfl (by kernel_rfl) (by kernel_rfl) (by kernel_rfl) (by decide) (by rfl) (fun K hK=>?_)
      go_simp
      refine hK.out _ _ ?_;clear hK K;(try simp only[Reg.nn])
      have hl1:(u8s (T2++[bb])).length=n+(j+1):=by rw[u8s_length,List.length_append,hT2n,←hn2.out];rfl
      have hT1:T2++[bb]=T++(be8 (m.length*8)).take (j+1):=by rw[←hT2.out,←hbb.out,List.append_assoc,←be8_take _ j hj8 S hSj]
      rw[hl1,hT1] at hS1
      rw[hl1]
      go_wp2_with fail
      refine⟨⟨j+1,A1,c1,by omega,?_,hS1⟩,?_⟩
      ·go_num
      ·simp only[intOf];omega
     ·have e8:wr.cell? ⟨w.heap.size+1,8,none⟩=some (.slice A (n+j) c):=hS.2.2.1.cell 8
      obtain rfl:j=8:=by omega
      go_wp2_with fail
      obtain⟨P,hP⟩:∃x,Held (T++(be8 (m.length*8)).take 8=x):=⟨_,⟨rfl⟩⟩
      rw[hP.out] at hS
      have hPl:P.length=n+8:=by rw[←hP.out,List.length_append,hTn];rfl
      have hP64:P.length%64=0:=by omega
      have hsha:sha m=out (blocks s0 P (P.length / 64)):=by
       have h:=sha_tail m Lf hLf.out
       rw[hs0.out,hNO.out] at h
       rw[h,←hP.out,←hT.out];rfl
      have Hsha:=Lib.hid hsha
      clear hsha
      obtain⟨hx,hz,hg,ho3,hb3⟩:=hS
      obtain⟨A',c',e,hrd3,hle3,_,_⟩:=ho3.rd
      injection e with e1 e2 e3
      subst e1;subst e3
      rw[u8s_length,hPl] at hle3
      have hA3:∀a,A=some a→a.block≠w.heap.size+1:=fun a ha e=>by
       have:=hb3 a.block (by rw[ha];rfl);omega
      obtain⟨V,hV⟩:∃x,Held (Value.slice A (n+8) c=x):=⟨_,⟨rfl⟩⟩
      rw[hV.out] at hg
      rw[←hPl] at hle3 ⊢
      clear e2 e8 ho3 hb3
      go_loopw [6,75,76,78,79,80,81,82,83] (fun v6 v75 v76 v78 v79 v80 v81 v82 v83 wv=>∃k A2 c2,64*k≤P.length∧v6=.slice A2 (P.length-64*k) c2∧P.length-64*k≤c2∧Rb wv A2 (P.drop (64*k))∧(∀a,A2=some a→a.block≠w.heap.size+1)∧Ext w wv∧Blk wv w.heap.size z32 23∧Blk wv (w.heap.size+1) ((us (blocks s0 P k).list).toArray ++ #[V,.int .u64 (cnt m)]) 144) (fun v6 _ _ _ _ _ _ _ _ _=>lenOf v6)
      case atStart=>exact⟨0,A,c,by omega,rfl,by omega,hrd3,hA3,hx,hz,hg⟩
      case round=>
       clear hx hz hg hrd3 hA3 hle3
       obtain⟨k,A2,c2,hk,rfl,hle,hrd,hA2,hx,hz,hg⟩:=hrel
       obtain⟨s1,hs1⟩:∃x,Held (blocks s0 P k=x):=⟨_,⟨rfl⟩⟩
       obtain⟨Z,hZ⟩:∃x,Held (P.drop (64*k)=x):=⟨_,⟨rfl⟩⟩
       obtain⟨n2,hn2⟩:∃x,Held (P.length-64*k=x):=⟨_,⟨rfl⟩⟩
       have hZn:Z.length=n2:=by rw[←hZ.out,List.length_drop,hn2.out]
       rw[hs1.out] at hg
       rw[hZ.out] at hrd
       rw[hn2.out] at hle ⊢
       by_cases h0:0<n2
       ·have h64:64≤n2:=by have:=hn2.out;omega
        obtain⟨b2,o2,rfl⟩:=hrd.some_ (by omega)
        have hc64:(64:Int)≤c2:=by omega
        have hn64:(64:Int)≤n2:=by omega
        have hn0:(0:Int)<n2:=by omega
        have hrT:Rb wr (some ⟨b2,o2,none⟩) (Z.take 64):=Rb.take hrd 64
        have hrts:∀j v,(us roots)[j]?=some v→wr.cell? ⟨1,j,none⟩=some v:=fun j v h=>hx.cell (hroots j v h)
        have hcall:=takes_any (w.heap.size+1) s1 V (.int .u64 (cnt m)) (some ⟨b2,o2,none⟩) c2 (Z.take 64) wr (by rw[List.length_take];omega) hrT hg hrts
        go_wp2_with fail
        refine hcall.mono ?_
        rintro e w2 ⟨rfl,hg2,hgr⟩
        have hrd2:Rb w2 (some ⟨b2,o2,none⟩) Z:=Rd.chg hrd (Chg.ofGrown hgr) (fun a ha e=>hA2 a ha (by injection e with e;exact e.symm))
        have hbk:blocks s0 P (k+1)=block s1 (Z.take 64):=by rw[blocks_succ P k s0 P,hs1.out,hZ.out]
        have hdk:P.drop (64*(k+1))=Z.drop 64:=by rw[←hZ.out,List.drop_drop];congr 1
        have hx2:Ext w w2:=hx.then_grown hgr (fun k hk=>by injection hk with hk;omega)
        have hz2:=hz.grown hgr (by intro e;injection e with e;omega)
        have hb2:∀a:Addr,some (⟨b2,o2,none⟩:Addr)=some a→¬a.block=w.heap.size+1:=hA2
        have hn2':=hn2.out
        have hg3:Blk w2 (w.heap.size+1) ((us (blocks s0 P (k+1)).list++[V,.int .u64 (cnt m)]).toArray) 144:=by rw[hbk];simpa using hg2
        have hgrow:∃k,64*k≤n+8∧n2-64=n+8-64*k∧P.drop (64*k)=Z.drop 64∧Blk w2 (w.heap.size+1) ((us (blocks s0 P k).list++[V,.int .u64 (cnt m)]).toArray) 144:=⟨k+1,by omega,by omega,hdk,hg3⟩
        obtain⟨k',hk1,hk2',hk3,hk4⟩:=hgrow
        have hk2:Held (n2-64=n+8-64*k'):=⟨hk2'⟩
        clear hk2'
        clear hg3 hg2 hgr hbk hdk hrts hcall hrT hn2'
        go_wp2_with fail
        ·refine⟨⟨k',hk1,_,_,⟨rfl,hk2.out,rfl⟩,by have:=hk2.out;omega,?_,hb2,hk4⟩,by simp only[lenOf];omega⟩
         rw[hk3,List.drop_eq_nil_of_le (by omega)]
         exact Rd.nil _ _
        ·have hb3:∀a:Addr,some (⟨b2,o2+64,none⟩:Addr)=some a→¬a.block=w.heap.size+1:=fun a ha=>by
          injection ha with ha
          subst ha
          exact hb2 ⟨b2,o2,none⟩ rfl
         refine⟨⟨k',hk1,_,_,⟨rfl,hk2.out,rfl⟩,by have:=hk2.out;omega,?_,hb3,hk4⟩,by simp only[lenOf];omega⟩
         rw[hk3]
         exact Rb.drop hrd2 64
       ·have hk0:k=P.length / 64:=by have:=hn2.out;omega
        rw[←hk0,hs1.out] at Hsha
        have hn0:¬(0:Int)<n2:=by omega
        go_wp2_with fail
        obtain⟨O,hO⟩:∃x,Held (wr.heap.size=x):=⟨_,⟨rfl⟩⟩
        have hOb:=Blk.new wr z32 23
        rw[hO.out] at hOb
        have hOb:Blk (wr.alloc (.cells z32 23)) O (otab s1 0) 23:=by rw[otab_zero];exact hOb
        have hwO:w.heap.size+1<O:=by rw[←hO.out];exact hg.lt
        rw[hO.out]
        go_loopw [8,84,86,87,88,89,90,91,92,93,94,95,96,97,98,99,100,101,102] (fun v8 v84 v86 v87 v88 v89 v90 v91 v92 v93 v94 v95 v96 v97 v98 v99 v100 v101 v102 wv=>∃i:Nat,i≤32∧v84=.int .i64 i∧Ext w wv∧Blk wv w.heap.size z32 23∧Blk wv (w.heap.size+1) ((us s1.list).toArray ++ #[V,.int .u64 (cnt m)]) 144∧Blk wv O (otab s1 i) 23) (fun _ v84 _ _ _ _ _ _ _ _ _ _ _ _ _ _ _ _ _ _=>32-(intOf v84).toNat)
        case atStart=>exact⟨0,by omega,rfl,hx.alloc _,hz.alloc _,hg.alloc _,hOb⟩
        case round=>
         clear hx hz hg hOb hrd hA2
         obtain⟨i,hi,rfl,hx,hz,hg,hOb⟩:=hrel
         by_cases hi32:i<32
         ·obtain⟨q,hq⟩:∃q:Nat,Held (i / 4=q):=⟨_,⟨rfl⟩⟩
          obtain⟨r,hr⟩:∃r:Nat,Held (i%4=r):=⟨_,⟨rfl⟩⟩
          have hq':(i:Int) / 4=(q:Int):=by have:=hq.out;omega
          have hr':(i:Int)%4=(r:Int):=by have:=hr.out;omega
          have hq8:(q:Int)<8:=by have:=hq.out;omega
          have hi':(i:Int)<32:=by omega
          have e3:wr.cell? ⟨w.heap.size+1,q,none⟩=some (.int .u32 (U (at32 s1.list q))):=(hg.cell q).trans (head8 _ _ q (by omega))
          obtain⟨S,hS⟩:∃S:Nat,Held (24-8*(r:Int)=(S:Int)):=⟨24-8*r,⟨by have:=hr.out;omega⟩⟩
          have hS':(24:Int)-8*(r:Int)=(S:Int):=hS.out
          have hS0:¬(S:Int)<0:=by omega
          have hS32:S+8*r=24:=by omega
          have eO:wr.cell? ⟨O,i,none⟩=some ((otab s1 i)[i]'(by rw[otab_size s1 i hi];exact hi32)):=(hOb.cell i).trans (Array.getElem?_eq_getElem _)
          have fO:=hOb.frozen i
          have hby:=out_at s1 i q r S hi32 hq.out hr.out hS32
          go_wp2_with fail
          refine⟨⟨i+1,by omega,by go_num,hx.setCell (by show _≤O;omega) _,hz.far (by show w.heap.size≠O;omega) _,hg.far (by show w.heap.size+1≠O;omega) _,?_⟩,by simp[intOf];omega⟩
          have hq2:=hOb.set i (.int .u8 ((at8 (out s1) i).toNat:Int))
          rw[otab_set s1 i hi32] at hq2
          exact hq2
         ·obtain rfl:i=32:=by omega
          rw[otab_full] at hOb
          have hty:(Tryz.prog.info? 23).map (·.size)=some (u8s (out s1)).length:=by rw[u8s_length,out_length];kernel_rfl
          go_wp2_with (first
           | refine wpList_load_mid rfl 23 (.tmp 7) rfl O 0 rfl (u8s (out s1)) (.array 32 5) (fun j v hj=>by rw[Nat.zero_add,hOb.cell j,List.getElem?_toArray];exact hj) (by kernel_rfl) rfl hty ?_
           | refine wpList_store_mid rfl 23 (.tmp 2) (.tmp 103) rfl w.heap.size 0 (u8s (out s1)).toArray rfl rfl (fun j hj=>by rw[Nat.zero_add];exact⟨by rw[hz.cell j,Array.getElem?_eq_getElem (by simpa [z32,u8s_length,out_length] using hj)];rfl,hz.frozen j⟩) (by rw[List.size_toArray];exact hty) (all_oneCell_toArray (u8s_one _)) ?_)
          have hz2:=Blk_sets (u8s (out s1)) 0 _ _ hz
          rw[show setMany z32 0 (u8s (out s1))=(u8s (out s1)).toArray from setMany_full _ [] (u8s (List.replicate 32 0)) (by rw[u8s_length,u8s_length,out_length];rfl)] at hz2
          refine⟨rfl,_,results_cell_row rfl _ _ w.heap.size 23 (u8s (out s1)).toArray (0,0) (.array 32 5) rfl hz2 (by kernel_rfl) rfl (by rw[List.size_toArray];exact hty),?_,Ext_sets (Nat.le_refl _) _ 0 hx⟩
          rw[Hsha.out]
   ·have hci:¬(n:Int)%64=56:=by omega
    have hkN:k<NO:=by have:=hn.out;omega
    have hk2:k+1≤64:=by omega
    have hn2:n≤200:=by have:=hn.out;omega
    go_wp2_with (
     refine wpList_oapp el_u8 _ rfl (.tmp 44) (.tmp 45) rfl (.slice A n c) (u8s T) rfl (hS.2.2.2.1.ext ((Ext.refl wr).alloc _)) (u8s_one _) (some ⟨wr.heap.size,0,none⟩) 1 1 (u8s [0]) rfl (Rd.of_block wr 5 (0,0) rfl) rfl (fun h=>by cases h) (u8s_one _) (by rw[u8s_length];omega) (by omega) (fun V1 w1 ho1 hgr1 hv1=>?_)
     obtain⟨hx1,hz1,hg1,ho1,hb1⟩:=hS.app ((Ext.refl wr).alloc _) ho1 hgr1 hv1
     have hS1:=SInv.put hx1 hz1 hg1 ho1 hb1
     have e8:w1.cell? ⟨w.heap.size+1,8,none⟩=some (.slice A n c):=hg1.cell 8
     have f8:=hg1.frozen 8
     obtain⟨A1,c1,rfl,_⟩:=ho1.rd
     clear hgr1 hv1 ho1 hb1 hx1 hz1 hg1)
    have hl1:(u8s (T++[(0:UInt8)])).length=Lf.length+1+(k+1):=by rw[u8s_length,List.length_append,hTn,←hn.out];rfl
    have hT1:T++[(0:UInt8)]=Lf++[128]++List.replicate (k+1) 0:=by rw[←hT.out,List.replicate_succ',List.append_assoc]
    rw[hl1,hT1] at hS1
    rw[hl1]
    refine⟨⟨k+1,A1,c1,hkN,hS1⟩,?_⟩
    have q1:=lenAt_of (w:=w1.setCell ⟨w.heap.size+1,8,none⟩ (.slice A1 (Lf.length+1+(k+1)) c1)) (g:=w.heap.size+1) (i:=8) (hS1.2.2.1.cell 8)
    have q2:=lenAt_of (w:=wr) (g:=w.heap.size+1) (i:=8) (hS.2.2.1.cell 8)
    rw[q1,q2]
    have:=hn.out
    omega
structure Tabs (w:World):Prop where
 first:∀j v,(us first)[j]?=some v→w.cell? ⟨0,j,none⟩=some v
 roots:∀j v,(us roots)[j]?=some v→w.cell? ⟨1,j,none⟩=some v
theorem Tabs.ext {w w':World} (h:Tabs w) (hx:Ext w w'):Tabs w':=⟨fun j v e=>hx.cell (h.first j v e),fun j v e=>hx.cell (h.roots j v e)⟩
theorem Tabs.lt {w:World} (h:Tabs w):1<w.heap.size:=World.block_lt_of_cell? w ⟨1,0,none⟩ (h.roots 0 _ rfl)
theorem Tabs.chg {S:Nat→Prop} {w w':World} (h:Tabs w) (hx:Chg S w w') (hS:∀k,S k→1<k):Tabs w':=
 ⟨fun j v e=>hx.cell (h.first j v e) (fun s=>by have:1<0:=hS _ s;omega),fun j v e=>hx.cell (h.roots j v e) (fun s=>by have:1<1:=hS _ s;omega)⟩
theorem sha_length (m:List UInt8):(sha m).length=32:=out_length _
theorem sum_cells (m:List UInt8) {w:World} {g:Nat} (hz:Blk w g z32 23):Blk (w.setCells g 0 (u8s (sha m))) g (u8s (sha m)).toArray 23:=by
 have hz2:=Blk_sets (u8s (sha m)) 0 _ _ hz
 rwa [show setMany z32 0 (u8s (sha m))=(u8s (sha m)).toArray from setMany_full _ [] (u8s (List.replicate 32 0)) (by rw[u8s_length,u8s_length,sha_length];rfl)] at hz2
theorem sum_there {w:World} {g:Nat} (hz:Blk w g z32 23) (m:List UInt8):w.there g 0 (u8s (sha m)).toArray.size:=fun j hj=>by
 rw[Nat.zero_add]
 exact⟨by rw[hz.cell j,Array.getElem?_eq_getElem (by simpa [z32,u8s_length,sha_length] using hj)];rfl,hz.frozen j⟩
theorem sum_info (m:List UInt8):(Tryz.prog.info? 23).map (·.size)=some (u8s (sha m)).toArray.size:=by rw[List.size_toArray,u8s_length,sha_length];kernel_rfl
theorem sumTop_any (w:World) (A:Option Addr) (c:Nat) (l:List UInt8) (ht:Tabs w) (hr:Rb w A l) (hA:A=none→c=0) (hAw:∀a,A=some a→a.block<w.heap.size) (hl:l.length≤140737488351232) :
  Calls Tryz.prog 53 #[.slice A l.length c] w fun e w'=>e=.returned (.agg (u8s (sha l)).toArray)∧Ext w w':=by
 obtain⟨N,hN⟩:∃x,Held (l.length=x):=⟨_,⟨rfl⟩⟩
 have Hl:=Lib.hid hl
 clear hl
 rw[hN.out]
 go_enter Tryz.func53,Tryz.ntmps53
 go_wp2_with fail
 generalize hw0:World.alloc w _=w0
 have hz0:Blk w0 w.heap.size z32 23:=by rw[←hw0];exact Blk.new w z32 _
 have hx0:Ext w w0:=by rw[←hw0];exact (Ext.refl w).alloc _
 have hs0:w0.heap.size=w.heap.size+1:=by rw[←hw0];simp
 clear hw0
 refine (new_any w0 (ht.ext hx0).first).mono ?_
 rintro e w1 ⟨rfl,h1,hx1⟩
 have hw:=write_any w1 w0.heap.size none [] l A c ((ht.ext hx0).ext hx1).roots h1 (hr.ext (hx0.trans hx1)) hA (fun a ha e=>by have:=hAw a ha;omega) Hl.out (by have:=ht.lt;omega) (by simp)
 rw[hN.out] at hw
 rw[hs0] at hw h1 ⊢
 go_wp2_with fail
 refine hw.mono ?_
 rintro e w2 ⟨rfl,lb',h2,_,hc2⟩
 have hx2:Ext w w2:=(hx0.trans hx1).chg hc2 (fun i hi e=>by rcases e with e|e;omega;cases e)
 have hz2:=hc2.blk ((hz0.ext hx1)) (fun e=>by rcases e with e|e;omega;cases e)
 have hsum:=sum_any w2 (w.heap.size+1) lb' ([]++l) (ht.ext hx2).roots h2 (by have:=ht.lt;have:=hx2.size;omega)
 rw[List.nil_append] at hsum
 clear hw
 go_wp2_with fail
 refine hsum.mono ?_
 rintro e w3 ⟨rfl,hx3⟩
 have hz3:=hz2.ext hx3
 go_wp2_with (refine wpList_store_mid rfl 23 (.tmp 2) (.tmp 9) rfl w.heap.size 0 (u8s (sha l)).toArray rfl rfl (sum_there hz3 l) (sum_info l) (all_oneCell_toArray (u8s_one _)) ?_)
 refine⟨rfl,_,results_cell_row rfl _ _ w.heap.size 23 (u8s (sha l)).toArray (0,0) (.array 32 5) rfl (sum_cells l hz3) (by kernel_rfl) rfl (sum_info l),rfl,Ext_sets (Nat.le_refl _) _ 0 (hx2.trans hx3)⟩
theorem own_slice {w:World} {base:Nat} {e:TypeId} {size n:Nat} {v:Value} {xs:List Value} (h:w.ownsRow base e size v n xs):∃A cap,v=.slice A n cap:=by
 rcases h.2 with⟨rfl,rfl⟩|⟨g,cap,cur,rfl,_⟩
 ·exact⟨none,0,rfl⟩
 ·exact⟨_,cap,rfl⟩
end Go.Proofs.YtbpfabhlngfciaaGreatDoor.ShaW
namespace Go.Proofs.YtbpfabhlngfciaaGreatDoor.Cn
open Go.ChangeShapes Go.WideShapes Go.ChangeAt Go.RowKit
open Base Lx Mi Pr ShaP ShaW
theorem sumX_cells (X:List UInt8) (hX:X.length=32) {w:World} {g:Nat} (hz:Blk w g z32 23):Blk (w.setCells g 0 (u8s X)) g (u8s X).toArray 23:=by
 have hz2:=Blk_sets (u8s X) 0 _ _ hz
 rwa [show setMany z32 0 (u8s X)=(u8s X).toArray from setMany_full _ [] (u8s (List.replicate 32 0)) (by rw[u8s_length,u8s_length,hX];rfl)] at hz2
theorem sumX_there {w:World} {g:Nat} (hz:Blk w g z32 23) (X:List UInt8) (hX:X.length=32):w.there g 0 (u8s X).toArray.size:=fun j hj=>by
 rw[Nat.zero_add]
 exact⟨by rw[hz.cell j,Array.getElem?_eq_getElem (by simpa [z32,u8s_length,hX] using hj)];rfl,hz.frozen j⟩
theorem sumX_info (X:List UInt8) (hX:X.length=32):(Tryz.prog.info? 23).map (·.size)=some (u8s X).toArray.size:=by rw[List.size_toArray,u8s_length,hX];kernel_rfl
end Go.Proofs.YtbpfabhlngfciaaGreatDoor.Cn
namespace Go.Proofs.YtbpfabhlngfciaaGreatDoor.Ch
open Go.ChangeShapes Go.WideShapes Go.ChangeAt Go.RowKit
open Base Pf Cn Pr Lx Mi ShaP ShaW
def stepP (S:List UInt8) (e:Et):List UInt8:=sha (S++(if canP e=true then bytesP e else []))
theorem stepP_len (S:List UInt8) (e:Et):(stepP S e).length=32:=sha_length _
theorem own_addr {B:Nat} {w:World} {n:Nat} {xs:List Value} {A:Option Addr} {c:Nat} {t:TypeId} {z:Nat} (h:w.ownsRow B t z (.slice A n c) n xs):∀a,A=some a→a.block<w.heap.size:=fun a ha=>(h.lt a.block (by rw[ha];rfl)).2
set_option maxHeartbeats 2000000 in
theorem step_any (S:List UInt8) (hS:S.length=32) (e:Et) (he:EtOk e) (w:World) (hwd:Wd w) (hpow:Pow w) (ht:Tabs w) :
  Calls Tryz.prog 64 #[.agg (u8s S).toArray,entV e] w fun en w'=>en=.returned (.agg (u8s (stepP S e)).toArray)∧Ext w w':=by
 obtain⟨L,hL⟩:∃z,Hid (u8s S=z):=⟨_,Lib.hid rfl⟩
 have hLl:L.length=32:=by rw[←hL.out,u8s_length,hS]
 rw[hL.out]
 obtain⟨q0,hq0⟩:∃z,Hid (w.heap.size=z):=⟨_,rfl⟩
 obtain⟨w1,hw1⟩:∃z,Hid (w.alloc (.cells L.toArray 23)=z):=⟨_,rfl⟩
 have hx1:Ext w w1:=by rw[←hw1.out];exact (Ext.refl w).alloc _
 have hb1:Blk w1 q0 L.toArray 23:=by rw[←hw1.out,←hq0.out];exact Blk.new w _ _
 have hs1:w1.heap.size=q0+1:=by rw[←hw1.out,←hq0.out];simp
 obtain⟨w2,hw2⟩:∃z,Hid (w1.alloc (.cells #[.bool e.pol,.int .i64 e.p,.string e.s,.int .u64 (e.id:Int)] 55)=z):=⟨_,rfl⟩
 have hx2:Ext w1 w2:=by rw[←hw2.out];exact (Ext.refl w1).alloc _
 have hb2:Blk w2 (q0+1) #[.bool e.pol,.int .i64 e.p,.string e.s,.int .u64 (e.id:Int)] 55:=by rw[←hw2.out,←hs1];exact Blk.new w1 _ _
 have hs2:w2.heap.size=q0+2:=by rw[←hw2.out];simp[hs1]
 have hcn:=fun W (hW:Ext w W)=>can_any e he W (hwd.ext hW) (hpow.ext hW)
 have hput:=fun B v W (ho:Ow B W v S) hB hc=>put_any B v S e W ho hB hc (by omega)
 have hent:∀W,Ext w2 W→∀i,W.cell? ⟨q0+1,i,none⟩ = #[Value.bool e.pol,.int .i64 e.p,.string e.s,.int .u64 (e.id:Int)][i]?:=fun W hW i=>(hb2.ext hW).cell i
 have hbl:=bytesP_len e
 have hst:stepP S e=sha (S++(if canP e=true then bytesP e else [])):=rfl
 obtain⟨X,hX⟩:∃z,Hid (stepP S e=z):=⟨_,Lib.hid rfl⟩
 have hXl:=stepP_len S e
 rw[hX.out] at hst hXl ⊢
 obtain⟨b,hb⟩:∃z,Hid (canP e=z):=⟨_,Lib.hid rfl⟩
 rw[hb.out] at hst hbl
 simp only[hb.out] at hcn hput
 have hsm:=fun W A c l=>sumTop_any W A c l
 obtain⟨PO,hPO⟩:∃PO:Ending→World→Prop,Hid ((fun en w'=>en=.returned (.agg (u8s X).toArray)∧Ext w w')=PO):=⟨_,Lib.hid rfl⟩
 rw[hPO.out]
 replace hst:=Lib.hid hst
 replace hcn:=Lib.hid hcn
 replace hput:=Lib.hid hput
 replace hent:=Lib.hid hent
 replace hsm:=Lib.hid hsm
 replace hbl:=Lib.hid hbl
 obtain⟨pol,p,s,id⟩:=e
 unfold entV at *
 simp only at *
 go_enter Tryz.func64,Tryz.ntmps64
 go_wp2_with fail
 rw[hw1.out,hq0.out,hw2.out]
 generalize hw3:World.alloc w2 _=w3
 have hx3:Ext w2 w3:=by rw[←hw3];exact (Ext.refl w2).alloc _
 have hb3:Blk w3 (q0+2) z32 23:=by rw[←hw3,←hs2];exact Blk.new w2 z32 _
 clear hw3
 have hx03:=(hx1.trans hx2).trans hx3
 have hrb:Rb w3 (some ⟨q0,0,none⟩) S:=fun _=>⟨q0,0,rfl,fun j u hj=>by
  rw[Nat.zero_add,((hb1.ext hx2).ext hx3).cell j,List.getElem?_toArray,←hL.out,hj]⟩
 have hcl:=clone_any (some ⟨q0,0,none⟩) 32 32 S w3 hrb hS (fun h=>by cases h) (by omega)
 rw[show q0+1+1=q0+2 from rfl]
 refine hcl.mono ?_
 rintro en w4 ⟨v4,rfl,ho4,hx4⟩
 have hx24:=hx3.trans hx4
 have hx04:=hx03.trans hx4
 have hcn4:=hcn.out w4 hx04
 have k0:=hent.out w4 hx24 0
 have k1:=hent.out w4 hx24 1
 have k2:=hent.out w4 hx24 2
 have k3:=hent.out w4 hx24 3
 simp only[List.getElem?_toArray,List.getElem?_cons_zero,List.getElem?_cons_succ] at k0 k1 k2 k3
 clear hcl hrb
 go_wp2_with fail
 refine hcn4.mono ?_
 rintro en w5 ⟨rfl,hx5⟩
 have hx05:=hx04.trans hx5
 have ho5:=own_ext ho4 hx5
 have hz5:=(hb3.ext hx4).ext hx5
 clear hcn4 k0 k1 k2 k3
 have hX2:=hst.out
 cases b with
 | false=>
  rw[if_neg (by decide),List.append_nil] at hX2
  obtain⟨A5,c5,rfl,jj1,jj2,jj3,jj4⟩:=Rd.of_own ho5
  have hs5:=hsm.out w5 A5 c5 S (ht.ext hx05) jj3 (own_none ho5) (own_addr ho5) (by omega)
  rw[←hX2,hS] at hs5
  rw[hS]
  clear hX2 jj1 jj2 jj3 jj4 ho5 ho4
  go_wp2_with fail
  refine hs5.mono ?_
  rintro en w6 ⟨rfl,hx6⟩
  have hz6:=hz5.ext hx6
  have hx06:=hx05.trans hx6
  clear hs5
  go_wp2_with (refine wpList_store_mid rfl 23 (.tmp 4) (.tmp 14) rfl (q0+2) 0 (u8s X).toArray rfl rfl (sumX_there hz6 _ hXl) (sumX_info _ hXl) (all_oneCell_toArray (u8s_one _)) ?_)
  refine bodyPost_ret (results_cell_row rfl _ _ (q0+2) 23 (u8s X).toArray (0,0) (.array 32 5) rfl (sumX_cells X hXl hz6) (by kernel_rfl) rfl (sumX_info X hXl)) rfl ?_
  rw[←hPO.out]
  exact⟨rfl,Ext_sets (by have:=hq0.out;omega) _ 0 hx06⟩
 | true=>
  rw[if_pos rfl] at hX2
  have hx35:=hx4.trans hx5
  have hp5:=hput.out w3.heap.size v4 w5 ho5 hx35.size rfl
  have hbl2:=hbl.out rfl
  have k0:=hent.out w5 (hx24.trans hx5) 0
  have k1:=hent.out w5 (hx24.trans hx5) 1
  have k2:=hent.out w5 (hx24.trans hx5) 2
  have k3:=hent.out w5 (hx24.trans hx5) 3
  simp only[List.getElem?_toArray,List.getElem?_cons_zero,List.getElem?_cons_succ] at k0 k1 k2 k3
  obtain⟨E,hE⟩:∃z,Hid (S++bytesP ⟨pol,p,s,id⟩=z):=⟨_,Lib.hid rfl⟩
  have hEl:E.length≤6000:=by rw[←hE.out,List.length_append,hS];omega
  rw[hE.out] at hp5 hX2
  clear hbl hput
  go_wp2_with fail
  refine hp5.mono ?_
  rintro en w6 ⟨v6,rfl,ho6,hg6⟩
  have hx36:Ext w3 w6:=Below.trans hx35 hg6
  have hx06:=hx03.trans hx36
  have hz6:=hb3.ext hx36
  obtain⟨A6,c6,rfl,jj1,jj2,jj3,jj4⟩:=Rd.of_own ho6
  have hs6:=hsm.out w6 A6 c6 E (ht.ext hx06) jj3 (own_none ho6) (own_addr ho6) (by omega)
  obtain⟨M,hM⟩:∃z,Hid (E.length=z):=⟨_,Lib.hid rfl⟩
  rw[←hX2,hM.out] at hs6
  rw[hM.out]
  clear hX2 jj1 jj2 jj3 jj4 ho6 ho5 ho4 hp5 k0 k1 k2 k3 hg6 hz5
  go_wp2_with fail
  refine hs6.mono ?_
  rintro en w7 ⟨rfl,hx7⟩
  have hz7:=hz6.ext hx7
  have hx07:=hx06.trans hx7
  clear hs6
  go_wp2_with (refine wpList_store_mid rfl 23 (.tmp 4) (.tmp 14) rfl (q0+2) 0 (u8s X).toArray rfl rfl (sumX_there hz7 _ hXl) (sumX_info _ hXl) (all_oneCell_toArray (u8s_one _)) ?_)
  refine bodyPost_ret (results_cell_row rfl _ _ (q0+2) 23 (u8s X).toArray (0,0) (.array 32 5) rfl (sumX_cells X hXl hz7) (by kernel_rfl) rfl (sumX_info X hXl)) rfl ?_
  rw[←hPO.out]
  exact⟨rfl,Ext_sets (by have:=hq0.out;omega) _ 0 hx07⟩
set_option maxHeartbeats 2000000 in
theorem Step_any (S:List UInt8) (hS:S.length=32) (e:Et) (he:EtOk e) (w:World) (hwd:Wd w) (hpow:Pow w) (ht:Tabs w) :
  Calls Tryz.prog 36 #[.agg (u8s S).toArray,entV e] w fun en w'=>en=.returned (.agg (u8s (stepP S e)).toArray)∧Ext w w':=by
 have hst:=fun W (hW:Ext w W)=>step_any S hS e he W (hwd.ext hW) (hpow.ext hW) (ht.ext hW)
 obtain⟨X,hX⟩:∃z,Hid (stepP S e=z):=⟨_,Lib.hid rfl⟩
 have hXl:=stepP_len S e
 simp only[hX.out] at hst
 rw[hX.out] at hXl ⊢
 obtain⟨L,hL⟩:∃z,Hid (u8s S=z):=⟨_,Lib.hid rfl⟩
 have hLl:L.length=32:=by rw[←hL.out,u8s_length,hS]
 simp only[hL.out] at hst
 rw[hL.out]
 obtain⟨q0,hq0⟩:∃z,Hid (w.heap.size=z):=⟨_,rfl⟩
 obtain⟨w1,hw1⟩:∃z,Hid (w.alloc (.cells L.toArray 23)=z):=⟨_,rfl⟩
 have hx1:Ext w w1:=by rw[←hw1.out];exact (Ext.refl w).alloc _
 have hb1:Blk w1 q0 L.toArray 23:=by rw[←hw1.out,←hq0.out];exact Blk.new w _ _
 have hs1:w1.heap.size=q0+1:=by rw[←hw1.out,←hq0.out];simp
 obtain⟨w2,hw2⟩:∃z,Hid (w1.alloc (.cells #[.bool e.pol,.int .i64 e.p,.string e.s,.int .u64 (e.id:Int)] 55)=z):=⟨_,rfl⟩
 have hx2:Ext w1 w2:=by rw[←hw2.out];exact (Ext.refl w1).alloc _
 have hs2:w2.heap.size=q0+2:=by rw[←hw2.out];simp[hs1]
 have hb3:=Blk.new w2 z32 23
 rw[hs2] at hb3
 have hx3:Ext w2 (w2.alloc (.cells z32 23)):=(Ext.refl w2).alloc _
 have hty:(Tryz.prog.info? 23).map (·.size)=some L.length:=by rw[hLl];kernel_rfl
 have hld:∀j v,L[j]?=some v→(w2.alloc (.cells z32 23)).cell? ⟨q0,0+j,none⟩=some v:=fun j v hj=>by
  rw[Nat.zero_add,((hb1.ext hx2).ext hx3).cell j,List.getElem?_toArray,hj]
 rw[←hw2.out,←hw1.out,←hq0.out] at hld
 have hc:=hst _ ((hx1.trans hx2).trans hx3)
 rw[←hw2.out,←hw1.out] at hc
 obtain⟨pol,p,s,id⟩:=e
 unfold entV at *
 simp only at *
 clear hst
 go_enter Tryz.func36,Tryz.ntmps36
 go_wp2_with (refine wpList_load_mid rfl 23 (.tmp 2) rfl w.heap.size 0 rfl L (.array 32 5) hld (by kernel_rfl) rfl hty ?_)
 refine hc.mono ?_
 rintro en w4 ⟨rfl,hx4⟩
 rw[hw1.out,hw2.out] at hx4
 rw[hq0.out,show q0+1+1=q0+2 from rfl]
 have hz4:=hb3.ext hx4
 have hx04:=((hx1.trans hx2).trans hx3).trans hx4
 clear hc hld
 go_wp2_with (refine wpList_store_mid rfl 23 (.tmp 4) (.tmp 7) rfl (q0+2) 0 (u8s X).toArray rfl rfl (sumX_there hz4 _ hXl) (sumX_info _ hXl) (all_oneCell_toArray (u8s_one _)) ?_)
 refine bodyPost_ret (results_cell_row rfl _ _ (q0+2) 23 (u8s X).toArray (0,0) (.array 32 5) rfl (sumX_cells X hXl hz4) (by kernel_rfl) rfl (sumX_info X hXl)) rfl ?_
 exact⟨rfl,Ext_sets (by have:=hq0.out;omega) _ 0 hx04⟩
end Go.Proofs.YtbpfabhlngfciaaGreatDoor.Ch
namespace Go.Proofs.YtbpfabhlngfciaaGreatDoor.Args
open Go.ChangeShapes Go.WideShapes Go.ChangeAt Go.RowKit
open Go.ChangeMaps (open_string shut_string)
open Base
end Go.Proofs.YtbpfabhlngfciaaGreatDoor.Args
namespace Go.Proofs.YtbpfabhlngfciaaGreatDoor.Args
open Go.ChangeShapes Go.WideShapes Go.ChangeAt Go.RowKit
open Base Pr
structure Rdr {H α:Type} (enc:TypeId×Value→H) (P:Program) (W:World) (e:TypeId) (cells:α→List Value) (G:α→DataW H→Prop):Prop where
 rd:∀fuel cs D pl,DataW.trod enc P W 0 (fun _=>true) true fuel e cs=some (D,pl)→∃x,cs=cells x∧G x D
def Bk {H α:Type} (G:α→DataW H→Prop) (l:List α) (D:DataW H):Prop:=(D=.nil∧l=[])∨∃ds sp,D=.slice ds sp∧ds.length=l.length∧∀(i:Nat) x d,l[i]?=some x→ds[i]?=some d→G x d
theorem Bk.mono {H α:Type} {G G':α→DataW H→Prop} {l:List α} {D:DataW H} (h:Bk G l D) (hg:∀x d,G x d→G' x d):Bk G' l D:=by
 rcases h with h|⟨ds,sp,h1,h2,h3⟩
 ·exact .inl h
 ·exact .inr ⟨ds,sp,h1,h2,fun i x d a b=>hg _ _ (h3 i x d a b)⟩
theorem Bk.all {H α:Type} {G:α→DataW H→Prop} {l:List α} {D:DataW H} (h:Bk G l D):∀(i:Nat) x,l[i]?=some x→∃d,G x d:=by
 intro i x hx
 rcases h with⟨_,rfl⟩|⟨ds,sp,h1,h2,h3⟩
 ·simp at hx
 ·have hi:i<ds.length:=by rw[h2];exact (List.getElem?_eq_some_iff.1 hx).1
  exact⟨ds[i],h3 i x _ hx (List.getElem?_eq_getElem hi)⟩
theorem flatMap_at {α:Type} {cells:α→List Value} {s:Nat} (hs:∀x,(cells x).length=s):∀(l:List α) (j:Nat) (x:α),l[j]?=some x→∀i,i<s→(l.flatMap cells)[j*s+i]?=(cells x)[i]?
 | [],j,x,h,i,hi=>by simp at h
 | y::l,0,x,h,i,hi=>by
  simp at h;subst h
  rw[List.flatMap_cons,List.getElem?_append_left (by rw[hs];omega)]
  congr 1;omega
 | y::l,j+1,x,h,i,hi=>by
  have ih:=flatMap_at hs l j x (by simpa using h) i hi
  have e:(j+1)*s=j*s+s:=Nat.succ_mul j s
  rw[List.flatMap_cons,List.getElem?_append_right (by rw[hs];omega),←ih]
  congr 1
  rw[hs];omega
theorem flatMap_len {α:Type} {cells:α→List Value} {s:Nat} (hs:∀x,(cells x).length=s) (l:List α):(l.flatMap cells).length=l.length*s:=by
 induction l with
 | nil=>simp
 | cons x l ih=>rw[List.flatMap_cons,List.length_append,hs,ih,List.length_cons,Nat.succ_mul];omega
theorem Rdr.slice {H α:Type} [Inhabited α] {enc:TypeId×Value→H} {P:Program} {W:World} {t e:TypeId} {cells:α→List Value} {G:α→DataW H→Prop} (h:Rdr enc P W e cells G) (hu:P.underlying t=some (.slice e)) {s:Nat} (hce:P.cellsOf e=s) (hs:∀x,(cells x).length=s) (hp:0<s) :
  Rdr enc P W t (fun x:Value×List α=>[x.1]) (fun x D=>Sl W.heap.size W x.1 x.2.length (x.2.flatMap cells)∧Bk G x.2 D):=by
 refine⟨fun fuel cs D pl hf=>?_⟩
 rcases Deep.open_slice hu hf with⟨rfl,hx⟩|⟨a,n,c,m,k,Ds,Pl,rfl,_,hl,hm,hmm,hx,hel⟩
 ·injection hx with hx _
  exact⟨(.slice none 0 0,[]),rfl,⟨none,0,rfl,Rd.nil _ _,fun h=>absurd rfl h,Nat.le_refl _,Nat.zero_le _,fun _=>rfl⟩,.inl ⟨hx,rfl⟩⟩
 ·have hmm:m=c:=by simpa using hmm
  subst hmm
  injection hx with hx _
  have hcell:∀j,j<n→∃x:α,(∀i,i<s→W.cell? (a.add (j*s+i))=(cells x)[i]?)∧G x (Ds j):=by
   intro j hj
   obtain⟨cs',g1,g2⟩:=hel j (by omega)
   rw[hce] at g1
   obtain⟨_,hlen,hc⟩:=World.cells?_some g1
   obtain⟨x,rfl,hg⟩:=h.rd _ _ _ _ g2
   refine⟨x,fun i hi=>?_,hg⟩
   have h4:=hc i hi
   rwa [Deep.add_add] at h4
  obtain⟨f,hfz⟩:=Deep.choose_lt hcell
  have hrd:Rd W (some a) (((List.range n).map f).flatMap cells):=by
   intro hne
   have hpos:0<n:=by
    rcases Nat.eq_zero_or_pos n with h|h
    ·rw[h] at hne;simp at hne
    ·exact h
   obtain⟨b,off,spot⟩:=a
   have hspot:spot=none:=by
    have h9:=(hfz 0 hpos).1 0 hp
    rw[List.getElem?_eq_getElem (by rw[hs];exact hp)] at h9
    simpa [Addr.add] using World.cell?_spot h9
   subst hspot
   refine⟨b,off,rfl,fun j u hj=>?_⟩
   have hjl:j<n*s:=by
    have:=(List.getElem?_eq_some_iff.1 hj).1
    rw[flatMap_len hs] at this
    simpa using this
   have hd:j / s<n:=by rw[Nat.div_lt_iff_lt_mul hp];exact hjl
   have hr:j%s<s:=Nat.mod_lt _ hp
   have hje:j / s*s+j%s=j:=by rw[Nat.mul_comm];exact Nat.div_add_mod j s
   have h5:=(hfz (j / s) hd).1 (j%s) hr
   rw[hje] at h5
   rw[←Go.WideShapes.add_plain,h5]
   have h6:=flatMap_at hs ((List.range n).map f) (j / s) (f (j / s)) (by simp[hd]) (j%s) hr
   rw[hje] at h6
   rw[←h6]
   exact hj
  refine⟨(.slice (some a) n m,(List.range n).map f),rfl,⟨some a,m,by simp,hrd,fun hne a' ha=>?_,by simpa using hl,hm,fun e=>by cases e⟩,.inr ⟨_,_,hx,by simp,fun i x d h1 h2=>?_⟩⟩
  ·injection ha with ha
   subst ha
   obtain⟨b,off,e1,h7⟩:=hrd hne
   injection e1 with e1
   subst e1
   have h8:0<(((List.range n).map f).flatMap cells).length:=List.length_pos_iff.2 hne
   have h9:=h7 0 _ (List.getElem?_eq_getElem h8)
   exact World.block_lt_of_cell? W _ h9
  ·have hi:i<n:=by have:=(List.getElem?_eq_some_iff.1 h1).1;simpa using this
   simp only[List.getElem?_map,List.getElem?_range hi,Option.map_some,Option.some.injEq] at h1 h2
   subst h1;subst h2
   exact (hfz i hi).2
theorem rdr_int {H:Type} {enc:TypeId×Value→H} {P:Program} {W:World} {t:TypeId} {k:IntKind} (hu:P.underlying t=some (.int k)):Rdr enc P W t (fun n:Int=>[.int k n]) (fun n D=>D=.lit (.int k n)∧(Lit.int k n).wf=true):=
 ⟨fun fuel cs D pl hf=>by
  obtain⟨z,e0,e1,w0⟩:=DataW.trod_int hu hf
  injection e1 with e1 _
  exact⟨z,e0,e1,w0⟩⟩
theorem rdr_string {H:Type} {enc:TypeId×Value→H} {P:Program} {W:World} {t:TypeId} (hu:P.underlying t=some .string):Rdr enc P W t (fun s:ByteArray=>[.string s]) (fun s D=>D=.lit (.string s.data.toList)∧s.size≤maxLen):=
 ⟨fun fuel cs D pl hf=>by
  obtain⟨z,e0,e1,w0⟩:=DataW.trod_string hu hf
  injection e1 with e1 _
  exact⟨z,e0,e1,w0⟩⟩
theorem rdr_bool {H:Type} {enc:TypeId×Value→H} {P:Program} {W:World} {t:TypeId} (hu:P.underlying t=some .bool):Rdr enc P W t (fun b:Bool=>[.bool b]) (fun b D=>D=.lit (.bool b)):=
 ⟨fun fuel cs D pl hf=>by
  obtain⟨z,e0,e1⟩:=DataW.trod_bool hu hf
  injection e1 with e1 _
  exact⟨z,e0,e1⟩⟩
end Go.Proofs.YtbpfabhlngfciaaGreatDoor.Args
namespace Go.Proofs.YtbpfabhlngfciaaGreatDoor.Args
open Go.ChangeShapes Go.WideShapes Go.ChangeAt Go.RowKit
open Base Pr Ch
instance:Inhabited Et:=⟨e0⟩
theorem cells_ent:Tryz.prog.cellsOf 55=4:=by kernel_rfl
def entD {H:Type} (e:Et):DataW H:=.agg [.lit (.bool e.pol),.lit (.int .i64 e.p),.lit (.string e.s.data.toList),.lit (.int .u64 (e.id:Int))]
structure EtIn (e:Et):Prop where
 p1 : -9223372036854775808≤e.p
 p2:e.p≤9223372036854775807
 id1:e.id<18446744073709551616
theorem rdr_ent {H:Type} {enc:TypeId×Value→H} {W:World}:Rdr enc Tryz.prog W 55 entC (fun e D=>D=entD e∧EtIn e):=by
 refine⟨fun fuel cs D pl hf=>?_⟩
 obtain⟨xs,m,_,hx,hl,hlen,hfs⟩:=DataW.trod_struct Tryz.underlying55 hf
 injection hx with hD _
 match xs,hlen with
 | [y0,y1,y2,y3],_=>
  have g0:=hfs 0 _ rfl
  have g1:=hfs 1 _ rfl
  have g2:=hfs 2 _ rfl
  have g3:=hfs 3 _ rfl
  have hl4:cs.length=4:=hl.trans cells_ent
  match cs,hl4 with
  | [c0,c1,c2,c3],_=>
   have g0:DataW.trod enc Tryz.prog W 0 (fun _=>true) true m 4 [c0]=some y0:=g0
   have g1:DataW.trod enc Tryz.prog W 0 (fun _=>true) true m 3 [c1]=some y1:=g1
   have g2:DataW.trod enc Tryz.prog W 0 (fun _=>true) true m 9 [c2]=some y2:=g2
   have g3:DataW.trod enc Tryz.prog W 0 (fun _=>true) true m 53 [c3]=some y3:=g3
   obtain⟨z0,e0,f0⟩:=(rdr_bool Tryz.underlying4).rd _ _ _ _ g0
   obtain⟨z1,e1,f1,b1⟩:=(rdr_int Tryz.underlying3).rd _ _ _ _ g1
   obtain⟨z2,e2,f2,_⟩:=(rdr_string Tryz.underlying9).rd _ _ _ _ g2
   obtain⟨z3,e3,f3,b3⟩:=(rdr_int Tryz.underlying53).rd _ _ _ _ g3
   injection e0 with e0 _
   injection e1 with e1 _
   injection e2 with e2 _
   injection e3 with e3 _
   subst e0;subst e1;subst e2;subst e3
   have b1 : -9223372036854775808≤z1∧z1≤9223372036854775807:=by simpa [Lit.wf,IntKind.min,IntKind.max,IntKind.signed,IntKind.bits] using b1
   have b3:0≤z3∧z3≤18446744073709551615:=by simpa [Lit.wf,IntKind.min,IntKind.max,IntKind.signed,IntKind.bits] using b3
   obtain⟨k,rfl⟩:∃k:Nat,z3=(k:Int):=⟨z3.toNat,by omega⟩
   refine⟨⟨z0,z1,z2,k⟩,rfl,?_,⟨b1.1,b1.2,by show k<_;omega⟩⟩
   rw[hD]
   simp only[List.map_cons,List.map_nil,f0,f1,f2,f3,entD]
theorem ents_arg {H:Type} {enc:TypeId×Value→H} {W:World} {base:Nat} {v:Value} {d:DataW H} {p:List MemPlace} (hv:Value.okWide Tryz.prog W .any base 66 v) (h:DataW.Trod enc Tryz.prog W 0 (fun _=>true) true 66 v d p) :
  ∃l,Sl W.heap.size W v l.length (l.flatMap entC)∧Bk (fun e D=>D=entD e∧EtIn e) l d:=by
 obtain⟨fuel,hf⟩:=h
 obtain⟨A,n,c,rfl⟩:=okWide_slice (e:=55) (by kernel_rfl) hv
 obtain⟨⟨v3,l3⟩,e3,s3,f3⟩:=(rdr_ent.slice (t:=66) (by kernel_rfl) (s:=4) (by kernel_rfl) (fun _=>rfl) (by omega)).rd _ _ _ _ hf
 have e3:Value.slice A n c=v3:=by simpa [Value.cells] using e3
 subst e3
 exact⟨l3,s3,f3⟩
theorem ents_reach {H:Type} {ts:List TypeId} {ds:List (DataW H)} (h:(DataW.weightsEach Tryz.prog ts ds).all (· ≤ reachBytes)=true) {j:Nat} {l:List Et} {d:DataW H}
  (ht:ts[j]?=some 66) (hd:ds[j]?=some d) (hb:Bk (fun e D=>D=entD e∧EtIn e) l d):l.length*40≤140737488351232:=by
 rcases hb with⟨_,rfl⟩|⟨es,sp,rfl,h2,h3⟩
 ·simp
 ·have:=sized_slice h ht hd (e:=55) (by kernel_rfl)
  have hby:Tryz.prog.bytesOf 55=40:=by kernel_rfl
  rw[hby] at this
  simp only[reachBytes] at this
  rw[←h2]
  have h5:es.length*40≤(es.length+sp.length)*40:=Nat.mul_le_mul_right _ (Nat.le_add_right _ _)
  omega
end Go.Proofs.YtbpfabhlngfciaaGreatDoor.Args
