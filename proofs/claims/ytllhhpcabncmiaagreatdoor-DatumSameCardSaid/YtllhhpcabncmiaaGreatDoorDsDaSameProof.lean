/- suffragan/suffraganlaw09.DatumSame: the given statement, out of the contract of its walk. No condition. -/
import Derived.Test.YtllhhpcabncmiaaGreatDoorDsM
import Derived.Laws.EntriesVeiled
import Derived.Defers
import Derived.Recover
import Derived.Stop.Asserts
set_option linter.unusedVariables false
set_option linter.unusedSimpArgs false
set_option maxRecDepth 100000
set_option maxHeartbeats 1000000
open Go.ChangeShapes Go.WideShapes Go.ChangeAt Go.RowKit
namespace Go.Proofs.YtllhhpcabncmiaaGreatDoor
namespace Dm
open Base Lx Mi Pr
def onlyD (d:Da) (n s k l:Bool):Bool:=(n || decide (d.n=0)) && (s || decide (d.s.size=0)) && (k || decide (d.ks.length=0)) && (l || decide (d.l.length=0))
theorem size_zero {s:ByteArray}:s.size=0↔s=⟨#[]⟩:=by
 constructor
 ·intro h
  obtain⟨a⟩:=s
  have:a = #[]:=Array.eq_empty_of_size_eq_zero h
  rw[this]
 ·rintro rfl;rfl
theorem only_any (d:Da) {lo B:Nat} {w:World} {v:V2} (h:DaR lo B w d v) (bn bs bk bl:Bool) :
  Calls Tryz.prog 57 #[dV d v,.bool bn,.bool bs,.bool bk,.bool bl] w fun e w'=>e=.returned (.bool (onlyD d bn bs bk bl))∧Ext w w':=by
 obtain⟨Ak,ck,Al,cl,rfl,jj1,jj2,jj3,jj4,jj5,jj6,hm2,jj7⟩:=h.parts
 clear jj1 jj2 jj3 jj4 jj5 jj6 hm2 jj7 h
 simp only[dV]
 obtain⟨x,hx⟩:∃z,Hid (d.n=z):=⟨_,rfl⟩
 obtain⟨s,hs⟩:∃z,Hid (d.s=z):=⟨_,rfl⟩
 obtain⟨n,hn⟩:∃z,Hid (d.l.length=z):=⟨_,rfl⟩
 obtain⟨nk,hnk⟩:∃z,Hid (d.ks.length=z):=⟨_,rfl⟩
 have ho:onlyD d bn bs bk bl=((bn || decide (x=0)) && (bs || decide (s.size=0)) && (bk || decide (nk=0)) && (bl || decide (n=0))):=by rw[onlyD,hx.out,hs.out,hn.out,hnk.out]
 rw[ho,hx.out,hs.out,hn.out,hnk.out]
 clear ho hx hs hn hnk
 have he0:(⟨#[]⟩:ByteArray).toList=[]:=by first|rfl|decide|simp
 obtain⟨X,hX⟩:∃z:Bool,Hid (decide (x=0)=z):=⟨_,rfl⟩
 have hX1:(x == 0)=X:=by rw[←hX.out];by_cases h:x=0<;>simp[h]
 obtain⟨T,hT⟩:∃z:Bool,Hid (decide (s.size=0)=z):=⟨_,rfl⟩
 have hT1:(s.toList == [])=T:=by
  rw[←hT.out,←he0]
  by_cases h:s=⟨#[]⟩
  ·subst h;simp;rfl
  ·rw[str_ne h];simp[mt size_zero.1 h]
 obtain⟨K,hK⟩:∃z:Bool,Hid (decide (nk=0)=z):=⟨_,rfl⟩
 have hK1:((nk:Int) == 0)=K:=by rw[←hK.out];by_cases h:nk=0<;>simp[h]
 obtain⟨L,hL⟩:∃z:Bool,Hid (decide (n=0)=z):=⟨_,rfl⟩
 have hL1:((n:Int) == 0)=L:=by rw[←hL.out];by_cases h:n=0<;>simp[h]
 rw[hX.out,hT.out,hK.out,hL.out]
 clear hX hT hK hL
 obtain⟨w1,hw1⟩:∃z,Hid (w.alloc (.cells #[.int .i64 x,.string s,.slice Ak nk ck,.slice Al n cl] 28)=z):=⟨_,rfl⟩
 have hx1:Ext w w1:=by rw[←hw1.out];exact (Ext.refl w).alloc _
 go_enter Tryz.func57,Tryz.ntmps57
 clear he0
 cases bn with
 | true=>
  cases bs with
  | true=>
   cases bk with
   | true=>
    cases bl with
    | true=>
     go_wp2_with fail
     rw[hw1.out]
     go_ret
     exact⟨rfl,hx1⟩
    | false=>
     cases L with
     | true=>
      go_wp2_with fail
      rw[hw1.out]
      go_ret
      exact⟨rfl,hx1⟩
     | false=>
      go_wp2_with fail
      rw[hw1.out]
      go_ret
      exact⟨by simp,hx1⟩
   | false=>
    cases K with
    | true=>
     cases bl with
     | true=>
      go_wp2_with fail
      rw[hw1.out]
      go_ret
      exact⟨rfl,hx1⟩
     | false=>
      cases L with
      | true=>
       go_wp2_with fail
       rw[hw1.out]
       go_ret
       exact⟨rfl,hx1⟩
      | false=>
       go_wp2_with fail
       rw[hw1.out]
       go_ret
       exact⟨by simp,hx1⟩
    | false=>
     go_wp2_with fail
     rw[hw1.out]
     go_ret
     exact⟨by simp,hx1⟩
  | false=>
   cases T with
   | true=>
    cases bk with
    | true=>
     cases bl with
     | true=>
      go_wp2_with fail
      rw[hw1.out]
      go_ret
      exact⟨rfl,hx1⟩
     | false=>
      cases L with
      | true=>
       go_wp2_with fail
       rw[hw1.out]
       go_ret
       exact⟨rfl,hx1⟩
      | false=>
       go_wp2_with fail
       rw[hw1.out]
       go_ret
       exact⟨by simp,hx1⟩
    | false=>
     cases K with
     | true=>
      cases bl with
      | true=>
       go_wp2_with fail
       rw[hw1.out]
       go_ret
       exact⟨rfl,hx1⟩
      | false=>
       cases L with
       | true=>
        go_wp2_with fail
        rw[hw1.out]
        go_ret
        exact⟨rfl,hx1⟩
       | false=>
        go_wp2_with fail
        rw[hw1.out]
        go_ret
        exact⟨by simp,hx1⟩
     | false=>
      go_wp2_with fail
      rw[hw1.out]
      go_ret
      exact⟨by simp,hx1⟩
   | false=>
    go_wp2_with fail
    rw[hw1.out]
    go_ret
    exact⟨by simp,hx1⟩
 | false=>
  cases X with
  | true=>
   cases bs with
   | true=>
    cases bk with
    | true=>
     cases bl with
     | true=>
      go_wp2_with fail
      rw[hw1.out]
      go_ret
      exact⟨rfl,hx1⟩
     | false=>
      cases L with
      | true=>
       go_wp2_with fail
       rw[hw1.out]
       go_ret
       exact⟨rfl,hx1⟩
      | false=>
       go_wp2_with fail
       rw[hw1.out]
       go_ret
       exact⟨by simp,hx1⟩
    | false=>
     cases K with
     | true=>
      cases bl with
      | true=>
       go_wp2_with fail
       rw[hw1.out]
       go_ret
       exact⟨rfl,hx1⟩
      | false=>
       cases L with
       | true=>
        go_wp2_with fail
        rw[hw1.out]
        go_ret
        exact⟨rfl,hx1⟩
       | false=>
        go_wp2_with fail
        rw[hw1.out]
        go_ret
        exact⟨by simp,hx1⟩
     | false=>
      go_wp2_with fail
      rw[hw1.out]
      go_ret
      exact⟨by simp,hx1⟩
   | false=>
    cases T with
    | true=>
     cases bk with
     | true=>
      cases bl with
      | true=>
       go_wp2_with fail
       rw[hw1.out]
       go_ret
       exact⟨rfl,hx1⟩
      | false=>
       cases L with
       | true=>
        go_wp2_with fail
        rw[hw1.out]
        go_ret
        exact⟨rfl,hx1⟩
       | false=>
        go_wp2_with fail
        rw[hw1.out]
        go_ret
        exact⟨by simp,hx1⟩
     | false=>
      cases K with
      | true=>
       cases bl with
       | true=>
        go_wp2_with fail
        rw[hw1.out]
        go_ret
        exact⟨rfl,hx1⟩
       | false=>
        cases L with
        | true=>
         go_wp2_with fail
         rw[hw1.out]
         go_ret
         exact⟨rfl,hx1⟩
        | false=>
         go_wp2_with fail
         rw[hw1.out]
         go_ret
         exact⟨by simp,hx1⟩
      | false=>
       go_wp2_with fail
       rw[hw1.out]
       go_ret
       exact⟨by simp,hx1⟩
    | false=>
     go_wp2_with fail
     rw[hw1.out]
     go_ret
     exact⟨by simp,hx1⟩
  | false=>
   go_wp2_with fail
   rw[hw1.out]
   go_ret
   exact⟨by simp,hx1⟩
theorem parts_eq (d:Da):d.parts=partsL d.l+1:=by cases d;rw[Da.parts];rfl
theorem deep_eq (d:Da):d.deep=deepL d.l+1:=by cases d;rw[Da.deep];rfl
theorem partsL_app:∀(l r:List Da),partsL (l++r)=partsL l+partsL r
 | [],r=>by simp[partsL]
 | x::l,r=>by rw[List.cons_append,partsL,partsL,partsL_app l r];omega
theorem partsL_take {l:List Da} {i:Nat} {x:Da} (h:l[i]?=some x):partsL (l.take (i+1))=partsL (l.take i)+x.parts:=by
 rw[List.take_add_one,h,partsL_app];simp[partsL]
theorem partsL_le {l:List Da} (i:Nat):partsL (l.take i)≤partsL l:=by
 have:=partsL_app (l.take i) (l.drop i)
 rw[List.take_append_drop] at this
 omega
theorem deepL_le {m:Nat}:∀ {l:List Da},(∀x∈l,x.deep≤m)→deepL l≤m
 | [],_=>by rw[deepL];omega
 | x::l,h=>by
  rw[deepL]
  have h1:=h x (by simp)
  have h2:=deepL_le (l:=l) (fun y hy=>h y (by simp[hy]))
  omega
theorem chg_below {B g:Nat} {w w':World} (h:Chg (fun k=>k=g) w w') (hB:B≤g) (hw:B≤w.heap.size):Go.RowKit.Below B w w':=
 ⟨h.os,h.tape,h.output,h.size,fun i hi=>h.block i (Nat.lt_of_lt_of_le hi hw) (by omega)⟩
theorem few_any:∀(d:Da) {lo B g:Nat} {w:World} {v:V2} (deep left:Int),DaR lo B w d v→B≤g→Blk w g #[.int .i64 left] 3→1≤deep→deep≤101→0≤left→left≤100000→
  Calls Tryz.prog 35 #[dV d v,.int .i64 deep,.pointer (some ⟨g,0,none⟩)] w fun e w'=>∃(ok:Bool) (left':Int),e=.returned (.bool ok)∧Blk w' g #[.int .i64 left'] 3∧Chg (fun k=>k=g) w w'∧(ok=true↔deep+d.deep≤101∧(d.parts:Int)≤left)∧(ok=true→left'=left-d.parts):=by
 intro d
 induction d using Da.ind with
 | h d ih=>
 intro lo B g w v deep left h hBg hg h1 h2 h3 h4
 have hpp:=parts_pos d
 have hdd:=deep_pos d
 have hB:B≤w.heap.size:=by have:=hg.lt;omega
 obtain⟨Ak,ck,Al,cl,rfl,jj1,jj2,jj3,jj4,jj5,hm1,hm2,jj6⟩:=h.parts
 clear jj1 jj2 jj3 jj4 jj5 jj6
 have hm:d.l.length≤9223372036854775807:=by unfold maxLen at hm2;omega
 clear hm1 hm2
 obtain⟨n,hn⟩:∃z,Hid (d.l.length=z):=⟨_,rfl⟩
 obtain⟨nk,hnk⟩:∃z,Hid (d.ks.length=z):=⟨_,rfl⟩
 rw[hn.out] at hm
 simp only[dV]
 rw[hn.out,hnk.out]
 obtain⟨w1,hw1⟩:∃z,Hid (w.alloc (.cells #[.int .i64 d.n,.string d.s,.slice Ak nk ck,.slice Al n cl] 28)=z):=⟨_,rfl⟩
 have hx1:Ext w w1:=by rw[←hw1.out];exact (Ext.refl w).alloc _
 obtain⟨q,hq⟩:∃z,Hid (w.heap.size=z):=⟨_,rfl⟩
 have hbA:Blk w1 q #[.int .i64 d.n,.string d.s,.slice Ak nk ck,.slice Al n cl] 28:=by rw[←hw1.out,←hq.out];exact Blk.new w _ _
 have hg1:Blk w1 g #[.int .i64 left] 3:=hg.ext hx1
 have hgq:¬q=g:=by have:=hg.lt;have:=hq.out;omega
 obtain⟨PO,hPO⟩:∃PO:Ending→World→Prop,Hid ((fun (e:Ending) (w':World)=>∃(ok:Bool) (left':Int),e=.returned (.bool ok)∧Blk w' g #[.int .i64 left'] 3∧Chg (fun k=>k=g) w w'∧(ok=true↔deep+d.deep≤101∧(d.parts:Int)≤left)∧(ok=true→left'=left-d.parts))=PO):=⟨_,Lib.hid rfl⟩
 rw[hPO.out]
 replace hpp:=Lib.hid hpp
 replace hdd:=Lib.hid hdd
 by_cases hd:deep>100
 ·have hd':(100:Int)<deep:=hd
  clear hd
  go_enter Tryz.func35,Tryz.ntmps35
  go_wp2_with fail
  rw[hw1.out]
  rw[←hPO.out]
  exact⟨false,left,rfl,hg1,Chg.ofExt hx1,⟨fun e=>(by cases e),fun e=>by have:=hdd.out;omega⟩,fun e=>by cases e⟩
 have hd':¬(100:Int)<deep:=by omega
 clear hd
 have pG0:(w.alloc (.cells #[.int .i64 d.n,.string d.s,.slice Ak nk ck,.slice Al n cl] 28)).cell? ⟨g,0,none⟩=some (.int .i64 left):=by rw[hw1.out];exact hg1.cell 0
 have fG0:(w.alloc (.cells #[.int .i64 d.n,.string d.s,.slice Ak nk ck,.slice Al n cl] 28)).frozen? ⟨g,0,none⟩=false:=by rw[hw1.out];exact hg1.frozen 0
 by_cases hl0:left=0
 ·have hb0:(left == 0)=true:=by simpa using hl0
  replace hl0:=Lib.hid hl0
  go_enter Tryz.func35,Tryz.ntmps35
  go_wp2_with fail
  rw[hw1.out]
  rw[←hPO.out]
  exact⟨false,left,rfl,hg1,Chg.ofExt hx1,⟨fun e=>(by cases e),fun e=>by have:=hpp.out;have:=hl0.out;omega⟩,fun e=>by cases e⟩
 have hb0:(left == 0)=false:=by simpa using hl0
 have hl1:1≤left:=by omega
 clear hl0
 go_enter Tryz.func35,Tryz.ntmps35
 go_wp2_with fail
 rw[hw1.out,hq.out]
 have hch0:Chg (fun k=>k=g) w (w1.setCell ⟨g,0,none⟩ (.int .i64 (left-1))):=Chg.set (S:=fun k=>k=g) (Chg.ofExt hx1) (p:=⟨g,0,none⟩) (.inl rfl) _
 have hg2:=hg1.set 0 (.int .i64 (left-1))
 have hbA2:=hbA.far (p:=⟨g,0,none⟩) hgq (.int .i64 (left-1))
 obtain⟨w2,hw2⟩:∃z,Hid (w1.setCell ⟨g,0,none⟩ (.int .i64 (left-1))=z):=⟨_,rfl⟩
 rw[hw2.out] at hch0 hg2 hbA2 ⊢
 replace hg2:Blk w2 g #[.int .i64 (left-1)] 3:=hg2
 clear pG0 fG0 hw2
 replace ih:=Lib.hid ih
 go_loopw [8,25,26,27,28,29,30,31,32,33,34,35] (fun v8 v25 v26 v27 v28 v29 v30 v31 v32 v33 v34 v35 wr=>∃(i:Nat) (lf:Int),i≤n∧v25=.int .i64 i∧Blk wr g #[.int .i64 lf] 3∧Chg (fun k=>k=g) w wr∧Hid (lf=left-1-partsL (d.l.take i))∧0≤lf∧Hid (∀x∈d.l.take i,deep+1+(x.deep:Int)≤101)) (fun _ v25 _ _ _ _ _ _ _ _ _ _ _=>n-(intOf v25).toNat)
 case atStart=>exact⟨0,left-1,by omega,rfl,hg2,hch0,Lib.hid (by simp[partsL]),by omega,Lib.hid (fun x hx=>by simp at hx)⟩
 case round=>
  obtain⟨i,lf,hi,rfl,hgr,hch,hlf,hlf0,hkd⟩:=hrel
  have hbw:Go.RowKit.Below B w wr:=chg_below hch hBg hB
  by_cases hin:i<n
  ·have hin':(i:Int)<(n:Int):=by omega
   obtain⟨x,hx1'⟩:∃x,d.l[i]?=some x:=⟨_,List.getElem?_eq_getElem (by have:=hn.out;omega)⟩
   obtain⟨b,off,c0,Akx,ckx,Alx,clx,e1,hb1,hdx,hcc⟩:=h.kid i x hx1'
   simp only at e1
   injection e1 with e1 _ e1'
   subst e1;subst e1'
   obtain⟨p0,p1,p2,p3⟩:=hcc wr hbw
   have hmem:x∈d.l:=List.mem_of_getElem? hx1'
   obtain⟨w3,hw3⟩:∃z,Hid (wr.alloc (.cells #[.int .i64 x.n,.string x.s,.slice Akx x.ks.length ckx,.slice Alx x.l.length clx] 28)=z):=⟨_,rfl⟩
   have hx3:Ext wr w3:=by rw[←hw3.out];exact (Ext.refl wr).alloc _
   have hg3:=hgr.ext hx3
   have hB3:B≤wr.heap.size:=by have:=hgr.lt;omega
   have hlfr:lf≤100000:=by have:=hlf.out;omega
   have hcall:=ih.out x hmem (w:=w3) (deep+1) lf ((hdx.low hbw).ext hx3 hB3) hBg hg3 (by omega) (by omega) hlf0 hlfr
   have hptk:(partsL (d.l.take (i+1)):Int)=partsL (d.l.take i)+x.parts:=by have:=partsL_take hx1';omega
   have hple:=partsL_le (l:=d.l) (i+1)
   have hpeq:=parts_eq d
   have hxd:=deep_mem hmem
   have htk:d.l.take (i+1)=d.l.take i++[x]:=by rw[List.take_add_one,hx1'];rfl
   simp only[dV] at hcall
   replace hptk:=Lib.hid hptk
   replace hple:=Lib.hid hple
   replace hpeq:=Lib.hid hpeq
   replace hxd:=Lib.hid hxd
   replace htk:=Lib.hid htk
   clear hcc hdx hx1' hmem ih
   go_wp2_with fail
   rw[hw3.out]
   refine hcall.mono ?_
   rintro e Y ⟨ok,lf2,rfl,hgY,hcY,hok,hok2⟩
   have hchY:Chg (fun k=>k=g) w Y:=(hch.trans (Chg.ofExt (S:=fun k=>k=g) hx3) (fun _ _ e=>e)).trans hcY (fun _ _ e=>e)
   replace hok:=Lib.hid hok
   replace hok2:=Lib.hid hok2
   cases ok with
   | false=>
    go_wp2_with fail
    rw[←hPO.out]
    refine⟨false,lf2,rfl,hgY,hchY,⟨fun e=>(by cases e),fun e=>?_⟩,fun e=>by cases e⟩
    exfalso
    have:=hok.out.2 ⟨by have:=hxd.out;omega,by have:=hptk.out;have:=hple.out;have:=hpeq.out;have:=hlf.out;omega⟩
    cases this
   | true=>
    have hok3:=hok.out.1 rfl
    have hok4:=hok2.out rfl
    replace hok3:=Lib.hid hok3
    replace hok4:=Lib.hid hok4
    clear hok hok2
    go_wp2_with fail
    go_roundw
    case rel=>
     refine⟨i+1,lf2,by omega,by go_num,hgY,hchY,Lib.hid ?_,?_,Lib.hid (fun y hy=>?_)⟩
     ·have:=hptk.out;have:=hok4.out;have:=hlf.out;omega
     ·have:=hok4.out;have:=hok3.out.2;omega
     ·rw[htk.out] at hy
      rcases List.mem_append.1 hy with hy|hy
      ·exact hkd.out y hy
      ·rw[List.mem_singleton] at hy
       subst hy
       exact hok3.out.1
    case measure=>simp[intOf];omega
  ·obtain rfl:i=n:=by omega
   have htk:d.l.take i=d.l:=List.take_of_length_le (by have:=hn.out;omega)
   rw[htk] at hlf hkd
   have hpeq:=parts_eq d
   have hdeq:=deep_eq d
   have hdl:deepL d.l≤(100-deep).toNat:=deepL_le fun x hx=>by have:=hkd.out x hx;omega
   replace hpeq:=Lib.hid hpeq
   replace hdeq:=Lib.hid hdeq
   replace hdl:=Lib.hid hdl
   clear ih htk
   go_wp2_with fail
   rw[←hPO.out]
   refine⟨true,lf,rfl,hgr,hch,⟨fun _=>⟨?_,?_⟩,fun _=>rfl⟩,fun _=>?_⟩
   ·have:=hdeq.out;have:=hdl.out;omega
   ·have:=hpeq.out;have:=hlf.out;omega
   ·have:=hpeq.out;have:=hlf.out;omega
def neI:Ne:=⟨2,⟨#[]⟩,0,[],[],[]⟩
theorem showI:showP [neI]=some [105,110,116]:=by decide +kernel
theorem lenI:showLen [neI]≤100000000:=by decide +kernel
def daI:Da:=.mk (-3) ⟨#[]⟩ [] []
theorem daI_in (lo B:Nat) (w:World):DaR lo B w daI (.slice none 0 0,.slice none 0 0):=
 .mk [] (SlR.nil _ _ _) rfl (SlR.nil _ _ _) (fun i x u h _=>by cases h) ⟨by decide,by decide⟩
theorem schI {w:World} {q:Nat} (h:Blk w q #[.int .i64 2,.string ⟨#[]⟩,.int .i64 0,.slice none 0 0,.slice none 0 0,.slice none 0 0] 47):Sch w.heap.size w (.slice (some ⟨q,0,none⟩) 1 1) [neI]:=by
 have hn:∀cs:List Value,cs=[]→Sl w.heap.size w (.slice none 0 0) 0 cs:=fun cs e=>by subst e;exact⟨none,0,rfl,Rd.nil _ _,fun h=>absurd rfl h,Nat.le_refl _,Nat.zero_le _,fun _=>rfl⟩
 refine⟨[(.slice none 0 0,.slice none 0 0,.slice none 0 0)],rfl,⟨some ⟨q,0,none⟩,1,rfl,fun _=>⟨q,0,rfl,fun j u hj=>?_⟩,fun _ a ha=>?_,Nat.le_refl _,by unfold maxLen;omega,fun e=>by cases e⟩,fun i d v h1 h2=>?_⟩
 ·rw[Nat.zero_add,h.cell j,←hj]
  rw[←Array.getElem?_toList]
  rfl
 ·injection ha with ha
  subst ha
  exact h.lt
 ·cases i with
  | succ i=>simp at h1
  | zero=>
   simp at h1 h2
   subst h1;subst h2
   exact⟨hn _ rfl,hn _ rfl,hn _ rfl,by simp[neI]⟩
theorem sound_any (v:Value) (ns:List Ne) (w:World) (hS:Sch w.heap.size w v ns) (hwd:Wd w) (hpow:Pow w) (hL:showLen ns≤100000000) :
  Calls Tryz.prog 28 #[.agg #[v]] w fun e w'=>e=.returned (.bool (showP ns).isSome)∧Ext w w':=by
 obtain⟨w1,hw1⟩:∃z,Hid (w.alloc (.cells #[v] 24)=z):=⟨_,rfl⟩
 have hx1:Ext w w1:=by rw[←hw1.out];exact (Ext.refl w).alloc _
 have hc:=show_any v ns w1 ((hS.below hx1).mono hx1.size) (hwd.ext hx1) (hpow.ext hx1) hL
 obtain⟨o,ho⟩:∃z,Hid (showP ns=z):=⟨_,Lib.hid rfl⟩
 rw[ho.out] at hc ⊢
 obtain⟨A,c,rfl⟩:=hS.slice
 go_enter Tryz.func28,Tryz.ntmps28
 go_wp2_with fail
 rw[hw1.out]
 refine hc.mono ?_
 rintro e w2 ⟨rfl,hx2⟩
 cases o with
 | none=>
  rw[show shV none=Value.tuple #[.string ⟨#[]⟩,.int .i64 1] from rfl]
  go_wp2_with fail
  go_ret
  exact⟨rfl,hx1.trans hx2⟩
 | some s=>
  rw[show shV (some s)=Value.tuple #[.string ⟨s.toArray⟩,.int .i64 0] from rfl]
  go_wp2_with fail
  go_ret
  exact⟨rfl,hx1.trans hx2⟩
theorem fitsI_any {B:Nat} {w:World} {v:Value} (hS:Sch B w v [neI]) (hB:B≤w.heap.size) :
  Calls Tryz.prog 36 #[.agg #[v],.int .i64 0,dV daI (.slice none 0 0,.slice none 0 0)] w fun e w'=>e=.returned (.bool true)∧Ext w w':=by
 obtain⟨b1,o1,d1,As1,cs1,Ai1,ci1,Af1,cf1,e1,hb1,hs1,hc1⟩:=hS.node2 0 neI rfl
 subst e1
 simp only[Nat.zero_mul,Nat.add_zero,show neI.k=2 from rfl,show neI.name=⟨#[]⟩ from rfl,show neI.size=0 from rfl,show neI.syms.length=0 from rfl,show neI.items.length=0 from rfl,show neI.fields.length=0 from rfl,show [neI].length=1 from rfl] at hc1 ⊢
 simp only[dV,show daI.n = -3 from rfl,show daI.s=⟨#[]⟩ from rfl]
 obtain⟨w1,hw1⟩:∃z,Hid ((w.alloc (.cells #[.slice (some ⟨b1,o1,none⟩) 1 d1] 24)).alloc (.cells #[.int .i64 (-3),.string ⟨#[]⟩,.slice none 0 0,.slice none 0 0] 28)=z):=⟨_,rfl⟩
 have hx1:Ext w w1:=by rw[←hw1.out];exact ((Ext.refl w).alloc _).alloc _
 obtain⟨q,hq⟩:∃z,Hid (w.heap.size=z):=⟨_,rfl⟩
 have hbB:Blk w1 (q+1) #[.int .i64 (-3),.string ⟨#[]⟩,.slice none 0 0,.slice none 0 0] 28:=by
  rw[←hw1.out,←hq.out]
  have:=Blk.new (w.alloc (.cells #[.slice (some ⟨b1,o1,none⟩) 1 d1] 24)) #[.int .i64 (-3),.string ⟨#[]⟩,.slice none 0 0,.slice none 0 0] 28
  simpa using this
 obtain⟨p0,p1,p2,p3,p4,p5⟩:=hc1 w1 (Below.mono hx1 hB)
 rw[←hw1.out] at p0 p1 p2 p3 p4 p5
 have hon:∀W,Ext w1 W→_:=fun W hW=>only_any daI (daI_in 0 W.heap.size W) true false false false
 rw[show onlyD daI true false false false=true from rfl] at hon
 simp only[dV,show daI.n = -3 from rfl,show daI.s=⟨#[]⟩ from rfl,show daI.ks.length=0 from rfl,show daI.l.length=0 from rfl] at hon
 replace hon:=Lib.hid hon
 go_enter Tryz.func36,Tryz.ntmps36
 go_wp2_with fail
 rw[hw1.out,hq.out]
 refine (hon.out _ (((Ext.refl w1).alloc _).alloc _)).mono ?_
 rintro e w3 ⟨rfl,hx3⟩
 have hx13:Ext w1 w3:=Ext.unalloc (Ext.unalloc hx3)
 have d0:w3.cell? ⟨q+1,0,none⟩=some (.int .i64 (-3)):=(hbB.ext hx13).cell 0
 go_wp2_with fail
 go_ret
 exact⟨rfl,hx1.trans hx13⟩
theorem fitI_any {v:Value} {w:World} (hS:Sch w.heap.size w v [neI]) (hwd:Wd w) (hpow:Pow w) :
  Calls Tryz.prog 23 #[.agg #[v],dV daI (.slice none 0 0,.slice none 0 0)] w fun e w'=>e=.returned (.bool true)∧Ext w w':=by
 obtain⟨b1,o1,d1,As1,cs1,Ai1,ci1,Af1,cf1,e1,hb1,hs1,hc1⟩:=hS.node2 0 neI rfl
 subst e1
 have hfew:∀W g,Blk W g #[.int .i64 2000] 3→_:=fun W g hg=>few_any daI (lo:=0) (B:=0) (g:=g) (w:=W) 1 2000 (daI_in _ _ _) (Nat.zero_le _) hg (by omega) (by omega) (by omega) (by omega)
 simp only[dV,show daI.n = -3 from rfl,show daI.s=⟨#[]⟩ from rfl,show [neI].length=1 from rfl,show (daI.deep:Int)=1 from by decide,show (daI.parts:Int)=1 from by decide] at hfew hS ⊢
 obtain⟨w1,hw1⟩:∃z,Hid (((w.alloc (.cells #[.slice (some ⟨b1,o1,none⟩) 1 d1] 24)).alloc (.cells #[.int .i64 (-3),.string ⟨#[]⟩,.slice none 0 0,.slice none 0 0] 28)).alloc (.cells #[.int .i64 2000] 3)=z):=⟨_,rfl⟩
 have hx1:Ext w w1:=by rw[←hw1.out];exact (((Ext.refl w).alloc _).alloc _).alloc _
 obtain⟨q,hq⟩:∃z,Hid (w.heap.size=z):=⟨_,rfl⟩
 have hbA:Blk w1 q #[.slice (some ⟨b1,o1,none⟩) 1 d1] 24:=by rw[←hw1.out,←hq.out];exact ((Blk.new w _ _).alloc _).alloc _
 have hbB:Blk w1 (q+1) #[.int .i64 (-3),.string ⟨#[]⟩,.slice none 0 0,.slice none 0 0] 28:=by
  rw[←hw1.out,←hq.out]
  have:=(Blk.new (w.alloc (.cells #[.slice (some ⟨b1,o1,none⟩) 1 d1] 24)) #[.int .i64 (-3),.string ⟨#[]⟩,.slice none 0 0,.slice none 0 0] 28).alloc (.cells #[.int .i64 2000] 3)
  simpa using this
 have hbC:Blk w1 (q+1+1) #[.int .i64 2000] 3:=by
  rw[←hw1.out,←hq.out]
  have:=Blk.new ((w.alloc (.cells #[.slice (some ⟨b1,o1,none⟩) 1 d1] 24)).alloc (.cells #[.int .i64 (-3),.string ⟨#[]⟩,.slice none 0 0,.slice none 0 0] 28)) #[.int .i64 2000] 3
  simpa using this
 have hso:=sound_any (.slice (some ⟨b1,o1,none⟩) 1 d1) [neI] w1 ((hS.below hx1).mono hx1.size) (hwd.ext hx1) (hpow.ext hx1) lenI
 rw[show (showP [neI]).isSome=true from by rw[showI];rfl] at hso
 replace hfew:=Lib.hid hfew
 go_enter Tryz.func23,Tryz.ntmps23
 go_wp2_with fail
 rw[hw1.out,hq.out]
 refine hso.mono ?_
 rintro e w2 ⟨rfl,hx2⟩
 have hbA2:=hbA.ext hx2
 have hbB2:=hbB.ext hx2
 have b0:=hbB2.cell 0
 have b1':=hbB2.cell 1
 have b2:=hbB2.cell 2
 have b3:=hbB2.cell 3
 have hfew2:=hfew.out w2 (q+1+1) (hbC.ext hx2)
 clear hso
 go_wp2_with fail
 refine hfew2.mono ?_
 rintro e w3 ⟨ok,lf,rfl,hbC3,hc3,hok,-⟩
 obtain rfl:ok=true:=hok.2 ⟨by omega,by omega⟩
 have hsz1:w1.heap.size=q+1+1+1:=by rw[←hw1.out];simp[hq.out]
 have hxw3:Ext w w3:=(hx1.trans hx2).chg hc3 (fun i hi e=>by have:=hq.out;omega)
 have hbA3:=hc3.blk hbA2 (by omega)
 have hbB3:=hc3.blk hbB2 (by omega)
 have a0':=hbA3.cell 0
 have b0':=hbB3.cell 0
 have b1'':=hbB3.cell 1
 have b2':=hbB3.cell 2
 have b3':=hbB3.cell 3
 have hfi:=fitsI_any (hS.below hxw3) hxw3.size
 simp only[dV,show daI.n = -3 from rfl,show daI.s=⟨#[]⟩ from rfl] at hfi
 clear b0 b1' b2 b3 hfew2 hok
 go_wp2_with fail
 refine hfi.mono ?_
 rintro e w4 ⟨rfl,hx4⟩
 go_wp2_with fail
 go_ret
 exact⟨rfl,hxw3.trans hx4⟩
structure Grw (w w':World) (v v':Value):Prop where
 chg:Chg (fun k=>v.ownBlock=some k) w w'
 new:v'.ownBlock=v.ownBlock∨∀k,v'.ownBlock=some k→w.heap.size≤k
theorem Grw.refl (w:World) (v:Value):Grw w w v v:=⟨Chg.refl _ _,.inl rfl⟩
theorem Grw.trans {a b c:World} {v v1 v2:Value} (h:Grw a b v v1) (k:Grw b c v1 v2):Grw a c v v2:=by
 refine⟨h.chg.trans k.chg (fun i hi e=>?_),?_⟩
 ·rcases h.new with e1|e1
  ·rw[←e1];exact e
  ·have:=e1 i e;omega
 ·rcases k.new with e2|e2
  ·rcases h.new with e1|e1
   ·exact .inl (e2.trans e1)
   ·exact .inr fun q hq=>e1 q (by rw[←e2];exact hq)
  ·exact .inr fun q hq=>Nat.le_trans h.chg.size (e2 q hq)
theorem Grw.grown {w w':World} {v v':Value} (hg:w.grownBy w' v.ownBlock) (hv:v'.ownBlock=v.ownBlock∨v'.ownBlock=some w.heap.size):Grw w w' v v':=
 ⟨Chg.ofGrown hg,hv.imp_right fun e k hk=>by rw[e] at hk;injection hk with hk;omega⟩
theorem Grw.after {a b c:World} {v v':Value} (h:Ext a b) (k:Grw b c v v'):Grw a c v v':=
 ⟨(Chg.ofExt h).trans k.chg (fun _ _ e=>e),k.new.imp_right fun e q hq=>Nat.le_trans h.size (e q hq)⟩
theorem Grw.ext {a b c:World} {v v':Value} (h:Grw a b v v') (k:Ext b c):Grw a c v v':=
 ⟨h.chg.trans (Chg.ofExt (S:=fun k=>v.ownBlock=some k) k) (fun _ _ e=>e),h.new⟩
theorem Grw.blk {w w':World} {v v':Value} (h:Grw w w' v v') {g:Nat} {cs:Array Value} {t:TypeId} (hb:Blk w g cs t) (hg:v.ownBlock≠some g):Blk w' g cs t:=h.chg.blk hb hg
theorem Grw.low {w w':World} {v v':Value} (h:Grw w w' v v') {B:Nat} (hB:B≤w.heap.size) (hv:∀k,v.ownBlock=some k→B≤k):Go.RowKit.Below B w w':=
 ⟨h.chg.os,h.chg.tape,h.chg.output,h.chg.size,fun i hi=>h.chg.block i (Nat.lt_of_lt_of_le hi hB) (fun e=>by have:=hv i e;omega)⟩
def byteD (n:Int) (j:Nat):UInt8:=UInt8.ofNat (n / 2 ^ (8*j)%256).toNat
theorem byteD_int (n:Int) (j:Nat):((byteD n j).toNat:Int)=n / 2 ^ (8*j)%256:=by
 unfold byteD
 have h1:=Int.emod_nonneg (n / 2 ^ (8*j)) (show (256:Int)≠0 by omega)
 have h2:=Int.emod_lt_of_pos (n / 2 ^ (8*j)) (show (0:Int)<256 by omega)
 generalize n / 2 ^ (8*j)%256=z at h1 h2
 rw[UInt8.toNat_ofNat']
 omega
def bigP (n:Int):Nat→List UInt8
 | 0=>[]
 | j+1=>byteD n j::bigP n j
theorem bigP_length (n:Int):∀k,(bigP n k).length=k
 | 0=>rfl
 | k+1=>by rw[bigP,List.length_cons,bigP_length n k]
theorem el_u8d:El Tryz.prog 32 5 (.int .u8 0) 1 1:=⟨by kernel_rfl,by kernel_rfl,rfl,by omega⟩
theorem big_any {base:Nat} {w:World} {v:Value} {m:Nat} {l:List UInt8} (n:Int) (k:Nat) (ho:w.ownsRow base 5 1 v m (u8s l)) (hb:base≤w.heap.size) (hm:m≤100000000000) (hk:k≤8) (h1 : -9223372036854775808≤n) (h2:n≤9223372036854775807) :
  Calls Tryz.prog 37 #[v,.int .i64 n,.int .i64 k] w fun e w'=>∃v',e=.returned v'∧w'.ownsRow base 5 1 v' (m+k) (u8s (l++bigP n k))∧Grw w w' v v':=by
 obtain⟨L,hL⟩:∃z,Hid (l++bigP n k=z):=⟨_,Lib.hid rfl⟩
 obtain⟨PO,hPO⟩:∃PO:Ending→World→Prop,Hid ((fun (e:Ending) (w':World)=>∃v',e=.returned v'∧w'.ownsRow base 5 1 v' (m+k) (u8s L)∧Grw w w' v v')=PO):=⟨_,Lib.hid rfl⟩
 rw[hL.out,hPO.out]
 obtain⟨Av,cv,rfl,jj1,jj2,jj3,jj4⟩:=Rd.of_own ho
 clear jj1 jj2 jj3 jj4
 have hml:l.length=m:=by have:=ho.1;rw[u8s_length] at this;omega
 go_enter Tryz.func37,Tryz.ntmps37
 go_wp2_with fail
 go_loopw [0,7,10,11,12,13,14,15,16,17,18,19,20,21] (fun v0 v7 v10 v11 v12 v13 v14 v15 v16 v17 v18 v19 v20 v21 wr=>∃(i:Nat) (acc:List UInt8),i≤k∧v7=.int .i64 ((i:Int)-1)∧wr.ownsRow base 5 1 v0 (m+(k-i)) (u8s acc)∧Hid (acc++bigP n i=L)∧Grw w wr (.slice Av m cv) v0) (fun _ v7 _ _ _ _ _ _ _ _ _ _ _ _ _=>(intOf v7+1).toNat)
 case atStart=>exact⟨k,l,Nat.le_refl _,by go_num,by rw[Nat.sub_self];exact ho,hL,Grw.refl _ _⟩
 case round=>
  obtain⟨i,acc,hi,rfl,hoR,hacc,hG⟩:=hrel
  obtain⟨A0,c0,rfl,jj1,jj2,jj3,jj4⟩:=Rd.of_own hoR
  clear jj1 jj2 jj3 jj4
  by_cases hin:1≤i
  ·obtain⟨j,rfl⟩:∃j,i=j+1:=⟨i-1,by omega⟩
   rw[show (((j+1:Nat):Int)-1)=(j:Int) by omega]
   have hin':(0:Int)≤(j:Int):=by omega
   have hj8:(j:Int)≤7:=by omega
   have hmm:m+(k-(j+1))≤100000000008:=by omega
   have hmk:m+(k-(j+1))+1=m+(k-j):=by omega
   obtain⟨mm,hmm2⟩:∃z,m+(k-(j+1))=z:=⟨_,rfl⟩
   rw[hmm2] at hmm hmk hoR hG
   rw[hmm2]
   have hsz:=hG.chg.size
   have hbw:base≤wr.heap.size:=by omega
   have haY:Ext wr (wr.alloc (.cells #[.int .u8 (n / 2 ^ (8*j)%256)] 5)):=(Ext.refl wr).alloc _
   have hbw2:base≤(wr.alloc (.cells #[.int .u8 (n / 2 ^ (8*j)%256)] 5)).heap.size:=Nat.le_trans hbw haY.size
   have hone:∀u∈([.int .u8 (n / 2 ^ (8*j)%256)]:List Value),u.oneCell'=true:=by
    intro u hu
    simp only[List.mem_cons,List.not_mem_nil,or_false] at hu
    rcases hu with rfl
    rfl
   replace hmk:=Lib.hid hmk
   clear hmm2 hsz
   go_wp2_with (
    refine wpList_app el_u8d _ rfl (.tmp 14) (.tmp 20) rfl base (.slice A0 mm c0) mm (u8s acc) rfl (own_ext hoR haY) (some ⟨wr.heap.size,0,none⟩) 1 1 [.int .u8 (n / 2 ^ (8*j)%256)] rfl (Rd.of_block wr 5 (0,0) rfl) rfl (fun h=>by cases h) hone (by omega) (by omega) hbw2 (fun V1 w6 ho6 hg6 hv6=>?_)
    have hG6:=(hG.trans (Grw.after haY (Grw.grown hg6 hv6)))
    obtain⟨A6,c6,rfl,jj1,jj2,jj3,jj4⟩:=Rd.of_own ho6
    clear jj1 jj2 jj3 jj4 hv6 hg6)
   go_roundw
   case rel=>
    refine⟨j,acc++[byteD n j],by omega,by go_num,?_,Lib.hid ?_,hG6⟩
    ·rw[←hmk.out,u8s_append]
     rw[←byteD_int] at ho6
     exact ho6
    ·have:=hacc.out
     rw[bigP] at this
     rw[List.append_assoc]
     exact this
   case measure=>simp[intOf]
  ·obtain rfl:i=0:=by omega
   have hLa:L=acc:=by have:=hacc.out;rw[bigP,List.append_nil] at this;exact this.symm
   replace hLa:=Lib.hid hLa
   rw[Nat.sub_zero] at hoR ⊢
   go_wp2_with fail
   rw[←hPO.out]
   exact⟨_,rfl,by rw[hLa.out];exact hoR,hG⟩
end Dm
namespace Base
def cutA (A:Option Addr) (c l:Nat):Option Addr:=if c=l then A else A.map (·.add l)
theorem cutA_block {A:Option Addr} {c l:Nat} {a:Addr} (h:cutA A c l=some a):∃a0,A=some a0∧a.block=a0.block:=by
 unfold cutA at h
 split at h
 ·exact⟨a,h,rfl⟩
 ·cases A with
  | none=>cases h
  | some a0=>
   simp only[Option.map_some,Option.some.injEq] at h
   refine⟨a0,rfl,?_⟩
   rw[←h];unfold Addr.add;split<;>rfl
theorem cutA_none {A:Option Addr} {c l:Nat} (hA:A=none→c=0) (h:cutA A c l=none):c-l=0:=by
 unfold cutA at h
 split at h
 ·omega
 ·cases A with
  | none=>have:=hA rfl;omega
  | some a0=>cases h
theorem Rd.cut {w:World} {A:Option Addr} {L:List Value} (h:Rd w A L) {c l k:Nat} (hl:l≤k) (hk:k≤c):Rd w (cutA A c l) ((L.take k).drop l):=by
 intro hne
 have hlen:l<(L.take k).length:=by
  rcases Nat.lt_or_ge l (L.take k).length with x|x
  ·exact x
  ·exact absurd (List.drop_eq_nil_of_le x) hne
 have hL:L≠[]:=by rintro rfl;simp at hlen
 obtain⟨b,off,rfl,hc⟩:=h hL
 have hlk:l<k:=by rw[List.length_take] at hlen;omega
 refine⟨b,off+l,?_,fun j u hj=>?_⟩
 ·unfold cutA
  rw[if_neg (by omega)]
  simp only[Option.map_some]
  congr 1
  unfold Addr.add;split<;>simp_all
 ·rw[List.getElem?_drop,List.getElem?_take] at hj
  split at hj
  ·rw[Nat.add_assoc];exact hc _ u hj
  ·cases hj
theorem Rb.cut {w:World} {A:Option Addr} {L:List UInt8} (h:Rb w A L) {c l k:Nat} (hl:l≤k) (hk:k≤c):Rb w (cutA A c l) ((L.take k).drop l):=by
 have:=Rd.cut h hl hk
 rwa [u8s,←List.map_take,←List.map_drop] at this
theorem run_cut {P:Program} {t e:TypeId} (ht:P.underlying t=some (.slice e)) (he:(P.info? e).map (·.size)=some 1) (w:World) (A:Option Addr) (n c l k:Nat) (lo hi:Option Value)
  (hlo:lo=some (.int .i64 (l:Int))∨lo=none∧l=0) (hhi:hi=some (.int .i64 (k:Int))∨hi=none∧k=n) (hl:l≤k) (hk:k≤c) (hn:hi=none→n≤c) :
  (Instr.slice t (.slice A n c) lo hi none).run P w=.ok (.slice (cutA A c l) (k-l) (c-l)) w:=by
 have h1:(0:Int)≤(l:Int)∧(l:Int)≤(k:Int):=by omega
 have h2:(0:Int)≤(k:Int)∧(k:Int)≤(c:Int):=by omega
 cases hq:P.info? e with
 | none=>simp[hq] at he
 | some i=>
  have hi1:i.size=1:=by simpa [hq] using he
  rcases hlo with rfl|⟨rfl,rfl⟩<;>rcases hhi with rfl|⟨rfl,rfl⟩ <;>
   simp[Instr.slice,Instr.sliceBounds,Instr.sliceBound,run_underlying ht,asIntOf,h1,h2,sizeOf,typeInfo,hq,hi1,cutA,go_sem] <;>
   (try rw[if_pos hk,if_pos hl])<;>(try (intro h;omega))
theorem run_cutAt {P:Program} {t e:TypeId} (ht:P.underlying t=some (.slice e)) (he:(P.info? e).map (·.size)=some 1) (w:World) (A:Option Addr) (n c l k:Nat) (lo hi:Option Value)
  (hlo:lo=some (.int .i64 (l:Int))∨lo=none∧l=0) (hhi:hi=some (.int .i64 (k:Int))∨hi=none∧k=n) (hl:l≤k) (hk:k≤c) (hn:hi=none→n≤c) :
  (Instr.sliceAt t (.slice A n c) lo hi none).run P w=.ok (.slice (cutA A c l) (k-l) (c-l)) w:=by
 rw[←run_cut ht he w A n c l k lo hi hlo hhi hl hk hn]
 simp[Instr.sliceAt,run_underlying ht]
theorem wpList_cut {P:Program} {ops:Array Oper} {rest:List Oper} {op:Oper} {a:Act} {w:World} {Q:Exit→Act→World→Prop} (hgd:op.guard=none) (t:TypeId) (x:Operand) (lo hi:Option Operand) (ho:op.op=.slice t x lo hi none) (vx v:Value) (vlo vhi:Option Value) (hx:a.eval x=vx) (hlo:lo.map a.eval=vlo) (hhi:hi.map a.eval=vhi)
  (hrun:(Instr.sliceAt t vx vlo vhi none).run P w=.ok v w) (h:wpList P ops Q rest (a.put op.dst v) w):wpList P ops Q (op::rest) a w:=
 wpList_plain hgd fun _ hK=>by
  unfold Oper.wp execOp
  simp only[ho,hx,hlo,hhi,Option.map_none,Sem.run_bind,Sem.run_pure,Result.andThen_ok,hrun]
  exact hK _ _ h
end Base
namespace Dm
open Base Lx Mi Pr
theorem must_ok (k:Int) (w:World):Calls Tryz.prog 31 #[.bool true,.int .i64 k] w fun e w'=>e=.returned (.tuple #[])∧w=w':=by
 go_enter Tryz.func31,Tryz.ntmps31
 go_wp2_with fail
 go_end0
 exact⟨rfl,rfl⟩
theorem bytes_any {g n c k:Nat} {sv:Value} {A:Option Addr} {left:Int} {w:World} (hg:Blk w g #[sv,.slice A n c,.int .i64 left] 58) (hnc:n≤c) (hc:c≤maxLen) (hk:k≤n) :
  Calls Tryz.prog 49 #[.pointer (some ⟨g,0,none⟩),.int .i64 k] w fun e w'=>e=.returned (.slice (cutA A c 0) k c)∧Blk w' g #[sv,.slice (cutA A c k) (n-k) (c-k),.int .i64 left] 58∧Chg (fun i=>i=g) w w':=by
 unfold maxLen at hc
 have hnk:(k:Int)≤(n:Int):=by omega
 have hn9:n≤9223372036854775807:=by omega
 have c1:=hg.cell 1
 have hcut1:=run_cutAt (P:=Tryz.prog) (t:=32) (e:=5) (by kernel_rfl) (by kernel_rfl) w A n c 0 k none (some (.int .i64 (k:Int))) (.inr ⟨rfl,rfl⟩) (.inl rfl) (Nat.zero_le _) (by omega) (fun e=>by cases e)
 have hcut2:=run_cutAt (P:=Tryz.prog) (t:=32) (e:=5) (by kernel_rfl) (by kernel_rfl) w A n c k n (some (.int .i64 (k:Int))) none (.inl rfl) (.inr ⟨rfl,rfl⟩) hk hnc (fun _=>hnc)
 rw[Nat.sub_zero,Nat.sub_zero] at hcut1
 have f1:=hg.frozen 1
 go_enter Tryz.func49,Tryz.ntmps49
 go_wp2_with fail
 refine (must_ok 3 w).mono ?_
 rintro e w1 ⟨rfl,rfl⟩
 go_wp2_with (first
  | (refine wpList_cut rfl 32 (.tmp 17) none (some (.tmp 18)) rfl _ _ _ _ rfl rfl rfl hcut1 ?_)
  | (refine wpList_cut rfl 32 (.tmp 24) (some (.tmp 25)) none rfl _ _ _ _ rfl rfl rfl hcut2 ?_))
 go_ret
 exact⟨rfl,hg.set 1 _,Chg.one w g 1 _⟩
theorem signedI_any {b off c:Nat} {w:World} (hc4:4≤c) (hc:c≤maxLen) (h0:w.cell? ⟨b,off,none⟩=some (.int .u8 255)) (h1:w.cell? ⟨b,off+1,none⟩=some (.int .u8 255)) (h2:w.cell? ⟨b,off+2,none⟩=some (.int .u8 255)) (h3:w.cell? ⟨b,off+3,none⟩=some (.int .u8 253)) :
  Calls Tryz.prog 50 #[.slice (some ⟨b,off,none⟩) 4 c] w fun e w'=>e=.returned (.int .i64 (-3))∧w=w':=by
 unfold maxLen at hc
 have hcut1:=run_cutAt (P:=Tryz.prog) (t:=32) (e:=5) (by kernel_rfl) (by kernel_rfl) w (some ⟨b,off,none⟩) 4 c 1 4 (some (.int .i64 ((1:Nat):Int))) none (.inl rfl) (.inr ⟨rfl,rfl⟩) (by omega) hc4 (fun _=>hc4)
 have hcA:cutA (some ⟨b,off,none⟩) c 1=some ⟨b,off+1,none⟩:=by
  unfold cutA
  rw[if_neg (by omega)]
  simp[Addr.add]
 rw[hcA] at hcut1
 clear hcA
 have e2:off+1+1=off+2:=rfl
 have h2':w.cell? ⟨b,off+1+1,none⟩=some (.int .u8 255):=h2
 have h3':w.cell? ⟨b,off+1+2,none⟩=some (.int .u8 253):=h3
 clear e2
 go_enter Tryz.func50,Tryz.ntmps50
 go_wp2_with (refine wpList_cut rfl 32 (.tmp 11) (some (.const (.int .i64 1))) none rfl _ _ _ _ rfl rfl rfl hcut1 ?_)
 go_loopw [3,5,14,15,16,17,18,19,20,21,22,23] (fun v3 v5 v14 v15 v16 v17 v18 v19 v20 v21 v22 v23 wr=>∃i:Nat,i≤3∧v14=.int .i64 i∧v3=.int .i64 (if i=3 then -3 else -1)∧w=wr) (fun _ _ v14 _ _ _ _ _ _ _ _ _ _=>3-(intOf v14).toNat)
 case atStart=>exact⟨0,by omega,rfl,by kernel_rfl,rfl⟩
 case round=>
  obtain⟨i,hi,rfl,rfl,rfl⟩:=hrel
  rcases i with _|_|_|_|i
  ·go_wp2_with fail
   go_roundw
   case rel=>exact⟨1,by omega,by go_num,by kernel_rfl,trivial⟩
   case measure=>simp[intOf]
  ·go_wp2_with fail
   go_roundw
   case rel=>exact⟨2,by omega,by go_num,by kernel_rfl,trivial⟩
   case measure=>simp[intOf]
  ·go_wp2_with fail
   go_roundw
   case rel=>exact⟨3,by omega,by go_num,by kernel_rfl,trivial⟩
   case measure=>simp[intOf]
  ·go_wp2_with fail
   go_ret
   exact⟨rfl,rfl⟩
  ·omega
theorem putI_any {B:Nat} {w:World} {v:Value} (hS:Sch B w v [neI]) (hB:B≤w.heap.size) :
  Calls Tryz.prog 24 #[.slice none 0 0,.agg #[v],.int .i64 0,dV daI (.slice none 0 0,.slice none 0 0)] w fun e w'=>∃v',e=.returned v'∧w'.ownsRow w.heap.size 5 1 v' 4 (u8s (bigP (-3) 4))∧Ext w w':=by
 obtain⟨PO,hPO⟩:∃PO:Ending→World→Prop,Hid ((fun (e:Ending) (w':World)=>∃v',e=.returned v'∧w'.ownsRow w.heap.size 5 1 v' 4 (u8s (bigP (-3) 4))∧Ext w w')=PO):=⟨_,Lib.hid rfl⟩
 rw[hPO.out]
 obtain⟨b1,o1,d1,As1,cs1,Ai1,ci1,Af1,cf1,e1,hb1,hs1,hc1⟩:=hS.node2 0 neI rfl
 subst e1
 simp only[Nat.zero_mul,Nat.add_zero,show neI.k=2 from rfl,show neI.name=⟨#[]⟩ from rfl,show neI.size=0 from rfl,show neI.syms.length=0 from rfl,show neI.items.length=0 from rfl,show neI.fields.length=0 from rfl,show [neI].length=1 from rfl] at hc1 ⊢
 simp only[dV,show daI.n = -3 from rfl,show daI.s=⟨#[]⟩ from rfl]
 obtain⟨w1,hw1⟩:∃z,Hid ((w.alloc (.cells #[.slice (some ⟨b1,o1,none⟩) 1 d1] 24)).alloc (.cells #[.int .i64 (-3),.string ⟨#[]⟩,.slice none 0 0,.slice none 0 0] 28)=z):=⟨_,rfl⟩
 have hx1:Ext w w1:=by rw[←hw1.out];exact ((Ext.refl w).alloc _).alloc _
 obtain⟨p0,p1,p2,p3,p4,p5⟩:=hc1 w1 (Below.mono hx1 hB)
 rw[←hw1.out] at p0 p1 p2 p3 p4 p5
 have hbig:∀W:World,w.heap.size≤W.heap.size→_:=fun W hW=>big_any (base:=w.heap.size) (w:=W) (v:=.slice none 0 0) (m:=0) (l:=[]) (-3) 4 (World.ownsRow_nil _ _ _ _) hW (by omega) (by omega) (by omega) (by omega)
 replace hbig:=Lib.hid hbig
 go_enter Tryz.func24,Tryz.ntmps24
 go_wp2_with fail
 rw[hw1.out]
 refine (hbig.out _ ((hx1.trans ((Ext.refl w1).alloc _)).size)).mono ?_
 rintro e w3 ⟨v',rfl,ho,hG⟩
 have hx3:=hG.chg.toExt (fun k _ e=>by cases e)
 have hx13:Ext w1 w3:=Ext.unalloc hx3
 obtain⟨A6,c6,rfl,jj1,jj2,jj3,jj4⟩:=Rd.of_own ho
 clear jj1 jj2 jj3 jj4
 go_wp2_with fail
 rw[←hPO.out]
 exact⟨_,rfl,ho,hx1.trans hx13⟩
theorem PutI_any {v:Value} {w:World} (hS:Sch w.heap.size w v [neI]) (hwd:Wd w) (hpow:Pow w) :
  Calls Tryz.prog 10 #[.agg #[v],dV daI (.slice none 0 0,.slice none 0 0)] w fun e w'=>∃v',e=.returned (.tuple #[v',.int .i64 0])∧w'.ownsRow w.heap.size 5 1 v' 4 (u8s (bigP (-3) 4))∧Ext w w':=by
 obtain⟨PO,hPO⟩:∃PO:Ending→World→Prop,Hid ((fun (e:Ending) (w':World)=>∃v',e=.returned (.tuple #[v',.int .i64 0])∧w'.ownsRow w.heap.size 5 1 v' 4 (u8s (bigP (-3) 4))∧Ext w w')=PO):=⟨_,Lib.hid rfl⟩
 rw[hPO.out]
 obtain⟨b1,o1,d1,As1,cs1,Ai1,ci1,Af1,cf1,e1,hb1,hs1,hc1⟩:=hS.node2 0 neI rfl
 subst e1
 obtain⟨w1,hw1⟩:∃z,Hid ((w.alloc (.cells #[.slice (some ⟨b1,o1,none⟩) 1 d1] 24)).alloc (.cells #[.int .i64 (-3),.string ⟨#[]⟩,.slice none 0 0,.slice none 0 0] 28)=z):=⟨_,rfl⟩
 have hx1:Ext w w1:=by rw[←hw1.out];exact ((Ext.refl w).alloc _).alloc _
 obtain⟨q,hq⟩:∃z,Hid (w.heap.size=z):=⟨_,rfl⟩
 have hbA:Blk w1 q #[.slice (some ⟨b1,o1,none⟩) 1 d1] 24:=by rw[←hw1.out,←hq.out];exact (Blk.new w _ _).alloc _
 have hbB:Blk w1 (q+1) #[.int .i64 (-3),.string ⟨#[]⟩,.slice none 0 0,.slice none 0 0] 28:=by
  rw[←hw1.out,←hq.out]
  have:=Blk.new (w.alloc (.cells #[.slice (some ⟨b1,o1,none⟩) 1 d1] 24)) #[.int .i64 (-3),.string ⟨#[]⟩,.slice none 0 0,.slice none 0 0] 28
  simpa using this
 have hfi:=fitI_any ((hS.below hx1).mono hx1.size) (hwd.ext hx1) (hpow.ext hx1)
 have hpu:=fun W (hW:Ext w W)=>putI_any (hS.below hW) hW.size
 simp only[dV,show daI.n = -3 from rfl,show daI.s=⟨#[]⟩ from rfl,show [neI].length=1 from rfl] at hfi hpu ⊢
 replace hpu:=Lib.hid hpu
 go_enter Tryz.func10,Tryz.ntmps10
 go_wp2_with fail
 rw[hw1.out,hq.out]
 refine hfi.mono ?_
 rintro e w2 ⟨rfl,hx2⟩
 have a0:=(hbA.ext hx2).cell 0
 have b0:=(hbB.ext hx2).cell 0
 have b1':=(hbB.ext hx2).cell 1
 have b2:=(hbB.ext hx2).cell 2
 have b3:=(hbB.ext hx2).cell 3
 have hpu2:=hpu.out w2 (hx1.trans hx2)
 clear hfi
 go_wp2_with fail
 refine hpu2.mono ?_
 rintro e w3 ⟨v',rfl,ho,hx3⟩
 obtain⟨A6,c6,rfl,jj1,jj2,jj3,jj4⟩:=Rd.of_own ho
 clear jj1 jj2 jj3 jj4
 go_wp2_with fail
 rw[←hPO.out]
 exact⟨_,rfl,own_base ho (hx1.trans hx2).size,(hx1.trans hx2).trans hx3⟩
theorem resVal {w:World} {tmps:Array Value} {a:Nat} {u0 u1 u2 u3:Value} (ha:tmps[6]?.getD undef=.pointer (some ⟨a,0,none⟩)) (h0:w.cell? ⟨a,0,none⟩=some u0) (h1:w.cell? ⟨a,1,none⟩=some u1) (h2:w.cell? ⟨a,2,none⟩=some u2) (h3:w.cell? ⟨a,3,none⟩=some u3) :
  (results Tryz.f30 tmps).run Tryz.prog w=.ok (.agg #[u0,u1,u2,u3]) w:=by
 simp[results,Tryz.f30,go_sem,ha,h0,h1,h2,h3]
theorem valueI_any {B g b off c:Nat} {w:World} {v:Value} (hS:Sch B w v [neI]) (hBg:B≤g) (hbg:b<g) (hg:Blk w g #[v,.slice (some ⟨b,off,none⟩) 4 c,.int .i64 2000] 58) (hc4:4≤c) (hc:c≤maxLen)
  (h0:w.cell? ⟨b,off,none⟩=some (.int .u8 255)) (h1:w.cell? ⟨b,off+1,none⟩=some (.int .u8 255)) (h2:w.cell? ⟨b,off+2,none⟩=some (.int .u8 255)) (h3:w.cell? ⟨b,off+3,none⟩=some (.int .u8 253)) :
  Calls Tryz.prog 30 #[.pointer (some ⟨g,0,none⟩),.int .i64 0,.int .i64 1] w fun e w'=>e=.returned (dV daI (.slice none 0 0,.slice none 0 0))∧(∃A' c',Blk w' g #[v,.slice A' 0 c',.int .i64 1999] 58)∧Chg (fun i=>i=g) w w':=by
 obtain⟨PO,hPO⟩:∃PO:Ending→World→Prop,Hid ((fun (e:Ending) (w':World)=>e=.returned (dV daI (.slice none 0 0,.slice none 0 0))∧(∃A' c',Blk w' g #[v,.slice A' 0 c',.int .i64 1999] 58)∧Chg (fun i=>i=g) w w')=PO):=⟨_,Lib.hid rfl⟩
 rw[hPO.out]
 obtain⟨b1,o1,d1,As1,cs1,Ai1,ci1,Af1,cf1,e1,hb1,hs1,hc1⟩:=hS.node2 0 neI rfl
 subst e1
 simp only[Nat.zero_mul,Nat.add_zero,show neI.k=2 from rfl,show neI.name=⟨#[]⟩ from rfl,show neI.size=0 from rfl,show neI.syms.length=0 from rfl,show neI.items.length=0 from rfl,show neI.fields.length=0 from rfl,show [neI].length=1 from rfl] at hc1 hg hPO
 obtain⟨w1,hw1⟩:∃z,Hid (w.alloc (.cells #[.int .i64 0,.string ⟨#[]⟩,.slice none 0 0,.slice none 0 0] 28)=z):=⟨_,rfl⟩
 have hx1:Ext w w1:=by rw[←hw1.out];exact (Ext.refl w).alloc _
 obtain⟨q,hq⟩:∃z,Hid (w.heap.size=z):=⟨_,rfl⟩
 have hbR:Blk w1 q #[.int .i64 0,.string ⟨#[]⟩,.slice none 0 0,.slice none 0 0] 28:=by rw[←hw1.out,←hq.out];exact Blk.new w _ _
 have hg1:=hg.ext hx1
 have gq:g<q:=by have:=hg.lt;have:=hq.out;omega
 have k2:(w.alloc (.cells #[.int .i64 0,.string ⟨#[]⟩,.slice none 0 0,.slice none 0 0] 28)).cell? ⟨g,2,none⟩=some (.int .i64 2000):=by rw[hw1.out];exact hg1.cell 2
 go_enter Tryz.func30,Tryz.ntmps30
 go_wp2_with fail
 rw[hw1.out,hq.out]
 refine (must_ok 2 w1).mono ?_
 rintro e w2 ⟨rfl,rfl⟩
 clear k2
 have k2:=hg1.cell 2
 have f2:=hg1.frozen 2
 have hg2:=hg1.set 2 (.int .i64 1999)
 have hB1:B≤w1.heap.size:=by have:=hg1.lt;omega
 obtain⟨w2,hw2⟩:∃z,Hid (w1.setCell ⟨g,2,none⟩ (.int .i64 1999)=z):=⟨_,rfl⟩
 obtain⟨w3,hw3⟩:∃z,Hid (w2.alloc (.cells #[.int .i64 0,.string ⟨#[]⟩,.slice none 0 0,.slice none 0 0] 28)=z):=⟨_,rfl⟩
 rw[hw2.out] at hg2
 have hch2:Chg (fun i=>i=g) w w2:=by rw[←hw2.out];exact Chg.set (S:=fun i=>i=g) (Chg.ofExt hx1) (p:=⟨g,2,none⟩) (.inl rfl) _
 have hx3:Ext w2 w3:=by rw[←hw3.out];exact (Ext.refl w2).alloc _
 have hs1:w1.heap.size=q+1:=by rw[←hw1.out,←hq.out];simp
 have hs2:w2.heap.size=q+1:=by rw[←hw2.out];simpa using hs1
 have hbR2:Blk w2 q #[.int .i64 0,.string ⟨#[]⟩,.slice none 0 0,.slice none 0 0] 28:=by rw[←hw2.out];exact hbR.far (p:=⟨g,2,none⟩) (by show ¬q=g;omega) _
 have hbR3:=hbR2.ext hx3
 have hbT3:Blk w3 (q+1) #[.int .i64 0,.string ⟨#[]⟩,.slice none 0 0,.slice none 0 0] 28:=by rw[←hw3.out,←hs2];exact Blk.new w2 _ _
 have hg3:=hg2.ext hx3
 have hch3:Chg (fun i=>i=g) w w3:=hch2.trans (Chg.ofExt (S:=fun i=>i=g) hx3) (fun _ _ e=>e)
 have hbw3:Go.RowKit.Below B w w3:=⟨hch3.os,hch3.tape,hch3.output,hch3.size,fun i hi=>hch3.block i (by have:=hg.lt;omega) (by omega)⟩
 obtain⟨p0,p1,p2,p3,p4,p5⟩:=hc1 w3 hbw3
 have g0:=hg3.cell 0
 rw[←hw3.out,←hw2.out] at g0 p0 p1 p2 p3 p4 p5
 have hs1':=hs1
 replace hs1':=Lib.hid hs1'
 clear hs1 hs2
 go_wp2_with fail
 rw[hw2.out,hw3.out,hs1'.out]
 have hx4:Ext w3 (w3.alloc (.cells #[.int .i64 2,.string ⟨#[]⟩,.int .i64 0,.slice As1 0 cs1,.slice Ai1 0 ci1,.slice Af1 0 cf1] 47)):=(Ext.refl w3).alloc _
 generalize hw4:(w3.alloc (.cells #[.int .i64 2,.string ⟨#[]⟩,.int .i64 0,.slice As1 0 cs1,.slice Ai1 0 ci1,.slice Af1 0 cf1] 47))=w4 at hx4
 have hg4:Blk w4 g #[.slice (some ⟨b1,o1,none⟩) 1 d1,.slice (some ⟨b,off,none⟩) 4 c,.int .i64 1999] 58:=hg3.ext hx4
 have hby:=bytes_any (k:=4) hg4 hc4 hc (Nat.le_refl _)
 have hcut0:cutA (some ⟨b,off,none⟩) c 0=some ⟨b,off,none⟩:=by
  unfold cutA
  rw[if_neg (by omega)]
  simp[Addr.add]
 rw[hcut0] at hby
 have hch4:Chg (fun i=>i=g) w w4:=hch3.trans (Chg.ofExt (S:=fun i=>i=g) hx4) (fun _ _ e=>e)
 clear hw4 g0 p0 p1 p2 p3 p4 p5 hcut0
 refine hby.mono ?_
 rintro e w5 ⟨rfl,hg5,hch5⟩
 have hch05:Chg (fun i=>i=g) w w5:=hch4.trans hch5 (fun _ _ e=>e)
 have hsg:=signedI_any hc4 hc (hch05.cell h0 (by show ¬b=g;omega)) (hch05.cell h1 (by show ¬b=g;omega)) (hch05.cell h2 (by show ¬b=g;omega)) (hch05.cell h3 (by show ¬b=g;omega))
 have hbR5:=hch5.blk (hbR3.ext hx4) (by omega)
 have hbT5:=hch5.blk (hbT3.ext hx4) (by omega)
 have t0:w5.cell? ⟨q+1,0,none⟩=some (.int .i64 0):=hbT5.cell 0
 have tf0:=hbT5.frozen 0
 have hbT6:Blk (w5.setCell ⟨q+1,0,none⟩ (.int .i64 (-3))) (q+1) #[.int .i64 (-3),.string ⟨#[]⟩,.slice none 0 0,.slice none 0 0] 28:=hbT5.set 0 (.int .i64 (-3))
 have t00:(w5.setCell ⟨q+1,0,none⟩ (.int .i64 (-3))).cell? ⟨q+1,0,none⟩=some (.int .i64 (-3)):=hbT6.cell 0
 have t01:(w5.setCell ⟨q+1,0,none⟩ (.int .i64 (-3))).cell? ⟨q+1,1,none⟩=some (.string ⟨#[]⟩):=hbT6.cell 1
 have t02:(w5.setCell ⟨q+1,0,none⟩ (.int .i64 (-3))).cell? ⟨q+1,2,none⟩=some (.slice none 0 0):=hbT6.cell 2
 have t03:(w5.setCell ⟨q+1,0,none⟩ (.int .i64 (-3))).cell? ⟨q+1,3,none⟩=some (.slice none 0 0):=hbT6.cell 3
 have hbR6:Blk (w5.setCell ⟨q+1,0,none⟩ (.int .i64 (-3))) q #[.int .i64 0,.string ⟨#[]⟩,.slice none 0 0,.slice none 0 0] 28:=hbR5.far (p:=⟨q+1,0,none⟩) (by show ¬q=q+1;omega) (.int .i64 (-3))
 have r0:(w5.setCell ⟨q+1,0,none⟩ (.int .i64 (-3))).cell? ⟨q,0,none⟩=some (.int .i64 0):=hbR6.cell 0
 have rf0:=hbR6.frozen 0
 have hbR7:Blk ((w5.setCell ⟨q+1,0,none⟩ (.int .i64 (-3))).setCell ⟨q,0,none⟩ (.int .i64 (-3))) q #[.int .i64 (-3),.string ⟨#[]⟩,.slice none 0 0,.slice none 0 0] 28:=hbR6.set 0 (.int .i64 (-3))
 have r1:((w5.setCell ⟨q+1,0,none⟩ (.int .i64 (-3))).setCell ⟨q,0,none⟩ (.int .i64 (-3))).cell? ⟨q,1,none⟩=some (.string ⟨#[]⟩):=hbR7.cell 1
 have rf1:=hbR7.frozen 1
 have hbR8:Blk (((w5.setCell ⟨q+1,0,none⟩ (.int .i64 (-3))).setCell ⟨q,0,none⟩ (.int .i64 (-3))).setCell ⟨q,1,none⟩ (.string ⟨#[]⟩)) q #[.int .i64 (-3),.string ⟨#[]⟩,.slice none 0 0,.slice none 0 0] 28:=hbR7.set 1 (.string ⟨#[]⟩)
 have r2:(((w5.setCell ⟨q+1,0,none⟩ (.int .i64 (-3))).setCell ⟨q,0,none⟩ (.int .i64 (-3))).setCell ⟨q,1,none⟩ (.string ⟨#[]⟩)).cell? ⟨q,2,none⟩=some (.slice none 0 0):=hbR8.cell 2
 have rf2:=hbR8.frozen 2
 have hbR9:Blk ((((w5.setCell ⟨q+1,0,none⟩ (.int .i64 (-3))).setCell ⟨q,0,none⟩ (.int .i64 (-3))).setCell ⟨q,1,none⟩ (.string ⟨#[]⟩)).setCell ⟨q,2,none⟩ (.slice none 0 0)) q #[.int .i64 (-3),.string ⟨#[]⟩,.slice none 0 0,.slice none 0 0] 28:=hbR8.set 2 (.slice none 0 0)
 have r3:((((w5.setCell ⟨q+1,0,none⟩ (.int .i64 (-3))).setCell ⟨q,0,none⟩ (.int .i64 (-3))).setCell ⟨q,1,none⟩ (.string ⟨#[]⟩)).setCell ⟨q,2,none⟩ (.slice none 0 0)).cell? ⟨q,3,none⟩=some (.slice none 0 0):=hbR9.cell 3
 have rf3:=hbR9.frozen 3
 have hbRF:Blk (((((w5.setCell ⟨q+1,0,none⟩ (.int .i64 (-3))).setCell ⟨q,0,none⟩ (.int .i64 (-3))).setCell ⟨q,1,none⟩ (.string ⟨#[]⟩)).setCell ⟨q,2,none⟩ (.slice none 0 0)).setCell ⟨q,3,none⟩ (.slice none 0 0)) q #[.int .i64 (-3),.string ⟨#[]⟩,.slice none 0 0,.slice none 0 0] 28:=hbR9.set 3 (.slice none 0 0)
 replace hbRF:=Lib.hid hbRF
 replace hg5:=Lib.hid hg5
 clear hbR6 hbR7 hbR8 hbR9 hbT6 hbT5 hbR5 hbR3 hbT3 hbR2 hbR hg2 hg3 hg4 hg1 hg k2 f2 hby hc1 hS hs1 h0 h1 h2 h3
 go_wp2_with fail
 refine hsg.mono ?_
 rintro e w6 ⟨rfl,rfl⟩
 go_wp2_with fail
 refine bodyPost_ret (resVal rfl (hbRF.out.cell 0) (hbRF.out.cell 1) (hbRF.out.cell 2) (hbRF.out.cell 3)) rfl ?_
 rw[←hPO.out]
 have hqw:w.heap.size=q:=hq.out
 have hchF:Chg (fun i=>i=g) w (((((w5.setCell ⟨q+1,0,none⟩ (.int .i64 (-3))).setCell ⟨q,0,none⟩ (.int .i64 (-3))).setCell ⟨q,1,none⟩ (.string ⟨#[]⟩)).setCell ⟨q,2,none⟩ (.slice none 0 0)).setCell ⟨q,3,none⟩ (.slice none 0 0)):=
  ((((hch05.set (p:=⟨q+1,0,none⟩) (.inr (by show w.heap.size≤q+1;omega)) _).set (p:=⟨q,0,none⟩) (.inr (by show w.heap.size≤q;omega)) _).set (p:=⟨q,1,none⟩) (.inr (by show w.heap.size≤q;omega)) _).set (p:=⟨q,2,none⟩) (.inr (by show w.heap.size≤q;omega)) _).set (p:=⟨q,3,none⟩) (.inr (by show w.heap.size≤q;omega)) _
 have hgF:=((((hg5.out.far (p:=⟨q+1,0,none⟩) (by show ¬g=q+1;omega) (.int .i64 (-3))).far (p:=⟨q,0,none⟩) (by show ¬g=q;omega) (.int .i64 (-3))).far (p:=⟨q,1,none⟩) (by show ¬g=q;omega) (.string ⟨#[]⟩)).far (p:=⟨q,2,none⟩) (by show ¬g=q;omega) (.slice none 0 0)).far (p:=⟨q,3,none⟩) (by show ¬g=q;omega) (.slice none 0 0)
 exact⟨rfl,⟨_,_,hgF⟩,hchF⟩
theorem catchD_idle (a2 a3:Nat) (w:World) :
  CallsD Tryz.prog 29 #[.pointer (some ⟨a2,0,none⟩),.pointer (some ⟨a3,0,none⟩)] .returning w fun e u' w'=>e=.returned (.tuple #[])∧u'=.returning∧w=w':=by
 refine callsD_of_wpS Tryz.func29 rfl fun c₀ cs hu=>?_
 simp only[Tryz.ntmps29,List.size_toArray,List.length_cons,List.length_nil,Nat.reduceAdd,Nat.reduceSub,Array.replicate_succ,Array.replicate_zero,List.push_toArray,List.append_toArray,List.nil_append,List.cons_append]
 apply wpS_seq
 apply wpS_region
 simp[wpOpsS,go_sem,recoverD,hu,Exit.thenS]
 refine wpS_of_wp ?_
 go_wp2_with fail
 refine⟨rfl,.returning,?_,_,results_none rfl _ _ _,rfl,rfl,rfl⟩
 cases c₀
 simp_all
theorem resTake {w:World} {tmps:Array Value} {a c:Nat} {u0 u1 u2 u3 v:Value} (ha:tmps[4]?.getD undef=.pointer (some ⟨a,0,none⟩)) (hb:tmps[5]?.getD undef=.pointer (some ⟨c,0,none⟩)) (h0:w.cell? ⟨a,0,none⟩=some u0) (h1:w.cell? ⟨a,1,none⟩=some u1) (h2:w.cell? ⟨a,2,none⟩=some u2) (h3:w.cell? ⟨a,3,none⟩=some u3) (h4:w.cell? ⟨c,0,none⟩=some v) :
  (results Tryz.f15 tmps).run Tryz.prog w=.ok (.tuple #[.agg #[u0,u1,u2,u3],v]) w:=by
 simp[results,Tryz.f15,go_sem,ha,hb,h0,h1,h2,h3,h4]
theorem TakeI_any {b off c:Nat} {w:World} {v:Value} (hS:Sch w.heap.size w v [neI]) (hwd:Wd w) (hpow:Pow w) (hc4:4≤c) (hc:c≤maxLen)
  (h0:w.cell? ⟨b,off,none⟩=some (.int .u8 255)) (h1:w.cell? ⟨b,off+1,none⟩=some (.int .u8 255)) (h2:w.cell? ⟨b,off+2,none⟩=some (.int .u8 255)) (h3:w.cell? ⟨b,off+3,none⟩=some (.int .u8 253)) :
  Calls Tryz.prog 15 #[.agg #[v],.slice (some ⟨b,off,none⟩) 4 c] w fun e w'=>e=.returned (.tuple #[dV daI (.slice none 0 0,.slice none 0 0),.int .i64 0])∧Ext w w':=by
 have hmf:∀(fn:Fn) (first cap:Array Value) (w:World),(Instr.makeFunc fn first cap).run Tryz.prog w=.ok (.func fn first cap) w:=fun _ _ _ _=>rfl
 obtain⟨PO,hPO⟩:∃PO:Ending→World→Prop,Hid ((fun (e:Ending) (w':World)=>e=.returned (.tuple #[dV daI (.slice none 0 0,.slice none 0 0),.int .i64 0])∧Ext w w')=PO):=⟨_,Lib.hid rfl⟩
 rw[hPO.out]
 have hbl:b<w.heap.size:=World.block_lt_of_cell? w ⟨b,off,none⟩ h0
 obtain⟨A1,c1,rfl⟩:=Sch.slice hS
 have hS:Sch w.heap.size w (.slice A1 1 c1) [neI]:=hS
 show Calls Tryz.prog 15 #[.agg #[.slice A1 1 c1],.slice (some ⟨b,off,none⟩) 4 c] w PO
 obtain⟨q,hq⟩:∃z,Hid (w.heap.size=z):=⟨_,rfl⟩
 obtain⟨w1,hw1⟩:∃z,Hid (((w.alloc (.cells #[.slice A1 1 c1] 24)).alloc (.cells #[.int .i64 0,.string ⟨#[]⟩,.slice none 0 0,.slice none 0 0] 28)).alloc (.cells #[.int .i64 0] 33)=z):=⟨_,rfl⟩
 have hx1:Ext w w1:=by rw[←hw1.out];exact (((Ext.refl w).alloc _).alloc _).alloc _
 have hs1:w1.heap.size=q+3:=by rw[←hw1.out,←hq.out];simp
 have hbA:Blk w1 q #[.slice A1 1 c1] 24:=by rw[←hw1.out,←hq.out];exact ((Blk.new w _ _).alloc _).alloc _
 have hbD:Blk w1 (q+1) #[.int .i64 0,.string ⟨#[]⟩,.slice none 0 0,.slice none 0 0] 28:=by
  rw[←hw1.out,←hq.out]
  have:=(Blk.new (w.alloc (.cells #[.slice A1 1 c1] 24)) #[.int .i64 0,.string ⟨#[]⟩,.slice none 0 0,.slice none 0 0] 28).alloc (.cells #[.int .i64 0] 33)
  simpa using this
 have hbE:Blk w1 (q+1+1) #[.int .i64 0] 33:=by
  rw[←hw1.out,←hq.out]
  have:=Blk.new ((w.alloc (.cells #[.slice A1 1 c1] 24)).alloc (.cells #[.int .i64 0,.string ⟨#[]⟩,.slice none 0 0,.slice none 0 0] 28)) #[.int .i64 0] 33
  simpa using this
 have hso:=sound_any (.slice A1 1 c1) [neI] w1 ((hS.below hx1).mono hx1.size) (hwd.ext hx1) (hpow.ext hx1) lenI
 rw[show (showP [neI]).isSome=true from by rw[showI];rfl] at hso
 go_enter_defers Tryz.func15,Tryz.ntmps15
 go_wp2_with fail
 rw[hw1.out,hq.out]
 refine hso.mono ?_
 rintro e w2 ⟨rfl,hx2⟩
 have a0:=(hbA.ext hx2).cell 0
 clear hso
 have hs2:=hx2.size
 have hvl:=fun W (hS:Sch w.heap.size W (.slice A1 1 c1) [neI]) g (hg:Blk W g #[.slice A1 1 c1,.slice (some ⟨b,off,none⟩) 4 c,.int .i64 2000] 58) (hBg:w.heap.size≤g) (hx:Ext w W)=>valueI_any hS hBg (Nat.lt_of_lt_of_le hbl hBg) hg hc4 hc (hx.cell h0) (hx.cell h1) (hx.cell h2) (hx.cell h3)
 replace hvl:=Lib.hid hvl
 go_wp2_with fail
 obtain⟨G,hG⟩:∃z,Hid (w2.heap.size=z):=⟨_,rfl⟩
 obtain⟨w3,hw3⟩:∃z,Hid (w2.alloc (.cells #[.slice A1 1 c1,.slice (some ⟨b,off,none⟩) 4 c,.int .i64 2000] 58)=z):=⟨_,rfl⟩
 have hx3:Ext w2 w3:=by rw[←hw3.out];exact (Ext.refl w2).alloc _
 have hg3:Blk w3 G #[.slice A1 1 c1,.slice (some ⟨b,off,none⟩) 4 c,.int .i64 2000] 58:=by rw[←hw3.out,←hG.out];exact Blk.new w2 _ _
 rw[hw3.out,hG.out]
 have hqG:q+3≤G:=by have:=hG.out;omega
 have hxw3:Ext w w3:=(hx1.trans hx2).trans hx3
 have hqw:w.heap.size≤G:=by have:=hq.out;omega
 refine (hvl.out w3 (hS.below hxw3) G hg3 hqw hxw3).mono ?_
 rintro e w4 ⟨rfl,⟨A',c',hg4⟩,hch4⟩
 have hbD4:Blk w4 (q+1) #[.int .i64 0,.string ⟨#[]⟩,.slice none 0 0,.slice none 0 0] 28:=hch4.blk ((hbD.ext hx2).ext hx3) (by omega)
 have hbE4:=hch4.blk ((hbE.ext hx2).ext hx3) (by omega)
 have hxw4:Ext w w4:=hxw3.chg hch4 (fun i hi e=>by omega)
 have sc0:w4.cell? ⟨q+1,0,none⟩=some (.int .i64 0):=hbD4.cell 0
 have sf0:=hbD4.frozen 0
 have sb0:Blk (w4.setCell ⟨q+1,0,none⟩ (.int .i64 (-3))) (q+1) #[.int .i64 (-3),.string ⟨#[]⟩,.slice none 0 0,.slice none 0 0] 28:=hbD4.set 0 (.int .i64 (-3))
 have sc1:(w4.setCell ⟨q+1,0,none⟩ (.int .i64 (-3))).cell? ⟨q+1,1,none⟩=some (.string ⟨#[]⟩):=sb0.cell 1
 have sf1:=sb0.frozen 1
 have sb1:Blk ((w4.setCell ⟨q+1,0,none⟩ (.int .i64 (-3))).setCell ⟨q+1,1,none⟩ (.string ⟨#[]⟩)) (q+1) #[.int .i64 (-3),.string ⟨#[]⟩,.slice none 0 0,.slice none 0 0] 28:=sb0.set 1 (.string ⟨#[]⟩)
 have sc2:((w4.setCell ⟨q+1,0,none⟩ (.int .i64 (-3))).setCell ⟨q+1,1,none⟩ (.string ⟨#[]⟩)).cell? ⟨q+1,2,none⟩=some (.slice none 0 0):=sb1.cell 2
 have sf2:=sb1.frozen 2
 have sb2:Blk (((w4.setCell ⟨q+1,0,none⟩ (.int .i64 (-3))).setCell ⟨q+1,1,none⟩ (.string ⟨#[]⟩)).setCell ⟨q+1,2,none⟩ (.slice none 0 0)) (q+1) #[.int .i64 (-3),.string ⟨#[]⟩,.slice none 0 0,.slice none 0 0] 28:=sb1.set 2 (.slice none 0 0)
 have sc3:(((w4.setCell ⟨q+1,0,none⟩ (.int .i64 (-3))).setCell ⟨q+1,1,none⟩ (.string ⟨#[]⟩)).setCell ⟨q+1,2,none⟩ (.slice none 0 0)).cell? ⟨q+1,3,none⟩=some (.slice none 0 0):=sb2.cell 3
 have sf3:=sb2.frozen 3
 have sb3:Blk ((((w4.setCell ⟨q+1,0,none⟩ (.int .i64 (-3))).setCell ⟨q+1,1,none⟩ (.string ⟨#[]⟩)).setCell ⟨q+1,2,none⟩ (.slice none 0 0)).setCell ⟨q+1,3,none⟩ (.slice none 0 0)) (q+1) #[.int .i64 (-3),.string ⟨#[]⟩,.slice none 0 0,.slice none 0 0] 28:=sb2.set 3 (.slice none 0 0)
 have gk:((((w4.setCell ⟨q+1,0,none⟩ (.int .i64 (-3))).setCell ⟨q+1,1,none⟩ (.string ⟨#[]⟩)).setCell ⟨q+1,2,none⟩ (.slice none 0 0)).setCell ⟨q+1,3,none⟩ (.slice none 0 0)).cell? ⟨G,1,none⟩=some (.slice A' 0 c'):=((((hg4.far (p:=⟨q+1,0,none⟩) (by show ¬G=q+1;omega) _).far (p:=⟨q+1,1,none⟩) (by show ¬G=q+1;omega) _).far (p:=⟨q+1,2,none⟩) (by show ¬G=q+1;omega) _).far (p:=⟨q+1,3,none⟩) (by show ¬G=q+1;omega) _).cell 1
 have hbE5:=(((hbE4.far (p:=⟨q+1,0,none⟩) (by show ¬q+1+1=q+1;omega) (.int .i64 (-3))).far (p:=⟨q+1,1,none⟩) (by show ¬q+1+1=q+1;omega) (.string ⟨#[]⟩)).far (p:=⟨q+1,2,none⟩) (by show ¬q+1+1=q+1;omega) (.slice none 0 0)).far (p:=⟨q+1,3,none⟩) (by show ¬q+1+1=q+1;omega) (.slice none 0 0)
 have hq1:w.heap.size≤q+1:=by have:=hq.out;omega
 have hx5:Ext w ((((w4.setCell ⟨q+1,0,none⟩ (.int .i64 (-3))).setCell ⟨q+1,1,none⟩ (.string ⟨#[]⟩)).setCell ⟨q+1,2,none⟩ (.slice none 0 0)).setCell ⟨q+1,3,none⟩ (.slice none 0 0)):=(((hxw4.setCell hq1 _).setCell hq1 _).setCell hq1 _).setCell hq1 _
 replace hbE5:=Lib.hid hbE5
 replace hx5:=Lib.hid hx5
 simp only[dV,show daI.n = -3 from rfl,show daI.s=⟨#[]⟩ from rfl] at hPO ⊢
 have hq2:w.heap.size≤q+1+1:=by omega
 replace hq1:=Lib.hid hq1
 replace hq2:=Lib.hid hq2
 clear hvl a0 hbE4 hg4 hg3 hbA hbD hbE hS hqw hqG hs2 hs1 hbl h0 h1 h2 h3
 go_wp2_with fail
 obtain⟨w5,hw5⟩:∃z,Hid (((((w4.setCell ⟨q+1,0,none⟩ (.int .i64 (-3))).setCell ⟨q+1,1,none⟩ (.string ⟨#[]⟩)).setCell ⟨q+1,2,none⟩ (.slice none 0 0)).setCell ⟨q+1,3,none⟩ (.slice none 0 0))=z):=⟨_,rfl⟩
 rw[hw5.out] at gk hbE5 hx5 sb3 ⊢
 clear sc0 sc1 sc2 sc3 sf0 sf1 sf2 sf3 sb0 sb1 sb2
 refine (must_ok 4 w5).mono ?_
 rintro e w6 ⟨rfl,rfl⟩
 have u0:w5.cell? ⟨q+1,0,none⟩=some (.int .i64 (-3)):=sb3.cell 0
 have u1:w5.cell? ⟨q+1,1,none⟩=some (.string ⟨#[]⟩):=sb3.cell 1
 have u2:w5.cell? ⟨q+1,2,none⟩=some (.slice none 0 0):=sb3.cell 2
 have u3:w5.cell? ⟨q+1,3,none⟩=some (.slice none 0 0):=sb3.cell 3
 have xf0:=sb3.frozen 0
 have xb0:Blk (w5.setCell ⟨q+1,0,none⟩ (.int .i64 (-3))) (q+1) #[.int .i64 (-3),.string ⟨#[]⟩,.slice none 0 0,.slice none 0 0] 28:=sb3.set 0 (.int .i64 (-3))
 have xc1:(w5.setCell ⟨q+1,0,none⟩ (.int .i64 (-3))).cell? ⟨q+1,1,none⟩=some (.string ⟨#[]⟩):=xb0.cell 1
 have xf1:=xb0.frozen 1
 have xb1:Blk ((w5.setCell ⟨q+1,0,none⟩ (.int .i64 (-3))).setCell ⟨q+1,1,none⟩ (.string ⟨#[]⟩)) (q+1) #[.int .i64 (-3),.string ⟨#[]⟩,.slice none 0 0,.slice none 0 0] 28:=xb0.set 1 (.string ⟨#[]⟩)
 have xc2:((w5.setCell ⟨q+1,0,none⟩ (.int .i64 (-3))).setCell ⟨q+1,1,none⟩ (.string ⟨#[]⟩)).cell? ⟨q+1,2,none⟩=some (.slice none 0 0):=xb1.cell 2
 have xf2:=xb1.frozen 2
 have xb2:Blk (((w5.setCell ⟨q+1,0,none⟩ (.int .i64 (-3))).setCell ⟨q+1,1,none⟩ (.string ⟨#[]⟩)).setCell ⟨q+1,2,none⟩ (.slice none 0 0)) (q+1) #[.int .i64 (-3),.string ⟨#[]⟩,.slice none 0 0,.slice none 0 0] 28:=xb1.set 2 (.slice none 0 0)
 have xc3:(((w5.setCell ⟨q+1,0,none⟩ (.int .i64 (-3))).setCell ⟨q+1,1,none⟩ (.string ⟨#[]⟩)).setCell ⟨q+1,2,none⟩ (.slice none 0 0)).cell? ⟨q+1,3,none⟩=some (.slice none 0 0):=xb2.cell 3
 have xf3:=xb2.frozen 3
 have xb3:Blk ((((w5.setCell ⟨q+1,0,none⟩ (.int .i64 (-3))).setCell ⟨q+1,1,none⟩ (.string ⟨#[]⟩)).setCell ⟨q+1,2,none⟩ (.slice none 0 0)).setCell ⟨q+1,3,none⟩ (.slice none 0 0)) (q+1) #[.int .i64 (-3),.string ⟨#[]⟩,.slice none 0 0,.slice none 0 0] 28:=xb2.set 3 (.slice none 0 0)
 have hbE6:=Lib.hid ((((hbE5.out.far (p:=⟨q+1,0,none⟩) (by show ¬q+1+1=q+1;omega) (.int .i64 (-3))).far (p:=⟨q+1,1,none⟩) (by show ¬q+1+1=q+1;omega) (.string ⟨#[]⟩)).far (p:=⟨q+1,2,none⟩) (by show ¬q+1+1=q+1;omega) (.slice none 0 0)).far (p:=⟨q+1,3,none⟩) (by show ¬q+1+1=q+1;omega) (.slice none 0 0))
 have v0:((((w5.setCell ⟨q+1,0,none⟩ (.int .i64 (-3))).setCell ⟨q+1,1,none⟩ (.string ⟨#[]⟩)).setCell ⟨q+1,2,none⟩ (.slice none 0 0)).setCell ⟨q+1,3,none⟩ (.slice none 0 0)).cell? ⟨q+1+1,0,none⟩=some (.int .i64 0):=hbE6.out.cell 0
 have vf0:=hbE6.out.frozen 0
 have hbF:=Lib.hid (xb3.far (p:=⟨q+1+1,0,none⟩) (by show ¬q+1=q+1+1;omega) (.int .i64 0))
 have hbG:=Lib.hid (hbE6.out.set 0 (.int .i64 0))
 have hxF:=Lib.hid (((((hx5.out.setCell (p:=⟨q+1,0,none⟩) hq1.out (.int .i64 (-3))).setCell (p:=⟨q+1,1,none⟩) hq1.out (.string ⟨#[]⟩)).setCell (p:=⟨q+1,2,none⟩) hq1.out (.slice none 0 0)).setCell (p:=⟨q+1,3,none⟩) hq1.out (.slice none 0 0)).setCell (p:=⟨q+1+1,0,none⟩) hq2.out (.int .i64 0))
 clear hbE5 hx5 hbD4 gk
 go_wp2_with fail
 refine leaves_cons (f:=29) (args := #[.pointer (some ⟨q+1,0,none⟩),.pointer (some ⟨q+1+1,0,none⟩)]) (by simp) (by simp[go_sem]) ?_
 refine (catchD_idle (q+1) (q+1+1) _).mono ?_
 rintro e u' w8 ⟨rfl,rfl,rfl⟩
 refine⟨_,resTake rfl rfl (hbF.out.cell 0) (hbF.out.cell 1) (hbF.out.cell 2) (hbF.out.cell 3) (hbG.out.cell 0),?_⟩
 rw[←hPO.out]
 exact⟨rfl,hxF.out⟩
theorem big_live:bigP (-3) 4=[255,255,255,253]:=by decide
theorem lives9_any (w:World) (hwd:Wd w) (hpow:Pow w):Calls Tryz.prog 9 #[] w fun e w'=>e=.returned (.bool true)∧Ext w w':=by
 obtain⟨q,hq⟩:∃z,Hid (w.heap.size=z):=⟨_,rfl⟩
 obtain⟨w1,hw1⟩:∃z,Hid ((w.alloc (.cells #[.int .i64 2,.string ⟨#[]⟩,.int .i64 0,.slice none 0 0,.slice none 0 0,.slice none 0 0] 47)).alloc (.cells #[.slice (some ⟨q,0,none⟩) 1 1] 24)=z):=⟨_,rfl⟩
 have hx1:Ext w w1:=by rw[←hw1.out];exact ((Ext.refl w).alloc _).alloc _
 have hbN:Blk w1 q #[.int .i64 2,.string ⟨#[]⟩,.int .i64 0,.slice none 0 0,.slice none 0 0,.slice none 0 0] 47:=by rw[←hw1.out,←hq.out];exact (Blk.new w _ _).alloc _
 have hbS:Blk w1 (q+1) #[.slice (some ⟨q,0,none⟩) 1 1] 24:=by
  rw[←hw1.out,←hq.out]
  have:=Blk.new (w.alloc (.cells #[.int .i64 2,.string ⟨#[]⟩,.int .i64 0,.slice none 0 0,.slice none 0 0,.slice none 0 0] 47)) #[.slice (some ⟨w.heap.size,0,none⟩) 1 1] 24
  simpa using this
 have hput:=PutI_any (schI hbN) (hwd.ext hx1) (hpow.ext hx1)
 simp only[dV,show daI.n = -3 from rfl,show daI.s=⟨#[]⟩ from rfl] at hput
 go_enter Tryz.func9,Tryz.ntmps9
 go_wp2_with fail
 rw[hq.out,hw1.out]
 refine hput.mono ?_
 rintro e w2 ⟨v',rfl,ho,hx2⟩
 rw[big_live] at ho
 obtain⟨A,c,rfl,jj1,jj2,hr,jj4⟩:=Rd.of_own ho
 have s0:=(hbS.ext hx2).cell 0
 obtain⟨b,off,rfl,hcc⟩:=hr (by simp[u8s])
 have h0:w2.cell? ⟨b,off,none⟩=some (.int .u8 255):=hcc 0 _ rfl
 have h1:w2.cell? ⟨b,off+1,none⟩=some (.int .u8 255):=hcc 1 _ rfl
 have h2:w2.cell? ⟨b,off+2,none⟩=some (.int .u8 255):=hcc 2 _ rfl
 have h3:w2.cell? ⟨b,off+3,none⟩=some (.int .u8 253):=hcc 3 _ rfl
 have htk:=TakeI_any (schI (hbN.ext hx2)) (hwd.ext (hx1.trans hx2)) (hpow.ext (hx1.trans hx2)) jj1 jj2 h0 h1 h2 h3
 simp only[dV,show daI.n = -3 from rfl,show daI.s=⟨#[]⟩ from rfl] at htk
 have hcv:=fun W (hW:Ext w2 W)=>conv_rd (P:=Tryz.prog) Tryz.underlying32 Tryz.underlying5 Tryz.underlying9 (w:=W) (A:=some ⟨b,off,none⟩) (l:=[255,255,255,253]) (n:=4) c rfl ((show Rb w2 (some ⟨b,off,none⟩) [255,255,255,253] from hr).ext hW)
 replace hcv:=Lib.hid hcv
 clear hput hcc h0 h1 h2 h3 hr jj1 jj2 jj4 ho
 go_wp2_with fail
 refine htk.mono ?_
 rintro e w3 ⟨rfl,hx3⟩
 have hcv3:(convert 32 9 (.slice (some ⟨b,off,none⟩) 4 c)).run Tryz.prog (w3.alloc (.cells #[.int .i64 (-3),.string ⟨#[]⟩,.slice none 0 0,.slice none 0 0] 28))=.ok (.string ⟨#[255,255,255,253]⟩) (w3.alloc (.cells #[.int .i64 (-3),.string ⟨#[]⟩,.slice none 0 0,.slice none 0 0] 28)):=hcv.out _ (hx3.alloc _)
 clear htk s0
 go_wp2_with fail
 go_ret
 exact⟨rfl,((hx1.trans hx2).trans hx3).alloc _⟩
theorem Small9_any (d:Da) {lo B:Nat} {w:World} {v:V2} (h:DaR lo B w d v) (hB:B≤w.heap.size) :
  Calls Tryz.prog 8 #[dV d v] w fun e w'=>e=.returned (.bool (decide (0≤cntD d (-300) 3000)))∧Ext w w':=by
 obtain⟨w1,hw1⟩:∃z,Hid (w.alloc (.cells #[.int .i64 d.n,.string d.s,v.1,v.2] 28)=z):=⟨_,rfl⟩
 have hx1:Ext w w1:=by rw[←hw1.out];exact (Ext.refl w).alloc _
 have hc:=count_any d (-300) 3000 (h.ext hx1 hB) (Nat.le_trans hB hx1.size) (by omega) (by omega) (by omega) (by omega)
 obtain⟨r,hr⟩:∃z,Hid (cntD d (-300) 3000=z):=⟨_,Lib.hid rfl⟩
 rw[hr.out] at hc ⊢
 obtain⟨Ak,ck,A1,c1,rfl,jj1,jj2,jj3,jj4,jj5,jj6,hm1,jj7⟩:=h.parts
 clear jj1 jj2 jj3 jj4 jj5 jj7 jj6 hm1 h
 simp only[dV] at hc ⊢
 go_enter Tryz.func8,Tryz.ntmps8
 go_wp2_with fail
 rw[hw1.out]
 refine hc.mono ?_
 rintro e w2 ⟨rfl,hx2⟩
 go_wp2_with fail
 go_ret
 exact⟨rfl,hx1.trans hx2⟩
theorem small_parts {d:Da} (h:0≤cntD d (-300) 3000):d.parts≤3000:=by
 rw[cnt_is] at h
 split at h
 ·omega
 ·omega
set_option maxHeartbeats 2000000 in
theorem sameLaw_any (x0 x1:Da) (u0 u1:V2) (w:World) (hS0:DaR 0 w.heap.size w x0 u0) (hS1:DaR 0 w.heap.size w x1 u1) (hK0:x0.KL 8796093022208) (hwd:Wd w) (hpow:Pow w) :
  Calls Tryz.prog 5 #[dV x0 u0,dV x1 u1] w fun e w'=>e=.returned (.bool true)∧Ext w w':=by
 have hsm0:=fun W (hW:Ext w W)=>Small9_any x0 (hS0.ext hW (Nat.le_refl _)) hW.size
 have hsm1:=fun W (hW:Ext w W)=>Small9_any x1 (hS1.ext hW (Nat.le_refl _)) hW.size
 have hlv:=fun W (hW:Ext w W)=>lives9_any W (hwd.ext hW) (hpow.ext hW)
 have hsp:=fun W (hW:Ext w W)=>Same_any x0 x1 (hS0.ext hW (Nat.le_refl _)) (hS1.ext hW (Nat.le_refl _)) hW.size hW.size
 have hsr:=fun W (hW:Ext w W)=>rsameD_any x0 x1 (hS0.ext hW (Nat.le_refl _)) (hS1.ext hW (Nat.le_refl _)) hW.size hW.size
 have how:=fun (hp:x0.parts≤1000000) W (hW:Ext w W)=>ownD_any x0 (hS0.ext hW (Nat.le_refl _)) hW.size hK0 hp
 have hso:=fun W (hW:Ext w W) (v':V2) (h:DaR 0 W.heap.size W x0 v')=>Same_any x0 x0 (hS0.ext hW (Nat.le_refl _)) h hW.size (Nat.le_refl _)
 rw[eqD_true (rfl:x0=x0)] at hso
 obtain⟨r,hr⟩:∃z,Hid (eqD x0 x1=z):=⟨_,Lib.hid rfl⟩
 rw[hr.out] at hsp hsr
 obtain⟨Ak,ck,A1,c1,rfl,jj1,jj2,jj3,jj4,jj5,jj6,hm1,jj7⟩:=hS0.parts
 clear jj1 jj2 jj3 jj4 jj5 jj7 jj6 hm1
 obtain⟨Bk,dk,B1,d1,rfl,jj1,jj2,jj3,jj4,jj5,jj6,hm1,jj7⟩:=hS1.parts
 clear jj1 jj2 jj3 jj4 jj5 jj7 jj6 hm1
 simp only[dV] at hsm0 hsm1 hsp hsr how hso ⊢
 have hpr:0≤cntD x0 (-300) 3000→x0.parts≤1000000:=fun h=>Nat.le_trans (small_parts h) (by omega)
 obtain⟨s0,hs0⟩:∃z:Bool,Hid (decide (0≤cntD x0 (-300) 3000)=z):=⟨_,Lib.hid rfl⟩
 obtain⟨s1,hs1⟩:∃z:Bool,Hid (decide (0≤cntD x1 (-300) 3000)=z):=⟨_,Lib.hid rfl⟩
 rw[hs0.out] at hsm0
 rw[hs1.out] at hsm1
 obtain⟨nk,hnk⟩:∃z,Hid (x0.ks.length=z):=⟨_,Lib.hid rfl⟩
 obtain⟨nl,hnl⟩:∃z,Hid (x0.l.length=z):=⟨_,Lib.hid rfl⟩
 obtain⟨mk,hmk⟩:∃z,Hid (x1.ks.length=z):=⟨_,Lib.hid rfl⟩
 obtain⟨ml,hml⟩:∃z,Hid (x1.l.length=z):=⟨_,Lib.hid rfl⟩
 rw[hnk.out,hnl.out] at hsm0 hsp hsr how hso
 rw[hmk.out,hml.out] at hsm1 hsp hsr
 rw[hnk.out,hnl.out,hmk.out,hml.out]
 obtain⟨q,hq⟩:∃z,Hid (w.heap.size=z):=⟨_,rfl⟩
 obtain⟨w1,hw1⟩:∃z,Hid ((w.alloc (.cells #[.int .i64 x0.n,.string x0.s,.slice Ak nk ck,.slice A1 nl c1] 28)).alloc (.cells #[.int .i64 x1.n,.string x1.s,.slice Bk mk dk,.slice B1 ml d1] 28)=z):=⟨_,rfl⟩
 have hx1:Ext w w1:=by rw[←hw1.out];exact ((Ext.refl w).alloc _).alloc _
 have hbA:Blk w1 q #[.int .i64 x0.n,.string x0.s,.slice Ak nk ck,.slice A1 nl c1] 28:=by rw[←hw1.out,←hq.out];exact (Blk.new w _ _).alloc _
 have hbB:Blk w1 (q+1) #[.int .i64 x1.n,.string x1.s,.slice Bk mk dk,.slice B1 ml d1] 28:=by
  rw[←hw1.out,←hq.out]
  have:=Blk.new (w.alloc (.cells #[.int .i64 x0.n,.string x0.s,.slice Ak nk ck,.slice A1 nl c1] 28)) #[.int .i64 x1.n,.string x1.s,.slice Bk mk dk,.slice B1 ml d1] 28
  simpa using this
 have h1:=hsm0 w1 hx1
 replace hsm1:=Lib.hid hsm1
 replace hlv:=Lib.hid hlv
 replace hsp:=Lib.hid hsp
 replace hsr:=Lib.hid hsr
 replace how:=Lib.hid how
 replace hso:=Lib.hid hso
 replace hpr:=Lib.hid hpr
 clear hsm0
 go_enter Tryz.func5,Tryz.ntmps5
 go_wp2_with fail
 rw[hw1.out,hq.out]
 refine h1.mono ?_
 rintro e w2 ⟨rfl,hx2⟩
 clear h1
 cases s0 with
 | false=>
  have h2:=hlv.out w2 (hx1.trans hx2)
  go_wp2_with fail
  refine h2.mono ?_
  rintro e w3 ⟨rfl,hx3⟩
  go_wp2_with fail
  go_ret
  exact⟨rfl,(hx1.trans hx2).trans hx3⟩
 | true=>
  have hp:=hpr.out (of_decide_eq_true hs0.out)
  have hB2:=hbB.ext hx2
  have b0:=hB2.cell 0
  have b1:=hB2.cell 1
  have b2:=hB2.cell 2
  have b3:=hB2.cell 3
  have h2:=hsm1.out w2 (hx1.trans hx2)
  replace hp:=Lib.hid hp
  go_wp2_with fail
  refine h2.mono ?_
  rintro e w3 ⟨rfl,hx3⟩
  have hxw3:=(hx1.trans hx2).trans hx3
  clear h2 b0 b1 b2 b3
  cases s1 with
  | false=>
   have h3:=hlv.out w3 hxw3
   go_wp2_with fail
   refine h3.mono ?_
   rintro e w4 ⟨rfl,hx4⟩
   go_wp2_with fail
   go_ret
   exact⟨rfl,hxw3.trans hx4⟩
  | true=>
   have hA3:=(hbA.ext hx2).ext hx3
   have hB3:=(hbB.ext hx2).ext hx3
   have a0:∀W,Ext w3 W→W.cell? ⟨q,0,none⟩=some (.int .i64 x0.n):=fun W hW=>(hA3.ext hW).cell 0
   have a1:∀W,Ext w3 W→W.cell? ⟨q,1,none⟩=some (.string x0.s):=fun W hW=>(hA3.ext hW).cell 1
   have a2:∀W,Ext w3 W→W.cell? ⟨q,2,none⟩=some (.slice Ak nk ck):=fun W hW=>(hA3.ext hW).cell 2
   have a3:∀W,Ext w3 W→W.cell? ⟨q,3,none⟩=some (.slice A1 nl c1):=fun W hW=>(hA3.ext hW).cell 3
   have b0:∀W,Ext w3 W→W.cell? ⟨q+1,0,none⟩=some (.int .i64 x1.n):=fun W hW=>(hB3.ext hW).cell 0
   have b1:∀W,Ext w3 W→W.cell? ⟨q+1,1,none⟩=some (.string x1.s):=fun W hW=>(hB3.ext hW).cell 1
   have b2:∀W,Ext w3 W→W.cell? ⟨q+1,2,none⟩=some (.slice Bk mk dk):=fun W hW=>(hB3.ext hW).cell 2
   have b3:∀W,Ext w3 W→W.cell? ⟨q+1,3,none⟩=some (.slice B1 ml d1):=fun W hW=>(hB3.ext hW).cell 3
   clear hA3 hB3 hbA hbB
   go_wp2_with fail
   refine Reg.startE (by kernel_rfl) ?_
   refine Reg.tk 0 ?_;(try simp only[Reg.nn])
   refine Reg.tk 1 ?_;(try simp only[Reg.nn])
   refine Reg.tk 3 ?_;(try simp only[Reg.nn])
   refine Reg.tk 4 ?_;(try simp only[Reg.nn])
   refine Reg.onlyE 2 _ rfl (by kernel_rfl) (by decide) (by rfl) (fun W hW K hK=>?_);go_simp
   refine (hsp.out _ (hxw3.trans (by repeat (first|assumption|exact Ext.refl _|refine Ext.trans (by assumption) ?_|apply Ext.drew|apply Ext.drewN|apply Ext.alloc)))).mono ?_
   rintro e wX ⟨rfl,hX⟩
   have hxX:Ext w3 wX:=(by repeat (first|assumption|exact Ext.refl _|refine Ext.trans (by assumption) ?_|apply Ext.drew|apply Ext.drewN|apply Ext.alloc))
   replace a0:=fun W (hW:Ext wX W)=>a0 W (hxX.trans hW)
   replace a1:=fun W (hW:Ext wX W)=>a1 W (hxX.trans hW)
   replace a2:=fun W (hW:Ext wX W)=>a2 W (hxX.trans hW)
   replace a3:=fun W (hW:Ext wX W)=>a3 W (hxX.trans hW)
   replace b0:=fun W (hW:Ext wX W)=>b0 W (hxX.trans hW)
   replace b1:=fun W (hW:Ext wX W)=>b1 W (hxX.trans hW)
   replace b2:=fun W (hW:Ext wX W)=>b2 W (hxX.trans hW)
   replace b3:=fun W (hW:Ext wX W)=>b3 W (hxX.trans hW)
   refine hK.out _ _ (hX) ?_;clear hK K;(try simp only[Reg.nn])
   refine Reg.onlyE 5 _ rfl (by kernel_rfl) (by decide) (by rfl) (fun W hW K hK=>?_);go_simp
   refine (hsr.out _ (hxw3.trans (by repeat (first|assumption|exact Ext.refl _|refine Ext.trans (by assumption) ?_|apply Ext.drew|apply Ext.drewN|apply Ext.alloc)))).mono ?_
   rintro e wX2 ⟨rfl,hX2⟩
   have hxX2:Ext wX wX2:=(by repeat (first|assumption|exact Ext.refl _|refine Ext.trans (by assumption) ?_|apply Ext.drew|apply Ext.drewN|apply Ext.alloc))
   replace a0:=fun W (hW:Ext wX2 W)=>a0 W (hxX2.trans hW)
   replace a1:=fun W (hW:Ext wX2 W)=>a1 W (hxX2.trans hW)
   replace a2:=fun W (hW:Ext wX2 W)=>a2 W (hxX2.trans hW)
   replace a3:=fun W (hW:Ext wX2 W)=>a3 W (hxX2.trans hW)
   clear b0 b1 b2 b3
   refine hK.out _ _ (hX2) ?_;clear hK K;(try simp only[Reg.nn])
   refine Reg.tk 6 ?_;(try simp only[Reg.nn])
   refine Reg.tk 7 ?_;(try simp only[Reg.nn])
   refine Reg.tk 8 ?_;(try simp only[Reg.nn])
   refine Reg.tk 9 ?_;(try simp only[Reg.nn])
   refine Reg.onlyE 10 _ rfl (by kernel_rfl) (by decide) (by rfl) (fun W hW K hK=>?_);go_simp
   refine (how.out hp.out _ (hxw3.trans (by repeat (first|assumption|exact Ext.refl _|refine Ext.trans (by assumption) ?_|apply Ext.drew|apply Ext.drewN|apply Ext.alloc)))).mono ?_
   rintro e wX3 ⟨⟨vk,vl⟩,rfl,hDO,hX3⟩
   refine hK.out _ _ (hX3) ?_;clear hK K;(try simp only[Reg.nn])
   refine Reg.onlyE 11 _ rfl (by kernel_rfl) (by decide) (by rfl) (fun W hW K hK=>?_);go_simp
   have hxo:Ext wX3 W:=by assumption
   refine (hso.out W (hxw3.trans (by repeat (first|assumption|exact Ext.refl _|refine Ext.trans (by assumption) ?_|apply Ext.drew|apply Ext.drewN|apply Ext.alloc))) (vk,vl) ((hDO.ext hxo (Nat.le_refl _)).wide (Nat.zero_le _) hxo.size)).mono ?_
   rintro e wX4 ⟨rfl,hX4⟩
   refine hK.out _ _ (hX4) ?_;clear hK K;(try simp only[Reg.nn])
   refine Reg.tk 12 ?_;(try simp only[Reg.nn])
   refine Reg.tk 13 ?_;(try simp only[Reg.nn])
   refine Reg.onlyE 14 _ rfl (by kernel_rfl) (by decide) (by rfl) (fun W hW K hK=>?_);go_simp
   refine (hlv.out _ (hxw3.trans (by repeat (first|assumption|exact Ext.refl _|refine Ext.trans (by assumption) ?_|apply Ext.drew|apply Ext.drewN|apply Ext.alloc)))).mono ?_
   rintro e wX5 ⟨rfl,hX5⟩
   refine hK.out _ _ (hX5) ?_;clear hK K;(try simp only[Reg.nn])
   refine Reg.tk 15 ?_;(try simp only[Reg.nn])
   refine Reg.tk 16 ?_;(try simp only[Reg.nn])
   refine Reg.fin (by kernel_rfl) (fun W hW=>?_)
   go_wp2_with fail
   go_ret
   exact⟨rfl,hxw3.trans (by repeat (first|assumption|exact Ext.refl _|refine Ext.trans (by assumption) ?_|apply Ext.drew|apply Ext.drewN|apply Ext.alloc))⟩
end Dm
namespace datumSame
open Go.ChangeMaps (open_string shut_string)
open Base Args
theorem own:ownKnob Tryz.prog.godebug=none:=by kernel_rfl
theorem laidOut:laidOutB Tryz.prog=true:=by kernel_rfl
theorem laid_met (os:Os):laidMet Tryz.prog Rows.datumSameRow.laid ((Pr.laidWorld os).forCall (fun _ _=>0) ⟨#[],#[.agg #[.int .i64 0,.string ByteArray.empty,.slice none 0 0,.slice none 0 0],.agg #[.int .i64 0,.string ByteArray.empty,.slice none 0 0,.slice none 0 0]],[]⟩).memory:=
 laidMet_of_run' 8 (by kernel_rfl) (by kernel_rfl)
theorem reads (os:Os) {H:Type} (enc:TypeId×Value→H):∃places,DataW.whole enc Tryz.prog ((Pr.laidWorld os).forCall (fun _ _=>0) ⟨#[],#[.agg #[.int .i64 0,.string ByteArray.empty,.slice none 0 0,.slice none 0 0],.agg #[.int .i64 0,.string ByteArray.empty,.slice none 0 0,.slice none 0 0]],[]⟩).memory Tryz.f5.params.toList Rows.datumSameSpec.vars false (#[.agg #[.int .i64 0,.string ByteArray.empty,.slice none 0 0,.slice none 0 0],.agg #[.int .i64 0,.string ByteArray.empty,.slice none 0 0,.slice none 0 0]]:Array Value).toList 8=some ([.agg [.lit (.int .i64 0),.lit (.string []),.nil,.nil],.agg [.lit (.int .i64 0),.lit (.string []),.nil,.nil]],[],places):=
 ⟨[],by kernel_rfl⟩
theorem lifted (os:Os) (started:os.Started) (H:Type) (enc:TypeId×Value→H) (F:Stop.Interp) :
  ReturnsInHanded {} Tryz.checked os 5 .any ((OpenSpec.ofChange Rows.datumSameSpec).preRow enc Tryz.prog Tryz.f5 Rows.datumSameRow.domain false Rows.datumSameRow.laid) (((OpenSpec.ofChange Rows.datumSameSpec).at F).post enc Tryz.prog Tryz.f5 false true false false):=by
 obtain⟨places,hx⟩:=reads os enc
 refine returnsInHanded_of_row (C:=Tryz.checked) (s:=(OpenSpec.ofChange Rows.datumSameSpec)) own started (by kernel_rfl) Tryz.func5
  (witness_row_at (enc:=enc) (C:=Tryz.checked) false (Pr.laidWorld os) #[.agg #[.int .i64 0,.string ByteArray.empty,.slice none 0 0,.slice none 0 0],.agg #[.int .i64 0,.string ByteArray.empty,.slice none 0 0,.slice none 0 0]] rfl (by kernel_rfl) (by kernel_rfl) (by kernel_rfl)
   (OpenSpec.preRow_of_cond 8 hx (by kernel_rfl) (fun k hk=>by cases hk) (by kernel_rfl) (laid_met os))) ?_
 intro W base args ds gs before hval0 hW hcnd hk0 hsz0 hL _ _
 have hval:∀(j:Nat) t v,Tryz.f5.params[j]?=some t→args[j]?=some v→Value.okWide Tryz.prog W .any base t v:=hval0
 have hW':=hW
 obtain⟨p,q,hAz,hV,rfl,hfz,hnd⟩:=hW
 have hA:DataW.TrodAll enc Tryz.prog W 0 (fun _=>true) true Tryz.f5.params.toList args.toList ds p:=hAz
 have hsz:(DataW.weightsEach Tryz.prog (Tryz.f5.params.toList++Rows.datumSameSpec.plain.varTypes Tryz.prog) (ds++gs)).all (· ≤ reachBytes)=true:=hsz0
 rw[Tryz.params5] at hA hval hsz
 obtain⟨v0,vs0,d0,ds0,p0,q0,hargs,rfl,rfl,h0,r0⟩:=trodAll_cons hA
 obtain⟨v1,vs1,d1,ds1,p1,q1,rfl,rfl,rfl,h1,r1⟩:=trodAll_cons r0
 obtain⟨rfl,rfl,rfl⟩:=trodAll_nil r1
 obtain rfl:args = #[v0,v1]:=by cases args;simp_all
 obtain⟨rfl,rfl⟩:=trodVars_none hV
 have k0:=h0
 have lt0:∀x∈p0,x.block<W.heap.size:=by obtain⟨m,hm⟩:=k0;exact DataW.trod_lt m _ _ _ hm
 obtain⟨x0,u0,rfl,hS0,hK0⟩:=dat_arg (hval 0 28 v0 rfl rfl) h0
 have hz0:x0.KL 8796093022208:=dat_reach hsz (j:=0) rfl rfl hK0
 have k1:=h1
 have lt1:∀x∈p1,x.block<W.heap.size:=by obtain⟨m,hm⟩:=k1;exact DataW.trod_lt m _ _ _ hm
 obtain⟨x1,u1,rfl,hS1,hK1⟩:=dat_arg (hval 1 28 v1 rfl rfl) h1
 have hz1:x1.KL 8796093022208:=dat_reach hsz (j:=1) rfl rfl hK1
 clear hAz hval0
 refine (Dm.sameLaw_any x0 x1 u0 u1 W hS0 hS1 hz0 (Pr.tabs hL).1 (Pr.tabs hL).2).mono fun e W' ⟨he,bel⟩=>?_
 have bel:Below W.heap.size W W':=bel
 subst he
 exact⟨_,rfl,_,_,_,[],_,[],hW',trodAll_mk1 (shut_bool Tryz.underlying4 _),(trodAll_cons_mk (Below.trod laidOut (by kernel_rfl) (of_decide_eq_true (by kernel_rfl)) k0 bel lt0) (trodAll_cons_mk (Below.trod laidOut (by kernel_rfl) (of_decide_eq_true (by kernel_rfl)) k1 bel lt1) trodAll_mk0)),rfl,bel.frame _,fun h=>by cases h⟩
theorem and2 {a b:Bool} (h:a=true) (k:b=true):(a && b)=true:=by rw[h,k];rfl
theorem joined:joinedFacts Tryz.pinned.checked.prog 5 Tryz.f5 (OpenSpec.ofChange Rows.datumSameSpec).bare Rows.datumSameRow=true:=by
 unfold joinedFacts
 repeat' (with_reducible refine and2 ?_ ?_)
 all_goals as_aux_lemma=>kernel_rfl
theorem said:Rows.DatumSameSaid:=
 OpenClaim.holds_of_cond 5 Tryz.f5 rfl rfl rfl rfl rfl rfl rfl ⟨rfl,rfl,rfl,rfl,rfl⟩ rfl rfl rfl rfl rfl (by kernel_rfl) Tryz.func5 joined
  (of_decide_eq_true (by kernel_rfl)) (by unfold Func.isWrapper;first|(rw[if_pos (by decide +kernel)];kernel_rfl)|(rw[if_neg (by decide +kernel)];exact⟨rfl,rfl⟩))
  (fun os started H enc _ F=>by rw[OpenClaim.pre_eq_preRow];exact lifted os started H enc F)
theorem plain (f:FuncId) (fn:Func) (hf:Tryz.pinned.checked.prog.funcNamed "suffragan/suffraganlaw09.DatumSame" = some f) (hfn:Tryz.pinned.checked.prog.funcs[f]?=some fn) :
  true=Tryz.pinned.checked.prog.looks []∧∀(j:Nat) t,fn.params[j]?=some t→Tryz.pinned.checked.prog.wantsStandIn t=false:=by
 obtain rfl:f=5:=Option.some.inj ((show Tryz.prog.funcNamed "suffragan/suffraganlaw09.DatumSame" = some 5 by kernel_rfl).symm.trans hf) |>.symm
 obtain rfl:fn=Tryz.f5:=(Option.some.inj (Tryz.func5.symm.trans hfn)).symm
 refine⟨by kernel_rfl,fun j t ht=>?_⟩
 rw[Tryz.params5] at ht
 have hm:=Array.mem_of_getElem? ht
 simp only[Array.mem_def,List.mem_cons,List.mem_nil_iff,or_false,or_self] at hm
 subst hm
 exact (show Tryz.prog.wantsStandIn 28=false by kernel_rfl)
theorem proved:Rows.DatumSameCardSaid:=
 Claim7.holds_tied_plain_at .later [] _ _ _ _ said (fun _ h=>by cases h) (by kernel_rfl) (fun _ h=>by cases h) datumSame_row_tie rfl ⟨rfl,rfl⟩ (by kernel_rfl) rfl plain (by kernel_rfl)
#print axioms proved
end datumSame
end Go.Proofs.YtllhhpcabncmiaaGreatDoor
