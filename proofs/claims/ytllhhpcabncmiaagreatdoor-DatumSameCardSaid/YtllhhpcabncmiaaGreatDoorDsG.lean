/- parse: the closures; a node made. -/
import Derived.Test.YtllhhpcabncmiaaGreatDoorDsF
set_option linter.unusedVariables false
set_option linter.unusedSimpArgs false
set_option maxRecDepth 100000
set_option maxHeartbeats 1000000
namespace Go.Proofs.YtllhhpcabncmiaaGreatDoor
namespace Pr
open Go.ChangeShapes Go.WideShapes Go.ChangeAt Go.RowKit
open Base Lx Mi
section
variable {B R M:Nat} {vl vn:Value} {vs:List V3} {s:PS}
theorem defined1_any (x:ByteArray) (q:Addr) (w:World) (h:Rs B w R M vl vn vs s) (hx:x.size≤maxLen) (hq:w.cell? q=some (.pointer (some ⟨R,0,none⟩))) :
  Calls Tryz.prog 149 #[.string x,.pointer (some q)] w fun e w'=>e=.returned (.bool (s.nm x).isSome)∧w=w':=by
 obtain⟨c0,c1,c2,f0,f1⟩:=h.cells
 obtain⟨cnt,hm,hc⟩:=h.named
 have hl:=hm.look_ok mt x hx
 obtain⟨o,ho⟩:∃o,Hid (s.nm x=o):=⟨_,rfl⟩
 rw[ho.out] at hl ⊢
 go_enter Tryz.func149,Tryz.ntmps149
 go_wp2_with fail
 go_ret
 exact⟨rfl,rfl⟩
theorem syms1_any (x:ByteArray) (q:Addr) (A:Option Addr) (n c:Nat) (l:List ByteArray) (w:World) (hr:Rd w A (txs l)) (hn:l.length=n) (hl:n≤100000) (hq:w.cell? q=some (.slice A n c)) :
  Calls Tryz.prog 160 #[.string x,.pointer (some q)] w fun e w'=>e=.returned (.bool (l.any fun y=>decide (y=x)))∧w=w':=by
 have hc:=contains_str A n c l x w hr hn hl
 obtain⟨o,ho⟩:∃o,Hid ((l.any fun y=>decide (y=x))=o):=⟨_,rfl⟩
 rw[ho.out] at hc ⊢
 go_enter Tryz.func160,Tryz.ntmps160
 go_wp2_with fail
 refine hc.mono ?_
 rintro e w1 ⟨rfl,rfl⟩
 go_wp2_with fail
 go_ret
 exact⟨rfl,rfl⟩
theorem flds_length (l:List (ByteArray×Bool×Nat)):(flds l).length=l.length*3:=by
 induction l with
 | nil=>rfl
 | cons x l ih=>rw[flds,List.flatMap_cons,List.length_append];unfold flds at ih;rw[ih];simp[fldC];omega
theorem flds_at:∀(l:List (ByteArray×Bool×Nat)) (j:Nat) (x:ByteArray×Bool×Nat),l[j]?=some x→∀i,i<3→(flds l)[j*3+i]?=(fldC x)[i]?
 | [],j,x,h,i,hi=>by simp at h
 | y::l,0,x,h,i,hi=>by
  simp at h;subst h
  rw[flds,List.flatMap_cons,List.getElem?_append_left (by simp[fldC];omega)]
  congr 1;omega
 | y::l,j+1,x,h,i,hi=>by
  have ih:=flds_at l j x (by simpa using h) i hi
  rw[flds,List.flatMap_cons,List.getElem?_append_right (by simp[fldC];omega)]
  rw[←ih]
  unfold flds
  congr 1
  simp[fldC];omega
theorem flds_cell {w:World} {A:Option Addr} {l:List (ByteArray×Bool×Nat)} (hr:Rd w A (flds l)) (j:Nat) (x:ByteArray×Bool×Nat) (hx:l[j]?=some x):∃b off,A=some ⟨b,off,none⟩∧∀W,Ext w W→W.cell? ⟨b,off+j*3,none⟩=some (.string x.1)∧W.cell? ⟨b,off+j*3+1,none⟩=some (.bool x.2.1)∧W.cell? ⟨b,off+j*3+2,none⟩=some (.int .i64 (x.2.2:Int)):=by
 have hi:=(List.getElem?_eq_some_iff.1 hx).1
 obtain⟨b,off,e,h⟩:=hr (fun e=>by have:=flds_length l;rw[e] at this;simp only[List.length_nil] at this;omega)
 refine⟨b,off,e,fun W hW=>⟨?_,?_,?_⟩⟩
 ·exact hW.cell (h (j*3+0) _ (by rw[flds_at l j x hx 0 (by omega)];rfl))
 ·rw[Nat.add_assoc];exact hW.cell (h (j*3+1) _ (by rw[flds_at l j x hx 1 (by omega)];rfl))
 ·rw[Nat.add_assoc];exact hW.cell (h (j*3+2) _ (by rw[flds_at l j x hx 2 (by omega)];rfl))
theorem fields11_any (f:ByteArray×Bool×Nat) (x:ByteArray) (q:Addr) (w:World) (hq:w.cell? q=some (.string x)) :
  Calls Tryz.prog 163 #[.agg (fldC f).toArray,.pointer (some q)] w fun e w'=>e=.returned (.bool (decide (f.1=x)))∧Ext w w':=by
 obtain⟨y,b,t⟩:=f
 have hq2:(w.alloc (.cells #[.string y,.bool b,.int .i64 (t:Int)] 69)).cell? q=some (.string x):=((Ext.refl w).alloc _).cell hq
 have hx2:Ext w (w.alloc (.cells #[.string y,.bool b,.int .i64 (t:Int)] 69)):=(Ext.refl w).alloc _
 simp only[fldC]
 by_cases he:y=x
 ·subst he
  rw[show decide (y=y)=true by simp]
  go_enter Tryz.func163,Tryz.ntmps163
  go_wp2_with fail
  go_ret
  exact⟨rfl,hx2⟩
 ·have hbq:=str_ne he
  rw[show decide (y=x)=false by simpa using he]
  go_enter Tryz.func163,Tryz.ntmps163
  go_wp2_with fail
  go_ret
  exact⟨rfl,hx2⟩
def FNo (l:List (ByteArray×Bool×Nat)) (k:Nat) (x:ByteArray):Prop:=∀(j:Nat) f,j<k→l[j]?=some f→f.1≠x
theorem any_true {α:Type} {l:List α} {p:α→Bool} {i:Nat} {x:α} (h:l[i]?=some x) (hp:p x=true):l.any p=true:=by
 rw[List.any_eq_true];exact⟨x,List.mem_of_getElem? h,hp⟩
theorem any_false {α:Type} {l:List α} {p:α→Bool} (h:∀(i:Nat) x,l[i]?=some x→p x=false):l.any p=false:=by
 rw[List.any_eq_false]
 intro x hx
 obtain⟨i,hi⟩:=List.mem_iff_getElem?.1 hx
 rw[h i x hi];simp
set_option maxHeartbeats 800000 in
theorem indexFld_any (A:Option Addr) (n c:Nat) (l:List (ByteArray×Bool×Nat)) (q:Addr) (x:ByteArray) (w:World) (hr:Rd w A (flds l)) (hn:l.length=n) (hl:n≤100000) (hq:w.cell? q=some (.string x)) :
  Calls Tryz.prog 170 #[.slice A n c,.func (.func 163) #[] #[.pointer (some q)]] w fun e w'=>(∃r:Int,e=.returned (.int .i64 r)∧decide (0≤r)=l.any fun f=>decide (f.1=x))∧Ext w w':=by
 have Hn:=Lib.hid hn
 clear hn
 obtain⟨AN,hAN⟩:∃o,Hid ((l.any fun f=>decide (f.1=x))=o):=⟨_,rfl⟩
 rw[hAN.out]
 go_enter Tryz.func170,Tryz.ntmps170
 go_wp2_with fail
 go_loopw [5,8,9,10,11,12,13,14,15,16,18] (fun v5 v8 v9 v10 v11 v12 v13 v14 v15 v16 v18 wr=>∃i:Nat,i≤n∧v8=.int .i64 i∧FNo l i x∧Ext w wr) (fun _ v8 _ _ _ _ _ _ _ _ _ _=>n-(intOf v8).toNat)
 case atStart=>exact⟨0,by omega,rfl,fun k f h=>by omega,Ext.refl w⟩
 case round=>
  obtain⟨i,hi,rfl,h1,hx⟩:=hrel
  by_cases hin:i<n
  ·have hin':(i:Int)<(n:Int):=by omega
   obtain⟨f,hfe⟩:∃f,l[i]?=some f:=⟨_,List.getElem?_eq_getElem (by have:=Hn.out;omega)⟩
   obtain⟨b,off,rfl,hcs⟩:=flds_cell hr i f hfe
   obtain⟨d0,d1,d2⟩:=hcs wr hx
   clear hcs
   have hb:=fields11_any f x q wr (hx.cell hq)
   simp only[fldC] at hb
   have Hfe:=Lib.hid hfe
   clear hfe
   by_cases he:f.1=x
   ·have hb2:decide (f.1=x)=true:=by simp[he]
    rw[hb2] at hb
    have hat:AN=true:=by rw[←hAN.out];exact any_true Hfe.out hb2
    have Hat:=Lib.hid hat
    clear hat
    have he':=Lib.hid he
    clear he hb2
    go_wp2_with fail
    refine hb.mono ?_
    rintro e w1 ⟨rfl,hx2⟩
    go_wp2_with fail
    go_ret
    exact⟨⟨_,rfl,by rw[Hat.out];simp⟩,hx.trans hx2⟩
   ·have hb2:decide (f.1=x)=false:=by simpa using he
    rw[hb2] at hb
    go_wp2_with fail
    refine hb.mono ?_
    rintro e w1 ⟨rfl,hx2⟩
    go_wp2_with fail
    refine⟨⟨i+1,by omega,by go_num,?_,hx.trans hx2⟩,by simp[intOf];omega⟩
    intro k y hk hy
    rcases Nat.lt_or_ge k i with h|h
    ·exact h1 k y h hy
    ·obtain rfl:k=i:=by omega
     rw[Hfe.out] at hy
     injection hy with hy
     rw[←hy];exact he
  ·obtain rfl:i=n:=by omega
   have hat:AN=false:=by
    rw[←hAN.out]
    exact any_false fun j f hf=>by
     have:=h1 j f (by have:=(List.getElem?_eq_some_iff.1 hf).1;have:=Hn.out;omega) hf
     simpa using this
   have Hat:=Lib.hid hat
   clear hat
   go_wp2_with fail
   go_ret
   exact⟨⟨_,rfl,by rw[Hat.out];simp⟩,hx⟩
theorem containsFld_any (A:Option Addr) (n c:Nat) (l:List (ByteArray×Bool×Nat)) (q:Addr) (x:ByteArray) (w:World) (hr:Rd w A (flds l)) (hn:l.length=n) (hl:n≤100000) (hq:w.cell? q=some (.string x)) :
  Calls Tryz.prog 162 #[.slice A n c,.func (.func 163) #[] #[.pointer (some q)]] w fun e w'=>e=.returned (.bool (l.any fun f=>decide (f.1=x)))∧Ext w w':=by
 have hi:=indexFld_any A n c l q x w hr hn hl hq
 obtain⟨AN,hAN⟩:∃o,Hid ((l.any fun f=>decide (f.1=x))=o):=⟨_,rfl⟩
 rw[hAN.out] at hi ⊢
 go_enter Tryz.func162,Tryz.ntmps162
 go_wp2_with fail
 refine hi.mono ?_
 rintro e w1 ⟨⟨r,rfl,hr⟩,hx⟩
 subst hr
 go_wp2_with fail
 go_ret
 exact⟨rfl,hx⟩
theorem fields1_any (x:ByteArray) (q:Addr) (A:Option Addr) (n c:Nat) (l:List (ByteArray×Bool×Nat)) (w:World) (hr:Rd w A (flds l)) (hn:l.length=n) (hl:n≤100000) (hq:w.cell? q=some (.slice A n c)) :
  Calls Tryz.prog 161 #[.string x,.pointer (some q)] w fun e w'=>e=.returned (.bool (l.any fun f=>decide (f.1=x)))∧Ext w w':=by
 obtain⟨w1,hw1⟩:∃W,Hid (w.alloc (.cells #[.string x] 9)=W):=⟨_,rfl⟩
 have hx1:Ext w w1:=by rw[←hw1.out];exact (Ext.refl w).alloc _
 have hb1:Blk w1 w.heap.size #[.string x] 9:=by rw[←hw1.out];exact Blk.new w _ _
 have hq1:(w.alloc (.cells #[.string x] 9)).cell? q=some (.slice A n c):=((Ext.refl w).alloc _).cell hq
 have hi:=containsFld_any A n c l ⟨w.heap.size,0,none⟩ x w1 (hr.ext hx1) hn hl (hb1.cell 0)
 obtain⟨AN,hAN⟩:∃o,Hid ((l.any fun f=>decide (f.1=x))=o):=⟨_,rfl⟩
 rw[hAN.out] at hi ⊢
 go_enter Tryz.func161,Tryz.ntmps161
 go_wp2_with fail
 rw[hw1.out]
 refine hi.mono ?_
 rintro e w2 ⟨rfl,hx2⟩
 go_wp2_with fail
 go_ret
 exact⟨rfl,hx1.trans hx2⟩
theorem ndsC_at:∀(ns:List Nd) (vs:List V3) (j:Nat) (d:Nd) (v:V3),ns[j]?=some d→vs[j]?=some v→∀i,i<6→(ndsC ns vs)[j*6+i]?=(ndC d v)[i]?
 | [],vs,j,d,v,h,_,i,hi=>by simp at h
 | _::_,[],j,d,v,_,h,i,hi=>by simp at h
 | y::l,u::r,0,d,v,h,h2,i,hi=>by
  simp at h h2;subst h;subst h2
  rw[ndsC,List.getElem?_append_left (by simp[ndC];omega)]
  congr 1;omega
 | y::l,u::r,j+1,d,v,h,h2,i,hi=>by
  have ih:=ndsC_at l r j d v (by simpa using h) (by simpa using h2) i hi
  rw[ndsC,List.getElem?_append_right (by simp[ndC];omega)]
  rw[←ih]
  congr 1
  simp[ndC];omega
theorem ndsC_length:∀(ns:List Nd) (vs:List V3),vs.length=ns.length→(ndsC ns vs).length=ns.length*6
 | [],[],_=>rfl
 | [],_::_,h=>by simp at h
 | _::_,[],h=>by simp at h
 | d::ns,v::vs,h=>by
  rw[ndsC,List.length_append,ndsC_length ns vs (by simpa using h)]
  simp[ndC];omega
theorem ndsC_snoc:∀(ns:List Nd) (vs:List V3) (d:Nd) (v:V3),vs.length=ns.length→ndsC (ns++[d]) (vs++[v])=ndsC ns vs++ndC d v
 | [],[],d,v,_=>by simp[ndsC]
 | [],_::_,d,v,h=>by simp at h
 | _::_,[],d,v,h=>by simp at h
 | x::ns,y::vs,d,v,h=>by
  simp only[List.cons_append,ndsC]
  rw[ndsC_snoc ns vs d v (by simpa using h),List.append_assoc]
theorem Rs.node {w:World} (h:Rs B w R M vl vn vs s) (j:Nat) (hj:j<s.ns.length):∃d v b c,s.ns[j]?=some d∧vs[j]?=some v∧vn=.slice (some ⟨b,0,none⟩) s.ns.length c∧s.ns.length≤c∧c≤maxLen∧∀W,Ext w W→∀i,i<6→W.cell? ⟨b,j*6+i,none⟩=(ndC d v)[i]?:=by
 obtain⟨d,hd⟩:∃d,s.ns[j]?=some d:=⟨_,List.getElem?_eq_getElem hj⟩
 obtain⟨v,hv⟩:∃v,vs[j]?=some v:=⟨_,List.getElem?_eq_getElem (by rw[h.nds.len];exact hj)⟩
 rcases h.nds.row.2 with⟨_,h0⟩|⟨b,c,cur,e,hb,hg,h1,h2,h3,h4⟩
 ·omega
 ·refine⟨d,v,b,c,hd,hv,e,h1,h2,fun W hW i hi=>?_⟩
  have hbk:Blk w b cur 47:=hg
  rw[(hbk.ext hW).cell]
  have h5:=ndsC_at s.ns vs j d v hd hv i hi
  rw[←h4,List.getElem?_take,if_pos (by omega)] at h5
  rw[←h5]
  simp
set_option maxHeartbeats 800000 in
theorem typed1_any (m:Nat) (k:Int) (p4 p10:Addr) (w:World) (h:Rs B w R M vl vn vs s) (hm:m<s.ns.length) (h4:w.cell? p4=some (.pointer (some ⟨R,0,none⟩))) (h10:w.cell? p10=some (.int .i64 k)) :
  Calls Tryz.prog 126 #[.int .i64 (m:Int),.pointer (some p4),.pointer (some p10)] w fun e w'=>e=.returned (.bool (decide ((s.ns[m]?.map (·.k))=some k)))∧Ext w w':=by
 obtain⟨d,v,b,c,hd,hv,rfl,hc1,hc2,hc⟩:=h.node m hm
 have e4:∀W,Ext w W→W.cell? p4=some (.pointer (some ⟨R,0,none⟩)):=fun W hW=>hW.cell h4
 have e10:∀W,Ext w W→W.cell? p10=some (.int .i64 k):=fun W hW=>hW.cell h10
 obtain⟨n,hn⟩:∃n,Hid (s.ns.length=n):=⟨_,rfl⟩
 have e1:∀W,Ext w W→W.cell? ⟨R,1,none⟩=some (.slice (some ⟨b,0,none⟩) n c):=fun W hW=>by rw[←hn.out];exact (h.ext hW).cells.2.1
 have ek:∀W,Ext w W→W.cell? ⟨b,m*6,none⟩=some (.int .i64 d.k):=fun W hW=>by have:=hc W hW 0 (by omega);simpa [ndC] using this
 have hmn:(m:Int)<(n:Int):=by have:=hn.out;omega
 rw[hd]
 simp only[Option.map_some,Option.some.injEq]
 clear hd hv hc h4 h10
 go_enter Tryz.func126,Tryz.ntmps126
 go_wp2_with fail
 refine Reg.startE (by kernel_rfl) ?_
 iterate 11 ((first|refine Reg.tn ?_|refine Reg.sn ?_);(try simp only[Reg.nn]))
 refine Reg.fin (by kernel_rfl) (fun W hW=>?_)
 go_wp2_with fail
 go_ret
 have hb:(d.k == k)=decide (d.k=k):=by by_cases e:d.k=k<;>simp[e]
 rw[←hb]
 exact⟨rfl,hW⟩
def INo (s:PS) (l:List Nat) (i:Nat) (k:Int):Prop:=∀(j:Nat) m,j<i→l[j]?=some m→decide ((s.ns[m]?.map (·.k))=some k)=false
set_option maxHeartbeats 800000 in
theorem indexInt_any (A:Option Addr) (n c:Nat) (l:List Nat) (k:Int) (p4 p10:Addr) (w:World) (h:Rs B w R M vl vn vs s) (hr:Rd w A (ints l)) (hn:l.length=n) (hl:n≤100000) (hm:∀m∈l,m<s.ns.length) (h4:w.cell? p4=some (.pointer (some ⟨R,0,none⟩))) (h10:w.cell? p10=some (.int .i64 k)) :
  Calls Tryz.prog 145 #[.slice A n c,.func (.func 126) #[] #[.pointer (some p4),.pointer (some p10)]] w fun e w'=>(∃r:Int,e=.returned (.int .i64 r)∧decide (0≤r)=l.any fun m=>decide ((s.ns[m]?.map (·.k))=some k))∧Ext w w':=by
 have Hn:=Lib.hid hn
 clear hn
 obtain⟨AN,hAN⟩:∃o,Hid ((l.any fun m=>decide ((s.ns[m]?.map (·.k))=some k))=o):=⟨_,rfl⟩
 rw[hAN.out]
 go_enter Tryz.func145,Tryz.ntmps145
 go_wp2_with fail
 go_loopw [5,8,9,10,11,12,13,14,15,16,18] (fun v5 v8 v9 v10 v11 v12 v13 v14 v15 v16 v18 wr=>∃i:Nat,i≤n∧v8=.int .i64 i∧INo s l i k∧Ext w wr) (fun _ v8 _ _ _ _ _ _ _ _ _ _=>n-(intOf v8).toNat)
 case atStart=>exact⟨0,by omega,rfl,fun k f h=>by omega,Ext.refl w⟩
 case round=>
  obtain⟨i,hi,rfl,h1,hx⟩:=hrel
  by_cases hin:i<n
  ·have hin':(i:Int)<(n:Int):=by omega
   obtain⟨m,hme⟩:∃m,l[i]?=some m:=⟨_,List.getElem?_eq_getElem (by have:=Hn.out;omega)⟩
   obtain⟨b,off,rfl,hz,hc⟩:=(hr.ext hx).at_ (k:=i) (by rw[ints_length];have:=Hn.out;omega)
   clear hz
   have hck:wr.cell? ⟨b,off+i,none⟩=some (.int .i64 (m:Int)):=hc i _ (by simp[ints,hme])
   clear hc
   have hb:=typed1_any m k p4 p10 wr (h.ext hx) (hm m (List.mem_of_getElem? hme)) (hx.cell h4) (hx.cell h10)
   have Hme:=Lib.hid hme
   clear hme
   obtain⟨BB,hBB⟩:∃o,Hid (decide ((s.ns[m]?.map (·.k))=some k)=o):=⟨_,rfl⟩
   rw[hBB.out] at hb
   cases BB with
   | true=>
    have hat:AN=true:=by rw[←hAN.out];exact any_true Hme.out hBB.out
    have Hat:=Lib.hid hat
    clear hat
    go_wp2_with fail
    refine hb.mono ?_
    rintro e w1 ⟨rfl,hx2⟩
    go_wp2_with fail
    go_ret
    exact⟨⟨_,rfl,by rw[Hat.out];simp⟩,hx.trans hx2⟩
   | false=>
    go_wp2_with fail
    refine hb.mono ?_
    rintro e w1 ⟨rfl,hx2⟩
    go_wp2_with fail
    refine⟨⟨i+1,by omega,by go_num,?_,hx.trans hx2⟩,by simp[intOf];omega⟩
    intro j y hk hy
    rcases Nat.lt_or_ge j i with h|h
    ·exact h1 j y h hy
    ·obtain rfl:j=i:=by omega
     rw[Hme.out] at hy
     injection hy with hy
     rw[←hy];exact hBB.out
  ·obtain rfl:i=n:=by omega
   have hat:AN=false:=by
    rw[←hAN.out]
    exact any_false fun j f hf=>h1 j f (by have:=(List.getElem?_eq_some_iff.1 hf).1;have:=Hn.out;omega) hf
   have Hat:=Lib.hid hat
   clear hat
   go_wp2_with fail
   go_ret
   exact⟨⟨_,rfl,by rw[Hat.out];simp⟩,hx⟩
theorem containsInt_any (A:Option Addr) (n c:Nat) (l:List Nat) (k:Int) (p4 p10:Addr) (w:World) (h:Rs B w R M vl vn vs s) (hr:Rd w A (ints l)) (hn:l.length=n) (hl:n≤100000) (hm:∀m∈l,m<s.ns.length) (h4:w.cell? p4=some (.pointer (some ⟨R,0,none⟩))) (h10:w.cell? p10=some (.int .i64 k)) :
  Calls Tryz.prog 125 #[.slice A n c,.func (.func 126) #[] #[.pointer (some p4),.pointer (some p10)]] w fun e w'=>e=.returned (.bool (l.any fun m=>decide ((s.ns[m]?.map (·.k))=some k)))∧Ext w w':=by
 have hi:=indexInt_any A n c l k p4 p10 w h hr hn hl hm h4 h10
 obtain⟨AN,hAN⟩:∃o,Hid ((l.any fun m=>decide ((s.ns[m]?.map (·.k))=some k))=o):=⟨_,rfl⟩
 rw[hAN.out] at hi ⊢
 go_enter Tryz.func125,Tryz.ntmps125
 go_wp2_with fail
 refine hi.mono ?_
 rintro e w1 ⟨⟨r,rfl,hr⟩,hx⟩
 subst hr
 go_wp2_with fail
 go_ret
 exact⟨rfl,hx⟩
end
section
variable {B R M:Nat} {vl vn:Value} {vs:List V3} {s:PS}
theorem Sub.away {w:World} {d:Nd} {v:V3} (hs:Sub B w d v) (h:Rs B w R M vl vn vs s):(∀k,v.1.ownBlock=some k→¬Wr R M vn k)∧(∀k,v.2.1.ownBlock=some k→¬Wr R M vn k)∧(∀k,v.2.2.ownBlock=some k→¬Wr R M vn k):=by
 obtain⟨cnt,hm,_⟩:=h.named
 refine⟨?_,?_,?_⟩
 ·rintro k hk (rfl|rfl|e)
  ·exact own_ne_blk hs.syms h.blk (by decide) hk.symm
  ·exact own_ne_map hs.syms hm hk
  ·exact own_not hs.syms h.nds.row (by decide) k e hk
 ·rintro k hk (rfl|rfl|e)
  ·exact own_ne_blk hs.items h.blk (by decide) hk.symm
  ·exact own_ne_map hs.items hm hk
  ·exact own_not hs.items h.nds.row (by decide) k e hk
 ·rintro k hk (rfl|rfl|e)
  ·exact own_ne_blk hs.fields h.blk (by decide) hk.symm
  ·exact own_ne_map hs.fields hm hk
  ·exact own_not hs.fields h.nds.row (by decide) k e hk
theorem Rs.renode {w w2:World} {S:Nat→Prop} {ns':List Nd} {vs':List V3} {vn':Value} (h:Rs B w R M vl vn vs s) (hch:Chg S w w2) (hS:∀k,S k→Wr R M vn k) (hblk:Blk w2 R #[vl,vn',.map (some M)] 147) (hM:¬S M) (hrow:w2.ownsRow B 47 6 vn' ns'.length (ndsC ns' vs')) (hlen:vs'.length=ns'.length) (hsub:∀(i:Nat) d v,ns'[i]?=some d→vs'[i]?=some v→Sub B w d v) (hge:s.ns.length≤ns'.length) (h200:ns'.length≤200) :
  Rs B w2 R M vl vn' vs' { s with ns:=ns' }:=by
 obtain⟨tg,off,cap,e,h1,h2,h3,h4⟩:=h.toks
 obtain⟨cnt,h5,h6⟩:=h.named
 have hlow:∀b,b<B→¬S b:=fun b hb hs=>by have:=h.wr_ge b (hS b hs);omega
 refine⟨hblk,⟨tg,off,cap,e,Rd.chg h1 hch (fun a e=>by injection e with e;subst e;exact hlow tg h4),h2,h3,h4⟩,⟨hlen,hrow,fun i d v q1 q2=>?_⟩,⟨cnt,map_chg h5 hch hM,h6⟩,fun x n hx=>Nat.lt_of_lt_of_le (h.nmOk x n hx) hge,h.tok,h.tl,h.ts,h200,h.hR,h.hM,Rd.chg h.wd hch (fun a e=>by injection e with e;subst e;exact hlow 0 h.hw),h.hw⟩
 have hs:=hsub i d v q1 q2
 obtain⟨a1,a2,a3⟩:=hs.away h
 exact hs.chg hch (fun k hk e=>a1 k hk (hS k e)) (fun k hk e=>a2 k hk (hS k e)) (fun k hk e=>a3 k hk (hS k e))
def v0:V3:=(.slice none 0 0,.slice none 0 0,.slice none 0 0)
theorem ndC_one (d:Nd) (v:V3) (h1:v.1.oneCell'=true) (h2:v.2.1.oneCell'=true) (h3:v.2.2.oneCell'=true):∀u∈ndC d v,u.oneCell'=true:=by
 intro u hu
 simp only[ndC,List.mem_cons,List.not_mem_nil,or_false] at hu
 rcases hu with rfl|rfl|rfl|rfl|rfl|rfl
 ·rfl
 ·rfl
 ·rfl
 ·exact h1
 ·exact h2
 ·exact h3
theorem sf_snoc (w:World) (vs:List V3):SF w vs (vs++[v0]):=fun i v' h=>by
 rcases Nat.lt_or_ge i vs.length with hi|hi
 ·rw[List.getElem?_append_left hi] at h
  exact SF.refl w vs i v' h
 ·rw[List.getElem?_append_right hi] at h
  have:v'=v0:=by
   cases hz:i-vs.length with
   | succ z=>rw[hz] at h;simp at h
   | zero=>rw[hz] at h;simp at h;exact h.symm
  subst this
  exact⟨fun k hk=>(by cases hk),fun k hk=>(by cases hk),fun k hk=>(by cases hk)⟩
theorem begins_any (k:Int) (w:World) (h:Rs B w R M vl vn vs s) (hn:s.ns.length≤199) (hB:B≤w.heap.size) :
  Calls Tryz.prog 127 #[.pointer (some ⟨R,0,none⟩),.int .i64 k] w fun e w'=>e=.returned (.int .i64 (s.ns.length:Int))∧Chg (Wr R M vn) w w'∧∃vn' vs',Rs B w' R M vl vn' vs' { s with ns:=s.ns++[Nd.ofKind k] }∧Fresh w vn vn'∧SF w vs vs':=by
 obtain⟨c0,c1,c2,f0,f1⟩:=h.cells
 obtain⟨_,hRM,hnR,hnM⟩:=h.sep
 obtain⟨n,hnn⟩:∃n,Hid (s.ns.length=n):=⟨_,rfl⟩
 have ho:=h.nds.row
 obtain⟨A,c,rfl,jj1,jj2,jj3,jj4⟩:=Rd.of_own ho
 rw[hnn.out] at c1 ho
 have hn':n≤199:=by have:=hnn.out;omega
 have hbk:=h.blk
 rw[hnn.out] at hbk hnR hnM
 have ha:∀o,(w.alloc o).cell? ⟨R,1,none⟩=some (.slice A n c):=fun o=>((Ext.refl w).alloc o).cell c1
 have hnd1:=ndC_one (Nd.ofKind k) v0 rfl rfl rfl
 obtain⟨NW,hNW⟩:∃NW,Hid (ndC (Nd.ofKind k) v0=NW):=⟨_,rfl⟩
 have hrd:Rd (w.alloc (.cells #[.int .i64 k,.string ⟨#[]⟩,.int .i64 0,.slice none 0 0,.slice none 0 0,.slice none 0 0] 47)) (some ⟨w.heap.size,0,none⟩) NW:=by
  rw[←hNW.out];exact Rd.of_block w 47 (0,0) rfl
 have hNl:NW.length=1*6:=by rw[←hNW.out];rfl
 rw[hNW.out] at hnd1
 rw[hnn.out]
 go_enter Tryz.func127,Tryz.ntmps127
 go_wp2_with (
  refine wpList_app el_nd _ rfl (.tmp 9) (.tmp 12) rfl B (.slice A n c) n (ndsC s.ns vs) rfl (own_ext ho ((Ext.refl w).alloc _)) (some ⟨w.heap.size,0,none⟩) 1 1 NW rfl hrd hNl (fun h=>by cases h) hnd1 (by omega) (by omega) (by simp;omega) (fun V1 w1 ho1 hg1 hv1=>?_)
  obtain⟨A1,c1',rfl,kk1,kk2,kk3,kk4⟩:=Rd.of_own ho1
  clear kk1 kk2 kk3 kk4
  have hch1:Chg (fun k=>(Value.slice A n c).ownBlock=some k) w w1:=(Chg.ofExt ((Ext.refl w).alloc _)).trans (Chg.ofGrown hg1) (fun _ _ e=>e)
  have hb1:=hch1.blk hbk hnR
  have fr1:=hb1.frozen 1
  have cl1:w1.cell? ⟨R,1,none⟩=some _:=hb1.cell 1)
 go_ret
 have hb2:Blk (w1.setCell ⟨R,1,none⟩ (.slice A1 (n+1) c1')) R #[vl,.slice A1 (n+1) c1',.map (some M)] 147:=hb1.set 1 _
 have hch2:Chg (fun k=>k=R∨(Value.slice A n c).ownBlock=some k) w (w1.setCell ⟨R,1,none⟩ (.slice A1 (n+1) c1')):=(hch1.mono (fun _ _ e=>.inr e)).set (p:=⟨R,1,none⟩) (.inl (.inl rfl)) _
 rw[←hNW.out,←ndsC_snoc _ _ _ _ h.nds.len] at ho1
 have ho2:=own_setCell (i:=1) ho1 hb1 (by decide) (.slice A1 (n+1) c1')
 have hlen:(s.ns++[Nd.ofKind k]).length=n+1:=by rw[List.length_append,hnn.out];rfl
 refine⟨rfl,hch2.mono (fun k _ e=>e.elim .inl (fun e=>.inr (.inr e))),.slice A1 (n+1) c1',vs++[v0],?_,?_,sf_snoc w vs⟩
 ·refine h.renode hch2 (fun k e=>e.elim .inl (fun e=>.inr (.inr (by rw[hnn.out];exact e)))) hb2 (fun e=>e.elim (fun e=>hRM e.symm) hnM) ?_ ?_ ?_ ?_ ?_
  ·rw[hlen];exact ho2
  ·rw[List.length_append,hlen,h.nds.len,hnn.out];rfl
  ·intro i d v q1 q2
   rcases Nat.lt_or_ge i s.ns.length with hi|hi
   ·rw[List.getElem?_append_left hi] at q1
    rw[List.getElem?_append_left (by rw[h.nds.len];exact hi)] at q2
    exact h.nds.sub i d v q1 q2
   ·rw[List.getElem?_append_right hi] at q1
    rw[List.getElem?_append_right (by rw[h.nds.len];exact hi),h.nds.len] at q2
    cases hz:i-s.ns.length with
    | succ z=>rw[hz] at q1;simp at q1
    | zero=>
     rw[hz] at q1 q2
     simp at q1 q2
     subst q1;subst q2
     exact⟨World.ownsRow_nil _ _ _ _,World.ownsRow_nil _ _ _ _,World.ownsRow_nil _ _ _ _⟩
  ·simp
  ·rw[hlen];omega
 ·exact hv1.imp (fun e=>e) (fun e=>⟨_,e,by simp⟩)
end
def PK (s:PS) (w:World) (e:Ending) (w':World):Prop:=Ext w w'∧match kindR s with
 | some k=>e=.returned (.int .i64 k)
 | none=>e=.panicked (stopV (hd s.l).a 4)
theorem PK.some {s:PS} {w w':World} {e:Ending} {k:Int} (h:kindR s=some k) (hx:Ext w w') (he:e=.returned (.int .i64 k)):PK s w e w':=by unfold PK;rw[h];exact⟨hx,he⟩
theorem PK.none {s:PS} {w w':World} {e:Ending} (h:kindR s=none) (hx:Ext w w') (he:e=.panicked (stopV (hd s.l).a 4)):PK s w e w':=by unfold PK;rw[h];exact⟨hx,he⟩
theorem PK.cases {s:PS} {w w':World} {e:Ending} (h:PK s w e w'):Ext w w'∧((∃k,Hid (kindR s=Option.some k)∧e=.returned (.int .i64 k))∨(Hid (kindR s=Option.none)∧e=.panicked (stopV (hd s.l).a 4))):=by
 unfold PK at h
 refine⟨h.1,?_⟩
 cases hk:kindR s with
 | some k=>rw[hk] at h;exact .inl ⟨k,Lib.hid rfl,h.2⟩
 | none=>rw[hk] at h;exact .inr ⟨Lib.hid rfl,h.2⟩
section
variable {B R M:Nat} {vl vn:Value} {vs:List V3} {s:PS}
set_option maxHeartbeats 2000000 in
theorem kind_any (w:World) (h:Rs B w R M vl vn vs s) (hsz:(hd s.l).s.size≤140737488351232):Calls Tryz.prog 123 #[.pointer (some ⟨R,0,none⟩)] w fun e w'=>PK s w e w':=by
 obtain⟨w1,hw1⟩:∃W,Hid (w.alloc (.cells #[.int .i64 (hd s.l).k,.string (hd s.l).s,.int .i64 ((hd s.l).a:Int)] 102)=W):=⟨_,rfl⟩
 have hx1:Ext w w1:=by rw[←hw1.out];exact (Ext.refl w).alloc _
 have hb1:Blk w1 w.heap.size #[.int .i64 (hd s.l).k,.string (hd s.l).s,.int .i64 ((hd s.l).a:Int)] 102:=by rw[←hw1.out];exact Blk.new w _ _
 have h1:=h.ext hx1
 have his:=fun x=>is_any x w1 h1
 have hkw:=keyword_any (hd s.l).s w1 h1.wd
 have hnm:=name_any (hd s.l).s hsz w1
 have hix:=fun W hW=>index_str (some ⟨0,0,none⟩) 12 12 wordsL (hd s.l).s W (h1.wd.ext hW) rfl (by omega)
 have hf:=fail_any 4 w1 h1
 obtain⟨r,hr⟩:∃r,Hid (kindR s=r):=⟨_,rfl⟩
 have hr2:r=if isT s cSqO then some 6 else if isT s cCuO then some 7 else if isT s cPaO then some 8 else if (hd s.l).k≠0 then none else if kwP (hd s.l).s then some (idxOf wordsL (hd s.l).s) else if nameP (hd s.l).s then some (-1) else none:=by rw[←hr.out,kindR]
 obtain⟨b1,hi1⟩:∃b,Hid (isT s cSqO=b):=⟨_,rfl⟩
 obtain⟨b2,hi2⟩:∃b,Hid (isT s cCuO=b):=⟨_,rfl⟩
 obtain⟨b3,hi3⟩:∃b,Hid (isT s cPaO=b):=⟨_,rfl⟩
 have i1:=his cSqO
 have i2:=his cCuO
 have i3:=his cPaO
 simp only[hi1.out,hi2.out,hi3.out] at i1 i2 i3 hr2
 clear his
 obtain⟨tg,off,cap,rfl,hp,hnc,hcm,hh⟩:=h.head
 obtain⟨c0,c1,c2,f0,f1⟩:=h.cells
 obtain⟨k0,k1,k2⟩:=hh w (Ext.refl w)
 obtain⟨t,ht⟩:∃t,Hid (hd s.l=t):=⟨_,rfl⟩
 simp only[ht.out] at k0 k1 k2 hkw hnm hix hf hr2 hw1 hb1
 obtain⟨n,hn⟩:∃n,Hid (s.l.length=n):=⟨_,rfl⟩
 rw[hn.out] at c0 hp hnc
 have hp':(0:Int)<(n:Int):=by omega
 obtain⟨KW,hKW⟩:∃T,Hid (kwP t.s=T):=⟨_,rfl⟩
 obtain⟨NP,hNP⟩:∃T,Hid (nameP t.s=T):=⟨_,rfl⟩
 obtain⟨IX,hIX⟩:∃T,Hid (idxOf wordsL t.s=T):=⟨_,rfl⟩
 simp only[hKW.out,hNP.out,hIX.out] at hkw hnm hix hr2
 have d0:w1.cell? ⟨w.heap.size,0,none⟩=some (.int .i64 t.k):=hb1.cell 0
 have d1:w1.cell? ⟨w.heap.size,1,none⟩=some (.string t.s):=hb1.cell 1
 have dd1:∀W,Ext w1 W→W.cell? ⟨w.heap.size,1,none⟩=some (.string t.s):=fun W hW=>hW.cell d1
 have hq:∀k,kindR s=some k→∀w' e,Ext w w'→e=.returned (.int .i64 k)→PK s w e w':=fun k hk w' e hx he=>PK.some hk hx he
 have hq0:kindR s=none→∀w' e,Ext w w'→e=.panicked (stopV t.a 4)→PK s w e w':=fun hk w' e hx he=>PK.none hk hx (by rw[ht.out];exact he)
 simp only[hr.out] at hq hq0
 have Hr:=Lib.hid hr2
 clear hr2 hi1 hi2 hi3
 cases b1 with
 | true=>
  have hre:r=some 6:=by rw[Hr.out];rfl
  go_enter Tryz.func123,Tryz.ntmps123
  go_wp2_with fail
  rw[hw1.out]
  refine i1.mono ?_
  rintro e w2 ⟨rfl,rfl⟩
  go_wp2_with fail
  go_ret
  exact hq 6 hre _ _ hx1 rfl
 | false=>
 cases b2 with
 | true=>
  have hre:r=some 7:=by rw[Hr.out];rfl
  go_enter Tryz.func123,Tryz.ntmps123
  go_wp2_with fail
  rw[hw1.out]
  refine i1.mono ?_
  rintro e w2 ⟨rfl,rfl⟩
  go_wp2_with fail
  refine i2.mono ?_
  rintro e w2 ⟨rfl,rfl⟩
  go_wp2_with fail
  go_ret
  exact hq 7 hre _ _ hx1 rfl
 | false=>
 cases b3 with
 | true=>
  have hre:r=some 8:=by rw[Hr.out];rfl
  go_enter Tryz.func123,Tryz.ntmps123
  go_wp2_with fail
  rw[hw1.out]
  refine i1.mono ?_
  rintro e w2 ⟨rfl,rfl⟩
  go_wp2_with fail
  refine i2.mono ?_
  rintro e w2 ⟨rfl,rfl⟩
  go_wp2_with fail
  refine i3.mono ?_
  rintro e w2 ⟨rfl,rfl⟩
  go_wp2_with fail
  go_ret
  exact hq 8 hre _ _ hx1 rfl
 | false=>
 by_cases hk0:t.k=0
 ·have hkn:((t.k:Int) != 0)=false:=by simpa using hk0
  have Hw2:=hw1.out
  rw[hk0] at Hw2
  replace hw1:=Lib.hid Hw2
  clear Hw2
  cases KW with
  | true=>
   have hre:r=some IX:=by rw[Hr.out];simp[hk0]
   go_enter Tryz.func123,Tryz.ntmps123
   go_wp2_with fail
   rw[hw1.out]
   refine i1.mono ?_
   rintro e w2 ⟨rfl,rfl⟩
   go_wp2_with fail
   refine i2.mono ?_
   rintro e w2 ⟨rfl,rfl⟩
   go_wp2_with fail
   refine i3.mono ?_
   rintro e w2 ⟨rfl,rfl⟩
   go_wp2_with fail
   refine hkw.mono ?_
   rintro e w2 ⟨rfl,rfl⟩
   go_wp2_with fail
   refine Reg.startE (by kernel_rfl) ?_
   iterate 3 ((first|refine Reg.tn ?_|refine Reg.sn ?_);(try simp only[Reg.nn]))
   refine Reg.onlyE 3 _ rfl (by kernel_rfl) (by decide) (by rfl) (fun W hW K hK=>?_);go_simp
   refine (hix W hW).mono ?_
   rintro e wX ⟨rfl,rfl⟩
   refine hK.out _ _ (Ext.refl _) ?_;clear hK K;(try simp only[Reg.nn])
   refine Reg.tk 4 ?_;(try simp only[Reg.nn])
   refine Reg.fin (by kernel_rfl) (fun W hW=>?_)
   go_wp2_with fail
   go_ret
   exact hq _ hre _ _ (hx1.trans (Ext.trans (by assumption) hW)) rfl
  | false=>
  cases NP with
  | true=>
   have hre:r=some (-1):=by rw[Hr.out];simp[hk0]
   go_enter Tryz.func123,Tryz.ntmps123
   go_wp2_with fail
   rw[hw1.out]
   refine i1.mono ?_
   rintro e w2 ⟨rfl,rfl⟩
   go_wp2_with fail
   refine i2.mono ?_
   rintro e w2 ⟨rfl,rfl⟩
   go_wp2_with fail
   refine i3.mono ?_
   rintro e w2 ⟨rfl,rfl⟩
   go_wp2_with fail
   refine hkw.mono ?_
   rintro e w2 ⟨rfl,rfl⟩
   go_wp2_with fail
   refine hnm.mono ?_
   rintro e w2 ⟨rfl,hw⟩
   subst hw
   go_wp2_with fail
   go_ret
   exact hq _ hre _ _ hx1 rfl
  | false=>
   have hre:r=none:=by rw[Hr.out];simp[hk0]
   go_enter Tryz.func123,Tryz.ntmps123
   go_wp2_with fail
   rw[hw1.out]
   refine i1.mono ?_
   rintro e w2 ⟨rfl,rfl⟩
   go_wp2_with fail
   refine i2.mono ?_
   rintro e w2 ⟨rfl,rfl⟩
   go_wp2_with fail
   refine i3.mono ?_
   rintro e w2 ⟨rfl,rfl⟩
   go_wp2_with fail
   refine hkw.mono ?_
   rintro e w2 ⟨rfl,rfl⟩
   go_wp2_with fail
   refine hnm.mono ?_
   rintro e w2 ⟨rfl,hw⟩
   subst hw
   go_wp2_with fail
   refine hf.mono ?_
   rintro e w2 ⟨rfl,rfl⟩
   go_wp2_with fail
   exact⟨rfl,hq0 hre _ _ hx1 rfl⟩
 ·have hkn:((t.k:Int) != 0)=true:=by simpa using hk0
  have hre:r=none:=by rw[Hr.out];simp[hk0]
  go_enter Tryz.func123,Tryz.ntmps123
  go_wp2_with fail
  rw[hw1.out]
  refine i1.mono ?_
  rintro e w2 ⟨rfl,rfl⟩
  go_wp2_with fail
  refine i2.mono ?_
  rintro e w2 ⟨rfl,rfl⟩
  go_wp2_with fail
  refine i3.mono ?_
  rintro e w2 ⟨rfl,rfl⟩
  go_wp2_with fail
  refine hf.mono ?_
  rintro e w2 ⟨rfl,rfl⟩
  go_wp2_with fail
  exact⟨rfl,hq0 hre _ _ hx1 rfl⟩
end
section
variable {B R M:Nat} {vl vn:Value} {vs:List V3} {s:PS}
theorem name_defined (th:ByteArray→Bool) (q:Addr) (w:World) (h:Rs B w R M vl vn vs s) (hsz:(hd s.l).s.size≤140737488351232) (hcl:∀W,Ext w W→∀x,x=(hd s.l).s→Calls Tryz.prog 149 #[.string x,.pointer (some q)] W fun e w'=>e=.returned (.bool (th x))∧Ext W w') :
  Calls Tryz.prog 148 #[.pointer (some ⟨R,0,none⟩),.func (.func 149) #[] #[.pointer (some q)]] w fun e w'=>PL B R M w vn vs (fun x=>.string x) (nameR s th) e w':=by
 have hkw:=fun W (hW:Wd W)=>keyword_any (hd s.l).s W hW
 have hnm:=fun W=>name_any (hd s.l).s hsz W
 have hf:=fun (y:Int) W (hW:Rs B W R M vl vn vs s)=>fail_any y W hW
 obtain⟨t,ht⟩:∃t,Hid (hd s.l=t):=⟨_,rfl⟩
 have hcl:=fun W hW=>hcl W hW t.s
 obtain⟨T,hT⟩:∃T,Hid (th t.s=T):=⟨_,rfl⟩
 obtain⟨KW,hKW⟩:∃T,Hid (kwP t.s=T):=⟨_,rfl⟩
 obtain⟨NP,hNP⟩:∃T,Hid (nameP t.s=T):=⟨_,rfl⟩
 simp only[ht.out,hT.out,hKW.out,hNP.out] at hkw hnm hf hcl
 obtain⟨RS,hRS⟩:∃r,Hid (nameR s th=r):=⟨_,rfl⟩
 have hRS2:RS=if t.k≠0∨KW=true∨NP=false then .bad t.a 4 else if T then .bad t.a 6 else .ok t.s s.on:=by
  rw[←hRS.out,nameR,ht.out,hKW.out,hNP.out,hT.out];simp only[failR,ht.out]
 rw[hRS.out]
 have hRS3:=Lib.hid hRS2
 clear hRS2
 obtain⟨tg,off,cap,rfl,hp,hnc,hcm,hh⟩:=h.head
 obtain⟨c0,c1,c2,f0,f1⟩:=h.cells
 obtain⟨k0,k1,k2⟩:=hh w (Ext.refl w)
 obtain⟨n,hn⟩:∃n,Hid (s.l.length=n):=⟨_,rfl⟩
 rw[hn.out] at c0 hp hnc
 rw[ht.out] at k0 k1 k2
 have hp':(0:Int)<(n:Int):=by omega
 have hx1:Ext w (w.alloc (.cells #[.int .i64 t.k,.string t.s,.int .i64 (t.a:Int)] 102)):=(Ext.refl w).alloc _
 have hb1:Blk (w.alloc (.cells #[.int .i64 t.k,.string t.s,.int .i64 (t.a:Int)] 102)) w.heap.size #[.int .i64 t.k,.string t.s,.int .i64 (t.a:Int)] 102:=Blk.new w _ _
 generalize hw1:w.alloc (.cells #[.int .i64 t.k,.string t.s,.int .i64 (t.a:Int)] 102)=w1 at hx1 hb1
 have h1:=h.ext hx1
 have hkw:=hkw w1 h1.wd
 have hnm:=hnm w1
 have hf1:=fun y=>hf y w1 h1
 have hcl1:=hcl w1 hx1 (by first|rfl|trivial)
 have d0:w1.cell? ⟨w.heap.size,0,none⟩=some (.int .i64 t.k):=hb1.cell 0
 have d1:w1.cell? ⟨w.heap.size,1,none⟩=some (.string t.s):=hb1.cell 1
 have Hw1:=Lib.hid hw1
 clear hw1 hcl
 by_cases hk0:t.k=0
 ·have hkb:((t.k:Int) == 0)=true:=by simpa using hk0
  have hkn:((t.k:Int) != 0)=false:=by simpa using hk0
  have Hw2:=Hw1.out
  rw[hk0] at Hw2
  replace Hw1:=Lib.hid Hw2
  clear Hw2
  cases hKc:KW with
  | true=>
   subst hKc
   have hr:RS=.bad t.a 4:=by rw[hRS3.out];simp
   rw[hr]
   go_enter Tryz.func148,Tryz.ntmps148
   go_wp2_with fail
   rw[Hw1.out]
   refine hkw.mono ?_
   rintro e w2 ⟨rfl,rfl⟩
   go_wp2_with fail
   refine (hf1 4).mono ?_
   rintro e w2 ⟨rfl,rfl⟩
   go_wp2_with fail
   exact⟨rfl,PL.badI rfl rfl (Chg.ofExt hx1)⟩
  | false=>
   subst hKc
   cases hNc:NP with
   | false=>
    subst hNc
    have hr:RS=.bad t.a 4:=by rw[hRS3.out];simp
    rw[hr]
    go_enter Tryz.func148,Tryz.ntmps148
    go_wp2_with fail
    rw[Hw1.out]
    refine hkw.mono ?_
    rintro e w2 ⟨rfl,rfl⟩
    go_wp2_with fail
    refine hnm.mono ?_
    rintro e w2 ⟨rfl,hw⟩
    subst hw
    go_wp2_with fail
    refine (hf1 4).mono ?_
    rintro e w2 ⟨rfl,rfl⟩
    go_wp2_with fail
    exact⟨rfl,PL.badI rfl rfl (Chg.ofExt hx1)⟩
   | true=>
    subst hNc
    cases hTc:T with
    | true=>
     subst hTc
     have hr:RS=.bad t.a 6:=by rw[hRS3.out];simp[hk0]
     rw[hr]
     go_enter Tryz.func148,Tryz.ntmps148
     go_wp2_with fail
     rw[Hw1.out]
     refine hkw.mono ?_
     rintro e w2 ⟨rfl,rfl⟩
     go_wp2_with fail
     refine hnm.mono ?_
     rintro e w2 ⟨rfl,hw⟩
     subst hw
     go_wp2_with fail
     refine hcl1.mono ?_
     rintro e w3 ⟨rfl,hx3⟩
     go_wp2_with fail
     refine (hf 6 w3 (h1.ext hx3)).mono ?_
     rintro e w4 ⟨rfl,rfl⟩
     go_wp2_with fail
     exact⟨rfl,PL.badI rfl rfl (Chg.ofExt (hx1.trans hx3))⟩
    | false=>
     subst hTc
     have hr:RS=.ok t.s s.on:=by rw[hRS3.out];simp[hk0]
     rw[hr]
     have hk:(hd s.l).k≠3:=by rw[ht.out,hk0];decide
     have hl:=(h.tok.tail hk).2
     have hp2:=(h.tok.tail hk).1.pos
     rw[hn.out] at hl
     have hi1:1≤n:=hp
     have hc1:¬cap=1:=by omega
     have hcI:(1:Int)≤(n:Int):=by omega
     clear hk
     go_enter Tryz.func148,Tryz.ntmps148
     go_wp2_with fail
     rw[Hw1.out]
     refine hkw.mono ?_
     rintro e w2 ⟨rfl,rfl⟩
     go_wp2_with fail
     refine hnm.mono ?_
     rintro e w2 ⟨rfl,hw⟩
     subst hw
     go_wp2_with fail
     refine hcl1.mono ?_
     rintro e w3 ⟨rfl,hx3⟩
     have h3:=h1.ext hx3
     have hk:(hd s.l).k≠3:=by rw[ht.out,hk0];decide
     have hon:=h3.on hk
     obtain⟨q0,q1,q2,g0,g1⟩:=h3.cells
     rw[hn.out] at hon q0
     have hb3:=hb1.ext hx3
     have hsep:¬w.heap.size=R:=by have:=h.blk.lt;omega
     have hb4:=(Chg.one w3 R 0 (.slice (some ⟨tg,off+3,none⟩) (n-1) (cap-1))).blk hb3 hsep
     have d4:(w3.setCell ⟨R,0,none⟩ (.slice (some ⟨tg,off+3,none⟩) (n-1) (cap-1))).cell? ⟨w.heap.size,1,none⟩=some (.string t.s):=hb4.cell 1
     clear hk
     go_wp2_with fail
     go_ret
     exact PL.okI rfl rfl (Chg.set (S:=fun k=>k=R) (p:=⟨R,0,none⟩) (Chg.ofExt (hx1.trans hx3)) (.inl rfl) _) hon
 ·have hkb:((t.k:Int) == 0)=false:=by simpa using hk0
  have hkn:((t.k:Int) != 0)=true:=by simpa using hk0
  have hr:RS=.bad t.a 4:=by rw[hRS3.out];simp[hk0]
  rw[hr]
  go_enter Tryz.func148,Tryz.ntmps148
  go_wp2_with fail
  rw[Hw1.out]
  refine (hf1 4).mono ?_
  rintro e w2 ⟨rfl,rfl⟩
  go_wp2_with fail
  exact⟨rfl,PL.badI rfl rfl (Chg.ofExt hx1)⟩
theorem name_syms (th:ByteArray→Bool) (q:Addr) (w:World) (h:Rs B w R M vl vn vs s) (hsz:(hd s.l).s.size≤140737488351232) (hcl:∀W,Ext w W→∀x,x=(hd s.l).s→Calls Tryz.prog 160 #[.string x,.pointer (some q)] W fun e w'=>e=.returned (.bool (th x))∧Ext W w') :
  Calls Tryz.prog 148 #[.pointer (some ⟨R,0,none⟩),.func (.func 160) #[] #[.pointer (some q)]] w fun e w'=>PL B R M w vn vs (fun x=>.string x) (nameR s th) e w':=by
 have hkw:=fun W (hW:Wd W)=>keyword_any (hd s.l).s W hW
 have hnm:=fun W=>name_any (hd s.l).s hsz W
 have hf:=fun (y:Int) W (hW:Rs B W R M vl vn vs s)=>fail_any y W hW
 obtain⟨t,ht⟩:∃t,Hid (hd s.l=t):=⟨_,rfl⟩
 have hcl:=fun W hW=>hcl W hW t.s
 obtain⟨T,hT⟩:∃T,Hid (th t.s=T):=⟨_,rfl⟩
 obtain⟨KW,hKW⟩:∃T,Hid (kwP t.s=T):=⟨_,rfl⟩
 obtain⟨NP,hNP⟩:∃T,Hid (nameP t.s=T):=⟨_,rfl⟩
 simp only[ht.out,hT.out,hKW.out,hNP.out] at hkw hnm hf hcl
 obtain⟨RS,hRS⟩:∃r,Hid (nameR s th=r):=⟨_,rfl⟩
 have hRS2:RS=if t.k≠0∨KW=true∨NP=false then .bad t.a 4 else if T then .bad t.a 6 else .ok t.s s.on:=by
  rw[←hRS.out,nameR,ht.out,hKW.out,hNP.out,hT.out];simp only[failR,ht.out]
 rw[hRS.out]
 have hRS3:=Lib.hid hRS2
 clear hRS2
 obtain⟨tg,off,cap,rfl,hp,hnc,hcm,hh⟩:=h.head
 obtain⟨c0,c1,c2,f0,f1⟩:=h.cells
 obtain⟨k0,k1,k2⟩:=hh w (Ext.refl w)
 obtain⟨n,hn⟩:∃n,Hid (s.l.length=n):=⟨_,rfl⟩
 rw[hn.out] at c0 hp hnc
 rw[ht.out] at k0 k1 k2
 have hp':(0:Int)<(n:Int):=by omega
 have hx1:Ext w (w.alloc (.cells #[.int .i64 t.k,.string t.s,.int .i64 (t.a:Int)] 102)):=(Ext.refl w).alloc _
 have hb1:Blk (w.alloc (.cells #[.int .i64 t.k,.string t.s,.int .i64 (t.a:Int)] 102)) w.heap.size #[.int .i64 t.k,.string t.s,.int .i64 (t.a:Int)] 102:=Blk.new w _ _
 generalize hw1:w.alloc (.cells #[.int .i64 t.k,.string t.s,.int .i64 (t.a:Int)] 102)=w1 at hx1 hb1
 have h1:=h.ext hx1
 have hkw:=hkw w1 h1.wd
 have hnm:=hnm w1
 have hf1:=fun y=>hf y w1 h1
 have hcl1:=hcl w1 hx1 (by first|rfl|trivial)
 have d0:w1.cell? ⟨w.heap.size,0,none⟩=some (.int .i64 t.k):=hb1.cell 0
 have d1:w1.cell? ⟨w.heap.size,1,none⟩=some (.string t.s):=hb1.cell 1
 have Hw1:=Lib.hid hw1
 clear hw1 hcl
 by_cases hk0:t.k=0
 ·have hkb:((t.k:Int) == 0)=true:=by simpa using hk0
  have hkn:((t.k:Int) != 0)=false:=by simpa using hk0
  have Hw2:=Hw1.out
  rw[hk0] at Hw2
  replace Hw1:=Lib.hid Hw2
  clear Hw2
  cases hKc:KW with
  | true=>
   subst hKc
   have hr:RS=.bad t.a 4:=by rw[hRS3.out];simp
   rw[hr]
   go_enter Tryz.func148,Tryz.ntmps148
   go_wp2_with fail
   rw[Hw1.out]
   refine hkw.mono ?_
   rintro e w2 ⟨rfl,rfl⟩
   go_wp2_with fail
   refine (hf1 4).mono ?_
   rintro e w2 ⟨rfl,rfl⟩
   go_wp2_with fail
   exact⟨rfl,PL.badI rfl rfl (Chg.ofExt hx1)⟩
  | false=>
   subst hKc
   cases hNc:NP with
   | false=>
    subst hNc
    have hr:RS=.bad t.a 4:=by rw[hRS3.out];simp
    rw[hr]
    go_enter Tryz.func148,Tryz.ntmps148
    go_wp2_with fail
    rw[Hw1.out]
    refine hkw.mono ?_
    rintro e w2 ⟨rfl,rfl⟩
    go_wp2_with fail
    refine hnm.mono ?_
    rintro e w2 ⟨rfl,hw⟩
    subst hw
    go_wp2_with fail
    refine (hf1 4).mono ?_
    rintro e w2 ⟨rfl,rfl⟩
    go_wp2_with fail
    exact⟨rfl,PL.badI rfl rfl (Chg.ofExt hx1)⟩
   | true=>
    subst hNc
    cases hTc:T with
    | true=>
     subst hTc
     have hr:RS=.bad t.a 6:=by rw[hRS3.out];simp[hk0]
     rw[hr]
     go_enter Tryz.func148,Tryz.ntmps148
     go_wp2_with fail
     rw[Hw1.out]
     refine hkw.mono ?_
     rintro e w2 ⟨rfl,rfl⟩
     go_wp2_with fail
     refine hnm.mono ?_
     rintro e w2 ⟨rfl,hw⟩
     subst hw
     go_wp2_with fail
     refine hcl1.mono ?_
     rintro e w3 ⟨rfl,hx3⟩
     go_wp2_with fail
     refine (hf 6 w3 (h1.ext hx3)).mono ?_
     rintro e w4 ⟨rfl,rfl⟩
     go_wp2_with fail
     exact⟨rfl,PL.badI rfl rfl (Chg.ofExt (hx1.trans hx3))⟩
    | false=>
     subst hTc
     have hr:RS=.ok t.s s.on:=by rw[hRS3.out];simp[hk0]
     rw[hr]
     have hk:(hd s.l).k≠3:=by rw[ht.out,hk0];decide
     have hl:=(h.tok.tail hk).2
     have hp2:=(h.tok.tail hk).1.pos
     rw[hn.out] at hl
     have hi1:1≤n:=hp
     have hc1:¬cap=1:=by omega
     have hcI:(1:Int)≤(n:Int):=by omega
     clear hk
     go_enter Tryz.func148,Tryz.ntmps148
     go_wp2_with fail
     rw[Hw1.out]
     refine hkw.mono ?_
     rintro e w2 ⟨rfl,rfl⟩
     go_wp2_with fail
     refine hnm.mono ?_
     rintro e w2 ⟨rfl,hw⟩
     subst hw
     go_wp2_with fail
     refine hcl1.mono ?_
     rintro e w3 ⟨rfl,hx3⟩
     have h3:=h1.ext hx3
     have hk:(hd s.l).k≠3:=by rw[ht.out,hk0];decide
     have hon:=h3.on hk
     obtain⟨q0,q1,q2,g0,g1⟩:=h3.cells
     rw[hn.out] at hon q0
     have hb3:=hb1.ext hx3
     have hsep:¬w.heap.size=R:=by have:=h.blk.lt;omega
     have hb4:=(Chg.one w3 R 0 (.slice (some ⟨tg,off+3,none⟩) (n-1) (cap-1))).blk hb3 hsep
     have d4:(w3.setCell ⟨R,0,none⟩ (.slice (some ⟨tg,off+3,none⟩) (n-1) (cap-1))).cell? ⟨w.heap.size,1,none⟩=some (.string t.s):=hb4.cell 1
     clear hk
     go_wp2_with fail
     go_ret
     exact PL.okI rfl rfl (Chg.set (S:=fun k=>k=R) (p:=⟨R,0,none⟩) (Chg.ofExt (hx1.trans hx3)) (.inl rfl) _) hon
 ·have hkb:((t.k:Int) == 0)=false:=by simpa using hk0
  have hkn:((t.k:Int) != 0)=true:=by simpa using hk0
  have hr:RS=.bad t.a 4:=by rw[hRS3.out];simp[hk0]
  rw[hr]
  go_enter Tryz.func148,Tryz.ntmps148
  go_wp2_with fail
  rw[Hw1.out]
  refine (hf1 4).mono ?_
  rintro e w2 ⟨rfl,rfl⟩
  go_wp2_with fail
  exact⟨rfl,PL.badI rfl rfl (Chg.ofExt hx1)⟩
theorem name_fields (th:ByteArray→Bool) (q:Addr) (w:World) (h:Rs B w R M vl vn vs s) (hsz:(hd s.l).s.size≤140737488351232) (hcl:∀W,Ext w W→∀x,x=(hd s.l).s→Calls Tryz.prog 161 #[.string x,.pointer (some q)] W fun e w'=>e=.returned (.bool (th x))∧Ext W w') :
  Calls Tryz.prog 148 #[.pointer (some ⟨R,0,none⟩),.func (.func 161) #[] #[.pointer (some q)]] w fun e w'=>PL B R M w vn vs (fun x=>.string x) (nameR s th) e w':=by
 have hkw:=fun W (hW:Wd W)=>keyword_any (hd s.l).s W hW
 have hnm:=fun W=>name_any (hd s.l).s hsz W
 have hf:=fun (y:Int) W (hW:Rs B W R M vl vn vs s)=>fail_any y W hW
 obtain⟨t,ht⟩:∃t,Hid (hd s.l=t):=⟨_,rfl⟩
 have hcl:=fun W hW=>hcl W hW t.s
 obtain⟨T,hT⟩:∃T,Hid (th t.s=T):=⟨_,rfl⟩
 obtain⟨KW,hKW⟩:∃T,Hid (kwP t.s=T):=⟨_,rfl⟩
 obtain⟨NP,hNP⟩:∃T,Hid (nameP t.s=T):=⟨_,rfl⟩
 simp only[ht.out,hT.out,hKW.out,hNP.out] at hkw hnm hf hcl
 obtain⟨RS,hRS⟩:∃r,Hid (nameR s th=r):=⟨_,rfl⟩
 have hRS2:RS=if t.k≠0∨KW=true∨NP=false then .bad t.a 4 else if T then .bad t.a 6 else .ok t.s s.on:=by
  rw[←hRS.out,nameR,ht.out,hKW.out,hNP.out,hT.out];simp only[failR,ht.out]
 rw[hRS.out]
 have hRS3:=Lib.hid hRS2
 clear hRS2
 obtain⟨tg,off,cap,rfl,hp,hnc,hcm,hh⟩:=h.head
 obtain⟨c0,c1,c2,f0,f1⟩:=h.cells
 obtain⟨k0,k1,k2⟩:=hh w (Ext.refl w)
 obtain⟨n,hn⟩:∃n,Hid (s.l.length=n):=⟨_,rfl⟩
 rw[hn.out] at c0 hp hnc
 rw[ht.out] at k0 k1 k2
 have hp':(0:Int)<(n:Int):=by omega
 have hx1:Ext w (w.alloc (.cells #[.int .i64 t.k,.string t.s,.int .i64 (t.a:Int)] 102)):=(Ext.refl w).alloc _
 have hb1:Blk (w.alloc (.cells #[.int .i64 t.k,.string t.s,.int .i64 (t.a:Int)] 102)) w.heap.size #[.int .i64 t.k,.string t.s,.int .i64 (t.a:Int)] 102:=Blk.new w _ _
 generalize hw1:w.alloc (.cells #[.int .i64 t.k,.string t.s,.int .i64 (t.a:Int)] 102)=w1 at hx1 hb1
 have h1:=h.ext hx1
 have hkw:=hkw w1 h1.wd
 have hnm:=hnm w1
 have hf1:=fun y=>hf y w1 h1
 have hcl1:=hcl w1 hx1 (by first|rfl|trivial)
 have d0:w1.cell? ⟨w.heap.size,0,none⟩=some (.int .i64 t.k):=hb1.cell 0
 have d1:w1.cell? ⟨w.heap.size,1,none⟩=some (.string t.s):=hb1.cell 1
 have Hw1:=Lib.hid hw1
 clear hw1 hcl
 by_cases hk0:t.k=0
 ·have hkb:((t.k:Int) == 0)=true:=by simpa using hk0
  have hkn:((t.k:Int) != 0)=false:=by simpa using hk0
  have Hw2:=Hw1.out
  rw[hk0] at Hw2
  replace Hw1:=Lib.hid Hw2
  clear Hw2
  cases hKc:KW with
  | true=>
   subst hKc
   have hr:RS=.bad t.a 4:=by rw[hRS3.out];simp
   rw[hr]
   go_enter Tryz.func148,Tryz.ntmps148
   go_wp2_with fail
   rw[Hw1.out]
   refine hkw.mono ?_
   rintro e w2 ⟨rfl,rfl⟩
   go_wp2_with fail
   refine (hf1 4).mono ?_
   rintro e w2 ⟨rfl,rfl⟩
   go_wp2_with fail
   exact⟨rfl,PL.badI rfl rfl (Chg.ofExt hx1)⟩
  | false=>
   subst hKc
   cases hNc:NP with
   | false=>
    subst hNc
    have hr:RS=.bad t.a 4:=by rw[hRS3.out];simp
    rw[hr]
    go_enter Tryz.func148,Tryz.ntmps148
    go_wp2_with fail
    rw[Hw1.out]
    refine hkw.mono ?_
    rintro e w2 ⟨rfl,rfl⟩
    go_wp2_with fail
    refine hnm.mono ?_
    rintro e w2 ⟨rfl,hw⟩
    subst hw
    go_wp2_with fail
    refine (hf1 4).mono ?_
    rintro e w2 ⟨rfl,rfl⟩
    go_wp2_with fail
    exact⟨rfl,PL.badI rfl rfl (Chg.ofExt hx1)⟩
   | true=>
    subst hNc
    cases hTc:T with
    | true=>
     subst hTc
     have hr:RS=.bad t.a 6:=by rw[hRS3.out];simp[hk0]
     rw[hr]
     go_enter Tryz.func148,Tryz.ntmps148
     go_wp2_with fail
     rw[Hw1.out]
     refine hkw.mono ?_
     rintro e w2 ⟨rfl,rfl⟩
     go_wp2_with fail
     refine hnm.mono ?_
     rintro e w2 ⟨rfl,hw⟩
     subst hw
     go_wp2_with fail
     refine hcl1.mono ?_
     rintro e w3 ⟨rfl,hx3⟩
     go_wp2_with fail
     refine (hf 6 w3 (h1.ext hx3)).mono ?_
     rintro e w4 ⟨rfl,rfl⟩
     go_wp2_with fail
     exact⟨rfl,PL.badI rfl rfl (Chg.ofExt (hx1.trans hx3))⟩
    | false=>
     subst hTc
     have hr:RS=.ok t.s s.on:=by rw[hRS3.out];simp[hk0]
     rw[hr]
     have hk:(hd s.l).k≠3:=by rw[ht.out,hk0];decide
     have hl:=(h.tok.tail hk).2
     have hp2:=(h.tok.tail hk).1.pos
     rw[hn.out] at hl
     have hi1:1≤n:=hp
     have hc1:¬cap=1:=by omega
     have hcI:(1:Int)≤(n:Int):=by omega
     clear hk
     go_enter Tryz.func148,Tryz.ntmps148
     go_wp2_with fail
     rw[Hw1.out]
     refine hkw.mono ?_
     rintro e w2 ⟨rfl,rfl⟩
     go_wp2_with fail
     refine hnm.mono ?_
     rintro e w2 ⟨rfl,hw⟩
     subst hw
     go_wp2_with fail
     refine hcl1.mono ?_
     rintro e w3 ⟨rfl,hx3⟩
     have h3:=h1.ext hx3
     have hk:(hd s.l).k≠3:=by rw[ht.out,hk0];decide
     have hon:=h3.on hk
     obtain⟨q0,q1,q2,g0,g1⟩:=h3.cells
     rw[hn.out] at hon q0
     have hb3:=hb1.ext hx3
     have hsep:¬w.heap.size=R:=by have:=h.blk.lt;omega
     have hb4:=(Chg.one w3 R 0 (.slice (some ⟨tg,off+3,none⟩) (n-1) (cap-1))).blk hb3 hsep
     have d4:(w3.setCell ⟨R,0,none⟩ (.slice (some ⟨tg,off+3,none⟩) (n-1) (cap-1))).cell? ⟨w.heap.size,1,none⟩=some (.string t.s):=hb4.cell 1
     clear hk
     go_wp2_with fail
     go_ret
     exact PL.okI rfl rfl (Chg.set (S:=fun k=>k=R) (p:=⟨R,0,none⟩) (Chg.ofExt (hx1.trans hx3)) (.inl rfl) _) hon
 ·have hkb:((t.k:Int) == 0)=false:=by simpa using hk0
  have hkn:((t.k:Int) != 0)=true:=by simpa using hk0
  have hr:RS=.bad t.a 4:=by rw[hRS3.out];simp[hk0]
  rw[hr]
  go_enter Tryz.func148,Tryz.ntmps148
  go_wp2_with fail
  rw[Hw1.out]
  refine (hf1 4).mono ?_
  rintro e w2 ⟨rfl,rfl⟩
  go_wp2_with fail
  exact⟨rfl,PL.badI rfl rfl (Chg.ofExt hx1)⟩
end
theorem ndsC_modify:∀(ns:List Nd) (vs:List V3) (n i:Nat) (f:Nd→Nd) (g:V3→V3) (u:Value),vs.length=ns.length→i<6→(∀d v,ns[n]?=some d→vs[n]?=some v→ndC (f d) (g v)=(ndC d v).set i u)→n<ns.length→
  ndsC (ns.modify n f) (vs.modify n g)=(ndsC ns vs).set (n*6+i) u
 | [],vs,n,i,f,g,u,_,_,_,h=>by simp at h
 | d::ns,[],n,i,f,g,u,h,_,_,_=>by simp at h
 | d::ns,v::vs,0,i,f,g,u,hl,hi,hq,_=>by
  have h:=hq d v rfl rfl
  simp only[List.modify_zero_cons,ndsC,h]
  rw[List.set_append_left _ _ (by simp[ndC];omega)]
  simp
 | d::ns,v::vs,n+1,i,f,g,u,hl,hi,hq,hn=>by
  have ih:=ndsC_modify ns vs n i f g u (by simpa using hl) hi (fun d v h1 h2=>hq d v (by simpa using h1) (by simpa using h2)) (by simpa using hn)
  simp only[List.modify_succ_cons,ndsC,ih]
  have e:(ndC d v).length=6:=rfl
  rw[List.set_append_right _ _ (by rw[e];omega),e]
  congr 2
  omega
section
variable {B R M:Nat} {vl vn:Value} {vs:List V3} {s:PS}
theorem Rs.rowb {w:World} (h:Rs B w R M vl vn vs s) (n:Nat) (hn:n<s.ns.length):∃b c cur,vn=.slice (some ⟨b,0,none⟩) s.ns.length c∧B≤b∧Blk w b cur 47∧s.ns.length≤c∧c≤maxLen∧cur.size=c*6∧cur.toList.take (s.ns.length*6)=ndsC s.ns vs:=by
 rcases h.nds.row.2 with⟨_,h0⟩|⟨b,c,cur,e,hb,hg,h1,h2,h3,h4⟩
 ·omega
 ·exact⟨b,c,cur,e,hb,hg,h1,h2,h3,h4⟩
theorem Rs.fill {w:World} {b c n i:Nat} (h:Rs B w R M vl (.slice (some ⟨b,0,none⟩) s.ns.length c) vs s) (hn:n<s.ns.length) (hi:i<6) (f:Nd→Nd) (g:V3→V3) (u:Value) (hq:∀d v,s.ns[n]?=some d→vs[n]?=some v→ndC (f d) (g v)=(ndC d v).set i u∧Sub B w (f d) (g v)) :
  Rs B (w.setCell ⟨b,n*6+i,none⟩ u) R M vl (.slice (some ⟨b,0,none⟩) s.ns.length c) (vs.modify n g) (s.setN n f):=by
 obtain⟨b',c',cur,e,hb,hg,h1,h2,h3,h4⟩:=h.rowb n hn
 injection e with e e1 e2
 simp only[Option.some.injEq,Addr.mk.injEq,and_true] at e
 subst e;subst e2
 have hch:=Chg.one w b (n*6+i) u
 obtain⟨_,hRM,hnR,hnM⟩:=h.sep
 have hb2:Blk (w.setCell ⟨b,n*6+i,none⟩ u) b (cur.setIfInBounds (n*6+i) u) 47:=hg.set _ _
 have hl:(s.ns.modify n f).length=s.ns.length:=by simp
 refine h.renode hch (fun k e=>.inr (.inr (by rw[show k=b from e];rfl))) (hch.blk h.blk (fun e=>hnR (by rw[show R=b from e];rfl))) (fun e=>hnM (by rw[show M=b from e];rfl)) ?_ ?_ ?_ ?_ ?_
 ·rw[hl]
  refine⟨by rw[ndsC_length _ _ (by simp[h.nds.len]),hl],.inr ⟨b,c,_,rfl,hb,hb2,h1,h2,by rw[Array.size_setIfInBounds];exact h3,?_⟩⟩
  rw[Array.toList_setIfInBounds,List.take_set,h4]
  exact (ndsC_modify s.ns vs n i f g u h.nds.len hi (fun d v a1 a2=>(hq d v a1 a2).1) hn).symm
 ·simp[h.nds.len]
 ·intro j d v q1 q2
  rw[List.getElem?_modify] at q1 q2
  by_cases hj:n=j
  ·subst hj
   simp only[if_true] at q1 q2
   obtain⟨d0,h5,rfl⟩:=Option.map_eq_some_iff.1 q1
   obtain⟨w0,h6,rfl⟩:=Option.map_eq_some_iff.1 q2
   exact (hq d0 w0 h5 h6).2
  ·simp[hj] at q1 q2
   exact h.nds.sub j d v q1 q2
 ·rw[hl];exact Nat.le_refl _
 ·rw[hl];exact h.nl
theorem Wr.back {w:World} {vn':Value} (hf:Fresh w vn vn'):∀i,i<w.heap.size→Wr R M vn' i→Wr R M vn i:=by
 rintro i hi (e|e|e)
 ·exact .inl e
 ·exact .inr (.inl e)
 ·rcases hf with h|⟨k,h,hk⟩
  ·exact .inr (.inr (by rw[←h];exact e))
  ·rw[h] at e;injection e with e;omega
theorem Fresh.trans {w w':World} {a b c:Value} (h:Fresh w a b) (k:Fresh w' b c) (hs:w.heap.size≤w'.heap.size):Fresh w a c:=by
 rcases k with e|⟨j,e,hj⟩
 ·rcases h with e2|⟨i,e2,hi⟩
  ·exact .inl (e.trans e2)
  ·exact .inr ⟨i,e.trans e2,hi⟩
 ·exact .inr ⟨j,e,by omega⟩
theorem PW.after {w w2 w':World} {vn2:Value} {α:Type} {enc:α→Value} {r:Res α} {e:Ending} {vs2:List V3} (hc:Chg (Wr R M vn) w w2) (hf:Fresh w vn vn2) (hg:SF w vs vs2) (h:PW B R M w2 vn2 vs2 enc r e w'):PW B R M w vn vs enc r e w':=by
 rcases h.cases with⟨a,s',vl',vn',vs',hr,he,hc2,hs,hf2,hg2⟩|⟨a,y,hr,he,hc2⟩
 ·exact PW.okI hr.out he (hc.trans hc2 (Wr.back hf)) hs (hf.trans hf2 hc.size) (hg.trans hg2 hc.size)
 ·exact PW.badI hr.out he (hc.trans hc2 (Wr.back hf))
theorem sf_modify (w:World) (vs:List V3) (n:Nat) (g:V3→V3) (h:∀v,vs[n]?=some v→(∀k,(g v).1.ownBlock=some k→w.heap.size≤k∨v.1.ownBlock=some k)∧(∀k,(g v).2.1.ownBlock=some k→w.heap.size≤k∨v.2.1.ownBlock=some k)∧(∀k,(g v).2.2.ownBlock=some k→w.heap.size≤k∨v.2.2.ownBlock=some k)):SF w vs (vs.modify n g):=fun i v' hv=>by
 rw[List.getElem?_modify] at hv
 by_cases hj:n=i
 ·subst hj
  simp only[if_true] at hv
  obtain⟨v,h5,rfl⟩:=Option.map_eq_some_iff.1 hv
  obtain⟨a1,a2,a3⟩:=h v h5
  exact⟨fun k hk=>(a1 k hk).imp (fun e=>e) (fun e=>⟨v,h5,e⟩),fun k hk=>(a2 k hk).imp (fun e=>e) (fun e=>⟨v,h5,e⟩),fun k hk=>(a3 k hk).imp (fun e=>e) (fun e=>⟨v,h5,e⟩)⟩
 ·simp[hj] at hv
  exact SF.refl w vs i v' hv
def TypC (B R M:Nat) (deep fuel:Nat):Prop:=∀(union:Bool) (ahead:List Nat) (A:Option Addr) (na ca:Nat) (s:PS) (w:World) (vl vn:Value) (vs:List V3),Rs B w R M vl vn vs s→Rd w A (ints ahead)→ahead.length=na→na≤2000→(∀m∈ahead,m<s.ns.length)→B≤w.heap.size→
 Calls Tryz.prog 114 #[.pointer (some ⟨R,0,none⟩),.int .i64 (deep:Int),.bool union,.slice A na ca] w fun e w'=>PW B R M w vn vs (fun n:Nat=>.int .i64 (n:Int)) (typedR fuel union ahead s) e w'
theorem item_any {deep fuel:Nat} (H:TypC B R M (deep+1) fuel) (hd20:deep≤100) (n:Nat) (x:ByteArray) (w:World) (h:Rs B w R M vl vn vs s) (hn:n<s.ns.length) (hB:B≤w.heap.size) :
  Calls Tryz.prog 128 #[.pointer (some ⟨R,0,none⟩),.int .i64 (n:Int),.int .i64 (deep:Int),.string x] w fun e w'=>PW B R M w vn vs (fun _=>.tuple #[]) (itemR (typedR fuel) s n x) e w':=by
 have hT:=H false [] none 0 0 s w vl vn vs h (Rd.nil _ _) rfl (by omega) (by simp) hB
 have hdw:IntKind.i64.wrap ((deep:Int)+1)=((deep+1:Nat):Int):=by rw[IntKind.wrap_i64];omega
 have hln:=fun m s'=>typedR_len fuel false [] s m s'
 have hre:itemR (typedR fuel) s n x=(typedR fuel false [] s).bind fun y s1=>mustR (s1.setN n fun d=>{ d with items:=[y] }) x:=rfl
 rw[hre]
 obtain⟨PO,hPO⟩:∃PO:Ending→World→Prop,Hid ((fun e w'=>PW B R M w vn vs (fun _=>.tuple #[]) ((typedR fuel false [] s).bind fun y s1=>mustR (s1.setN n fun d=>{ d with items:=[y] }) x) e w')=PO):=⟨_,rfl⟩
 rw[hPO.out]
 rw[show ((deep+1:Nat):Int)=(deep:Int)+1 by omega] at hT hdw
 go_enter Tryz.func128,Tryz.ntmps128
 go_wp2_with fail
 refine hT.mono ?_
 intro e w1 hpw
 rcases hpw.cases with⟨m,s1,vl1,vn1,vs1,hr,rfl,hc1,h1,hf1,hg1⟩|⟨at_,why,hr,rfl,hc1⟩
 ·have hn1:n<s1.ns.length:=Nat.lt_of_lt_of_le hn (hln m s1 hr.out).1
  obtain⟨b,c,cur,rfl,hbB,hgb,hk1,hk2,hk3,hk4⟩:=h1.rowb n hn1
  obtain⟨d,v,b',c',hd1,hv1,eb,_,_,hcell⟩:=h1.node n hn1
  injection eb with eb eb1 eb2
  simp only[Option.some.injEq,Addr.mk.injEq,and_true] at eb
  subst eb;subst eb2
  have hs1:=hc1.size
  have ha:Ext w1 (w1.alloc (.cells #[.int .i64 (m:Int)] 3)):=(Ext.refl w1).alloc _
  have h2:=h1.ext ha
  have q1:=h2.cells.2.1
  have q4:(w1.alloc (.cells #[.int .i64 (m:Int)] 3)).cell? ⟨b,n*6+4,none⟩=some v.2.1:=hcell _ ha 4 (by omega)
  have f4:=(hgb.ext ha).frozen (n*6+4)
  have hfill:=h2.fill hn1 (i:=4) (by omega) (fun d=>{ d with items:=[m] }) (fun v=>(v.1,.slice (some ⟨w1.heap.size,0,none⟩) 1 1,v.2.2)) (.slice (some ⟨w1.heap.size,0,none⟩) 1 1) (fun d0 v0 q5 q6=>⟨rfl,by
   have hs:=h2.nds.sub n d0 v0 q5 q6
   exact⟨hs.syms,⟨rfl,.inr ⟨w1.heap.size,1,#[.int .i64 (m:Int)],rfl,by omega,Blk.new w1 _ _,Nat.le_refl _,by unfold maxLen;omega,rfl,rfl⟩⟩,hs.fields⟩⟩)
  have hmust:=must_any x _ hfill
  obtain⟨nn,hnn⟩:∃z,Hid (s1.ns.length=z):=⟨_,rfl⟩
  have q1w:=h1.cells.2.1
  rw[hnn.out] at q1 q1w
  have hnI:(n:Int)<(nn:Int):=by have:=hnn.out;omega
  have hch2:Chg (Wr R M (.slice (some ⟨b,0,none⟩) s1.ns.length c)) w1 ((w1.alloc (.cells #[.int .i64 (m:Int)] 3)).setCell ⟨b,n*6+4,none⟩ (.slice (some ⟨w1.heap.size,0,none⟩) 1 1)):=(Chg.ofExt ha).set (p:=⟨b,n*6+4,none⟩) (.inl (.inr (.inr rfl))) _
  go_wp2_with fail
  rw[hnn.out] at hmust
  refine hmust.mono ?_
  intro e w3 hpl
  have hfin:PW B R M w vn vs (fun _=>.tuple #[]) ((typedR fuel false [] s).bind fun y s1=>mustR (s1.setN n fun d=>{ d with items:=[y] }) x) e w3:=by
   rw[hr.out]
   refine PW.after hc1 hf1 hg1 (PW.after hch2 (.inl rfl) (sf_modify w1 vs1 n (fun v=>(v.1,.slice (some ⟨w1.heap.size,0,none⟩) 1 1,v.2.2)) (fun v hv=>⟨fun k hk=>.inr hk,fun k hk=>.inl (by have hk:some w1.heap.size=some k:=hk;injection hk with hk;omega),fun k hk=>.inr hk⟩)) ?_)
   have:=hpl.pw
   rw[←hnn.out] at this
   exact this
  rcases hpl.cases with⟨_,s3,vl3,hr3,rfl,hc3,h3⟩|⟨at_,why,hr3,rfl,hc3⟩
  ·go_wp2_with fail
   go_end0
   rw[←hPO.out]
   exact hfin
  ·go_wp2_with fail
   rw[←hPO.out]
   exact⟨rfl,hfin⟩
 ·go_wp2_with fail
  rw[←hPO.out]
  refine⟨rfl,PW.badI (by rw[hr.out];rfl) rfl hc1⟩
end
end Pr
namespace Piece
def blk (n:Nat):Code→Option Code
 | .block m c=>bif Nat.beq m n then some c else blk n c
 | .seq a b=>match blk n a with
  | some c=>some c
  | none=>blk n b
 | .cond _ a b=>match blk n a with
  | some c=>some c
  | none=>blk n b
 | .loop c=>blk n c
 | .scope c=>blk n c
 | .rangeFunc _ _ a b=>match blk n a with
  | some c=>some c
  | none=>blk n b
 | _=>none
def loopBody (n:Nat) (c:Option Code):Code:=match c with
 | some c=>match blk n c with
  | some (.loop b)=>b
  | _=>.skip
 | none=>.skip
def Fr (N:Nat) (vs:List Value) (a:Act):Prop:=∃l:List Value,vs.length+l.length=N∧a=⟨(vs++l).toArray,[]⟩
theorem Fr.spread {N:Nat} {vs:List Value} {a:Act} (h:Fr N vs a):∃u:Nat→Value,a=⟨(vs++(List.range' vs.length (N-vs.length)).map u).toArray,[]⟩:=by
 obtain⟨l,hl,rfl⟩:=h
 refine⟨fun i=>l.getD (i-vs.length) undef,?_⟩
 have e:(List.range' vs.length (N-vs.length)).map (fun i=>l.getD (i-vs.length) undef)=l:=by
  apply List.ext_getElem
  ·simp;omega
  ·intro i h1 h2
   simp[List.getD,List.getElem?_eq_getElem h2]
 rw[e]
theorem own_ge {B:Nat} {v v':Value} {w w':World} (hv:v'.ownBlock=v.ownBlock∨v'.ownBlock=some w.heap.size∧w.heap.size<w'.heap.size) (hb:∀k,v.ownBlock=some k→B≤k) (hs:B≤w.heap.size):∀k,v'.ownBlock=some k→B≤k:=fun k hk=>by
 rcases hv with e|e
 ·exact hb k (by rw[←e,hk])
 ·rw[e.1] at hk;injection hk with hk;omega
end Piece
end Go.Proofs.YtllhhpcabncmiaaGreatDoor
