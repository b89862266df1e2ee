/- sha: a block is taken. -/
import Derived.Test.YtbpfabhlngfciaaGreatDoorCdL
import Derived.Deep.MidRow
import Derived.Laws.IdiomCopy
set_option linter.unusedVariables false
set_option linter.unusedSimpArgs false
set_option maxRecDepth 100000
set_option maxHeartbeats 1000000
namespace Go.Proofs.YtbpfabhlngfciaaGreatDoor.ShaW
open Go.ChangeShapes Go.WideShapes Go.ChangeAt Go.RowKit
open ShaP Base
attribute [local go_sem] U_xor U_and U_or U_add U_add' U_not U_shr3 U_shr10
def us (l:List (BitVec 32)):List Value:=l.map fun x=>Value.int .u32 (U x)
theorem us_length (l:List (BitVec 32)):(us l).length=l.length:=by simp[us]
def wtab (l:List (BitVec 32)):Array Value:=(us l++List.replicate (64-l.length) (Value.int .u32 0)).toArray
theorem wtab_at (l:List (BitVec 32)) (i:Nat) (h:i<l.length):(wtab l)[i]?=some (.int .u32 (U (at32 l i))):=by
 simp[wtab,us,at32,List.getElem?_append,h,List.getD,List.getElem?_eq_getElem h]
theorem wtab_next (l:List (BitVec 32)) (h:l.length<64):(wtab l)[l.length]?=some (.int .u32 0):=by
 simp only[wtab,us,List.getElem?_toArray,List.getElem?_append,List.length_map,Nat.lt_irrefl,if_false,Nat.sub_self]
 rw[List.getElem?_replicate];simp;omega
theorem wtab_set (l:List (BitVec 32)) (x:BitVec 32) (h:l.length<64):(wtab l).setIfInBounds l.length (.int .u32 (U x))=wtab (l++[x]):=by
 unfold wtab
 rw[List.setIfInBounds_toArray]
 congr 1
 have e:64-l.length=(64-(l++[x]).length)+1:=by simp;omega
 rw[List.set_append_right _ _ (by simp[us]),e,List.replicate_succ]
 simp[us]
theorem be_forms (a b c d:UInt8):bits BinOp.or IntKind.u32 (bits BinOp.or IntKind.u32 (bits BinOp.or IntKind.u32 ((a.toNat:Int)*16777216) ((b.toNat:Int)*65536)) ((c.toNat:Int)*256)) (d.toNat:Int)=U (be a b c d):=by
 have ha:=a.toNat_lt;have hb:=b.toNat_lt;have hc:=c.toNat_lt;have hd:=d.toNat_lt
 have o1:a.toNat*16777216 ||| b.toNat*65536=a.toNat*16777216+b.toNat*65536:=by
  have:=Nat.two_pow_add_eq_or_of_lt (i:=24) (b:=b.toNat*65536) (by simp only[Nat.reducePow];omega) a.toNat
  simp only[Nat.reducePow] at this
  rw[Nat.mul_comm a.toNat];exact this.symm
 have o2:(a.toNat*256+b.toNat)*65536 ||| c.toNat*256=(a.toNat*256+b.toNat)*65536+c.toNat*256:=by
  have:=Nat.two_pow_add_eq_or_of_lt (i:=16) (b:=c.toNat*256) (by simp only[Nat.reducePow];omega) (a.toNat*256+b.toNat)
  simp only[Nat.reducePow] at this
  rw[Nat.mul_comm _ 65536];exact this.symm
 have o3:((a.toNat*256+b.toNat)*256+c.toNat)*256 ||| d.toNat=((a.toNat*256+b.toNat)*256+c.toNat)*256+d.toNat:=by
  have:=Nat.two_pow_add_eq_or_of_lt (i:=8) (b:=d.toNat) (by simp only[Nat.reducePow];omega) ((a.toNat*256+b.toNat)*256+c.toNat)
  simp only[Nat.reducePow] at this
  rw[Nat.mul_comm _ 256];exact this.symm
 have e1:bits BinOp.or IntKind.u32 ((a.toNat:Int)*16777216) ((b.toNat:Int)*65536)=(((a.toNat*256+b.toNat)*65536:Nat):Int):=by
  have h:=u32_or_nat (a.toNat*16777216) (b.toNat*65536) (by omega) (by omega)
  rw[o1] at h
  rw[show a.toNat*16777216+b.toNat*65536=(a.toNat*256+b.toNat)*65536 by omega] at h
  exact h
 have e2:bits BinOp.or IntKind.u32 (((a.toNat*256+b.toNat)*65536:Nat):Int) ((c.toNat:Int)*256)=((((a.toNat*256+b.toNat)*256+c.toNat)*256:Nat):Int):=by
  have h:=u32_or_nat ((a.toNat*256+b.toNat)*65536) (c.toNat*256) (by omega) (by omega)
  rw[o2] at h
  rw[show (a.toNat*256+b.toNat)*65536+c.toNat*256=((a.toNat*256+b.toNat)*256+c.toNat)*256 by omega] at h
  exact h
 have h:=u32_or_nat (((a.toNat*256+b.toNat)*256+c.toNat)*256) d.toNat (by omega) (by omega)
 rw[o3] at h
 rw[e1,e2,h]
 unfold U be
 rw[BitVec.toNat_ofNat]
 simp only[Nat.reducePow]
 omega
def setMany (d:Array Value):Nat→List Value→Array Value
 | _,[]=>d
 | o,v::r=>setMany (d.setIfInBounds o v) (o+1) r
theorem Blk_sets {g:Nat} {t:TypeId}:∀(vs:List Value) (o:Nat) (d:Array Value) (w:World),Blk w g d t→Blk (w.setCells g o vs) g (setMany d o vs) t
 | [],_,_,_,h=>h
 | v::r,o,d,w,h=>by
  rw[World.setCells,setMany]
  exact Blk_sets r (o+1) _ _ (h.set o v)
theorem Ext_sets {a:World} {g:Nat} (hg:a.heap.size≤g):∀(vs:List Value) (o:Nat) {w:World},Ext a w→Ext a (w.setCells g o vs)
 | [],_,_,h=>h
 | v::r,o,w,h=>by
  rw[World.setCells]
  exact Ext_sets hg r (o+1) (h.setCell hg v)
theorem Blk_far {g h:Nat} {t:TypeId} {d:Array Value} (hne:g≠h):∀(vs:List Value) (o:Nat) {w:World},Blk w g d t→Blk (w.setCells h o vs) g d t
 | [],_,_,b=>b
 | v::r,o,w,b=>by
  rw[World.setCells]
  exact Blk_far hne r (o+1) (b.far (p:=⟨h,o,none⟩) hne v)
theorem us_one (l:List (BitVec 32)):∀u∈us l,u.oneCell'=true:=by
 intro u hu
 simp only[us,List.mem_map] at hu
 obtain⟨c,_,rfl⟩:=hu
 rfl
theorem us_at (l:List (BitVec 32)) (i:Nat) (h:i<l.length):(us l)[i]?=some (.int .u32 (U (at32 l i))):=by
 simp[us,at32,h,List.getD,List.getElem?_eq_getElem h]
theorem wp_copy {P:Program} (w:World) {o:Oper} {a:Act} {K:Act→World→Prop} {Q:Exit→Act→World→Prop} (d s:Operand) (dT sT:TypeId)
  (ho:o.op=.call { callee:=.builtin .copy,args := #[d,s],argTypes := #[dT,sT] }) (vd vs:Value) (hd:a.eval d=vd) (hs:a.eval s=vs) (v:Value) (w':World)
  (hrun:(Builtin.copy_ #[dT,sT] o.type #[vd,vs]).run P w=.ok v w') (h:K (a.put o.dst v) w'):o.wp P a w K Q:=by
 unfold Oper.wp execOp
 simp only[ho,resolve,invoke,builtin,Sem.run_bind,Sem.run_pure,Result.andThen_ok,List.map_toArray,List.map_cons,List.map_nil,hd,hs,hrun]
 exact h
theorem U_s3 (a:BitVec 32):U a / (8:Int)=U (a >>> 3):=U_shr a 3
theorem U_s10 (a:BitVec 32):U a / (1024:Int)=U (a >>> 10):=U_shr a 10
theorem next_form (a b c d:BitVec 32):(((U a+bits BinOp.xor IntKind.u32 (U (tr b 7 ^^^ tr b 18)) (U b / 8))%4294967296+U c)%4294967296+bits BinOp.xor IntKind.u32 (U (tr d 17 ^^^ tr d 19)) (U d / 1024))%4294967296=U (a+s0 b+c+s1 d):=by
 simp only[U_s3,U_s10,U_xor,U_add];rfl
theorem U_not' (a:BitVec 32):bits BinOp.xor IntKind.u32 IntKind.u32.max (U a)=U (~~~a):=U_not a
theorem t1_form (A B e g K X:BitVec 32):(U A+bits BinOp.xor IntKind.u32 (U B) (bits BinOp.and IntKind.u32 (bits BinOp.xor IntKind.u32 IntKind.u32.max (U e)) (U g))+U K+U X)%4294967296=U (A+(B ^^^ (~~~e &&& g))+K+X):=by
 rw[U_not',U_and,U_xor]
 unfold U
 simp only[BitVec.toNat_add,Nat.reducePow]
 omega
theorem copy_src {W:World} {m:Nat} {t:TypeId} {st:ShaP.St} (hb:Blk W m (us st.list).toArray t):∀j v,(us [st.a,st.b,st.c,st.d,st.e,st.f,st.g])[j]?=some v→W.cell? ((⟨m,0,none⟩:Addr).add j)=some v:=by
 intro j v hj
 rw[Addr.add_mid,Nat.zero_add,hb.cell j]
 have h7:j<7:=by have:=(List.getElem?_eq_some_iff.1 hj).1;simpa [us] using this
 rw[←hj]
 simp only[List.getElem?_toArray]
 show (us ([st.a,st.b,st.c,st.d,st.e,st.f,st.g]++[st.h]))[j]?=_
 rw[us,List.map_append,List.getElem?_append_left (by simpa using h7)];rfl
theorem copied (st:ShaP.St):setMany (us st.list).toArray 1 (us [st.a,st.b,st.c,st.d,st.e,st.f,st.g])=(us [st.a,st.a,st.b,st.c,st.d,st.e,st.f,st.g]).toArray:=by
 simp[setMany,us,St.list]
theorem copy_there {W:World} {m:Nat} {t:TypeId} {st:ShaP.St} (hb:Blk W m (us st.list).toArray t):∀j,j<(us [st.a,st.b,st.c,st.d,st.e,st.f,st.g]).length→(W.cell? ⟨m,1+j,none⟩).isSome=true:=by
 intro j hj
 rw[hb.cell,List.getElem?_toArray,List.getElem?_eq_getElem (by simp[us,St.list] at hj ⊢;omega)];rfl
def mix (a b:List (BitVec 32)) (k:Nat):List (BitVec 32):=(List.range 8).map fun i=>if i<k then at32 a i+at32 b i else at32 a i
theorem mix_length (a b:List (BitVec 32)) (k:Nat):(mix a b k).length=8:=by simp[mix]
theorem mix_zero (s:ShaP.St) (b:List (BitVec 32)):mix s.list b 0=s.list:=by simp[mix,List.range,List.range.loop,St.list,at32]
theorem mix_all (s t:ShaP.St):mix s.list t.list 8=(s.plus t).list:=by simp[mix,List.range,List.range.loop,St.list,at32,St.plus]
theorem mix_at (a b:List (BitVec 32)) (k:Nat) (h:k<8):at32 (mix a b k) k=at32 a k:=by
 simp[at32,mix,List.getD,h]
theorem mix_set (a b:List (BitVec 32)) (k:Nat) (h:k<8) (r:List Value):(((us (mix a b k)).toArray++r.toArray).setIfInBounds k (.int .u32 (U (at32 a k+at32 b k))))=(us (mix a b (k+1))).toArray++r.toArray:=by
 have e:∀j,j<8→((us (mix a b k)).set k (.int .u32 (U (at32 a k+at32 b k))))[j]?=(us (mix a b (k+1)))[j]?:=fun j hj=>by
  simp only[us,mix,List.getElem?_set,List.map_map,List.getElem?_map,List.getElem?_range hj,List.length_map,List.length_range,Option.map_some,Function.comp]
  by_cases hkj:k=j
  ·subst hkj;simp[h]
  ·have h1:(j<k)=(j<k+1):=by rw[eq_iff_iff];omega
   simp[hkj,h1]
 have e2:(us (mix a b k)).set k (.int .u32 (U (at32 a k+at32 b k)))=us (mix a b (k+1)):=by
  apply List.ext_getElem?
  intro j
  by_cases hj:j<8
  ·exact e j hj
  ·rw[List.getElem?_eq_none (by simp[us,mix];omega),List.getElem?_eq_none (by simp[us,mix];omega)]
 simp only[List.append_toArray,List.setIfInBounds_toArray]
 rw[List.set_append_left _ _ (by simp[us,mix];omega),e2]
theorem grown_ext {a b c:World} {r:Option Nat} (h:a.grownBy b r) (k:Ext b c):a.grownBy c r:=
 ⟨k.os.trans h.os,k.tape.trans h.tape,k.output.trans h.output,Nat.le_trans h.size k.size,fun i hi hr=>(k.block i (Nat.lt_of_lt_of_le hi h.size)).trans (h.block i hi hr)⟩
theorem ext_grown {a b:World} (r:Option Nat) (h:Ext a b):a.grownBy b r:=⟨h.os,h.tape,h.output,h.size,fun i hi _=>h.block i hi⟩
theorem grown_set {a b:World} {g:Nat} (h:a.grownBy b (some g)) (o:Nat) (v:Value):a.grownBy (b.setCell ⟨g,o,none⟩ v) (some g):=
 ⟨h.os,h.tape,h.output,by simpa using h.size,fun i hi hr=>(heap_setCell_other b ⟨g,o,none⟩ i v (fun e=>hr (by rw[e]))).trans (h.block i hi hr)⟩
theorem us_list_at (s:ShaP.St) (k:Nat) (h:k<8):(#[Value.int .u32 (U s.a),.int .u32 (U s.b),.int .u32 (U s.c),.int .u32 (U s.d),.int .u32 (U s.e),.int .u32 (U s.f),.int .u32 (U s.g),.int .u32 (U s.h)]:Array Value)[k]?=some (.int .u32 (U (at32 s.list k))):=by
 have:=us_at s.list k h
 rw[List.getElem?_toArray];exact this
theorem head_at (a b:List (BitVec 32)) (k:Nat) (h:k<8) (r:List Value):((us (mix a b k)).toArray++r.toArray)[k]?=some (.int .u32 (U (at32 a k))):=by
 rw[List.append_toArray,List.getElem?_toArray,List.getElem?_append_left (by simp[us,mix];omega),us_at _ _ (by rw[mix_length];exact h),mix_at a b k h]
set_option maxHeartbeats 4000000 in
theorem takes_any (g:Nat) (s:ShaP.St) (vl vc:Value) (A:Option Addr) (c:Nat) (l:List UInt8) (w:World) (hl:l.length=64) (hr:Rb w A l)
  (hg:Blk w g ((us s.list).toArray ++ #[vl,vc]) 144) (hroots:∀j v,(us roots)[j]?=some v→w.cell? ⟨1,j,none⟩=some v) :
  Calls Tryz.prog 107 #[.pointer (some ⟨g,0,none⟩),.slice A 64 c] w fun e w'=>e=.returned (.tuple #[])∧Blk w' g ((us (ShaP.block s l).list).toArray ++ #[vl,vc]) 144∧w.grownBy w' (some g):=by
 obtain⟨b,off,rfl⟩:=hr.some_ (by omega)
 have Hl:=Lib.hid hl
 clear hl
 have hgw:g<w.heap.size:=hg.lt
 have hx0:Ext w (w.alloc (.cells (wtab []) 160)):=(Ext.refl w).alloc _
 go_enter Tryz.func107,Tryz.ntmps107
 go_wp2_with fail
 go_loopw [5,18,20,21,22,23,24,25,26,27,28,29,30,31,32,33,34,35,36,37,38,39,40,41,42,43,44,45,46,47,48,49,50,51,52,53,54,55,56] (fun i5 k v20 v21 v22 v23 v24 v25 v26 v27 v28 v29 v30 v31 v32 v33 v34 v35 v36 v37 v38 v39 v40 v41 v42 v43 v44 v45 v46 v47 v48 v49 v50 v51 v52 v53 v54 v55 v56 wr=>∃n:Nat,n≤16∧k=.int .i64 n∧Blk wr w.heap.size (wtab (sch l n)) 160∧Ext w wr) (fun _ k _ _ _ _ _ _ _ _ _ _ _ _ _ _ _ _ _ _ _ _ _ _ _ _ _ _ _ _ _ _ _ _ _ _ _ _ _ _=>16-(intOf k).toNat)
 case atStart=>exact⟨0,by omega,rfl,Blk.new _ _ _,(Ext.refl w).alloc _⟩
 case round=>
  obtain⟨n,hn,rfl,hb,hx⟩:=hrel
  by_cases hlt:n<16
  ·go_wp2_with fail
   have hbytes:∀j,j<4→∀W,Ext w W→W.cell? ⟨b,off+(4*n+j),none⟩=some (.int .u8 ((at8 l (4*n+j)).toNat:Int)):=fun j hj W hW=>by
    obtain⟨b',off',e,hc⟩:=(hr.ext hW).at_ (k:=4*n+j) (by have:=Hl.out;omega)
    simp only[Option.some.injEq,Addr.mk.injEq,and_true] at e
    obtain⟨rfl,rfl⟩:=e
    rw[hc];simp[at8,List.getD,List.getElem?_eq_getElem (show 4*n+j<l.length by have:=Hl.out;omega)]
   have c0:=hbytes 0 (by omega)
   have c1:=hbytes 1 (by omega)
   have c2:=hbytes 2 (by omega)
   have c3:=hbytes 3 (by omega)
   clear hbytes
   obtain⟨x0,hx0'⟩:∃x,Hid (at8 l (4*n+0)=x):=⟨_,rfl⟩
   obtain⟨x1,hx1'⟩:∃x,Hid (at8 l (4*n+1)=x):=⟨_,rfl⟩
   obtain⟨x2,hx2'⟩:∃x,Hid (at8 l (4*n+2)=x):=⟨_,rfl⟩
   obtain⟨x3,hx3'⟩:∃x,Hid (at8 l (4*n+3)=x):=⟨_,rfl⟩
   rw[hx0'.out] at c0;rw[hx1'.out] at c1;rw[hx2'.out] at c2;rw[hx3'.out] at c3
   have hform:=be_forms x0 x1 x2 x3
   obtain⟨m0,hm0⟩:∃m,Hid (4*n+0=m):=⟨_,rfl⟩
   obtain⟨m1,hm1⟩:∃m,Hid (4*n+1=m):=⟨_,rfl⟩
   obtain⟨m2,hm2⟩:∃m,Hid (4*n+2=m):=⟨_,rfl⟩
   obtain⟨m3,hm3⟩:∃m,Hid (4*n+3=m):=⟨_,rfl⟩
   have q0:IntKind.i64.wrap (4*(n:Int))=(m0:Int):=by rw[IntKind.wrap_i64,←hm0.out];omega
   have q1:IntKind.i64.wrap ((m0:Int)+1)=(m1:Int):=by rw[IntKind.wrap_i64,←hm0.out,←hm1.out];omega
   have q2:IntKind.i64.wrap ((m0:Int)+2)=(m2:Int):=by rw[IntKind.wrap_i64,←hm0.out,←hm2.out];omega
   have q3:IntKind.i64.wrap ((m0:Int)+3)=(m3:Int):=by rw[IntKind.wrap_i64,←hm0.out,←hm3.out];omega
   have b0:(m0:Int)<64:=by have:=hm0.out;omega
   have b1:(m1:Int)<64:=by have:=hm1.out;omega
   have b2:(m2:Int)<64:=by have:=hm2.out;omega
   have b3:(m3:Int)<64:=by have:=hm3.out;omega
   rw[hm0.out] at c0 hx0';rw[hm1.out] at c1 hx1';rw[hm2.out] at c2 hx2';rw[hm3.out] at c3 hx3'
   have bn:(n:Int)<64:=by omega
   have y0:=x0.toNat_lt;have y1:=x1.toNat_lt;have y2:=x2.toNat_lt;have y3:=x3.toNat_lt
   obtain⟨X,hX⟩:∃X:BitVec 32,Hid (be x0 x1 x2 x3=X):=⟨_,rfl⟩
   rw[hX.out] at hform
   have hfr:∀W,Ext wr W→W.frozen? ⟨w.heap.size,n,none⟩=false:=fun W hW=>(hb.ext hW).frozen n
   have hce:∀W,Ext wr W→W.cell? ⟨w.heap.size,n,none⟩=some (.int .u32 0):=fun W hW=>((hb.ext hW).cell n).trans (by have:=wtab_next (sch l n) (by rw[sch_length];omega);rwa [sch_length] at this)
   refine Reg.startE (by kernel_rfl) ?_
   iterate 5 ((first|refine Reg.tn ?_|refine Reg.sn ?_);(try simp only[Reg.nn]))
   refine Reg.rk 5 w ?_;(try simp only[Reg.nn])
   refine Reg.rk 6 w ?_;(try simp only[Reg.nn])
   iterate 6 ((first|refine Reg.tn ?_|refine Reg.sn ?_);(try simp only[Reg.nn]))
   refine Reg.rk 13 w ?_;(try simp only[Reg.nn])
   refine Reg.rk 14 w ?_;(try simp only[Reg.nn])
   iterate 7 ((first|refine Reg.tn ?_|refine Reg.sn ?_);(try simp only[Reg.nn]))
   refine Reg.rk 22 w ?_;(try simp only[Reg.nn])
   refine Reg.rk 23 w ?_;(try simp only[Reg.nn])
   iterate 7 ((first|refine Reg.tn ?_|refine Reg.sn ?_);(try simp only[Reg.nn]))
   refine Reg.rk 31 w ?_;(try simp only[Reg.nn])
   refine Reg.rk 32 w ?_;(try simp only[Reg.nn])
   iterate 2 ((first|refine Reg.tn ?_|refine Reg.sn ?_);(try simp only[Reg.nn]))
   refine Reg.last 35 _ rfl (by kernel_rfl) (by kernel_rfl) (by kernel_rfl) (by decide) (by rfl) (fun W hW K hK=>?_)
   have hf1:=hfr W hW
   have hc1:=hce W hW
   go_simp
   refine hK.out _ _ ?_;clear hK K;(try simp only[Reg.nn])
   go_wp2_with fail
   go_roundw
   case rel=>
    refine⟨n+1,by omega,by go_num,?_,(hx.trans hW).setCell (Nat.le_refl _) _⟩
    have hq:=(hb.ext hW).set n (.int .u32 (U X))
    have hs:=wtab_set (sch l n) X (by rw[sch_length];omega)
    rw[sch_length] at hs
    rw[hs] at hq
    rw[show sch l (n+1)=sch l n++[X] by rw[sch,if_pos hlt,word,←hX.out,←hx0'.out,←hx1'.out,←hx2'.out,←hx3'.out,←hm0.out,←hm1.out,←hm2.out,←hm3.out];rfl]
    rw[hform]
    exact hq
   case measure=>simp[intOf];omega
  ·obtain rfl:n=16:=by omega
   go_wp2_with fail
   go_loopw [6,7,8,57,59,60,61,62,63,64,65,66,67,68,69,70,71,72,73,74,75,76,77,78,79,80,81,82,83,84,85,86,87,88,89,90,91,92,93,94,95,96,97] (fun k v7 v8 v57 v59 v60 v61 v62 v63 v64 v65 v66 v67 v68 v69 v70 v71 v72 v73 v74 v75 v76 v77 v78 v79 v80 v81 v82 v83 v84 v85 v86 v87 v88 v89 v90 v91 v92 v93 v94 v95 v96 v97 wv=>∃n:Nat,n≤64∧16≤n∧k=.int .i64 n∧Blk wv w.heap.size (wtab (sch l n)) 160∧Ext w wv) (fun k _ _ _ _ _ _ _ _ _ _ _ _ _ _ _ _ _ _ _ _ _ _ _ _ _ _ _ _ _ _ _ _ _ _ _ _ _ _ _ _ _ _ _=>64-(intOf k).toNat)
   case atStart=>exact⟨16,by omega,by omega,rfl,hb,hx⟩
   case round=>
    clear hb hx hx0 hlt hn
    obtain⟨n,hn,h16,rfl,hb,hx⟩:=hrel
    by_cases hlt:n<64
    ·have hlen:=Lib.hid (sch_length l n)
     obtain⟨m15,hm15⟩:∃m,Hid (n-15=m):=⟨_,rfl⟩
     obtain⟨m2,hm2⟩:∃m,Hid (n-2=m):=⟨_,rfl⟩
     obtain⟨m16,hm16⟩:∃m,Hid (n-16=m):=⟨_,rfl⟩
     obtain⟨m7,hm7⟩:∃m,Hid (n-7=m):=⟨_,rfl⟩
     have q15:IntKind.i64.wrap ((n:Int)-15)=(m15:Int):=by rw[IntKind.wrap_i64,←hm15.out];omega
     have q2:IntKind.i64.wrap ((n:Int)-2)=(m2:Int):=by rw[IntKind.wrap_i64,←hm2.out];omega
     have q16:IntKind.i64.wrap ((n:Int)-16)=(m16:Int):=by rw[IntKind.wrap_i64,←hm16.out];omega
     have q7:IntKind.i64.wrap ((n:Int)-7)=(m7:Int):=by rw[IntKind.wrap_i64,←hm7.out];omega
     have b15:(m15:Int)<64:=by have:=hm15.out;omega
     have b2:(m2:Int)<64:=by have:=hm2.out;omega
     have b16:(m16:Int)<64:=by have:=hm16.out;omega
     have b7:(m7:Int)<64:=by have:=hm7.out;omega
     have bn:(n:Int)<64:=by omega
     have hcs:∀m,m<n→∀W,Ext wr W→W.cell? ⟨w.heap.size,m,none⟩=some (.int .u32 (U (at32 (sch l n) m))):=fun m hm W hW=>((hb.ext hW).cell m).trans (wtab_at (sch l n) m (by rw[hlen.out];exact hm))
     have c15:=hcs m15 (by have:=hm15.out;omega)
     have c2:=hcs m2 (by have:=hm2.out;omega)
     have c16:=hcs m16 (by have:=hm16.out;omega)
     have c7:=hcs m7 (by have:=hm7.out;omega)
     clear hcs
     obtain⟨X15,hX15⟩:∃X,Hid (at32 (sch l n) m15=X):=⟨_,rfl⟩
     obtain⟨X2,hX2⟩:∃X,Hid (at32 (sch l n) m2=X):=⟨_,rfl⟩
     obtain⟨X16,hX16⟩:∃X,Hid (at32 (sch l n) m16=X):=⟨_,rfl⟩
     obtain⟨X7,hX7⟩:∃X,Hid (at32 (sch l n) m7=X):=⟨_,rfl⟩
     rw[hX15.out] at c15;rw[hX2.out] at c2;rw[hX16.out] at c16;rw[hX7.out] at c7
     have d15:=c15 wr (Ext.refl _)
     have d2:=c2 wr (Ext.refl _)
     go_wp2_with fail
     go_quiet (fail)
     go_wp2_with fail
     clear d15 d2 c15 c2
     have c16:∀W,Ext (wr.drewN nq) W→_:=fun W hW=>c16 W (Ext.undrewN hW)
     have c7:∀W,Ext (wr.drewN nq) W→_:=fun W hW=>c7 W (Ext.undrewN hW)
     have hbq:Blk (wr.drewN nq) w.heap.size (wtab (sch l n)) 160:=hb
     have hxq:Ext w (wr.drewN nq):=hx.drewN nq
     refine Reg.startE (by kernel_rfl) ?_
     refine Reg.tk 0 ?_;(try simp only[Reg.nn])
     refine Reg.tk 1 ?_;(try simp only[Reg.nn])
     refine Reg.tk 2 ?_;(try simp only[Reg.nn])
     refine Reg.tk 3 ?_;(try simp only[Reg.nn])
     refine Reg.rk 4 w ?_;(try simp only[Reg.nn])
     refine Reg.tk 5 ?_;(try simp only[Reg.nn])
     refine Reg.tk 7 ?_;(try simp only[Reg.nn])
     refine Reg.tk 10 ?_;(try simp only[Reg.nn])
     refine Reg.tk 11 ?_;(try simp only[Reg.nn])
     refine Reg.tk 14 ?_;(try simp only[Reg.nn])
     refine Reg.tk 15 ?_;(try simp only[Reg.nn])
     refine Reg.tk 16 ?_;(try simp only[Reg.nn])
     refine Reg.rk 17 w ?_;(try simp only[Reg.nn])
     refine Reg.tk 19 ?_;(try simp only[Reg.nn])
     refine Reg.tk 21 ?_;(try simp only[Reg.nn])
     refine Reg.tk 24 ?_;(try simp only[Reg.nn])
     refine Reg.tk 25 ?_;(try simp only[Reg.nn])
     refine Reg.onlyE 6 _ rfl (by kernel_rfl) (by decide) (by rfl) (fun W hW K hK=>?_);go_simp
     go_at_call 121
     refine (turned_7 X15 _).mono ?_
     rintro e wX ⟨rfl,rfl⟩
     refine hK.out _ _ (Ext.refl _) ?_;clear hK K;(try simp only[Reg.nn])
     refine Reg.onlyE 8 _ rfl (by kernel_rfl) (by decide) (by rfl) (fun W hW K hK=>?_);go_simp
     go_at_call 121
     refine (turned_18 X15 _).mono ?_
     rintro e wX ⟨rfl,rfl⟩
     refine hK.out _ _ (Ext.refl _) ?_;clear hK K;(try simp only[Reg.nn])
     refine Reg.tk 9 ?_;(try simp only[Reg.nn])
     refine Reg.tk 12 ?_;(try simp only[Reg.nn])
     refine Reg.tk 13 ?_;(try simp only[Reg.nn])
     refine Reg.tk 18 ?_;(try simp only[Reg.nn])
     refine Reg.onlyE 20 _ rfl (by kernel_rfl) (by decide) (by rfl) (fun W hW K hK=>?_);go_simp
     go_at_call 121
     refine (turned_17 X2 _).mono ?_
     rintro e wX ⟨rfl,rfl⟩
     refine hK.out _ _ (Ext.refl _) ?_;clear hK K;(try simp only[Reg.nn])
     refine Reg.onlyE 22 _ rfl (by kernel_rfl) (by decide) (by rfl) (fun W hW K hK=>?_);go_simp
     go_at_call 121
     refine (turned_19 X2 _).mono ?_
     rintro e wX ⟨rfl,rfl⟩
     refine hK.out _ _ (Ext.refl _) ?_;clear hK K;(try simp only[Reg.nn])
     refine Reg.tk 23 ?_;(try simp only[Reg.nn])
     refine Reg.tk 26 ?_;(try simp only[Reg.nn])
     refine Reg.tk 27 ?_;(try simp only[Reg.nn])
     refine Reg.tk 28 ?_;(try simp only[Reg.nn])
     refine Reg.last 29 _ rfl (by kernel_rfl) (by kernel_rfl) (by kernel_rfl) (by decide) (by rfl) (fun W hW K hK=>?_)
     have hxW:Ext (wr.drewN nq) W:=(by repeat (first|assumption|exact Ext.refl _|refine Ext.trans (by assumption) ?_|apply Ext.drew|apply Ext.drewN|apply Ext.alloc))
     have hf1:=(hbq.ext hxW).frozen n
     have hc1:W.cell? ⟨w.heap.size,n,none⟩=some (.int .u32 0):=((hbq.ext hxW).cell n).trans (by have:=wtab_next (sch l n) (by rw[sch_length];omega);rwa [sch_length] at this)
     go_simp
     refine hK.out _ _ ?_;clear hK K;(try simp only[Reg.nn])
     go_wp2_with fail
     refine⟨?_,?measure⟩
     refine⟨_,_,_,_,_,_,_,_,_,_,_,_,_,_,_,_,_,_,_,_,_,_,_,_,_,_,_,_,_,_,_,_,_,_,_,_,_,_,_,_,_,_,_,_,?rel,rfl⟩
     case rel=>
      refine⟨n+1,by omega,by omega,by go_num,?_,(hxq.trans hxW).setCell (Nat.le_refl _) _⟩
      have hq:=(hbq.ext hxW).set n (.int .u32 (U (nextW (sch l n))))
      have hs:=wtab_set (sch l n) (nextW (sch l n)) (by rw[sch_length];omega)
      rw[sch_length] at hs
      rw[hs] at hq
      rw[show sch l (n+1)=sch l n++[nextW (sch l n)] by rw[sch,if_neg (by omega)]]
      rw[next_form]
      rw[show nextW (sch l n)=X16+s0 X15+X7+s1 X2 by rw[nextW,sch_length,hm16.out,hm15.out,hm7.out,hm2.out,hX16.out,hX15.out,hX7.out,hX2.out]] at hq ⊢
      exact hq
     case measure=>simp[intOf];omega
    ·obtain rfl:n=64:=by omega
     have hgb:=hg.ext hx
     have e0:wr.cell? ⟨g,0,none⟩=some (.int .u32 (U s.a)):=hgb.cell 0
     have e1:wr.cell? ⟨g,1,none⟩=some (.int .u32 (U s.b)):=hgb.cell 1
     have e2:wr.cell? ⟨g,2,none⟩=some (.int .u32 (U s.c)):=hgb.cell 2
     have e3:wr.cell? ⟨g,3,none⟩=some (.int .u32 (U s.d)):=hgb.cell 3
     have e4:wr.cell? ⟨g,4,none⟩=some (.int .u32 (U s.e)):=hgb.cell 4
     have e5:wr.cell? ⟨g,5,none⟩=some (.int .u32 (U s.f)):=hgb.cell 5
     have e6:wr.cell? ⟨g,6,none⟩=some (.int .u32 (U s.g)):=hgb.cell 6
     have e7:wr.cell? ⟨g,7,none⟩=some (.int .u32 (U s.h)):=hgb.cell 7
     go_wp2_with (refine wpList_load_mid rfl 160 (.global 1) rfl 1 0 rfl (us roots) (.array 64 102) (fun j v hj=>by rw[Nat.zero_add];exact (hx.alloc _).cell (hroots j v hj)) (by kernel_rfl) rfl (by kernel_rfl) ?_)
     obtain⟨N,hN⟩:∃N:Nat,Hid (N=64):=⟨64,rfl⟩
     obtain⟨Ws,hWs⟩:∃x,Held (sch l 64=x):=⟨_,⟨rfl⟩⟩
     have hWN:Held (sch l N=Ws):=⟨by rw[hN.out,hWs.out]⟩
     have hWl:Hid (Ws.length=64):=by show _=_;rw[←hWs.out,sch_length]
     rw[hWs.out] at hb
     have hmw:w.heap.size<wr.heap.size:=hb.lt
     obtain⟨m,hm⟩:∃m,wr.heap.size=m:=⟨_,rfl⟩
     have hbn:Blk (wr.alloc (.cells (us s.list).toArray 142)) m (us s.list).toArray 142:=by rw[←hm];exact Blk.new _ _ _
     have hbt:=hb.alloc (.cells (us s.list).toArray 142)
     have hxt:=hx.alloc (.cells (us s.list).toArray 142)
     rw[hm] at hmw ⊢
     obtain⟨R,hR⟩:∃R,(us roots).toArray=R:=⟨_,rfl⟩
     have hRs:R.size=64:=by rw[←hR];rfl
     have hRat:Hid (∀k,k<64→R[k]?=some (.int .u32 (U (at32 roots k)))):=fun k hk=>by rw[←hR,List.getElem?_toArray];exact us_at roots k hk
     rw[hR]
     clear hR hm e0 e1 e2 e3 e4 e5 e6 e7 hlt hn h16 hroots
     go_loopw [10,11,12,13,14,15,103,105,106,107,108,109,110,111,112,113,114,115,116,117,118,119,120,121,122,123,124,125,126,127,128,129,130,131,132,133,134,135,136,137,138,139,140,141,142,143,144,145,146,147,148,149,150,151,152,153,154,155,156,157,158,159,160,161,162,163,164,165,166,167,168,169,170,171,172,173,174,175] (fun v10 v11 v12 v13 v14 v15 k v105 v106 v107 v108 v109 v110 v111 v112 v113 v114 v115 v116 v117 v118 v119 v120 v121 v122 v123 v124 v125 v126 v127 v128 v129 v130 v131 v132 v133 v134 v135 v136 v137 v138 v139 v140 v141 v142 v143 v144 v145 v146 v147 v148 v149 v150 v151 v152 v153 v154 v155 v156 v157 v158 v159 v160 v161 v162 v163 v164 v165 v166 v167 v168 v169 v170 v171 v172 v173 v174 v175 wv=>∃n:Nat,n≤64∧k=.int .i64 n∧Blk wv m (us (rounds s Ws n).list).toArray 142∧Blk wv w.heap.size (wtab Ws) 160∧Ext w wv) (fun _ _ _ _ _ _ k _ _ _ _ _ _ _ _ _ _ _ _ _ _ _ _ _ _ _ _ _ _ _ _ _ _ _ _ _ _ _ _ _ _ _ _ _ _ _ _ _ _ _ _ _ _ _ _ _ _ _ _ _ _ _ _ _ _ _ _ _ _ _ _ _ _ _ _ _ _ _ _=>64-(intOf k).toNat)
     case atStart=>exact⟨0,by omega,rfl,hbn,hbt,hxt⟩
     case round=>
      clear hbn hbt hxt hb hx hgb hWs
      obtain⟨n,hn,rfl,hb,hbt,hx⟩:=hrel
      by_cases hlt:n<64
      ·obtain⟨st,hst⟩:∃x,Held (rounds s Ws n=x):=⟨_,⟨rfl⟩⟩
       rw[hst.out] at hb
       obtain⟨K,hK⟩:∃x,Held (at32 roots n=x):=⟨_,⟨rfl⟩⟩
       have hRn:=hRat.out n hlt
       rw[hK.out] at hRn
       obtain⟨X,hX⟩:∃x,Held (at32 Ws n=x):=⟨_,⟨rfl⟩⟩
       have cn:wr.cell? ⟨w.heap.size,n,none⟩=some (.int .u32 (U X)):=by rw[hbt.cell n,wtab_at _ _ (by rw[hWl.out];exact hlt),hX.out]
       have e0:wr.cell? ⟨m,0,none⟩=some (.int .u32 (U st.a)):=hb.cell 0
       have e1:wr.cell? ⟨m,1,none⟩=some (.int .u32 (U st.b)):=hb.cell 1
       have e2:wr.cell? ⟨m,2,none⟩=some (.int .u32 (U st.c)):=hb.cell 2
       have e4:wr.cell? ⟨m,4,none⟩=some (.int .u32 (U st.e)):=hb.cell 4
       have e5:wr.cell? ⟨m,5,none⟩=some (.int .u32 (U st.f)):=hb.cell 5
       have e6:wr.cell? ⟨m,6,none⟩=some (.int .u32 (U st.g)):=hb.cell 6
       have e7:wr.cell? ⟨m,7,none⟩=some (.int .u32 (U st.h)):=hb.cell 7
       have hlt8:n<64:=hlt
       go_wp2_with (refine wpList_index rfl 160 (.tmp 102) (.tmp 103) rfl _ _ rfl rfl _ (idx64 _ _ _ hlt8 _ hRn) ?_)
       go_quiet (fail)
       go_wp2_with fail
       go_quiet (first|(go_at_call 121;exact (turned_any _ _ (by decide) _).mono fun _ _ h=>⟨h.1,_,h.2.symm⟩))
       go_wp2_with fail
       go_quiet (first|(go_at_call 121;exact (turned_any _ _ (by decide) _).mono fun _ _ h=>⟨h.1,_,h.2.symm⟩))
       go_wp2_with fail
       rw[t1_form]
       obtain⟨T1,hT1⟩:∃T,Held (st.h+(trI st.e 6 ^^^ trI st.e 11 ^^^ trI st.e 25)+((st.e &&& st.f) ^^^ (~~~st.e &&& st.g))+K+X=T):=⟨_,⟨rfl⟩⟩
       obtain⟨T2,hT2⟩:∃T,Held ((trI st.a 2 ^^^ trI st.a 13 ^^^ trI st.a 22)+(st.a &&& st.b ^^^ st.a &&& st.c ^^^ st.b &&& st.c)=T):=⟨_,⟨rfl⟩⟩
       rw[hT1.out,hT2.out]
       clear e0 e1 e2 e4 e5 e6 e7 cn hRn hRat hRs hWl hWN hN Hl hr hg hlt8
       refine Reg.startE (by kernel_rfl) ?_
       iterate 2 ((first|refine Reg.tn ?_|refine Reg.sn ?_);(try simp only[Reg.nn]))
       refine Reg.last 2 _ rfl (by kernel_rfl) (by kernel_rfl) (by kernel_rfl) (by decide) (by rfl) (fun W hW K hK=>?_)
       have hW':Ext wr W:=Ext.undrewN (Ext.undrewN hW)
       have hbW:=hb.ext hW'
       refine wp_copy W (.tmp 163) (.tmp 164) 99 99 rfl _ _ rfl rfl _ _ (run_copy_cells W 99 99 _ 102 m 1 7 7 ⟨m,0,none⟩ 7 8 (us [st.a,st.b,st.c,st.d,st.e,st.f,st.g]) (by kernel_rfl) (by kernel_rfl) rfl (copy_src hbW) (copy_there hbW) (fun j _=>hbW.frozen _) (us_one _)) ?_
       refine hK.out _ _ ?_;clear hK K;(try simp only[Reg.nn])
       have hb6:=Blk_sets (us [st.a,st.b,st.c,st.d,st.e,st.f,st.g]) 1 _ _ hbW
       rw[copied] at hb6
       have hx6:Ext w (W.setCells m 1 (us [st.a,st.b,st.c,st.d,st.e,st.f,st.g])):=Ext_sets (Nat.le_of_lt hmw) _ 1 (hx.trans hW')
       have hbt6:=Blk_far (Nat.ne_of_lt hmw) (us [st.a,st.b,st.c,st.d,st.e,st.f,st.g]) 1 (hbt.ext hW')
       obtain⟨w6,hw6⟩:∃x,W.setCells m 1 (us [st.a,st.b,st.c,st.d,st.e,st.f,st.g])=x:=⟨_,rfl⟩
       rw[hw6] at hb6 hx6 hbt6 ⊢
       clear hw6 hbW hW' hW
       have e4:w6.cell? ⟨m,4,none⟩=some (.int .u32 (U st.d)):=hb6.cell 4
       have e0:w6.cell? ⟨m,0,none⟩=some (.int .u32 (U st.a)):=hb6.cell 0
       have f4:=hb6.frozen 4
       have f0:=hb6.frozen 0
       go_wp2_with fail
       have hrd:rounds s Ws (n+1)=⟨T1+T2,st.a,st.b,st.c,st.d+T1,st.e,st.f,st.g⟩:=by
        rw[rounds,hst.out,hK.out,hX.out,←hT1.out,←hT2.out];rfl
       have hb7:=(hb6.set 4 (.int .u32 (U (st.d+T1)))).set 0 (.int .u32 (U (T1+T2)))
       refine⟨⟨n+1,by omega,by go_num,?_,?_,?_⟩,by simp[intOf];omega⟩
       ·rw[hrd];exact hb7
       ·exact (hbt6.far (p:=⟨m,4,none⟩) (Nat.ne_of_lt hmw) _).far (p:=⟨m,0,none⟩) (Nat.ne_of_lt hmw) _
       ·exact (hx6.setCell (p:=⟨m,4,none⟩) (Nat.le_of_lt hmw) _).setCell (p:=⟨m,0,none⟩) (Nat.le_of_lt hmw) _
      ·obtain⟨st,hst⟩:∃x,Held (rounds s Ws n=x):=⟨_,⟨rfl⟩⟩
       rw[hst.out] at hb
       have e0:wr.cell? ⟨m,0,none⟩=some (.int .u32 (U st.a)):=hb.cell 0
       have e1:wr.cell? ⟨m,1,none⟩=some (.int .u32 (U st.b)):=hb.cell 1
       have e2:wr.cell? ⟨m,2,none⟩=some (.int .u32 (U st.c)):=hb.cell 2
       have e3:wr.cell? ⟨m,3,none⟩=some (.int .u32 (U st.d)):=hb.cell 3
       have e4:wr.cell? ⟨m,4,none⟩=some (.int .u32 (U st.e)):=hb.cell 4
       have e5:wr.cell? ⟨m,5,none⟩=some (.int .u32 (U st.f)):=hb.cell 5
       have e6:wr.cell? ⟨m,6,none⟩=some (.int .u32 (U st.g)):=hb.cell 6
       have e7:wr.cell? ⟨m,7,none⟩=some (.int .u32 (U st.h)):=hb.cell 7
       go_wp2_with fail
       obtain⟨R8,hR8⟩:∃R:Array Value,#[.int .u32 (U st.a),.int .u32 (U st.b),.int .u32 (U st.c),.int .u32 (U st.d),.int .u32 (U st.e),.int .u32 (U st.f),.int .u32 (U st.g),.int .u32 (U st.h)]=R:=⟨_,rfl⟩
       have hR8at:Hid (∀k,k<8→R8[k]?=some (.int .u32 (U (at32 st.list k)))):=fun k hk=>by rw[←hR8];exact us_list_at st k hk
       rw[hR8]
       have hg0:=hg.ext hx
       have hxw:=ext_grown (some g) hx
       clear hR8 e0 e1 e2 e3 e4 e5 e6 e7 hb hbt hRat hRs hWl hr
       go_loopw [16,17,177,179,180,181,182,183,184,185,186,187,188,189,190,191,192] (fun v16 v17 k v179 v180 v181 v182 v183 v184 v185 v186 v187 v188 v189 v190 v191 v192 wv=>∃n:Nat,n≤8∧k=.int .i64 n∧Blk wv g ((us (mix s.list st.list n)).toArray ++ #[vl,vc]) 144∧w.grownBy wv (some g)) (fun _ _ k _ _ _ _ _ _ _ _ _ _ _ _ _ _ _=>8-(intOf k).toNat)
       case atStart=>exact⟨0,by omega,rfl,by rw[mix_zero];exact hg0,hxw⟩
       case round=>
        obtain⟨k,hk,rfl,hb,hgr⟩:=hrel
        by_cases hlk:k<8
        ·have hRk:=hR8at.out k hlk
         go_wp2_with (refine wpList_index rfl 142 (.tmp 176) (.tmp 177) rfl _ _ rfl rfl _ (idx8 _ _ _ hlk _ hRk) ?_)
         have hlk':(k:Int)<8:=by omega
         have hcell:∀W,Ext wr W→W.cell? ⟨g,k,none⟩=some (.int .u32 (U (at32 s.list k))):=fun W hW=>((hb.ext hW).cell k).trans (head_at _ _ k hlk [vl,vc])
         refine Reg.startE (by kernel_rfl) ?_
         iterate 11 ((first|refine Reg.tn ?_|refine Reg.sn ?_);(try simp only[Reg.nn]))
         refine Reg.last 11 _ rfl (by kernel_rfl) (by kernel_rfl) (by kernel_rfl) (by decide) (by rfl) (fun W hW K hK=>?_)
         have hf1:=(hb.ext hW).frozen k
         have hc1:=hcell W hW
         go_simp
         refine hK.out _ _ ?_;clear hK K;(try simp only[Reg.nn])
         go_wp2_with fail
         have hst1:=(hb.ext hW).set k (.int .u32 (U (at32 s.list k+at32 st.list k)))
         have hms:((us (mix s.list st.list k)).toArray ++ #[vl,vc]).setIfInBounds k (.int .u32 (U (at32 s.list k+at32 st.list k)))=(us (mix s.list st.list (k+1))).toArray ++ #[vl,vc]:=mix_set s.list st.list k hlk [vl,vc]
         rw[hms] at hst1
         refine⟨⟨k+1,by omega,by go_num,hst1,grown_set (grown_ext hgr hW) _ _⟩,by simp[intOf];omega⟩
        ·go_wp2_with fail
         have hk8:k=8:=by omega
         have hn64:n=N:=by rw[hN.out];omega
         have hblk:block s l=s.plus st:=by rw[←hst.out,←hWN.out,hn64,hN.out];rfl
         rw[hk8,mix_all,←hblk] at hb
         go_end0
         refine⟨rfl,?_,hgr⟩
         simpa using hb
theorem blocks_succ (l:List UInt8):∀(k:Nat) (s:ShaP.St) (l:List UInt8),blocks s l (k+1)=block (blocks s l k) ((l.drop (64*k)).take 64)
 | 0,s,l=>by simp[blocks]
 | k+1,s,l=>by
  rw[blocks,blocks_succ l k,blocks]
  congr 2
  rw[List.drop_drop];congr 1;omega
theorem blocks_append (l r:List UInt8):∀(k:Nat) (s:ShaP.St) (l:List UInt8),64*k≤l.length→blocks s (l++r) k=blocks s l k
 | 0,s,l,_=>rfl
 | k+1,s,l,h=>by
  rw[blocks,blocks,List.take_append_of_le_length (by omega),List.drop_append_of_le_length (by omega)]
  exact blocks_append l r k _ _ (by rw[List.length_drop];omega)
theorem blocks_add (l:List UInt8):∀(j k:Nat) (s:ShaP.St) (l:List UInt8),blocks s l (j+k)=blocks (blocks s l j) (l.drop (64*j)) k
 | 0,k,s,l=>by simp[blocks]
 | j+1,k,s,l=>by
  rw[show j+1+k=(j+k)+1 by omega,blocks,blocks_add l j k,blocks,List.drop_drop]
  congr 2;omega
def cnt (m:List UInt8):Int:=((m.length%18446744073709551616:Nat):Int)
def HInv (w:World) (g:Nat) (lb:Option Nat) (m:List UInt8):Prop:=
 ∃v,Blk w g ((us (blocks begin_ m (m.length / 64)).list).toArray ++ #[v,.int .u64 (cnt m)]) 144∧OwnS w v (u8s (m.drop (64*(m.length / 64))))∧v.ownBlock=lb∧lb≠some g∧∀k,lb=some k→k<w.heap.size
theorem HInv.keep {S:Nat→Prop} {w w':World} {g:Nat} {lb:Option Nat} {m:List UInt8} (h:HInv w g lb m) (hx:Chg S w w') (hg:¬S g) (hn:∀k,lb=some k→¬S k):HInv w' g lb m:=by
 obtain⟨v,hb,ho,rfl,hne,hlt⟩:=h
 exact⟨v,hx.blk hb hg,ho.keep hx hn,rfl,hne,fun k hk=>Nat.lt_of_lt_of_le (hlt k hk) hx.size⟩
theorem HInv.lt {w:World} {g:Nat} {lb:Option Nat} {m:List UInt8} (h:HInv w g lb m):g<w.heap.size:=by
 obtain⟨v,hb,_⟩:=h;exact hb.lt
theorem new_any (w:World) (hfirst:∀j v,(us first)[j]?=some v→w.cell? ⟨0,j,none⟩=some v) :
  Calls Tryz.prog 83 #[] w fun e w'=>e=.returned (.pointer (some ⟨w.heap.size,0,none⟩))∧HInv w' w.heap.size none []∧Ext w w':=by
 go_enter Tryz.func83,Tryz.ntmps83
 go_wp2_with (refine wpList_load_mid rfl 142 (.global 0) rfl 0 0 rfl (us first) (.array 8 102) (fun j v hj=>by rw[Nat.zero_add];exact hfirst j v hj) (by kernel_rfl) rfl (by kernel_rfl) ?_)
 go_ret
 refine⟨rfl,⟨.slice none 0 0,?_,OwnS.nil _,rfl,by simp,by simp⟩,(Ext.refl w).alloc _⟩
 have e:List.foldl (fun cs x=>cs.setIfInBounds x.snd x.fst) #[Value.int IntKind.u32 0,Value.int IntKind.u32 0,Value.int IntKind.u32 0,Value.int IntKind.u32 0,Value.int IntKind.u32 0,Value.int IntKind.u32 0,Value.int IntKind.u32 0,Value.int IntKind.u32 0,Value.slice none 0 0,Value.int IntKind.u64 0] (us first).zipIdx
  = (us (blocks begin_ [] (([]:List UInt8).length / 64)).list).toArray ++ #[.slice none 0 0,.int .u64 (cnt [])]:=by
  simp[us,first,blocks,begin_,St.list,cnt,List.zipIdx]
 rw[e]
 exact Blk.new w _ _
theorem el_u8:El Tryz.prog 50 5 (.int .u8 0) 1 1:=⟨by kernel_rfl,by kernel_rfl,rfl,by omega⟩
theorem cnt_add2 (m l:List UInt8) (N:Nat) (h:l.length=N):IntKind.u64.wrap (cnt m+IntKind.u64.wrap (N:Int))=cnt (m++l):=by
 rw[IntKind.wrap_u64,IntKind.wrap_u64]
 simp only[cnt,List.length_append,h]
 omega
def lenAt (w:World) (g i:Nat):Nat:=match w.cell? ⟨g,i,none⟩ with
 | some (.slice _ n _)=>n
 | _=>0
theorem lenAt_of {w:World} {g i n c:Nat} {A:Option Addr} (h:w.cell? ⟨g,i,none⟩=some (.slice A n c)):lenAt w g i=n:=by rw[lenAt,h]
theorem words8 (s:ShaP.St) (x y z:Value):((us s.list).toArray ++ #[x,y]).setIfInBounds 8 z=(us s.list).toArray ++ #[z,y]:=by
 simp[us,St.list]
theorem words9 (s:ShaP.St) (x y z:Value):((us s.list).toArray ++ #[x,y]).setIfInBounds 9 z=(us s.list).toArray ++ #[x,z]:=by
 simp[us,St.list]
theorem hash_step (m l Lf T:List UInt8) (h1:m.drop (64*(m.length / 64))=Lf) (h2:Lf++l=T) (k:Nat) (hk:64*k≤T.length) (hlt:T.length-64*k<64) :
  blocks begin_ (m++l) ((m++l).length / 64)=blocks (blocks begin_ m (m.length / 64)) T k∧(m++l).drop (64*((m++l).length / 64))=T.drop (64*k):=by
 have hT:T.length=m.length-64*(m.length / 64)+l.length:=by rw[←h2,←h1];simp
 have hq:(m++l).length / 64=m.length / 64+k:=by rw[List.length_append];omega
 have hd:(m++l).drop (64*(m.length / 64))=T:=by rw[List.drop_append_of_le_length (by omega),h1,h2]
 rw[hq,blocks_add m,blocks_append m l _ _ m (by omega),hd]
 refine⟨rfl,?_⟩
 rw[Nat.mul_add,←List.drop_drop,hd]
theorem write_any (w:World) (g:Nat) (lb:Option Nat) (m l:List UInt8) (A:Option Addr) (c:Nat) (hroots:∀j v,(us roots)[j]?=some v→w.cell? ⟨1,j,none⟩=some v)
  (h:HInv w g lb m) (hr:Rb w A l) (hA:A=none→c=0) (hAg:∀a,A=some a→a.block≠g) (hl:l.length≤140737488351232) (hg1:g≠1) (hl1:lb≠some 1) :
  Calls Tryz.prog 84 #[.pointer (some ⟨g,0,none⟩),.slice A l.length c] w fun e w'=>e=.returned (.tuple #[])∧∃lb',HInv w' g lb' (m++l)∧(lb'=lb∨∃k,lb'=some k∧w.heap.size≤k)∧Chg (fun k=>k=g∨lb=some k) w w':=by
 obtain⟨v,hb,ho,hv,hne,hlb⟩:=h
 obtain⟨Lf,hLf⟩:∃x,Held (m.drop (64*(m.length / 64))=x):=⟨_,⟨rfl⟩⟩
 rw[hLf.out] at ho
 have hLl:Lf.length<64:=by rw[←hLf.out,List.length_drop];omega
 obtain⟨N,hN⟩:∃x,Held (l.length=x):=⟨_,⟨rfl⟩⟩
 rw[hN.out]
 have Hl:=Lib.hid hl
 clear hl
 have c8:w.cell? ⟨g,8,none⟩=some v:=hb.cell 8
 have c9:w.cell? ⟨g,9,none⟩=some (.int .u64 (cnt m)):=hb.cell 9
 have f8:=hb.frozen 8
 have f9:=hb.frozen 9
 have hrn:Rd w A (u8s l):=hr
 have hoW:∀u,OwnS (w.setCell ⟨g,9,none⟩ u) v (u8s Lf):=fun u=>ho.keep (Chg.one w g 9 u) (fun k hk e=>hne (by rw[←hv,hk,e]))
 have hrW:∀u,Rd (w.setCell ⟨g,9,none⟩ u) A (u8s l):=fun u=>hrn.chg (Chg.one w g 9 u) (fun a ha e=>hAg a ha e)
 go_enter Tryz.func84,Tryz.ntmps84
 obtain⟨T,hT⟩:∃x,Held (Lf++l=x):=⟨_,⟨rfl⟩⟩
 obtain⟨s0,hs0⟩:∃x,Held (blocks begin_ m (m.length / 64)=x):=⟨_,⟨rfl⟩⟩
 rw[hs0.out] at hb
 obtain⟨H,hH⟩:∃x,Held (w.heap.size=x):=⟨_,⟨rfl⟩⟩
 go_wp2_with (
  refine wpList_oapp el_u8 _ rfl (.tmp 18) (.tmp 19) rfl v (u8s Lf) rfl (hoW _) (u8s_one _) A N c (u8s l) rfl (hrW _) (by rw[u8s_length,hN.out]) hA (u8s_one _) (by have:=Hl.out;rw[u8s_length,←hN.out];omega) (by omega) (fun v1 w1 ho1 hgr1 hv1=>?_)
  rw[cnt_add2 m l N hN.out] at hgr1
  have hb0:=hb.set 9 (.int .u64 (cnt (m++l)))
  rw[words9] at hb0
  have hb1:=hb0.grown hgr1 (by rw[hv];exact fun e=>hne e.symm)
  have hx1:Chg (fun k=>k=g∨lb=some k) w w1:=Chg.trans (S:=fun k=>k=g∨lb=some k) ((Chg.one w g 9 _).mono (fun _ _ e=>.inl e)) (Chg.ofGrown hgr1) (fun i _ e=>.inr (by rw[←hv];exact e))
  have hf1:v1.ownBlock=lb∨v1.ownBlock=some H:=(hv1.imp (fun e=>e.trans hv) (fun e=>by rw[e.1,←hH.out];simp))
  have hz1:∀k,v1.ownBlock=some k→k<w1.heap.size:=by
   rcases hv1 with e|⟨e,e2⟩
   ·intro k hk
    exact Nat.lt_of_lt_of_le (hlb k (by rw[←hv,←e,hk])) hx1.size
   ·intro k hk
    rw[e] at hk
    injection hk with hk
    omega
  rw[←u8s_append,hT.out] at ho1
  obtain⟨A1,cp1,rfl,hrd1,hle1,hmx1,hA1⟩:=ho1.rd
  have f8:=hb1.frozen 8
  have e8:w1.cell? ⟨g,8,none⟩=some v:=hb1.cell 8
  clear hgr1 hv1 hb0)
 have hb2:=hb1.set 8 (.slice A1 (u8s T).length cp1)
 rw[words8] at hb2
 have hne1:(Value.slice A1 (u8s T).length cp1).ownBlock≠some g:=by
  rcases hf1 with e|e
  ·rw[e];exact hne
  ·rw[e,←hH.out];intro e;have:=hb.lt;injection e with e;omega
 have ho2:OwnS (w1.setCell ⟨g,8,none⟩ (.slice A1 (u8s T).length cp1)) (.slice A1 (u8s T).length cp1) (u8s T):=ho1.keep (Chg.one w1 g 8 _) (fun k hk e=>hne1 (by rw[hk,e]))
 have hx2:Chg (fun k=>k=g∨lb=some k) w (w1.setCell ⟨g,8,none⟩ (.slice A1 (u8s T).length cp1)):=hx1.set (p:=⟨g,8,none⟩) (.inl (.inl rfl)) _
 have hz2:∀k,(Value.slice A1 (u8s T).length cp1).ownBlock=some k→k<(w1.setCell ⟨g,8,none⟩ (.slice A1 (u8s T).length cp1)).heap.size:=fun k hk=>by simpa using hz1 k hk
 rw[u8s_length] at hf1 hne1 ho2 hb2 hx2 hz2 ⊢
 clear hb1 e8 f8 hz1 ho1 hrd1 hle1 hmx1 hA1 hx1 hoW hrW hrn hr c8 c9 f9 ho hb
 go_loopw [23,24,25,26,27,29,30,31,32,33,34,35,36,37,38,39,40,41,42,43] (fun v23 v24 v25 v26 v27 v29 v30 v31 v32 v33 v34 v35 v36 v37 v38 v39 v40 v41 v42 v43 wv=>∃k A2 c2,64*k≤T.length∧Blk wv g ((us (blocks s0 T k).list).toArray ++ #[.slice A2 (T.length-64*k) c2,.int .u64 (cnt (m++l))]) 144∧OwnS wv (.slice A2 (T.length-64*k) c2) (u8s (T.drop (64*k)))∧((Value.slice A2 (T.length-64*k) c2).ownBlock=lb∨(Value.slice A2 (T.length-64*k) c2).ownBlock=some H)∧(Value.slice A2 (T.length-64*k) c2).ownBlock≠some g∧(∀j,(Value.slice A2 (T.length-64*k) c2).ownBlock=some j→j<wv.heap.size)∧Chg (fun k=>k=g∨lb=some k) w wv) (fun _ _ _ _ _ _ _ _ _ _ _ _ _ _ _ _ _ _ _ _ wv=>lenAt wv g 8)
 case atStart=>exact⟨0,A1,cp1,by omega,hb2,ho2,hf1,hne1,hz2,hx2⟩
 case round=>
  clear hb2 ho2 hf1 hne1 hz2 hx2
  obtain⟨k,A2,c2,hk,hb,ho,hf,hne2,hz,hx⟩:=hrel
  obtain⟨s1,hs1⟩:∃x,Held (blocks s0 T k=x):=⟨_,⟨rfl⟩⟩
  obtain⟨U,hU⟩:∃x,Held (T.drop (64*k)=x):=⟨_,⟨rfl⟩⟩
  obtain⟨n,hn⟩:∃x,Held (T.length-64*k=x):=⟨_,⟨rfl⟩⟩
  have hUn:U.length=n:=by rw[←hU.out,List.length_drop,hn.out]
  rw[hs1.out,hn.out] at hb
  rw[hU.out,hn.out] at ho
  rw[hn.out] at hf hne2 hz
  have e8:wr.cell? ⟨g,8,none⟩=some (.slice A2 n c2):=hb.cell 8
  by_cases hlt:64≤n
  ·obtain⟨A',c',e,hrd,hle,hmx,_⟩:=ho.rd
   injection e with e1 e2 e3
   subst e1;subst e3
   clear e2
   rw[u8s_length,hUn] at hle
   obtain⟨b2,o2,rfl⟩:=Rb.some_ (l:=U) hrd (by omega)
   have hc64:(64:Int)≤c2:=by omega
   have hlt':(64:Int)≤n:=by omega
   have hrT:Rb wr (some ⟨b2,o2,none⟩) (U.take 64):=Rb.take hrd 64
   have hrts:∀j v,(us roots)[j]?=some v→wr.cell? ⟨1,j,none⟩=some v:=fun j v h=>hx.cell (hroots j v h) (fun e=>by rcases e with e|e;exact hg1 e.symm;exact hl1 e)
   have hcall:=takes_any g s1 (.slice (some ⟨b2,o2,none⟩) n c2) (.int .u64 (cnt (m++l))) (some ⟨b2,o2,none⟩) c2 (U.take 64) wr (by rw[List.length_take];omega) hrT hb hrts
   go_wp2_with fail
   refine hcall.mono ?_
   rintro e w2 ⟨rfl,hb3,hg3⟩
   have ho3:=ho.keep (Chg.ofGrown hg3) (fun k hk e=>hne2 (by rw[hk,e]))
   have e8:w2.cell? ⟨g,8,none⟩=some (.slice (some ⟨b2,o2,none⟩) n c2):=hb3.cell 8
   have f8:=hb3.frozen 8
   go_wp2_with fail
   have hcut:=ho3.cut 64 hlt
   have hblk:=block_cut (c2=64) b2 o2 (o2+64) (n-64) (c2-64)
   obtain⟨A3,hA3⟩:∃x,(if c2=64 then some (⟨b2,o2,none⟩:Addr) else some ⟨b2,o2+64,none⟩)=x:=⟨_,rfl⟩
   rw[hA3] at hcut hblk ⊢
   have hn2:T.length-64*(k+1)=n-64:=by rw[←hn.out];omega
   have hd2:T.drop (64*(k+1))=U.drop 64:=by rw[←hU.out,List.drop_drop];congr 1
   have hs2:blocks s0 T (k+1)=block s1 (U.take 64):=by rw[blocks_succ T k s0 T,hs1.out,hU.out]
   have hb4:=hb3.set 8 (.slice A3 (n-64) (c2-64))
   have hw8:=words8 (block s1 (U.take 64)) (.slice (some ⟨b2,o2,none⟩) n c2) (.int .u64 (cnt (m++l))) (.slice A3 (n-64) (c2-64))
   rw[hw8] at hb4
   have hneb:b2≠g:=fun e=>hne2 (by rw[e];rfl)
   refine⟨⟨k+1,A3,c2-64,by have:=hn.out;omega,?_,?_,?_,?_,?_,?_⟩,?_⟩
   ·rw[hn2,hs2];exact hb4
   ·rw[hn2,hd2]
    rw[show u8s (U.drop 64)=(u8s U).drop 64 by simp[u8s]]
    exact hcut.keep (Chg.one w2 g 8 _) (fun j hj e=>by rw[hblk] at hj;injection hj with hj;omega)
   ·rw[hn2,hblk];exact hf
   ·rw[hn2,hblk];exact hne2
   ·rw[hn2,hblk]
    intro j hj
    have h1:=hz j hj
    have h2:=hg3.size
    simp;omega
   ·exact ((hx.trans (Chg.ofGrown hg3) (fun i _ e=>.inl (by injection e with e;exact e.symm))).set (p:=⟨g,8,none⟩) (.inl (.inl rfl)) _)
   ·have e9:(w2.setCell ⟨g,8,none⟩ (.slice A3 (n-64) (c2-64))).cell? ⟨g,8,none⟩=some (.slice A3 (n-64) (c2-64)):=hb4.cell 8
    have e10:wr.cell? ⟨g,8,none⟩=some (.slice (some ⟨b2,o2,none⟩) n c2):=hb.cell 8
    rw[lenAt_of e9,lenAt_of e10];omega
  ·go_wp2_with fail
   obtain⟨hq1,hq2⟩:=hash_step m l Lf T hLf.out hT.out k hk (by rw[hn.out];omega)
   go_end0
   refine⟨rfl,_,⟨_,?_,?_,rfl,hne2,hz⟩,?_,hx⟩
   ·rw[hq1,hs0.out,hs1.out];exact hb
   ·rw[hq2,hU.out];exact ho
   ·rcases hf with e|e
    ·exact .inl e
    ·exact .inr ⟨H,e,by rw[hH.out];omega⟩
end Go.Proofs.YtbpfabhlngfciaaGreatDoor.ShaW
