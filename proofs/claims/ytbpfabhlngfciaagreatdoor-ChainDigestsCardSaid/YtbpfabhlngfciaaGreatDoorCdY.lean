/- sha: the reference's Sum in pieces: the further words of a block. -/
import Derived.Test.YtbpfabhlngfciaaGreatDoorCdX
set_option linter.unusedVariables false
set_option linter.unusedSimpArgs false
set_option maxRecDepth 100000
set_option maxHeartbeats 1000000
namespace Go.Proofs.YtbpfabhlngfciaaGreatDoor.ShaW
open Go.ChangeShapes Go.WideShapes Go.ChangeAt Go.RowKit
open ShaP Base Piece
theorem s0_form (x:BitVec 32):bits BinOp.xor IntKind.u32 (U (tr x 7 ^^^ tr x 18)) (U x / 8)=U (s0 x):=by rw[U_s3,U_xor];rfl
theorem s1_form (x:BitVec 32):bits BinOp.xor IntKind.u32 (U (tr x 17 ^^^ tr x 19)) (U x / 1024)=U (s1 x):=by rw[U_s10,U_xor];rfl
set_option maxRecDepth 1000000 in
set_option maxHeartbeats 4000000 in
theorem loop8 {Q:Exit→Act→World→Prop} (v0 v1 v2 v3 v4 v5 v6 v7 v9 v10 v12 v13 v14 v15 v16 v17 v18 v19 v20 v21:Value) (a:Act) (wb wa:World) (A1:Option Addr) (c1:Nat) (ch:List UInt8)
  (hF:Fr 315 [v0,v1,v2,v3,v4,v5,v6,v7,.slice A1 16 c1,v9,v10,.int .i64 16,v12,v13,v14,v15,v16,v17,v18,v19,v20,v21] a) (hx:Ext wb wa) (ho:OwnS wa (.slice A1 16 c1) (us (sch ch 16))) (hb:∀k,(Value.slice A1 16 c1).ownBlock=some k→wb.heap.size≤k)
  (hP:∀c a a2 w,Q (.panic c) a w→Q (.panic c) a2 w)
  (hQ:∀a' w' A1 c1 x12 x13 x14,Fr 315 [v0,v1,v2,v3,v4,v5,v6,v7,.slice A1 64 c1,v9,v10,.int .i64 64,x12,x13,x14,v15,v16,v17,v18,v19,v20,v21] a'→OwnS w' (.slice A1 64 c1) (us (sch ch 64))→(∀k,(Value.slice A1 64 c1).ownBlock=some k→wb.heap.size≤k)→Ext wb w'→Q (.exit 8) a' w') :
  (Code.loop (refBody 8)).wp Tryz.prog Q a wa:=by
 refine wp_loop (fun a wv=>∃(n:Nat) (A1:Option Addr) (c1:Nat) (x12 x13 x14:Value),16≤n∧n≤64∧Fr 315 [v0,v1,v2,v3,v4,v5,v6,v7,.slice A1 n c1,v9,v10,.int .i64 n,x12,x13,x14,v15,v16,v17,v18,v19,v20,v21] a∧OwnS wv (.slice A1 n c1) (us (sch ch n))∧(∀k,(Value.slice A1 n c1).ownBlock=some k→wb.heap.size≤k)∧Ext wb wv) (fun a _=>(64-intOf (a.tmps.getD 11 undef)).toNat) ⟨16,A1,c1,v12,v13,v14,by omega,by omega,hF,ho,hb,hx⟩ ?_
 clear hF ho hb hx a wa c1 A1
 rintro a w ⟨n,A1,c1,x12,x13,x14,h16,hn,hF,ho,hb,hx⟩
 obtain⟨u,rfl⟩:=lay315 hF
 clear hF
 conv=>arg 2;whnf
 by_cases hlt:n<64
 ·clear hQ
  have hlt':(n:Int)<64:=by omega
  have hword:sch ch (n+1)=sch ch n++[nextW (sch ch n)]:=by rw[sch,if_neg (by omega)]
  obtain⟨S,hS⟩:∃S,Hid (sch ch n=S):=⟨_,rfl⟩
  rw[hS.out] at ho hword
  have hlen:S.length=n:=by rw[←hS.out,sch_length]
  clear hS
  obtain⟨A0,c0,e0,hrd,_,_,_⟩:=ho.rd
  injection e0 with e1 e2 e3
  subst e1;subst e3
  clear e2
  obtain⟨bw,ow,rfl,_⟩:=hrd.at_ (k:=0) (by rw[us_length];omega)
  obtain⟨m15,hm15⟩:∃m,Hid (n-15=m):=⟨_,rfl⟩
  obtain⟨m2,hm2⟩:∃m,Hid (n-2=m):=⟨_,rfl⟩
  obtain⟨m16,hm16⟩:∃m,Hid (n-16=m):=⟨_,rfl⟩
  obtain⟨m7,hm7⟩:∃m,Hid (n-7=m):=⟨_,rfl⟩
  have q15:IntKind.i64.wrap ((n:Int)-15)=(m15:Int):=by rw[IntKind.wrap_i64,←hm15.out];omega
  have q2:IntKind.i64.wrap ((n:Int)-2)=(m2:Int):=by rw[IntKind.wrap_i64,←hm2.out];omega
  have q16:IntKind.i64.wrap ((n:Int)-16)=(m16:Int):=by rw[IntKind.wrap_i64,←hm16.out];omega
  have q7:IntKind.i64.wrap ((n:Int)-7)=(m7:Int):=by rw[IntKind.wrap_i64,←hm7.out];omega
  have b15:(m15:Int)<n:=by have:=hm15.out;omega
  have b2:(m2:Int)<n:=by have:=hm2.out;omega
  have b16:(m16:Int)<n:=by have:=hm16.out;omega
  have b7:(m7:Int)<n:=by have:=hm7.out;omega
  have hcs:∀m,m<n→∀W,Ext w W→W.cell? ⟨bw,ow+m,none⟩=some (.int .u32 (U (at32 S m))):=fun m hm W hW=>by
   obtain⟨b',off',e,_,hc⟩:=(hrd.ext hW).at_ (k:=m) (by rw[us_length,hlen];exact hm)
   simp only[Option.some.injEq,Addr.mk.injEq,and_true] at e
   obtain⟨rfl,rfl⟩:=e
   exact hc m _ (us_at S m (by rw[hlen];exact hm))
  have c15:=hcs m15 (by have:=hm15.out;omega)
  have c2:=hcs m2 (by have:=hm2.out;omega)
  have c16:=hcs m16 (by have:=hm16.out;omega)
  have c7:=hcs m7 (by have:=hm7.out;omega)
  clear hcs hrd
  have hnext:nextW S=at32 S m16+s0 (at32 S m15)+at32 S m7+s1 (at32 S m2):=by rw[nextW,hlen,hm16.out,hm15.out,hm7.out,hm2.out]
  rw[hnext] at hword
  clear hnext
  generalize at32 S m15=X15 at c15 hword
  generalize at32 S m2=X2 at c2 hword
  generalize at32 S m16=X16 at c16 hword
  generalize at32 S m7=X7 at c7 hword
  have f0:=U_xor (tr X15 7) (tr X15 18)
  have f1:=s0_form X15
  go_wp2_with fail
  refine Reg.startE (by kernel_rfl) ?_
  refine Reg.tk 0 ?_;(try simp only[Reg.nn])
  refine Reg.tk 1 ?_;(try simp only[Reg.nn])
  refine Reg.tk 2 ?_;(try simp only[Reg.nn])
  refine Reg.tk 3 ?_;(try simp only[Reg.nn])
  refine Reg.rk 4 w ?_;(try simp only[Reg.nn])
  refine Reg.tk 6 ?_;(try simp only[Reg.nn])
  refine Reg.tk 7 ?_;(try simp only[Reg.nn])
  refine Reg.tk 8 ?_;(try simp only[Reg.nn])
  refine Reg.tk 9 ?_;(try simp only[Reg.nn])
  refine Reg.rk 10 w ?_;(try simp only[Reg.nn])
  refine Reg.tk 13 ?_;(try simp only[Reg.nn])
  refine Reg.tk 14 ?_;(try simp only[Reg.nn])
  refine Reg.tk 15 ?_;(try simp only[Reg.nn])
  refine Reg.tk 16 ?_;(try simp only[Reg.nn])
  refine Reg.rk 17 w ?_;(try simp only[Reg.nn])
  refine Reg.tk 18 ?_;(try simp only[Reg.nn])
  refine Reg.onlyE 5 _ rfl (by kernel_rfl) (by decide) (by rfl) (fun W hW K hK=>?_);go_simp
  go_at_call 67
  refine (turn_7 X15 _).mono ?_
  rintro e wX ⟨rfl,rfl⟩
  refine hK.out _ _ (Ext.refl _) ?_;clear hK K;(try simp only[Reg.nn])
  refine Reg.onlyE 11 _ rfl (by kernel_rfl) (by decide) (by rfl) (fun W hW K hK=>?_);go_simp
  go_at_call 67
  refine (turn_18 X15 _).mono ?_
  rintro e wX ⟨rfl,rfl⟩
  refine hK.out _ _ (Ext.refl _) ?_;clear hK K;(try simp only[Reg.nn])
  refine Reg.tk 12 ?_;(try simp only[Reg.nn])
  refine Reg.tk 19 ?_;(try simp only[Reg.nn])
  refine Reg.tk 20 ?_;(try simp only[Reg.nn])
  refine Reg.fin (by kernel_rfl) (fun W hW=>?_)
  have hW0:Ext w W:=(by repeat (first|assumption|exact Ext.refl _|refine Ext.trans (by assumption) ?_|apply Ext.drew|apply Ext.drewN|apply Ext.alloc))
  generalize s0 X15=S0 at f1 hword ⊢
  clear f0 f1 c15
  have f0:=U_xor (tr X2 17) (tr X2 19)
  have f1:=s1_form X2
  go_wp2_with fail
  refine Reg.startE (by kernel_rfl) ?_
  refine Reg.tk 0 ?_;(try simp only[Reg.nn])
  refine Reg.tk 1 ?_;(try simp only[Reg.nn])
  refine Reg.tk 2 ?_;(try simp only[Reg.nn])
  refine Reg.tk 3 ?_;(try simp only[Reg.nn])
  refine Reg.rk 4 w ?_;(try simp only[Reg.nn])
  refine Reg.tk 6 ?_;(try simp only[Reg.nn])
  refine Reg.tk 7 ?_;(try simp only[Reg.nn])
  refine Reg.tk 8 ?_;(try simp only[Reg.nn])
  refine Reg.tk 9 ?_;(try simp only[Reg.nn])
  refine Reg.rk 10 w ?_;(try simp only[Reg.nn])
  refine Reg.tk 13 ?_;(try simp only[Reg.nn])
  refine Reg.tk 14 ?_;(try simp only[Reg.nn])
  refine Reg.tk 15 ?_;(try simp only[Reg.nn])
  refine Reg.tk 16 ?_;(try simp only[Reg.nn])
  refine Reg.rk 17 w ?_;(try simp only[Reg.nn])
  refine Reg.tk 18 ?_;(try simp only[Reg.nn])
  refine Reg.onlyE 5 _ rfl (by kernel_rfl) (by decide) (by rfl) (fun W hW K hK=>?_);go_simp
  go_at_call 67
  refine (turn_17 X2 _).mono ?_
  rintro e wX ⟨rfl,rfl⟩
  refine hK.out _ _ (Ext.refl _) ?_;clear hK K;(try simp only[Reg.nn])
  refine Reg.onlyE 11 _ rfl (by kernel_rfl) (by decide) (by rfl) (fun W hW K hK=>?_);go_simp
  go_at_call 67
  refine (turn_19 X2 _).mono ?_
  rintro e wX ⟨rfl,rfl⟩
  refine hK.out _ _ (Ext.refl _) ?_;clear hK K;(try simp only[Reg.nn])
  refine Reg.tk 12 ?_;(try simp only[Reg.nn])
  refine Reg.tk 19 ?_;(try simp only[Reg.nn])
  refine Reg.tk 20 ?_;(try simp only[Reg.nn])
  refine Reg.fin (by kernel_rfl) (fun W hW=>?_)
  have hW0:Ext w W:=(by repeat (first|assumption|exact Ext.refl _|refine Ext.trans (by assumption) ?_|apply Ext.drew|apply Ext.drewN|apply Ext.alloc))
  generalize s1 X2=S1 at f1 hword ⊢
  clear f0 f1 c2
  have f0:=U_add' X16 S0
  have f1:=U_add' (X16+S0) X7
  have f2:=U_add' (X16+S0+X7) S1
  generalize X16+S0+X7+S1=X at f2 hword ⊢
  go_wp2_with fail
  refine Reg.startE (by kernel_rfl) ?_
  iterate 4 ((first|refine Reg.tn ?_|refine Reg.sn ?_);(try simp only[Reg.nn]))
  refine Reg.rk 4 w ?_;(try simp only[Reg.nn])
  iterate 6 ((first|refine Reg.tn ?_|refine Reg.sn ?_);(try simp only[Reg.nn]))
  refine Reg.rk 11 w ?_;(try simp only[Reg.nn])
  iterate 4 ((first|refine Reg.tn ?_|refine Reg.sn ?_);(try simp only[Reg.nn]))
  refine Reg.fin (by kernel_rfl) (fun W hW=>?_)
  have hW0:Ext w W:=(by repeat (first|assumption|exact Ext.refl _|refine Ext.trans (by assumption) ?_|apply Ext.drew|apply Ext.drewN|apply Ext.alloc))
  clear f0 f1 f2 c16 c7
  obtain⟨A8,hA8⟩:∃A8,Hid (some (⟨bw,ow,none⟩:Addr)=A8):=⟨_,rfl⟩
  rw[hA8.out] at ho hb ⊢
  clear hA8
  have hoW:=ho.ext hW0
  have hxW:=hx.trans hW0
  clear ho hx hW0
  have hsW:=hxW.size
  generalize W=w1 at hoW hxW hsW ⊢
  go_wp2_with (
   refine wpList_oapp el_u32 _ rfl (.tmp 158) (.tmp 160) rfl (.slice A8 n c1) (us S) rfl (hoW.ext ((Ext.refl w1).alloc _)) (us_one _) _ 1 1 (us [X]) rfl (Rd.of_block w1 102 (0,0) rfl) rfl (fun h=>by cases h) (us_one _) (by rw[us_length];omega) (by omega) (fun V1 w2 ho1 hgr1 hv1=>?_)
   have hx1:Ext wb w2:=(hxW.alloc _).then_grown hgr1 hb
   have hb1:=own_ge hv1 hb (by simp;omega)
   clear hgr1 hv1
   obtain⟨A2,c2',rfl,_⟩:=ho1.rd
   rw[show us S++us [X]=us (S++[X]) by simp[us],us_length,List.length_append,hlen,show [X].length=1 from rfl,←hword] at ho1
   rw[show (us S++us [X]).length=n+1 by simp[us,hlen]] at hb1 ⊢)
  refine⟨⟨n+1,A2,c2',_,_,_,by omega,by omega,⟨_,rfl,rfl⟩,ho1,hb1,hx1⟩,?_⟩
  simp[intOf]
  omega
 ·obtain rfl:n=64:=by omega
  clear hlt
  go_wp2_with fail
  exact hQ _ _ A1 c1 x12 x13 x14 ⟨_,rfl,rfl⟩ ho hb hx
theorem U_not2 (a:BitVec 32):bits BinOp.xor IntKind.u32 (U a) 4294967295=U (~~~a):=by
 have h:=U_xor a (BitVec.allOnes 32)
 rw[BitVec.xor_allOnes] at h
 exact h
theorem rd_word {W:World} {b o:Nat} {L:List (BitVec 32)} (h:Rd W (some ⟨b,o,none⟩) (us L)) {i:Nat} (hi:i<L.length):W.cell? ⟨b,o+i,none⟩=some (.int .u32 (U (at32 L i))):=by
 obtain⟨b',off',e,_,hc⟩:=h.at_ (k:=i) (by rw[us_length];exact hi)
 simp only[Option.some.injEq,Addr.mk.injEq,and_true] at e
 obtain⟨rfl,rfl⟩:=e
 exact hc i _ (us_at L i hi)
theorem rd_addr {W:World} {A:Option Addr} {L:List (BitVec 32)} (h:Rd W A (us L)) (hL:0<L.length):∃b o,A=some ⟨b,o,none⟩:=by
 obtain⟨b,o,e,_⟩:=h.at_ (k:=0) (by rw[us_length];exact hL)
 exact⟨b,o,e⟩
set_option maxRecDepth 1000000 in
set_option maxHeartbeats 4000000 in
theorem loop10 {Q:Exit→Act→World→Prop} (v0 v1 v2 v3 v5 v6 v7 v9 v10 v11 v12 v13 v14 v17 v18 v19 v20 v21:Value) (a:Act) (wb wa:World) (AK A8 AV:Option Addr) (cK c8 cV N:Nat) (s:ShaP.St) (R Ws:List (BitVec 32))
  (hN:Hid (N=64)) (hR:Hid (roots=R)) (hRl:R.length=64) (hWl:Ws.length=64)
  (hF:Fr 315 [v0,v1,v2,v3,.slice AK 64 cK,v5,v6,v7,.slice A8 64 c8,v9,v10,v11,v12,v13,v14,.slice AV 8 cV,.int .i64 0,v17,v18,v19,v20,v21] a) (hx:Ext wb wa) (hK:Rd wa AK (us R)) (hW:Rd wa A8 (us Ws)) (hV:Rd wa AV (us s.list)) (hVb:∀p,AV=some p→wb.heap.size≤p.block)
  (hP:∀c a a2 w,Q (.panic c) a w→Q (.panic c) a2 w)
  (hQ:∀a' w' AV cV x17 x18,Fr 315 [v0,v1,v2,v3,.slice AK 64 cK,v5,v6,v7,.slice A8 64 c8,v9,v10,v11,v12,v13,v14,.slice AV 8 cV,.int .i64 64,x17,x18,v19,v20,v21] a'→Rd w' AV (us (rounds s Ws N).list)→(∀p,AV=some p→wb.heap.size≤p.block)→Ext wb w'→Q (.exit 10) a' w') :
  (Code.loop (refBody 10)).wp Tryz.prog Q a wa:=by
 obtain⟨bk,ok,rfl⟩:=rd_addr hK (by omega)
 obtain⟨b8,o8,rfl⟩:=rd_addr hW (by omega)
 obtain⟨wq,hwq⟩:∃wq,wq=wa:=⟨_,rfl⟩
 refine wp_loop (fun a wv=>∃(n:Nat) (AV:Option Addr) (cV:Nat) (x17 x18:Value),n≤64∧Fr 315 [v0,v1,v2,v3,.slice (some ⟨bk,ok,none⟩) 64 cK,v5,v6,v7,.slice (some ⟨b8,o8,none⟩) 64 c8,v9,v10,v11,v12,v13,v14,.slice AV 8 cV,.int .i64 n,x17,x18,v19,v20,v21] a∧Rd wv AV (us (rounds s Ws n).list)∧(∀p,AV=some p→wb.heap.size≤p.block)∧Ext wb wv∧Ext wq wv) (fun a _=>(64-intOf (a.tmps.getD 16 undef)).toNat) ⟨0,AV,cV,v17,v18,by omega,hF,hV,hVb,hx,by rw[hwq];exact Ext.refl _⟩ ?_
 rw[←hwq] at hK hW
 clear hF hV hVb hx hwq a wa cV AV
 rintro a w ⟨n,AV,cV,x17,x18,hn,hF,hV,hVb,hx,hxq⟩
 obtain⟨u,rfl⟩:=lay315 hF
 clear hF
 conv=>arg 2;whnf
 by_cases hlt:n<64
 ·clear hQ
  have hlt':(n:Int)<64:=by omega
  obtain⟨K,hKd⟩:∃K,Held (at32 roots n=K):=⟨_,⟨rfl⟩⟩
  obtain⟨X,hXd⟩:∃X,Held (at32 Ws n=X):=⟨_,⟨rfl⟩⟩
  have ck:∀W,Ext w W→W.cell? ⟨bk,ok+n,none⟩=some (.int .u32 (U K)):=fun W hW2=>by
   rw[rd_word (hK.ext (hxq.trans hW2)) (by omega),←hR.out,hKd.out]
  have cx:∀W,Ext w W→W.cell? ⟨b8,o8+n,none⟩=some (.int .u32 (U X)):=fun W hW2=>by
   rw[rd_word (hW.ext (hxq.trans hW2)) (by omega),hXd.out]
  obtain⟨st,hst⟩:∃st,Held (rounds s Ws n=st):=⟨_,⟨rfl⟩⟩
  have hr1:Held (rounds s Ws (n+1)=ShaP.round st K X):=⟨by rw[rounds,hst.out,hKd.out,hXd.out]⟩
  rw[hst.out] at hV
  clear hst hKd hXd hK hW hR
  obtain⟨bv,ov,rfl⟩:=rd_addr hV (by show 0<8;omega)
  have hvs:∀i,i<8→∀W,Ext w W→W.cell? ⟨bv,ov+i,none⟩=some (.int .u32 (U (at32 st.list i))):=fun i hi W hW2=>rd_word (hV.ext hW2) hi
  have e0:∀W,Ext w W→W.cell? ⟨bv,ov,none⟩=some (.int .u32 (U st.a)):=hvs 0 (by omega)
  have e1:∀W,Ext w W→W.cell? ⟨bv,ov+1,none⟩=some (.int .u32 (U st.b)):=hvs 1 (by omega)
  have e2:∀W,Ext w W→W.cell? ⟨bv,ov+2,none⟩=some (.int .u32 (U st.c)):=hvs 2 (by omega)
  have e3:∀W,Ext w W→W.cell? ⟨bv,ov+3,none⟩=some (.int .u32 (U st.d)):=hvs 3 (by omega)
  have e4:∀W,Ext w W→W.cell? ⟨bv,ov+4,none⟩=some (.int .u32 (U st.e)):=hvs 4 (by omega)
  have e5:∀W,Ext w W→W.cell? ⟨bv,ov+5,none⟩=some (.int .u32 (U st.f)):=hvs 5 (by omega)
  have e6:∀W,Ext w W→W.cell? ⟨bv,ov+6,none⟩=some (.int .u32 (U st.g)):=hvs 6 (by omega)
  have e7:∀W,Ext w W→W.cell? ⟨bv,ov+7,none⟩=some (.int .u32 (U st.h)):=hvs 7 (by omega)
  clear hvs hV hVb
  obtain⟨va,vb,vc,vd,ve,vf,vg,vh⟩:=st
  dsimp only at e0 e1 e2 e3 e4 e5 e6 e7
  have hround:ShaP.round ⟨va,vb,vc,vd,ve,vf,vg,vh⟩ K X=⟨ShaP.t1 ⟨va,vb,vc,vd,ve,vf,vg,vh⟩ K X+ShaP.t2 ⟨va,vb,vc,vd,ve,vf,vg,vh⟩,va,vb,vc,vd+ShaP.t1 ⟨va,vb,vc,vd,ve,vf,vg,vh⟩ K X,ve,vf,vg⟩:=rfl
  obtain⟨T1,hT1⟩:∃T,ShaP.t1 ⟨va,vb,vc,vd,ve,vf,vg,vh⟩ K X=T:=⟨_,rfl⟩
  obtain⟨T2,hT2⟩:∃T,ShaP.t2 ⟨va,vb,vc,vd,ve,vf,vg,vh⟩=T:=⟨_,rfl⟩
  rw[hT1,hT2] at hround
  have hr1:Held (rounds s Ws (n+1)=⟨T1+T2,va,vb,vc,vd+T1,ve,vf,vg⟩):=⟨hr1.out.trans hround⟩
  clear hround
  have g0:=U_xor (tr ve 6) (tr ve 11)
  have g1:=U_xor (tr ve 6 ^^^ tr ve 11) (tr ve 25)
  have g2:=U_add' vh (tr ve 6 ^^^ tr ve 11 ^^^ tr ve 25)
  have g3:=U_and ve vf
  have g4:=U_not2 ve
  have g5:=U_and (~~~ve) vg
  have g6:=U_xor (ve &&& vf) (~~~ve &&& vg)
  have g7:=U_add' (vh+(tr ve 6 ^^^ tr ve 11 ^^^ tr ve 25)) (ve &&& vf ^^^ ~~~ve &&& vg)
  have g8:=U_add' (vh+(tr ve 6 ^^^ tr ve 11 ^^^ tr ve 25)+(ve &&& vf ^^^ ~~~ve &&& vg)) K
  have g9:IntKind.u32.wrap (U (vh+(tr ve 6 ^^^ tr ve 11 ^^^ tr ve 25)+(ve &&& vf ^^^ ~~~ve &&& vg)+K)+U X)=U T1:=(U_add' _ _).trans (congrArg U hT1)
  clear hT1
  go_wp2_with fail
  refine Reg.startE (by kernel_rfl) ?_
  refine Reg.tk 0 ?_;(try simp only[Reg.nn])
  refine Reg.tk 1 ?_;(try simp only[Reg.nn])
  refine Reg.rk 2 w ?_;(try simp only[Reg.nn])
  refine Reg.tk 3 ?_;(try simp only[Reg.nn])
  refine Reg.tk 4 ?_;(try simp only[Reg.nn])
  refine Reg.rk 5 w ?_;(try simp only[Reg.nn])
  refine Reg.tk 7 ?_;(try simp only[Reg.nn])
  refine Reg.tk 8 ?_;(try simp only[Reg.nn])
  refine Reg.rk 9 w ?_;(try simp only[Reg.nn])
  refine Reg.tk 12 ?_;(try simp only[Reg.nn])
  refine Reg.tk 13 ?_;(try simp only[Reg.nn])
  refine Reg.rk 14 w ?_;(try simp only[Reg.nn])
  refine Reg.tk 18 ?_;(try simp only[Reg.nn])
  refine Reg.tk 19 ?_;(try simp only[Reg.nn])
  refine Reg.rk 20 w ?_;(try simp only[Reg.nn])
  refine Reg.tk 21 ?_;(try simp only[Reg.nn])
  refine Reg.tk 22 ?_;(try simp only[Reg.nn])
  refine Reg.rk 23 w ?_;(try simp only[Reg.nn])
  refine Reg.tk 24 ?_;(try simp only[Reg.nn])
  refine Reg.tk 25 ?_;(try simp only[Reg.nn])
  refine Reg.tk 26 ?_;(try simp only[Reg.nn])
  refine Reg.rk 27 w ?_;(try simp only[Reg.nn])
  refine Reg.tk 28 ?_;(try simp only[Reg.nn])
  refine Reg.tk 29 ?_;(try simp only[Reg.nn])
  refine Reg.tk 30 ?_;(try simp only[Reg.nn])
  refine Reg.rk 31 w ?_;(try simp only[Reg.nn])
  refine Reg.tk 32 ?_;(try simp only[Reg.nn])
  refine Reg.tk 33 ?_;(try simp only[Reg.nn])
  refine Reg.tk 35 ?_;(try simp only[Reg.nn])
  refine Reg.tk 36 ?_;(try simp only[Reg.nn])
  refine Reg.tk 37 ?_;(try simp only[Reg.nn])
  refine Reg.rk 38 w ?_;(try simp only[Reg.nn])
  refine Reg.tk 40 ?_;(try simp only[Reg.nn])
  refine Reg.tk 41 ?_;(try simp only[Reg.nn])
  refine Reg.tk 42 ?_;(try simp only[Reg.nn])
  refine Reg.rk 43 w ?_;(try simp only[Reg.nn])
  refine Reg.onlyE 6 _ rfl (by kernel_rfl) (by decide) (by rfl) (fun W hW K hK=>?_);go_simp
  go_at_call 67
  refine (turn_6 ve _).mono ?_
  rintro e wX ⟨rfl,rfl⟩
  refine hK.out _ _ (Ext.refl _) ?_;clear hK K;(try simp only[Reg.nn])
  refine Reg.onlyE 10 _ rfl (by kernel_rfl) (by decide) (by rfl) (fun W hW K hK=>?_);go_simp
  go_at_call 67
  refine (turn_11 ve _).mono ?_
  rintro e wX ⟨rfl,rfl⟩
  refine hK.out _ _ (Ext.refl _) ?_;clear hK K;(try simp only[Reg.nn])
  refine Reg.tk 11 ?_;(try simp only[Reg.nn])
  refine Reg.onlyE 15 _ rfl (by kernel_rfl) (by decide) (by rfl) (fun W hW K hK=>?_);go_simp
  go_at_call 67
  refine (turn_25 ve _).mono ?_
  rintro e wX ⟨rfl,rfl⟩
  refine hK.out _ _ (Ext.refl _) ?_;clear hK K;(try simp only[Reg.nn])
  refine Reg.tk 16 ?_;(try simp only[Reg.nn])
  refine Reg.tk 17 ?_;(try simp only[Reg.nn])
  refine Reg.tk 34 ?_;(try simp only[Reg.nn])
  refine Reg.tk 39 ?_;(try simp only[Reg.nn])
  refine Reg.tk 44 ?_;(try simp only[Reg.nn])
  refine Reg.tk 45 ?_;(try simp only[Reg.nn])
  refine Reg.fin (by kernel_rfl) (fun W hW=>?_)
  have hW0:Ext w W:=(by repeat (first|assumption|exact Ext.refl _|refine Ext.trans (by assumption) ?_|apply Ext.drew|apply Ext.drewN|apply Ext.alloc))
  clear g0 g1 g2 g3 g4 g5 g6 g7 g8 g9 ck cx e7
  have g0:=U_xor (tr va 2) (tr va 13)
  have g1:=U_xor (tr va 2 ^^^ tr va 13) (tr va 22)
  have g2:=U_and va vb
  have g3:=U_and va vc
  have g4:=U_xor (va &&& vb) (va &&& vc)
  have g5:=U_and vb vc
  have g6:=U_xor (va &&& vb ^^^ va &&& vc) (vb &&& vc)
  have g7:IntKind.u32.wrap (U (tr va 2 ^^^ tr va 13 ^^^ tr va 22)+U (va &&& vb ^^^ va &&& vc ^^^ vb &&& vc))=U T2:=(U_add' _ _).trans (congrArg U hT2)
  clear hT2
  go_wp2_with fail
  refine Reg.startE (by kernel_rfl) ?_
  refine Reg.tk 0 ?_;(try simp only[Reg.nn])
  refine Reg.tk 1 ?_;(try simp only[Reg.nn])
  refine Reg.rk 2 w ?_;(try simp only[Reg.nn])
  refine Reg.tk 4 ?_;(try simp only[Reg.nn])
  refine Reg.tk 5 ?_;(try simp only[Reg.nn])
  refine Reg.rk 6 w ?_;(try simp only[Reg.nn])
  refine Reg.tk 9 ?_;(try simp only[Reg.nn])
  refine Reg.tk 10 ?_;(try simp only[Reg.nn])
  refine Reg.rk 11 w ?_;(try simp only[Reg.nn])
  refine Reg.tk 14 ?_;(try simp only[Reg.nn])
  refine Reg.tk 15 ?_;(try simp only[Reg.nn])
  refine Reg.rk 16 w ?_;(try simp only[Reg.nn])
  refine Reg.tk 17 ?_;(try simp only[Reg.nn])
  refine Reg.tk 18 ?_;(try simp only[Reg.nn])
  refine Reg.rk 19 w ?_;(try simp only[Reg.nn])
  refine Reg.tk 20 ?_;(try simp only[Reg.nn])
  refine Reg.tk 21 ?_;(try simp only[Reg.nn])
  refine Reg.tk 22 ?_;(try simp only[Reg.nn])
  refine Reg.rk 23 w ?_;(try simp only[Reg.nn])
  refine Reg.tk 24 ?_;(try simp only[Reg.nn])
  refine Reg.tk 25 ?_;(try simp only[Reg.nn])
  refine Reg.rk 26 w ?_;(try simp only[Reg.nn])
  refine Reg.tk 27 ?_;(try simp only[Reg.nn])
  refine Reg.tk 28 ?_;(try simp only[Reg.nn])
  refine Reg.tk 29 ?_;(try simp only[Reg.nn])
  refine Reg.tk 30 ?_;(try simp only[Reg.nn])
  refine Reg.rk 31 w ?_;(try simp only[Reg.nn])
  refine Reg.tk 32 ?_;(try simp only[Reg.nn])
  refine Reg.tk 33 ?_;(try simp only[Reg.nn])
  refine Reg.rk 34 w ?_;(try simp only[Reg.nn])
  refine Reg.tk 35 ?_;(try simp only[Reg.nn])
  refine Reg.tk 36 ?_;(try simp only[Reg.nn])
  refine Reg.onlyE 3 _ rfl (by kernel_rfl) (by decide) (by rfl) (fun W hW K hK=>?_);go_simp
  go_at_call 67
  refine (turn_2 va _).mono ?_
  rintro e wX ⟨rfl,rfl⟩
  refine hK.out _ _ (Ext.refl _) ?_;clear hK K;(try simp only[Reg.nn])
  refine Reg.onlyE 7 _ rfl (by kernel_rfl) (by decide) (by rfl) (fun W hW K hK=>?_);go_simp
  go_at_call 67
  refine (turn_13 va _).mono ?_
  rintro e wX ⟨rfl,rfl⟩
  refine hK.out _ _ (Ext.refl _) ?_;clear hK K;(try simp only[Reg.nn])
  refine Reg.tk 8 ?_;(try simp only[Reg.nn])
  refine Reg.onlyE 12 _ rfl (by kernel_rfl) (by decide) (by rfl) (fun W hW K hK=>?_);go_simp
  go_at_call 67
  refine (turn_22 va _).mono ?_
  rintro e wX ⟨rfl,rfl⟩
  refine hK.out _ _ (Ext.refl _) ?_;clear hK K;(try simp only[Reg.nn])
  refine Reg.tk 13 ?_;(try simp only[Reg.nn])
  refine Reg.tk 37 ?_;(try simp only[Reg.nn])
  refine Reg.tk 38 ?_;(try simp only[Reg.nn])
  refine Reg.fin (by kernel_rfl) (fun W hW=>?_)
  have hW0:Ext w W:=(by repeat (first|assumption|exact Ext.refl _|refine Ext.trans (by assumption) ?_|apply Ext.drew|apply Ext.drewN|apply Ext.alloc))
  clear g0 g1 g2 g3 g4 g5 g6 g7
  have g0:=U_add' T1 T2
  have g1:=U_add' vd T1
  go_wp2_with fail
  refine Reg.startE (by kernel_rfl) ?_
  iterate 5 ((first|refine Reg.tn ?_|refine Reg.sn ?_);(try simp only[Reg.nn]))
  refine Reg.rk 5 w ?_;(try simp only[Reg.nn])
  iterate 2 ((first|refine Reg.tn ?_|refine Reg.sn ?_);(try simp only[Reg.nn]))
  refine Reg.rk 8 w ?_;(try simp only[Reg.nn])
  iterate 2 ((first|refine Reg.tn ?_|refine Reg.sn ?_);(try simp only[Reg.nn]))
  refine Reg.rk 11 w ?_;(try simp only[Reg.nn])
  iterate 2 ((first|refine Reg.tn ?_|refine Reg.sn ?_);(try simp only[Reg.nn]))
  refine Reg.rk 14 w ?_;(try simp only[Reg.nn])
  iterate 4 ((first|refine Reg.tn ?_|refine Reg.sn ?_);(try simp only[Reg.nn]))
  refine Reg.rk 19 w ?_;(try simp only[Reg.nn])
  iterate 2 ((first|refine Reg.tn ?_|refine Reg.sn ?_);(try simp only[Reg.nn]))
  refine Reg.rk 22 w ?_;(try simp only[Reg.nn])
  iterate 2 ((first|refine Reg.tn ?_|refine Reg.sn ?_);(try simp only[Reg.nn]))
  refine Reg.rk 25 w ?_;(try simp only[Reg.nn])
  refine Reg.onlyE 26 _ rfl (by kernel_rfl) (by decide) (by rfl) (fun W hW K hK=>?_);go_simp
  have hWa:Ext w W:=(by repeat (first|assumption|exact Ext.refl _|refine Ext.trans (by assumption) ?_|apply Ext.drew|apply Ext.drewN|apply Ext.alloc))
  have hal:Rd (W.alloc (.cells (us [T1+T2,va,vb,vc,vd+T1,ve,vf,vg]).toArray 102)) (some ⟨W.heap.size,0,none⟩) (us [T1+T2,va,vb,vc,vd+T1,ve,vf,vg]):=Rd.of_block _ _ _ rfl
  refine hK.out _ _ ((Ext.refl _).alloc _) ?_;clear hK K;(try simp only[Reg.nn])
  refine Reg.tk 27 ?_;(try simp only[Reg.nn])
  refine Reg.fin (by kernel_rfl) (fun W hW=>?_)
  have hW1:Ext w W:=(hWa.alloc _).trans (by assumption)
  have hal2:=hal.ext (by assumption)
  go_wp2_with fail
  refine⟨⟨n+1,_,_,_,_,by omega,⟨_,rfl,rfl⟩,by rw[hr1.out];exact hal2,fun p hp=>by injection hp with hp;rw[←hp];exact (hx.trans hWa).size,hx.trans hW1,hxq.trans hW1⟩,?_⟩
  simp[intOf]
  omega
 ·obtain rfl:n=N:=by have:=hN.out;omega
  clear hlt
  have hn64:(n:Int)=64:=by have:=hN.out;omega
  go_wp2_with fail
  rw[hn64]
  exact hQ _ _ AV cV x17 x18 ⟨_,rfl,rfl⟩ hV hVb hx
theorem mix_set0 (a b:List (BitVec 32)) (k:Nat) (h:k<8):((us (mix a b k)).toArray.setIfInBounds k (.int .u32 (U (at32 a k+at32 b k))))=(us (mix a b (k+1))).toArray:=by
 have:=mix_set a b k h []
 simpa using this
set_option maxRecDepth 1000000 in
set_option maxHeartbeats 4000000 in
theorem loop12 {Q:Exit→Act→World→Prop} (v0 v1 v2 v4 v5 v6 v7 v8 v9 v10 v11 v12 v13 v14 v16 v17 v18 v20 v21:Value) (a:Act) (wa:World) (AV:Option Addr) (cV G:Nat) (s t:ShaP.St)
  (hF:Fr 315 [v0,v1,v2,.slice (some ⟨G,0,none⟩) 8 8,v4,v5,v6,v7,v8,v9,v10,v11,v12,v13,v14,.slice AV 8 cV,v16,v17,v18,.int .i64 0,v20,v21] a) (hG:Blk wa G (us s.list).toArray 102) (hV:Rd wa AV (us t.list)) (hne:∀p,AV=some p→p.block≠G)
  (hP:∀c a a2 w,Q (.panic c) a w→Q (.panic c) a2 w)
  (hQ:∀a' w',Fr 315 [v0,v1,v2,.slice (some ⟨G,0,none⟩) 8 8,v4,v5,v6,v7,v8,v9,v10,v11,v12,v13,v14,.slice AV 8 cV,v16,v17,v18,.int .i64 8,v20,v21] a'→Blk w' G (us (s.plus t).list).toArray 102→wa.grownBy w' (some G)→Q (.exit 12) a' w') :
  (Code.loop (refBody 12)).wp Tryz.prog Q a wa:=by
 obtain⟨bv,ov,rfl⟩:=rd_addr hV (by show 0<8;omega)
 have hbG:bv≠G:=hne _ rfl
 obtain⟨wq,hwq⟩:∃wq,wq=wa:=⟨_,rfl⟩
 rw[←hwq] at hV hQ
 refine wp_loop (fun a wv=>∃(n:Nat),n≤8∧Fr 315 [v0,v1,v2,.slice (some ⟨G,0,none⟩) 8 8,v4,v5,v6,v7,v8,v9,v10,v11,v12,v13,v14,.slice (some ⟨bv,ov,none⟩) 8 cV,v16,v17,v18,.int .i64 n,v20,v21] a∧Blk wv G (us (mix s.list t.list n)).toArray 102∧wq.grownBy wv (some G)) (fun a _=>(8-intOf (a.tmps.getD 19 undef)).toNat) ⟨0,by omega,hF,by rw[mix_zero];exact hG,by rw[hwq];exact World.grownBy.refl _ _⟩ ?_
 clear hF hG hwq hne a wa
 rintro a w ⟨n,hn,hF,hG,hgr⟩
 obtain⟨u,rfl⟩:=lay315 hF
 clear hF
 conv=>arg 2;whnf
 by_cases hlt:n<8
 ·clear hQ
  have hlt':(n:Int)<8:=by omega
  have hmx:=mix_at s.list t.list n hlt
  have hms:=mix_set0 s.list t.list n hlt
  have hVw:Rd w (some ⟨bv,ov,none⟩) (us t.list):=Rd.chg hV (Chg.ofGrown hgr) (fun a ha e=>by injection ha with ha;injection e with e;exact hbG (by rw[e,←ha]))
  have ct:∀W,Ext w W→W.cell? ⟨bv,ov+n,none⟩=some (.int .u32 (U (at32 t.list n))):=fun W hW2=>rd_word (hVw.ext hW2) hlt
  have cs:∀W,Ext w W→W.cell? ⟨G,n,none⟩=some (.int .u32 (U (at32 s.list n))):=fun W hW2=>by
   rw[(hG.ext hW2).cell n,List.getElem?_toArray,us_at _ _ (by rw[mix_length];exact hlt),hmx]
  generalize at32 s.list n=S0 at cs hms
  generalize at32 t.list n=T0 at ct hms
  have g0:=U_add' S0 T0
  obtain⟨M1,hM1⟩:∃M,Held (mix s.list t.list (n+1)=M):=⟨_,⟨rfl⟩⟩
  rw[hM1.out] at hms
  generalize mix s.list t.list n=M0 at hms hG
  clear hV hVw hmx
  go_wp2_with fail
  refine Reg.startE (by kernel_rfl) ?_
  iterate 5 ((first|refine Reg.tn ?_|refine Reg.sn ?_);(try simp only[Reg.nn]))
  refine Reg.rk 5 w ?_;(try simp only[Reg.nn])
  iterate 3 ((first|refine Reg.tn ?_|refine Reg.sn ?_);(try simp only[Reg.nn]))
  refine Reg.rk 9 w ?_;(try simp only[Reg.nn])
  iterate 2 ((first|refine Reg.tn ?_|refine Reg.sn ?_);(try simp only[Reg.nn]))
  refine Reg.last 12 _ rfl (by kernel_rfl) (by kernel_rfl) (by kernel_rfl) (by decide) (by rfl) (fun W hW K hK=>?_)
  have hW0:Ext w W:=(by repeat (first|assumption|exact Ext.refl _|refine Ext.trans (by assumption) ?_|apply Ext.drew|apply Ext.drewN|apply Ext.alloc))
  have hf1:=(hG.ext hW0).frozen n
  have hc1:=cs W hW0
  go_simp
  refine hK.out _ _ ?_;clear hK K;(try simp only[Reg.nn])
  go_wp2_with fail
  have hst:=(hG.ext hW0).set n (.int .u32 (U (S0+T0)))
  rw[hms] at hst
  refine⟨⟨n+1,by omega,⟨_,rfl,rfl⟩,by rw[hM1.out];exact hst,grown_set (grown_ext hgr hW0) _ _⟩,?_⟩
  simp[intOf]
  omega
 ·obtain rfl:n=8:=by omega
  clear hlt
  go_wp2_with fail
  rw[mix_all] at hG
  exact hQ _ _ ⟨_,rfl,rfl⟩ hG hgr
set_option maxRecDepth 1000000 in
set_option maxHeartbeats 8000000 in
theorem loop4 {Q:Exit→Act→World→Prop} (v0 v1 v2 v6 v8 v9 v10 v11 v12 v13 v14 v15 v16 v17 v18 v19 v20 v21:Value) (a:Act) (wb wa:World) (AK A5:Option Addr) (cK mm cm G:Nat) (R:List (BitVec 32)) (L:List UInt8)
  (hR:Hid (roots=R)) (hRl:R.length=64) (hr:Rb wa A5 L) (hl:L.length=mm) (hmc:mm≤cm) (hmm:mm≤50000) (h64:mm%64=0)
  (hF:Fr 315 [v0,v1,v2,.slice (some ⟨G,0,none⟩) 8 8,.slice AK 64 cK,.slice A5 mm cm,v6,.int .i64 0,v8,v9,v10,v11,v12,v13,v14,v15,v16,v17,v18,v19,v20,v21] a) (hx:Ext wb wa) (hG:Blk wa G (us begin_.list).toArray 102) (hK:Rd wa AK (us R))
  (hKG:∀p,AK=some p→p.block≠G) (h5G:∀p,A5=some p→p.block≠G) (hbG:wb.heap.size≤G)
  (hP:∀c a a2 w,Q (.panic c) a w→Q (.panic c) a2 w)
  (hQ:∀a' w' x7 x8 x9 x10 x11 x12 x13 x14 x15 x16 x17 x18 x19,Fr 315 [v0,v1,v2,.slice (some ⟨G,0,none⟩) 8 8,.slice AK 64 cK,.slice A5 mm cm,v6,x7,x8,x9,x10,x11,x12,x13,x14,x15,x16,x17,x18,x19,v20,v21] a'→Blk w' G (us (blocks begin_ L (mm / 64)).list).toArray 102→Ext wb w'→Q (.exit 4) a' w') :
  (Code.loop (refBody 4)).wp Tryz.prog Q a wa:=by
 obtain⟨N4,hN4⟩:∃N,Held (mm / 64=N):=⟨_,⟨rfl⟩⟩
 rw[hN4.out] at hQ
 obtain⟨wq,hwq⟩:∃wq,wq=wa:=⟨_,rfl⟩
 refine wp_loop (fun a wv=>∃(j:Nat) (x8 x9 x10 x11 x12 x13 x14 x15 x16 x17 x18 x19:Value),64*j≤mm∧Fr 315 [v0,v1,v2,.slice (some ⟨G,0,none⟩) 8 8,.slice AK 64 cK,.slice A5 mm cm,v6,.int .i64 ((64*j:Nat):Int),x8,x9,x10,x11,x12,x13,x14,x15,x16,x17,x18,x19,v20,v21] a∧Blk wv G (us (blocks begin_ L j).list).toArray 102∧wq.grownBy wv (some G)) (fun a _=>mm-(intOf (a.tmps.getD 7 undef)).toNat) ⟨0,v8,v9,v10,v11,v12,v13,v14,v15,v16,v17,v18,v19,by omega,hF,hG,by rw[hwq];exact World.grownBy.refl _ _⟩ ?_
 rw[←hwq] at hr hK hx
 clear hF hG hwq a wa
 rintro a w ⟨j,x8,x9,x10,x11,x12,x13,x14,x15,x16,x17,x18,x19,hj,hF,hG,hgr⟩
 obtain⟨u,rfl⟩:=lay315 hF
 clear hF
 conv=>arg 2;whnf
 obtain⟨at_,hat⟩:∃x,Held (64*j=x):=⟨_,⟨rfl⟩⟩
 rw[hat.out] at hj ⊢
 have hxw:Ext wb w:=hx.then_grown hgr (fun k hk=>by injection hk with hk;omega)
 by_cases hlt:at_<mm
 ·clear hQ
  have hlt':(at_:Int)<(mm:Int):=by omega
  have hat64:at_+64≤mm:=by have:=hat.out;omega
  have hrw:Rb w A5 L:=Rd.chg hr (Chg.ofGrown hgr) (fun p hp e=>by injection e with e;exact h5G p hp e.symm)
  have hKw:Rd w AK (us R):=Rd.chg hK (Chg.ofGrown hgr) (fun p hp e=>by injection e with e;exact hKG p hp e.symm)
  obtain⟨ch,hch⟩:∃ch,Held ((L.drop at_).take 64=ch):=⟨_,⟨rfl⟩⟩
  have hat8:∀i,i<64→at8 L (at_+i)=at8 ch i:=fun i hi=>by
   rw[←hch.out];simp[at8,List.getD,List.getElem?_take,hi]
  obtain⟨s,hs⟩:∃s,Held (blocks begin_ L j=s):=⟨_,⟨rfl⟩⟩
  obtain⟨Ws,hWs⟩:∃x,Held (sch ch 64=x):=⟨_,⟨rfl⟩⟩
  obtain⟨N,hN⟩:∃N:Nat,Held (N=64):=⟨64,⟨rfl⟩⟩
  have hWl:Ws.length=64:=by rw[←hWs.out,sch_length]
  have hnext:Held (blocks begin_ L (j+1)=s.plus (rounds s Ws N)):=⟨by rw[blocks_succ L j begin_ L,hs.out,hat.out,hch.out,block,hWs.out,hN.out]⟩
  rw[hs.out] at hG
  go_wp2_with fail
  refine loop6 (w:=w) (hr:=hrw) (hl:=hl) (hmc:=hmc) (hat:=hat64) (hmm:=hmm) (hch:=hat8) (hF:=⟨_,rfl,rfl⟩) (hx:=(Ext.refl w).alloc _) (ho:=OwnS.zero _ _) (hb:=fun k hk=>by injection hk with hk;rw[←hk];exact Nat.le_refl _) (hP:=?_) (hQ:=?_)
  ·exact fun c a a2 w h=>hP c a a2 w h
  intro a2 w2 A8 c8 y10 hF2 ho2 hb2 hx2
  obtain⟨u2,rfl⟩:=lay315 hF2
  clear hF2
  go_wp2_with fail
  refine loop8 (wb:=w) (ch:=ch) (hF:=⟨_,rfl,rfl⟩) (hx:=hx2) (ho:=ho2) (hb:=hb2) (hP:=?_) (hQ:=?_)
  ·exact fun c a a2 w h=>hP c a a2 w h
  clear ho2 hb2 hx2
  intro a3 w3 A8 c8 y12 y13 y14 hF3 ho3 hb3 hx3
  obtain⟨u3,rfl⟩:=lay315 hF3
  clear hF3 u2
  rw[hWs.out] at ho3
  obtain⟨A8',c8',e8,hrd8,_⟩:=ho3.rd
  injection e8 with e1 e2 e3
  subst e1;subst e3
  clear e2 ho3 hb3 hat8 hrw
  have hG3:=hG.ext hx3
  have hsG:Rd (w3.alloc (.cells #[] 102)) (some ⟨G,0,none⟩) (us s.list):=fun _=>⟨G,0,rfl,fun i v hi=>by
   rw[Nat.zero_add,(hG3.alloc _).cell i,List.getElem?_toArray,hi]⟩
  obtain⟨AG,hAG⟩:∃A,Held (some (⟨G,0,none⟩:Addr)=A):=⟨_,⟨rfl⟩⟩
  obtain⟨n8,hn8⟩:∃n:Nat,Held (8=n):=⟨_,⟨rfl⟩⟩
  have hVS:Value.slice (some ⟨G,0,none⟩) 8 8=Value.slice AG n8 n8:=by rw[hAG.out,←hn8.out]
  rw[hVS]
  clear hVS
  rw[hAG.out] at hsG
  go_wp2_with (refine wpList_oapp el_u32 _ rfl (.tmp 162) (.tmp 163) rfl (.slice (some ⟨w3.heap.size,0,none⟩) 0 0) [] rfl (OwnS.zero _ _) (fun _ h=>by cases h) AG n8 n8 (us s.list) rfl hsG hn8.out (fun h=>by rw[←hAG.out] at h;cases h) (us_one _) (by have:=hn8.out;simp;omega) (by omega) (fun V1 w4 ho4 hgr4 hv4=>?_))
  rw[List.nil_append] at ho4
  have hx4:Ext w w4:=(hx3.alloc _).then_grown hgr4 (fun k hk=>by have hk:w3.heap.size=k:=(by simpa [Value.ownBlock] using hk);have:=hx3.size;omega)
  have hx34:Ext w3 w4:=((Ext.refl w3).alloc _).then_grown hgr4 (fun k hk=>by have hk:w3.heap.size=k:=(by simpa [Value.ownBlock] using hk);omega)
  have hb4:=own_ge (B:=w.heap.size) hv4 (fun k hk=>by have hk:w3.heap.size=k:=(by simpa [Value.ownBlock] using hk);have:=hx3.size;omega) (by simp;have:=hx3.size;omega)
  clear hgr4 hv4 hsG
  obtain⟨AV,cV,rfl,hrdV,_⟩:=ho4.rd
  rw[show (us s.list).length=8 from rfl] at hb4 ⊢
  have hVb:∀p,AV=some p→w.heap.size≤p.block:=fun p hp=>hb4 p.block (by rw[hp];rfl)
  clear ho4 hb4
  rw[←hAG.out,←hn8.out]
  clear hn8 hAG
  refine loop10 (wb:=w) (s:=s) (R:=R) (Ws:=Ws) (N:=N) (hN:=hN.out) (hR:=hR) (hRl:=hRl) (hWl:=hWl) (hF:=⟨_,rfl,rfl⟩) (hx:=hx4) (hK:=hKw.ext hx4) (hW:=hrd8.ext hx34) (hV:=hrdV) (hVb:=hVb) (hP:=?_) (hQ:=?_)
  ·exact fun c a a2 w h=>hP c a a2 w h
  clear hrdV hVb hx4 hx34 hx3 hG3 hrd8
  intro a5 w5 AV cV y17 y18 hF5 hV5 hVb5 hx5
  obtain⟨u5,rfl⟩:=lay315 hF5
  clear hF5 u3
  obtain⟨t,ht⟩:∃t,Held (rounds s Ws N=t):=⟨_,⟨rfl⟩⟩
  rw[ht.out] at hV5 hnext
  go_wp2_with fail
  refine loop12 (G:=G) (s:=s) (t:=t) (hF:=⟨_,rfl,rfl⟩) (hG:=hG.ext hx5) (hV:=hV5) (hne:=fun p hp e=>by have:=hVb5 p hp;have:=hG.lt;omega) (hP:=?_) (hQ:=?_)
  ·exact fun c a a2 w h=>hP c a a2 w h
  clear hV5 hVb5
  intro a6 w6 hF6 hG6 hgr6
  obtain⟨u6,rfl⟩:=lay315 hF6
  clear hF6 u5
  have hgw:wq.grownBy w6 (some G):=World.grownBy.trans (grown_ext hgr hx5) hgr6
  go_wp2_with fail
  have h64j:Held ((at_:Int)+64=((64*(j+1):Nat):Int)):=⟨by have:=hat.out;omega⟩
  rw[h64j.out]
  refine⟨⟨j+1,_,_,_,_,_,_,_,_,_,_,_,_,by have:=hat.out;omega,⟨_,rfl,rfl⟩,by rw[hnext.out];exact hG6,hgw⟩,?_⟩
  have:=hat.out
  simp[intOf]
  omega
 ·obtain rfl:j=N4:=by have:=hat.out;have:=hN4.out;omega
  have hlt':¬(at_:Int)<(mm:Int):=by omega
  go_wp2_with fail
  exact hQ _ _ _ _ _ _ _ _ _ _ _ _ _ _ _ ⟨_,rfl,rfl⟩ hG hxw
set_option maxRecDepth 1000000 in
set_option maxHeartbeats 8000000 in
theorem refSum_any (w:World) (A:Option Addr) (c:Nat) (l:List UInt8) (hr:Rb w A l) (hA:A=none→c=0) (hn:l.length≤40000) :
  Calls Tryz.prog 39 #[.slice A l.length c] w fun e w'=>e=.returned (.agg (u8s (sha l)).toArray)∧Ext w w':=by
 obtain⟨nb,hnb⟩:∃x,Held (l.length=x):=⟨_,⟨rfl⟩⟩
 have hn4:nb≤40000:=by rw[←hnb.out];exact hn
 have HA:=Lib.hid hA
 clear hA hn
 rw[hnb.out]
 obtain⟨R,hR⟩:∃R,Hid (roots=R):=⟨_,rfl⟩
 have hRl:R.length=64:=by rw[←hR.out];rfl
 go_enter Tryz.func39,Tryz.ntmps39
 go_wp2_with fail
 generalize hwq:World.alloc w _=w0
 have hH:Blk w0 w.heap.size z32 23:=by rw[←hwq];exact Blk.new _ _ _
 have hx0:Ext w w0:=by rw[←hwq];exact (Ext.refl w).alloc _
 clear hwq
 refine (words_any _).mono ?_
 rintro e w1 ⟨rfl,hG,hx1⟩
 obtain⟨G,hGd⟩:∃G,Held (w0.heap.size=G):=⟨_,⟨rfl⟩⟩
 rw[hGd.out] at hG ⊢
 have hG1:=hG.lt
 go_wp2_with fail
 refine (roots_any _).mono ?_
 rintro e w2 ⟨rfl,hK,hx2⟩
 obtain⟨KB,hKd⟩:∃K,Held (w1.heap.size=K):=⟨_,⟨rfl⟩⟩
 rw[hKd.out] at hK hG1 ⊢
 rw[hR.out] at hK
 have hG2:=hx2.size
 have hr2:Rb w2 A l:=hr.ext ((hx0.trans hx1).trans hx2)
 go_wp2_with (first
  | refine wpList_oapp el_u8 _ rfl (.tmp 24) (.tmp 25) rfl (.slice (some ⟨w2.heap.size,0,none⟩) 0 0) [] rfl (OwnS.zero _ _) (fun _ h=>by cases h) A nb c (u8s l) rfl (Rd.ext hr2 ((Ext.refl w2).alloc _)) (by rw[u8s_length,hnb.out]) HA.out (u8s_one l) (by simp;omega) (by omega) (fun V3 w3 ho3 hg3 hv3=>?_)
  | refine wpList_oapp el_u8 _ rfl (.tmp 26) (.tmp 27) rfl V3 (u8s l) rfl (OwnS.ext ho3 ((Ext.refl w3).alloc _)) (u8s_one _) (some ⟨w3.heap.size,0,none⟩) 1 1 (u8s [128]) rfl (Rd.of_block w3 5 (0,0) rfl) rfl (fun h=>by cases h) (u8s_one _) (by rw[u8s_length,hnb.out];omega) (by omega) (fun V4 w4 ho4 hg4 hv4=>?_))
 have hx3:Ext w2 w3:=((Ext.refl w2).alloc _).then_grown hg3 (fun k hk=>by have hk:w2.heap.size=k:=(by simpa [Value.ownBlock] using hk);omega)
 have hb3:=own_ge (B:=w2.heap.size) hv3 (fun k hk=>by have hk:w2.heap.size=k:=(by simpa [Value.ownBlock] using hk);omega) (by simp)
 have hx4:Ext w2 w4:=(hx3.alloc _).then_grown hg4 hb3
 have hb4:=own_ge hv4 hb3 (by simp;have:=hx3.size;omega)
 clear hg3 hv3 hg4 hv4 ho3 hb3 hx3
 rw[←u8s_append] at ho4
 obtain⟨A5,c5,rfl,_⟩:=ho4.rd
 rw[show (u8s (l++[128])).length=nb+1 by rw[u8s_length,List.length_append,hnb.out];rfl] at ho4 hb4 ⊢
 refine loop0 (wb:=w2) (nb:=nb) (T:=l++[128]) (hnb:=hn4) (hT:=by rw[List.length_append,hnb.out];rfl) (hF:=⟨_,rfl,rfl⟩) (hx:=hx4) (ho:=ho4) (hb:=hb4) (hQ:=?_)
 clear ho4 hb4 hx4
 intro a5 w5 A5 c5 hF5 ho5 hb5 hx5
 obtain⟨u5,rfl⟩:=lay315 hF5
 clear hF5
 obtain⟨n5,hn5⟩:∃n,Held (nb+1+noughts nb=n):=⟨_,⟨rfl⟩⟩
 have hn5s:n5%64=56:=by rw[←hn5.out,noughts];omega
 have hn5l:n5≤40100:=by rw[←hn5.out,noughts];omega
 rw[hn5.out] at ho5 hb5 ⊢
 go_wp2_with fail
 refine loop2 (wb:=w2) (nb:=nb) (n:=n5) (T:=l++[128]++List.replicate (noughts nb) 0) (hnb:=hn4) (hT:=by rw[List.length_append,List.length_append,List.length_replicate,hnb.out,←hn5.out];rfl) (hn5:=by omega) (hF:=⟨_,rfl,rfl⟩) (hx:=hx5) (ho:=ho5) (hb:=hb5) (hQ:=?_)
 clear ho5 hb5 hx5
 intro a6 w6 A6 c6 y6 hF6 ho6 hb6 hx6
 obtain⟨u6,rfl⟩:=lay315 hF6
 clear hF6 u5
 obtain⟨mm,hmm⟩:∃n,Held (n5+8=n):=⟨_,⟨rfl⟩⟩
 have hm64:mm%64=0:=by have:=hmm.out;omega
 have hm5:mm≤50000:=by have:=hmm.out;omega
 obtain⟨P,hPd⟩:∃P,Held (padded l l.length=P):=⟨_,⟨rfl⟩⟩
 have hPe:l++[128]++List.replicate (noughts nb) 0++be8 (nb*8)=P:=by rw[←hPd.out,padded,hnb.out]
 rw[hPe,hmm.out] at ho6
 rw[hmm.out] at hb6 ⊢
 have hPl:P.length=mm:=by rw[←hPe,List.length_append,List.length_append,List.length_append,List.length_replicate,hnb.out,←hmm.out,←hn5.out];rfl
 obtain⟨A6',c6',e6,hr6,hc6,_,_⟩:=ho6.rd
 injection e6 with e1 e2 e3
 subst e1;subst e3
 clear e2 hPe
 rw[u8s_length,hPl] at hc6
 clear ho6
 have hx06:Ext w0 w6:=(hx1.trans hx2).trans hx6
 have h6G:∀p,A6=some p→p.block≠G:=fun p hp e=>by have:=hb6 p.block (by rw[hp];rfl);have:=hKd.out;omega
 have hKG:∀p,(some ⟨KB,0,none⟩:Option Addr)=some p→p.block≠G:=fun p hp e=>by injection hp with hp;rw[←hp] at e;have e:KB=G:=e;omega
 have hbG:w0.heap.size≤G:=Nat.le_of_eq hGd.out
 have hK6:=hK.ext hx6
 have hG6:Blk w6 G (us begin_.list).toArray 102:=(hG.ext hx2).ext hx6
 clear hb6 hx6 hK hG hr2 hr
 go_wp2_with fail
 refine loop4 (wb:=w0) (G:=G) (R:=R) (L:=P) (hR:=hR) (hRl:=hRl) (hr:=hr6) (hl:=hPl) (hmc:=hc6) (hmm:=hm5) (h64:=hm64) (hF:=⟨_,rfl,rfl⟩) (hx:=hx06) (hG:=hG6) (hK:=hK6) (hKG:=hKG) (h5G:=h6G) (hbG:=hbG) (hP:=?_) (hQ:=?_)
 ·exact fun _ _ _ _ h=>nomatch h.2.1
 clear hr6 hx06 hG6 hK6 hKG h6G
 intro a7 w7 y7 z8 z9 z10 z11 z12 z13 z14 z15 z16 z17 z18 z19 hF7 hG7 hx7
 obtain⟨u7,rfl⟩:=lay315 hF7
 clear hF7 u6
 obtain⟨s,hs⟩:∃s,Held (blocks begin_ P (mm / 64)=s):=⟨_,⟨rfl⟩⟩
 rw[hs.out] at hG7
 have hsha:Held (sha l=out s):=⟨by rw[sha,hPd.out,hPl,hs.out]⟩
 have hH7:=hH.ext hx7
 clear hs hPd hPl
 have hHs:=hH7.lt
 have hbO:=hx7.size
 have hthere:(w7.alloc (.cells z32 23)).there w7.heap.size 0 z32.size:=fun j hj=>by
  rw[Nat.zero_add]
  exact⟨by rw[(Blk.new w7 z32 23).cell j,Array.getElem?_eq_getElem hj];rfl,(Blk.new w7 z32 23).frozen j⟩
 have hsz:(Tryz.prog.info? 23).map (·.size)=some z32.size:=by kernel_rfl
 have hone:z32.all (·.oneCell')=true:=by kernel_rfl
 go_wp2_with (refine wpList_store_mid rfl 23 (.tmp 20) (.tmp 295) rfl w7.heap.size 0 z32 rfl rfl hthere hsz hone ?_)
 obtain⟨O,hOd⟩:∃O,Held (w7.heap.size=O):=⟨_,⟨rfl⟩⟩
 have hG7l:=hG7.lt
 generalize hw8:World.setCells _ w7.heap.size 0 z32.toList=w8
 rw[hOd.out] at hw8 hG7l ⊢
 have hO8:Blk w8 O (otab s 0) 23:=by
  have h:=Blk_sets (u8s (List.replicate 32 0)) 0 _ _ (Blk.new w7 z32 23)
  rw[show setMany z32 0 (u8s (List.replicate 32 0))=z32 from setMany_full _ [] (u8s (List.replicate 32 0)) rfl] at h
  rw[←hw8,otab_zero,←hOd.out]
  exact h
 have hx8:Ext w0 w8:=by rw[←hw8,←hOd.out];exact Ext_sets hbO _ 0 (hx7.alloc _)
 have hG8:Blk w8 G (us s.list).toArray 102:=by rw[←hw8];exact Blk_far (by omega) _ _ (hG7.alloc _)
 have hGO:G≠O:=by omega
 have hbO8:w0.heap.size≤O:=by rw[←hOd.out];exact hbO
 clear hw8 hthere hbO hOd hG7l hHs hH7 hG7 hx7 hone
 refine loop14 (wb:=w0) (G:=G) (O:=O) (s:=s) (hF:=⟨_,rfl,rfl⟩) (hx:=hx8) (hG:=hG8) (hO:=hO8) (hGO:=hGO) (hbO:=hbO8) (hQ:=?_)
 clear hx8 hG8 hO8
 intro a9 w9 hF9 hO9 hx9
 obtain⟨u9,rfl⟩:=lay315 hF9
 clear hF9 u7
 rw[otab_full] at hO9
 have hz:=hH.ext hx9
 have hty:(Tryz.prog.info? 23).map (·.size)=some (u8s (out s)).length:=by rw[u8s_length,out_length];kernel_rfl
 have hld:∀j v,(u8s (out s))[j]?=some v→w9.cell? ⟨O,0+j,none⟩=some v:=fun j v hj=>by rw[Nat.zero_add,hO9.cell j,List.getElem?_toArray];exact hj
 have hth:w9.there w.heap.size 0 (u8s (out s)).toArray.size:=fun j hj=>by rw[Nat.zero_add];exact⟨by rw[hz.cell j,Array.getElem?_eq_getElem (by simpa [z32,u8s_length,out_length] using hj)];rfl,hz.frozen j⟩
 have hty2:(Tryz.prog.info? 23).map (·.size)=some (u8s (out s)).toArray.size:=by rw[List.size_toArray];exact hty
 have hone:=all_oneCell_toArray (u8s_one (out s))
 go_wp2_with (first
  | refine wpList_load_mid rfl 23 (.tmp 20) rfl O 0 rfl (u8s (out s)) (.array 32 5) hld (by kernel_rfl) rfl hty ?_
  | refine wpList_store_mid rfl 23 (.tmp 2) (.tmp 314) rfl w.heap.size 0 (u8s (out s)).toArray rfl rfl hth hty2 hone ?_)
 have hz2:=Blk_sets (u8s (out s)) 0 _ _ hz
 rw[show setMany z32 0 (u8s (out s))=(u8s (out s)).toArray from setMany_full _ [] (u8s (List.replicate 32 0)) (by rw[u8s_length,u8s_length,out_length];rfl)] at hz2
 refine⟨rfl,_,results_cell_row rfl _ _ w.heap.size 23 (u8s (out s)).toArray (0,0) (.array 32 5) rfl hz2 (by kernel_rfl) rfl hty2,?_,Ext_sets (Nat.le_refl _) _ 0 (hx0.trans hx9)⟩
 rw[hsha.out]
end Go.Proofs.YtbpfabhlngfciaaGreatDoor.ShaW
namespace Go.Proofs.YtbpfabhlngfciaaGreatDoor.Rk
open Go.ChangeShapes Go.WideShapes Go.ChangeAt Go.RowKit
open Base Pf Cn Pr Lx Mi Ch ShaP ShaW
theorem below_sets {B:Nat} {a:World} {g:Nat} (hg:B≤g):∀(vs:List Value) (o:Nat) {w:World},Go.RowKit.Below B a w→Go.RowKit.Below B a (w.setCells g o vs)
 | [],o,w,h=>h
 | v::vs,o,w,h=>below_sets hg vs (o+1) (h.setCell (by exact hg) v)
set_option maxHeartbeats 2000000 in
theorem rStep_any (S:List UInt8) (hS:S.length=32) (e:Et) (he:EtOk e) (w:World) :
  Calls Tryz.prog 37 #[.agg (u8s S).toArray,entV e] w fun en w'=>en=.returned (.agg (u8s (stepP S e)).toArray)∧Ext w w':=by
 obtain⟨L,hL⟩:∃z,Hid (u8s S=z):=⟨_,Lib.hid rfl⟩
 have hLl:L.length=32:=by rw[←hL.out,u8s_length,hS]
 rw[hL.out]
 obtain⟨q0,hq0⟩:∃z,Hid (w.heap.size=z):=⟨_,rfl⟩
 obtain⟨w1,hw1⟩:∃z,Hid (w.alloc (.cells L.toArray 23)=z):=⟨_,rfl⟩
 have hx1:Ext w w1:=by rw[←hw1.out];exact (Ext.refl w).alloc _
 have hb1:Blk w1 q0 L.toArray 23:=by rw[←hw1.out,←hq0.out];exact Blk.new w _ _
 have hs1:w1.heap.size=q0+1:=by rw[←hw1.out,←hq0.out];simp
 obtain⟨w2,hw2⟩:∃z,Hid (w1.alloc (.cells #[.bool e.pol,.int .i64 e.p,.string e.s,.int .u64 (e.id:Int)] 55)=z):=⟨_,rfl⟩
 have hx2:Ext w1 w2:=by rw[←hw2.out];exact (Ext.refl w1).alloc _
 have hb2:Blk w2 (q0+1) #[.bool e.pol,.int .i64 e.p,.string e.s,.int .u64 (e.id:Int)] 55:=by rw[←hw2.out,←hs1];exact Blk.new w1 _ _
 have hs2:w2.heap.size=q0+2:=by rw[←hw2.out];simp[hs1]
 have hby:=fun W=>rBytes_any e he W
 have hbl:=bytesP_len e
 have hst:stepP S e=sha (S++(if canP e=true then bytesP e else [])):=rfl
 obtain⟨X,hX⟩:∃z,Hid (stepP S e=z):=⟨_,Lib.hid rfl⟩
 have hXl:=stepP_len S e
 rw[hX.out] at hst hXl ⊢
 obtain⟨F,hF⟩:∃z,Hid ((if canP e=true then bytesP e else [])=z):=⟨_,Lib.hid rfl⟩
 have hFl:F.length≤5000:=by
  rw[←hF.out]
  split
  ·next h=>exact hbl h
  ·simp
 rw[hF.out] at hst
 simp only[hF.out] at hby
 obtain⟨fn,hfn⟩:∃z,Hid (F.length=z):=⟨_,Lib.hid rfl⟩
 rw[hfn.out] at hFl
 obtain⟨G,hG⟩:∃z,Hid (S++F=z):=⟨_,Lib.hid rfl⟩
 have hGl:G.length=32+fn:=by rw[←hG.out,List.length_append,hS,hfn.out]
 rw[hG.out] at hst
 obtain⟨PO,hPO⟩:∃PO:Ending→World→Prop,Hid ((fun en w'=>en=.returned (.agg (u8s X).toArray)∧Ext w w')=PO):=⟨_,Lib.hid rfl⟩
 rw[hPO.out]
 replace hby:=Lib.hid hby
 replace hst:=Lib.hid hst
 clear hbl
 obtain⟨pol,p,s,id⟩:=e
 unfold entV at *
 simp only at *
 go_enter Tryz.func37,Tryz.ntmps37
 go_wp2_with fail
 rw[hw1.out,hq0.out,hw2.out]
 generalize hw3:World.alloc w2 _=w3
 have hx3:Ext w2 w3:=by rw[←hw3];exact (Ext.refl w2).alloc _
 have hb3:Blk w3 (q0+2) z32 23:=by rw[←hw3,←hs2];exact Blk.new w2 z32 _
 clear hw3
 rw[show q0+1+1=q0+2 from rfl]
 have hx03:=(hx1.trans hx2).trans hx3
 refine Reg.startX (R:=Go.RowKit.Below (q0+2)) (by kernel_rfl) ?_
 have hRl:=Reg.rl_below (q0+2)
 generalize hwq:World.drew _=wq
 have hxq:Ext w3 wq:=by rw[←hwq];exact (Ext.refl w3).drew
 clear hwq
 have hx2q:=hx3.trans hxq
 have ext2:∀W,Go.RowKit.Below (q0+2) wq W→Ext w2 W:=fun W hW=>by
  have h:=hx2q
  unfold Ext at h ⊢
  rw[hs2] at h ⊢
  exact Below.trans h hW
 have hent:∀W,Go.RowKit.Below (q0+2) wq W→∀i,W.cell? ⟨q0+1,i,none⟩ = #[Value.bool pol,.int .i64 p,.string s,.int .u64 (id:Int)][i]?:=fun W hW i=>(hb2.ext (ext2 W hW)).cell i
 have r0:∀W,Go.RowKit.Below (q0+2) wq W→W.cell? ⟨q0+1,0,none⟩=some (.bool pol):=fun W hW=>hent W hW 0
 have r1:∀W,Go.RowKit.Below (q0+2) wq W→W.cell? ⟨q0+1,1,none⟩=some (.int .i64 p):=fun W hW=>hent W hW 1
 have r2:∀W,Go.RowKit.Below (q0+2) wq W→W.cell? ⟨q0+1,2,none⟩=some (.string s):=fun W hW=>hent W hW 2
 have r3:∀W,Go.RowKit.Below (q0+2) wq W→W.cell? ⟨q0+1,3,none⟩=some (.int .u64 (id:Int)):=fun W hW=>hent W hW 3
 have hrb:∀W,Go.RowKit.Below (q0+2) wq W→Rb W (some ⟨q0,0,none⟩) S:=fun W hW _=>⟨q0,0,rfl,fun j u hj=>by
  rw[Nat.zero_add,((hb1.ext hx2).ext (ext2 W hW)).cell j,List.getElem?_toArray,←hL.out,hj]⟩
 have hbq:q0+2≤wq.heap.size:=by have:=hx2q.size;omega
 have hl8:(u8s S).length=32*1:=by rw[u8s_length,hS]
 replace hrb:=Lib.hid hrb
 clear hent
 refine Reg.tx hRl 1 ?_;(try simp only[Reg.nn])
 refine Reg.tx hRl 3 ?_;(try simp only[Reg.nn])
 refine Reg.onlyX 0 _ rfl (by kernel_rfl) (by decide) (by rfl) (fun K hK=>?_);go_simp
 obtain⟨wa,hwa⟩:∃z,Hid (wq.alloc (.cells #[] 5)=z):=⟨_,rfl⟩
 have hlit:wa.ownsRow wq.heap.size 5 1 (.slice (some ⟨wq.heap.size,0,none⟩) 0 0) 0 []:=by rw[←hwa.out];exact World.ownsRow_lit wq #[] 0 (Nat.le_refl _) (Nat.zero_le _) rfl
 have hxa:Ext wq wa:=by rw[←hwa.out];exact (Ext.refl wq).alloc _
 have hba:=Nat.le_trans hbq hxa.size
 rw[hwa.out]
 refine hK.out _ _ (Below.mono hxa hbq) ?_;clear hK K;(try simp only[Reg.nn])
 refine Reg.onlyX 2 _ rfl (by kernel_rfl) (by decide) (by rfl) (fun K hK=>?_)
 refine wp_app0 el8 wa (.tmp 5) (.tmp 6) rfl _ _ rfl hlit (some ⟨q0,0,none⟩) 32 32 (u8s S) rfl (hrb.out wa (Below.mono hxa hbq)) hl8 (fun h=>by cases h) (by omega) (by omega) hxa.size (fun v' w6 ho6 hx6=>?_)
 have hxq6:Ext wq w6:=hxa.trans hx6
 have hb6:=Nat.le_trans hbq hxq6.size
 obtain⟨A6,c6,rfl,jj1,jj2,jj3,jj4⟩:=Rd.of_own ho6
 refine hK.out _ _ (Below.mono hx6 hba) ?_
 clear hK K jj1 jj2 jj3 jj4 hlit hx6
 (try simp only[Reg.nn])
 refine Reg.onlyX 4 _ rfl (by kernel_rfl) (by decide) (by rfl) (fun K hK=>?_);go_simp
 refine (hby.out w6).mono ?_
 rintro en w7 ⟨v7,rfl,ho7,hx7⟩
 obtain⟨A7,c7,rfl,jj1,jj2,jj7,jj4⟩:=Rd.of_own ho7
 have hA7:A7=none→c7=0:=own_none ho7
 rw[hfn.out]
 replace hA7:=Lib.hid hA7
 replace jj7:=Lib.hid jj7
 have hxq7:Ext wq w7:=hxq6.trans hx7
 clear jj1 jj2 jj4 ho7
 refine hK.out _ _ (Below.mono hx7 hb6) ?_;clear hK K;(try simp only[Reg.nn])
 refine Reg.onlyX 5 _ rfl (by kernel_rfl) (by decide) (by rfl) (fun K hK=>?_)
 refine wp_app el8 w7 (.tmp 7) (.tmp 9) rfl wq.heap.size (.slice A6 32 c6) 32 (u8s S) rfl (own_ext ho6 hx7) A7 fn c7 (u8s F) rfl jj7.out (by rw[u8s_length,hfn.out,Nat.mul_one]) hA7.out (u8s_one _) (by omega) (by omega) hxq7.size (fun v8 w8 ho8 hg8 hv8=>?_)
 have hg78:Go.RowKit.Below wq.heap.size w7 w8:=grw hxq7.size (own_ext ho6 hx7) (Ext.refl _) hg8
 have hxq8:Ext wq w8:=Below.trans hxq7 hg78
 rw[←u8s_append,hG.out] at ho8
 obtain⟨A8,c8,rfl,jj1,jj2,jj8,jj4⟩:=Rd.of_own ho8
 have hs8:=refSum_any w8 A8 c8 G jj8 (own_none ho8) (by omega)
 rw[←hst.out,hGl] at hs8
 refine hK.out _ _ (Below.mono hg78 hbq) ?_
 clear hK K jj1 jj2 jj8 jj4 ho8 hg8 hv8
 (try simp only[Reg.nn])
 refine Reg.onlyX 6 _ rfl (by kernel_rfl) (by decide) (by rfl) (fun K hK=>?_);go_simp
 refine hs8.mono ?_
 rintro en w9 ⟨rfl,hx9⟩
 have hxq9:Ext wq w9:=hxq8.trans hx9
 have hz9:=(hb3.ext hxq).ext hxq9
 refine hK.out _ _ (Below.mono hx9 (Nat.le_trans hbq hxq8.size)) ?_;clear hK K;(try simp only[Reg.nn])
 refine Reg.onlyX 7 _ rfl (by kernel_rfl) (by decide) (by rfl) (fun K hK=>?_)
 refine wp_store_mid 23 (.tmp 4) (.tmp 11) rfl (q0+2) 0 (u8s X).toArray rfl rfl (sumX_there hz9 _ hXl) (sumX_info _ hXl) (all_oneCell_toArray (u8s_one _)) ?_
 refine hK.out _ _ (below_sets (Nat.le_refl _) _ 0 (Go.RowKit.Below.refl _ _)) ?_
 clear hK K
 (try simp only[Reg.nn])
 refine Reg.finX (by kernel_rfl) ?_
 have hx09:=(hx03.trans hxq).trans hxq9
 go_wp2_with fail
 refine bodyPost_ret (results_cell_row rfl _ _ (q0+2) 23 (u8s X).toArray (0,0) (.array 32 5) rfl (sumX_cells X hXl hz9) (by kernel_rfl) rfl (sumX_info X hXl)) rfl ?_
 rw[←hPO.out]
 exact⟨rfl,Ext_sets (by have:=hq0.out;omega) _ 0 hx09⟩
theorem el_ent:El Tryz.prog 66 55 (.agg #[.bool false,.int .i64 0,.string ByteArray.empty,.int .u64 0]) 4 40:=⟨by kernel_rfl,by kernel_rfl,by kernel_rfl,by omega⟩
theorem run_cutZ {P:Program} {t e:TypeId} {s:Nat} (ht:P.underlying t=some (.slice e)) (he:(P.info? e).map (·.size)=some s) (w:World) (A:Option Addr) (n c k:Nat) (hk:k≤c) :
  (Instr.sliceAt t (.slice A n c) none (some (.int .i64 (k:Int))) none).run P w=.ok (.slice A k c) w:=by
 have h2:(0:Int)≤(k:Int)∧(k:Int)≤(c:Int):=by omega
 cases hq:P.info? e with
 | none=>simp[hq] at he
 | some i=>
  have hA:A.map (fun a=>a.add 0)=A:=by cases A<;>simp[Addr.add]
  simp[Instr.sliceAt,Instr.slice,Instr.sliceBounds,Instr.sliceBound,run_underlying ht,asIntOf,h2,sizeOf,typeInfo,hq,go_sem,hA,hk]
theorem ents_take (l:List Et):∀n,(entsZ l).take (n*4)=entsZ (l.take n):=by
 induction l with
 | nil=>intro n;simp[entsZ]
 | cons x l ih=>
  intro n
  cases n with
  | zero=>simp[entsZ]
  | succ n=>
   have h:=ih n
   show (entC x++entsZ l).take ((n+1)*4)=entC x++entsZ (l.take n)
   rw[←h,List.take_append,List.take_of_length_le (by show 4≤_;omega)]
   congr 2
   show (n+1)*4-4=n*4
   omega
theorem sl_take {B:Nat} {w:World} {A:Option Addr} {n c:Nat} {l:List Et} (h:Sl B w (.slice A n c) l.length (entsZ l)) (k:Nat) (hk:k≤l.length):Sl B w (.slice A k c) (l.take k).length (entsZ (l.take k)):=by
 obtain⟨A',c',e,h1,h2,h3,h4,h5⟩:=h
 injection e with e1 e2 e3
 subst e1;subst e3
 refine⟨A,c,by rw[List.length_take,Nat.min_eq_left hk],?_,fun hne=>h2 (by intro e;apply hne;rw[←ents_take,e];simp),by rw[List.length_take];omega,h4,h5⟩
 have:=h1.take (k*4)
 rwa [ents_take] at this
set_option maxHeartbeats 2000000 in
theorem rDigest_any:∀(n:Nat) (B:Nat) (v:Value) (l:List Et) (w:World),l.length=n→Sl B w v l.length (entsZ l)→B≤w.heap.size→(∀e∈l,EtOk e)→
  Calls Tryz.prog 35 #[v] w fun en w'=>en=.returned (.agg (u8s (digP l)).toArray)∧Ext w w'
 | 0,B,v,l,w,hl,hS,hB,hE=>by
  obtain rfl:l=[]:=List.eq_nil_of_length_eq_zero hl
  obtain⟨A1,c1,rfl,hn1,hm1,_,hat1⟩:=hS.at_
  obtain⟨w1,hw1⟩:∃z,Hid (w.alloc (.cells z32 23)=z):=⟨_,rfl⟩
  have hz1:=Blk.new w z32 23
  have hx1:Ext w (w.alloc (.cells z32 23)):=(Ext.refl w).alloc _
  clear hS hat1
  go_enter Tryz.func35,Tryz.ntmps35
  go_wp2_with (refine wpList_store_mid rfl 23 (.tmp 2) (.tmp 6) rfl w.heap.size 0 (u8s zS).toArray rfl rfl (sumX_there hz1 zS rfl) (sumX_info _ rfl) (all_oneCell_toArray (u8s_one _)) ?_)
  refine bodyPost_ret (results_cell_row rfl _ _ w.heap.size 23 (u8s zS).toArray (0,0) (.array 32 5) rfl (sumX_cells zS rfl hz1) (by kernel_rfl) rfl (sumX_info zS rfl)) rfl ?_
  exact⟨rfl,Ext_sets (Nat.le_refl _) _ 0 hx1⟩
 | n+1,B,v,l,w,hl,hS,hB,hE=>by
  obtain⟨A1,c1,rfl,hn1,hm1,_,hat1⟩:=hS.at_
  have hlt:n<l.length:=by omega
  obtain⟨e,he⟩:∃e,l[n]?=some e:=⟨_,List.getElem?_eq_getElem hlt⟩
  have heo:EtOk e:=hE e (List.mem_of_getElem? he)
  have hST:=sl_take hS n (by omega)
  have ih:=fun W (hW:Ext w W)=>rDigest_any n W.heap.size (.slice A1 n c1) (l.take n) W (by rw[List.length_take];omega) ((hST.below (Below.mono hW hB)).mono (Nat.le_trans hB hW.size)) (Nat.le_refl _) (fun x hx=>hE x (List.mem_of_mem_take hx))
  have hcut:=fun W=>run_cutZ (P:=Tryz.prog) (t:=66) (e:=55) (s:=4) Tryz.underlying66 (by kernel_rfl) W A1 (n+1) c1 n (by omega)
  have hz:=entsZ_at l n _ he
  obtain⟨b1,o1,rfl,hb1,hc1⟩:=hat1 (n*4+0) (.bool e.pol) (by rw[hz 0 (by omega)];rfl)
  have hd:=digP_take l n e he
  rw[List.take_of_length_le (by omega)] at hd
  have hYl:=digP_len (l.take n)
  obtain⟨Y,hY⟩:∃z,Hid (digP (l.take n)=z):=⟨_,Lib.hid rfl⟩
  rw[hY.out] at hd hYl
  simp only[hY.out] at ih
  have hXl:=stepP_len Y e
  have hst:=fun W=>rStep_any Y hYl e heo W
  obtain⟨X,hX⟩:∃z,Hid (stepP Y e=z):=⟨_,Lib.hid rfl⟩
  rw[hX.out] at hd hXl
  simp only[hX.out] at hst
  rw[hd,hl]
  have hcs:∀W,Ext w W→∀i v,i<4→(entC e)[i]?=some v→W.cell? ⟨b1,o1+(n*4+i),none⟩=some v:=fun W hW i v hi hv=>hc1 W (Below.mono hW hB) (n*4+i) v (by rw[hz i hi];exact hv)
  obtain⟨q,hq⟩:∃z,Hid (w.heap.size=z):=⟨_,rfl⟩
  unfold maxLen at hm1
  have hnn:IntKind.i64.wrap (((n+1:Nat):Int)-1)=(n:Int):=by rw[IntKind.wrap_i64];omega
  have hwn:IntKind.i64.wrap (n:Int)=(n:Int):=by rw[IntKind.wrap_i64];omega
  have hnc1:(n:Int)≤(c1:Int):=by omega
  obtain⟨PO,hPO⟩:∃PO:Ending→World→Prop,Hid ((fun en w'=>en=.returned (.agg (u8s X).toArray)∧Ext w w')=PO):=⟨_,Lib.hid rfl⟩
  rw[hPO.out]
  replace ih:=Lib.hid ih
  replace hst:=Lib.hid hst
  replace hcs:=Lib.hid hcs
  clear hat1 hz hc1 hE hS hST
  obtain⟨pol,p,s,id⟩:=e
  unfold entV at *
  simp only at *
  go_enter Tryz.func35,Tryz.ntmps35
  go_wp2_with fail
  generalize hw3:World.alloc w _=w3
  have hx3:Ext w w3:=by rw[←hw3];exact (Ext.refl w).alloc _
  have hb3:Blk w3 q z32 23:=by rw[←hw3,←hq.out];exact Blk.new w z32 _
  clear hw3
  rw[hq.out]
  have hx03:=hx3
  refine Reg.startX (R:=Go.RowKit.Below q) (by kernel_rfl) ?_
  have hRl:=Reg.rl_below q
  generalize hwq:World.drew _=wq
  have hxq:Ext w3 wq:=by rw[←hwq];exact (Ext.refl w3).drew
  clear hwq
  have hx0q:=hx3.trans hxq
  have hbq:q≤wq.heap.size:=by have:=hx0q.size;have:=hq.out;omega
  have ext0:∀W,Go.RowKit.Below q wq W→Ext w W:=fun W hW=>by
   have h:=hx0q
   unfold Ext at h ⊢
   rw[hq.out] at h ⊢
   exact Below.trans h hW
  have d0:∀W,Go.RowKit.Below q wq W→W.cell? ⟨b1,o1+n*4,none⟩=some (.bool pol):=fun W hW=>by have:=hcs.out W (ext0 W hW) 0 _ (by omega) rfl;simpa [Nat.add_assoc] using this
  have d1:∀W,Go.RowKit.Below q wq W→W.cell? ⟨b1,o1+n*4+1,none⟩=some (.int .i64 p):=fun W hW=>by have:=hcs.out W (ext0 W hW) 1 _ (by omega) rfl;simpa [Nat.add_assoc] using this
  have d2:∀W,Go.RowKit.Below q wq W→W.cell? ⟨b1,o1+n*4+2,none⟩=some (.string s):=fun W hW=>by have:=hcs.out W (ext0 W hW) 2 _ (by omega) rfl;simpa [Nat.add_assoc] using this
  have d3:∀W,Go.RowKit.Below q wq W→W.cell? ⟨b1,o1+n*4+3,none⟩=some (.int .u64 (id:Int)):=fun W hW=>by have:=hcs.out W (ext0 W hW) 3 _ (by omega) rfl;simpa [Nat.add_assoc] using this
  have hnc:(n:Int)<(n:Int)+1:=by omega
  refine Reg.tx hRl 0 ?_;(try simp only[Reg.nn])
  refine Reg.tx hRl 1 ?_;(try simp only[Reg.nn])
  refine Reg.tx hRl 2 ?_;(try simp only[Reg.nn])
  refine Reg.tx hRl 3 ?_;(try simp only[Reg.nn])
  refine Reg.tx hRl 4 ?_;(try simp only[Reg.nn])
  refine Reg.tx hRl 6 ?_;(try simp only[Reg.nn])
  refine Reg.tx hRl 7 ?_;(try simp only[Reg.nn])
  refine Reg.tx hRl 8 ?_;(try simp only[Reg.nn])
  refine Reg.tx hRl 9 ?_;(try simp only[Reg.nn])
  refine Reg.tx hRl 10 ?_;(try simp only[Reg.nn])
  refine Reg.tx hRl 11 ?_;(try simp only[Reg.nn])
  refine Reg.onlyX 5 _ rfl (by kernel_rfl) (by decide) (by rfl) (fun K hK=>?_);go_simp
  refine (ih.out wq hx0q).mono ?_
  rintro en w5 ⟨rfl,hx5⟩
  refine hK.out _ _ (Below.mono hx5 hbq) ?_;clear hK K;(try simp only[Reg.nn])
  refine Reg.onlyX 12 _ rfl (by kernel_rfl) (by decide) (by rfl) (fun K hK=>?_);go_simp
  refine (hst.out w5).mono ?_
  rintro en w6 ⟨rfl,hx6⟩
  have hz6:=((hb3.ext hxq).ext hx5).ext hx6
  have hb5:=Nat.le_trans hbq hx5.size
  refine hK.out _ _ (Below.mono hx6 hb5) ?_;clear hK K;(try simp only[Reg.nn])
  refine Reg.onlyX 13 _ rfl (by kernel_rfl) (by decide) (by rfl) (fun K hK=>?_)
  refine wp_store_mid 23 (.tmp 2) (.tmp 19) rfl q 0 (u8s X).toArray rfl rfl (sumX_there hz6 _ hXl) (sumX_info _ hXl) (all_oneCell_toArray (u8s_one _)) ?_
  refine hK.out _ _ (below_sets (Nat.le_refl _) _ 0 (Go.RowKit.Below.refl _ _)) ?_
  clear hK K
  (try simp only[Reg.nn])
  refine Reg.finX (by kernel_rfl) ?_
  have hx06:=(hx0q.trans hx5).trans hx6
  go_wp2_with fail
  refine bodyPost_ret (results_cell_row rfl _ _ q 23 (u8s X).toArray (0,0) (.array 32 5) rfl (sumX_cells X hXl hz6) (by kernel_rfl) rfl (sumX_info X hXl)) rfl ?_
  rw[←hPO.out]
  exact⟨rfl,Ext_sets (by rw[hq.out];exact Nat.le_refl _) _ 0 hx06⟩
end Go.Proofs.YtbpfabhlngfciaaGreatDoor.Rk
