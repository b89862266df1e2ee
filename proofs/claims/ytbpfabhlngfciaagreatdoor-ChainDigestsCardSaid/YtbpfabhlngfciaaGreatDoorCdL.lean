/- chain: entries put, walked. -/
import Derived.Test.YtbpfabhlngfciaaGreatDoorCdK
import Derived.Below
import Derived.BigQuiet
set_option linter.unusedVariables false
set_option linter.unusedSimpArgs false
set_option maxRecDepth 100000
set_option maxHeartbeats 1000000
namespace Go.Proofs.YtbpfabhlngfciaaGreatDoor.Ch
open Go.ChangeShapes Go.WideShapes Go.ChangeAt Go.RowKit
open Base Pf Cn Pr Lx Mi
def entV (e:Et):Value:=.agg #[.bool e.pol,.int .i64 e.p,.string e.s,.int .u64 (e.id:Int)]
structure EtOk (e:Et):Prop where
 p1 : -9223372036854775808≤e.p
 p2:e.p≤9223372036854775807
 s1:e.s.size≤140737488351232
 id1:e.id<18446744073709551616
theorem str_em {s:ByteArray} (h:s=⟨#[]⟩):(s.toList == ([]:List UInt8))=true∧s.toList.isEmpty=true∧s.toList=[]:=by
 subst h
 have h:(⟨#[]⟩:ByteArray).toList=[]:=by rw[ByteArray.toList_eq]
 simp[h]
theorem str_ne0 {s:ByteArray} (h:¬s=⟨#[]⟩):(s.toList == ([]:List UInt8))=false∧s.toList.isEmpty=false∧¬s.toList=[]:=by
 have h1:¬s.toList=[]:=by
  intro e
  rw[ByteArray.toList_eq] at e
  apply h
  cases s
  simp at e
  subst e
  rfl
 refine⟨by simpa using h1,by simpa using h1,h1⟩
theorem can_any (e:Et) (he:EtOk e) (w:World) (hwd:Wd w) (hpow:Pow w):Calls Tryz.prog 58 #[entV e] w fun en w'=>en=.returned (.bool (canP e))∧Ext w w':=by
 obtain⟨p1,p2,s1,id1⟩:=he
 have hcan:canP e=if e.pol=true then decide (0≤e.p) && decide (e.p<7) && decide (e.s=⟨#[]⟩) && decide (e.id=0) else decide (e.p=0) && decide (1≤e.id) && decide (e.id≤2147483647) && isP e.s:=rfl
 obtain⟨R,hR⟩:∃z,Hid (canP e=z):=⟨_,Lib.hid rfl⟩
 rw[hR.out] at hcan ⊢
 obtain⟨pol,p,s,id⟩:=e
 unfold entV
 simp only at *
 obtain⟨w1,hw1⟩:∃z,Hid (w.alloc (.cells #[.bool pol,.int .i64 p,.string s,.int .u64 (id:Int)] 55)=z):=⟨_,rfl⟩
 have hx1:Ext w w1:=by rw[←hw1.out];exact (Ext.refl w).alloc _
 have his:=cIs_any s (by omega) w1 (hwd.ext hx1) (hpow.ext hx1)
 obtain⟨b,hb⟩:∃z,Hid (isP s=z):=⟨_,Lib.hid rfl⟩
 rw[hb.out] at his hcan
 have hi0:(0:Int)≤(id:Int):=by omega
 clear p1 p2 s1 id1
 cases pol with
 | true=>
  rw[if_pos rfl] at hcan
  clear his
  by_cases q1:0≤p
  ·by_cases q2:p<7
   ·by_cases q3:s=⟨#[]⟩
    ·obtain⟨z1,z2,z3⟩:=str_em q3
     by_cases q4:id=0
     ·have hR1:R=true:=by rw[hcan];simp[q1,q2,q3,q4]
      subst hR1
      subst q4
      subst q3
      clear hcan
      go_enter Tryz.func58,Tryz.ntmps58
      go_wp2_with fail
      go_ret
      exact⟨rfl,(Ext.refl w).alloc _⟩
     ·have hR1:R=false:=by rw[hcan];simp[q4]
      subst hR1
      have q4b:((id:Int) == 0)=false:=by simpa using (by omega:¬(id:Int)=0)
      have q4c:¬(id:Int)=0:=by omega
      subst q3
      clear hcan
      go_enter Tryz.func58,Tryz.ntmps58
      go_wp2_with fail
      go_ret
      exact⟨rfl,(Ext.refl w).alloc _⟩
    ·obtain⟨z1,z2,z3⟩:=str_ne0 q3
     have hR1:R=false:=by rw[hcan];simp[q3]
     subst hR1
     clear q3 hcan
     go_enter Tryz.func58,Tryz.ntmps58
     go_wp2_with fail
     go_ret
     exact⟨rfl,(Ext.refl w).alloc _⟩
   ·have hR1:R=false:=by rw[hcan];simp[q2]
    subst hR1
    clear hcan
    go_enter Tryz.func58,Tryz.ntmps58
    go_wp2_with fail
    go_ret
    exact⟨rfl,(Ext.refl w).alloc _⟩
  ·have hR1:R=false:=by rw[hcan];simp[q1]
   subst hR1
   clear hcan
   go_enter Tryz.func58,Tryz.ntmps58
   go_wp2_with fail
   go_ret
   exact⟨rfl,(Ext.refl w).alloc _⟩
 | false=>
  rw[if_neg (by decide)] at hcan
  by_cases q1:p=0
  ·subst q1
   by_cases q2:1≤id
   ·have q2i:(1:Int)≤(id:Int):=by omega
    by_cases q3:id≤2147483647
    ·have q3i:(id:Int)≤2147483647:=by omega
     have hR1:R=b:=by rw[hcan];simp[q2,q3]
     subst hR1
     clear hcan
     go_enter Tryz.func58,Tryz.ntmps58
     go_wp2_with fail
     rw[hw1.out]
     refine his.mono ?_
     rintro en w2 ⟨rfl,hx2⟩
     go_wp2_with fail
     go_ret
     exact⟨rfl,hx1.trans hx2⟩
    ·have q3i:¬(id:Int)≤2147483647:=by omega
     have hR1:R=false:=by rw[hcan];simp[q3]
     subst hR1
     clear hcan his
     go_enter Tryz.func58,Tryz.ntmps58
     go_wp2_with fail
     go_ret
     exact⟨rfl,(Ext.refl w).alloc _⟩
   ·have q2i:¬(1:Int)≤(id:Int):=by omega
    have hR1:R=false:=by rw[hcan];simp[q2]
    subst hR1
    clear hcan his
    go_enter Tryz.func58,Tryz.ntmps58
    go_wp2_with fail
    go_ret
    exact⟨rfl,(Ext.refl w).alloc _⟩
  ·have hR1:R=false:=by rw[hcan];simp[q1]
   subst hR1
   have q1b:((p:Int) == 0)=false:=by simpa using q1
   clear hcan his
   go_enter Tryz.func58,Tryz.ntmps58
   go_wp2_with fail
   go_ret
   exact⟨rfl,(Ext.refl w).alloc _⟩
theorem Can_any (e:Et) (he:EtOk e) (w:World) (hwd:Wd w) (hpow:Pow w):Calls Tryz.prog 28 #[entV e] w fun en w'=>en=.returned (.bool (canP e))∧Ext w w':=by
 obtain⟨w1,hw1⟩:∃z,Hid (w.alloc (.cells #[.bool e.pol,.int .i64 e.p,.string e.s,.int .u64 (e.id:Int)] 55)=z):=⟨_,rfl⟩
 have hx1:Ext w w1:=by rw[←hw1.out];exact (Ext.refl w).alloc _
 have hc:=can_any e he w1 (hwd.ext hx1) (hpow.ext hx1)
 obtain⟨b,hb⟩:∃z,Hid (canP e=z):=⟨_,Lib.hid rfl⟩
 rw[hb.out] at hc ⊢
 obtain⟨pol,p,s,id⟩:=e
 unfold entV at hc ⊢
 simp only at *
 go_enter Tryz.func28,Tryz.ntmps28
 go_wp2_with fail
 rw[hw1.out]
 refine hc.mono ?_
 rintro en w2 ⟨rfl,hx2⟩
 go_wp2_with fail
 go_ret
 exact⟨rfl,hx1.trans hx2⟩
theorem put_any (B:Nat) (v:Value) (l:List UInt8) (e:Et) (w:World) (ho:Ow B w v l) (hB:B≤w.heap.size) (hc:canP e=true) (hm:l.length≤140737488300000) :
  Calls Tryz.prog 59 #[v,entV e] w fun en w'=>∃v',en=.returned v'∧Ow B w' v' (l++bytesP e)∧Below B w w':=by
 obtain⟨w1,hw1⟩:∃z,Hid (w.alloc (.cells #[.bool e.pol,.int .i64 e.p,.string e.s,.int .u64 (e.id:Int)] 55)=z):=⟨_,rfl⟩
 obtain⟨q,hq⟩:∃z,Hid (w.heap.size=z):=⟨_,rfl⟩
 have hx1:Ext w w1:=by rw[←hw1.out];exact (Ext.refl w).alloc _
 have hbk1:Blk w1 q #[.bool e.pol,.int .i64 e.p,.string e.s,.int .u64 (e.id:Int)] 55:=by rw[←hw1.out,←hq.out];exact Blk.new w _ _
 have ho1:=own_ext ho hx1
 have hB1:B≤w1.heap.size:=Nat.le_trans hB hx1.size
 obtain⟨A,cap,rfl⟩:=own_shape ho
 obtain⟨m,hml⟩:∃z,Hid (l.length=z):=⟨_,rfl⟩
 rw[hml.out] at ho1 hm ⊢
 by_cases hp:e.pol=true
 ·obtain⟨h1,h2,h3,h4⟩:=can_pol hp hc
  have hby:bytesP e=[UInt8.ofNat (e.p.toNat+1)]:=by unfold bytesP;rw[if_pos hp]
  rw[hby]
  obtain⟨pol,p,s,id⟩:=e
  unfold entV
  simp only at *
  subst hp
  obtain⟨k,rfl⟩:∃k:Nat,p=(k:Int):=⟨p.toNat,by omega⟩
  rw[Int.toNat_natCast]
  have hk7:k<7:=by omega
  have hadd:IntKind.i64.wrap (1+(k:Int))=1+(k:Int):=by rw[IntKind.wrap_i64];omega
  have hcv:(1+(k:Int))%256=1+(k:Int):=by omega
  have hcv2:IntKind.u8.wrap (1+(k:Int))=1+(k:Int):=by
   have:IntKind.u8.wrap (1+(k:Int))=(1+(k:Int))%256:=by rfl
   rw[this];omega
  have hu:u8s [UInt8.ofNat (k+1)]=[1+(k:Int)].map (Value.int .u8):=by
   simp only[u8s,List.map_cons,List.map_nil,List.cons.injEq,Value.int.injEq,true_and,and_true]
   rw[UInt8.toNat_ofNat_of_lt' (by show _<256;omega)]
   omega
  have hrow:u8s (l++[UInt8.ofNat (k+1)])=u8s l++[1+(k:Int)].map (Value.int .u8):=by rw[u8s_append,hu]
  have hlen:(l++[UInt8.ofNat (k+1)]).length=m+1:=by rw[List.length_append,hml.out];rfl
  unfold Ow
  rw[hrow,hlen]
  have ho1':=ho1
  rw[←hw1.out] at ho1'
  have hom:w.ownsRow B 5 1 (.slice A m cap) m (u8s l):=by rw[←hml.out];exact ho
  have hB1':B≤(w.alloc (.cells #[.bool true,.int .i64 (k:Int),.string s,.int .u64 (id:Int)] 55)).heap.size:=by rw[hw1.out];exact hB1
  have hxx:Ext w (w.alloc (.cells #[.bool true,.int .i64 (k:Int),.string s,.int .u64 (id:Int)] 55)):=by rw[hw1.out];exact hx1
  have hrd:Rd ((w.alloc (.cells #[.bool true,.int .i64 (k:Int),.string s,.int .u64 (id:Int)] 55)).alloc (.cells #[.int .u8 (1+(k:Int))] 5)) (some ⟨w.heap.size+1,0,none⟩) ([1+(k:Int)].map (Value.int .u8)):=by
   have:=Rd.of_block (w.alloc (.cells #[.bool true,.int .i64 (k:Int),.string s,.int .u64 (id:Int)] 55)) 5 (0,0) (cs := #[.int .u8 (1+(k:Int))]) (l:=[1+(k:Int)].map (Value.int .u8)) rfl
   simpa using this
  clear hrow hlen hu hby h3 h4 hq hw1
  go_enter Tryz.func59,Tryz.ntmps59
  go_wp2_with (
   refine wpList_app el8 _ rfl (.tmp 7) (.tmp 12) rfl B (.slice A m cap) m (u8s l) rfl (own_ext ho1' ((Ext.refl _).alloc _)) (some ⟨w.heap.size+1,0,none⟩) 1 1 ([1+(k:Int)].map (Value.int .u8)) rfl hrd rfl (fun h=>by cases h) (ints8_one _) (by omega) (by omega) (by simp;omega) (fun V2 w2 ho2 hg2 hv2=>?_))
  go_ret
  exact⟨_,rfl,ho2,grw hB hom (hxx.alloc _) hg2⟩
 ·obtain⟨h1,h2,h3,h4⟩:=can_txt hp hc
  have hsz:=isP_size h4
  have hby:bytesP e=0::(encN e.id++encT (bs e.s)):=by unfold bytesP;rw[if_neg hp]
  have hel:(encN e.id).length≤8:=by rcases encN_length e.id with h|h;exact h;omega
  rw[hby,show l++0::(encN e.id++encT (bs e.s))=((l++[0])++encN e.id)++encT (bs e.s) by simp]
  have hp':e.pol=false:=by simpa using hp
  obtain⟨pol,p,s,id⟩:=e
  unfold entV
  simp only at *
  subst hp'
  obtain⟨S,hSd⟩:∃S:Nat→Prop,Hid (S=fun k=>(Value.slice A m cap).ownBlock=some k):=⟨_,Lib.hid rfl⟩
  have hSr:∀k,(Value.slice A m cap).ownBlock=some k→S k:=fun k hk=>by rw[hSd.out];exact hk
  have hSq:¬S q:=fun e=>by
   rw[hSd.out] at e
   exact own_ne_blk ho1 hbk1 (by decide) e.symm
  have hSB:∀k,S k→B≤k:=fun k e=>by
   rw[hSd.out] at e
   exact (ho1.lt k e).1
  obtain⟨PO,hPO⟩:∃PO:Ending→World→Prop,Hid ((fun en w'=>∃v',en=.returned v'∧Ow B w' v' (((l++[0])++encN id)++encT (bs s))∧Below B w w')=PO):=⟨_,Lib.hid rfl⟩
  rw[hPO.out]
  have hfin:∀v' w',Ow B w' v' (((l++[0])++encN id)++encT (bs s))→Below B w w'→PO (.returned v') w':=fun v' w' q1 q2=>by rw[←hPO.out];exact⟨v',rfl,q1,q2⟩
  clear hPO h1 hp hby ho
  go_enter Tryz.func59,Tryz.ntmps59
  go_wp2_with fail
  rw[hw1.out,hq.out]
  refine Reg.startX (R:=Chg S) (by kernel_rfl) ?_
  have hRl:=Reg.rl_chg S
  generalize hwq:World.drew _=wq
  have hxq:Ext w1 wq:=by rw[←hwq];exact (Ext.refl w1).drew
  clear hwq
  have hbq:=hbk1.ext hxq
  have hoq:=own_ext ho1 hxq
  have hBq:B≤wq.heap.size:=Nat.le_trans hB1 hxq.size
  have r3:∀W,Chg S wq W→W.cell? ⟨q,3,none⟩=some (.int .u64 (id:Int)):=fun W hW=>hW.cell (p:=⟨q,3,none⟩) (hbq.cell 3) hSq
  refine Reg.tx hRl 0 ?_;(try simp only[Reg.nn])
  refine Reg.tx hRl 3 ?_;(try simp only[Reg.nn])
  refine Reg.tx hRl 4 ?_;(try simp only[Reg.nn])
  refine Reg.onlyX 1 _ rfl (by kernel_rfl) (by decide) (by rfl) (fun K hK=>?_);go_simp
  have ha:Ext wq (wq.alloc (.cells #[.int .u8 0] 5)):=(Ext.refl wq).alloc _
  refine hK.out _ _ (Chg.ofExt ha) ?_;clear hK K;(try simp only[Reg.nn])
  refine Reg.onlyX 2 _ rfl (by kernel_rfl) (by decide) (by rfl) (fun K hK=>?_)
  refine wp_app el8 _ (.tmp 15) (.tmp 16) rfl B (.slice A m cap) m (u8s l) rfl (own_ext hoq ha) (some ⟨wq.heap.size,0,none⟩) 1 1 ([(0:Int)].map (Value.int .u8)) rfl (Rd.of_block wq 5 (0,0) rfl) rfl (fun h=>by cases h) (ints8_one _) (by omega) (by omega) (by simp;omega) ?_
  intro V2 w4 ho4 hg4 hv4
  obtain⟨A6,c6,rfl,jj1,jj2,jj3,jj4⟩:=Rd.of_own ho4
  have hch3:Chg S (wq.alloc (.cells #[.int .u8 0] 5)) w4:=(Chg.ofGrown hg4).mono fun k _ e=>hSr k e
  have hch4:Chg S wq w4:=(Chg.ofExt ha).trans hch3 (fun _ _ e=>e)
  have hrow:u8s l++[(0:Int)].map (Value.int .u8)=u8s (l++[0]):=by rw[u8s_append];rfl
  rw[hrow] at jj3 ho4
  have hrb:Rb w4 A6 (l++[0]):=jj3
  have hA6:A6=none→c6=0:=own_none ho4
  refine hK.out _ _ hch3 ?_
  clear hK K jj1 jj2 jj3 jj4 hv4
  (try simp only[Reg.nn])
  refine Reg.onlyX 5 _ rfl (by kernel_rfl) (by decide) (by rfl) (fun K hK=>?_);go_simp
  have hput:=Put_any A6 (m+1) c6 (l++[0]) id w4 hrb (by rw[List.length_append,hml.out];rfl) hA6 (by omega) (by omega)
  rw[if_pos (by omega),if_pos (by omega)] at hput
  refine hput.mono ?_
  rintro en w5 ⟨v5,rfl,ho5,hX5⟩
  refine hK.out _ _ (Chg.ofExt hX5) ?_;clear hK K;(try simp only[Reg.nn])
  refine Reg.tx hRl 6 ?_;(try simp only[Reg.nn])
  refine Reg.tx hRl 7 ?_;(try simp only[Reg.nn])
  refine Reg.tx hRl 8 ?_;(try simp only[Reg.nn])
  refine Reg.tx hRl 9 ?_;(try simp only[Reg.nn])
  refine Reg.finX (by kernel_rfl) ?_
  have hlow5:Below B w w5:=(Below.mono (hx1.trans hxq) hB).trans (Below.trans ⟨hch4.os,hch4.tape,hch4.output,hch4.size,fun k hk=>hch4.block k (by omega) (fun e=>by have:=hSB k e;omega)⟩ (Below.mono hX5 (Nat.le_trans hBq hch4.size)))
  have hbk5:Blk w5 q #[.bool false,.int .i64 p,.string s,.int .u64 (id:Int)] 55:=(hch4.blk hbq hSq).ext hX5
  obtain⟨E,hE⟩:∃z,Hid (l++[0]++encN id=z):=⟨_,Lib.hid rfl⟩
  have hEl:E.length≤m+9:=by rw[←hE.out,List.length_append,List.length_append,hml.out];simp only[List.length_cons,List.length_nil];omega
  rw[hE.out] at ho5 hfin
  obtain⟨A7,c7,rfl,jj1,jj2,jj3,jj4⟩:=Rd.of_own ho5
  have hA7:A7=none→c7=0:=own_none ho5
  have hpt:=PutText_any A7 E.length c7 E s w5 jj3 rfl hA7 (by omega)
  have z2:w5.cell? ⟨q,2,none⟩=some (.string s):=hbk5.cell 2
  obtain⟨NE,hNE⟩:∃z,Hid (E.length=z):=⟨_,rfl⟩
  rw[hNE.out] at hpt ⊢
  have hB5:B≤w5.heap.size:=by have:=hlow5.size;omega
  clear jj1 jj2 jj3 jj4 hA7 r3 hEl ho5
  go_wp2_with fail
  refine hpt.mono ?_
  rintro en w6 ⟨v6,rfl,ho6,hX6⟩
  have hf6:=hfin v6 w6 (own_base ho6 hB5) (hlow5.trans (Below.mono hX6 hB5))
  clear hfin hpt
  go_wp2_with fail
  first|exact hf6|(go_ret;exact hf6)
theorem Put_any (A:Option Addr) (m c:Nat) (l:List UInt8) (e:Et) (he:EtOk e) (w:World) (hr:Rb w A l) (hl:l.length=m) (hA:A=none→c=0) (hm:m≤140737488300000) (hwd:Wd w) (hpow:Pow w) :
  Calls Tryz.prog 26 #[.slice A m c,entV e] w fun en w'=>∃v',en=.returned (.tuple #[v',.int .i64 (if canP e=true then 0 else 1)])∧Ow w.heap.size w' v' (if canP e=true then l++bytesP e else l)∧Ext w w':=by
 obtain⟨w1,hw1⟩:∃z,Hid (w.alloc (.cells #[.bool e.pol,.int .i64 e.p,.string e.s,.int .u64 (e.id:Int)] 55)=z):=⟨_,rfl⟩
 obtain⟨q,hq⟩:∃z,Hid (w.heap.size=z):=⟨_,rfl⟩
 have hx1:Ext w w1:=by rw[←hw1.out];exact (Ext.refl w).alloc _
 have hbk1:Blk w1 q #[.bool e.pol,.int .i64 e.p,.string e.s,.int .u64 (e.id:Int)] 55:=by rw[←hw1.out,←hq.out];exact Blk.new w _ _
 have hcl:=clone_any A m c l w1 (hr.ext hx1) hl hA (by omega)
 have hcan:=fun W (hW:Ext w W)=>can_any e he W (hwd.ext hW) (hpow.ext hW)
 have hput:=fun v W (ho:Ow w.heap.size W v l) hB hc=>put_any w.heap.size v l e W ho hB hc (by omega)
 have hs1:=hx1.size
 obtain⟨b,hb⟩:∃z,Hid (canP e=z):=⟨_,Lib.hid rfl⟩
 rw[hb.out]
 simp only[hb.out] at hcan hput
 obtain⟨E,hE⟩:∃z,Hid (l++bytesP e=z):=⟨_,Lib.hid rfl⟩
 simp only[hE.out] at hput ⊢
 replace hput:=Lib.hid hput
 replace hcan:=Lib.hid hcan
 obtain⟨pol,p,s,id⟩:=e
 unfold entV at *
 simp only at *
 have hent:∀W,Ext w1 W→∀i,W.cell? ⟨q,i,none⟩ = #[Value.bool pol,.int .i64 p,.string s,.int .u64 (id:Int)][i]?:=fun W hW i=>(hbk1.ext hW).cell i
 cases b with
 | false=>
  simp only[Bool.false_eq_true,if_false]
  go_enter Tryz.func26,Tryz.ntmps26
  go_wp2_with fail
  rw[hw1.out,hq.out]
  refine hcl.mono ?_
  rintro en w2 ⟨v2,rfl,ho2,hx2⟩
  have k0:=hent w2 hx2 0
  have k1:=hent w2 hx2 1
  have k2:=hent w2 hx2 2
  have k3:=hent w2 hx2 3
  simp only[List.getElem?_toArray,List.getElem?_cons_zero,List.getElem?_cons_succ] at k0 k1 k2 k3
  have hc2:=hcan.out w2 (hx1.trans hx2)
  clear hcl hent
  go_wp2_with fail
  refine hc2.mono ?_
  rintro en w3 ⟨rfl,hx3⟩
  clear hc2
  go_wp2_with fail
  go_ret2
  exact⟨v2,rfl,own_ext (own_base ho2 hs1) hx3,(hx1.trans hx2).trans hx3⟩
 | true=>
  simp only[if_true]
  go_enter Tryz.func26,Tryz.ntmps26
  go_wp2_with fail
  rw[hw1.out,hq.out]
  refine hcl.mono ?_
  rintro en w2 ⟨v2,rfl,ho2,hx2⟩
  have k0:=hent w2 hx2 0
  have k1:=hent w2 hx2 1
  have k2:=hent w2 hx2 2
  have k3:=hent w2 hx2 3
  simp only[List.getElem?_toArray,List.getElem?_cons_zero,List.getElem?_cons_succ] at k0 k1 k2 k3
  have hc2:=hcan.out w2 (hx1.trans hx2)
  clear hcl
  go_wp2_with fail
  refine hc2.mono ?_
  rintro en w3 ⟨rfl,hx3⟩
  have j0:=hent w3 (hx2.trans hx3) 0
  have j1:=hent w3 (hx2.trans hx3) 1
  have j2:=hent w3 (hx2.trans hx3) 2
  have j3:=hent w3 (hx2.trans hx3) 3
  simp only[List.getElem?_toArray,List.getElem?_cons_zero,List.getElem?_cons_succ] at j0 j1 j2 j3
  have hx03:=(hx1.trans hx2).trans hx3
  have hp3:=hput.out v2 w3 (own_ext (own_base ho2 hs1) hx3) hx03.size trivial
  clear hc2 k0 k1 k2 k3 hent
  go_wp2_with fail
  refine hp3.mono ?_
  rintro en w4 ⟨v4,rfl,ho4,hx4⟩
  clear hp3
  go_wp2_with fail
  go_ret2
  exact⟨v4,rfl,ho4,Below.trans hx03 hx4⟩
end Go.Proofs.YtbpfabhlngfciaaGreatDoor.Ch
namespace Go.Proofs.YtbpfabhlngfciaaGreatDoor.ShaP
def W:=BitVec 32
def tr (w:BitVec 32) (k:Nat):BitVec 32:=(w <<< (32-k)) ||| (w >>> k)
def first:List (BitVec 32):=[0x6a09e667#32,0xbb67ae85#32,0x3c6ef372#32,0xa54ff53a#32,0x510e527f#32,0x9b05688c#32,0x1f83d9ab#32,0x5be0cd19#32]
def roots:List (BitVec 32):=[
 0x428a2f98#32,0x71374491#32,0xb5c0fbcf#32,0xe9b5dba5#32,0x3956c25b#32,0x59f111f1#32,0x923f82a4#32,0xab1c5ed5#32,
 0xd807aa98#32,0x12835b01#32,0x243185be#32,0x550c7dc3#32,0x72be5d74#32,0x80deb1fe#32,0x9bdc06a7#32,0xc19bf174#32,
 0xe49b69c1#32,0xefbe4786#32,0x0fc19dc6#32,0x240ca1cc#32,0x2de92c6f#32,0x4a7484aa#32,0x5cb0a9dc#32,0x76f988da#32,
 0x983e5152#32,0xa831c66d#32,0xb00327c8#32,0xbf597fc7#32,0xc6e00bf3#32,0xd5a79147#32,0x06ca6351#32,0x14292967#32,
 0x27b70a85#32,0x2e1b2138#32,0x4d2c6dfc#32,0x53380d13#32,0x650a7354#32,0x766a0abb#32,0x81c2c92e#32,0x92722c85#32,
 0xa2bfe8a1#32,0xa81a664b#32,0xc24b8b70#32,0xc76c51a3#32,0xd192e819#32,0xd6990624#32,0xf40e3585#32,0x106aa070#32,
 0x19a4c116#32,0x1e376c08#32,0x2748774c#32,0x34b0bcb5#32,0x391c0cb3#32,0x4ed8aa4a#32,0x5b9cca4f#32,0x682e6ff3#32,
 0x748f82ee#32,0x78a5636f#32,0x84c87814#32,0x8cc70208#32,0x90befffa#32,0xa4506ceb#32,0xbef9a3f7#32,0xc67178f2#32]
def be (a b c d:UInt8):BitVec 32:=BitVec.ofNat 32 (a.toNat*2 ^ 24+b.toNat*2 ^ 16+c.toNat*2 ^ 8+d.toNat)
def at8 (l:List UInt8) (i:Nat):UInt8:=l.getD i 0
def word (l:List UInt8) (i:Nat):BitVec 32:=be (at8 l (4*i)) (at8 l (4*i+1)) (at8 l (4*i+2)) (at8 l (4*i+3))
def at32 (l:List (BitVec 32)) (i:Nat):BitVec 32:=l.getD i 0#32
def s0 (x:BitVec 32):BitVec 32:=tr x 7 ^^^ tr x 18 ^^^ x >>> 3
def s1 (y:BitVec 32):BitVec 32:=tr y 17 ^^^ tr y 19 ^^^ y >>> 10
def nextW (l:List (BitVec 32)):BitVec 32:=at32 l (l.length-16)+s0 (at32 l (l.length-15))+at32 l (l.length-7)+s1 (at32 l (l.length-2))
def sch (b:List UInt8):Nat→List (BitVec 32)
 | 0=>[]
 | n+1=>sch b n++[if n<16 then word b n else nextW (sch b n)]
theorem sch_length (b:List UInt8) (n:Nat):(sch b n).length=n:=by
 induction n with
 | zero=>rfl
 | succ n ih=>simp[sch,ih]
structure St where
 a:BitVec 32
 b:BitVec 32
 c:BitVec 32
 d:BitVec 32
 e:BitVec 32
 f:BitVec 32
 g:BitVec 32
 h:BitVec 32
def t1 (s:St) (k w:BitVec 32):BitVec 32:=s.h+(tr s.e 6 ^^^ tr s.e 11 ^^^ tr s.e 25)+((s.e &&& s.f) ^^^ (~~~s.e &&& s.g))+k+w
def t2 (s:St):BitVec 32:=(tr s.a 2 ^^^ tr s.a 13 ^^^ tr s.a 22)+((s.a &&& s.b) ^^^ (s.a &&& s.c) ^^^ (s.b &&& s.c))
def round (s:St) (k w:BitVec 32):St:=⟨t1 s k w+t2 s,s.a,s.b,s.c,s.d+t1 s k w,s.e,s.f,s.g⟩
def rounds (s:St) (ws:List (BitVec 32)):Nat→St
 | 0=>s
 | n+1=>round (rounds s ws n) (at32 roots n) (at32 ws n)
def St.list (s:St):List (BitVec 32):=[s.a,s.b,s.c,s.d,s.e,s.f,s.g,s.h]
def St.plus (s t:St):St:=⟨s.a+t.a,s.b+t.b,s.c+t.c,s.d+t.d,s.e+t.e,s.f+t.f,s.g+t.g,s.h+t.h⟩
def block (s:St) (b:List UInt8):St:=s.plus (rounds s (sch b 64) 64)
def begin_:St:=⟨0x6a09e667#32,0xbb67ae85#32,0x3c6ef372#32,0xa54ff53a#32,0x510e527f#32,0x9b05688c#32,0x1f83d9ab#32,0x5be0cd19#32⟩
def blocks (s:St) (l:List UInt8):Nat→St
 | 0=>s
 | n+1=>blocks (block s (l.take 64)) (l.drop 64) n
def be8 (n:Nat):List UInt8:=[UInt8.ofNat (n / 2 ^ 56),UInt8.ofNat (n / 2 ^ 48),UInt8.ofNat (n / 2 ^ 40),UInt8.ofNat (n / 2 ^ 32),UInt8.ofNat (n / 2 ^ 24),UInt8.ofNat (n / 2 ^ 16),UInt8.ofNat (n / 2 ^ 8),UInt8.ofNat n]
def noughts (n:Nat):Nat:=(119-n%64)%64
def padded (l:List UInt8) (count:Nat):List UInt8:=l++[128]++List.replicate (noughts l.length) 0++be8 (count*8)
def out (s:St):List UInt8:=s.list.flatMap fun x=>[UInt8.ofNat (x.toNat / 2 ^ 24),UInt8.ofNat (x.toNat / 2 ^ 16),UInt8.ofNat (x.toNat / 2 ^ 8),UInt8.ofNat x.toNat]
def sha (l:List UInt8):List UInt8:=out (blocks begin_ (padded l l.length) ((padded l l.length).length / 64))
end Go.Proofs.YtbpfabhlngfciaaGreatDoor.ShaP
namespace Go.Proofs.YtbpfabhlngfciaaGreatDoor.ShaW
open Go.ChangeShapes Go.WideShapes Go.ChangeAt Go.RowKit
open ShaP Base
def U (x:BitVec 32):Int:=(x.toNat:Int)
theorem U_ge (x:BitVec 32):0≤U x:=by unfold U;omega
theorem U_lt (x:BitVec 32):U x<4294967296:=by unfold U;have:=x.isLt;omega
theorem U_xor (a b:BitVec 32):bits BinOp.xor IntKind.u32 (U a) (U b)=U (a ^^^ b):=by
 unfold U;rw[u32_xor_nat _ _ a.isLt b.isLt,BitVec.toNat_xor]
theorem U_and (a b:BitVec 32):bits BinOp.and IntKind.u32 (U a) (U b)=U (a &&& b):=by
 unfold U;rw[u32_and_nat _ _ a.isLt b.isLt,BitVec.toNat_and]
theorem U_or (a b:BitVec 32):bits BinOp.or IntKind.u32 (U a) (U b)=U (a ||| b):=by
 unfold U;rw[u32_or_nat _ _ a.isLt b.isLt,BitVec.toNat_or]
theorem U_add (a b:BitVec 32):(U a+U b)%4294967296=U (a+b):=by
 unfold U;rw[BitVec.toNat_add];simp only[Nat.reducePow];omega
theorem U_add' (a b:BitVec 32):IntKind.u32.wrap (U a+U b)=U (a+b):=by
 rw[IntKind.wrap_u32',←U_add]
theorem U_not (a:BitVec 32):bits BinOp.xor IntKind.u32 4294967295 (U a)=U (~~~a):=by
 have h:=U_xor (BitVec.allOnes 32) a
 rw[BitVec.allOnes_xor] at h
 exact h
theorem U_shr (a:BitVec 32) (k:Nat):U a / ((2 ^ k:Nat):Int)=U (a >>> k):=by
 unfold U;rw[BitVec.toNat_ushiftRight,Nat.shiftRight_eq_div_pow];rfl
theorem U_shr3 (a:BitVec 32):U a / 8=U (a >>> 3):=U_shr a 3
theorem U_shr10 (a:BitVec 32):U a / 1024=U (a >>> 10):=U_shr a 10
theorem U_shl (a:BitVec 32) (k:Nat):U a*((2 ^ k:Nat):Int)%4294967296=U (a <<< k):=by
 unfold U;rw[BitVec.toNat_shiftLeft,Nat.shiftLeft_eq];simp only[Nat.reducePow];omega
theorem tr_forms (x:BitVec 32) (k:Nat) (hk:k≤32):bits BinOp.or IntKind.u32 (U x*((2 ^ (32-k):Nat):Int)%4294967296) (U x / ((2 ^ k:Nat):Int))=U (tr x k):=by
 rw[U_shl,U_shr,U_or];rfl
theorem tr_forms' (x:BitVec 32) (k:Nat) (hk:k≤32):bits BinOp.or IntKind.u32 (U x / ((2 ^ k:Nat):Int)) (U x*((2 ^ (32-k):Nat):Int)%4294967296)=U (tr x k):=by
 rw[U_shl,U_shr,U_or,BitVec.or_comm];rfl
theorem a31_2:bits BinOp.and IntKind.u64 (IntKind.u64.wrap (-2)) 31=30:=by decide +kernel
theorem a31_6:bits BinOp.and IntKind.u64 (IntKind.u64.wrap (-6)) 31=26:=by decide +kernel
theorem a31_7:bits BinOp.and IntKind.u64 (IntKind.u64.wrap (-7)) 31=25:=by decide +kernel
theorem a31_11:bits BinOp.and IntKind.u64 (IntKind.u64.wrap (-11)) 31=21:=by decide +kernel
theorem a31_13:bits BinOp.and IntKind.u64 (IntKind.u64.wrap (-13)) 31=19:=by decide +kernel
theorem a31_17:bits BinOp.and IntKind.u64 (IntKind.u64.wrap (-17)) 31=15:=by decide +kernel
theorem a31_18:bits BinOp.and IntKind.u64 (IntKind.u64.wrap (-18)) 31=14:=by decide +kernel
theorem a31_19:bits BinOp.and IntKind.u64 (IntKind.u64.wrap (-19)) 31=13:=by decide +kernel
theorem a31_22:bits BinOp.and IntKind.u64 (IntKind.u64.wrap (-22)) 31=10:=by decide +kernel
theorem a31_25:bits BinOp.and IntKind.u64 (IntKind.u64.wrap (-25)) 31=7:=by decide +kernel
theorem turned_2 (x:BitVec 32) (w:World) :
  Calls Tryz.prog 121 #[.int .u32 (U x),.int .i64 2] w fun e w'=>e=.returned (.int .u32 (U (tr x 2)))∧w=w':=by
 have h0:=U_ge x
 have h1:=U_lt x
 have E:=a31_2
 go_enter Tryz.func121,Tryz.ntmps121
 go_wp2_with go_in
 go_ret
 exact⟨congrArg (fun n=>Ending.returned (.int .u32 n)) (tr_forms x 2 (by omega)),rfl⟩
theorem turned_6 (x:BitVec 32) (w:World) :
  Calls Tryz.prog 121 #[.int .u32 (U x),.int .i64 6] w fun e w'=>e=.returned (.int .u32 (U (tr x 6)))∧w=w':=by
 have h0:=U_ge x
 have h1:=U_lt x
 have E:=a31_6
 go_enter Tryz.func121,Tryz.ntmps121
 go_wp2_with go_in
 go_ret
 exact⟨congrArg (fun n=>Ending.returned (.int .u32 n)) (tr_forms x 6 (by omega)),rfl⟩
theorem turned_7 (x:BitVec 32) (w:World) :
  Calls Tryz.prog 121 #[.int .u32 (U x),.int .i64 7] w fun e w'=>e=.returned (.int .u32 (U (tr x 7)))∧w=w':=by
 have h0:=U_ge x
 have h1:=U_lt x
 have E:=a31_7
 go_enter Tryz.func121,Tryz.ntmps121
 go_wp2_with go_in
 go_ret
 exact⟨congrArg (fun n=>Ending.returned (.int .u32 n)) (tr_forms x 7 (by omega)),rfl⟩
theorem turned_11 (x:BitVec 32) (w:World) :
  Calls Tryz.prog 121 #[.int .u32 (U x),.int .i64 11] w fun e w'=>e=.returned (.int .u32 (U (tr x 11)))∧w=w':=by
 have h0:=U_ge x
 have h1:=U_lt x
 have E:=a31_11
 go_enter Tryz.func121,Tryz.ntmps121
 go_wp2_with go_in
 go_ret
 exact⟨congrArg (fun n=>Ending.returned (.int .u32 n)) (tr_forms x 11 (by omega)),rfl⟩
theorem turned_13 (x:BitVec 32) (w:World) :
  Calls Tryz.prog 121 #[.int .u32 (U x),.int .i64 13] w fun e w'=>e=.returned (.int .u32 (U (tr x 13)))∧w=w':=by
 have h0:=U_ge x
 have h1:=U_lt x
 have E:=a31_13
 go_enter Tryz.func121,Tryz.ntmps121
 go_wp2_with go_in
 go_ret
 exact⟨congrArg (fun n=>Ending.returned (.int .u32 n)) (tr_forms x 13 (by omega)),rfl⟩
theorem turned_17 (x:BitVec 32) (w:World) :
  Calls Tryz.prog 121 #[.int .u32 (U x),.int .i64 17] w fun e w'=>e=.returned (.int .u32 (U (tr x 17)))∧w=w':=by
 have h0:=U_ge x
 have h1:=U_lt x
 have E:=a31_17
 go_enter Tryz.func121,Tryz.ntmps121
 go_wp2_with go_in
 go_ret
 exact⟨congrArg (fun n=>Ending.returned (.int .u32 n)) (tr_forms x 17 (by omega)),rfl⟩
theorem turned_18 (x:BitVec 32) (w:World) :
  Calls Tryz.prog 121 #[.int .u32 (U x),.int .i64 18] w fun e w'=>e=.returned (.int .u32 (U (tr x 18)))∧w=w':=by
 have h0:=U_ge x
 have h1:=U_lt x
 have E:=a31_18
 go_enter Tryz.func121,Tryz.ntmps121
 go_wp2_with go_in
 go_ret
 exact⟨congrArg (fun n=>Ending.returned (.int .u32 n)) (tr_forms x 18 (by omega)),rfl⟩
theorem turned_19 (x:BitVec 32) (w:World) :
  Calls Tryz.prog 121 #[.int .u32 (U x),.int .i64 19] w fun e w'=>e=.returned (.int .u32 (U (tr x 19)))∧w=w':=by
 have h0:=U_ge x
 have h1:=U_lt x
 have E:=a31_19
 go_enter Tryz.func121,Tryz.ntmps121
 go_wp2_with go_in
 go_ret
 exact⟨congrArg (fun n=>Ending.returned (.int .u32 n)) (tr_forms x 19 (by omega)),rfl⟩
theorem turned_22 (x:BitVec 32) (w:World) :
  Calls Tryz.prog 121 #[.int .u32 (U x),.int .i64 22] w fun e w'=>e=.returned (.int .u32 (U (tr x 22)))∧w=w':=by
 have h0:=U_ge x
 have h1:=U_lt x
 have E:=a31_22
 go_enter Tryz.func121,Tryz.ntmps121
 go_wp2_with go_in
 go_ret
 exact⟨congrArg (fun n=>Ending.returned (.int .u32 n)) (tr_forms x 22 (by omega)),rfl⟩
theorem turned_25 (x:BitVec 32) (w:World) :
  Calls Tryz.prog 121 #[.int .u32 (U x),.int .i64 25] w fun e w'=>e=.returned (.int .u32 (U (tr x 25)))∧w=w':=by
 have h0:=U_ge x
 have h1:=U_lt x
 have E:=a31_25
 go_enter Tryz.func121,Tryz.ntmps121
 go_wp2_with go_in
 go_ret
 exact⟨congrArg (fun n=>Ending.returned (.int .u32 n)) (tr_forms x 25 (by omega)),rfl⟩
theorem turn_2 (x:BitVec 32) (w:World) :
  Calls Tryz.prog 67 #[.int .u32 (U x),.int .u64 2] w fun e w'=>e=.returned (.int .u32 (U (tr x 2)))∧w=w':=by
 have h0:=U_ge x
 have h1:=U_lt x
 go_enter Tryz.func67,Tryz.ntmps67
 go_wp2
 go_ret
 exact⟨congrArg (fun n=>Ending.returned (.int .u32 n)) (tr_forms' x 2 (by omega)),rfl⟩
theorem turn_6 (x:BitVec 32) (w:World) :
  Calls Tryz.prog 67 #[.int .u32 (U x),.int .u64 6] w fun e w'=>e=.returned (.int .u32 (U (tr x 6)))∧w=w':=by
 have h0:=U_ge x
 have h1:=U_lt x
 go_enter Tryz.func67,Tryz.ntmps67
 go_wp2
 go_ret
 exact⟨congrArg (fun n=>Ending.returned (.int .u32 n)) (tr_forms' x 6 (by omega)),rfl⟩
theorem turn_7 (x:BitVec 32) (w:World) :
  Calls Tryz.prog 67 #[.int .u32 (U x),.int .u64 7] w fun e w'=>e=.returned (.int .u32 (U (tr x 7)))∧w=w':=by
 have h0:=U_ge x
 have h1:=U_lt x
 go_enter Tryz.func67,Tryz.ntmps67
 go_wp2
 go_ret
 exact⟨congrArg (fun n=>Ending.returned (.int .u32 n)) (tr_forms' x 7 (by omega)),rfl⟩
theorem turn_11 (x:BitVec 32) (w:World) :
  Calls Tryz.prog 67 #[.int .u32 (U x),.int .u64 11] w fun e w'=>e=.returned (.int .u32 (U (tr x 11)))∧w=w':=by
 have h0:=U_ge x
 have h1:=U_lt x
 go_enter Tryz.func67,Tryz.ntmps67
 go_wp2
 go_ret
 exact⟨congrArg (fun n=>Ending.returned (.int .u32 n)) (tr_forms' x 11 (by omega)),rfl⟩
theorem turn_13 (x:BitVec 32) (w:World) :
  Calls Tryz.prog 67 #[.int .u32 (U x),.int .u64 13] w fun e w'=>e=.returned (.int .u32 (U (tr x 13)))∧w=w':=by
 have h0:=U_ge x
 have h1:=U_lt x
 go_enter Tryz.func67,Tryz.ntmps67
 go_wp2
 go_ret
 exact⟨congrArg (fun n=>Ending.returned (.int .u32 n)) (tr_forms' x 13 (by omega)),rfl⟩
theorem turn_17 (x:BitVec 32) (w:World) :
  Calls Tryz.prog 67 #[.int .u32 (U x),.int .u64 17] w fun e w'=>e=.returned (.int .u32 (U (tr x 17)))∧w=w':=by
 have h0:=U_ge x
 have h1:=U_lt x
 go_enter Tryz.func67,Tryz.ntmps67
 go_wp2
 go_ret
 exact⟨congrArg (fun n=>Ending.returned (.int .u32 n)) (tr_forms' x 17 (by omega)),rfl⟩
theorem turn_18 (x:BitVec 32) (w:World) :
  Calls Tryz.prog 67 #[.int .u32 (U x),.int .u64 18] w fun e w'=>e=.returned (.int .u32 (U (tr x 18)))∧w=w':=by
 have h0:=U_ge x
 have h1:=U_lt x
 go_enter Tryz.func67,Tryz.ntmps67
 go_wp2
 go_ret
 exact⟨congrArg (fun n=>Ending.returned (.int .u32 n)) (tr_forms' x 18 (by omega)),rfl⟩
theorem turn_19 (x:BitVec 32) (w:World) :
  Calls Tryz.prog 67 #[.int .u32 (U x),.int .u64 19] w fun e w'=>e=.returned (.int .u32 (U (tr x 19)))∧w=w':=by
 have h0:=U_ge x
 have h1:=U_lt x
 go_enter Tryz.func67,Tryz.ntmps67
 go_wp2
 go_ret
 exact⟨congrArg (fun n=>Ending.returned (.int .u32 n)) (tr_forms' x 19 (by omega)),rfl⟩
theorem turn_22 (x:BitVec 32) (w:World) :
  Calls Tryz.prog 67 #[.int .u32 (U x),.int .u64 22] w fun e w'=>e=.returned (.int .u32 (U (tr x 22)))∧w=w':=by
 have h0:=U_ge x
 have h1:=U_lt x
 go_enter Tryz.func67,Tryz.ntmps67
 go_wp2
 go_ret
 exact⟨congrArg (fun n=>Ending.returned (.int .u32 n)) (tr_forms' x 22 (by omega)),rfl⟩
theorem turn_25 (x:BitVec 32) (w:World) :
  Calls Tryz.prog 67 #[.int .u32 (U x),.int .u64 25] w fun e w'=>e=.returned (.int .u32 (U (tr x 25)))∧w=w':=by
 have h0:=U_ge x
 have h1:=U_lt x
 go_enter Tryz.func67,Tryz.ntmps67
 go_wp2
 go_ret
 exact⟨congrArg (fun n=>Ending.returned (.int .u32 n)) (tr_forms' x 25 (by omega)),rfl⟩
structure Held (p:Prop):Prop where
 out:p
theorem run_index_row {P:Program} (w:World) (t e:TypeId) (N:Nat) (R:Array Value) (n:Nat) (k:IntKind) (he:P.underlying e=some (.int k)) (hs:(P.info? e).map (·.size)=some 1) (ht:P.underlying t=some (.array N e)) (hn:n<N) (u:Value) (h:R[n]?=some u) :
  (Instr.index t (.agg R) (.int .i64 (n:Int))).run P w=.ok u w:=by
 have h1:(0:Int)≤(n:Int)∧(n:Int)<(N:Int):=by omega
 cases hq:P.info? e with
 | none=>simp[hq] at hs
 | some i=>
  have hi:i.size=1:=by simpa [hq] using hs
  simp[Instr.index,run_underlying ht,asIntOf,h1,sizeOf,typeInfo,hq,hi,part,isAgg,run_underlying he,h,go_sem]
  omega
theorem wpList_index {P:Program} {ops:Array Oper} {rest:List Oper} {op:Oper} {a:Act} {w:World} {Q:Exit→Act→World→Prop} (hgd:op.guard=none) (t:TypeId) (x ix:Operand) (ho:op.op=.index t x ix) (vx vi:Value) (hx:a.eval x=vx) (hi:a.eval ix=vi) (v:Value)
  (hrun:(Instr.index t vx vi).run P w=.ok v w) (h:wpList P ops Q rest (a.put op.dst v) w):wpList P ops Q (op::rest) a w:=
 wpList_plain hgd fun _ hK=>by
  unfold Oper.wp execOp
  simp only[ho,hx,hi,Sem.run_bind,Sem.run_pure,Result.andThen_ok,hrun]
  exact hK _ _ h
theorem idx8 (w:World) (R:Array Value) (n:Nat) (hn:n<8) (u:Value) (h:R[n]?=some u):(Instr.index 142 (.agg R) (.int .i64 (n:Int))).run Tryz.prog w=.ok u w:=
 run_index_row w _ 102 8 R n .u32 (by kernel_rfl) (by kernel_rfl) (by kernel_rfl) hn u h
theorem idx64 (w:World) (R:Array Value) (n:Nat) (hn:n<64) (u:Value) (h:R[n]?=some u):(Instr.index 160 (.agg R) (.int .i64 (n:Int))).run Tryz.prog w=.ok u w:=
 run_index_row w _ 102 64 R n .u32 (by kernel_rfl) (by kernel_rfl) (by kernel_rfl) hn u h
def trI (x:BitVec 32) (k:Int):BitVec 32:=tr x k.toNat
theorem turned_any (x:BitVec 32) (k:Int) (hk:k∈([2,6,7,11,13,17,18,19,22,25]:List Int)) (w:World) :
  Calls Tryz.prog 121 #[.int .u32 (U x),.int .i64 k] w fun e w'=>e=.returned (.int .u32 (U (trI x k)))∧w=w':=by
 simp only[List.mem_cons,List.mem_nil_iff,or_false] at hk
 rcases hk with rfl|rfl|rfl|rfl|rfl|rfl|rfl|rfl|rfl|rfl
 ·exact turned_2 x w
 ·exact turned_6 x w
 ·exact turned_7 x w
 ·exact turned_11 x w
 ·exact turned_13 x w
 ·exact turned_17 x w
 ·exact turned_18 x w
 ·exact turned_19 x w
 ·exact turned_22 x w
 ·exact turned_25 x w
end Go.Proofs.YtbpfabhlngfciaaGreatDoor.ShaW
