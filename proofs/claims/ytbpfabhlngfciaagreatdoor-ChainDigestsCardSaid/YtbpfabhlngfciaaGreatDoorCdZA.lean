/- chain: entries taken, walked. -/
import Derived.Test.YtbpfabhlngfciaaGreatDoorCdZ
import Derived.ChangeKeysEq
set_option linter.unusedVariables false
set_option linter.unusedSimpArgs false
set_option maxRecDepth 100000
set_option maxHeartbeats 1000000
namespace Go.Proofs.YtbpfabhlngfciaaGreatDoor.Ch
open Go.ChangeShapes Go.WideShapes Go.ChangeAt Go.RowKit
open Base Pf Cn Pr Lx Mi
def TeV (w:World) (r:Et×List UInt8×Nat) (e:Ending) (w':World):Prop:=∃A' c',e=.returned (.tuple #[entV r.1,.slice A' r.2.1.length c',.int .i64 (r.2.2:Int)])∧Rb w' A' r.2.1∧(A'=none→c'=0)∧r.2.1.length≤c'∧c'≤maxLen∧Ext w w'
theorem TeV.no {w w':World} (n:Nat) (h:Ext w w'):TeV w (e0,[],n) (.returned (.tuple #[.agg #[.bool false,.int .i64 0,.string ⟨#[]⟩,.int .u64 0],.slice none 0 0,.int .i64 (n:Int)])) w':=⟨none,0,rfl,Rd.nil _ _,fun _=>rfl,Nat.le_refl _,by unfold maxLen;omega,h⟩
theorem wpList_app0 {P:Program} {t e:TypeId} {z:Value} {size bytes:Nat} (E:El P t e z size bytes) (w:World) {ops:Array Oper} {rest:List Oper} {o:Oper} {a:Act} {Q:Exit→Act→World→Prop} (hgd:o.guard=none) (s x:Operand)
  (ho:o.op=.call { callee:=.builtin .append,args := #[s,x],argTypes := #[t,t] }) (base:Nat)
  (g:Nat) (hs:a.eval s=.slice (some ⟨g,0,none⟩) 0 0) (hown:w.ownsRow base e size (.slice (some ⟨g,0,none⟩) 0 0) 0 [])
  (A:Option Addr) (m c:Nat) (news:List Value) (hx:a.eval x=.slice A m c) (hr:Rd w A news) (hl:news.length=m*size) (hA:A=none→c=0)
  (hbytes:m*bytes≤140737488355328) (hby:0<bytes) (hbase:base≤w.heap.size)
  (h:∀v' w',w'.ownsRow base e size v' m news→Ext w w'→wpList P ops Q rest (a.put o.dst v') w'):wpList P ops Q (o::rest) a w:=
 wpList_plain hgd fun _ hK=>wp_app0 E w s x ho base g hs hown A m c news hx hr hl hA hbytes hby hbase fun v' w' h2 h3=>hK _ _ (h v' w' h2 h3)
theorem isP_int:isP ⟨#[105,110,116]⟩=true:=by decide +kernel
theorem can_live:canP ⟨false,0,⟨#[105,110,116]⟩,1⟩=true∧canP ⟨false,0,⟨#[105,110,116]⟩,0⟩=false∧canP ⟨true,3,⟨#[]⟩,0⟩=true:=by
 refine⟨?_,?_,?_⟩
 ·simp[canP,isP_int]
 ·simp[canP]
 ·rfl
theorem lives_any (w:World) (hwd:Wd w) (hpow:Pow w):Calls Tryz.prog 30 #[] w fun e w'=>e=.returned (.bool true)∧Ext w w':=by
 obtain⟨l1,l2,l3⟩:=can_live
 have hput:=Put_any none 0 0 [] ⟨true,3,⟨#[]⟩,0⟩ ⟨by simp,by simp,Nat.zero_le _,by simp⟩ w (Rd.nil _ _) rfl (fun _=>rfl) (by omega) hwd hpow
 rw[l3,if_pos rfl,if_pos rfl] at hput
 replace hput:Calls Tryz.prog 26 #[.slice none 0 0,.agg #[.bool true,.int .i64 3,.string ⟨#[]⟩,.int .u64 0]] w fun en w'=>∃v',en=.returned (.tuple #[v',.int .i64 0])∧Ow w.heap.size w' v' [4]∧Ext w w':=hput
 go_enter Tryz.func30,Tryz.ntmps30
 go_wp2_with fail
 refine hput.mono ?_
 rintro en w1 ⟨v,rfl,ho,hx1⟩
 obtain⟨A,c,rfl,jj1,jj2,jj3,jj4⟩:=Rd.of_own ho
 have hcv:=fun W (hW:Ext w1 W)=>conv_rd (P:=Tryz.prog) Tryz.underlying50 Tryz.underlying5 Tryz.underlying9 (w:=W) (A:=A) (l:=[4]) (n:=1) c rfl ((show Rb w1 A [4] from jj3).ext hW)
 have hcv0:(convert 50 9 (.slice A 1 c)).run Tryz.prog w1=.ok (.string ⟨#[4]⟩) w1:=hcv w1 (Ext.refl _)
 have hc1:=fun W (hW:Ext w W)=>can_live.1 ▸ Can_any ⟨false,0,⟨#[105,110,116]⟩,1⟩ ⟨by simp,by simp,by simp[ByteArray.size],by simp⟩ W (hwd.ext hW) (hpow.ext hW)
 have hc2:=fun W (hW:Ext w W)=>can_live.2.1 ▸ Can_any ⟨false,0,⟨#[105,110,116]⟩,0⟩ ⟨by simp,by simp,by simp[ByteArray.size],by simp⟩ W (hwd.ext hW) (hpow.ext hW)
 have hc1':∀W,Ext w W→Calls Tryz.prog 28 #[.agg #[.bool false,.int .i64 0,.string ⟨#[105,110,116]⟩,.int .u64 1]] W fun en w'=>en=.returned (.bool true)∧Ext W w':=fun W hW=>hc1 W hW
 have hc2':∀W,Ext w W→Calls Tryz.prog 28 #[.agg #[.bool false,.int .i64 0,.string ⟨#[105,110,116]⟩,.int .u64 0]] W fun en w'=>en=.returned (.bool false)∧Ext W w':=fun W hW=>hc2 W hW
 have h1:=hc1' w1 hx1
 replace hc2':=Lib.hid hc2'
 clear jj1 jj2 jj3 jj4 hput hc1 hc2 hc1' hcv ho l1 l2 l3
 go_wp2_with fail
 refine h1.mono ?_
 rintro en w2 ⟨rfl,hx2⟩
 have h2:=hc2'.out w2 (hx1.trans hx2)
 clear h1
 go_wp2_with fail
 refine h2.mono ?_
 rintro en w3 ⟨rfl,hx3⟩
 go_wp2_with fail
 go_ret
 exact⟨rfl,(hx1.trans hx2).trans hx3⟩
end Go.Proofs.YtbpfabhlngfciaaGreatDoor.Ch
namespace Go.Proofs.YtbpfabhlngfciaaGreatDoor.ShaW
open Go.ChangeShapes Go.WideShapes Go.ChangeAt Go.RowKit
open ShaP Base
theorem u8s_get (X:List UInt8) (i:Nat) (h:i<X.length):(u8s X).toArray[i]?=some (.int .u8 ((X.getD i 0).toNat:Int)):=by
 simp[u8s,h,List.getD]
theorem eqItems_u8 {P:Program} {e:TypeId} (he:P.plainKey e=true) (hu:P.underlying e=some (.int .u8)) (d:Nat) (X Y:List UInt8) (w:World) :
  ∀is:List Nat,(∀i∈is,i<X.length∧i<Y.length)→(Op.eqItems (d+1) e 1 (u8s X).toArray (u8s Y).toArray is).run P w=.ok (is.all fun i=>X.getD i 0 == Y.getD i 0) w
 | [],_=>by simp[Op.eqItems]
 | i::is,h=>by
  obtain⟨h1,h2⟩:=h i (by simp)
  have ih:=eqItems_u8 he hu d X Y w is (fun j hj=>h j (by simp[hj]))
  have p1:=run_part_plain (P:=P) w he (u8s_get X i h1)
  have p2:=run_part_plain (P:=P) w he (u8s_get Y i h2)
  have p3:=run_equalIn_int (P:=P) w d e .u8 .u8 ((X.getD i 0).toNat:Int) ((Y.getD i 0).toNat:Int) hu
  have hb:(((X.getD i 0).toNat:Int) == ((Y.getD i 0).toNat:Int))=(X.getD i 0 == Y.getD i 0):=by
   by_cases hxy:X.getD i 0=Y.getD i 0
   ·rw[hxy];simp
   ·have:(X.getD i 0).toNat≠(Y.getD i 0).toNat:=fun e=>hxy (UInt8.toNat_inj.1 e)
    rw[beq_eq_false_iff_ne.2 hxy,beq_eq_false_iff_ne.2 (by omega)]
  simp only[Op.eqItems,Nat.mul_one,Sem.run_bind,p1,p2,p3,Result.andThen_ok,hb,List.all_cons]
  cases hq:(X.getD i 0 == Y.getD i 0)
  ·simp
  ·simpa using ih
theorem eq_sum (X Y:List UInt8) (hX:X.length=32) (hY:Y.length=32) (w:World) :
  (Op.equalIn 10000 23 (.agg (u8s X).toArray) (.agg (u8s Y).toArray)).run Tryz.prog w=.ok (decide (X=Y)) w:=by
 obtain⟨i,hi,_⟩:=info_parts el_u8.info
 rw[run_equalIn_array (P:=Tryz.prog) w 9999 (u8s X).toArray (u8s Y).toArray (show Tryz.prog.underlying 23=some (.array 32 5) by kernel_rfl) hi]
 rw[show Tryz.prog.cellsOf 5=1 by kernel_rfl,eqItems_u8 (by kernel_rfl) Tryz.underlying5 9998 X Y w (List.range 32) (fun i hi=>by rw[List.mem_range] at hi;omega)]
 congr 1
 by_cases h:X=Y
 ·subst h;simp
 ·rw[decide_eq_false h,List.all_eq_false]
  apply Classical.byContradiction
  intro hn
  apply h
  apply List.ext_getElem (by omega)
  intro i h1 h2
  have:=Classical.byContradiction (fun hh=>hn ⟨i,by rw[List.mem_range];omega,hh⟩)
  simpa [List.getD,List.getElem?_eq_getElem h1,List.getElem?_eq_getElem h2] using this
end Go.Proofs.YtbpfabhlngfciaaGreatDoor.ShaW
namespace Go.Proofs.YtbpfabhlngfciaaGreatDoor.Cn
open Go.ChangeShapes Go.WideShapes Go.ChangeAt Go.RowKit
open Base Pr ShaP ShaW
theorem gFirst:Tryz.prog.globalNamed "suffragan/sha.first" = some 0:=by kernel_rfl
theorem gRoots:Tryz.prog.globalNamed "suffragan/sha.roots" = some 1:=by kernel_rfl
def firstInts:List Int:=[1779033703,3144134277,1013904242,2773480762,1359893119,2600822924,528734635,1541459225]
def rootsInts:List Int:=[1116352408,1899447441,3049323471,3921009573,961987163,1508970993,2453635748,2870763221,3624381080,310598401,607225278,1426881987,1925078388,2162078206,2614888103,3248222580,3835390401,4022224774,264347078,604807628,770255983,1249150122,1555081692,1996064986,2554220882,2821834349,2952996808,3210313671,3336571891,3584528711,113926993,338241895,666307205,773529912,1294757372,1396182291,1695183700,1986661051,2177026350,2456956037,2730485921,2820302411,3259730800,3345764771,3516065817,3600352804,4094571909,275423344,430227734,506948616,659060556,883997877,958139571,1322822218,1537002063,1747873779,1955562222,2024104815,2227730452,2361852424,2428436474,2756734187,3204031479,3329325298]
abbrev laidL8:List (String×DataW Unit):=[("math/bits.deBruijn32tab",Rows.laid_math_bits_deBruijn32tab),("math/bits.deBruijn64tab",Rows.laid_math_bits_deBruijn64tab),("internal/strconv.uint64pow10",Rows.laid_internal_strconv_uint64pow10),("suffragan/parse.words",Rows.laid_suffragan_parse_words),("suffragan/sha.first",Rows.laid_suffragan_sha_first),("suffragan/sha.roots",Rows.laid_suffragan_sha_roots)]
theorem words_any {W:World} {rest:List (String×DataW Unit)} (h:laidMet Tryz.prog (("suffragan/parse.words",Rows.laid_suffragan_parse_words)::rest) W):Wd W:=by
 obtain⟨ps,⟨g',t',cs,fuel,p,q,hg',ht',hvar,hd,_,_⟩,_⟩:=h
 obtain rfl:=Option.some.inj (gWords.symm.trans hg')
 obtain rfl:167=t':=Option.some.inj ((show (Tryz.prog.globals[2]?).map (·.type)=some 167 by kernel_rfl).symm.trans ht')
 have hcs:=cells_of_texts (ss:=wordsD) (e:=9) (n:=12) (by kernel_rfl) Tryz.underlying9 (by kernel_rfl) (by kernel_rfl) hd
 intro _
 refine⟨2,0,rfl,fun j u hj=>?_⟩
 have:(wordsD.map fun s=>Value.string ⟨s.toArray⟩)=txs wordsL:=by kernel_rfl
 rw[this] at hcs
 rw[Nat.zero_add,World.var?_cell gWords hvar j,←hj,←hcs]
 simp
theorem us_first:us first=firstInts.map (Value.int .u32):=by kernel_rfl
theorem us_roots:us roots=rootsInts.map (Value.int .u32):=by kernel_rfl
theorem cells_of {W:World} {g:Nat} {name:String} {l:List (BitVec 32)} {zs:List Int} (h:Lib.TabIs Tryz.prog W name .u32 zs) (hg:Tryz.prog.globalNamed name=some g) (e:us l=zs.map (Value.int .u32)):∀j v,(us l)[j]?=some v→W.cell? ⟨g,j,none⟩=some v:=by
 intro j v hj
 rw[e,List.getElem?_map] at hj
 have hlt:j<zs.length:=by
  rcases Nat.lt_or_ge j zs.length with x|x
  ·exact x
  ·rw[List.getElem?_eq_none x] at hj;cases hj
 rw[h.cell hg j hlt]
 rw[List.getElem?_eq_getElem hlt] at hj
 simpa [List.getD,List.getElem?_eq_getElem hlt] using hj
theorem tabs8 {W:World} (h:laidMetH Tryz.prog laidL8 W):Wd W∧Pow W∧Tabs W:=by
 have h':laidMet Tryz.prog laidL8 W:=h
 have h2:=laidMet.tail (laidMet.tail h')
 have h3:=laidMet.tail h2
 have h4:=laidMet.tail h3
 have t1:Lib.TabIs Tryz.prog W "suffragan/sha.first" .u32 firstInts:=
  Lib.tabIs_of_head (rest:=[("suffragan/sha.roots",Rows.laid_suffragan_sha_roots)]) (t:=142) (e:=102) (n:=8) gFirst (by kernel_rfl) (by kernel_rfl) Tryz.underlying102 (by kernel_rfl) (by kernel_rfl) h4
 have t2:Lib.TabIs Tryz.prog W "suffragan/sha.roots" .u32 rootsInts:=
  Lib.tabIs_of_head (rest:=[]) (t:=160) (e:=102) (n:=64) gRoots (by kernel_rfl) (by kernel_rfl) Tryz.underlying102 (by kernel_rfl) (by kernel_rfl) (laidMet.tail h4)
 exact⟨words_any h3,Lib.tabIs_of_head (t:=188) (e:=53) (n:=20) (zs:=Lib.pow10Tab) powG (by kernel_rfl) (by kernel_rfl) Tryz.underlying53 (by kernel_rfl) (by kernel_rfl) h2,⟨cells_of t1 gFirst us_first,cells_of t2 gRoots us_roots⟩⟩
noncomputable def laidWorld (os:Os):World:=
 { World.holding Tryz.prog os ⟨#[],#[],[]⟩ with heap:=((((((World.holding Tryz.prog os ⟨#[],#[],[]⟩).heap.modify 2 (lay (txs wordsL).toArray)).modify 4 (lay (pow10Ints.map (Value.int .u64)).toArray)).modify 5 (lay (Pr.u8sI tab32))).modify 6 (lay (Pr.u8sI tab64))).modify 0 (lay (firstInts.map (Value.int .u32)).toArray)).modify 1 (lay (rootsInts.map (Value.int .u32)).toArray) }
end Go.Proofs.YtbpfabhlngfciaaGreatDoor.Cn
namespace Go.Proofs.YtbpfabhlngfciaaGreatDoor.Args
open Go.ChangeShapes Go.WideShapes Go.ChangeAt Go.RowKit
open Base Pr Ch
theorem all_weights {H:Type} (P:Program) (e:TypeId):∀(ds:List (DataW H)) (i:Nat) (d:DataW H) (n:Nat),ds[i]?=some d→n∈d.weights P e→n∈DataW.weightsAll P e ds
 | [],i,d,n,h,_=>by simp at h
 | x::l,0,d,n,h,k=>by
  simp at h;subst h
  simp only[DataW.weightsAll,List.mem_append]
  exact .inl k
 | x::l,i+1,d,n,h,k=>by
  simp only[DataW.weightsAll,List.mem_append]
  exact .inr (all_weights P e l i d n (by simpa using h) k)
theorem ents_ok {H:Type} {ts:List TypeId} {ds:List (DataW H)} (h:(DataW.weightsEach Tryz.prog ts ds).all (· ≤ reachBytes)=true) {j:Nat} {l:List Et} {d:DataW H}
  (ht:ts[j]?=some 66) (hd:ds[j]?=some d) (hb:Bk (fun e D=>D=entD e∧EtIn e) l d):∀e∈l,EtOk e:=by
 intro e he
 obtain⟨i,hi⟩:=List.getElem?_of_mem he
 rcases hb with⟨_,rfl⟩|⟨es,sp,rfl,h2,h3⟩
 ·cases he
 ·have hil:=(List.getElem?_eq_some_iff.1 hi).1
  obtain⟨hD,hIn⟩:=h3 i e _ hi (List.getElem?_eq_getElem (by omega))
  have hm:e.s.data.toList.length∈(entD (H:=H) e).weights Tryz.prog 55:=by
   unfold entD
   unfold DataW.weights
   rw[Tryz.underlying55]
   simp[DataW.weightsEach,DataW.weights]
  have h1:=List.all_eq_true.1 h _ (DataW.weights_mem_each ht hd e.s.data.toList.length (by
   have hu:Tryz.prog.underlying 66=some (.slice 55):=by kernel_rfl
   simp only[DataW.weights,hu,List.mem_cons,List.mem_append]
   exact .inr (.inl (all_weights Tryz.prog 55 es i _ _ (List.getElem?_eq_getElem (by omega)) (by rw[hD];exact hm)))))
  have h1':e.s.data.toList.length≤reachBytes:=of_decide_eq_true h1
  unfold reachBytes at h1'
  have e1:e.s.data.toList.length=e.s.size:=Array.length_toList
  exact⟨hIn.p1,hIn.p2,by omega,hIn.id1⟩
theorem sum_arg {H:Type} {enc:TypeId×Value→H} {P:Program} {W:World} {base t q:Nat} (hu:P.underlying t=some (.array 32 q)) (hq:P.underlying q=some (.int .u8)) (hcq:P.cellsOf q=1) (hct:P.cellsOf t=32)
  {v:Value} {d:DataW H} {p:List MemPlace} (hv:Value.okWide P W .any base t v) (h:DataW.Trod enc P W 0 (fun _=>true) true t v d p) :
  ∃S:List UInt8,S.length=32∧v=.agg (u8s S).toArray:=by
 obtain⟨cs,rfl,hsz⟩:∃cs,v=.agg cs∧cs.size=32:=by
  unfold Value.okWide at hv
  rw[hu] at hv
  obtain⟨cs,h1,h2,_⟩:=hv
  exact⟨cs,h1,h2.trans hct⟩
 obtain⟨fuel,hf⟩:=h
 obtain⟨xs,m,_,_,_,hxl,hx⟩:=DataW.trod_array hu hf
 have hcell:∀j,j<32→∃z:Int,cs[j]?=some (.int .u8 z)∧0≤z∧z≤255:=by
  intro j hj
  have h3:=hx j hj
  rw[hcq,Nat.mul_one,List.getElem?_eq_getElem (by omega)] at h3
  obtain⟨z,hz,_,wz⟩:=DataW.trod_int hq h3
  refine⟨z,?_,by simpa [Lit.wf,IntKind.min,IntKind.max,IntKind.signed,IntKind.bits] using wz⟩
  have h5:=congrArg (fun l=>l[0]?) hz
  simpa [Value.cells,List.getElem?_take,List.getElem?_drop] using h5
 obtain⟨f,hfz⟩:=Deep.choose_lt hcell
 refine⟨(List.range 32).map fun j=>UInt8.ofNat (f j).toNat,by simp,?_⟩
 congr 1
 refine Array.ext' (List.ext_getElem? fun j=>?_)
 rcases Nat.lt_or_ge j 32 with hj|hj
 ·obtain⟨h1,h2,h3⟩:=hfz j hj
  have h4:cs.toList[j]?=some (.int .u8 (f j)):=by rw[Array.getElem?_toList];exact h1
  rw[h4]
  simp only[u8s,List.getElem?_map,List.getElem?_range hj,Option.map_some,UInt8.toNat_ofNat']
  congr 2
  omega
 ·rw[List.getElem?_eq_none (by rw[Array.length_toList];omega),List.getElem?_eq_none (by simp[u8s];omega)]
end Go.Proofs.YtbpfabhlngfciaaGreatDoor.Args
