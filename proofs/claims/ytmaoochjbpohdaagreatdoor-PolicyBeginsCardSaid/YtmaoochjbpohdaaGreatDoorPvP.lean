/- parse: what the rows' list gives: the powers of ten, the table of words; a world for the witness. -/
import Derived.Test.YtmaoochjbpohdaaGreatDoorPvO
import Derived.Test.YtmaoochjbpohdaaGreatDoorCards
import Derived.Test.YtmaoochjbpohdaaGreatDoorTie
import Derived.WalkKit
import Derived.ProofKit
import Derived.OpenShut
import Derived.Deep.DeepHandedRow
import Derived.Lib.LaidTab
import Derived.Stop.LaidErr
import Derived.MakeChecks
import Derived.SizedLaws
import Derived.ShutString
import Derived.ChangeOld
import Derived.SliceStrings
import Derived.Deep.Slices
set_option linter.unusedVariables false
set_option linter.unusedSimpArgs false
set_option maxRecDepth 100000
set_option maxHeartbeats 1000000
open Go.ChangeShapes Go.WideShapes Go.ChangeAt Go.RowKit
namespace Go.Proofs.YtmaoochjbpohdaaGreatDoor
namespace Pr
open Base
theorem gWords:Tryz.prog.globalNamed "suffragan/parse.words" = some 1:=by kernel_rfl
def pow10Ints:List Int:=[1,10,100,1000,10000,100000,1000000,10000000,100000000,1000000000,10000000000,100000000000,1000000000000,10000000000000,100000000000000,1000000000000000,10000000000000000,100000000000000000,1000000000000000000,10000000000000000000]
theorem cells_of_texts {H:Type} {enc:TypeId×Value→H} {P:Program} {w:World} {base:Nat} {sp:Nat→Bool} {held:Bool} {fuel:Nat} {t e:TypeId} {n:Nat} {cs:List Value} {ss:List (List UInt8)} {p:List MemPlace}
  (ht:P.underlying t=some (.array n e)) (he:P.underlying e=some .string) (hce:P.cellsOf e=1) (hct:P.cellsOf t=n)
  (h:DataW.trod enc P w base sp held fuel t cs=some (.agg (ss.map fun s=>.lit (.string s)),p)):cs=ss.map fun s=>Value.string ⟨s.toArray⟩:=by
 cases fuel with
 | zero=>simp[DataW.trod] at h
 | succ fuel=>
  simp only[DataW.trod,ht,hce,hct,Nat.mul_one] at h
  split at h
  ·rename_i hl
   obtain⟨xs,hm,hx⟩:=Option.map_eq_some_iff.1 h
   have hxs:xs.map (·.1)=ss.map fun s=>(DataW.lit (.string s):DataW H):=by
    have:=congrArg Prod.fst hx
    simpa using this
   have hxl:xs.length=n:=by simpa using Lib.mapM_length hm
   have hzl:ss.length=n:=by
    have:=congrArg List.length hxs
    simp at this
    omega
   apply List.ext_getElem?
   intro i
   by_cases hi:i<n
   ·obtain⟨b,hb,hf⟩:=Lib.mapM_at hm i i (by simp[hi])
    obtain⟨z,hc,rfl,_⟩:=DataW.trod_string he hf
    have h1:cs[i]?=some (.string z):=by
     have:=congrArg (·[0]?) hc
     simpa [List.getElem?_take,List.getElem?_drop] using this
    have h2:(xs.map (·.1))[i]?=some (DataW.lit (.string z.data.toList):DataW H):=by simp[hb]
    rw[hxs] at h2
    simp only[List.getElem?_map,Option.map_eq_some_iff,DataW.lit.injEq,Lit.string.injEq] at h2
    obtain⟨z',hz',rfl⟩:=h2
    simp[h1,hz']
   ·rw[List.getElem?_eq_none (by omega),List.getElem?_eq_none (by simp;omega)]
  ·cases h
def wordsD:List (List UInt8):=wordsL.map fun s=>s.data.toList
def lay (cs:Array Value):Obj→Obj
 | .cells _ t frozen=>.cells cs t frozen
 | o=>o
def u8sI (l:List Int):Array Value:=(l.map (Value.int .u8)).toArray
def tab32:List Int:=[0,1,28,2,29,14,24,3,30,22,20,15,25,17,4,8,31,27,13,23,21,19,16,7,26,12,18,6,11,5,10,9]
def tab64:List Int:=[0,1,56,2,57,49,28,3,61,58,42,50,38,29,17,4,62,47,59,36,45,43,51,22,53,39,33,30,24,18,12,5,63,55,48,27,60,41,37,16,46,35,44,21,52,32,23,11,54,26,40,15,34,20,31,10,25,14,19,9,13,8,7,6]
noncomputable def laidWorld (os:Os):World:=
 { World.holding Tryz.prog os ⟨#[],#[],[]⟩ with heap:=((((World.holding Tryz.prog os ⟨#[],#[],[]⟩).heap.modify 1 (lay (txs wordsL).toArray)).modify 3 (lay (pow10Ints.map (Value.int .u64)).toArray)).modify 4 (lay (u8sI tab32))).modify 5 (lay (u8sI tab64)) }
end Pr
namespace Pl
open Base Pr
theorem gNames:Tryz.prog.globalNamed "suffragan/policy.names" = some 0:=by kernel_rfl
abbrev laidL12:List (String×DataW Unit):=[("math/bits.deBruijn32tab",Rows.laid_math_bits_deBruijn32tab),("math/bits.deBruijn64tab",Rows.laid_math_bits_deBruijn64tab),("internal/strconv.uint64pow10",Rows.laid_internal_strconv_uint64pow10),("suffragan/parse.words",Rows.laid_suffragan_parse_words),("suffragan/policy.names",Rows.laid_suffragan_policy_names)]
theorem words_any {W:World} {rest:List (String×DataW Unit)} (h:laidMet Tryz.prog (("suffragan/parse.words",Rows.laid_suffragan_parse_words)::rest) W):Wd W:=by
 obtain⟨ps,⟨g',t',cs,fuel,p,q,hg',ht',hvar,hd,_,_⟩,_⟩:=h
 obtain rfl:=Option.some.inj (gWords.symm.trans hg')
 obtain rfl:162=t':=Option.some.inj ((show (Tryz.prog.globals[1]?).map (·.type)=some 162 by kernel_rfl).symm.trans ht')
 have hcs:=cells_of_texts (ss:=wordsD) (e:=9) (n:=12) (by kernel_rfl) Tryz.underlying9 (by kernel_rfl) (by kernel_rfl) hd
 intro _
 refine⟨1,0,rfl,fun j u hj=>?_⟩
 have:(wordsD.map fun s=>Value.string ⟨s.toArray⟩)=txs wordsL:=by kernel_rfl
 rw[this] at hcs
 rw[Nat.zero_add,World.var?_cell gWords hvar j,←hj,←hcs]
 simp
def namesD:List (List UInt8):=namesL.map fun s=>s.data.toList
theorem names_any {W:World} {rest:List (String×DataW Unit)} (h:laidMet Tryz.prog (("suffragan/policy.names",Rows.laid_suffragan_policy_names)::rest) W):Nms W:=by
 obtain⟨ps,⟨g',t',cs,fuel,p,q,hg',ht',hvar,hd,_,_⟩,_⟩:=h
 obtain rfl:=Option.some.inj (gNames.symm.trans hg')
 obtain rfl:90=t':=Option.some.inj ((show (Tryz.prog.globals[0]?).map (·.type)=some 90 by kernel_rfl).symm.trans ht')
 have hcs:=cells_of_texts (ss:=namesD) (e:=9) (n:=7) (by kernel_rfl) Tryz.underlying9 (by kernel_rfl) (by kernel_rfl) hd
 intro _
 refine⟨0,0,rfl,fun j u hj=>?_⟩
 have:(namesD.map fun s=>Value.string ⟨s.toArray⟩)=txs namesL:=by kernel_rfl
 rw[this] at hcs
 rw[Nat.zero_add,World.var?_cell gNames hvar j,←hj,←hcs]
 simp
theorem tabs12 {W:World} (h:laidMetH Tryz.prog laidL12 W):Wd W∧Pow W∧Nms W:=by
 have h':laidMet Tryz.prog laidL12 W:=h
 have h2:=laidMet.tail (laidMet.tail h')
 have h3:=laidMet.tail h2
 have h4:=laidMet.tail h3
 exact⟨words_any h3,Lib.tabIs_of_head (t:=187) (e:=91) (n:=20) (zs:=Lib.pow10Tab) powG (by kernel_rfl) (by kernel_rfl) Tryz.underlying91 (by kernel_rfl) (by kernel_rfl) h2,names_any h4⟩
noncomputable def laidWorld (os:Os):World:=
 { World.holding Tryz.prog os ⟨#[],#[],[]⟩ with heap:=(((((World.holding Tryz.prog os ⟨#[],#[],[]⟩).heap.modify 1 (lay (txs wordsL).toArray)).modify 3 (lay (pow10Ints.map (Value.int .u64)).toArray)).modify 4 (lay (Pr.u8sI tab32))).modify 5 (lay (Pr.u8sI tab64))).modify 0 (lay (txs namesL).toArray) }
end Pl
namespace Args
open Go.ChangeMaps (open_string shut_string)
open Base
end Args
namespace Args
open Base Pr
structure Rdr {H α:Type} (enc:TypeId×Value→H) (P:Program) (W:World) (e:TypeId) (cells:α→List Value) (G:α→DataW H→Prop):Prop where
 rd:∀fuel cs D pl,DataW.trod enc P W 0 (fun _=>true) true fuel e cs=some (D,pl)→∃x,cs=cells x∧G x D
def Bk {H α:Type} (G:α→DataW H→Prop) (l:List α) (D:DataW H):Prop:=(D=.nil∧l=[])∨∃ds sp,D=.slice ds sp∧ds.length=l.length∧∀(i:Nat) x d,l[i]?=some x→ds[i]?=some d→G x d
theorem Bk.mono {H α:Type} {G G':α→DataW H→Prop} {l:List α} {D:DataW H} (h:Bk G l D) (hg:∀x d,G x d→G' x d):Bk G' l D:=by
 rcases h with h|⟨ds,sp,h1,h2,h3⟩
 ·exact .inl h
 ·exact .inr ⟨ds,sp,h1,h2,fun i x d a b=>hg _ _ (h3 i x d a b)⟩
theorem Bk.all {H α:Type} {G:α→DataW H→Prop} {l:List α} {D:DataW H} (h:Bk G l D):∀(i:Nat) x,l[i]?=some x→∃d,G x d:=by
 intro i x hx
 rcases h with⟨_,rfl⟩|⟨ds,sp,h1,h2,h3⟩
 ·simp at hx
 ·have hi:i<ds.length:=by rw[h2];exact (List.getElem?_eq_some_iff.1 hx).1
  exact⟨ds[i],h3 i x _ hx (List.getElem?_eq_getElem hi)⟩
theorem flatMap_at {α:Type} {cells:α→List Value} {s:Nat} (hs:∀x,(cells x).length=s):∀(l:List α) (j:Nat) (x:α),l[j]?=some x→∀i,i<s→(l.flatMap cells)[j*s+i]?=(cells x)[i]?
 | [],j,x,h,i,hi=>by simp at h
 | y::l,0,x,h,i,hi=>by
  simp at h;subst h
  rw[List.flatMap_cons,List.getElem?_append_left (by rw[hs];omega)]
  congr 1;omega
 | y::l,j+1,x,h,i,hi=>by
  have ih:=flatMap_at hs l j x (by simpa using h) i hi
  have e:(j+1)*s=j*s+s:=Nat.succ_mul j s
  rw[List.flatMap_cons,List.getElem?_append_right (by rw[hs];omega),←ih]
  congr 1
  rw[hs];omega
theorem flatMap_len {α:Type} {cells:α→List Value} {s:Nat} (hs:∀x,(cells x).length=s) (l:List α):(l.flatMap cells).length=l.length*s:=by
 induction l with
 | nil=>simp
 | cons x l ih=>rw[List.flatMap_cons,List.length_append,hs,ih,List.length_cons,Nat.succ_mul];omega
theorem Rdr.slice {H α:Type} [Inhabited α] {enc:TypeId×Value→H} {P:Program} {W:World} {t e:TypeId} {cells:α→List Value} {G:α→DataW H→Prop} (h:Rdr enc P W e cells G) (hu:P.underlying t=some (.slice e)) {s:Nat} (hce:P.cellsOf e=s) (hs:∀x,(cells x).length=s) (hp:0<s) :
  Rdr enc P W t (fun x:Value×List α=>[x.1]) (fun x D=>Sl W.heap.size W x.1 x.2.length (x.2.flatMap cells)∧Bk G x.2 D):=by
 refine⟨fun fuel cs D pl hf=>?_⟩
 rcases Deep.open_slice hu hf with⟨rfl,hx⟩|⟨a,n,c,m,k,Ds,Pl,rfl,_,hl,hm,hmm,hx,hel⟩
 ·injection hx with hx _
  exact⟨(.slice none 0 0,[]),rfl,⟨none,0,rfl,Rd.nil _ _,fun h=>absurd rfl h,Nat.le_refl _,Nat.zero_le _,fun _=>rfl⟩,.inl ⟨hx,rfl⟩⟩
 ·have hmm:m=c:=by simpa using hmm
  subst hmm
  injection hx with hx _
  have hcell:∀j,j<n→∃x:α,(∀i,i<s→W.cell? (a.add (j*s+i))=(cells x)[i]?)∧G x (Ds j):=by
   intro j hj
   obtain⟨cs',g1,g2⟩:=hel j (by omega)
   rw[hce] at g1
   obtain⟨_,hlen,hc⟩:=World.cells?_some g1
   obtain⟨x,rfl,hg⟩:=h.rd _ _ _ _ g2
   refine⟨x,fun i hi=>?_,hg⟩
   have h4:=hc i hi
   rwa [Deep.add_add] at h4
  obtain⟨f,hfz⟩:=Deep.choose_lt hcell
  have hrd:Rd W (some a) (((List.range n).map f).flatMap cells):=by
   intro hne
   have hpos:0<n:=by
    rcases Nat.eq_zero_or_pos n with h|h
    ·rw[h] at hne;simp at hne
    ·exact h
   obtain⟨b,off,spot⟩:=a
   have hspot:spot=none:=by
    have h9:=(hfz 0 hpos).1 0 hp
    rw[List.getElem?_eq_getElem (by rw[hs];exact hp)] at h9
    simpa [Addr.add] using World.cell?_spot h9
   subst hspot
   refine⟨b,off,rfl,fun j u hj=>?_⟩
   have hjl:j<n*s:=by
    have:=(List.getElem?_eq_some_iff.1 hj).1
    rw[flatMap_len hs] at this
    simpa using this
   have hd:j / s<n:=by rw[Nat.div_lt_iff_lt_mul hp];exact hjl
   have hr:j%s<s:=Nat.mod_lt _ hp
   have hje:j / s*s+j%s=j:=by rw[Nat.mul_comm];exact Nat.div_add_mod j s
   have h5:=(hfz (j / s) hd).1 (j%s) hr
   rw[hje] at h5
   rw[←Go.WideShapes.add_plain,h5]
   have h6:=flatMap_at hs ((List.range n).map f) (j / s) (f (j / s)) (by simp[hd]) (j%s) hr
   rw[hje] at h6
   rw[←h6]
   exact hj
  refine⟨(.slice (some a) n m,(List.range n).map f),rfl,⟨some a,m,by simp,hrd,fun hne a' ha=>?_,by simpa using hl,hm,fun e=>by cases e⟩,.inr ⟨_,_,hx,by simp,fun i x d h1 h2=>?_⟩⟩
  ·injection ha with ha
   subst ha
   obtain⟨b,off,e1,h7⟩:=hrd hne
   injection e1 with e1
   subst e1
   have h8:0<(((List.range n).map f).flatMap cells).length:=List.length_pos_iff.2 hne
   have h9:=h7 0 _ (List.getElem?_eq_getElem h8)
   exact World.block_lt_of_cell? W _ h9
  ·have hi:i<n:=by have:=(List.getElem?_eq_some_iff.1 h1).1;simpa using this
   simp only[List.getElem?_map,List.getElem?_range hi,Option.map_some,Option.some.injEq] at h1 h2
   subst h1;subst h2
   exact (hfz i hi).2
theorem rdr_int {H:Type} {enc:TypeId×Value→H} {P:Program} {W:World} {t:TypeId} {k:IntKind} (hu:P.underlying t=some (.int k)):Rdr enc P W t (fun n:Int=>[.int k n]) (fun n D=>D=.lit (.int k n)∧(Lit.int k n).wf=true):=
 ⟨fun fuel cs D pl hf=>by
  obtain⟨z,e0,e1,w0⟩:=DataW.trod_int hu hf
  injection e1 with e1 _
  exact⟨z,e0,e1,w0⟩⟩
theorem rdr_string {H:Type} {enc:TypeId×Value→H} {P:Program} {W:World} {t:TypeId} (hu:P.underlying t=some .string):Rdr enc P W t (fun s:ByteArray=>[.string s]) (fun s D=>D=.lit (.string s.data.toList)∧s.size≤maxLen):=
 ⟨fun fuel cs D pl hf=>by
  obtain⟨z,e0,e1,w0⟩:=DataW.trod_string hu hf
  injection e1 with e1 _
  exact⟨z,e0,e1,w0⟩⟩
theorem rdr_bool {H:Type} {enc:TypeId×Value→H} {P:Program} {W:World} {t:TypeId} (hu:P.underlying t=some .bool):Rdr enc P W t (fun b:Bool=>[.bool b]) (fun b D=>D=.lit (.bool b)):=
 ⟨fun fuel cs D pl hf=>by
  obtain⟨z,e0,e1⟩:=DataW.trod_bool hu hf
  injection e1 with e1 _
  exact⟨z,e0,e1⟩⟩
end Args
namespace Args
open Base Pr Ch
instance:Inhabited Et:=⟨e0⟩
theorem cells_ent:Tryz.prog.cellsOf 93=4:=by kernel_rfl
def entD {H:Type} (e:Et):DataW H:=.agg [.lit (.bool e.pol),.lit (.int .i64 e.p),.lit (.string e.s.data.toList),.lit (.int .u64 (e.id:Int))]
structure EtIn (e:Et):Prop where
 p1 : -9223372036854775808≤e.p
 p2:e.p≤9223372036854775807
 id1:e.id<18446744073709551616
theorem rdr_ent {H:Type} {enc:TypeId×Value→H} {W:World}:Rdr enc Tryz.prog W 93 entC (fun e D=>D=entD e∧EtIn e):=by
 refine⟨fun fuel cs D pl hf=>?_⟩
 obtain⟨xs,m,_,hx,hl,hlen,hfs⟩:=DataW.trod_struct Tryz.underlying93 hf
 injection hx with hD _
 match xs,hlen with
 | [y0,y1,y2,y3],_=>
  have g0:=hfs 0 _ rfl
  have g1:=hfs 1 _ rfl
  have g2:=hfs 2 _ rfl
  have g3:=hfs 3 _ rfl
  have hl4:cs.length=4:=hl.trans cells_ent
  match cs,hl4 with
  | [c0,c1,c2,c3],_=>
   have g0:DataW.trod enc Tryz.prog W 0 (fun _=>true) true m 4 [c0]=some y0:=g0
   have g1:DataW.trod enc Tryz.prog W 0 (fun _=>true) true m 3 [c1]=some y1:=g1
   have g2:DataW.trod enc Tryz.prog W 0 (fun _=>true) true m 9 [c2]=some y2:=g2
   have g3:DataW.trod enc Tryz.prog W 0 (fun _=>true) true m 91 [c3]=some y3:=g3
   obtain⟨z0,e0,f0⟩:=(rdr_bool Tryz.underlying4).rd _ _ _ _ g0
   obtain⟨z1,e1,f1,b1⟩:=(rdr_int Tryz.underlying3).rd _ _ _ _ g1
   obtain⟨z2,e2,f2,_⟩:=(rdr_string Tryz.underlying9).rd _ _ _ _ g2
   obtain⟨z3,e3,f3,b3⟩:=(rdr_int Tryz.underlying91).rd _ _ _ _ g3
   injection e0 with e0 _
   injection e1 with e1 _
   injection e2 with e2 _
   injection e3 with e3 _
   subst e0;subst e1;subst e2;subst e3
   have b1 : -9223372036854775808≤z1∧z1≤9223372036854775807:=by simpa [Lit.wf,IntKind.min,IntKind.max,IntKind.signed,IntKind.bits] using b1
   have b3:0≤z3∧z3≤18446744073709551615:=by simpa [Lit.wf,IntKind.min,IntKind.max,IntKind.signed,IntKind.bits] using b3
   obtain⟨k,rfl⟩:∃k:Nat,z3=(k:Int):=⟨z3.toNat,by omega⟩
   refine⟨⟨z0,z1,z2,k⟩,rfl,?_,⟨b1.1,b1.2,by show k<_;omega⟩⟩
   rw[hD]
   simp only[List.map_cons,List.map_nil,f0,f1,f2,f3,entD]
theorem ents_arg {H:Type} {enc:TypeId×Value→H} {W:World} {base:Nat} {v:Value} {d:DataW H} {p:List MemPlace} (hv:Value.okWide Tryz.prog W .any base 52 v) (h:DataW.Trod enc Tryz.prog W 0 (fun _=>true) true 52 v d p) :
  ∃l,Sl W.heap.size W v l.length (l.flatMap entC)∧Bk (fun e D=>D=entD e∧EtIn e) l d:=by
 obtain⟨fuel,hf⟩:=h
 obtain⟨A,n,c,rfl⟩:=okWide_slice (e:=93) (by kernel_rfl) hv
 obtain⟨⟨v3,l3⟩,e3,s3,f3⟩:=(rdr_ent.slice (t:=52) (by kernel_rfl) (s:=4) (by kernel_rfl) (fun _=>rfl) (by omega)).rd _ _ _ _ hf
 have e3:Value.slice A n c=v3:=by simpa [Value.cells] using e3
 subst e3
 exact⟨l3,s3,f3⟩
theorem ents_reach {H:Type} {ts:List TypeId} {ds:List (DataW H)} (h:(DataW.weightsEach Tryz.prog ts ds).all (· ≤ reachBytes)=true) {j:Nat} {l:List Et} {d:DataW H}
  (ht:ts[j]?=some 52) (hd:ds[j]?=some d) (hb:Bk (fun e D=>D=entD e∧EtIn e) l d):l.length*40≤140737488351232:=by
 rcases hb with⟨_,rfl⟩|⟨es,sp,rfl,h2,h3⟩
 ·simp
 ·have:=sized_slice h ht hd (e:=93) (by kernel_rfl)
  have hby:Tryz.prog.bytesOf 93=40:=by kernel_rfl
  rw[hby] at this
  simp only[reachBytes] at this
  rw[←h2]
  have h5:es.length*40≤(es.length+sp.length)*40:=Nat.mul_le_mul_right _ (Nat.le_add_right _ _)
  omega
theorem all_weights {H:Type} (P:Program) (e:TypeId):∀(ds:List (DataW H)) (i:Nat) (d:DataW H) (n:Nat),ds[i]?=some d→n∈d.weights P e→n∈DataW.weightsAll P e ds
 | [],i,d,n,h,_=>by simp at h
 | x::l,0,d,n,h,k=>by
  simp at h;subst h
  simp only[DataW.weightsAll,List.mem_append]
  exact .inl k
 | x::l,i+1,d,n,h,k=>by
  simp only[DataW.weightsAll,List.mem_append]
  exact .inr (all_weights P e l i d n (by simpa using h) k)
theorem ents_ok {H:Type} {ts:List TypeId} {ds:List (DataW H)} (h:(DataW.weightsEach Tryz.prog ts ds).all (· ≤ reachBytes)=true) {j:Nat} {l:List Et} {d:DataW H}
  (ht:ts[j]?=some 52) (hd:ds[j]?=some d) (hb:Bk (fun e D=>D=entD e∧EtIn e) l d):∀e∈l,EtOk e:=by
 intro e he
 obtain⟨i,hi⟩:=List.getElem?_of_mem he
 rcases hb with⟨_,rfl⟩|⟨es,sp,rfl,h2,h3⟩
 ·cases he
 ·have hil:=(List.getElem?_eq_some_iff.1 hi).1
  obtain⟨hD,hIn⟩:=h3 i e _ hi (List.getElem?_eq_getElem (by omega))
  have hm:e.s.data.toList.length∈(entD (H:=H) e).weights Tryz.prog 93:=by
   unfold entD
   unfold DataW.weights
   rw[Tryz.underlying93]
   simp[DataW.weightsEach,DataW.weights]
  have h1:=List.all_eq_true.1 h _ (DataW.weights_mem_each ht hd e.s.data.toList.length (by
   have hu:Tryz.prog.underlying 52=some (.slice 93):=by kernel_rfl
   simp only[DataW.weights,hu,List.mem_cons,List.mem_append]
   exact .inr (.inl (all_weights Tryz.prog 93 es i _ _ (List.getElem?_eq_getElem (by omega)) (by rw[hD];exact hm)))))
  have h1':e.s.data.toList.length≤reachBytes:=of_decide_eq_true h1
  unfold reachBytes at h1'
  have e1:e.s.data.toList.length=e.s.size:=Array.length_toList
  exact⟨hIn.p1,hIn.p2,by omega,hIn.id1⟩
end Args
end Go.Proofs.YtmaoochjbpohdaaGreatDoor
