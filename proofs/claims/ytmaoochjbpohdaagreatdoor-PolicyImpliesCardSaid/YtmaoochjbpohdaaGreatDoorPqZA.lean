/- parse: what the rows' list gives: the powers of ten, the table of words; a world for the witness. -/
import Derived.Test.YtmaoochjbpohdaaGreatDoorPqZ
import Derived.Test.YtmaoochjbpohdaaGreatDoorCards
import Derived.Test.YtmaoochjbpohdaaGreatDoorTie
import Derived.WalkKit
import Derived.ProofKit
import Derived.OpenShut
import Derived.Deep.DeepHandedRow
import Derived.Lib.LaidTab
import Derived.Stop.LaidErr
import Derived.MakeChecks
set_option linter.unusedVariables false
set_option linter.unusedSimpArgs false
set_option maxRecDepth 100000
set_option maxHeartbeats 1000000
open Go.ChangeShapes Go.WideShapes Go.ChangeAt Go.RowKit
namespace Go.Proofs.YtmaoochjbpohdaaGreatDoor
namespace Pr
open Base
theorem gWords:Tryz.prog.globalNamed "suffragan/parse.words" = some 1:=by kernel_rfl
def pow10Ints:List Int:=[1,10,100,1000,10000,100000,1000000,10000000,100000000,1000000000,10000000000,100000000000,1000000000000,10000000000000,100000000000000,1000000000000000,10000000000000000,100000000000000000,1000000000000000000,10000000000000000000]
theorem cells_of_texts {H:Type} {enc:TypeId×Value→H} {P:Program} {w:World} {base:Nat} {sp:Nat→Bool} {held:Bool} {fuel:Nat} {t e:TypeId} {n:Nat} {cs:List Value} {ss:List (List UInt8)} {p:List MemPlace}
  (ht:P.underlying t=some (.array n e)) (he:P.underlying e=some .string) (hce:P.cellsOf e=1) (hct:P.cellsOf t=n)
  (h:DataW.trod enc P w base sp held fuel t cs=some (.agg (ss.map fun s=>.lit (.string s)),p)):cs=ss.map fun s=>Value.string ⟨s.toArray⟩:=by
 cases fuel with
 | zero=>simp[DataW.trod] at h
 | succ fuel=>
  simp only[DataW.trod,ht,hce,hct,Nat.mul_one] at h
  split at h
  ·rename_i hl
   obtain⟨xs,hm,hx⟩:=Option.map_eq_some_iff.1 h
   have hxs:xs.map (·.1)=ss.map fun s=>(DataW.lit (.string s):DataW H):=by
    have:=congrArg Prod.fst hx
    simpa using this
   have hxl:xs.length=n:=by simpa using Lib.mapM_length hm
   have hzl:ss.length=n:=by
    have:=congrArg List.length hxs
    simp at this
    omega
   apply List.ext_getElem?
   intro i
   by_cases hi:i<n
   ·obtain⟨b,hb,hf⟩:=Lib.mapM_at hm i i (by simp[hi])
    obtain⟨z,hc,rfl,_⟩:=DataW.trod_string he hf
    have h1:cs[i]?=some (.string z):=by
     have:=congrArg (·[0]?) hc
     simpa [List.getElem?_take,List.getElem?_drop] using this
    have h2:(xs.map (·.1))[i]?=some (DataW.lit (.string z.data.toList):DataW H):=by simp[hb]
    rw[hxs] at h2
    simp only[List.getElem?_map,Option.map_eq_some_iff,DataW.lit.injEq,Lit.string.injEq] at h2
    obtain⟨z',hz',rfl⟩:=h2
    simp[h1,hz']
   ·rw[List.getElem?_eq_none (by omega),List.getElem?_eq_none (by simp;omega)]
  ·cases h
def wordsD:List (List UInt8):=wordsL.map fun s=>s.data.toList
def lay (cs:Array Value):Obj→Obj
 | .cells _ t frozen=>.cells cs t frozen
 | o=>o
def u8sI (l:List Int):Array Value:=(l.map (Value.int .u8)).toArray
def tab32:List Int:=[0,1,28,2,29,14,24,3,30,22,20,15,25,17,4,8,31,27,13,23,21,19,16,7,26,12,18,6,11,5,10,9]
def tab64:List Int:=[0,1,56,2,57,49,28,3,61,58,42,50,38,29,17,4,62,47,59,36,45,43,51,22,53,39,33,30,24,18,12,5,63,55,48,27,60,41,37,16,46,35,44,21,52,32,23,11,54,26,40,15,34,20,31,10,25,14,19,9,13,8,7,6]
noncomputable def laidWorld (os:Os):World:=
 { World.holding Tryz.prog os ⟨#[],#[],[]⟩ with heap:=((((World.holding Tryz.prog os ⟨#[],#[],[]⟩).heap.modify 1 (lay (txs wordsL).toArray)).modify 3 (lay (pow10Ints.map (Value.int .u64)).toArray)).modify 4 (lay (u8sI tab32))).modify 5 (lay (u8sI tab64)) }
end Pr
namespace Pl
open Base Pr
theorem gNames:Tryz.prog.globalNamed "suffragan/policy.names" = some 0:=by kernel_rfl
abbrev laidL12:List (String×DataW Unit):=[("math/bits.deBruijn32tab",Rows.laid_math_bits_deBruijn32tab),("math/bits.deBruijn64tab",Rows.laid_math_bits_deBruijn64tab),("internal/strconv.uint64pow10",Rows.laid_internal_strconv_uint64pow10),("suffragan/parse.words",Rows.laid_suffragan_parse_words),("suffragan/policy.names",Rows.laid_suffragan_policy_names)]
theorem words_any {W:World} {rest:List (String×DataW Unit)} (h:laidMet Tryz.prog (("suffragan/parse.words",Rows.laid_suffragan_parse_words)::rest) W):Wd W:=by
 obtain⟨ps,⟨g',t',cs,fuel,p,q,hg',ht',hvar,hd,_,_⟩,_⟩:=h
 obtain rfl:=Option.some.inj (gWords.symm.trans hg')
 obtain rfl:162=t':=Option.some.inj ((show (Tryz.prog.globals[1]?).map (·.type)=some 162 by kernel_rfl).symm.trans ht')
 have hcs:=cells_of_texts (ss:=wordsD) (e:=9) (n:=12) (by kernel_rfl) Tryz.underlying9 (by kernel_rfl) (by kernel_rfl) hd
 intro _
 refine⟨1,0,rfl,fun j u hj=>?_⟩
 have:(wordsD.map fun s=>Value.string ⟨s.toArray⟩)=txs wordsL:=by kernel_rfl
 rw[this] at hcs
 rw[Nat.zero_add,World.var?_cell gWords hvar j,←hj,←hcs]
 simp
def namesD:List (List UInt8):=namesL.map fun s=>s.data.toList
theorem names_any {W:World} {rest:List (String×DataW Unit)} (h:laidMet Tryz.prog (("suffragan/policy.names",Rows.laid_suffragan_policy_names)::rest) W):Nms W:=by
 obtain⟨ps,⟨g',t',cs,fuel,p,q,hg',ht',hvar,hd,_,_⟩,_⟩:=h
 obtain rfl:=Option.some.inj (gNames.symm.trans hg')
 obtain rfl:90=t':=Option.some.inj ((show (Tryz.prog.globals[0]?).map (·.type)=some 90 by kernel_rfl).symm.trans ht')
 have hcs:=cells_of_texts (ss:=namesD) (e:=9) (n:=7) (by kernel_rfl) Tryz.underlying9 (by kernel_rfl) (by kernel_rfl) hd
 intro _
 refine⟨0,0,rfl,fun j u hj=>?_⟩
 have:(namesD.map fun s=>Value.string ⟨s.toArray⟩)=txs namesL:=by kernel_rfl
 rw[this] at hcs
 rw[Nat.zero_add,World.var?_cell gNames hvar j,←hj,←hcs]
 simp
theorem tabs12 {W:World} (h:laidMetH Tryz.prog laidL12 W):Wd W∧Pow W∧Nms W:=by
 have h':laidMet Tryz.prog laidL12 W:=h
 have h2:=laidMet.tail (laidMet.tail h')
 have h3:=laidMet.tail h2
 have h4:=laidMet.tail h3
 exact⟨words_any h3,Lib.tabIs_of_head (t:=187) (e:=91) (n:=20) (zs:=Lib.pow10Tab) powG (by kernel_rfl) (by kernel_rfl) Tryz.underlying91 (by kernel_rfl) (by kernel_rfl) h2,names_any h4⟩
noncomputable def laidWorld (os:Os):World:=
 { World.holding Tryz.prog os ⟨#[],#[],[]⟩ with heap:=(((((World.holding Tryz.prog os ⟨#[],#[],[]⟩).heap.modify 1 (lay (txs wordsL).toArray)).modify 3 (lay (pow10Ints.map (Value.int .u64)).toArray)).modify 4 (lay (Pr.u8sI tab32))).modify 5 (lay (Pr.u8sI tab64))).modify 0 (lay (txs namesL).toArray) }
end Pl
namespace Args
open Base
theorem mem_weights {H:Type} (P:Program) (e:TypeId):∀(l:List ByteArray) (s:ByteArray),s∈l→s.data.toList.length∈DataW.weightsAll P e (l.map fun s=>(DataW.lit (.string s.data.toList):DataW H))
 | x::l,s,h=>by
  simp only[List.map_cons,DataW.weightsAll,DataW.weights,List.mem_append]
  rcases List.mem_cons.1 h with rfl|h
  ·left;simp
  ·right;exact mem_weights P e l s h
theorem strs_reach {H:Type} {P:Program} {ts:List TypeId} {ds:List (DataW H)} (h:(DataW.weightsEach P ts ds).all (· ≤ reachBytes)=true) {j t e:Nat} {d:DataW H} {n c:Nat} {l:List ByteArray}
  (ht:ts[j]?=some t) (hd:ds[j]?=some d) (hu:P.underlying t=some (.slice e)) (hl:l.length=n) (hw:(d=.nil∧n=0)∨∃sp,d=.slice (l.map fun s=>.lit (.string s.data.toList)) sp∧sp.length=c-n):∀s∈l,s.size≤140737488351232:=by
 intro s hs
 rcases hw with⟨_,rfl⟩|⟨sp,rfl,h2⟩
 ·have:=List.eq_nil_of_length_eq_zero hl
  subst this
  cases hs
 ·have h1:=List.all_eq_true.1 h _ (DataW.weights_mem_each ht hd s.data.toList.length (by
   simp only[DataW.weights,hu,List.mem_cons,List.mem_append]
   exact .inr (.inl (mem_weights P e l s hs))))
  have h1':s.data.toList.length≤reachBytes:=of_decide_eq_true h1
  unfold reachBytes at h1'
  have e:s.data.toList.length=s.size:=Array.length_toList
  omega
end Args
end Go.Proofs.YtmaoochjbpohdaaGreatDoor
