/- parse: what the rows' list gives: the powers of ten, the table of words; a world for the witness. -/
import Derived.Test.YtmaoochjbpohdaaGreatDoorRbZ
import Derived.Test.YtmaoochjbpohdaaGreatDoorCards
import Derived.Test.YtmaoochjbpohdaaGreatDoorTie
import Derived.WalkKit
import Derived.ProofKit
import Derived.OpenShut
import Derived.Deep.DeepHandedRow
import Derived.Lib.LaidTab
import Derived.Stop.LaidErr
import Derived.MakeChecks
set_option linter.unusedVariables false
set_option linter.unusedSimpArgs false
set_option maxRecDepth 100000
set_option maxHeartbeats 1000000
open Go.ChangeShapes Go.WideShapes Go.ChangeAt Go.RowKit
namespace Go.Proofs.YtmaoochjbpohdaaGreatDoor
namespace Pr
open Base
theorem gWords:Tryz.prog.globalNamed "suffragan/parse.words" = some 1:=by kernel_rfl
def pow10Ints:List Int:=[1,10,100,1000,10000,100000,1000000,10000000,100000000,1000000000,10000000000,100000000000,1000000000000,10000000000000,100000000000000,1000000000000000,10000000000000000,100000000000000000,1000000000000000000,10000000000000000000]
abbrev laidL:List (String×DataW Unit):=[("math/bits.deBruijn32tab",Rows.laid_math_bits_deBruijn32tab),("math/bits.deBruijn64tab",Rows.laid_math_bits_deBruijn64tab),("internal/strconv.uint64pow10",Rows.laid_internal_strconv_uint64pow10),("suffragan/parse.words",Rows.laid_suffragan_parse_words)]
theorem pow_of {W:World} (h:laidMet Tryz.prog [("internal/strconv.uint64pow10",Rows.laid_internal_strconv_uint64pow10),("suffragan/parse.words",Rows.laid_suffragan_parse_words)] W):Pow W:=
 Lib.tabIs_of_head (rest:=[("suffragan/parse.words",Rows.laid_suffragan_parse_words)]) (t:=187) (e:=91) (n:=20) (zs:=Lib.pow10Tab) powG (by kernel_rfl) (by kernel_rfl) Tryz.underlying91 (by kernel_rfl) (by kernel_rfl) h
theorem cells_of_texts {H:Type} {enc:TypeId×Value→H} {P:Program} {w:World} {base:Nat} {sp:Nat→Bool} {held:Bool} {fuel:Nat} {t e:TypeId} {n:Nat} {cs:List Value} {ss:List (List UInt8)} {p:List MemPlace}
  (ht:P.underlying t=some (.array n e)) (he:P.underlying e=some .string) (hce:P.cellsOf e=1) (hct:P.cellsOf t=n)
  (h:DataW.trod enc P w base sp held fuel t cs=some (.agg (ss.map fun s=>.lit (.string s)),p)):cs=ss.map fun s=>Value.string ⟨s.toArray⟩:=by
 cases fuel with
 | zero=>simp[DataW.trod] at h
 | succ fuel=>
  simp only[DataW.trod,ht,hce,hct,Nat.mul_one] at h
  split at h
  ·rename_i hl
   obtain⟨xs,hm,hx⟩:=Option.map_eq_some_iff.1 h
   have hxs:xs.map (·.1)=ss.map fun s=>(DataW.lit (.string s):DataW H):=by
    have:=congrArg Prod.fst hx
    simpa using this
   have hxl:xs.length=n:=by simpa using Lib.mapM_length hm
   have hzl:ss.length=n:=by
    have:=congrArg List.length hxs
    simp at this
    omega
   apply List.ext_getElem?
   intro i
   by_cases hi:i<n
   ·obtain⟨b,hb,hf⟩:=Lib.mapM_at hm i i (by simp[hi])
    obtain⟨z,hc,rfl,_⟩:=DataW.trod_string he hf
    have h1:cs[i]?=some (.string z):=by
     have:=congrArg (·[0]?) hc
     simpa [List.getElem?_take,List.getElem?_drop] using this
    have h2:(xs.map (·.1))[i]?=some (DataW.lit (.string z.data.toList):DataW H):=by simp[hb]
    rw[hxs] at h2
    simp only[List.getElem?_map,Option.map_eq_some_iff,DataW.lit.injEq,Lit.string.injEq] at h2
    obtain⟨z',hz',rfl⟩:=h2
    simp[h1,hz']
   ·rw[List.getElem?_eq_none (by omega),List.getElem?_eq_none (by simp;omega)]
  ·cases h
def wordsD:List (List UInt8):=wordsL.map fun s=>s.data.toList
theorem words_of {W:World} (h:laidMet Tryz.prog [("suffragan/parse.words",Rows.laid_suffragan_parse_words)] W):Wd W:=by
 obtain⟨ps,⟨g',t',cs,fuel,p,q,hg',ht',hvar,hd,_,_⟩,_⟩:=h
 obtain rfl:=Option.some.inj (gWords.symm.trans hg')
 obtain rfl:162=t':=Option.some.inj ((show (Tryz.prog.globals[1]?).map (·.type)=some 162 by kernel_rfl).symm.trans ht')
 have hcs:=cells_of_texts (ss:=wordsD) (e:=9) (n:=12) (by kernel_rfl) Tryz.underlying9 (by kernel_rfl) (by kernel_rfl) hd
 intro _
 refine⟨1,0,rfl,fun j u hj=>?_⟩
 have:(wordsD.map fun s=>Value.string ⟨s.toArray⟩)=txs wordsL:=by kernel_rfl
 rw[this] at hcs
 rw[Nat.zero_add,World.var?_cell gWords hvar j,←hj,←hcs]
 simp
theorem tabs {W:World} (h:laidMetH Tryz.prog laidL W):Wd W∧Pow W:=by
 have h':laidMet Tryz.prog laidL W:=h
 have h2:=laidMet.tail (laidMet.tail h')
 exact⟨words_of (laidMet.tail h2),pow_of h2⟩
def lay (cs:Array Value):Obj→Obj
 | .cells _ t frozen=>.cells cs t frozen
 | o=>o
def u8sI (l:List Int):Array Value:=(l.map (Value.int .u8)).toArray
def tab32:List Int:=[0,1,28,2,29,14,24,3,30,22,20,15,25,17,4,8,31,27,13,23,21,19,16,7,26,12,18,6,11,5,10,9]
def tab64:List Int:=[0,1,56,2,57,49,28,3,61,58,42,50,38,29,17,4,62,47,59,36,45,43,51,22,53,39,33,30,24,18,12,5,63,55,48,27,60,41,37,16,46,35,44,21,52,32,23,11,54,26,40,15,34,20,31,10,25,14,19,9,13,8,7,6]
noncomputable def laidWorld (os:Os):World:=
 { World.holding Tryz.prog os ⟨#[],#[],[]⟩ with heap:=((((World.holding Tryz.prog os ⟨#[],#[],[]⟩).heap.modify 1 (lay (txs wordsL).toArray)).modify 3 (lay (pow10Ints.map (Value.int .u64)).toArray)).modify 4 (lay (u8sI tab32))).modify 5 (lay (u8sI tab64)) }
end Pr
end Go.Proofs.YtmaoochjbpohdaaGreatDoor
