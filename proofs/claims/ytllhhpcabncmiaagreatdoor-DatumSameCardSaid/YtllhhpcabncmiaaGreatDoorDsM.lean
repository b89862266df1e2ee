/- parse: what the rows' list gives: the powers of ten, the table of words; a world for the witness. -/
import Derived.Test.YtllhhpcabncmiaaGreatDoorDsL
import Derived.Test.YtllhhpcabncmiaaGreatDoorCards
import Derived.Test.YtllhhpcabncmiaaGreatDoorTie
import Derived.WalkKit
import Derived.ProofKit
import Derived.OpenShut
import Derived.Deep.DeepHandedRow
import Derived.Lib.LaidTab
import Derived.Stop.LaidErr
import Derived.MakeChecks
import Derived.SizedLaws
import Derived.ShutString
import Derived.ChangeOld
import Derived.SliceStrings
import Derived.Deep.Slices
import Derived.ChangeSame
set_option linter.unusedVariables false
set_option linter.unusedSimpArgs false
set_option maxRecDepth 100000
set_option maxHeartbeats 1000000
open Go.ChangeShapes Go.WideShapes Go.ChangeAt Go.RowKit
namespace Go.Proofs.YtllhhpcabncmiaaGreatDoor
namespace Pr
open Base
theorem gWords:Tryz.prog.globalNamed "suffragan/parse.words" = some 0:=by kernel_rfl
def pow10Ints:List Int:=[1,10,100,1000,10000,100000,1000000,10000000,100000000,1000000000,10000000000,100000000000,1000000000000,10000000000000,100000000000000,1000000000000000,10000000000000000,100000000000000000,1000000000000000000,10000000000000000000]
abbrev laidL:List (String×DataW Unit):=[("math/bits.deBruijn32tab",Rows.laid_math_bits_deBruijn32tab),("math/bits.deBruijn64tab",Rows.laid_math_bits_deBruijn64tab),("internal/strconv.uint64pow10",Rows.laid_internal_strconv_uint64pow10),("suffragan/parse.words",Rows.laid_suffragan_parse_words)]
theorem pow_of {W:World} (h:laidMet Tryz.prog [("internal/strconv.uint64pow10",Rows.laid_internal_strconv_uint64pow10),("suffragan/parse.words",Rows.laid_suffragan_parse_words)] W):Pow W:=
 Lib.tabIs_of_head (rest:=[("suffragan/parse.words",Rows.laid_suffragan_parse_words)]) (t:=173) (e:=66) (n:=20) (zs:=Lib.pow10Tab) powG (by kernel_rfl) (by kernel_rfl) Tryz.underlying66 (by kernel_rfl) (by kernel_rfl) h
theorem cells_of_texts {H:Type} {enc:TypeId×Value→H} {P:Program} {w:World} {base:Nat} {sp:Nat→Bool} {held:Bool} {fuel:Nat} {t e:TypeId} {n:Nat} {cs:List Value} {ss:List (List UInt8)} {p:List MemPlace}
  (ht:P.underlying t=some (.array n e)) (he:P.underlying e=some .string) (hce:P.cellsOf e=1) (hct:P.cellsOf t=n)
  (h:DataW.trod enc P w base sp held fuel t cs=some (.agg (ss.map fun s=>.lit (.string s)),p)):cs=ss.map fun s=>Value.string ⟨s.toArray⟩:=by
 cases fuel with
 | zero=>simp[DataW.trod] at h
 | succ fuel=>
  simp only[DataW.trod,ht,hce,hct,Nat.mul_one] at h
  split at h
  ·rename_i hl
   obtain⟨xs,hm,hx⟩:=Option.map_eq_some_iff.1 h
   have hxs:xs.map (·.1)=ss.map fun s=>(DataW.lit (.string s):DataW H):=by
    have:=congrArg Prod.fst hx
    simpa using this
   have hxl:xs.length=n:=by simpa using Lib.mapM_length hm
   have hzl:ss.length=n:=by
    have:=congrArg List.length hxs
    simp at this
    omega
   apply List.ext_getElem?
   intro i
   by_cases hi:i<n
   ·obtain⟨b,hb,hf⟩:=Lib.mapM_at hm i i (by simp[hi])
    obtain⟨z,hc,rfl,_⟩:=DataW.trod_string he hf
    have h1:cs[i]?=some (.string z):=by
     have:=congrArg (·[0]?) hc
     simpa [List.getElem?_take,List.getElem?_drop] using this
    have h2:(xs.map (·.1))[i]?=some (DataW.lit (.string z.data.toList):DataW H):=by simp[hb]
    rw[hxs] at h2
    simp only[List.getElem?_map,Option.map_eq_some_iff,DataW.lit.injEq,Lit.string.injEq] at h2
    obtain⟨z',hz',rfl⟩:=h2
    simp[h1,hz']
   ·rw[List.getElem?_eq_none (by omega),List.getElem?_eq_none (by simp;omega)]
  ·cases h
def wordsD:List (List UInt8):=wordsL.map fun s=>s.data.toList
theorem words_of {W:World} (h:laidMet Tryz.prog [("suffragan/parse.words",Rows.laid_suffragan_parse_words)] W):Wd W:=by
 obtain⟨ps,⟨g',t',cs,fuel,p,q,hg',ht',hvar,hd,_,_⟩,_⟩:=h
 obtain rfl:=Option.some.inj (gWords.symm.trans hg')
 obtain rfl:139=t':=Option.some.inj ((show (Tryz.prog.globals[0]?).map (·.type)=some 139 by kernel_rfl).symm.trans ht')
 have hcs:=cells_of_texts (ss:=wordsD) (e:=9) (n:=12) (by kernel_rfl) Tryz.underlying9 (by kernel_rfl) (by kernel_rfl) hd
 intro _
 refine⟨0,0,rfl,fun j u hj=>?_⟩
 have:(wordsD.map fun s=>Value.string ⟨s.toArray⟩)=txs wordsL:=by kernel_rfl
 rw[this] at hcs
 rw[Nat.zero_add,World.var?_cell gWords hvar j,←hj,←hcs]
 simp
theorem tabs {W:World} (h:laidMetH Tryz.prog laidL W):Wd W∧Pow W:=by
 have h':laidMet Tryz.prog laidL W:=h
 have h2:=laidMet.tail (laidMet.tail h')
 exact⟨words_of (laidMet.tail h2),pow_of h2⟩
def lay (cs:Array Value):Obj→Obj
 | .cells _ t frozen=>.cells cs t frozen
 | o=>o
def u8sI (l:List Int):Array Value:=(l.map (Value.int .u8)).toArray
def tab32:List Int:=[0,1,28,2,29,14,24,3,30,22,20,15,25,17,4,8,31,27,13,23,21,19,16,7,26,12,18,6,11,5,10,9]
def tab64:List Int:=[0,1,56,2,57,49,28,3,61,58,42,50,38,29,17,4,62,47,59,36,45,43,51,22,53,39,33,30,24,18,12,5,63,55,48,27,60,41,37,16,46,35,44,21,52,32,23,11,54,26,40,15,34,20,31,10,25,14,19,9,13,8,7,6]
noncomputable def laidWorld (os:Os):World:=
 { World.holding Tryz.prog os ⟨#[],#[],[]⟩ with heap:=((((World.holding Tryz.prog os ⟨#[],#[],[]⟩).heap.modify 0 (lay (txs wordsL).toArray)).modify 2 (lay (pow10Ints.map (Value.int .u64)).toArray)).modify 3 (lay (u8sI tab32))).modify 4 (lay (u8sI tab64)) }
end Pr
namespace Args
open Go.ChangeMaps (open_string shut_string)
open Base
theorem bytes_arg {H:Type} {enc:TypeId×Value→H} {P:Program} {W:World} {base t e:Nat} (hu:P.underlying t=some (.slice e)) (he:P.underlying e=some (.int .u8)) (hc:P.cellsOf e=1)
  {v:Value} {d:DataW H} {p:List MemPlace} (hv:Value.okWide P W .any base t v) (h:DataW.Trod enc P W 0 (fun _=>true) true t v d p) :
  ∃A n c l,v=.slice A n c∧l.length=n∧Rb W A l∧n≤c∧c≤maxLen∧(A=none→c=0)∧((d=.nil∧n=0)∨∃el sp,d=.slice el sp∧el.length=n∧sp.length=c-n):=by
 obtain⟨A,n,c,rfl⟩:=okWide_slice hu hv
 obtain⟨fuel,hf⟩:=h
 rcases open_ints hu he hc hf with⟨hcs,hx⟩|⟨x,l,c',zs,hcs,_,hl,hm,hz,hx,hcell,hwz⟩
 ·simp[Value.cells] at hcs
  obtain⟨rfl,rfl,rfl⟩:=hcs
  exact⟨none,0,0,[],rfl,rfl,Rd.nil _ _,Nat.le_refl _,Nat.zero_le _,fun _=>rfl,.inl ⟨by simpa using congrArg Prod.fst hx,rfl⟩⟩
 ·simp[Value.cells] at hcs
  obtain⟨rfl,rfl,rfl⟩:=hcs
  simp at hz
  have hd:=congrArg Prod.fst hx
  simp only at hd
  have hb:∀z∈zs,0≤z∧z≤255:=fun z hz=>by simpa [Lit.wf,IntKind.min,IntKind.max,IntKind.signed,IntKind.bits] using hwz z hz
  refine⟨some x,n,c,(zs.take n).map fun z=>UInt8.ofNat z.toNat,rfl,by simp;omega,?_,hl,hm,(fun e=>by cases e),.inr ⟨_,_,hd,by simp[lits];omega,by simp[lits];omega⟩⟩
  intro hne
  have hpos:0<n:=by
   rcases Nat.eq_zero_or_pos n with h|h
   ·subst h;simp[u8s] at hne
   ·exact h
  obtain⟨b,off,rfl,hc'⟩:=ints_at hcell (by omega)
  refine⟨b,off,rfl,fun j u hj=>?_⟩
  have hjl:j<n:=by
   rcases Nat.lt_or_ge j n with h|h
   ·exact h
   ·rw[List.getElem?_eq_none (by simp[u8s];omega)] at hj;cases hj
  have h1:=hc' j (by omega)
  rw[h1]
  have h2:zs[j]?=some zs[j]:=List.getElem?_eq_getElem (by omega)
  have h3:=hb zs[j] (List.getElem_mem _)
  simp only[u8s,List.getElem?_map,List.getElem?_take,hjl,if_true,h2,Option.map_some,Option.some.injEq] at hj
  rw[←hj]
  simp only[List.getD,h2,Option.getD_some,UInt8.toNat_ofNat']
  congr 1
  congr 1
  omega
theorem bytes_reach {H:Type} {P:Program} {ts:List TypeId} {ds:List (DataW H)} (h:(DataW.weightsEach P ts ds).all (· ≤ reachBytes)=true) {j t e:Nat} {d:DataW H} {n c:Nat}
  (ht:ts[j]?=some t) (hd:ds[j]?=some d) (hu:P.underlying t=some (.slice e)) (hb:P.bytesOf e=1) (hw:(d=.nil∧n=0)∨∃el sp,d=.slice el sp∧el.length=n∧sp.length=c-n):n≤140737488351232:=by
 rcases hw with⟨_,rfl⟩|⟨el,sp,rfl,h1,h2⟩
 ·omega
 ·have:=sized_slice h ht hd hu
  rw[hb] at this
  simp only[reachBytes] at this
  omega
theorem string_reach {H:Type} {P:Program} {ts:List TypeId} {ds:List (DataW H)} (h:(DataW.weightsEach P ts ds).all (· ≤ reachBytes)=true) {j t:Nat} {s:ByteArray}
  (ht:ts[j]?=some t) (hd:ds[j]?=some (.lit (.string s.data.toList))):s.size≤140737488351232:=by
 have:=sized_string h ht hd
 simp only[reachBytes] at this
 have e:s.data.toList.length=s.size:=Array.length_toList
 omega
theorem bulk_le {H:Type} {l:List (DataW H)} (hk:Rows.uptoSmall H l=true):Rows.uptoBulkAll l≤1048576:=of_decide_eq_true hk
theorem bulk_one {H:Type} (d:DataW H):1≤Rows.uptoBulk d:=by
 cases d with
 | lit l=>cases l<;>simp[Rows.uptoBulk]
 | nil=>simp[Rows.uptoBulk]
 | ptr d=>simp[Rows.uptoBulk]
 | slice elems spare=>simp[Rows.uptoBulk]
 | agg parts=>simp[Rows.uptoBulk]
 | iface t d=>simp[Rows.uptoBulk]
 | map entries=>simp[Rows.uptoBulk]
 | held h=>simp[Rows.uptoBulk]
theorem bulk_at {H:Type} {l:List (DataW H)} {b:Nat} (h:Rows.uptoBulkAll l≤b) {j:Nat} {d:DataW H} (hd:l[j]?=some d):Rows.uptoBulk d≤b:=by
 induction l generalizing j b with
 | nil=>simp at hd
 | cons x r ih=>
  simp only[Rows.uptoBulkAll] at h
  cases j with
  | zero=>simp only[List.getElem?_cons_zero,Option.some.injEq] at hd;subst hd;omega
  | succ j=>simp only[List.getElem?_cons_succ] at hd;have:=ih (b:=b-Rows.uptoBulk x) (by omega) hd;omega
theorem bulk_length {H:Type} (l:List (DataW H)):l.length≤Rows.uptoBulkAll l:=by
 induction l with
 | nil=>simp[Rows.uptoBulkAll]
 | cons x r ih=>have:=bulk_one x;simp only[Rows.uptoBulkAll,List.length_cons];omega
theorem bytes_bulk {H:Type} {ds:List (DataW H)} {b:Nat} (h:Rows.uptoBulkAll ds≤b) {j:Nat} {d:DataW H} {n c:Nat} (hd:ds[j]?=some d)
  (hw:(d=.nil∧n=0)∨∃el sp,d=.slice el sp∧el.length=n∧sp.length=c-n):n≤b:=by
 have h1:=bulk_at h hd
 rcases hw with⟨_,rfl⟩|⟨el,sp,rfl,h2,h3⟩
 ·omega
 ·have:=bulk_length el
  simp only[Rows.uptoBulk] at h1
  omega
theorem string_bulk {H:Type} {ds:List (DataW H)} {b:Nat} (h:Rows.uptoBulkAll ds≤b) {j:Nat} {s:ByteArray} (hd:ds[j]?=some (.lit (.string s.data.toList))):s.size≤b:=by
 have h1:=bulk_at h hd
 simp only[Rows.uptoBulk] at h1
 have e:s.data.toList.length=s.size:=Array.length_toList
 omega
theorem plain_addr {w:World} {a:Addr} {v:Value} (h:w.cell? a=some v):a=⟨a.block,a.off,none⟩:=by
 unfold World.cell? at h
 cases hs:a.spot with
 | none=>cases a;simp at hs;subst hs;rfl
 | some k=>simp[hs] at h;split at h<;>simp at h
theorem Addr.add_zero' (a:Addr):a.add 0=a:=by simp[Addr.add]
theorem strs_arg {H:Type} {enc:TypeId×Value→H} {P:Program} {W:World} {base t e:Nat} (hu:P.underlying t=some (.slice e)) (he:P.underlying e=some .string) (hc:P.cellsOf e=1)
  {v:Value} {d:DataW H} {p:List MemPlace} (hv:Value.okWide P W .any base t v) (h:DataW.Trod enc P W 0 (fun _=>true) true t v d p) :
  ∃A n c l,v=.slice A n c∧l.length=n∧Rd W A (txs l)∧n≤c∧c≤maxLen∧(A=none→c=0)∧(∀s∈l,s.size≤maxLen)∧((d=.nil∧n=0)∨∃sp,d=.slice (l.map fun s=>.lit (.string s.data.toList)) sp∧sp.length=c-n):=by
 obtain⟨A,n,c,rfl⟩:=okWide_slice hu hv
 obtain⟨fuel,hf⟩:=h
 rcases open_strings hu he hc hf with⟨hcs,hx⟩|⟨x,l,c',ss,hcs,_,hl,hm,hz,hx,hcell,hws⟩
 ·simp[Value.cells] at hcs
  obtain⟨rfl,rfl,rfl⟩:=hcs
  exact⟨none,0,0,[],rfl,rfl,Rd.nil _ _,Nat.le_refl _,Nat.zero_le _,fun _=>rfl,by simp,.inl ⟨by simpa using congrArg Prod.fst hx,rfl⟩⟩
 ·simp[Value.cells] at hcs
  obtain⟨rfl,rfl,rfl⟩:=hcs
  simp at hz
  have hd:=congrArg Prod.fst hx
  simp only at hd
  refine⟨some x,n,c,ss.take n,rfl,by simp;omega,?_,hl,hm,(fun e=>by cases e),(fun s hs=>hws s (List.mem_of_mem_take hs)),.inr ⟨_,by rw[hd];rfl,by rw[←hz];simp[ChangeShapes.strs]⟩⟩
  intro hne
  have hpos:0<ss.length:=by
   rcases Nat.eq_zero_or_pos ss.length with h|h
   ·have:ss=[]:=List.eq_nil_of_length_eq_zero h
    subst this;simp[txs] at hne
   ·exact h
  obtain⟨b,o,sp⟩:=x
  have hx0:=plain_addr (hcell 0 hpos)
  rw[Addr.add_zero'] at hx0
  simp only[Addr.mk.injEq,true_and] at hx0
  subst hx0
  refine⟨b,o,rfl,fun j u hj=>?_⟩
  have hjl:j<n∧j<ss.length:=by
   have:=(List.getElem?_eq_some_iff.1 hj).1
   simp[txs] at this
   omega
  have h1:=hcell j hjl.2
  have h2:(⟨b,o,none⟩:Addr).add j=⟨b,o+j,none⟩:=by
   unfold Addr.add;split<;>simp_all
  rw[←h2,h1]
  simp only[txs,List.getElem?_map,List.getElem?_take,hjl.1,if_true,List.getElem?_eq_getElem hjl.2,Option.map_some,Option.some.injEq] at hj
  rw[←hj]
  simp[List.getD,List.getElem?_eq_getElem hjl.2]
theorem arr2_arg {H:Type} {enc:TypeId×Value→H} {P:Program} {W:World} {base t e:Nat} (hu:P.underlying t=some (.array 2 e)) (he:P.underlying e=some (.int .u32)) (hc:P.cellsOf e=1) (hc2:P.cellsOf t=2)
  {v:Value} {d:DataW H} {p:List MemPlace} (hv:Value.okWide P W .any base t v) (h:DataW.Trod enc P W 0 (fun _=>true) true t v d p) :
  ∃x y,v=.agg #[.int .u32 x,.int .u32 y]∧(0≤x∧x≤4294967295)∧(0≤y∧y≤4294967295):=by
 obtain⟨cs,rfl,hsz,_⟩:∃cs,v=.agg cs∧cs.size=P.cellsOf t∧True:=by
  unfold Value.okWide at hv
  rw[hu] at hv
  obtain⟨cs,h1,h2,_⟩:=hv
  exact⟨cs,h1,h2,trivial⟩
 obtain⟨c0,c1,rfl⟩:∃c0 c1,cs = #[c0,c1]:=by
  rw[hc2] at hsz
  match cs,hsz with
  | ⟨[a,b]⟩,_=>exact⟨a,b,rfl⟩
 obtain⟨fuel,hf⟩:=h
 obtain⟨xs,m,_,_,_,hxl,hx⟩:=DataW.trod_array hu hf
 have h0:=hx 0 (by omega)
 have h1:=hx 1 (by omega)
 rw[hc] at h0 h1
 simp only[Value.cells,Nat.zero_mul,Nat.one_mul,List.drop_zero,List.drop_succ_cons,List.take_succ_cons,List.take_zero] at h0 h1
 match xs,hxl with
 | [y0,y1],_=>
  obtain⟨a,e0,_,wa⟩:=DataW.trod_int he h0
  obtain⟨b,e1,_,wb⟩:=DataW.trod_int he h1
  simp only[List.cons.injEq,and_true] at e0 e1
  subst e0 e1
  exact⟨a,b,rfl,by simpa [Lit.wf,IntKind.min,IntKind.max,IntKind.signed,IntKind.bits] using wa,by simpa [Lit.wf,IntKind.min,IntKind.max,IntKind.signed,IntKind.bits] using wb⟩
end Args
namespace Args
open Base Pr
structure Rdr {H α:Type} (enc:TypeId×Value→H) (P:Program) (W:World) (e:TypeId) (cells:α→List Value) (G:α→DataW H→Prop):Prop where
 rd:∀fuel cs D pl,DataW.trod enc P W 0 (fun _=>true) true fuel e cs=some (D,pl)→∃x,cs=cells x∧G x D
def Bk {H α:Type} (G:α→DataW H→Prop) (l:List α) (D:DataW H):Prop:=(D=.nil∧l=[])∨∃ds sp,D=.slice ds sp∧ds.length=l.length∧∀(i:Nat) x d,l[i]?=some x→ds[i]?=some d→G x d
theorem Bk.mono {H α:Type} {G G':α→DataW H→Prop} {l:List α} {D:DataW H} (h:Bk G l D) (hg:∀x d,G x d→G' x d):Bk G' l D:=by
 rcases h with h|⟨ds,sp,h1,h2,h3⟩
 ·exact .inl h
 ·exact .inr ⟨ds,sp,h1,h2,fun i x d a b=>hg _ _ (h3 i x d a b)⟩
theorem Bk.all {H α:Type} {G:α→DataW H→Prop} {l:List α} {D:DataW H} (h:Bk G l D):∀(i:Nat) x,l[i]?=some x→∃d,G x d:=by
 intro i x hx
 rcases h with⟨_,rfl⟩|⟨ds,sp,h1,h2,h3⟩
 ·simp at hx
 ·have hi:i<ds.length:=by rw[h2];exact (List.getElem?_eq_some_iff.1 hx).1
  exact⟨ds[i],h3 i x _ hx (List.getElem?_eq_getElem hi)⟩
theorem bulkAll_ge {H α:Type} {G:α→DataW H→Prop} {g:α→Nat} (hg:∀x d,G x d→g x≤Rows.uptoBulk d):∀(l:List α) (ds:List (DataW H)),ds.length=l.length→(∀(i:Nat) x d,l[i]?=some x→ds[i]?=some d→G x d)→(l.map g).sum≤Rows.uptoBulkAll ds
 | [],ds,_,_=>by simp
 | x::l,[],h,_=>by simp at h
 | x::l,d::ds,h,k=>by
  have h1:=hg x d (k 0 x d rfl rfl)
  have h2:=bulkAll_ge hg l ds (by simpa using h) (fun i y e a b=>k (i+1) y e (by simpa using a) (by simpa using b))
  simp only[List.map_cons,List.sum_cons,Rows.uptoBulkAll]
  omega
theorem Bk.bulk {H α:Type} {G:α→DataW H→Prop} {g:α→Nat} (hg:∀x d,G x d→g x≤Rows.uptoBulk d) {l:List α} {D:DataW H} (h:Bk G l D):(l.map g).sum+1≤Rows.uptoBulk D:=by
 rcases h with⟨rfl,rfl⟩|⟨ds,sp,rfl,h2,h3⟩
 ·simp[Rows.uptoBulk]
 ·have:=bulkAll_ge hg l ds h2 h3
  simp only[Rows.uptoBulk]
  omega
theorem flatMap_at {α:Type} {cells:α→List Value} {s:Nat} (hs:∀x,(cells x).length=s):∀(l:List α) (j:Nat) (x:α),l[j]?=some x→∀i,i<s→(l.flatMap cells)[j*s+i]?=(cells x)[i]?
 | [],j,x,h,i,hi=>by simp at h
 | y::l,0,x,h,i,hi=>by
  simp at h;subst h
  rw[List.flatMap_cons,List.getElem?_append_left (by rw[hs];omega)]
  congr 1;omega
 | y::l,j+1,x,h,i,hi=>by
  have ih:=flatMap_at hs l j x (by simpa using h) i hi
  have e:(j+1)*s=j*s+s:=Nat.succ_mul j s
  rw[List.flatMap_cons,List.getElem?_append_right (by rw[hs];omega),←ih]
  congr 1
  rw[hs];omega
theorem flatMap_len {α:Type} {cells:α→List Value} {s:Nat} (hs:∀x,(cells x).length=s) (l:List α):(l.flatMap cells).length=l.length*s:=by
 induction l with
 | nil=>simp
 | cons x l ih=>rw[List.flatMap_cons,List.length_append,hs,ih,List.length_cons,Nat.succ_mul];omega
theorem Rdr.slice {H α:Type} [Inhabited α] {enc:TypeId×Value→H} {P:Program} {W:World} {t e:TypeId} {cells:α→List Value} {G:α→DataW H→Prop} (h:Rdr enc P W e cells G) (hu:P.underlying t=some (.slice e)) {s:Nat} (hce:P.cellsOf e=s) (hs:∀x,(cells x).length=s) (hp:0<s) :
  Rdr enc P W t (fun x:Value×List α=>[x.1]) (fun x D=>Sl W.heap.size W x.1 x.2.length (x.2.flatMap cells)∧Bk G x.2 D):=by
 refine⟨fun fuel cs D pl hf=>?_⟩
 rcases Deep.open_slice hu hf with⟨rfl,hx⟩|⟨a,n,c,m,k,Ds,Pl,rfl,_,hl,hm,hmm,hx,hel⟩
 ·injection hx with hx _
  exact⟨(.slice none 0 0,[]),rfl,⟨none,0,rfl,Rd.nil _ _,fun h=>absurd rfl h,Nat.le_refl _,Nat.zero_le _,fun _=>rfl⟩,.inl ⟨hx,rfl⟩⟩
 ·have hmm:m=c:=by simpa using hmm
  subst hmm
  injection hx with hx _
  have hcell:∀j,j<n→∃x:α,(∀i,i<s→W.cell? (a.add (j*s+i))=(cells x)[i]?)∧G x (Ds j):=by
   intro j hj
   obtain⟨cs',g1,g2⟩:=hel j (by omega)
   rw[hce] at g1
   obtain⟨_,hlen,hc⟩:=World.cells?_some g1
   obtain⟨x,rfl,hg⟩:=h.rd _ _ _ _ g2
   refine⟨x,fun i hi=>?_,hg⟩
   have h4:=hc i hi
   rwa [Deep.add_add] at h4
  obtain⟨f,hfz⟩:=Deep.choose_lt hcell
  have hrd:Rd W (some a) (((List.range n).map f).flatMap cells):=by
   intro hne
   have hpos:0<n:=by
    rcases Nat.eq_zero_or_pos n with h|h
    ·rw[h] at hne;simp at hne
    ·exact h
   obtain⟨b,off,spot⟩:=a
   have hspot:spot=none:=by
    have h9:=(hfz 0 hpos).1 0 hp
    rw[List.getElem?_eq_getElem (by rw[hs];exact hp)] at h9
    simpa [Addr.add] using World.cell?_spot h9
   subst hspot
   refine⟨b,off,rfl,fun j u hj=>?_⟩
   have hjl:j<n*s:=by
    have:=(List.getElem?_eq_some_iff.1 hj).1
    rw[flatMap_len hs] at this
    simpa using this
   have hd:j / s<n:=by rw[Nat.div_lt_iff_lt_mul hp];exact hjl
   have hr:j%s<s:=Nat.mod_lt _ hp
   have hje:j / s*s+j%s=j:=by rw[Nat.mul_comm];exact Nat.div_add_mod j s
   have h5:=(hfz (j / s) hd).1 (j%s) hr
   rw[hje] at h5
   rw[←Go.WideShapes.add_plain,h5]
   have h6:=flatMap_at hs ((List.range n).map f) (j / s) (f (j / s)) (by simp[hd]) (j%s) hr
   rw[hje] at h6
   rw[←h6]
   exact hj
  refine⟨(.slice (some a) n m,(List.range n).map f),rfl,⟨some a,m,by simp,hrd,fun hne a' ha=>?_,by simpa using hl,hm,fun e=>by cases e⟩,.inr ⟨_,_,hx,by simp,fun i x d h1 h2=>?_⟩⟩
  ·injection ha with ha
   subst ha
   obtain⟨b,off,e1,h7⟩:=hrd hne
   injection e1 with e1
   subst e1
   have h8:0<(((List.range n).map f).flatMap cells).length:=List.length_pos_iff.2 hne
   have h9:=h7 0 _ (List.getElem?_eq_getElem h8)
   exact World.block_lt_of_cell? W _ h9
  ·have hi:i<n:=by have:=(List.getElem?_eq_some_iff.1 h1).1;simpa using this
   simp only[List.getElem?_map,List.getElem?_range hi,Option.map_some,Option.some.injEq] at h1 h2
   subst h1;subst h2
   exact (hfz i hi).2
theorem rdr_int {H:Type} {enc:TypeId×Value→H} {P:Program} {W:World} {t:TypeId} {k:IntKind} (hu:P.underlying t=some (.int k)):Rdr enc P W t (fun n:Int=>[.int k n]) (fun n D=>D=.lit (.int k n)∧(Lit.int k n).wf=true):=
 ⟨fun fuel cs D pl hf=>by
  obtain⟨z,e0,e1,w0⟩:=DataW.trod_int hu hf
  injection e1 with e1 _
  exact⟨z,e0,e1,w0⟩⟩
theorem rdr_string {H:Type} {enc:TypeId×Value→H} {P:Program} {W:World} {t:TypeId} (hu:P.underlying t=some .string):Rdr enc P W t (fun s:ByteArray=>[.string s]) (fun s D=>D=.lit (.string s.data.toList)∧s.size≤maxLen):=
 ⟨fun fuel cs D pl hf=>by
  obtain⟨z,e0,e1,w0⟩:=DataW.trod_string hu hf
  injection e1 with e1 _
  exact⟨z,e0,e1,w0⟩⟩
theorem rdr_bool {H:Type} {enc:TypeId×Value→H} {P:Program} {W:World} {t:TypeId} (hu:P.underlying t=some .bool):Rdr enc P W t (fun b:Bool=>[.bool b]) (fun b D=>D=.lit (.bool b)):=
 ⟨fun fuel cs D pl hf=>by
  obtain⟨z,e0,e1⟩:=DataW.trod_bool hu hf
  injection e1 with e1 _
  exact⟨z,e0,e1⟩⟩
def fldB (f:ByteArray×Bool×Int):Nat:=f.1.size+4
def nodeB (d:Ne):Nat:=d.name.size+(d.syms.map fun s=>s.size+1).sum+d.items.length+(d.fields.map fldB).sum+7
theorem sum_one {α:Type} (l:List α):(l.map fun _=>1).sum=l.length:=by
 induction l with
 | nil=>rfl
 | cons x l ih=>simp[ih];omega
theorem flat_one {α:Type} (l:List α) (f:α→Value):(l.flatMap fun x=>[f x])=l.map f:=by
 induction l with
 | nil=>rfl
 | cons x l ih=>rw[List.flatMap_cons,ih];rfl
instance:Inhabited (Ne×V3):=⟨(neD,v0)⟩
theorem cells_fld:Tryz.prog.cellsOf 69=3:=by kernel_rfl
theorem cells_node:Tryz.prog.cellsOf 47=6:=by kernel_rfl
theorem cells_sch:Tryz.prog.cellsOf 24=1:=by kernel_rfl
theorem rdr_fld {H:Type} {enc:TypeId×Value→H} {W:World}:Rdr enc Tryz.prog W 69 fldZ (fun f D=>fldB f≤Rows.uptoBulk D):=by
 refine⟨fun fuel cs D pl hf=>?_⟩
 obtain⟨xs,m,_,hx,hl,hlen,hfs⟩:=DataW.trod_struct Tryz.underlying69 hf
 injection hx with hD _
 match xs,hlen with
 | [y0,y1,y2],_=>
  have g0:=hfs 0 _ rfl
  have g1:=hfs 1 _ rfl
  have g2:=hfs 2 _ rfl
  have hl3:cs.length=3:=hl.trans cells_fld
  match cs,hl3 with
  | [c0,c1,c2],_=>
   have g0:DataW.trod enc Tryz.prog W 0 (fun _=>true) true m 9 [c0]=some y0:=g0
   have g1:DataW.trod enc Tryz.prog W 0 (fun _=>true) true m 4 [c1]=some y1:=g1
   have g2:DataW.trod enc Tryz.prog W 0 (fun _=>true) true m 3 [c2]=some y2:=g2
   obtain⟨z0,e0,f0,_⟩:=(rdr_string Tryz.underlying9).rd _ _ _ _ g0
   obtain⟨z1,e1,f1⟩:=(rdr_bool Tryz.underlying4).rd _ _ _ _ g1
   obtain⟨z2,e2,f2,_⟩:=(rdr_int Tryz.underlying3).rd _ _ _ _ g2
   injection e0 with e0 _
   injection e1 with e1 _
   injection e2 with e2 _
   subst e0;subst e1;subst e2
   refine⟨(z0,z1,z2),rfl,?_⟩
   rw[hD]
   simp only[List.map_cons,List.map_nil,f0,f1,f2,Rows.uptoBulk,Rows.uptoBulkAll]
   have:z0.data.toList.length=z0.size:=Array.length_toList
   show z0.size+4≤_
   omega
theorem rdr_node {H:Type} {enc:TypeId×Value→H} {W:World}:Rdr enc Tryz.prog W 47 (fun x:Ne×V3=>neC x.1 x.2) (fun x D=>SubE W.heap.size W x.1 x.2∧nodeB x.1≤Rows.uptoBulk D):=by
 refine⟨fun fuel cs D pl hf=>?_⟩
 obtain⟨xs,m,_,hx,hl,hlen,hfs⟩:=DataW.trod_struct Tryz.underlying47 hf
 injection hx with hD _
 match xs,hlen with
 | [y0,y1,y2,y3,y4,y5],_=>
  have g0:=hfs 0 _ rfl
  have g1:=hfs 1 _ rfl
  have g2:=hfs 2 _ rfl
  have g3:=hfs 3 _ rfl
  have g4:=hfs 4 _ rfl
  have g5:=hfs 5 _ rfl
  have hl6:cs.length=6:=hl.trans cells_node
  match cs,hl6 with
  | [c0,c1,c2,c3,c4,c5],_=>
   have g0:DataW.trod enc Tryz.prog W 0 (fun _=>true) true m 3 [c0]=some y0:=g0
   have g1:DataW.trod enc Tryz.prog W 0 (fun _=>true) true m 9 [c1]=some y1:=g1
   have g2:DataW.trod enc Tryz.prog W 0 (fun _=>true) true m 3 [c2]=some y2:=g2
   have g3:DataW.trod enc Tryz.prog W 0 (fun _=>true) true m 25 [c3]=some y3:=g3
   have g4:DataW.trod enc Tryz.prog W 0 (fun _=>true) true m 44 [c4]=some y4:=g4
   have g5:DataW.trod enc Tryz.prog W 0 (fun _=>true) true m 45 [c5]=some y5:=g5
   obtain⟨z0,e0,f0,_⟩:=(rdr_int Tryz.underlying3).rd _ _ _ _ g0
   obtain⟨z1,e1,f1,_⟩:=(rdr_string Tryz.underlying9).rd _ _ _ _ g1
   obtain⟨z2,e2,f2,w2⟩:=(rdr_int Tryz.underlying3).rd _ _ _ _ g2
   obtain⟨⟨v3,l3⟩,e3,s3,f3⟩:=((rdr_string Tryz.underlying9).slice (t:=25) (by kernel_rfl) (s:=1) (by kernel_rfl) (fun _=>rfl) (by omega)).rd _ _ _ _ g3
   obtain⟨⟨v4,l4⟩,e4,s4,f4⟩:=((rdr_int Tryz.underlying3).slice (t:=44) (by kernel_rfl) (s:=1) (by kernel_rfl) (fun _=>rfl) (by omega)).rd _ _ _ _ g4
   obtain⟨⟨v5,l5⟩,e5,s5,f5⟩:=(rdr_fld.slice (t:=45) (by kernel_rfl) (s:=3) (by kernel_rfl) (fun _=>rfl) (by omega)).rd _ _ _ _ g5
   injection e0 with e0 _
   injection e1 with e1 _
   injection e2 with e2 _
   injection e3 with e3 _
   injection e4 with e4 _
   injection e5 with e5 _
   subst e0;subst e1;subst e2;subst e3;subst e4;subst e5
   have w2' : -9223372036854775808≤z2∧z2≤9223372036854775807:=by simpa [Lit.wf,IntKind.min,IntKind.max,IntKind.signed,IntKind.bits] using w2
   have q3:=flat_one l3 Value.string
   have q4:=flat_one l4 (Value.int .i64)
   simp only at s3 s4 s5 f3 f4 f5
   rw[q3] at s3
   rw[q4] at s4
   replace s3:Sl W.heap.size W c3 l3.length (txs l3):=s3
   replace s4:Sl W.heap.size W c4 l4.length (intsZ l4):=s4
   refine⟨(⟨z0,z1,z2,l3,l4,l5⟩,(c3,c4,c5)),rfl,⟨s3,s4,s5,w2'⟩,?_⟩
   have b3:=f3.bulk (g:=fun s:ByteArray=>s.size+1) (fun x d h=>by rw[h.1];simp only[Rows.uptoBulk];have:x.data.toList.length=x.size:=Array.length_toList;omega)
   have b4:=f4.bulk (g:=fun _:Int=>1) (fun x d h=>by rw[h.1];simp[Rows.uptoBulk])
   have b5:=f5.bulk (g:=fldB) (fun x d h=>h)
   rw[sum_one] at b4
   rw[hD]
   simp only[List.map_cons,List.map_nil,f0,f1,f2,Rows.uptoBulk,Rows.uptoBulkAll]
   show z1.size+(l3.map fun s=>s.size+1).sum+l4.length+(l5.map fldB).sum+7≤_
   have:z1.data.toList.length=z1.size:=Array.length_toList
   omega
theorem nesC_zip:∀(l:List (Ne×V3)),l.flatMap (fun x=>neC x.1 x.2)=nesC (l.map (·.1)) (l.map (·.2))
 | []=>rfl
 | x::l=>by rw[List.flatMap_cons,nesC_zip l];rfl
def schB (ns:List Ne):Nat:=(ns.map nodeB).sum
theorem sch_arg {H:Type} {enc:TypeId×Value→H} {W:World} {base:Nat} {v:Value} {d:DataW H} {p:List MemPlace} (hv:Value.okWide Tryz.prog W .any base 24 v) (h:DataW.Trod enc Tryz.prog W 0 (fun _=>true) true 24 v d p) :
  ∃u ns,v=.agg #[u]∧Sch W.heap.size W u ns∧schB ns≤Rows.uptoBulk d:=by
 obtain⟨cs,rfl,hsz⟩:∃cs,v=.agg cs∧cs.size=1:=by
  unfold Value.okWide at hv
  rw[Tryz.underlying24] at hv
  obtain⟨cs,h1,h2,_⟩:=hv
  exact⟨cs,h1,h2.trans cells_sch⟩
 obtain⟨u,rfl⟩:∃u,cs = #[u]:=by
  match cs,hsz with
  | ⟨[a]⟩,_=>exact⟨a,rfl⟩
 obtain⟨fuel,hf⟩:=h
 obtain⟨y0,m,hx,_,g⟩:=trod_struct1 Tryz.underlying24 hf
 injection hx with hD _
 have g:DataW.trod enc Tryz.prog W 0 (fun _=>true) true m 22 [u]=some y0:=g
 obtain⟨⟨v3,l3⟩,e3,s3,f3⟩:=(rdr_node.slice (t:=22) (by kernel_rfl) (s:=6) (by kernel_rfl) (fun _=>rfl) (by omega)).rd _ _ _ _ g
 injection e3 with e3 _
 subst e3
 simp only at s3 f3
 rw[nesC_zip] at s3
 refine⟨u,l3.map (·.1),rfl,⟨l3.map (·.2),by simp,by rw[List.length_map];exact s3,fun i d v h1 h2=>?_⟩,?_⟩
 ·rw[List.getElem?_map] at h1 h2
  cases hx:l3[i]? with
  | none=>rw[hx] at h1;cases h1
  | some x=>
   rw[hx] at h1 h2
   injection h1 with h1
   injection h2 with h2
   subst h1;subst h2
   obtain⟨d,hd⟩:=f3.all i x hx
   exact hd.1
 ·have:=f3.bulk (g:=fun x=>nodeB x.1) (fun x d h=>h.2)
  rw[hD]
  simp only[Rows.uptoBulk,Rows.uptoBulkAll,schB,List.map_map,Function.comp_def]
  omega
end Args
namespace Args
open Base Pr Dm
theorem bulk_in {H:Type}:∀ {ds:List (DataW H)} {d:DataW H},d∈ds→Rows.uptoBulk d≤Rows.uptoBulkAll ds
 | [],d,h=>by cases h
 | y::ds,d,h=>by
  simp only[Rows.uptoBulkAll]
  rcases List.mem_cons.1 h with rfl|h
  ·omega
  ·have:=bulk_in h;omega
theorem weigh_in {H:Type} {P:Program} {e:TypeId} {k:Nat}:∀ {ds:List (DataW H)} {d:DataW H},d∈ds→k∈d.weights P e→k∈DataW.weightsAll P e ds
 | [],d,h,_=>by cases h
 | y::ds,d,h,hk=>by
  simp only[DataW.weightsAll,List.mem_append]
  rcases List.mem_cons.1 h with rfl|h
  ·exact .inl hk
  ·exact .inr (weigh_in h hk)
theorem slice_lt {H α:Type} [Inhabited α] {enc:TypeId×Value→H} {P:Program} {W:World} {t e:TypeId} {cells:α→List Value} {G:α→DataW H→Prop} {N:Nat}
  (h:∀fuel cs D pl,Rows.uptoBulk D<N→DataW.trod enc P W 0 (fun _=>true) true fuel e cs=some (D,pl)→∃x,cs=cells x∧G x D)
  (hu:P.underlying t=some (.slice e)) {s:Nat} (hce:P.cellsOf e=s) (hs:∀x,(cells x).length=s) (hp:0<s) (fuel:Nat) (cs:List Value) (D:DataW H) (pl:List MemPlace) (hN:Rows.uptoBulk D≤N)
  (hf:DataW.trod enc P W 0 (fun _=>true) true fuel t cs=some (D,pl)) :
  ∃x:Value×List α,cs=[x.1]∧Sl W.heap.size W x.1 x.2.length (x.2.flatMap cells)∧Bk G x.2 D:=by
 rcases Deep.open_slice hu hf with⟨rfl,hx⟩|⟨a,n,c,m,k,Ds,Pl,rfl,_,hl,hm,hmm,hx,hel⟩
 ·injection hx with hx _
  exact⟨(.slice none 0 0,[]),rfl,⟨none,0,rfl,Rd.nil _ _,fun h=>absurd rfl h,Nat.le_refl _,Nat.zero_le _,fun _=>rfl⟩,.inl ⟨hx,rfl⟩⟩
 ·have hmm:m=c:=by simpa using hmm
  subst hmm
  injection hx with hx _
  have hcell:∀j,j<n→∃x:α,(∀i,i<s→W.cell? (a.add (j*s+i))=(cells x)[i]?)∧G x (Ds j):=by
   intro j hj
   obtain⟨cs',g1,g2⟩:=hel j (by omega)
   rw[hce] at g1
   obtain⟨_,hlen,hc⟩:=World.cells?_some g1
   have hlt:Rows.uptoBulk (Ds j)<N:=by
    have:=bulk_in (d:=Ds j) (ds:=(List.range n).map Ds) (List.mem_map.2 ⟨j,List.mem_range.2 hj,rfl⟩)
    rw[hx] at hN
    simp only[Rows.uptoBulk] at hN
    omega
   obtain⟨x,rfl,hg⟩:=h _ _ _ _ hlt g2
   refine⟨x,fun i hi=>?_,hg⟩
   have h4:=hc i hi
   rwa [Deep.add_add] at h4
  obtain⟨f,hfz⟩:=Deep.choose_lt hcell
  have hrd:Rd W (some a) (((List.range n).map f).flatMap cells):=by
   intro hne
   have hpos:0<n:=by
    rcases Nat.eq_zero_or_pos n with h|h
    ·rw[h] at hne;simp at hne
    ·exact h
   obtain⟨b,off,spot⟩:=a
   have hspot:spot=none:=by
    have h9:=(hfz 0 hpos).1 0 hp
    rw[List.getElem?_eq_getElem (by rw[hs];exact hp)] at h9
    simpa [Addr.add] using World.cell?_spot h9
   subst hspot
   refine⟨b,off,rfl,fun j u hj=>?_⟩
   have hjl:j<n*s:=by
    have:=(List.getElem?_eq_some_iff.1 hj).1
    rw[flatMap_len hs] at this
    simpa using this
   have hd:j / s<n:=by rw[Nat.div_lt_iff_lt_mul hp];exact hjl
   have hr:j%s<s:=Nat.mod_lt _ hp
   have hje:j / s*s+j%s=j:=by rw[Nat.mul_comm];exact Nat.div_add_mod j s
   have h5:=(hfz (j / s) hd).1 (j%s) hr
   rw[hje] at h5
   rw[←Go.WideShapes.add_plain,h5]
   have h6:=flatMap_at hs ((List.range n).map f) (j / s) (f (j / s)) (by simp[hd]) (j%s) hr
   rw[hje] at h6
   rw[←h6]
   exact hj
  refine⟨(.slice (some a) n m,(List.range n).map f),rfl,⟨some a,m,by simp,hrd,fun hne a' ha=>?_,by simpa using hl,hm,fun e=>by cases e⟩,.inr ⟨_,_,hx,by simp,fun i x d h1 h2=>?_⟩⟩
  ·injection ha with ha
   subst ha
   obtain⟨b,off,e1,h7⟩:=hrd hne
   injection e1 with e1
   subst e1
   have h8:0<(((List.range n).map f).flatMap cells).length:=List.length_pos_iff.2 hne
   have h9:=h7 0 _ (List.getElem?_eq_getElem h8)
   exact World.block_lt_of_cell? W _ h9
  ·have hi:i<n:=by have:=(List.getElem?_eq_some_iff.1 h1).1;simpa using this
   simp only[List.getElem?_map,List.getElem?_range hi,Option.map_some,Option.some.injEq] at h1 h2
   subst h1;subst h2
   exact (hfz i hi).2
instance:Inhabited (Da×V2):=⟨(.mk 0 ByteArray.empty [] [],(.slice none 0 0,.slice none 0 0))⟩
theorem cells_dat:Tryz.prog.cellsOf 28=4:=by kernel_rfl
theorem dsC_zip:∀(l:List (Da×V2)),l.flatMap (fun x=>dC x.1 x.2)=dsC (l.map (·.1)) (l.map (·.2))
 | []=>rfl
 | x::l=>by rw[List.flatMap_cons,dsC_zip l];rfl
theorem kLL_of {M:Nat}:∀ {l:List Da},(∀x∈l,x.KL M)→kLL M l
 | [],_=>by rw[kLL];trivial
 | x::l,h=>by rw[kLL];exact⟨h x (by simp),kLL_of fun y hy=>h y (by simp[hy])⟩
theorem rdr_dat {H:Type} {enc:TypeId×Value→H} {W:World}:∀N fuel cs D pl,Rows.uptoBulk D<N→DataW.trod enc Tryz.prog W 0 (fun _=>true) true fuel 28 cs=some (D,pl)→
  ∃x:Da×V2,cs=dC x.1 x.2∧DaR 0 W.heap.size W x.1 x.2∧∀M,(∀k∈D.weights Tryz.prog 28,k≤M*16)→x.1.KL M:=by
 intro N
 induction N with
 | zero=>intro fuel cs D pl h;omega
 | succ N ih=>
  intro fuel cs D pl hN hf
  obtain⟨xs,m,_,hx,hl,hlen,hfs⟩:=DataW.trod_struct Tryz.underlying28 hf
  injection hx with hD _
  match xs,hlen with
  | [y0,y1,y2,y3],_=>
   have g0:=hfs 0 _ rfl
   have g1:=hfs 1 _ rfl
   have g2:=hfs 2 _ rfl
   have g3:=hfs 3 _ rfl
   have hl4:cs.length=4:=hl.trans cells_dat
   match cs,hl4 with
   | [c0,c1,c2,c3],_=>
    have g0:DataW.trod enc Tryz.prog W 0 (fun _=>true) true m 2 [c0]=some y0:=g0
    have g1:DataW.trod enc Tryz.prog W 0 (fun _=>true) true m 9 [c1]=some y1:=g1
    have g2:DataW.trod enc Tryz.prog W 0 (fun _=>true) true m 25 [c2]=some y2:=g2
    have g3:DataW.trod enc Tryz.prog W 0 (fun _=>true) true m 26 [c3]=some y3:=g3
    obtain⟨z0,e0,f0,w0⟩:=(rdr_int Tryz.underlying2).rd _ _ _ _ g0
    obtain⟨z1,e1,f1,_⟩:=(rdr_string Tryz.underlying9).rd _ _ _ _ g1
    obtain⟨⟨v2,l2⟩,e2,s2,f2⟩:=((rdr_string Tryz.underlying9).slice (t:=25) (by kernel_rfl) (s:=1) (by kernel_rfl) (fun _=>rfl) (by omega)).rd _ _ _ _ g2
    have hN3:Rows.uptoBulk y3.1≤N:=by
     rw[hD] at hN
     simp only[List.map_cons,List.map_nil,Rows.uptoBulk,Rows.uptoBulkAll] at hN
     omega
    obtain⟨⟨v3,l3⟩,e3,s3,f3⟩:=slice_lt (cells:=fun x:Da×V2=>dC x.1 x.2) (G:=fun x D=>DaR 0 W.heap.size W x.1 x.2∧∀M,(∀k∈D.weights Tryz.prog 28,k≤M*16)→x.1.KL M) ih (t:=26) (by kernel_rfl) (s:=4) cells_dat (fun _=>rfl) (by omega) _ _ _ _ hN3 g3
    injection e0 with e0 _
    injection e1 with e1 _
    injection e2 with e2 _
    injection e3 with e3 _
    subst e0;subst e1;subst e2;subst e3
    have w0' : -9223372036854775808≤z0∧z0≤9223372036854775807:=by simpa [Lit.wf,IntKind.min,IntKind.max,IntKind.signed,IntKind.bits] using w0
    have q2:=flat_one l2 Value.string
    simp only at s2 s3 f2 f3
    rw[q2] at s2
    rw[dsC_zip] at s3
    refine⟨(.mk z0 z1 l2 (l3.map (·.1)),(c2,c3)),rfl,?_,?_⟩
    ·refine .mk (l3.map (·.2)) (SlR.of s2) (by show (l3.map (·.2)).length=(l3.map (·.1)).length;simp) (SlR.of ?_) ?_ w0'
     ·show Sl W.heap.size W c3 (l3.map (·.1)).length _
      rw[List.length_map];exact s3
     ·intro i x u h1 h2
      have h1:(l3.map (·.1))[i]?=some x:=h1
      rw[List.getElem?_map] at h1 h2
      cases hq:l3[i]? with
      | none=>rw[hq] at h1;cases h1
      | some y=>
       rw[hq] at h1 h2
       injection h1 with h1
       injection h2 with h2
       subst h1;subst h2
       obtain⟨d,hd⟩:=f3.all i y hq
       exact hd.1
    ·intro M hM
     have hwt:D.weights Tryz.prog 28=DataW.weightsEach Tryz.prog [2,9,25,26] [y0.1,y1.1,y2.1,y3.1]:=by
      rw[hD]
      conv=>lhs;unfold DataW.weights
      rw[Tryz.underlying28]
      rfl
     rw[hwt] at hM
     rw[Da.KL]
     refine⟨?_,kLL_of ?_⟩
     ·rcases f2 with⟨_,rfl⟩|⟨ds,sp,hds,h2,h3⟩
      ·simp
      ·have hu:Tryz.prog.underlying 25=some (.slice 9):=by kernel_rfl
       have hby:Tryz.prog.bytesOf 9=16:=by kernel_rfl
       have:=hM ((ds.length+sp.length)*Tryz.prog.bytesOf 9) (DataW.weights_mem_each (j:=2) (t:=25) (d:=y2.1) rfl rfl _ (by rw[hds];simp[DataW.weights,hu]))
       rw[hby] at this
       omega
     ·intro x hx
      obtain⟨y,hy,rfl⟩:=List.mem_map.1 hx
      obtain⟨i,hi⟩:=List.getElem?_of_mem hy
      rcases f3 with⟨_,rfl⟩|⟨ds,sp,hds,h2,h3⟩
      ·cases hy
      ·have hil:i<ds.length:=by rw[h2];exact (List.getElem?_eq_some_iff.1 hi).1
       have hg:=h3 i y _ hi (List.getElem?_eq_getElem hil)
       refine hg.2 M fun k hk=>hM k (DataW.weights_mem_each (j:=3) (t:=26) (d:=y3.1) rfl rfl _ ?_)
       have hu:Tryz.prog.underlying 26=some (.slice 28):=by kernel_rfl
       rw[hds]
       have:=weigh_in (ds:=ds) (List.getElem_mem hil) hk
       simp[DataW.weights,hu,this]
theorem dat_arg {H:Type} {enc:TypeId×Value→H} {W:World} {base:Nat} {v:Value} {d:DataW H} {p:List MemPlace} (hv:Value.okWide Tryz.prog W .any base 28 v) (h:DataW.Trod enc Tryz.prog W 0 (fun _=>true) true 28 v d p) :
  ∃x u,v=dV x u∧DaR 0 W.heap.size W x u∧∀M,(∀k∈d.weights Tryz.prog 28,k≤M*16)→x.KL M:=by
 obtain⟨cs,rfl,hsz⟩:∃cs,v=.agg cs∧cs.size=4:=by
  unfold Value.okWide at hv
  rw[Tryz.underlying28] at hv
  obtain⟨cs,h1,h2,_⟩:=hv
  exact⟨cs,h1,h2.trans cells_dat⟩
 obtain⟨fuel,hf⟩:=h
 obtain⟨x,he,h1,h2⟩:=rdr_dat _ _ _ _ _ (Nat.lt_succ_self _) hf
 refine⟨x.1,x.2,?_,h1,h2⟩
 have:cs.toList=dC x.1 x.2:=he
 unfold dV
 congr 1
 exact Array.ext' (by rw[this];rfl)
theorem dat_reach {H:Type} {ts:List TypeId} {ds:List (DataW H)} (h:(DataW.weightsEach Tryz.prog ts ds).all (· ≤ reachBytes)=true) {j:Nat} {d:DataW H} {x:Da}
  (ht:ts[j]?=some 28) (hd:ds[j]?=some d) (hx:∀M,(∀k∈d.weights Tryz.prog 28,k≤M*16)→x.KL M):x.KL 8796093022208:=by
 refine hx _ fun k hk=>?_
 have:=of_decide_eq_true (List.all_eq_true.1 h _ (DataW.weights_mem_each ht hd _ hk))
 simp only[reachBytes] at this
 omega
end Args
end Go.Proofs.YtllhhpcabncmiaaGreatDoor
