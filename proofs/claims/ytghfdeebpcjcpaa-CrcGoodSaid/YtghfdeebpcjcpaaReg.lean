/- The walk of a region that draws its order, where what was there stays as it was. -/
import Derived.Test.YtghfdeebpcjcpaaBase
import Derived.Test.YtghfdeebpcjcpaaRegion
namespace Go.Proofs.Ytghfdeebpcjcpaa.Reg
open Base
set_option linter.unusedVariables false

section
variable {P : Program} {ops : Array Oper} {Q : Exit → Act → World → Prop}

theorem takeE (i : Nat) (oi : Oper) (v : Value) {done : List Nat} {a : Act} {w : World} (hi : ops[i]? = some oi)
    (hs : Region.noSelect ops = true) (hf : Region.free .any ops (marked ops.size done) i = true) (hr : (Region.ready .any ops (marked ops.size done)).contains i = true) (hn : done.length < ops.size)
    (hQ : ∀ c a w, Q (.panic c) (a.put oi.dst v) w → Q (.panic c) a w) (hw : Region.wanted oi (yielded ops a.tmps) = true)
    (hy : ∀ w', Ext w w' → (execOp a.eval oi).run P w' = .ok (.value v) w')
    (h : St P ops Q Ext (i :: done) (a.put oi.dst v) w) : St P ops Q Ext done a w :=
  take Ext.refl (fun h k => h.trans k) i oi v hi hs hf hr hn hQ hw hy h

theorem skipE (i : Nat) (oi : Oper) {done : List Nat} {a : Act} {w : World} (hi : ops[i]? = some oi)
    (hs : Region.noSelect ops = true) (hf : Region.free .any ops (marked ops.size done) i = true) (hr : (Region.ready .any ops (marked ops.size done)).contains i = true) (hn : done.length < ops.size)
    (hQ : ∀ c a w, Q (.panic c) (a.put oi.dst undef) w → Q (.panic c) a w) (hw : Region.wanted oi (yielded ops a.tmps) = false)
    (h : St P ops Q Ext (i :: done) (a.put oi.dst undef) w) : St P ops Q Ext done a w :=
  skip Ext.refl (fun h k => h.trans k) i oi hi hs hf hr hn hQ hw h

theorem onlyE (i : Nat) (oi : Oper) {done : List Nat} {a : Act} {w : World} (hi : ops[i]? = some oi)
    (hr : Region.ready .any ops (marked ops.size done) = [i]) (hn : done.length < ops.size) (hw : Region.wanted oi (yielded ops a.tmps) = true)
    (h : ∀ w', Ext w w' → ∀ K : Act → World → Prop, Shut (∀ a' w'', Ext w' w'' → St P ops Q Ext (i :: done) a' w'' → K a' w'') → oi.wp P a w' K Q) : St P ops Q Ext done a w :=
  only i oi hi hr hn hw h Ext.refl

theorem startE {id : Nat} {a : Act} {w : World} (hm : P.follows .mixedOrders = true) (h : St P ops Q Ext [] a w) : (Code.region id ops true).wp P Q a w :=
  start hm ((Ext.refl w).drew) h
end
end Go.Proofs.Ytghfdeebpcjcpaa.Reg
