/- The walk of a region that draws its order, where what was there stays as it was. -/
import Derived.Test.YtalbjbcomamomaaBase
import Derived.Test.YtalbjbcomamomaaRegion
namespace Go.Proofs.Ytalbjbcomamomaa.Reg
open Base
set_option linter.unusedVariables false

section
variable {P : Program} {ops : Array Oper} {Q : Exit → Act → World → Prop}

theorem takeE (i : Nat) (oi : Oper) (v : Value) {done : List Nat} {a : Act} {w : World} (hi : ops[i]? = some oi)
    (hs : Region.noSelect ops = true) (hf : Region.free .any ops (marked ops.size done) i = true) (hr : (Region.ready .any ops (marked ops.size done)).contains i = true) (hn : done.length < ops.size)
    (hQ : ∀ c a w, Q (.panic c) (a.put oi.dst v) w → Q (.panic c) a w) (hw : Region.wanted oi (yielded ops a.tmps) = true)
    (hy : ∀ w', Ext w w' → (execOp a.eval oi).run P w' = .ok (.value v) w')
    (h : St P ops Q Ext (i :: done) (a.put oi.dst v) w) : St P ops Q Ext done a w :=
  take Ext.refl (fun h k => h.trans k) i oi v hi hs hf hr hn hQ hw hy h

theorem skipE (i : Nat) (oi : Oper) {done : List Nat} {a : Act} {w : World} (hi : ops[i]? = some oi)
    (hs : Region.noSelect ops = true) (hf : Region.free .any ops (marked ops.size done) i = true) (hr : (Region.ready .any ops (marked ops.size done)).contains i = true) (hn : done.length < ops.size)
    (hQ : ∀ c a w, Q (.panic c) (a.put oi.dst undef) w → Q (.panic c) a w) (hw : Region.wanted oi (yielded ops a.tmps) = false)
    (h : St P ops Q Ext (i :: done) (a.put oi.dst undef) w) : St P ops Q Ext done a w :=
  skip Ext.refl (fun h k => h.trans k) i oi hi hs hf hr hn hQ hw h

theorem onlyE (i : Nat) (oi : Oper) {done : List Nat} {a : Act} {w : World} (hi : ops[i]? = some oi)
    (hr : Region.ready .any ops (marked ops.size done) = [i]) (hn : done.length < ops.size) (hw : Region.wanted oi (yielded ops a.tmps) = true)
    (h : ∀ w', Ext w w' → ∀ K : Act → World → Prop, Shut (∀ a' w'', Ext w' w'' → St P ops Q Ext (i :: done) a' w'' → K a' w'') → oi.wp P a w' K Q) : St P ops Q Ext done a w :=
  only i oi hi hr hn hw h Ext.refl

theorem startE {id : Nat} {a : Act} {w : World} (hm : P.follows .mixedOrders = true) (h : St P ops Q Ext [] a w) : (Code.region id ops true).wp P Q a w :=
  start hm ((Ext.refl w).drew) h

/-- a relation of worlds that a walk may go by -/
structure Rl (R : World → World → Prop) : Prop where
  refl : ∀ w, R w w
  trans : ∀ {a b c}, R a b → R b c → R a c
  drew : ∀ {a b}, R a b → R a b.drew

variable {R : World → World → Prop}
theorem takeB (hR : Rl R) (i : Nat) (oi : Oper) (v : Value) {done : List Nat} {a : Act} {w : World} (hi : ops[i]? = some oi)
    (hs : Region.noSelect ops = true) (hf : Region.free .any ops (marked ops.size done) i = true) (hr : (Region.ready .any ops (marked ops.size done)).contains i = true) (hn : done.length < ops.size)
    (hQ : ∀ c a w, Q (.panic c) (a.put oi.dst v) w → Q (.panic c) a w) (hw : Region.wanted oi (yielded ops a.tmps) = true)
    (hy : ∀ w', R w w' → (execOp a.eval oi).run P w' = .ok (.value v) w')
    (h : St P ops Q R (i :: done) (a.put oi.dst v) w) : St P ops Q R done a w :=
  take hR.refl hR.trans i oi v hi hs hf hr hn hQ hw hy h
theorem skipB (hR : Rl R) (i : Nat) (oi : Oper) {done : List Nat} {a : Act} {w : World} (hi : ops[i]? = some oi)
    (hs : Region.noSelect ops = true) (hf : Region.free .any ops (marked ops.size done) i = true) (hr : (Region.ready .any ops (marked ops.size done)).contains i = true) (hn : done.length < ops.size)
    (hQ : ∀ c a w, Q (.panic c) (a.put oi.dst undef) w → Q (.panic c) a w) (hw : Region.wanted oi (yielded ops a.tmps) = false)
    (h : St P ops Q R (i :: done) (a.put oi.dst undef) w) : St P ops Q R done a w :=
  skip hR.refl hR.trans i oi hi hs hf hr hn hQ hw h
theorem onlyB (hR : Rl R) (i : Nat) (oi : Oper) {done : List Nat} {a : Act} {w : World} (hi : ops[i]? = some oi)
    (hr : Region.ready .any ops (marked ops.size done) = [i]) (hn : done.length < ops.size) (hw : Region.wanted oi (yielded ops a.tmps) = true)
    (h : ∀ w', R w w' → ∀ K : Act → World → Prop, Shut (∀ a' w'', R w' w'' → St P ops Q R (i :: done) a' w'' → K a' w'') → oi.wp P a w' K Q) : St P ops Q R done a w :=
  only i oi hi hr hn hw h hR.refl
theorem startB (hR : Rl R) {id : Nat} {a : Act} {w : World} (hm : P.follows .mixedOrders = true) (h : St P ops Q R [] a w) : (Code.region id ops true).wp P Q a w :=
  start hm (hR.drew (hR.refl w)) h

theorem rl_below (B : Nat) : Rl (Go.RowKit.Below B) := ⟨fun w => Go.RowKit.Below.refl B w, fun h k => h.trans k, fun h => h.drew⟩
theorem rl_ext : Rl Ext := ⟨Ext.refl, fun h k => h.trans k, fun h => h.drew⟩
/-- all but one block as they were -/
theorem rl_but (m : Nat) : Rl (fun w w' => w.grownBy w' (some m)) :=
  ⟨fun w => World.grownBy.refl w _, fun {a b c} h k => ⟨k.os.trans h.os, k.tape.trans h.tape, k.output.trans h.output, Nat.le_trans h.size k.size,
    fun i hi hne => (k.block i (Nat.lt_of_lt_of_le hi h.size) hne).trans (h.block i hi hne)⟩, fun h => ⟨h.os, h.tape, h.output, h.size, h.block⟩⟩
end
end Go.Proofs.Ytalbjbcomamomaa.Reg
