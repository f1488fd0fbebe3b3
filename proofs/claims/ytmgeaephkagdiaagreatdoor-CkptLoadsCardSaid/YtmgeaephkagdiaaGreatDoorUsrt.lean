/-
 The library's sort, at numbers that rise already: contracts.
 Printed by wip/vct.py: the conditions of functions, by their contracts.
 The library's sort, at numbers that rise already: plain conditions.
-/
import Derived.Test.YtmgeaephkagdiaaGreatDoorVcd
import Derived.KernelRfl
set_option linter.unusedVariables false
set_option linter.unusedSimpArgs false
open _root_.Go.IntKind (wrap)
namespace Go.Vc
def bR6 (z : LI) : Prop := ∀ i j : Nat, i ≤ j → j < z.length → z.getD i 0 ≤ z.getD j 0
end Go.Vc
namespace Go.Vc
set_option linter.unusedVariables false
set_option maxRecDepth 100000
end Go.Vc
namespace Go.Vc
theorem bR6.le {z : LI} (h : bR6 z) {i j : Int} (h0 : 0 ≤ i) (h1 : i ≤ j) (h2 : j < z.length) : z.getD i.toNat 0 ≤ z.getD j.toNat 0 := h _ _ (by omega) (by omega)
end Go.Vc