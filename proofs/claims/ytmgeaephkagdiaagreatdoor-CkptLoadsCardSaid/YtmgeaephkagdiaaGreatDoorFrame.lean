/-
 Contracts of records in frames.
 Records in frames: plain laws.
 Printed by wip/vct.py: the conditions of functions, by their contracts.
 Records in frames keep their contracts: the plain part.
 Records in frames: scanning; two laws.
-/
import Derived.Test.YtmgeaephkagdiaaGreatDoorPack
import Derived.Test.YtmgeaephkagdiaaGreatDoorCrc
import Derived.KernelRfl
set_option linter.unusedVariables false
set_option linter.unusedSimpArgs false
open _root_.Go.IntKind (wrap)
namespace Go.Vc
def bV3 (seq n : Int) : LI := beB n 4 ++ beB seq 8
def dE4 (seq : Int) (rec_ : BA) : LI :=
 79 :: 74 :: (bV3 seq rec_.size ++ (beB (dA3 0 (bV3 seq rec_.size ++ bytesOf rec_)) 4 ++ bytesOf rec_))
end Go.Vc
namespace Go.Vc
theorem take_left {l1 l2 : LI} {n : Nat} (h : l1.length = n) : (l1 ++ l2).take n = l1 := by subst h; simp
theorem drop_left {l1 l2 : LI} {n : Nat} (h : l1.length = n) : (l1 ++ l2).drop n = l2 := by subst h; simp
end Go.Vc
namespace Go.Vc
set_option linter.unusedVariables false
end Go.Vc
namespace Go.Vc
end Go.Vc
namespace Go.Vc
end Go.Vc