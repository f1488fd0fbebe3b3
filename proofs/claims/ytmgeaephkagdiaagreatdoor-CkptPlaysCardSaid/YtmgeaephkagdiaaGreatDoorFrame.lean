/-
 Contracts of records in frames.
 Records in frames: plain laws.
 Printed by wip/vct.py: the conditions of functions, by their contracts.
 Records in frames keep their contracts: the plain part.
 Records in frames: scanning; two laws.
-/
import Derived.Test.YtmgeaephkagdiaaGreatDoorPack
import Derived.Test.YtmgeaephkagdiaaGreatDoorCrc
import Derived.KernelRfl
set_option linter.unusedVariables false
set_option linter.unusedSimpArgs false
namespace Go.Vc
def coverB (seq n : Int) : List Int := beB n 4 ++ beB seq 8
def frameB (seq : Int) (rec_ : ByteArray) : List Int :=
 79 :: 74 :: (coverB seq rec_.size ++ (beB (crcOf 0 (coverB seq rec_.size ++ bytesOf rec_)) 4 ++ bytesOf rec_))
end Go.Vc
namespace Go.Vc
theorem take_left {l1 l2 : List Int} {n : Nat} (h : l1.length = n) : (l1 ++ l2).take n = l1 := by subst h; simp
theorem drop_left {l1 l2 : List Int} {n : Nat} (h : l1.length = n) : (l1 ++ l2).drop n = l2 := by subst h; simp
end Go.Vc
namespace Go.Vc
set_option linter.unusedVariables false
end Go.Vc
namespace Go.Vc
end Go.Vc
namespace Go.Vc
end Go.Vc