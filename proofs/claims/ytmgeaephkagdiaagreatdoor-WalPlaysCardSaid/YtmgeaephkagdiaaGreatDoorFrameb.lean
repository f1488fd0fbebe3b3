/-
 Printed by wip/vct.py: the conditions of functions, by their contracts.
 Records in frames: three laws more.
-/
import Derived.Test.YtmgeaephkagdiaaGreatDoorFrame
import Derived.KernelRfl
set_option linter.unusedVariables false
set_option linter.unusedSimpArgs false
namespace Go.Vc
set_option linter.unusedVariables false
end Go.Vc
namespace Go.Vc
def cuts (rs : List ByteArray) : List (List Int) := rs.map fun r => bytesOf (cutF r 60)
end Go.Vc