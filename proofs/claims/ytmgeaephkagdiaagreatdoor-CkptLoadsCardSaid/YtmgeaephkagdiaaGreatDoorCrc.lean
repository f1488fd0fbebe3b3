/-
 Contracts of the sums that tell what was changed (crc, and the document's).
 Printed by wip/vct.py: the conditions of functions, by their contracts.
 Sums that tell what was changed: the plain part.
 Sums that tell what was changed: what becomes of each bit; the laws.
 Sums that tell what was changed: two laws more.
-/
import Derived.Test.YtmgeaephkagdiaaGreatDoorWord
import Derived.KernelRfl
set_option linter.unusedVariables false
set_option linter.unusedSimpArgs false
open _root_.Go.IntKind (wrap)
namespace Go.Vc
abbrev W32 := BitVec 32
def cv (x : Int) : W32 := BitVec.ofInt 32 x
def dA1 : W32 := 0x82f63b78#32
def st (c : W32) : W32 := (c >>> 1) ^^^ (if c.getLsbD 0 then dA1 else 0#32)
def stn : Nat → W32 → W32
 | 0, c => c
 | n + 1, c => stn n (st c)
def dA2 (c : W32) (b : Int) : W32 := stn 8 (c ^^^ cv b)
def dA4 (c : W32) (l : LI) : W32 := l.foldl dA2 c
def dA3 (sum : Int) (l : LI) : Int := ((~~~ (dA4 (~~~ cv sum) l)).toNat : Int)
end Go.Vc
namespace Go.Vc
set_option linter.unusedVariables false
end Go.Vc
namespace Go.Vc
end Go.Vc
namespace Go.Vc
end Go.Vc
namespace Go.Vc
end Go.Vc