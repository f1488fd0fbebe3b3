/-
 Contracts of the document's sums of 256 bits.
 Printed by wip/vct.py: the conditions of functions, by their contracts.
 The document's sums of 256 bits: the tables, the plain part.
 The document's sums of 256 bits: roots, tables, turns, the plain part.
-/
import Derived.Test.YtmgeaephkagdiaaGreatDoorSha
import Derived.KernelRfl
set_option linter.unusedVariables false
set_option linter.unusedSimpArgs false
namespace Go.Vc
def primeL : List Int := [2, 3, 5, 7, 11, 13, 17, 19, 23, 29, 31, 37, 41, 43, 47, 53, 59, 61, 67, 71, 73, 79, 83, 89, 97, 101, 103, 107, 109, 113, 127, 131, 137, 139, 149, 151, 157, 163, 167, 173, 179, 181, 191, 193, 197, 199, 211, 223, 227, 229, 233, 239, 241, 251, 257, 263, 269, 271, 277, 281, 283, 293, 307, 311]
def below (p : Int) : List Int := primeL.filter (fun x => decide (x < p))
def bits8 (l : List Int) : Int := (l.length : Int) * 8
def fullB (l : List Int) : List Int := l ++ [128] ++ List.replicate (padK l.length) 0 ++ be8 (bits8 l)
end Go.Vc
namespace Go.Vc
set_option linter.unusedVariables false
end Go.Vc
namespace Go.Vc
end Go.Vc
namespace Go.Vc
end Go.Vc