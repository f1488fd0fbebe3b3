/-
 The document's sums of 256 bits: blocks, the plain part.
 The document's sums of 256 bits: a block, the plain part.
 The document's sums of 256 bits: all bytes, the plain part.
 Sums of 256 bits: the law that bytes have their sums.
-/
import Derived.Test.YtmgeaephkagdiaaGreatDoorShac
set_option linter.unusedVariables false
set_option linter.unusedSimpArgs false
namespace Go.Vc
end Go.Vc
namespace Go.Vc
end Go.Vc
namespace Go.Vc
theorem eat_mod : ∀ (n : Nat) (st l : List Int), l.length ≤ n → (eatL st l).2.length % 64 = l.length % 64
 | 0, st, l, h => by rw [eatL_lt (by omega)]
 | n + 1, st, l, h => by
  by_cases c : l.length < 64
  ·rw [eatL_lt c]
  ·rw [eatL_ge (by omega), eat_mod n _ _ (by rw [List.length_drop]; omega), List.length_drop]; omega
theorem shaL_full {l : List Int} (h : l.length ≤ 1000000) : shaL l = outB (eatL shaStart (fullB l)).1 := by
 have hm := eat_mod _ shaStart l (Nat.le_refl _)
 have hp : padK (eatL shaStart l).2.length = padK l.length := by unfold padK; rw [hm]
 have hc : IntKind.wrap .u64 (IntKind.wrap .u64 ((l.length : Nat) : Int)) = l.length := by
  rw [u64w (x := ((l.length : Nat) : Int)) (by omega) (by omega), u64w (by omega) (by omega)]
 have hb : IntKind.wrap .u64 (8 * ((l.length : Nat) : Int)) = bits8 l := by rw [u64w (by omega) (by omega), bits8]; omega
 unfold shaL hsum tailB fullB
 rw [hc, hp, hb]
 have e : ∀ r : List Int, r ++ [128] ++ List.replicate (padK l.length) 0 ++ be8 (bits8 l) = r ++ ([128] ++ List.replicate (padK l.length) 0 ++ be8 (bits8 l)) := fun r => by simp
 rw [e l, e, eatL_append _ _ l _ (Nat.le_refl _)]
section
variable {v0 v2 v11 : Value} {z1 z3 z12 : List Int} {s4 s14 : ByteArray} {i13 i15 : Int}
end
end Go.Vc
namespace Go.Vc
end Go.Vc