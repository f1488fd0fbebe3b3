/-
 The disk's laws: contracts of their functions.
 Printed by wip/vct.py: the conditions of functions, by their contracts.
 The disk's laws: plain conditions.
 DiskTorn: plain.
-/
import Derived.Test.YtmgeaephkagdiaaGreatDoorDskc
import Derived.KernelRfl
set_option linter.unusedVariables false
set_option linter.unusedSimpArgs false
open _root_.Go.IntKind (wrap)
namespace Go.Vc
end Go.Vc
namespace Go.Vc
set_option linter.unusedVariables false
set_option maxRecDepth 100000
end Go.Vc
namespace Go.Vc
open Dk (Fi Cg Ds held fileAt)
theorem dQ8 {l5 l6 l7 l8 : LD} {i9 i10 i11 i12 i14 : Int} {b13 : Bool} {room : Int} (h : l5 = [] ∧ l6 = [] ∧ l7 = [] ∧ l8 = [] ∧ i9 = 1 ∧ i10 = max room 0 ∧ i11 = -1 ∧ i12 = -1 ∧ b13 = false ∧ i14 = 0) : Rp l5 l6 l7 l8 i9 i10 i11 i12 b13 i14 (Dk.new room) := by
 obtain ⟨rfl, rfl, rfl, rfl, rfl, rfl, rfl, rfl, rfl, rfl⟩ := h
 exact ⟨.refl _, .refl _, rfl, .refl _, rfl, rfl, rfl, rfl, rfl, rfl⟩
theorem dP9 {n0 n1 n2 n3 : Nat} {v4 : Value} {l5 l6 l7 l8 : LD} {i9 i10 i11 i12 i14 : Int} {b13 : Bool} {tl : LD} {x : Ds} (h : Rp l5 l6 l7 l8 i9 i10 i11 i12 b13 i14 x) :
  gY (.N n0 :: .N n1 :: .N n2 :: .N n3 :: .V v4 :: .L l5 :: .L l6 :: .L l7 :: .L l8 :: .I i9 :: .I i10 :: .I i11 :: .I i12 :: .B b13 :: .I i14 :: tl) 1 x := bN8 h
theorem hm0 {n0 n1 n2 n3 : Nat} {v4 : Value} {l5 l6 l7 l8 : LD} {i9 i10 i11 i12 i14 : Int} {b13 : Bool} {r : LD} : ∀ i, i < 16 → arg (.N n0 :: .N n1 :: .N n2 :: .N n3 :: .V v4 :: .L l5 :: .L l6 :: .L l7 :: .L l8 :: .I i9 :: .I i10 :: .I i11 :: .I i12 :: .B b13 :: .I i14 :: ([] ++ r)) (15 + i) = arg r i :=
 fun i _ => by rw [show 15 + i = i + 15 from by omega]; rfl
theorem hm1 {n0 n1 n2 n3 : Nat} {v4 : Value} {l5 l6 l7 l8 : LD} {i9 i10 i11 i12 i14 : Int} {b13 : Bool} {r : LD} {a : D} : ∀ i, i < 16 → arg (.N n0 :: .N n1 :: .N n2 :: .N n3 :: .V v4 :: .L l5 :: .L l6 :: .L l7 :: .L l8 :: .I i9 :: .I i10 :: .I i11 :: .I i12 :: .B b13 :: .I i14 :: ([a] ++ r)) (16 + i) = arg r i :=
 fun i _ => by rw [show 16 + i = i + 16 from by omega]; rfl
theorem hm2 {n0 n1 n2 n3 : Nat} {v4 : Value} {l5 l6 l7 l8 : LD} {i9 i10 i11 i12 i14 : Int} {b13 : Bool} {r : LD} {a b : D} : ∀ i, i < 16 → arg (.N n0 :: .N n1 :: .N n2 :: .N n3 :: .V v4 :: .L l5 :: .L l6 :: .L l7 :: .L l8 :: .I i9 :: .I i10 :: .I i11 :: .I i12 :: .B b13 :: .I i14 :: ([a, b] ++ r)) (17 + i) = arg r i :=
 fun i _ => by rw [show 17 + i = i + 17 from by omega]; rfl
theorem dK4 {n0 n1 n2 n3 : Nat} {v4 : Value} {l5 l6 l7 l8 : LD} {i9 i10 i11 i12 i14 room : Int} {b13 : Bool}
  (h : dNew.sig.post [.I room, .N n0, .N n1, .N n2, .N n3, .V v4, .L l5, .L l6, .L l7, .L l8, .I i9, .I i10, .I i11, .I i12, .B b13, .I i14]) : Rp l5 l6 l7 l8 i9 i10 i11 i12 b13 i14 (Dk.new room) := dQ8 h
end Go.Vc
namespace Go.Vc
open Dk (Fi Cg Ds held fileAt)
end Go.Vc