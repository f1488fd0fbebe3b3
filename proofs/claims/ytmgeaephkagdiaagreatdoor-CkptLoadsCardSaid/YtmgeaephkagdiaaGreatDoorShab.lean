/-
 Contracts of sums as texts, and of their order.
 Printed by wip/vct.py: the conditions of functions, by their contracts.
 Sums of 256 bits: texts and order, the plain part.
-/
import Derived.Test.YtmgeaephkagdiaaGreatDoorSha
import Derived.KernelRfl
set_option linter.unusedVariables false
set_option linter.unusedSimpArgs false
open _root_.Go.IntKind (wrap)
namespace Go.Vc
def cmpL : LI → LI → Int
 | x :: xs, y :: ys => if x < y then -1 else if x > y then 1 else cmpL xs ys
 | _, _ => 0
def iH.post : LD → Prop
 | [.Z a, .Z b, .I r] => r = cmpL a b
 | _ => False
def iH.sig : Sig := gQ [.a .u8 32, .a .u8 32] [.i .i64] tru iH.post
def iH.I0 : LD → Prop
 | [.Z a, .Z b, .I i] => 0 ≤ i ∧ i ≤ 32 ∧ cmpL a b = cmpL (a.drop i.toNat) (b.drop i.toNat)
 | _ => False
def iH.I0M : LD → Nat
 | [.Z _, .Z _, .I i] => (32 - i).toNat
 | _ => 0
end Go.Vc
namespace Go.Vc
set_option linter.unusedVariables false
def iH.Pure : Prop :=
 ∀ z0 z1 : LI,
 (z0.length = 32) →
 (∀ x ∈ z0, IntKind.has .u8 x) →
 (z1.length = 32) →
 (∀ x ∈ z1, IntKind.has .u8 x) →
 iH.sig.pre [.Z z0, .Z z1] →
 ∀ n2 n3 : Nat,
 iH.I0 [.Z z0, .Z z1, .I 0] ∧ (
 ∀ i4 : Int,
 R64 i4 →
 iH.I0 [.Z z0, .Z z1, .I i4] →
 ((
 (i4 < 32) →
 Im (0 ≤ i4) (
 ((
 ((z0.getD i4.toNat 0) < (z1.getD i4.toNat 0)) →
   iH.sig.post [.Z z0, .Z z1, .I (-1 : Int)]) ∧ (
 ((z1.getD i4.toNat 0) ≤ (z0.getD i4.toNat 0)) →
 ((
 ((z1.getD i4.toNat 0) < (z0.getD i4.toNat 0)) →
  iH.sig.post [.Z z0, .Z z1, .I 1]) ∧ (
 ((z0.getD i4.toNat 0) ≤ (z1.getD i4.toNat 0)) →
  Bk iH.I0 iH.I0M [.Z z0, .Z z1, .I (wrap .i64 (i4 + 1))] [.Z z0, .Z z1, .I i4])))))) ∧ (
 (32 ≤ i4) →
  iH.sig.post [.Z z0, .Z z1, .I 0])))
end Go.Vc
namespace Go.Vc
theorem bD3 {a b : LI} {i : Nat} (ha : i < a.length) (hb : i < b.length) : cmpL (a.drop i) (b.drop i) = if a.getD i 0 < b.getD i 0 then -1 else if a.getD i 0 > b.getD i 0 then 1 else cmpL (a.drop (i + 1)) (b.drop (i + 1)) := by
 rw [List.drop_eq_getElem_cons ha, List.drop_eq_getElem_cons hb]
 simp [cmpL, List.getD, ha, hb]
theorem iH.pure : iH.Pure := by
 intro z0 z1 h1 h2 h3 h4 h5 n2 n3
 refine ⟨⟨by decide, by decide, rfl⟩, ?_⟩
 intro i4 h6 h7
 obtain ⟨a1, a2, a3⟩ : 0 ≤ i4 ∧ i4 ≤ 32 ∧ cmpL z0 z1 = cmpL (z0.drop i4.toNat) (z1.drop i4.toNat) := h7
 refine ⟨fun h8 => ⟨a1, fun h9 => ⟨fun h10 => ?_, fun h10 => ⟨fun h11 => ?_, fun h11 => ?_⟩⟩⟩, fun h8 => ?_⟩
 ·show (-1 : Int) = cmpL z0 z1
  rw [a3, bD3 (by omega) (by omega), if_pos h10]
 ·show (1 : Int) = cmpL z0 z1
  rw [a3, bD3 (by omega) (by omega), if_neg (by omega), if_pos h11]
 ·have ei : wrap .i64 (i4 + 1) = i4 + 1 := aH (by omega) (by omega)
  rw [ei]
  refine ⟨⟨by omega, by omega, ?_⟩, ?_⟩
  ·rw [a3, bD3 (by omega) (by omega), if_neg (by omega), if_neg (by omega), show (i4 + 1).toNat = i4.toNat + 1 from by omega]
  ·show (32 - (i4 + 1)).toNat < (32 - i4).toNat
   omega
 ·show (0 : Int) = cmpL z0 z1
  rw [a3, List.drop_eq_nil_of_le (by omega)]
  rfl
def u8 (x : Int) : UInt8 := UInt8.ofNat x.toNat
theorem aY9 {x : Int} (h : 0 ≤ x ∧ x < 256) : (u8 x).toNat = x.toNat := by
 have : (UInt8.ofNat x.toNat).toNat = x.toNat % 256 := by simp
 rw [u8, this]; omega
theorem cT4 {x y : Int} (hx : 0 ≤ x ∧ x < 256) (hy : 0 ≤ y ∧ y < 256) : u8 x < u8 y ↔ x < y := by
 rw [UInt8.lt_iff_toNat_lt, aY9 hx, aY9 hy]; omega
theorem dW4 {x y : Int} (hx : 0 ≤ x ∧ x < 256) (hy : 0 ≤ y ∧ y < 256) : u8 x = u8 y ↔ x = y := by
 rw [← UInt8.toNat_inj, aY9 hx, aY9 hy]; omega
theorem dH1 {x y : Int} (hx : 0 ≤ x ∧ x < 256) (hy : 0 ≤ y ∧ y < 256) (a b : List UInt8) :
  Op.bytesLess (u8 x :: a) (u8 y :: b) = if x < y then true else if x = y then Op.bytesLess a b else false := by
 rw [Op.bytesLess]
 by_cases c : x < y
 ·simp [c, (cT4 hx hy).2 c]
 ·by_cases e : x = y
  ·subst e; simp
  ·have h1 : ¬ u8 x < u8 y := fun h => c ((cT4 hx hy).1 h)
   have h2 : ¬ u8 x = u8 y := fun h => e ((dW4 hx hy).1 h)
   simp [c, e, h1, h2]
theorem cS1 (l : LI) : (textOf l).toList = l.map u8 := by
 rw [ByteArray.toList_eq]; simp [textOf, u8]
end Go.Vc