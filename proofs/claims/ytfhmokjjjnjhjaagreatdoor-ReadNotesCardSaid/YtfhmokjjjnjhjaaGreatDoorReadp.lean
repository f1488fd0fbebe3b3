/-
 Printed by wip/vct.py: the conditions of functions, by their contracts.
-/
import Derived.Test.YtfhmokjjjnjhjaaGreatDoorReadc
import Derived.KernelRfl
set_option linter.unusedVariables false
set_option linter.unusedSimpArgs false
set_option linter.unnecessarySimpa false
open _root_.Go.IntKind (wrap)
namespace Go.Vc
set_option linter.unusedVariables false
set_option maxRecDepth 100000
def lOf.Pure : Prop :=
 ∀ i0 i1 i2 : Int,
 ∀ b3 : Bool,
 ∀ i4 : Int,
 ∀ b5 : Bool,
 ∀ i6 : Int,
 ∀ b7 b8 : Bool,
 ∀ i9 i10 i11 i12 : Int,
 R64 i0 →
 R64 i1 →
 R64 i2 →
 U64 i4 →
 U64 i6 →
 R64 i9 →
 R64 i10 →
 R64 i11 →
 R64 i12 →
 lOf.sig.pre [.I i0, .I i1, .I i2, .B b3, .I i4, .B b5, .I i6, .B b7, .B b8, .I i9, .I i10, .I i11, .I i12] →
 ∀ n13 n14 : Nat,
 ((
 (i0 = 9) →
  lOf.sig.post [.I i0, .I i1, .I i2, .B b3, .I i4, .B b5, .I i6, .B b7, .B b8, .I i9, .I i10, .I i11, .I i12, .B true, .B false]) ∧ (
 (i0 ≠ 9) →
 ((
 (i0 = 13) →
  lOf.sig.post [.I i0, .I i1, .I i2, .B b3, .I i4, .B b5, .I i6, .B b7, .B b8, .I i9, .I i10, .I i11, .I i12, .B true, .B false]) ∧ (
 (i0 ≠ 13) →
 ((
 (i0 = 10) →
  lOf.sig.post [.I i0, .I i1, .I i2, .B b3, .I i4, .B b5, .I i6, .B b7, .B b8, .I i9, .I i10, .I i11, .I i12, .B false, .B true]) ∧ (
 (i0 ≠ 10) →
 ((
 (i0 = 14) →
   lOf.sig.post [.I i0, .I i1, .I i2, .B b3, .I i4, .B b5, .I i6, .B b7, .B b8, .I i9, .I i10, .I i11, .I i12, .B false, .B true]) ∧ (
 (i0 ≠ 14) →
 ((
 (i0 = 11) →
   lOf.sig.post [.I i0, .I i1, .I i2, .B b3, .I i4, .B b5, .I i6, .B b7, .B b8, .I i9, .I i10, .I i11, .I i12, .B true, .B true]) ∧ (
 (i0 ≠ 11) →
 ((
 (i0 = 12) →
    lOf.sig.post [.I i0, .I i1, .I i2, .B b3, .I i4, .B b5, .I i6, .B b7, .B b8, .I i9, .I i10, .I i11, .I i12, .B true, .B true]) ∧ (
 (i0 ≠ 12) →
    lOf.sig.post [.I i0, .I i1, .I i2, .B b3, .I i4, .B b5, .I i6, .B b7, .B b8, .I i9, .I i10, .I i11, .I i12, .B false, .B false]))))))))))))
def dW.Pure : Prop :=
 ∀ i0 i1 i2 : Int,
 ∀ b3 : Bool,
 ∀ i4 : Int,
 ∀ b5 : Bool,
 ∀ i6 : Int,
 ∀ b7 b8 : Bool,
 ∀ i9 i10 i11 i12 : Int,
 R64 i0 →
 R64 i1 →
 R64 i2 →
 U64 i4 →
 U64 i6 →
 R64 i9 →
 R64 i10 →
 R64 i11 →
 R64 i12 →
 dW.sig.pre [.I i0, .I i1, .I i2, .B b3, .I i4, .B b5, .I i6, .B b7, .B b8, .I i9, .I i10, .I i11, .I i12] →
 ∀ n13 : Nat,
 lOf.sig.pre [.I i0, .I i1, .I i2, .B b3, .I i4, .B b5, .I i6, .B b7, .B b8, .I i9, .I i10, .I i11, .I i12] ∧ (
 ∀ b14 b15 : Bool,
 lOf.sig.post [.I i0, .I i1, .I i2, .B b3, .I i4, .B b5, .I i6, .B b7, .B b8, .I i9, .I i10, .I i11, .I i12, .B b14, .B b15] →
 dW.sig.post [.I i0, .I i1, .I i2, .B b3, .I i4, .B b5, .I i6, .B b7, .B b8, .I i9, .I i10, .I i11, .I i12, .B (!((b14 == false) && (b15 == false)))])
def iW.Pure : Prop :=
 ∀ i0 i1 i2 : Int,
 ∀ b3 : Bool,
 ∀ i4 : Int,
 ∀ b5 : Bool,
 ∀ i6 : Int,
 ∀ b7 b8 : Bool,
 ∀ i9 i10 i11 i12 : Int,
 R64 i0 →
 R64 i1 →
 R64 i2 →
 U64 i4 →
 U64 i6 →
 R64 i9 →
 R64 i10 →
 R64 i11 →
 R64 i12 →
 iW.sig.pre [.I i0, .I i1, .I i2, .B b3, .I i4, .B b5, .I i6, .B b7, .B b8, .I i9, .I i10, .I i11, .I i12] →
 ∀ n13 : Nat,
 ((
 (1 ≤ i0) →
 ((
 (i0 ≤ 14) →
  iW.sig.post [.I i0, .I i1, .I i2, .B b3, .I i4, .B b5, .I i6, .B b7, .B b8, .I i9, .I i10, .I i11, .I i12, .B (!(i0 == 10))]) ∧ (
 (14 < i0) →
  iW.sig.post [.I i0, .I i1, .I i2, .B b3, .I i4, .B b5, .I i6, .B b7, .B b8, .I i9, .I i10, .I i11, .I i12, .B false]))) ∧ (
 (i0 < 1) →
  iW.sig.post [.I i0, .I i1, .I i2, .B b3, .I i4, .B b5, .I i6, .B b7, .B b8, .I i9, .I i10, .I i11, .I i12, .B false]))
def jV.Pure : Prop :=
 ∀ b0 : Bool,
 ∀ i1 : Int,
 U64 i1 →
 jV.sig.pre [.B b0, .I i1] →
 ∀ n2 : Nat,
 ((
 (b0 = false) →
  jV.sig.post [.B b0, .I i1, .B true]) ∧ (
 (b0 = true) →
  jV.sig.post [.B b0, .I i1, .B (decide (i1 < 8))]))
def bC.Pure : Prop :=
 ∀ s0 : BA,
 ((s0.size : Int) ≤ 9223372036854775807) →
 bC.sig.pre [.S s0] →
 bC.I0 [.S s0, .I 0] ∧ (
 ∀ i1 : Int,
 R64 i1 →
 bC.I0 [.S s0, .I i1] →
 ((
 (i1 < (s0.size : Int)) →
 Im (0 ≤ i1) (
 ((
 (97 ≤ (byteAt s0 i1)) →
 ((
 ((byteAt s0 i1) ≤ 122) →
  Bk bC.I0 bC.I0M [.S s0, .I (wrap .i64 (i1 + 1))] [.S s0, .I i1]) ∧ (
 (122 < (byteAt s0 i1)) →
 ((
 (0 < i1) →
 ((
 (48 ≤ (byteAt s0 i1)) →
 ((
 (57 < (byteAt s0 i1)) →
    bC.sig.post [.S s0, .B false]) ∧ (
 ((byteAt s0 i1) ≤ 57) →
    Bk bC.I0 bC.I0M [.S s0, .I (wrap .i64 (i1 + 1))] [.S s0, .I i1]))) ∧ (
 ((byteAt s0 i1) < 48) →
   bC.sig.post [.S s0, .B false]))) ∧ (
 (i1 ≤ 0) →
   bC.sig.post [.S s0, .B false]))))) ∧ (
 ((byteAt s0 i1) < 97) →
 ((
 (0 < i1) →
 ((
 (48 ≤ (byteAt s0 i1)) →
 ((
 (57 < (byteAt s0 i1)) →
   bC.sig.post [.S s0, .B false]) ∧ (
 ((byteAt s0 i1) ≤ 57) →
   Bk bC.I0 bC.I0M [.S s0, .I (wrap .i64 (i1 + 1))] [.S s0, .I i1]))) ∧ (
 ((byteAt s0 i1) < 48) →
   bC.sig.post [.S s0, .B false]))) ∧ (
 (i1 ≤ 0) →
  bC.sig.post [.S s0, .B false])))))) ∧ (
 ((s0.size : Int) ≤ i1) →
 ((
 ((s0.size : Int) = (2 : Int)) →
 Im (0 < (s0.size : Int)) (
 ((
 ((byteAt s0 0) = 114) →
 Im (1 < (s0.size : Int)) (
 ((
 ((byteAt s0 1) ≤ 57) →
   bC.sig.post [.S s0, .B false]) ∧ (
 (57 < (byteAt s0 1)) →
 ((
 (s0 ≠ (⟨#[]⟩ : BA)) →
   bC.sig.post [.S s0, .B (decide ((s0.size : Int) ≤ (16 : Int)))]) ∧ (
 (s0 = (⟨#[]⟩ : BA)) →
   bC.sig.post [.S s0, .B false])))))) ∧ (
 ((byteAt s0 0) ≠ 114) →
 ((
 (s0 ≠ (⟨#[]⟩ : BA)) →
   bC.sig.post [.S s0, .B (decide ((s0.size : Int) ≤ (16 : Int)))]) ∧ (
 (s0 = (⟨#[]⟩ : BA)) →
   bC.sig.post [.S s0, .B false])))))) ∧ (
 ((s0.size : Int) ≠ (2 : Int)) →
 ((
 (s0 ≠ (⟨#[]⟩ : BA)) →
  bC.sig.post [.S s0, .B (decide ((s0.size : Int) ≤ (16 : Int)))]) ∧ (
 (s0 = (⟨#[]⟩ : BA)) →
  bC.sig.post [.S s0, .B false])))))))
def aC.C4 (i0 : Int) (i1 : Int) (i2 : Int) (b3 : Bool) (i4 : Int) (b5 : Bool) (i6 : Int) (b7 : Bool) (b8 : Bool) (i9 : Int) (i10 : Int) (i11 : Int) (i12 : Int) : Prop :=
 ∀ n13 n14 n15 : Nat,
 ∀ i16 i17 i18 : Int,
 ∀ b19 : Bool,
 ∀ i20 : Int,
 ∀ b21 : Bool,
 ∀ i22 : Int,
 ∀ b23 b24 : Bool,
 ∀ i25 i26 i27 i28 : Int,
 R64 i16 →
 R64 i17 →
 R64 i18 →
 U64 i20 →
 U64 i22 →
 R64 i25 →
 R64 i26 →
 R64 i27 →
 R64 i28 →
 aC.J4 [.I i0, .I i1, .I i2, .B b3, .I i4, .B b5, .I i6, .B b7, .B b8, .I i9, .I i10, .I i11, .I i12, .I i16, .I i17, .I i18, .B b19, .I i20, .B b21, .I i22, .B b23, .B b24, .I i25, .I i26, .I i27, .I i28] →
 aC.sig.post [.I i0, .I i1, .I i2, .B b3, .I i4, .B b5, .I i6, .B b7, .B b8, .I i9, .I i10, .I i11, .I i12, .I i16, .I i17, .I i18, .B b19, .I i20, .B b21, .I i22, .B b23, .B b24, .I i25, .I i26, .I i27, .I i28]
def aC.C3 (i0 : Int) (i1 : Int) (i2 : Int) (b3 : Bool) (i4 : Int) (b5 : Bool) (i6 : Int) (b7 : Bool) (b8 : Bool) (i9 : Int) (i10 : Int) (i11 : Int) (i12 : Int) : Prop :=
 ∀ n13 n14 n15 : Nat,
 ∀ i16 i17 i18 : Int,
 ∀ b19 : Bool,
 ∀ i20 : Int,
 ∀ b21 : Bool,
 ∀ i22 : Int,
 ∀ b23 b24 : Bool,
 ∀ i25 i26 i27 i28 : Int,
 R64 i16 →
 R64 i17 →
 R64 i18 →
 U64 i20 →
 U64 i22 →
 R64 i25 →
 R64 i26 →
 R64 i27 →
 R64 i28 →
 aC.J3 [.I i0, .I i1, .I i2, .B b3, .I i4, .B b5, .I i6, .B b7, .B b8, .I i9, .I i10, .I i11, .I i12, .I i16, .I i17, .I i18, .B b19, .I i20, .B b21, .I i22, .B b23, .B b24, .I i25, .I i26, .I i27, .I i28] →
 ((
 (i0 = 16) →
  aC.J4 [.I i0, .I i1, .I i2, .B b3, .I i4, .B b5, .I i6, .B b7, .B b8, .I i9, .I i10, .I i11, .I i12, .I i16, .I i17, .I i18, .B b19, .I i20, .B b21, .I i22, .B b23, .B b24, .I i25, .I i26, .I i27, .I i12] ∧ (
 (aC.C4 i0 i1 i2 b3 i4 b5 i6 b7 b8 i9 i10 i11 i12))) ∧ (
 (i0 ≠ 16) →
 ((
 (i0 = 17) →
  aC.J4 [.I i0, .I i1, .I i2, .B b3, .I i4, .B b5, .I i6, .B b7, .B b8, .I i9, .I i10, .I i11, .I i12, .I i16, .I i17, .I i18, .B b19, .I i20, .B b21, .I i22, .B b23, .B b24, .I i25, .I i26, .I i27, .I i12] ∧ (
 (aC.C4 i0 i1 i2 b3 i4 b5 i6 b7 b8 i9 i10 i11 i12))) ∧ (
 (i0 ≠ 17) →
  aC.J4 [.I i0, .I i1, .I i2, .B b3, .I i4, .B b5, .I i6, .B b7, .B b8, .I i9, .I i10, .I i11, .I i12, .I i16, .I i17, .I i18, .B b19, .I i20, .B b21, .I i22, .B b23, .B b24, .I i25, .I i26, .I i27, .I i28] ∧ (
 (aC.C4 i0 i1 i2 b3 i4 b5 i6 b7 b8 i9 i10 i11 i12))))))
def aC.C2 (i0 : Int) (i1 : Int) (i2 : Int) (b3 : Bool) (i4 : Int) (b5 : Bool) (i6 : Int) (b7 : Bool) (b8 : Bool) (i9 : Int) (i10 : Int) (i11 : Int) (i12 : Int) : Prop :=
 ∀ n13 n14 n15 : Nat,
 ∀ i16 i17 i18 : Int,
 ∀ b19 : Bool,
 ∀ i20 : Int,
 ∀ b21 : Bool,
 ∀ i22 : Int,
 ∀ b23 b24 : Bool,
 ∀ i25 i26 i27 i28 : Int,
 R64 i16 →
 R64 i17 →
 R64 i18 →
 U64 i20 →
 U64 i22 →
 R64 i25 →
 R64 i26 →
 R64 i27 →
 R64 i28 →
 aC.J2 [.I i0, .I i1, .I i2, .B b3, .I i4, .B b5, .I i6, .B b7, .B b8, .I i9, .I i10, .I i11, .I i12, .I i16, .I i17, .I i18, .B b19, .I i20, .B b21, .I i22, .B b23, .B b24, .I i25, .I i26, .I i27, .I i28] →
 ((
 (i0 = 15) →
 ((
 ((
  aC.J3 [.I i0, .I i1, .I i2, .B b3, .I i4, .B b5, .I i6, .B b7, .B b8, .I i9, .I i10, .I i11, .I i12, .I i16, .I i17, .I i18, .B b19, .I i20, .B b21, .I i22, .B b23, .B b24, .I i25, .I i10, .I i11, .I i28] ∧ (
 (aC.C3 i0 i1 i2 b3 i4 b5 i6 b7 b8 i9 i10 i11 i12))) ∧ (
  aC.J3 [.I i0, .I i1, .I i2, .B b3, .I i4, .B b5, .I i6, .B b7, .B b8, .I i9, .I i10, .I i11, .I i12, .I i16, .I i17, .I i18, .B b19, .I i20, .B b21, .I i22, .B b23, .B b24, .I i25, .I i10, .I i11, .I i28] ∧ (
 (aC.C3 i0 i1 i2 b3 i4 b5 i6 b7 b8 i9 i10 i11 i12))))) ∧ (
  aC.J3 [.I i0, .I i1, .I i2, .B b3, .I i4, .B b5, .I i6, .B b7, .B b8, .I i9, .I i10, .I i11, .I i12, .I i16, .I i17, .I i18, .B b19, .I i20, .B b21, .I i22, .B b23, .B b24, .I i25, .I i10, .I i11, .I i28] ∧ (
 (aC.C3 i0 i1 i2 b3 i4 b5 i6 b7 b8 i9 i10 i11 i12))))) ∧ (
 (i0 ≠ 15) →
  aC.J3 [.I i0, .I i1, .I i2, .B b3, .I i4, .B b5, .I i6, .B b7, .B b8, .I i9, .I i10, .I i11, .I i12, .I i16, .I i17, .I i18, .B b19, .I i20, .B b21, .I i22, .B b23, .B b24, .I i25, .I i26, .I i27, .I i28] ∧ (
 (aC.C3 i0 i1 i2 b3 i4 b5 i6 b7 b8 i9 i10 i11 i12))))
def aC.C1 (i0 : Int) (i1 : Int) (i2 : Int) (b3 : Bool) (i4 : Int) (b5 : Bool) (i6 : Int) (b7 : Bool) (b8 : Bool) (i9 : Int) (i10 : Int) (i11 : Int) (i12 : Int) : Prop :=
 ∀ n13 n14 n15 : Nat,
 ∀ i16 i17 i18 : Int,
 ∀ b19 : Bool,
 ∀ i20 : Int,
 ∀ b21 : Bool,
 ∀ i22 : Int,
 ∀ b23 b24 : Bool,
 ∀ i25 i26 i27 i28 : Int,
 R64 i16 →
 R64 i17 →
 R64 i18 →
 U64 i20 →
 U64 i22 →
 R64 i25 →
 R64 i26 →
 R64 i27 →
 R64 i28 →
 aC.J1 [.I i0, .I i1, .I i2, .B b3, .I i4, .B b5, .I i6, .B b7, .B b8, .I i9, .I i10, .I i11, .I i12, .I i16, .I i17, .I i18, .B b19, .I i20, .B b21, .I i22, .B b23, .B b24, .I i25, .I i26, .I i27, .I i28] →
 ((
 (i0 = 1) →
  aC.J2 [.I i0, .I i1, .I i2, .B b3, .I i4, .B b5, .I i6, .B b7, .B b8, .I i9, .I i10, .I i11, .I i12, .I i16, .I i17, .I i18, .B b3, .I i4, .B b21, .I i22, .B b23, .B b24, .I i25, .I i26, .I i27, .I i28] ∧ (
 (aC.C2 i0 i1 i2 b3 i4 b5 i6 b7 b8 i9 i10 i11 i12))) ∧ (
 (i0 ≠ 1) →
  lOf.sig.pre [.I i0, .I i1, .I i2, .B b3, .I i4, .B b5, .I i6, .B b7, .B b8, .I i9, .I i10, .I i11, .I i12] ∧ (
 ∀ b29 b30 : Bool,
  lOf.sig.post [.I i0, .I i1, .I i2, .B b3, .I i4, .B b5, .I i6, .B b7, .B b8, .I i9, .I i10, .I i11, .I i12, .B b29, .B b30] →
 ((
 (b30 = true) →
  aC.J2 [.I i0, .I i1, .I i2, .B b3, .I i4, .B b5, .I i6, .B b7, .B b8, .I i9, .I i10, .I i11, .I i12, .I i16, .I i17, .I i18, .B b3, .I i4, .B b21, .I i22, .B b23, .B b24, .I i25, .I i26, .I i27, .I i28] ∧ (
 (aC.C2 i0 i1 i2 b3 i4 b5 i6 b7 b8 i9 i10 i11 i12))) ∧ (
 (b30 = false) →
 ((
 (2 ≤ i0) →
 ((
 (i0 ≤ 8) →
 ((
 ((
    aC.J2 [.I i0, .I i1, .I i2, .B b3, .I i4, .B b5, .I i6, .B b7, .B b8, .I i9, .I i10, .I i11, .I i12, .I i16, .I i17, .I i18, .B b3, .I i4, .B b5, .I i6, .B b23, .B b24, .I i25, .I i26, .I i27, .I i28] ∧ (
 (aC.C2 i0 i1 i2 b3 i4 b5 i6 b7 b8 i9 i10 i11 i12))) ∧ (
    aC.J2 [.I i0, .I i1, .I i2, .B b3, .I i4, .B b5, .I i6, .B b7, .B b8, .I i9, .I i10, .I i11, .I i12, .I i16, .I i17, .I i18, .B b3, .I i4, .B b5, .I i6, .B b23, .B b24, .I i25, .I i26, .I i27, .I i28] ∧ (
 (aC.C2 i0 i1 i2 b3 i4 b5 i6 b7 b8 i9 i10 i11 i12))))) ∧ (
   aC.J2 [.I i0, .I i1, .I i2, .B b3, .I i4, .B b5, .I i6, .B b7, .B b8, .I i9, .I i10, .I i11, .I i12, .I i16, .I i17, .I i18, .B b3, .I i4, .B b5, .I i6, .B b23, .B b24, .I i25, .I i26, .I i27, .I i28] ∧ (
 (aC.C2 i0 i1 i2 b3 i4 b5 i6 b7 b8 i9 i10 i11 i12))))) ∧ (
 (8 < i0) →
 ((
 (i0 = 16) →
 ((
 ((
    aC.J2 [.I i0, .I i1, .I i2, .B b3, .I i4, .B b5, .I i6, .B b7, .B b8, .I i9, .I i10, .I i11, .I i12, .I i16, .I i17, .I i18, .B b3, .I i4, .B b5, .I i6, .B b23, .B b24, .I i25, .I i26, .I i27, .I i28] ∧ (
 (aC.C2 i0 i1 i2 b3 i4 b5 i6 b7 b8 i9 i10 i11 i12))) ∧ (
    aC.J2 [.I i0, .I i1, .I i2, .B b3, .I i4, .B b5, .I i6, .B b7, .B b8, .I i9, .I i10, .I i11, .I i12, .I i16, .I i17, .I i18, .B b3, .I i4, .B b5, .I i6, .B b23, .B b24, .I i25, .I i26, .I i27, .I i28] ∧ (
 (aC.C2 i0 i1 i2 b3 i4 b5 i6 b7 b8 i9 i10 i11 i12))))) ∧ (
    aC.J2 [.I i0, .I i1, .I i2, .B b3, .I i4, .B b5, .I i6, .B b7, .B b8, .I i9, .I i10, .I i11, .I i12, .I i16, .I i17, .I i18, .B b3, .I i4, .B b5, .I i6, .B b23, .B b24, .I i25, .I i26, .I i27, .I i28] ∧ (
 (aC.C2 i0 i1 i2 b3 i4 b5 i6 b7 b8 i9 i10 i11 i12))))) ∧ (
 (i0 ≠ 16) →
 ((
 (i0 = 17) →
 ((
 ((
     aC.J2 [.I i0, .I i1, .I i2, .B b3, .I i4, .B b5, .I i6, .B b7, .B b8, .I i9, .I i10, .I i11, .I i12, .I i16, .I i17, .I i18, .B b3, .I i4, .B b5, .I i6, .B b23, .B b24, .I i25, .I i26, .I i27, .I i28] ∧ (
 (aC.C2 i0 i1 i2 b3 i4 b5 i6 b7 b8 i9 i10 i11 i12))) ∧ (
     aC.J2 [.I i0, .I i1, .I i2, .B b3, .I i4, .B b5, .I i6, .B b7, .B b8, .I i9, .I i10, .I i11, .I i12, .I i16, .I i17, .I i18, .B b3, .I i4, .B b5, .I i6, .B b23, .B b24, .I i25, .I i26, .I i27, .I i28] ∧ (
 (aC.C2 i0 i1 i2 b3 i4 b5 i6 b7 b8 i9 i10 i11 i12))))) ∧ (
    aC.J2 [.I i0, .I i1, .I i2, .B b3, .I i4, .B b5, .I i6, .B b7, .B b8, .I i9, .I i10, .I i11, .I i12, .I i16, .I i17, .I i18, .B b3, .I i4, .B b5, .I i6, .B b23, .B b24, .I i25, .I i26, .I i27, .I i28] ∧ (
 (aC.C2 i0 i1 i2 b3 i4 b5 i6 b7 b8 i9 i10 i11 i12))))) ∧ (
 (i0 ≠ 17) →
    aC.J2 [.I i0, .I i1, .I i2, .B b3, .I i4, .B b5, .I i6, .B b7, .B b8, .I i9, .I i10, .I i11, .I i12, .I i16, .I i17, .I i18, .B b19, .I i20, .B b21, .I i22, .B b23, .B b24, .I i25, .I i26, .I i27, .I i28] ∧ (
 (aC.C2 i0 i1 i2 b3 i4 b5 i6 b7 b8 i9 i10 i11 i12))))))))) ∧ (
 (i0 < 2) →
 ((
 (i0 = 16) →
 ((
 ((
    aC.J2 [.I i0, .I i1, .I i2, .B b3, .I i4, .B b5, .I i6, .B b7, .B b8, .I i9, .I i10, .I i11, .I i12, .I i16, .I i17, .I i18, .B b3, .I i4, .B b5, .I i6, .B b23, .B b24, .I i25, .I i26, .I i27, .I i28] ∧ (
 (aC.C2 i0 i1 i2 b3 i4 b5 i6 b7 b8 i9 i10 i11 i12))) ∧ (
    aC.J2 [.I i0, .I i1, .I i2, .B b3, .I i4, .B b5, .I i6, .B b7, .B b8, .I i9, .I i10, .I i11, .I i12, .I i16, .I i17, .I i18, .B b3, .I i4, .B b5, .I i6, .B b23, .B b24, .I i25, .I i26, .I i27, .I i28] ∧ (
 (aC.C2 i0 i1 i2 b3 i4 b5 i6 b7 b8 i9 i10 i11 i12))))) ∧ (
   aC.J2 [.I i0, .I i1, .I i2, .B b3, .I i4, .B b5, .I i6, .B b7, .B b8, .I i9, .I i10, .I i11, .I i12, .I i16, .I i17, .I i18, .B b3, .I i4, .B b5, .I i6, .B b23, .B b24, .I i25, .I i26, .I i27, .I i28] ∧ (
 (aC.C2 i0 i1 i2 b3 i4 b5 i6 b7 b8 i9 i10 i11 i12))))) ∧ (
 (i0 ≠ 16) →
 ((
 (i0 = 17) →
 ((
 ((
    aC.J2 [.I i0, .I i1, .I i2, .B b3, .I i4, .B b5, .I i6, .B b7, .B b8, .I i9, .I i10, .I i11, .I i12, .I i16, .I i17, .I i18, .B b3, .I i4, .B b5, .I i6, .B b23, .B b24, .I i25, .I i26, .I i27, .I i28] ∧ (
 (aC.C2 i0 i1 i2 b3 i4 b5 i6 b7 b8 i9 i10 i11 i12))) ∧ (
    aC.J2 [.I i0, .I i1, .I i2, .B b3, .I i4, .B b5, .I i6, .B b7, .B b8, .I i9, .I i10, .I i11, .I i12, .I i16, .I i17, .I i18, .B b3, .I i4, .B b5, .I i6, .B b23, .B b24, .I i25, .I i26, .I i27, .I i28] ∧ (
 (aC.C2 i0 i1 i2 b3 i4 b5 i6 b7 b8 i9 i10 i11 i12))))) ∧ (
    aC.J2 [.I i0, .I i1, .I i2, .B b3, .I i4, .B b5, .I i6, .B b7, .B b8, .I i9, .I i10, .I i11, .I i12, .I i16, .I i17, .I i18, .B b3, .I i4, .B b5, .I i6, .B b23, .B b24, .I i25, .I i26, .I i27, .I i28] ∧ (
 (aC.C2 i0 i1 i2 b3 i4 b5 i6 b7 b8 i9 i10 i11 i12))))) ∧ (
 (i0 ≠ 17) →
   aC.J2 [.I i0, .I i1, .I i2, .B b3, .I i4, .B b5, .I i6, .B b7, .B b8, .I i9, .I i10, .I i11, .I i12, .I i16, .I i17, .I i18, .B b19, .I i20, .B b21, .I i22, .B b23, .B b24, .I i25, .I i26, .I i27, .I i28] ∧ (
 (aC.C2 i0 i1 i2 b3 i4 b5 i6 b7 b8 i9 i10 i11 i12)))))))))))))
def aC.C0 (i0 : Int) (i1 : Int) (i2 : Int) (b3 : Bool) (i4 : Int) (b5 : Bool) (i6 : Int) (b7 : Bool) (b8 : Bool) (i9 : Int) (i10 : Int) (i11 : Int) (i12 : Int) : Prop :=
 ∀ n13 n14 n15 : Nat,
 ∀ i16 i17 i18 : Int,
 ∀ b19 : Bool,
 ∀ i20 : Int,
 ∀ b21 : Bool,
 ∀ i22 : Int,
 ∀ b23 b24 : Bool,
 ∀ i25 i26 i27 i28 : Int,
 R64 i16 →
 R64 i17 →
 R64 i18 →
 U64 i20 →
 U64 i22 →
 R64 i25 →
 R64 i26 →
 R64 i27 →
 R64 i28 →
 aC.J0 [.I i0, .I i1, .I i2, .B b3, .I i4, .B b5, .I i6, .B b7, .B b8, .I i9, .I i10, .I i11, .I i12, .I i16, .I i17, .I i18, .B b19, .I i20, .B b21, .I i22, .B b23, .B b24, .I i25, .I i26, .I i27, .I i28] →
 dW.sig.pre [.I i0, .I i1, .I i2, .B b3, .I i4, .B b5, .I i6, .B b7, .B b8, .I i9, .I i10, .I i11, .I i12] ∧ (
 ∀ b29 : Bool,
 dW.sig.post [.I i0, .I i1, .I i2, .B b3, .I i4, .B b5, .I i6, .B b7, .B b8, .I i9, .I i10, .I i11, .I i12, .B b29] →
 ((
 (b29 = true) →
  aC.J1 [.I i0, .I i1, .I i2, .B b3, .I i4, .B b5, .I i6, .B b7, .B b8, .I i9, .I i10, .I i11, .I i12, .I i16, .I i17, .I i2, .B b19, .I i20, .B b21, .I i22, .B b7, .B b8, .I i9, .I i26, .I i27, .I i28] ∧ (
 (aC.C1 i0 i1 i2 b3 i4 b5 i6 b7 b8 i9 i10 i11 i12))) ∧ (
 (b29 = false) →
  aC.J1 [.I i0, .I i1, .I i2, .B b3, .I i4, .B b5, .I i6, .B b7, .B b8, .I i9, .I i10, .I i11, .I i12, .I i16, .I i17, .I i18, .B b19, .I i20, .B b21, .I i22, .B b23, .B b24, .I i25, .I i26, .I i27, .I i28] ∧ (
 (aC.C1 i0 i1 i2 b3 i4 b5 i6 b7 b8 i9 i10 i11 i12)))))
def aC.Pure : Prop :=
 ∀ i0 i1 i2 : Int,
 ∀ b3 : Bool,
 ∀ i4 : Int,
 ∀ b5 : Bool,
 ∀ i6 : Int,
 ∀ b7 b8 : Bool,
 ∀ i9 i10 i11 i12 : Int,
 R64 i0 →
 R64 i1 →
 R64 i2 →
 U64 i4 →
 U64 i6 →
 R64 i9 →
 R64 i10 →
 R64 i11 →
 R64 i12 →
 aC.sig.pre [.I i0, .I i1, .I i2, .B b3, .I i4, .B b5, .I i6, .B b7, .B b8, .I i9, .I i10, .I i11, .I i12] →
 ∀ n13 n14 n15 : Nat,
 iW.sig.pre [.I i0, .I i1, .I i2, .B b3, .I i4, .B b5, .I i6, .B b7, .B b8, .I i9, .I i10, .I i11, .I i12] ∧ (
 ∀ b16 : Bool,
 iW.sig.post [.I i0, .I i1, .I i2, .B b3, .I i4, .B b5, .I i6, .B b7, .B b8, .I i9, .I i10, .I i11, .I i12, .B b16] →
 ((
 (b16 = true) →
  aC.J0 [.I i0, .I i1, .I i2, .B b3, .I i4, .B b5, .I i6, .B b7, .B b8, .I i9, .I i10, .I i11, .I i12, .I i0, .I i1, .I 0, .B false, .I 0, .B false, .I 0, .B false, .B false, .I 0, .I 0, .I 0, .I 0] ∧ (
 (aC.C0 i0 i1 i2 b3 i4 b5 i6 b7 b8 i9 i10 i11 i12))) ∧ (
 (b16 = false) →
  aC.J0 [.I i0, .I i1, .I i2, .B b3, .I i4, .B b5, .I i6, .B b7, .B b8, .I i9, .I i10, .I i11, .I i12, .I i0, .I 0, .I 0, .B false, .I 0, .B false, .I 0, .B false, .B false, .I 0, .I 0, .I 0, .I 0] ∧ (
 (aC.C0 i0 i1 i2 b3 i4 b5 i6 b7 b8 i9 i10 i11 i12)))))
def bU.Pure : Prop :=
 ∀ n0 : Nat,
 ∀ v1 : Value,
 ∀ l2 : LD,
 ∀ v3 : Value,
 ∀ l4 : LD,
 ∀ v5 : Value,
 ∀ l6 : LD,
 (EK.ok [.str, .int .u64] (D.L l2)) →
 (EK.ok [.sl [.int .i64, .int .i64, .int .i64, .bool, .int .u64, .bool, .int .u64, .bool, .bool, .int .i64, .int .i64, .int .i64, .int .i64]] (D.L l4)) →
 (EK.ok [.int .i64, .int .i64, .int .u64] (D.L l6)) →
 bU.sig.pre [.N n0, .V v1, .L l2, .V v3, .L l4, .V v5, .L l6] →
 bU.I0 [.N n0, .V v1, .L l2, .V v3, .L l4, .V v5, .L l6, .I 0, .I 0] ∧ (
 ∀ i7 i8 : Int,
 R64 i7 →
 R64 i8 →
 bU.I0 [.N n0, .V v1, .L l2, .V v3, .L l4, .V v5, .L l6, .I i7, .I i8] →
 ((
 (i8 < (l4.length : Int)) →
 Im (0 ≤ i8) (
  bU.I1 [.N n0, .V v1, .L l2, .V v3, .L l4, .V v5, .L l6, .I i8, .I i7, .I 0] ∧ (
 ∀ i9 i10 : Int,
 R64 i9 →
 R64 i10 →
  bU.I1 [.N n0, .V v1, .L l2, .V v3, .L l4, .V v5, .L l6, .I i8, .I i9, .I i10] →
 ((
 (i10 < (((l4.getD i8.toNat default).toL.getD (1 : Int).toNat default).toL.length : Int)) →
 Im (0 ≤ i10) (
 ∀ n11 : Nat,
  lOf.sig.pre [(D.I ((((l4.getD i8.toNat default).toL.getD (1 : Int).toNat default).toL.getD i10.toNat default).toL.getD (0 : Int).toNat default).toI), (D.I ((((l4.getD i8.toNat default).toL.getD (1 : Int).toNat default).toL.getD i10.toNat default).toL.getD (1 : Int).toNat default).toI), (D.I ((((l4.getD i8.toNat default).toL.getD (1 : Int).toNat default).toL.getD i10.toNat default).toL.getD (2 : Int).toNat default).toI), (D.B ((((l4.getD i8.toNat default).toL.getD (1 : Int).toNat default).toL.getD i10.toNat default).toL.getD (3 : Int).toNat default).toB), (D.I ((((l4.getD i8.toNat default).toL.getD (1 : Int).toNat default).toL.getD i10.toNat default).toL.getD (4 : Int).toNat default).toI), (D.B ((((l4.getD i8.toNat default).toL.getD (1 : Int).toNat default).toL.getD i10.toNat default).toL.getD (5 : Int).toNat default).toB), (D.I ((((l4.getD i8.toNat default).toL.getD (1 : Int).toNat default).toL.getD i10.toNat default).toL.getD (6 : Int).toNat default).toI), (D.B ((((l4.getD i8.toNat default).toL.getD (1 : Int).toNat default).toL.getD i10.toNat default).toL.getD (7 : Int).toNat default).toB), (D.B ((((l4.getD i8.toNat default).toL.getD (1 : Int).toNat default).toL.getD i10.toNat default).toL.getD (8 : Int).toNat default).toB), (D.I ((((l4.getD i8.toNat default).toL.getD (1 : Int).toNat default).toL.getD i10.toNat default).toL.getD (9 : Int).toNat default).toI), (D.I ((((l4.getD i8.toNat default).toL.getD (1 : Int).toNat default).toL.getD i10.toNat default).toL.getD (10 : Int).toNat default).toI), (D.I ((((l4.getD i8.toNat default).toL.getD (1 : Int).toNat default).toL.getD i10.toNat default).toL.getD (11 : Int).toNat default).toI), (D.I ((((l4.getD i8.toNat default).toL.getD (1 : Int).toNat default).toL.getD i10.toNat default).toL.getD (12 : Int).toNat default).toI)] ∧ (
 ∀ b12 b13 : Bool,
  lOf.sig.post [(D.I ((((l4.getD i8.toNat default).toL.getD (1 : Int).toNat default).toL.getD i10.toNat default).toL.getD (0 : Int).toNat default).toI), (D.I ((((l4.getD i8.toNat default).toL.getD (1 : Int).toNat default).toL.getD i10.toNat default).toL.getD (1 : Int).toNat default).toI), (D.I ((((l4.getD i8.toNat default).toL.getD (1 : Int).toNat default).toL.getD i10.toNat default).toL.getD (2 : Int).toNat default).toI), (D.B ((((l4.getD i8.toNat default).toL.getD (1 : Int).toNat default).toL.getD i10.toNat default).toL.getD (3 : Int).toNat default).toB), (D.I ((((l4.getD i8.toNat default).toL.getD (1 : Int).toNat default).toL.getD i10.toNat default).toL.getD (4 : Int).toNat default).toI), (D.B ((((l4.getD i8.toNat default).toL.getD (1 : Int).toNat default).toL.getD i10.toNat default).toL.getD (5 : Int).toNat default).toB), (D.I ((((l4.getD i8.toNat default).toL.getD (1 : Int).toNat default).toL.getD i10.toNat default).toL.getD (6 : Int).toNat default).toI), (D.B ((((l4.getD i8.toNat default).toL.getD (1 : Int).toNat default).toL.getD i10.toNat default).toL.getD (7 : Int).toNat default).toB), (D.B ((((l4.getD i8.toNat default).toL.getD (1 : Int).toNat default).toL.getD i10.toNat default).toL.getD (8 : Int).toNat default).toB), (D.I ((((l4.getD i8.toNat default).toL.getD (1 : Int).toNat default).toL.getD i10.toNat default).toL.getD (9 : Int).toNat default).toI), (D.I ((((l4.getD i8.toNat default).toL.getD (1 : Int).toNat default).toL.getD i10.toNat default).toL.getD (10 : Int).toNat default).toI), (D.I ((((l4.getD i8.toNat default).toL.getD (1 : Int).toNat default).toL.getD i10.toNat default).toL.getD (11 : Int).toNat default).toI), (D.I ((((l4.getD i8.toNat default).toL.getD (1 : Int).toNat default).toL.getD i10.toNat default).toL.getD (12 : Int).toNat default).toI), .B b12, .B b13] →
 ∀ n14 : Nat,
 ((
 (b12 = true) →
 ((
 (b13 = true) →
   Bk bU.I1 bU.I1M [.N n0, .V v1, .L l2, .V v3, .L l4, .V v5, .L l6, .I i8, .I (wrap .i64 ((wrap .i64 (i9 + 1)) + 1)), .I (wrap .i64 (i10 + 1))] [.N n0, .V v1, .L l2, .V v3, .L l4, .V v5, .L l6, .I i8, .I i9, .I i10]) ∧ (
 (b13 = false) →
   Bk bU.I1 bU.I1M [.N n0, .V v1, .L l2, .V v3, .L l4, .V v5, .L l6, .I i8, .I (wrap .i64 (i9 + 1)), .I (wrap .i64 (i10 + 1))] [.N n0, .V v1, .L l2, .V v3, .L l4, .V v5, .L l6, .I i8, .I i9, .I i10]))) ∧ (
 (b12 = false) →
 ((
 (b13 = true) →
   Bk bU.I1 bU.I1M [.N n0, .V v1, .L l2, .V v3, .L l4, .V v5, .L l6, .I i8, .I (wrap .i64 (i9 + 1)), .I (wrap .i64 (i10 + 1))] [.N n0, .V v1, .L l2, .V v3, .L l4, .V v5, .L l6, .I i8, .I i9, .I i10]) ∧ (
 (b13 = false) →
   Bk bU.I1 bU.I1M [.N n0, .V v1, .L l2, .V v3, .L l4, .V v5, .L l6, .I i8, .I i9, .I (wrap .i64 (i10 + 1))] [.N n0, .V v1, .L l2, .V v3, .L l4, .V v5, .L l6, .I i8, .I i9, .I i10]))))))) ∧ (
 ((((l4.getD i8.toNat default).toL.getD (1 : Int).toNat default).toL.length : Int) ≤ i10) →
   Bk bU.I0 bU.I0M [.N n0, .V v1, .L l2, .V v3, .L l4, .V v5, .L l6, .I i9, .I (wrap .i64 (i8 + 1))] [.N n0, .V v1, .L l2, .V v3, .L l4, .V v5, .L l6, .I i7, .I i8]))))) ∧ (
 ((l4.length : Int) ≤ i8) →
  bU.sig.post [.N n0, .V v1, .L l2, .V v3, .L l4, .V v5, .L l6, .I i7])))
def aG.C3 (n0 : Nat) (v1 : Value) (l2 : LD) (v3 : Value) (l4 : LD) (v5 : Value) (l6 : LD) (i7 : Int) (i8 : Int) (i9 : Int) (b10 : Bool) (i11 : Int) (b12 : Bool) (i13 : Int) (b14 : Bool) (b15 : Bool) (i16 : Int) (i17 : Int) (i18 : Int) (i19 : Int) (i20 : Int) : Prop :=
 ∀ n21 : Nat,
 aG.J3 [.N n0, .V v1, .L l2, .V v3, .L l4, .V v5, .L l6, .I i7, .I i8, .I i9, .B b10, .I i11, .B b12, .I i13, .B b14, .B b15, .I i16, .I i17, .I i18, .I i19, .I i20] →
 ((
 (i19 < 0) →
  aG.sig.post [.N n0, .V v1, .L l2, .V v3, .L l4, .V v5, .L l6, .I i7, .I i8, .I i9, .B b10, .I i11, .B b12, .I i13, .B b14, .B b15, .I i16, .I i17, .I i18, .I i19, .I i20, .I 13]) ∧ (
 (0 ≤ i19) →
 ((
 (i20 < i19) →
  aG.sig.post [.N n0, .V v1, .L l2, .V v3, .L l4, .V v5, .L l6, .I i7, .I i8, .I i9, .B b10, .I i11, .B b12, .I i13, .B b14, .B b15, .I i16, .I i17, .I i18, .I i19, .I i20, .I 13]) ∧ (
 (i19 ≤ i20) →
  aG.sig.post [.N n0, .V v1, .L l2, .V v3, .L l4, .V v5, .L l6, .I i7, .I i8, .I i9, .B b10, .I i11, .B b12, .I i13, .B b14, .B b15, .I i16, .I i17, .I i18, .I i19, .I i20, .I 0]))))
def aG.C2 (n0 : Nat) (v1 : Value) (l2 : LD) (v3 : Value) (l4 : LD) (v5 : Value) (l6 : LD) (i7 : Int) (i8 : Int) (i9 : Int) (b10 : Bool) (i11 : Int) (b12 : Bool) (i13 : Int) (b14 : Bool) (b15 : Bool) (i16 : Int) (i17 : Int) (i18 : Int) (i19 : Int) (i20 : Int) : Prop :=
 ∀ n21 : Nat,
 aG.J2 [.N n0, .V v1, .L l2, .V v3, .L l4, .V v5, .L l6, .I i7, .I i8, .I i9, .B b10, .I i11, .B b12, .I i13, .B b14, .B b15, .I i16, .I i17, .I i18, .I i19, .I i20] →
 ((
 (b14 = true) →
  lOf.sig.pre [.I i7, .I i8, .I i9, .B b10, .I i11, .B b12, .I i13, .B b14, .B b15, .I i16, .I i17, .I i18, .I i19] ∧ (
 ∀ b22 b23 : Bool,
  lOf.sig.post [.I i7, .I i8, .I i9, .B b10, .I i11, .B b12, .I i13, .B b14, .B b15, .I i16, .I i17, .I i18, .I i19, .B b22, .B b23] →
 ((
 (b22 = false) →
  aG.sig.post [.N n0, .V v1, .L l2, .V v3, .L l4, .V v5, .L l6, .I i7, .I i8, .I i9, .B b10, .I i11, .B b12, .I i13, .B b14, .B b15, .I i16, .I i17, .I i18, .I i19, .I i20, .I 3]) ∧ (
 (b22 = true) →
 ((
 (b15 = true) →
  lOf.sig.pre [.I i7, .I i8, .I i9, .B b10, .I i11, .B b12, .I i13, .B b14, .B b15, .I i16, .I i17, .I i18, .I i19] ∧ (
 ∀ b24 b25 : Bool,
  lOf.sig.post [.I i7, .I i8, .I i9, .B b10, .I i11, .B b12, .I i13, .B b14, .B b15, .I i16, .I i17, .I i18, .I i19, .B b24, .B b25] →
 ((
 (b25 = false) →
   aG.sig.post [.N n0, .V v1, .L l2, .V v3, .L l4, .V v5, .L l6, .I i7, .I i8, .I i9, .B b10, .I i11, .B b12, .I i13, .B b14, .B b15, .I i16, .I i17, .I i18, .I i19, .I i20, .I 3]) ∧ (
 (b25 = true) →
   aG.J3 [.N n0, .V v1, .L l2, .V v3, .L l4, .V v5, .L l6, .I i7, .I i8, .I i9, .B b10, .I i11, .B b12, .I i13, .B b14, .B b15, .I i16, .I i17, .I i18, .I i19, .I i20] ∧ (
 (aG.C3 n0 v1 l2 v3 l4 v5 l6 i7 i8 i9 b10 i11 b12 i13 b14 b15 i16 i17 i18 i19 i20)))))) ∧ (
 (b15 = false) →
  aG.J3 [.N n0, .V v1, .L l2, .V v3, .L l4, .V v5, .L l6, .I i7, .I i8, .I i9, .B b10, .I i11, .B b12, .I i13, .B b14, .B b15, .I i16, .I i17, .I i18, .I i19, .I i20] ∧ (
 (aG.C3 n0 v1 l2 v3 l4 v5 l6 i7 i8 i9 b10 i11 b12 i13 b14 b15 i16 i17 i18 i19 i20)))))))) ∧ (
 (b14 = false) →
 ((
 (b15 = true) →
  lOf.sig.pre [.I i7, .I i8, .I i9, .B b10, .I i11, .B b12, .I i13, .B b14, .B b15, .I i16, .I i17, .I i18, .I i19] ∧ (
 ∀ b22 b23 : Bool,
  lOf.sig.post [.I i7, .I i8, .I i9, .B b10, .I i11, .B b12, .I i13, .B b14, .B b15, .I i16, .I i17, .I i18, .I i19, .B b22, .B b23] →
 ((
 (b23 = false) →
  aG.sig.post [.N n0, .V v1, .L l2, .V v3, .L l4, .V v5, .L l6, .I i7, .I i8, .I i9, .B b10, .I i11, .B b12, .I i13, .B b14, .B b15, .I i16, .I i17, .I i18, .I i19, .I i20, .I 3]) ∧ (
 (b23 = true) →
  aG.J3 [.N n0, .V v1, .L l2, .V v3, .L l4, .V v5, .L l6, .I i7, .I i8, .I i9, .B b10, .I i11, .B b12, .I i13, .B b14, .B b15, .I i16, .I i17, .I i18, .I i19, .I i20] ∧ (
 (aG.C3 n0 v1 l2 v3 l4 v5 l6 i7 i8 i9 b10 i11 b12 i13 b14 b15 i16 i17 i18 i19 i20)))))) ∧ (
 (b15 = false) →
  aG.J3 [.N n0, .V v1, .L l2, .V v3, .L l4, .V v5, .L l6, .I i7, .I i8, .I i9, .B b10, .I i11, .B b12, .I i13, .B b14, .B b15, .I i16, .I i17, .I i18, .I i19, .I i20] ∧ (
 (aG.C3 n0 v1 l2 v3 l4 v5 l6 i7 i8 i9 b10 i11 b12 i13 b14 b15 i16 i17 i18 i19 i20))))))
def aG.C1 (n0 : Nat) (v1 : Value) (l2 : LD) (v3 : Value) (l4 : LD) (v5 : Value) (l6 : LD) (i7 : Int) (i8 : Int) (i9 : Int) (b10 : Bool) (i11 : Int) (b12 : Bool) (i13 : Int) (b14 : Bool) (b15 : Bool) (i16 : Int) (i17 : Int) (i18 : Int) (i19 : Int) (i20 : Int) : Prop :=
 ∀ n21 : Nat,
 aG.J1 [.N n0, .V v1, .L l2, .V v3, .L l4, .V v5, .L l6, .I i7, .I i8, .I i9, .B b10, .I i11, .B b12, .I i13, .B b14, .B b15, .I i16, .I i17, .I i18, .I i19, .I i20] →
 ((
 (i7 = 15) →
 ((
 (i17 < 1) →
  aG.sig.post [.N n0, .V v1, .L l2, .V v3, .L l4, .V v5, .L l6, .I i7, .I i8, .I i9, .B b10, .I i11, .B b12, .I i13, .B b14, .B b15, .I i16, .I i17, .I i18, .I i19, .I i20, .I 3]) ∧ (
 (1 ≤ i17) →
 ((
 (3 < i17) →
  aG.sig.post [.N n0, .V v1, .L l2, .V v3, .L l4, .V v5, .L l6, .I i7, .I i8, .I i9, .B b10, .I i11, .B b12, .I i13, .B b14, .B b15, .I i16, .I i17, .I i18, .I i19, .I i20, .I 3]) ∧ (
 (i17 ≤ 3) →
 ((
 (i18 < 1) →
   aG.sig.post [.N n0, .V v1, .L l2, .V v3, .L l4, .V v5, .L l6, .I i7, .I i8, .I i9, .B b10, .I i11, .B b12, .I i13, .B b14, .B b15, .I i16, .I i17, .I i18, .I i19, .I i20, .I 3]) ∧ (
 (1 ≤ i18) →
 ((
 (3 < i18) →
   aG.sig.post [.N n0, .V v1, .L l2, .V v3, .L l4, .V v5, .L l6, .I i7, .I i8, .I i9, .B b10, .I i11, .B b12, .I i13, .B b14, .B b15, .I i16, .I i17, .I i18, .I i19, .I i20, .I 3]) ∧ (
 (i18 ≤ 3) →
   aG.J2 [.N n0, .V v1, .L l2, .V v3, .L l4, .V v5, .L l6, .I i7, .I i8, .I i9, .B b10, .I i11, .B b12, .I i13, .B b14, .B b15, .I i16, .I i17, .I i18, .I i19, .I i20] ∧ (
 (aG.C2 n0 v1 l2 v3 l4 v5 l6 i7 i8 i9 b10 i11 b12 i13 b14 b15 i16 i17 i18 i19 i20))))))))))) ∧ (
 (i7 ≠ 15) →
  aG.J2 [.N n0, .V v1, .L l2, .V v3, .L l4, .V v5, .L l6, .I i7, .I i8, .I i9, .B b10, .I i11, .B b12, .I i13, .B b14, .B b15, .I i16, .I i17, .I i18, .I i19, .I i20] ∧ (
 (aG.C2 n0 v1 l2 v3 l4 v5 l6 i7 i8 i9 b10 i11 b12 i13 b14 b15 i16 i17 i18 i19 i20))))
def aG.C0 (n0 : Nat) (v1 : Value) (l2 : LD) (v3 : Value) (l4 : LD) (v5 : Value) (l6 : LD) (i7 : Int) (i8 : Int) (i9 : Int) (b10 : Bool) (i11 : Int) (b12 : Bool) (i13 : Int) (b14 : Bool) (b15 : Bool) (i16 : Int) (i17 : Int) (i18 : Int) (i19 : Int) (i20 : Int) : Prop :=
 ∀ n21 : Nat,
 aG.J0 [.N n0, .V v1, .L l2, .V v3, .L l4, .V v5, .L l6, .I i7, .I i8, .I i9, .B b10, .I i11, .B b12, .I i13, .B b14, .B b15, .I i16, .I i17, .I i18, .I i19, .I i20] →
 ((
 (i7 = 1) →
 ((
 (b10 = true) →
  aG.sig.post [.N n0, .V v1, .L l2, .V v3, .L l4, .V v5, .L l6, .I i7, .I i8, .I i9, .B b10, .I i11, .B b12, .I i13, .B b14, .B b15, .I i16, .I i17, .I i18, .I i19, .I i20, .I 3]) ∧ (
 (b10 = false) →
  aG.J1 [.N n0, .V v1, .L l2, .V v3, .L l4, .V v5, .L l6, .I i7, .I i8, .I i9, .B b10, .I i11, .B b12, .I i13, .B b14, .B b15, .I i16, .I i17, .I i18, .I i19, .I i20] ∧ (
 (aG.C1 n0 v1 l2 v3 l4 v5 l6 i7 i8 i9 b10 i11 b12 i13 b14 b15 i16 i17 i18 i19 i20))))) ∧ (
 (i7 ≠ 1) →
  aG.J1 [.N n0, .V v1, .L l2, .V v3, .L l4, .V v5, .L l6, .I i7, .I i8, .I i9, .B b10, .I i11, .B b12, .I i13, .B b14, .B b15, .I i16, .I i17, .I i18, .I i19, .I i20] ∧ (
 (aG.C1 n0 v1 l2 v3 l4 v5 l6 i7 i8 i9 b10 i11 b12 i13 b14 b15 i16 i17 i18 i19 i20))))
def aG.Pure : Prop :=
 ∀ n0 : Nat,
 ∀ v1 : Value,
 ∀ l2 : LD,
 ∀ v3 : Value,
 ∀ l4 : LD,
 ∀ v5 : Value,
 ∀ l6 : LD,
 ∀ i7 i8 i9 : Int,
 ∀ b10 : Bool,
 ∀ i11 : Int,
 ∀ b12 : Bool,
 ∀ i13 : Int,
 ∀ b14 b15 : Bool,
 ∀ i16 i17 i18 i19 i20 : Int,
 R64 i7 →
 R64 i8 →
 R64 i9 →
 U64 i11 →
 U64 i13 →
 R64 i16 →
 R64 i17 →
 R64 i18 →
 R64 i19 →
 R64 i20 →
 (EK.ok [.str, .int .u64] (D.L l2)) →
 (EK.ok [.sl [.int .i64, .int .i64, .int .i64, .bool, .int .u64, .bool, .int .u64, .bool, .bool, .int .i64, .int .i64, .int .i64, .int .i64]] (D.L l4)) →
 (EK.ok [.int .i64, .int .i64, .int .u64] (D.L l6)) →
 aG.sig.pre [.N n0, .V v1, .L l2, .V v3, .L l4, .V v5, .L l6, .I i7, .I i8, .I i9, .B b10, .I i11, .B b12, .I i13, .B b14, .B b15, .I i16, .I i17, .I i18, .I i19, .I i20] →
 ∀ n21 : Nat,
 ((
 (i7 < 1) →
  aG.sig.post [.N n0, .V v1, .L l2, .V v3, .L l4, .V v5, .L l6, .I i7, .I i8, .I i9, .B b10, .I i11, .B b12, .I i13, .B b14, .B b15, .I i16, .I i17, .I i18, .I i19, .I i20, .I 3]) ∧ (
 (1 ≤ i7) →
 ((
 (17 < i7) →
  aG.sig.post [.N n0, .V v1, .L l2, .V v3, .L l4, .V v5, .L l6, .I i7, .I i8, .I i9, .B b10, .I i11, .B b12, .I i13, .B b14, .B b15, .I i16, .I i17, .I i18, .I i19, .I i20, .I 3]) ∧ (
 (i7 ≤ 17) →
  aC.sig.pre [.I i7, .I i8, .I i9, .B b10, .I i11, .B b12, .I i13, .B b14, .B b15, .I i16, .I i17, .I i18, .I i19] ∧ (
 ∀ i22 i23 i24 : Int,
 ∀ b25 : Bool,
 ∀ i26 : Int,
 ∀ b27 : Bool,
 ∀ i28 : Int,
 ∀ b29 b30 : Bool,
 ∀ i31 i32 i33 i34 : Int,
  aC.sig.post [.I i7, .I i8, .I i9, .B b10, .I i11, .B b12, .I i13, .B b14, .B b15, .I i16, .I i17, .I i18, .I i19, .I i22, .I i23, .I i24, .B b25, .I i26, .B b27, .I i28, .B b29, .B b30, .I i31, .I i32, .I i33, .I i34] →
 R64 i22 →
 R64 i23 →
 R64 i24 →
 U64 i26 →
 U64 i28 →
 R64 i31 →
 R64 i32 →
 R64 i33 →
 R64 i34 →
 ((
 ((i22 ≠ i7) ∨ ((i23 ≠ i8) ∨ ((i24 ≠ i9) ∨ (((b25 ≠ b10) ∨ (i26 ≠ i11)) ∨ (((b27 ≠ b12) ∨ (i28 ≠ i13)) ∨ ((b29 ≠ b14) ∨ ((b30 ≠ b15) ∨ ((i31 ≠ i16) ∨ ((i32 ≠ i17) ∨ ((i33 ≠ i18) ∨ (i34 ≠ i19))))))))))) →
  aG.sig.post [.N n0, .V v1, .L l2, .V v3, .L l4, .V v5, .L l6, .I i7, .I i8, .I i9, .B b10, .I i11, .B b12, .I i13, .B b14, .B b15, .I i16, .I i17, .I i18, .I i19, .I i20, .I 3]) ∧ (
 ((i22 = i7) ∧ ((i23 = i8) ∧ ((i24 = i9) ∧ (((b25 = b10) ∧ (i26 = i11)) ∧ (((b27 = b12) ∧ (i28 = i13)) ∧ ((b29 = b14) ∧ ((b30 = b15) ∧ ((i31 = i16) ∧ ((i32 = i17) ∧ ((i33 = i18) ∧ (i34 = i19))))))))))) →
 ((
 (i8 < 0) →
   aG.sig.post [.N n0, .V v1, .L l2, .V v3, .L l4, .V v5, .L l6, .I i7, .I i8, .I i9, .B b10, .I i11, .B b12, .I i13, .B b14, .B b15, .I i16, .I i17, .I i18, .I i19, .I i20, .I 11]) ∧ (
 (0 ≤ i8) →
 ((
 (8 ≤ i8) →
   aG.sig.post [.N n0, .V v1, .L l2, .V v3, .L l4, .V v5, .L l6, .I i7, .I i8, .I i9, .B b10, .I i11, .B b12, .I i13, .B b14, .B b15, .I i16, .I i17, .I i18, .I i19, .I i20, .I 11]) ∧ (
 (i8 < 8) →
   jV.sig.pre [.B b10, .I i11] ∧ (
 ∀ b35 : Bool,
   jV.sig.post [.B b10, .I i11, .B b35] →
 ((
 (b35 = false) →
    aG.sig.post [.N n0, .V v1, .L l2, .V v3, .L l4, .V v5, .L l6, .I i7, .I i8, .I i9, .B b10, .I i11, .B b12, .I i13, .B b14, .B b15, .I i16, .I i17, .I i18, .I i19, .I i20, .I 11]) ∧ (
 (b35 = true) →
    jV.sig.pre [.B b12, .I i13] ∧ (
 ∀ b36 : Bool,
    jV.sig.post [.B b12, .I i13, .B b36] →
 ((
 (b36 = false) →
    aG.sig.post [.N n0, .V v1, .L l2, .V v3, .L l4, .V v5, .L l6, .I i7, .I i8, .I i9, .B b10, .I i11, .B b12, .I i13, .B b14, .B b15, .I i16, .I i17, .I i18, .I i19, .I i20, .I 11]) ∧ (
 (b36 = true) →
 ((
 (i16 < 0) →
     aG.sig.post [.N n0, .V v1, .L l2, .V v3, .L l4, .V v5, .L l6, .I i7, .I i8, .I i9, .B b10, .I i11, .B b12, .I i13, .B b14, .B b15, .I i16, .I i17, .I i18, .I i19, .I i20, .I 11]) ∧ (
 (0 ≤ i16) →
 ((
 (8 < i16) →
     aG.sig.post [.N n0, .V v1, .L l2, .V v3, .L l4, .V v5, .L l6, .I i7, .I i8, .I i9, .B b10, .I i11, .B b12, .I i13, .B b14, .B b15, .I i16, .I i17, .I i18, .I i19, .I i20, .I 11]) ∧ (
 (i16 ≤ 8) →
     dW.sig.pre [.I i7, .I i8, .I i9, .B b10, .I i11, .B b12, .I i13, .B b14, .B b15, .I i16, .I i17, .I i18, .I i19] ∧ (
 ∀ b37 : Bool,
     dW.sig.post [.I i7, .I i8, .I i9, .B b10, .I i11, .B b12, .I i13, .B b14, .B b15, .I i16, .I i17, .I i18, .I i19, .B b37] →
 ((
 (b37 = true) →
 ((
 (i9 < 0) →
      aG.sig.post [.N n0, .V v1, .L l2, .V v3, .L l4, .V v5, .L l6, .I i7, .I i8, .I i9, .B b10, .I i11, .B b12, .I i13, .B b14, .B b15, .I i16, .I i17, .I i18, .I i19, .I i20, .I 11]) ∧ (
 (0 ≤ i9) →
 ((
 ((l2.length : Int) ≤ i9) →
       aG.sig.post [.N n0, .V v1, .L l2, .V v3, .L l4, .V v5, .L l6, .I i7, .I i8, .I i9, .B b10, .I i11, .B b12, .I i13, .B b14, .B b15, .I i16, .I i17, .I i18, .I i19, .I i20, .I 11]) ∧ (
 (i9 < (l2.length : Int)) →
       aG.J0 [.N n0, .V v1, .L l2, .V v3, .L l4, .V v5, .L l6, .I i7, .I i8, .I i9, .B b10, .I i11, .B b12, .I i13, .B b14, .B b15, .I i16, .I i17, .I i18, .I i19, .I i20] ∧ (
 (aG.C0 n0 v1 l2 v3 l4 v5 l6 i7 i8 i9 b10 i11 b12 i13 b14 b15 i16 i17 i18 i19 i20))))))) ∧ (
 (b37 = false) →
      aG.J0 [.N n0, .V v1, .L l2, .V v3, .L l4, .V v5, .L l6, .I i7, .I i8, .I i9, .B b10, .I i11, .B b12, .I i13, .B b14, .B b15, .I i16, .I i17, .I i18, .I i19, .I i20] ∧ (
 (aG.C0 n0 v1 l2 v3 l4 v5 l6 i7 i8 i9 b10 i11 b12 i13 b14 b15 i16 i17 i18 i19 i20))))))))))))))))))))))))))
def dX.Pure : Prop :=
 ∀ n0 : Nat,
 ∀ v1 : Value,
 ∀ l2 : LD,
 ∀ v3 : Value,
 ∀ l4 : LD,
 ∀ v5 : Value,
 ∀ l6 : LD,
 (EK.ok [.str, .int .u64] (D.L l2)) →
 (EK.ok [.sl [.int .i64, .int .i64, .int .i64, .bool, .int .u64, .bool, .int .u64, .bool, .bool, .int .i64, .int .i64, .int .i64, .int .i64]] (D.L l4)) →
 (EK.ok [.int .i64, .int .i64, .int .u64] (D.L l6)) →
 dX.sig.pre [.N n0, .V v1, .L l2, .V v3, .L l4, .V v5, .L l6] →
 ((
 ((l4.length : Int) = (0 : Int)) →
  dX.sig.post [.N n0, .V v1, .L l2, .V v3, .L l4, .V v5, .L l6, .I 15]) ∧ (
 ((l4.length : Int) ≠ (0 : Int)) →
 ((
 (4 < (l4.length : Int)) →
  dX.sig.post [.N n0, .V v1, .L l2, .V v3, .L l4, .V v5, .L l6, .I 12]) ∧ (
 ((l4.length : Int) ≤ (4 : Int)) →
 ((
 (8 < (l2.length : Int)) →
  dX.sig.post [.N n0, .V v1, .L l2, .V v3, .L l4, .V v5, .L l6, .I 12]) ∧ (
 ((l2.length : Int) ≤ (8 : Int)) →
 ((
 (40 < (l6.length : Int)) →
   dX.sig.post [.N n0, .V v1, .L l2, .V v3, .L l4, .V v5, .L l6, .I 12]) ∧ (
 ((l6.length : Int) ≤ (40 : Int)) →
   dX.I0 [.N n0, .V v1, .L l2, .V v3, .L l4, .V v5, .L l6, .I 0] ∧ (
 ∀ i7 : Int,
 R64 i7 →
   dX.I0 [.N n0, .V v1, .L l2, .V v3, .L l4, .V v5, .L l6, .I i7] →
 ((
 (i7 < (l4.length : Int)) →
 Im (0 ≤ i7) (
 ((
 (8 < (((l4.getD i7.toNat default).toL.getD (1 : Int).toNat default).toL.length : Int)) →
       dX.sig.post [.N n0, .V v1, .L l2, .V v3, .L l4, .V v5, .L l6, .I 12]) ∧ (
 ((((l4.getD i7.toNat default).toL.getD (1 : Int).toNat default).toL.length : Int) ≤ (8 : Int)) →
    Bk dX.I0 dX.I0M [.N n0, .V v1, .L l2, .V v3, .L l4, .V v5, .L l6, .I (wrap .i64 (i7 + 1))] [.N n0, .V v1, .L l2, .V v3, .L l4, .V v5, .L l6, .I i7])))) ∧ (
 ((l4.length : Int) ≤ i7) →
   bU.sig.pre [.N n0, .V v1, .L l2, .V v3, .L l4, .V v5, .L l6] ∧ (
 ∀ i8 : Int,
   bU.sig.post [.N n0, .V v1, .L l2, .V v3, .L l4, .V v5, .L l6, .I i8] →
 R64 i8 →
 ((
 (8 < i8) →
    dX.sig.post [.N n0, .V v1, .L l2, .V v3, .L l4, .V v5, .L l6, .I 12]) ∧ (
 (i8 ≤ 8) →
    dX.sig.post [.N n0, .V v1, .L l2, .V v3, .L l4, .V v5, .L l6, .I 0]))))))))))))))
def gQ.Pure : Prop :=
 ∀ n0 : Nat,
 ∀ v1 : Value,
 ∀ l2 : LD,
 ∀ v3 : Value,
 ∀ l4 : LD,
 ∀ v5 : Value,
 ∀ l6 : LD,
 ∀ i7 i8 i9 : Int,
 R64 i7 →
 R64 i8 →
 U64 i9 →
 (EK.ok [.str, .int .u64] (D.L l2)) →
 (EK.ok [.sl [.int .i64, .int .i64, .int .i64, .bool, .int .u64, .bool, .int .u64, .bool, .bool, .int .i64, .int .i64, .int .i64, .int .i64]] (D.L l4)) →
 (EK.ok [.int .i64, .int .i64, .int .u64] (D.L l6)) →
 gQ.sig.pre [.N n0, .V v1, .L l2, .V v3, .L l4, .V v5, .L l6, .I i7, .I i8, .I i9] →
 ∀ n10 : Nat,
 ((
 (0 ≤ i7) →
 ((
 (i7 < (-1 : Int)) →
  gQ.sig.post [.N n0, .V v1, .L l2, .V v3, .L l4, .V v5, .L l6, .I i7, .I i8, .I i9, .I 11]) ∧ (
 ((-1 : Int) ≤ i7) →
 ((
 ((l4.length : Int) ≤ i7) →
  gQ.sig.post [.N n0, .V v1, .L l2, .V v3, .L l4, .V v5, .L l6, .I i7, .I i8, .I i9, .I 11]) ∧ (
 (i7 < (l4.length : Int)) →
 ((
 (i8 < 0) →
   gQ.sig.post [.N n0, .V v1, .L l2, .V v3, .L l4, .V v5, .L l6, .I i7, .I i8, .I i9, .I 11]) ∧ (
 (0 ≤ i8) →
 ((
 (8 ≤ i8) →
   gQ.sig.post [.N n0, .V v1, .L l2, .V v3, .L l4, .V v5, .L l6, .I i7, .I i8, .I i9, .I 11]) ∧ (
 (i8 < 8) →
   gQ.sig.post [.N n0, .V v1, .L l2, .V v3, .L l4, .V v5, .L l6, .I i7, .I i8, .I i9, .I 0]))))))))) ∧ (
 (i7 < 0) →
 ((
 (i7 < (-1 : Int)) →
  gQ.sig.post [.N n0, .V v1, .L l2, .V v3, .L l4, .V v5, .L l6, .I i7, .I i8, .I i9, .I 11]) ∧ (
 ((-1 : Int) ≤ i7) →
 ((
 ((l4.length : Int) ≤ i7) →
  gQ.sig.post [.N n0, .V v1, .L l2, .V v3, .L l4, .V v5, .L l6, .I i7, .I i8, .I i9, .I 11]) ∧ (
 (i7 < (l4.length : Int)) →
 ((
 (i8 < 0) →
   gQ.sig.post [.N n0, .V v1, .L l2, .V v3, .L l4, .V v5, .L l6, .I i7, .I i8, .I i9, .I 11]) ∧ (
 (0 ≤ i8) →
 ((
 ((l2.length : Int) ≤ i8) →
   gQ.sig.post [.N n0, .V v1, .L l2, .V v3, .L l4, .V v5, .L l6, .I i7, .I i8, .I i9, .I 11]) ∧ (
 (i8 < (l2.length : Int)) →
   gQ.sig.post [.N n0, .V v1, .L l2, .V v3, .L l4, .V v5, .L l6, .I i7, .I i8, .I i9, .I 0]))))))))))
def kL.Pure : Prop :=
 ∀ i0 i1 i2 i3 i4 i5 : Int,
 R64 i0 →
 R64 i1 →
 U64 i2 →
 R64 i3 →
 R64 i4 →
 U64 i5 →
 kL.sig.pre [.I i0, .I i1, .I i2, .I i3, .I i4, .I i5] →
 ∀ n6 n7 : Nat,
 ((
 (i0 ≠ i3) →
 ((
 (i3 < 0) →
  kL.sig.post [.I i0, .I i1, .I i2, .I i3, .I i4, .I i5, .B true]) ∧ (
 (0 ≤ i3) →
 ((
 (0 ≤ i0) →
  kL.sig.post [.I i0, .I i1, .I i2, .I i3, .I i4, .I i5, .B (decide (i0 < i3))]) ∧ (
 (i0 < 0) →
  kL.sig.post [.I i0, .I i1, .I i2, .I i3, .I i4, .I i5, .B false]))))) ∧ (
 (i0 = i3) →
  kL.sig.post [.I i0, .I i1, .I i2, .I i3, .I i4, .I i5, .B (decide (i1 < i4))]))
def aQ.Pure : Prop :=
 ∀ n0 : Nat,
 ∀ v1 : Value,
 ∀ l2 : LD,
 ∀ v3 : Value,
 ∀ l4 : LD,
 ∀ v5 : Value,
 ∀ l6 : LD,
 (EK.ok [.str, .int .u64] (D.L l2)) →
 (EK.ok [.sl [.int .i64, .int .i64, .int .i64, .bool, .int .u64, .bool, .int .u64, .bool, .bool, .int .i64, .int .i64, .int .i64, .int .i64]] (D.L l4)) →
 (EK.ok [.int .i64, .int .i64, .int .u64] (D.L l6)) →
 aQ.sig.pre [.N n0, .V v1, .L l2, .V v3, .L l4, .V v5, .L l6] →
 dX.sig.pre [.N n0, .V v1, .L l2, .V v3, .L l4, .V v5, .L l6] ∧ (
 ∀ i7 : Int,
 dX.sig.post [.N n0, .V v1, .L l2, .V v3, .L l4, .V v5, .L l6, .I i7] →
 R64 i7 →
 ((
 (i7 ≠ 0) →
  aQ.sig.post [.N n0, .V v1, .L l2, .V v3, .L l4, .V v5, .L l6, .I i7]) ∧ (
 (i7 = 0) →
  aQ.I0 [.N n0, .V v1, .L l2, .V v3, .L l4, .V v5, .L l6, .I 0] ∧ (
 ∀ i8 : Int,
 R64 i8 →
  aQ.I0 [.N n0, .V v1, .L l2, .V v3, .L l4, .V v5, .L l6, .I i8] →
 ((
 (i8 < (l2.length : Int)) →
 Im (0 ≤ i8) (
 ∀ n9 : Nat,
  bC.sig.pre [(D.S ((l2.getD i8.toNat default).toL.getD (0 : Int).toNat default).toS)] ∧ (
 ∀ b10 : Bool,
  bC.sig.post [(D.S ((l2.getD i8.toNat default).toL.getD (0 : Int).toNat default).toS), .B b10] →
 ((
 (b10 = false) →
  aQ.sig.post [.N n0, .V v1, .L l2, .V v3, .L l4, .V v5, .L l6, .I 11]) ∧ (
 (b10 = true) →
 ((
 (0 < i8) →
 Im (0 ≤ (wrap .i64 (i8 - 1))) (
 Im ((wrap .i64 (i8 - 1)) < (l2.length : Int)) (
 ((
 (((Op.bytesLess ((l2.getD i8.toNat default).toL.getD (0 : Int).toNat default).toS.toList ((l2.getD (wrap .i64 (i8 - 1)).toNat default).toL.getD (0 : Int).toNat default).toS.toList) = true) ∨ (((l2.getD i8.toNat default).toL.getD (0 : Int).toNat default).toS = ((l2.getD (wrap .i64 (i8 - 1)).toNat default).toL.getD (0 : Int).toNat default).toS)) →
   aQ.sig.post [.N n0, .V v1, .L l2, .V v3, .L l4, .V v5, .L l6, .I 16]) ∧ (
 (((Op.bytesLess ((l2.getD i8.toNat default).toL.getD (0 : Int).toNat default).toS.toList ((l2.getD (wrap .i64 (i8 - 1)).toNat default).toL.getD (0 : Int).toNat default).toS.toList) = false) ∧ (((l2.getD i8.toNat default).toL.getD (0 : Int).toNat default).toS ≠ ((l2.getD (wrap .i64 (i8 - 1)).toNat default).toL.getD (0 : Int).toNat default).toS)) →
   Bk aQ.I0 aQ.I0M [.N n0, .V v1, .L l2, .V v3, .L l4, .V v5, .L l6, .I (wrap .i64 (i8 + 1))] [.N n0, .V v1, .L l2, .V v3, .L l4, .V v5, .L l6, .I i8]))))) ∧ (
 (i8 ≤ 0) →
   Bk aQ.I0 aQ.I0M [.N n0, .V v1, .L l2, .V v3, .L l4, .V v5, .L l6, .I (wrap .i64 (i8 + 1))] [.N n0, .V v1, .L l2, .V v3, .L l4, .V v5, .L l6, .I i8]))))))) ∧ (
 ((l2.length : Int) ≤ i8) →
   aQ.I1 [.N n0, .V v1, .L l2, .V v3, .L l4, .V v5, .L l6, .I 0] ∧ (
 ∀ i9 : Int,
 R64 i9 →
  aQ.I1 [.N n0, .V v1, .L l2, .V v3, .L l4, .V v5, .L l6, .I i9] →
 ((
 (i9 < (l4.length : Int)) →
 Im (0 ≤ i9) (
  aQ.I2 [.N n0, .V v1, .L l2, .V v3, .L l4, .V v5, .L l6, .I i9, .I 0] ∧ (
 ∀ i10 : Int,
 R64 i10 →
  aQ.I2 [.N n0, .V v1, .L l2, .V v3, .L l4, .V v5, .L l6, .I i9, .I i10] →
 ((
 (i10 < (((l4.getD i9.toNat default).toL.getD (1 : Int).toNat default).toL.length : Int)) →
 Im (0 ≤ i10) (
 ∀ n11 : Nat,
   aG.sig.pre [.N n0, .V v1, .L l2, .V v3, .L l4, .V v5, .L l6, (D.I ((((l4.getD i9.toNat default).toL.getD (1 : Int).toNat default).toL.getD i10.toNat default).toL.getD (0 : Int).toNat default).toI), (D.I ((((l4.getD i9.toNat default).toL.getD (1 : Int).toNat default).toL.getD i10.toNat default).toL.getD (1 : Int).toNat default).toI), (D.I ((((l4.getD i9.toNat default).toL.getD (1 : Int).toNat default).toL.getD i10.toNat default).toL.getD (2 : Int).toNat default).toI), (D.B ((((l4.getD i9.toNat default).toL.getD (1 : Int).toNat default).toL.getD i10.toNat default).toL.getD (3 : Int).toNat default).toB), (D.I ((((l4.getD i9.toNat default).toL.getD (1 : Int).toNat default).toL.getD i10.toNat default).toL.getD (4 : Int).toNat default).toI), (D.B ((((l4.getD i9.toNat default).toL.getD (1 : Int).toNat default).toL.getD i10.toNat default).toL.getD (5 : Int).toNat default).toB), (D.I ((((l4.getD i9.toNat default).toL.getD (1 : Int).toNat default).toL.getD i10.toNat default).toL.getD (6 : Int).toNat default).toI), (D.B ((((l4.getD i9.toNat default).toL.getD (1 : Int).toNat default).toL.getD i10.toNat default).toL.getD (7 : Int).toNat default).toB), (D.B ((((l4.getD i9.toNat default).toL.getD (1 : Int).toNat default).toL.getD i10.toNat default).toL.getD (8 : Int).toNat default).toB), (D.I ((((l4.getD i9.toNat default).toL.getD (1 : Int).toNat default).toL.getD i10.toNat default).toL.getD (9 : Int).toNat default).toI), (D.I ((((l4.getD i9.toNat default).toL.getD (1 : Int).toNat default).toL.getD i10.toNat default).toL.getD (10 : Int).toNat default).toI), (D.I ((((l4.getD i9.toNat default).toL.getD (1 : Int).toNat default).toL.getD i10.toNat default).toL.getD (11 : Int).toNat default).toI), (D.I ((((l4.getD i9.toNat default).toL.getD (1 : Int).toNat default).toL.getD i10.toNat default).toL.getD (12 : Int).toNat default).toI), .I (wrap .i64 ((wrap .i64 ((((l4.getD i9.toNat default).toL.getD (1 : Int).toNat default).toL.length : Int) - i10)) - 1))] ∧ (
 ∀ i12 : Int,
   aG.sig.post [.N n0, .V v1, .L l2, .V v3, .L l4, .V v5, .L l6, (D.I ((((l4.getD i9.toNat default).toL.getD (1 : Int).toNat default).toL.getD i10.toNat default).toL.getD (0 : Int).toNat default).toI), (D.I ((((l4.getD i9.toNat default).toL.getD (1 : Int).toNat default).toL.getD i10.toNat default).toL.getD (1 : Int).toNat default).toI), (D.I ((((l4.getD i9.toNat default).toL.getD (1 : Int).toNat default).toL.getD i10.toNat default).toL.getD (2 : Int).toNat default).toI), (D.B ((((l4.getD i9.toNat default).toL.getD (1 : Int).toNat default).toL.getD i10.toNat default).toL.getD (3 : Int).toNat default).toB), (D.I ((((l4.getD i9.toNat default).toL.getD (1 : Int).toNat default).toL.getD i10.toNat default).toL.getD (4 : Int).toNat default).toI), (D.B ((((l4.getD i9.toNat default).toL.getD (1 : Int).toNat default).toL.getD i10.toNat default).toL.getD (5 : Int).toNat default).toB), (D.I ((((l4.getD i9.toNat default).toL.getD (1 : Int).toNat default).toL.getD i10.toNat default).toL.getD (6 : Int).toNat default).toI), (D.B ((((l4.getD i9.toNat default).toL.getD (1 : Int).toNat default).toL.getD i10.toNat default).toL.getD (7 : Int).toNat default).toB), (D.B ((((l4.getD i9.toNat default).toL.getD (1 : Int).toNat default).toL.getD i10.toNat default).toL.getD (8 : Int).toNat default).toB), (D.I ((((l4.getD i9.toNat default).toL.getD (1 : Int).toNat default).toL.getD i10.toNat default).toL.getD (9 : Int).toNat default).toI), (D.I ((((l4.getD i9.toNat default).toL.getD (1 : Int).toNat default).toL.getD i10.toNat default).toL.getD (10 : Int).toNat default).toI), (D.I ((((l4.getD i9.toNat default).toL.getD (1 : Int).toNat default).toL.getD i10.toNat default).toL.getD (11 : Int).toNat default).toI), (D.I ((((l4.getD i9.toNat default).toL.getD (1 : Int).toNat default).toL.getD i10.toNat default).toL.getD (12 : Int).toNat default).toI), .I (wrap .i64 ((wrap .i64 ((((l4.getD i9.toNat default).toL.getD (1 : Int).toNat default).toL.length : Int) - i10)) - 1)), .I i12] →
 R64 i12 →
 ((
 (i12 ≠ 0) →
   aQ.sig.post [.N n0, .V v1, .L l2, .V v3, .L l4, .V v5, .L l6, .I i12]) ∧ (
 (i12 = 0) →
   Bk aQ.I2 aQ.I2M [.N n0, .V v1, .L l2, .V v3, .L l4, .V v5, .L l6, .I i9, .I (wrap .i64 (i10 + 1))] [.N n0, .V v1, .L l2, .V v3, .L l4, .V v5, .L l6, .I i9, .I i10]))))) ∧ (
 ((((l4.getD i9.toNat default).toL.getD (1 : Int).toNat default).toL.length : Int) ≤ i10) →
     Bk aQ.I1 aQ.I1M [.N n0, .V v1, .L l2, .V v3, .L l4, .V v5, .L l6, .I (wrap .i64 (i9 + 1))] [.N n0, .V v1, .L l2, .V v3, .L l4, .V v5, .L l6, .I i9]))))) ∧ (
 ((l4.length : Int) ≤ i9) →
  aQ.I3 [.N n0, .V v1, .L l2, .V v3, .L l4, .V v5, .L l6, .I 0] ∧ (
 ∀ i10 : Int,
 R64 i10 →
  aQ.I3 [.N n0, .V v1, .L l2, .V v3, .L l4, .V v5, .L l6, .I i10] →
 ((
 (i10 < (l6.length : Int)) →
 Im (0 ≤ i10) (
 ∀ n11 : Nat,
   gQ.sig.pre [.N n0, .V v1, .L l2, .V v3, .L l4, .V v5, .L l6, (D.I ((l6.getD i10.toNat default).toL.getD (0 : Int).toNat default).toI), (D.I ((l6.getD i10.toNat default).toL.getD (1 : Int).toNat default).toI), (D.I ((l6.getD i10.toNat default).toL.getD (2 : Int).toNat default).toI)] ∧ (
 ∀ i12 : Int,
   gQ.sig.post [.N n0, .V v1, .L l2, .V v3, .L l4, .V v5, .L l6, (D.I ((l6.getD i10.toNat default).toL.getD (0 : Int).toNat default).toI), (D.I ((l6.getD i10.toNat default).toL.getD (1 : Int).toNat default).toI), (D.I ((l6.getD i10.toNat default).toL.getD (2 : Int).toNat default).toI), .I i12] →
 R64 i12 →
 ((
 (i12 ≠ 0) →
   aQ.sig.post [.N n0, .V v1, .L l2, .V v3, .L l4, .V v5, .L l6, .I i12]) ∧ (
 (i12 = 0) →
 ((
 (0 < i10) →
 Im (0 ≤ (wrap .i64 (i10 - 1))) (
 Im ((wrap .i64 (i10 - 1)) < (l6.length : Int)) (
    kL.sig.pre [(D.I ((l6.getD (wrap .i64 (i10 - 1)).toNat default).toL.getD (0 : Int).toNat default).toI), (D.I ((l6.getD (wrap .i64 (i10 - 1)).toNat default).toL.getD (1 : Int).toNat default).toI), (D.I ((l6.getD (wrap .i64 (i10 - 1)).toNat default).toL.getD (2 : Int).toNat default).toI), (D.I ((l6.getD i10.toNat default).toL.getD (0 : Int).toNat default).toI), (D.I ((l6.getD i10.toNat default).toL.getD (1 : Int).toNat default).toI), (D.I ((l6.getD i10.toNat default).toL.getD (2 : Int).toNat default).toI)] ∧ (
 ∀ b13 : Bool,
    kL.sig.post [(D.I ((l6.getD (wrap .i64 (i10 - 1)).toNat default).toL.getD (0 : Int).toNat default).toI), (D.I ((l6.getD (wrap .i64 (i10 - 1)).toNat default).toL.getD (1 : Int).toNat default).toI), (D.I ((l6.getD (wrap .i64 (i10 - 1)).toNat default).toL.getD (2 : Int).toNat default).toI), (D.I ((l6.getD i10.toNat default).toL.getD (0 : Int).toNat default).toI), (D.I ((l6.getD i10.toNat default).toL.getD (1 : Int).toNat default).toI), (D.I ((l6.getD i10.toNat default).toL.getD (2 : Int).toNat default).toI), .B b13] →
 ((
 (b13 = false) →
    aQ.sig.post [.N n0, .V v1, .L l2, .V v3, .L l4, .V v5, .L l6, .I 16]) ∧ (
 (b13 = true) →
    Bk aQ.I3 aQ.I3M [.N n0, .V v1, .L l2, .V v3, .L l4, .V v5, .L l6, .I (wrap .i64 (i10 + 1))] [.N n0, .V v1, .L l2, .V v3, .L l4, .V v5, .L l6, .I i10])))))) ∧ (
 (i10 ≤ 0) →
    Bk aQ.I3 aQ.I3M [.N n0, .V v1, .L l2, .V v3, .L l4, .V v5, .L l6, .I (wrap .i64 (i10 + 1))] [.N n0, .V v1, .L l2, .V v3, .L l4, .V v5, .L l6, .I i10]))))))) ∧ (
 ((l6.length : Int) ≤ i10) →
   aQ.sig.post [.N n0, .V v1, .L l2, .V v3, .L l4, .V v5, .L l6, .I 0]))))))))))))
def aW.Pure : Prop :=
 ∀ n0 : Nat,
 ∀ v1 : Value,
 ∀ l2 : LD,
 ∀ i3 i4 : Int,
 R64 i4 →
 R64 i3 →
 (EK.ok [.int .i64, .str, .int .u64] (D.L l2)) →
 aW.sig.pre [.N n0, .V v1, .L l2, .I i3, .I i4] →
 ((
 (i3 = 0) →
  aW.sig.post [.N n0, .V v1, .L l2, .I i3, .I i4, .I i4]) ∧ (
 (i3 ≠ 0) →
  aW.sig.post [.N n0, .V v1, .L l2, .I i3, .I i4, .I i3]))
def fO.Pure : Prop :=
 ∀ n0 : Nat,
 ∀ v1 : Value,
 ∀ l2 : LD,
 ∀ i3 : Int,
 R64 i3 →
 (EK.ok [.int .i64, .str, .int .u64] (D.L l2)) →
 fO.sig.pre [.N n0, .V v1, .L l2, .I i3] →
 ∀ n4 : Nat,
 ((
 (i3 ≠ 0) →
  aW.sig.pre [.N n0, .V v1, .L l2, .I i3, .I 10] ∧ (
 ∀ i5 : Int,
  aW.sig.post [.N n0, .V v1, .L l2, .I i3, .I 10, .I i5] →
 R64 i5 →
  fO.sig.post [.N n0, .V v1, .L l2, .I i3, .V v1, .L l2, .I i5, .I 0, .S (⟨#[]⟩ : BA), .I 0])) ∧ (
 (i3 = 0) →
 ((
 ((l2.length : Int) = (0 : Int)) →
   aW.sig.pre [.N n0, .V v1, .L l2, .I i3, .I 10] ∧ (
 ∀ i5 : Int,
  aW.sig.post [.N n0, .V v1, .L l2, .I i3, .I 10, .I i5] →
 R64 i5 →
  fO.sig.post [.N n0, .V v1, .L l2, .I i3, .V v1, .L l2, .I i5, .I 0, .S (⟨#[]⟩ : BA), .I 0])) ∧ (
 ((l2.length : Int) ≠ (0 : Int)) →
 Im (0 < (l2.length : Int)) (
 ∀ n5 : Nat,
 Im (1 ≤ (l2.length : Int)) (
 ∀ v6 : Value,
  fO.sig.post [.N n0, .V v1, .L l2, .I i3, .V v6, .L (l2.drop (1 : Int).toNat), .I i3, (D.I ((l2.getD (0 : Int).toNat default).toL.getD (0 : Int).toNat default).toI), (D.S ((l2.getD (0 : Int).toNat default).toL.getD (1 : Int).toNat default).toS), (D.I ((l2.getD (0 : Int).toNat default).toL.getD (2 : Int).toNat default).toI)]))))))
def eG.Pure : Prop :=
 ∀ n0 : Nat,
 ∀ v1 : Value,
 ∀ l2 : LD,
 ∀ i3 : Int,
 R64 i3 →
 (EK.ok [.int .i64, .str, .int .u64] (D.L l2)) →
 eG.sig.pre [.N n0, .V v1, .L l2, .I i3] →
 fO.sig.pre [.N n0, .V v1, .L l2, .I i3] ∧ (
 ∀ v4 : Value,
 ∀ l5 : LD,
 ∀ i6 i7 : Int,
 ∀ s8 : BA,
 ∀ i9 : Int,
 fO.sig.post [.N n0, .V v1, .L l2, .I i3, .V v4, .L l5, .I i6, .I i7, .S s8, .I i9] →
 R64 i7 →
 ((s8.size : Int) ≤ 9223372036854775807) →
 U64 i9 →
 R64 i6 →
 (EK.ok [.int .i64, .str, .int .u64] (D.L l5)) →
 ∀ n10 : Nat,
 ((
 (i7 ≠ 1) →
  aW.sig.pre [.N n0, .V v4, .L l5, .I i6, .I 10] ∧ (
 ∀ i11 : Int,
  aW.sig.post [.N n0, .V v4, .L l5, .I i6, .I 10, .I i11] →
 R64 i11 →
  eG.sig.post [.N n0, .V v1, .L l2, .I i3, .V v4, .L l5, .I i11, .S s8])) ∧ (
 (i7 = 1) →
  eG.sig.post [.N n0, .V v1, .L l2, .I i3, .V v4, .L l5, .I i6, .S s8])))
def bZ.Pure : Prop :=
 ∀ n0 : Nat,
 ∀ v1 : Value,
 ∀ l2 : LD,
 ∀ i3 : Int,
 ∀ s4 : BA,
 ((s4.size : Int) ≤ 9223372036854775807) →
 R64 i3 →
 (EK.ok [.int .i64, .str, .int .u64] (D.L l2)) →
 bZ.sig.pre [.N n0, .V v1, .L l2, .I i3, .S s4] →
 ((
 (i3 ≠ 0) →
  bZ.sig.post [.N n0, .V v1, .L l2, .I i3, .S s4, .V v1, .L l2, .I i3, .B false]) ∧ (
 (i3 = 0) →
 ((
 ((l2.length : Int) = (0 : Int)) →
   bZ.sig.post [.N n0, .V v1, .L l2, .I i3, .S s4, .V v1, .L l2, .I i3, .B false]) ∧ (
 ((l2.length : Int) ≠ (0 : Int)) →
 Im (0 < (l2.length : Int)) (
 ((
 (((l2.getD (0 : Int).toNat default).toL.getD (0 : Int).toNat default).toI ≠ 1) →
    bZ.sig.post [.N n0, .V v1, .L l2, .I i3, .S s4, .V v1, .L l2, .I i3, .B false]) ∧ (
 (((l2.getD (0 : Int).toNat default).toL.getD (0 : Int).toNat default).toI = 1) →
 ((
 (((l2.getD (0 : Int).toNat default).toL.getD (1 : Int).toNat default).toS ≠ s4) →
   bZ.sig.post [.N n0, .V v1, .L l2, .I i3, .S s4, .V v1, .L l2, .I i3, .B false]) ∧ (
 (((l2.getD (0 : Int).toNat default).toL.getD (1 : Int).toNat default).toS = s4) →
 Im (1 ≤ (l2.length : Int)) (
 ∀ v5 : Value,
   bZ.sig.post [.N n0, .V v1, .L l2, .I i3, .S s4, .V v5, .L (l2.drop (1 : Int).toNat), .I i3, .B true]))))))))))
def gY.Pure : Prop :=
 ∀ n0 : Nat,
 ∀ v1 : Value,
 ∀ l2 : LD,
 ∀ i3 : Int,
 ∀ s4 : BA,
 ((s4.size : Int) ≤ 9223372036854775807) →
 R64 i3 →
 (EK.ok [.int .i64, .str, .int .u64] (D.L l2)) →
 gY.sig.pre [.N n0, .V v1, .L l2, .I i3, .S s4] →
 fO.sig.pre [.N n0, .V v1, .L l2, .I i3] ∧ (
 ∀ v5 : Value,
 ∀ l6 : LD,
 ∀ i7 i8 : Int,
 ∀ s9 : BA,
 ∀ i10 : Int,
 fO.sig.post [.N n0, .V v1, .L l2, .I i3, .V v5, .L l6, .I i7, .I i8, .S s9, .I i10] →
 R64 i8 →
 ((s9.size : Int) ≤ 9223372036854775807) →
 U64 i10 →
 R64 i7 →
 (EK.ok [.int .i64, .str, .int .u64] (D.L l6)) →
 ∀ n11 : Nat,
 ((
 (i8 ≠ 3) →
  aW.sig.pre [.N n0, .V v5, .L l6, .I i7, .I 10] ∧ (
 ∀ i12 : Int,
  aW.sig.post [.N n0, .V v5, .L l6, .I i7, .I 10, .I i12] →
 R64 i12 →
  gY.sig.post [.N n0, .V v1, .L l2, .I i3, .S s4, .V v5, .L l6, .I i12])) ∧ (
 (i8 = 3) →
 ((
 (s9 ≠ s4) →
  aW.sig.pre [.N n0, .V v5, .L l6, .I i7, .I 10] ∧ (
 ∀ i12 : Int,
  aW.sig.post [.N n0, .V v5, .L l6, .I i7, .I 10, .I i12] →
 R64 i12 →
  gY.sig.post [.N n0, .V v1, .L l2, .I i3, .S s4, .V v5, .L l6, .I i12])) ∧ (
 (s9 = s4) →
  gY.sig.post [.N n0, .V v1, .L l2, .I i3, .S s4, .V v5, .L l6, .I i7])))))
def dM.Pure : Prop :=
 ∀ n0 : Nat,
 ∀ v1 : Value,
 ∀ l2 : LD,
 ∀ i3 : Int,
 R64 i3 →
 (EK.ok [.int .i64, .str, .int .u64] (D.L l2)) →
 dM.sig.pre [.N n0, .V v1, .L l2, .I i3] →
 fO.sig.pre [.N n0, .V v1, .L l2, .I i3] ∧ (
 ∀ v4 : Value,
 ∀ l5 : LD,
 ∀ i6 i7 : Int,
 ∀ s8 : BA,
 ∀ i9 : Int,
 fO.sig.post [.N n0, .V v1, .L l2, .I i3, .V v4, .L l5, .I i6, .I i7, .S s8, .I i9] →
 R64 i7 →
 ((s8.size : Int) ≤ 9223372036854775807) →
 U64 i9 →
 R64 i6 →
 (EK.ok [.int .i64, .str, .int .u64] (D.L l5)) →
 ∀ n10 : Nat,
 ((
 (i7 ≠ 2) →
  aW.sig.pre [.N n0, .V v4, .L l5, .I i6, .I 10] ∧ (
 ∀ i11 : Int,
  aW.sig.post [.N n0, .V v4, .L l5, .I i6, .I 10, .I i11] →
 R64 i11 →
  dM.sig.post [.N n0, .V v1, .L l2, .I i3, .V v4, .L l5, .I i11, .I i9])) ∧ (
 (i7 = 2) →
  dM.sig.post [.N n0, .V v1, .L l2, .I i3, .V v4, .L l5, .I i6, .I i9])))
def jY.Pure : Prop :=
 ∀ s0 : BA,
 ((s0.size : Int) ≤ 9223372036854775807) →
 jY.sig.pre [.S s0] →
 ((
 ((s0.size : Int) = (2 : Int)) →
 Im (0 < (s0.size : Int)) (
 ((
 ((byteAt s0 0) = 114) →
 Im (1 < (s0.size : Int)) (
 ((
 (48 ≤ (byteAt s0 1)) →
  jY.sig.post [.S s0, .B (decide ((byteAt s0 1) ≤ 57))]) ∧ (
 ((byteAt s0 1) < 48) →
  jY.sig.post [.S s0, .B false])))) ∧ (
 ((byteAt s0 0) ≠ 114) →
   jY.sig.post [.S s0, .B false])))) ∧ (
 ((s0.size : Int) ≠ (2 : Int)) →
  jY.sig.post [.S s0, .B false]))
def dA.Pure : Prop :=
 ∀ n0 : Nat,
 ∀ v1 : Value,
 ∀ l2 : LD,
 ∀ i3 : Int,
 R64 i3 →
 (EK.ok [.int .i64, .str, .int .u64] (D.L l2)) →
 dA.sig.pre [.N n0, .V v1, .L l2, .I i3] →
 eG.sig.pre [.N n0, .V v1, .L l2, .I i3] ∧ (
 ∀ v4 : Value,
 ∀ l5 : LD,
 ∀ i6 : Int,
 ∀ s7 : BA,
 eG.sig.post [.N n0, .V v1, .L l2, .I i3, .V v4, .L l5, .I i6, .S s7] →
 ((s7.size : Int) ≤ 9223372036854775807) →
 R64 i6 →
 (EK.ok [.int .i64, .str, .int .u64] (D.L l5)) →
 ((
 (i6 ≠ 0) →
  dA.sig.post [.N n0, .V v1, .L l2, .I i3, .V v4, .L l5, .I i6, .I 0]) ∧ (
 (i6 = 0) →
  jY.sig.pre [.S s7] ∧ (
 ∀ b8 : Bool,
  jY.sig.post [.S s7, .B b8] →
 ((
 (b8 = false) →
  aW.sig.pre [.N n0, .V v4, .L l5, .I i6, .I 10] ∧ (
 ∀ i9 : Int,
  aW.sig.post [.N n0, .V v4, .L l5, .I i6, .I 10, .I i9] →
 R64 i9 →
  dA.sig.post [.N n0, .V v1, .L l2, .I i3, .V v4, .L l5, .I i9, .I 0])) ∧ (
 (b8 = true) →
 Im (1 < (s7.size : Int)) (
 ((
 (55 < (byteAt s7 1)) →
  aW.sig.pre [.N n0, .V v4, .L l5, .I i6, .I 11] ∧ (
 ∀ i9 : Int,
  aW.sig.post [.N n0, .V v4, .L l5, .I i6, .I 11, .I i9] →
 R64 i9 →
  dA.sig.post [.N n0, .V v1, .L l2, .I i3, .V v4, .L l5, .I i9, .I 0])) ∧ (
 ((byteAt s7 1) ≤ 55) →
  dA.sig.post [.N n0, .V v1, .L l2, .I i3, .V v4, .L l5, .I i6, .I (wrap .i64 (wrap .u8 ((byteAt s7 1) - 48)))])))))))))
def gX.Pure : Prop :=
 ∀ n0 : Nat,
 ∀ v1 : Value,
 ∀ l2 : LD,
 ∀ i3 : Int,
 R64 i3 →
 (EK.ok [.int .i64, .str, .int .u64] (D.L l2)) →
 gX.sig.pre [.N n0, .V v1, .L l2, .I i3] →
 eG.sig.pre [.N n0, .V v1, .L l2, .I i3] ∧ (
 ∀ v4 : Value,
 ∀ l5 : LD,
 ∀ i6 : Int,
 ∀ s7 : BA,
 eG.sig.post [.N n0, .V v1, .L l2, .I i3, .V v4, .L l5, .I i6, .S s7] →
 ((s7.size : Int) ≤ 9223372036854775807) →
 R64 i6 →
 (EK.ok [.int .i64, .str, .int .u64] (D.L l5)) →
 ((
 (i6 = 0) →
  bC.sig.pre [.S s7] ∧ (
 ∀ b8 : Bool,
  bC.sig.post [.S s7, .B b8] →
 ((
 (b8 = false) →
  aW.sig.pre [.N n0, .V v4, .L l5, .I i6, .I 11] ∧ (
 ∀ i9 : Int,
  aW.sig.post [.N n0, .V v4, .L l5, .I i6, .I 11, .I i9] →
 R64 i9 →
  gX.sig.post [.N n0, .V v1, .L l2, .I i3, .V v4, .L l5, .I i9, .S s7])) ∧ (
 (b8 = true) →
  gX.sig.post [.N n0, .V v1, .L l2, .I i3, .V v4, .L l5, .I i6, .S s7])))) ∧ (
 (i6 ≠ 0) →
  gX.sig.post [.N n0, .V v1, .L l2, .I i3, .V v4, .L l5, .I i6, .S s7])))
def eF.Pure : Prop :=
 ∀ n0 : Nat,
 ∀ v1 : Value,
 ∀ l2 : LD,
 ∀ i3 : Int,
 R64 i3 →
 (EK.ok [.int .i64, .str, .int .u64] (D.L l2)) →
 eF.sig.pre [.N n0, .V v1, .L l2, .I i3] →
 ∀ n4 : Nat,
 ((
 (0 < (l2.length : Int)) →
 ((
 (((l2.getD (0 : Int).toNat default).toL.getD (0 : Int).toNat default).toI = 2) →
   dM.sig.pre [.N n0, .V v1, .L l2, .I i3] ∧ (
 ∀ v5 : Value,
 ∀ l6 : LD,
 ∀ i7 i8 : Int,
  dM.sig.post [.N n0, .V v1, .L l2, .I i3, .V v5, .L l6, .I i7, .I i8] →
 U64 i8 →
 R64 i7 →
 (EK.ok [.int .i64, .str, .int .u64] (D.L l6)) →
  eF.sig.post [.N n0, .V v1, .L l2, .I i3, .V v5, .L l6, .I i7, .B false, .I i8])) ∧ (
 (((l2.getD (0 : Int).toNat default).toL.getD (0 : Int).toNat default).toI ≠ 2) →
   dA.sig.pre [.N n0, .V v1, .L l2, .I i3] ∧ (
 ∀ v5 : Value,
 ∀ l6 : LD,
 ∀ i7 i8 : Int,
  dA.sig.post [.N n0, .V v1, .L l2, .I i3, .V v5, .L l6, .I i7, .I i8] →
 R64 i8 →
 R64 i7 →
 (EK.ok [.int .i64, .str, .int .u64] (D.L l6)) →
  eF.sig.post [.N n0, .V v1, .L l2, .I i3, .V v5, .L l6, .I i7, .B true, .I (wrap .u64 i8)])))) ∧ (
 ((l2.length : Int) ≤ (0 : Int)) →
  dA.sig.pre [.N n0, .V v1, .L l2, .I i3] ∧ (
 ∀ v5 : Value,
 ∀ l6 : LD,
 ∀ i7 i8 : Int,
  dA.sig.post [.N n0, .V v1, .L l2, .I i3, .V v5, .L l6, .I i7, .I i8] →
 R64 i8 →
 R64 i7 →
 (EK.ok [.int .i64, .str, .int .u64] (D.L l6)) →
  eF.sig.post [.N n0, .V v1, .L l2, .I i3, .V v5, .L l6, .I i7, .B true, .I (wrap .u64 i8)])))
def jK.Pure : Prop :=
 ∀ n0 : Nat,
 ∀ v1 : Value,
 ∀ l2 : LD,
 ∀ i3 : Int,
 R64 i3 →
 (EK.ok [.int .i64, .str, .int .u64] (D.L l2)) →
 jK.sig.pre [.N n0, .V v1, .L l2, .I i3] →
 eG.sig.pre [.N n0, .V v1, .L l2, .I i3] ∧ (
 ∀ v4 : Value,
 ∀ l5 : LD,
 ∀ i6 : Int,
 ∀ s7 : BA,
 eG.sig.post [.N n0, .V v1, .L l2, .I i3, .V v4, .L l5, .I i6, .S s7] →
 ((s7.size : Int) ≤ 9223372036854775807) →
 R64 i6 →
 (EK.ok [.int .i64, .str, .int .u64] (D.L l5)) →
 ((
 (s7 = (⟨#[114]⟩ : BA)) →
  jK.sig.post [.N n0, .V v1, .L l2, .I i3, .V v4, .L l5, .I i6, .I 1]) ∧ (
 (s7 ≠ (⟨#[114]⟩ : BA)) →
 ((
 (s7 = (⟨#[119]⟩ : BA)) →
  jK.sig.post [.N n0, .V v1, .L l2, .I i3, .V v4, .L l5, .I i6, .I 2]) ∧ (
 (s7 ≠ (⟨#[119]⟩ : BA)) →
 ((
 (s7 = (⟨#[114, 119]⟩ : BA)) →
  jK.sig.post [.N n0, .V v1, .L l2, .I i3, .V v4, .L l5, .I i6, .I 3]) ∧ (
 (s7 ≠ (⟨#[114, 119]⟩ : BA)) →
  aW.sig.pre [.N n0, .V v4, .L l5, .I i6, .I 10] ∧ (
 ∀ i8 : Int,
  aW.sig.post [.N n0, .V v4, .L l5, .I i6, .I 10, .I i8] →
 R64 i8 →
  jK.sig.post [.N n0, .V v1, .L l2, .I i3, .V v4, .L l5, .I i8, .I 0]))))))))
def jL.Pure : Prop :=
 ∀ n0 : Nat,
 ∀ v1 : Value,
 ∀ l2 : LD,
 ∀ i3 : Int,
 ∀ n4 : Nat,
 ∀ i5 i6 i7 : Int,
 ∀ b8 : Bool,
 ∀ i9 : Int,
 ∀ b10 : Bool,
 ∀ i11 : Int,
 ∀ b12 b13 : Bool,
 ∀ i14 i15 i16 i17 : Int,
 ∀ s18 : BA,
 R64 i3 →
 (EK.ok [.int .i64, .str, .int .u64] (D.L l2)) →
 R64 i5 →
 R64 i6 →
 R64 i7 →
 U64 i9 →
 U64 i11 →
 R64 i14 →
 R64 i15 →
 R64 i16 →
 R64 i17 →
 ((s18.size : Int) ≤ 9223372036854775807) →
 jL.sig.pre [.N n0, .V v1, .L l2, .I i3, .N n4, .I i5, .I i6, .I i7, .B b8, .I i9, .B b10, .I i11, .B b12, .B b13, .I i14, .I i15, .I i16, .I i17, .S s18] →
 lOf.sig.pre [.I i5, .I i6, .I i7, .B b8, .I i9, .B b10, .I i11, .B b12, .B b13, .I i14, .I i15, .I i16, .I i17] ∧ (
 ∀ b19 b20 : Bool,
 lOf.sig.post [.I i5, .I i6, .I i7, .B b8, .I i9, .B b10, .I i11, .B b12, .B b13, .I i14, .I i15, .I i16, .I i17, .B b19, .B b20] →
 ∀ n21 : Nat,
 ((
 (b19 = true) →
  bZ.sig.pre [.N n0, .V v1, .L l2, .I i3, .S (⟨#[97, 99, 113]⟩ : BA)] ∧ (
 ∀ v22 : Value,
 ∀ l23 : LD,
 ∀ i24 : Int,
 ∀ b25 : Bool,
  bZ.sig.post [.N n0, .V v1, .L l2, .I i3, .S (⟨#[97, 99, 113]⟩ : BA), .V v22, .L l23, .I i24, .B b25] →
 R64 i24 →
 (EK.ok [.int .i64, .str, .int .u64] (D.L l23)) →
 ((
 (b20 = true) →
  bZ.sig.pre [.N n0, .V v22, .L l23, .I i24, .S (⟨#[114, 101, 108]⟩ : BA)] ∧ (
 ∀ v26 : Value,
 ∀ l27 : LD,
 ∀ i28 : Int,
 ∀ b29 : Bool,
  bZ.sig.post [.N n0, .V v22, .L l23, .I i24, .S (⟨#[114, 101, 108]⟩ : BA), .V v26, .L l27, .I i28, .B b29] →
 R64 i28 →
 (EK.ok [.int .i64, .str, .int .u64] (D.L l27)) →
  bZ.sig.pre [.N n0, .V v26, .L l27, .I i28, .S (⟨#[100, 101, 112]⟩ : BA)] ∧ (
 ∀ v30 : Value,
 ∀ l31 : LD,
 ∀ i32 : Int,
 ∀ b33 : Bool,
  bZ.sig.post [.N n0, .V v26, .L l27, .I i28, .S (⟨#[100, 101, 112]⟩ : BA), .V v30, .L l31, .I i32, .B b33] →
 R64 i32 →
 (EK.ok [.int .i64, .str, .int .u64] (D.L l31)) →
 ((
 (b33 = true) →
  dA.sig.pre [.N n0, .V v30, .L l31, .I i32] ∧ (
 ∀ v34 : Value,
 ∀ l35 : LD,
 ∀ i36 i37 : Int,
  dA.sig.post [.N n0, .V v30, .L l31, .I i32, .V v34, .L l35, .I i36, .I i37] →
 R64 i37 →
 R64 i36 →
 (EK.ok [.int .i64, .str, .int .u64] (D.L l35)) →
  jL.sig.post [.N n0, .V v1, .L l2, .I i3, .N n4, .I i5, .I i6, .I i7, .B b8, .I i9, .B b10, .I i11, .B b12, .B b13, .I i14, .I i15, .I i16, .I i17, .S s18, .V v34, .L l35, .I i36, .I i5, .I i6, .I i7, .B b8, .I i9, .B b10, .I i11, .B b25, .B b29, .I (wrap .i64 (i37 + 1)), .I i15, .I i16, .I i17])) ∧ (
 (b33 = false) →
  jL.sig.post [.N n0, .V v1, .L l2, .I i3, .N n4, .I i5, .I i6, .I i7, .B b8, .I i9, .B b10, .I i11, .B b12, .B b13, .I i14, .I i15, .I i16, .I i17, .S s18, .V v30, .L l31, .I i32, .I i5, .I i6, .I i7, .B b8, .I i9, .B b10, .I i11, .B b25, .B b29, .I i14, .I i15, .I i16, .I i17]))))) ∧ (
 (b20 = false) →
  bZ.sig.pre [.N n0, .V v22, .L l23, .I i24, .S (⟨#[100, 101, 112]⟩ : BA)] ∧ (
 ∀ v26 : Value,
 ∀ l27 : LD,
 ∀ i28 : Int,
 ∀ b29 : Bool,
  bZ.sig.post [.N n0, .V v22, .L l23, .I i24, .S (⟨#[100, 101, 112]⟩ : BA), .V v26, .L l27, .I i28, .B b29] →
 R64 i28 →
 (EK.ok [.int .i64, .str, .int .u64] (D.L l27)) →
 ((
 (b29 = true) →
  dA.sig.pre [.N n0, .V v26, .L l27, .I i28] ∧ (
 ∀ v30 : Value,
 ∀ l31 : LD,
 ∀ i32 i33 : Int,
  dA.sig.post [.N n0, .V v26, .L l27, .I i28, .V v30, .L l31, .I i32, .I i33] →
 R64 i33 →
 R64 i32 →
 (EK.ok [.int .i64, .str, .int .u64] (D.L l31)) →
  jL.sig.post [.N n0, .V v1, .L l2, .I i3, .N n4, .I i5, .I i6, .I i7, .B b8, .I i9, .B b10, .I i11, .B b12, .B b13, .I i14, .I i15, .I i16, .I i17, .S s18, .V v30, .L l31, .I i32, .I i5, .I i6, .I i7, .B b8, .I i9, .B b10, .I i11, .B b25, .B false, .I (wrap .i64 (i33 + 1)), .I i15, .I i16, .I i17])) ∧ (
 (b29 = false) →
  jL.sig.post [.N n0, .V v1, .L l2, .I i3, .N n4, .I i5, .I i6, .I i7, .B b8, .I i9, .B b10, .I i11, .B b12, .B b13, .I i14, .I i15, .I i16, .I i17, .S s18, .V v26, .L l27, .I i28, .I i5, .I i6, .I i7, .B b8, .I i9, .B b10, .I i11, .B b25, .B false, .I i14, .I i15, .I i16, .I i17]))))))) ∧ (
 (b19 = false) →
 ((
 (b20 = true) →
  bZ.sig.pre [.N n0, .V v1, .L l2, .I i3, .S (⟨#[114, 101, 108]⟩ : BA)] ∧ (
 ∀ v22 : Value,
 ∀ l23 : LD,
 ∀ i24 : Int,
 ∀ b25 : Bool,
  bZ.sig.post [.N n0, .V v1, .L l2, .I i3, .S (⟨#[114, 101, 108]⟩ : BA), .V v22, .L l23, .I i24, .B b25] →
 R64 i24 →
 (EK.ok [.int .i64, .str, .int .u64] (D.L l23)) →
  bZ.sig.pre [.N n0, .V v22, .L l23, .I i24, .S (⟨#[100, 101, 112]⟩ : BA)] ∧ (
 ∀ v26 : Value,
 ∀ l27 : LD,
 ∀ i28 : Int,
 ∀ b29 : Bool,
  bZ.sig.post [.N n0, .V v22, .L l23, .I i24, .S (⟨#[100, 101, 112]⟩ : BA), .V v26, .L l27, .I i28, .B b29] →
 R64 i28 →
 (EK.ok [.int .i64, .str, .int .u64] (D.L l27)) →
 ((
 (b29 = true) →
  dA.sig.pre [.N n0, .V v26, .L l27, .I i28] ∧ (
 ∀ v30 : Value,
 ∀ l31 : LD,
 ∀ i32 i33 : Int,
  dA.sig.post [.N n0, .V v26, .L l27, .I i28, .V v30, .L l31, .I i32, .I i33] →
 R64 i33 →
 R64 i32 →
 (EK.ok [.int .i64, .str, .int .u64] (D.L l31)) →
  jL.sig.post [.N n0, .V v1, .L l2, .I i3, .N n4, .I i5, .I i6, .I i7, .B b8, .I i9, .B b10, .I i11, .B b12, .B b13, .I i14, .I i15, .I i16, .I i17, .S s18, .V v30, .L l31, .I i32, .I i5, .I i6, .I i7, .B b8, .I i9, .B b10, .I i11, .B false, .B b25, .I (wrap .i64 (i33 + 1)), .I i15, .I i16, .I i17])) ∧ (
 (b29 = false) →
  jL.sig.post [.N n0, .V v1, .L l2, .I i3, .N n4, .I i5, .I i6, .I i7, .B b8, .I i9, .B b10, .I i11, .B b12, .B b13, .I i14, .I i15, .I i16, .I i17, .S s18, .V v26, .L l27, .I i28, .I i5, .I i6, .I i7, .B b8, .I i9, .B b10, .I i11, .B false, .B b25, .I i14, .I i15, .I i16, .I i17]))))) ∧ (
 (b20 = false) →
  bZ.sig.pre [.N n0, .V v1, .L l2, .I i3, .S (⟨#[100, 101, 112]⟩ : BA)] ∧ (
 ∀ v22 : Value,
 ∀ l23 : LD,
 ∀ i24 : Int,
 ∀ b25 : Bool,
  bZ.sig.post [.N n0, .V v1, .L l2, .I i3, .S (⟨#[100, 101, 112]⟩ : BA), .V v22, .L l23, .I i24, .B b25] →
 R64 i24 →
 (EK.ok [.int .i64, .str, .int .u64] (D.L l23)) →
 ((
 (b25 = true) →
  dA.sig.pre [.N n0, .V v22, .L l23, .I i24] ∧ (
 ∀ v26 : Value,
 ∀ l27 : LD,
 ∀ i28 i29 : Int,
  dA.sig.post [.N n0, .V v22, .L l23, .I i24, .V v26, .L l27, .I i28, .I i29] →
 R64 i29 →
 R64 i28 →
 (EK.ok [.int .i64, .str, .int .u64] (D.L l27)) →
  jL.sig.post [.N n0, .V v1, .L l2, .I i3, .N n4, .I i5, .I i6, .I i7, .B b8, .I i9, .B b10, .I i11, .B b12, .B b13, .I i14, .I i15, .I i16, .I i17, .S s18, .V v26, .L l27, .I i28, .I i5, .I i6, .I i7, .B b8, .I i9, .B b10, .I i11, .B false, .B false, .I (wrap .i64 (i29 + 1)), .I i15, .I i16, .I i17])) ∧ (
 (b25 = false) →
  jL.sig.post [.N n0, .V v1, .L l2, .I i3, .N n4, .I i5, .I i6, .I i7, .B b8, .I i9, .B b10, .I i11, .B b12, .B b13, .I i14, .I i15, .I i16, .I i17, .S s18, .V v22, .L l23, .I i24, .I i5, .I i6, .I i7, .B b8, .I i9, .B b10, .I i11, .B false, .B false, .I i14, .I i15, .I i16, .I i17]))))))))
def gZ.Pure : Prop :=
 ∀ v0 : Value,
 ∀ l1 : LD,
 ∀ s2 : BA,
 ((s2.size : Int) ≤ 9223372036854775807) →
 (EK.ok [.str] (D.L l1)) →
 gZ.sig.pre [.V v0, .L l1, .S s2] →
 gZ.I0 [.V v0, .L l1, .S s2, .I 0] ∧ (
 ∀ i3 : Int,
 R64 i3 →
 gZ.I0 [.V v0, .L l1, .S s2, .I i3] →
 ((
 (i3 < (l1.length : Int)) →
 Im (0 ≤ i3) (
 ((
 (s2 = (l1.getD i3.toNat default).toS) →
  gZ.sig.post [.V v0, .L l1, .S s2, .I i3]) ∧ (
 (s2 ≠ (l1.getD i3.toNat default).toS) →
  Bk gZ.I0 gZ.I0M [.V v0, .L l1, .S s2, .I (wrap .i64 (i3 + 1))] [.V v0, .L l1, .S s2, .I i3])))) ∧ (
 ((l1.length : Int) ≤ i3) →
  gZ.sig.post [.V v0, .L l1, .S s2, .I (-1 : Int)])))
def aI.C4 (n0 : Nat) (v1 : Value) (l2 : LD) (i3 : Int) (l4 : LD) : Prop :=
 ∀ n5 n6 : Nat,
 ∀ v7 : Value,
 ∀ l8 : LD,
 ∀ i9 i10 i11 i12 : Int,
 ∀ b13 : Bool,
 ∀ i14 : Int,
 ∀ b15 : Bool,
 ∀ i16 : Int,
 ∀ b17 b18 : Bool,
 ∀ i19 i20 i21 i22 : Int,
 ∀ s23 : BA,
 R64 i9 →
 (EK.ok [.int .i64, .str, .int .u64] (D.L l8)) →
 R64 i10 →
 R64 i11 →
 R64 i12 →
 U64 i14 →
 U64 i16 →
 R64 i19 →
 R64 i20 →
 R64 i21 →
 R64 i22 →
 ((s23.size : Int) ≤ 9223372036854775807) →
 aI.J4 [.N n0, .V v1, .L l2, .I i3, .L l4, .L l8, .I i9, .I i10, .I i11, .I i12, .B b13, .I i14, .B b15, .I i16, .B b17, .B b18, .I i19, .I i20, .I i21, .I i22, .S s23] →
 (aI.sig 0).post [.N n0, .V v1, .L l2, .I i3, .L l4, .V v7, .L l8, .I i9, .I i10, .I i11, .I i12, .B b13, .I i14, .B b15, .I i16, .B b17, .B b18, .I i19, .I i20, .I i21, .I i22, .S s23]
def aI.C3 (n0 : Nat) (v1 : Value) (l2 : LD) (i3 : Int) (l4 : LD) : Prop :=
 ∀ n5 n6 : Nat,
 ∀ v7 : Value,
 ∀ l8 : LD,
 ∀ i9 i10 i11 i12 : Int,
 ∀ b13 : Bool,
 ∀ i14 : Int,
 ∀ b15 : Bool,
 ∀ i16 : Int,
 ∀ b17 b18 : Bool,
 ∀ i19 i20 i21 i22 : Int,
 ∀ s23 : BA,
 R64 i9 →
 (EK.ok [.int .i64, .str, .int .u64] (D.L l8)) →
 R64 i10 →
 R64 i11 →
 R64 i12 →
 U64 i14 →
 U64 i16 →
 R64 i19 →
 R64 i20 →
 R64 i21 →
 R64 i22 →
 ((s23.size : Int) ≤ 9223372036854775807) →
 aI.J3 [.N n0, .V v1, .L l2, .I i3, .L l4, .L l8, .I i9, .I i10, .I i11, .I i12, .B b13, .I i14, .B b15, .I i16, .B b17, .B b18, .I i19, .I i20, .I i21, .I i22, .S s23] →
 ((
 (15 < i10) →
  dM.sig.pre [.N n0, .V v7, .L l8, .I i9] ∧ (
 ∀ v24 : Value,
 ∀ l25 : LD,
 ∀ i26 i27 : Int,
  dM.sig.post [.N n0, .V v7, .L l8, .I i9, .V v24, .L l25, .I i26, .I i27] →
 U64 i27 →
 R64 i26 →
 (EK.ok [.int .i64, .str, .int .u64] (D.L l25)) →
  aI.J4 [.N n0, .V v1, .L l2, .I i3, .L l4, .L l25, .I i26, .I i10, .I i11, .I i12, .B b13, .I i14, .B b15, .I i16, .B b17, .B b18, .I i19, .I i20, .I i21, .I (wrap .i64 (fC i27 9)), .S s23] ∧ (
 (aI.C4 n0 v1 l2 i3 l4)))) ∧ (
 (i10 ≤ 15) →
  aI.J4 [.N n0, .V v1, .L l2, .I i3, .L l4, .L l8, .I i9, .I i10, .I i11, .I i12, .B b13, .I i14, .B b15, .I i16, .B b17, .B b18, .I i19, .I i20, .I i21, .I i22, .S s23] ∧ (
 (aI.C4 n0 v1 l2 i3 l4))))
def aI.C2 (n0 : Nat) (v1 : Value) (l2 : LD) (i3 : Int) (l4 : LD) : Prop :=
 ∀ n5 n6 : Nat,
 ∀ v7 : Value,
 ∀ l8 : LD,
 ∀ i9 i10 i11 i12 : Int,
 ∀ b13 : Bool,
 ∀ i14 : Int,
 ∀ b15 : Bool,
 ∀ i16 : Int,
 ∀ b17 b18 : Bool,
 ∀ i19 i20 i21 i22 : Int,
 ∀ s23 : BA,
 R64 i9 →
 (EK.ok [.int .i64, .str, .int .u64] (D.L l8)) →
 R64 i10 →
 R64 i11 →
 R64 i12 →
 U64 i14 →
 U64 i16 →
 R64 i19 →
 R64 i20 →
 R64 i21 →
 R64 i22 →
 ((s23.size : Int) ≤ 9223372036854775807) →
 aI.J2 [.N n0, .V v1, .L l2, .I i3, .L l4, .L l8, .I i9, .I i10, .I i11, .I i12, .B b13, .I i14, .B b15, .I i16, .B b17, .B b18, .I i19, .I i20, .I i21, .I i22, .S s23] →
 dW.sig.pre [.I i10, .I i11, .I i12, .B b13, .I i14, .B b15, .I i16, .B b17, .B b18, .I i19, .I i20, .I i21, .I i22] ∧ (
 ∀ b24 : Bool,
 dW.sig.post [.I i10, .I i11, .I i12, .B b13, .I i14, .B b15, .I i16, .B b17, .B b18, .I i19, .I i20, .I i21, .I i22, .B b24] →
 ((
 (b24 = true) →
  jL.sig.pre [.N n0, .V v7, .L l8, .I i9, .N n6, .I i10, .I i11, .I i12, .B b13, .I i14, .B b15, .I i16, .B b17, .B b18, .I i19, .I i20, .I i21, .I i22, .S s23] ∧ (
 ∀ v25 : Value,
 ∀ l26 : LD,
 ∀ i27 i28 i29 i30 : Int,
 ∀ b31 : Bool,
 ∀ i32 : Int,
 ∀ b33 : Bool,
 ∀ i34 : Int,
 ∀ b35 b36 : Bool,
 ∀ i37 i38 i39 i40 : Int,
  jL.sig.post [.N n0, .V v7, .L l8, .I i9, .N n6, .I i10, .I i11, .I i12, .B b13, .I i14, .B b15, .I i16, .B b17, .B b18, .I i19, .I i20, .I i21, .I i22, .S s23, .V v25, .L l26, .I i27, .I i28, .I i29, .I i30, .B b31, .I i32, .B b33, .I i34, .B b35, .B b36, .I i37, .I i38, .I i39, .I i40] →
 R64 i27 →
 (EK.ok [.int .i64, .str, .int .u64] (D.L l26)) →
 R64 i28 →
 R64 i29 →
 R64 i30 →
 U64 i32 →
 U64 i34 →
 R64 i37 →
 R64 i38 →
 R64 i39 →
 R64 i40 →
  aI.J3 [.N n0, .V v1, .L l2, .I i3, .L l4, .L l26, .I i27, .I i28, .I i29, .I i30, .B b31, .I i32, .B b33, .I i34, .B b35, .B b36, .I i37, .I i38, .I i39, .I i40, .S s23] ∧ (
 (aI.C3 n0 v1 l2 i3 l4)))) ∧ (
 (b24 = false) →
  aI.J3 [.N n0, .V v1, .L l2, .I i3, .L l4, .L l8, .I i9, .I i10, .I i11, .I i12, .B b13, .I i14, .B b15, .I i16, .B b17, .B b18, .I i19, .I i20, .I i21, .I i22, .S s23] ∧ (
 (aI.C3 n0 v1 l2 i3 l4)))))
def aI.C1 (n0 : Nat) (v1 : Value) (l2 : LD) (i3 : Int) (l4 : LD) : Prop :=
 ∀ n5 n6 : Nat,
 ∀ v7 : Value,
 ∀ l8 : LD,
 ∀ i9 i10 i11 i12 : Int,
 ∀ b13 : Bool,
 ∀ i14 : Int,
 ∀ b15 : Bool,
 ∀ i16 : Int,
 ∀ b17 b18 : Bool,
 ∀ i19 i20 i21 i22 : Int,
 ∀ s23 : BA,
 R64 i9 →
 (EK.ok [.int .i64, .str, .int .u64] (D.L l8)) →
 R64 i10 →
 R64 i11 →
 R64 i12 →
 U64 i14 →
 U64 i16 →
 R64 i19 →
 R64 i20 →
 R64 i21 →
 R64 i22 →
 ((s23.size : Int) ≤ 9223372036854775807) →
 aI.J1 [.N n0, .V v1, .L l2, .I i3, .L l4, .L l8, .I i9, .I i10, .I i11, .I i12, .B b13, .I i14, .B b15, .I i16, .B b17, .B b18, .I i19, .I i20, .I i21, .I i22, .S s23] →
 ((
 (i10 = 1) →
  dM.sig.pre [.N n0, .V v7, .L l8, .I i9] ∧ (
 ∀ v24 : Value,
 ∀ l25 : LD,
 ∀ i26 i27 : Int,
  dM.sig.post [.N n0, .V v7, .L l8, .I i9, .V v24, .L l25, .I i26, .I i27] →
 U64 i27 →
 R64 i26 →
 (EK.ok [.int .i64, .str, .int .u64] (D.L l25)) →
  aI.J2 [.N n0, .V v1, .L l2, .I i3, .L l4, .L l25, .I i26, .I i10, .I i11, .I i12, .B b13, .I i27, .B b15, .I i16, .B b17, .B b18, .I i19, .I i20, .I i21, .I i22, .S s23] ∧ (
 (aI.C2 n0 v1 l2 i3 l4)))) ∧ (
 (i10 ≠ 1) →
  lOf.sig.pre [.I i10, .I i11, .I i12, .B b13, .I i14, .B b15, .I i16, .B b17, .B b18, .I i19, .I i20, .I i21, .I i22] ∧ (
 ∀ b24 b25 : Bool,
  lOf.sig.post [.I i10, .I i11, .I i12, .B b13, .I i14, .B b15, .I i16, .B b17, .B b18, .I i19, .I i20, .I i21, .I i22, .B b24, .B b25] →
 ((
 (b25 = true) →
  eF.sig.pre [.N n0, .V v7, .L l8, .I i9] ∧ (
 ∀ v26 : Value,
 ∀ l27 : LD,
 ∀ i28 : Int,
 ∀ b29 : Bool,
 ∀ i30 : Int,
  eF.sig.post [.N n0, .V v7, .L l8, .I i9, .V v26, .L l27, .I i28, .B b29, .I i30] →
 U64 i30 →
 R64 i28 →
 (EK.ok [.int .i64, .str, .int .u64] (D.L l27)) →
  aI.J2 [.N n0, .V v1, .L l2, .I i3, .L l4, .L l27, .I i28, .I i10, .I i11, .I i12, .B b29, .I i30, .B b15, .I i16, .B b17, .B b18, .I i19, .I i20, .I i21, .I i22, .S s23] ∧ (
 (aI.C2 n0 v1 l2 i3 l4)))) ∧ (
 (b25 = false) →
 ((
 (i10 < 9) →
  eF.sig.pre [.N n0, .V v7, .L l8, .I i9] ∧ (
 ∀ v26 : Value,
 ∀ l27 : LD,
 ∀ i28 : Int,
 ∀ b29 : Bool,
 ∀ i30 : Int,
  eF.sig.post [.N n0, .V v7, .L l8, .I i9, .V v26, .L l27, .I i28, .B b29, .I i30] →
 U64 i30 →
 R64 i28 →
 (EK.ok [.int .i64, .str, .int .u64] (D.L l27)) →
  eF.sig.pre [.N n0, .V v26, .L l27, .I i28] ∧ (
 ∀ v31 : Value,
 ∀ l32 : LD,
 ∀ i33 : Int,
 ∀ b34 : Bool,
 ∀ i35 : Int,
  eF.sig.post [.N n0, .V v26, .L l27, .I i28, .V v31, .L l32, .I i33, .B b34, .I i35] →
 U64 i35 →
 R64 i33 →
 (EK.ok [.int .i64, .str, .int .u64] (D.L l32)) →
  aI.J2 [.N n0, .V v1, .L l2, .I i3, .L l4, .L l32, .I i33, .I i10, .I i11, .I i12, .B b29, .I i30, .B b34, .I i35, .B b17, .B b18, .I i19, .I i20, .I i21, .I i22, .S s23] ∧ (
 (aI.C2 n0 v1 l2 i3 l4))))) ∧ (
 (9 ≤ i10) →
 ((
 (15 < i10) →
   eF.sig.pre [.N n0, .V v7, .L l8, .I i9] ∧ (
 ∀ v26 : Value,
 ∀ l27 : LD,
 ∀ i28 : Int,
 ∀ b29 : Bool,
 ∀ i30 : Int,
   eF.sig.post [.N n0, .V v7, .L l8, .I i9, .V v26, .L l27, .I i28, .B b29, .I i30] →
 U64 i30 →
 R64 i28 →
 (EK.ok [.int .i64, .str, .int .u64] (D.L l27)) →
   eF.sig.pre [.N n0, .V v26, .L l27, .I i28] ∧ (
 ∀ v31 : Value,
 ∀ l32 : LD,
 ∀ i33 : Int,
 ∀ b34 : Bool,
 ∀ i35 : Int,
   eF.sig.post [.N n0, .V v26, .L l27, .I i28, .V v31, .L l32, .I i33, .B b34, .I i35] →
 U64 i35 →
 R64 i33 →
 (EK.ok [.int .i64, .str, .int .u64] (D.L l32)) →
   aI.J2 [.N n0, .V v1, .L l2, .I i3, .L l4, .L l32, .I i33, .I i10, .I i11, .I i12, .B b29, .I i30, .B b34, .I i35, .B b17, .B b18, .I i19, .I i20, .I i21, .I i22, .S s23] ∧ (
 (aI.C2 n0 v1 l2 i3 l4))))) ∧ (
 (i10 ≤ 15) →
 ((
 (i10 = 15) →
   jK.sig.pre [.N n0, .V v7, .L l8, .I i9] ∧ (
 ∀ v26 : Value,
 ∀ l27 : LD,
 ∀ i28 i29 : Int,
   jK.sig.post [.N n0, .V v7, .L l8, .I i9, .V v26, .L l27, .I i28, .I i29] →
 R64 i29 →
 R64 i28 →
 (EK.ok [.int .i64, .str, .int .u64] (D.L l27)) →
   jK.sig.pre [.N n0, .V v26, .L l27, .I i28] ∧ (
 ∀ v30 : Value,
 ∀ l31 : LD,
 ∀ i32 i33 : Int,
   jK.sig.post [.N n0, .V v26, .L l27, .I i28, .V v30, .L l31, .I i32, .I i33] →
 R64 i33 →
 R64 i32 →
 (EK.ok [.int .i64, .str, .int .u64] (D.L l31)) →
   aI.J2 [.N n0, .V v1, .L l2, .I i3, .L l4, .L l31, .I i32, .I i10, .I i11, .I i12, .B b13, .I i14, .B b15, .I i16, .B b17, .B b18, .I i19, .I i29, .I i33, .I i22, .S s23] ∧ (
 (aI.C2 n0 v1 l2 i3 l4))))) ∧ (
 (i10 ≠ 15) →
   aI.J2 [.N n0, .V v1, .L l2, .I i3, .L l4, .L l8, .I i9, .I i10, .I i11, .I i12, .B b13, .I i14, .B b15, .I i16, .B b17, .B b18, .I i19, .I i20, .I i21, .I i22, .S s23] ∧ (
 (aI.C2 n0 v1 l2 i3 l4)))))))))))))
def aI.C0 (n0 : Nat) (v1 : Value) (l2 : LD) (i3 : Int) (l4 : LD) : Prop :=
 ∀ n5 n6 : Nat,
 ∀ v7 : Value,
 ∀ l8 : LD,
 ∀ i9 i10 i11 i12 : Int,
 ∀ b13 : Bool,
 ∀ i14 : Int,
 ∀ b15 : Bool,
 ∀ i16 : Int,
 ∀ b17 b18 : Bool,
 ∀ i19 i20 i21 i22 : Int,
 ∀ s23 : BA,
 R64 i9 →
 (EK.ok [.int .i64, .str, .int .u64] (D.L l8)) →
 R64 i10 →
 R64 i11 →
 R64 i12 →
 U64 i14 →
 U64 i16 →
 R64 i19 →
 R64 i20 →
 R64 i21 →
 R64 i22 →
 ((s23.size : Int) ≤ 9223372036854775807) →
 aI.J0 [.N n0, .V v1, .L l2, .I i3, .L l4, .L l8, .I i9, .I i10, .I i11, .I i12, .B b13, .I i14, .B b15, .I i16, .B b17, .B b18, .I i19, .I i20, .I i21, .I i22, .S s23] →
 dW.sig.pre [.I i10, .I i11, .I i12, .B b13, .I i14, .B b15, .I i16, .B b17, .B b18, .I i19, .I i20, .I i21, .I i22] ∧ (
 ∀ b24 : Bool,
 dW.sig.post [.I i10, .I i11, .I i12, .B b13, .I i14, .B b15, .I i16, .B b17, .B b18, .I i19, .I i20, .I i21, .I i22, .B b24] →
 ((
 (b24 = true) →
  gX.sig.pre [.N n0, .V v7, .L l8, .I i9] ∧ (
 ∀ v25 : Value,
 ∀ l26 : LD,
 ∀ i27 : Int,
 ∀ s28 : BA,
  gX.sig.post [.N n0, .V v7, .L l8, .I i9, .V v25, .L l26, .I i27, .S s28] →
 ((s28.size : Int) ≤ 9223372036854775807) →
 R64 i27 →
 (EK.ok [.int .i64, .str, .int .u64] (D.L l26)) →
  aI.J1 [.N n0, .V v1, .L l2, .I i3, .L l4, .L l26, .I i27, .I i10, .I i11, .I i12, .B b13, .I i14, .B b15, .I i16, .B b17, .B b18, .I i19, .I i20, .I i21, .I i22, .S s28] ∧ (
 (aI.C1 n0 v1 l2 i3 l4)))) ∧ (
 (b24 = false) →
  aI.J1 [.N n0, .V v1, .L l2, .I i3, .L l4, .L l8, .I i9, .I i10, .I i11, .I i12, .B b13, .I i14, .B b15, .I i16, .B b17, .B b18, .I i19, .I i20, .I i21, .I i22, .S s23] ∧ (
 (aI.C1 n0 v1 l2 i3 l4)))))
abbrev aI.K0 (n0 : Nat) (v1 : Value) (l2 : LD) (i3 : Int) (l4 : LD) : Prop :=
 (
  eG.sig.pre [.N n0, .V v1, .L l2, .I i3] ∧ (
 ∀ v7 : Value,
 ∀ l8 : LD,
 ∀ i9 : Int,
 ∀ s10 : BA,
  eG.sig.post [.N n0, .V v1, .L l2, .I i3, .V v7, .L l8, .I i9, .S s10] →
 ((s10.size : Int) ≤ 9223372036854775807) →
 R64 i9 →
 (EK.ok [.int .i64, .str, .int .u64] (D.L l8)) →
  gZ.sig.pre [(D.V ((l4.getD (0 : Int).toNat default).toL.getD (0 : Int).toNat default).toV), (D.L ((l4.getD (0 : Int).toNat default).toL.getD (1 : Int).toNat default).toL), .S s10] ∧ (
 ∀ i11 : Int,
  gZ.sig.post [(D.V ((l4.getD (0 : Int).toNat default).toL.getD (0 : Int).toNat default).toV), (D.L ((l4.getD (0 : Int).toNat default).toL.getD (1 : Int).toNat default).toL), .S s10, .I i11] →
 R64 i11 →
 ((
 ((kZ i11 0) = 0) →
   aW.sig.pre [.N n0, .V v7, .L l8, .I i9, .I 10] ∧ (
 ∀ i12 : Int,
  aW.sig.post [.N n0, .V v7, .L l8, .I i9, .I 10, .I i12] →
 R64 i12 →
 (aI.sig 0).post [.N n0, .V v1, .L l2, .I i3, .L l4, .V v7, .L l8, .I i12, .I (kZ i11 0), .I 0, .I 0, .B false, .I 0, .B false, .I 0, .B false, .B false, .I 0, .I 0, .I 0, .I 0, .S (⟨#[]⟩ : BA)])) ∧ (
 ((kZ i11 0) ≠ 0) →
   iW.sig.pre [.I (kZ i11 0), .I 0, .I 0, .B false, .I 0, .B false, .I 0, .B false, .B false, .I 0, .I 0, .I 0, .I 0] ∧ (
 ∀ b12 : Bool,
  iW.sig.post [.I (kZ i11 0), .I 0, .I 0, .B false, .I 0, .B false, .I 0, .B false, .B false, .I 0, .I 0, .I 0, .I 0, .B b12] →
 ((
 (b12 = true) →
  dA.sig.pre [.N n0, .V v7, .L l8, .I i9] ∧ (
 ∀ v13 : Value,
 ∀ l14 : LD,
 ∀ i15 i16 : Int,
  dA.sig.post [.N n0, .V v7, .L l8, .I i9, .V v13, .L l14, .I i15, .I i16] →
 R64 i16 →
 R64 i15 →
 (EK.ok [.int .i64, .str, .int .u64] (D.L l14)) →
  aI.J0 [.N n0, .V v1, .L l2, .I i3, .L l4, .L l14, .I i15, .I (kZ i11 0), .I i16, .I 0, .B false, .I 0, .B false, .I 0, .B false, .B false, .I 0, .I 0, .I 0, .I 0, .S (⟨#[]⟩ : BA)] ∧ (
 (aI.C0 n0 v1 l2 i3 l4)))) ∧ (
 (b12 = false) →
  aI.J0 [.N n0, .V v1, .L l2, .I i3, .L l4, .L l8, .I i9, .I (kZ i11 0), .I 0, .I 0, .B false, .I 0, .B false, .I 0, .B false, .B false, .I 0, .I 0, .I 0, .I 0, .S (⟨#[]⟩ : BA)] ∧ (
 (aI.C0 n0 v1 l2 i3 l4))))))))))
def aI.Pure : Prop :=
 ∀ n0 : Nat,
 ∀ v1 : Value,
 ∀ l2 : LD,
 ∀ i3 : Int,
 ∀ l4 : LD,
 R64 i3 →
 (EK.ok [.int .i64, .str, .int .u64] (D.L l2)) →
 (EK.ok [.sl [.str]] (D.L l4)) →
 (aI.sig 0).pre [.N n0, .V v1, .L l2, .I i3, .L l4] →
 ∀ n5 n6 : Nat,
 ((aI.K0 n0 v1 l2 i3 l4) ∧ (aI.K0 n0 v1 l2 i3 l4))
def cName.Pure : Prop :=
 ∀ s0 : BA,
 ∀ i1 : Int,
 ∀ n2 : Nat,
 ∀ s3 : BA,
 ((s0.size : Int) ≤ 9223372036854775807) →
 U64 i1 →
 ((s3.size : Int) ≤ 9223372036854775807) →
 cName.sig.pre [.S s0, .I i1, .N n2, .S s3] →
 ∀ n4 : Nat,
 cName.sig.post [.S s0, .I i1, .N n2, .S s3, .B (s0.toList == s3.toList)]
def dK.Pure : Prop :=
 ∀ v0 : Value,
 ∀ l1 : LD,
 ∀ n2 : Nat,
 ∀ s3 : BA,
 (EK.ok [.str, .int .u64] (D.L l1)) →
 ((s3.size : Int) ≤ 9223372036854775807) →
 (dK.sig 0).pre [.V v0, .L l1, .N n2, .S s3] →
 dK.I0 [.V v0, .L l1, .N n2, .S s3, .I 0] ∧ (
 ∀ i4 : Int,
 R64 i4 →
 dK.I0 [.V v0, .L l1, .N n2, .S s3, .I i4] →
 ((
 (i4 < (l1.length : Int)) →
 Im (0 ≤ i4) (
  cName.sig.pre [(D.S ((l1.getD i4.toNat default).toL.getD (0 : Int).toNat default).toS), (D.I ((l1.getD i4.toNat default).toL.getD (1 : Int).toNat default).toI), .N n2, .S s3] ∧ (
 ∀ b5 : Bool,
  cName.sig.post [(D.S ((l1.getD i4.toNat default).toL.getD (0 : Int).toNat default).toS), (D.I ((l1.getD i4.toNat default).toL.getD (1 : Int).toNat default).toI), .N n2, .S s3, .B b5] →
 ((
 (b5 = true) →
 (dK.sig 0).post [.V v0, .L l1, .N n2, .S s3, .I i4]) ∧ (
 (b5 = false) →
  Bk dK.I0 dK.I0M [.V v0, .L l1, .N n2, .S s3, .I (wrap .i64 (i4 + 1))] [.V v0, .L l1, .N n2, .S s3, .I i4]))))) ∧ (
 ((l1.length : Int) ≤ i4) →
 (dK.sig 0).post [.V v0, .L l1, .N n2, .S s3, .I (-1 : Int)])))
def mP.Pure : Prop :=
 ∀ v0 : Value,
 ∀ l1 : LD,
 ∀ n2 : Nat,
 ∀ s3 : BA,
 (EK.ok [.str, .int .u64] (D.L l1)) →
 ((s3.size : Int) ≤ 9223372036854775807) →
 (mP.sig 0).pre [.V v0, .L l1, .N n2, .S s3] →
 (dK.sig 0).pre [.V v0, .L l1, .N n2, .S s3] ∧ (
 ∀ i4 : Int,
 (dK.sig 0).post [.V v0, .L l1, .N n2, .S s3, .I i4] →
 R64 i4 →
 (mP.sig 0).post [.V v0, .L l1, .N n2, .S s3, .B (decide (0 ≤ i4))])
def dF.Pure : Prop :=
 ∀ n0 : Nat,
 ∀ v1 : Value,
 ∀ l2 : LD,
 ∀ v3 v4 : Value,
 ∀ n5 : Nat,
 ∀ v6 : Value,
 ∀ l7 : LD,
 ∀ i8 : Int,
 (EK.ok [.str, .int .u64] (D.L l2)) →
 R64 i8 →
 (EK.ok [.int .i64, .str, .int .u64] (D.L l7)) →
 dF.sig.pre [.N n0, .V v1, .L l2, .V v3, .V v4, .N n5, .V v6, .L l7, .I i8] →
 dF.I0 [.N n0, .V v1, .L l2, .V v3, .V v4, .N n5, .V v6, .L l7, .I i8, .L l2, .L l7, .I i8] ∧ (
 ∀ v9 : Value,
 ∀ l10 : LD,
 ∀ v11 : Value,
 ∀ l12 : LD,
 ∀ i13 : Int,
 (EK.ok [.str, .int .u64] (D.L l10)) →
 R64 i13 →
 (EK.ok [.int .i64, .str, .int .u64] (D.L l12)) →
 dF.I0 [.N n0, .V v1, .L l2, .V v3, .V v4, .N n5, .V v6, .L l7, .I i8, .L l10, .L l12, .I i13] →
 ((
 (0 < (l12.length : Int)) →
 ((
 (i13 = 0) →
  gX.sig.pre [.N n5, .V v11, .L l12, .I i13] ∧ (
 ∀ v14 : Value,
 ∀ l15 : LD,
 ∀ i16 : Int,
 ∀ s17 : BA,
  gX.sig.post [.N n5, .V v11, .L l12, .I i13, .V v14, .L l15, .I i16, .S s17] →
 ((s17.size : Int) ≤ 9223372036854775807) →
 R64 i16 →
 (EK.ok [.int .i64, .str, .int .u64] (D.L l15)) →
 ∀ n18 : Nat,
  gY.sig.pre [.N n5, .V v14, .L l15, .I i16, .S (⟨#[61]⟩ : BA)] ∧ (
 ∀ v19 : Value,
 ∀ l20 : LD,
 ∀ i21 : Int,
  gY.sig.post [.N n5, .V v14, .L l15, .I i16, .S (⟨#[61]⟩ : BA), .V v19, .L l20, .I i21] →
 R64 i21 →
 (EK.ok [.int .i64, .str, .int .u64] (D.L l20)) →
  dM.sig.pre [.N n5, .V v19, .L l20, .I i21] ∧ (
 ∀ v22 : Value,
 ∀ l23 : LD,
 ∀ i24 i25 : Int,
  dM.sig.post [.N n5, .V v19, .L l20, .I i21, .V v22, .L l23, .I i24, .I i25] →
 U64 i25 →
 R64 i24 →
 (EK.ok [.int .i64, .str, .int .u64] (D.L l23)) →
 (mP.sig 0).pre [.V v9, .L l10, .N n18, .S s17] ∧ (
 ∀ b26 : Bool,
 (mP.sig 0).post [.V v9, .L l10, .N n18, .S s17, .B b26] →
 ((
 (b26 = true) →
  aW.sig.pre [.N n5, .V v22, .L l23, .I i24, .I 14] ∧ (
 ∀ i27 : Int,
  aW.sig.post [.N n5, .V v22, .L l23, .I i24, .I 14, .I i27] →
 R64 i27 →
 ((
 ∀ v28 : Value,
 Im (((l10 ++ ((D.L ((D.S s17) :: ((D.I i25) :: ([] : LD)))) :: ([] : LD))).length : Int) ≤ (5864062014805 : Int)) (
 ∀ v29 : Value,
   Bk dF.I0 dF.I0M [.N n0, .V v1, .L l2, .V v3, .V v4, .N n5, .V v6, .L l7, .I i8, .L (l10 ++ ((D.L ((D.S s17) :: ((D.I i25) :: ([] : LD)))) :: ([] : LD))), .L l23, .I i27] [.N n0, .V v1, .L l2, .V v3, .V v4, .N n5, .V v6, .L l7, .I i8, .L l10, .L l12, .I i13])) ∧ (
 ((
 ∀ v28 : Value,
 Im (((l10 ++ ((D.L ((D.S s17) :: ((D.I i25) :: ([] : LD)))) :: ([] : LD))).length : Int) ≤ (5864062014805 : Int)) (
 ∀ v29 : Value,
   Bk dF.I0 dF.I0M [.N n0, .V v1, .L l2, .V v3, .V v4, .N n5, .V v6, .L l7, .I i8, .L (l10 ++ ((D.L ((D.S s17) :: ((D.I i25) :: ([] : LD)))) :: ([] : LD))), .L l23, .I i27] [.N n0, .V v1, .L l2, .V v3, .V v4, .N n5, .V v6, .L l7, .I i8, .L l10, .L l12, .I i13])) ∧ (
 ∀ v28 : Value,
 Im (((l10 ++ ((D.L ((D.S s17) :: ((D.I i25) :: ([] : LD)))) :: ([] : LD))).length : Int) ≤ (5864062014805 : Int)) (
 ∀ v29 : Value,
   Bk dF.I0 dF.I0M [.N n0, .V v1, .L l2, .V v3, .V v4, .N n5, .V v6, .L l7, .I i8, .L (l10 ++ ((D.L ((D.S s17) :: ((D.I i25) :: ([] : LD)))) :: ([] : LD))), .L l23, .I i27] [.N n0, .V v1, .L l2, .V v3, .V v4, .N n5, .V v6, .L l7, .I i8, .L l10, .L l12, .I i13]))))))) ∧ (
 (b26 = false) →
 ((
 ∀ v27 : Value,
 Im (((l10 ++ ((D.L ((D.S s17) :: ((D.I i25) :: ([] : LD)))) :: ([] : LD))).length : Int) ≤ (5864062014805 : Int)) (
 ∀ v28 : Value,
   Bk dF.I0 dF.I0M [.N n0, .V v1, .L l2, .V v3, .V v4, .N n5, .V v6, .L l7, .I i8, .L (l10 ++ ((D.L ((D.S s17) :: ((D.I i25) :: ([] : LD)))) :: ([] : LD))), .L l23, .I i24] [.N n0, .V v1, .L l2, .V v3, .V v4, .N n5, .V v6, .L l7, .I i8, .L l10, .L l12, .I i13])) ∧ (
 ((
 ∀ v27 : Value,
 Im (((l10 ++ ((D.L ((D.S s17) :: ((D.I i25) :: ([] : LD)))) :: ([] : LD))).length : Int) ≤ (5864062014805 : Int)) (
 ∀ v28 : Value,
   Bk dF.I0 dF.I0M [.N n0, .V v1, .L l2, .V v3, .V v4, .N n5, .V v6, .L l7, .I i8, .L (l10 ++ ((D.L ((D.S s17) :: ((D.I i25) :: ([] : LD)))) :: ([] : LD))), .L l23, .I i24] [.N n0, .V v1, .L l2, .V v3, .V v4, .N n5, .V v6, .L l7, .I i8, .L l10, .L l12, .I i13])) ∧ (
 ∀ v27 : Value,
 Im (((l10 ++ ((D.L ((D.S s17) :: ((D.I i25) :: ([] : LD)))) :: ([] : LD))).length : Int) ≤ (5864062014805 : Int)) (
 ∀ v28 : Value,
   Bk dF.I0 dF.I0M [.N n0, .V v1, .L l2, .V v3, .V v4, .N n5, .V v6, .L l7, .I i8, .L (l10 ++ ((D.L ((D.S s17) :: ((D.I i25) :: ([] : LD)))) :: ([] : LD))), .L l23, .I i24] [.N n0, .V v1, .L l2, .V v3, .V v4, .N n5, .V v6, .L l7, .I i8, .L l10, .L l12, .I i13])))))))))))) ∧ (
 (i13 ≠ 0) →
  dF.sig.post [.N n0, .V v1, .L l2, .V v3, .V v4, .N n5, .V v6, .L l7, .I i8, .V v9, .L l10, .V v11, .L l12, .I i13]))) ∧ (
 ((l12.length : Int) ≤ (0 : Int)) →
  dF.sig.post [.N n0, .V v1, .L l2, .V v3, .V v4, .N n5, .V v6, .L l7, .I i8, .V v9, .L l10, .V v11, .L l12, .I i13])))
def lM.Pure : Prop :=
 ∀ i0 i1 i2 : Int,
 ∀ s3 : BA,
 ∀ n4 : Nat,
 ∀ i5 i6 i7 : Int,
 ∀ s8 : BA,
 R64 i0 →
 R64 i1 →
 U64 i2 →
 ((s3.size : Int) ≤ 9223372036854775807) →
 R64 i5 →
 R64 i6 →
 U64 i7 →
 ((s8.size : Int) ≤ 9223372036854775807) →
 lM.sig.pre [.I i0, .I i1, .I i2, .S s3, .N n4, .I i5, .I i6, .I i7, .S s8] →
 ∀ n9 : Nat,
 ((
 (s3 = s8) →
 ((
 (i0 = i5) →
  lM.sig.post [.I i0, .I i1, .I i2, .S s3, .N n4, .I i5, .I i6, .I i7, .S s8, .B (i1 == i6)]) ∧ (
 (i0 ≠ i5) →
  lM.sig.post [.I i0, .I i1, .I i2, .S s3, .N n4, .I i5, .I i6, .I i7, .S s8, .B false]))) ∧ (
 (s3 ≠ s8) →
  lM.sig.post [.I i0, .I i1, .I i2, .S s3, .N n4, .I i5, .I i6, .I i7, .S s8, .B false]))
def fZ.Pure : Prop :=
 ∀ v0 : Value,
 ∀ l1 : LD,
 ∀ n2 : Nat,
 ∀ i3 i4 i5 : Int,
 ∀ s6 : BA,
 (EK.ok [.int .i64, .int .i64, .int .u64, .str] (D.L l1)) →
 R64 i3 →
 R64 i4 →
 U64 i5 →
 ((s6.size : Int) ≤ 9223372036854775807) →
 (fZ.sig 0).pre [.V v0, .L l1, .N n2, .I i3, .I i4, .I i5, .S s6] →
 fZ.I0 [.V v0, .L l1, .N n2, .I i3, .I i4, .I i5, .S s6, .I 0] ∧ (
 ∀ i7 : Int,
 R64 i7 →
 fZ.I0 [.V v0, .L l1, .N n2, .I i3, .I i4, .I i5, .S s6, .I i7] →
 ((
 (i7 < (l1.length : Int)) →
 Im (0 ≤ i7) (
  lM.sig.pre [(D.I ((l1.getD i7.toNat default).toL.getD (0 : Int).toNat default).toI), (D.I ((l1.getD i7.toNat default).toL.getD (1 : Int).toNat default).toI), (D.I ((l1.getD i7.toNat default).toL.getD (2 : Int).toNat default).toI), (D.S ((l1.getD i7.toNat default).toL.getD (3 : Int).toNat default).toS), .N n2, .I i3, .I i4, .I i5, .S s6] ∧ (
 ∀ b8 : Bool,
  lM.sig.post [(D.I ((l1.getD i7.toNat default).toL.getD (0 : Int).toNat default).toI), (D.I ((l1.getD i7.toNat default).toL.getD (1 : Int).toNat default).toI), (D.I ((l1.getD i7.toNat default).toL.getD (2 : Int).toNat default).toI), (D.S ((l1.getD i7.toNat default).toL.getD (3 : Int).toNat default).toS), .N n2, .I i3, .I i4, .I i5, .S s6, .B b8] →
 ((
 (b8 = true) →
 (fZ.sig 0).post [.V v0, .L l1, .N n2, .I i3, .I i4, .I i5, .S s6, .I i7]) ∧ (
 (b8 = false) →
  Bk fZ.I0 fZ.I0M [.V v0, .L l1, .N n2, .I i3, .I i4, .I i5, .S s6, .I (wrap .i64 (i7 + 1))] [.V v0, .L l1, .N n2, .I i3, .I i4, .I i5, .S s6, .I i7]))))) ∧ (
 ((l1.length : Int) ≤ i7) →
 (fZ.sig 0).post [.V v0, .L l1, .N n2, .I i3, .I i4, .I i5, .S s6, .I (-1 : Int)])))
def mW.Pure : Prop :=
 ∀ v0 : Value,
 ∀ l1 : LD,
 ∀ n2 : Nat,
 ∀ i3 i4 i5 : Int,
 ∀ s6 : BA,
 (EK.ok [.int .i64, .int .i64, .int .u64, .str] (D.L l1)) →
 R64 i3 →
 R64 i4 →
 U64 i5 →
 ((s6.size : Int) ≤ 9223372036854775807) →
 (mW.sig 0).pre [.V v0, .L l1, .N n2, .I i3, .I i4, .I i5, .S s6] →
 (fZ.sig 0).pre [.V v0, .L l1, .N n2, .I i3, .I i4, .I i5, .S s6] ∧ (
 ∀ i7 : Int,
 (fZ.sig 0).post [.V v0, .L l1, .N n2, .I i3, .I i4, .I i5, .S s6, .I i7] →
 R64 i7 →
 (mW.sig 0).post [.V v0, .L l1, .N n2, .I i3, .I i4, .I i5, .S s6, .B (decide (0 ≤ i7))])
def bJ.Pure : Prop :=
 ∀ n0 : Nat,
 ∀ v1 v2 v3 : Value,
 ∀ l4 : LD,
 ∀ n5 : Nat,
 ∀ v6 : Value,
 ∀ l7 : LD,
 ∀ i8 : Int,
 (EK.ok [.int .i64, .int .i64, .int .u64, .str] (D.L l4)) →
 R64 i8 →
 (EK.ok [.int .i64, .str, .int .u64] (D.L l7)) →
 bJ.sig.pre [.N n0, .V v1, .V v2, .V v3, .L l4, .N n5, .V v6, .L l7, .I i8] →
 bJ.I0 [.N n0, .V v1, .V v2, .V v3, .L l4, .N n5, .V v6, .L l7, .I i8, .L l4, .L l7, .I i8] ∧ (
 ∀ v9 : Value,
 ∀ l10 : LD,
 ∀ v11 : Value,
 ∀ l12 : LD,
 ∀ i13 : Int,
 (EK.ok [.int .i64, .int .i64, .int .u64, .str] (D.L l10)) →
 R64 i13 →
 (EK.ok [.int .i64, .str, .int .u64] (D.L l12)) →
 bJ.I0 [.N n0, .V v1, .V v2, .V v3, .L l4, .N n5, .V v6, .L l7, .I i8, .L l10, .L l12, .I i13] →
 ((
 (0 < (l12.length : Int)) →
 ((
 (i13 = 0) →
 ∀ n14 : Nat,
 ((
 (((l12.getD (0 : Int).toNat default).toL.getD (0 : Int).toNat default).toI = 2) →
    dM.sig.pre [.N n5, .V v11, .L l12, .I i13] ∧ (
 ∀ v15 : Value,
 ∀ l16 : LD,
 ∀ i17 i18 : Int,
  dM.sig.post [.N n5, .V v11, .L l12, .I i13, .V v15, .L l16, .I i17, .I i18] →
 U64 i18 →
 R64 i17 →
 (EK.ok [.int .i64, .str, .int .u64] (D.L l16)) →
  gY.sig.pre [.N n5, .V v15, .L l16, .I i17, .S (⟨#[58]⟩ : BA)] ∧ (
 ∀ v19 : Value,
 ∀ l20 : LD,
 ∀ i21 : Int,
  gY.sig.post [.N n5, .V v15, .L l16, .I i17, .S (⟨#[58]⟩ : BA), .V v19, .L l20, .I i21] →
 R64 i21 →
 (EK.ok [.int .i64, .str, .int .u64] (D.L l20)) →
  dA.sig.pre [.N n5, .V v19, .L l20, .I i21] ∧ (
 ∀ v22 : Value,
 ∀ l23 : LD,
 ∀ i24 i25 : Int,
  dA.sig.post [.N n5, .V v19, .L l20, .I i21, .V v22, .L l23, .I i24, .I i25] →
 R64 i25 →
 R64 i24 →
 (EK.ok [.int .i64, .str, .int .u64] (D.L l23)) →
  gY.sig.pre [.N n5, .V v22, .L l23, .I i24, .S (⟨#[61]⟩ : BA)] ∧ (
 ∀ v26 : Value,
 ∀ l27 : LD,
 ∀ i28 : Int,
  gY.sig.post [.N n5, .V v22, .L l23, .I i24, .S (⟨#[61]⟩ : BA), .V v26, .L l27, .I i28] →
 R64 i28 →
 (EK.ok [.int .i64, .str, .int .u64] (D.L l27)) →
  dM.sig.pre [.N n5, .V v26, .L l27, .I i28] ∧ (
 ∀ v29 : Value,
 ∀ l30 : LD,
 ∀ i31 i32 : Int,
  dM.sig.post [.N n5, .V v26, .L l27, .I i28, .V v29, .L l30, .I i31, .I i32] →
 U64 i32 →
 R64 i31 →
 (EK.ok [.int .i64, .str, .int .u64] (D.L l30)) →
 (mW.sig 0).pre [.V v9, .L l10, .N n14, .I (wrap .i64 (fC i18 4)), .I i25, .I i32, .S (⟨#[]⟩ : BA)] ∧ (
 ∀ b33 : Bool,
 (mW.sig 0).post [.V v9, .L l10, .N n14, .I (wrap .i64 (fC i18 4)), .I i25, .I i32, .S (⟨#[]⟩ : BA), .B b33] →
 ((
 (b33 = true) →
   aW.sig.pre [.N n5, .V v29, .L l30, .I i31, .I 14] ∧ (
 ∀ i34 : Int,
   aW.sig.post [.N n5, .V v29, .L l30, .I i31, .I 14, .I i34] →
 R64 i34 →
 ((
 ∀ v35 : Value,
 Im (((l10 ++ ((D.L ((D.I (wrap .i64 (fC i18 (4 : Int)))) :: ((D.I i25) :: ((D.I i32) :: ((D.S (⟨#[]⟩ : BA)) :: ([] : LD)))))) :: ([] : LD))).length : Int) ≤ (3518437208883 : Int)) (
 ∀ v36 : Value,
   Bk bJ.I0 bJ.I0M [.N n0, .V v1, .V v2, .V v3, .L l4, .N n5, .V v6, .L l7, .I i8, .L (l10 ++ ((D.L ((D.I (wrap .i64 (fC i18 4))) :: ((D.I i25) :: ((D.I i32) :: ((D.S (⟨#[]⟩ : BA)) :: ([] : LD)))))) :: ([] : LD))), .L l30, .I i34] [.N n0, .V v1, .V v2, .V v3, .L l4, .N n5, .V v6, .L l7, .I i8, .L l10, .L l12, .I i13])) ∧ (
 ((
 ∀ v35 : Value,
 Im (((l10 ++ ((D.L ((D.I (wrap .i64 (fC i18 (4 : Int)))) :: ((D.I i25) :: ((D.I i32) :: ((D.S (⟨#[]⟩ : BA)) :: ([] : LD)))))) :: ([] : LD))).length : Int) ≤ (3518437208883 : Int)) (
 ∀ v36 : Value,
    Bk bJ.I0 bJ.I0M [.N n0, .V v1, .V v2, .V v3, .L l4, .N n5, .V v6, .L l7, .I i8, .L (l10 ++ ((D.L ((D.I (wrap .i64 (fC i18 4))) :: ((D.I i25) :: ((D.I i32) :: ((D.S (⟨#[]⟩ : BA)) :: ([] : LD)))))) :: ([] : LD))), .L l30, .I i34] [.N n0, .V v1, .V v2, .V v3, .L l4, .N n5, .V v6, .L l7, .I i8, .L l10, .L l12, .I i13])) ∧ (
 ∀ v35 : Value,
 Im (((l10 ++ ((D.L ((D.I (wrap .i64 (fC i18 (4 : Int)))) :: ((D.I i25) :: ((D.I i32) :: ((D.S (⟨#[]⟩ : BA)) :: ([] : LD)))))) :: ([] : LD))).length : Int) ≤ (3518437208883 : Int)) (
 ∀ v36 : Value,
    Bk bJ.I0 bJ.I0M [.N n0, .V v1, .V v2, .V v3, .L l4, .N n5, .V v6, .L l7, .I i8, .L (l10 ++ ((D.L ((D.I (wrap .i64 (fC i18 4))) :: ((D.I i25) :: ((D.I i32) :: ((D.S (⟨#[]⟩ : BA)) :: ([] : LD)))))) :: ([] : LD))), .L l30, .I i34] [.N n0, .V v1, .V v2, .V v3, .L l4, .N n5, .V v6, .L l7, .I i8, .L l10, .L l12, .I i13]))))))) ∧ (
 (b33 = false) →
 ((
 ∀ v34 : Value,
 Im (((l10 ++ ((D.L ((D.I (wrap .i64 (fC i18 (4 : Int)))) :: ((D.I i25) :: ((D.I i32) :: ((D.S (⟨#[]⟩ : BA)) :: ([] : LD)))))) :: ([] : LD))).length : Int) ≤ (3518437208883 : Int)) (
 ∀ v35 : Value,
   Bk bJ.I0 bJ.I0M [.N n0, .V v1, .V v2, .V v3, .L l4, .N n5, .V v6, .L l7, .I i8, .L (l10 ++ ((D.L ((D.I (wrap .i64 (fC i18 4))) :: ((D.I i25) :: ((D.I i32) :: ((D.S (⟨#[]⟩ : BA)) :: ([] : LD)))))) :: ([] : LD))), .L l30, .I i31] [.N n0, .V v1, .V v2, .V v3, .L l4, .N n5, .V v6, .L l7, .I i8, .L l10, .L l12, .I i13])) ∧ (
 ((
 ∀ v34 : Value,
 Im (((l10 ++ ((D.L ((D.I (wrap .i64 (fC i18 (4 : Int)))) :: ((D.I i25) :: ((D.I i32) :: ((D.S (⟨#[]⟩ : BA)) :: ([] : LD)))))) :: ([] : LD))).length : Int) ≤ (3518437208883 : Int)) (
 ∀ v35 : Value,
    Bk bJ.I0 bJ.I0M [.N n0, .V v1, .V v2, .V v3, .L l4, .N n5, .V v6, .L l7, .I i8, .L (l10 ++ ((D.L ((D.I (wrap .i64 (fC i18 4))) :: ((D.I i25) :: ((D.I i32) :: ((D.S (⟨#[]⟩ : BA)) :: ([] : LD)))))) :: ([] : LD))), .L l30, .I i31] [.N n0, .V v1, .V v2, .V v3, .L l4, .N n5, .V v6, .L l7, .I i8, .L l10, .L l12, .I i13])) ∧ (
 ∀ v34 : Value,
 Im (((l10 ++ ((D.L ((D.I (wrap .i64 (fC i18 (4 : Int)))) :: ((D.I i25) :: ((D.I i32) :: ((D.S (⟨#[]⟩ : BA)) :: ([] : LD)))))) :: ([] : LD))).length : Int) ≤ (3518437208883 : Int)) (
 ∀ v35 : Value,
    Bk bJ.I0 bJ.I0M [.N n0, .V v1, .V v2, .V v3, .L l4, .N n5, .V v6, .L l7, .I i8, .L (l10 ++ ((D.L ((D.I (wrap .i64 (fC i18 4))) :: ((D.I i25) :: ((D.I i32) :: ((D.S (⟨#[]⟩ : BA)) :: ([] : LD)))))) :: ([] : LD))), .L l30, .I i31] [.N n0, .V v1, .V v2, .V v3, .L l4, .N n5, .V v6, .L l7, .I i8, .L l10, .L l12, .I i13])))))))))))))) ∧ (
 (((l12.getD (0 : Int).toNat default).toL.getD (0 : Int).toNat default).toI ≠ 2) →
    gX.sig.pre [.N n5, .V v11, .L l12, .I i13] ∧ (
 ∀ v15 : Value,
 ∀ l16 : LD,
 ∀ i17 : Int,
 ∀ s18 : BA,
  gX.sig.post [.N n5, .V v11, .L l12, .I i13, .V v15, .L l16, .I i17, .S s18] →
 ((s18.size : Int) ≤ 9223372036854775807) →
 R64 i17 →
 (EK.ok [.int .i64, .str, .int .u64] (D.L l16)) →
  gY.sig.pre [.N n5, .V v15, .L l16, .I i17, .S (⟨#[61]⟩ : BA)] ∧ (
 ∀ v19 : Value,
 ∀ l20 : LD,
 ∀ i21 : Int,
  gY.sig.post [.N n5, .V v15, .L l16, .I i17, .S (⟨#[61]⟩ : BA), .V v19, .L l20, .I i21] →
 R64 i21 →
 (EK.ok [.int .i64, .str, .int .u64] (D.L l20)) →
  dM.sig.pre [.N n5, .V v19, .L l20, .I i21] ∧ (
 ∀ v22 : Value,
 ∀ l23 : LD,
 ∀ i24 i25 : Int,
  dM.sig.post [.N n5, .V v19, .L l20, .I i21, .V v22, .L l23, .I i24, .I i25] →
 U64 i25 →
 R64 i24 →
 (EK.ok [.int .i64, .str, .int .u64] (D.L l23)) →
 (mW.sig 0).pre [.V v9, .L l10, .N n14, .I (-1 : Int), .I 0, .I i25, .S s18] ∧ (
 ∀ b26 : Bool,
 (mW.sig 0).post [.V v9, .L l10, .N n14, .I (-1 : Int), .I 0, .I i25, .S s18, .B b26] →
 ((
 (b26 = true) →
   aW.sig.pre [.N n5, .V v22, .L l23, .I i24, .I 14] ∧ (
 ∀ i27 : Int,
   aW.sig.post [.N n5, .V v22, .L l23, .I i24, .I 14, .I i27] →
 R64 i27 →
 ((
 ∀ v28 : Value,
 Im (((l10 ++ ((D.L ((D.I (-1 : Int)) :: ((D.I (0 : Int)) :: ((D.I i25) :: ((D.S s18) :: ([] : LD)))))) :: ([] : LD))).length : Int) ≤ (3518437208883 : Int)) (
 ∀ v29 : Value,
   Bk bJ.I0 bJ.I0M [.N n0, .V v1, .V v2, .V v3, .L l4, .N n5, .V v6, .L l7, .I i8, .L (l10 ++ ((D.L ((D.I (-1 : Int)) :: ((D.I 0) :: ((D.I i25) :: ((D.S s18) :: ([] : LD)))))) :: ([] : LD))), .L l23, .I i27] [.N n0, .V v1, .V v2, .V v3, .L l4, .N n5, .V v6, .L l7, .I i8, .L l10, .L l12, .I i13])) ∧ (
 ((
 ∀ v28 : Value,
 Im (((l10 ++ ((D.L ((D.I (-1 : Int)) :: ((D.I (0 : Int)) :: ((D.I i25) :: ((D.S s18) :: ([] : LD)))))) :: ([] : LD))).length : Int) ≤ (3518437208883 : Int)) (
 ∀ v29 : Value,
    Bk bJ.I0 bJ.I0M [.N n0, .V v1, .V v2, .V v3, .L l4, .N n5, .V v6, .L l7, .I i8, .L (l10 ++ ((D.L ((D.I (-1 : Int)) :: ((D.I 0) :: ((D.I i25) :: ((D.S s18) :: ([] : LD)))))) :: ([] : LD))), .L l23, .I i27] [.N n0, .V v1, .V v2, .V v3, .L l4, .N n5, .V v6, .L l7, .I i8, .L l10, .L l12, .I i13])) ∧ (
 ∀ v28 : Value,
 Im (((l10 ++ ((D.L ((D.I (-1 : Int)) :: ((D.I (0 : Int)) :: ((D.I i25) :: ((D.S s18) :: ([] : LD)))))) :: ([] : LD))).length : Int) ≤ (3518437208883 : Int)) (
 ∀ v29 : Value,
    Bk bJ.I0 bJ.I0M [.N n0, .V v1, .V v2, .V v3, .L l4, .N n5, .V v6, .L l7, .I i8, .L (l10 ++ ((D.L ((D.I (-1 : Int)) :: ((D.I 0) :: ((D.I i25) :: ((D.S s18) :: ([] : LD)))))) :: ([] : LD))), .L l23, .I i27] [.N n0, .V v1, .V v2, .V v3, .L l4, .N n5, .V v6, .L l7, .I i8, .L l10, .L l12, .I i13]))))))) ∧ (
 (b26 = false) →
 ((
 ∀ v27 : Value,
 Im (((l10 ++ ((D.L ((D.I (-1 : Int)) :: ((D.I (0 : Int)) :: ((D.I i25) :: ((D.S s18) :: ([] : LD)))))) :: ([] : LD))).length : Int) ≤ (3518437208883 : Int)) (
 ∀ v28 : Value,
   Bk bJ.I0 bJ.I0M [.N n0, .V v1, .V v2, .V v3, .L l4, .N n5, .V v6, .L l7, .I i8, .L (l10 ++ ((D.L ((D.I (-1 : Int)) :: ((D.I 0) :: ((D.I i25) :: ((D.S s18) :: ([] : LD)))))) :: ([] : LD))), .L l23, .I i24] [.N n0, .V v1, .V v2, .V v3, .L l4, .N n5, .V v6, .L l7, .I i8, .L l10, .L l12, .I i13])) ∧ (
 ((
 ∀ v27 : Value,
 Im (((l10 ++ ((D.L ((D.I (-1 : Int)) :: ((D.I (0 : Int)) :: ((D.I i25) :: ((D.S s18) :: ([] : LD)))))) :: ([] : LD))).length : Int) ≤ (3518437208883 : Int)) (
 ∀ v28 : Value,
    Bk bJ.I0 bJ.I0M [.N n0, .V v1, .V v2, .V v3, .L l4, .N n5, .V v6, .L l7, .I i8, .L (l10 ++ ((D.L ((D.I (-1 : Int)) :: ((D.I 0) :: ((D.I i25) :: ((D.S s18) :: ([] : LD)))))) :: ([] : LD))), .L l23, .I i24] [.N n0, .V v1, .V v2, .V v3, .L l4, .N n5, .V v6, .L l7, .I i8, .L l10, .L l12, .I i13])) ∧ (
 ∀ v27 : Value,
 Im (((l10 ++ ((D.L ((D.I (-1 : Int)) :: ((D.I (0 : Int)) :: ((D.I i25) :: ((D.S s18) :: ([] : LD)))))) :: ([] : LD))).length : Int) ≤ (3518437208883 : Int)) (
 ∀ v28 : Value,
    Bk bJ.I0 bJ.I0M [.N n0, .V v1, .V v2, .V v3, .L l4, .N n5, .V v6, .L l7, .I i8, .L (l10 ++ ((D.L ((D.I (-1 : Int)) :: ((D.I 0) :: ((D.I i25) :: ((D.S s18) :: ([] : LD)))))) :: ([] : LD))), .L l23, .I i24] [.N n0, .V v1, .V v2, .V v3, .L l4, .N n5, .V v6, .L l7, .I i8, .L l10, .L l12, .I i13])))))))))))))) ∧ (
 (i13 ≠ 0) →
  bJ.sig.post [.N n0, .V v1, .V v2, .V v3, .L l4, .N n5, .V v6, .L l7, .I i8, .V v9, .L l10, .V v11, .L l12, .I i13]))) ∧ (
 ((l12.length : Int) ≤ (0 : Int)) →
  bJ.sig.post [.N n0, .V v1, .V v2, .V v3, .L l4, .N n5, .V v6, .L l7, .I i8, .V v9, .L l10, .V v11, .L l12, .I i13])))
def aK.C0 (n0 : Nat) (v1 : Value) (l2 : LD) (v3 : Value) (l4 : LD) (v5 : Value) (l6 : LD) (v7 : Value) (l8 : LD) (l9 : LD) (v10 : Value) (l11 : LD) (l12 : LD) : Prop :=
 ∀ n13 : Nat,
 ∀ v14 : Value,
 ∀ l15 : LD,
 ∀ v16 : Value,
 ∀ l17 : LD,
 ∀ v18 : Value,
 ∀ l19 : LD,
 ∀ v20 : Value,
 ∀ l21 l22 : LD,
 ∀ v23 : Value,
 ∀ l24 : LD,
 ∀ i25 : Int,
 (EK.ok [.str, .int .u64] (D.L l15)) →
 (EK.ok [.sl [.int .i64, .int .i64, .int .i64, .bool, .int .u64, .bool, .int .u64, .bool, .bool, .int .i64, .int .i64, .int .i64, .int .i64, .str]] (D.L l17)) →
 (EK.ok [.int .i64, .int .i64, .int .u64, .str] (D.L l19)) →
 (EK.ok [.int .i64, .int .i64, .int .i64, .bool, .int .u64, .bool, .int .u64, .bool, .bool, .int .i64, .int .i64, .int .i64, .int .i64, .str] (D.L l21)) →
 R64 i25 →
 (EK.ok [.int .i64, .str, .int .u64] (D.L l24)) →
 aK.J0 [.N n0, .V v1, .L l2, .V v3, .L l4, .V v5, .L l6, .V v7, .L l8, .L l9, .V v10, .L l11, .L l12, .V v14, .L l15, .V v16, .L l17, .V v18, .L l19, .V v20, .L l21, .L l22, .V v23, .L l24, .I i25] →
 ((
 (i25 = 0) →
 ((
 (0 < (l24.length : Int)) →
 (aK.sig 0).post [.N n0, .V v1, .L l2, .V v3, .L l4, .V v5, .L l6, .V v7, .L l8, .L l9, .V v10, .L l11, .L l12, .V v14, .L l15, .V v16, .L l17, .V v18, .L l19, .V v20, .L l21, .L l22, .I 10]) ∧ (
 ((l24.length : Int) ≤ (0 : Int)) →
 (aK.sig 0).post [.N n0, .V v1, .L l2, .V v3, .L l4, .V v5, .L l6, .V v7, .L l8, .L l9, .V v10, .L l11, .L l12, .V v14, .L l15, .V v16, .L l17, .V v18, .L l19, .V v20, .L l21, .L l22, .I i25]))) ∧ (
 (i25 ≠ 0) →
 (aK.sig 0).post [.N n0, .V v1, .L l2, .V v3, .L l4, .V v5, .L l6, .V v7, .L l8, .L l9, .V v10, .L l11, .L l12, .V v14, .L l15, .V v16, .L l17, .V v18, .L l19, .V v20, .L l21, .L l22, .I i25]))
abbrev aK.K0 (l8 : LD) (i29 : Int) (i30 : Int) (i31 : Int) (b32 : Bool) (i33 : Int) (b34 : Bool) (i35 : Int) (b36 : Bool) (b37 : Bool) (i38 : Int) (i39 : Int) (i40 : Int) (i41 : Int) (s42 : BA) (n0 : Nat) (v1 : Value) (l2 : LD) (v3 : Value) (l4 : LD) (v5 : Value) (l6 : LD) (v7 : Value) (l9 : LD) (v10 : Value) (l11 : LD) (l12 : LD) (v26 : Value) (l27 : LD) (i28 : Int) : Prop :=
 (
 Im (((l8 ++ ((D.L ((D.I i29) :: ((D.I i30) :: ((D.I i31) :: ((D.B b32) :: ((D.I i33) :: ((D.B b34) :: ((D.I i35) :: ((D.B b36) :: ((D.B b37) :: ((D.I i38) :: ((D.I i39) :: ((D.I i40) :: ((D.I i41) :: ((D.S s42) :: ([] : LD)))))))))))))))) :: ([] : LD))).length : Int) ≤ (1256584717458 : Int)) (
 ∀ v45 : Value,
      aK.J0 [.N n0, .V v1, .L l2, .V v3, .L l4, .V v5, .L l6, .V v7, .L l8, .L l9, .V v10, .L l11, .L l12, .V v1, .L l2, .V v3, .L (l4.set (wrap .i64 ((l4.length : Int) - (1 : Int))).toNat (D.L ((D.V v45) :: ((D.L (l8 ++ ((D.L ((D.I i29) :: ((D.I i30) :: ((D.I i31) :: ((D.B b32) :: ((D.I i33) :: ((D.B b34) :: ((D.I i35) :: ((D.B b36) :: ((D.B b37) :: ((D.I i38) :: ((D.I i39) :: ((D.I i40) :: ((D.I i41) :: ((D.S s42) :: ([] : LD)))))))))))))))) :: ([] : LD)))) :: ([] : LD))))), .V v5, .L l6, .V v45, .L (l8 ++ ((D.L ((D.I i29) :: ((D.I i30) :: ((D.I i31) :: ((D.B b32) :: ((D.I i33) :: ((D.B b34) :: ((D.I i35) :: ((D.B b36) :: ((D.B b37) :: ((D.I i38) :: ((D.I i39) :: ((D.I i40) :: ((D.I i41) :: ((D.S s42) :: ([] : LD)))))))))))))))) :: ([] : LD))), .L l9, .V v26, .L l27, .I i28] ∧ (
 (aK.C0 n0 v1 l2 v3 l4 v5 l6 v7 l8 l9 v10 l11 l12))))
abbrev aK.K1 (l8 : LD) (i29 : Int) (i30 : Int) (i31 : Int) (b32 : Bool) (i33 : Int) (b34 : Bool) (i35 : Int) (b36 : Bool) (b37 : Bool) (i38 : Int) (i39 : Int) (i40 : Int) (i41 : Int) (s42 : BA) (n0 : Nat) (v1 : Value) (l2 : LD) (v3 : Value) (l4 : LD) (v5 : Value) (l6 : LD) (v7 : Value) (l9 : LD) (v10 : Value) (l11 : LD) (l12 : LD) (v26 : Value) (l27 : LD) (i28 : Int) : Prop :=
 (
 ∀ v44 : Value,
 Im (((l8 ++ ((D.L ((D.I i29) :: ((D.I i30) :: ((D.I i31) :: ((D.B b32) :: ((D.I i33) :: ((D.B b34) :: ((D.I i35) :: ((D.B b36) :: ((D.B b37) :: ((D.I i38) :: ((D.I i39) :: ((D.I i40) :: ((D.I i41) :: ((D.S s42) :: ([] : LD)))))))))))))))) :: ([] : LD))).length : Int) ≤ (1256584717458 : Int)) (
 ∀ v45 : Value,
     aK.J0 [.N n0, .V v1, .L l2, .V v3, .L l4, .V v5, .L l6, .V v7, .L l8, .L l9, .V v10, .L l11, .L l12, .V v1, .L l2, .V v3, .L (l4.set (wrap .i64 ((l4.length : Int) - (1 : Int))).toNat (D.L ((D.V v45) :: ((D.L (l8 ++ ((D.L ((D.I i29) :: ((D.I i30) :: ((D.I i31) :: ((D.B b32) :: ((D.I i33) :: ((D.B b34) :: ((D.I i35) :: ((D.B b36) :: ((D.B b37) :: ((D.I i38) :: ((D.I i39) :: ((D.I i40) :: ((D.I i41) :: ((D.S s42) :: ([] : LD)))))))))))))))) :: ([] : LD)))) :: ([] : LD))))), .V v5, .L l6, .V v45, .L (l8 ++ ((D.L ((D.I i29) :: ((D.I i30) :: ((D.I i31) :: ((D.B b32) :: ((D.I i33) :: ((D.B b34) :: ((D.I i35) :: ((D.B b36) :: ((D.B b37) :: ((D.I i38) :: ((D.I i39) :: ((D.I i40) :: ((D.I i41) :: ((D.S s42) :: ([] : LD)))))))))))))))) :: ([] : LD))), .L l9, .V v26, .L l27, .I i28] ∧ (
 (aK.C0 n0 v1 l2 v3 l4 v5 l6 v7 l8 l9 v10 l11 l12))))
abbrev aK.K2 (l4 : LD) (v7 : Value) (l8 : LD) (i29 : Int) (i30 : Int) (i31 : Int) (b32 : Bool) (i33 : Int) (b34 : Bool) (i35 : Int) (b36 : Bool) (b37 : Bool) (i38 : Int) (i39 : Int) (i40 : Int) (i41 : Int) (s42 : BA) (n0 : Nat) (v1 : Value) (l2 : LD) (v3 : Value) (v5 : Value) (l6 : LD) (l9 : LD) (v10 : Value) (l11 : LD) (l12 : LD) (v26 : Value) (l27 : LD) (i28 : Int) : Prop :=
 ((
 ((
       sameD [(D.V ((l4.getD (wrap .i64 ((l4.length : Int) - (1 : Int))).toNat default).toL.getD (0 : Int).toNat default).toV), .V v7] ∧ (aK.K1 l8 i29 i30 i31 b32 i33 b34 i35 b36 b37 i38 i39 i40 i41 s42 n0 v1 l2 v3 l4 v5 l6 v7 l9 v10 l11 l12 v26 l27 i28)) ∧ (
 ∀ v44 : Value,
       sameD [(D.V ((l4.getD (wrap .i64 ((l4.length : Int) - (1 : Int))).toNat default).toL.getD (0 : Int).toNat default).toV), .V v7] ∧ (aK.K0 l8 i29 i30 i31 b32 i33 b34 i35 b36 b37 i38 i39 i40 i41 s42 n0 v1 l2 v3 l4 v5 l6 v7 l9 v10 l11 l12 v26 l27 i28)))) ∧ (
 ((
       sameD [(D.V ((l4.getD (wrap .i64 ((l4.length : Int) - (1 : Int))).toNat default).toL.getD (0 : Int).toNat default).toV), .V v7] ∧ (
 ((aK.K1 l8 i29 i30 i31 b32 i33 b34 i35 b36 b37 i38 i39 i40 i41 s42 n0 v1 l2 v3 l4 v5 l6 v7 l9 v10 l11 l12 v26 l27 i28) ∧ (
 ∀ v44 : Value,
 ((aK.K0 l8 i29 i30 i31 b32 i33 b34 i35 b36 b37 i38 i39 i40 i41 s42 n0 v1 l2 v3 l4 v5 l6 v7 l9 v10 l11 l12 v26 l27 i28) ∧ (aK.K0 l8 i29 i30 i31 b32 i33 b34 i35 b36 b37 i38 i39 i40 i41 s42 n0 v1 l2 v3 l4 v5 l6 v7 l9 v10 l11 l12 v26 l27 i28)))))) ∧ (
 ∀ v44 : Value,
 ((
       sameD [(D.V ((l4.getD (wrap .i64 ((l4.length : Int) - (1 : Int))).toNat default).toL.getD (0 : Int).toNat default).toV), .V v7] ∧ (aK.K0 l8 i29 i30 i31 b32 i33 b34 i35 b36 b37 i38 i39 i40 i41 s42 n0 v1 l2 v3 l4 v5 l6 v7 l9 v10 l11 l12 v26 l27 i28)) ∧ (
       sameD [(D.V ((l4.getD (wrap .i64 ((l4.length : Int) - (1 : Int))).toNat default).toL.getD (0 : Int).toNat default).toV), .V v7] ∧ (
 ((aK.K0 l8 i29 i30 i31 b32 i33 b34 i35 b36 b37 i38 i39 i40 i41 s42 n0 v1 l2 v3 l4 v5 l6 v7 l9 v10 l11 l12 v26 l27 i28) ∧ (aK.K0 l8 i29 i30 i31 b32 i33 b34 i35 b36 b37 i38 i39 i40 i41 s42 n0 v1 l2 v3 l4 v5 l6 v7 l9 v10 l11 l12 v26 l27 i28)))))))))
abbrev aK.K3 (l4 : LD) (v7 : Value) (l8 : LD) (i29 : Int) (i30 : Int) (i31 : Int) (b32 : Bool) (i33 : Int) (b34 : Bool) (i35 : Int) (b36 : Bool) (b37 : Bool) (i38 : Int) (i39 : Int) (i40 : Int) (i41 : Int) (s42 : BA) (n0 : Nat) (v1 : Value) (l2 : LD) (v3 : Value) (v5 : Value) (l6 : LD) (l9 : LD) (v10 : Value) (l11 : LD) (l12 : LD) (v26 : Value) (l27 : LD) (i28 : Int) : Prop :=
 (
 ((
 Im ((0 : Int) ≤ (wrap .i64 ((l4.length : Int) - (1 : Int)))) (
 Im ((wrap .i64 ((l4.length : Int) - (1 : Int))) < (l4.length : Int)) (
 ((
      sameD [(D.V ((l4.getD (wrap .i64 ((l4.length : Int) - (1 : Int))).toNat default).toL.getD (0 : Int).toNat default).toV), .V v7] ∧ (aK.K1 l8 i29 i30 i31 b32 i33 b34 i35 b36 b37 i38 i39 i40 i41 s42 n0 v1 l2 v3 l4 v5 l6 v7 l9 v10 l11 l12 v26 l27 i28)) ∧ (
 ∀ v44 : Value,
      sameD [(D.V ((l4.getD (wrap .i64 ((l4.length : Int) - (1 : Int))).toNat default).toL.getD (0 : Int).toNat default).toV), .V v7] ∧ (aK.K0 l8 i29 i30 i31 b32 i33 b34 i35 b36 b37 i38 i39 i40 i41 s42 n0 v1 l2 v3 l4 v5 l6 v7 l9 v10 l11 l12 v26 l27 i28)))))) ∧ (
 ∀ v44 : Value,
 Im ((0 : Int) ≤ (wrap .i64 ((l4.length : Int) - (1 : Int)))) (
 Im ((wrap .i64 ((l4.length : Int) - (1 : Int))) < (l4.length : Int)) (
     sameD [(D.V ((l4.getD (wrap .i64 ((l4.length : Int) - (1 : Int))).toNat default).toL.getD (0 : Int).toNat default).toV), .V v7] ∧ (aK.K0 l8 i29 i30 i31 b32 i33 b34 i35 b36 b37 i38 i39 i40 i41 s42 n0 v1 l2 v3 l4 v5 l6 v7 l9 v10 l11 l12 v26 l27 i28))))))
def aK.Pure : Prop :=
 ∀ n0 : Nat,
 ∀ v1 : Value,
 ∀ l2 : LD,
 ∀ v3 : Value,
 ∀ l4 : LD,
 ∀ v5 : Value,
 ∀ l6 : LD,
 ∀ v7 : Value,
 ∀ l8 l9 : LD,
 ∀ v10 : Value,
 ∀ l11 l12 : LD,
 (EK.ok [.str, .int .u64] (D.L l2)) →
 (EK.ok [.sl [.int .i64, .int .i64, .int .i64, .bool, .int .u64, .bool, .int .u64, .bool, .bool, .int .i64, .int .i64, .int .i64, .int .i64, .str]] (D.L l4)) →
 (EK.ok [.int .i64, .int .i64, .int .u64, .str] (D.L l6)) →
 (EK.ok [.int .i64, .int .i64, .int .i64, .bool, .int .u64, .bool, .int .u64, .bool, .bool, .int .i64, .int .i64, .int .i64, .int .i64, .str] (D.L l8)) →
 (EK.ok [.int .i64, .str, .int .u64] (D.L l11)) →
 (EK.ok [.sl [.str]] (D.L l12)) →
 (aK.sig 0).pre [.N n0, .V v1, .L l2, .V v3, .L l4, .V v5, .L l6, .V v7, .L l8, .L l9, .V v10, .L l11, .L l12] →
 ∀ n13 : Nat,
 bZ.sig.pre [.N n13, .V v10, .L l11, .I 0, .S (⟨#[105, 110, 105, 116]⟩ : BA)] ∧ (
 ∀ v14 : Value,
 ∀ l15 : LD,
 ∀ i16 : Int,
 ∀ b17 : Bool,
 bZ.sig.post [.N n13, .V v10, .L l11, .I 0, .S (⟨#[105, 110, 105, 116]⟩ : BA), .V v14, .L l15, .I i16, .B b17] →
 R64 i16 →
 (EK.ok [.int .i64, .str, .int .u64] (D.L l15)) →
 ((
 (b17 = true) →
 ((
 (0 < (l4.length : Int)) →
 (aK.sig 0).post [.N n0, .V v1, .L l2, .V v3, .L l4, .V v5, .L l6, .V v7, .L l8, .L l9, .V v10, .L l11, .L l12, .V v1, .L l2, .V v3, .L l4, .V v5, .L l6, .V v7, .L l8, .L l9, .I 16]) ∧ (
 ((l4.length : Int) ≤ (0 : Int)) →
   dF.sig.pre [.N n0, .V v1, .L l2, .V v3, .V v5, .N n13, .V v14, .L l15, .I i16] ∧ (
 ∀ v18 : Value,
 ∀ l19 : LD,
 ∀ v20 : Value,
 ∀ l21 : LD,
 ∀ i22 : Int,
  dF.sig.post [.N n0, .V v1, .L l2, .V v3, .V v5, .N n13, .V v14, .L l15, .I i16, .V v18, .L l19, .V v20, .L l21, .I i22] →
 (EK.ok [.str, .int .u64] (D.L l19)) →
 R64 i22 →
 (EK.ok [.int .i64, .str, .int .u64] (D.L l21)) →
  aK.J0 [.N n0, .V v1, .L l2, .V v3, .L l4, .V v5, .L l6, .V v7, .L l8, .L l9, .V v10, .L l11, .L l12, .V v18, .L l19, .V v3, .L l4, .V v5, .L l6, .V v7, .L l8, .L l9, .V v20, .L l21, .I i22] ∧ (
 (aK.C0 n0 v1 l2 v3 l4 v5 l6 v7 l8 l9 v10 l11 l12)))))) ∧ (
 (b17 = false) →
  bZ.sig.pre [.N n13, .V v14, .L l15, .I i16, .S (⟨#[116, 104, 114, 101, 97, 100]⟩ : BA)] ∧ (
 ∀ v18 : Value,
 ∀ l19 : LD,
 ∀ i20 : Int,
 ∀ b21 : Bool,
  bZ.sig.post [.N n13, .V v14, .L l15, .I i16, .S (⟨#[116, 104, 114, 101, 97, 100]⟩ : BA), .V v18, .L l19, .I i20, .B b21] →
 R64 i20 →
 (EK.ok [.int .i64, .str, .int .u64] (D.L l19)) →
 ((
 (b21 = true) →
 ((
 (0 < (l6.length : Int)) →
 (aK.sig 0).post [.N n0, .V v1, .L l2, .V v3, .L l4, .V v5, .L l6, .V v7, .L l8, .L l9, .V v10, .L l11, .L l12, .V v1, .L l2, .V v3, .L l4, .V v5, .L l6, .V v7, .L l8, .L l9, .I 16]) ∧ (
 ((l6.length : Int) ≤ (0 : Int)) →
  sameD [.L ((l9 ++ ((D.L ((D.V v7) :: ((D.L l8) :: ([] : LD)))) :: ([] : LD))).take (l4.length : Int).toNat), .L l4] ∧ (
 ∀ v22 v23 : Value,
 Im (((l4 ++ ((D.L ((D.V v22) :: ((D.L ([] : LD)) :: ([] : LD)))) :: ([] : LD))).length : Int) ≤ (5864062014805 : Int)) (
 ∀ v24 : Value,
  aK.J0 [.N n0, .V v1, .L l2, .V v3, .L l4, .V v5, .L l6, .V v7, .L l8, .L l9, .V v10, .L l11, .L l12, .V v1, .L l2, .V v24, .L (l4 ++ ((D.L ((D.V v22) :: ((D.L ([] : LD)) :: ([] : LD)))) :: ([] : LD))), .V v5, .L l6, .V v22, .L ([] : LD), .L l4, .V v18, .L l19, .I i20] ∧ (
 (aK.C0 n0 v1 l2 v3 l4 v5 l6 v7 l8 l9 v10 l11 l12))))))) ∧ (
 (b21 = false) →
  bZ.sig.pre [.N n13, .V v18, .L l19, .I i20, .S (⟨#[97, 115, 107]⟩ : BA)] ∧ (
 ∀ v22 : Value,
 ∀ l23 : LD,
 ∀ i24 : Int,
 ∀ b25 : Bool,
  bZ.sig.post [.N n13, .V v18, .L l19, .I i20, .S (⟨#[97, 115, 107]⟩ : BA), .V v22, .L l23, .I i24, .B b25] →
 R64 i24 →
 (EK.ok [.int .i64, .str, .int .u64] (D.L l23)) →
 ((
 (b25 = true) →
 ((
 ((l4.length : Int) = (0 : Int)) →
 (aK.sig 0).post [.N n0, .V v1, .L l2, .V v3, .L l4, .V v5, .L l6, .V v7, .L l8, .L l9, .V v10, .L l11, .L l12, .V v1, .L l2, .V v3, .L l4, .V v5, .L l6, .V v7, .L l8, .L l9, .I 16]) ∧ (
 ((l4.length : Int) ≠ (0 : Int)) →
   bJ.sig.pre [.N n0, .V v1, .V v3, .V v5, .L l6, .N n13, .V v22, .L l23, .I i24] ∧ (
 ∀ v26 : Value,
 ∀ l27 : LD,
 ∀ v28 : Value,
 ∀ l29 : LD,
 ∀ i30 : Int,
   bJ.sig.post [.N n0, .V v1, .V v3, .V v5, .L l6, .N n13, .V v22, .L l23, .I i24, .V v26, .L l27, .V v28, .L l29, .I i30] →
 (EK.ok [.int .i64, .int .i64, .int .u64, .str] (D.L l27)) →
 R64 i30 →
 (EK.ok [.int .i64, .str, .int .u64] (D.L l29)) →
   aK.J0 [.N n0, .V v1, .L l2, .V v3, .L l4, .V v5, .L l6, .V v7, .L l8, .L l9, .V v10, .L l11, .L l12, .V v1, .L l2, .V v3, .L l4, .V v26, .L l27, .V v7, .L l8, .L l9, .V v28, .L l29, .I i30] ∧ (
 (aK.C0 n0 v1 l2 v3 l4 v5 l6 v7 l8 l9 v10 l11 l12)))))) ∧ (
 (b25 = false) →
 (aI.sig 0).pre [.N n13, .V v22, .L l23, .I i24, .L l12] ∧ (
 ∀ v26 : Value,
 ∀ l27 : LD,
 ∀ i28 i29 i30 i31 : Int,
 ∀ b32 : Bool,
 ∀ i33 : Int,
 ∀ b34 : Bool,
 ∀ i35 : Int,
 ∀ b36 b37 : Bool,
 ∀ i38 i39 i40 i41 : Int,
 ∀ s42 : BA,
 (aI.sig 0).post [.N n13, .V v22, .L l23, .I i24, .L l12, .V v26, .L l27, .I i28, .I i29, .I i30, .I i31, .B b32, .I i33, .B b34, .I i35, .B b36, .B b37, .I i38, .I i39, .I i40, .I i41, .S s42] →
 R64 i29 →
 R64 i30 →
 R64 i31 →
 U64 i33 →
 U64 i35 →
 R64 i38 →
 R64 i39 →
 R64 i40 →
 R64 i41 →
 ((s42.size : Int) ≤ 9223372036854775807) →
 R64 i28 →
 (EK.ok [.int .i64, .str, .int .u64] (D.L l27)) →
 ∀ n43 : Nat,
 ((
 (i28 = 0) →
 ((
 ((l4.length : Int) = (0 : Int)) →
 (aK.sig 0).post [.N n0, .V v1, .L l2, .V v3, .L l4, .V v5, .L l6, .V v7, .L l8, .L l9, .V v10, .L l11, .L l12, .V v1, .L l2, .V v3, .L l4, .V v5, .L l6, .V v7, .L l8, .L l9, .I 16]) ∧ (
 ((l4.length : Int) ≠ (0 : Int)) →
 ((
 (0 < (l6.length : Int)) →
 (aK.sig 0).post [.N n0, .V v1, .L l2, .V v3, .L l4, .V v5, .L l6, .V v7, .L l8, .L l9, .V v10, .L l11, .L l12, .V v1, .L l2, .V v3, .L l4, .V v5, .L l6, .V v7, .L l8, .L l9, .I 16]) ∧ (
 ((l6.length : Int) ≤ (0 : Int)) →
 ((
 ((
 Im ((0 : Int) ≤ (wrap .i64 ((l4.length : Int) - (1 : Int)))) (
 Im ((wrap .i64 ((l4.length : Int) - (1 : Int))) < (l4.length : Int)) (
 ((
     sameD [(D.V ((l4.getD (wrap .i64 ((l4.length : Int) - (1 : Int))).toNat default).toL.getD (0 : Int).toNat default).toV), .V v7] ∧ (aK.K1 l8 i29 i30 i31 b32 i33 b34 i35 b36 b37 i38 i39 i40 i41 s42 n0 v1 l2 v3 l4 v5 l6 v7 l9 v10 l11 l12 v26 l27 i28)) ∧ (
 ((
      sameD [(D.V ((l4.getD (wrap .i64 ((l4.length : Int) - (1 : Int))).toNat default).toL.getD (0 : Int).toNat default).toV), .V v7] ∧ (aK.K1 l8 i29 i30 i31 b32 i33 b34 i35 b36 b37 i38 i39 i40 i41 s42 n0 v1 l2 v3 l4 v5 l6 v7 l9 v10 l11 l12 v26 l27 i28)) ∧ (
 ∀ v44 : Value,
      sameD [(D.V ((l4.getD (wrap .i64 ((l4.length : Int) - (1 : Int))).toNat default).toL.getD (0 : Int).toNat default).toV), .V v7] ∧ (aK.K0 l8 i29 i30 i31 b32 i33 b34 i35 b36 b37 i38 i39 i40 i41 s42 n0 v1 l2 v3 l4 v5 l6 v7 l9 v10 l11 l12 v26 l27 i28)))))))) ∧ (aK.K3 l4 v7 l8 i29 i30 i31 b32 i33 b34 i35 b36 b37 i38 i39 i40 i41 s42 n0 v1 l2 v3 v5 l6 l9 v10 l11 l12 v26 l27 i28))) ∧ (
 ((
 Im ((0 : Int) ≤ (wrap .i64 ((l4.length : Int) - (1 : Int)))) (
 Im ((wrap .i64 ((l4.length : Int) - (1 : Int))) < (l4.length : Int)) (
 ((
 ((
      sameD [(D.V ((l4.getD (wrap .i64 ((l4.length : Int) - (1 : Int))).toNat default).toL.getD (0 : Int).toNat default).toV), .V v7] ∧ (aK.K1 l8 i29 i30 i31 b32 i33 b34 i35 b36 b37 i38 i39 i40 i41 s42 n0 v1 l2 v3 l4 v5 l6 v7 l9 v10 l11 l12 v26 l27 i28)) ∧ (
 ((
      sameD [(D.V ((l4.getD (wrap .i64 ((l4.length : Int) - (1 : Int))).toNat default).toL.getD (0 : Int).toNat default).toV), .V v7] ∧ (aK.K1 l8 i29 i30 i31 b32 i33 b34 i35 b36 b37 i38 i39 i40 i41 s42 n0 v1 l2 v3 l4 v5 l6 v7 l9 v10 l11 l12 v26 l27 i28)) ∧ (
 ∀ v44 : Value,
      sameD [(D.V ((l4.getD (wrap .i64 ((l4.length : Int) - (1 : Int))).toNat default).toL.getD (0 : Int).toNat default).toV), .V v7] ∧ (aK.K0 l8 i29 i30 i31 b32 i33 b34 i35 b36 b37 i38 i39 i40 i41 s42 n0 v1 l2 v3 l4 v5 l6 v7 l9 v10 l11 l12 v26 l27 i28)))))) ∧ (
 ((
      sameD [(D.V ((l4.getD (wrap .i64 ((l4.length : Int) - (1 : Int))).toNat default).toL.getD (0 : Int).toNat default).toV), .V v7] ∧ (
 ((aK.K1 l8 i29 i30 i31 b32 i33 b34 i35 b36 b37 i38 i39 i40 i41 s42 n0 v1 l2 v3 l4 v5 l6 v7 l9 v10 l11 l12 v26 l27 i28) ∧ (
 ((aK.K1 l8 i29 i30 i31 b32 i33 b34 i35 b36 b37 i38 i39 i40 i41 s42 n0 v1 l2 v3 l4 v5 l6 v7 l9 v10 l11 l12 v26 l27 i28) ∧ (
 ∀ v44 : Value,
 ((aK.K0 l8 i29 i30 i31 b32 i33 b34 i35 b36 b37 i38 i39 i40 i41 s42 n0 v1 l2 v3 l4 v5 l6 v7 l9 v10 l11 l12 v26 l27 i28) ∧ (aK.K0 l8 i29 i30 i31 b32 i33 b34 i35 b36 b37 i38 i39 i40 i41 s42 n0 v1 l2 v3 l4 v5 l6 v7 l9 v10 l11 l12 v26 l27 i28)))))))) ∧ (
 (aK.K2 l4 v7 l8 i29 i30 i31 b32 i33 b34 i35 b36 b37 i38 i39 i40 i41 s42 n0 v1 l2 v3 v5 l6 l9 v10 l11 l12 v26 l27 i28)))))))) ∧ (
 ((aK.K3 l4 v7 l8 i29 i30 i31 b32 i33 b34 i35 b36 b37 i38 i39 i40 i41 s42 n0 v1 l2 v3 v5 l6 l9 v10 l11 l12 v26 l27 i28) ∧ (
 ((
 Im ((0 : Int) ≤ (wrap .i64 ((l4.length : Int) - (1 : Int)))) (
 Im ((wrap .i64 ((l4.length : Int) - (1 : Int))) < (l4.length : Int)) (
 (aK.K2 l4 v7 l8 i29 i30 i31 b32 i33 b34 i35 b36 b37 i38 i39 i40 i41 s42 n0 v1 l2 v3 v5 l6 l9 v10 l11 l12 v26 l27 i28)))) ∧ (
 ∀ v44 : Value,
 ((
 Im ((0 : Int) ≤ (wrap .i64 ((l4.length : Int) - (1 : Int)))) (
 Im ((wrap .i64 ((l4.length : Int) - (1 : Int))) < (l4.length : Int)) (
      sameD [(D.V ((l4.getD (wrap .i64 ((l4.length : Int) - (1 : Int))).toNat default).toL.getD (0 : Int).toNat default).toV), .V v7] ∧ (aK.K0 l8 i29 i30 i31 b32 i33 b34 i35 b36 b37 i38 i39 i40 i41 s42 n0 v1 l2 v3 l4 v5 l6 v7 l9 v10 l11 l12 v26 l27 i28)))) ∧ (
 Im ((0 : Int) ≤ (wrap .i64 ((l4.length : Int) - (1 : Int)))) (
 Im ((wrap .i64 ((l4.length : Int) - (1 : Int))) < (l4.length : Int)) (
 ((
       sameD [(D.V ((l4.getD (wrap .i64 ((l4.length : Int) - (1 : Int))).toNat default).toL.getD (0 : Int).toNat default).toV), .V v7] ∧ (aK.K0 l8 i29 i30 i31 b32 i33 b34 i35 b36 b37 i38 i39 i40 i41 s42 n0 v1 l2 v3 l4 v5 l6 v7 l9 v10 l11 l12 v26 l27 i28)) ∧ (
       sameD [(D.V ((l4.getD (wrap .i64 ((l4.length : Int) - (1 : Int))).toNat default).toL.getD (0 : Int).toNat default).toV), .V v7] ∧ (
 ((aK.K0 l8 i29 i30 i31 b32 i33 b34 i35 b36 b37 i38 i39 i40 i41 s42 n0 v1 l2 v3 l4 v5 l6 v7 l9 v10 l11 l12 v26 l27 i28) ∧ (aK.K0 l8 i29 i30 i31 b32 i33 b34 i35 b36 b37 i38 i39 i40 i41 s42 n0 v1 l2 v3 l4 v5 l6 v7 l9 v10 l11 l12 v26 l27 i28)))))))))))))))))))))) ∧ (
 (i28 ≠ 0) →
   aK.J0 [.N n0, .V v1, .L l2, .V v3, .L l4, .V v5, .L l6, .V v7, .L l8, .L l9, .V v10, .L l11, .L l12, .V v1, .L l2, .V v3, .L l4, .V v5, .L l6, .V v7, .L l8, .L l9, .V v26, .L l27, .I i28] ∧ (
 (aK.C0 n0 v1 l2 v3 l4 v5 l6 v7 l8 l9 v10 l11 l12))))))))))))))
def oM.Pure : Prop :=
 ∀ s0 : BA,
 ∀ i1 : Int,
 ∀ n2 : Nat,
 ∀ s3 : BA,
 ((s0.size : Int) ≤ 9223372036854775807) →
 U64 i1 →
 ((s3.size : Int) ≤ 9223372036854775807) →
 oM.sig.pre [.S s0, .I i1, .N n2, .S s3] →
 ∀ n4 : Nat,
 oM.sig.post [.S s0, .I i1, .N n2, .S s3, .B (s0.toList == s3.toList)]
def iI.Pure : Prop :=
 ∀ v0 : Value,
 ∀ l1 : LD,
 ∀ n2 : Nat,
 ∀ s3 : BA,
 (EK.ok [.str, .int .u64] (D.L l1)) →
 ((s3.size : Int) ≤ 9223372036854775807) →
 (iI.sig 0).pre [.V v0, .L l1, .N n2, .S s3] →
 iI.I0 [.V v0, .L l1, .N n2, .S s3, .I 0] ∧ (
 ∀ i4 : Int,
 R64 i4 →
 iI.I0 [.V v0, .L l1, .N n2, .S s3, .I i4] →
 ((
 (i4 < (l1.length : Int)) →
 Im (0 ≤ i4) (
  oM.sig.pre [(D.S ((l1.getD i4.toNat default).toL.getD (0 : Int).toNat default).toS), (D.I ((l1.getD i4.toNat default).toL.getD (1 : Int).toNat default).toI), .N n2, .S s3] ∧ (
 ∀ b5 : Bool,
  oM.sig.post [(D.S ((l1.getD i4.toNat default).toL.getD (0 : Int).toNat default).toS), (D.I ((l1.getD i4.toNat default).toL.getD (1 : Int).toNat default).toI), .N n2, .S s3, .B b5] →
 ((
 (b5 = true) →
 (iI.sig 0).post [.V v0, .L l1, .N n2, .S s3, .I i4]) ∧ (
 (b5 = false) →
  Bk iI.I0 iI.I0M [.V v0, .L l1, .N n2, .S s3, .I (wrap .i64 (i4 + 1))] [.V v0, .L l1, .N n2, .S s3, .I i4]))))) ∧ (
 ((l1.length : Int) ≤ i4) →
 (iI.sig 0).post [.V v0, .L l1, .N n2, .S s3, .I (-1 : Int)])))
def oW.Pure : Prop :=
 ∀ v0 : Value,
 ∀ l1 : LD,
 ∀ n2 : Nat,
 ∀ s3 : BA,
 (EK.ok [.str, .int .u64] (D.L l1)) →
 ((s3.size : Int) ≤ 9223372036854775807) →
 (oW.sig 0).pre [.V v0, .L l1, .N n2, .S s3] →
 (iI.sig 0).pre [.V v0, .L l1, .N n2, .S s3] ∧ (
 ∀ i4 : Int,
 (iI.sig 0).post [.V v0, .L l1, .N n2, .S s3, .I i4] →
 R64 i4 →
 (oW.sig 0).post [.V v0, .L l1, .N n2, .S s3, .B (decide (0 ≤ i4))])
def kU.Pure : Prop :=
 ∀ s0 : BA,
 ∀ n1 : Nat,
 ∀ v2 : Value,
 ∀ l3 : LD,
 ((s0.size : Int) ≤ 9223372036854775807) →
 (EK.ok [.str, .int .u64] (D.L l3)) →
 kU.sig.pre [.S s0, .N n1, .V v2, .L l3] →
 ∀ n4 : Nat,
 ((
 (s0 ≠ (⟨#[]⟩ : BA)) →
 (oW.sig 0).pre [.V v2, .L l3, .N n4, .S s0] ∧ (
 ∀ b5 : Bool,
 (oW.sig 0).post [.V v2, .L l3, .N n4, .S s0, .B b5] →
 ((
 (b5 = false) →
 ∀ v6 : Value,
 Im (((l3 ++ ((D.L ((D.S s0) :: ((D.I (0 : Int)) :: ([] : LD)))) :: ([] : LD))).length : Int) ≤ (5864062014805 : Int)) (
 ∀ v7 : Value,
  kU.sig.post [.S s0, .N n1, .V v2, .L l3, .V v7, .L (l3 ++ ((D.L ((D.S s0) :: ((D.I 0) :: ([] : LD)))) :: ([] : LD)))])) ∧ (
 (b5 = true) →
  kU.sig.post [.S s0, .N n1, .V v2, .L l3, .V v2, .L l3])))) ∧ (
 (s0 = (⟨#[]⟩ : BA)) →
  kU.sig.post [.S s0, .N n1, .V v2, .L l3, .V v2, .L l3]))
def bT.Pure : Prop :=
 ∀ n0 : Nat,
 ∀ v1 : Value,
 ∀ l2 : LD,
 ∀ v3 : Value,
 ∀ l4 : LD,
 ∀ v5 : Value,
 ∀ l6 : LD,
 ∀ v7 : Value,
 ∀ l8 l9 : LD,
 (EK.ok [.str, .int .u64] (D.L l2)) →
 (EK.ok [.sl [.int .i64, .int .i64, .int .i64, .bool, .int .u64, .bool, .int .u64, .bool, .bool, .int .i64, .int .i64, .int .i64, .int .i64, .str]] (D.L l4)) →
 (EK.ok [.int .i64, .int .i64, .int .u64, .str] (D.L l6)) →
 (EK.ok [.int .i64, .int .i64, .int .i64, .bool, .int .u64, .bool, .int .u64, .bool, .bool, .int .i64, .int .i64, .int .i64, .int .i64, .str] (D.L l8)) →
 bT.sig.pre [.N n0, .V v1, .L l2, .V v3, .L l4, .V v5, .L l6, .V v7, .L l8, .L l9] →
 ∀ v10 : Value,
 qX.sig.pre [.V v1, .L l2] ∧ (
 ∀ v11 : Value,
 ∀ l12 : LD,
 qX.sig.post [.V v1, .L l2, .V v11, .L l12] →
 (EK.ok [.str, .int .u64] (D.L l12)) →
 ∀ v13 : Value,
 ∀ n14 : Nat,
 sameD [.L ((l9 ++ ((D.L ((D.V v7) :: ((D.L l8) :: ([] : LD)))) :: ([] : LD))).take (l4.length : Int).toNat), .L l4] ∧ (
 bT.I0 [.N n0, .V v1, .L l2, .V v3, .L l4, .V v5, .L l6, .V v7, .L l8, .L l9, .I 0, .L l12] ∧ (
 ∀ i15 : Int,
 ∀ v16 : Value,
 ∀ l17 : LD,
 R64 i15 →
 (EK.ok [.str, .int .u64] (D.L l17)) →
 bT.I0 [.N n0, .V v1, .L l2, .V v3, .L l4, .V v5, .L l6, .V v7, .L l8, .L l9, .I i15, .L l17] →
 ((
 (i15 < (l4.length : Int)) →
 Im (0 ≤ i15) (
  bT.I1 [.N n0, .V v1, .L l2, .V v3, .L l4, .V v5, .L l6, .V v7, .L l8, .L l9, .I i15, .I 0, .L l17] ∧ (
 ∀ i18 : Int,
 ∀ v19 : Value,
 ∀ l20 : LD,
 R64 i18 →
 (EK.ok [.str, .int .u64] (D.L l20)) →
  bT.I1 [.N n0, .V v1, .L l2, .V v3, .L l4, .V v5, .L l6, .V v7, .L l8, .L l9, .I i15, .I i18, .L l20] →
 ((
 (i18 < (((l4.getD i15.toNat default).toL.getD (1 : Int).toNat default).toL.length : Int)) →
 Im (0 ≤ i18) (
 ∀ n21 : Nat,
  kU.sig.pre [(D.S ((((l4.getD i15.toNat default).toL.getD (1 : Int).toNat default).toL.getD i18.toNat default).toL.getD (13 : Int).toNat default).toS), .N n14, .V v19, .L l20] ∧ (
 ∀ v22 : Value,
 ∀ l23 : LD,
  kU.sig.post [(D.S ((((l4.getD i15.toNat default).toL.getD (1 : Int).toNat default).toL.getD i18.toNat default).toL.getD (13 : Int).toNat default).toS), .N n14, .V v19, .L l20, .V v22, .L l23] →
 (EK.ok [.str, .int .u64] (D.L l23)) →
  Bk bT.I1 bT.I1M [.N n0, .V v1, .L l2, .V v3, .L l4, .V v5, .L l6, .V v7, .L l8, .L l9, .I i15, .I (wrap .i64 (i18 + 1)), .L l23] [.N n0, .V v1, .L l2, .V v3, .L l4, .V v5, .L l6, .V v7, .L l8, .L l9, .I i15, .I i18, .L l20]))) ∧ (
 ((((l4.getD i15.toNat default).toL.getD (1 : Int).toNat default).toL.length : Int) ≤ i18) →
   Bk bT.I0 bT.I0M [.N n0, .V v1, .L l2, .V v3, .L l4, .V v5, .L l6, .V v7, .L l8, .L l9, .I (wrap .i64 (i15 + 1)), .L l20] [.N n0, .V v1, .L l2, .V v3, .L l4, .V v5, .L l6, .V v7, .L l8, .L l9, .I i15, .L l17]))))) ∧ (
 ((l4.length : Int) ≤ i15) →
  bT.I2 [.N n0, .V v1, .L l2, .V v3, .L l4, .V v5, .L l6, .V v7, .L l8, .L l9, .I 0, .L l17] ∧ (
 ∀ i18 : Int,
 ∀ v19 : Value,
 ∀ l20 : LD,
 R64 i18 →
 (EK.ok [.str, .int .u64] (D.L l20)) →
  bT.I2 [.N n0, .V v1, .L l2, .V v3, .L l4, .V v5, .L l6, .V v7, .L l8, .L l9, .I i18, .L l20] →
 ((
 (i18 < (l6.length : Int)) →
 Im (0 ≤ i18) (
 ∀ n21 : Nat,
  kU.sig.pre [(D.S ((l6.getD i18.toNat default).toL.getD (3 : Int).toNat default).toS), .N n14, .V v19, .L l20] ∧ (
 ∀ v22 : Value,
 ∀ l23 : LD,
  kU.sig.post [(D.S ((l6.getD i18.toNat default).toL.getD (3 : Int).toNat default).toS), .N n14, .V v19, .L l20, .V v22, .L l23] →
 (EK.ok [.str, .int .u64] (D.L l23)) →
  Bk bT.I2 bT.I2M [.N n0, .V v1, .L l2, .V v3, .L l4, .V v5, .L l6, .V v7, .L l8, .L l9, .I (wrap .i64 (i18 + 1)), .L l23] [.N n0, .V v1, .L l2, .V v3, .L l4, .V v5, .L l6, .V v7, .L l8, .L l9, .I i18, .L l20]))) ∧ (
 ((l6.length : Int) ≤ i18) →
 (aB2.sig 0).pre [.V v19, .L l20] ∧ (
 ∀ l21 : LD,
 (aB2.sig 0).post [.V v19, .L l20, .L l21] →
 (EK.ok [.str, .int .u64] (D.L l21)) →
  bT.sig.post [.N n0, .V v1, .L l2, .V v3, .L l4, .V v5, .L l6, .V v7, .L l8, .L l9, .V v19, .L l21])))))))))
def pK.Pure : Prop :=
 ∀ s0 : BA,
 ∀ i1 : Int,
 ∀ n2 : Nat,
 ∀ s3 : BA,
 ((s0.size : Int) ≤ 9223372036854775807) →
 U64 i1 →
 ((s3.size : Int) ≤ 9223372036854775807) →
 pK.sig.pre [.S s0, .I i1, .N n2, .S s3] →
 ∀ n4 : Nat,
 pK.sig.post [.S s0, .I i1, .N n2, .S s3, .B (s0.toList == s3.toList)]
def iQ.Pure : Prop :=
 ∀ v0 : Value,
 ∀ l1 : LD,
 ∀ n2 : Nat,
 ∀ s3 : BA,
 (EK.ok [.str, .int .u64] (D.L l1)) →
 ((s3.size : Int) ≤ 9223372036854775807) →
 (iQ.sig 0).pre [.V v0, .L l1, .N n2, .S s3] →
 iQ.I0 [.V v0, .L l1, .N n2, .S s3, .I 0] ∧ (
 ∀ i4 : Int,
 R64 i4 →
 iQ.I0 [.V v0, .L l1, .N n2, .S s3, .I i4] →
 ((
 (i4 < (l1.length : Int)) →
 Im (0 ≤ i4) (
  pK.sig.pre [(D.S ((l1.getD i4.toNat default).toL.getD (0 : Int).toNat default).toS), (D.I ((l1.getD i4.toNat default).toL.getD (1 : Int).toNat default).toI), .N n2, .S s3] ∧ (
 ∀ b5 : Bool,
  pK.sig.post [(D.S ((l1.getD i4.toNat default).toL.getD (0 : Int).toNat default).toS), (D.I ((l1.getD i4.toNat default).toL.getD (1 : Int).toNat default).toI), .N n2, .S s3, .B b5] →
 ((
 (b5 = true) →
 (iQ.sig 0).post [.V v0, .L l1, .N n2, .S s3, .I i4]) ∧ (
 (b5 = false) →
  Bk iQ.I0 iQ.I0M [.V v0, .L l1, .N n2, .S s3, .I (wrap .i64 (i4 + 1))] [.V v0, .L l1, .N n2, .S s3, .I i4]))))) ∧ (
 ((l1.length : Int) ≤ i4) →
 (iQ.sig 0).post [.V v0, .L l1, .N n2, .S s3, .I (-1 : Int)])))
def dAt.Pure : Prop :=
 ∀ s0 : BA,
 ∀ n1 : Nat,
 ∀ v2 : Value,
 ∀ l3 : LD,
 ∀ v4 v5 : Value,
 ((s0.size : Int) ≤ 9223372036854775807) →
 (EK.ok [.str, .int .u64] (D.L l3)) →
 dAt.sig.pre [.S s0, .N n1, .V v2, .L l3, .V v4, .V v5] →
 ∀ n6 : Nat,
 (iQ.sig 0).pre [.V v2, .L l3, .N n6, .S s0] ∧ (
 ∀ i7 : Int,
 (iQ.sig 0).post [.V v2, .L l3, .N n6, .S s0, .I i7] →
 R64 i7 →
 dAt.sig.post [.S s0, .N n1, .V v2, .L l3, .V v4, .V v5, .I (kZ i7 0)])
def bG.Pure : Prop :=
 ∀ n0 : Nat,
 ∀ v1 : Value,
 ∀ l2 : LD,
 ∀ v3 : Value,
 ∀ l4 : LD,
 ∀ v5 : Value,
 ∀ l6 : LD,
 ∀ v7 : Value,
 ∀ l8 l9 : LD,
 (EK.ok [.str, .int .u64] (D.L l2)) →
 (EK.ok [.sl [.int .i64, .int .i64, .int .i64, .bool, .int .u64, .bool, .int .u64, .bool, .bool, .int .i64, .int .i64, .int .i64, .int .i64, .str]] (D.L l4)) →
 (EK.ok [.int .i64, .int .i64, .int .u64, .str] (D.L l6)) →
 (EK.ok [.int .i64, .int .i64, .int .i64, .bool, .int .u64, .bool, .int .u64, .bool, .bool, .int .i64, .int .i64, .int .i64, .int .i64, .str] (D.L l8)) →
 bG.sig.pre [.N n0, .V v1, .L l2, .V v3, .L l4, .V v5, .L l6, .V v7, .L l8, .L l9] →
 ∀ v10 v11 v12 : Value,
 ∀ n13 : Nat,
 bT.sig.pre [.N n0, .V v1, .L l2, .V v3, .L l4, .V v5, .L l6, .V v7, .L l8, .L l9] ∧ (
 ∀ v14 : Value,
 ∀ l15 : LD,
 bT.sig.post [.N n0, .V v1, .L l2, .V v3, .L l4, .V v5, .L l6, .V v7, .L l8, .L l9, .V v14, .L l15] →
 (EK.ok [.str, .int .u64] (D.L l15)) →
 ∀ v16 v17 v18 : Value,
 ∀ n19 : Nat,
 ∀ v20 v21 : Value,
 bG.I0 [.N n0, .V v1, .L l2, .V v3, .L l4, .V v5, .L l6, .V v7, .L l8, .L l9, .I 0, .L ([] : LD)] ∧ (
 ∀ i22 : Int,
 ∀ v23 : Value,
 ∀ l24 : LD,
 R64 i22 →
 (EK.ok [.sl [.int .i64, .int .i64, .int .i64, .bool, .int .u64, .bool, .int .u64, .bool, .bool, .int .i64, .int .i64, .int .i64, .int .i64]] (D.L l24)) →
 bG.I0 [.N n0, .V v1, .L l2, .V v3, .L l4, .V v5, .L l6, .V v7, .L l8, .L l9, .I i22, .L l24] →
 ((
 (i22 < (l4.length : Int)) →
 Im (0 ≤ i22) (
 ∀ v25 : Value,
  bG.I1 [.N n0, .V v1, .L l2, .V v3, .L l4, .V v5, .L l6, .V v7, .L l8, .L l9, .I i22, .L ([] : LD), .I 0] ∧ (
 ∀ v26 : Value,
 ∀ l27 : LD,
 ∀ i28 : Int,
 R64 i28 →
 (EK.ok [.int .i64, .int .i64, .int .i64, .bool, .int .u64, .bool, .int .u64, .bool, .bool, .int .i64, .int .i64, .int .i64, .int .i64] (D.L l27)) →
  bG.I1 [.N n0, .V v1, .L l2, .V v3, .L l4, .V v5, .L l6, .V v7, .L l8, .L l9, .I i22, .L l27, .I i28] →
 ((
 (i28 < (((l4.getD i22.toNat default).toL.getD (1 : Int).toNat default).toL.length : Int)) →
 Im (0 ≤ i28) (
 ∀ n29 : Nat,
 ((
 (((((l4.getD i22.toNat default).toL.getD (1 : Int).toNat default).toL.getD i28.toNat default).toL.getD (13 : Int).toNat default).toS ≠ (⟨#[]⟩ : BA)) →
    dAt.sig.pre [(D.S ((((l4.getD i22.toNat default).toL.getD (1 : Int).toNat default).toL.getD i28.toNat default).toL.getD (13 : Int).toNat default).toS), .N n19, .V v14, .L l15, .V v23, .V v21] ∧ (
 ∀ i30 : Int,
  dAt.sig.post [(D.S ((((l4.getD i22.toNat default).toL.getD (1 : Int).toNat default).toL.getD i28.toNat default).toL.getD (13 : Int).toNat default).toS), .N n19, .V v14, .L l15, .V v23, .V v21, .I i30] →
 R64 i30 →
 ∀ v31 : Value,
 Im (((l27 ++ ((D.L ((D.I ((((l4.getD i22.toNat default).toL.getD (1 : Int).toNat default).toL.getD i28.toNat default).toL.getD (0 : Int).toNat default).toI) :: ((D.I ((((l4.getD i22.toNat default).toL.getD (1 : Int).toNat default).toL.getD i28.toNat default).toL.getD (1 : Int).toNat default).toI) :: ((D.I i30) :: ((D.B ((((l4.getD i22.toNat default).toL.getD (1 : Int).toNat default).toL.getD i28.toNat default).toL.getD (3 : Int).toNat default).toB) :: ((D.I ((((l4.getD i22.toNat default).toL.getD (1 : Int).toNat default).toL.getD i28.toNat default).toL.getD (4 : Int).toNat default).toI) :: ((D.B ((((l4.getD i22.toNat default).toL.getD (1 : Int).toNat default).toL.getD i28.toNat default).toL.getD (5 : Int).toNat default).toB) :: ((D.I ((((l4.getD i22.toNat default).toL.getD (1 : Int).toNat default).toL.getD i28.toNat default).toL.getD (6 : Int).toNat default).toI) :: ((D.B ((((l4.getD i22.toNat default).toL.getD (1 : Int).toNat default).toL.getD i28.toNat default).toL.getD (7 : Int).toNat default).toB) :: ((D.B ((((l4.getD i22.toNat default).toL.getD (1 : Int).toNat default).toL.getD i28.toNat default).toL.getD (8 : Int).toNat default).toB) :: ((D.I ((((l4.getD i22.toNat default).toL.getD (1 : Int).toNat default).toL.getD i28.toNat default).toL.getD (9 : Int).toNat default).toI) :: ((D.I ((((l4.getD i22.toNat default).toL.getD (1 : Int).toNat default).toL.getD i28.toNat default).toL.getD (10 : Int).toNat default).toI) :: ((D.I ((((l4.getD i22.toNat default).toL.getD (1 : Int).toNat default).toL.getD i28.toNat default).toL.getD (11 : Int).toNat default).toI) :: ((D.I ((((l4.getD i22.toNat default).toL.getD (1 : Int).toNat default).toL.getD i28.toNat default).toL.getD (12 : Int).toNat default).toI) :: ([] : LD))))))))))))))) :: ([] : LD))).length : Int) ≤ (1466015503701 : Int)) (
 ∀ v32 : Value,
  Bk bG.I1 bG.I1M [.N n0, .V v1, .L l2, .V v3, .L l4, .V v5, .L l6, .V v7, .L l8, .L l9, .I i22, .L (l27 ++ ((D.L ((D.I ((((l4.getD i22.toNat default).toL.getD (1 : Int).toNat default).toL.getD i28.toNat default).toL.getD (0 : Int).toNat default).toI) :: ((D.I ((((l4.getD i22.toNat default).toL.getD (1 : Int).toNat default).toL.getD i28.toNat default).toL.getD (1 : Int).toNat default).toI) :: ((D.I i30) :: ((D.B ((((l4.getD i22.toNat default).toL.getD (1 : Int).toNat default).toL.getD i28.toNat default).toL.getD (3 : Int).toNat default).toB) :: ((D.I ((((l4.getD i22.toNat default).toL.getD (1 : Int).toNat default).toL.getD i28.toNat default).toL.getD (4 : Int).toNat default).toI) :: ((D.B ((((l4.getD i22.toNat default).toL.getD (1 : Int).toNat default).toL.getD i28.toNat default).toL.getD (5 : Int).toNat default).toB) :: ((D.I ((((l4.getD i22.toNat default).toL.getD (1 : Int).toNat default).toL.getD i28.toNat default).toL.getD (6 : Int).toNat default).toI) :: ((D.B ((((l4.getD i22.toNat default).toL.getD (1 : Int).toNat default).toL.getD i28.toNat default).toL.getD (7 : Int).toNat default).toB) :: ((D.B ((((l4.getD i22.toNat default).toL.getD (1 : Int).toNat default).toL.getD i28.toNat default).toL.getD (8 : Int).toNat default).toB) :: ((D.I ((((l4.getD i22.toNat default).toL.getD (1 : Int).toNat default).toL.getD i28.toNat default).toL.getD (9 : Int).toNat default).toI) :: ((D.I ((((l4.getD i22.toNat default).toL.getD (1 : Int).toNat default).toL.getD i28.toNat default).toL.getD (10 : Int).toNat default).toI) :: ((D.I ((((l4.getD i22.toNat default).toL.getD (1 : Int).toNat default).toL.getD i28.toNat default).toL.getD (11 : Int).toNat default).toI) :: ((D.I ((((l4.getD i22.toNat default).toL.getD (1 : Int).toNat default).toL.getD i28.toNat default).toL.getD (12 : Int).toNat default).toI) :: ([] : LD))))))))))))))) :: ([] : LD))), .I (wrap .i64 (i28 + 1))] [.N n0, .V v1, .L l2, .V v3, .L l4, .V v5, .L l6, .V v7, .L l8, .L l9, .I i22, .L l27, .I i28]))) ∧ (
 (((((l4.getD i22.toNat default).toL.getD (1 : Int).toNat default).toL.getD i28.toNat default).toL.getD (13 : Int).toNat default).toS = (⟨#[]⟩ : BA)) →
 ∀ v30 : Value,
 Im (((l27 ++ ((D.L ((D.I ((((l4.getD i22.toNat default).toL.getD (1 : Int).toNat default).toL.getD i28.toNat default).toL.getD (0 : Int).toNat default).toI) :: ((D.I ((((l4.getD i22.toNat default).toL.getD (1 : Int).toNat default).toL.getD i28.toNat default).toL.getD (1 : Int).toNat default).toI) :: ((D.I ((((l4.getD i22.toNat default).toL.getD (1 : Int).toNat default).toL.getD i28.toNat default).toL.getD (2 : Int).toNat default).toI) :: ((D.B ((((l4.getD i22.toNat default).toL.getD (1 : Int).toNat default).toL.getD i28.toNat default).toL.getD (3 : Int).toNat default).toB) :: ((D.I ((((l4.getD i22.toNat default).toL.getD (1 : Int).toNat default).toL.getD i28.toNat default).toL.getD (4 : Int).toNat default).toI) :: ((D.B ((((l4.getD i22.toNat default).toL.getD (1 : Int).toNat default).toL.getD i28.toNat default).toL.getD (5 : Int).toNat default).toB) :: ((D.I ((((l4.getD i22.toNat default).toL.getD (1 : Int).toNat default).toL.getD i28.toNat default).toL.getD (6 : Int).toNat default).toI) :: ((D.B ((((l4.getD i22.toNat default).toL.getD (1 : Int).toNat default).toL.getD i28.toNat default).toL.getD (7 : Int).toNat default).toB) :: ((D.B ((((l4.getD i22.toNat default).toL.getD (1 : Int).toNat default).toL.getD i28.toNat default).toL.getD (8 : Int).toNat default).toB) :: ((D.I ((((l4.getD i22.toNat default).toL.getD (1 : Int).toNat default).toL.getD i28.toNat default).toL.getD (9 : Int).toNat default).toI) :: ((D.I ((((l4.getD i22.toNat default).toL.getD (1 : Int).toNat default).toL.getD i28.toNat default).toL.getD (10 : Int).toNat default).toI) :: ((D.I ((((l4.getD i22.toNat default).toL.getD (1 : Int).toNat default).toL.getD i28.toNat default).toL.getD (11 : Int).toNat default).toI) :: ((D.I ((((l4.getD i22.toNat default).toL.getD (1 : Int).toNat default).toL.getD i28.toNat default).toL.getD (12 : Int).toNat default).toI) :: ([] : LD))))))))))))))) :: ([] : LD))).length : Int) ≤ (1466015503701 : Int)) (
 ∀ v31 : Value,
  Bk bG.I1 bG.I1M [.N n0, .V v1, .L l2, .V v3, .L l4, .V v5, .L l6, .V v7, .L l8, .L l9, .I i22, .L (l27 ++ ((D.L ((D.I ((((l4.getD i22.toNat default).toL.getD (1 : Int).toNat default).toL.getD i28.toNat default).toL.getD (0 : Int).toNat default).toI) :: ((D.I ((((l4.getD i22.toNat default).toL.getD (1 : Int).toNat default).toL.getD i28.toNat default).toL.getD (1 : Int).toNat default).toI) :: ((D.I ((((l4.getD i22.toNat default).toL.getD (1 : Int).toNat default).toL.getD i28.toNat default).toL.getD (2 : Int).toNat default).toI) :: ((D.B ((((l4.getD i22.toNat default).toL.getD (1 : Int).toNat default).toL.getD i28.toNat default).toL.getD (3 : Int).toNat default).toB) :: ((D.I ((((l4.getD i22.toNat default).toL.getD (1 : Int).toNat default).toL.getD i28.toNat default).toL.getD (4 : Int).toNat default).toI) :: ((D.B ((((l4.getD i22.toNat default).toL.getD (1 : Int).toNat default).toL.getD i28.toNat default).toL.getD (5 : Int).toNat default).toB) :: ((D.I ((((l4.getD i22.toNat default).toL.getD (1 : Int).toNat default).toL.getD i28.toNat default).toL.getD (6 : Int).toNat default).toI) :: ((D.B ((((l4.getD i22.toNat default).toL.getD (1 : Int).toNat default).toL.getD i28.toNat default).toL.getD (7 : Int).toNat default).toB) :: ((D.B ((((l4.getD i22.toNat default).toL.getD (1 : Int).toNat default).toL.getD i28.toNat default).toL.getD (8 : Int).toNat default).toB) :: ((D.I ((((l4.getD i22.toNat default).toL.getD (1 : Int).toNat default).toL.getD i28.toNat default).toL.getD (9 : Int).toNat default).toI) :: ((D.I ((((l4.getD i22.toNat default).toL.getD (1 : Int).toNat default).toL.getD i28.toNat default).toL.getD (10 : Int).toNat default).toI) :: ((D.I ((((l4.getD i22.toNat default).toL.getD (1 : Int).toNat default).toL.getD i28.toNat default).toL.getD (11 : Int).toNat default).toI) :: ((D.I ((((l4.getD i22.toNat default).toL.getD (1 : Int).toNat default).toL.getD i28.toNat default).toL.getD (12 : Int).toNat default).toI) :: ([] : LD))))))))))))))) :: ([] : LD))), .I (wrap .i64 (i28 + 1))] [.N n0, .V v1, .L l2, .V v3, .L l4, .V v5, .L l6, .V v7, .L l8, .L l9, .I i22, .L l27, .I i28]))))) ∧ (
 ((((l4.getD i22.toNat default).toL.getD (1 : Int).toNat default).toL.length : Int) ≤ i28) →
 ∀ v29 : Value,
 Im (((l24 ++ ((D.L ((D.V v26) :: ((D.L l27) :: ([] : LD)))) :: ([] : LD))).length : Int) ≤ (5864062014805 : Int)) (
 ∀ v30 : Value,
  Bk bG.I0 bG.I0M [.N n0, .V v1, .L l2, .V v3, .L l4, .V v5, .L l6, .V v7, .L l8, .L l9, .I (wrap .i64 (i22 + 1)), .L (l24 ++ ((D.L ((D.V v26) :: ((D.L l27) :: ([] : LD)))) :: ([] : LD)))] [.N n0, .V v1, .L l2, .V v3, .L l4, .V v5, .L l6, .V v7, .L l8, .L l9, .I i22, .L l24])))))) ∧ (
 ((l4.length : Int) ≤ i22) →
  bG.I2 [.N n0, .V v1, .L l2, .V v3, .L l4, .V v5, .L l6, .V v7, .L l8, .L l9, .I 0, .L ([] : LD)] ∧ (
 ∀ i25 : Int,
 ∀ v26 : Value,
 ∀ l27 : LD,
 R64 i25 →
 (EK.ok [.int .i64, .int .i64, .int .u64] (D.L l27)) →
  bG.I2 [.N n0, .V v1, .L l2, .V v3, .L l4, .V v5, .L l6, .V v7, .L l8, .L l9, .I i25, .L l27] →
 ((
 (i25 < (l6.length : Int)) →
 Im (0 ≤ i25) (
 ∀ n28 : Nat,
 ((
 (((l6.getD i25.toNat default).toL.getD (3 : Int).toNat default).toS ≠ (⟨#[]⟩ : BA)) →
    dAt.sig.pre [(D.S ((l6.getD i25.toNat default).toL.getD (3 : Int).toNat default).toS), .N n19, .V v14, .L l15, .V v23, .V v26] ∧ (
 ∀ i29 : Int,
  dAt.sig.post [(D.S ((l6.getD i25.toNat default).toL.getD (3 : Int).toNat default).toS), .N n19, .V v14, .L l15, .V v23, .V v26, .I i29] →
 R64 i29 →
 ∀ v30 : Value,
 Im (((l27 ++ ((D.L ((D.I ((l6.getD i25.toNat default).toL.getD (0 : Int).toNat default).toI) :: ((D.I i29) :: ((D.I ((l6.getD i25.toNat default).toL.getD (2 : Int).toNat default).toI) :: ([] : LD))))) :: ([] : LD))).length : Int) ≤ (5864062014805 : Int)) (
 ∀ v31 : Value,
  Bk bG.I2 bG.I2M [.N n0, .V v1, .L l2, .V v3, .L l4, .V v5, .L l6, .V v7, .L l8, .L l9, .I (wrap .i64 (i25 + 1)), .L (l27 ++ ((D.L ((D.I ((l6.getD i25.toNat default).toL.getD (0 : Int).toNat default).toI) :: ((D.I i29) :: ((D.I ((l6.getD i25.toNat default).toL.getD (2 : Int).toNat default).toI) :: ([] : LD))))) :: ([] : LD)))] [.N n0, .V v1, .L l2, .V v3, .L l4, .V v5, .L l6, .V v7, .L l8, .L l9, .I i25, .L l27]))) ∧ (
 (((l6.getD i25.toNat default).toL.getD (3 : Int).toNat default).toS = (⟨#[]⟩ : BA)) →
 ∀ v29 : Value,
 Im (((l27 ++ ((D.L ((D.I ((l6.getD i25.toNat default).toL.getD (0 : Int).toNat default).toI) :: ((D.I ((l6.getD i25.toNat default).toL.getD (1 : Int).toNat default).toI) :: ((D.I ((l6.getD i25.toNat default).toL.getD (2 : Int).toNat default).toI) :: ([] : LD))))) :: ([] : LD))).length : Int) ≤ (5864062014805 : Int)) (
 ∀ v30 : Value,
  Bk bG.I2 bG.I2M [.N n0, .V v1, .L l2, .V v3, .L l4, .V v5, .L l6, .V v7, .L l8, .L l9, .I (wrap .i64 (i25 + 1)), .L (l27 ++ ((D.L ((D.I ((l6.getD i25.toNat default).toL.getD (0 : Int).toNat default).toI) :: ((D.I ((l6.getD i25.toNat default).toL.getD (1 : Int).toNat default).toI) :: ((D.I ((l6.getD i25.toNat default).toL.getD (2 : Int).toNat default).toI) :: ([] : LD))))) :: ([] : LD)))] [.N n0, .V v1, .L l2, .V v3, .L l4, .V v5, .L l6, .V v7, .L l8, .L l9, .I i25, .L l27]))))) ∧ (
 ((l6.length : Int) ≤ i25) →
 (aB1.sig 0).pre [.V v26, .L l27] ∧ (
 ∀ l28 : LD,
 (aB1.sig 0).post [.V v26, .L l27, .L l28] →
 (EK.ok [.int .i64, .int .i64, .int .u64] (D.L l28)) →
  bG.sig.post [.N n0, .V v1, .L l2, .V v3, .L l4, .V v5, .L l6, .V v7, .L l8, .L l9, .V v14, .L l15, .V v23, .L l24, .V v26, .L l28]))))))))
def dN.Pure : Prop :=
 ∀ s0 : BA,
 ∀ l1 : LD,
 ((s0.size : Int) ≤ 9223372036854775807) →
 (EK.ok [.sl [.str]] (D.L l1)) →
 (dN.sig 0).pre [.S s0, .L l1] →
 ∀ v2 v3 v4 : Value,
 ∀ n5 : Nat,
 fU.sig.pre [.S s0] ∧ (
 ∀ v6 : Value,
 ∀ l7 : LD,
 ∀ i8 i9 : Int,
 fU.sig.post [.S s0, .V v6, .L l7, .I i8, .I i9] →
 R64 i8 →
 R64 i9 →
 (EK.ok [.int .i64, .sl [.int .i64, .str, .int .u64]] (D.L l7)) →
 ((
 (i9 ≠ 0) →
 ∀ v10 v11 v12 : Value,
 (dN.sig 0).post [.S s0, .L l1, .V v10, .L ([] : LD), .V v11, .L ([] : LD), .V v12, .L ([] : LD), .I i8, .I i9]) ∧ (
 (i9 = 0) →
 ∀ v10 v11 v12 : Value,
 ∀ n13 : Nat,
 ∀ v14 : Value,
  dN.I0 [.S s0, .L l1, .I 0, .V v10, .L ([] : LD), .V v11, .L ([] : LD), .V v12, .L ([] : LD), .V v14, .L ([] : LD), .L ([] : LD)] ∧ (
 ∀ i15 : Int,
 ∀ v16 : Value,
 ∀ l17 : LD,
 ∀ v18 : Value,
 ∀ l19 : LD,
 ∀ v20 : Value,
 ∀ l21 : LD,
 ∀ v22 : Value,
 ∀ l23 l24 : LD,
 R64 i15 →
 (EK.ok [.int .i64, .int .i64, .int .i64, .bool, .int .u64, .bool, .int .u64, .bool, .bool, .int .i64, .int .i64, .int .i64, .int .i64, .str] (D.L l23)) →
 (EK.ok [.int .i64, .int .i64, .int .u64, .str] (D.L l21)) →
 (EK.ok [.sl [.int .i64, .int .i64, .int .i64, .bool, .int .u64, .bool, .int .u64, .bool, .bool, .int .i64, .int .i64, .int .i64, .int .i64, .str]] (D.L l19)) →
 (EK.ok [.str, .int .u64] (D.L l17)) →
  dN.I0 [.S s0, .L l1, .I i15, .V v16, .L l17, .V v18, .L l19, .V v20, .L l21, .V v22, .L l23, .L l24] →
 ((
 (i15 < (l7.length : Int)) →
 Im (0 ≤ i15) (
 ∀ v25 : Value,
 ∀ n26 : Nat,
 (aK.sig 0).pre [.N n13, .V v16, .L l17, .V v18, .L l19, .V v20, .L l21, .V v22, .L l23, .L l24, (D.V (((l7.getD i15.toNat default).toL.getD (1 : Int).toNat default).toL.getD (0 : Int).toNat default).toV), (D.L (((l7.getD i15.toNat default).toL.getD (1 : Int).toNat default).toL.getD (1 : Int).toNat default).toL), .L l1] ∧ (
 ∀ v27 : Value,
 ∀ l28 : LD,
 ∀ v29 : Value,
 ∀ l30 : LD,
 ∀ v31 : Value,
 ∀ l32 : LD,
 ∀ v33 : Value,
 ∀ l34 l35 : LD,
 ∀ i36 : Int,
 (aK.sig 0).post [.N n13, .V v16, .L l17, .V v18, .L l19, .V v20, .L l21, .V v22, .L l23, .L l24, (D.V (((l7.getD i15.toNat default).toL.getD (1 : Int).toNat default).toL.getD (0 : Int).toNat default).toV), (D.L (((l7.getD i15.toNat default).toL.getD (1 : Int).toNat default).toL.getD (1 : Int).toNat default).toL), .L l1, .V v27, .L l28, .V v29, .L l30, .V v31, .L l32, .V v33, .L l34, .L l35, .I i36] →
 R64 i36 →
 (EK.ok [.str, .int .u64] (D.L l28)) →
 (EK.ok [.sl [.int .i64, .int .i64, .int .i64, .bool, .int .u64, .bool, .int .u64, .bool, .bool, .int .i64, .int .i64, .int .i64, .int .i64, .str]] (D.L l30)) →
 (EK.ok [.int .i64, .int .i64, .int .u64, .str] (D.L l32)) →
 (EK.ok [.int .i64, .int .i64, .int .i64, .bool, .int .u64, .bool, .int .u64, .bool, .bool, .int .i64, .int .i64, .int .i64, .int .i64, .str] (D.L l34)) →
 ((
 (i36 ≠ 0) →
 ((
 ∀ v37 v38 v39 : Value,
 (dN.sig 0).post [.S s0, .L l1, .V v37, .L ([] : LD), .V v38, .L ([] : LD), .V v39, .L ([] : LD), (D.I ((l7.getD i15.toNat default).toL.getD (0 : Int).toNat default).toI), .I i36]) ∧ (
 ∀ v37 v38 v39 : Value,
 (dN.sig 0).post [.S s0, .L l1, .V v37, .L ([] : LD), .V v38, .L ([] : LD), .V v39, .L ([] : LD), (D.I ((l7.getD i15.toNat default).toL.getD (0 : Int).toNat default).toI), .I i36]))) ∧ (
 (i36 = 0) →
  Bk dN.I0 dN.I0M [.S s0, .L l1, .I (wrap .i64 (i15 + 1)), .V v27, .L l28, .V v29, .L l30, .V v31, .L l32, .V v33, .L l34, .L l35] [.S s0, .L l1, .I i15, .V v16, .L l17, .V v18, .L l19, .V v20, .L l21, .V v22, .L l23, .L l24]))))) ∧ (
 ((l7.length : Int) ≤ i15) →
   bG.sig.pre [.N n13, .V v16, .L l17, .V v18, .L l19, .V v20, .L l21, .V v22, .L l23, .L l24] ∧ (
 ∀ v25 : Value,
 ∀ l26 : LD,
 ∀ v27 : Value,
 ∀ l28 : LD,
 ∀ v29 : Value,
 ∀ l30 : LD,
  bG.sig.post [.N n13, .V v16, .L l17, .V v18, .L l19, .V v20, .L l21, .V v22, .L l23, .L l24, .V v25, .L l26, .V v27, .L l28, .V v29, .L l30] →
 (EK.ok [.str, .int .u64] (D.L l26)) →
 (EK.ok [.sl [.int .i64, .int .i64, .int .i64, .bool, .int .u64, .bool, .int .u64, .bool, .bool, .int .i64, .int .i64, .int .i64, .int .i64]] (D.L l28)) →
 (EK.ok [.int .i64, .int .i64, .int .u64] (D.L l30)) →
 ∀ v31 v32 v33 : Value,
 ∀ n34 : Nat,
  aQ.sig.pre [.N n34, .V v25, .L l26, .V v27, .L l28, .V v29, .L l30] ∧ (
 ∀ i35 : Int,
  aQ.sig.post [.N n34, .V v25, .L l26, .V v27, .L l28, .V v29, .L l30, .I i35] →
 R64 i35 →
 ((
 (i35 ≠ 0) →
 ∀ v36 v37 v38 : Value,
 (dN.sig 0).post [.S s0, .L l1, .V v36, .L ([] : LD), .V v37, .L ([] : LD), .V v38, .L ([] : LD), .I 0, .I i35]) ∧ (
 (i35 = 0) →
 (dN.sig 0).post [.S s0, .L l1, .V v25, .L l26, .V v27, .L l28, .V v29, .L l30, .I 0, .I 0]))))))))))
end Go.Vc