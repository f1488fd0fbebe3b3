/-
 Printed by wip/vct.py: the conditions of functions, by their contracts.
 The lexer: plain conditions, first part.
 The lexer: plain conditions, second part.
 The lexer: plain conditions, third part.
-/
import Derived.Test.YtfhmokjjjnjhjaaGreatDoorLexm
import Derived.KernelRfl
import Derived.Test.YtfhmokjjjnjhjaaGreatDoorDska
set_option linter.unusedVariables false
set_option linter.unusedSimpArgs false
open _root_.Go.IntKind (wrap)
namespace Go.Vc
set_option linter.unusedVariables false
set_option maxRecDepth 100000
def xIdx.Pure : Prop :=
 ∀ s0 s1 : BA,
 ((s0.size : Int) ≤ 9223372036854775807) →
 ((s1.size : Int) ≤ 9223372036854775807) →
 xIdx.sig.pre [.S s0, .S s1] →
 ((
 ((s1.size : Int) = (0 : Int)) →
  xIdx.sig.post [.S s0, .S s1, .I 0]) ∧ (
 ((s1.size : Int) ≠ (0 : Int)) →
 ((
 (s1 = s0) →
  xIdx.sig.post [.S s0, .S s1, .I 0]) ∧ (
 (s1 ≠ s0) →
 ((
 ((s1.size : Int) = (1 : Int)) →
 Im (0 < (s1.size : Int)) (
  IxB.sig.pre [.S s0, .I (byteAt s1 0)] ∧ (
 ∀ i2 : Int,
  IxB.sig.post [.S s0, .I (byteAt s1 0), .I i2] →
 R64 i2 →
  xIdx.sig.post [.S s0, .S s1, .I i2]))) ∧ (
 ((s1.size : Int) ≠ (1 : Int)) →
 Im (false = true) (
  True)))))))
def nZ.Pure : Prop :=
 ∀ s0 s1 : BA,
 ((s0.size : Int) ≤ 9223372036854775807) →
 ((s1.size : Int) ≤ 9223372036854775807) →
 nZ.sig.pre [.S s0, .S s1] →
 xIdx.sig.pre [.S s0, .S s1] ∧ (
 ∀ i2 : Int,
 xIdx.sig.post [.S s0, .S s1, .I i2] →
 R64 i2 →
 ((
 (0 ≤ i2) →
 Im (i2 ≤ (s0.size : Int)) (
 Im ((wrap .i64 (i2 + (s1.size : Int))) ≤ (s0.size : Int)) (
 Im (0 ≤ (wrap .i64 (i2 + (s1.size : Int)))) (
  nZ.sig.post [.S s0, .S s1, .S (s0.extract (0 : Int).toNat i2.toNat), .S (s0.extract (wrap .i64 (i2 + (s1.size : Int))).toNat (s0.size : Int).toNat), .B true])))) ∧ (
 (i2 < 0) →
  nZ.sig.post [.S s0, .S s1, .S s0, .S (⟨#[]⟩ : BA), .B false])))
def qA.Pure : Prop :=
 ∀ s0 s1 : BA,
 ((s0.size : Int) ≤ 9223372036854775807) →
 ((s1.size : Int) ≤ 9223372036854775807) →
 qA.sig.pre [.S s0, .S s1] →
 nZ.sig.pre [.S s0, .S s1] ∧ (
 ∀ s2 s3 : BA,
 ∀ b4 : Bool,
 nZ.sig.post [.S s0, .S s1, .S s2, .S s3, .B b4] →
 ((s2.size : Int) ≤ 9223372036854775807) →
 ((s3.size : Int) ≤ 9223372036854775807) →
 qA.sig.post [.S s0, .S s1, .S s2, .S s3, .B b4])
def oG.Pure : Prop :=
 ∀ s0 s1 : BA,
 ((s0.size : Int) ≤ 9223372036854775807) →
 ((s1.size : Int) ≤ 9223372036854775807) →
 oG.sig.pre [.S s0, .S s1] →
 ((
 ((s1.size : Int) ≤ (s0.size : Int)) →
 Im ((wrap .i64 ((s0.size : Int) - (s1.size : Int))) ≤ (s0.size : Int)) (
 Im (0 ≤ (wrap .i64 ((s0.size : Int) - (s1.size : Int)))) (
  oG.sig.post [.S s0, .S s1, .B ((s0.extract (wrap .i64 ((s0.size : Int) - (s1.size : Int))).toNat (s0.size : Int).toNat).toList == s1.toList)]))) ∧ (
 ((s0.size : Int) < (s1.size : Int)) →
  oG.sig.post [.S s0, .S s1, .B false]))
def oI.Pure : Prop :=
 ∀ s0 s1 : BA,
 ((s0.size : Int) ≤ 9223372036854775807) →
 ((s1.size : Int) ≤ 9223372036854775807) →
 oI.sig.pre [.S s0, .S s1] →
 oG.sig.pre [.S s0, .S s1] ∧ (
 ∀ b2 : Bool,
 oG.sig.post [.S s0, .S s1, .B b2] →
 ((
 (b2 = true) →
 Im (0 ≤ (wrap .i64 ((s0.size : Int) - (s1.size : Int)))) (
 Im ((wrap .i64 ((s0.size : Int) - (s1.size : Int))) ≤ (s0.size : Int)) (
  oI.sig.post [.S s0, .S s1, .S (s0.extract (0 : Int).toNat (wrap .i64 ((s0.size : Int) - (s1.size : Int))).toNat)]))) ∧ (
 (b2 = false) →
  oI.sig.post [.S s0, .S s1, .S s0])))
def qE.Pure : Prop :=
 ∀ s0 s1 : BA,
 ((s0.size : Int) ≤ 9223372036854775807) →
 ((s1.size : Int) ≤ 9223372036854775807) →
 qE.sig.pre [.S s0, .S s1] →
 oI.sig.pre [.S s0, .S s1] ∧ (
 ∀ s2 : BA,
 oI.sig.post [.S s0, .S s1, .S s2] →
 ((s2.size : Int) ≤ 9223372036854775807) →
 qE.sig.post [.S s0, .S s1, .S s2])
def oD.Pure : Prop :=
 ∀ s0 s1 : BA,
 ((s0.size : Int) ≤ 9223372036854775807) →
 ((s1.size : Int) ≤ 9223372036854775807) →
 oD.sig.pre [.S s0, .S s1] →
 ((
 ((s1.size : Int) ≤ (s0.size : Int)) →
  oD.sig.post [.S s0, .S s1, .B ((s0.extract (0 : Int).toNat (s1.size : Int).toNat).toList == s1.toList)]) ∧ (
 ((s0.size : Int) < (s1.size : Int)) →
  oD.sig.post [.S s0, .S s1, .B false]))
def oC.Pure : Prop :=
 ∀ s0 s1 : BA,
 ((s0.size : Int) ≤ 9223372036854775807) →
 ((s1.size : Int) ≤ 9223372036854775807) →
 oC.sig.pre [.S s0, .S s1] →
 oD.sig.pre [.S s0, .S s1] ∧ (
 ∀ b2 : Bool,
 oD.sig.post [.S s0, .S s1, .B b2] →
 ((
 (b2 = false) →
  oC.sig.post [.S s0, .S s1, .S s0, .B false]) ∧ (
 (b2 = true) →
 Im ((s1.size : Int) ≤ (s0.size : Int)) (
  oC.sig.post [.S s0, .S s1, .S (s0.extract (s1.size : Int).toNat (s0.size : Int).toNat), .B true]))))
def qB.Pure : Prop :=
 ∀ s0 s1 : BA,
 ((s0.size : Int) ≤ 9223372036854775807) →
 ((s1.size : Int) ≤ 9223372036854775807) →
 qB.sig.pre [.S s0, .S s1] →
 oC.sig.pre [.S s0, .S s1] ∧ (
 ∀ s2 : BA,
 ∀ b3 : Bool,
 oC.sig.post [.S s0, .S s1, .S s2, .B b3] →
 ((s2.size : Int) ≤ 9223372036854775807) →
 qB.sig.post [.S s0, .S s1, .S s2, .B b3])
def oH.Pure : Prop :=
 ∀ s0 s1 : BA,
 ∀ i2 : Int,
 ((s0.size : Int) ≤ 9223372036854775807) →
 ((s1.size : Int) ≤ 9223372036854775807) →
 R64 i2 →
 (oH.sig 0).pre [.S s0, .S s1, .I i2] →
 ∀ n3 n4 n5 : Nat,
 (oH.sig 0).post [.S s0, .S s1, .I i2, .N n4, .N n3, .N n5]
def qC.Pure : Prop :=
 ∀ s0 s1 : BA,
 ((s0.size : Int) ≤ 9223372036854775807) →
 ((s1.size : Int) ≤ 9223372036854775807) →
 (qC.sig 0).pre [.S s0, .S s1] →
 (oH.sig 0).pre [.S s0, .S s1, .I 0] ∧ (
 ∀ n2 n3 n4 : Nat,
 (oH.sig 0).post [.S s0, .S s1, .I 0, .N n2, .N n3, .N n4] →
 (qC.sig 0).post [.S s0, .S s1, .N n2, .N n3, .N n4])
def lJ.Pure : Prop :=
 ∀ i0 : Int,
 (0 ≤ i0 ∧ i0 < 256) →
 lJ.sig.pre [.I i0] →
 ((
 (97 ≤ i0) →
  lJ.sig.post [.I i0, .B (decide (i0 ≤ 122))]) ∧ (
 (i0 < 97) →
  lJ.sig.post [.I i0, .B false]))
def jS.Pure : Prop :=
 ∀ i0 : Int,
 (0 ≤ i0 ∧ i0 < 256) →
 jS.sig.pre [.I i0] →
 ((
 (48 ≤ i0) →
  jS.sig.post [.I i0, .B (decide (i0 ≤ 57))]) ∧ (
 (i0 < 48) →
  jS.sig.post [.I i0, .B false]))
def dY.Pure : Prop :=
 ∀ s0 : BA,
 ((s0.size : Int) ≤ 9223372036854775807) →
 dY.sig.pre [.S s0] →
 dY.I0 [.S s0, .I 0] ∧ (
 ∀ i1 : Int,
 R64 i1 →
 dY.I0 [.S s0, .I i1] →
 ((
 (i1 < (s0.size : Int)) →
 Im (0 ≤ i1) (
  lJ.sig.pre [.I (byteAt s0 i1)] ∧ (
 ∀ b2 : Bool,
  lJ.sig.post [.I (byteAt s0 i1), .B b2] →
 ((
 (b2 = true) →
  Bk dY.I0 dY.I0M [.S s0, .I (wrap .i64 (i1 + 1))] [.S s0, .I i1]) ∧ (
 (b2 = false) →
  jS.sig.pre [.I (byteAt s0 i1)] ∧ (
 ∀ b3 : Bool,
  jS.sig.post [.I (byteAt s0 i1), .B b3] →
 ((
 (b3 = true) →
  Bk dY.I0 dY.I0M [.S s0, .I (wrap .i64 (i1 + 1))] [.S s0, .I i1]) ∧ (
 (b3 = false) →
  dY.sig.post [.S s0, .I i1])))))))) ∧ (
 ((s0.size : Int) ≤ i1) →
  dY.sig.post [.S s0, .I i1])))
def kG.Pure : Prop :=
 ∀ i0 i1 : Int,
 (0 ≤ i0 ∧ i0 < 256) →
 U64 i1 →
 kG.sig.pre [.I i0, .I i1] →
 jS.sig.pre [.I i0] ∧ (
 ∀ b2 : Bool,
 jS.sig.post [.I i0, .B b2] →
 ((
 (b2 = true) →
  kG.sig.post [.I i0, .I i1, .I (wrap .u64 (wrap .u8 (i0 - 48))), .B (decide ((wrap .u64 (wrap .u8 (i0 - 48))) < i1))]) ∧ (
 (b2 = false) →
 ((
 (97 ≤ i0) →
 ((
 (i0 ≤ 102) →
  kG.sig.post [.I i0, .I i1, .I (wrap .u64 ((wrap .u64 (wrap .u8 (i0 - 97))) + 10)), .B (decide ((wrap .u64 ((wrap .u64 (wrap .u8 (i0 - 97))) + 10)) < i1))]) ∧ (
 (102 < i0) →
  kG.sig.post [.I i0, .I i1, .I 99, .B (decide (99 < i1))]))) ∧ (
 (i0 < 97) →
  kG.sig.post [.I i0, .I i1, .I 99, .B (decide (99 < i1))])))))
def dO.Pure : Prop :=
 ∀ s0 : BA,
 ((s0.size : Int) ≤ 9223372036854775807) →
 dO.sig.pre [.S s0] →
 qB.sig.pre [.S s0, .S (⟨#[48, 120]⟩ : BA)] ∧ (
 ∀ s1 : BA,
 ∀ b2 : Bool,
 qB.sig.post [.S s0, .S (⟨#[48, 120]⟩ : BA), .S s1, .B b2] →
 ((s1.size : Int) ≤ 9223372036854775807) →
 ((
 (b2 = true) →
 ∀ v3 : Value,
  dO.I0 [.S s0, .I 0, .I 0] ∧ (
 ∀ i4 i5 : Int,
 U64 i4 →
 R64 i5 →
  dO.I0 [.S s0, .I i4, .I i5] →
 ((
 (i5 < ((bytesOf s1).length : Int)) →
 Im (0 ≤ i5) (
  kG.sig.pre [.I ((bytesOf s1).getD i5.toNat 0), .I 16] ∧ (
 ∀ i6 : Int,
 ∀ b7 : Bool,
  kG.sig.post [.I ((bytesOf s1).getD i5.toNat 0), .I 16, .I i6, .B b7] →
 U64 i6 →
 ((
 (b7 = false) →
  dO.sig.post [.S s0, .I 0, .B false]) ∧ (
 (b7 = true) →
 ((
 ((wrap .u64 (Int.tdiv (wrap .u64 (18446744073709551615 - i6)) 16)) < i4) →
   dO.sig.post [.S s0, .I 0, .B false]) ∧ (
 (i4 ≤ (wrap .u64 (Int.tdiv (wrap .u64 (18446744073709551615 - i6)) 16))) →
   Bk dO.I0 dO.I0M [.S s0, .I (wrap .u64 ((wrap .u64 (i4 * 16)) + i6)), .I (wrap .i64 (i5 + 1))] [.S s0, .I i4, .I i5]))))))) ∧ (
 (((bytesOf s1).length : Int) ≤ i5) →
   dO.sig.post [.S s0, .I i4, .B (!(s1.toList == (⟨#[]⟩ : BA).toList))])))) ∧ (
 (b2 = false) →
 ∀ v3 : Value,
  dO.I0 [.S s0, .I 0, .I 0] ∧ (
 ∀ i4 i5 : Int,
 U64 i4 →
 R64 i5 →
  dO.I0 [.S s0, .I i4, .I i5] →
 ((
 (i5 < ((bytesOf s0).length : Int)) →
 Im (0 ≤ i5) (
  kG.sig.pre [.I ((bytesOf s0).getD i5.toNat 0), .I 10] ∧ (
 ∀ i6 : Int,
 ∀ b7 : Bool,
  kG.sig.post [.I ((bytesOf s0).getD i5.toNat 0), .I 10, .I i6, .B b7] →
 U64 i6 →
 ((
 (b7 = false) →
  dO.sig.post [.S s0, .I 0, .B false]) ∧ (
 (b7 = true) →
 ((
 ((wrap .u64 (Int.tdiv (wrap .u64 (18446744073709551615 - i6)) 10)) < i4) →
   dO.sig.post [.S s0, .I 0, .B false]) ∧ (
 (i4 ≤ (wrap .u64 (Int.tdiv (wrap .u64 (18446744073709551615 - i6)) 10))) →
   Bk dO.I0 dO.I0M [.S s0, .I (wrap .u64 ((wrap .u64 (i4 * 10)) + i6)), .I (wrap .i64 (i5 + 1))] [.S s0, .I i4, .I i5]))))))) ∧ (
 (((bytesOf s0).length : Int) ≤ i5) →
   dO.sig.post [.S s0, .I i4, .B (!(s0.toList == (⟨#[]⟩ : BA).toList))]))))))
def jT.Pure : Prop :=
 ∀ s0 : BA,
 ((s0.size : Int) ≤ 9223372036854775807) →
 jT.sig.pre [.S s0] →
 ∀ n1 : Nat,
 Im (0 < (s0.size : Int)) (
 lJ.sig.pre [.I (byteAt s0 0)] ∧ (
 ∀ b2 : Bool,
 lJ.sig.post [.I (byteAt s0 0), .B b2] →
 ((
 (b2 = true) →
  dY.sig.pre [.S s0] ∧ (
 ∀ i3 : Int,
  dY.sig.post [.S s0, .I i3] →
 R64 i3 →
 Im (0 ≤ i3) (
 Im (i3 ≤ (s0.size : Int)) (
  jT.sig.post [.S s0, .I 1, .S (s0.extract (0 : Int).toNat i3.toNat), .I 0, .I i3, .B true])))) ∧ (
 (b2 = false) →
  jS.sig.pre [.I (byteAt s0 0)] ∧ (
 ∀ b3 : Bool,
  jS.sig.post [.I (byteAt s0 0), .B b3] →
 ((
 (b3 = true) →
  dY.sig.pre [.S s0] ∧ (
 ∀ i4 : Int,
  dY.sig.post [.S s0, .I i4] →
 R64 i4 →
 Im (0 ≤ i4) (
 Im (i4 ≤ (s0.size : Int)) (
  dO.sig.pre [.S (s0.extract (0 : Int).toNat i4.toNat)] ∧ (
 ∀ i5 : Int,
 ∀ b6 : Bool,
  dO.sig.post [.S (s0.extract (0 : Int).toNat i4.toNat), .I i5, .B b6] →
 U64 i5 →
  jT.sig.post [.S s0, .I 2, .S (s0.extract (0 : Int).toNat i4.toNat), .I i5, .I i4, .B b6]))))) ∧ (
 (b3 = false) →
 ((
 ((byteAt s0 0) = 61) →
 Im (1 ≤ (s0.size : Int)) (
  jT.sig.post [.S s0, .I 3, .S (s0.extract (0 : Int).toNat (1 : Int).toNat), .I 0, .I 1, .B true])) ∧ (
 ((byteAt s0 0) ≠ 61) →
 ((
 ((byteAt s0 0) = 58) →
 Im (1 ≤ (s0.size : Int)) (
     jT.sig.post [.S s0, .I 3, .S (s0.extract (0 : Int).toNat (1 : Int).toNat), .I 0, .I 1, .B true])) ∧ (
 ((byteAt s0 0) ≠ 58) →
   jT.sig.post [.S s0, .I 0, .S (⟨#[]⟩ : BA), .I 0, .I 0, .B false])))))))))))
def iR.Pure : Prop :=
 ∀ s0 : BA,
 ((s0.size : Int) ≤ 9223372036854775807) →
 iR.sig.pre [.S s0] →
 ∀ v1 : Value,
 qA.sig.pre [.S s0, .S (⟨#[35]⟩ : BA)] ∧ (
 ∀ s2 s3 : BA,
 ∀ b4 : Bool,
 qA.sig.post [.S s0, .S (⟨#[35]⟩ : BA), .S s2, .S s3, .B b4] →
 ((s2.size : Int) ≤ 9223372036854775807) →
 ((s3.size : Int) ≤ 9223372036854775807) →
 ∀ v5 : Value,
 vS.sig.pre [.S s2, .S (⟨#[32, 9]⟩ : BA)] ∧ (
 ∀ s6 : BA,
 vS.sig.post [.S s2, .S (⟨#[32, 9]⟩ : BA), .S s6] →
 ((s6.size : Int) ≤ 9223372036854775807) →
 iR.I0 [.S s0, .S s6, .L ([] : LD)] ∧ (
 ∀ s7 : BA,
 ∀ v8 : Value,
 ∀ l9 : LD,
 ((s7.size : Int) ≤ 9223372036854775807) →
 (EK.ok [.int .i64, .str, .int .u64] (D.L l9)) →
 iR.I0 [.S s0, .S s7, .L l9] →
 ((
 (s7 ≠ (⟨#[]⟩ : BA)) →
  jT.sig.pre [.S s7] ∧ (
 ∀ i10 : Int,
 ∀ s11 : BA,
 ∀ i12 i13 : Int,
 ∀ b14 : Bool,
  jT.sig.post [.S s7, .I i10, .S s11, .I i12, .I i13, .B b14] →
 R64 i10 →
 ((s11.size : Int) ≤ 9223372036854775807) →
 U64 i12 →
 R64 i13 →
 ∀ n15 : Nat,
 ((
 (b14 = false) →
 ∀ v16 : Value,
  iR.sig.post [.S s0, .V v16, .L ([] : LD), .B false]) ∧ (
 (b14 = true) →
 ∀ v16 : Value,
 Im (((l9 ++ ((D.L ((D.I i10) :: ((D.S s11) :: ((D.I i12) :: ([] : LD))))) :: ([] : LD))).length : Int) ≤ (4398046511104 : Int)) (
 ∀ v17 : Value,
 Im (i13 ≤ (s7.size : Int)) (
 Im (0 ≤ i13) (
  vS.sig.pre [.S (s7.extract i13.toNat (s7.size : Int).toNat), .S (⟨#[32, 9]⟩ : BA)] ∧ (
 ∀ s18 : BA,
  vS.sig.post [.S (s7.extract i13.toNat (s7.size : Int).toNat), .S (⟨#[32, 9]⟩ : BA), .S s18] →
 ((s18.size : Int) ≤ 9223372036854775807) →
   Bk iR.I0 iR.I0M [.S s0, .S s18, .L (l9 ++ ((D.L ((D.I i10) :: ((D.S s11) :: ((D.I i12) :: ([] : LD))))) :: ([] : LD)))] [.S s0, .S s7, .L l9])))))))) ∧ (
 (s7 = (⟨#[]⟩ : BA)) →
  iR.sig.post [.S s0, .V v8, .L l9, .B true])))))
def fU.Pure : Prop :=
 ∀ s0 : BA,
 ((s0.size : Int) ≤ 9223372036854775807) →
 fU.sig.pre [.S s0] →
 ∀ v1 : Value,
 ∀ n2 n3 n4 : Nat,
 ((
 (2000 < (s0.size : Int)) →
 ∀ v5 : Value,
  fU.sig.post [.S s0, .V v5, .L ([] : LD), .I 0, .I 17]) ∧ (
 ((s0.size : Int) ≤ (2000 : Int)) →
 ∀ v5 : Value,
 ∀ n6 n7 : Nat,
 (qC.sig 0).pre [.S s0, .S (⟨#[10]⟩ : BA)] ∧ (
 ∀ n8 n9 n10 : Nat,
 (qC.sig 0).post [.S s0, .S (⟨#[10]⟩ : BA), .N n8, .N n9, .N n10] →
 Im ((⟨#[10]⟩ : BA) = (⟨#[10]⟩ : BA)) (
 Im (((dG s0).length : Int) ≤ (4611686018427387904 : Int)) (
  fU.I0 [.S s0, .I 0, .L ([] : LD), .I 0] ∧ (
 ∀ i11 : Int,
 ∀ v12 : Value,
 ∀ l13 : LD,
 ∀ i14 : Int,
 R64 i11 →
 (EK.ok [.int .i64, .sl [.int .i64, .str, .int .u64]] (D.L l13)) →
  fU.I0 [.S s0, .I i11, .L l13, .I i14] →
 ((
 ((0 ≤ i14) ∧ (i14 < ((dG s0).length : Int))) →
   qE.sig.pre [(D.S ((dG s0).getD i14.toNat default).toS), .S (⟨#[13]⟩ : BA)] ∧ (
 ∀ s15 : BA,
  qE.sig.post [(D.S ((dG s0).getD i14.toNat default).toS), .S (⟨#[13]⟩ : BA), .S s15] →
 ((s15.size : Int) ≤ 9223372036854775807) →
   iR.sig.pre [.S s15] ∧ (
 ∀ v16 : Value,
 ∀ l17 : LD,
 ∀ b18 : Bool,
  iR.sig.post [.S s15, .V v16, .L l17, .B b18] →
 (EK.ok [.int .i64, .str, .int .u64] (D.L l17)) →
 ((
 (b18 = false) →
 ((
 ∀ v19 : Value,
   fU.sig.post [.S s0, .V v19, .L ([] : LD), .I (wrap .i64 (i11 + 1)), .I 10]) ∧ (
 ∀ v19 : Value,
   fU.sig.post [.S s0, .V v19, .L ([] : LD), .I (wrap .i64 (i11 + 1)), .I 10]))) ∧ (
 (b18 = true) →
 ((
 (0 < (l17.length : Int)) →
 ∀ v19 : Value,
 Im (((l13 ++ ((D.L ((D.I (wrap .i64 (i11 + (1 : Int)))) :: ((D.L ((D.V v16) :: ((D.L l17) :: ([] : LD)))) :: ([] : LD)))) :: ([] : LD))).length : Int) ≤ (4398046511104 : Int)) (
 ∀ v20 : Value,
   fU.I0 [.S s0, .I (wrap .i64 (i11 + 1)), .L (l13 ++ ((D.L ((D.I (wrap .i64 (i11 + 1))) :: ((D.L ((D.V v16) :: ((D.L l17) :: ([] : LD)))) :: ([] : LD)))) :: ([] : LD))), .I (wrap .i64 (i14 + 1))] ∧ (
   True))) ∧ (
 ((l17.length : Int) ≤ (0 : Int)) →
   fU.I0 [.S s0, .I (wrap .i64 (i11 + 1)), .L l13, .I (wrap .i64 (i14 + 1))] ∧ (
   True)))))))) ∧ (
 (i14 = ((dG s0).length : Int)) →
  fU.sig.post [.S s0, .V v12, .L l13, .I 0, .I 0]))))))))
end Go.Vc
namespace Go.Vc
theorem yL (s : BA) (i : Int) : b8 (byteAt s i) = (tx s).getD i.toNat 0 := by
 unfold b8 byteAt
 show UInt8.ofNat (Int.toNat (((tx s).getD i.toNat 0).toNat : Int)) = _
 rw [Int.toNat_natCast]; simp
theorem aN1 {i : Int} (h : 0 ≤ i ∧ i < 256) : ((b8 i).toNat : Int) = i := by
 unfold b8
 have : (UInt8.ofNat i.toNat).toNat = i.toNat % 256 := by simp
 omega
theorem cJ5 {s : BA} (h : s.size = 1) : ∃ c, tx s = [c] := by
 have : (tx s).length = 1 := h
 match hx : tx s, this with
 | [c], _ => exact ⟨c, rfl⟩
theorem bF9 (c : UInt8) : ∀ l : Tx, -1 ≤ Lib.indexByte l c ∧ Lib.indexByte l c ≤ l.length ∧ (0 ≤ Lib.indexByte l c → l.take (Lib.indexByte l c).toNat = l.takeWhile (· ≠ c) ∧ Lib.indexByte l c < l.length ∧ l[(Lib.indexByte l c).toNat]? = some c) ∧ (Lib.indexByte l c < 0 → l.takeWhile (· ≠ c) = l)
 | [] => by simp [Lib.indexByte]
 | b :: l => by
  obtain ⟨h1, h2, h3, h4⟩ := bF9 c l
  unfold Lib.indexByte
  simp only [List.length_cons]
  split
  ·rename_i hb
   have hb : b = c := by simpa using hb
   subst hb
   refine ⟨by omega, by omega, fun _ => ⟨by simp, by omega, rfl⟩, fun h => absurd h (by omega)⟩
  ·rename_i hb
   have hb : b ≠ c := by simpa using hb
   split
   ·rename_i hn
    have hn := beq_iff_eq.1 hn
    refine ⟨by omega, by omega, fun h => absurd h (by omega), fun _ => ?_⟩
    rw [List.takeWhile_cons_of_pos (by simpa using hb), h4 (by omega)]
   ·rename_i hn
    have hn : Lib.indexByte l c ≠ -1 := fun e => hn (beq_iff_eq.2 e)
    obtain ⟨g1, g2, g3⟩ := h3 (by omega)
    have e : (Lib.indexByte l c + 1).toNat = (Lib.indexByte l c).toNat + 1 := by omega
    refine ⟨by omega, by omega, fun _ => ⟨?_, by omega, ?_⟩, fun h => absurd h (by omega)⟩
    ·rw [e, List.take_succ_cons, g1, List.takeWhile_cons_of_pos (by simpa using hb)]
    ·rw [e]; exact g3
theorem xIdx.pure : xIdx.Pure := by
 intro s0 s1 _ _ hp
 have hp : s1.size = 1 := hp
 obtain ⟨c, hc⟩ := cJ5 hp
 refine ⟨fun h => absurd h (by omega), fun _ => ⟨fun h => ?_, fun _ => ⟨fun _ => ⟨by omega, fun _ => ⟨trivial, fun i2 h2 _ => ?_⟩⟩, fun h => absurd h (by omega)⟩⟩⟩
 ·show (0 : Int) = Lib.indexByte (tx s0) (b8 (byteAt s1 0))
  rw [yL, ← h, hc]
  simp [Lib.indexByte]
 ·have h2 : i2 = Lib.indexByte s0.data.toList (byteAt s1 0).toNat.toUInt8 := h2
  exact h2
theorem yP (s : BA) (n : Nat) : s.extract 0 n = bx ((tx s).take n) := sZ (by rw [yH, List.drop_zero]; rfl)
theorem nZ.pure : nZ.Pure := by
 intro s0 s1 z0 _ hp
 have hp : s1 = ⟨#[35]⟩ := hp
 subst hp
 refine ⟨rfl, fun i2 h2 _ => ?_⟩
 have h2 : i2 = Lib.indexByte (tx s0) 35 := h2
 obtain ⟨c1, c2, c3, c4⟩ := bF9 35 (tx s0)
 rw [← h2] at c1 c2 c3 c4
 have hl : (tx s0).length = s0.size := rfl
 have z1 : (((⟨#[35]⟩ : BA).size : Nat) : Int) = 1 := rfl
 refine ⟨fun h => ?_, fun h => ?_⟩
 ·obtain ⟨d1, d2, d3⟩ := c3 h
  rw [z1, wrap64 (by omega) (by omega)]
  refine ⟨by omega, fun _ => ⟨by omega, fun _ => ⟨by omega, fun _ => ?_⟩⟩⟩
  show s0.extract (0 : Int).toNat i2.toNat = bx (Lx.bare (tx s0))
  rw [Lx.bare, ← d1, ← yP]; rfl
 ·show s0 = bx (Lx.bare (tx s0))
  rw [Lx.bare, c4 h, bx_tx]
theorem qA.pure : qA.Pure := by
 intro s0 s1 _ _ hp
 exact ⟨hp, fun _ _ _ h _ _ => h⟩
theorem bZ3 {l : Tx} {c : UInt8} (h : 0 < l.length) : (l.drop (l.length - 1) = [c]) ↔ l.getLast? = some c := by
 rcases List.eq_nil_or_concat l with rfl | ⟨m, d, rfl⟩
 ·simp at h
 ·simp
theorem oG.pure : oG.Pure := by
 intro s0 s1 _ _ hp
 have hp : s1 = ⟨#[13]⟩ := hp
 subst hp
 have z1 : (((⟨#[13]⟩ : BA).size : Nat) : Int) = 1 := rfl
 have hl : (tx s0).length = s0.size := rfl
 rw [z1]
 refine ⟨fun h => ?_, fun h => ?_⟩
 ·rw [wrap64 (by omega) (by omega)]
  refine ⟨by omega, fun _ => ⟨by omega, fun _ => ?_⟩⟩
  show ((s0.extract ((s0.size : Int) - 1).toNat ((s0.size : Int)).toNat).toList == (⟨#[13]⟩ : BA).toList) = decide ((tx s0).getLast? = some 13)
  rw [sV, sV, yH, List.take_of_length_le (by rw [hl]; omega), show ((s0.size : Int) - 1).toNat = (tx s0).length - 1 by omega]
  rw [Bool.eq_iff_iff, beq_iff_eq, decide_eq_true_eq]
  exact bZ3 (by omega)
 ·show false = decide ((tx s0).getLast? = some 13)
  have : tx s0 = [] := List.eq_nil_of_length_eq_zero (by omega)
  rw [this]; rfl
theorem oI.pure : oI.Pure := by
 intro s0 s1 _ _ hp
 have hp : s1 = ⟨#[13]⟩ := hp
 subst hp
 have z1 : (((⟨#[13]⟩ : BA).size : Nat) : Int) = 1 := rfl
 have hl : (tx s0).length = s0.size := rfl
 refine ⟨rfl, fun b2 hb => ?_⟩
 have hb : b2 = decide ((tx s0).getLast? = some 13) := hb
 rw [z1]
 refine ⟨fun h => ?_, fun h => ?_⟩
 ·rw [h] at hb
  have hb := of_decide_eq_true hb.symm
  have hne : 0 < (tx s0).length := by
   cases hx : tx s0 with
   | nil => rw [hx] at hb; cases hb
   | cons => simp
  rw [wrap64 (by omega) (by omega)]
  refine ⟨by omega, fun _ => ⟨by omega, fun _ => ?_⟩⟩
  show s0.extract (0 : Int).toNat ((s0.size : Int) - 1).toNat = bx (Lx.trim (tx s0))
  rw [Lx.trim, if_pos hb, List.dropLast_eq_take, hl, show ((s0.size : Int) - 1).toNat = s0.size - 1 by omega]
  exact yP _ _
 ·rw [h] at hb
  show s0 = bx (Lx.trim (tx s0))
  rw [Lx.trim, if_neg (of_decide_eq_false hb.symm), bx_tx]
theorem qE.pure : qE.Pure := by
 intro s0 s1 _ _ hp
 exact ⟨hp, fun _ h _ => h⟩
theorem oD.pure : oD.Pure := by
 intro s0 s1 _ _ hp
 have hp : s1 = ⟨#[48, 120]⟩ := hp
 subst hp
 have z1 : (((⟨#[48, 120]⟩ : BA).size : Nat) : Int) = 2 := rfl
 have hl : (tx s0).length = s0.size := rfl
 rw [z1]
 refine ⟨fun h => ?_, fun h => ?_⟩
 ·show ((s0.extract 0 2).toList == (⟨#[48, 120]⟩ : BA).toList) = decide ((tx s0).take 2 = [48, 120])
  rw [sV, sV, yH, List.drop_zero, Bool.eq_iff_iff, beq_iff_eq, decide_eq_true_eq]; rfl
 ·show false = decide ((tx s0).take 2 = [48, 120])
  symm; rw [decide_eq_false_iff_not]
  intro he
  have := congrArg List.length he
  rw [List.length_take] at this
  simp at this; omega
theorem oC.pure : oC.Pure := by
 intro s0 s1 _ _ hp
 have hp : s1 = ⟨#[48, 120]⟩ := hp
 subst hp
 have z1 : (((⟨#[48, 120]⟩ : BA).size : Nat) : Int) = 2 := rfl
 have hl : (tx s0).length = s0.size := rfl
 refine ⟨rfl, fun b2 hb => ?_⟩
 have hb : b2 = decide ((tx s0).take 2 = [48, 120]) := hb
 rw [z1]
 refine ⟨fun h => ?_, fun h => ?_⟩
 ·rw [h] at hb
  have hb := of_decide_eq_false hb.symm
  exact ⟨(decide_eq_false hb).symm, (if_neg hb).symm⟩
 ·rw [h] at hb
  have hb := of_decide_eq_true hb.symm
  have h2 : 2 ≤ s0.size := by
   have := congrArg List.length hb
   rw [List.length_take] at this
   simp at this; omega
  refine ⟨by omega, fun _ => ⟨(decide_eq_true hb).symm, ?_⟩⟩
  rw [show (arg [D.S s0, D.S (⟨#[48, 120]⟩ : BA), D.S (s0.extract ((2 : Int)).toNat ((s0.size : Int)).toNat), D.B true] 0).toS = s0 from rfl, if_pos hb]
  refine sZ ?_
  show tx (s0.extract 2 s0.size) = (tx s0).drop 2
  rw [yH, List.take_of_length_le (by omega)]
theorem qB.pure : qB.Pure := by
 intro s0 s1 _ _ hp
 exact ⟨hp, fun _ _ h _ => h⟩
theorem oH.pure : oH.Pure := by unfold oH.Pure; intros; trivial
theorem qC.pure : qC.Pure := by
 intro s0 s1 _ _ _
 exact ⟨trivial, fun _ _ _ _ => trivial⟩
theorem lJ.pure : lJ.Pure := by
 intro i0 hi _
 have := aN1 hi
 refine ⟨fun h => ?_, fun h => ?_⟩
 ·show decide (i0 ≤ 122) = Lx.small (b8 i0)
  unfold Lx.small
  rw [decide_eq_true (by omega : 97 ≤ (b8 i0).toNat), Bool.true_and, decide_eq_decide]; omega
 ·show false = Lx.small (b8 i0)
  unfold Lx.small
  rw [decide_eq_false (by omega : ¬ 97 ≤ (b8 i0).toNat)]; rfl
theorem jS.pure : jS.Pure := by
 intro i0 hi _
 have := aN1 hi
 refine ⟨fun h => ?_, fun h => ?_⟩
 ·show decide (i0 ≤ 57) = Lx.digit (b8 i0)
  unfold Lx.digit
  rw [decide_eq_true (by omega : 48 ≤ (b8 i0).toNat), Bool.true_and, decide_eq_decide]; omega
 ·show false = Lx.digit (b8 i0)
  unfold Lx.digit
  rw [decide_eq_false (by omega : ¬ 48 ≤ (b8 i0).toNat)]; rfl
theorem aY4 {p : UInt8 → Bool} : ∀ {l : Tx} {n : Nat}, (∀ c ∈ l.take n, p c = true) → n ≤ l.length → (∀ c, l[n]? = some c → p c = false) → (l.takeWhile p).length = n
 | [], 0, _, _, _ => rfl
 | [], _ + 1, _, h, _ => absurd h (by simp)
 | c :: l, 0, _, _, h => by rw [List.takeWhile_cons_of_neg (by rw [h c rfl]; simp)]; rfl
 | c :: l, n + 1, h1, h2, h3 => by
  rw [List.takeWhile_cons_of_pos (h1 c (by simp)), List.length_cons, aY4 (l := l) (n := n) (fun d hd => h1 d (by simp [hd])) (by simpa using h2) (fun d hd => h3 d (by simpa using hd))]
theorem dY.pure : dY.Pure := by
 intro s0 _ hp
 have hp : s0.size ≤ 1000000 := hp
 have hl : (tx s0).length = s0.size := rfl
 refine ⟨⟨Int.le_refl _, Int.natCast_nonneg _, fun c hc => by cases hc⟩, fun i1 _ h => ?_⟩
 obtain ⟨a0, a1, a2⟩ : 0 ≤ i1 ∧ i1 ≤ s0.size ∧ ∀ c ∈ (tx s0).take i1.toNat, Lx.bP c = true := h
 refine ⟨fun h => ⟨a0, fun _ => ⟨trivial, fun b2 hb => ?_⟩⟩, fun h => ?_⟩
 ·have hb : b2 = Lx.small (b8 (byteAt s0 i1)) := hb
  have hi : i1.toNat < (tx s0).length := by omega
  have hc : (tx s0)[i1.toNat]? = some ((tx s0).getD i1.toNat 0) := by rw [List.getD, List.getElem?_eq_getElem hi]; rfl
  rw [yL] at hb
  have step : Lx.bP ((tx s0).getD i1.toNat 0) = true → dY.I0 [.S s0, .I (wrap .i64 (i1 + 1))] ∧ dY.I0M [.S s0, .I (wrap .i64 (i1 + 1))] < dY.I0M [.S s0, .I i1] := fun ha => by
   rw [wrap64 (by omega) (by omega)]
   refine ⟨⟨by show 0 ≤ i1 + 1; omega, by show i1 + 1 ≤ s0.size; omega, fun c hc' => ?_⟩, by show (s0.size - (i1 + 1)).toNat < (s0.size - i1).toNat; omega⟩
   have hc' : c ∈ (tx s0).take (i1 + 1).toNat := hc'
   rw [show (i1 + 1).toNat = i1.toNat + 1 by omega, List.take_add_one, hc, List.mem_append] at hc'
   rcases hc' with hc' | hc'
   ·exact a2 c hc'
   ·obtain rfl : c = (tx s0).getD i1.toNat 0 := by simpa using hc'
    exact ha
  refine ⟨fun h2 => step (by unfold Lx.bP; rw [← hb, h2]; rfl), fun h2 => ⟨trivial, fun b3 h3 => ⟨fun h4 => step ?_, fun h4 => ?_⟩⟩⟩
  ·have h3 : b3 = Lx.digit (b8 (byteAt s0 i1)) := h3
   rw [yL] at h3
   unfold Lx.bP; rw [← h3, h4, Bool.or_true]
  ·have h3 : b3 = Lx.digit (b8 (byteAt s0 i1)) := h3
   rw [yL] at h3
   show i1 = ((tx s0).takeWhile Lx.bP).length
   rw [aY4 a2 (by omega) fun c hc' => by
    rw [hc] at hc'; cases hc'
    unfold Lx.bP; rw [← h3, ← hb, h2, h4]; rfl]
   omega
 ·show i1 = ((tx s0).takeWhile Lx.bP).length
  rw [aY4 a2 (by omega) fun c hc => by rw [List.getElem?_eq_none (by omega)] at hc; cases hc]
  omega
theorem kG.pure : kG.Pure := by
 intro i0 i1 hi h1 _
 have hn := aN1 hi
 have hu8 : ∀ {x : Int}, 0 ≤ x → x < 256 → wrap .u8 x = x := fun h k => by rw [IntKind.wrap_u8]; omega
 have hu64 : ∀ {x : Int}, 0 ≤ x → x < 18446744073709551616 → wrap .u64 x = x := fun h k => by rw [IntKind.wrap_u64]; omega
 refine ⟨trivial, fun b2 hb => ?_⟩
 have hb : b2 = Lx.digit (b8 i0) := hb
 have key : ∀ n : Int, n = (Lx.val (b8 i0) : Nat) → kG.sig.post [.I i0, .I i1, .I n, .B (decide (n < i1))] := fun n h => ⟨h, by
  show decide (n < i1) = decide (((Lx.val (b8 i0) : Nat) : Int) < i1)
  rw [h]⟩
 refine ⟨fun h => key _ ?_, fun h => ⟨fun h2 => ⟨fun h3 => key _ ?_, fun h3 => key _ ?_⟩, fun h2 => key _ ?_⟩⟩
 ·rw [h] at hb
  have hd : 48 ≤ (b8 i0).toNat ∧ (b8 i0).toNat ≤ 57 := by simpa [Lx.digit] using hb.symm
  rw [hu8 (by omega) (by omega), hu64 (by omega) (by omega), Lx.val, if_pos hb.symm]; omega
 ·rw [h] at hb
  rw [hu8 (by omega) (by omega), hu64 (x := i0 - 97) (by omega) (by omega), hu64 (by omega) (by omega), Lx.val, if_neg (by rw [← hb]; simp), if_pos (by omega)]; omega
 ·rw [h] at hb
  rw [Lx.val, if_neg (by rw [← hb]; simp), if_neg (by omega)]; rfl
 ·rw [h] at hb
  rw [Lx.val, if_neg (by rw [← hb]; simp), if_neg (by omega)]; rfl
end Go.Vc
namespace Go.Vc
open Lx
theorem xG (s : Tx) : num s = if (dH s).2 = [] then none else iJ (dH s).1 0 (dH s).2 := by
 unfold dH
 match s with
 | [] => simp [num]
 | [a] => simp [num]
 | a :: b :: r =>
  by_cases h : a = 48 ∧ b = 120
  ·obtain ⟨rfl, rfl⟩ := h
   simp [num]
  ·have h1 : (a :: b :: r).take 2 ≠ [48, 120] := fun e => h (by simpa using e)
   rw [if_neg h1]
   unfold num
   split
   ·rename_i heq; exact absurd (by simpa using heq) (fun (hh : a = 48 ∧ b = 120 ∧ _) => h ⟨hh.1, hh.2.1⟩)
   ·rfl
theorem aO0 (s : BA) (i : Int) : (bytesOf s).getD i.toNat 0 = (((tx s).getD i.toNat 0).toNat : Int) := by
 rw [← bA6]; rfl
theorem drop_at {l : Tx} {i : Nat} (h : i < l.length) : l.drop i = l.getD i 0 :: l.drop (i + 1) := by
 rw [List.drop_eq_getElem_cons h, List.getD, List.getElem?_eq_getElem h]; rfl
theorem cJ9 (c : UInt8) : val c < 100 := by
 unfold val; split
 ·have := c.toNat_lt; rename_i h; simp [digit] at h; omega
 ·split <;> omega
theorem aC1 {x : Int} (h : 0 ≤ x) (k : x < 18446744073709551616) : wrap .u64 x = x := by rw [IntKind.wrap_u64]; omega
theorem bA0 {c : UInt8} : b8 (c.toNat : Int) = c := by unfold b8; rw [Int.toNat_natCast]; simp
theorem cD1 {n v base : Int} (hb : base = 10 ∨ base = 16) (hn : 0 ≤ n) (hv : 0 ≤ v ∧ v < 100) : wrap .u64 (Int.tdiv (wrap .u64 (18446744073709551615 - v)) base) < n ↔ ¬ n * base + v < 18446744073709551616 := by
 rw [aC1 (x := 18446744073709551615 - v) (by omega) (by omega), Int.tdiv_eq_ediv_of_nonneg (by omega)]
 rcases hb with rfl | rfl
 ·rw [aC1 (by omega) (by omega)]; omega
 ·rw [aC1 (by omega) (by omega)]; omega
theorem bJ2 {base : Nat} (hb : base = 10 ∨ base = 16) {ds : Tx} {n i v : Int} {ok : Bool} {a : Option Nat} (h0 : 0 ≤ i) (h1 : i < ds.length) (hn : 0 ≤ n) (hI : a = iJ base n.toNat (ds.drop i.toNat))
  (hv : v = (val (ds.getD i.toNat 0) : Nat) ∧ ok = decide (((val (ds.getD i.toNat 0) : Nat) : Int) < base)) :
  (ok = false → a = none) ∧ (ok = true → (wrap .u64 (Int.tdiv (wrap .u64 (18446744073709551615 - v)) base) < n → a = none) ∧
   (n ≤ wrap .u64 (Int.tdiv (wrap .u64 (18446744073709551615 - v)) base) → wrap .u64 (wrap .u64 (n * base) + v) = n * base + v ∧ n * base + v < 18446744073709551616 ∧ a = iJ base (n * base + v).toNat (ds.drop (i + 1).toNat))) := by
 have hl := cJ9 (ds.getD i.toNat 0)
 have hb' : ((base : Nat) : Int) = 10 ∨ ((base : Nat) : Int) = 16 := by omega
 rw [drop_at (by omega : i.toNat < ds.length), iJ] at hI
 have hc := cD1 hb' hn (v := v) (by omega)
 have hnat : (n.toNat * base + val (ds.getD i.toNat 0) : Nat) = (n * base + v).toNat := by
  have : ((n.toNat * base + val (ds.getD i.toNat 0) : Nat) : Int) = n * base + v := by
   rw [Int.natCast_add, Int.natCast_mul, Int.toNat_of_nonneg hn, hv.1]
  omega
 have hpos : 0 ≤ n * base := Int.mul_nonneg hn (by omega)
 refine ⟨fun h => ?_, fun h => ⟨fun h2 => ?_, fun h2 => ?_⟩⟩
 ·rw [h] at hv
  have := of_decide_eq_false hv.2.symm
  rw [hI, if_neg (fun hh => by omega)]
 ·rw [hI, if_neg (fun hh => by rw [hnat] at hh; have := hc.1 h2; omega)]
 ·have h3 : n * base + v < 18446744073709551616 := Classical.byContradiction fun hh => by have := hc.2 hh; omega
  rw [h] at hv
  have h4 := of_decide_eq_true hv.2.symm
  refine ⟨by rw [aC1 hpos (by omega), aC1 (by omega) h3], h3, ?_⟩
  rw [hI, if_pos ⟨by omega, by rw [hnat]; omega⟩, hnat, show (i + 1).toNat = i.toNat + 1 by omega]
theorem dO.pure : dO.Pure := by
 intro s0 _ hp
 have hp : s0.size ≤ 1000000 := hp
 have hl : (tx s0).length = s0.size := rfl
 refine ⟨rfl, fun s1 b2 hcut _ => ?_⟩
 obtain ⟨c1, c2⟩ : b2 = decide ((tx s0).take 2 = [48, 120]) ∧ s1 = if (tx s0).take 2 = [48, 120] then bx ((tx s0).drop 2) else s0 := hcut
 have hno : ∀ n b, isNum (num (tx s0)) n b → dO.sig.post [.S s0, .I n, .B b] := fun n b h => h
 have none_ : num (tx s0) = none → dO.sig.post [.S s0, .I 0, .B false] := fun h => hno _ _ (by rw [h]; rfl)
 refine ⟨fun h => ?_, fun h => ?_⟩
 ·rw [h] at c1
  have c1 := of_decide_eq_true c1.symm
  rw [if_pos c1] at c2
  have e : dH (tx s0) = (16, (tx s0).drop 2) := if_pos c1
  have hlen : (bytesOf s1).length = ((tx s0).drop 2).length := by rw [bytesOf_length', c2]; rfl
  have hs1 : tx s1 = (tx s0).drop 2 := by rw [c2]; rfl
  intro v3
  refine ⟨⟨Int.le_refl _, Int.natCast_nonneg _, Int.le_refl _, by show (0 : Int) < 18446744073709551616; omega, rfl⟩, fun i4 i5 r4 r5 hI => ?_⟩
  have hI : 0 ≤ i5 ∧ i5 ≤ (dH (tx s0)).2.length ∧ 0 ≤ i4 ∧ i4 < 18446744073709551616 ∧ iJ (dH (tx s0)).1 0 (dH (tx s0)).2 = iJ (dH (tx s0)).1 i4.toNat ((dH (tx s0)).2.drop i5.toNat) := hI
  rw [e] at hI
  dsimp only at hI
  obtain ⟨a0, a1, a2, a3, a4⟩ := hI
  have a1 : i5 ≤ ((tx s0).drop 2).length := a1
  have hdl : ((tx s0).drop 2).length ≤ s0.size := by rw [List.length_drop]; omega
  refine ⟨fun h1 => ⟨a0, fun _ => ⟨trivial, fun i6 b7 hv _ => ?_⟩⟩, fun h1 => ?_⟩
  ·have hv : i6 = (val (b8 ((bytesOf s1).getD i5.toNat 0)) : Nat) ∧ b7 = decide (((val (b8 ((bytesOf s1).getD i5.toNat 0)) : Nat) : Int) < 16) := hv
   rw [aO0, bA0, hs1] at hv
   have h1' : i5 < (((tx s0).drop 2).length : Nat) := by rw [← hlen]; exact h1
   have hne : (tx s0).drop 2 ≠ [] := fun hh => by rw [hh] at h1'; exact absurd h1' (by simp; omega)
   obtain ⟨g1, g2⟩ := bJ2 (base := 16) (.inr rfl) a0 (by omega) a2 a4 hv
   refine ⟨fun h => none_ (by rw [xG, e, if_neg hne]; exact g1 h), fun h => ⟨fun h' => none_ (by rw [xG, e, if_neg hne]; exact (g2 h).1 h'), fun h' => ?_⟩⟩
   obtain ⟨k1, k2, k3⟩ := (g2 h).2 h'
   have k1 : wrap .u64 (wrap .u64 (i4 * 16) + i6) = i4 * 16 + i6 := k1
   rw [k1, wrap64 (by omega) (by omega)]
   have hi6 : 0 ≤ i6 := by rw [hv.1]; exact Int.natCast_nonneg _
   refine ⟨⟨by show 0 ≤ i5 + 1; omega, ?_, by show 0 ≤ i4 * 16 + i6; omega, k2, ?_⟩, by show (s0.size - (i5 + 1)).toNat < (s0.size - i5).toNat; omega⟩
   ·show i5 + 1 ≤ (dH (tx s0)).2.length
    rw [e]; show i5 + 1 ≤ ((tx s0).drop 2).length; omega
   ·show iJ (dH (tx s0)).1 0 (dH (tx s0)).2 = iJ (dH (tx s0)).1 (i4 * 16 + i6).toNat ((dH (tx s0)).2.drop (i5 + 1).toNat)
    rw [e]; exact k3
  ·refine hno _ _ ?_
   rw [xG, e]
   dsimp only
   have hd : ((tx s0).drop 2).drop i5.toNat = [] := List.drop_eq_nil_of_le (by rw [hlen] at h1; omega)
   rw [hd, iJ] at a4
   have hb : (!(s1.toList == (⟨#[]⟩ : BA).toList)) = !decide ((tx s0).drop 2 = []) := by
    rw [sV, sV, hs1]
    show (!((tx s0).drop 2 == ([] : Tx))) = _
    cases (tx s0).drop 2 <;> rfl
   rw [hb]
   by_cases hh : (tx s0).drop 2 = []
   ·rw [if_pos hh, hh]; rfl
   ·rw [if_neg hh, a4, decide_eq_false hh]
    exact ⟨by show i4 = (i4.toNat : Int); omega, rfl⟩
 ·rw [h] at c1
  have c1 := of_decide_eq_false c1.symm
  have e : dH (tx s0) = (10, tx s0) := if_neg c1
  have hlen : (bytesOf s0).length = (tx s0).length := bytesOf_length' s0
  intro v3
  refine ⟨⟨Int.le_refl _, Int.natCast_nonneg _, Int.le_refl _, by show (0 : Int) < 18446744073709551616; omega, rfl⟩, fun i4 i5 r4 r5 hI => ?_⟩
  have hI : 0 ≤ i5 ∧ i5 ≤ (dH (tx s0)).2.length ∧ 0 ≤ i4 ∧ i4 < 18446744073709551616 ∧ iJ (dH (tx s0)).1 0 (dH (tx s0)).2 = iJ (dH (tx s0)).1 i4.toNat ((dH (tx s0)).2.drop i5.toNat) := hI
  rw [e] at hI
  dsimp only at hI
  obtain ⟨a0, a1, a2, a3, a4⟩ := hI
  have a1 : i5 ≤ (tx s0).length := a1
  refine ⟨fun h1 => ⟨a0, fun _ => ⟨trivial, fun i6 b7 hv _ => ?_⟩⟩, fun h1 => ?_⟩
  ·have hv : i6 = (val (b8 ((bytesOf s0).getD i5.toNat 0)) : Nat) ∧ b7 = decide (((val (b8 ((bytesOf s0).getD i5.toNat 0)) : Nat) : Int) < 10) := hv
   rw [aO0, bA0] at hv
   have h1' : i5 < ((tx s0).length : Nat) := by rw [← hlen]; exact h1
   have hne : tx s0 ≠ [] := fun hh => by rw [hh] at h1'; exact absurd h1' (by simp; omega)
   obtain ⟨g1, g2⟩ := bJ2 (base := 10) (.inl rfl) a0 (by omega) a2 a4 hv
   refine ⟨fun h => none_ (by rw [xG, e, if_neg hne]; exact g1 h), fun h => ⟨fun h' => none_ (by rw [xG, e, if_neg hne]; exact (g2 h).1 h'), fun h' => ?_⟩⟩
   obtain ⟨k1, k2, k3⟩ := (g2 h).2 h'
   have k1 : wrap .u64 (wrap .u64 (i4 * 10) + i6) = i4 * 10 + i6 := k1
   rw [k1, wrap64 (by omega) (by omega)]
   have hi6 : 0 ≤ i6 := by rw [hv.1]; exact Int.natCast_nonneg _
   refine ⟨⟨by show 0 ≤ i5 + 1; omega, ?_, by show 0 ≤ i4 * 10 + i6; omega, k2, ?_⟩, by show (s0.size - (i5 + 1)).toNat < (s0.size - i5).toNat; omega⟩
   ·show i5 + 1 ≤ (dH (tx s0)).2.length
    rw [e]; show i5 + 1 ≤ (tx s0).length; omega
   ·show iJ (dH (tx s0)).1 0 (dH (tx s0)).2 = iJ (dH (tx s0)).1 (i4 * 10 + i6).toNat ((dH (tx s0)).2.drop (i5 + 1).toNat)
    rw [e]; exact k3
  ·refine hno _ _ ?_
   rw [xG, e]
   dsimp only
   have hd : (tx s0).drop i5.toNat = [] := List.drop_eq_nil_of_le (by rw [hlen] at h1; omega)
   rw [hd, iJ] at a4
   have hb : (!(s0.toList == (⟨#[]⟩ : BA).toList)) = !decide (tx s0 = []) := by
    rw [sV, sV]
    show (!(tx s0 == ([] : Tx))) = _
    cases tx s0 <;> rfl
   rw [hb]
   by_cases hh : tx s0 = []
   ·rw [if_pos hh, hh]; rfl
   ·rw [if_neg hh, a4, decide_eq_false hh]
    exact ⟨by show i4 = (i4.toNat : Int); omega, rfl⟩
end Go.Vc
namespace Go.Vc
open Lx
theorem cI5 {p : UInt8 → Bool} (l : Tx) : l.take (l.takeWhile p).length = l.takeWhile p ∧ l.drop (l.takeWhile p).length = l.dropWhile p := by
 induction l with
 | nil => exact ⟨rfl, rfl⟩
 | cons c l ih =>
  by_cases h : p c = true
  ·rw [List.takeWhile_cons_of_pos h, List.dropWhile_cons_of_pos h, List.length_cons, List.take_succ_cons, List.drop_succ_cons, ih.1, ih.2]; exact ⟨rfl, rfl⟩
  ·rw [List.takeWhile_cons_of_neg h, List.dropWhile_cons_of_neg h]; exact ⟨rfl, rfl⟩
theorem jT.pure : jT.Pure := by
 intro s0 _ hp n1
 obtain ⟨p0, p1⟩ : 0 < s0.size ∧ s0.size ≤ 1000000 := hp
 have hl : (tx s0).length = s0.size := rfl
 obtain ⟨c, r, hs⟩ : ∃ c r, tx s0 = c :: r := by
  cases h : tx s0 with
  | nil => rw [h] at hl; simp at hl; omega
  | cons c r => exact ⟨c, r, rfl⟩
 have h0 : b8 (byteAt s0 0) = c := by rw [yL, hs]; rfl
 have hb : byteAt s0 0 = (c.toNat : Int) := by rw [bA6, aO0 s0 0, hs]; rfl
 have none_ : next (tx s0) = none → ∀ k t n i, jT.sig.post [.S s0, .I k, .S t, .I n, .I i, .B false] := fun h k t n i => by
  show match next (tx s0) with | none => _ | some (t, r) => _
  rw [h]; rfl
 have some_ : ∀ (t : Tok) (i : Int), next (tx s0) = some (t, (tx s0).drop i.toNat) → 0 ≤ i → i ≤ s0.size → jT.sig.post [.S s0, .I t.kind, .S (bx t.text), .I t.n, .I i, .B true] := fun t i h h1 h2 => by
  show match next (tx s0) with | none => _ | some (t, r) => _
  rw [h]; exact ⟨rfl, rfl, rfl, rfl, h1, h2, rfl⟩
 refine ⟨by omega, fun _ => ⟨trivial, fun b2 hb2 => ?_⟩⟩
 have hb2 : b2 = small (b8 (byteAt s0 0)) := hb2
 rw [h0] at hb2
 obtain ⟨w1, w2⟩ := cI5 (p := bP) (tx s0)
 have wl : ((tx s0).takeWhile bP).length ≤ s0.size := by rw [← hl]; exact (List.takeWhile_sublist _).length_le
 refine ⟨fun h => ⟨p1, fun i3 h3 _ => ?_⟩, fun h => ⟨trivial, fun b3 hb3 => ?_⟩⟩
 ·have h3 : i3 = ((tx s0).takeWhile bP).length := h3
  refine ⟨by omega, fun _ => ⟨by omega, fun _ => ?_⟩⟩
  have he : s0.extract (0 : Int).toNat i3.toNat = bx ((tx s0).takeWhile bP) := by
   rw [h3, Int.toNat_natCast]
   exact (yP s0 _).trans (by rw [w1])
  rw [he]
  refine some_ ⟨1, (tx s0).takeWhile bP, 0⟩ i3 ?_ (by omega) (by omega)
  rw [h3, Int.toNat_natCast, w2, hs]
  simp only [next]
  rw [if_pos (by rw [← hb2]; exact h)]
 have hb3 : b3 = digit (b8 (byteAt s0 0)) := hb3
 rw [h0] at hb3
 refine ⟨fun h' => ⟨p1, fun i4 h4 _ => ?_⟩, fun h' => ?_⟩
 ·have h4 : i4 = ((tx s0).takeWhile bP).length := h4
  have he : s0.extract (0 : Int).toNat i4.toNat = bx ((tx s0).takeWhile bP) := by
   rw [h4, Int.toNat_natCast]
   exact (yP s0 _).trans (by rw [w1])
  rw [he]
  refine ⟨by omega, fun _ => ⟨by omega, fun _ => ⟨?_, fun i5 b6 h5 _ => ?_⟩⟩⟩
  ·show (bx ((tx s0).takeWhile bP)).size ≤ 1000000
   have : (bx ((tx s0).takeWhile bP)).size = ((tx s0).takeWhile bP).length := rfl
   omega
  ·have h5 : isNum (num ((tx s0).takeWhile bP)) i5 b6 := h5
   have hn : next (tx s0) = (num ((tx s0).takeWhile bP)).map fun n => (⟨2, (tx s0).takeWhile bP, n⟩, (tx s0).dropWhile bP) := by
    rw [hs]
    simp only [next]
    rw [if_neg (by rw [← hb2, h]; simp), if_pos (by rw [← hb3]; exact h')]
   cases hx : num ((tx s0).takeWhile bP) with
   | none =>
    rw [hx] at h5 hn
    have h5 : b6 = false := h5
    rw [h5]
    exact none_ hn _ _ _ _
   | some n =>
    rw [hx] at h5 hn
    obtain ⟨rfl, rfl⟩ := h5
    exact some_ ⟨2, (tx s0).takeWhile bP, n⟩ i4 (by rw [hn, h4, Int.toNat_natCast, w2]; rfl) (by omega) (by omega)
 ·have hsgn : (c = 61 ∨ c = 58) → jT.sig.post [.S s0, .I 3, .S (s0.extract (0 : Int).toNat (1 : Int).toNat), .I 0, .I 1, .B true] := fun hc => by
   have he : s0.extract (0 : Int).toNat (1 : Int).toNat = bx [c] := (yP s0 1).trans (by rw [hs]; rfl)
   rw [he]
   refine some_ ⟨3, [c], 0⟩ 1 ?_ (by omega) (by omega)
   rw [hs]
   simp only [next]
   rw [if_neg (by rw [← hb2, h]; simp), if_neg (by rw [← hb3, h']; simp), if_pos hc]; rfl
  have hcn : ∀ k : Nat, k < 256 → (byteAt s0 0 = (k : Int) ↔ c = UInt8.ofNat k) := fun k hk => by
   rw [hb, ← UInt8.toNat_inj]
   have : (UInt8.ofNat k).toNat = k := by simp; omega
   omega
  refine ⟨fun e => ⟨by omega, fun _ => hsgn (.inl ((hcn 61 (by omega)).1 e))⟩, fun e => ⟨fun e' => ⟨by omega, fun _ => hsgn (.inr ((hcn 58 (by omega)).1 e'))⟩, fun e' => none_ ?_ _ _ _ _⟩⟩
  rw [hs]
  simp only [next]
  rw [if_neg (by rw [← hb2, h]; simp), if_neg (by rw [← hb3, h']; simp), if_neg (fun hh => hh.elim (fun hh => e ((hcn 61 (by omega)).2 hh)) (fun hh => e' ((hcn 58 (by omega)).2 hh)))]
theorem aP0 (l : Tx) : (l.dropWhile Lx.blank).dropWhile Lx.blank = l.dropWhile Lx.blank := by
 induction l with
 | nil => rfl
 | cons c l ih =>
  by_cases h : Lx.blank c = true
  ·rw [List.dropWhile_cons_of_pos h, ih]
  ·rw [List.dropWhile_cons_of_neg h, List.dropWhile_cons_of_neg h]
theorem cJ2 (f : Nat) (l : Tx) : eP f (l.dropWhile Lx.blank) = eP f l := by
 cases f with
 | zero => rfl
 | succ f => simp only [eP, aP0]
theorem bP1 {l : Tx} {f g : Nat} (hf : l.length < f) (hg : (l.dropWhile Lx.blank).length < g) : eP f l = eP g (l.dropWhile Lx.blank) := by
 rw [← cJ2 f l]
 exact bP3 _ _ _ (Nat.lt_of_le_of_lt (List.dropWhile_sublist _).length_le hf) hg
theorem iR.pure : iR.Pure := by
 intro s0 _ hp v1
 have hp : s0.size ≤ 1000000 := hp
 have hl : (tx s0).length = s0.size := rfl
 refine ⟨rfl, fun s2 s3 b4 hc _ _ v5 => ⟨rfl, fun s6 h6 _ => ?_⟩⟩
 have hc : s2 = bx (Lx.bare (tx s0)) := hc
 have h6 : s6 = bx ((tx s2).dropWhile Lx.blank) := h6
 have e6 : tx s6 = (Lx.bare (tx s0)).dropWhile Lx.blank := by rw [h6, hc]; rfl
 have hbl : (Lx.bare (tx s0)).length ≤ s0.size := by rw [← hl]; exact (List.takeWhile_sublist _).length_le
 have hdl : ((Lx.bare (tx s0)).dropWhile Lx.blank).length ≤ (Lx.bare (tx s0)).length := (List.dropWhile_sublist _).length_le
 have z6 : s6.size = ((Lx.bare (tx s0)).dropWhile Lx.blank).length := by rw [← e6]; rfl
 refine ⟨⟨[], rfl, ?_, by show ((0 : Nat) : Int).toNat + s6.size ≤ s0.size; simp; omega, ?_⟩, fun s7 v8 l9 _ _ h => ?_⟩
 ·show (tx s6).dropWhile Lx.blank = tx s6
  rw [e6, aP0]
 ·show toks (tx s0) = (eP (s6.size + 1) (tx s6)).map ([] ++ ·)
  rw [e6, z6, toks, bP1 (g := ((Lx.bare (tx s0)).dropWhile Lx.blank).length + 1) (by omega) (by omega)]
  cases eP _ ((Lx.bare (tx s0)).dropWhile Lx.blank) <;> simp
 obtain ⟨T, a1, a2, a3, a4⟩ : ∃ T : List Tok, l9 = T.map aV ∧ (tx s7).dropWhile Lx.blank = tx s7 ∧ l9.length + s7.size ≤ s0.size ∧ toks (tx s0) = (eP (s7.size + 1) (tx s7)).map (T ++ ·) := h
 have hl7 : (tx s7).length = s7.size := rfl
 refine ⟨fun h => ?_, fun h => ?_⟩
 ·obtain ⟨c, r, hs⟩ : ∃ c r, tx s7 = c :: r := by
   cases hx : tx s7 with
   | nil => exact absurd (sZ (show tx s7 = tx ⟨#[]⟩ from hx)) h
   | cons c r => exact ⟨c, r, rfl⟩
  have hlen : s7.size = r.length + 1 := by rw [← hl7, hs]; rfl
  refine ⟨⟨by show 0 < s7.size; omega, by show s7.size ≤ _; omega⟩, fun i10 s11 i12 i13 b14 hn _ _ _ _ n15 => ?_⟩
  have hn : match next (tx s7) with | none => b14 = false | some (t, r) => b14 = true ∧ i10 = t.kind ∧ s11 = bx t.text ∧ i12 = t.n ∧ 0 ≤ i13 ∧ i13 ≤ s7.size ∧ r = (tx s7).drop i13.toNat := hn
  have unf : eP (s7.size + 1) (tx s7) = match next (tx s7) with | none => none | some (t, s') => (eP s7.size s').map (t :: ·) := by
   simp only [eP]
   rw [a2, hs]
   rfl
  refine ⟨fun hb v16 => ?_, fun hb v16 => ?_⟩
  ·show aG1 (toks (tx s0)) [] false
   have : next (tx s7) = none := by
    cases hx : next (tx s7) with
    | none => rfl
    | some y => rw [hx] at hn; rw [hb] at hn; exact absurd hn.1 (by simp)
   rw [a4, unf, this]; rfl
  ·cases hx : next (tx s7) with
   | none => rw [hx] at hn; have hn : b14 = false := hn; rw [hn] at hb; cases hb
   | some y =>
    obtain ⟨t, r'⟩ := y
    rw [hx] at hn unf
    obtain ⟨_, k1, k2, k3, k4, k5, k6⟩ := hn
    have unf : eP (s7.size + 1) (tx s7) = (eP s7.size r').map (t :: ·) := unf
    have hrow : D.L [.I i10, .S s11, .I i12] = aV t := by rw [k1, k2, k3]; rfl
    have hless := aU8 hx
    rw [k6, List.length_drop, hl7] at hless
    refine ⟨by simp only [List.length_append, List.length_cons, List.length_nil]; omega, fun _ v17 => ⟨by omega, fun _ => ⟨k4, fun _ => ⟨rfl, fun s18 h18 _ => ?_⟩⟩⟩⟩
    have h18 : s18 = bx ((tx (s7.extract i13.toNat ((s7.size : Int)).toNat)).dropWhile Lx.blank) := h18
    have e18 : tx s18 = r'.dropWhile Lx.blank := by
     rw [h18, k6, yH, List.take_of_length_le (by rw [hl7]; simp)]; rfl
    have z18 : s18.size = (r'.dropWhile Lx.blank).length := by rw [← e18]; rfl
    have hr' : r'.length < s7.size := by rw [k6, List.length_drop, hl7]; omega
    have hdr : (r'.dropWhile Lx.blank).length ≤ r'.length := (List.dropWhile_sublist _).length_le
    refine ⟨⟨T ++ [t], ?_, ?_, ?_, ?_⟩, by show s18.size < s7.size; omega⟩
    ·show l9 ++ [D.L [.I i10, .S s11, .I i12]] = (T ++ [t]).map aV
     rw [hrow, a1, List.map_append]; rfl
    ·show (tx s18).dropWhile Lx.blank = tx s18
     rw [e18, aP0]
    ·show (l9 ++ [D.L [.I i10, .S s11, .I i12]]).length + s18.size ≤ s0.size
     rw [List.length_append]; simp only [List.length_cons, List.length_nil]; omega
    ·show toks (tx s0) = (eP (s18.size + 1) (tx s18)).map ((T ++ [t]) ++ ·)
     rw [a4, unf, e18, z18, ← bP1 (f := s7.size) hr' (by omega)]
     cases eP s7.size r' <;> simp
 ·show aG1 (toks (tx s0)) l9 true
  have : tx s7 = [] := congrArg tx h
  rw [a4, this]
  exact ⟨by show l9 = (T ++ []).map aV; rw [List.append_nil]; exact a1, rfl⟩
theorem aT2 : ∀ (a b : List Tx) (n : Nat), gU n (a ++ b) = match gU n a with
  | .error k => .error k
  | .ok r => match gU (n + a.length) b with
   | .error k => .error k
   | .ok r' => .ok (r ++ r')
 | [], b, n => by
  simp only [List.nil_append, gU, List.length_nil, Nat.add_zero]
  cases gU n b <;> rfl
 | l :: a, b, n => by
  simp only [List.cons_append, gU, List.length_cons]
  cases toks (trim l) with
  | none => rfl
  | some t =>
   dsimp only
   rw [aT2 a b (n + 1), show n + 1 + a.length = n + (a.length + 1) by omega]
   cases gU (n + 1) a with
   | error k => rfl
   | ok r =>
    dsimp only
    cases gU (n + (a.length + 1)) b with
    | error k => rfl
    | ok r' => dsimp only; split <;> rfl
theorem bH7 : ∀ {L : LD} {M : List (Nat × List Tok)} {L' : LD} {M' : List (Nat × List Tok)}, rU L M → rU L' M' → rU (L ++ L') (M ++ M')
 | [], [], _, _, _, h => h
 | _ :: _, _ :: _, _, _, h, h' => ⟨h.1, bH7 h.2 h'⟩
 | [], _ :: _, _, _, h, _ => h.elim
 | _ :: _, [], _, _, h, _ => h.elim
theorem bZ9 (l : Tx) : (aS l).length ≤ l.length + 1 := by
 induction l with
 | nil => simp [aS]
 | cons c l ih =>
  simp only [aS]
  split
  ·simp only [List.length_cons]; omega
  ·split
   ·rename_i he; rw [he] at ih; simp only [List.length_cons] at ih ⊢; omega
   ·simp
theorem bZ8 {s : BA} {i : Nat} (h : i < (dG s).length) : ∃ x, (aS (tx s))[i]? = some x ∧ ((dG s).getD i default).toS = bx x ∧ x.length ≤ s.size := by
 have hl : (dG s).length = (aS (tx s)).length := by rw [dG, List.length_map]; rfl
 refine ⟨(aS (tx s))[i], List.getElem?_eq_getElem (by omega), ?_, ?_⟩
 ·rw [dG, List.getD, List.getElem?_map]
  show ((Option.map (fun l : Tx => D.S ⟨l.toArray⟩) (aS (tx s))[i]?).getD default).toS = _
  rw [List.getElem?_eq_getElem (by omega)]; rfl
 ·exact zS (List.getElem_mem _)
theorem cJ3 (l : Tx) : (trim l).length ≤ l.length := by unfold trim; split <;> simp
theorem fU.pure : fU.Pure := by
 intro s0 _ _ v1 n2 n3 n4
 have hl : (tx s0).length = s0.size := rfl
 refine ⟨fun h v5 => ?_, fun h v5 n6 n7 => ⟨trivial, fun n8 n9 n10 _ => ⟨rfl, fun _ => ?_⟩⟩⟩
 ·show uK (tx s0) [] 0 17
  unfold uK lines
  rw [if_pos (by omega)]
  exact ⟨trivial, rfl, rfl⟩
 have hll : (dG s0).length = (aS (tx s0)).length := by rw [dG, List.length_map]; rfl
 have hlb := bZ9 (tx s0)
 have hlines : lines (tx s0) = match gU 1 (aS (tx s0)) with | .error k => ([], k, 10) | .ok r => (r, 0, 0) := if_neg (by omega)
 refine ⟨by omega, fun _ => ⟨⟨Int.le_refl _, Int.natCast_nonneg _, rfl, Int.le_refl _, [], rfl, trivial⟩, fun i11 v12 l13 i14 _ _ hI => ?_⟩⟩
 obtain ⟨a0, a1, a2, a3, M, a4, a5⟩ : 0 ≤ i14 ∧ i14 ≤ (dG s0).length ∧ i11 = i14 ∧ (l13.length : Int) ≤ i14 ∧ ∃ M, gU 1 ((aS (tx s0)).take i14.toNat) = .ok M ∧ rU l13 M := hI
 refine ⟨fun hi => ?_, fun hi => ?_⟩
 ·obtain ⟨x, x1, x2, x3⟩ := bZ8 (s := s0) (i := i14.toNat) (by omega)
  rw [x2]
  refine ⟨rfl, fun s15 h15 _ => ?_⟩
  have h15 : s15 = bx (trim x) := h15
  have htk : (aS (tx s0)).take (i14 + 1).toNat = (aS (tx s0)).take i14.toNat ++ [x] := by
   rw [show (i14 + 1).toNat = i14.toNat + 1 by omega, List.take_add_one, x1]; rfl
  have hlt : ((aS (tx s0)).take i14.toNat).length = i14.toNat := by rw [List.length_take]; omega
  have happ := aT2 ((aS (tx s0)).take i14.toNat) [x] 1
  rw [a4, hlt] at happ
  refine ⟨?_, fun v16 l17 b18 ht _ => ?_⟩
  ·show s15.size ≤ 1000000
   have : s15.size = (trim x).length := by rw [h15]; rfl
   have := cJ3 x
   omega
  have ht : aG1 (toks (tx s15)) l17 b18 := ht
  rw [h15, tx_bx] at ht
  refine ⟨fun hb => ?_, fun hb => ?_⟩
  ·have hn : toks (trim x) = none := by
    cases hx : toks (trim x) with
    | none => rfl
    | some T => rw [hx, hb] at ht; exact absurd ht.2 (by simp)
   have herr : gU 1 (aS (tx s0)) = .error (i14.toNat + 1) := by
    have hd : aS (tx s0) = (aS (tx s0)).take i14.toNat ++ x :: (aS (tx s0)).drop (i14.toNat + 1) := by
     have h1 := (List.getElem?_eq_some_iff.1 x1)
     obtain ⟨h1, h2⟩ := h1
     conv => lhs; rw [← List.take_append_drop i14.toNat (aS (tx s0)), List.drop_eq_getElem_cons h1, h2]
    rw [hd, aT2, a4]
    simp only [gU, hn, hlt]
    rw [Nat.add_comm]
   have fin : ∀ v19, fU.sig.post [.S s0, .V v19, .L [], .I (wrap .i64 (i11 + 1)), .I 10] := fun v19 => by
    show uK (tx s0) [] (wrap .i64 (i11 + 1)) 10
    unfold uK
    rw [hlines, herr, wrap64 (by omega) (by omega)]
    exact ⟨trivial, by show i11 + 1 = ((i14.toNat + 1 : Nat) : Int); omega, rfl⟩
   exact ⟨fin, fin⟩
  ·obtain ⟨T, hT⟩ : ∃ T, toks (trim x) = some T := by
    cases hx : toks (trim x) with
    | none => rw [hx] at ht; have ht : b18 = false := ht; rw [ht] at hb; cases hb
    | some T => exact ⟨T, rfl⟩
   rw [hT] at ht
   obtain ⟨t1, _⟩ := ht
   rw [wrap64 (n := i11 + 1) (by omega) (by omega), wrap64 (n := i14 + 1) (by omega) (by omega)]
   have hM : gU 1 ((aS (tx s0)).take (i14 + 1).toNat) = .ok (M ++ if T = [] then [] else [(1 + i14.toNat, T)]) := by
    rw [htk, happ]
    simp only [gU, hT]
   have hTe : T = [] ↔ l17.length = 0 := by rw [t1, List.length_map]; exact List.length_eq_zero_iff.symm
   refine ⟨fun hz v19 => ⟨by simp only [List.length_append, List.length_cons, List.length_nil]; omega, fun _ v20 => ⟨⟨by show 0 ≤ i14 + 1; omega, by show i14 + 1 ≤ ((dG s0).length : Nat); omega, by show i11 + 1 = i14 + 1; omega, ?_, _, hM, ?_⟩, trivial⟩⟩, fun hz => ⟨⟨by show 0 ≤ i14 + 1; omega, by show i14 + 1 ≤ ((dG s0).length : Nat); omega, by show i11 + 1 = i14 + 1; omega, by show (l13.length : Int) ≤ i14 + 1; omega, _, hM, ?_⟩, trivial⟩⟩
   ·show ((l13 ++ [_]).length : Int) ≤ i14 + 1
    rw [List.length_append]; simp only [List.length_cons, List.length_nil]; omega
   ·rw [if_neg (fun he => by have := hTe.1 he; omega)]
    refine bH7 a5 ⟨⟨v16, ?_⟩, trivial⟩
    rw [t1, show i11 + 1 = ((1 + i14.toNat : Nat) : Int) by omega]
   ·rw [if_pos (hTe.2 (by omega)), List.append_nil]; exact a5
 ·show uK (tx s0) l13 0 0
  unfold uK
  rw [List.take_of_length_le (by omega)] at a4
  rw [hlines, a4]
  exact ⟨a5, rfl, rfl⟩
end Go.Vc