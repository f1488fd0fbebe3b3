/-
  Contracts of the numbers and texts as bytes: reading.
  Printed by wip/vct.py: the conditions of functions, by their contracts.
-/
import Derived.Test.YtnnjpgenekgciaaDoorPack
import Derived.KernelRfl
set_option linter.unusedVariables false
set_option linter.unusedSimpArgs false
namespace Go.Vc
/-- The document's cursor: a struct of a text, a place, an error. -/
def cur (n : Nat) : S0 := .agg [.lf (.str (.at n)), .lf (.int .i64 (.at (n + 1))), .lf (.int .i64 (.at (n + 2)))]
end Go.Vc
namespace Go.Vc
set_option linter.unusedVariables false
def PText.vc : VC :=
 (.all .N
 (.all .S
 (.all .I
 (.all .I
 (.all .I
 (.know (.has .i64 (.at 4))
 (.know (.ssz (.at 1))
 (.know (.has .i64 (.at 2))
 (.know (.has .i64 (.at 3))
 (.post 0 [(.at 0), (.at 1), (.at 2), (.at 3), (.at 4)]
 (.pre 1 [(.at 0), (.at 1), (.at 2), (.at 3)]
 (.all .I
 (.all .I
 (.all .I
 (.post 1 [(.at 0), (.at 1), (.at 2), (.at 3), (.at 5), (.at 6), (.at 7)]
 (.know (.has .u64 (.at 7))
 (.know (.has .i64 (.at 5))
 (.know (.has .i64 (.at 6))
 (.and
 (.imp (.o2 .eq (.at 6) (.int 0)) true
 (.and
 (.imp (.o2 .lt (.o1 (.wrap .u64) (.o2 .max (.at 4) (.int 0))) (.at 7)) true
 (.pre 2 [(.at 0), (.at 1), (.at 5), (.int 12), (.o1 (.wrap .i64) (.o2 .min (.at 7) (.int 1099511627776)))]
 (.all .I
 (.all .I
 (.all .S
 (.post 2 [(.at 0), (.at 1), (.at 5), (.int 12), (.o1 (.wrap .i64) (.o2 .min (.at 7) (.int 1099511627776))), (.at 8), (.at 9), (.at 10)]
 (.know (.ssz (.at 10))
 (.know (.has .i64 (.at 8))
 (.know (.has .i64 (.at 9))
 (.and
 (.imp (.o1 .not (.o2 .eq (.at 9) (.int 0))) true
 (.ret [(.at 0), (.at 1), (.at 2), (.at 3), (.at 4), (.at 2), (.at 9), (.at 10)]))
 (.imp (.o1 .not (.o2 .eq (.at 9) (.int 0))) false
 (.ret [(.at 0), (.at 1), (.at 2), (.at 3), (.at 4), (.at 8), (.at 9), (.at 10)]))))))))))))
 (.imp (.o2 .lt (.o1 (.wrap .u64) (.o2 .max (.at 4) (.int 0))) (.at 7)) false
 (.pre 2 [(.at 0), (.at 1), (.at 5), (.at 6), (.o1 (.wrap .i64) (.o2 .min (.at 7) (.int 1099511627776)))]
 (.all .I
 (.all .I
 (.all .S
 (.post 2 [(.at 0), (.at 1), (.at 5), (.at 6), (.o1 (.wrap .i64) (.o2 .min (.at 7) (.int 1099511627776))), (.at 8), (.at 9), (.at 10)]
 (.know (.ssz (.at 10))
 (.know (.has .i64 (.at 8))
 (.know (.has .i64 (.at 9))
 (.and
 (.imp (.o1 .not (.o2 .eq (.at 9) (.int 0))) true
 (.ret [(.at 0), (.at 1), (.at 2), (.at 3), (.at 4), (.at 2), (.at 9), (.at 10)]))
 (.imp (.o1 .not (.o2 .eq (.at 9) (.int 0))) false
 (.ret [(.at 0), (.at 1), (.at 2), (.at 3), (.at 4), (.at 8), (.at 9), (.at 10)]))))))))))))))
 (.imp (.o2 .eq (.at 6) (.int 0)) false
 (.pre 2 [(.at 0), (.at 1), (.at 5), (.at 6), (.o1 (.wrap .i64) (.o2 .min (.at 7) (.int 1099511627776)))]
 (.all .I
 (.all .I
 (.all .S
 (.post 2 [(.at 0), (.at 1), (.at 5), (.at 6), (.o1 (.wrap .i64) (.o2 .min (.at 7) (.int 1099511627776))), (.at 8), (.at 9), (.at 10)]
 (.know (.ssz (.at 10))
 (.know (.has .i64 (.at 8))
 (.know (.has .i64 (.at 9))
 (.and
 (.imp (.o1 .not (.o2 .eq (.at 9) (.int 0))) true
 (.ret [(.at 0), (.at 1), (.at 2), (.at 3), (.at 4), (.at 2), (.at 9), (.at 10)]))
 (.imp (.o1 .not (.o2 .eq (.at 9) (.int 0))) false
 (.ret [(.at 0), (.at 1), (.at 2), (.at 3), (.at 4), (.at 8), (.at 9), (.at 10)])))))))))))))))))))))))))))))))
def PText.Pure : Prop :=
 ∀ (n0 : Nat),
 ∀ (s1 : ByteArray),
 ∀ (i2 : Int),
 ∀ (i3 : Int),
 ∀ (i4 : Int),
 (-9223372036854775808 ≤ i4 ∧ i4 < 9223372036854775808) →
 ((s1.size : Int) ≤ 9223372036854775807) →
 (-9223372036854775808 ≤ i2 ∧ i2 < 9223372036854775808) →
 (-9223372036854775808 ≤ i3 ∧ i3 < 9223372036854775808) →
 PText.sig.pre [(D.N n0), (D.S s1), (D.I i2), (D.I i3), (D.I i4)] →
 PNum.sig.pre [(D.N n0), (D.S s1), (D.I i2), (D.I i3)] ∧ (
 ∀ (i5 : Int),
 ∀ (i6 : Int),
 ∀ (i7 : Int),
 PNum.sig.post [(D.N n0), (D.S s1), (D.I i2), (D.I i3), (D.I i5), (D.I i6), (D.I i7)] →
 (0 ≤ i7 ∧ i7 < 18446744073709551616) →
 (-9223372036854775808 ≤ i5 ∧ i5 < 9223372036854775808) →
 (-9223372036854775808 ≤ i6 ∧ i6 < 9223372036854775808) →
 ((
 (i6 = (0 : Int)) →
 ((
 ((IntKind.wrap .u64 (maxI i4 (0 : Int))) < i7) →
   PRaw.sig.pre [(D.N n0), (D.S s1), (D.I i5), (D.I (12 : Int)), (D.I (IntKind.wrap .i64 (minI i7 (1099511627776 : Int))))] ∧ (
 ∀ (i8 : Int),
 ∀ (i9 : Int),
 ∀ (s10 : ByteArray),
   PRaw.sig.post [(D.N n0), (D.S s1), (D.I i5), (D.I (12 : Int)), (D.I (IntKind.wrap .i64 (minI i7 (1099511627776 : Int)))), (D.I i8), (D.I i9), (D.S s10)] →
 ((s10.size : Int) ≤ 9223372036854775807) →
 (-9223372036854775808 ≤ i8 ∧ i8 < 9223372036854775808) →
 (-9223372036854775808 ≤ i9 ∧ i9 < 9223372036854775808) →
 ((
 (i9 ≠ (0 : Int)) →
    PText.sig.post [(D.N n0), (D.S s1), (D.I i2), (D.I i3), (D.I i4), (D.I i2), (D.I i9), (D.S s10)]) ∧ (
 (i9 = (0 : Int)) →
    PText.sig.post [(D.N n0), (D.S s1), (D.I i2), (D.I i3), (D.I i4), (D.I i8), (D.I i9), (D.S s10)])))) ∧ (
 (i7 ≤ (IntKind.wrap .u64 (maxI i4 (0 : Int)))) →
   PRaw.sig.pre [(D.N n0), (D.S s1), (D.I i5), (D.I i6), (D.I (IntKind.wrap .i64 (minI i7 (1099511627776 : Int))))] ∧ (
 ∀ (i8 : Int),
 ∀ (i9 : Int),
 ∀ (s10 : ByteArray),
   PRaw.sig.post [(D.N n0), (D.S s1), (D.I i5), (D.I i6), (D.I (IntKind.wrap .i64 (minI i7 (1099511627776 : Int)))), (D.I i8), (D.I i9), (D.S s10)] →
 ((s10.size : Int) ≤ 9223372036854775807) →
 (-9223372036854775808 ≤ i8 ∧ i8 < 9223372036854775808) →
 (-9223372036854775808 ≤ i9 ∧ i9 < 9223372036854775808) →
 ((
 (i9 ≠ (0 : Int)) →
    PText.sig.post [(D.N n0), (D.S s1), (D.I i2), (D.I i3), (D.I i4), (D.I i2), (D.I i9), (D.S s10)]) ∧ (
 (i9 = (0 : Int)) →
    PText.sig.post [(D.N n0), (D.S s1), (D.I i2), (D.I i3), (D.I i4), (D.I i8), (D.I i9), (D.S s10)])))))) ∧ (
 (i6 ≠ (0 : Int)) →
  PRaw.sig.pre [(D.N n0), (D.S s1), (D.I i5), (D.I i6), (D.I (IntKind.wrap .i64 (minI i7 (1099511627776 : Int))))] ∧ (
 ∀ (i8 : Int),
 ∀ (i9 : Int),
 ∀ (s10 : ByteArray),
  PRaw.sig.post [(D.N n0), (D.S s1), (D.I i5), (D.I i6), (D.I (IntKind.wrap .i64 (minI i7 (1099511627776 : Int)))), (D.I i8), (D.I i9), (D.S s10)] →
 ((s10.size : Int) ≤ 9223372036854775807) →
 (-9223372036854775808 ≤ i8 ∧ i8 < 9223372036854775808) →
 (-9223372036854775808 ≤ i9 ∧ i9 < 9223372036854775808) →
 ((
 (i9 ≠ (0 : Int)) →
   PText.sig.post [(D.N n0), (D.S s1), (D.I i2), (D.I i3), (D.I i4), (D.I i2), (D.I i9), (D.S s10)]) ∧ (
 (i9 = (0 : Int)) →
   PText.sig.post [(D.N n0), (D.S s1), (D.I i2), (D.I i3), (D.I i4), (D.I i8), (D.I i9), (D.S s10)]))))))
theorem PText.den : PText.vc.den2 (mkEnv PText.sig [PNum.sig, PRaw.sig] []) [] = PText.Pure := by kernel_rfl
def PFail.vc : VC :=
 (.all .N
 (.all .S
 (.all .I
 (.all .I
 (.all .I
 (.know (.has .i64 (.at 4))
 (.know (.ssz (.at 1))
 (.know (.has .i64 (.at 2))
 (.know (.has .i64 (.at 3))
 (.post 0 [(.at 0), (.at 1), (.at 2), (.at 3), (.at 4)]
 (.and
 (.imp (.o2 .eq (.at 3) (.int 0)) true
 (.ret [(.at 0), (.at 1), (.at 2), (.at 3), (.at 4), (.at 2), (.at 4)]))
 (.imp (.o2 .eq (.at 3) (.int 0)) false
 (.ret [(.at 0), (.at 1), (.at 2), (.at 3), (.at 4), (.at 2), (.at 3)])))))))))))))
def PFail.Pure : Prop :=
 ∀ (n0 : Nat),
 ∀ (s1 : ByteArray),
 ∀ (i2 : Int),
 ∀ (i3 : Int),
 ∀ (i4 : Int),
 (-9223372036854775808 ≤ i4 ∧ i4 < 9223372036854775808) →
 ((s1.size : Int) ≤ 9223372036854775807) →
 (-9223372036854775808 ≤ i2 ∧ i2 < 9223372036854775808) →
 (-9223372036854775808 ≤ i3 ∧ i3 < 9223372036854775808) →
 PFail.sig.pre [(D.N n0), (D.S s1), (D.I i2), (D.I i3), (D.I i4)] →
 ((
 (i3 = (0 : Int)) →
  PFail.sig.post [(D.N n0), (D.S s1), (D.I i2), (D.I i3), (D.I i4), (D.I i2), (D.I i4)]) ∧ (
 (i3 ≠ (0 : Int)) →
  PFail.sig.post [(D.N n0), (D.S s1), (D.I i2), (D.I i3), (D.I i4), (D.I i2), (D.I i3)]))
theorem PFail.den : PFail.vc.den2 (mkEnv PFail.sig [] []) [] = PFail.Pure := by kernel_rfl
def PDone.vc : VC :=
 (.all .N
 (.all .S
 (.all .I
 (.all .I
 (.know (.ssz (.at 1))
 (.know (.has .i64 (.at 2))
 (.know (.has .i64 (.at 3))
 (.post 0 [(.at 0), (.at 1), (.at 2), (.at 3)]
 (.and
 (.imp (.o2 .lt (.at 2) (.o1 .slen (.at 1))) true
 (.pre 1 [(.at 0), (.at 1), (.at 2), (.at 3), (.int 3)]
 (.all .I
 (.all .I
 (.post 1 [(.at 0), (.at 1), (.at 2), (.at 3), (.int 3), (.at 4), (.at 5)]
 (.know (.has .i64 (.at 4))
 (.know (.has .i64 (.at 5))
 (.ret [(.at 0), (.at 1), (.at 2), (.at 3), (.at 4), (.at 5), (.at 5)]))))))))
 (.imp (.o2 .lt (.at 2) (.o1 .slen (.at 1))) false
 (.ret [(.at 0), (.at 1), (.at 2), (.at 3), (.at 2), (.at 3), (.at 3)])))))))))))
def PDone.Pure : Prop :=
 ∀ (n0 : Nat),
 ∀ (s1 : ByteArray),
 ∀ (i2 : Int),
 ∀ (i3 : Int),
 ((s1.size : Int) ≤ 9223372036854775807) →
 (-9223372036854775808 ≤ i2 ∧ i2 < 9223372036854775808) →
 (-9223372036854775808 ≤ i3 ∧ i3 < 9223372036854775808) →
 PDone.sig.pre [(D.N n0), (D.S s1), (D.I i2), (D.I i3)] →
 ((
 (i2 < ((s1.size : Nat) : Int)) →
  PFail.sig.pre [(D.N n0), (D.S s1), (D.I i2), (D.I i3), (D.I (3 : Int))] ∧ (
 ∀ (i4 : Int),
 ∀ (i5 : Int),
  PFail.sig.post [(D.N n0), (D.S s1), (D.I i2), (D.I i3), (D.I (3 : Int)), (D.I i4), (D.I i5)] →
 (-9223372036854775808 ≤ i4 ∧ i4 < 9223372036854775808) →
 (-9223372036854775808 ≤ i5 ∧ i5 < 9223372036854775808) →
  PDone.sig.post [(D.N n0), (D.S s1), (D.I i2), (D.I i3), (D.I i4), (D.I i5), (D.I i5)])) ∧ (
 (((s1.size : Nat) : Int) ≤ i2) →
  PDone.sig.post [(D.N n0), (D.S s1), (D.I i2), (D.I i3), (D.I i2), (D.I i3), (D.I i3)]))
theorem PDone.den : PDone.vc.den2 (mkEnv PDone.sig [PFail.sig] []) [] = PDone.Pure := by kernel_rfl
end Go.Vc
