/-
 The library's sort, at numbers that rise already: contracts.
 Printed by wip/vct.py: the conditions of functions, by their contracts.
 The library's sort, at numbers that rise already: plain conditions.
-/
import Derived.Test.YtmgeaephkagdiaaGreatDoorVcd
import Derived.KernelRfl
set_option linter.unusedVariables false
set_option linter.unusedSimpArgs false
namespace Go.Vc
def Rises (z : List Int) : Prop := ∀ i j : Nat, i ≤ j → j < z.length → z.getD i 0 ≤ z.getD j 0
def uZ (b : Nat) : List Ch := [.rsl (.at b) [.int .u64] (.at (b + 1))]
def aSl (n : Nat) : SV := .one (.lf (.sl (.at n)))
def aInt (n : Nat) : SV := .one (.lf (.int .i64 (.at n)))
def uBox (b v : Nat) : Ch := .box (.at b) [.lf (.int .i64 (.at v))]
def uNaN.sig : Sig := sigF [.i .u64] [.b] (fun _ => True) fun l => (arg l 1).toB = false
def uLess.sig : Sig := sigF [.i .u64, .i .u64] [.b] (fun _ => True) fun l => (arg l 2).toB = decide ((arg l 0).toI < (arg l 1).toI)
def uOrd2.sig : Sig :=
 { args := [aSl 0, aInt 2, aInt 3, .one (.lf (.ptr (.at 4) 0))], heap := uZ 0 ++ [uBox 4 5], srts := [.V, .Z, .I, .I, .N, .I], res := .tup [.lf (.int .i64 (.at 2)), .lf (.int .i64 (.at 3))], heap' := uZ 0 ++ [uBox 4 5], news := [],
   pre := fun l => Rises (arg l 1).toLi ∧ 0 ≤ (arg l 2).toI ∧ (arg l 2).toI ≤ (arg l 3).toI ∧ (arg l 3).toI < (arg l 1).toLi.length, post := fun _ => True }
def uMed.sig : Sig :=
 { args := [aSl 0, aInt 2, aInt 3, aInt 4, .one (.lf (.ptr (.at 5) 0))], heap := uZ 0 ++ [uBox 5 6], srts := [.V, .Z, .I, .I, .I, .N, .I], res := aInt 3, heap' := uZ 0 ++ [uBox 5 6], news := [],
   pre := fun l => Rises (arg l 1).toLi ∧ 0 ≤ (arg l 2).toI ∧ (arg l 2).toI ≤ (arg l 3).toI ∧ (arg l 3).toI ≤ (arg l 4).toI ∧ (arg l 4).toI < (arg l 1).toLi.length, post := fun _ => True }
def uMedA.sig : Sig :=
 { args := [aSl 0, aInt 2, .one (.lf (.ptr (.at 3) 0))], heap := uZ 0 ++ [uBox 3 4], srts := [.V, .Z, .I, .N, .I], res := aInt 2, heap' := uZ 0 ++ [uBox 3 4], news := [],
   pre := fun l => Rises (arg l 1).toLi ∧ 1 ≤ (arg l 2).toI ∧ (arg l 2).toI + 1 < (arg l 1).toLi.length ∧ (arg l 1).toLi.length ≤ 60000, post := fun _ => True }
def uPiv.sig : Sig := sigF [.z .u64, .i .i64, .i .i64] [.i .i64, .i .i64]
 (fun l => Rises (arg l 1).toLi ∧ (arg l 2).toI = 0 ∧ (arg l 3).toI = (arg l 1).toLi.length ∧ 12 < (arg l 1).toLi.length ∧ (arg l 1).toLi.length ≤ 60000) fun l => (arg l 5).toI = 1
def uPart.sig : Sig := sigF [.z .u64, .i .i64, .i .i64] [.b]
 (fun l => Rises (arg l 1).toLi ∧ (arg l 2).toI = 0 ∧ (arg l 3).toI = (arg l 1).toLi.length ∧ 12 < (arg l 1).toLi.length ∧ (arg l 1).toLi.length ≤ 60000) fun l => (arg l 4).toB = true
def uPart.I0 : List D → Prop := fun l => (arg l 4).toI = 1 ∧ (arg l 5).toI = 0
def uPart.I0M : List D → Nat := fun _ => 0
def uPart.I1 : List D → Prop := fun l => 1 ≤ (arg l 4).toI ∧ (arg l 4).toI ≤ (arg l 1).toLi.length
def uPart.I1M : List D → Nat := fun l => ((arg l 1).toLi.length - (arg l 4).toI).toNat
def uIns.sig : Sig :=
 { args := [aSl 0, aInt 2, aInt 3], heap := uZ 0, srts := [.V, .Z, .I, .I], res := .tup [], heap' := uZ 0, news := [],
   pre := fun l => Rises (arg l 1).toLi ∧ (arg l 2).toI = 0 ∧ (arg l 3).toI = (arg l 1).toLi.length ∧ (arg l 1).toLi.length ≤ 60000, post := fun _ => True }
def uIns.I0 : List D → Prop := fun l => 1 ≤ (arg l 4).toI ∧ (arg l 4).toI ≤ max ((arg l 1).toLi.length : Int) 1
def uIns.I0M : List D → Nat := fun l => ((arg l 1).toLi.length - (arg l 4).toI).toNat
def uIns.I1 : List D → Prop := fun l => (arg l 5).toI = (arg l 4).toI
def uIns.I1M : List D → Nat := fun _ => 0
def uPdq.I0 : List D → Prop := fun l => (arg l 5).toI = 0 ∧ (arg l 6).toI = (arg l 1).toLi.length ∧ (0 < (arg l 1).toLi.length → 0 < (arg l 7).toI) ∧ (arg l 8).toB = true ∧ (arg l 9).toB = true
def uPdq.I0M : List D → Nat := fun _ => 0
def uPdq.sig : Sig :=
 { args := [aSl 0, aInt 2, aInt 3, aInt 4], heap := uZ 0, srts := [.V, .Z, .I, .I, .I], res := .tup [], heap' := uZ 0, news := [],
   pre := fun l => Rises (arg l 1).toLi ∧ (arg l 2).toI = 0 ∧ (arg l 3).toI = (arg l 1).toLi.length ∧ (arg l 1).toLi.length ≤ 60000 ∧ (0 < (arg l 1).toLi.length → 0 < (arg l 4).toI), post := fun _ => True }
def uLen.sig : Sig := sigF [.i .u64] [.i .i64] (fun l => (arg l 0).toI < 65536) fun l => 0 < (arg l 0).toI → 0 < (arg l 1).toI
def uLen64.sig : Sig := uLen.sig
def uSort.sig : Sig :=
 { args := [aSl 0], heap := uZ 0, srts := [.V, .Z], res := .tup [], heap' := uZ 0, news := [], pre := fun l => Rises (arg l 1).toLi ∧ (arg l 1).toLi.length ≤ 60000, post := fun _ => True }
end Go.Vc
namespace Go.Vc
set_option linter.unusedVariables false
set_option maxRecDepth 100000
def uNaN.Pure : Prop :=
 ∀ i0 : Int,
 U64 i0 →
 uNaN.sig.pre [.I i0] →
 uNaN.sig.post [.I i0, .B (!(i0 == i0))]
def uLess.Pure : Prop :=
 ∀ i0 i1 : Int,
 U64 i0 →
 U64 i1 →
 uLess.sig.pre [.I i0, .I i1] →
 uNaN.sig.pre [.I i0] ∧ (
 ∀ b2 : Bool,
 uNaN.sig.post [.I i0, .B b2] →
 ((
 (b2 = true) →
  uNaN.sig.pre [.I i1] ∧ (
 ∀ b3 : Bool,
  uNaN.sig.post [.I i1, .B b3] →
 ((
 (b3 = false) →
  uLess.sig.post [.I i0, .I i1, .B true]) ∧ (
 (b3 = true) →
  uLess.sig.post [.I i0, .I i1, .B (decide (i0 < i1))])))) ∧ (
 (b2 = false) →
  uLess.sig.post [.I i0, .I i1, .B (decide (i0 < i1))])))
def uOrd2.Pure : Prop :=
 ∀ v0 : Value,
 ∀ z1 : List Int,
 ∀ i2 i3 : Int,
 ∀ n4 : Nat,
 ∀ i5 : Int,
 R64 i2 →
 R64 i3 →
 (∀ x ∈ z1, IntKind.has .u64 x) →
 R64 i5 →
 uOrd2.sig.pre [.V v0, .Z z1, .I i2, .I i3, .N n4, .I i5] →
 (0 ≤ i3) ∧ ((0 ≤ i3) →
 (i3 < ((z1.length : Nat) : Int)) ∧ ((i3 < ((z1.length : Nat) : Int)) →
 (0 ≤ i2) ∧ ((0 ≤ i2) →
 (i2 < ((z1.length : Nat) : Int)) ∧ ((i2 < ((z1.length : Nat) : Int)) →
 uLess.sig.pre [.I (z1.getD i3.toNat 0), .I (z1.getD i2.toNat 0)] ∧ (
 ∀ b6 : Bool,
 uLess.sig.post [.I (z1.getD i3.toNat 0), .I (z1.getD i2.toNat 0), .B b6] →
 ((
 (b6 = true) →
 (false = true) ∧ ((false = true) →
  True)) ∧ (
 (b6 = false) →
  uOrd2.sig.post [.V v0, .Z z1, .I i2, .I i3, .N n4, .I i5])))))))
def uMed.Pure : Prop :=
 ∀ v0 : Value,
 ∀ z1 : List Int,
 ∀ i2 i3 i4 : Int,
 ∀ n5 : Nat,
 ∀ i6 : Int,
 R64 i2 →
 R64 i3 →
 R64 i4 →
 (∀ x ∈ z1, IntKind.has .u64 x) →
 R64 i6 →
 uMed.sig.pre [.V v0, .Z z1, .I i2, .I i3, .I i4, .N n5, .I i6] →
 uOrd2.sig.pre [.V v0, .Z z1, .I i2, .I i3, .N n5, .I i6] ∧ (
 uOrd2.sig.post [.V v0, .Z z1, .I i2, .I i3, .N n5, .I i6] →
 uOrd2.sig.pre [.V v0, .Z z1, .I i3, .I i4, .N n5, .I i6] ∧ (
 uOrd2.sig.post [.V v0, .Z z1, .I i3, .I i4, .N n5, .I i6] →
 uOrd2.sig.pre [.V v0, .Z z1, .I i2, .I i3, .N n5, .I i6] ∧ (
 uOrd2.sig.post [.V v0, .Z z1, .I i2, .I i3, .N n5, .I i6] →
 uMed.sig.post [.V v0, .Z z1, .I i2, .I i3, .I i4, .N n5, .I i6])))
def uMedA.Pure : Prop :=
 ∀ v0 : Value,
 ∀ z1 : List Int,
 ∀ i2 : Int,
 ∀ n3 : Nat,
 ∀ i4 : Int,
 R64 i2 →
 (∀ x ∈ z1, IntKind.has .u64 x) →
 R64 i4 →
 uMedA.sig.pre [.V v0, .Z z1, .I i2, .N n3, .I i4] →
 uMed.sig.pre [.V v0, .Z z1, .I (IntKind.wrap .i64 (i2 - 1)), .I i2, .I (IntKind.wrap .i64 (i2 + 1)), .N n3, .I i4] ∧ (
 uMed.sig.post [.V v0, .Z z1, .I (IntKind.wrap .i64 (i2 - 1)), .I i2, .I (IntKind.wrap .i64 (i2 + 1)), .N n3, .I i4] →
 uMedA.sig.post [.V v0, .Z z1, .I i2, .N n3, .I i4])
def uPiv.Pure : Prop :=
 ∀ v0 : Value,
 ∀ z1 : List Int,
 ∀ i2 i3 : Int,
 R64 i2 →
 R64 i3 →
 (∀ x ∈ z1, IntKind.has .u64 x) →
 uPiv.sig.pre [.V v0, .Z z1, .I i2, .I i3] →
 ∀ n4 : Nat,
 ((
 (8 ≤ (IntKind.wrap .i64 (i3 - i2))) →
 ((
 (50 ≤ (IntKind.wrap .i64 (i3 - i2))) →
  uMedA.sig.pre [.V v0, .Z z1, .I (IntKind.wrap .i64 (i2 + (IntKind.wrap .i64 ((IntKind.wrap .i64 (Int.tdiv (IntKind.wrap .i64 (i3 - i2)) 4)) * 1)))), .N n4, .I 0] ∧ (
  uMedA.sig.post [.V v0, .Z z1, .I (IntKind.wrap .i64 (i2 + (IntKind.wrap .i64 ((IntKind.wrap .i64 (Int.tdiv (IntKind.wrap .i64 (i3 - i2)) 4)) * 1)))), .N n4, .I 0] →
  uMedA.sig.pre [.V v0, .Z z1, .I (IntKind.wrap .i64 (i2 + (IntKind.wrap .i64 ((IntKind.wrap .i64 (Int.tdiv (IntKind.wrap .i64 (i3 - i2)) 4)) * 2)))), .N n4, .I 0] ∧ (
  uMedA.sig.post [.V v0, .Z z1, .I (IntKind.wrap .i64 (i2 + (IntKind.wrap .i64 ((IntKind.wrap .i64 (Int.tdiv (IntKind.wrap .i64 (i3 - i2)) 4)) * 2)))), .N n4, .I 0] →
  uMedA.sig.pre [.V v0, .Z z1, .I (IntKind.wrap .i64 (i2 + (IntKind.wrap .i64 ((IntKind.wrap .i64 (Int.tdiv (IntKind.wrap .i64 (i3 - i2)) 4)) * 3)))), .N n4, .I 0] ∧ (
  uMedA.sig.post [.V v0, .Z z1, .I (IntKind.wrap .i64 (i2 + (IntKind.wrap .i64 ((IntKind.wrap .i64 (Int.tdiv (IntKind.wrap .i64 (i3 - i2)) 4)) * 3)))), .N n4, .I 0] →
  uMed.sig.pre [.V v0, .Z z1, .I (IntKind.wrap .i64 (i2 + (IntKind.wrap .i64 ((IntKind.wrap .i64 (Int.tdiv (IntKind.wrap .i64 (i3 - i2)) 4)) * 1)))), .I (IntKind.wrap .i64 (i2 + (IntKind.wrap .i64 ((IntKind.wrap .i64 (Int.tdiv (IntKind.wrap .i64 (i3 - i2)) 4)) * 2)))), .I (IntKind.wrap .i64 (i2 + (IntKind.wrap .i64 ((IntKind.wrap .i64 (Int.tdiv (IntKind.wrap .i64 (i3 - i2)) 4)) * 3)))), .N n4, .I 0] ∧ (
  uMed.sig.post [.V v0, .Z z1, .I (IntKind.wrap .i64 (i2 + (IntKind.wrap .i64 ((IntKind.wrap .i64 (Int.tdiv (IntKind.wrap .i64 (i3 - i2)) 4)) * 1)))), .I (IntKind.wrap .i64 (i2 + (IntKind.wrap .i64 ((IntKind.wrap .i64 (Int.tdiv (IntKind.wrap .i64 (i3 - i2)) 4)) * 2)))), .I (IntKind.wrap .i64 (i2 + (IntKind.wrap .i64 ((IntKind.wrap .i64 (Int.tdiv (IntKind.wrap .i64 (i3 - i2)) 4)) * 3)))), .N n4, .I 0] →
  uPiv.sig.post [.V v0, .Z z1, .I i2, .I i3, .I (IntKind.wrap .i64 (i2 + (IntKind.wrap .i64 ((IntKind.wrap .i64 (Int.tdiv (IntKind.wrap .i64 (i3 - i2)) 4)) * 2)))), .I 1]))))) ∧ (
 ((IntKind.wrap .i64 (i3 - i2)) < 50) →
   uMed.sig.pre [.V v0, .Z z1, .I (IntKind.wrap .i64 (i2 + (IntKind.wrap .i64 ((IntKind.wrap .i64 (Int.tdiv (IntKind.wrap .i64 (i3 - i2)) 4)) * 1)))), .I (IntKind.wrap .i64 (i2 + (IntKind.wrap .i64 ((IntKind.wrap .i64 (Int.tdiv (IntKind.wrap .i64 (i3 - i2)) 4)) * 2)))), .I (IntKind.wrap .i64 (i2 + (IntKind.wrap .i64 ((IntKind.wrap .i64 (Int.tdiv (IntKind.wrap .i64 (i3 - i2)) 4)) * 3)))), .N n4, .I 0] ∧ (
   uMed.sig.post [.V v0, .Z z1, .I (IntKind.wrap .i64 (i2 + (IntKind.wrap .i64 ((IntKind.wrap .i64 (Int.tdiv (IntKind.wrap .i64 (i3 - i2)) 4)) * 1)))), .I (IntKind.wrap .i64 (i2 + (IntKind.wrap .i64 ((IntKind.wrap .i64 (Int.tdiv (IntKind.wrap .i64 (i3 - i2)) 4)) * 2)))), .I (IntKind.wrap .i64 (i2 + (IntKind.wrap .i64 ((IntKind.wrap .i64 (Int.tdiv (IntKind.wrap .i64 (i3 - i2)) 4)) * 3)))), .N n4, .I 0] →
   uPiv.sig.post [.V v0, .Z z1, .I i2, .I i3, .I (IntKind.wrap .i64 (i2 + (IntKind.wrap .i64 ((IntKind.wrap .i64 (Int.tdiv (IntKind.wrap .i64 (i3 - i2)) 4)) * 2)))), .I 1])))) ∧ (
 ((IntKind.wrap .i64 (i3 - i2)) < 8) →
  uPiv.sig.post [.V v0, .Z z1, .I i2, .I i3, .I (IntKind.wrap .i64 (i2 + (IntKind.wrap .i64 ((IntKind.wrap .i64 (Int.tdiv (IntKind.wrap .i64 (i3 - i2)) 4)) * 2)))), .I 1]))
def uPart.Pure : Prop :=
 ∀ v0 : Value,
 ∀ z1 : List Int,
 ∀ i2 i3 : Int,
 R64 i2 →
 R64 i3 →
 (∀ x ∈ z1, IntKind.has .u64 x) →
 uPart.sig.pre [.V v0, .Z z1, .I i2, .I i3] →
 uPart.I0 [.V v0, .Z z1, .I i2, .I i3, .I (IntKind.wrap .i64 (i2 + 1)), .I 0] ∧ (
 ∀ i4 i5 : Int,
 R64 i4 →
 R64 i5 →
 uPart.I0 [.V v0, .Z z1, .I i2, .I i3, .I i4, .I i5] →
 ((
 (i5 < 5) →
  uPart.I1 [.V v0, .Z z1, .I i2, .I i3, .I i4] ∧ (
 ∀ i6 : Int,
 R64 i6 →
  uPart.I1 [.V v0, .Z z1, .I i2, .I i3, .I i6] →
 ((
 (i6 < i3) →
 (0 ≤ i6) ∧ ((0 ≤ i6) →
 (i6 < ((z1.length : Nat) : Int)) ∧ ((i6 < ((z1.length : Nat) : Int)) →
 (0 ≤ (IntKind.wrap .i64 (i6 - 1))) ∧ ((0 ≤ (IntKind.wrap .i64 (i6 - 1))) →
 ((IntKind.wrap .i64 (i6 - 1)) < ((z1.length : Nat) : Int)) ∧ (((IntKind.wrap .i64 (i6 - 1)) < ((z1.length : Nat) : Int)) →
   uLess.sig.pre [.I (z1.getD i6.toNat 0), .I (z1.getD (IntKind.wrap .i64 (i6 - 1)).toNat 0)] ∧ (
 ∀ b7 : Bool,
  uLess.sig.post [.I (z1.getD i6.toNat 0), .I (z1.getD (IntKind.wrap .i64 (i6 - 1)).toNat 0), .B b7] →
 ((
 (b7 = false) →
  Bk uPart.I1 uPart.I1M [.V v0, .Z z1, .I i2, .I i3, .I (IntKind.wrap .i64 (i6 + 1))] [.V v0, .Z z1, .I i2, .I i3, .I i6]) ∧ (
 (b7 = true) →
 ((
 (i6 = i3) →
   uPart.sig.post [.V v0, .Z z1, .I i2, .I i3, .B true]) ∧ (
 (i6 ≠ i3) →
 (false = true) ∧ ((false = true) →
   True))))))))))) ∧ (
 (i3 ≤ i6) →
 ((
 (i6 = i3) →
  uPart.sig.post [.V v0, .Z z1, .I i2, .I i3, .B true]) ∧ (
 (i6 ≠ i3) →
 (false = true) ∧ ((false = true) →
  True))))))) ∧ (
 (5 ≤ i5) →
  uPart.sig.post [.V v0, .Z z1, .I i2, .I i3, .B false])))
def uIns.Pure : Prop :=
 ∀ v0 : Value,
 ∀ z1 : List Int,
 ∀ i2 i3 : Int,
 R64 i2 →
 R64 i3 →
 (∀ x ∈ z1, IntKind.has .u64 x) →
 uIns.sig.pre [.V v0, .Z z1, .I i2, .I i3] →
 uIns.I0 [.V v0, .Z z1, .I i2, .I i3, .I (IntKind.wrap .i64 (i2 + 1))] ∧ (
 ∀ i4 : Int,
 R64 i4 →
 uIns.I0 [.V v0, .Z z1, .I i2, .I i3, .I i4] →
 ((
 (i4 < i3) →
  uIns.I1 [.V v0, .Z z1, .I i2, .I i3, .I i4, .I i4] ∧ (
 ∀ i5 : Int,
 R64 i5 →
  uIns.I1 [.V v0, .Z z1, .I i2, .I i3, .I i4, .I i5] →
 ((
 (i2 < i5) →
 (0 ≤ i5) ∧ ((0 ≤ i5) →
 (i5 < ((z1.length : Nat) : Int)) ∧ ((i5 < ((z1.length : Nat) : Int)) →
 (0 ≤ (IntKind.wrap .i64 (i5 - 1))) ∧ ((0 ≤ (IntKind.wrap .i64 (i5 - 1))) →
 ((IntKind.wrap .i64 (i5 - 1)) < ((z1.length : Nat) : Int)) ∧ (((IntKind.wrap .i64 (i5 - 1)) < ((z1.length : Nat) : Int)) →
   uLess.sig.pre [.I (z1.getD i5.toNat 0), .I (z1.getD (IntKind.wrap .i64 (i5 - 1)).toNat 0)] ∧ (
 ∀ b6 : Bool,
  uLess.sig.post [.I (z1.getD i5.toNat 0), .I (z1.getD (IntKind.wrap .i64 (i5 - 1)).toNat 0), .B b6] →
 ((
 (b6 = true) →
 (false = true) ∧ ((false = true) →
  True)) ∧ (
 (b6 = false) →
  Bk uIns.I0 uIns.I0M [.V v0, .Z z1, .I i2, .I i3, .I (IntKind.wrap .i64 (i4 + 1))] [.V v0, .Z z1, .I i2, .I i3, .I i4])))))))) ∧ (
 (i5 ≤ i2) →
  Bk uIns.I0 uIns.I0M [.V v0, .Z z1, .I i2, .I i3, .I (IntKind.wrap .i64 (i4 + 1))] [.V v0, .Z z1, .I i2, .I i3, .I i4])))) ∧ (
 (i3 ≤ i4) →
  uIns.sig.post [.V v0, .Z z1, .I i2, .I i3])))
def uPdq.Pure : Prop :=
 ∀ v0 : Value,
 ∀ z1 : List Int,
 ∀ i2 i3 i4 : Int,
 R64 i2 →
 R64 i3 →
 R64 i4 →
 (∀ x ∈ z1, IntKind.has .u64 x) →
 uPdq.sig.pre [.V v0, .Z z1, .I i2, .I i3, .I i4] →
 uPdq.I0 [.V v0, .Z z1, .I i2, .I i3, .I i4, .I i2, .I i3, .I i4, .B true, .B true] ∧ (
 ∀ i5 i6 i7 : Int,
 ∀ b8 b9 : Bool,
 R64 i5 →
 R64 i6 →
 R64 i7 →
 uPdq.I0 [.V v0, .Z z1, .I i2, .I i3, .I i4, .I i5, .I i6, .I i7, .B b8, .B b9] →
 ((
 ((IntKind.wrap .i64 (i6 - i5)) ≤ 12) →
  uIns.sig.pre [.V v0, .Z z1, .I i5, .I i6] ∧ (
  uIns.sig.post [.V v0, .Z z1, .I i5, .I i6] →
  uPdq.sig.post [.V v0, .Z z1, .I i2, .I i3, .I i4])) ∧ (
 (12 < (IntKind.wrap .i64 (i6 - i5))) →
 ((
 (i7 = 0) →
 (false = true) ∧ ((false = true) →
  True)) ∧ (
 (i7 ≠ 0) →
 ((
 (b8 = false) →
 (false = true) ∧ ((false = true) →
  True)) ∧ (
 (b8 = true) →
  uPiv.sig.pre [.V v0, .Z z1, .I i5, .I i6] ∧ (
 ∀ i10 i11 : Int,
  uPiv.sig.post [.V v0, .Z z1, .I i5, .I i6, .I i10, .I i11] →
 R64 i10 →
 R64 i11 →
 ((
 (i11 = 2) →
 (false = true) ∧ ((false = true) →
   True)) ∧ (
 (i11 ≠ 2) →
 ((
 (b9 = true) →
 ((
 (i11 = 1) →
    uPart.sig.pre [.V v0, .Z z1, .I i5, .I i6] ∧ (
 ∀ b12 : Bool,
    uPart.sig.post [.V v0, .Z z1, .I i5, .I i6, .B b12] →
 ((
 (b12 = true) →
    uPdq.sig.post [.V v0, .Z z1, .I i2, .I i3, .I i4]) ∧ (
 (b12 = false) →
 (false = true) ∧ ((false = true) →
    True))))) ∧ (
 (i11 ≠ 1) →
 (false = true) ∧ ((false = true) →
    True)))) ∧ (
 (b9 = false) →
 (false = true) ∧ ((false = true) →
   True)))))))))))))
def uLen64.Pure : Prop :=
 ∀ i0 : Int,
 U64 i0 →
 uLen64.sig.pre [.I i0] →
 ((
 (4294967296 ≤ i0) →
 (false = true) ∧ ((false = true) →
  True)) ∧ (
 (i0 < 4294967296) →
 ((
 (65536 ≤ i0) →
 (false = true) ∧ ((false = true) →
  True)) ∧ (
 (i0 < 65536) →
 ((
 (256 ≤ i0) →
 (0 ≤ (IntKind.wrap .u8 (shrI .u64 i0 8))) ∧ ((0 ≤ (IntKind.wrap .u8 (shrI .u64 i0 8))) →
 ((IntKind.wrap .u8 (shrI .u64 i0 8)) < (((⟨#[0, 1, 2, 2, 3, 3, 3, 3, 4, 4, 4, 4, 4, 4, 4, 4, 5, 5, 5, 5, 5, 5, 5, 5, 5, 5, 5, 5, 5, 5, 5, 5, 6, 6, 6, 6, 6, 6, 6, 6, 6, 6, 6, 6, 6, 6, 6, 6, 6, 6, 6, 6, 6, 6, 6, 6, 6, 6, 6, 6, 6, 6, 6, 6, 7, 7, 7, 7, 7, 7, 7, 7, 7, 7, 7, 7, 7, 7, 7, 7, 7, 7, 7, 7, 7, 7, 7, 7, 7, 7, 7, 7, 7, 7, 7, 7, 7, 7, 7, 7, 7, 7, 7, 7, 7, 7, 7, 7, 7, 7, 7, 7, 7, 7, 7, 7, 7, 7, 7, 7, 7, 7, 7, 7, 7, 7, 7, 7, 8, 8, 8, 8, 8, 8, 8, 8, 8, 8, 8, 8, 8, 8, 8, 8, 8, 8, 8, 8, 8, 8, 8, 8, 8, 8, 8, 8, 8, 8, 8, 8, 8, 8, 8, 8, 8, 8, 8, 8, 8, 8, 8, 8, 8, 8, 8, 8, 8, 8, 8, 8, 8, 8, 8, 8, 8, 8, 8, 8, 8, 8, 8, 8, 8, 8, 8, 8, 8, 8, 8, 8, 8, 8, 8, 8, 8, 8, 8, 8, 8, 8, 8, 8, 8, 8, 8, 8, 8, 8, 8, 8, 8, 8, 8, 8, 8, 8, 8, 8, 8, 8, 8, 8, 8, 8, 8, 8, 8, 8, 8, 8, 8, 8, 8, 8, 8, 8, 8, 8, 8, 8, 8, 8, 8, 8, 8, 8]⟩ : ByteArray).size : Nat) : Int)) ∧ (((IntKind.wrap .u8 (shrI .u64 i0 8)) < (((⟨#[0, 1, 2, 2, 3, 3, 3, 3, 4, 4, 4, 4, 4, 4, 4, 4, 5, 5, 5, 5, 5, 5, 5, 5, 5, 5, 5, 5, 5, 5, 5, 5, 6, 6, 6, 6, 6, 6, 6, 6, 6, 6, 6, 6, 6, 6, 6, 6, 6, 6, 6, 6, 6, 6, 6, 6, 6, 6, 6, 6, 6, 6, 6, 6, 7, 7, 7, 7, 7, 7, 7, 7, 7, 7, 7, 7, 7, 7, 7, 7, 7, 7, 7, 7, 7, 7, 7, 7, 7, 7, 7, 7, 7, 7, 7, 7, 7, 7, 7, 7, 7, 7, 7, 7, 7, 7, 7, 7, 7, 7, 7, 7, 7, 7, 7, 7, 7, 7, 7, 7, 7, 7, 7, 7, 7, 7, 7, 7, 8, 8, 8, 8, 8, 8, 8, 8, 8, 8, 8, 8, 8, 8, 8, 8, 8, 8, 8, 8, 8, 8, 8, 8, 8, 8, 8, 8, 8, 8, 8, 8, 8, 8, 8, 8, 8, 8, 8, 8, 8, 8, 8, 8, 8, 8, 8, 8, 8, 8, 8, 8, 8, 8, 8, 8, 8, 8, 8, 8, 8, 8, 8, 8, 8, 8, 8, 8, 8, 8, 8, 8, 8, 8, 8, 8, 8, 8, 8, 8, 8, 8, 8, 8, 8, 8, 8, 8, 8, 8, 8, 8, 8, 8, 8, 8, 8, 8, 8, 8, 8, 8, 8, 8, 8, 8, 8, 8, 8, 8, 8, 8, 8, 8, 8, 8, 8, 8, 8, 8, 8, 8, 8, 8, 8, 8, 8, 8]⟩ : ByteArray).size : Nat) : Int)) →
  uLen64.sig.post [.I i0, .I (IntKind.wrap .i64 ((IntKind.wrap .i64 ((0 : Int) + (8 : Int))) + (IntKind.wrap .i64 (byteAt (⟨#[0, 1, 2, 2, 3, 3, 3, 3, 4, 4, 4, 4, 4, 4, 4, 4, 5, 5, 5, 5, 5, 5, 5, 5, 5, 5, 5, 5, 5, 5, 5, 5, 6, 6, 6, 6, 6, 6, 6, 6, 6, 6, 6, 6, 6, 6, 6, 6, 6, 6, 6, 6, 6, 6, 6, 6, 6, 6, 6, 6, 6, 6, 6, 6, 7, 7, 7, 7, 7, 7, 7, 7, 7, 7, 7, 7, 7, 7, 7, 7, 7, 7, 7, 7, 7, 7, 7, 7, 7, 7, 7, 7, 7, 7, 7, 7, 7, 7, 7, 7, 7, 7, 7, 7, 7, 7, 7, 7, 7, 7, 7, 7, 7, 7, 7, 7, 7, 7, 7, 7, 7, 7, 7, 7, 7, 7, 7, 7, 8, 8, 8, 8, 8, 8, 8, 8, 8, 8, 8, 8, 8, 8, 8, 8, 8, 8, 8, 8, 8, 8, 8, 8, 8, 8, 8, 8, 8, 8, 8, 8, 8, 8, 8, 8, 8, 8, 8, 8, 8, 8, 8, 8, 8, 8, 8, 8, 8, 8, 8, 8, 8, 8, 8, 8, 8, 8, 8, 8, 8, 8, 8, 8, 8, 8, 8, 8, 8, 8, 8, 8, 8, 8, 8, 8, 8, 8, 8, 8, 8, 8, 8, 8, 8, 8, 8, 8, 8, 8, 8, 8, 8, 8, 8, 8, 8, 8, 8, 8, 8, 8, 8, 8, 8, 8, 8, 8, 8, 8, 8, 8, 8, 8, 8, 8, 8, 8, 8, 8, 8, 8, 8, 8, 8, 8, 8, 8]⟩ : ByteArray) (IntKind.wrap .u8 (shrI .u64 i0 (8 : Int)))))))]))) ∧ (
 (i0 < 256) →
 (0 ≤ (IntKind.wrap .u8 i0)) ∧ ((0 ≤ (IntKind.wrap .u8 i0)) →
 ((IntKind.wrap .u8 i0) < (((⟨#[0, 1, 2, 2, 3, 3, 3, 3, 4, 4, 4, 4, 4, 4, 4, 4, 5, 5, 5, 5, 5, 5, 5, 5, 5, 5, 5, 5, 5, 5, 5, 5, 6, 6, 6, 6, 6, 6, 6, 6, 6, 6, 6, 6, 6, 6, 6, 6, 6, 6, 6, 6, 6, 6, 6, 6, 6, 6, 6, 6, 6, 6, 6, 6, 7, 7, 7, 7, 7, 7, 7, 7, 7, 7, 7, 7, 7, 7, 7, 7, 7, 7, 7, 7, 7, 7, 7, 7, 7, 7, 7, 7, 7, 7, 7, 7, 7, 7, 7, 7, 7, 7, 7, 7, 7, 7, 7, 7, 7, 7, 7, 7, 7, 7, 7, 7, 7, 7, 7, 7, 7, 7, 7, 7, 7, 7, 7, 7, 8, 8, 8, 8, 8, 8, 8, 8, 8, 8, 8, 8, 8, 8, 8, 8, 8, 8, 8, 8, 8, 8, 8, 8, 8, 8, 8, 8, 8, 8, 8, 8, 8, 8, 8, 8, 8, 8, 8, 8, 8, 8, 8, 8, 8, 8, 8, 8, 8, 8, 8, 8, 8, 8, 8, 8, 8, 8, 8, 8, 8, 8, 8, 8, 8, 8, 8, 8, 8, 8, 8, 8, 8, 8, 8, 8, 8, 8, 8, 8, 8, 8, 8, 8, 8, 8, 8, 8, 8, 8, 8, 8, 8, 8, 8, 8, 8, 8, 8, 8, 8, 8, 8, 8, 8, 8, 8, 8, 8, 8, 8, 8, 8, 8, 8, 8, 8, 8, 8, 8, 8, 8, 8, 8, 8, 8, 8, 8]⟩ : ByteArray).size : Nat) : Int)) ∧ (((IntKind.wrap .u8 i0) < (((⟨#[0, 1, 2, 2, 3, 3, 3, 3, 4, 4, 4, 4, 4, 4, 4, 4, 5, 5, 5, 5, 5, 5, 5, 5, 5, 5, 5, 5, 5, 5, 5, 5, 6, 6, 6, 6, 6, 6, 6, 6, 6, 6, 6, 6, 6, 6, 6, 6, 6, 6, 6, 6, 6, 6, 6, 6, 6, 6, 6, 6, 6, 6, 6, 6, 7, 7, 7, 7, 7, 7, 7, 7, 7, 7, 7, 7, 7, 7, 7, 7, 7, 7, 7, 7, 7, 7, 7, 7, 7, 7, 7, 7, 7, 7, 7, 7, 7, 7, 7, 7, 7, 7, 7, 7, 7, 7, 7, 7, 7, 7, 7, 7, 7, 7, 7, 7, 7, 7, 7, 7, 7, 7, 7, 7, 7, 7, 7, 7, 8, 8, 8, 8, 8, 8, 8, 8, 8, 8, 8, 8, 8, 8, 8, 8, 8, 8, 8, 8, 8, 8, 8, 8, 8, 8, 8, 8, 8, 8, 8, 8, 8, 8, 8, 8, 8, 8, 8, 8, 8, 8, 8, 8, 8, 8, 8, 8, 8, 8, 8, 8, 8, 8, 8, 8, 8, 8, 8, 8, 8, 8, 8, 8, 8, 8, 8, 8, 8, 8, 8, 8, 8, 8, 8, 8, 8, 8, 8, 8, 8, 8, 8, 8, 8, 8, 8, 8, 8, 8, 8, 8, 8, 8, 8, 8, 8, 8, 8, 8, 8, 8, 8, 8, 8, 8, 8, 8, 8, 8, 8, 8, 8, 8, 8, 8, 8, 8, 8, 8, 8, 8, 8, 8, 8, 8, 8, 8]⟩ : ByteArray).size : Nat) : Int)) →
  uLen64.sig.post [.I i0, .I (IntKind.wrap .i64 (0 + (IntKind.wrap .i64 (byteAt (⟨#[0, 1, 2, 2, 3, 3, 3, 3, 4, 4, 4, 4, 4, 4, 4, 4, 5, 5, 5, 5, 5, 5, 5, 5, 5, 5, 5, 5, 5, 5, 5, 5, 6, 6, 6, 6, 6, 6, 6, 6, 6, 6, 6, 6, 6, 6, 6, 6, 6, 6, 6, 6, 6, 6, 6, 6, 6, 6, 6, 6, 6, 6, 6, 6, 7, 7, 7, 7, 7, 7, 7, 7, 7, 7, 7, 7, 7, 7, 7, 7, 7, 7, 7, 7, 7, 7, 7, 7, 7, 7, 7, 7, 7, 7, 7, 7, 7, 7, 7, 7, 7, 7, 7, 7, 7, 7, 7, 7, 7, 7, 7, 7, 7, 7, 7, 7, 7, 7, 7, 7, 7, 7, 7, 7, 7, 7, 7, 7, 8, 8, 8, 8, 8, 8, 8, 8, 8, 8, 8, 8, 8, 8, 8, 8, 8, 8, 8, 8, 8, 8, 8, 8, 8, 8, 8, 8, 8, 8, 8, 8, 8, 8, 8, 8, 8, 8, 8, 8, 8, 8, 8, 8, 8, 8, 8, 8, 8, 8, 8, 8, 8, 8, 8, 8, 8, 8, 8, 8, 8, 8, 8, 8, 8, 8, 8, 8, 8, 8, 8, 8, 8, 8, 8, 8, 8, 8, 8, 8, 8, 8, 8, 8, 8, 8, 8, 8, 8, 8, 8, 8, 8, 8, 8, 8, 8, 8, 8, 8, 8, 8, 8, 8, 8, 8, 8, 8, 8, 8, 8, 8, 8, 8, 8, 8, 8, 8, 8, 8, 8, 8, 8, 8, 8, 8, 8, 8]⟩ : ByteArray) (IntKind.wrap .u8 i0)))))]))))))))
def uLen.Pure : Prop :=
 ∀ i0 : Int,
 U64 i0 →
 uLen.sig.pre [.I i0] →
 uLen64.sig.pre [.I i0] ∧ (
 ∀ i1 : Int,
 uLen64.sig.post [.I i0, .I i1] →
 R64 i1 →
 uLen.sig.post [.I i0, .I i1])
def uSort.Pure : Prop :=
 ∀ v0 : Value,
 ∀ z1 : List Int,
 (∀ x ∈ z1, IntKind.has .u64 x) →
 uSort.sig.pre [.V v0, .Z z1] →
 uLen.sig.pre [.I (IntKind.wrap .u64 ((z1.length : Nat) : Int))] ∧ (
 ∀ i2 : Int,
 uLen.sig.post [.I (IntKind.wrap .u64 ((z1.length : Nat) : Int)), .I i2] →
 R64 i2 →
 uPdq.sig.pre [.V v0, .Z z1, .I 0, .I ((z1.length : Nat) : Int), .I i2] ∧ (
 uPdq.sig.post [.V v0, .Z z1, .I 0, .I ((z1.length : Nat) : Int), .I i2] →
 uSort.sig.post [.V v0, .Z z1]))
end Go.Vc
namespace Go.Vc
theorem wr {a : Int} (h1 : -9223372036854775808 ≤ a) (h2 : a < 9223372036854775808) : IntKind.i64.wrap a = a := by rw [IntKind.wrap_i64]; omega
theorem uNaN.pure : uNaN.Pure := by
 intro i0 _ _
 show (!(i0 == i0)) = false
 simp
theorem uLess.pure : uLess.Pure := by
 intro i0 i1 _ _ _
 refine ⟨trivial, fun b2 (h2 : b2 = false) => ⟨fun h => (by rw [h2] at h; cases h), fun _ => rfl⟩⟩
theorem Rises.le {z : List Int} (h : Rises z) {i j : Int} (h0 : 0 ≤ i) (h1 : i ≤ j) (h2 : j < z.length) : z.getD i.toNat 0 ≤ z.getD j.toNat 0 := h _ _ (by omega) (by omega)
theorem uOrd2.pure : uOrd2.Pure := by
 intro v0 z1 i2 i3 n4 i5 _ _ _ _ ⟨h1, h2, h3, h4⟩
 have h2 : 0 ≤ i2 := h2
 have h3 : i2 ≤ i3 := h3
 have h4 : i3 < (z1.length : Int) := h4
 refine ⟨by omega, fun _ => ⟨by omega, fun _ => ⟨by omega, fun _ => ⟨by omega, fun _ => ⟨trivial, fun b6 h6 => ⟨fun hb => ?_, fun _ => trivial⟩⟩⟩⟩⟩⟩
 have h6 : b6 = decide (z1.getD i3.toNat 0 < z1.getD i2.toNat 0) := h6
 have := Rises.le (z := z1) h1 h2 h3 h4
 rw [h6] at hb
 have := of_decide_eq_true hb
 omega
theorem uMed.pure : uMed.Pure := by
 intro v0 z1 i2 i3 i4 n5 i6 _ _ _ _ _ ⟨h1, h2, h3, h4, h5⟩
 have h2 : 0 ≤ i2 := h2
 have h3 : i2 ≤ i3 := h3
 have h4 : i3 ≤ i4 := h4
 have h5 : i4 < (z1.length : Int) := h5
 exact ⟨⟨h1, h2, h3, (by omega : i3 < (z1.length : Int))⟩, fun _ => ⟨⟨h1, (by omega : 0 ≤ i3), h4, h5⟩, fun _ => ⟨⟨h1, h2, h3, (by omega : i3 < (z1.length : Int))⟩, fun _ => trivial⟩⟩⟩
theorem uMedA.pure : uMedA.Pure := by
 intro v0 z1 i2 n3 i4 _ _ _ ⟨h1, h2, h3, h4⟩
 have h2 : 1 ≤ i2 := h2
 have h3 : i2 + 1 < (z1.length : Int) := h3
 have h4 : z1.length ≤ 60000 := h4
 rw [wr (a := i2 - 1) (by omega) (by omega), wr (a := i2 + 1) (by omega) (by omega)]
 exact ⟨⟨h1, (by omega : 0 ≤ i2 - 1), (by omega : i2 - 1 ≤ i2), (by omega : i2 ≤ i2 + 1), h3⟩, fun _ => trivial⟩
theorem quarter {n k : Int} (h0 : 0 ≤ n) (hn : n ≤ 60000) (hk : 0 ≤ k) (h3 : k ≤ 3) : IntKind.i64.wrap (0 + IntKind.i64.wrap (IntKind.i64.wrap (Int.tdiv (IntKind.i64.wrap (n - 0)) 4) * k)) = n / 4 * k := by
 have h1 : n / 4 * k ≤ n / 4 * 3 := Int.mul_le_mul_of_nonneg_left h3 (by omega)
 have h2 : 0 ≤ n / 4 * k := Int.mul_nonneg (by omega) hk
 rw [Int.sub_zero, wr (a := n) (by omega) (by omega), Int.tdiv_eq_ediv_of_nonneg h0, wr (a := n / 4) (by omega) (by omega), wr (a := n / 4 * k) (by omega) (by omega), Int.zero_add, wr (by omega) (by omega)]
theorem uPiv.pure : uPiv.Pure := by
 intro v0 z1 i2 i3 _ _ _ ⟨h1, h2, h3, h4, h5⟩
 obtain rfl : i2 = 0 := h2
 obtain rfl : i3 = (z1.length : Int) := h3
 have h4 : 12 < z1.length := h4
 have h5 : z1.length ≤ 60000 := h5
 intro n4
 have q1 := quarter (n := (z1.length : Int)) (k := 1) (by omega) (by omega) (by omega) (by omega)
 have q2 := quarter (n := (z1.length : Int)) (k := 2) (by omega) (by omega) (by omega) (by omega)
 have q3 := quarter (n := (z1.length : Int)) (k := 3) (by omega) (by omega) (by omega) (by omega)
 rw [q1, q2, q3]
 refine ⟨fun _ => ⟨fun h => ?_, fun _ => ?_⟩, fun _ => rfl⟩
 ·have h : 50 ≤ IntKind.i64.wrap ((z1.length : Int) - 0) := h
  rw [wr (by omega) (by omega)] at h
  refine ⟨⟨h1, (by omega : 1 ≤ (z1.length : Int) / 4 * 1), (by omega : (z1.length : Int) / 4 * 1 + 1 < (z1.length : Int)), h5⟩, fun _ => ⟨⟨h1, (by omega : 1 ≤ (z1.length : Int) / 4 * 2), (by omega : (z1.length : Int) / 4 * 2 + 1 < (z1.length : Int)), h5⟩,
   fun _ => ⟨⟨h1, (by omega : 1 ≤ (z1.length : Int) / 4 * 3), (by omega : (z1.length : Int) / 4 * 3 + 1 < (z1.length : Int)), h5⟩, fun _ => ⟨⟨h1, (by omega : 0 ≤ (z1.length : Int) / 4 * 1), (by omega : (z1.length : Int) / 4 * 1 ≤ (z1.length : Int) / 4 * 2), (by omega : (z1.length : Int) / 4 * 2 ≤ (z1.length : Int) / 4 * 3), (by omega : (z1.length : Int) / 4 * 3 < (z1.length : Int))⟩, fun _ => rfl⟩⟩⟩⟩
 ·exact ⟨⟨h1, (by omega : 0 ≤ (z1.length : Int) / 4 * 1), (by omega : (z1.length : Int) / 4 * 1 ≤ (z1.length : Int) / 4 * 2), (by omega : (z1.length : Int) / 4 * 2 ≤ (z1.length : Int) / 4 * 3), (by omega : (z1.length : Int) / 4 * 3 < (z1.length : Int))⟩, fun _ => rfl⟩
theorem uPart.pure : uPart.Pure := by
 intro v0 z1 i2 i3 _ _ _ ⟨h1, h2, h3, h4, h5⟩
 obtain rfl : i2 = 0 := h2
 obtain rfl : i3 = (z1.length : Int) := h3
 have h4 : 12 < z1.length := h4
 have h5 : z1.length ≤ 60000 := h5
 refine ⟨⟨show IntKind.i64.wrap (0 + 1) = 1 from wr (a := 0 + 1) (by omega) (by omega), rfl⟩, ?_⟩
 intro i4 i5 _ _ ⟨e4, e5⟩
 obtain rfl : i4 = 1 := e4
 obtain rfl : i5 = 0 := e5
 refine ⟨fun _ => ⟨⟨(by omega : (1 : Int) ≤ 1), (by omega : (1 : Int) ≤ (z1.length : Int))⟩, ?_⟩, fun h => by omega⟩
 intro i6 _ ⟨g1, g2⟩
 have g1 : 1 ≤ i6 := g1
 have g2 : i6 ≤ (z1.length : Int) := g2
 refine ⟨fun h => ?_, fun h => ⟨fun _ => rfl, fun hne => absurd (by omega : i6 = (z1.length : Int)) hne⟩⟩
 rw [wr (a := i6 - 1) (by omega) (by omega)]
 refine ⟨by omega, fun _ => ⟨by omega, fun _ => ⟨by omega, fun _ => ⟨by omega, fun _ => ⟨trivial, fun b7 h7 => ?_⟩⟩⟩⟩⟩
 have h7 : b7 = decide (z1.getD i6.toNat 0 < z1.getD (i6 - 1).toNat 0) := h7
 have := Rises.le (z := z1) h1 (i := i6 - 1) (j := i6) (by omega) (by omega) (by omega)
 rw [wr (a := i6 + 1) (by omega) (by omega)]
 refine ⟨fun _ => ⟨⟨(by omega : 1 ≤ i6 + 1), (by omega : i6 + 1 ≤ (z1.length : Int))⟩, (by omega : ((z1.length : Int) - (i6 + 1)).toNat < ((z1.length : Int) - i6).toNat)⟩, fun hb => ?_⟩
 rw [h7] at hb
 have := of_decide_eq_true hb
 omega
theorem uIns.pure : uIns.Pure := by
 intro v0 z1 i2 i3 _ _ _ ⟨h1, h2, h3, h5⟩
 obtain rfl : i2 = 0 := h2
 obtain rfl : i3 = (z1.length : Int) := h3
 have h5 : z1.length ≤ 60000 := h5
 refine ⟨⟨?_, ?_⟩, ?_⟩
 ·show 1 ≤ IntKind.i64.wrap (0 + 1)
  rw [wr (by omega) (by omega)]; omega
 ·show IntKind.i64.wrap (0 + 1) ≤ max (z1.length : Int) 1
  rw [wr (by omega) (by omega)]; omega
 intro i4 _ ⟨g1, g2⟩
 have g1 : 1 ≤ i4 := g1
 have g2 : i4 ≤ max (z1.length : Int) 1 := g2
 refine ⟨fun h => ⟨rfl, ?_⟩, fun _ => trivial⟩
 intro i5 _ hi5
 obtain rfl : i5 = i4 := hi5
 have hnx : uIns.I0 [.V v0, .Z z1, .I 0, .I (z1.length : Int), .I (IntKind.i64.wrap (i5 + 1))] ∧ uIns.I0M [.V v0, .Z z1, .I 0, .I (z1.length : Int), .I (IntKind.i64.wrap (i5 + 1))] < uIns.I0M [.V v0, .Z z1, .I 0, .I (z1.length : Int), .I i5] := by
  rw [wr (by omega) (by omega)]
  exact ⟨⟨(by omega : 1 ≤ i5 + 1), (by omega : i5 + 1 ≤ max (z1.length : Int) 1)⟩, (by omega : ((z1.length : Int) - (i5 + 1)).toNat < ((z1.length : Int) - i5).toNat)⟩
 refine ⟨fun _ => ?_, fun _ => hnx⟩
 rw [wr (a := i5 - 1) (by omega) (by omega)]
 refine ⟨by omega, fun _ => ⟨by omega, fun _ => ⟨by omega, fun _ => ⟨by omega, fun _ => ⟨trivial, fun b6 h6 => ⟨fun hb => ?_, fun _ => hnx⟩⟩⟩⟩⟩⟩
 have h6 : b6 = decide (z1.getD i5.toNat 0 < z1.getD (i5 - 1).toNat 0) := h6
 have := Rises.le (z := z1) h1 (i := i5 - 1) (j := i5) (by omega) (by omega) (by omega)
 rw [h6] at hb
 have := of_decide_eq_true hb
 omega
theorem uPdq.pure : uPdq.Pure := by
 intro v0 z1 i2 i3 i4 _ _ _ _ ⟨h1, h2, h3, h5, h6⟩
 obtain rfl : i2 = 0 := h2
 obtain rfl : i3 = (z1.length : Int) := h3
 have h5 : z1.length ≤ 60000 := h5
 have h6 : 0 < z1.length → 0 < i4 := h6
 refine ⟨⟨rfl, rfl, h6, rfl, rfl⟩, ?_⟩
 intro i5 i6 i7 b8 b9 _ _ _ ⟨e5, e6, e7, e8, e9⟩
 obtain rfl : i5 = 0 := e5
 obtain rfl : i6 = (z1.length : Int) := e6
 obtain rfl : b8 = true := e8
 obtain rfl : b9 = true := e9
 have e7 : 0 < z1.length → 0 < i7 := e7
 have hw : IntKind.i64.wrap ((z1.length : Int) - 0) = (z1.length : Int) := by rw [Int.sub_zero]; exact wr (by omega) (by omega)
 rw [hw]
 refine ⟨fun _ => ⟨⟨h1, rfl, rfl, h5⟩, fun _ => trivial⟩, fun h => ⟨fun h7 => ?_, fun _ => ⟨fun hb => (by cases hb), fun _ => ⟨⟨h1, rfl, rfl, (by omega : 12 < z1.length), h5⟩, ?_⟩⟩⟩⟩
 ·have := e7 (by omega)
  omega
 ·intro i10 i11 h11 _ _
  obtain rfl : i11 = 1 := h11
  refine ⟨fun h => by omega, fun _ => ⟨fun _ => ⟨fun _ => ⟨⟨h1, rfl, rfl, (by omega : 12 < z1.length), h5⟩, fun b12 (hb : b12 = true) => ⟨fun _ => trivial, fun h => (by rw [hb] at h; cases h)⟩⟩, fun h => absurd rfl h⟩, fun h => (by cases h)⟩⟩
theorem us8w {a : Int} (h1 : 0 ≤ a) (h2 : a < 256) : IntKind.u8.wrap a = a := by rw [IntKind.wrap_u8]; omega
def lenTab : ByteArray := ⟨#[0, 1, 2, 2, 3, 3, 3, 3, 4, 4, 4, 4, 4, 4, 4, 4, 5, 5, 5, 5, 5, 5, 5, 5, 5, 5, 5, 5, 5, 5, 5, 5, 6, 6, 6, 6, 6, 6, 6, 6, 6, 6, 6, 6, 6, 6, 6, 6, 6, 6, 6, 6, 6, 6, 6, 6, 6, 6, 6, 6, 6, 6, 6, 6, 7, 7, 7, 7, 7, 7, 7, 7, 7, 7, 7, 7, 7, 7, 7, 7, 7, 7, 7, 7, 7, 7, 7, 7, 7, 7, 7, 7, 7, 7, 7, 7, 7, 7, 7, 7, 7, 7, 7, 7, 7, 7, 7, 7, 7, 7, 7, 7, 7, 7, 7, 7, 7, 7, 7, 7, 7, 7, 7, 7, 7, 7, 7, 7, 8, 8, 8, 8, 8, 8, 8, 8, 8, 8, 8, 8, 8, 8, 8, 8, 8, 8, 8, 8, 8, 8, 8, 8, 8, 8, 8, 8, 8, 8, 8, 8, 8, 8, 8, 8, 8, 8, 8, 8, 8, 8, 8, 8, 8, 8, 8, 8, 8, 8, 8, 8, 8, 8, 8, 8, 8, 8, 8, 8, 8, 8, 8, 8, 8, 8, 8, 8, 8, 8, 8, 8, 8, 8, 8, 8, 8, 8, 8, 8, 8, 8, 8, 8, 8, 8, 8, 8, 8, 8, 8, 8, 8, 8, 8, 8, 8, 8, 8, 8, 8, 8, 8, 8, 8, 8, 8, 8, 8, 8, 8, 8, 8, 8, 8, 8, 8, 8, 8, 8, 8, 8, 8, 8, 8, 8, 8, 8]⟩
theorem len_tab : ∀ k : Nat, k < 256 → 0 < k → 0 < lenTab.data.toList.getD k 0 := by decide +kernel
theorem len_at {a : Int} (h0 : 0 < a) (h1 : a < 256) : 1 ≤ byteAt lenTab a ∧ byteAt lenTab a < 256 := by
 have := len_tab a.toNat (by omega) (by omega)
 have h2 : 0 < (lenTab.data.toList.getD a.toNat 0).toNat := UInt8.lt_iff_toNat_lt.1 this
 have h3 := (lenTab.data.toList.getD a.toNat 0).toNat_lt
 show (1 : Int) ≤ ((lenTab.data.toList.getD a.toNat 0).toNat : Int) ∧ ((lenTab.data.toList.getD a.toNat 0).toNat : Int) < 256
 omega
theorem byte_ge (s : ByteArray) (a : Int) : 0 ≤ byteAt s a ∧ byteAt s a < 256 := by
 have h3 := (s.data.toList.getD a.toNat 0).toNat_lt
 show (0 : Int) ≤ ((s.data.toList.getD a.toNat 0).toNat : Int) ∧ ((s.data.toList.getD a.toNat 0).toNat : Int) < 256
 omega
theorem uLen64.pure : uLen64.Pure := by
 intro i0 ⟨hh0, hh1⟩ hp
 have hp : i0 < 65536 := hp
 have hsz : ((lenTab.size : Nat) : Int) = 256 := by decide +kernel
 have hs8 : shrI .u64 i0 8 = i0 / 256 := by
  show Int.fdiv i0 (2 ^ (Nat.min (8 : Int).toNat 64)) = _
  rw [show (2 : Int) ^ (Nat.min (8 : Int).toNat 64) = 256 from by decide, Int.fdiv_eq_ediv_of_nonneg _ (by omega)]
 refine ⟨fun h => by omega, fun _ => ⟨fun h => by omega, fun _ => ⟨fun h => ?_, fun h => ?_⟩⟩⟩
 ·have e : IntKind.u8.wrap (shrI .u64 i0 8) = i0 / 256 := by rw [hs8]; exact us8w (by omega) (by omega)
  rw [e]
  refine ⟨by omega, fun _ => ⟨by show i0 / 256 < ((lenTab.size : Nat) : Int); rw [hsz]; omega, fun _ _ => ?_⟩⟩
  show 0 < IntKind.i64.wrap (IntKind.i64.wrap (0 + 8) + IntKind.i64.wrap (byteAt lenTab (i0 / 256)))
  have hb := byte_ge lenTab (i0 / 256)
  rw [wr (a := 0 + 8) (by omega) (by omega), wr (a := byteAt lenTab (i0 / 256)) (by omega) (by omega), wr (by omega) (by omega)]
  omega
 ·have e : IntKind.u8.wrap i0 = i0 := us8w (by omega) (by omega)
  rw [e]
  refine ⟨by omega, fun _ => ⟨by show i0 < ((lenTab.size : Nat) : Int); rw [hsz]; omega, fun _ hpos => ?_⟩⟩
  have hpos : 0 < i0 := hpos
  show 0 < IntKind.i64.wrap (0 + IntKind.i64.wrap (byteAt lenTab i0))
  have hb := len_at hpos (by omega)
  rw [wr (a := byteAt lenTab i0) (by omega) (by omega), wr (by omega) (by omega)]
  omega
theorem uLen.pure : uLen.Pure := by
 intro i0 _ hp
 exact ⟨hp, fun i1 h _ => h⟩
theorem uSort.pure : uSort.Pure := by
 intro v0 z1 _ ⟨h1, h2⟩
 have h2 : z1.length ≤ 60000 := h2
 have hw : IntKind.u64.wrap (z1.length : Int) = (z1.length : Int) := by
  exact wrap_u64_eq (by omega) (by omega)
 rw [hw]
 refine ⟨(by omega : (z1.length : Int) < 65536), fun i2 (hi : 0 < (z1.length : Int) → 0 < i2) _ => ⟨⟨h1, rfl, rfl, h2, fun h => hi (by exact_mod_cast h)⟩, fun _ => trivial⟩⟩
end Go.Vc