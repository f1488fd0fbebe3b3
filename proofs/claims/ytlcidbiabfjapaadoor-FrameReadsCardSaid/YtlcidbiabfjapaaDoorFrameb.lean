/-
  Printed by wip/vct.py: the conditions of functions, by their contracts.
  Records in frames: three laws more.
-/
import Derived.Test.YtlcidbiabfjapaaDoorFrame
import Derived.KernelRfl
set_option linter.unusedVariables false
set_option linter.unusedSimpArgs false
namespace Go.Vc
set_option linter.unusedVariables false
def LFrameBack.vc : VC :=
 (.all .V
 (.all .L
 (.all .I
 (.all .S
 (.know (.has .u64 (.at 2))
 (.know (.ssz (.at 3))
 (.know (.ekok [.str] (.at 1))
 (.post 0 [(.at 0), (.at 1), (.at 2), (.at 3)]
 (.pre 1 [(.at 0), (.at 1), (.at 2)]
 (.all .S
 (.all .V
 (.all .Z
 (.post 1 [(.at 0), (.at 1), (.at 2), (.at 4), (.at 5), (.at 6)]
 (.know (.ssz (.at 4))
 (.know (.allHas .i64 (.at 6))
 (.and
  (.imp (.o2 .lt (.int 0) (.o1 .slen (.at 3))) true
  (.and
   (.imp (.o2 .eq (.o2 .byte (.at 3) (.int 0)) (.int 79)) true
   (.pre 2 []
   (.all .B
   (.post 2 [(.at 7)]
   (.ret [(.at 0), (.at 1), (.at 2), (.at 3), (.at 7)])))))
   (.imp (.o2 .eq (.o2 .byte (.at 3) (.int 0)) (.int 79)) false
   (.pre 3 [(.at 3), (.int 30)]
   (.all .S
   (.post 3 [(.at 3), (.int 30), (.at 7)]
   (.know (.ssz (.at 7))
   (.obl (.o2 .le (.o1 .slen (.o2 .cat (.at 4) (.at 7))) (.int 9223372036854775807))
   (.pre 4 [(.o2 .cat (.at 4) (.at 7)), (.at 2)]
   (.all .V
   (.all .L
   (.all .I
   (.post 4 [(.o2 .cat (.at 4) (.at 7)), (.at 2), (.at 8), (.at 9), (.at 10)]
   (.know (.has .i64 (.at 10))
   (.know (.ekok [.str] (.at 9))
   (.and
    (.imp (.o1 .not (.o2 .eq (.o1 .llen (.at 9)) (.o1 .lilen (.at 6)))) true
    (.ret [(.at 0), (.at 1), (.at 2), (.at 3), (.bool false)]))
    (.imp (.o1 .not (.o2 .eq (.o1 .llen (.at 9)) (.o1 .lilen (.at 6)))) false
    (.and
     (.imp (.o1 .not (.o2 .eq (.at 10) (.o1 .slen (.at 4)))) true
     (.ret [(.at 0), (.at 1), (.at 2), (.at 3), (.bool false)]))
     (.imp (.o1 .not (.o2 .eq (.at 10) (.o1 .slen (.at 4)))) false
     (.inv 0 [(.at 0), (.at 1), (.at 2), (.at 3), (.int 0)]
     (.all .I
     (.know (.has .i64 (.at 11))
     (.asm 0 [(.at 0), (.at 1), (.at 2), (.at 3), (.at 11)]
     (.and
      (.imp (.o2 .lt (.at 11) (.o1 .llen (.at 9))) true
      (.obl (.o2 .le (.int 0) (.at 11))
      (.obl (.o2 .lt (.at 11) (.o1 .llen (.at 1)))
      (.and
       (.pre 3 [(.o1 .asS (.o2 .lget (.at 1) (.at 11))), (.int 60)]
       (.all .S
       (.post 3 [(.o1 .asS (.o2 .lget (.at 1) (.at 11))), (.int 60), (.at 12)]
       (.know (.ssz (.at 12))
       (.and
        (.imp (.o1 .not (.o2 .eqs (.o1 .asS (.o2 .lget (.at 9) (.at 11))) (.at 12))) true
        (.ret [(.at 0), (.at 1), (.at 2), (.at 3), (.bool false)]))
        (.imp (.o1 .not (.o2 .eqs (.o1 .asS (.o2 .lget (.at 9) (.at 11))) (.at 12))) false
        (.back 0 [(.at 0), (.at 1), (.at 2), (.at 3), (.at 11)] [(.at 0), (.at 1), (.at 2), (.at 3), (.o2 (.add .i64) (.at 11) (.int 1))])))))))
       (.and
        (.pre 3 [(.o1 .asS (.o2 .lget (.at 1) (.at 11))), (.int 60)]
        (.all .S
        (.post 3 [(.o1 .asS (.o2 .lget (.at 1) (.at 11))), (.int 60), (.at 12)]
        (.know (.ssz (.at 12))
        (.and
         (.imp (.o1 .not (.o2 .eqs (.o1 .asS (.o2 .lget (.at 9) (.at 11))) (.at 12))) true
         (.ret [(.at 0), (.at 1), (.at 2), (.at 3), (.bool false)]))
         (.imp (.o1 .not (.o2 .eqs (.o1 .asS (.o2 .lget (.at 9) (.at 11))) (.at 12))) false
         (.back 0 [(.at 0), (.at 1), (.at 2), (.at 3), (.at 11)] [(.at 0), (.at 1), (.at 2), (.at 3), (.o2 (.add .i64) (.at 11) (.int 1))])))))))
        (.pre 3 [(.o1 .asS (.o2 .lget (.at 1) (.at 11))), (.int 60)]
        (.all .S
        (.post 3 [(.o1 .asS (.o2 .lget (.at 1) (.at 11))), (.int 60), (.at 12)]
        (.know (.ssz (.at 12))
        (.and
         (.imp (.o1 .not (.o2 .eqs (.o1 .asS (.o2 .lget (.at 9) (.at 11))) (.at 12))) true
         (.ret [(.at 0), (.at 1), (.at 2), (.at 3), (.bool false)]))
         (.imp (.o1 .not (.o2 .eqs (.o1 .asS (.o2 .lget (.at 9) (.at 11))) (.at 12))) false
         (.back 0 [(.at 0), (.at 1), (.at 2), (.at 3), (.at 11)] [(.at 0), (.at 1), (.at 2), (.at 3), (.o2 (.add .i64) (.at 11) (.int 1))]))))))))))))
      (.imp (.o2 .lt (.at 11) (.o1 .llen (.at 9))) false
      (.pre 2 []
      (.all .B
      (.post 2 [(.at 12)]
      (.ret [(.at 0), (.at 1), (.at 2), (.at 3), (.at 12)])))))))))))))))))))))))))))))
  (.imp (.o2 .lt (.int 0) (.o1 .slen (.at 3))) false
  (.pre 3 [(.at 3), (.int 30)]
  (.all .S
  (.post 3 [(.at 3), (.int 30), (.at 7)]
  (.know (.ssz (.at 7))
  (.obl (.o2 .le (.o1 .slen (.o2 .cat (.at 4) (.at 7))) (.int 9223372036854775807))
  (.pre 4 [(.o2 .cat (.at 4) (.at 7)), (.at 2)]
  (.all .V
  (.all .L
  (.all .I
  (.post 4 [(.o2 .cat (.at 4) (.at 7)), (.at 2), (.at 8), (.at 9), (.at 10)]
  (.know (.has .i64 (.at 10))
  (.know (.ekok [.str] (.at 9))
  (.and
   (.imp (.o1 .not (.o2 .eq (.o1 .llen (.at 9)) (.o1 .lilen (.at 6)))) true
   (.ret [(.at 0), (.at 1), (.at 2), (.at 3), (.bool false)]))
   (.imp (.o1 .not (.o2 .eq (.o1 .llen (.at 9)) (.o1 .lilen (.at 6)))) false
   (.and
    (.imp (.o1 .not (.o2 .eq (.at 10) (.o1 .slen (.at 4)))) true
    (.ret [(.at 0), (.at 1), (.at 2), (.at 3), (.bool false)]))
    (.imp (.o1 .not (.o2 .eq (.at 10) (.o1 .slen (.at 4)))) false
    (.inv 0 [(.at 0), (.at 1), (.at 2), (.at 3), (.int 0)]
    (.all .I
    (.know (.has .i64 (.at 11))
    (.asm 0 [(.at 0), (.at 1), (.at 2), (.at 3), (.at 11)]
    (.and
     (.imp (.o2 .lt (.at 11) (.o1 .llen (.at 9))) true
     (.obl (.o2 .le (.int 0) (.at 11))
     (.obl (.o2 .lt (.at 11) (.o1 .llen (.at 1)))
     (.and
      (.pre 3 [(.o1 .asS (.o2 .lget (.at 1) (.at 11))), (.int 60)]
      (.all .S
      (.post 3 [(.o1 .asS (.o2 .lget (.at 1) (.at 11))), (.int 60), (.at 12)]
      (.know (.ssz (.at 12))
      (.and
       (.imp (.o1 .not (.o2 .eqs (.o1 .asS (.o2 .lget (.at 9) (.at 11))) (.at 12))) true
       (.ret [(.at 0), (.at 1), (.at 2), (.at 3), (.bool false)]))
       (.imp (.o1 .not (.o2 .eqs (.o1 .asS (.o2 .lget (.at 9) (.at 11))) (.at 12))) false
       (.back 0 [(.at 0), (.at 1), (.at 2), (.at 3), (.at 11)] [(.at 0), (.at 1), (.at 2), (.at 3), (.o2 (.add .i64) (.at 11) (.int 1))])))))))
      (.and
       (.pre 3 [(.o1 .asS (.o2 .lget (.at 1) (.at 11))), (.int 60)]
       (.all .S
       (.post 3 [(.o1 .asS (.o2 .lget (.at 1) (.at 11))), (.int 60), (.at 12)]
       (.know (.ssz (.at 12))
       (.and
        (.imp (.o1 .not (.o2 .eqs (.o1 .asS (.o2 .lget (.at 9) (.at 11))) (.at 12))) true
        (.ret [(.at 0), (.at 1), (.at 2), (.at 3), (.bool false)]))
        (.imp (.o1 .not (.o2 .eqs (.o1 .asS (.o2 .lget (.at 9) (.at 11))) (.at 12))) false
        (.back 0 [(.at 0), (.at 1), (.at 2), (.at 3), (.at 11)] [(.at 0), (.at 1), (.at 2), (.at 3), (.o2 (.add .i64) (.at 11) (.int 1))])))))))
       (.pre 3 [(.o1 .asS (.o2 .lget (.at 1) (.at 11))), (.int 60)]
       (.all .S
       (.post 3 [(.o1 .asS (.o2 .lget (.at 1) (.at 11))), (.int 60), (.at 12)]
       (.know (.ssz (.at 12))
       (.and
        (.imp (.o1 .not (.o2 .eqs (.o1 .asS (.o2 .lget (.at 9) (.at 11))) (.at 12))) true
        (.ret [(.at 0), (.at 1), (.at 2), (.at 3), (.bool false)]))
        (.imp (.o1 .not (.o2 .eqs (.o1 .asS (.o2 .lget (.at 9) (.at 11))) (.at 12))) false
        (.back 0 [(.at 0), (.at 1), (.at 2), (.at 3), (.at 11)] [(.at 0), (.at 1), (.at 2), (.at 3), (.o2 (.add .i64) (.at 11) (.int 1))]))))))))))))
     (.imp (.o2 .lt (.at 11) (.o1 .llen (.at 9))) false
     (.pre 2 []
     (.all .B
     (.post 2 [(.at 12)]
     (.ret [(.at 0), (.at 1), (.at 2), (.at 3), (.at 12)])))))))))))))))))))))))))))))))))))))))))))
def LFrameBack.Pure : Prop :=
 ∀ (v0 : Value),
 ∀ (l1 : List D),
 ∀ (i2 : Int),
 ∀ (s3 : ByteArray),
 (0 ≤ i2 ∧ i2 < 18446744073709551616) →
 ((s3.size : Int) ≤ 9223372036854775807) →
 (EK.ok [.str] (D.L l1)) →
 LFrameBack.sig.pre [(D.V v0), (D.L l1), (D.I i2), (D.S s3)] →
 Laid.sig.pre [(D.V v0), (D.L l1), (D.I i2)] ∧ (
 ∀ (s4 : ByteArray),
 ∀ (v5 : Value),
 ∀ (z6 : List Int),
 Laid.sig.post [(D.V v0), (D.L l1), (D.I i2), (D.S s4), (D.V v5), (D.Z z6)] →
 ((s4.size : Int) ≤ 9223372036854775807) →
 (∀ x ∈ z6, IntKind.has .i64 x) →
 ((
  ((0 : Int) < ((s3.size : Nat) : Int)) →
  ((
   ((byteAt s3 (0 : Int)) = (79 : Int)) →
   Awake06.sig.pre [] ∧ (
   ∀ (b7 : Bool),
   Awake06.sig.post [(D.B b7)] →
   LFrameBack.sig.post [(D.V v0), (D.L l1), (D.I i2), (D.S s3), (D.B b7)])) ∧ (
   ((byteAt s3 (0 : Int)) ≠ (79 : Int)) →
   Cut.sig.pre [(D.S s3), (D.I (30 : Int))] ∧ (
   ∀ (s7 : ByteArray),
   Cut.sig.post [(D.S s3), (D.I (30 : Int)), (D.S s7)] →
   ((s7.size : Int) ≤ 9223372036854775807) →
   ((((s4 ++ s7).size : Nat) : Int) ≤ (9223372036854775807 : Int)) ∧ (((((s4 ++ s7).size : Nat) : Int) ≤ (9223372036854775807 : Int)) →
   FScan.sig.pre [(D.S (s4 ++ s7)), (D.I i2)] ∧ (
   ∀ (v8 : Value),
   ∀ (l9 : List D),
   ∀ (i10 : Int),
   FScan.sig.post [(D.S (s4 ++ s7)), (D.I i2), (D.V v8), (D.L l9), (D.I i10)] →
   (-9223372036854775808 ≤ i10 ∧ i10 < 9223372036854775808) →
   (EK.ok [.str] (D.L l9)) →
   ((
    (((l9.length : Nat) : Int) ≠ ((z6.length : Nat) : Int)) →
    LFrameBack.sig.post [(D.V v0), (D.L l1), (D.I i2), (D.S s3), (D.B false)]) ∧ (
    (((l9.length : Nat) : Int) = ((z6.length : Nat) : Int)) →
    ((
     (i10 ≠ ((s4.size : Nat) : Int)) →
     LFrameBack.sig.post [(D.V v0), (D.L l1), (D.I i2), (D.S s3), (D.B false)]) ∧ (
     (i10 = ((s4.size : Nat) : Int)) →
     LFrameBack.I0 [(D.V v0), (D.L l1), (D.I i2), (D.S s3), (D.I (0 : Int))] ∧ (
     ∀ (i11 : Int),
     (-9223372036854775808 ≤ i11 ∧ i11 < 9223372036854775808) →
     LFrameBack.I0 [(D.V v0), (D.L l1), (D.I i2), (D.S s3), (D.I i11)] →
     ((
      (i11 < ((l9.length : Nat) : Int)) →
      ((0 : Int) ≤ i11) ∧ (((0 : Int) ≤ i11) →
      (i11 < ((l1.length : Nat) : Int)) ∧ ((i11 < ((l1.length : Nat) : Int)) →
      ((
       Cut.sig.pre [(D.S ((l1.getD i11.toNat default)).toS), (D.I (60 : Int))] ∧ (
       ∀ (s12 : ByteArray),
       Cut.sig.post [(D.S ((l1.getD i11.toNat default)).toS), (D.I (60 : Int)), (D.S s12)] →
       ((s12.size : Int) ≤ 9223372036854775807) →
       ((
        (((l9.getD i11.toNat default)).toS ≠ s12) →
        LFrameBack.sig.post [(D.V v0), (D.L l1), (D.I i2), (D.S s3), (D.B false)]) ∧ (
        (((l9.getD i11.toNat default)).toS = s12) →
        LFrameBack.I0 [(D.V v0), (D.L l1), (D.I i2), (D.S s3), (D.I (IntKind.wrap .i64 (i11 + (1 : Int))))] ∧ LFrameBack.I0M [(D.V v0), (D.L l1), (D.I i2), (D.S s3), (D.I (IntKind.wrap .i64 (i11 + (1 : Int))))] < LFrameBack.I0M [(D.V v0), (D.L l1), (D.I i2), (D.S s3), (D.I i11)])))) ∧ (
       ((
        Cut.sig.pre [(D.S ((l1.getD i11.toNat default)).toS), (D.I (60 : Int))] ∧ (
        ∀ (s12 : ByteArray),
        Cut.sig.post [(D.S ((l1.getD i11.toNat default)).toS), (D.I (60 : Int)), (D.S s12)] →
        ((s12.size : Int) ≤ 9223372036854775807) →
        ((
         (((l9.getD i11.toNat default)).toS ≠ s12) →
         LFrameBack.sig.post [(D.V v0), (D.L l1), (D.I i2), (D.S s3), (D.B false)]) ∧ (
         (((l9.getD i11.toNat default)).toS = s12) →
         LFrameBack.I0 [(D.V v0), (D.L l1), (D.I i2), (D.S s3), (D.I (IntKind.wrap .i64 (i11 + (1 : Int))))] ∧ LFrameBack.I0M [(D.V v0), (D.L l1), (D.I i2), (D.S s3), (D.I (IntKind.wrap .i64 (i11 + (1 : Int))))] < LFrameBack.I0M [(D.V v0), (D.L l1), (D.I i2), (D.S s3), (D.I i11)])))) ∧ (
        Cut.sig.pre [(D.S ((l1.getD i11.toNat default)).toS), (D.I (60 : Int))] ∧ (
        ∀ (s12 : ByteArray),
        Cut.sig.post [(D.S ((l1.getD i11.toNat default)).toS), (D.I (60 : Int)), (D.S s12)] →
        ((s12.size : Int) ≤ 9223372036854775807) →
        ((
         (((l9.getD i11.toNat default)).toS ≠ s12) →
         LFrameBack.sig.post [(D.V v0), (D.L l1), (D.I i2), (D.S s3), (D.B false)]) ∧ (
         (((l9.getD i11.toNat default)).toS = s12) →
         LFrameBack.I0 [(D.V v0), (D.L l1), (D.I i2), (D.S s3), (D.I (IntKind.wrap .i64 (i11 + (1 : Int))))] ∧ LFrameBack.I0M [(D.V v0), (D.L l1), (D.I i2), (D.S s3), (D.I (IntKind.wrap .i64 (i11 + (1 : Int))))] < LFrameBack.I0M [(D.V v0), (D.L l1), (D.I i2), (D.S s3), (D.I i11)])))))))))) ∧ (
      (((l9.length : Nat) : Int) ≤ i11) →
      Awake06.sig.pre [] ∧ (
      ∀ (b12 : Bool),
      Awake06.sig.post [(D.B b12)] →
      LFrameBack.sig.post [(D.V v0), (D.L l1), (D.I i2), (D.S s3), (D.B b12)])))))))))))))) ∧ (
  (((s3.size : Nat) : Int) ≤ (0 : Int)) →
  Cut.sig.pre [(D.S s3), (D.I (30 : Int))] ∧ (
  ∀ (s7 : ByteArray),
  Cut.sig.post [(D.S s3), (D.I (30 : Int)), (D.S s7)] →
  ((s7.size : Int) ≤ 9223372036854775807) →
  ((((s4 ++ s7).size : Nat) : Int) ≤ (9223372036854775807 : Int)) ∧ (((((s4 ++ s7).size : Nat) : Int) ≤ (9223372036854775807 : Int)) →
  FScan.sig.pre [(D.S (s4 ++ s7)), (D.I i2)] ∧ (
  ∀ (v8 : Value),
  ∀ (l9 : List D),
  ∀ (i10 : Int),
  FScan.sig.post [(D.S (s4 ++ s7)), (D.I i2), (D.V v8), (D.L l9), (D.I i10)] →
  (-9223372036854775808 ≤ i10 ∧ i10 < 9223372036854775808) →
  (EK.ok [.str] (D.L l9)) →
  ((
   (((l9.length : Nat) : Int) ≠ ((z6.length : Nat) : Int)) →
   LFrameBack.sig.post [(D.V v0), (D.L l1), (D.I i2), (D.S s3), (D.B false)]) ∧ (
   (((l9.length : Nat) : Int) = ((z6.length : Nat) : Int)) →
   ((
    (i10 ≠ ((s4.size : Nat) : Int)) →
    LFrameBack.sig.post [(D.V v0), (D.L l1), (D.I i2), (D.S s3), (D.B false)]) ∧ (
    (i10 = ((s4.size : Nat) : Int)) →
    LFrameBack.I0 [(D.V v0), (D.L l1), (D.I i2), (D.S s3), (D.I (0 : Int))] ∧ (
    ∀ (i11 : Int),
    (-9223372036854775808 ≤ i11 ∧ i11 < 9223372036854775808) →
    LFrameBack.I0 [(D.V v0), (D.L l1), (D.I i2), (D.S s3), (D.I i11)] →
    ((
     (i11 < ((l9.length : Nat) : Int)) →
     ((0 : Int) ≤ i11) ∧ (((0 : Int) ≤ i11) →
     (i11 < ((l1.length : Nat) : Int)) ∧ ((i11 < ((l1.length : Nat) : Int)) →
     ((
      Cut.sig.pre [(D.S ((l1.getD i11.toNat default)).toS), (D.I (60 : Int))] ∧ (
      ∀ (s12 : ByteArray),
      Cut.sig.post [(D.S ((l1.getD i11.toNat default)).toS), (D.I (60 : Int)), (D.S s12)] →
      ((s12.size : Int) ≤ 9223372036854775807) →
      ((
       (((l9.getD i11.toNat default)).toS ≠ s12) →
       LFrameBack.sig.post [(D.V v0), (D.L l1), (D.I i2), (D.S s3), (D.B false)]) ∧ (
       (((l9.getD i11.toNat default)).toS = s12) →
       LFrameBack.I0 [(D.V v0), (D.L l1), (D.I i2), (D.S s3), (D.I (IntKind.wrap .i64 (i11 + (1 : Int))))] ∧ LFrameBack.I0M [(D.V v0), (D.L l1), (D.I i2), (D.S s3), (D.I (IntKind.wrap .i64 (i11 + (1 : Int))))] < LFrameBack.I0M [(D.V v0), (D.L l1), (D.I i2), (D.S s3), (D.I i11)])))) ∧ (
      ((
       Cut.sig.pre [(D.S ((l1.getD i11.toNat default)).toS), (D.I (60 : Int))] ∧ (
       ∀ (s12 : ByteArray),
       Cut.sig.post [(D.S ((l1.getD i11.toNat default)).toS), (D.I (60 : Int)), (D.S s12)] →
       ((s12.size : Int) ≤ 9223372036854775807) →
       ((
        (((l9.getD i11.toNat default)).toS ≠ s12) →
        LFrameBack.sig.post [(D.V v0), (D.L l1), (D.I i2), (D.S s3), (D.B false)]) ∧ (
        (((l9.getD i11.toNat default)).toS = s12) →
        LFrameBack.I0 [(D.V v0), (D.L l1), (D.I i2), (D.S s3), (D.I (IntKind.wrap .i64 (i11 + (1 : Int))))] ∧ LFrameBack.I0M [(D.V v0), (D.L l1), (D.I i2), (D.S s3), (D.I (IntKind.wrap .i64 (i11 + (1 : Int))))] < LFrameBack.I0M [(D.V v0), (D.L l1), (D.I i2), (D.S s3), (D.I i11)])))) ∧ (
       Cut.sig.pre [(D.S ((l1.getD i11.toNat default)).toS), (D.I (60 : Int))] ∧ (
       ∀ (s12 : ByteArray),
       Cut.sig.post [(D.S ((l1.getD i11.toNat default)).toS), (D.I (60 : Int)), (D.S s12)] →
       ((s12.size : Int) ≤ 9223372036854775807) →
       ((
        (((l9.getD i11.toNat default)).toS ≠ s12) →
        LFrameBack.sig.post [(D.V v0), (D.L l1), (D.I i2), (D.S s3), (D.B false)]) ∧ (
        (((l9.getD i11.toNat default)).toS = s12) →
        LFrameBack.I0 [(D.V v0), (D.L l1), (D.I i2), (D.S s3), (D.I (IntKind.wrap .i64 (i11 + (1 : Int))))] ∧ LFrameBack.I0M [(D.V v0), (D.L l1), (D.I i2), (D.S s3), (D.I (IntKind.wrap .i64 (i11 + (1 : Int))))] < LFrameBack.I0M [(D.V v0), (D.L l1), (D.I i2), (D.S s3), (D.I i11)])))))))))) ∧ (
     (((l9.length : Nat) : Int) ≤ i11) →
     Awake06.sig.pre [] ∧ (
     ∀ (b12 : Bool),
     Awake06.sig.post [(D.B b12)] →
     LFrameBack.sig.post [(D.V v0), (D.L l1), (D.I i2), (D.S s3), (D.B b12)]))))))))))))))
theorem LFrameBack.den : LFrameBack.vc.den2 (mkEnv LFrameBack.sig [Laid.sig, Awake06.sig, Cut.sig, FScan.sig] [(LFrameBack.I0, LFrameBack.I0M)]) [] = LFrameBack.Pure := by kernel_rfl
def LFrameTorn.vc : VC :=
 (.all .V
 (.all .L
 (.all .I
 (.all .I
 (.know (.has .u64 (.at 2))
 (.know (.has .i64 (.at 3))
 (.know (.ekok [.str] (.at 1))
 (.post 0 [(.at 0), (.at 1), (.at 2), (.at 3)]
 (.pre 1 [(.at 0), (.at 1), (.at 2)]
 (.all .S
 (.all .V
 (.all .Z
 (.post 1 [(.at 0), (.at 1), (.at 2), (.at 4), (.at 5), (.at 6)]
 (.know (.ssz (.at 4))
 (.know (.allHas .i64 (.at 6))
 (.and
  (.imp (.o2 .lt (.at 3) (.int 0)) true
  (.pre 2 []
  (.all .B
  (.post 2 [(.at 7)]
  (.ret [(.at 0), (.at 1), (.at 2), (.at 3), (.at 7)])))))
  (.imp (.o2 .lt (.at 3) (.int 0)) false
  (.and
   (.imp (.o2 .lt (.o1 .slen (.at 4)) (.at 3)) true
   (.pre 2 []
   (.all .B
   (.post 2 [(.at 7)]
   (.ret [(.at 0), (.at 1), (.at 2), (.at 3), (.at 7)])))))
   (.imp (.o2 .lt (.o1 .slen (.at 4)) (.at 3)) false
   (.inv 0 [(.at 0), (.at 1), (.at 2), (.at 3), (.int 0), (.int 0), (.int 0)]
   (.all .I
   (.all .I
   (.all .I
   (.know (.has .i64 (.at 7))
   (.know (.has .i64 (.at 8))
   (.know (.has .i64 (.at 9))
   (.asm 0 [(.at 0), (.at 1), (.at 2), (.at 3), (.at 7), (.at 8), (.at 9)]
   (.and
    (.imp (.o2 .lt (.at 9) (.o1 .lilen (.at 6))) true
    (.obl (.o2 .le (.int 0) (.at 9))
    (.and
     (.imp (.o2 .le (.o2 .liget (.at 6) (.at 9)) (.at 3)) true
     (.back 0 [(.at 0), (.at 1), (.at 2), (.at 3), (.at 7), (.at 8), (.at 9)] [(.at 0), (.at 1), (.at 2), (.at 3), (.o2 (.add .i64) (.at 7) (.int 1)), (.o2 .liget (.at 6) (.at 9)), (.o2 (.add .i64) (.at 9) (.int 1))]))
     (.imp (.o2 .le (.o2 .liget (.at 6) (.at 9)) (.at 3)) false
     (.back 0 [(.at 0), (.at 1), (.at 2), (.at 3), (.at 7), (.at 8), (.at 9)] [(.at 0), (.at 1), (.at 2), (.at 3), (.at 7), (.at 8), (.o2 (.add .i64) (.at 9) (.int 1))])))))
    (.imp (.o2 .lt (.at 9) (.o1 .lilen (.at 6))) false
    (.obl (.o2 .le (.int 0) (.at 3))
    (.obl (.o2 .le (.at 3) (.o1 .slen (.at 4)))
    (.pre 3 [(.o3 .ssub (.at 4) (.int 0) (.at 3)), (.at 2)]
    (.all .V
    (.all .L
    (.all .I
    (.post 3 [(.o3 .ssub (.at 4) (.int 0) (.at 3)), (.at 2), (.at 10), (.at 11), (.at 12)]
    (.know (.has .i64 (.at 12))
    (.know (.ekok [.str] (.at 11))
    (.and
     (.imp (.o1 .not (.o2 .eq (.o1 .llen (.at 11)) (.at 7))) true
     (.ret [(.at 0), (.at 1), (.at 2), (.at 3), (.bool false)]))
     (.imp (.o1 .not (.o2 .eq (.o1 .llen (.at 11)) (.at 7))) false
     (.and
      (.imp (.o1 .not (.o2 .eq (.at 12) (.at 8))) true
      (.ret [(.at 0), (.at 1), (.at 2), (.at 3), (.bool false)]))
      (.imp (.o1 .not (.o2 .eq (.at 12) (.at 8))) false
      (.inv 1 [(.at 0), (.at 1), (.at 2), (.at 3), (.int 0)]
      (.all .I
      (.know (.has .i64 (.at 13))
      (.asm 1 [(.at 0), (.at 1), (.at 2), (.at 3), (.at 13)]
      (.and
       (.imp (.o2 .lt (.at 13) (.o1 .llen (.at 11))) true
       (.obl (.o2 .le (.int 0) (.at 13))
       (.obl (.o2 .lt (.at 13) (.o1 .llen (.at 1)))
       (.and
        (.pre 4 [(.o1 .asS (.o2 .lget (.at 1) (.at 13))), (.int 60)]
        (.all .S
        (.post 4 [(.o1 .asS (.o2 .lget (.at 1) (.at 13))), (.int 60), (.at 14)]
        (.know (.ssz (.at 14))
        (.and
         (.imp (.o1 .not (.o2 .eqs (.o1 .asS (.o2 .lget (.at 11) (.at 13))) (.at 14))) true
         (.ret [(.at 0), (.at 1), (.at 2), (.at 3), (.bool false)]))
         (.imp (.o1 .not (.o2 .eqs (.o1 .asS (.o2 .lget (.at 11) (.at 13))) (.at 14))) false
         (.back 1 [(.at 0), (.at 1), (.at 2), (.at 3), (.at 13)] [(.at 0), (.at 1), (.at 2), (.at 3), (.o2 (.add .i64) (.at 13) (.int 1))])))))))
        (.and
         (.pre 4 [(.o1 .asS (.o2 .lget (.at 1) (.at 13))), (.int 60)]
         (.all .S
         (.post 4 [(.o1 .asS (.o2 .lget (.at 1) (.at 13))), (.int 60), (.at 14)]
         (.know (.ssz (.at 14))
         (.and
          (.imp (.o1 .not (.o2 .eqs (.o1 .asS (.o2 .lget (.at 11) (.at 13))) (.at 14))) true
          (.ret [(.at 0), (.at 1), (.at 2), (.at 3), (.bool false)]))
          (.imp (.o1 .not (.o2 .eqs (.o1 .asS (.o2 .lget (.at 11) (.at 13))) (.at 14))) false
          (.back 1 [(.at 0), (.at 1), (.at 2), (.at 3), (.at 13)] [(.at 0), (.at 1), (.at 2), (.at 3), (.o2 (.add .i64) (.at 13) (.int 1))])))))))
         (.pre 4 [(.o1 .asS (.o2 .lget (.at 1) (.at 13))), (.int 60)]
         (.all .S
         (.post 4 [(.o1 .asS (.o2 .lget (.at 1) (.at 13))), (.int 60), (.at 14)]
         (.know (.ssz (.at 14))
         (.and
          (.imp (.o1 .not (.o2 .eqs (.o1 .asS (.o2 .lget (.at 11) (.at 13))) (.at 14))) true
          (.ret [(.at 0), (.at 1), (.at 2), (.at 3), (.bool false)]))
          (.imp (.o1 .not (.o2 .eqs (.o1 .asS (.o2 .lget (.at 11) (.at 13))) (.at 14))) false
          (.back 1 [(.at 0), (.at 1), (.at 2), (.at 3), (.at 13)] [(.at 0), (.at 1), (.at 2), (.at 3), (.o2 (.add .i64) (.at 13) (.int 1))]))))))))))))
       (.imp (.o2 .lt (.at 13) (.o1 .llen (.at 11))) false
       (.pre 2 []
       (.all .B
       (.post 2 [(.at 14)]
       (.ret [(.at 0), (.at 1), (.at 2), (.at 3), (.at 14)]))))))))))))))))))))))))))))))))))))))))))))))))))))
def LFrameTorn.Pure : Prop :=
 ∀ (v0 : Value),
 ∀ (l1 : List D),
 ∀ (i2 : Int),
 ∀ (i3 : Int),
 (0 ≤ i2 ∧ i2 < 18446744073709551616) →
 (-9223372036854775808 ≤ i3 ∧ i3 < 9223372036854775808) →
 (EK.ok [.str] (D.L l1)) →
 LFrameTorn.sig.pre [(D.V v0), (D.L l1), (D.I i2), (D.I i3)] →
 Laid.sig.pre [(D.V v0), (D.L l1), (D.I i2)] ∧ (
 ∀ (s4 : ByteArray),
 ∀ (v5 : Value),
 ∀ (z6 : List Int),
 Laid.sig.post [(D.V v0), (D.L l1), (D.I i2), (D.S s4), (D.V v5), (D.Z z6)] →
 ((s4.size : Int) ≤ 9223372036854775807) →
 (∀ x ∈ z6, IntKind.has .i64 x) →
 ((
  (i3 < (0 : Int)) →
  Awake06.sig.pre [] ∧ (
  ∀ (b7 : Bool),
  Awake06.sig.post [(D.B b7)] →
  LFrameTorn.sig.post [(D.V v0), (D.L l1), (D.I i2), (D.I i3), (D.B b7)])) ∧ (
  ((0 : Int) ≤ i3) →
  ((
   (((s4.size : Nat) : Int) < i3) →
   Awake06.sig.pre [] ∧ (
   ∀ (b7 : Bool),
   Awake06.sig.post [(D.B b7)] →
   LFrameTorn.sig.post [(D.V v0), (D.L l1), (D.I i2), (D.I i3), (D.B b7)])) ∧ (
   (i3 ≤ ((s4.size : Nat) : Int)) →
   LFrameTorn.I0 [(D.V v0), (D.L l1), (D.I i2), (D.I i3), (D.I (0 : Int)), (D.I (0 : Int)), (D.I (0 : Int))] ∧ (
   ∀ (i7 : Int),
   ∀ (i8 : Int),
   ∀ (i9 : Int),
   (-9223372036854775808 ≤ i7 ∧ i7 < 9223372036854775808) →
   (-9223372036854775808 ≤ i8 ∧ i8 < 9223372036854775808) →
   (-9223372036854775808 ≤ i9 ∧ i9 < 9223372036854775808) →
   LFrameTorn.I0 [(D.V v0), (D.L l1), (D.I i2), (D.I i3), (D.I i7), (D.I i8), (D.I i9)] →
   ((
    (i9 < ((z6.length : Nat) : Int)) →
    ((0 : Int) ≤ i9) ∧ (((0 : Int) ≤ i9) →
    ((
     ((z6.getD i9.toNat 0) ≤ i3) →
     LFrameTorn.I0 [(D.V v0), (D.L l1), (D.I i2), (D.I i3), (D.I (IntKind.wrap .i64 (i7 + (1 : Int)))), (D.I (z6.getD i9.toNat 0)), (D.I (IntKind.wrap .i64 (i9 + (1 : Int))))] ∧ LFrameTorn.I0M [(D.V v0), (D.L l1), (D.I i2), (D.I i3), (D.I (IntKind.wrap .i64 (i7 + (1 : Int)))), (D.I (z6.getD i9.toNat 0)), (D.I (IntKind.wrap .i64 (i9 + (1 : Int))))] < LFrameTorn.I0M [(D.V v0), (D.L l1), (D.I i2), (D.I i3), (D.I i7), (D.I i8), (D.I i9)]) ∧ (
     (i3 < (z6.getD i9.toNat 0)) →
     LFrameTorn.I0 [(D.V v0), (D.L l1), (D.I i2), (D.I i3), (D.I i7), (D.I i8), (D.I (IntKind.wrap .i64 (i9 + (1 : Int))))] ∧ LFrameTorn.I0M [(D.V v0), (D.L l1), (D.I i2), (D.I i3), (D.I i7), (D.I i8), (D.I (IntKind.wrap .i64 (i9 + (1 : Int))))] < LFrameTorn.I0M [(D.V v0), (D.L l1), (D.I i2), (D.I i3), (D.I i7), (D.I i8), (D.I i9)])))) ∧ (
    (((z6.length : Nat) : Int) ≤ i9) →
    ((0 : Int) ≤ i3) ∧ (((0 : Int) ≤ i3) →
    (i3 ≤ ((s4.size : Nat) : Int)) ∧ ((i3 ≤ ((s4.size : Nat) : Int)) →
    FScan.sig.pre [(D.S (s4.extract (0 : Int).toNat i3.toNat)), (D.I i2)] ∧ (
    ∀ (v10 : Value),
    ∀ (l11 : List D),
    ∀ (i12 : Int),
    FScan.sig.post [(D.S (s4.extract (0 : Int).toNat i3.toNat)), (D.I i2), (D.V v10), (D.L l11), (D.I i12)] →
    (-9223372036854775808 ≤ i12 ∧ i12 < 9223372036854775808) →
    (EK.ok [.str] (D.L l11)) →
    ((
     (((l11.length : Nat) : Int) ≠ i7) →
     LFrameTorn.sig.post [(D.V v0), (D.L l1), (D.I i2), (D.I i3), (D.B false)]) ∧ (
     (((l11.length : Nat) : Int) = i7) →
     ((
      (i12 ≠ i8) →
      LFrameTorn.sig.post [(D.V v0), (D.L l1), (D.I i2), (D.I i3), (D.B false)]) ∧ (
      (i12 = i8) →
      LFrameTorn.I1 [(D.V v0), (D.L l1), (D.I i2), (D.I i3), (D.I (0 : Int))] ∧ (
      ∀ (i13 : Int),
      (-9223372036854775808 ≤ i13 ∧ i13 < 9223372036854775808) →
      LFrameTorn.I1 [(D.V v0), (D.L l1), (D.I i2), (D.I i3), (D.I i13)] →
      ((
       (i13 < ((l11.length : Nat) : Int)) →
       ((0 : Int) ≤ i13) ∧ (((0 : Int) ≤ i13) →
       (i13 < ((l1.length : Nat) : Int)) ∧ ((i13 < ((l1.length : Nat) : Int)) →
       ((
        Cut.sig.pre [(D.S ((l1.getD i13.toNat default)).toS), (D.I (60 : Int))] ∧ (
        ∀ (s14 : ByteArray),
        Cut.sig.post [(D.S ((l1.getD i13.toNat default)).toS), (D.I (60 : Int)), (D.S s14)] →
        ((s14.size : Int) ≤ 9223372036854775807) →
        ((
         (((l11.getD i13.toNat default)).toS ≠ s14) →
         LFrameTorn.sig.post [(D.V v0), (D.L l1), (D.I i2), (D.I i3), (D.B false)]) ∧ (
         (((l11.getD i13.toNat default)).toS = s14) →
         LFrameTorn.I1 [(D.V v0), (D.L l1), (D.I i2), (D.I i3), (D.I (IntKind.wrap .i64 (i13 + (1 : Int))))] ∧ LFrameTorn.I1M [(D.V v0), (D.L l1), (D.I i2), (D.I i3), (D.I (IntKind.wrap .i64 (i13 + (1 : Int))))] < LFrameTorn.I1M [(D.V v0), (D.L l1), (D.I i2), (D.I i3), (D.I i13)])))) ∧ (
        ((
         Cut.sig.pre [(D.S ((l1.getD i13.toNat default)).toS), (D.I (60 : Int))] ∧ (
         ∀ (s14 : ByteArray),
         Cut.sig.post [(D.S ((l1.getD i13.toNat default)).toS), (D.I (60 : Int)), (D.S s14)] →
         ((s14.size : Int) ≤ 9223372036854775807) →
         ((
          (((l11.getD i13.toNat default)).toS ≠ s14) →
          LFrameTorn.sig.post [(D.V v0), (D.L l1), (D.I i2), (D.I i3), (D.B false)]) ∧ (
          (((l11.getD i13.toNat default)).toS = s14) →
          LFrameTorn.I1 [(D.V v0), (D.L l1), (D.I i2), (D.I i3), (D.I (IntKind.wrap .i64 (i13 + (1 : Int))))] ∧ LFrameTorn.I1M [(D.V v0), (D.L l1), (D.I i2), (D.I i3), (D.I (IntKind.wrap .i64 (i13 + (1 : Int))))] < LFrameTorn.I1M [(D.V v0), (D.L l1), (D.I i2), (D.I i3), (D.I i13)])))) ∧ (
         Cut.sig.pre [(D.S ((l1.getD i13.toNat default)).toS), (D.I (60 : Int))] ∧ (
         ∀ (s14 : ByteArray),
         Cut.sig.post [(D.S ((l1.getD i13.toNat default)).toS), (D.I (60 : Int)), (D.S s14)] →
         ((s14.size : Int) ≤ 9223372036854775807) →
         ((
          (((l11.getD i13.toNat default)).toS ≠ s14) →
          LFrameTorn.sig.post [(D.V v0), (D.L l1), (D.I i2), (D.I i3), (D.B false)]) ∧ (
          (((l11.getD i13.toNat default)).toS = s14) →
          LFrameTorn.I1 [(D.V v0), (D.L l1), (D.I i2), (D.I i3), (D.I (IntKind.wrap .i64 (i13 + (1 : Int))))] ∧ LFrameTorn.I1M [(D.V v0), (D.L l1), (D.I i2), (D.I i3), (D.I (IntKind.wrap .i64 (i13 + (1 : Int))))] < LFrameTorn.I1M [(D.V v0), (D.L l1), (D.I i2), (D.I i3), (D.I i13)])))))))))) ∧ (
       (((l11.length : Nat) : Int) ≤ i13) →
       Awake06.sig.pre [] ∧ (
       ∀ (b14 : Bool),
       Awake06.sig.post [(D.B b14)] →
       LFrameTorn.sig.post [(D.V v0), (D.L l1), (D.I i2), (D.I i3), (D.B b14)])))))))))))))))))))
theorem LFrameTorn.den : LFrameTorn.vc.den2 (mkEnv LFrameTorn.sig [Laid.sig, Awake06.sig, FScan.sig, Cut.sig] [(LFrameTorn.I0, LFrameTorn.I0M), (LFrameTorn.I1, LFrameTorn.I1M)]) [] = LFrameTorn.Pure := by kernel_rfl
def LFrameBent.vc : VC :=
 (.all .V
 (.all .L
 (.all .I
 (.all .I
 (.all .I
 (.all .I
 (.all .I
 (.know (.has .u64 (.at 2))
 (.know (.has .i64 (.at 3))
 (.know (.has .i64 (.at 4))
 (.know (.has .i64 (.at 5))
 (.know (.has .u32 (.at 6))
 (.know (.ekok [.str] (.at 1))
 (.post 0 [(.at 0), (.at 1), (.at 2), (.at 3), (.at 4), (.at 5), (.at 6)]
 (.pre 1 [(.at 0), (.at 1), (.at 2)]
 (.all .S
 (.all .V
 (.all .Z
 (.post 1 [(.at 0), (.at 1), (.at 2), (.at 7), (.at 8), (.at 9)]
 (.know (.ssz (.at 7))
 (.know (.allHas .i64 (.at 9))
 (.pre 2 []
 (.all .B
 (.post 2 [(.at 10)]
 (.and
  (.imp (.o1 .not (.at 10)) true
  (.pre 2 []
  (.all .B
  (.post 2 [(.at 11)]
  (.ret [(.at 0), (.at 1), (.at 2), (.at 3), (.at 4), (.at 5), (.at 6), (.at 11)])))))
  (.imp (.o1 .not (.at 10)) false
  (.and
   (.imp (.o2 .lt (.at 3) (.int 0)) true
   (.pre 2 []
   (.all .B
   (.post 2 [(.at 11)]
   (.ret [(.at 0), (.at 1), (.at 2), (.at 3), (.at 4), (.at 5), (.at 6), (.at 11)])))))
   (.imp (.o2 .lt (.at 3) (.int 0)) false
   (.and
    (.imp (.o2 .le (.o1 .lilen (.at 9)) (.at 3)) true
    (.pre 2 []
    (.all .B
    (.post 2 [(.at 11)]
    (.ret [(.at 0), (.at 1), (.at 2), (.at 3), (.at 4), (.at 5), (.at 6), (.at 11)])))))
    (.imp (.o2 .le (.o1 .lilen (.at 9)) (.at 3)) false
    (.and
     (.imp (.o2 .lt (.at 4) (.int 0)) true
     (.pre 2 []
     (.all .B
     (.post 2 [(.at 11)]
     (.ret [(.at 0), (.at 1), (.at 2), (.at 3), (.at 4), (.at 5), (.at 6), (.at 11)])))))
     (.imp (.o2 .lt (.at 4) (.int 0)) false
     (.and
      (.imp (.o2 .lt (.int 2) (.at 4)) true
      (.pre 2 []
      (.all .B
      (.post 2 [(.at 11)]
      (.ret [(.at 0), (.at 1), (.at 2), (.at 3), (.at 4), (.at 5), (.at 6), (.at 11)])))))
      (.imp (.o2 .lt (.int 2) (.at 4)) false
      (.and
       (.imp (.o2 .lt (.at 5) (.int 0)) true
       (.pre 2 []
       (.all .B
       (.post 2 [(.at 11)]
       (.ret [(.at 0), (.at 1), (.at 2), (.at 3), (.at 4), (.at 5), (.at 6), (.at 11)])))))
       (.imp (.o2 .lt (.at 5) (.int 0)) false
       (.and
        (.imp (.o2 .lt (.int 0) (.at 3)) true
        (.obl (.o2 .le (.int 0) (.o2 (.sub .i64) (.at 3) (.int 1)))
        (.obl (.o2 .lt (.o2 (.sub .i64) (.at 3) (.int 1)) (.o1 .lilen (.at 9)))
        (.all .V
        (.obl (.o2 .le (.int 0) (.at 4))
        (.obl (.o2 .lt (.at 4) (.o1 .lilen (.o2 .licons (.int 6) (.o2 .licons (.int 14) (.o2 .licons (.int 18) (.lis []))))))
        (.obl (.o2 .le (.int 0) (.at 3))
        (.obl (.o2 .lt (.at 3) (.o1 .lilen (.at 9)))
        (.all .V
        (.obl (.o2 .lt (.at 4) (.o1 .lilen (.o2 .licons (.int 14) (.o2 .licons (.int 18) (.o2 .licons (.o2 (.sub .i64) (.o2 .liget (.at 9) (.at 3)) (.o2 .liget (.at 9) (.o2 (.sub .i64) (.at 3) (.int 1)))) (.lis []))))))
        (.and
         (.imp (.o2 .le (.o2 (.mul .i64) (.int 8) (.o2 (.sub .i64) (.o2 (.add .i64) (.o2 .liget (.at 9) (.o2 (.sub .i64) (.at 3) (.int 1))) (.o2 .liget (.o2 .licons (.int 14) (.o2 .licons (.int 18) (.o2 .licons (.o2 (.sub .i64) (.o2 .liget (.at 9) (.at 3)) (.o2 .liget (.at 9) (.o2 (.sub .i64) (.at 3) (.int 1)))) (.lis [])))) (.at 4))) (.o2 (.add .i64) (.o2 .liget (.at 9) (.o2 (.sub .i64) (.at 3) (.int 1))) (.o2 .liget (.o2 .licons (.int 6) (.o2 .licons (.int 14) (.o2 .licons (.int 18) (.lis [])))) (.at 4))))) (.at 5)) true
         (.pre 2 []
         (.all .B
         (.post 2 [(.at 13)]
         (.ret [(.at 0), (.at 1), (.at 2), (.at 3), (.at 4), (.at 5), (.at 6), (.at 13)])))))
         (.imp (.o2 .le (.o2 (.mul .i64) (.int 8) (.o2 (.sub .i64) (.o2 (.add .i64) (.o2 .liget (.at 9) (.o2 (.sub .i64) (.at 3) (.int 1))) (.o2 .liget (.o2 .licons (.int 14) (.o2 .licons (.int 18) (.o2 .licons (.o2 (.sub .i64) (.o2 .liget (.at 9) (.at 3)) (.o2 .liget (.at 9) (.o2 (.sub .i64) (.at 3) (.int 1)))) (.lis [])))) (.at 4))) (.o2 (.add .i64) (.o2 .liget (.at 9) (.o2 (.sub .i64) (.at 3) (.int 1))) (.o2 .liget (.o2 .licons (.int 6) (.o2 .licons (.int 14) (.o2 .licons (.int 18) (.lis [])))) (.at 4))))) (.at 5)) false
         (.all .V
         (.inv 0 [(.at 0), (.at 1), (.at 2), (.at 3), (.at 4), (.at 5), (.at 6), (.bool false), (.int 0), (.o1 .toLi (.at 7))]
         (.all .B
         (.all .I
         (.all .Z
         (.know (.has .i64 (.at 15))
         (.know (.allHas .u8 (.at 16))
         (.asm 0 [(.at 0), (.at 1), (.at 2), (.at 3), (.at 4), (.at 5), (.at 6), (.at 14), (.at 15), (.at 16)]
         (.and
          (.imp (.o2 .lt (.at 15) (.int 32)) true
          (.and
           (.imp (.o2 .lt (.o2 (.add .i64) (.at 5) (.at 15)) (.o2 (.mul .i64) (.int 8) (.o2 (.sub .i64) (.o2 (.add .i64) (.o2 .liget (.at 9) (.o2 (.sub .i64) (.at 3) (.int 1))) (.o2 .liget (.o2 .licons (.int 14) (.o2 .licons (.int 18) (.o2 .licons (.o2 (.sub .i64) (.o2 .liget (.at 9) (.at 3)) (.o2 .liget (.at 9) (.o2 (.sub .i64) (.at 3) (.int 1)))) (.lis [])))) (.at 4))) (.o2 (.add .i64) (.o2 .liget (.at 9) (.o2 (.sub .i64) (.at 3) (.int 1))) (.o2 .liget (.o2 .licons (.int 6) (.o2 .licons (.int 14) (.o2 .licons (.int 18) (.lis [])))) (.at 4)))))) true
           (.obl (.o2 .le (.int 0) (.at 15))
           (.and
            (.imp (.o2 .eq (.o2 (.bits .and .u32) (.o2 (.shr .u32) (.at 6) (.at 15)) (.int 1)) (.int 1)) true
            (.obl (.o2 .le (.int 0) (.o2 (.add .i64) (.o2 (.add .i64) (.o2 .liget (.at 9) (.o2 (.sub .i64) (.at 3) (.int 1))) (.o2 .liget (.o2 .licons (.int 6) (.o2 .licons (.int 14) (.o2 .licons (.int 18) (.lis [])))) (.at 4))) (.o2 (.quo .i64) (.o2 (.add .i64) (.at 5) (.at 15)) (.int 8))))
            (.obl (.o2 .lt (.o2 (.add .i64) (.o2 (.add .i64) (.o2 .liget (.at 9) (.o2 (.sub .i64) (.at 3) (.int 1))) (.o2 .liget (.o2 .licons (.int 6) (.o2 .licons (.int 14) (.o2 .licons (.int 18) (.lis [])))) (.at 4))) (.o2 (.quo .i64) (.o2 (.add .i64) (.at 5) (.at 15)) (.int 8))) (.o1 .lilen (.at 16)))
            (.obl (.o2 .le (.int 0) (.o2 .rem (.o2 (.add .i64) (.at 5) (.at 15)) (.int 8)))
            (.back 0 [(.at 0), (.at 1), (.at 2), (.at 3), (.at 4), (.at 5), (.at 6), (.at 14), (.at 15), (.at 16)] [(.at 0), (.at 1), (.at 2), (.at 3), (.at 4), (.at 5), (.at 6), (.bool true), (.o2 (.add .i64) (.at 15) (.int 1)), (.o3 .liset (.at 16) (.o2 (.add .i64) (.o2 (.add .i64) (.o2 .liget (.at 9) (.o2 (.sub .i64) (.at 3) (.int 1))) (.o2 .liget (.o2 .licons (.int 6) (.o2 .licons (.int 14) (.o2 .licons (.int 18) (.lis [])))) (.at 4))) (.o2 (.quo .i64) (.o2 (.add .i64) (.at 5) (.at 15)) (.int 8))) (.o2 (.bits .xor .u8) (.o2 .liget (.at 16) (.o2 (.add .i64) (.o2 (.add .i64) (.o2 .liget (.at 9) (.o2 (.sub .i64) (.at 3) (.int 1))) (.o2 .liget (.o2 .licons (.int 6) (.o2 .licons (.int 14) (.o2 .licons (.int 18) (.lis [])))) (.at 4))) (.o2 (.quo .i64) (.o2 (.add .i64) (.at 5) (.at 15)) (.int 8)))) (.o2 (.shl .u8) (.int 1) (.o2 .rem (.o2 (.add .i64) (.at 5) (.at 15)) (.int 8)))))])))))
            (.imp (.o2 .eq (.o2 (.bits .and .u32) (.o2 (.shr .u32) (.at 6) (.at 15)) (.int 1)) (.int 1)) false
            (.back 0 [(.at 0), (.at 1), (.at 2), (.at 3), (.at 4), (.at 5), (.at 6), (.at 14), (.at 15), (.at 16)] [(.at 0), (.at 1), (.at 2), (.at 3), (.at 4), (.at 5), (.at 6), (.at 14), (.o2 (.add .i64) (.at 15) (.int 1)), (.at 16)])))))
           (.imp (.o2 .lt (.o2 (.add .i64) (.at 5) (.at 15)) (.o2 (.mul .i64) (.int 8) (.o2 (.sub .i64) (.o2 (.add .i64) (.o2 .liget (.at 9) (.o2 (.sub .i64) (.at 3) (.int 1))) (.o2 .liget (.o2 .licons (.int 14) (.o2 .licons (.int 18) (.o2 .licons (.o2 (.sub .i64) (.o2 .liget (.at 9) (.at 3)) (.o2 .liget (.at 9) (.o2 (.sub .i64) (.at 3) (.int 1)))) (.lis [])))) (.at 4))) (.o2 (.add .i64) (.o2 .liget (.at 9) (.o2 (.sub .i64) (.at 3) (.int 1))) (.o2 .liget (.o2 .licons (.int 6) (.o2 .licons (.int 14) (.o2 .licons (.int 18) (.lis [])))) (.at 4)))))) false
           (.pre 3 [(.o1 .ofLi (.at 16)), (.at 2)]
           (.all .V
           (.all .L
           (.all .I
           (.post 3 [(.o1 .ofLi (.at 16)), (.at 2), (.at 17), (.at 18), (.at 19)]
           (.know (.has .i64 (.at 19))
           (.know (.ekok [.str] (.at 18))
           (.and
            (.imp (.o1 .not (.at 14)) true
            (.pre 2 []
            (.all .B
            (.post 2 [(.at 20)]
            (.and
             (.imp (.at 20) true
             (.ret [(.at 0), (.at 1), (.at 2), (.at 3), (.at 4), (.at 5), (.at 6), (.o2 .eq (.at 19) (.o1 .slen (.at 7)))]))
             (.imp (.at 20) false
             (.ret [(.at 0), (.at 1), (.at 2), (.at 3), (.at 4), (.at 5), (.at 6), (.bool false)])))))))
            (.imp (.o1 .not (.at 14)) false
            (.pre 2 []
            (.all .B
            (.post 2 [(.at 20)]
            (.and
             (.imp (.at 20) true
             (.and
              (.imp (.o2 .eq (.o1 .llen (.at 18)) (.at 3)) true
              (.ret [(.at 0), (.at 1), (.at 2), (.at 3), (.at 4), (.at 5), (.at 6), (.o2 .eq (.at 19) (.o2 .liget (.at 9) (.o2 (.sub .i64) (.at 3) (.int 1))))]))
              (.imp (.o2 .eq (.o1 .llen (.at 18)) (.at 3)) false
              (.ret [(.at 0), (.at 1), (.at 2), (.at 3), (.at 4), (.at 5), (.at 6), (.bool false)]))))
             (.imp (.at 20) false
             (.ret [(.at 0), (.at 1), (.at 2), (.at 3), (.at 4), (.at 5), (.at 6), (.bool false)]))))))))))))))))))
          (.imp (.o2 .lt (.at 15) (.int 32)) false
          (.pre 3 [(.o1 .ofLi (.at 16)), (.at 2)]
          (.all .V
          (.all .L
          (.all .I
          (.post 3 [(.o1 .ofLi (.at 16)), (.at 2), (.at 17), (.at 18), (.at 19)]
          (.know (.has .i64 (.at 19))
          (.know (.ekok [.str] (.at 18))
          (.and
           (.imp (.o1 .not (.at 14)) true
           (.pre 2 []
           (.all .B
           (.post 2 [(.at 20)]
           (.and
            (.imp (.at 20) true
            (.ret [(.at 0), (.at 1), (.at 2), (.at 3), (.at 4), (.at 5), (.at 6), (.o2 .eq (.at 19) (.o1 .slen (.at 7)))]))
            (.imp (.at 20) false
            (.ret [(.at 0), (.at 1), (.at 2), (.at 3), (.at 4), (.at 5), (.at 6), (.bool false)])))))))
           (.imp (.o1 .not (.at 14)) false
           (.pre 2 []
           (.all .B
           (.post 2 [(.at 20)]
           (.and
            (.imp (.at 20) true
            (.and
             (.imp (.o2 .eq (.o1 .llen (.at 18)) (.at 3)) true
             (.ret [(.at 0), (.at 1), (.at 2), (.at 3), (.at 4), (.at 5), (.at 6), (.o2 .eq (.at 19) (.o2 .liget (.at 9) (.o2 (.sub .i64) (.at 3) (.int 1))))]))
             (.imp (.o2 .eq (.o1 .llen (.at 18)) (.at 3)) false
             (.ret [(.at 0), (.at 1), (.at 2), (.at 3), (.at 4), (.at 5), (.at 6), (.bool false)]))))
            (.imp (.at 20) false
            (.ret [(.at 0), (.at 1), (.at 2), (.at 3), (.at 4), (.at 5), (.at 6), (.bool false)])))))))))))))))))))))))))))))))))))))
        (.imp (.o2 .lt (.int 0) (.at 3)) false
        (.all .V
        (.obl (.o2 .le (.int 0) (.at 4))
        (.obl (.o2 .lt (.at 4) (.o1 .lilen (.o2 .licons (.int 6) (.o2 .licons (.int 14) (.o2 .licons (.int 18) (.lis []))))))
        (.obl (.o2 .le (.int 0) (.at 3))
        (.obl (.o2 .lt (.at 3) (.o1 .lilen (.at 9)))
        (.all .V
        (.obl (.o2 .lt (.at 4) (.o1 .lilen (.o2 .licons (.int 14) (.o2 .licons (.int 18) (.o2 .licons (.o2 (.sub .i64) (.o2 .liget (.at 9) (.at 3)) (.int 0)) (.lis []))))))
        (.and
         (.imp (.o2 .le (.o2 (.mul .i64) (.int 8) (.o2 (.sub .i64) (.o2 (.add .i64) (.int 0) (.o2 .liget (.o2 .licons (.int 14) (.o2 .licons (.int 18) (.o2 .licons (.o2 (.sub .i64) (.o2 .liget (.at 9) (.at 3)) (.int 0)) (.lis [])))) (.at 4))) (.o2 (.add .i64) (.int 0) (.o2 .liget (.o2 .licons (.int 6) (.o2 .licons (.int 14) (.o2 .licons (.int 18) (.lis [])))) (.at 4))))) (.at 5)) true
         (.pre 2 []
         (.all .B
         (.post 2 [(.at 13)]
         (.ret [(.at 0), (.at 1), (.at 2), (.at 3), (.at 4), (.at 5), (.at 6), (.at 13)])))))
         (.imp (.o2 .le (.o2 (.mul .i64) (.int 8) (.o2 (.sub .i64) (.o2 (.add .i64) (.int 0) (.o2 .liget (.o2 .licons (.int 14) (.o2 .licons (.int 18) (.o2 .licons (.o2 (.sub .i64) (.o2 .liget (.at 9) (.at 3)) (.int 0)) (.lis [])))) (.at 4))) (.o2 (.add .i64) (.int 0) (.o2 .liget (.o2 .licons (.int 6) (.o2 .licons (.int 14) (.o2 .licons (.int 18) (.lis [])))) (.at 4))))) (.at 5)) false
         (.all .V
         (.inv 0 [(.at 0), (.at 1), (.at 2), (.at 3), (.at 4), (.at 5), (.at 6), (.bool false), (.int 0), (.o1 .toLi (.at 7))]
         (.all .B
         (.all .I
         (.all .Z
         (.know (.has .i64 (.at 15))
         (.know (.allHas .u8 (.at 16))
         (.asm 0 [(.at 0), (.at 1), (.at 2), (.at 3), (.at 4), (.at 5), (.at 6), (.at 14), (.at 15), (.at 16)]
         (.and
          (.imp (.o2 .lt (.at 15) (.int 32)) true
          (.and
           (.imp (.o2 .lt (.o2 (.add .i64) (.at 5) (.at 15)) (.o2 (.mul .i64) (.int 8) (.o2 (.sub .i64) (.o2 (.add .i64) (.int 0) (.o2 .liget (.o2 .licons (.int 14) (.o2 .licons (.int 18) (.o2 .licons (.o2 (.sub .i64) (.o2 .liget (.at 9) (.at 3)) (.int 0)) (.lis [])))) (.at 4))) (.o2 (.add .i64) (.int 0) (.o2 .liget (.o2 .licons (.int 6) (.o2 .licons (.int 14) (.o2 .licons (.int 18) (.lis [])))) (.at 4)))))) true
           (.obl (.o2 .le (.int 0) (.at 15))
           (.and
            (.imp (.o2 .eq (.o2 (.bits .and .u32) (.o2 (.shr .u32) (.at 6) (.at 15)) (.int 1)) (.int 1)) true
            (.obl (.o2 .le (.int 0) (.o2 (.add .i64) (.o2 (.add .i64) (.int 0) (.o2 .liget (.o2 .licons (.int 6) (.o2 .licons (.int 14) (.o2 .licons (.int 18) (.lis [])))) (.at 4))) (.o2 (.quo .i64) (.o2 (.add .i64) (.at 5) (.at 15)) (.int 8))))
            (.obl (.o2 .lt (.o2 (.add .i64) (.o2 (.add .i64) (.int 0) (.o2 .liget (.o2 .licons (.int 6) (.o2 .licons (.int 14) (.o2 .licons (.int 18) (.lis [])))) (.at 4))) (.o2 (.quo .i64) (.o2 (.add .i64) (.at 5) (.at 15)) (.int 8))) (.o1 .lilen (.at 16)))
            (.obl (.o2 .le (.int 0) (.o2 .rem (.o2 (.add .i64) (.at 5) (.at 15)) (.int 8)))
            (.back 0 [(.at 0), (.at 1), (.at 2), (.at 3), (.at 4), (.at 5), (.at 6), (.at 14), (.at 15), (.at 16)] [(.at 0), (.at 1), (.at 2), (.at 3), (.at 4), (.at 5), (.at 6), (.bool true), (.o2 (.add .i64) (.at 15) (.int 1)), (.o3 .liset (.at 16) (.o2 (.add .i64) (.o2 (.add .i64) (.int 0) (.o2 .liget (.o2 .licons (.int 6) (.o2 .licons (.int 14) (.o2 .licons (.int 18) (.lis [])))) (.at 4))) (.o2 (.quo .i64) (.o2 (.add .i64) (.at 5) (.at 15)) (.int 8))) (.o2 (.bits .xor .u8) (.o2 .liget (.at 16) (.o2 (.add .i64) (.o2 (.add .i64) (.int 0) (.o2 .liget (.o2 .licons (.int 6) (.o2 .licons (.int 14) (.o2 .licons (.int 18) (.lis [])))) (.at 4))) (.o2 (.quo .i64) (.o2 (.add .i64) (.at 5) (.at 15)) (.int 8)))) (.o2 (.shl .u8) (.int 1) (.o2 .rem (.o2 (.add .i64) (.at 5) (.at 15)) (.int 8)))))])))))
            (.imp (.o2 .eq (.o2 (.bits .and .u32) (.o2 (.shr .u32) (.at 6) (.at 15)) (.int 1)) (.int 1)) false
            (.back 0 [(.at 0), (.at 1), (.at 2), (.at 3), (.at 4), (.at 5), (.at 6), (.at 14), (.at 15), (.at 16)] [(.at 0), (.at 1), (.at 2), (.at 3), (.at 4), (.at 5), (.at 6), (.at 14), (.o2 (.add .i64) (.at 15) (.int 1)), (.at 16)])))))
           (.imp (.o2 .lt (.o2 (.add .i64) (.at 5) (.at 15)) (.o2 (.mul .i64) (.int 8) (.o2 (.sub .i64) (.o2 (.add .i64) (.int 0) (.o2 .liget (.o2 .licons (.int 14) (.o2 .licons (.int 18) (.o2 .licons (.o2 (.sub .i64) (.o2 .liget (.at 9) (.at 3)) (.int 0)) (.lis [])))) (.at 4))) (.o2 (.add .i64) (.int 0) (.o2 .liget (.o2 .licons (.int 6) (.o2 .licons (.int 14) (.o2 .licons (.int 18) (.lis [])))) (.at 4)))))) false
           (.pre 3 [(.o1 .ofLi (.at 16)), (.at 2)]
           (.all .V
           (.all .L
           (.all .I
           (.post 3 [(.o1 .ofLi (.at 16)), (.at 2), (.at 17), (.at 18), (.at 19)]
           (.know (.has .i64 (.at 19))
           (.know (.ekok [.str] (.at 18))
           (.and
            (.imp (.o1 .not (.at 14)) true
            (.pre 2 []
            (.all .B
            (.post 2 [(.at 20)]
            (.and
             (.imp (.at 20) true
             (.ret [(.at 0), (.at 1), (.at 2), (.at 3), (.at 4), (.at 5), (.at 6), (.o2 .eq (.at 19) (.o1 .slen (.at 7)))]))
             (.imp (.at 20) false
             (.ret [(.at 0), (.at 1), (.at 2), (.at 3), (.at 4), (.at 5), (.at 6), (.bool false)])))))))
            (.imp (.o1 .not (.at 14)) false
            (.pre 2 []
            (.all .B
            (.post 2 [(.at 20)]
            (.and
             (.imp (.at 20) true
             (.and
              (.imp (.o2 .eq (.o1 .llen (.at 18)) (.at 3)) true
              (.ret [(.at 0), (.at 1), (.at 2), (.at 3), (.at 4), (.at 5), (.at 6), (.o2 .eq (.at 19) (.int 0))]))
              (.imp (.o2 .eq (.o1 .llen (.at 18)) (.at 3)) false
              (.ret [(.at 0), (.at 1), (.at 2), (.at 3), (.at 4), (.at 5), (.at 6), (.bool false)]))))
             (.imp (.at 20) false
             (.ret [(.at 0), (.at 1), (.at 2), (.at 3), (.at 4), (.at 5), (.at 6), (.bool false)]))))))))))))))))))
          (.imp (.o2 .lt (.at 15) (.int 32)) false
          (.pre 3 [(.o1 .ofLi (.at 16)), (.at 2)]
          (.all .V
          (.all .L
          (.all .I
          (.post 3 [(.o1 .ofLi (.at 16)), (.at 2), (.at 17), (.at 18), (.at 19)]
          (.know (.has .i64 (.at 19))
          (.know (.ekok [.str] (.at 18))
          (.and
           (.imp (.o1 .not (.at 14)) true
           (.pre 2 []
           (.all .B
           (.post 2 [(.at 20)]
           (.and
            (.imp (.at 20) true
            (.ret [(.at 0), (.at 1), (.at 2), (.at 3), (.at 4), (.at 5), (.at 6), (.o2 .eq (.at 19) (.o1 .slen (.at 7)))]))
            (.imp (.at 20) false
            (.ret [(.at 0), (.at 1), (.at 2), (.at 3), (.at 4), (.at 5), (.at 6), (.bool false)])))))))
           (.imp (.o1 .not (.at 14)) false
           (.pre 2 []
           (.all .B
           (.post 2 [(.at 20)]
           (.and
            (.imp (.at 20) true
            (.and
             (.imp (.o2 .eq (.o1 .llen (.at 18)) (.at 3)) true
             (.ret [(.at 0), (.at 1), (.at 2), (.at 3), (.at 4), (.at 5), (.at 6), (.o2 .eq (.at 19) (.int 0))]))
             (.imp (.o2 .eq (.o1 .llen (.at 18)) (.at 3)) false
             (.ret [(.at 0), (.at 1), (.at 2), (.at 3), (.at 4), (.at 5), (.at 6), (.bool false)]))))
            (.imp (.at 20) false
            (.ret [(.at 0), (.at 1), (.at 2), (.at 3), (.at 4), (.at 5), (.at 6), (.bool false)]))))))))))))))))))))))))))))))))))))))))))))))))))))))))))))))))))))))))
def LFrameBent.Pure : Prop :=
 ∀ (v0 : Value),
 ∀ (l1 : List D),
 ∀ (i2 : Int),
 ∀ (i3 : Int),
 ∀ (i4 : Int),
 ∀ (i5 : Int),
 ∀ (i6 : Int),
 (0 ≤ i2 ∧ i2 < 18446744073709551616) →
 (-9223372036854775808 ≤ i3 ∧ i3 < 9223372036854775808) →
 (-9223372036854775808 ≤ i4 ∧ i4 < 9223372036854775808) →
 (-9223372036854775808 ≤ i5 ∧ i5 < 9223372036854775808) →
 (0 ≤ i6 ∧ i6 < 4294967296) →
 (EK.ok [.str] (D.L l1)) →
 LFrameBent.sig.pre [(D.V v0), (D.L l1), (D.I i2), (D.I i3), (D.I i4), (D.I i5), (D.I i6)] →
 Laid.sig.pre [(D.V v0), (D.L l1), (D.I i2)] ∧ (
 ∀ (s7 : ByteArray),
 ∀ (v8 : Value),
 ∀ (z9 : List Int),
 Laid.sig.post [(D.V v0), (D.L l1), (D.I i2), (D.S s7), (D.V v8), (D.Z z9)] →
 ((s7.size : Int) ≤ 9223372036854775807) →
 (∀ x ∈ z9, IntKind.has .i64 x) →
 Awake06.sig.pre [] ∧ (
 ∀ (b10 : Bool),
 Awake06.sig.post [(D.B b10)] →
 ((
  (b10 = false) →
  Awake06.sig.pre [] ∧ (
  ∀ (b11 : Bool),
  Awake06.sig.post [(D.B b11)] →
  LFrameBent.sig.post [(D.V v0), (D.L l1), (D.I i2), (D.I i3), (D.I i4), (D.I i5), (D.I i6), (D.B b11)])) ∧ (
  (b10 = true) →
  ((
   (i3 < (0 : Int)) →
   Awake06.sig.pre [] ∧ (
   ∀ (b11 : Bool),
   Awake06.sig.post [(D.B b11)] →
   LFrameBent.sig.post [(D.V v0), (D.L l1), (D.I i2), (D.I i3), (D.I i4), (D.I i5), (D.I i6), (D.B b11)])) ∧ (
   ((0 : Int) ≤ i3) →
   ((
    (((z9.length : Nat) : Int) ≤ i3) →
    Awake06.sig.pre [] ∧ (
    ∀ (b11 : Bool),
    Awake06.sig.post [(D.B b11)] →
    LFrameBent.sig.post [(D.V v0), (D.L l1), (D.I i2), (D.I i3), (D.I i4), (D.I i5), (D.I i6), (D.B b11)])) ∧ (
    (i3 < ((z9.length : Nat) : Int)) →
    ((
     (i4 < (0 : Int)) →
     Awake06.sig.pre [] ∧ (
     ∀ (b11 : Bool),
     Awake06.sig.post [(D.B b11)] →
     LFrameBent.sig.post [(D.V v0), (D.L l1), (D.I i2), (D.I i3), (D.I i4), (D.I i5), (D.I i6), (D.B b11)])) ∧ (
     ((0 : Int) ≤ i4) →
     ((
      ((2 : Int) < i4) →
      Awake06.sig.pre [] ∧ (
      ∀ (b11 : Bool),
      Awake06.sig.post [(D.B b11)] →
      LFrameBent.sig.post [(D.V v0), (D.L l1), (D.I i2), (D.I i3), (D.I i4), (D.I i5), (D.I i6), (D.B b11)])) ∧ (
      (i4 ≤ (2 : Int)) →
      ((
       (i5 < (0 : Int)) →
       Awake06.sig.pre [] ∧ (
       ∀ (b11 : Bool),
       Awake06.sig.post [(D.B b11)] →
       LFrameBent.sig.post [(D.V v0), (D.L l1), (D.I i2), (D.I i3), (D.I i4), (D.I i5), (D.I i6), (D.B b11)])) ∧ (
       ((0 : Int) ≤ i5) →
       ((
        ((0 : Int) < i3) →
        ((0 : Int) ≤ (IntKind.wrap .i64 (i3 - (1 : Int)))) ∧ (((0 : Int) ≤ (IntKind.wrap .i64 (i3 - (1 : Int)))) →
        ((IntKind.wrap .i64 (i3 - (1 : Int))) < ((z9.length : Nat) : Int)) ∧ (((IntKind.wrap .i64 (i3 - (1 : Int))) < ((z9.length : Nat) : Int)) →
        ∀ (v11 : Value),
        ((0 : Int) ≤ i4) ∧ (((0 : Int) ≤ i4) →
        (i4 < ((((6 : Int) :: ((14 : Int) :: ((18 : Int) :: ([] : List Int)))).length : Nat) : Int)) ∧ ((i4 < ((((6 : Int) :: ((14 : Int) :: ((18 : Int) :: ([] : List Int)))).length : Nat) : Int)) →
        ((0 : Int) ≤ i3) ∧ (((0 : Int) ≤ i3) →
        (i3 < ((z9.length : Nat) : Int)) ∧ ((i3 < ((z9.length : Nat) : Int)) →
        ∀ (v12 : Value),
        (i4 < ((((14 : Int) :: ((18 : Int) :: ((IntKind.wrap .i64 ((z9.getD i3.toNat 0) - (z9.getD (IntKind.wrap .i64 (i3 - (1 : Int))).toNat 0))) :: ([] : List Int)))).length : Nat) : Int)) ∧ ((i4 < ((((14 : Int) :: ((18 : Int) :: ((IntKind.wrap .i64 ((z9.getD i3.toNat 0) - (z9.getD (IntKind.wrap .i64 (i3 - (1 : Int))).toNat 0))) :: ([] : List Int)))).length : Nat) : Int)) →
        ((
         ((IntKind.wrap .i64 ((8 : Int) * (IntKind.wrap .i64 ((IntKind.wrap .i64 ((z9.getD (IntKind.wrap .i64 (i3 - (1 : Int))).toNat 0) + (((14 : Int) :: ((18 : Int) :: ((IntKind.wrap .i64 ((z9.getD i3.toNat 0) - (z9.getD (IntKind.wrap .i64 (i3 - (1 : Int))).toNat 0))) :: ([] : List Int)))).getD i4.toNat 0))) - (IntKind.wrap .i64 ((z9.getD (IntKind.wrap .i64 (i3 - (1 : Int))).toNat 0) + (((6 : Int) :: ((14 : Int) :: ((18 : Int) :: ([] : List Int)))).getD i4.toNat 0))))))) ≤ i5) →
         Awake06.sig.pre [] ∧ (
         ∀ (b13 : Bool),
         Awake06.sig.post [(D.B b13)] →
         LFrameBent.sig.post [(D.V v0), (D.L l1), (D.I i2), (D.I i3), (D.I i4), (D.I i5), (D.I i6), (D.B b13)])) ∧ (
         (i5 < (IntKind.wrap .i64 ((8 : Int) * (IntKind.wrap .i64 ((IntKind.wrap .i64 ((z9.getD (IntKind.wrap .i64 (i3 - (1 : Int))).toNat 0) + (((14 : Int) :: ((18 : Int) :: ((IntKind.wrap .i64 ((z9.getD i3.toNat 0) - (z9.getD (IntKind.wrap .i64 (i3 - (1 : Int))).toNat 0))) :: ([] : List Int)))).getD i4.toNat 0))) - (IntKind.wrap .i64 ((z9.getD (IntKind.wrap .i64 (i3 - (1 : Int))).toNat 0) + (((6 : Int) :: ((14 : Int) :: ((18 : Int) :: ([] : List Int)))).getD i4.toNat 0)))))))) →
         ∀ (v13 : Value),
         LFrameBent.I0 [(D.V v0), (D.L l1), (D.I i2), (D.I i3), (D.I i4), (D.I i5), (D.I i6), (D.B false), (D.I (0 : Int)), (D.Z (bytesOf s7))] ∧ (
         ∀ (b14 : Bool),
         ∀ (i15 : Int),
         ∀ (z16 : List Int),
         (-9223372036854775808 ≤ i15 ∧ i15 < 9223372036854775808) →
         (∀ x ∈ z16, IntKind.has .u8 x) →
         LFrameBent.I0 [(D.V v0), (D.L l1), (D.I i2), (D.I i3), (D.I i4), (D.I i5), (D.I i6), (D.B b14), (D.I i15), (D.Z z16)] →
         ((
          (i15 < (32 : Int)) →
          ((
           ((IntKind.wrap .i64 (i5 + i15)) < (IntKind.wrap .i64 ((8 : Int) * (IntKind.wrap .i64 ((IntKind.wrap .i64 ((z9.getD (IntKind.wrap .i64 (i3 - (1 : Int))).toNat 0) + (((14 : Int) :: ((18 : Int) :: ((IntKind.wrap .i64 ((z9.getD i3.toNat 0) - (z9.getD (IntKind.wrap .i64 (i3 - (1 : Int))).toNat 0))) :: ([] : List Int)))).getD i4.toNat 0))) - (IntKind.wrap .i64 ((z9.getD (IntKind.wrap .i64 (i3 - (1 : Int))).toNat 0) + (((6 : Int) :: ((14 : Int) :: ((18 : Int) :: ([] : List Int)))).getD i4.toNat 0)))))))) →
           ((0 : Int) ≤ i15) ∧ (((0 : Int) ≤ i15) →
           ((
            ((Go.bits .and .u32 (shrI .u32 i6 i15) (1 : Int)) = (1 : Int)) →
            ((0 : Int) ≤ (IntKind.wrap .i64 ((IntKind.wrap .i64 ((z9.getD (IntKind.wrap .i64 (i3 - (1 : Int))).toNat 0) + (((6 : Int) :: ((14 : Int) :: ((18 : Int) :: ([] : List Int)))).getD i4.toNat 0))) + (IntKind.wrap .i64 (Int.tdiv (IntKind.wrap .i64 (i5 + i15)) (8 : Int)))))) ∧ (((0 : Int) ≤ (IntKind.wrap .i64 ((IntKind.wrap .i64 ((z9.getD (IntKind.wrap .i64 (i3 - (1 : Int))).toNat 0) + (((6 : Int) :: ((14 : Int) :: ((18 : Int) :: ([] : List Int)))).getD i4.toNat 0))) + (IntKind.wrap .i64 (Int.tdiv (IntKind.wrap .i64 (i5 + i15)) (8 : Int)))))) →
            ((IntKind.wrap .i64 ((IntKind.wrap .i64 ((z9.getD (IntKind.wrap .i64 (i3 - (1 : Int))).toNat 0) + (((6 : Int) :: ((14 : Int) :: ((18 : Int) :: ([] : List Int)))).getD i4.toNat 0))) + (IntKind.wrap .i64 (Int.tdiv (IntKind.wrap .i64 (i5 + i15)) (8 : Int))))) < ((z16.length : Nat) : Int)) ∧ (((IntKind.wrap .i64 ((IntKind.wrap .i64 ((z9.getD (IntKind.wrap .i64 (i3 - (1 : Int))).toNat 0) + (((6 : Int) :: ((14 : Int) :: ((18 : Int) :: ([] : List Int)))).getD i4.toNat 0))) + (IntKind.wrap .i64 (Int.tdiv (IntKind.wrap .i64 (i5 + i15)) (8 : Int))))) < ((z16.length : Nat) : Int)) →
            ((0 : Int) ≤ (Int.tmod (IntKind.wrap .i64 (i5 + i15)) (8 : Int))) ∧ (((0 : Int) ≤ (Int.tmod (IntKind.wrap .i64 (i5 + i15)) (8 : Int))) →
            LFrameBent.I0 [(D.V v0), (D.L l1), (D.I i2), (D.I i3), (D.I i4), (D.I i5), (D.I i6), (D.B true), (D.I (IntKind.wrap .i64 (i15 + (1 : Int)))), (D.Z (z16.set (IntKind.wrap .i64 ((IntKind.wrap .i64 ((z9.getD (IntKind.wrap .i64 (i3 - (1 : Int))).toNat 0) + (((6 : Int) :: ((14 : Int) :: ((18 : Int) :: ([] : List Int)))).getD i4.toNat 0))) + (IntKind.wrap .i64 (Int.tdiv (IntKind.wrap .i64 (i5 + i15)) (8 : Int))))).toNat (Go.bits .xor .u8 (z16.getD (IntKind.wrap .i64 ((IntKind.wrap .i64 ((z9.getD (IntKind.wrap .i64 (i3 - (1 : Int))).toNat 0) + (((6 : Int) :: ((14 : Int) :: ((18 : Int) :: ([] : List Int)))).getD i4.toNat 0))) + (IntKind.wrap .i64 (Int.tdiv (IntKind.wrap .i64 (i5 + i15)) (8 : Int))))).toNat 0) (shlI .u8 (1 : Int) (Int.tmod (IntKind.wrap .i64 (i5 + i15)) (8 : Int))))))] ∧ LFrameBent.I0M [(D.V v0), (D.L l1), (D.I i2), (D.I i3), (D.I i4), (D.I i5), (D.I i6), (D.B true), (D.I (IntKind.wrap .i64 (i15 + (1 : Int)))), (D.Z (z16.set (IntKind.wrap .i64 ((IntKind.wrap .i64 ((z9.getD (IntKind.wrap .i64 (i3 - (1 : Int))).toNat 0) + (((6 : Int) :: ((14 : Int) :: ((18 : Int) :: ([] : List Int)))).getD i4.toNat 0))) + (IntKind.wrap .i64 (Int.tdiv (IntKind.wrap .i64 (i5 + i15)) (8 : Int))))).toNat (Go.bits .xor .u8 (z16.getD (IntKind.wrap .i64 ((IntKind.wrap .i64 ((z9.getD (IntKind.wrap .i64 (i3 - (1 : Int))).toNat 0) + (((6 : Int) :: ((14 : Int) :: ((18 : Int) :: ([] : List Int)))).getD i4.toNat 0))) + (IntKind.wrap .i64 (Int.tdiv (IntKind.wrap .i64 (i5 + i15)) (8 : Int))))).toNat 0) (shlI .u8 (1 : Int) (Int.tmod (IntKind.wrap .i64 (i5 + i15)) (8 : Int))))))] < LFrameBent.I0M [(D.V v0), (D.L l1), (D.I i2), (D.I i3), (D.I i4), (D.I i5), (D.I i6), (D.B b14), (D.I i15), (D.Z z16)])))) ∧ (
            ((Go.bits .and .u32 (shrI .u32 i6 i15) (1 : Int)) ≠ (1 : Int)) →
            LFrameBent.I0 [(D.V v0), (D.L l1), (D.I i2), (D.I i3), (D.I i4), (D.I i5), (D.I i6), (D.B b14), (D.I (IntKind.wrap .i64 (i15 + (1 : Int)))), (D.Z z16)] ∧ LFrameBent.I0M [(D.V v0), (D.L l1), (D.I i2), (D.I i3), (D.I i4), (D.I i5), (D.I i6), (D.B b14), (D.I (IntKind.wrap .i64 (i15 + (1 : Int)))), (D.Z z16)] < LFrameBent.I0M [(D.V v0), (D.L l1), (D.I i2), (D.I i3), (D.I i4), (D.I i5), (D.I i6), (D.B b14), (D.I i15), (D.Z z16)])))) ∧ (
           ((IntKind.wrap .i64 ((8 : Int) * (IntKind.wrap .i64 ((IntKind.wrap .i64 ((z9.getD (IntKind.wrap .i64 (i3 - (1 : Int))).toNat 0) + (((14 : Int) :: ((18 : Int) :: ((IntKind.wrap .i64 ((z9.getD i3.toNat 0) - (z9.getD (IntKind.wrap .i64 (i3 - (1 : Int))).toNat 0))) :: ([] : List Int)))).getD i4.toNat 0))) - (IntKind.wrap .i64 ((z9.getD (IntKind.wrap .i64 (i3 - (1 : Int))).toNat 0) + (((6 : Int) :: ((14 : Int) :: ((18 : Int) :: ([] : List Int)))).getD i4.toNat 0))))))) ≤ (IntKind.wrap .i64 (i5 + i15))) →
           FScan.sig.pre [(D.S (textOf z16)), (D.I i2)] ∧ (
           ∀ (v17 : Value),
           ∀ (l18 : List D),
           ∀ (i19 : Int),
           FScan.sig.post [(D.S (textOf z16)), (D.I i2), (D.V v17), (D.L l18), (D.I i19)] →
           (-9223372036854775808 ≤ i19 ∧ i19 < 9223372036854775808) →
           (EK.ok [.str] (D.L l18)) →
           ((
            (b14 = false) →
            Awake06.sig.pre [] ∧ (
            ∀ (b20 : Bool),
            Awake06.sig.post [(D.B b20)] →
            ((
             (b20 = true) →
             LFrameBent.sig.post [(D.V v0), (D.L l1), (D.I i2), (D.I i3), (D.I i4), (D.I i5), (D.I i6), (D.B (i19 == ((s7.size : Nat) : Int)))]) ∧ (
             (b20 = false) →
             LFrameBent.sig.post [(D.V v0), (D.L l1), (D.I i2), (D.I i3), (D.I i4), (D.I i5), (D.I i6), (D.B false)])))) ∧ (
            (b14 = true) →
            Awake06.sig.pre [] ∧ (
            ∀ (b20 : Bool),
            Awake06.sig.post [(D.B b20)] →
            ((
             (b20 = true) →
             ((
              (((l18.length : Nat) : Int) = i3) →
              LFrameBent.sig.post [(D.V v0), (D.L l1), (D.I i2), (D.I i3), (D.I i4), (D.I i5), (D.I i6), (D.B (i19 == (z9.getD (IntKind.wrap .i64 (i3 - (1 : Int))).toNat 0)))]) ∧ (
              (((l18.length : Nat) : Int) ≠ i3) →
              LFrameBent.sig.post [(D.V v0), (D.L l1), (D.I i2), (D.I i3), (D.I i4), (D.I i5), (D.I i6), (D.B false)]))) ∧ (
             (b20 = false) →
             LFrameBent.sig.post [(D.V v0), (D.L l1), (D.I i2), (D.I i3), (D.I i4), (D.I i5), (D.I i6), (D.B false)]))))))))) ∧ (
          ((32 : Int) ≤ i15) →
          FScan.sig.pre [(D.S (textOf z16)), (D.I i2)] ∧ (
          ∀ (v17 : Value),
          ∀ (l18 : List D),
          ∀ (i19 : Int),
          FScan.sig.post [(D.S (textOf z16)), (D.I i2), (D.V v17), (D.L l18), (D.I i19)] →
          (-9223372036854775808 ≤ i19 ∧ i19 < 9223372036854775808) →
          (EK.ok [.str] (D.L l18)) →
          ((
           (b14 = false) →
           Awake06.sig.pre [] ∧ (
           ∀ (b20 : Bool),
           Awake06.sig.post [(D.B b20)] →
           ((
            (b20 = true) →
            LFrameBent.sig.post [(D.V v0), (D.L l1), (D.I i2), (D.I i3), (D.I i4), (D.I i5), (D.I i6), (D.B (i19 == ((s7.size : Nat) : Int)))]) ∧ (
            (b20 = false) →
            LFrameBent.sig.post [(D.V v0), (D.L l1), (D.I i2), (D.I i3), (D.I i4), (D.I i5), (D.I i6), (D.B false)])))) ∧ (
           (b14 = true) →
           Awake06.sig.pre [] ∧ (
           ∀ (b20 : Bool),
           Awake06.sig.post [(D.B b20)] →
           ((
            (b20 = true) →
            ((
             (((l18.length : Nat) : Int) = i3) →
             LFrameBent.sig.post [(D.V v0), (D.L l1), (D.I i2), (D.I i3), (D.I i4), (D.I i5), (D.I i6), (D.B (i19 == (z9.getD (IntKind.wrap .i64 (i3 - (1 : Int))).toNat 0)))]) ∧ (
             (((l18.length : Nat) : Int) ≠ i3) →
             LFrameBent.sig.post [(D.V v0), (D.L l1), (D.I i2), (D.I i3), (D.I i4), (D.I i5), (D.I i6), (D.B false)]))) ∧ (
            (b20 = false) →
            LFrameBent.sig.post [(D.V v0), (D.L l1), (D.I i2), (D.I i3), (D.I i4), (D.I i5), (D.I i6), (D.B false)]))))))))))))))))))) ∧ (
        (i3 ≤ (0 : Int)) →
        ∀ (v11 : Value),
        ((0 : Int) ≤ i4) ∧ (((0 : Int) ≤ i4) →
        (i4 < ((((6 : Int) :: ((14 : Int) :: ((18 : Int) :: ([] : List Int)))).length : Nat) : Int)) ∧ ((i4 < ((((6 : Int) :: ((14 : Int) :: ((18 : Int) :: ([] : List Int)))).length : Nat) : Int)) →
        ((0 : Int) ≤ i3) ∧ (((0 : Int) ≤ i3) →
        (i3 < ((z9.length : Nat) : Int)) ∧ ((i3 < ((z9.length : Nat) : Int)) →
        ∀ (v12 : Value),
        (i4 < ((((14 : Int) :: ((18 : Int) :: ((IntKind.wrap .i64 ((z9.getD i3.toNat 0) - (0 : Int))) :: ([] : List Int)))).length : Nat) : Int)) ∧ ((i4 < ((((14 : Int) :: ((18 : Int) :: ((IntKind.wrap .i64 ((z9.getD i3.toNat 0) - (0 : Int))) :: ([] : List Int)))).length : Nat) : Int)) →
        ((
         ((IntKind.wrap .i64 ((8 : Int) * (IntKind.wrap .i64 ((IntKind.wrap .i64 ((0 : Int) + (((14 : Int) :: ((18 : Int) :: ((IntKind.wrap .i64 ((z9.getD i3.toNat 0) - (0 : Int))) :: ([] : List Int)))).getD i4.toNat 0))) - (IntKind.wrap .i64 ((0 : Int) + (((6 : Int) :: ((14 : Int) :: ((18 : Int) :: ([] : List Int)))).getD i4.toNat 0))))))) ≤ i5) →
         Awake06.sig.pre [] ∧ (
         ∀ (b13 : Bool),
         Awake06.sig.post [(D.B b13)] →
         LFrameBent.sig.post [(D.V v0), (D.L l1), (D.I i2), (D.I i3), (D.I i4), (D.I i5), (D.I i6), (D.B b13)])) ∧ (
         (i5 < (IntKind.wrap .i64 ((8 : Int) * (IntKind.wrap .i64 ((IntKind.wrap .i64 ((0 : Int) + (((14 : Int) :: ((18 : Int) :: ((IntKind.wrap .i64 ((z9.getD i3.toNat 0) - (0 : Int))) :: ([] : List Int)))).getD i4.toNat 0))) - (IntKind.wrap .i64 ((0 : Int) + (((6 : Int) :: ((14 : Int) :: ((18 : Int) :: ([] : List Int)))).getD i4.toNat 0)))))))) →
         ∀ (v13 : Value),
         LFrameBent.I0 [(D.V v0), (D.L l1), (D.I i2), (D.I i3), (D.I i4), (D.I i5), (D.I i6), (D.B false), (D.I (0 : Int)), (D.Z (bytesOf s7))] ∧ (
         ∀ (b14 : Bool),
         ∀ (i15 : Int),
         ∀ (z16 : List Int),
         (-9223372036854775808 ≤ i15 ∧ i15 < 9223372036854775808) →
         (∀ x ∈ z16, IntKind.has .u8 x) →
         LFrameBent.I0 [(D.V v0), (D.L l1), (D.I i2), (D.I i3), (D.I i4), (D.I i5), (D.I i6), (D.B b14), (D.I i15), (D.Z z16)] →
         ((
          (i15 < (32 : Int)) →
          ((
           ((IntKind.wrap .i64 (i5 + i15)) < (IntKind.wrap .i64 ((8 : Int) * (IntKind.wrap .i64 ((IntKind.wrap .i64 ((0 : Int) + (((14 : Int) :: ((18 : Int) :: ((IntKind.wrap .i64 ((z9.getD i3.toNat 0) - (0 : Int))) :: ([] : List Int)))).getD i4.toNat 0))) - (IntKind.wrap .i64 ((0 : Int) + (((6 : Int) :: ((14 : Int) :: ((18 : Int) :: ([] : List Int)))).getD i4.toNat 0)))))))) →
           ((0 : Int) ≤ i15) ∧ (((0 : Int) ≤ i15) →
           ((
            ((Go.bits .and .u32 (shrI .u32 i6 i15) (1 : Int)) = (1 : Int)) →
            ((0 : Int) ≤ (IntKind.wrap .i64 ((IntKind.wrap .i64 ((0 : Int) + (((6 : Int) :: ((14 : Int) :: ((18 : Int) :: ([] : List Int)))).getD i4.toNat 0))) + (IntKind.wrap .i64 (Int.tdiv (IntKind.wrap .i64 (i5 + i15)) (8 : Int)))))) ∧ (((0 : Int) ≤ (IntKind.wrap .i64 ((IntKind.wrap .i64 ((0 : Int) + (((6 : Int) :: ((14 : Int) :: ((18 : Int) :: ([] : List Int)))).getD i4.toNat 0))) + (IntKind.wrap .i64 (Int.tdiv (IntKind.wrap .i64 (i5 + i15)) (8 : Int)))))) →
            ((IntKind.wrap .i64 ((IntKind.wrap .i64 ((0 : Int) + (((6 : Int) :: ((14 : Int) :: ((18 : Int) :: ([] : List Int)))).getD i4.toNat 0))) + (IntKind.wrap .i64 (Int.tdiv (IntKind.wrap .i64 (i5 + i15)) (8 : Int))))) < ((z16.length : Nat) : Int)) ∧ (((IntKind.wrap .i64 ((IntKind.wrap .i64 ((0 : Int) + (((6 : Int) :: ((14 : Int) :: ((18 : Int) :: ([] : List Int)))).getD i4.toNat 0))) + (IntKind.wrap .i64 (Int.tdiv (IntKind.wrap .i64 (i5 + i15)) (8 : Int))))) < ((z16.length : Nat) : Int)) →
            ((0 : Int) ≤ (Int.tmod (IntKind.wrap .i64 (i5 + i15)) (8 : Int))) ∧ (((0 : Int) ≤ (Int.tmod (IntKind.wrap .i64 (i5 + i15)) (8 : Int))) →
            LFrameBent.I0 [(D.V v0), (D.L l1), (D.I i2), (D.I i3), (D.I i4), (D.I i5), (D.I i6), (D.B true), (D.I (IntKind.wrap .i64 (i15 + (1 : Int)))), (D.Z (z16.set (IntKind.wrap .i64 ((IntKind.wrap .i64 ((0 : Int) + (((6 : Int) :: ((14 : Int) :: ((18 : Int) :: ([] : List Int)))).getD i4.toNat 0))) + (IntKind.wrap .i64 (Int.tdiv (IntKind.wrap .i64 (i5 + i15)) (8 : Int))))).toNat (Go.bits .xor .u8 (z16.getD (IntKind.wrap .i64 ((IntKind.wrap .i64 ((0 : Int) + (((6 : Int) :: ((14 : Int) :: ((18 : Int) :: ([] : List Int)))).getD i4.toNat 0))) + (IntKind.wrap .i64 (Int.tdiv (IntKind.wrap .i64 (i5 + i15)) (8 : Int))))).toNat 0) (shlI .u8 (1 : Int) (Int.tmod (IntKind.wrap .i64 (i5 + i15)) (8 : Int))))))] ∧ LFrameBent.I0M [(D.V v0), (D.L l1), (D.I i2), (D.I i3), (D.I i4), (D.I i5), (D.I i6), (D.B true), (D.I (IntKind.wrap .i64 (i15 + (1 : Int)))), (D.Z (z16.set (IntKind.wrap .i64 ((IntKind.wrap .i64 ((0 : Int) + (((6 : Int) :: ((14 : Int) :: ((18 : Int) :: ([] : List Int)))).getD i4.toNat 0))) + (IntKind.wrap .i64 (Int.tdiv (IntKind.wrap .i64 (i5 + i15)) (8 : Int))))).toNat (Go.bits .xor .u8 (z16.getD (IntKind.wrap .i64 ((IntKind.wrap .i64 ((0 : Int) + (((6 : Int) :: ((14 : Int) :: ((18 : Int) :: ([] : List Int)))).getD i4.toNat 0))) + (IntKind.wrap .i64 (Int.tdiv (IntKind.wrap .i64 (i5 + i15)) (8 : Int))))).toNat 0) (shlI .u8 (1 : Int) (Int.tmod (IntKind.wrap .i64 (i5 + i15)) (8 : Int))))))] < LFrameBent.I0M [(D.V v0), (D.L l1), (D.I i2), (D.I i3), (D.I i4), (D.I i5), (D.I i6), (D.B b14), (D.I i15), (D.Z z16)])))) ∧ (
            ((Go.bits .and .u32 (shrI .u32 i6 i15) (1 : Int)) ≠ (1 : Int)) →
            LFrameBent.I0 [(D.V v0), (D.L l1), (D.I i2), (D.I i3), (D.I i4), (D.I i5), (D.I i6), (D.B b14), (D.I (IntKind.wrap .i64 (i15 + (1 : Int)))), (D.Z z16)] ∧ LFrameBent.I0M [(D.V v0), (D.L l1), (D.I i2), (D.I i3), (D.I i4), (D.I i5), (D.I i6), (D.B b14), (D.I (IntKind.wrap .i64 (i15 + (1 : Int)))), (D.Z z16)] < LFrameBent.I0M [(D.V v0), (D.L l1), (D.I i2), (D.I i3), (D.I i4), (D.I i5), (D.I i6), (D.B b14), (D.I i15), (D.Z z16)])))) ∧ (
           ((IntKind.wrap .i64 ((8 : Int) * (IntKind.wrap .i64 ((IntKind.wrap .i64 ((0 : Int) + (((14 : Int) :: ((18 : Int) :: ((IntKind.wrap .i64 ((z9.getD i3.toNat 0) - (0 : Int))) :: ([] : List Int)))).getD i4.toNat 0))) - (IntKind.wrap .i64 ((0 : Int) + (((6 : Int) :: ((14 : Int) :: ((18 : Int) :: ([] : List Int)))).getD i4.toNat 0))))))) ≤ (IntKind.wrap .i64 (i5 + i15))) →
           FScan.sig.pre [(D.S (textOf z16)), (D.I i2)] ∧ (
           ∀ (v17 : Value),
           ∀ (l18 : List D),
           ∀ (i19 : Int),
           FScan.sig.post [(D.S (textOf z16)), (D.I i2), (D.V v17), (D.L l18), (D.I i19)] →
           (-9223372036854775808 ≤ i19 ∧ i19 < 9223372036854775808) →
           (EK.ok [.str] (D.L l18)) →
           ((
            (b14 = false) →
            Awake06.sig.pre [] ∧ (
            ∀ (b20 : Bool),
            Awake06.sig.post [(D.B b20)] →
            ((
             (b20 = true) →
             LFrameBent.sig.post [(D.V v0), (D.L l1), (D.I i2), (D.I i3), (D.I i4), (D.I i5), (D.I i6), (D.B (i19 == ((s7.size : Nat) : Int)))]) ∧ (
             (b20 = false) →
             LFrameBent.sig.post [(D.V v0), (D.L l1), (D.I i2), (D.I i3), (D.I i4), (D.I i5), (D.I i6), (D.B false)])))) ∧ (
            (b14 = true) →
            Awake06.sig.pre [] ∧ (
            ∀ (b20 : Bool),
            Awake06.sig.post [(D.B b20)] →
            ((
             (b20 = true) →
             ((
              (((l18.length : Nat) : Int) = i3) →
              LFrameBent.sig.post [(D.V v0), (D.L l1), (D.I i2), (D.I i3), (D.I i4), (D.I i5), (D.I i6), (D.B (i19 == (0 : Int)))]) ∧ (
              (((l18.length : Nat) : Int) ≠ i3) →
              LFrameBent.sig.post [(D.V v0), (D.L l1), (D.I i2), (D.I i3), (D.I i4), (D.I i5), (D.I i6), (D.B false)]))) ∧ (
             (b20 = false) →
             LFrameBent.sig.post [(D.V v0), (D.L l1), (D.I i2), (D.I i3), (D.I i4), (D.I i5), (D.I i6), (D.B false)]))))))))) ∧ (
          ((32 : Int) ≤ i15) →
          FScan.sig.pre [(D.S (textOf z16)), (D.I i2)] ∧ (
          ∀ (v17 : Value),
          ∀ (l18 : List D),
          ∀ (i19 : Int),
          FScan.sig.post [(D.S (textOf z16)), (D.I i2), (D.V v17), (D.L l18), (D.I i19)] →
          (-9223372036854775808 ≤ i19 ∧ i19 < 9223372036854775808) →
          (EK.ok [.str] (D.L l18)) →
          ((
           (b14 = false) →
           Awake06.sig.pre [] ∧ (
           ∀ (b20 : Bool),
           Awake06.sig.post [(D.B b20)] →
           ((
            (b20 = true) →
            LFrameBent.sig.post [(D.V v0), (D.L l1), (D.I i2), (D.I i3), (D.I i4), (D.I i5), (D.I i6), (D.B (i19 == ((s7.size : Nat) : Int)))]) ∧ (
            (b20 = false) →
            LFrameBent.sig.post [(D.V v0), (D.L l1), (D.I i2), (D.I i3), (D.I i4), (D.I i5), (D.I i6), (D.B false)])))) ∧ (
           (b14 = true) →
           Awake06.sig.pre [] ∧ (
           ∀ (b20 : Bool),
           Awake06.sig.post [(D.B b20)] →
           ((
            (b20 = true) →
            ((
             (((l18.length : Nat) : Int) = i3) →
             LFrameBent.sig.post [(D.V v0), (D.L l1), (D.I i2), (D.I i3), (D.I i4), (D.I i5), (D.I i6), (D.B (i19 == (0 : Int)))]) ∧ (
             (((l18.length : Nat) : Int) ≠ i3) →
             LFrameBent.sig.post [(D.V v0), (D.L l1), (D.I i2), (D.I i3), (D.I i4), (D.I i5), (D.I i6), (D.B false)]))) ∧ (
            (b20 = false) →
            LFrameBent.sig.post [(D.V v0), (D.L l1), (D.I i2), (D.I i3), (D.I i4), (D.I i5), (D.I i6), (D.B false)]))))))))))))))))))))))))))))))))
theorem LFrameBent.den : LFrameBent.vc.den2 (mkEnv LFrameBent.sig [Laid.sig, Awake06.sig, FScan.sig] [(LFrameBent.I0, LFrameBent.I0M)]) [] = LFrameBent.Pure := by kernel_rfl
end Go.Vc

namespace Go.Vc

theorem cut60 (r : ByteArray) : (cutF r 60).size ≤ 60 := by
  unfold cutF
  split
  · rw [ByteArray.size_extract]; omega
  · omega

def lenL : List ByteArray → Nat
  | [] => 0
  | r :: l => 18 + (cutF r 60).size + lenL l
theorem lenL_le : ∀ rs, lenL rs ≤ 78 * rs.length
  | [] => by simp [lenL]
  | r :: rs => by
    have h1 := lenL_le rs
    have h2 := cut60 r
    simp only [lenL, List.length_cons]; omega
theorem lenL_append (a b : List ByteArray) : lenL (a ++ b) = lenL a + lenL b := by
  induction a with
  | nil => simp [lenL]
  | cons r a ih => simp only [List.cons_append, lenL, ih]; omega
theorem laidB_len : ∀ (rs : List ByteArray) (q : Int), (laidB q rs).length = lenL rs
  | [], _ => rfl
  | r :: rs, q => by simp only [laidB, lenL, List.length_append, frameB_len, laidB_len rs]
theorem laidB_has : ∀ (rs : List ByteArray) (q : Int), ∀ x ∈ laidB q rs, 0 ≤ x ∧ x < 256
  | [], _, x, h => by simp [laidB] at h
  | r :: rs, q, x, h => by
    simp only [laidB, List.mem_append] at h
    rcases h with h | h
    · exact frameB_has _ _ x h
    · exact laidB_has rs _ x h
theorem laidB_snoc (r : ByteArray) : ∀ (rs : List ByteArray) (q : Int), 0 ≤ q ∧ q < 18446744073709551616 → laidB q (rs ++ [r]) = laidB q rs ++ frameB ((q + rs.length) % 18446744073709551616) (cutF r 60)
  | [], q, h => by
    have e : (q + (([] : List ByteArray).length : Nat)) % 18446744073709551616 = q := by simp; omega
    rw [e]; simp [laidB]
  | x :: rs, q, h => by
    simp only [List.cons_append, laidB, List.append_assoc]
    rw [laidB_snoc r rs _ (by omega)]
    congr 3
    simp only [List.length_cons]
    omega
theorem endsF_snoc (r : ByteArray) : ∀ (rs : List ByteArray) (a : Int), endsF a (rs ++ [r]) = endsF a rs ++ [a + lenL rs + 18 + (cutF r 60).size]
  | [], a => by simp [endsF, lenL]
  | x :: rs, a => by
    simp only [List.cons_append, endsF, lenL]
    rw [endsF_snoc r rs]
    congr 3
    omega
theorem endsF_len : ∀ (rs : List ByteArray) (a : Int), (endsF a rs).length = rs.length
  | [], _ => rfl
  | _ :: rs, a => by simp only [endsF, List.length_cons, endsF_len rs]
theorem endsF_gt : ∀ (rs : List ByteArray) (a : Int), ∀ x ∈ endsF a rs, a + 18 ≤ x
  | [], _, x, h => by simp [endsF] at h
  | r :: rs, a, x, h => by
    simp only [endsF, List.mem_cons] at h
    rcases h with rfl | h
    · omega
    · have := endsF_gt rs _ x h; omega
theorem endsF_last : ∀ (rs : List ByteArray) (a : Int), (endsF a rs).getLastD a = a + lenL rs
  | [], a => by simp [endsF, lenL]
  | r :: rs, a => by
    simp only [endsF, lenL, List.getLastD_cons]
    rw [endsF_last rs]; omega

theorem map_take_snoc {l : List D} {i : Nat} (h : i < l.length) : (l.take (i + 1)).map D.toS = (l.take i).map D.toS ++ [(l.getD i default).toS] := by
  rw [List.take_add_one, List.map_append]
  congr 1
  simp [List.getD, h]

theorem Laid.pure : Laid.Pure := by
  intro v0 l1 i2 h1 h2 h3 v3 v4
  refine ⟨?_, ?_⟩
  · exact ⟨by decide, by decide, by omega, rfl, rfl⟩
  intro s5 v6 z7 i8 h4 h5 h6 h7
  obtain ⟨a, b, c, d, e⟩ : 0 ≤ i8 ∧ i8 ≤ 6 ∧ i8 ≤ l1.length ∧ s5 = textOf (laidB i2 ((l1.take i8.toNat).map D.toS)) ∧ z7 = endsF 0 ((l1.take i8.toNat).map D.toS) := h7
  have hlen : ((l1.take i8.toNat).map D.toS).length = i8.toNat := by rw [List.length_map, List.length_take]; omega
  have hs5 : s5.size = lenL ((l1.take i8.toNat).map D.toS) := by rw [d, size_textOf, laidB_len]
  have hle := lenL_le ((l1.take i8.toNat).map D.toS)
  rw [hlen] at hle
  have fin : (l1.length ≤ i8 ∨ 6 ≤ i8) → Laid.sig.post [(D.V v0), (D.L l1), (D.I i2), (D.S s5), (D.V v6), (D.Z z7)] := by
    intro h
    have er : recs l1 = (l1.take i8.toNat).map D.toS := by
      rw [recs]
      congr 1
      rcases h with h | h
      · rw [List.take_of_length_le (by omega), List.take_of_length_le (by omega)]
      · rw [show i8.toNat = 6 from by omega]
    show s5 = textOf (laidB i2 (recs l1)) ∧ z7 = endsF 0 (recs l1)
    rw [er]; exact ⟨d, e⟩
  refine ⟨?_, ?_⟩
  · intro h8
    refine ⟨?_, ?_⟩
    · intro h9
      refine ⟨?_, fun h10 => ?_⟩
      · omega -- (0 : Int) ≤ i8
      refine ⟨(by decide : (0 : Int) ≤ 60), ?_⟩
      intro s9 h11 h12
      have h11 : s9 = cutF (l1.getD i8.toNat default).toS 60 := h11
      have l9 := cut60 (l1.getD i8.toNat default).toS
      rw [← h11] at l9
      have eq : IntKind.wrap .u64 (i2 + IntKind.wrap .u64 i8) = (i2 + i8) % 18446744073709551616 := by rw [IntKind.wrap_u64, IntKind.wrap_u64]; omega
      rw [eq]
      refine ⟨by show s9.size ≤ 900000000; omega, ?_⟩
      intro s10 i11 h13 h14 h15
      have h13 : if s9.size > 4194304 then s10 = ByteArray.empty ∧ i11 = 12 else s10 = textOf (frameB ((i2 + i8) % 18446744073709551616) s9) ∧ i11 = 0 := h13
      rw [if_neg (by omega)] at h13
      obtain ⟨g13, rfl⟩ := h13
      refine ⟨fun h => absurd rfl h, fun _ => ?_⟩
      have hs10 : s10.size = 18 + s9.size := by rw [g13, size_textOf, frameB_len]
      have en : s5 ++ s10 = textOf (laidB i2 ((l1.take (i8.toNat + 1)).map D.toS)) := by
        rw [map_take_snoc (by omega), laidB_snoc _ _ _ h1, ← textOf_append, ← d, g13, hlen, h11, show ((i8.toNat : Nat) : Int) = i8 from by omega]
      refine ⟨by rw [ByteArray.size_append]; omega, fun h17 v12 => ?_⟩
      have hz : z7.length = i8.toNat := by rw [e, endsF_len, hlen]
      refine ⟨by rw [List.length_append]; simp only [List.length_cons, List.length_nil]; omega, fun h18 v13 => ?_⟩
      rw [i64w (by omega) (by omega)]
      refine ⟨?_, ?_⟩
      · refine ⟨by omega, by omega, by omega, ?_, ?_⟩
        · rw [en, show (i8 + 1).toNat = i8.toNat + 1 from by omega]
        · rw [show (i8 + 1).toNat = i8.toNat + 1 from by omega, map_take_snoc (by omega), endsF_snoc, ← e, ByteArray.size_append, hs5, hs10, h11]
          congr 2
          omega
      · show (6 - (i8 + 1)).toNat < (6 - i8).toNat
        omega
    · intro h9
      exact fin (.inr h9)
  · intro h8
    exact fin (.inl h8)

def cuts (rs : List ByteArray) : List (List Int) := rs.map fun r => bytesOf (cutF r 60)

theorem scan_laid : ∀ (rs : List ByteArray) (q : Int) (rest : List Int) (f : Nat), 0 ≤ q ∧ q < 18446744073709551616 → (laidB q rs ++ rest).length < f → (fRead rest).2.2.2 ≠ 0 →
    fScan f (laidB q rs ++ rest) q = (cuts rs, (lenL rs : Int))
  | [], q, rest, f, _, hf, hr => by
    obtain ⟨g, rfl⟩ : ∃ g, f = g + 1 := ⟨f - 1, by omega⟩
    show fScan (g + 1) rest q = _
    rw [scan_stop (.inl hr)]; rfl
  | r :: rs, q, rest, f, hq, hf, hr => by
    obtain ⟨g, rfl⟩ : ∃ g, f = g + 1 := ⟨f - 1, by omega⟩
    have hc := cut60 r
    simp only [laidB, List.append_assoc] at hf ⊢
    have h := fRead_frame (q := q) (r := cutF r 60) (laidB ((q + 1) % 18446744073709551616) rs ++ rest) hq (by omega)
    rw [scan_step (by rw [h]) (by rw [h]), h]
    dsimp only
    rw [show (18 + ((cutF r 60).size : Int)).toNat = 18 + (cutF r 60).size from by omega, drop_left (frameB_len _ _)]
    rw [List.length_append, frameB_len] at hf
    rw [scan_laid rs _ rest g (by omega) (by omega) hr]
    simp only [cuts, List.map_cons, lenL, Prod.mk.injEq, true_and]
    omega

theorem take_app_le {a b : List Int} {c : Nat} (h : c ≤ a.length) : (a ++ b).take c = a.take c := List.take_append_of_le_length h
theorem take_app_ge {a b : List Int} {c : Nat} (h : a.length ≤ c) : (a ++ b).take c = a ++ b.take (c - a.length) := by
  rw [List.take_append, List.take_of_length_le h]

theorem scan_torn : ∀ (rs : List ByteArray) (q a : Int) (c f : Nat), 0 ≤ q ∧ q < 18446744073709551616 → ((laidB q rs).take c).length < f →
    ∃ k, k ≤ rs.length ∧ fScan f ((laidB q rs).take c) q = (cuts (rs.take k), (lenL (rs.take k) : Int)) ∧ (endsF a rs).filter (fun x => decide (x ≤ a + c)) = endsF a (rs.take k)
  | [], q, a, c, f, _, hf => by
    obtain ⟨g, rfl⟩ : ∃ g, f = g + 1 := ⟨f - 1, by omega⟩
    refine ⟨0, Nat.le_refl _, ?_, rfl⟩
    have e : (laidB q []).take c = [] := by simp [laidB]
    rw [e, scan_stop (.inl (by decide))]; rfl
  | r :: rs, q, a, c, f, hq, hf => by
    obtain ⟨g, rfl⟩ : ∃ g, f = g + 1 := ⟨f - 1, by omega⟩
    have hc := cut60 r
    have hl := frameB_len q (cutF r 60)
    simp only [laidB] at hf ⊢
    by_cases h : 18 + (cutF r 60).size ≤ c
    · rw [take_app_ge (by omega)] at hf ⊢
      have hr := fRead_frame (q := q) (r := cutF r 60) ((laidB ((q + 1) % 18446744073709551616) rs).take (c - (frameB q (cutF r 60)).length)) hq (by omega)
      rw [List.length_append] at hf
      obtain ⟨k, k1, k2, k3⟩ := scan_torn rs ((q + 1) % 18446744073709551616) (a + 18 + (cutF r 60).size) (c - (frameB q (cutF r 60)).length) g (by omega) (by omega)
      refine ⟨k + 1, by simp only [List.length_cons]; omega, ?_, ?_⟩
      · rw [scan_step (by rw [hr]) (by rw [hr]), hr]
        dsimp only
        rw [show (18 + ((cutF r 60).size : Int)).toNat = 18 + (cutF r 60).size from by omega, drop_left hl, k2]
        simp only [cuts, List.take_succ_cons, List.map_cons, lenL, Prod.mk.injEq, true_and]
        omega
      · simp only [endsF, List.take_succ_cons]
        rw [List.filter_cons_of_pos (by simp; omega), ← k3]
        congr 1
        apply List.filter_congr
        intro x _
        congr 1
        apply propext
        omega
    · rw [take_app_le (by omega)]
      refine ⟨0, Nat.zero_le _, ?_, ?_⟩
      · rw [scan_stop (.inl (by rw [fRead_torn (by omega) (by omega)]; decide))]; rfl
      · rw [List.take_zero]
        show (endsF a (r :: rs)).filter _ = []
        rw [List.filter_eq_nil_iff]
        intro x hx
        simp only [endsF, List.mem_cons] at hx
        simp only [decide_eq_true_eq]
        rcases hx with rfl | hx
        · omega
        · have := endsF_gt rs _ x hx; omega

theorem thrice {A : Prop} (h : A) : A ∧ (A ∧ A) := ⟨h, h, h⟩

theorem cuts_get {rs : List ByteArray} {i : Nat} (h : i < rs.length) : ((txts (cuts rs)).getD i default).toS = cutF (rs.getD i default) 60 := by
  simp only [txts, cuts, List.map_map, List.getD, List.getElem?_map, List.getElem?_eq_getElem h, Option.map_some, Option.getD_some, Function.comp, D.toS_S, textOf_bytesOf]

theorem recs_get {l : List D} {i : Nat} (h : i < (recs l).length) : (recs l).getD i default = (l.getD i default).toS := by
  have h6 : i < l.length ∧ i < 6 := by
    rw [recs, List.length_map, List.length_take] at h; omega
  simp only [recs, List.getD, List.getElem?_map]
  rw [List.getElem?_take_of_lt h6.2, List.getElem?_eq_getElem h6.1]; rfl

theorem LFrameBack.pure : LFrameBack.Pure := by
  intro v0 l1 i2 s3 h1 h2 h3 h4
  have aw : ∀ b : Bool, Awake06.sig.post [D.B b] → LFrameBack.sig.post [(D.V v0), (D.L l1), (D.I i2), (D.S s3), (D.B b)] := fun b h => yesB (l := [_, _, _, _]) (awake06 h)
  refine ⟨trivial, ?_⟩
  intro s4 v5 z6 h5 h6 h7
  obtain ⟨es, ez⟩ : s4 = textOf (laidB i2 (recs l1)) ∧ z6 = endsF 0 (recs l1) := h5
  have hrl : (recs l1).length ≤ 6 ∧ (recs l1).length ≤ l1.length := by rw [recs, List.length_map, List.length_take]; omega
  have hll := lenL_le (recs l1)
  have hs4 : s4.size = lenL (recs l1) := by rw [es, size_textOf, laidB_len]
  have hz6 : z6.length = (recs l1).length := by rw [ez, endsF_len]
  refine ⟨fun h8 => ⟨fun h9 => ⟨trivial, aw⟩, fun h9 => ?_⟩, fun h8 => ?_⟩
  all_goals
    have hst : s3.size = 0 ∨ byteAt s3 0 ≠ 79 := by first | exact .inr h9 | exact .inl (by omega)
    refine ⟨(by decide : (0 : Int) ≤ 30), ?_⟩
    intro s7 h10 h11
    have h10 : s7 = cutF s3 30 := h10
    have hs7 : s7.size ≤ 30 := by
      rw [h10]; unfold cutF; split
      · rw [ByteArray.size_extract]; omega
      · omega
    have hrest : (fRead (bytesOf s7)).2.2.2 ≠ 0 := by
      have hl7 := bytesOf_length' s7
      unfold fRead
      by_cases c2 : (bytesOf s7).length < 2
      · rw [if_pos c2]; decide
      · rw [if_neg c2, if_pos]
        · decide
        · intro hc
          have h0 : (bytesOf s7).getD 0 0 = 79 := by
            have := congrArg (fun l : List Int => l.getD 0 0) hc
            rw [getD_take] at this
            simpa using this
          rcases hst with hst | hst
          · rw [h10] at hl7
            have : (cutF s3 30).size = 0 := by
              unfold cutF; rw [if_neg (by omega)]; exact hst
            rw [h10] at c2
            omega
          · apply hst
            rw [byteAt_eq, show (0 : Int).toNat = 0 from rfl, ← h0, h10]
            unfold cutF
            split
            · rw [bytesOf_extract, List.drop_zero, getD_take, if_pos (by decide)]
            · rfl
    refine ⟨by rw [ByteArray.size_append]; omega, fun h12 => ?_⟩
    refine ⟨by show (s4 ++ s7).size ≤ 1000000000; rw [ByteArray.size_append]; omega, ?_⟩
    intro v8 l9 i10 h13 h14 h15
    have h13 : l9 = txts (scanF (bytesOf (s4 ++ s7)) i2).1 ∧ i10 = (scanF (bytesOf (s4 ++ s7)) i2).2 := h13
    have hb : bytesOf (s4 ++ s7) = laidB i2 (recs l1) ++ bytesOf s7 := by rw [bytesOf_append, es, bytesOf_textOf (laidB_has _ _)]
    rw [hb, scanF, scan_laid _ _ _ _ h1 (Nat.lt_succ_self _) hrest] at h13
    have hl9 : l9.length = (recs l1).length := by rw [h13.1, txts_len, cuts, List.length_map]
    refine ⟨fun h => absurd (by omega) h, fun _ => ⟨fun h => absurd (by rw [h13.2]; show (lenL (recs l1) : Int) = _; omega) h, fun _ => ?_⟩⟩
    refine ⟨⟨by decide, by decide⟩, ?_⟩
    intro i11 h18 h19
    have h19 : 0 ≤ i11 ∧ i11 ≤ 6 := h19
    refine ⟨fun h20 => ?_, fun _ => ⟨trivial, aw⟩⟩
    refine ⟨h19.1, fun _ => ⟨by omega, fun _ => thrice ?_⟩⟩
    refine ⟨(by decide : (0 : Int) ≤ 60), ?_⟩
    intro s12 h23 h24
    have h23 : s12 = cutF (l1.getD i11.toNat default).toS 60 := h23
    have e12 : (l9.getD i11.toNat default).toS = s12 := by
      rw [h13.1, cuts_get (by omega), recs_get (by omega), h23]
    refine ⟨fun h => absurd e12 h, fun _ => ?_⟩
    rw [i64w (by omega) (by omega)]
    refine ⟨⟨by omega, by omega⟩, ?_⟩
    show (6 - (i11 + 1)).toNat < (6 - i11).toNat
    omega

theorem filter_take_snoc {l : List Int} {i : Nat} (h : i < l.length) (p : Int → Bool) : (l.take (i + 1)).filter p = (l.take i).filter p ++ (if p (l.getD i 0) then [l.getD i 0] else []) := by
  rw [take_snoc' h, List.filter_append]
  congr 1
  simp [List.filter_cons]

theorem LFrameTorn.pure : LFrameTorn.Pure := by
  intro v0 l1 i2 i3 h1 h2 h3 h4
  have aw : ∀ b : Bool, Awake06.sig.post [D.B b] → LFrameTorn.sig.post [(D.V v0), (D.L l1), (D.I i2), (D.I i3), (D.B b)] := fun b h => yesB (l := [_, _, _, _]) (awake06 h)
  refine ⟨trivial, ?_⟩
  intro s4 v5 z6 h5 h6 h7
  obtain ⟨es, ez⟩ : s4 = textOf (laidB i2 (recs l1)) ∧ z6 = endsF 0 (recs l1) := h5
  have hrl : (recs l1).length ≤ 6 ∧ (recs l1).length ≤ l1.length := by rw [recs, List.length_map, List.length_take]; omega
  have hll := lenL_le (recs l1)
  have hs4 : s4.size = lenL (recs l1) := by rw [es, size_textOf, laidB_len]
  have hz6 : z6.length = (recs l1).length := by rw [ez, endsF_len]
  have hel : (endsF 0 (recs l1)).length = (recs l1).length := endsF_len _ _
  refine ⟨fun _ => ⟨trivial, aw⟩, fun h8 => ⟨fun _ => ⟨trivial, aw⟩, fun h9 => ?_⟩⟩
  refine ⟨⟨by decide, by omega, rfl, rfl⟩, ?_⟩
  intro i7 i8 i9 h10 h11 h12 h13
  obtain ⟨a, b, c, d⟩ : 0 ≤ i9 ∧ i9 ≤ (endsF 0 (recs l1)).length ∧ i7 = cnt i3 ((endsF 0 (recs l1)).take i9.toNat) ∧ i8 = lastLe i3 ((endsF 0 (recs l1)).take i9.toNat) := h13
  have hcnt : 0 ≤ i7 ∧ i7 ≤ 6 := by
    rw [c, cnt]
    have := List.length_filter_le (fun x => decide (x ≤ i3)) ((endsF 0 (recs l1)).take i9.toNat)
    rw [List.length_take] at this
    omega
  refine ⟨?_, ?_⟩
  · intro h14
    refine ⟨a, fun _ => ?_⟩
    rw [i64w (x := i9 + 1) (by omega) (by omega), i64w (x := i7 + 1) (by omega) (by omega), ez]
    have hf := filter_take_snoc (l := endsF 0 (recs l1)) (i := i9.toNat) (by omega) (fun x => decide (x ≤ i3))
    have less : ∀ x y : Int, LFrameTorn.I0M [(D.V v0), (D.L l1), (D.I i2), (D.I i3), (D.I x), (D.I y), (D.I (i9 + 1))] < LFrameTorn.I0M [(D.V v0), (D.L l1), (D.I i2), (D.I i3), (D.I i7), (D.I i8), (D.I i9)] := by
      intro x y
      show (((endsF 0 (recs l1)).length : Int) - (i9 + 1)).toNat < (((endsF 0 (recs l1)).length : Int) - i9).toNat
      omega
    refine ⟨fun h16 => ?_, fun h16 => ?_⟩
    · rw [if_pos (by simp only [decide_eq_true_eq]; exact h16)] at hf
      refine ⟨⟨by omega, by omega, ?_, ?_⟩, less _ _⟩
      · rw [show (i9 + 1).toNat = i9.toNat + 1 from by omega, cnt, hf, List.length_append, c, cnt]
        simp
      · rw [show (i9 + 1).toNat = i9.toNat + 1 from by omega, lastLe, hf]
        simp
    · rw [if_neg (by simp only [decide_eq_true_eq]; omega), List.append_nil] at hf
      refine ⟨⟨by omega, by omega, ?_, ?_⟩, less _ _⟩
      · rw [show (i9 + 1).toNat = i9.toNat + 1 from by omega, cnt, hf, c, cnt]
      · rw [show (i9 + 1).toNat = i9.toNat + 1 from by omega, lastLe, hf, d, lastLe]
  · intro h14
    rw [List.take_of_length_le (by omega)] at c d
    refine ⟨by omega, fun _ => ⟨by omega, fun _ => ?_⟩⟩
    have hb : bytesOf (s4.extract (0 : Int).toNat i3.toNat) = (laidB i2 (recs l1)).take i3.toNat := by
      rw [bytesOf_extract, es, bytesOf_textOf (laidB_has _ _)]; rfl
    refine ⟨by show (s4.extract (0 : Int).toNat i3.toNat).size ≤ 1000000000; rw [ByteArray.size_extract]; omega, ?_⟩
    intro v10 l11 i12 h17 h18 h19
    have h17 : l11 = txts (scanF (bytesOf (s4.extract (0 : Int).toNat i3.toNat)) i2).1 ∧ i12 = (scanF (bytesOf (s4.extract (0 : Int).toNat i3.toNat)) i2).2 := h17
    obtain ⟨k, k1, k2, k3⟩ := scan_torn (recs l1) i2 0 i3.toNat (((laidB i2 (recs l1)).take i3.toNat).length + 1) h1 (Nat.lt_succ_self _)
    rw [hb, scanF, k2] at h17
    have ef : (endsF 0 (recs l1)).filter (fun x => decide (x ≤ i3)) = endsF 0 ((recs l1).take k) := by
      rw [← k3]
      apply List.filter_congr
      intro x _
      congr 1
      apply propext
      omega
    have hk : ((recs l1).take k).length = k := by rw [List.length_take]; omega
    have e7 : i7 = k := by rw [c, cnt, ef, endsF_len, hk]
    have e8 : i8 = lenL ((recs l1).take k) := by
      rw [d, lastLe, ef, endsF_last]; omega
    have hl11 : l11.length = k := by rw [h17.1, txts_len, cuts, List.length_map, hk]
    refine ⟨fun h => absurd (by omega) h, fun _ => ⟨fun h => absurd (by rw [h17.2]; exact e8.symm) h, fun _ => ?_⟩⟩
    refine ⟨⟨by decide, by decide⟩, ?_⟩
    intro i13 h22 h23
    have h23 : 0 ≤ i13 ∧ i13 ≤ 6 := h23
    refine ⟨fun h20 => ?_, fun _ => ⟨trivial, aw⟩⟩
    refine ⟨h23.1, fun _ => ⟨by omega, fun _ => thrice ?_⟩⟩
    refine ⟨(by decide : (0 : Int) ≤ 60), ?_⟩
    intro s14 h27 h28
    have h27 : s14 = cutF (l1.getD i13.toNat default).toS 60 := h27
    have e12 : (l11.getD i13.toNat default).toS = s14 := by
      have hg : ((recs l1).take k).getD i13.toNat default = (recs l1).getD i13.toNat default := by
        simp only [List.getD]
        rw [List.getElem?_take_of_lt (by omega)]
      rw [h17.1, cuts_get (by omega), hg, recs_get (by omega), h27]
    refine ⟨fun h => absurd e12 h, fun _ => ?_⟩
    rw [i64w (by omega) (by omega)]
    refine ⟨⟨by omega, by omega⟩, ?_⟩
    show (6 - (i13 + 1)).toNat < (6 - i13).toNat
    omega

end Go.Vc
