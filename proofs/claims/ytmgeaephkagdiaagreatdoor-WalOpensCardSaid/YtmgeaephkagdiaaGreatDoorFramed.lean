/-
  Contracts of the document's frames.
  Printed by wip/vct.py: the conditions of functions, by their contracts.
  The document's frames: the plain part.
-/
import Derived.Test.YtmgeaephkagdiaaGreatDoorFrameb
import Derived.KernelRfl
set_option linter.unusedVariables false
set_option linter.unusedSimpArgs false
namespace Go.Vc
def RWr.pre : List D → Prop
  | [.I _, .S s] => s.size ≤ 900000000
  | _ => False
def RWr.post : List D → Prop
  | [.I q, .S s, .S r] => r = if s.size > 4194304 then ByteArray.empty else textOf (frameB q s)
  | _ => False
def RWr.sig : Sig := sigF [.i .u64, .s] [.s] RWr.pre RWr.post
def FNumb.pre : List D → Prop
  | [.S s] => s.size ≤ 8
  | _ => False
def FNumb.post : List D → Prop
  | [.S s, .I r] => r = beNum (bytesOf s)
  | _ => False
def FNumb.sig : Sig := sigF [.s] [.i .u64] FNumb.pre FNumb.post
def FNumb.I0 : List D → Prop
  | [.S s, .I v, .I i] => 0 ≤ i ∧ i ≤ s.size ∧ v = beNum ((bytesOf s).take i.toNat)
  | _ => False
def FNumb.I0M : List D → Nat
  | [.S s, .I _, .I i] => ((s.size : Int) - i).toNat
  | _ => 0
def RRd.sig : Sig := { sigF [.s] [.i .u64, .s, .i .i64, .i .i64] FRead.pre FRead.post with res := .one (.agg [.lf (.int .u64 (.at 1)), .lf (.str (.at 2)), .lf (.int .i64 (.at 3)), .lf (.int .i64 (.at 4))]) }
def RScn.sig : Sig := FScan.sig
def SameL.post : List D → Prop
  | [.V _, .L a, .V _, .L b, .I r] => a = b → r = 0
  | _ => False
def SameL.pre : List D → Prop
  | [.V _, .L _, .V _, .L b] => b.length ≤ 1000000
  | _ => False
def SameL.sig : Sig := sigF [.l [.str], .l [.str]] [.i .i64] SameL.pre SameL.post
def SameL.I0 : List D → Prop
  | [.V _, .L _, .V _, .L b, .I i] => 0 ≤ i ∧ i ≤ b.length
  | _ => False
def SameL.I0M : List D → Nat
  | [.V _, .L _, .V _, .L b, .I i] => ((b.length : Int) - i).toNat
  | _ => 0
end Go.Vc
namespace Go.Vc
set_option linter.unusedVariables false
def RWr.Pure : Prop :=
 ∀ (i0 : Int),
 ∀ (s1 : ByteArray),
 (0 ≤ i0 ∧ i0 < 18446744073709551616) →
 ((s1.size : Int) ≤ 9223372036854775807) →
 RWr.sig.pre [.I i0, .S s1] →
 ((
 ((4194304 : Int) < ((s1.size : Nat) : Int)) →
  RWr.sig.post [.I i0, .S s1, (D.S (⟨#[]⟩ : ByteArray))]) ∧ (
 (((s1.size : Nat) : Int) ≤ (4194304 : Int)) →
  RFixed.sig.pre [(D.I (IntKind.wrap .u64 ((s1.size : Nat) : Int))), (D.I (4 : Int))] ∧ (
 ∀ (s2 : ByteArray),
  RFixed.sig.post [(D.I (IntKind.wrap .u64 ((s1.size : Nat) : Int))), (D.I (4 : Int)), .S s2] →
 ((s2.size : Int) ≤ 9223372036854775807) →
  RFixed.sig.pre [.I i0, (D.I (8 : Int))] ∧ (
 ∀ (s3 : ByteArray),
  RFixed.sig.post [.I i0, (D.I (8 : Int)), .S s3] →
 ((s3.size : Int) ≤ 9223372036854775807) →
 ((((s2 ++ s3).size : Nat) : Int) ≤ (9223372036854775807 : Int)) ∧ (((((s2 ++ s3).size : Nat) : Int) ≤ (9223372036854775807 : Int)) →
 (((((⟨#[79, 74]⟩ : ByteArray) ++ (s2 ++ s3)).size : Nat) : Int) ≤ (9223372036854775807 : Int)) ∧ ((((((⟨#[79, 74]⟩ : ByteArray) ++ (s2 ++ s3)).size : Nat) : Int) ≤ (9223372036854775807 : Int)) →
 (((((s2 ++ s3) ++ s1).size : Nat) : Int) ≤ (9223372036854775807 : Int)) ∧ ((((((s2 ++ s3) ++ s1).size : Nat) : Int) ≤ (9223372036854775807 : Int)) →
  RMore.sig.pre [(D.I (0 : Int)), (D.S ((s2 ++ s3) ++ s1))] ∧ (
 ∀ (i4 : Int),
  RMore.sig.post [(D.I (0 : Int)), (D.S ((s2 ++ s3) ++ s1)), .I i4] →
 (0 ≤ i4 ∧ i4 < 4294967296) →
  RFixed.sig.pre [(D.I (IntKind.wrap .u64 i4)), (D.I (4 : Int))] ∧ (
 ∀ (s5 : ByteArray),
  RFixed.sig.post [(D.I (IntKind.wrap .u64 i4)), (D.I (4 : Int)), .S s5] →
 ((s5.size : Int) ≤ 9223372036854775807) →
 ((((((⟨#[79, 74]⟩ : ByteArray) ++ (s2 ++ s3)) ++ s5).size : Nat) : Int) ≤ (9223372036854775807 : Int)) ∧ (((((((⟨#[79, 74]⟩ : ByteArray) ++ (s2 ++ s3)) ++ s5).size : Nat) : Int) ≤ (9223372036854775807 : Int)) →
 (((((((⟨#[79, 74]⟩ : ByteArray) ++ (s2 ++ s3)) ++ s5) ++ s1).size : Nat) : Int) ≤ (9223372036854775807 : Int)) ∧ ((((((((⟨#[79, 74]⟩ : ByteArray) ++ (s2 ++ s3)) ++ s5) ++ s1).size : Nat) : Int) ≤ (9223372036854775807 : Int)) →
  RWr.sig.post [.I i0, .S s1, (D.S ((((⟨#[79, 74]⟩ : ByteArray) ++ (s2 ++ s3)) ++ s5) ++ s1))])))))))))))
def FNumb.Pure : Prop :=
 ∀ (s0 : ByteArray),
 ((s0.size : Int) ≤ 9223372036854775807) →
 FNumb.sig.pre [.S s0] →
 FNumb.I0 [.S s0, (D.I (0 : Int)), (D.I (0 : Int))] ∧ (
 ∀ (i1 : Int),
 ∀ (i2 : Int),
 (0 ≤ i1 ∧ i1 < 18446744073709551616) →
 (-9223372036854775808 ≤ i2 ∧ i2 < 9223372036854775808) →
 FNumb.I0 [.S s0, .I i1, .I i2] →
 ((
 (i2 < ((s0.size : Nat) : Int)) →
 ((0 : Int) ≤ i2) ∧ (((0 : Int) ≤ i2) →
  FNumb.I0 [.S s0, (D.I (IntKind.wrap .u64 ((IntKind.wrap .u64 ((256 : Int) * i1)) + (IntKind.wrap .u64 (byteAt s0 i2))))), (D.I (IntKind.wrap .i64 (i2 + (1 : Int))))] ∧ FNumb.I0M [.S s0, (D.I (IntKind.wrap .u64 ((IntKind.wrap .u64 ((256 : Int) * i1)) + (IntKind.wrap .u64 (byteAt s0 i2))))), (D.I (IntKind.wrap .i64 (i2 + (1 : Int))))] < FNumb.I0M [.S s0, .I i1, .I i2])) ∧ (
 (((s0.size : Nat) : Int) ≤ i2) →
  FNumb.sig.post [.S s0, .I i1])))
def RRd.Pure : Prop :=
 ∀ (s0 : ByteArray),
 ((s0.size : Int) ≤ 9223372036854775807) →
 RRd.sig.pre [.S s0] →
 ∀ (n1 : Nat),
 ((
 (((s0.size : Nat) : Int) < (2 : Int)) →
  RRd.sig.post [.S s0, (D.I (0 : Int)), (D.S (⟨#[]⟩ : ByteArray)), (D.I (0 : Int)), (D.I (2 : Int))]) ∧ (
 ((2 : Int) ≤ ((s0.size : Nat) : Int)) →
 ((2 : Int) ≤ ((s0.size : Nat) : Int)) ∧ (((2 : Int) ≤ ((s0.size : Nat) : Int)) →
 ((
 ((s0.extract (0 : Int).toNat (2 : Int).toNat) ≠ (⟨#[79, 74]⟩ : ByteArray)) →
   RRd.sig.post [.S s0, (D.I (0 : Int)), (D.S (⟨#[]⟩ : ByteArray)), (D.I (0 : Int)), (D.I (3 : Int))]) ∧ (
 ((s0.extract (0 : Int).toNat (2 : Int).toNat) = (⟨#[79, 74]⟩ : ByteArray)) →
 ((
 (((s0.size : Nat) : Int) < (18 : Int)) →
    RRd.sig.post [.S s0, (D.I (0 : Int)), (D.S (⟨#[]⟩ : ByteArray)), (D.I (0 : Int)), (D.I (2 : Int))]) ∧ (
 ((18 : Int) ≤ ((s0.size : Nat) : Int)) →
 ((6 : Int) ≤ ((s0.size : Nat) : Int)) ∧ (((6 : Int) ≤ ((s0.size : Nat) : Int)) →
    FNumb.sig.pre [(D.S (s0.extract (2 : Int).toNat (6 : Int).toNat))] ∧ (
 ∀ (i2 : Int),
    FNumb.sig.post [(D.S (s0.extract (2 : Int).toNat (6 : Int).toNat)), .I i2] →
 (0 ≤ i2 ∧ i2 < 18446744073709551616) →
 ((
 ((4194304 : Int) < (IntKind.wrap .i64 i2)) →
     RRd.sig.post [.S s0, (D.I (0 : Int)), (D.S (⟨#[]⟩ : ByteArray)), (D.I (0 : Int)), (D.I (12 : Int))]) ∧ (
 ((IntKind.wrap .i64 i2) ≤ (4194304 : Int)) →
 ((
 (((s0.size : Nat) : Int) < (IntKind.wrap .i64 ((18 : Int) + (IntKind.wrap .i64 i2)))) →
      RRd.sig.post [.S s0, (D.I (0 : Int)), (D.S (⟨#[]⟩ : ByteArray)), (D.I (0 : Int)), (D.I (2 : Int))]) ∧ (
 ((IntKind.wrap .i64 ((18 : Int) + (IntKind.wrap .i64 i2))) ≤ ((s0.size : Nat) : Int)) →
 ((14 : Int) ≤ ((s0.size : Nat) : Int)) ∧ (((14 : Int) ≤ ((s0.size : Nat) : Int)) →
      FNumb.sig.pre [(D.S (s0.extract (6 : Int).toNat (14 : Int).toNat))] ∧ (
 ∀ (i3 : Int),
      FNumb.sig.post [(D.S (s0.extract (6 : Int).toNat (14 : Int).toNat)), .I i3] →
 (0 ≤ i3 ∧ i3 < 18446744073709551616) →
 ((18 : Int) ≤ (IntKind.wrap .i64 ((18 : Int) + (IntKind.wrap .i64 i2)))) ∧ (((18 : Int) ≤ (IntKind.wrap .i64 ((18 : Int) + (IntKind.wrap .i64 i2)))) →
 ((IntKind.wrap .i64 ((18 : Int) + (IntKind.wrap .i64 i2))) ≤ ((s0.size : Nat) : Int)) ∧ (((IntKind.wrap .i64 ((18 : Int) + (IntKind.wrap .i64 i2))) ≤ ((s0.size : Nat) : Int)) →
 ((0 : Int) ≤ (IntKind.wrap .i64 ((18 : Int) + (IntKind.wrap .i64 i2)))) ∧ (((0 : Int) ≤ (IntKind.wrap .i64 ((18 : Int) + (IntKind.wrap .i64 i2)))) →
      RWr.sig.pre [.I i3, (D.S (s0.extract (18 : Int).toNat (IntKind.wrap .i64 ((18 : Int) + (IntKind.wrap .i64 i2))).toNat))] ∧ (
 ∀ (s4 : ByteArray),
      RWr.sig.post [.I i3, (D.S (s0.extract (18 : Int).toNat (IntKind.wrap .i64 ((18 : Int) + (IntKind.wrap .i64 i2))).toNat)), .S s4] →
 ((s4.size : Int) ≤ 9223372036854775807) →
 ((
 (s4 ≠ (s0.extract (0 : Int).toNat (IntKind.wrap .i64 ((18 : Int) + (IntKind.wrap .i64 i2))).toNat)) →
       RRd.sig.post [.S s0, (D.I (0 : Int)), (D.S (⟨#[]⟩ : ByteArray)), (D.I (0 : Int)), (D.I (4 : Int))]) ∧ (
 (s4 = (s0.extract (0 : Int).toNat (IntKind.wrap .i64 ((18 : Int) + (IntKind.wrap .i64 i2))).toNat)) →
       RRd.sig.post [.S s0, .I i3, (D.S (s0.extract (18 : Int).toNat (IntKind.wrap .i64 ((18 : Int) + (IntKind.wrap .i64 i2))).toNat)), (D.I (IntKind.wrap .i64 ((18 : Int) + (IntKind.wrap .i64 i2)))), (D.I (0 : Int))])))))))))))))))))))))
def RScn.Pure : Prop :=
 ∀ (s0 : ByteArray),
 ∀ (i1 : Int),
 ((s0.size : Int) ≤ 9223372036854775807) →
 (0 ≤ i1 ∧ i1 < 18446744073709551616) →
 RScn.sig.pre [.S s0, .I i1] →
 ∀ (v2 : Value),
 ∀ (v3 : Value),
 FScan.I0 [.S s0, .I i1, .I i1, (D.L ([] : List D)), (D.I (0 : Int))] ∧ (
 ∀ (i4 : Int),
 ∀ (v5 : Value),
 ∀ (l6 : List D),
 ∀ (i7 : Int),
 (0 ≤ i4 ∧ i4 < 18446744073709551616) →
 (-9223372036854775808 ≤ i7 ∧ i7 < 9223372036854775808) →
 (EK.ok [.str] (D.L l6)) →
 FScan.I0 [.S s0, .I i1, .I i4, .L l6, .I i7] →
 ((
 (i7 < ((s0.size : Nat) : Int)) →
 (i7 ≤ ((s0.size : Nat) : Int)) ∧ ((i7 ≤ ((s0.size : Nat) : Int)) →
 ((0 : Int) ≤ i7) ∧ (((0 : Int) ≤ i7) →
  RRd.sig.pre [(D.S (s0.extract i7.toNat ((s0.size : Nat) : Int).toNat))] ∧ (
 ∀ (i8 : Int),
 ∀ (s9 : ByteArray),
 ∀ (i10 : Int),
 ∀ (i11 : Int),
  RRd.sig.post [(D.S (s0.extract i7.toNat ((s0.size : Nat) : Int).toNat)), .I i8, .S s9, .I i10, .I i11] →
 (0 ≤ i8 ∧ i8 < 18446744073709551616) →
 ((s9.size : Int) ≤ 9223372036854775807) →
 (-9223372036854775808 ≤ i10 ∧ i10 < 9223372036854775808) →
 (-9223372036854775808 ≤ i11 ∧ i11 < 9223372036854775808) →
 ∀ (n12 : Nat),
 ((
 (i11 ≠ (0 : Int)) →
   RScn.sig.post [.S s0, .I i1, .V v5, .L l6, .I i7]) ∧ (
 (i11 = (0 : Int)) →
 ((
 (i8 ≠ i4) →
    RScn.sig.post [.S s0, .I i1, .V v5, .L l6, .I i7]) ∧ (
 (i8 = i4) →
 ∀ (v13 : Value),
 ((((l6 ++ ((D.S s9) :: ([] : List D))).length : Nat) : Int) ≤ (8796093022208 : Int)) ∧ (((((l6 ++ ((D.S s9) :: ([] : List D))).length : Nat) : Int) ≤ (8796093022208 : Int)) →
 ∀ (v14 : Value),
    FScan.I0 [.S s0, .I i1, (D.I (IntKind.wrap .u64 (i4 + (1 : Int)))), (D.L (l6 ++ ((D.S s9) :: ([] : List D)))), (D.I (IntKind.wrap .i64 (i7 + i10)))] ∧ FScan.I0M [.S s0, .I i1, (D.I (IntKind.wrap .u64 (i4 + (1 : Int)))), (D.L (l6 ++ ((D.S s9) :: ([] : List D)))), (D.I (IntKind.wrap .i64 (i7 + i10)))] < FScan.I0M [.S s0, .I i1, .I i4, .L l6, .I i7]))))))))) ∧ (
 (((s0.size : Nat) : Int) ≤ i7) →
  RScn.sig.post [.S s0, .I i1, .V v5, .L l6, .I i7])))
def SameL.Pure : Prop :=
 ∀ (v0 : Value),
 ∀ (l1 : List D),
 ∀ (v2 : Value),
 ∀ (l3 : List D),
 (EK.ok [.str] (D.L l1)) →
 (EK.ok [.str] (D.L l3)) →
 SameL.sig.pre [.V v0, .L l1, .V v2, .L l3] →
 ((
 (((l1.length : Nat) : Int) ≠ ((l3.length : Nat) : Int)) →
  SameL.sig.post [.V v0, .L l1, .V v2, .L l3, (D.I (-1 : Int))]) ∧ (
 (((l1.length : Nat) : Int) = ((l3.length : Nat) : Int)) →
  SameL.I0 [.V v0, .L l1, .V v2, .L l3, (D.I (0 : Int))] ∧ (
 ∀ (i4 : Int),
 (-9223372036854775808 ≤ i4 ∧ i4 < 9223372036854775808) →
  SameL.I0 [.V v0, .L l1, .V v2, .L l3, .I i4] →
 ((
 (i4 < ((l3.length : Nat) : Int)) →
 ((0 : Int) ≤ i4) ∧ (((0 : Int) ≤ i4) →
 (i4 < ((l1.length : Nat) : Int)) ∧ ((i4 < ((l1.length : Nat) : Int)) →
 ((
 (((l1.getD i4.toNat default)).toS ≠ ((l3.getD i4.toNat default)).toS) →
    SameL.sig.post [.V v0, .L l1, .V v2, .L l3, (D.I (-1 : Int))]) ∧ (
 (((l1.getD i4.toNat default)).toS = ((l3.getD i4.toNat default)).toS) →
    SameL.I0 [.V v0, .L l1, .V v2, .L l3, (D.I (IntKind.wrap .i64 (i4 + (1 : Int))))] ∧ SameL.I0M [.V v0, .L l1, .V v2, .L l3, (D.I (IntKind.wrap .i64 (i4 + (1 : Int))))] < SameL.I0M [.V v0, .L l1, .V v2, .L l3, .I i4]))))) ∧ (
 (((l3.length : Nat) : Int) ≤ i4) →
   SameL.sig.post [.V v0, .L l1, .V v2, .L l3, (D.I (0 : Int))])))))
end Go.Vc
namespace Go.Vc
theorem RWr.pure : RWr.Pure := by
  intro i0 s1 h1 h2 h3
  have h3 : s1.size ≤ 900000000 := h3
  refine ⟨?_, ?_⟩
  · intro h4
    show (⟨#[]⟩ : ByteArray) = if s1.size > 4194304 then ByteArray.empty else textOf (frameB i0 s1)
    rw [if_pos (by omega)]; rfl
  · intro h4
    rw [u64w (x := ((s1.size : Nat) : Int)) (by omega) (by omega)]
    refine ⟨⟨by decide, by decide⟩, ?_⟩
    intro s2 h5 h6
    have h5 : s2 = textOf (beB s1.size 4) := h5
    refine ⟨⟨by decide, by decide⟩, ?_⟩
    intro s3 h7 h8
    have h7 : s3 = textOf (beB i0 8) := h7
    have z2 : s2.size = 4 := by rw [h5, size_textOf, beB_len]
    have z3 : s3.size = 8 := by rw [h7, size_textOf, beB_len]
    have hc : s2 ++ s3 = textOf (coverB i0 s1.size) := by rw [h5, h7, textOf_append]; rfl
    have hcz : (s2 ++ s3).size = 12 := by rw [ByteArray.size_append]; omega
    have z79 : (⟨#[79, 74]⟩ : ByteArray).size = 2 := rfl
    refine ⟨by omega, fun h9 => ⟨by rw [ByteArray.size_append]; omega, fun h10 => ⟨by rw [ByteArray.size_append]; omega, fun h11 => ?_⟩⟩⟩
    refine ⟨trivial, ?_⟩
    intro i4 h12 h13
    have h12 : i4 = crcOf 0 (bytesOf ((s2 ++ s3) ++ s1)) := h12
    have hcb : bytesOf (s2 ++ s3) = coverB i0 s1.size := by
      rw [hc, bytesOf_textOf]
      intro x hx
      simp only [coverB, List.mem_append] at hx
      rcases hx with h | h <;> exact beB_has _ _ x h
    rw [bytesOf_append, hcb] at h12
    rw [u64w (x := i4) (by omega) (by omega)]
    refine ⟨⟨by decide, by decide⟩, ?_⟩
    intro s5 h14 h15
    have h14 : s5 = textOf (beB i4 4) := h14
    have z5 : s5.size = 4 := by rw [h14, size_textOf, beB_len]
    refine ⟨by rw [ByteArray.size_append, ByteArray.size_append]; omega, fun h16 => ⟨by rw [ByteArray.size_append, ByteArray.size_append, ByteArray.size_append]; omega, fun h17 => ?_⟩⟩
    show (((⟨#[79, 74]⟩ : ByteArray) ++ (s2 ++ s3)) ++ s5) ++ s1 = if s1.size > 4194304 then ByteArray.empty else textOf (frameB i0 s1)
    rw [if_neg (by omega), hc, h14, frameB, ← h12]
    have e79 : (⟨#[79, 74]⟩ : ByteArray) = textOf [79, 74] := by decide
    rw [e79, textOf_append, textOf_append]
    conv => lhs; arg 2; rw [← textOf_bytesOf s1]
    rw [textOf_append]
    congr 1

theorem FNumb.pure : FNumb.Pure := by
  intro s0 h1 h2
  have h2 : s0.size ≤ 8 := h2
  have hlen := bytesOf_length' s0
  have hby := bytesOf_has s0
  refine ⟨⟨by decide, by omega, rfl⟩, ?_⟩
  intro i1 i2 h3 h4 h5
  obtain ⟨a, b, d⟩ : 0 ≤ i2 ∧ i2 ≤ s0.size ∧ i1 = beNum ((bytesOf s0).take i2.toNat) := h5
  refine ⟨?_, ?_⟩
  · intro h6
    refine ⟨a, fun h7 => ?_⟩
    have hx : 0 ≤ byteAt s0 i2 ∧ byteAt s0 i2 < 256 := has_in.1 (has_byteAt s0 i2)
    have hr := beNum_range hby i2.toNat (by omega)
    have hp : (256 : Int) ^ i2.toNat ≤ 256 ^ 7 := by
      have h2 : 256 ^ i2.toNat ≤ 256 ^ 7 := Nat.pow_le_pow_right (by decide : 0 < 256) (by omega)
      have h3 : ((256 ^ i2.toNat : Nat) : Int) ≤ ((256 ^ 7 : Nat) : Int) := by omega
      rwa [Int.natCast_pow, Int.natCast_pow] at h3
    have hp7 : (256 : Int) ^ 7 = 72057594037927936 := rfl
    rw [u64w (x := byteAt s0 i2) (by omega) (by omega), u64w (x := 256 * i1) (by omega) (by omega), u64w (by omega) (by omega), i64w (by omega) (by omega)]
    refine ⟨⟨by omega, by omega, ?_⟩, ?_⟩
    · rw [show (i2 + 1).toNat = i2.toNat + 1 from by omega, take_snoc' (by omega), beNum_snoc, d, byteAt_eq]
    · show ((s0.size : Int) - (i2 + 1)).toNat < ((s0.size : Int) - i2).toNat
      omega
  · intro h6
    show i1 = beNum (bytesOf s0)
    rw [d, List.take_of_length_le (by omega)]

theorem RRd.pure : RRd.Pure := by
  intro s0 h1 h2 n1
  have h2 : s0.size ≤ 1000000000 := h2
  have hL := bytesOf_length' s0
  have hB := bytesOf_has s0
  have cutb : ∀ a b : Nat, bytesOf (s0.extract a (a + b)) = ((bytesOf s0).drop a).take b := by
    intro a b
    rw [bytesOf_extract, List.drop_take, show a + b - a = b from by omega]
  refine ⟨?_, ?_⟩
  · intro h3
    show ((0 : Int), bytesOf ⟨#[]⟩, (0 : Int), (2 : Int)) = fRead (bytesOf s0)
    unfold fRead
    rw [if_pos (by omega)]; rfl
  · intro h3
    refine ⟨by omega, fun h4 => ?_⟩
    have e2 : bytesOf (s0.extract (0 : Int).toNat (2 : Int).toNat) = (bytesOf s0).take 2 := by rw [bytesOf_extract]; rfl
    refine ⟨?_, ?_⟩
    · intro h5
      show ((0 : Int), bytesOf ⟨#[]⟩, (0 : Int), (3 : Int)) = fRead (bytesOf s0)
      unfold fRead
      rw [if_neg (by omega), if_pos]
      · rfl
      · intro e
        apply h5
        apply text_inj
        rw [e2, e]; rfl
    · intro h5
      have oj : (bytesOf s0).take 2 = [79, 74] := by rw [← e2, h5]; rfl
      refine ⟨?_, ?_⟩
      · intro h6
        show ((0 : Int), bytesOf ⟨#[]⟩, (0 : Int), (2 : Int)) = fRead (bytesOf s0)
        unfold fRead
        rw [if_neg (by omega), if_neg (by rw [oj]; simp), if_pos (by omega)]; rfl
      · intro h6
        refine ⟨by omega, fun h7 => ?_⟩
        refine ⟨?_, ?_⟩
        · show (s0.extract (2 : Int).toNat (6 : Int).toNat).size ≤ 8
          rw [ByteArray.size_extract]; have : (2 : Int).toNat = 2 := rfl; have : (6 : Int).toNat = 6 := rfl; omega
        intro i2 h8 h9
        have h8 : i2 = beNum (bytesOf (s0.extract 2 (2 + 4))) := h8
        rw [cutb] at h8
        have l4 : (((bytesOf s0).drop 2).take 4).length = 4 := by rw [List.length_take, List.length_drop]; omega
        have l8 : (((bytesOf s0).drop 6).take 8).length = 8 := by rw [List.length_take, List.length_drop]; omega
        have m4 : (((bytesOf s0).drop 14).take 4).length = 4 := by rw [List.length_take, List.length_drop]; omega
        have hr := beNum_range (l := ((bytesOf s0).drop 2).take 4) (fun x hx => hB x (List.mem_of_mem_drop (List.mem_of_mem_take hx))) _ (Nat.le_refl _)
        rw [List.take_length, l4, pow4, ← h8] at hr
        rw [i64w (x := i2) (by omega) (by omega), i64w (x := 18 + i2) (by omega) (by omega)]
        have unf : fRead (bytesOf s0) =
          (if i2 > 4194304 then (0, [], 0, 12) else if (s0.size : Int) < 18 + i2 then (0, [], 0, 2) else
            if crcOf 0 (((bytesOf s0).drop 2).take 12 ++ ((bytesOf s0).drop 18).take i2.toNat) ≠ beNum (((bytesOf s0).drop 14).take 4) then (0, [], 0, 4) else
            (beNum (((bytesOf s0).drop 6).take 8), ((bytesOf s0).drop 18).take i2.toNat, 18 + i2, 0)) := by
          unfold fRead
          rw [if_neg (by omega), if_neg (by rw [oj]; simp), if_neg (by omega), ← h8, hL]
        refine ⟨?_, ?_⟩
        · intro h10
          show ((0 : Int), bytesOf ⟨#[]⟩, (0 : Int), (12 : Int)) = fRead (bytesOf s0)
          rw [unf, if_pos (by omega)]; rfl
        · intro h10
          refine ⟨?_, ?_⟩
          · intro h11
            show ((0 : Int), bytesOf ⟨#[]⟩, (0 : Int), (2 : Int)) = fRead (bytesOf s0)
            rw [unf, if_neg (by omega), if_pos (by omega)]; rfl
          · intro h11
            refine ⟨by omega, fun h12 => ?_⟩
            refine ⟨?_, ?_⟩
            · show (s0.extract (6 : Int).toNat (14 : Int).toNat).size ≤ 8
              rw [ByteArray.size_extract]; have : (6 : Int).toNat = 6 := rfl; have : (14 : Int).toNat = 14 := rfl; omega
            intro i3 h13 h14
            have h13 : i3 = beNum (bytesOf (s0.extract 6 (6 + 8))) := h13
            rw [cutb] at h13
            refine ⟨by omega, fun h15 => ⟨by omega, fun h16 => ⟨by omega, fun h17 => ?_⟩⟩⟩
            have rz : (s0.extract (18 : Int).toNat (18 + i2).toNat).size = i2.toNat := by
              rw [ByteArray.size_extract]; have : (18 : Int).toNat = 18 := rfl; omega
            refine ⟨?_, ?_⟩
            · show (s0.extract (18 : Int).toNat (18 + i2).toNat).size ≤ 900000000
              omega
            intro s4 h18 h19
            have h18 : s4 = if (s0.extract (18 : Int).toNat (18 + i2).toNat).size > 4194304 then ByteArray.empty else textOf (frameB i3 (s0.extract (18 : Int).toNat (18 + i2).toNat)) := h18
            rw [if_neg (by omega)] at h18
            have rb : bytesOf (s0.extract (18 : Int).toNat (18 + i2).toNat) = ((bytesOf s0).drop 18).take i2.toNat := by
              rw [← cutb, show (18 + i2).toNat = 18 + i2.toNat from by omega]; rfl
            have b4 := beB_beNum (l := ((bytesOf s0).drop 2).take 4) (fun x hx => hB x (List.mem_of_mem_drop (List.mem_of_mem_take hx)))
            have b8 := beB_beNum (l := ((bytesOf s0).drop 6).take 8) (fun x hx => hB x (List.mem_of_mem_drop (List.mem_of_mem_take hx)))
            have c4 := beB_beNum (l := ((bytesOf s0).drop 14).take 4) (fun x hx => hB x (List.mem_of_mem_drop (List.mem_of_mem_take hx)))
            rw [l4] at b4
            rw [l8] at b8
            rw [m4] at c4
            have hcov : coverB i3 i2 = ((bytesOf s0).drop 2).take 12 := by rw [take12, coverB, h8, h13, b4, b8]
            have fb : frameB i3 (s0.extract (18 : Int).toNat (18 + i2).toNat) = [79, 74] ++ (((bytesOf s0).drop 2).take 12 ++ (beB (crcOf 0 (((bytesOf s0).drop 2).take 12 ++ ((bytesOf s0).drop 18).take i2.toNat)) 4 ++ ((bytesOf s0).drop 18).take i2.toNat)) := by
              rw [frameB, rz, show ((i2.toNat : Nat) : Int) = i2 from by omega, hcov, rb]; rfl
            have sb : bytesOf (s0.extract (0 : Int).toNat (18 + i2).toNat) = [79, 74] ++ (((bytesOf s0).drop 2).take 12 ++ (((bytesOf s0).drop 14).take 4 ++ ((bytesOf s0).drop 18).take i2.toNat)) := by
              rw [bytesOf_extract, ← oj, show (18 + i2).toNat = 2 + (12 + (4 + i2.toNat)) from by omega, List.take_add, List.take_add, List.take_add, List.drop_drop, List.drop_drop]; rfl
            have iff : s4 = s0.extract (0 : Int).toNat (18 + i2).toNat ↔ crcOf 0 (((bytesOf s0).drop 2).take 12 ++ ((bytesOf s0).drop 18).take i2.toNat) = beNum (((bytesOf s0).drop 14).take 4) := by
              have hbs : bytesOf s4 = frameB i3 (s0.extract (18 : Int).toNat (18 + i2).toNat) := by rw [h18, bytesOf_textOf (frameB_has _ _)]
              constructor
              · intro e
                have e := congrArg bytesOf e
                rw [hbs, fb, sb] at e
                have e := List.append_cancel_left (List.append_cancel_left e)
                have e := List.append_cancel_right e
                have e := congrArg beNum e
                rwa [beNum_be (crcOf_has _ _).1 (by rw [pow4]; exact (crcOf_has _ _).2)] at e
              · intro e
                apply text_inj
                rw [hbs, fb, sb, e, c4]
            refine ⟨?_, ?_⟩
            · intro h20
              show ((0 : Int), bytesOf ⟨#[]⟩, (0 : Int), (4 : Int)) = fRead (bytesOf s0)
              rw [unf, if_neg (by omega), if_neg (by omega), if_pos (fun e => h20 (iff.2 e))]; rfl
            · intro h20
              show (i3, bytesOf (s0.extract (18 : Int).toNat (18 + i2).toNat), 18 + i2, (0 : Int)) = fRead (bytesOf s0)
              rw [unf, if_neg (by omega), if_neg (by omega), if_neg (fun hn => hn (iff.1 h20)), h13, rb]

theorem RScn.pure : RScn.Pure := by
  intro s0 i1 h1 h2 h3 v2 v3
  have h3 : s0.size ≤ 1000000000 := h3
  have hL := bytesOf_length' s0
  have hB := bytesOf_has s0
  refine ⟨?_, ?_⟩
  · refine ⟨by decide, by omega, by simp, s0.size + 1, [], by omega, rfl, ?_⟩
    rw [scanF, hL]; simp
  intro i4 v5 l6 i7 h4 h5 h6 h7
  obtain ⟨a, b, c, f, done, hf, hd, hs⟩ : 0 ≤ i7 ∧ i7 ≤ s0.size ∧ l6.length ≤ i7 ∧ ∃ f done, ((s0.size : Int) - i7).toNat < f ∧ l6 = txts done ∧
      scanF (bytesOf s0) i1 = (done ++ (fScan f ((bytesOf s0).drop i7.toNat) i4).1, i7 + (fScan f ((bytesOf s0).drop i7.toNat) i4).2) := h7
  obtain ⟨g, rfl⟩ : ∃ g, f = g + 1 := ⟨f - 1, by omega⟩
  have hdl : ((bytesOf s0).drop i7.toNat).length = s0.size - i7.toNat := by rw [List.length_drop, hL]
  have stop : ((fRead ((bytesOf s0).drop i7.toNat)).2.2.2 ≠ 0 ∨ (fRead ((bytesOf s0).drop i7.toNat)).1 ≠ i4) → FScan.sig.post [(D.S s0), (D.I i1), (D.V v5), (D.L l6), (D.I i7)] := by
    intro h
    rw [scan_stop h, List.append_nil] at hs
    show l6 = txts (scanF (bytesOf s0) i1).1 ∧ i7 = (scanF (bytesOf s0) i1).2
    rw [hs]
    exact ⟨hd, by simp⟩
  refine ⟨?_, ?_⟩
  · intro hlt
    refine ⟨by omega, fun h8 => ⟨a, fun h9 => ?_⟩⟩
    refine ⟨?_, ?_⟩
    · show (s0.extract i7.toNat ((s0.size : Nat) : Int).toNat).size ≤ 1000000000
      rw [ByteArray.size_extract]; omega
    intro i8 s9 i10 i11 h10 h11 h12 h13 h14 n12
    have hx : bytesOf (s0.extract i7.toNat ((s0.size : Nat) : Int).toNat) = (bytesOf s0).drop i7.toNat := by
      rw [bytesOf_extract, List.take_of_length_le (by omega)]
    have h10 : (i8, bytesOf s9, i10, i11) = fRead (bytesOf (s0.extract i7.toNat ((s0.size : Nat) : Int).toNat)) := h10
    rw [hx] at h10
    refine ⟨fun h15 => stop (by rw [← h10]; exact .inl h15), fun h15 => ⟨fun h16 => stop (by rw [← h10]; exact .inr h16), fun h16 v12 => ?_⟩⟩
    have hn := fRead_n (l := (bytesOf s0).drop i7.toNat) (fun x hx => hB x (List.mem_of_mem_drop hx)) (by rw [← h10]; exact h15)
    rw [← h10, hdl] at hn
    have hn : 18 ≤ i10 ∧ i10 ≤ ((s0.size - i7.toNat : Nat) : Int) := hn
    refine ⟨?_, fun h17 => ?_⟩
    · rw [List.length_append]; simp only [List.length_cons, List.length_nil]; omega
    intro v13
    rw [i64w (by omega) (by omega), IntKind.wrap_u64]
    refine ⟨?_, ?_⟩
    · refine ⟨by omega, by omega, by rw [List.length_append]; simp only [List.length_cons, List.length_nil]; omega, g, done ++ [bytesOf s9], by omega, ?_, ?_⟩
      · rw [txts_append, hd]
        simp [txts, textOf_bytesOf]
      · rw [scan_step (by rw [← h10]; exact h15) (by rw [← h10]; exact h16), ← h10] at hs
        rw [hs]
        simp only [List.drop_drop]
        rw [show i7.toNat + i10.toNat = (i7 + i10).toNat from by omega]
        simp only [List.append_assoc, List.cons_append, List.nil_append, Prod.mk.injEq, true_and]
        omega
    · show ((s0.size : Int) - (i7 + i10)).toNat < ((s0.size : Int) - i7).toNat
      omega
  · intro hge
    apply stop
    left
    have : (bytesOf s0).drop i7.toNat = [] := List.drop_eq_nil_of_le (by omega)
    rw [this]; decide

theorem SameL.pure : SameL.Pure := by
  intro v0 l1 v2 l3 h1 h2 h3
  have h3 : l3.length ≤ 1000000 := h3
  refine ⟨?_, ?_⟩
  · intro h4 e
    exact absurd (by rw [e]) h4
  · intro h4
    refine ⟨⟨by decide, by omega⟩, ?_⟩
    intro i4 h5 h6
    obtain ⟨a, b⟩ : 0 ≤ i4 ∧ i4 ≤ l3.length := h6
    refine ⟨?_, ?_⟩
    · intro h7
      refine ⟨a, fun h8 => ⟨by omega, fun h9 => ?_⟩⟩
      refine ⟨?_, ?_⟩
      · intro h10 e
        exact absurd (by rw [e]) h10
      · intro h10
        have hb : IntKind.wrap .i64 (i4 + 1) = i4 + 1 := i64w (by omega) (by omega)
        rw [hb]
        refine ⟨⟨by omega, by omega⟩, ?_⟩
        show ((l3.length : Int) - (i4 + 1)).toNat < ((l3.length : Int) - i4).toNat
        omega
    · intro h7 _
      rfl

end Go.Vc
