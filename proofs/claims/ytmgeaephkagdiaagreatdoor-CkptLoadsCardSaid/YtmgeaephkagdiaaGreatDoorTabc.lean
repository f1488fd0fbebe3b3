/-
 Contracts of tables: copies, the document's lists, any bytes as a table.
 Printed by wip/vct.py: the conditions of functions, by their contracts.
 Tables: any bytes as a table, the plain part.
-/
import Derived.Test.YtmgeaephkagdiaaGreatDoorTabb
import Derived.Test.YtmgeaephkagdiaaGreatDoorShad
import Derived.KernelRfl
set_option linter.unusedVariables false
set_option linter.unusedSimpArgs false
open _root_.Go.IntKind (wrap)
namespace Go.Vc
def yT : EK := [.str, .str]
def aK6 (d : D) : D := .L [.S (textOf (keyE d)), .S (textE d)]
def refs (L : LD) : LD := L.map aK6
def nC.post : LD → Prop
 | [.V _, .L L, .V _, .L L'] => L' = L
 | _ => False
def nC.pre : LD → Prop
 | [.V _, .L L] => L.length ≤ 1000000
 | _ => False
def nC.sig : Sig := { args := [.one (.lf (.sl (.at 0)))], heap := [.rsl (.at 0) eG (.at 1)], aA := [.V, .L], res := .one (.lf (.sl (.at 2))), heap' := [.osl (.at 2) eG (.at 3)], news := [.V, .L], pre := nC.pre, post := nC.post }
def nS.pre : LD → Prop
 | [.N _, .V _, .L L] => L.length ≤ 1000000
 | _ => False
def nS.post : LD → Prop
 | [.N _, .V _, .L L, .V _, .L L'] => L' = L
 | _ => False
def nS.sig : Sig := { args := [.one (.lf (.ptr (.at 0) 0))], heap := tbl 1, aA := [.N, .V, .L], res := .one (.lf (.sl (.at 3))), heap' := tbl 1 ++ [.osl (.at 3) eG (.at 4)], news := [.V, .L], pre := nS.pre, post := nS.post }
def bT.pre : LD → Prop
 | .N _ :: .V _ :: .L L :: _ => L.length ≤ 1000000
 | _ => False
def bT.post : LD → Prop
 | [.N _, .V _, .L L, .V _, .L X, .I r] => X = refs L → r = 0
 | _ => False
def bT.sig : Sig := { args := [.one (.lf (.ptr (.at 0) 0)), .one (.lf (.sl (.at 3)))], heap := tbl 1 ++ [.rsl (.at 3) yT (.at 4)], aA := [.N, .V, .L, .V, .L], res := aI .i64 5, heap' := tbl 1, news := [.I], pre := bT.pre, post := bT.post }
def bT.I0 : LD → Prop
 | [.N _, .V _, .L L, .V _, .L X, .I i] => 0 ≤ i ∧ i ≤ L.length ∧ L.length = X.length
 | _ => False
def bT.I0M : LD → Nat
 | [.N _, .V _, .L L, .V _, .L _, .I i] => (L.length - i).toNat
 | _ => 0
def cL8 (n : Nat) : S0 := .agg [.lf (.sl (.at n)), .lf (.sl (.at (n + 2)))]
def rPs.pre : LD → Prop
 | [.V _, .Z st, .V _, .Z k, .S s] => st = dO ∧ k = gK ∧ s.size ≤ 500000
 | _ => False
def rPs.post : LD → Prop
 | [.V _, .Z _, .V _, .Z _, .S s, .V _, .I e, .L X] => e = (dI s).1 ∧ (e = 0 → X = refs (dI s).2)
 | _ => False
def rPs.sig : Sig := { args := [.one (cL8 0), aS 4], heap := [.rsl (.at 0) [.int .u32] (.at 1), .rsl (.at 2) [.int .u32] (.at 3)], aA := [.V, .Z, .V, .Z, .S], res := .tup [.lf (.sl (.at 5)), .lf (.int .i64 (.at 6))], heap' := [.osl (.at 5) yT (.at 7)], news := [.V, .I, .L], pre := rPs.pre, post := rPs.post }
def bodyT (s : BA) : BA := s.extract 0 (s.size - 32)
def rPs.I0 : LD → Prop
 | [.V _, .Z _, .V _, .Z _, .S s, .L X, .I i, .S s', .I a, .I e] => s' = bodyT s ∧ 0 ≤ a ∧ a ≤ s'.size ∧ 0 ≤ i ∧ i ≤ (iG s').2.2 ∧ ∃ L : LD, L.length = X.length ∧ (e = 0 → X = refs L ∧ ∀ d ∈ L, (keyE d).length = 32 ∧ ∀ x ∈ keyE d, 0 ≤ x ∧ x < 256) ∧
   33 * L.length ≤ a + (if e = 0 then 0 else 33) ∧ kD s' ((iG s').2.2 - i).toNat (a, e, L) = lY s'
 | _ => False
def rPs.I0M : LD → Nat
 | [.V _, .Z _, .V _, .Z _, .S _, .L _, .I i, .S s', .I _, .I _] => ((iG s').2.2 - i).toNat
 | _ => 0
end Go.Vc
namespace Go.Vc
set_option linter.unusedVariables false
def nC.Pure : Prop :=
 ∀ v0 : Value,
 ∀ l1 : LD,
 (EK.ok [.ints .u8 32, .str] (D.L l1)) →
 nC.sig.pre [.V v0, .L l1] →
 ∀ v2 : Value,
 ((
 ((l1.length : Int) = (0 : Int)) →
 ∀ v3 : Value,
  nC.sig.post [.V v0, .L l1, .V v3, .L ([] : LD)]) ∧ (
 ∀ v3 : Value,
 Im (((([] : LD) ++ l1).length : Int) ≤ (2932031007402 : Int)) (
 ∀ v4 : Value,
  nC.sig.post [.V v0, .L l1, .V v4, .L (([] : LD) ++ l1)])))
def nS.Pure : Prop :=
 ∀ n0 : Nat,
 ∀ v1 : Value,
 ∀ l2 : LD,
 (EK.ok [.ints .u8 32, .str] (D.L l2)) →
 nS.sig.pre [.N n0, .V v1, .L l2] →
 ∀ v3 : Value,
 nC.sig.pre [.V v1, .L l2] ∧ (
 ∀ v4 : Value,
 ∀ l5 : LD,
 nC.sig.post [.V v1, .L l2, .V v4, .L l5] →
 (EK.ok [.ints .u8 32, .str] (D.L l5)) →
 nS.sig.post [.N n0, .V v1, .L l2, .V v4, .L l5])
def bT.Pure : Prop :=
 ∀ n0 : Nat,
 ∀ v1 : Value,
 ∀ l2 : LD,
 ∀ v3 : Value,
 ∀ l4 : LD,
 (EK.ok [.ints .u8 32, .str] (D.L l2)) →
 (EK.ok [.str, .str] (D.L l4)) →
 bT.sig.pre [.N n0, .V v1, .L l2, .V v3, .L l4] →
 nS.sig.pre [.N n0, .V v1, .L l2] ∧ (
 ∀ v5 : Value,
 ∀ l6 : LD,
 nS.sig.post [.N n0, .V v1, .L l2, .V v5, .L l6] →
 (EK.ok [.ints .u8 32, .str] (D.L l6)) →
 ((
 ((l6.length : Int) ≠ (l4.length : Int)) →
  bT.sig.post [.N n0, .V v1, .L l2, .V v3, .L l4, .I (-1 : Int)]) ∧ (
 ((l6.length : Int) = (l4.length : Int)) →
  pV.sig.pre [.N n0, .V v1, .L l2] ∧ (
 ∀ i7 : Int,
  pV.sig.post [.N n0, .V v1, .L l2, .I i7] →
 R64 i7 →
 ((
 (i7 ≠ (l4.length : Int)) →
  bT.sig.post [.N n0, .V v1, .L l2, .V v3, .L l4, .I (-1 : Int)]) ∧ (
 (i7 = (l4.length : Int)) →
  bT.I0 [.N n0, .V v1, .L l2, .V v3, .L l4, .I 0] ∧ (
 ∀ i8 : Int,
 R64 i8 →
  bT.I0 [.N n0, .V v1, .L l2, .V v3, .L l4, .I i8] →
 ((
 (i8 < (l6.length : Int)) →
 Im (0 ≤ i8) (
 ∀ n9 : Nat,
 Im (i8 < (l4.length : Int)) (
 ((
 ((
 ((
 ((textOf ((l6.getD i8.toNat default).toL.getD (0 : Int).toNat default).aC) ≠ ((l4.getD i8.toNat default).toL.getD (0 : Int).toNat default).toS) →
    bT.sig.post [.N n0, .V v1, .L l2, .V v3, .L l4, .I (-1 : Int)]) ∧ (
 ((textOf ((l6.getD i8.toNat default).toL.getD (0 : Int).toNat default).aC) = ((l4.getD i8.toNat default).toL.getD (0 : Int).toNat default).toS) →
 ((
 (((l6.getD i8.toNat default).toL.getD (1 : Int).toNat default).toS ≠ ((l4.getD i8.toNat default).toL.getD (1 : Int).toNat default).toS) →
    bT.sig.post [.N n0, .V v1, .L l2, .V v3, .L l4, .I (-1 : Int)]) ∧ (
 (((l6.getD i8.toNat default).toL.getD (1 : Int).toNat default).toS = ((l4.getD i8.toNat default).toL.getD (1 : Int).toNat default).toS) →
    Bk bT.I0 bT.I0M [.N n0, .V v1, .L l2, .V v3, .L l4, .I (wrap .i64 (i8 + 1))] [.N n0, .V v1, .L l2, .V v3, .L l4, .I i8]))))) ∧ (
 ((
 ((textOf ((l6.getD i8.toNat default).toL.getD (0 : Int).toNat default).aC) ≠ ((l4.getD i8.toNat default).toL.getD (0 : Int).toNat default).toS) →
    bT.sig.post [.N n0, .V v1, .L l2, .V v3, .L l4, .I (-1 : Int)]) ∧ (
 ((textOf ((l6.getD i8.toNat default).toL.getD (0 : Int).toNat default).aC) = ((l4.getD i8.toNat default).toL.getD (0 : Int).toNat default).toS) →
 ((
 (((l6.getD i8.toNat default).toL.getD (1 : Int).toNat default).toS ≠ ((l4.getD i8.toNat default).toL.getD (1 : Int).toNat default).toS) →
    bT.sig.post [.N n0, .V v1, .L l2, .V v3, .L l4, .I (-1 : Int)]) ∧ (
 (((l6.getD i8.toNat default).toL.getD (1 : Int).toNat default).toS = ((l4.getD i8.toNat default).toL.getD (1 : Int).toNat default).toS) →
    Bk bT.I0 bT.I0M [.N n0, .V v1, .L l2, .V v3, .L l4, .I (wrap .i64 (i8 + 1))] [.N n0, .V v1, .L l2, .V v3, .L l4, .I i8]))))))) ∧ (
 ((
 ((textOf ((l6.getD i8.toNat default).toL.getD (0 : Int).toNat default).aC) ≠ ((l4.getD i8.toNat default).toL.getD (0 : Int).toNat default).toS) →
   bT.sig.post [.N n0, .V v1, .L l2, .V v3, .L l4, .I (-1 : Int)]) ∧ (
 ((textOf ((l6.getD i8.toNat default).toL.getD (0 : Int).toNat default).aC) = ((l4.getD i8.toNat default).toL.getD (0 : Int).toNat default).toS) →
 ((
 (((l6.getD i8.toNat default).toL.getD (1 : Int).toNat default).toS ≠ ((l4.getD i8.toNat default).toL.getD (1 : Int).toNat default).toS) →
    bT.sig.post [.N n0, .V v1, .L l2, .V v3, .L l4, .I (-1 : Int)]) ∧ (
 (((l6.getD i8.toNat default).toL.getD (1 : Int).toNat default).toS = ((l4.getD i8.toNat default).toL.getD (1 : Int).toNat default).toS) →
    Bk bT.I0 bT.I0M [.N n0, .V v1, .L l2, .V v3, .L l4, .I (wrap .i64 (i8 + 1))] [.N n0, .V v1, .L l2, .V v3, .L l4, .I i8]))))))))) ∧ (
 ((l6.length : Int) ≤ i8) →
  bT.sig.post [.N n0, .V v1, .L l2, .V v3, .L l4, .I 0])))))))))
def rPs.Pure : Prop :=
 ∀ v0 : Value,
 ∀ z1 : LI,
 ∀ v2 : Value,
 ∀ z3 : LI,
 ∀ s4 : BA,
 ((s4.size : Int) ≤ 9223372036854775807) →
 (∀ x ∈ z1, IntKind.has .u32 x) →
 (∀ x ∈ z3, IntKind.has .u32 x) →
 rPs.sig.pre [.V v0, .Z z1, .V v2, .Z z3, .S s4] →
 ∀ n5 : Nat,
 ∀ v6 : Value,
 ((
 ((wrap .i64 ((s4.size : Int) - (32 : Int))) < (8 : Int)) →
 ∀ v7 : Value,
  rPs.sig.post [.V v0, .Z z1, .V v2, .Z z3, .S s4, .V v7, .I 2, .L ([] : LD)]) ∧ (
 ((8 : Int) ≤ (wrap .i64 ((s4.size : Int) - (32 : Int)))) →
 Im ((0 : Int) ≤ (wrap .i64 ((s4.size : Int) - (32 : Int)))) (
 Im ((wrap .i64 ((s4.size : Int) - (32 : Int))) ≤ (s4.size : Int)) (
  rOf.sig.pre [.V v0, .Z z1, .V v2, .Z z3, .S (s4.extract (0 : Int).toNat (wrap .i64 ((s4.size : Int) - (32 : Int))).toNat)] ∧ (
 ∀ s7 : BA,
  rOf.sig.post [.V v0, .Z z1, .V v2, .Z z3, .S (s4.extract (0 : Int).toNat (wrap .i64 ((s4.size : Int) - (32 : Int))).toNat), .S s7] →
 ((s7.size : Int) ≤ 9223372036854775807) →
 ((
 (s7 ≠ (s4.extract (wrap .i64 ((s4.size : Int) - (32 : Int))).toNat (s4.size : Int).toNat)) →
 ∀ v8 : Value,
  rPs.sig.post [.V v0, .Z z1, .V v2, .Z z3, .S s4, .V v8, .I 4, .L ([] : LD)]) ∧ (
 (s7 = (s4.extract (wrap .i64 ((s4.size : Int) - (32 : Int))).toNat (s4.size : Int).toNat)) →
 Im (8 ≤ (s4.size : Int)) (
 ((
 ((s4.extract (0 : Int).toNat (8 : Int).toNat) ≠ (⟨#[79, 82, 68, 69, 65, 76, 84, 49]⟩ : BA)) →
 ∀ v8 : Value,
  rPs.sig.post [.V v0, .Z z1, .V v2, .Z z3, .S s4, .V v8, .I 3, .L ([] : LD)]) ∧ (
 ((s4.extract (0 : Int).toNat (8 : Int).toNat) = (⟨#[79, 82, 68, 69, 65, 76, 84, 49]⟩ : BA)) →
  iJ.sig.pre [.S (s4.extract (0 : Int).toNat (wrap .i64 ((s4.size : Int) - (32 : Int))).toNat), .I (8 : Int), .I (0 : Int)] ∧ (
 ∀ i8 i9 i10 : Int,
  iJ.sig.post [.S (s4.extract (0 : Int).toNat (wrap .i64 ((s4.size : Int) - (32 : Int))).toNat), .I (8 : Int), .I (0 : Int), .I i8, .I i9, .I i10] →
 R64 i8 →
 R64 i9 →
 U64 i10 →
 ∀ n11 : Nat,
 ∀ v12 : Value,
  rPs.I0 [.V v0, .Z z1, .V v2, .Z z3, .S s4, .L ([] : LD), .I (0 : Int), .S (s4.extract (0 : Int).toNat (wrap .i64 ((s4.size : Int) - (32 : Int))).toNat), .I i8, .I i9] ∧ (
 ∀ v13 : Value,
 ∀ l14 : LD,
 ∀ i15 : Int,
 ∀ s16 : BA,
 ∀ i17 i18 : Int,
 U64 i15 →
 (EK.ok [.str, .str] (D.L l14)) →
 ((s16.size : Int) ≤ 9223372036854775807) →
 R64 i17 →
 R64 i18 →
  rPs.I0 [.V v0, .Z z1, .V v2, .Z z3, .S s4, .L l14, .I i15, .S s16, .I i17, .I i18] →
 ((
 (i15 < i10) →
 ((
 (i18 = 0) →
   aQ.sig.pre [.S s16, .I i17, .I i18, .I 32] ∧ (
 ∀ i19 i20 : Int,
 ∀ s21 : BA,
   aQ.sig.post [.S s16, .I i17, .I i18, .I 32, .I i19, .I i20, .S s21] →
 R64 i19 →
 R64 i20 →
 ((s21.size : Int) ≤ 9223372036854775807) →
 ∀ n22 : Nat,
   aZ.sig.pre [.S s16, .I i19, .I i20, .I 4194304] ∧ (
 ∀ i23 i24 : Int,
 ∀ s25 : BA,
   aZ.sig.post [.S s16, .I i19, .I i20, .I 4194304, .I i23, .I i24, .S s25] →
 R64 i23 →
 R64 i24 →
 ((s25.size : Int) ≤ 9223372036854775807) →
 ∀ n26 : Nat,
 ((
 (i24 = 0) →
 ((
 (0 < (l14.length : Int)) →
 Im ((0 : Int) ≤ (wrap .i64 ((l14.length : Int) - (1 : Int)))) (
 Im ((wrap .i64 ((l14.length : Int) - (1 : Int))) < (l14.length : Int)) (
 ((
 ((Op.bytesLess ((l14.getD (wrap .i64 ((l14.length : Int) - (1 : Int))).toNat default).toL.getD (0 : Int).toNat default).toS.toList s21.toList) = false) →
 ∀ v27 : Value,
 Im (((l14 ++ ((D.L ((D.S s21) :: ((D.S s25) :: ([] : LD)))) :: ([] : LD))).length : Int) ≤ (4398046511104 : Int)) (
 ∀ v28 : Value,
     Bk rPs.I0 rPs.I0M [.V v0, .Z z1, .V v2, .Z z3, .S s4, .L (l14 ++ ((D.L ((D.S s21) :: ((D.S s25) :: ([] : LD)))) :: ([] : LD))), .I (wrap .u64 (i15 + 1)), .S s16, .I i23, .I 16] [.V v0, .Z z1, .V v2, .Z z3, .S s4, .L l14, .I i15, .S s16, .I i17, .I i18])) ∧ (
 ((Op.bytesLess ((l14.getD (wrap .i64 ((l14.length : Int) - (1 : Int))).toNat default).toL.getD (0 : Int).toNat default).toS.toList s21.toList) = true) →
 ∀ v27 : Value,
 Im (((l14 ++ ((D.L ((D.S s21) :: ((D.S s25) :: ([] : LD)))) :: ([] : LD))).length : Int) ≤ (4398046511104 : Int)) (
 ∀ v28 : Value,
     Bk rPs.I0 rPs.I0M [.V v0, .Z z1, .V v2, .Z z3, .S s4, .L (l14 ++ ((D.L ((D.S s21) :: ((D.S s25) :: ([] : LD)))) :: ([] : LD))), .I (wrap .u64 (i15 + 1)), .S s16, .I i23, .I i24] [.V v0, .Z z1, .V v2, .Z z3, .S s4, .L l14, .I i15, .S s16, .I i17, .I i18])))))) ∧ (
 ((l14.length : Int) ≤ (0 : Int)) →
 ∀ v27 : Value,
 Im (((l14 ++ ((D.L ((D.S s21) :: ((D.S s25) :: ([] : LD)))) :: ([] : LD))).length : Int) ≤ (4398046511104 : Int)) (
 ∀ v28 : Value,
    Bk rPs.I0 rPs.I0M [.V v0, .Z z1, .V v2, .Z z3, .S s4, .L (l14 ++ ((D.L ((D.S s21) :: ((D.S s25) :: ([] : LD)))) :: ([] : LD))), .I (wrap .u64 (i15 + 1)), .S s16, .I i23, .I i24] [.V v0, .Z z1, .V v2, .Z z3, .S s4, .L l14, .I i15, .S s16, .I i17, .I i18])))) ∧ (
 (i24 ≠ 0) →
 ∀ v27 : Value,
 Im (((l14 ++ ((D.L ((D.S s21) :: ((D.S s25) :: ([] : LD)))) :: ([] : LD))).length : Int) ≤ (4398046511104 : Int)) (
 ∀ v28 : Value,
    Bk rPs.I0 rPs.I0M [.V v0, .Z z1, .V v2, .Z z3, .S s4, .L (l14 ++ ((D.L ((D.S s21) :: ((D.S s25) :: ([] : LD)))) :: ([] : LD))), .I (wrap .u64 (i15 + 1)), .S s16, .I i23, .I i24] [.V v0, .Z z1, .V v2, .Z z3, .S s4, .L l14, .I i15, .S s16, .I i17, .I i18])))))) ∧ (
 (i18 ≠ 0) →
   kV.sig.pre [.S s16, .I i17, .I i18] ∧ (
 ∀ i19 i20 : Int,
   kV.sig.post [.S s16, .I i17, .I i18, .I i19, .I i20] →
 R64 i19 →
 R64 i20 →
 ((
 (i20 ≠ 0) →
 ∀ v21 : Value,
    rPs.sig.post [.V v0, .Z z1, .V v2, .Z z3, .S s4, .V v21, .I i20, .L ([] : LD)]) ∧ (
 (i20 = 0) →
    rPs.sig.post [.V v0, .Z z1, .V v2, .Z z3, .S s4, .V v13, .I 0, .L l14])))))) ∧ (
 (i10 ≤ i15) →
   kV.sig.pre [.S s16, .I i17, .I i18] ∧ (
 ∀ i19 i20 : Int,
   kV.sig.post [.S s16, .I i17, .I i18, .I i19, .I i20] →
 R64 i19 →
 R64 i20 →
 ((
 (i20 ≠ 0) →
 ∀ v21 : Value,
   rPs.sig.post [.V v0, .Z z1, .V v2, .Z z3, .S s4, .V v21, .I i20, .L ([] : LD)]) ∧ (
 (i20 = 0) →
   rPs.sig.post [.V v0, .Z z1, .V v2, .Z z3, .S s4, .V v13, .I 0, .L l14])))))))))))))))))
end Go.Vc
namespace Go.Vc
theorem nC.pure : nC.Pure := by
 intro v0 l1 h1 h2 v2
 have h2 : l1.length ≤ 1000000 := h2
 refine ⟨fun h3 v3 => ?_, fun v3 => ⟨by rw [List.nil_append]; omega, fun _ v4 => List.nil_append _⟩⟩
 have : l1 = [] := List.length_eq_zero_iff.1 (by omega)
 subst this; rfl
theorem nS.pure : nS.Pure := by
 intro n0 v1 l2 h1 h2 v3
 exact ⟨h2, fun v4 l5 h3 h4 => h3⟩
theorem bM8 {L : LD} {i : Nat} (hi : i < L.length) : (refs L).getD i default = aK6 (bJ L i) := by
 simp [refs, List.getD, hi, bJ]
theorem aV9 (L : LD) : (refs L).length = L.length := by simp [refs]
theorem bT.pure : bT.Pure := by
 intro n0 v1 l2 v3 l4 h1 h2 h3
 have h3 : l2.length ≤ 1000000 := h3
 refine ⟨h3, ?_⟩
 intro v5 l6 h4 h5
 have h4 : l6 = l2 := h4
 subst h4
 have neg : ∀ r : Int, l4 ≠ refs l6 → bT.sig.post [(D.N n0), (D.V v1), (D.L l6), (D.V v3), (D.L l4), (D.I r)] := fun r h h' => absurd h' h
 refine ⟨fun h6 => neg _ (fun e => by rw [e, aV9] at h6; exact h6 rfl), fun h6 => ⟨trivial, ?_⟩⟩
 intro i7 h7 h8
 have h7 : i7 = l6.length := h7
 refine ⟨fun h9 => by rw [h7] at h9; exact absurd h6 h9, fun h9 => ⟨⟨by omega, by omega, by omega⟩, ?_⟩⟩
 intro i8 h10 h11
 obtain ⟨a1, a2, a3⟩ : 0 ≤ i8 ∧ i8 ≤ l6.length ∧ l6.length = l4.length := h11
 refine ⟨fun h12 => ⟨a1, fun _ n9 => ⟨by omega, fun _ => ?_⟩⟩, fun h12 => fun _ => rfl⟩
 have go : bT.I0 [(D.N n0), (D.V v1), (D.L l6), (D.V v3), (D.L l4), (D.I (wrap .i64 (i8 + (1 : Int))))] ∧ bT.I0M [(D.N n0), (D.V v1), (D.L l6), (D.V v3), (D.L l4), (D.I (wrap .i64 (i8 + (1 : Int))))] < bT.I0M [(D.N n0), (D.V v1), (D.L l6), (D.V v3), (D.L l4), (D.I i8)] := by
  rw [aH (by omega) (by omega)]
  refine ⟨⟨by omega, by omega, a3⟩, ?_⟩
  show ((l6.length : Int) - (i8 + 1)).toNat < ((l6.length : Int) - i8).toNat
  omega
 have n1 : ∀ k : Int, textOf (((l6.getD i8.toNat default).toL.getD k.toNat default)).aC ≠ (((l4.getD i8.toNat default).toL.getD k.toNat default)).toS → k = 0 → l4 ≠ refs l6 := by
  intro k h hk e
  subst hk
  rw [e, bM8 (by omega)] at h
  exact h rfl
 have n2 : ∀ k : Int, (((l6.getD i8.toNat default).toL.getD k.toNat default)).toS ≠ (((l4.getD i8.toNat default).toL.getD k.toNat default)).toS → k = 1 → l4 ≠ refs l6 := by
  intro k h hk e
  subst hk
  rw [e, bM8 (by omega)] at h
  exact h rfl
 have leaf := And.intro (fun h => neg (-1) (n1 0 h rfl)) (fun (_ : textOf (((l6.getD i8.toNat default).toL.getD (0 : Int).toNat default)).aC = (((l4.getD i8.toNat default).toL.getD (0 : Int).toNat default)).toS) => And.intro (fun h => neg (-1) (n2 1 h rfl)) (fun (_ : (((l6.getD i8.toNat default).toL.getD (1 : Int).toNat default)).toS = (((l4.getD i8.toNat default).toL.getD (1 : Int).toNat default)).toS) => go))
 exact ⟨⟨leaf, leaf⟩, leaf⟩
theorem cF0 : ∀ {a b : LI}, a.length = b.length → (∀ x ∈ a, 0 ≤ x ∧ x < 256) → (∀ x ∈ b, 0 ≤ x ∧ x < 256) → Op.bytesLess (a.map u8) (b.map u8) = decide (cmpL a b < 0)
 | [], [], _, _, _ => by simp [Op.bytesLess, cmpL]
 | [], _ :: _, h, _, _ => by simp at h
 | _ :: _, [], h, _, _ => by simp at h
 | x :: a, y :: b, h, ha, hb => by
  have ih := cF0 (a := a) (b := b) (by simpa using h) (fun z hz => ha z (by simp [hz])) (fun z hz => hb z (by simp [hz]))
  have hx := ha x (by simp)
  have hy := hb y (by simp)
  rw [List.map_cons, List.map_cons, dH1 hx hy, ih, cmpL]
  by_cases c : x < y
  ·rw [if_pos c, if_pos c]; rfl
  ·rw [if_neg c, if_neg c]
   by_cases c2 : x > y
   ·rw [if_pos c2, if_neg (by omega)]; rfl
   ·rw [if_neg c2, if_pos (by omega)]
theorem cF1 {k : LI} {s : BA} (hl : k.length = s.size) (hk : ∀ x ∈ k, 0 ≤ x ∧ x < 256) : Op.bytesLess (textOf k).toList s.toList = decide (cmpL k (bytesOf s) < 0) := by
 have e : s.toList = (bytesOf s).map u8 := by rw [← cS1, aL8]
 rw [cS1, e]
 exact cF0 (by rw [hl, bytesOf_length']) hk (nX s)
theorem dL1 {S : BA} {a e : Int} (he : e ≠ 0) : rdNum S a e = (a, e, 0) := aC9 (bM4 he).symm (.inl he)
theorem dU9 (s : BA) : 0 ≤ (iG s).1 ∧ (iG s).1 ≤ s.size := by
 generalize hx : iG s = x
 obtain ⟨a, e, n⟩ := x
 unfold iG at hx
 exact wW (uH (r := (aK s 0 0 8).2.2) (e1 := (aK s 0 0 8).2.1) (e := 0) (n := 8) (a := 0) ⟨by omega, by omega⟩ rfl) hx.symm
theorem rPs.pure : rPs.Pure := by
 intro v0 z1 v2 z3 s4 h1 h2 h3 h4 n5 v6
 obtain ⟨rfl, rfl, hs⟩ : z1 = dO ∧ z3 = gK ∧ s4.size ≤ 500000 := h4
 have hw : wrap .i64 (((s4.size : Nat) : Int) - (32 : Int)) = (s4.size : Int) - 32 := aH (by omega) (by omega)
 rw [hw]
 refine ⟨?_, ?_⟩
 ·intro h5 v7
  have e : dI s4 = (2, []) := by rw [dI, if_pos (by omega)]
  exact ⟨by rw [e], fun h => by cases h⟩
 ·intro h5
  refine ⟨by omega, fun _ => ⟨by omega, fun _ => ?_⟩⟩
  rw [show (0 : Int).toNat = 0 from rfl, show ((s4.size : Int) - 32).toNat = s4.size - 32 from by omega, show ((s4.size : Nat) : Int).toNat = s4.size from by omega, show (8 : Int).toNat = 8 from rfl]
  obtain ⟨S, hS⟩ : ∃ S, S = s4.extract 0 (s4.size - 32) := ⟨_, rfl⟩
  rw [← hS]
  have hz : S.size = s4.size - 32 := by rw [hS, ByteArray.size_extract]; omega
  refine ⟨⟨rfl, rfl, by omega⟩, ?_⟩
  intro s7 h6 h7
  have h6 : s7 = textOf (iU (bytesOf S)) := h6
  refine ⟨?_, ?_⟩
  ·intro h8 v8
   rw [h6, hS] at h8
   have e : dI s4 = (4, []) := by rw [dI, if_neg (by omega), if_pos h8]
   exact ⟨by rw [e], fun h => by cases h⟩
  ·intro h8
   rw [h6] at h8
   have e : dI s4 = kN S := by
    rw [dI, if_neg (by omega), hS.symm]
    rw [if_neg (fun h => h h8)]
   refine ⟨by omega, fun _ => ?_⟩
   have hm : s4.extract 0 8 = S.extract 0 8 := by
    apply aE3
    rw [hS, rG, rG, rG, List.drop_zero, List.drop_zero, List.drop_zero, List.take_take, Nat.min_eq_left (by omega)]
   rw [hm]
   have hraw : aK S 0 0 8 = (8, 0, S.extract 0 8) := by
    rw [aK, if_neg (by decide), if_neg (by omega)]; rfl
   refine ⟨?_, ?_⟩
   ·intro h9 v8
    have en : iG S = (8, 3, 0) := by
     unfold iG
     rw [hraw]
     simp only
     rw [if_pos ⟨trivial, h9⟩, dL1 (by decide)]
    have er : (kN S).1 = 3 := by
     unfold kN lY
     rw [en]
     show mV S 8 3 = 3
     unfold mV; split <;> rfl
    exact ⟨by rw [e, er], fun h => by cases h⟩
   ·intro h9
    have en : iG S = rdNum S 8 0 := by
     unfold iG
     rw [hraw]
     simp only
     rw [if_neg (fun h => h.2 h9)]
    refine ⟨⟨by omega, by omega, by omega⟩, ?_⟩
    intro i8 i9 i10 h10 h11 h12 h13 n11 v12
    have h10 : (i8, i9, i10) = rdNum S 8 0 := h10
    rw [← h10] at en
    have ha := dU9 S
    rw [en] at ha
    have hb : S = bodyT s4 := hS
    refine ⟨⟨hb, ha.1, ha.2, by omega, by rw [en]; exact h13.1, [], rfl, fun _ => ⟨rfl, fun d hd => by cases hd⟩, by simp; split <;> omega, by rw [lY, en]; simp⟩, ?_⟩
    intro v13 l14 i15 s16 i17 i18 h14 h15 h16 h17 h18 h19
    obtain ⟨b1, b2, b3, b4, b5, L, c1, c2, c3, c4⟩ : s16 = bodyT s4 ∧ 0 ≤ i17 ∧ i17 ≤ s16.size ∧ 0 ≤ i15 ∧ i15 ≤ (iG s16).2.2 ∧ ∃ L : LD, L.length = l14.length ∧ (i18 = 0 → l14 = refs L ∧ ∀ d ∈ L, (keyE d).length = 32 ∧ ∀ x ∈ keyE d, 0 ≤ x ∧ x < 256) ∧
     33 * L.length ≤ i17 + (if i18 = 0 then 0 else 33) ∧ kD s16 ((iG s16).2.2 - i15).toNat (i17, i18, L) = lY s16 := h19
    rw [← hb] at b1
    subst b1
    rw [en] at b5 c4
    simp only at b5 c4
    have fin : (i10 - i15).toNat = 0 ∨ i18 ≠ 0 → kV.sig.pre [(D.S s16), (D.I i17), (D.I i18)] ∧ ∀ (i19 i20 : Int), kV.sig.post [(D.S s16), (D.I i17), (D.I i18), (D.I i19), (D.I i20)] →
      (-9223372036854775808 ≤ i19 ∧ i19 < 9223372036854775808) → (-9223372036854775808 ≤ i20 ∧ i20 < 9223372036854775808) →
      (((i20 ≠ (0 : Int)) → ∀ (v21 : Value), rPs.sig.post [(D.V v0), (D.Z dO), (D.V v2), (D.Z gK), (D.S s4), (D.V v21), (D.I i20), (D.L ([] : LD))]) ∧
       ((i20 = (0 : Int)) → rPs.sig.post [(D.V v0), (D.Z dO), (D.V v2), (D.Z gK), (D.S s4), (D.V v13), (D.I (0 : Int)), (D.L l14)])) := by
     intro hc
     refine ⟨⟨b2, b3, by omega⟩, ?_⟩
     intro i19 i20 h _ _
     obtain ⟨_, h⟩ : i19 = i17 ∧ i20 = mV s16 i17 i18 := h
     have d := bW0 L _ c4 hc
     rw [← h] at d
     refine ⟨fun h20 v21 => ⟨by rw [e, ← d], fun h' => absurd h' h20⟩, fun h20 => ⟨by rw [e, ← d, h20], fun _ => ?_⟩⟩
     rw [e, ← d]
     have h18 : i18 = 0 := by
      rw [h] at h20; unfold mV at h20
      split at h20
      ·omega
      ·exact h20
     exact (c2 h18).1
    refine ⟨?_, ?_⟩
    ·intro h20
     refine ⟨?_, fun h21 => fin (.inr h21)⟩
     intro h21
     subst h21
     rw [if_pos rfl] at c3
     obtain ⟨d1, d2⟩ := c2 rfl
     have e15 : (i10 - i15).toNat = (i10 - (i15 + 1)).toNat + 1 := by omega
     rw [e15, kD, if_pos rfl] at c4
     have sr := cQ1 (e := 0) (L := L) ⟨b2, b3⟩
     refine ⟨⟨b2, b3, by omega⟩, ?_⟩
     intro i19 i20 s21 h22 h23 h24 h25 n22
     have h22 : (i19, i20, s21) = aK s16 i17 0 32 := h22
     have hb' := uH ⟨b2, b3⟩ h22
     refine ⟨⟨hb'.1, hb'.2, by omega⟩, ?_⟩
     intro i23 i24 s25 h26 h27 h28 h29 n26
     have h26 : (i23, i24, s25) = jM s16 i19 i20 4194304 := h26
     have hw2 : wrap .u64 (i15 + 1) = i15 + 1 := eY (by omega) (by omega)
     rw [hw2]
     have good : i24 = 0 → s21.size = 32 := by
      intro h
      subst h
      have t := aY2 hb' (by decide) h26
      obtain ⟨rfl, _⟩ := t
      have r := aV7 ⟨b2, b3⟩ h22
      omega
     have hlen : (((l14 ++ [D.L [D.S s21, D.S s25]]).length : Nat) : Int) ≤ 4398046511104 := by
      rw [List.length_append]; simp; omega
     have go : ∀ x : Int, (x = if i24 = 0 ∧ 0 < L.length ∧ 0 ≤ cmpL (keyE (bJ L (L.length - 1))) (jW s21) then 16 else i24) →
       rPs.I0 [(D.V v0), (D.Z dO), (D.V v2), (D.Z gK), (D.S s4), (D.L (l14 ++ [D.L [D.S s21, D.S s25]])), (D.I (i15 + 1)), (D.S s16), (D.I i23), (D.I x)] ∧
       rPs.I0M [(D.V v0), (D.Z dO), (D.V v2), (D.Z gK), (D.S s4), (D.L (l14 ++ [D.L [D.S s21, D.S s25]])), (D.I (i15 + 1)), (D.S s16), (D.I i23), (D.I x)] <
       rPs.I0M [(D.V v0), (D.Z dO), (D.V v2), (D.Z gK), (D.S s4), (D.L l14), (D.I i15), (D.S s16), (D.I i17), (D.I 0)] := by
      intro x hx
      have es : lZ s16 (i17, 0, L) = (i23, x, L ++ [sH (jW s21) s25]) := by
       unfold lZ
       simp only
       rw [← h22]
       simp only
       rw [← h26]
       simp only
       rw [← hx]
      rw [es] at sr c4
      refine ⟨⟨hb, sr.1, sr.2.1, by omega, by rw [en]; simp only; omega, L ++ [sH (jW s21) s25], by simp [c1], ?_, ?_, by rw [en]; exact c4⟩, ?_⟩
      ·intro hx0
       have h24 : i24 = 0 := by
        rw [hx0] at hx
        split at hx
        ·omega
        ·exact hx.symm
       have hsz := good h24
       have ek : jW s21 = bytesOf s21 := aS2 hsz
       refine ⟨?_, ?_⟩
       ·rw [d1, refs, refs, List.map_append]
        congr 1
        show [D.L [D.S s21, D.S s25]] = [aK6 (sH (jW s21) s25)]
        rw [ek]
        show _ = [D.L [D.S (textOf (bytesOf s21)), D.S s25]]
        rw [aL8]
       ·intro d hd
        rcases List.mem_append.1 hd with hd | hd
        ·exact d2 d hd
        ·have hd : d = sH (jW s21) s25 := by simpa using hd
         subst hd
         show (jW s21).length = 32 ∧ _
         rw [ek]
         exact ⟨by rw [bytesOf_length', hsz], fun x hx => by
          have : x ∈ bytesOf s21 := hx
          exact nX s21 x this⟩
      ·rw [List.length_append]
       simp only [List.length_cons, List.length_nil] at sr ⊢
       by_cases hx0 : x = 0
       ·rw [if_pos hx0]; have := sr.2.2.2 hx0; omega
       ·rw [if_neg hx0]; omega
      ·show ((iG s16).2.2 - (i15 + 1)).toNat < ((iG s16).2.2 - i15).toNat
       rw [en]; simp only; omega
     refine ⟨?_, ?_⟩
     ·intro h30
      have hsz := good h30
      refine ⟨?_, ?_⟩
      ·intro h31
       rw [show wrap .i64 (((l14.length : Nat) : Int) - (1 : Int)) = (l14.length : Int) - 1 from aH (by omega) (by omega)]
       refine ⟨by omega, fun _ => ⟨by omega, fun _ => ?_⟩⟩
       have hm := xY (l := L) (i := L.length - 1) (by omega)
       have hk := d2 _ hm
       have el : (((l14.getD ((l14.length : Int) - 1).toNat default)).toL.getD 0 default).toS = textOf (keyE (bJ L (L.length - 1))) := by
        rw [d1, aV9, show ((L.length : Int) - 1).toNat = L.length - 1 from by omega, bM8 (by omega)]; rfl
       rw [el, cF1 (by rw [hk.1, hsz]) hk.2]
       refine ⟨?_, ?_⟩
       ·intro h32 v27
        have g := go 16 (by rw [if_pos ⟨h30, by omega, by rw [aS2 hsz]; simpa using h32⟩])
        exact ⟨hlen, fun _ _ => g⟩
       ·intro h32 v27
        have g := go i24 (by rw [if_neg (fun h => by
         have := h.2.2
         rw [aS2 hsz] at this
         simp at h32
         omega)])
        exact ⟨hlen, fun _ _ => g⟩
      ·intro h31 v27
       have g := go i24 (by rw [if_neg (fun h => by omega)])
       exact ⟨hlen, fun _ _ => g⟩
     ·intro h30 v27
      have g := go i24 (by rw [if_neg (fun h => h30 h.1)])
      exact ⟨hlen, fun _ _ => g⟩
    ·intro h20
     exact fin (.inl (by omega))
end Go.Vc