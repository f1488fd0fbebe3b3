/-
 The store's laws: any file, any calls: contracts.
 Printed by wip/vct.py: the conditions of functions, by their contracts.
 The store's laws: CkptLoads.
-/
import Derived.Test.YtmgeaephkagdiaaGreatDoorCkb
import Derived.KernelRfl
set_option linter.unusedVariables false
set_option linter.unusedSimpArgs false
open _root_.Go.IntKind (wrap)
namespace Go.Vc
open Dk (Ds)
def dV.sig : Sig :=
 { args := [.one (cL8 0), .one (.lf (.sl (.at 4))), .one (.lf (.sl (.at 6)))], heap := [.rsl (.at 0) [.int .u32] (.at 1), .rsl (.at 2) [.int .u32] (.at 3), .rsl (.at 4) [.str] (.at 5), .rsl (.at 6) [.str] (.at 7)], aA := [.V, .Z, .V, .Z, .V, .L, .V, .L],
   res := .tup [.lf (.sl (.at 8)), .lf (.bool (.at 9)), .lf (.int .i64 (.at 10))], heap' := [.osl (.at 8) yT (.at 11)], news := [.V, .B, .I, .L],
   pre := fun l => (arg l 1).aC = dO ∧ (arg l 3).aC = gK ∧ ((arg l 5).toL = [] ∨ ∃ s : BA, (arg l 5).toL = [.S ⟨#[115, 116, 111, 114, 101]⟩] ∧ (arg l 7).toL = [.S s] ∧ s.size ≤ 500000),
   post := fun l => if (arg l 5).toL = [] then (arg l 9).toB = false ∧ (arg l 10).toI = 0 ∧ (arg l 11).toL = []
    else (arg l 10).toI = (dI ((arg l 7).toL.getD 0 default).toS).1 ∧ (arg l 9).toB = ((arg l 10).toI == 0) ∧ ((arg l 10).toI = 0 → (arg l 11).toL = refs (dI ((arg l 7).toL.getD 0 default).toS).2) }
def dV.I0 : LD → Prop := fun l => (arg l 8).toI = 0
def dV.I0M : LD → Nat := fun l => (2 - (arg l 8).toI).toNat
def bK.sig : Sig := gQ [.s, .b, .b] [.b] (fun _ => True) yes
end Go.Vc
namespace Go.Vc
set_option linter.unusedVariables false
set_option maxRecDepth 100000
def dV.Pure : Prop :=
 ∀ v0 : Value,
 ∀ z1 : LI,
 ∀ v2 : Value,
 ∀ z3 : LI,
 ∀ v4 : Value,
 ∀ l5 : LD,
 ∀ v6 : Value,
 ∀ l7 : LD,
 (∀ x ∈ z1, IntKind.has .u32 x) →
 (∀ x ∈ z3, IntKind.has .u32 x) →
 (EK.ok [.str] (D.L l5)) →
 (EK.ok [.str] (D.L l7)) →
 dV.sig.pre [.V v0, .Z z1, .V v2, .Z z3, .V v4, .L l5, .V v6, .L l7] →
 ∀ n8 : Nat,
 ∀ v9 : Value,
 dV.I0 [.V v0, .Z z1, .V v2, .Z z3, .V v4, .L l5, .V v6, .L l7, .I 0] ∧ (
 ∀ i10 : Int,
 R64 i10 →
 dV.I0 [.V v0, .Z z1, .V v2, .Z z3, .V v4, .L l5, .V v6, .L l7, .I i10] →
 ((
 (i10 < (l5.length : Int)) →
 Im (0 ≤ i10) (
 ((
 ((l5.getD i10.toNat default).toS = (⟨#[115, 116, 111, 114, 101]⟩ : BA)) →
 Im (i10 < (l7.length : Int)) (
  rPs.sig.pre [.V v0, .Z z1, .V v2, .Z z3, (D.S (l7.getD i10.toNat default).toS)] ∧ (
 ∀ v11 : Value,
 ∀ i12 : Int,
 ∀ l13 : LD,
  rPs.sig.post [.V v0, .Z z1, .V v2, .Z z3, (D.S (l7.getD i10.toNat default).toS), .V v11, .I i12, .L l13] →
 R64 i12 →
 (EK.ok [.str, .str] (D.L l13)) →
  dV.sig.post [.V v0, .Z z1, .V v2, .Z z3, .V v4, .L l5, .V v6, .L l7, .V v11, .B (i12 == 0), .I i12, .L l13]))) ∧ (
 ((l5.getD i10.toNat default).toS ≠ (⟨#[115, 116, 111, 114, 101]⟩ : BA)) →
   Bk dV.I0 dV.I0M [.V v0, .Z z1, .V v2, .Z z3, .V v4, .L l5, .V v6, .L l7, .I (wrap .i64 (i10 + 1))] [.V v0, .Z z1, .V v2, .Z z3, .V v4, .L l5, .V v6, .L l7, .I i10])))) ∧ (
 ((l5.length : Int) ≤ i10) →
 ∀ v11 : Value,
  dV.sig.post [.V v0, .Z z1, .V v2, .Z z3, .V v4, .L l5, .V v6, .L l7, .V v11, .B false, .I 0, .L ([] : LD)])))
def bK.Pure : Prop :=
 ∀ s0 : BA,
 ∀ b1 b2 : Bool,
 ((s0.size : Int) ≤ 9223372036854775807) →
 bK.sig.pre [.S s0, .B b1, .B b2] →
 Cut.sig.pre [.S s0, .I 300] ∧ (
 ∀ s3 : BA,
 Cut.sig.post [.S s0, .I 300, .S s3] →
 ((s3.size : Int) ≤ 9223372036854775807) →
 wV.sig.pre [.I 10000] ∧ (
 ∀ n4 : Nat,
 ∀ l5 : LD,
 wV.sig.post [.I 10000, .N n4, .L l5] →
 nG.sig.pre [] ∧ (
 ∀ b6 : Bool,
 nG.sig.post [.B b6] →
 ((
 (b6 = false) →
  bK.sig.post [.S s0, .B b1, .B b2, .B false]) ∧ (
 (b6 = true) →
 ((
 (b1 = true) →
  bC.sig.pre [] ∧ (
 ∀ v7 : Value,
 ∀ z8 : LI,
 ∀ v9 : Value,
 ∀ z10 : LI,
  bC.sig.post [.V v7, .Z z8, .V v9, .Z z10] →
 (∀ x ∈ z8, IntKind.has .u32 x) →
 (∀ x ∈ z10, IntKind.has .u32 x) →
  rOf.sig.pre [.V v7, .Z z8, .V v9, .Z z10, .S s3] ∧ (
 ∀ s11 : BA,
  rOf.sig.post [.V v7, .Z z8, .V v9, .Z z10, .S s3, .S s11] →
 ((s11.size : Int) ≤ 9223372036854775807) →
 Im (((s3 ++ s11).size : Int) ≤ (9223372036854775807 : Int)) (
 ∀ v12 v13 : Value,
 ((
 (b2 = true) →
  sG.sig.pre [.N n4, .L l5, .S (⟨#[115, 116, 111, 114, 101]⟩ : BA)] ∧ (
 ∀ l14 : LD,
 ∀ i15 : Int,
  sG.sig.post [.N n4, .L l5, .S (⟨#[115, 116, 111, 114, 101]⟩ : BA), .L l14, .I i15] →
 R64 i15 →
 ((
 (i15 ≠ 0) →
   bK.sig.post [.S s0, .B b1, .B b2, .B false]) ∧ (
 (i15 = 0) →
   lV.sig.pre [.N n4, .L l14, .S (⟨#[115, 116, 111, 114, 101]⟩ : BA), .S (s3 ++ s11)] ∧ (
 ∀ l16 : LD,
 ∀ i17 : Int,
   lV.sig.post [.N n4, .L l14, .S (⟨#[115, 116, 111, 114, 101]⟩ : BA), .S (s3 ++ s11), .L l16, .I i17] →
 R64 i17 →
 ((
 (i17 ≠ 0) →
   bK.sig.post [.S s0, .B b1, .B b2, .B false]) ∧ (
 (i17 = 0) →
 ∀ v18 : Value,
 Im (((([] : LD) ++ ((D.S (⟨#[115, 116, 111, 114, 101]⟩ : BA)) :: ([] : LD))).length : Int) ≤ (8796093022208 : Int)) (
 ∀ v19 v20 : Value,
 Im (((([] : LD) ++ ((D.S (s3 ++ s11)) :: ([] : LD))).length : Int) ≤ (8796093022208 : Int)) (
 ∀ v21 : Value,
 ((
    dQ.sig.pre [.N n4, .L l16] ∧ (
 ∀ b22 : Bool,
 ∀ i23 : Int,
    dQ.sig.post [.N n4, .L l16, .B b22, .I i23] →
 R64 i23 →
    bC.sig.pre [] ∧ (
 ∀ v24 : Value,
 ∀ z25 : LI,
 ∀ v26 : Value,
 ∀ z27 : LI,
    bC.sig.post [.V v24, .Z z25, .V v26, .Z z27] →
 (∀ x ∈ z25, IntKind.has .u32 x) →
 (∀ x ∈ z27, IntKind.has .u32 x) →
    dV.sig.pre [.V v24, .Z z25, .V v26, .Z z27, .V v19, .L (([] : LD) ++ ((D.S (⟨#[115, 116, 111, 114, 101]⟩ : BA)) :: ([] : LD))), .V v21, .L (([] : LD) ++ ((D.S (s3 ++ s11)) :: ([] : LD)))] ∧ (
 ∀ v28 : Value,
 ∀ b29 : Bool,
 ∀ i30 : Int,
 ∀ l31 : LD,
    dV.sig.post [.V v24, .Z z25, .V v26, .Z z27, .V v19, .L (([] : LD) ++ ((D.S (⟨#[115, 116, 111, 114, 101]⟩ : BA)) :: ([] : LD))), .V v21, .L (([] : LD) ++ ((D.S (s3 ++ s11)) :: ([] : LD))), .V v28, .B b29, .I i30, .L l31] →
 R64 i30 →
 (EK.ok [.str, .str] (D.L l31)) →
 ((
 (i23 ≠ i30) →
    bK.sig.post [.S s0, .B b1, .B b2, .B false]) ∧ (
 (i23 = i30) →
 ((
 (b22 ≠ b29) →
     bK.sig.post [.S s0, .B b1, .B b2, .B false]) ∧ (
 (b22 = b29) →
 ((
 (true ≠ (!(i30 == 0))) →
          bK.sig.post [.S s0, .B b1, .B b2, .B false]) ∧ (
 (true = (!(i30 == 0))) →
          bK.sig.post [.S s0, .B b1, .B b2, .B true])))))))))) ∧ (
    dQ.sig.pre [.N n4, .L l16] ∧ (
 ∀ n22 : Nat,
 ∀ v23 : Value,
 ∀ l24 : LD,
 ∀ b25 : Bool,
    dQ.sig.dM [.N n4, .L l16, .N n22, .V v23, .L l24, .B b25] →
 (EK.ok [.ints .u8 32, .str] (D.L l24)) →
    bC.sig.pre [] ∧ (
 ∀ v26 : Value,
 ∀ z27 : LI,
 ∀ v28 : Value,
 ∀ z29 : LI,
    bC.sig.post [.V v26, .Z z27, .V v28, .Z z29] →
 (∀ x ∈ z27, IntKind.has .u32 x) →
 (∀ x ∈ z29, IntKind.has .u32 x) →
    dV.sig.pre [.V v26, .Z z27, .V v28, .Z z29, .V v19, .L (([] : LD) ++ ((D.S (⟨#[115, 116, 111, 114, 101]⟩ : BA)) :: ([] : LD))), .V v21, .L (([] : LD) ++ ((D.S (s3 ++ s11)) :: ([] : LD)))] ∧ (
 ∀ v30 : Value,
 ∀ b31 : Bool,
 ∀ i32 : Int,
 ∀ l33 : LD,
    dV.sig.post [.V v26, .Z z27, .V v28, .Z z29, .V v19, .L (([] : LD) ++ ((D.S (⟨#[115, 116, 111, 114, 101]⟩ : BA)) :: ([] : LD))), .V v21, .L (([] : LD) ++ ((D.S (s3 ++ s11)) :: ([] : LD))), .V v30, .B b31, .I i32, .L l33] →
 R64 i32 →
 (EK.ok [.str, .str] (D.L l33)) →
 ((
 (0 ≠ i32) →
    bK.sig.post [.S s0, .B b1, .B b2, .B false]) ∧ (
 (0 = i32) →
 ((
 (b25 ≠ b31) →
     bK.sig.post [.S s0, .B b1, .B b2, .B false]) ∧ (
 (b25 = b31) →
 ((
 (false ≠ (!(i32 == 0))) →
     bK.sig.post [.S s0, .B b1, .B b2, .B false]) ∧ (
 (false = (!(i32 == 0))) →
     bT.sig.pre [.N n22, .V v23, .L l24, .V v30, .L l33] ∧ (
 ∀ i34 : Int,
     bT.sig.post [.N n22, .V v23, .L l24, .V v30, .L l33, .I i34] →
 R64 i34 →
     bK.sig.post [.S s0, .B b1, .B b2, .B (i34 == 0)]))))))))))))))))))))) ∧ (
 (b2 = false) →
 ((
   dQ.sig.pre [.N n4, .L l5] ∧ (
 ∀ b14 : Bool,
 ∀ i15 : Int,
   dQ.sig.post [.N n4, .L l5, .B b14, .I i15] →
 R64 i15 →
   bC.sig.pre [] ∧ (
 ∀ v16 : Value,
 ∀ z17 : LI,
 ∀ v18 : Value,
 ∀ z19 : LI,
   bC.sig.post [.V v16, .Z z17, .V v18, .Z z19] →
 (∀ x ∈ z17, IntKind.has .u32 x) →
 (∀ x ∈ z19, IntKind.has .u32 x) →
   dV.sig.pre [.V v16, .Z z17, .V v18, .Z z19, .V v12, .L ([] : LD), .V v13, .L ([] : LD)] ∧ (
 ∀ v20 : Value,
 ∀ b21 : Bool,
 ∀ i22 : Int,
 ∀ l23 : LD,
   dV.sig.post [.V v16, .Z z17, .V v18, .Z z19, .V v12, .L ([] : LD), .V v13, .L ([] : LD), .V v20, .B b21, .I i22, .L l23] →
 R64 i22 →
 (EK.ok [.str, .str] (D.L l23)) →
 ((
 (i15 ≠ i22) →
   bK.sig.post [.S s0, .B b1, .B b2, .B false]) ∧ (
 (i15 = i22) →
 ((
 (b14 ≠ b21) →
    bK.sig.post [.S s0, .B b1, .B b2, .B false]) ∧ (
 (b14 = b21) →
 ((
 (true ≠ (!(i22 == 0))) →
    bK.sig.post [.S s0, .B b1, .B b2, .B false]) ∧ (
 (true = (!(i22 == 0))) →
    bK.sig.post [.S s0, .B b1, .B b2, .B true])))))))))) ∧ (
   dQ.sig.pre [.N n4, .L l5] ∧ (
 ∀ n14 : Nat,
 ∀ v15 : Value,
 ∀ l16 : LD,
 ∀ b17 : Bool,
   dQ.sig.dM [.N n4, .L l5, .N n14, .V v15, .L l16, .B b17] →
 (EK.ok [.ints .u8 32, .str] (D.L l16)) →
   bC.sig.pre [] ∧ (
 ∀ v18 : Value,
 ∀ z19 : LI,
 ∀ v20 : Value,
 ∀ z21 : LI,
   bC.sig.post [.V v18, .Z z19, .V v20, .Z z21] →
 (∀ x ∈ z19, IntKind.has .u32 x) →
 (∀ x ∈ z21, IntKind.has .u32 x) →
   dV.sig.pre [.V v18, .Z z19, .V v20, .Z z21, .V v12, .L ([] : LD), .V v13, .L ([] : LD)] ∧ (
 ∀ v22 : Value,
 ∀ b23 : Bool,
 ∀ i24 : Int,
 ∀ l25 : LD,
   dV.sig.post [.V v18, .Z z19, .V v20, .Z z21, .V v12, .L ([] : LD), .V v13, .L ([] : LD), .V v22, .B b23, .I i24, .L l25] →
 R64 i24 →
 (EK.ok [.str, .str] (D.L l25)) →
 ((
 (0 ≠ i24) →
   bK.sig.post [.S s0, .B b1, .B b2, .B false]) ∧ (
 (0 = i24) →
 ((
 (b17 ≠ b23) →
    bK.sig.post [.S s0, .B b1, .B b2, .B false]) ∧ (
 (b17 = b23) →
 ((
 (false ≠ (!(i24 == 0))) →
    bK.sig.post [.S s0, .B b1, .B b2, .B false]) ∧ (
 (false = (!(i24 == 0))) →
    bT.sig.pre [.N n14, .V v15, .L l16, .V v22, .L l25] ∧ (
 ∀ i26 : Int,
    bT.sig.post [.N n14, .V v15, .L l16, .V v22, .L l25, .I i26] →
 R64 i26 →
    bK.sig.post [.S s0, .B b1, .B b2, .B (i26 == 0)])))))))))))))))))) ∧ (
 (b1 = false) →
 ∀ v7 v8 : Value,
 ((
 (b2 = true) →
  sG.sig.pre [.N n4, .L l5, .S (⟨#[115, 116, 111, 114, 101]⟩ : BA)] ∧ (
 ∀ l9 : LD,
 ∀ i10 : Int,
  sG.sig.post [.N n4, .L l5, .S (⟨#[115, 116, 111, 114, 101]⟩ : BA), .L l9, .I i10] →
 R64 i10 →
 ((
 (i10 ≠ 0) →
   bK.sig.post [.S s0, .B b1, .B b2, .B false]) ∧ (
 (i10 = 0) →
   lV.sig.pre [.N n4, .L l9, .S (⟨#[115, 116, 111, 114, 101]⟩ : BA), .S s3] ∧ (
 ∀ l11 : LD,
 ∀ i12 : Int,
   lV.sig.post [.N n4, .L l9, .S (⟨#[115, 116, 111, 114, 101]⟩ : BA), .S s3, .L l11, .I i12] →
 R64 i12 →
 ((
 (i12 ≠ 0) →
   bK.sig.post [.S s0, .B b1, .B b2, .B false]) ∧ (
 (i12 = 0) →
 ∀ v13 : Value,
 Im (((([] : LD) ++ ((D.S (⟨#[115, 116, 111, 114, 101]⟩ : BA)) :: ([] : LD))).length : Int) ≤ (8796093022208 : Int)) (
 ∀ v14 v15 : Value,
 Im (((([] : LD) ++ ((D.S s3) :: ([] : LD))).length : Int) ≤ (8796093022208 : Int)) (
 ∀ v16 : Value,
 ((
    dQ.sig.pre [.N n4, .L l11] ∧ (
 ∀ b17 : Bool,
 ∀ i18 : Int,
    dQ.sig.post [.N n4, .L l11, .B b17, .I i18] →
 R64 i18 →
    bC.sig.pre [] ∧ (
 ∀ v19 : Value,
 ∀ z20 : LI,
 ∀ v21 : Value,
 ∀ z22 : LI,
    bC.sig.post [.V v19, .Z z20, .V v21, .Z z22] →
 (∀ x ∈ z20, IntKind.has .u32 x) →
 (∀ x ∈ z22, IntKind.has .u32 x) →
    dV.sig.pre [.V v19, .Z z20, .V v21, .Z z22, .V v14, .L (([] : LD) ++ ((D.S (⟨#[115, 116, 111, 114, 101]⟩ : BA)) :: ([] : LD))), .V v16, .L (([] : LD) ++ ((D.S s3) :: ([] : LD)))] ∧ (
 ∀ v23 : Value,
 ∀ b24 : Bool,
 ∀ i25 : Int,
 ∀ l26 : LD,
    dV.sig.post [.V v19, .Z z20, .V v21, .Z z22, .V v14, .L (([] : LD) ++ ((D.S (⟨#[115, 116, 111, 114, 101]⟩ : BA)) :: ([] : LD))), .V v16, .L (([] : LD) ++ ((D.S s3) :: ([] : LD))), .V v23, .B b24, .I i25, .L l26] →
 R64 i25 →
 (EK.ok [.str, .str] (D.L l26)) →
 ((
 (i18 ≠ i25) →
    bK.sig.post [.S s0, .B b1, .B b2, .B false]) ∧ (
 (i18 = i25) →
 ((
 (b17 ≠ b24) →
     bK.sig.post [.S s0, .B b1, .B b2, .B false]) ∧ (
 (b17 = b24) →
 ((
 (true ≠ (!(i25 == 0))) →
          bK.sig.post [.S s0, .B b1, .B b2, .B false]) ∧ (
 (true = (!(i25 == 0))) →
          bK.sig.post [.S s0, .B b1, .B b2, .B true])))))))))) ∧ (
    dQ.sig.pre [.N n4, .L l11] ∧ (
 ∀ n17 : Nat,
 ∀ v18 : Value,
 ∀ l19 : LD,
 ∀ b20 : Bool,
    dQ.sig.dM [.N n4, .L l11, .N n17, .V v18, .L l19, .B b20] →
 (EK.ok [.ints .u8 32, .str] (D.L l19)) →
    bC.sig.pre [] ∧ (
 ∀ v21 : Value,
 ∀ z22 : LI,
 ∀ v23 : Value,
 ∀ z24 : LI,
    bC.sig.post [.V v21, .Z z22, .V v23, .Z z24] →
 (∀ x ∈ z22, IntKind.has .u32 x) →
 (∀ x ∈ z24, IntKind.has .u32 x) →
    dV.sig.pre [.V v21, .Z z22, .V v23, .Z z24, .V v14, .L (([] : LD) ++ ((D.S (⟨#[115, 116, 111, 114, 101]⟩ : BA)) :: ([] : LD))), .V v16, .L (([] : LD) ++ ((D.S s3) :: ([] : LD)))] ∧ (
 ∀ v25 : Value,
 ∀ b26 : Bool,
 ∀ i27 : Int,
 ∀ l28 : LD,
    dV.sig.post [.V v21, .Z z22, .V v23, .Z z24, .V v14, .L (([] : LD) ++ ((D.S (⟨#[115, 116, 111, 114, 101]⟩ : BA)) :: ([] : LD))), .V v16, .L (([] : LD) ++ ((D.S s3) :: ([] : LD))), .V v25, .B b26, .I i27, .L l28] →
 R64 i27 →
 (EK.ok [.str, .str] (D.L l28)) →
 ((
 (0 ≠ i27) →
    bK.sig.post [.S s0, .B b1, .B b2, .B false]) ∧ (
 (0 = i27) →
 ((
 (b20 ≠ b26) →
     bK.sig.post [.S s0, .B b1, .B b2, .B false]) ∧ (
 (b20 = b26) →
 ((
 (false ≠ (!(i27 == 0))) →
     bK.sig.post [.S s0, .B b1, .B b2, .B false]) ∧ (
 (false = (!(i27 == 0))) →
     bT.sig.pre [.N n17, .V v18, .L l19, .V v25, .L l28] ∧ (
 ∀ i29 : Int,
     bT.sig.post [.N n17, .V v18, .L l19, .V v25, .L l28, .I i29] →
 R64 i29 →
     bK.sig.post [.S s0, .B b1, .B b2, .B (i29 == 0)]))))))))))))))))))))) ∧ (
 (b2 = false) →
 ((
   dQ.sig.pre [.N n4, .L l5] ∧ (
 ∀ b9 : Bool,
 ∀ i10 : Int,
   dQ.sig.post [.N n4, .L l5, .B b9, .I i10] →
 R64 i10 →
   bC.sig.pre [] ∧ (
 ∀ v11 : Value,
 ∀ z12 : LI,
 ∀ v13 : Value,
 ∀ z14 : LI,
   bC.sig.post [.V v11, .Z z12, .V v13, .Z z14] →
 (∀ x ∈ z12, IntKind.has .u32 x) →
 (∀ x ∈ z14, IntKind.has .u32 x) →
   dV.sig.pre [.V v11, .Z z12, .V v13, .Z z14, .V v7, .L ([] : LD), .V v8, .L ([] : LD)] ∧ (
 ∀ v15 : Value,
 ∀ b16 : Bool,
 ∀ i17 : Int,
 ∀ l18 : LD,
   dV.sig.post [.V v11, .Z z12, .V v13, .Z z14, .V v7, .L ([] : LD), .V v8, .L ([] : LD), .V v15, .B b16, .I i17, .L l18] →
 R64 i17 →
 (EK.ok [.str, .str] (D.L l18)) →
 ((
 (i10 ≠ i17) →
   bK.sig.post [.S s0, .B b1, .B b2, .B false]) ∧ (
 (i10 = i17) →
 ((
 (b9 ≠ b16) →
    bK.sig.post [.S s0, .B b1, .B b2, .B false]) ∧ (
 (b9 = b16) →
 ((
 (true ≠ (!(i17 == 0))) →
    bK.sig.post [.S s0, .B b1, .B b2, .B false]) ∧ (
 (true = (!(i17 == 0))) →
    bK.sig.post [.S s0, .B b1, .B b2, .B true])))))))))) ∧ (
   dQ.sig.pre [.N n4, .L l5] ∧ (
 ∀ n9 : Nat,
 ∀ v10 : Value,
 ∀ l11 : LD,
 ∀ b12 : Bool,
   dQ.sig.dM [.N n4, .L l5, .N n9, .V v10, .L l11, .B b12] →
 (EK.ok [.ints .u8 32, .str] (D.L l11)) →
   bC.sig.pre [] ∧ (
 ∀ v13 : Value,
 ∀ z14 : LI,
 ∀ v15 : Value,
 ∀ z16 : LI,
   bC.sig.post [.V v13, .Z z14, .V v15, .Z z16] →
 (∀ x ∈ z14, IntKind.has .u32 x) →
 (∀ x ∈ z16, IntKind.has .u32 x) →
   dV.sig.pre [.V v13, .Z z14, .V v15, .Z z16, .V v7, .L ([] : LD), .V v8, .L ([] : LD)] ∧ (
 ∀ v17 : Value,
 ∀ b18 : Bool,
 ∀ i19 : Int,
 ∀ l20 : LD,
   dV.sig.post [.V v13, .Z z14, .V v15, .Z z16, .V v7, .L ([] : LD), .V v8, .L ([] : LD), .V v17, .B b18, .I i19, .L l20] →
 R64 i19 →
 (EK.ok [.str, .str] (D.L l20)) →
 ((
 (0 ≠ i19) →
   bK.sig.post [.S s0, .B b1, .B b2, .B false]) ∧ (
 (0 = i19) →
 ((
 (b12 ≠ b18) →
    bK.sig.post [.S s0, .B b1, .B b2, .B false]) ∧ (
 (b12 = b18) →
 ((
 (false ≠ (!(i19 == 0))) →
    bK.sig.post [.S s0, .B b1, .B b2, .B false]) ∧ (
 (false = (!(i19 == 0))) →
    bT.sig.pre [.N n9, .V v10, .L l11, .V v17, .L l20] ∧ (
 ∀ i21 : Int,
    bT.sig.post [.N n9, .V v10, .L l11, .V v17, .L l20, .I i21] →
 R64 i21 →
    bK.sig.post [.S s0, .B b1, .B b2, .B (i21 == 0)])))))))))))))))))))))
end Go.Vc
namespace Go.Vc
open Dk (Ds)
theorem dN1 {s : BA} (h : (dI s).1 = 0) : (dI s).2.length ≤ s.size := by
 obtain ⟨a, b⟩ := dN2 h
 have h1 : (kN (s.extract 0 (s.size - 32))).1 = 0 := by rw [← b]; exact h
 have h2 := (dV2 h1).2
 rw [b]
 rw [ByteArray.size_extract] at h2
 omega
theorem dV.pure : dV.Pure := by
 intro v0 z1 v2 z3 v4 l5 v6 l7 _ _ _ _ hp
 have hp : z1 = dO ∧ z3 = gK ∧ (l5 = [] ∨ ∃ s : BA, l5 = [.S ⟨#[115, 116, 111, 114, 101]⟩] ∧ l7 = [.S s] ∧ s.size ≤ 500000) := hp
 obtain ⟨p1, p2, p3⟩ := hp
 intro n8 v9
 refine ⟨rfl, fun i10 _ hi => ?_⟩
 have hi : i10 = 0 := hi
 rcases p3 with rfl | ⟨s, rfl, rfl, hs⟩
 ·refine ⟨fun h => ?_, fun _ v11 => ?_⟩
  ·have h : i10 < ((0 : Nat) : Int) := h
   exact absurd h (by omega)
  ·exact ⟨rfl, rfl, rfl⟩
 ·refine ⟨fun h => ?_, fun h => ?_⟩
  ·have h : i10 < ((1 : Nat) : Int) := h
   obtain rfl : i10 = 0 := by omega
   refine ⟨by omega, fun _ => ⟨fun _ => ⟨by show (0 : Int) < ((1 : Nat) : Int); omega, fun _ => ⟨⟨p1, p2, hs⟩, fun v11 i12 l13 hr _ _ => ?_⟩⟩, fun hn => absurd rfl hn⟩⟩
   obtain ⟨e1, e2⟩ : i12 = (dI s).1 ∧ (i12 = 0 → l13 = refs (dI s).2) := hr
   exact ⟨e1, rfl, e2⟩
  ·have h : ((1 : Nat) : Int) ≤ i10 := h
   exact absurd h (by omega)
theorem bK.tail {s0 : BA} {b1 b2 : Bool} {n4 : Nat} {l : LD} {va vb : Value} {A B : LD} {x : Ds} (hr : bD l x) (sx : Small x) (h5 : (Dk.read x Ck.old).1.length ≤ 500000)
  (hab : (A = [] ∧ Ck.nM x = 0 ∧ Ck.pF x = [] ∧ Ck.oZ x = false) ∨ ∃ s : BA, A = [.S ⟨#[115, 116, 111, 114, 101]⟩] ∧ B = [.S s] ∧ s.size ≤ 500000 ∧ Ck.nM x = (dI s).1 ∧ Ck.pF x = (dI s).2 ∧ Ck.oZ x = true) :
 ((
  dQ.sig.pre [(D.N n4), (D.L l)] ∧ (
  ∀ b22 : Bool,
  ∀ i23 : Int,
  dQ.sig.post [(D.N n4), (D.L l), (D.B b22), (D.I i23)] →
  (-9223372036854775808 ≤ i23 ∧ i23 < 9223372036854775808) →
  bC.sig.pre [] ∧ (
  ∀ v24 : Value,
  ∀ z25 : LI,
  ∀ v26 : Value,
  ∀ z27 : LI,
  bC.sig.post [(D.V v24), (D.Z z25), (D.V v26), (D.Z z27)] →
  (∀ x ∈ z25, IntKind.has .u32 x) →
  (∀ x ∈ z27, IntKind.has .u32 x) →
  dV.sig.pre [(D.V v24), (D.Z z25), (D.V v26), (D.Z z27), (D.V va), (D.L A), (D.V vb), (D.L B)] ∧ (
  ∀ v28 : Value,
  ∀ b29 : Bool,
  ∀ i30 : Int,
  ∀ l31 : LD,
  dV.sig.post [(D.V v24), (D.Z z25), (D.V v26), (D.Z z27), (D.V va), (D.L A), (D.V vb), (D.L B), (D.V v28), (D.B b29), (D.I i30), (D.L l31)] →
  (-9223372036854775808 ≤ i30 ∧ i30 < 9223372036854775808) →
  (EK.ok [.str, .str] (D.L l31)) →
  ((
   (i23 ≠ i30) →
   bK.sig.post [(D.S s0), (D.B b1), (D.B b2), (D.B false)]) ∧ (
   (i23 = i30) →
   ((
    (b22 ≠ b29) →
    bK.sig.post [(D.S s0), (D.B b1), (D.B b2), (D.B false)]) ∧ (
    (b22 = b29) →
    ((
     (true ≠ (!(i30 == (0 : Int)))) →
     bK.sig.post [(D.S s0), (D.B b1), (D.B b2), (D.B false)]) ∧ (
     (true = (!(i30 == (0 : Int)))) →
     bK.sig.post [(D.S s0), (D.B b1), (D.B b2), (D.B true)])))))))))) ∧ (
  dQ.sig.pre [(D.N n4), (D.L l)] ∧ (
  ∀ n22 : Nat,
  ∀ v23 : Value,
  ∀ l24 : LD,
  ∀ b25 : Bool,
  dQ.sig.dM [(D.N n4), (D.L l), (D.N n22), (D.V v23), (D.L l24), (D.B b25)] →
  (EK.ok [.ints .u8 32, .str] (D.L l24)) →
  bC.sig.pre [] ∧ (
  ∀ v26 : Value,
  ∀ z27 : LI,
  ∀ v28 : Value,
  ∀ z29 : LI,
  bC.sig.post [(D.V v26), (D.Z z27), (D.V v28), (D.Z z29)] →
  (∀ x ∈ z27, IntKind.has .u32 x) →
  (∀ x ∈ z29, IntKind.has .u32 x) →
  dV.sig.pre [(D.V v26), (D.Z z27), (D.V v28), (D.Z z29), (D.V va), (D.L A), (D.V vb), (D.L B)] ∧ (
  ∀ v30 : Value,
  ∀ b31 : Bool,
  ∀ i32 : Int,
  ∀ l33 : LD,
  dV.sig.post [(D.V v26), (D.Z z27), (D.V v28), (D.Z z29), (D.V va), (D.L A), (D.V vb), (D.L B), (D.V v30), (D.B b31), (D.I i32), (D.L l33)] →
  (-9223372036854775808 ≤ i32 ∧ i32 < 9223372036854775808) →
  (EK.ok [.str, .str] (D.L l33)) →
  ((
   ((0 : Int) ≠ i32) →
   bK.sig.post [(D.S s0), (D.B b1), (D.B b2), (D.B false)]) ∧ (
   ((0 : Int) = i32) →
   ((
    (b25 ≠ b31) →
    bK.sig.post [(D.S s0), (D.B b1), (D.B b2), (D.B false)]) ∧ (
    (b25 = b31) →
    ((
     (false ≠ (!(i32 == (0 : Int)))) →
     bK.sig.post [(D.S s0), (D.B b1), (D.B b2), (D.B false)]) ∧ (
     (false = (!(i32 == (0 : Int)))) →
     bT.sig.pre [(D.N n22), (D.V v23), (D.L l24), (D.V v30), (D.L l33)] ∧ (
     ∀ i34 : Int,
     bT.sig.post [(D.N n22), (D.V v23), (D.L l24), (D.V v30), (D.L l33), (D.I i34)] →
     (-9223372036854775808 ≤ i34 ∧ i34 < 9223372036854775808) →
     bK.sig.post [(D.S s0), (D.B b1), (D.B b2), (D.B (i34 == (0 : Int)))])))))))))))) := by
 have pl : ∀ v z w u, bC.sig.post [.V v, .Z z, .V w, .Z u] → dV.sig.pre [.V v, .Z z, .V w, .Z u, .V va, .L A, .V vb, .L B] := by
  intro v z w u h
  obtain ⟨h1, h2⟩ : z = dO ∧ u = gK := h
  refine ⟨h1, h2, ?_⟩
  rcases hab with ⟨a, _⟩ | ⟨s, a, b, c, _⟩
  ·exact .inl a
  ·exact .inr ⟨s, a, b, c⟩
 have po : ∀ v z w u r b (e : Int) X, dV.sig.post [.V v, .Z z, .V w, .Z u, .V va, .L A, .V vb, .L B, .V r, .B b, .I e, .L X] → e = Ck.nM x ∧ (e = 0 → b = Ck.oZ x ∧ X = refs (Ck.pF x)) ∧ (e ≠ 0 → b = false) := by
  intro v z w u r b e X h
  have h : if A = [] then b = false ∧ e = 0 ∧ X = [] else e = (dI (B.getD 0 default).toS).1 ∧ b = (e == 0) ∧ (e = 0 → X = refs (dI (B.getD 0 default).toS).2) := h
  rcases hab with ⟨a, h1, h2, h3⟩ | ⟨s, a, c, _, h1, h2, h3⟩
  ·rw [if_pos a] at h
   obtain ⟨p, q, r⟩ := h
   rw [h1, h2, h3]
   exact ⟨q, fun _ => ⟨p, by rw [r]; rfl⟩, fun hn => absurd q hn⟩
  ·rw [if_neg (by rw [a]; simp)] at h
   obtain ⟨p, q, r⟩ := h
   subst c
   have p : e = (dI s).1 := p
   have r : e = 0 → X = refs (dI s).2 := r
   rw [h1, h2, h3]
   exact ⟨p, fun h0 => ⟨by rw [q, h0]; rfl, r h0⟩, fun hn => by rw [q]; simpa using hn⟩
 have pc : dQ.sig.pre [.N n4, .L l] := ⟨x, hr, sx, h5⟩
 refine ⟨⟨pc, fun b22 i23 h _ => ?_⟩, pc, fun n22 v23 l24 b25 h _ => ?_⟩
 ·obtain ⟨h1, h2, h3⟩ : i23 ≠ 0 ∧ i23 = Ck.nM x ∧ b22 = false := h x hr sx
  refine ⟨trivial, fun v24 z25 v26 z27 hm _ _ => ⟨pl _ _ _ _ hm, fun v28 b29 i30 l31 hl _ _ => ?_⟩⟩
  obtain ⟨q1, q2, q3⟩ := po _ _ _ _ _ _ _ _ hl
  have hn : i30 ≠ 0 := by rw [q1, ← h2]; exact h1
  have ht : true = (!(i30 == (0 : Int))) := by simpa using hn
  exact ⟨fun hx => absurd (h2.trans q1.symm) hx, fun _ => ⟨fun hx => absurd (h3.trans (q3 hn).symm) hx, fun _ => ⟨fun hx => absurd ht hx, fun _ => rfl⟩⟩⟩
 ·obtain ⟨h1, h2, h3⟩ : Ck.nM x = 0 ∧ l24 = Ck.pF x ∧ b25 = Ck.oZ x := h x hr sx
  refine ⟨trivial, fun v26 z27 v28 z29 hm _ _ => ⟨pl _ _ _ _ hm, fun v30 b31 i32 l33 hl _ _ => ?_⟩⟩
  obtain ⟨q1, q2, q3⟩ := po _ _ _ _ _ _ _ _ hl
  have h0 : i32 = 0 := q1.trans h1
  obtain ⟨q4, q5⟩ := q2 h0
  have ht : false = (!(i32 == (0 : Int))) := by rw [h0]; rfl
  refine ⟨fun hx => absurd h0.symm hx, fun _ => ⟨fun hx => absurd (h3.trans q4.symm) hx, fun _ => ⟨fun hx => absurd ht hx, fun _ => ⟨?_, fun i34 h34 _ => ?_⟩⟩⟩⟩
  ·show l24.length ≤ 1000000
   rw [h2]
   rcases hab with ⟨_, _, e, _⟩ | ⟨s, _, _, hs, e1, e, _⟩
   ·rw [e]; simp
   ·rw [e]
    have := dN1 (e1.symm.trans h1)
    omega
  ·have h34 : l33 = refs l24 → i34 = 0 := h34
   rw [h34 (by rw [h2]; exact q5)]; rfl
theorem Ck.made (t : Tx) (ht : t.length ≤ 1000) : (Dk.create (Dk.new 10000) Ck.old).2 = 0 ∧ (Dk.append (Dk.create (Dk.new 10000) Ck.old).1 Ck.old t).2 = 0 ∧ Dk.read (Dk.append (Dk.create (Dk.new 10000) Ck.old).1 Ck.old t).1 Ck.old = (t, 0) := by
 have e1 : Dk.create (Dk.new 10000) Ck.old = (⟨[⟨[], 0⟩], [(Ck.old, 0)], [], [⟨[], Ck.old, 0⟩], 10000, -1, -1, false, 1⟩, 0) := rfl
 rw [e1]
 have e2 : Dk.append ⟨[⟨[], 0⟩], [(Ck.old, 0)], [], [⟨[], Ck.old, 0⟩], 10000, -1, -1, false, 1⟩ Ck.old t = (⟨[⟨t, 0⟩], [(Ck.old, 0)], [], [⟨[], Ck.old, 0⟩], 10000, -1, -1, false, 2⟩, 0) := by
  have h : ¬ ((t.length : Int) > Dk.free ⟨[⟨[], 0⟩], [(Ck.old, 0)], [], [⟨[], Ck.old, 0⟩], 10000, -1, -1, false, 1⟩) := by
   rw [show Dk.free ⟨[⟨[], 0⟩], [(Ck.old, 0)], [], [⟨[], Ck.old, 0⟩], 10000, -1, -1, false, 1⟩ = 10000 from rfl]; omega
  unfold Dk.append
  rw [if_neg (by decide)]
  show (if _ then _ else _) = _
  rw [if_neg h]
  rfl
 exact ⟨rfl, by rw [e2], by rw [e2]; rfl⟩
theorem bK.pure : bK.Pure := by
 intro s0 b1 b2 _ _
 refine ⟨by show (0 : Int) ≤ 300; omega, fun s3 h3 _ => ⟨trivial, fun n4 l5 r5 => ⟨trivial, fun b6 h6 => ⟨fun hb => ?_, fun _ => ?_⟩⟩⟩⟩
 ·have h6 : b6 = true := h6
  rw [h6] at hb; cases hb
 have r5 : bD l5 (Dk.new 10000) := r5
 have l0 := bJ4 10000
 have m0 : Mid (Dk.new 10000) := Ck.cH1 l0
 have z3 : s3.size ≤ 300 := by
  have h3 : s3 = if (s0.size : Int) > 300 then s0.extract 0 300 else s0 := h3
  rw [h3]
  split
  ·rw [ByteArray.size_extract]; omega
  ·omega
 have hold : tx ⟨#[115, 116, 111, 114, 101]⟩ = Ck.old := rfl
 have key : ∀ (s : BA), s.size ≤ 1000 → Small (Dk.new 10000) ∧ (∀ l i, sG.sig.post [.N n4, .L l5, .S ⟨#[115, 116, 111, 114, 101]⟩, .L l, .I i] → bD l (Dk.create (Dk.new 10000) Ck.old).1 ∧ i = 0) ∧
   Small (Dk.create (Dk.new 10000) Ck.old).1 ∧ (∀ l l2 i, bD l (Dk.create (Dk.new 10000) Ck.old).1 → lV.sig.post [.N n4, .L l, .S ⟨#[115, 116, 111, 114, 101]⟩, .S s, .L l2, .I i] → i = 0 ∧ ∃ x, bD l2 x ∧ Small x ∧ Dk.read x Ck.old = (tx s, 0)) := by
  intro s hs
  obtain ⟨a1, a2, a3⟩ := Ck.made (tx s) (by rw [show (tx s).length = s.size from rfl]; exact hs)
  have l1 := bJ3 l0 Ck.old
  have m1 : Mid (Dk.create (Dk.new 10000) Ck.old).1 := l1.mono (by omega) (by omega)
  have l2 := bJ2 l1 Ck.old (tx s)
  have m2 : Mid (Dk.append (Dk.create (Dk.new 10000) Ck.old).1 Ck.old (tx s)).1 := l2.mono (by omega) (by rw [show (tx s).length = s.size from rfl]; omega)
  refine ⟨m0.small, fun l i h => ?_, m1.small, fun l lb i hl h => ?_⟩
  ·obtain ⟨b1, b2⟩ := h _ r5 m0.small
   exact ⟨b1, b2.trans a1⟩
  ·obtain ⟨b1, b2⟩ := h _ hl m1.small
   exact ⟨b2.trans a2, _, b1, m2.small, a3⟩
 have one : ∀ {d : D}, ((([] : LD) ++ d :: ([] : LD)).length : Int) ≤ 8796093022208 := fun {d} => by simp
 have rn : Dk.read (Dk.new 10000) Ck.old = ([], 5) := rfl
 obtain ⟨n1, n2, n3⟩ := Ck.dH9 rn
 have got : ∀ {x : Ds} {s : BA}, Dk.read x Ck.old = (tx s, 0) → Ck.nM x = (dI s).1 ∧ Ck.pF x = (dI s).2 ∧ Ck.oZ x = true := by
  intro x s h
  unfold Ck.nM Ck.pF Ck.oZ
  rw [h]
  exact ⟨by simp, by simp, rfl⟩
 refine ⟨fun _ => ⟨trivial, fun v7 z8 v9 z10 hm _ _ => ⟨?_, fun s11 h11 _ => ?_⟩⟩, fun _ v7 v8 => ?_⟩
 ·obtain ⟨h1, h2⟩ : z8 = dO ∧ z10 = gK := hm
  exact ⟨h1, h2, by omega⟩
 ·have h11 : s11 = textOf (iU (bytesOf s3)) := h11
  have e11 : s11.size = 32 := by rw [h11, textOf_size, (aL3 (by rw [bytesOf_length]; omega)).1]
  have e12 : (s3 ++ s11).size = s3.size + 32 := by rw [ByteArray.size_append, e11]
  have z12 : (s3 ++ s11).size ≤ 1000 := by omega
  refine ⟨by omega, fun _ v12 v13 => ?_⟩
  obtain ⟨k1, k2, k3, k4⟩ := key (s3 ++ s11) z12
  refine ⟨fun _ => ⟨⟨_, r5, k1⟩, fun l14 i15 hc _ => ?_⟩, fun _ => ?_⟩
  ·obtain ⟨c1, c2⟩ := k2 l14 i15 hc
   refine ⟨fun h => absurd c2 h, fun _ => ⟨⟨_, c1, k3⟩, fun l16 i17 ha _ => ?_⟩⟩
   obtain ⟨d1, x, d2, d3, d4⟩ := k4 l14 l16 i17 c1 ha
   refine ⟨fun h => absurd d1 h, fun _ v18 => ⟨one, fun _ v19 v20 => ⟨one, fun _ v21 => ?_⟩⟩⟩
   obtain ⟨f1, f2, f3⟩ := got d4
   exact bK.tail d2 d3 (by rw [d4, show (tx (s3 ++ s11)).length = ((s3 ++ s11)).size from rfl]; have := z12; omega) (.inr ⟨(s3 ++ s11), rfl, rfl, by have := z12; omega, f1, f2, f3⟩)
  ·exact bK.tail r5 m0.small (by rw [rn]; simp) (.inl ⟨rfl, n1, n2, n3⟩)
 ·have z3' : s3.size ≤ 1000 := by omega
  obtain ⟨k1, k2, k3, k4⟩ := key s3 z3'
  refine ⟨fun _ => ⟨⟨_, r5, k1⟩, fun l14 i15 hc _ => ?_⟩, fun _ => ?_⟩
  ·obtain ⟨c1, c2⟩ := k2 l14 i15 hc
   refine ⟨fun h => absurd c2 h, fun _ => ⟨⟨_, c1, k3⟩, fun l16 i17 ha _ => ?_⟩⟩
   obtain ⟨d1, x, d2, d3, d4⟩ := k4 l14 l16 i17 c1 ha
   refine ⟨fun h => absurd d1 h, fun _ v18 => ⟨one, fun _ v19 v20 => ⟨one, fun _ v21 => ?_⟩⟩⟩
   obtain ⟨f1, f2, f3⟩ := got d4
   exact bK.tail d2 d3 (by rw [d4, show (tx s3).length = (s3).size from rfl]; have := z3'; omega) (.inr ⟨s3, rfl, rfl, by have := z3'; omega, f1, f2, f3⟩)
  ·exact bK.tail r5 m0.small (by rw [rn]; simp) (.inl ⟨rfl, n1, n2, n3⟩)
end Go.Vc