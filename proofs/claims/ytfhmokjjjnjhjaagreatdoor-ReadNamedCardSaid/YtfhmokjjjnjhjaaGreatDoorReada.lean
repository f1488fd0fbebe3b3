/-
 The reader's laws: contracts.
 Printed by wip/vct.py: the conditions of functions, by their contracts.
 The reader's laws: awake, and ReadGood.
 The reader's laws: locations have what init says.
 The reader's laws: notes and blanks change nothing.
 The reader's laws: ReadNotes.
 The reader's laws find the table of names as it was laid.
-/
import Derived.Test.YtfhmokjjjnjhjaaGreatDoorReadc
import Derived.Test.YtfhmokjjjnjhjaaGreatDoorReadn
import Derived.Test.YtfhmokjjjnjhjaaGreatDoorLexb
import Derived.KernelRfl
import Derived.Test.YtfhmokjjjnjhjaaGreatDoorReadz
import Derived.Test.YtfhmokjjjnjhjaaGreatDoorVcd
import Derived.OpenShut
import Derived.FnData
import Derived.ChangeArms
import GoSem.ClaimJoined
import Derived.Deep.Slices
import Derived.WideShapes
import Derived.Test.YtfhmokjjjnjhjaaGreatDoorVcd
import Derived.LaidMore
set_option linter.unusedVariables false
set_option linter.unusedSimpArgs false
set_option linter.unnecessarySimpa false
open _root_.Go.IntKind (wrap)
namespace Go.Vc
def cM0 (i : Nat) : List Ch := [.rsl (.at i) initK (.at (i + 1)), .rsl (.at (i + 2)) [.sl uJ] (.at (i + 3)), .abs (.deep [.sl uJ]) [.at (i + 3)], .rsl (.at (i + 4)) qJ (.at (i + 5))]
def tS : List Srt := [.V, .L, .V, .L, .V, .L]
def tA (i : Nat) : SV := aA [.lf (.sl (.at i)), .lf (.sl (.at (i + 2))), .lf (.sl (.at (i + 4)))]
def tIs (l : LD) (i : Nat) (t : Lt.Test) : Prop := (arg l (i + 1)).toL = t.locs.map bD ∧ kQ (arg l (i + 3)).toL t.threads ∧ (arg l (i + 5)).toL = t.asks.map jC
def cN5 (t : Lt.Test) : Prop := t.locs.length ≤ 8 ∧ t.threads.length ≤ 4 ∧ t.asks.length ≤ 40 ∧ ∀ x ∈ t.threads, x.length ≤ 8
def cL8.sig : Sig := { args := [aA (lU 0)], heap := [], aB := mQ, res := aA (lU 13), heap' := [], news := mQ, pre := fun _ => True, post := fun l => l.drop 13 = l.take 13 }
def cK9.sig : Sig := { args := [tA 0], heap := cM0 0, aB := tS, res := tA 6, heap' := cM0 0 ++ cM0 6, news := tS, pre := fun l => ∃ t, tIs l 0 t ∧ cN5 t, post := fun l => ∀ t, tIs l 0 t → tIs l 6 t }
def cK9.I0 : LD → Prop := fun l => 0 ≤ (arg l 6).toI ∧ (arg l 6).toI ≤ (arg l 1).toL.length ∧ (arg l 7).toL = (arg l 1).toL.take (arg l 6).toI.toNat
def cK9.I0M : LD → Nat := fun l => ((arg l 1).toL.length - (arg l 6).toI).toNat
def cK9.I1 : LD → Prop := fun l => 0 ≤ (arg l 6).toI ∧ (arg l 6).toI ≤ (arg l 3).toL.length ∧ ∀ t, tIs l 0 t → kQ (arg l 7).toL (t.threads.take (arg l 6).toI.toNat)
def cK9.I1M : LD → Nat := fun l => ((arg l 3).toL.length - (arg l 6).toI).toNat
def cL4 (d : D) (i : Int) : LD := ((d.toL.getD i.toNat default).toL.getD 1 default).toL
def cK9.I2 : LD → Prop := fun l => 0 ≤ (arg l 8).toI ∧ (arg l 8).toI ≤ (cL4 (arg l 3) (arg l 6).toI).length ∧ (arg l 7).toL = (cL4 (arg l 3) (arg l 6).toI).take (arg l 8).toI.toNat
def cK9.I2M : LD → Nat := fun l => ((cL4 (arg l 3) (arg l 6).toI).length - (arg l 8).toI).toNat
def cK9.I3 : LD → Prop := fun l => 0 ≤ (arg l 6).toI ∧ (arg l 6).toI ≤ (arg l 5).toL.length ∧ (arg l 7).toL = (arg l 5).toL.take (arg l 6).toI.toNat
def cK9.I3M : LD → Nat := fun l => ((arg l 5).toL.length - (arg l 6).toI).toNat
def cK8.sig : Sig := { args := [tA 0, tA 6], heap := cM0 0 ++ cM0 6, aB := tS ++ tS, res := aIn 12, heap' := cM0 0 ++ cM0 6, news := [.I], pre := fun l => ∃ t, tIs l 0 t ∧ cN5 t, post := fun l => ∀ t, tIs l 0 t → tIs l 6 t → (arg l 12).toI = 0 }
def cK8.I0 : LD → Prop := fun l => 0 ≤ (arg l 12).toI
def cK8.I0M : LD → Nat := fun l => ((arg l 1).toL.length - (arg l 12).toI).toNat
def cK8.I1 : LD → Prop := fun l => 0 ≤ (arg l 12).toI
def cK8.I1M : LD → Nat := fun l => ((arg l 5).toL.length - (arg l 12).toI).toNat
def cK8.I2 : LD → Prop := fun l => 0 ≤ (arg l 12).toI
def cK8.I2M : LD → Nat := fun l => ((arg l 3).toL.length - (arg l 12).toI).toNat
def cK8.I3 : LD → Prop := fun l => 0 ≤ (arg l 13).toI
def cK8.I3M : LD → Nat := fun l => ((cL4 (arg l 3) (arg l 12).toI).length - (arg l 13).toI).toNat
def cL3.sig : Sig := eX [.i .u64] [.s] (fun _ => True) fun l => (arg l 1).toS = bx (Lt.hexOf 16 (arg l 0).toI.toNat)
def cL3.I0 : LD → Prop := fun l => 0 ≤ (arg l 3).toI ∧ (arg l 3).toI ≤ 16 ∧ ((arg l 2).toS.size : Int) = (arg l 3).toI ∧ Lt.hexOf 16 (arg l 0).toI.toNat = Lt.hexOf (16 - (arg l 3).toI.toNat) (arg l 1).toI.toNat ++ tx (arg l 2).toS
def cL3.I0M : LD → Nat := fun l => (16 - (arg l 3).toI).toNat
def aS9 (g : FuncId) (ks : List AK) : Sig := { args := aB9 0 ks, heap := nmH g (jP ks).length, aB := jP ks ++ [.L], res := aBo ((jP ks).length + 1), heap' := nmH g (jP ks).length, news := [.B], pre := fun l => xC (arg l (jP ks).length), post := fun l => l.getLast? = some (.B true) }
def gJ.sig (g : FuncId) : Sig := aS9 g []
def kR.sig (g : FuncId) : Sig := aS9 g [.s]
def cL0.sig (g : FuncId) : Sig := aS9 g [.s, .s]
def cL0.I0 : LD → Prop := fun l => 0 ≤ (arg l 3).toI ∧ ∀ k : Nat, (k : Int) < (arg l 3).toI → (tx ((arg l 1).toS.extract 0 20)).getD k 0 ≠ 10
def cL0.I0M : LD → Nat := fun l => (20 - (arg l 3).toI).toNat
def cL0.I1 : LD → Prop := fun l => 0 ≤ (arg l 4).toI ∧ (arg l 4).toI ≤ 500 ∧ ((arg l 3).toS.size : Int) ≤ 23 * (arg l 4).toI ∧ tx (arg l 3).toS ++ Lt.noted (tx ((arg l 1).toS.extract 0 20)) ((tx ((arg l 0).toS.extract 0 500)).drop (arg l 4).toI.toNat) = Lt.noted (tx ((arg l 1).toS.extract 0 20)) (tx ((arg l 0).toS.extract 0 500))
def cL0.I1M : LD → Nat := fun l => (500 - (arg l 4).toI).toNat
def cL1.sig (g : FuncId) : Sig := aS9 g [.i .u64, .i .i64]
def cL1.I0 : LD → Prop := fun l => xC (arg l 2) ∧ 1 ≤ (arg l 1).toI ∧ (arg l 1).toI ≤ 4 ∧ 0 ≤ (arg l 4).toI ∧ (arg l 4).toI ≤ (arg l 1).toI ∧ tx (arg l 3).toS = Lt.named (arg l 4).toI.toNat (arg l 0).toI.toNat
def cL1.I0M : LD → Nat := fun l => ((arg l 1).toI - (arg l 4).toI).toNat
end Go.Vc
namespace Go.Vc
set_option linter.unusedVariables false
set_option maxRecDepth 100000
def cL8.Pure : Prop :=
 ∀ i0 i1 i2 : Int,
 ∀ b3 : Bool,
 ∀ i4 : Int,
 ∀ b5 : Bool,
 ∀ i6 : Int,
 ∀ b7 b8 : Bool,
 ∀ i9 i10 i11 i12 : Int,
 R64 i0 →
 R64 i1 →
 R64 i2 →
 U64 i4 →
 U64 i6 →
 R64 i9 →
 R64 i10 →
 R64 i11 →
 R64 i12 →
 cL8.sig.pre [.I i0, .I i1, .I i2, .B b3, .I i4, .B b5, .I i6, .B b7, .B b8, .I i9, .I i10, .I i11, .I i12] →
 ∀ n13 n14 : Nat,
 cL8.sig.post [.I i0, .I i1, .I i2, .B b3, .I i4, .B b5, .I i6, .B b7, .B b8, .I i9, .I i10, .I i11, .I i12, .I i0, .I i1, .I i2, .B b3, .I i4, .B b5, .I i6, .B b7, .B b8, .I i9, .I i10, .I i11, .I i12]
def cK9.Pure : Prop :=
 ∀ v0 : Value,
 ∀ l1 : LD,
 ∀ v2 : Value,
 ∀ l3 : LD,
 ∀ v4 : Value,
 ∀ l5 : LD,
 (EK.ok [.str, .int .u64] (D.L l1)) →
 (EK.ok [.sl [.int .i64, .int .i64, .int .i64, .bool, .int .u64, .bool, .int .u64, .bool, .bool, .int .i64, .int .i64, .int .i64, .int .i64]] (D.L l3)) →
 (EK.ok [.int .i64, .int .i64, .int .u64] (D.L l5)) →
 cK9.sig.pre [.V v0, .L l1, .V v2, .L l3, .V v4, .L l5] →
 ∀ n6 : Nat,
 ∀ v7 v8 v9 : Value,
 ∀ n10 : Nat,
 ∀ v11 v12 v13 : Value,
 ∀ n14 : Nat,
 ∀ v15 v16 v17 : Value,
 cK9.I0 [.V v0, .L l1, .V v2, .L l3, .V v4, .L l5, .I 0, .L ([] : LD)] ∧ (
 ∀ i18 : Int,
 ∀ v19 : Value,
 ∀ l20 : LD,
 R64 i18 →
 (EK.ok [.str, .int .u64] (D.L l20)) →
 cK9.I0 [.V v0, .L l1, .V v2, .L l3, .V v4, .L l5, .I i18, .L l20] →
 ((
 (i18 < (l1.length : Int)) →
 Im (0 ≤ i18) (
 ∀ n21 : Nat,
 ∀ v22 : Value,
 Im (((l20 ++ ((D.L ((D.S ((l1.getD i18.toNat default).toL.getD (0 : Int).toNat default).toS) :: ((D.I ((l1.getD i18.toNat default).toL.getD (1 : Int).toNat default).toI) :: ([] : LD)))) :: ([] : LD))).length : Int) ≤ (5864062014805 : Int)) (
 ∀ v23 : Value,
  Bk cK9.I0 cK9.I0M [.V v0, .L l1, .V v2, .L l3, .V v4, .L l5, .I (wrap .i64 (i18 + 1)), .L (l20 ++ ((D.L ((D.S ((l1.getD i18.toNat default).toL.getD (0 : Int).toNat default).toS) :: ((D.I ((l1.getD i18.toNat default).toL.getD (1 : Int).toNat default).toI) :: ([] : LD)))) :: ([] : LD)))] [.V v0, .L l1, .V v2, .L l3, .V v4, .L l5, .I i18, .L l20]))) ∧ (
 ((l1.length : Int) ≤ i18) →
  cK9.I1 [.V v0, .L l1, .V v2, .L l3, .V v4, .L l5, .I 0, .L ([] : LD)] ∧ (
 ∀ i21 : Int,
 ∀ v22 : Value,
 ∀ l23 : LD,
 R64 i21 →
 (EK.ok [.sl [.int .i64, .int .i64, .int .i64, .bool, .int .u64, .bool, .int .u64, .bool, .bool, .int .i64, .int .i64, .int .i64, .int .i64]] (D.L l23)) →
  cK9.I1 [.V v0, .L l1, .V v2, .L l3, .V v4, .L l5, .I i21, .L l23] →
 ((
 (i21 < (l3.length : Int)) →
 Im (0 ≤ i21) (
 ∀ v24 : Value,
  cK9.I2 [.V v0, .L l1, .V v2, .L l3, .V v4, .L l5, .I i21, .L ([] : LD), .I 0] ∧ (
 ∀ v25 : Value,
 ∀ l26 : LD,
 ∀ i27 : Int,
 R64 i27 →
 (EK.ok [.int .i64, .int .i64, .int .i64, .bool, .int .u64, .bool, .int .u64, .bool, .bool, .int .i64, .int .i64, .int .i64, .int .i64] (D.L l26)) →
  cK9.I2 [.V v0, .L l1, .V v2, .L l3, .V v4, .L l5, .I i21, .L l26, .I i27] →
 ((
 (i27 < (((l3.getD i21.toNat default).toL.getD (1 : Int).toNat default).toL.length : Int)) →
 Im (0 ≤ i27) (
 ∀ n28 : Nat,
  cL8.sig.pre [(D.I ((((l3.getD i21.toNat default).toL.getD (1 : Int).toNat default).toL.getD i27.toNat default).toL.getD (0 : Int).toNat default).toI), (D.I ((((l3.getD i21.toNat default).toL.getD (1 : Int).toNat default).toL.getD i27.toNat default).toL.getD (1 : Int).toNat default).toI), (D.I ((((l3.getD i21.toNat default).toL.getD (1 : Int).toNat default).toL.getD i27.toNat default).toL.getD (2 : Int).toNat default).toI), (D.B ((((l3.getD i21.toNat default).toL.getD (1 : Int).toNat default).toL.getD i27.toNat default).toL.getD (3 : Int).toNat default).toB), (D.I ((((l3.getD i21.toNat default).toL.getD (1 : Int).toNat default).toL.getD i27.toNat default).toL.getD (4 : Int).toNat default).toI), (D.B ((((l3.getD i21.toNat default).toL.getD (1 : Int).toNat default).toL.getD i27.toNat default).toL.getD (5 : Int).toNat default).toB), (D.I ((((l3.getD i21.toNat default).toL.getD (1 : Int).toNat default).toL.getD i27.toNat default).toL.getD (6 : Int).toNat default).toI), (D.B ((((l3.getD i21.toNat default).toL.getD (1 : Int).toNat default).toL.getD i27.toNat default).toL.getD (7 : Int).toNat default).toB), (D.B ((((l3.getD i21.toNat default).toL.getD (1 : Int).toNat default).toL.getD i27.toNat default).toL.getD (8 : Int).toNat default).toB), (D.I ((((l3.getD i21.toNat default).toL.getD (1 : Int).toNat default).toL.getD i27.toNat default).toL.getD (9 : Int).toNat default).toI), (D.I ((((l3.getD i21.toNat default).toL.getD (1 : Int).toNat default).toL.getD i27.toNat default).toL.getD (10 : Int).toNat default).toI), (D.I ((((l3.getD i21.toNat default).toL.getD (1 : Int).toNat default).toL.getD i27.toNat default).toL.getD (11 : Int).toNat default).toI), (D.I ((((l3.getD i21.toNat default).toL.getD (1 : Int).toNat default).toL.getD i27.toNat default).toL.getD (12 : Int).toNat default).toI)] ∧ (
 ∀ i29 i30 i31 : Int,
 ∀ b32 : Bool,
 ∀ i33 : Int,
 ∀ b34 : Bool,
 ∀ i35 : Int,
 ∀ b36 b37 : Bool,
 ∀ i38 i39 i40 i41 : Int,
  cL8.sig.post [(D.I ((((l3.getD i21.toNat default).toL.getD (1 : Int).toNat default).toL.getD i27.toNat default).toL.getD (0 : Int).toNat default).toI), (D.I ((((l3.getD i21.toNat default).toL.getD (1 : Int).toNat default).toL.getD i27.toNat default).toL.getD (1 : Int).toNat default).toI), (D.I ((((l3.getD i21.toNat default).toL.getD (1 : Int).toNat default).toL.getD i27.toNat default).toL.getD (2 : Int).toNat default).toI), (D.B ((((l3.getD i21.toNat default).toL.getD (1 : Int).toNat default).toL.getD i27.toNat default).toL.getD (3 : Int).toNat default).toB), (D.I ((((l3.getD i21.toNat default).toL.getD (1 : Int).toNat default).toL.getD i27.toNat default).toL.getD (4 : Int).toNat default).toI), (D.B ((((l3.getD i21.toNat default).toL.getD (1 : Int).toNat default).toL.getD i27.toNat default).toL.getD (5 : Int).toNat default).toB), (D.I ((((l3.getD i21.toNat default).toL.getD (1 : Int).toNat default).toL.getD i27.toNat default).toL.getD (6 : Int).toNat default).toI), (D.B ((((l3.getD i21.toNat default).toL.getD (1 : Int).toNat default).toL.getD i27.toNat default).toL.getD (7 : Int).toNat default).toB), (D.B ((((l3.getD i21.toNat default).toL.getD (1 : Int).toNat default).toL.getD i27.toNat default).toL.getD (8 : Int).toNat default).toB), (D.I ((((l3.getD i21.toNat default).toL.getD (1 : Int).toNat default).toL.getD i27.toNat default).toL.getD (9 : Int).toNat default).toI), (D.I ((((l3.getD i21.toNat default).toL.getD (1 : Int).toNat default).toL.getD i27.toNat default).toL.getD (10 : Int).toNat default).toI), (D.I ((((l3.getD i21.toNat default).toL.getD (1 : Int).toNat default).toL.getD i27.toNat default).toL.getD (11 : Int).toNat default).toI), (D.I ((((l3.getD i21.toNat default).toL.getD (1 : Int).toNat default).toL.getD i27.toNat default).toL.getD (12 : Int).toNat default).toI), .I i29, .I i30, .I i31, .B b32, .I i33, .B b34, .I i35, .B b36, .B b37, .I i38, .I i39, .I i40, .I i41] →
 R64 i29 →
 R64 i30 →
 R64 i31 →
 U64 i33 →
 U64 i35 →
 R64 i38 →
 R64 i39 →
 R64 i40 →
 R64 i41 →
 ∀ v42 : Value,
 Im (((l26 ++ ((D.L ((D.I i29) :: ((D.I i30) :: ((D.I i31) :: ((D.B b32) :: ((D.I i33) :: ((D.B b34) :: ((D.I i35) :: ((D.B b36) :: ((D.B b37) :: ((D.I i38) :: ((D.I i39) :: ((D.I i40) :: ((D.I i41) :: ([] : LD))))))))))))))) :: ([] : LD))).length : Int) ≤ (1466015503701 : Int)) (
 ∀ v43 : Value,
  Bk cK9.I2 cK9.I2M [.V v0, .L l1, .V v2, .L l3, .V v4, .L l5, .I i21, .L (l26 ++ ((D.L ((D.I i29) :: ((D.I i30) :: ((D.I i31) :: ((D.B b32) :: ((D.I i33) :: ((D.B b34) :: ((D.I i35) :: ((D.B b36) :: ((D.B b37) :: ((D.I i38) :: ((D.I i39) :: ((D.I i40) :: ((D.I i41) :: ([] : LD))))))))))))))) :: ([] : LD))), .I (wrap .i64 (i27 + 1))] [.V v0, .L l1, .V v2, .L l3, .V v4, .L l5, .I i21, .L l26, .I i27])))) ∧ (
 ((((l3.getD i21.toNat default).toL.getD (1 : Int).toNat default).toL.length : Int) ≤ i27) →
 ∀ v28 : Value,
 Im (((l23 ++ ((D.L ((D.V v25) :: ((D.L l26) :: ([] : LD)))) :: ([] : LD))).length : Int) ≤ (5864062014805 : Int)) (
 ∀ v29 : Value,
  Bk cK9.I1 cK9.I1M [.V v0, .L l1, .V v2, .L l3, .V v4, .L l5, .I (wrap .i64 (i21 + 1)), .L (l23 ++ ((D.L ((D.V v25) :: ((D.L l26) :: ([] : LD)))) :: ([] : LD)))] [.V v0, .L l1, .V v2, .L l3, .V v4, .L l5, .I i21, .L l23])))))) ∧ (
 ((l3.length : Int) ≤ i21) →
   cK9.I3 [.V v0, .L l1, .V v2, .L l3, .V v4, .L l5, .I 0, .L ([] : LD)] ∧ (
 ∀ i24 : Int,
 ∀ v25 : Value,
 ∀ l26 : LD,
 R64 i24 →
 (EK.ok [.int .i64, .int .i64, .int .u64] (D.L l26)) →
  cK9.I3 [.V v0, .L l1, .V v2, .L l3, .V v4, .L l5, .I i24, .L l26] →
 ((
 (i24 < (l5.length : Int)) →
 Im (0 ≤ i24) (
 ∀ n27 : Nat,
 ∀ v28 : Value,
 Im (((l26 ++ ((D.L ((D.I ((l5.getD i24.toNat default).toL.getD (0 : Int).toNat default).toI) :: ((D.I ((l5.getD i24.toNat default).toL.getD (1 : Int).toNat default).toI) :: ((D.I ((l5.getD i24.toNat default).toL.getD (2 : Int).toNat default).toI) :: ([] : LD))))) :: ([] : LD))).length : Int) ≤ (5864062014805 : Int)) (
 ∀ v29 : Value,
  Bk cK9.I3 cK9.I3M [.V v0, .L l1, .V v2, .L l3, .V v4, .L l5, .I (wrap .i64 (i24 + 1)), .L (l26 ++ ((D.L ((D.I ((l5.getD i24.toNat default).toL.getD (0 : Int).toNat default).toI) :: ((D.I ((l5.getD i24.toNat default).toL.getD (1 : Int).toNat default).toI) :: ((D.I ((l5.getD i24.toNat default).toL.getD (2 : Int).toNat default).toI) :: ([] : LD))))) :: ([] : LD)))] [.V v0, .L l1, .V v2, .L l3, .V v4, .L l5, .I i24, .L l26]))) ∧ (
 ((l5.length : Int) ≤ i24) →
  cK9.sig.post [.V v0, .L l1, .V v2, .L l3, .V v4, .L l5, .V v19, .L l20, .V v22, .L l23, .V v25, .L l26])))))))))
def cK8.Pure : Prop :=
 ∀ v0 : Value,
 ∀ l1 : LD,
 ∀ v2 : Value,
 ∀ l3 : LD,
 ∀ v4 : Value,
 ∀ l5 : LD,
 ∀ v6 : Value,
 ∀ l7 : LD,
 ∀ v8 : Value,
 ∀ l9 : LD,
 ∀ v10 : Value,
 ∀ l11 : LD,
 (EK.ok [.str, .int .u64] (D.L l1)) →
 (EK.ok [.sl [.int .i64, .int .i64, .int .i64, .bool, .int .u64, .bool, .int .u64, .bool, .bool, .int .i64, .int .i64, .int .i64, .int .i64]] (D.L l3)) →
 (EK.ok [.int .i64, .int .i64, .int .u64] (D.L l5)) →
 (EK.ok [.str, .int .u64] (D.L l7)) →
 (EK.ok [.sl [.int .i64, .int .i64, .int .i64, .bool, .int .u64, .bool, .int .u64, .bool, .bool, .int .i64, .int .i64, .int .i64, .int .i64]] (D.L l9)) →
 (EK.ok [.int .i64, .int .i64, .int .u64] (D.L l11)) →
 cK8.sig.pre [.V v0, .L l1, .V v2, .L l3, .V v4, .L l5, .V v6, .L l7, .V v8, .L l9, .V v10, .L l11] →
 ∀ n12 n13 : Nat,
 ((
 ((l1.length : Int) ≠ (l7.length : Int)) →
  cK8.sig.post [.V v0, .L l1, .V v2, .L l3, .V v4, .L l5, .V v6, .L l7, .V v8, .L l9, .V v10, .L l11, .I (-1 : Int)]) ∧ (
 ((l1.length : Int) = (l7.length : Int)) →
 ((
 ((l3.length : Int) ≠ (l9.length : Int)) →
   cK8.sig.post [.V v0, .L l1, .V v2, .L l3, .V v4, .L l5, .V v6, .L l7, .V v8, .L l9, .V v10, .L l11, .I (-1 : Int)]) ∧ (
 ((l3.length : Int) = (l9.length : Int)) →
 ((
 ((l5.length : Int) ≠ (l11.length : Int)) →
  cK8.sig.post [.V v0, .L l1, .V v2, .L l3, .V v4, .L l5, .V v6, .L l7, .V v8, .L l9, .V v10, .L l11, .I (-1 : Int)]) ∧ (
 ((l5.length : Int) = (l11.length : Int)) →
  cK8.I0 [.V v0, .L l1, .V v2, .L l3, .V v4, .L l5, .V v6, .L l7, .V v8, .L l9, .V v10, .L l11, .I 0] ∧ (
 ∀ i14 : Int,
 R64 i14 →
  cK8.I0 [.V v0, .L l1, .V v2, .L l3, .V v4, .L l5, .V v6, .L l7, .V v8, .L l9, .V v10, .L l11, .I i14] →
 ((
 (i14 < (l1.length : Int)) →
 Im (0 ≤ i14) (
 Im (i14 < (l7.length : Int)) (
 ((
 ((((l1.getD i14.toNat default).toL.getD (0 : Int).toNat default).toS ≠ ((l7.getD i14.toNat default).toL.getD (0 : Int).toNat default).toS) ∨ (((l1.getD i14.toNat default).toL.getD (1 : Int).toNat default).toI ≠ ((l7.getD i14.toNat default).toL.getD (1 : Int).toNat default).toI)) →
   cK8.sig.post [.V v0, .L l1, .V v2, .L l3, .V v4, .L l5, .V v6, .L l7, .V v8, .L l9, .V v10, .L l11, .I (-1 : Int)]) ∧ (
 ((((l1.getD i14.toNat default).toL.getD (0 : Int).toNat default).toS = ((l7.getD i14.toNat default).toL.getD (0 : Int).toNat default).toS) ∧ (((l1.getD i14.toNat default).toL.getD (1 : Int).toNat default).toI = ((l7.getD i14.toNat default).toL.getD (1 : Int).toNat default).toI)) →
   Bk cK8.I0 cK8.I0M [.V v0, .L l1, .V v2, .L l3, .V v4, .L l5, .V v6, .L l7, .V v8, .L l9, .V v10, .L l11, .I (wrap .i64 (i14 + 1))] [.V v0, .L l1, .V v2, .L l3, .V v4, .L l5, .V v6, .L l7, .V v8, .L l9, .V v10, .L l11, .I i14]))))) ∧ (
 ((l1.length : Int) ≤ i14) →
   cK8.I1 [.V v0, .L l1, .V v2, .L l3, .V v4, .L l5, .V v6, .L l7, .V v8, .L l9, .V v10, .L l11, .I 0] ∧ (
 ∀ i15 : Int,
 R64 i15 →
   cK8.I1 [.V v0, .L l1, .V v2, .L l3, .V v4, .L l5, .V v6, .L l7, .V v8, .L l9, .V v10, .L l11, .I i15] →
 ((
 (i15 < (l5.length : Int)) →
 Im (0 ≤ i15) (
 Im (i15 < (l11.length : Int)) (
 ((
 ((((l5.getD i15.toNat default).toL.getD (0 : Int).toNat default).toI ≠ ((l11.getD i15.toNat default).toL.getD (0 : Int).toNat default).toI) ∨ ((((l5.getD i15.toNat default).toL.getD (1 : Int).toNat default).toI ≠ ((l11.getD i15.toNat default).toL.getD (1 : Int).toNat default).toI) ∨ (((l5.getD i15.toNat default).toL.getD (2 : Int).toNat default).toI ≠ ((l11.getD i15.toNat default).toL.getD (2 : Int).toNat default).toI))) →
    cK8.sig.post [.V v0, .L l1, .V v2, .L l3, .V v4, .L l5, .V v6, .L l7, .V v8, .L l9, .V v10, .L l11, .I (-1 : Int)]) ∧ (
 ((((l5.getD i15.toNat default).toL.getD (0 : Int).toNat default).toI = ((l11.getD i15.toNat default).toL.getD (0 : Int).toNat default).toI) ∧ ((((l5.getD i15.toNat default).toL.getD (1 : Int).toNat default).toI = ((l11.getD i15.toNat default).toL.getD (1 : Int).toNat default).toI) ∧ (((l5.getD i15.toNat default).toL.getD (2 : Int).toNat default).toI = ((l11.getD i15.toNat default).toL.getD (2 : Int).toNat default).toI))) →
    Bk cK8.I1 cK8.I1M [.V v0, .L l1, .V v2, .L l3, .V v4, .L l5, .V v6, .L l7, .V v8, .L l9, .V v10, .L l11, .I (wrap .i64 (i15 + 1))] [.V v0, .L l1, .V v2, .L l3, .V v4, .L l5, .V v6, .L l7, .V v8, .L l9, .V v10, .L l11, .I i15]))))) ∧ (
 ((l5.length : Int) ≤ i15) →
   cK8.I2 [.V v0, .L l1, .V v2, .L l3, .V v4, .L l5, .V v6, .L l7, .V v8, .L l9, .V v10, .L l11, .I 0] ∧ (
 ∀ i16 : Int,
 R64 i16 →
   cK8.I2 [.V v0, .L l1, .V v2, .L l3, .V v4, .L l5, .V v6, .L l7, .V v8, .L l9, .V v10, .L l11, .I i16] →
 ((
 (i16 < (l3.length : Int)) →
 Im (0 ≤ i16) (
 Im (i16 < (l9.length : Int)) (
 ((
 ((((l3.getD i16.toNat default).toL.getD (1 : Int).toNat default).toL.length : Int) ≠ (((l9.getD i16.toNat default).toL.getD (1 : Int).toNat default).toL.length : Int)) →
    cK8.sig.post [.V v0, .L l1, .V v2, .L l3, .V v4, .L l5, .V v6, .L l7, .V v8, .L l9, .V v10, .L l11, .I (-1 : Int)]) ∧ (
 ((((l3.getD i16.toNat default).toL.getD (1 : Int).toNat default).toL.length : Int) = (((l9.getD i16.toNat default).toL.getD (1 : Int).toNat default).toL.length : Int)) →
    cK8.I3 [.V v0, .L l1, .V v2, .L l3, .V v4, .L l5, .V v6, .L l7, .V v8, .L l9, .V v10, .L l11, .I i16, .I 0] ∧ (
 ∀ i17 : Int,
 R64 i17 →
    cK8.I3 [.V v0, .L l1, .V v2, .L l3, .V v4, .L l5, .V v6, .L l7, .V v8, .L l9, .V v10, .L l11, .I i16, .I i17] →
 ((
 (i17 < (((l3.getD i16.toNat default).toL.getD (1 : Int).toNat default).toL.length : Int)) →
 Im (0 ≤ i17) (
 Im (i17 < (((l9.getD i16.toNat default).toL.getD (1 : Int).toNat default).toL.length : Int)) (
 ((
 ((((((l3.getD i16.toNat default).toL.getD (1 : Int).toNat default).toL.getD i17.toNat default).toL.getD (0 : Int).toNat default).toI ≠ ((((l9.getD i16.toNat default).toL.getD (1 : Int).toNat default).toL.getD i17.toNat default).toL.getD (0 : Int).toNat default).toI) ∨ ((((((l3.getD i16.toNat default).toL.getD (1 : Int).toNat default).toL.getD i17.toNat default).toL.getD (1 : Int).toNat default).toI ≠ ((((l9.getD i16.toNat default).toL.getD (1 : Int).toNat default).toL.getD i17.toNat default).toL.getD (1 : Int).toNat default).toI) ∨ ((((((l3.getD i16.toNat default).toL.getD (1 : Int).toNat default).toL.getD i17.toNat default).toL.getD (2 : Int).toNat default).toI ≠ ((((l9.getD i16.toNat default).toL.getD (1 : Int).toNat default).toL.getD i17.toNat default).toL.getD (2 : Int).toNat default).toI) ∨ (((((((l3.getD i16.toNat default).toL.getD (1 : Int).toNat default).toL.getD i17.toNat default).toL.getD (3 : Int).toNat default).toB ≠ ((((l9.getD i16.toNat default).toL.getD (1 : Int).toNat default).toL.getD i17.toNat default).toL.getD (3 : Int).toNat default).toB) ∨ (((((l3.getD i16.toNat default).toL.getD (1 : Int).toNat default).toL.getD i17.toNat default).toL.getD (4 : Int).toNat default).toI ≠ ((((l9.getD i16.toNat default).toL.getD (1 : Int).toNat default).toL.getD i17.toNat default).toL.getD (4 : Int).toNat default).toI)) ∨ (((((((l3.getD i16.toNat default).toL.getD (1 : Int).toNat default).toL.getD i17.toNat default).toL.getD (5 : Int).toNat default).toB ≠ ((((l9.getD i16.toNat default).toL.getD (1 : Int).toNat default).toL.getD i17.toNat default).toL.getD (5 : Int).toNat default).toB) ∨ (((((l3.getD i16.toNat default).toL.getD (1 : Int).toNat default).toL.getD i17.toNat default).toL.getD (6 : Int).toNat default).toI ≠ ((((l9.getD i16.toNat default).toL.getD (1 : Int).toNat default).toL.getD i17.toNat default).toL.getD (6 : Int).toNat default).toI)) ∨ ((((((l3.getD i16.toNat default).toL.getD (1 : Int).toNat default).toL.getD i17.toNat default).toL.getD (7 : Int).toNat default).toB ≠ ((((l9.getD i16.toNat default).toL.getD (1 : Int).toNat default).toL.getD i17.toNat default).toL.getD (7 : Int).toNat default).toB) ∨ ((((((l3.getD i16.toNat default).toL.getD (1 : Int).toNat default).toL.getD i17.toNat default).toL.getD (8 : Int).toNat default).toB ≠ ((((l9.getD i16.toNat default).toL.getD (1 : Int).toNat default).toL.getD i17.toNat default).toL.getD (8 : Int).toNat default).toB) ∨ ((((((l3.getD i16.toNat default).toL.getD (1 : Int).toNat default).toL.getD i17.toNat default).toL.getD (9 : Int).toNat default).toI ≠ ((((l9.getD i16.toNat default).toL.getD (1 : Int).toNat default).toL.getD i17.toNat default).toL.getD (9 : Int).toNat default).toI) ∨ ((((((l3.getD i16.toNat default).toL.getD (1 : Int).toNat default).toL.getD i17.toNat default).toL.getD (10 : Int).toNat default).toI ≠ ((((l9.getD i16.toNat default).toL.getD (1 : Int).toNat default).toL.getD i17.toNat default).toL.getD (10 : Int).toNat default).toI) ∨ ((((((l3.getD i16.toNat default).toL.getD (1 : Int).toNat default).toL.getD i17.toNat default).toL.getD (11 : Int).toNat default).toI ≠ ((((l9.getD i16.toNat default).toL.getD (1 : Int).toNat default).toL.getD i17.toNat default).toL.getD (11 : Int).toNat default).toI) ∨ (((((l3.getD i16.toNat default).toL.getD (1 : Int).toNat default).toL.getD i17.toNat default).toL.getD (12 : Int).toNat default).toI ≠ ((((l9.getD i16.toNat default).toL.getD (1 : Int).toNat default).toL.getD i17.toNat default).toL.getD (12 : Int).toNat default).toI))))))))))) →
     cK8.sig.post [.V v0, .L l1, .V v2, .L l3, .V v4, .L l5, .V v6, .L l7, .V v8, .L l9, .V v10, .L l11, .I (-1 : Int)]) ∧ (
 ((((((l3.getD i16.toNat default).toL.getD (1 : Int).toNat default).toL.getD i17.toNat default).toL.getD (0 : Int).toNat default).toI = ((((l9.getD i16.toNat default).toL.getD (1 : Int).toNat default).toL.getD i17.toNat default).toL.getD (0 : Int).toNat default).toI) ∧ ((((((l3.getD i16.toNat default).toL.getD (1 : Int).toNat default).toL.getD i17.toNat default).toL.getD (1 : Int).toNat default).toI = ((((l9.getD i16.toNat default).toL.getD (1 : Int).toNat default).toL.getD i17.toNat default).toL.getD (1 : Int).toNat default).toI) ∧ ((((((l3.getD i16.toNat default).toL.getD (1 : Int).toNat default).toL.getD i17.toNat default).toL.getD (2 : Int).toNat default).toI = ((((l9.getD i16.toNat default).toL.getD (1 : Int).toNat default).toL.getD i17.toNat default).toL.getD (2 : Int).toNat default).toI) ∧ (((((((l3.getD i16.toNat default).toL.getD (1 : Int).toNat default).toL.getD i17.toNat default).toL.getD (3 : Int).toNat default).toB = ((((l9.getD i16.toNat default).toL.getD (1 : Int).toNat default).toL.getD i17.toNat default).toL.getD (3 : Int).toNat default).toB) ∧ (((((l3.getD i16.toNat default).toL.getD (1 : Int).toNat default).toL.getD i17.toNat default).toL.getD (4 : Int).toNat default).toI = ((((l9.getD i16.toNat default).toL.getD (1 : Int).toNat default).toL.getD i17.toNat default).toL.getD (4 : Int).toNat default).toI)) ∧ (((((((l3.getD i16.toNat default).toL.getD (1 : Int).toNat default).toL.getD i17.toNat default).toL.getD (5 : Int).toNat default).toB = ((((l9.getD i16.toNat default).toL.getD (1 : Int).toNat default).toL.getD i17.toNat default).toL.getD (5 : Int).toNat default).toB) ∧ (((((l3.getD i16.toNat default).toL.getD (1 : Int).toNat default).toL.getD i17.toNat default).toL.getD (6 : Int).toNat default).toI = ((((l9.getD i16.toNat default).toL.getD (1 : Int).toNat default).toL.getD i17.toNat default).toL.getD (6 : Int).toNat default).toI)) ∧ ((((((l3.getD i16.toNat default).toL.getD (1 : Int).toNat default).toL.getD i17.toNat default).toL.getD (7 : Int).toNat default).toB = ((((l9.getD i16.toNat default).toL.getD (1 : Int).toNat default).toL.getD i17.toNat default).toL.getD (7 : Int).toNat default).toB) ∧ ((((((l3.getD i16.toNat default).toL.getD (1 : Int).toNat default).toL.getD i17.toNat default).toL.getD (8 : Int).toNat default).toB = ((((l9.getD i16.toNat default).toL.getD (1 : Int).toNat default).toL.getD i17.toNat default).toL.getD (8 : Int).toNat default).toB) ∧ ((((((l3.getD i16.toNat default).toL.getD (1 : Int).toNat default).toL.getD i17.toNat default).toL.getD (9 : Int).toNat default).toI = ((((l9.getD i16.toNat default).toL.getD (1 : Int).toNat default).toL.getD i17.toNat default).toL.getD (9 : Int).toNat default).toI) ∧ ((((((l3.getD i16.toNat default).toL.getD (1 : Int).toNat default).toL.getD i17.toNat default).toL.getD (10 : Int).toNat default).toI = ((((l9.getD i16.toNat default).toL.getD (1 : Int).toNat default).toL.getD i17.toNat default).toL.getD (10 : Int).toNat default).toI) ∧ ((((((l3.getD i16.toNat default).toL.getD (1 : Int).toNat default).toL.getD i17.toNat default).toL.getD (11 : Int).toNat default).toI = ((((l9.getD i16.toNat default).toL.getD (1 : Int).toNat default).toL.getD i17.toNat default).toL.getD (11 : Int).toNat default).toI) ∧ (((((l3.getD i16.toNat default).toL.getD (1 : Int).toNat default).toL.getD i17.toNat default).toL.getD (12 : Int).toNat default).toI = ((((l9.getD i16.toNat default).toL.getD (1 : Int).toNat default).toL.getD i17.toNat default).toL.getD (12 : Int).toNat default).toI))))))))))) →
     Bk cK8.I3 cK8.I3M [.V v0, .L l1, .V v2, .L l3, .V v4, .L l5, .V v6, .L l7, .V v8, .L l9, .V v10, .L l11, .I i16, .I (wrap .i64 (i17 + 1))] [.V v0, .L l1, .V v2, .L l3, .V v4, .L l5, .V v6, .L l7, .V v8, .L l9, .V v10, .L l11, .I i16, .I i17]))))) ∧ (
 ((((l3.getD i16.toNat default).toL.getD (1 : Int).toNat default).toL.length : Int) ≤ i17) →
     Bk cK8.I2 cK8.I2M [.V v0, .L l1, .V v2, .L l3, .V v4, .L l5, .V v6, .L l7, .V v8, .L l9, .V v10, .L l11, .I (wrap .i64 (i16 + 1))] [.V v0, .L l1, .V v2, .L l3, .V v4, .L l5, .V v6, .L l7, .V v8, .L l9, .V v10, .L l11, .I i16])))))))) ∧ (
 ((l3.length : Int) ≤ i16) →
    cK8.sig.post [.V v0, .L l1, .V v2, .L l3, .V v4, .L l5, .V v6, .L l7, .V v8, .L l9, .V v10, .L l11, .I 0])))))))))))))))
def cL3.Pure : Prop :=
 ∀ i0 : Int,
 U64 i0 →
 cL3.sig.pre [.I i0] →
 cL3.I0 [.I i0, .I i0, .S (⟨#[]⟩ : BA), .I 0] ∧ (
 ∀ i1 : Int,
 ∀ s2 : BA,
 ∀ i3 : Int,
 U64 i1 →
 ((s2.size : Int) ≤ 9223372036854775807) →
 R64 i3 →
 cL3.I0 [.I i0, .I i1, .S s2, .I i3] →
 ((
 (i3 < 16) →
 Im ((Int.tmod i1 16) ≤ (wrap .u64 ((Int.tmod i1 16) + 1))) (
 Im (0 ≤ (Int.tmod i1 16)) (
 Im ((wrap .u64 ((Int.tmod i1 16) + 1)) ≤ ((⟨#[48, 49, 50, 51, 52, 53, 54, 55, 56, 57, 97, 98, 99, 100, 101, 102]⟩ : BA).size : Int)) (
 Im (((((⟨#[48, 49, 50, 51, 52, 53, 54, 55, 56, 57, 97, 98, 99, 100, 101, 102]⟩ : BA).extract (Int.tmod i1 (16 : Int)).toNat (wrap .u64 ((Int.tmod i1 (16 : Int)) + (1 : Int))).toNat) ++ s2).size : Int) ≤ (9223372036854775807 : Int)) (
  Bk cL3.I0 cL3.I0M [.I i0, .I (wrap .u64 (Int.tdiv i1 16)), .S (((⟨#[48, 49, 50, 51, 52, 53, 54, 55, 56, 57, 97, 98, 99, 100, 101, 102]⟩ : BA).extract (Int.tmod i1 16).toNat (wrap .u64 ((Int.tmod i1 16) + 1)).toNat) ++ s2), .I (wrap .i64 (i3 + 1))] [.I i0, .I i1, .S s2, .I i3]))))) ∧ (
 (16 ≤ i3) →
  cL3.sig.post [.I i0, .S s2])))
def gJ.Pure : Prop :=
 ∀ l0 : LD,
 (EK.ok [.sl [.str]] (D.L l0)) →
 (gJ.sig 0).pre [.L l0] →
 (dN.sig 0).pre [.S (⟨#[105, 110, 105, 116, 32, 120, 61, 49, 32, 10, 32, 116, 104, 114, 101, 97, 100, 32, 10, 32, 115, 116, 111, 114, 101, 32, 121, 32, 49, 32, 114, 101, 108, 32, 10, 32, 116, 104, 114, 101, 97, 100, 32, 10, 32, 108, 111, 97, 100, 32, 114, 48, 32, 121, 32, 97, 99, 113, 32, 10, 32, 97, 115, 107, 32, 49, 58, 114, 48, 61, 49, 32, 120, 61, 49]⟩ : BA), .L l0] ∧ (
 ∀ v1 : Value,
 ∀ l2 : LD,
 ∀ v3 : Value,
 ∀ l4 : LD,
 ∀ v5 : Value,
 ∀ l6 : LD,
 ∀ i7 i8 : Int,
 (dN.sig 0).post [.S (⟨#[105, 110, 105, 116, 32, 120, 61, 49, 32, 10, 32, 116, 104, 114, 101, 97, 100, 32, 10, 32, 115, 116, 111, 114, 101, 32, 121, 32, 49, 32, 114, 101, 108, 32, 10, 32, 116, 104, 114, 101, 97, 100, 32, 10, 32, 108, 111, 97, 100, 32, 114, 48, 32, 121, 32, 97, 99, 113, 32, 10, 32, 97, 115, 107, 32, 49, 58, 114, 48, 61, 49, 32, 120, 61, 49]⟩ : BA), .L l0, .V v1, .L l2, .V v3, .L l4, .V v5, .L l6, .I i7, .I i8] →
 R64 i7 →
 R64 i8 →
 (EK.ok [.str, .int .u64] (D.L l2)) →
 (EK.ok [.sl [.int .i64, .int .i64, .int .i64, .bool, .int .u64, .bool, .int .u64, .bool, .bool, .int .i64, .int .i64, .int .i64, .int .i64]] (D.L l4)) →
 (EK.ok [.int .i64, .int .i64, .int .u64] (D.L l6)) →
 ∀ v9 v10 v11 : Value,
 ∀ n12 : Nat,
 (dN.sig 0).pre [.S (⟨#[116, 104, 114, 101, 97, 100, 10, 108, 111, 97, 100, 32, 114, 56, 32, 120]⟩ : BA), .L l0] ∧ (
 ∀ v13 : Value,
 ∀ l14 : LD,
 ∀ v15 : Value,
 ∀ l16 : LD,
 ∀ v17 : Value,
 ∀ l18 : LD,
 ∀ i19 i20 : Int,
 (dN.sig 0).post [.S (⟨#[116, 104, 114, 101, 97, 100, 10, 108, 111, 97, 100, 32, 114, 56, 32, 120]⟩ : BA), .L l0, .V v13, .L l14, .V v15, .L l16, .V v17, .L l18, .I i19, .I i20] →
 R64 i19 →
 R64 i20 →
 (EK.ok [.str, .int .u64] (D.L l14)) →
 (EK.ok [.sl [.int .i64, .int .i64, .int .i64, .bool, .int .u64, .bool, .int .u64, .bool, .bool, .int .i64, .int .i64, .int .i64, .int .i64]] (D.L l16)) →
 (EK.ok [.int .i64, .int .i64, .int .u64] (D.L l18)) →
 ∀ v21 v22 v23 : Value,
 ∀ n24 : Nat,
 ((
 (i8 = 0) →
 ((
 ((l2.length : Int) = (2 : Int)) →
 Im (0 < (l2.length : Int)) (
 ((
 ((((l2.getD (0 : Int).toNat default).toL.getD (0 : Int).toNat default).toS = (⟨#[120]⟩ : BA)) ∧ (((l2.getD (0 : Int).toNat default).toL.getD (1 : Int).toNat default).toI = 1)) →
 ((
 ((l4.length : Int) = (2 : Int)) →
 Im (0 < (l4.length : Int)) (
 Im (0 < (((l4.getD (0 : Int).toNat default).toL.getD (1 : Int).toNat default).toL.length : Int)) (
 ((
 (((((l4.getD (0 : Int).toNat default).toL.getD (1 : Int).toNat default).toL.getD (0 : Int).toNat default).toL.getD (8 : Int).toNat default).toB = true) →
 ((
 ((l6.length : Int) = (2 : Int)) →
 ((
 (i20 = 11) →
 (gJ.sig 0).post [.L l0, .B (i19 == 2)]) ∧ (
 (i20 ≠ 11) →
 (gJ.sig 0).post [.L l0, .B false]))) ∧ (
 ((l6.length : Int) ≠ (2 : Int)) →
 (gJ.sig 0).post [.L l0, .B false]))) ∧ (
 (((((l4.getD (0 : Int).toNat default).toL.getD (1 : Int).toNat default).toL.getD (0 : Int).toNat default).toL.getD (8 : Int).toNat default).toB = false) →
 (gJ.sig 0).post [.L l0, .B false]))))) ∧ (
 ((l4.length : Int) ≠ (2 : Int)) →
 (gJ.sig 0).post [.L l0, .B false]))) ∧ (
 ((((l2.getD (0 : Int).toNat default).toL.getD (0 : Int).toNat default).toS ≠ (⟨#[120]⟩ : BA)) ∨ (((l2.getD (0 : Int).toNat default).toL.getD (1 : Int).toNat default).toI ≠ 1)) →
 (gJ.sig 0).post [.L l0, .B false])))) ∧ (
 ((l2.length : Int) ≠ (2 : Int)) →
 (gJ.sig 0).post [.L l0, .B false]))) ∧ (
 (i8 ≠ 0) →
 (gJ.sig 0).post [.L l0, .B false]))))
def kR.Pure : Prop :=
 ∀ s0 : BA,
 ∀ l1 : LD,
 ((s0.size : Int) ≤ 9223372036854775807) →
 (EK.ok [.sl [.str]] (D.L l1)) →
 (kR.sig 0).pre [.S s0, .L l1] →
 nO.sig.pre [.S s0, .I 1000] ∧ (
 ∀ s2 : BA,
 nO.sig.post [.S s0, .I 1000, .S s2] →
 ((s2.size : Int) ≤ 9223372036854775807) →
 (dN.sig 0).pre [.S s2, .L l1] ∧ (
 ∀ v3 : Value,
 ∀ l4 : LD,
 ∀ v5 : Value,
 ∀ l6 : LD,
 ∀ v7 : Value,
 ∀ l8 : LD,
 ∀ i9 i10 : Int,
 (dN.sig 0).post [.S s2, .L l1, .V v3, .L l4, .V v5, .L l6, .V v7, .L l8, .I i9, .I i10] →
 R64 i9 →
 R64 i10 →
 (EK.ok [.str, .int .u64] (D.L l4)) →
 (EK.ok [.sl [.int .i64, .int .i64, .int .i64, .bool, .int .u64, .bool, .int .u64, .bool, .bool, .int .i64, .int .i64, .int .i64, .int .i64]] (D.L l6)) →
 (EK.ok [.int .i64, .int .i64, .int .u64] (D.L l8)) →
 ∀ v11 v12 v13 : Value,
 ∀ n14 : Nat,
 ((
 (i10 ≠ 0) →
 (gJ.sig 0).pre [.L l1] ∧ (
 ∀ b15 : Bool,
 (gJ.sig 0).post [.L l1, .B b15] →
 ((
 (b15 = true) →
 ((
 ((l4.length : Int) = (0 : Int)) →
 ((
 ((l6.length : Int) = (0 : Int)) →
 ((
 ((l8.length : Int) = (0 : Int)) →
 (kR.sig 0).post [.S s0, .L l1, .B (decide (0 ≤ i9))]) ∧ (
 ((l8.length : Int) ≠ (0 : Int)) →
 (kR.sig 0).post [.S s0, .L l1, .B false]))) ∧ (
 ((l6.length : Int) ≠ (0 : Int)) →
 (kR.sig 0).post [.S s0, .L l1, .B false]))) ∧ (
 ((l4.length : Int) ≠ (0 : Int)) →
 (kR.sig 0).post [.S s0, .L l1, .B false]))) ∧ (
 (b15 = false) →
 (kR.sig 0).post [.S s0, .L l1, .B false])))) ∧ (
 (i10 = 0) →
 (gJ.sig 0).pre [.L l1] ∧ (
 ∀ b15 : Bool,
 (gJ.sig 0).post [.L l1, .B b15] →
 ((
 (b15 = true) →
 ((
 (i9 = 0) →
  aQ.sig.pre [.N n14, .V v3, .L l4, .V v5, .L l6, .V v7, .L l8] ∧ (
 ∀ i16 : Int,
  aQ.sig.post [.N n14, .V v3, .L l4, .V v5, .L l6, .V v7, .L l8, .I i16] →
 R64 i16 →
 (kR.sig 0).post [.S s0, .L l1, .B (i16 == 0)])) ∧ (
 (i9 ≠ 0) →
 (kR.sig 0).post [.S s0, .L l1, .B false]))) ∧ (
 (b15 = false) →
 (kR.sig 0).post [.S s0, .L l1, .B false])))))))
def cL0.Pure : Prop :=
 ∀ s0 s1 : BA,
 ∀ l2 : LD,
 ((s0.size : Int) ≤ 9223372036854775807) →
 ((s1.size : Int) ≤ 9223372036854775807) →
 (EK.ok [.sl [.str]] (D.L l2)) →
 (cL0.sig 0).pre [.S s0, .S s1, .L l2] →
 nO.sig.pre [.S s0, .I 500] ∧ (
 ∀ s3 : BA,
 nO.sig.post [.S s0, .I 500, .S s3] →
 ((s3.size : Int) ≤ 9223372036854775807) →
 nO.sig.pre [.S s1, .I 20] ∧ (
 ∀ s4 : BA,
 nO.sig.post [.S s1, .I 20, .S s4] →
 ((s4.size : Int) ≤ 9223372036854775807) →
 (dN.sig 0).pre [.S s3, .L l2] ∧ (
 ∀ v5 : Value,
 ∀ l6 : LD,
 ∀ v7 : Value,
 ∀ l8 : LD,
 ∀ v9 : Value,
 ∀ l10 : LD,
 ∀ i11 i12 : Int,
 (dN.sig 0).post [.S s3, .L l2, .V v5, .L l6, .V v7, .L l8, .V v9, .L l10, .I i11, .I i12] →
 R64 i11 →
 R64 i12 →
 (EK.ok [.str, .int .u64] (D.L l6)) →
 (EK.ok [.sl [.int .i64, .int .i64, .int .i64, .bool, .int .u64, .bool, .int .u64, .bool, .bool, .int .i64, .int .i64, .int .i64, .int .i64]] (D.L l8)) →
 (EK.ok [.int .i64, .int .i64, .int .u64] (D.L l10)) →
 ∀ v13 v14 v15 : Value,
 ∀ n16 : Nat,
 cL0.I0 [.S s0, .S s1, .L l2, .I 0] ∧ (
 ∀ i17 : Int,
 R64 i17 →
 cL0.I0 [.S s0, .S s1, .L l2, .I i17] →
 ((
 (i17 < (s4.size : Int)) →
 Im (0 ≤ i17) (
 ((
 ((byteAt s4 i17) = 10) →
 (gJ.sig 0).pre [.L l2] ∧ (
 ∀ b18 : Bool,
 (gJ.sig 0).post [.L l2, .B b18] →
 (cL0.sig 0).post [.S s0, .S s1, .L l2, .B b18])) ∧ (
 ((byteAt s4 i17) ≠ 10) →
   Bk cL0.I0 cL0.I0M [.S s0, .S s1, .L l2, .I (wrap .i64 (i17 + 1))] [.S s0, .S s1, .L l2, .I i17])))) ∧ (
 ((s4.size : Int) ≤ i17) →
 ((
 (i12 ≠ 0) →
 (gJ.sig 0).pre [.L l2] ∧ (
 ∀ b18 : Bool,
 (gJ.sig 0).post [.L l2, .B b18] →
 (cL0.sig 0).post [.S s0, .S s1, .L l2, .B b18])) ∧ (
 (i12 = 0) →
  cL0.I1 [.S s0, .S s1, .L l2, .S (⟨#[]⟩ : BA), .I 0] ∧ (
 ∀ s18 : BA,
 ∀ i19 : Int,
 ((s18.size : Int) ≤ 9223372036854775807) →
 R64 i19 →
  cL0.I1 [.S s0, .S s1, .L l2, .S s18, .I i19] →
 ((
 (i19 < (s3.size : Int)) →
 Im (0 ≤ i19) (
 ((
 ((byteAt s3 i19) = 10) →
 Im ((((⟨#[32, 35]⟩ : BA) ++ s4).size : Int) ≤ (9223372036854775807 : Int)) (
 Im (((s18 ++ ((⟨#[32, 35]⟩ : BA) ++ s4)).size : Int) ≤ (9223372036854775807 : Int)) (
 ((
 ((byteAt s3 i19) ≠ 13) →
 Im (i19 ≤ (wrap .i64 (i19 + 1))) (
 Im ((wrap .i64 (i19 + 1)) ≤ (s3.size : Int)) (
 Im ((((s18 ++ ((⟨#[32, 35]⟩ : BA) ++ s4)) ++ (s3.extract i19.toNat (wrap .i64 (i19 + (1 : Int))).toNat)).size : Int) ≤ (9223372036854775807 : Int)) (
      Bk cL0.I1 cL0.I1M [.S s0, .S s1, .L l2, .S ((s18 ++ ((⟨#[32, 35]⟩ : BA) ++ s4)) ++ (s3.extract i19.toNat (wrap .i64 (i19 + 1)).toNat)), .I (wrap .i64 (i19 + 1))] [.S s0, .S s1, .L l2, .S s18, .I i19])))) ∧ (
 ((byteAt s3 i19) = 13) →
   Bk cL0.I1 cL0.I1M [.S s0, .S s1, .L l2, .S (s18 ++ ((⟨#[32, 35]⟩ : BA) ++ s4)), .I (wrap .i64 (i19 + 1))] [.S s0, .S s1, .L l2, .S s18, .I i19]))))) ∧ (
 ((byteAt s3 i19) ≠ 10) →
 ((
 ((byteAt s3 i19) ≠ 13) →
 Im (i19 ≤ (wrap .i64 (i19 + 1))) (
 Im ((wrap .i64 (i19 + 1)) ≤ (s3.size : Int)) (
 Im (((s18 ++ (s3.extract i19.toNat (wrap .i64 (i19 + (1 : Int))).toNat)).size : Int) ≤ (9223372036854775807 : Int)) (
      Bk cL0.I1 cL0.I1M [.S s0, .S s1, .L l2, .S (s18 ++ (s3.extract i19.toNat (wrap .i64 (i19 + 1)).toNat)), .I (wrap .i64 (i19 + 1))] [.S s0, .S s1, .L l2, .S s18, .I i19])))) ∧ (
 ((byteAt s3 i19) = 13) →
   Bk cL0.I1 cL0.I1M [.S s0, .S s1, .L l2, .S s18, .I (wrap .i64 (i19 + 1))] [.S s0, .S s1, .L l2, .S s18, .I i19])))))) ∧ (
 ((s3.size : Int) ≤ i19) →
 ((
 (1998 < (s18.size : Int)) →
 (gJ.sig 0).pre [.L l2] ∧ (
 ∀ b20 : Bool,
 (gJ.sig 0).post [.L l2, .B b20] →
 (cL0.sig 0).post [.S s0, .S s1, .L l2, .B b20])) ∧ (
 ((s18.size : Int) ≤ (1998 : Int)) →
 Im (((s18 ++ (⟨#[32, 35]⟩ : BA)).size : Int) ≤ (9223372036854775807 : Int)) (
 (dN.sig 0).pre [.S (s18 ++ (⟨#[32, 35]⟩ : BA)), .L l2] ∧ (
 ∀ v20 : Value,
 ∀ l21 : LD,
 ∀ v22 : Value,
 ∀ l23 : LD,
 ∀ v24 : Value,
 ∀ l25 : LD,
 ∀ i26 i27 : Int,
 (dN.sig 0).post [.S (s18 ++ (⟨#[32, 35]⟩ : BA)), .L l2, .V v20, .L l21, .V v22, .L l23, .V v24, .L l25, .I i26, .I i27] →
 R64 i26 →
 R64 i27 →
 (EK.ok [.str, .int .u64] (D.L l21)) →
 (EK.ok [.sl [.int .i64, .int .i64, .int .i64, .bool, .int .u64, .bool, .int .u64, .bool, .bool, .int .i64, .int .i64, .int .i64, .int .i64]] (D.L l23)) →
 (EK.ok [.int .i64, .int .i64, .int .u64] (D.L l25)) →
 ∀ v28 v29 v30 : Value,
 ∀ n31 : Nat,
 (gJ.sig 0).pre [.L l2] ∧ (
 ∀ b32 : Bool,
 (gJ.sig 0).post [.L l2, .B b32] →
 ((
 (b32 = true) →
 ((
 (i27 = 0) →
 ((
 (i11 = 0) →
 ((
 (i26 = 0) →
     cK9.sig.pre [.V v5, .L l6, .V v7, .L l8, .V v9, .L l10] ∧ (
 ∀ v33 : Value,
 ∀ l34 : LD,
 ∀ v35 : Value,
 ∀ l36 : LD,
 ∀ v37 : Value,
 ∀ l38 : LD,
     cK9.sig.post [.V v5, .L l6, .V v7, .L l8, .V v9, .L l10, .V v33, .L l34, .V v35, .L l36, .V v37, .L l38] →
 (EK.ok [.str, .int .u64] (D.L l34)) →
 (EK.ok [.sl [.int .i64, .int .i64, .int .i64, .bool, .int .u64, .bool, .int .u64, .bool, .bool, .int .i64, .int .i64, .int .i64, .int .i64]] (D.L l36)) →
 (EK.ok [.int .i64, .int .i64, .int .u64] (D.L l38)) →
     cK9.sig.pre [.V v20, .L l21, .V v22, .L l23, .V v24, .L l25] ∧ (
 ∀ v39 : Value,
 ∀ l40 : LD,
 ∀ v41 : Value,
 ∀ l42 : LD,
 ∀ v43 : Value,
 ∀ l44 : LD,
     cK9.sig.post [.V v20, .L l21, .V v22, .L l23, .V v24, .L l25, .V v39, .L l40, .V v41, .L l42, .V v43, .L l44] →
 (EK.ok [.str, .int .u64] (D.L l40)) →
 (EK.ok [.sl [.int .i64, .int .i64, .int .i64, .bool, .int .u64, .bool, .int .u64, .bool, .bool, .int .i64, .int .i64, .int .i64, .int .i64]] (D.L l42)) →
 (EK.ok [.int .i64, .int .i64, .int .u64] (D.L l44)) →
     cK8.sig.pre [.V v33, .L l34, .V v35, .L l36, .V v37, .L l38, .V v39, .L l40, .V v41, .L l42, .V v43, .L l44] ∧ (
 ∀ i45 : Int,
     cK8.sig.post [.V v33, .L l34, .V v35, .L l36, .V v37, .L l38, .V v39, .L l40, .V v41, .L l42, .V v43, .L l44, .I i45] →
 R64 i45 →
 (cL0.sig 0).post [.S s0, .S s1, .L l2, .B (i45 == 0)])))) ∧ (
 (i26 ≠ 0) →
 (cL0.sig 0).post [.S s0, .S s1, .L l2, .B false]))) ∧ (
 (i11 ≠ 0) →
 (cL0.sig 0).post [.S s0, .S s1, .L l2, .B false]))) ∧ (
 (i27 ≠ 0) →
 (cL0.sig 0).post [.S s0, .S s1, .L l2, .B false]))) ∧ (
 (b32 = false) →
 (cL0.sig 0).post [.S s0, .S s1, .L l2, .B false]))))))))))))))))))
def cL1.Pure : Prop :=
 ∀ i0 i1 : Int,
 ∀ l2 : LD,
 U64 i0 →
 R64 i1 →
 (EK.ok [.sl [.str]] (D.L l2)) →
 (cL1.sig 0).pre [.I i0, .I i1, .L l2] →
 ((
 (i1 < 1) →
 (gJ.sig 0).pre [.L l2] ∧ (
 ∀ b3 : Bool,
 (gJ.sig 0).post [.L l2, .B b3] →
 (cL1.sig 0).post [.I i0, .I i1, .L l2, .B b3])) ∧ (
 (1 ≤ i1) →
 ((
 (4 < i1) →
 (gJ.sig 0).pre [.L l2] ∧ (
 ∀ b3 : Bool,
 (gJ.sig 0).post [.L l2, .B b3] →
 (cL1.sig 0).post [.I i0, .I i1, .L l2, .B b3])) ∧ (
 (i1 ≤ 4) →
  cL3.sig.pre [.I i0] ∧ (
 ∀ s3 : BA,
  cL3.sig.post [.I i0, .S s3] →
 ((s3.size : Int) ≤ 9223372036854775807) →
 Im ((((⟨#[105, 110, 105, 116, 32, 98, 61, 48, 120]⟩ : BA) ++ s3).size : Int) ≤ (9223372036854775807 : Int)) (
 Im (((((⟨#[105, 110, 105, 116, 32, 98, 61, 48, 120]⟩ : BA) ++ s3) ++ (⟨#[10]⟩ : BA)).size : Int) ≤ (9223372036854775807 : Int)) (
  cL1.I0 [.I i0, .I i1, .L l2, .S (((⟨#[105, 110, 105, 116, 32, 98, 61, 48, 120]⟩ : BA) ++ s3) ++ (⟨#[10]⟩ : BA)), .I 0] ∧ (
 ∀ s4 : BA,
 ∀ i5 : Int,
 ((s4.size : Int) ≤ 9223372036854775807) →
 R64 i5 →
  cL1.I0 [.I i0, .I i1, .L l2, .S s4, .I i5] →
 ((
 (i5 < i1) →
 Im (((s4 ++ (⟨#[116, 104, 114, 101, 97, 100, 10, 115, 116, 111, 114, 101, 32, 97, 32, 49, 10, 108, 111, 97, 100, 32, 114, 51, 32, 98, 10]⟩ : BA)).size : Int) ≤ (9223372036854775807 : Int)) (
  Bk cL1.I0 cL1.I0M [.I i0, .I i1, .L l2, .S (s4 ++ (⟨#[116, 104, 114, 101, 97, 100, 10, 115, 116, 111, 114, 101, 32, 97, 32, 49, 10, 108, 111, 97, 100, 32, 114, 51, 32, 98, 10]⟩ : BA)), .I (wrap .i64 (i5 + 1))] [.I i0, .I i1, .L l2, .S s4, .I i5])) ∧ (
 (i1 ≤ i5) →
 (dN.sig 0).pre [.S s4, .L l2] ∧ (
 ∀ v6 : Value,
 ∀ l7 : LD,
 ∀ v8 : Value,
 ∀ l9 : LD,
 ∀ v10 : Value,
 ∀ l11 : LD,
 ∀ i12 i13 : Int,
 (dN.sig 0).post [.S s4, .L l2, .V v6, .L l7, .V v8, .L l9, .V v10, .L l11, .I i12, .I i13] →
 R64 i12 →
 R64 i13 →
 (EK.ok [.str, .int .u64] (D.L l7)) →
 (EK.ok [.sl [.int .i64, .int .i64, .int .i64, .bool, .int .u64, .bool, .int .u64, .bool, .bool, .int .i64, .int .i64, .int .i64, .int .i64]] (D.L l9)) →
 (EK.ok [.int .i64, .int .i64, .int .u64] (D.L l11)) →
 ∀ v14 v15 v16 : Value,
 ∀ n17 : Nat,
 ((
 (i13 ≠ 0) →
 (cL1.sig 0).post [.I i0, .I i1, .L l2, .B false]) ∧ (
 (i13 = 0) →
 (gJ.sig 0).pre [.L l2] ∧ (
 ∀ b18 : Bool,
 (gJ.sig 0).post [.L l2, .B b18] →
 ((
 (b18 = true) →
 ((
 ((l9.length : Int) = i1) →
 ((
 ((l7.length : Int) = (2 : Int)) →
 Im (0 < (l7.length : Int)) (
 ((
 (((l7.getD (0 : Int).toNat default).toL.getD (0 : Int).toNat default).toS = (⟨#[97]⟩ : BA)) →
 ((
 (((l7.getD (0 : Int).toNat default).toL.getD (1 : Int).toNat default).toI = 0) →
 Im (1 < (l7.length : Int)) (
 ((
 (((l7.getD (1 : Int).toNat default).toL.getD (0 : Int).toNat default).toS = (⟨#[98]⟩ : BA)) →
 (cL1.sig 0).post [.I i0, .I i1, .L l2, .B (((l7.getD (1 : Int).toNat default).toL.getD (1 : Int).toNat default).toI == i0)]) ∧ (
 (((l7.getD (1 : Int).toNat default).toL.getD (0 : Int).toNat default).toS ≠ (⟨#[98]⟩ : BA)) →
 (cL1.sig 0).post [.I i0, .I i1, .L l2, .B false])))) ∧ (
 (((l7.getD (0 : Int).toNat default).toL.getD (1 : Int).toNat default).toI ≠ 0) →
 (cL1.sig 0).post [.I i0, .I i1, .L l2, .B false]))) ∧ (
 (((l7.getD (0 : Int).toNat default).toL.getD (0 : Int).toNat default).toS ≠ (⟨#[97]⟩ : BA)) →
 (cL1.sig 0).post [.I i0, .I i1, .L l2, .B false])))) ∧ (
 ((l7.length : Int) ≠ (2 : Int)) →
 (cL1.sig 0).post [.I i0, .I i1, .L l2, .B false]))) ∧ (
 ((l9.length : Int) ≠ i1) →
 (cL1.sig 0).post [.I i0, .I i1, .L l2, .B false]))) ∧ (
 (b18 = false) →
 (cL1.sig 0).post [.I i0, .I i1, .L l2, .B false]))))))))))))))))
end Go.Vc
namespace Go.Vc
set_option linter.unusedSimpArgs false
set_option maxRecDepth 10000
def awA : Lt.Test := ⟨[([120], 1), ([121], 0)], [[{ Lt.Ins.zero with op := 10, loc := 1, an := 1, rel := true }], [{ Lt.Ins.zero with op := 9, loc := 1, acq := true }]], [(1, 0, 1), (-1, 0, 1)]⟩
theorem aw_1 : Lt.parse (tx ⟨#[105, 110, 105, 116, 32, 120, 61, 49, 32, 10, 32, 116, 104, 114, 101, 97, 100, 32, 10, 32, 115, 116, 111, 114, 101, 32, 121, 32, 49, 32, 114, 101, 108, 32, 10, 32, 116, 104, 114, 101, 97, 100, 32, 10, 32, 108, 111, 97, 100, 32, 114, 48, 32, 121, 32, 97, 99, 113, 32, 10, 32, 97, 115, 107, 32, 49, 58, 114, 48, 61, 49, 32, 120, 61, 49]⟩) = (awA, 0, 0) := by kernel_rfl
theorem aw_2 : Lt.parse (tx ⟨#[116, 104, 114, 101, 97, 100, 10, 108, 111, 97, 100, 32, 114, 56, 32, 120]⟩) = (Lt.Test.zero, 2, 11) := by kernel_rfl
theorem gJ.pure : gJ.Pure := by
 intro l0 _ hp
 refine ⟨hp, fun v1 l2 v3 l4 v5 l6 i7 i8 hA _ _ _ _ _ v9 v10 v11 n12 => ⟨hp, fun v13 l14 v15 l16 v17 l18 i19 i20 hB _ _ _ _ _ v21 v22 v23 n24 => ?_⟩⟩
 obtain ⟨a1, a2, a3, a4, a5⟩ := hA
 obtain ⟨b1, b2, b3, b4, b5⟩ := hB
 simp only [arg_z, arg_s, D.toL_L, D.toI_I, D.toS_S, aw_1] at a1 a2 a3 a4 a5
 simp only [arg_z, arg_s, D.toL_L, D.toI_I, D.toS_S, aw_2] at b4 b5
 obtain ⟨c1, c2⟩ := pO a2
 have c3 := c2 0 (by decide)
 have c4 : ((((l4.getD 0 default).toL.getD 1 default).toL.getD 0 default).toL.getD 8 default).toB = true := by rw [c3]; rfl
 have c5 : ((l4.getD 0 default).toL.getD 1 default).toL.length = 1 := by rw [c3]; rfl
 have c6 : l4.length = 2 := c1
 have c7 : l2.length = 2 := by rw [a1]; rfl
 have c8 : l6.length = 2 := by rw [a3]; rfl
 have c9 : ((l2.getD 0 default).toL.getD 0 default).toS = ⟨#[120]⟩ ∧ ((l2.getD 0 default).toL.getD 1 default).toI = 1 := by rw [a1]; exact ⟨rfl, rfl⟩
 clear a1 a2 a3 c1 c2 c3 b1 b2 b3
 simp only [Int.toNat_zero, Int.toNat_one, show (8 : Int).toNat = 8 from rfl, c4, c5, c6, c7, c8, c9, a4, a5, b4, b5]
 repeat' first | omega | refine And.intro ?_ ?_ | intro _
 all_goals first | rfl | simp_all
theorem bO8 : ∀ {L : List (Nat × List Lx.Tok)} {d : Lt.bI} {n : Nat} {e : Int}, Lt.jQ d L = .error (n, e) → e ≠ 0
 | [], _, _, _, h => by cases h
 | l :: L, d, n, e, h => by
  rw [Lt.jQ] at h
  simp only at h
  split at h
  ·rename_i h1; cases h; exact h1
  ·exact bO8 h
theorem cE1 (s : Tx) : ((Lt.parse s).2.2 ≠ 0 → (Lt.parse s).1 = Lt.Test.zero ∧ 0 ≤ (Lt.parse s).2.1) ∧ ((Lt.parse s).2.2 = 0 → (Lt.parse s).2.1 = 0 ∧ Lt.check (Lt.parse s).1 = 0) := by
 unfold Lt.parse
 simp only
 split
 ·rename_i h
  exact ⟨fun _ => ⟨rfl, by simp⟩, fun h' => absurd h' (by simp only; omega)⟩
 ·split
  ·rename_i n e h
   have := bO8 h
   exact ⟨fun _ => ⟨rfl, by simp⟩, fun h' => absurd h' this⟩
  ·split
   ·rename_i h; exact ⟨fun _ => ⟨rfl, by simp⟩, fun h' => absurd h' h⟩
   ·rename_i h; exact ⟨fun h' => absurd rfl h', fun _ => ⟨rfl, by simpa using h⟩⟩
theorem bG7 {g : FuncId} {l1 : LD} {b : Bool} (h : (gJ.sig g).post [.L l1, .B b]) : b = true := by
 have h : [D.L l1, D.B b].getLast? = some (.B true) := h
 simpa using h
theorem kR.pure : kR.Pure := by
 intro s0 l1 _ _ hp
 refine ⟨by show (0 : Int) ≤ 1000; omega, fun s2 _ _ => ⟨hp, fun v3 l4 v5 l6 v7 l8 i9 i10 hP _ _ _ _ _ v11 v12 v13 n14 => ?_⟩⟩
 obtain ⟨a1, a2, a3, a4, a5⟩ := hP
 simp only [arg_z, arg_s, D.toL_L, D.toI_I, D.toS_S] at a1 a2 a3 a4 a5
 obtain ⟨g1, g2⟩ := cE1 (tx s2)
 generalize Lt.parse (tx s2) = p at *
 refine ⟨fun h => ⟨hp, fun b15 hb => ?_⟩, fun h => ⟨hp, fun b15 hb => ?_⟩⟩
 ·obtain ⟨e1, e2⟩ := g1 (by omega)
  have hb := bG7 hb
  rw [e1] at a1 a2 a3
  have c1 : l4 = [] := a1
  have c2 := (pO a2).1
  have c2 : l6.length = 0 := c2
  have c3 : l8 = [] := a3
  have e3 : decide (0 ≤ i9) = true := by simp; omega
  subst hb c1 c3
  rw [e3]
  repeat' first | refine And.intro ?_ ?_ | intro _
  all_goals first | rfl | simp_all
 ·obtain ⟨e1, e2⟩ := g2 (by omega)
  have hb := bG7 hb
  subst hb
  refine ⟨fun _ => ⟨fun _ => ⟨⟨p.1, a1, a2, a3⟩, fun i16 hC _ => ?_⟩, fun h9 => absurd (a4.trans e1) h9⟩, fun h => absurd h (by simp)⟩
  have hC : i16 = Lt.check p.1 := hC p.1 ⟨a1, a2, a3⟩
  rw [hC, e2]; rfl
end Go.Vc
namespace Go.Vc
set_option linter.unusedSimpArgs false
theorem cP6 : ∀ n : Nat, n < 16 → (⟨#[48, 49, 50, 51, 52, 53, 54, 55, 56, 57, 97, 98, 99, 100, 101, 102]⟩ : BA).extract n (n + 1) = ⟨#[Lt.dig n]⟩ := by decide
theorem cL9 (a b : BA) : tx (a ++ b) = tx a ++ tx b := by simp [tx, ByteArray.data_append]
theorem cP2 {i : Int} (h0 : 0 ≤ i) (h1 : i < 18446744073709551616) : wrap .u64 i = i := by simp [wrap, IntKind.bits, IntKind.signed]; omega
theorem cL7 {i : Int} (h0 : -9223372036854775808 ≤ i) (h1 : i < 9223372036854775808) : wrap .i64 i = i := by simp [wrap, IntKind.bits, IntKind.signed]; omega
theorem cL3.pure : cL3.Pure := by
 intro i0 h0 _
 refine ⟨⟨by show (0 : Int) ≤ 0; omega, by show (0 : Int) ≤ 16; omega, rfl, by show Lt.hexOf 16 i0.toNat = Lt.hexOf 16 i0.toNat ++ []; simp⟩, fun i1 s2 i3 h1 h2 h3 hI => ?_⟩
 obtain ⟨a1, a2, a3, a4⟩ := hI
 simp only [arg_z, arg_s, D.toI_I, D.toS_S] at a1 a2 a3 a4
 have e1 : Int.tmod i1 16 = ((i1.toNat % 16 : Nat) : Int) := by rw [Int.tmod_eq_emod_of_nonneg h1.1]; omega
 have e2 : Int.tdiv i1 16 = ((i1.toNat / 16 : Nat) : Int) := by rw [Int.tdiv_eq_ediv_of_nonneg h1.1]; omega
 have e3 : wrap .u64 (((i1.toNat % 16 : Nat) : Int) + 1) = ((i1.toNat % 16 + 1 : Nat) : Int) := by rw [cP2 (by omega) (by omega)]; omega
 have e4 : wrap .u64 ((i1.toNat / 16 : Nat) : Int) = ((i1.toNat / 16 : Nat) : Int) := cP2 (by omega) (by omega)
 have e5 := cP6 (i1.toNat % 16) (by omega)
 have e6 : ((⟨#[48, 49, 50, 51, 52, 53, 54, 55, 56, 57, 97, 98, 99, 100, 101, 102]⟩ : BA).size : Int) = 16 := rfl
 simp only [e1, e2, e3, e4, Int.toNat_natCast, e5, e6]
 have e7 : ((⟨#[Lt.dig (i1.toNat % 16)]⟩ ++ s2 : BA).size : Int) = i3 + 1 := by rw [ByteArray.size_append]; show ((1 + s2.size : Nat) : Int) = _; omega
 refine ⟨fun hi => ⟨by omega, fun _ => ⟨by omega, fun _ => ⟨by omega, fun _ => ⟨by omega, fun _ => ?_⟩⟩⟩⟩, fun hi => ?_⟩
 ·rw [cL7 (i := i3 + 1) (by omega) (by omega)]
  refine ⟨⟨by simp; omega, by simp; omega, by simpa using e7, ?_⟩, ?_⟩
  ·simp only [arg_z, arg_s, D.toI_I, D.toS_S, Int.toNat_natCast]
   rw [a4, cL9, show 16 - i3.toNat = (16 - (i3 + 1).toNat) + 1 by omega, Lt.hexOf, List.append_assoc]
   rfl
  ·simp only [cL3.I0M, arg_z, arg_s, D.toI_I]
   omega
 ·show s2 = bx (Lt.hexOf 16 i0.toNat)
  rw [a4, show 16 - i3.toNat = 0 by omega]
  rfl
theorem cP1 : ∀ n, Lt.cL5 n ++ Lt.cN8 = Lt.cL5 (n + 1)
 | 0 => by simp [Lt.cL5]
 | n + 1 => by rw [Lt.cL5, List.append_assoc, cP1 n]; rfl
theorem cP9 (n v : Nat) : Lt.named n v ++ Lt.cN8 = Lt.named (n + 1) v := by
 unfold Lt.named
 rw [← cP1]
 simp
theorem cQ0 (n v : Nat) : (Lt.named n v).length = 26 + 27 * n := by
 unfold Lt.named
 have : ∀ n, (Lt.cL5 n).length = 27 * n := fun n => by
  induction n with
  | zero => rfl
  | succ n ih => rw [Lt.cL5, List.length_append, ih]; show 27 + 27 * n = _; omega
 simp [Lt.cM5, this, Lt.cM1]
 omega
theorem cQ9 {n v : Nat} (hv : v < 18446744073709551616) (h1 : 1 ≤ n) (h4 : n ≤ 4) : Lt.parse (Lt.named n v) = (Lt.cM2 n v, 0, 0) := Lt.cQ8 n v hv h1 h4
theorem cL1.pure : cL1.Pure := by
 intro i0 i1 l2 h0 h1 _ hp
 have ey : ∀ {b : Bool}, (gJ.sig 0).post [.L l2, .B b] → (cL1.sig 0).post [.I i0, .I i1, .L l2, .B b] := fun h => by have := bG7 h; subst this; rfl
 have z1 : (⟨#[105, 110, 105, 116, 32, 98, 61, 48, 120]⟩ : BA).size = 9 := rfl
 have z2 : (⟨#[10]⟩ : BA).size = 1 := rfl
 have z3 : (⟨#[116, 104, 114, 101, 97, 100, 10, 115, 116, 111, 114, 101, 32, 97, 32, 49, 10, 108, 111, 97, 100, 32, 114, 51, 32, 98, 10]⟩ : BA).size = 27 := rfl
 refine ⟨fun _ => ⟨hp, fun b3 hb => ey hb⟩, fun g1 => ⟨fun _ => ⟨hp, fun b3 hb => ey hb⟩, fun g4 => ⟨trivial, fun s3 hs _ => ?_⟩⟩⟩
 have hs : s3 = bx (Lt.hexOf 16 i0.toNat) := hs
 have z4 : s3.size = 16 := by rw [hs]; show (Lt.hexOf 16 i0.toNat).toArray.size = 16; rw [List.size_toArray, Lt.cM5]
 refine ⟨by simp only [ByteArray.size_append, z1, z4]; decide, fun _ => ⟨by simp only [ByteArray.size_append, z1, z2, z4]; decide, fun _ => ⟨⟨hp, g1, g4, by show (0 : Int) ≤ 0; omega, by show 0 ≤ i1; omega, ?_⟩, fun s4 i5 hs4 h5 hI => ?_⟩⟩⟩
 ·show tx (⟨#[105, 110, 105, 116, 32, 98, 61, 48, 120]⟩ ++ s3 ++ ⟨#[10]⟩) = Lt.named 0 i0.toNat
  rw [cL9, cL9, hs, tx_bx]
  rfl
 ·obtain ⟨a1, a2, a3, a4, a5, a6⟩ := hI
  simp only [arg_z, arg_s, D.toI_I, D.toS_S] at a1 a2 a3 a4 a5 a6
  have z5 : s4.size = 26 + 27 * i5.toNat := by rw [← cQ0 i5.toNat i0.toNat, ← a6]; simp [tx]
  refine ⟨fun hi => ⟨by simp only [ByteArray.size_append, z3, z5]; omega, fun _ => ⟨⟨hp, g1, g4, ?_, ?_, ?_⟩, ?_⟩⟩, fun hi => ⟨hp, fun v6 l7 v8 l9 v10 l11 i12 i13 hP _ _ _ _ _ v14 v15 v16 n17 => ?_⟩⟩
  all_goals try rw [cL7 (i := i5 + 1) (by omega) (by omega)]
  ·show 0 ≤ i5 + 1; omega
  ·show i5 + 1 ≤ i1; omega
  ·show tx (s4 ++ _) = Lt.named (i5 + 1).toNat i0.toNat
   rw [cL9, a6, show (i5 + 1).toNat = i5.toNat + 1 by omega, ← cP9]
   rfl
  ·show (i1 - (i5 + 1)).toNat < (i1 - i5).toNat; omega
  ·obtain rfl : i5 = i1 := by omega
   obtain ⟨p1, p2, p3, p4, p5⟩ := hP
   simp only [arg_z, arg_s, D.toL_L, D.toI_I, D.toS_S, a6] at p1 p2 p3 p4 p5
   rw [cQ9 (by omega) (by omega) (by omega)] at p1 p2 p3 p4 p5
   have c1 : l9.length = i5.toNat := by rw [(pO p2).1]; simp [Lt.cM2]
   have c2 : l7 = [bD ([97], 0), bD ([98], i0.toNat)] := p1
   have c3 : i13 = 0 := p5
   subst c2 c3
   refine ⟨fun h => absurd rfl h, fun _ => ⟨hp, fun b18 hb => ?_⟩⟩
   have hb := bG7 hb
   subst hb
   have d1 : ((([bD ([97], 0), bD ([98], i0.toNat)].getD (0 : Int).toNat default)).toL.getD (0 : Int).toNat default).toS = ⟨#[97]⟩ := rfl
   have d2 : ((([bD ([97], 0), bD ([98], i0.toNat)].getD (0 : Int).toNat default)).toL.getD (1 : Int).toNat default).toI = 0 := rfl
   have d3 : ((([bD ([97], 0), bD ([98], i0.toNat)].getD (1 : Int).toNat default)).toL.getD (0 : Int).toNat default).toS = ⟨#[98]⟩ := rfl
   have d4 : ((([bD ([97], 0), bD ([98], i0.toNat)].getD (1 : Int).toNat default)).toL.getD (1 : Int).toNat default).toI = i0 := by show ((i0.toNat : Nat) : Int) = i0; omega
   have d5 : (([bD ([97], 0), bD ([98], i0.toNat)].length : Nat) : Int) = 2 := rfl
   have d6 : ((l9.length : Nat) : Int) = i5 := by omega
   simp only [d1, d2, d3, d4, d5, d6]
   repeat' first | omega | refine And.intro ?_ ?_ | intro _
   all_goals first | rfl | (rename_i h; exact absurd rfl h) | (rename_i h; cases h; done) | (show some (D.B (i0 == i0)) = some (.B true); simp)
end Go.Vc
namespace Go.Vc
set_option linter.unusedSimpArgs false
theorem cL8.pure : cL8.Pure := by
 unfold cL8.Pure
 repeat' first | trivial | refine And.intro ?_ ?_ | intro _
 all_goals first | rfl | simp_all
theorem take_snoc {α : Type} (l : List α) (i : Nat) (h : i < l.length) (x : α) (hx : l[i]? = some x) : l.take i ++ [x] = l.take (i + 1) := by
 rw [List.take_add_one, hx]; rfl
theorem cP8 {d : D} {x : Tx × Nat} (h : d = bD x) : D.L [.S (d.toL.getD 0 default).toS, .I (d.toL.getD 1 default).toI] = d := by subst h; rfl
theorem cP3 {d : D} {x : Int × Int × Nat} (h : d = jC x) : D.L [.I (d.toL.getD 0 default).toI, .I (d.toL.getD 1 default).toI, .I (d.toL.getD 2 default).toI] = d := by subst h; rfl
theorem cO7 : ∀ {L : LD} {M : List (List Lt.Ins)} {v : Value} {m : List Lt.Ins}, kQ L M → kQ (L ++ [.L [.V v, .L (m.map rO)]]) (M ++ [m])
 | [], [], v, m, _ => ⟨⟨v, rfl⟩, trivial⟩
 | _ :: _, _ :: _, _, _, h => ⟨h.1, cO7 h.2⟩
 | [], _ :: _, _, _, h => h.elim
 | _ :: _, [], _, _, h => h.elim
theorem cP7 {x y : Lt.Ins} (h : rO x = rO y) : x = y := by
 cases x; cases y
 simp only [rO, D.L.injEq, List.cons.injEq, D.I.injEq, D.B.injEq, and_true] at h
 obtain ⟨h1, h2, h3, h4, h5, h6, h7, h8, h9, ha, hb, hc, hd⟩ := h
 subst h1 h2 h3 h4 h6 h8 h9 ha hb hc hd
 congr 1 <;> omega
theorem cO8 : ∀ {L : LD} {M N : List (List Lt.Ins)}, kQ L M → kQ L N → M = N
 | [], [], [], _, _ => rfl
 | _ :: _, m :: M, n :: N, ⟨⟨v, h1⟩, h2⟩, ⟨⟨u, g1⟩, g2⟩ => by
  rw [cO8 h2 g2]
  rw [h1] at g1
  simp only [D.L.injEq, List.cons.injEq, and_true] at g1
  rw [List.map_inj_right (fun x y => cP7) |>.1 g1.2]
 | [], _ :: _, _, h, _ => h.elim
 | [], [], _ :: _, _, h => h.elim
 | _ :: _, [], _, h, _ => h.elim
 | _ :: _, _ :: _, [], _, h => h.elim
theorem cM7 {α : Type} {l : List α} {i : Nat} {d : α} (h : i < l.length) : l.getD i d = l[i] := by simp [List.getD, h]
theorem cN4 {α : Type} {f : α → D} {l : List α} {i : Nat} (h : i < l.length) : ∃ x, l[i]? = some x ∧ (l.map f).getD i default = f x ∧ (l.map f)[i]? = some (f x) := by
 refine ⟨l[i], List.getElem?_eq_getElem h, ?_, ?_⟩
 ·simp [List.getD, h]
 ·simp [h]
theorem cK9.pure : cK9.Pure := by
 intro v0 l1 v2 l3 v4 l5 _ _ _ hp n6 v7 v8 v9 n10 v11 v12 v13 n14 v15 v16 v17
 obtain ⟨t, ⟨t1, t2, t3⟩, s1, s2, s3, s4⟩ := hp
 simp only [arg_z, arg_s, D.toL_L] at t1 t2 t3
 obtain ⟨u1, u2⟩ := pO t2
 have c1 : l1.length = t.locs.length := by rw [t1, List.length_map]
 have c3 : l5.length = t.asks.length := by rw [t3, List.length_map]
 refine ⟨⟨by show (0 : Int) ≤ 0; omega, by show (0 : Int) ≤ l1.length; omega, rfl⟩, fun i18 v19 l20 r18 _ hI => ⟨fun hlt => ⟨hI.1, fun _ n21 v22 => ?_⟩, fun hge => ⟨⟨by show (0 : Int) ≤ 0; omega, by show (0 : Int) ≤ l3.length; omega, fun t _ => by cases h : t.threads <;> trivial⟩, fun i21 v22 l23 r21 _ hJ => ⟨fun hlt1 => ⟨hJ.1, fun _ v24 => ⟨⟨by show (0 : Int) ≤ 0; omega, by show (0 : Int) ≤ ((cL4 (.L l3) i21).length : Nat); omega, rfl⟩, fun v25 l26 i27 r27 _ hK => ⟨fun hlt2 => ⟨hK.1, fun _ n28 => ⟨trivial, fun i29 i30 i31 b32 i33 b34 i35 b36 b37 i38 i39 i40 i41 hi _ _ _ _ _ _ _ _ _ v42 => ?_⟩⟩, fun hge2 v28 => ?_⟩⟩⟩, fun hge1 => ⟨⟨by show (0 : Int) ≤ 0; omega, by show (0 : Int) ≤ l5.length; omega, rfl⟩, fun i24 v25 l26 r24 _ hK => ⟨fun hlt3 => ⟨hK.1, fun _ n27 v28 => ?_⟩, fun hge3 => ?_⟩⟩⟩⟩⟩⟩
 ·obtain ⟨a1, a2, a3⟩ := hI
  simp only [arg_z, arg_s, D.toI_I, D.toL_L] at a1 a2 a3
  obtain ⟨x, x1, x2, x3⟩ := cN4 (f := bD) (l := t.locs) (i := i18.toNat) (by omega)
  have e0 := cP8 (d := l1.getD i18.toNat default) (x := x) (by rw [t1]; exact x2)
  rw [show (0 : Int).toNat = 0 from rfl, show (1 : Int).toNat = 1 from rfl, e0, a3, take_snoc l1 i18.toNat (by omega) _ (by rw [t1, x2]; exact x3)]
  refine ⟨by simp; omega, fun _ v23 => ?_⟩
  rw [cL7 (i := i18 + 1) (by omega) (by omega)]
  refine ⟨⟨by show 0 ≤ i18 + 1; omega, by show i18 + 1 ≤ l1.length; omega, by show l1.take (i18.toNat + 1) = l1.take (i18 + 1).toNat; rw [show (i18 + 1).toNat = i18.toNat + 1 by omega]⟩, ?_⟩
  show (l1.length - (i18 + 1)).toNat < (l1.length - i18).toNat; omega
 ·obtain ⟨a1, a2, a3⟩ := hK
  simp only [arg_z, arg_s, D.toI_I, D.toL_L] at a1 a2 a3
  have b1 := hJ.1
  simp only [arg_z, arg_s, D.toI_I] at b1
  have e1 := u2 i21.toNat (by omega)
  have e2 : cL4 (.L l3) i21 = (t.threads.getD i21.toNat []).map rO := e1
  have hlt2 : i27 < ((cL4 (.L l3) i21).length : Nat) := hlt2
  rw [e2] at a2 a3 hlt2
  rw [show (1 : Int).toNat = 1 from rfl, e1] at hi
  obtain ⟨x, x1, x2, x3⟩ := cN4 (f := rO) (l := t.threads.getD i21.toNat []) (i := i27.toNat) (by simpa using (by omega : i27.toNat < ((t.threads.getD i21.toNat []).map rO).length))
  rw [x2] at hi
  have e3 : [D.I i29, .I i30, .I i31, .B b32, .I i33, .B b34, .I i35, .B b36, .B b37, .I i38, .I i39, .I i40, .I i41] = (rO x).toL := hi
  have e4 : (D.L [D.I i29, .I i30, .I i31, .B b32, .I i33, .B b34, .I i35, .B b36, .B b37, .I i38, .I i39, .I i40, .I i41]) = rO x := by rw [e3]; rfl
  have hs : (t.threads.getD i21.toNat []).length ≤ 8 := by
   rw [cM7 (by omega : i21.toNat < t.threads.length)]
   exact s4 _ (List.getElem_mem _)
  have hl : ((t.threads.getD i21.toNat []).map rO).length = (t.threads.getD i21.toNat []).length := List.length_map _
  rw [e4, a3, take_snoc _ i27.toNat (by omega) _ x3]
  refine ⟨by simp; omega, fun _ v43 => ?_⟩
  rw [cL7 (i := i27 + 1) (by omega) (by omega)]
  refine ⟨⟨by show 0 ≤ i27 + 1; omega, by show i27 + 1 ≤ ((cL4 (.L l3) i21).length : Nat); rw [e2]; omega, ?_⟩, ?_⟩
  ·show _ = (cL4 (.L l3) i21).take (i27 + 1).toNat
   rw [e2, show (i27 + 1).toNat = i27.toNat + 1 by omega]
   rfl
  ·show (((cL4 (.L l3) i21).length : Nat) - (i27 + 1)).toNat < (((cL4 (.L l3) i21).length : Nat) - i27).toNat
   rw [e2]; omega
 ·obtain ⟨a1, a2, a3⟩ := hK
  simp only [arg_z, arg_s, D.toI_I, D.toL_L] at a1 a2 a3
  obtain ⟨b1, b2, b3⟩ := hJ
  simp only [arg_z, arg_s, D.toI_I, D.toL_L] at b1 b2 b3
  have e1 := u2 i21.toNat (by omega)
  have e2 : cL4 (.L l3) i21 = (t.threads.getD i21.toNat []).map rO := e1
  have hge2 : ((cL4 (.L l3) i21).length : Nat) ≤ i27 := hge2
  rw [List.take_of_length_le (by omega), e2] at a3
  have hb := b3 t ⟨t1, t2, t3⟩
  have hn := cO7 (v := v25) (m := t.threads.getD i21.toNat []) hb
  have e3 : t.threads.take i21.toNat ++ [t.threads.getD i21.toNat []] = t.threads.take (i21.toNat + 1) := take_snoc _ _ (by omega) _ (by rw [cM7 (by omega : i21.toNat < t.threads.length)]; exact List.getElem?_eq_getElem _)
  rw [e3, ← a3] at hn
  have hl := (pO hn).1
  refine ⟨?_, fun _ v29 => ?_⟩
  ·have : (t.threads.take (i21.toNat + 1)).length ≤ 4 := by rw [List.length_take]; omega
   rw [hl]; omega
  ·rw [cL7 (i := i21 + 1) (by omega) (by omega)]
   refine ⟨⟨by show 0 ≤ i21 + 1; omega, by show i21 + 1 ≤ l3.length; omega, fun t' ht' => ?_⟩, ?_⟩
   ·have e5 : t'.threads = t.threads := cO8 ht'.2.1 t2
    show kQ _ (t'.threads.take (i21 + 1).toNat)
    rw [e5, show (i21 + 1).toNat = i21.toNat + 1 by omega]
    exact hn
   ·show (l3.length - (i21 + 1)).toNat < (l3.length - i21).toNat; omega
 ·obtain ⟨a1, a2, a3⟩ := hK
  simp only [arg_z, arg_s, D.toI_I, D.toL_L] at a1 a2 a3
  obtain ⟨x, x1, x2, x3⟩ := cN4 (f := jC) (l := t.asks) (i := i24.toNat) (by omega)
  have e0 := cP3 (d := l5.getD i24.toNat default) (x := x) (by rw [t3]; exact x2)
  rw [show (0 : Int).toNat = 0 from rfl, show (1 : Int).toNat = 1 from rfl, show (2 : Int).toNat = 2 from rfl, e0, a3, take_snoc l5 i24.toNat (by omega) _ (by rw [t3, x2]; exact x3)]
  refine ⟨by simp; omega, fun _ v29 => ?_⟩
  rw [cL7 (i := i24 + 1) (by omega) (by omega)]
  refine ⟨⟨by show 0 ≤ i24 + 1; omega, by show i24 + 1 ≤ l5.length; omega, by show l5.take (i24.toNat + 1) = l5.take (i24 + 1).toNat; rw [show (i24 + 1).toNat = i24.toNat + 1 by omega]⟩, ?_⟩
  show (l5.length - (i24 + 1)).toNat < (l5.length - i24).toNat; omega
 ·obtain ⟨a1, a2, a3⟩ := hI
  obtain ⟨b1, b2, b3⟩ := hJ
  obtain ⟨d1, d2, d3⟩ := hK
  simp only [arg_z, arg_s, D.toI_I, D.toL_L] at a1 a2 a3 b1 b2 b3 d1 d2 d3
  intro t' ht'
  refine ⟨?_, ?_, ?_⟩
  ·show l20 = t'.locs.map bD
   rw [a3, List.take_of_length_le (by omega)]; exact ht'.1
  ·show kQ l23 t'.threads
   have := b3 t' ht'
   have hl := (pO ht'.2.1).1
   have hl : l3.length = t'.threads.length := hl
   rwa [List.take_of_length_le (by omega)] at this
  ·show l26 = t'.asks.map jC
   rw [d3, List.take_of_length_le (by omega)]; exact ht'.2.2
theorem cK8.pure : cK8.Pure := by
 intro v0 l1 v2 l3 v4 l5 v6 l7 v8 l9 v10 l11 _ _ _ _ _ _ hp n12 n13
 obtain ⟨t, ⟨t1, t2, t3⟩, s1, s2, s3, s4⟩ := hp
 simp only [arg_z, arg_s, D.toL_L] at t1 t2 t3
 obtain ⟨u1, u2⟩ := pO t2
 have c1 : l1.length ≤ 8 := by rw [t1, List.length_map]; exact s1
 have c2 : l3.length ≤ 4 := by rw [u1]; exact s2
 have c3 : l5.length ≤ 40 := by rw [t3, List.length_map]; exact s3
 have c4 : ∀ i : Int, 0 ≤ i → i < (l3.length : Nat) → (cL4 (.L l3) i).length ≤ 8 := by
  intro i h0 h1
  have e1 : cL4 (.L l3) i = (t.threads.getD i.toNat []).map rO := u2 i.toNat (by omega)
  rw [e1, List.length_map, cM7 (by omega : i.toNat < t.threads.length)]
  exact s4 _ (List.getElem_mem _)
 have hE : ∀ r : Int, (l7 = l1 → l11 = l5 → l9.length = l3.length → (∀ i : Nat, ((l9.getD i default).toL.getD 1 default).toL = ((l3.getD i default).toL.getD 1 default).toL) → r = 0) →
   cK8.sig.post [.V v0, .L l1, .V v2, .L l3, .V v4, .L l5, .V v6, .L l7, .V v8, .L l9, .V v10, .L l11, .I r] := by
  intro r h t' h1 h2
  obtain ⟨a1, a2, a3⟩ := h1
  obtain ⟨b1, b2, b3⟩ := h2
  simp only [arg_z, arg_s, D.toL_L] at a1 a2 a3 b1 b2 b3
  obtain ⟨p1, p2⟩ := pO a2
  obtain ⟨q1, q2⟩ := pO b2
  have p1 : l3.length = t'.threads.length := p1
  have q1 : l9.length = t'.threads.length := q1
  refine h (b1.trans a1.symm) (b3.trans a3.symm) (q1.trans p1.symm) fun i => ?_
  by_cases hi : i < t'.threads.length
  ·exact (q2 i hi).trans (p2 i hi).symm
  ·have g1 : l9.getD i default = default := by simp [List.getD, List.getElem?_eq_none (by omega : l9.length ≤ i)]
   have g2 : l3.getD i default = default := by simp [List.getD, List.getElem?_eq_none (by omega : l3.length ≤ i)]
   rw [g1, g2]
 have hZ := hE 0 fun _ _ _ _ => rfl
 have hN : ∀ {Q : Prop}, Q → (l7 = l1 → l11 = l5 → l9.length = l3.length → (∀ i : Nat, ((l9.getD i default).toL.getD 1 default).toL = ((l3.getD i default).toL.getD 1 default).toL) → ¬ Q) → cK8.sig.post [.V v0, .L l1, .V v2, .L l3, .V v4, .L l5, .V v6, .L l7, .V v8, .L l9, .V v10, .L l11, .I (-1)] :=
  fun q h => hE (-1) fun a b c d => absurd q (h a b c d)
 clear hE t1 t2 t3 u1 u2 s1 s2 s3 s4
 have z : (0 : Int) ≤ 0 := Int.le_refl _
 refine ⟨fun d => hN d fun a _ _ _ h => h (by rw [a]), fun e1 => ⟨fun d => hN d fun _ _ a _ h => h (by rw [a]), fun e2 => ⟨fun d => hN d fun _ a _ _ h => h (by rw [a]), fun e3 => ⟨z, fun i14 r14 I0 => ⟨fun h14 => ⟨I0, fun _ => ⟨by omega, fun _ => ⟨fun d => hN d fun a _ _ _ h => ?_, fun _ => ?_⟩⟩⟩, fun _ => ⟨z, fun i15 r15 I1 => ⟨fun h15 => ⟨I1, fun _ => ⟨by omega, fun _ => ⟨fun d => hN d fun _ a _ _ h => ?_, fun _ => ?_⟩⟩⟩,
  fun _ => ⟨z, fun i16 r16 I2 => ⟨fun h16 => ⟨I2, fun _ => ⟨by omega, fun _ => ⟨fun d => hN d fun _ _ _ a h => h (by rw [show (1 : Int).toNat = 1 from rfl, a]), fun e4 => ⟨z, fun i17 r17 I3 => ⟨fun h17 => ⟨I3, fun _ => ⟨by omega, fun _ => ⟨fun d => hN d fun _ _ _ a h => ?_, fun _ => ?_⟩⟩⟩, fun h17 => ?_⟩⟩⟩⟩⟩, fun _ => hZ⟩⟩⟩⟩⟩⟩⟩⟩⟩
 ·subst a; simp at h
 ·have I0 : 0 ≤ i14 := I0
  rw [cL7 (i := i14 + 1) (by omega) (by omega)]
  exact ⟨by show 0 ≤ i14 + 1; omega, by show (l1.length - (i14 + 1)).toNat < (l1.length - i14).toNat; omega⟩
 ·subst a; simp at h
 ·have I1 : 0 ≤ i15 := I1
  rw [cL7 (i := i15 + 1) (by omega) (by omega)]
  exact ⟨by show 0 ≤ i15 + 1; omega, by show (l5.length - (i15 + 1)).toNat < (l5.length - i15).toNat; omega⟩
 ·simp only [show (1 : Int).toNat = 1 from rfl, a] at h
  simp at h
 ·have I3 : 0 ≤ i17 := I3
  have c5 := c4 i16 I2 h16
  have h17 : i17 < ((cL4 (.L l3) i16).length : Nat) := h17
  rw [cL7 (i := i17 + 1) (by omega) (by omega)]
  exact ⟨by show 0 ≤ i17 + 1; omega, by show (((cL4 (.L l3) i16).length : Nat) - (i17 + 1)).toNat < (((cL4 (.L l3) i16).length : Nat) - i17).toNat; omega⟩
 ·have I2 : 0 ≤ i16 := I2
  rw [cL7 (i := i16 + 1) (by omega) (by omega)]
  exact ⟨by show 0 ≤ i16 + 1; omega, by show (l3.length - (i16 + 1)).toNat < (l3.length - i16).toNat; omega⟩
end Go.Vc
namespace Go.Vc
set_option linter.unusedSimpArgs false
theorem cR1 {t : Lt.Test} (h : Lt.check t = 0) : cN5 t := by
 have h1 : Lt.sizes t = 0 := by
  unfold Lt.check at h
  split at h
  ·exact h
  ·rename_i g; simpa using g
 unfold Lt.sizes at h1
 split at h1
 ·omega
 split at h1
 ·omega
 rename_i g
 unfold Lt.vN at h1
 split at h1
 ·omega
 rename_i k
 refine ⟨by omega, by omega, by omega, fun x hx => ?_⟩
 apply Classical.byContradiction
 intro hn
 exact k (List.any_eq_true.2 ⟨x, hx, by simp; omega⟩)
theorem cM4 {s : BA} {i : Int} (c : UInt8) : byteAt s i = (c.toNat : Int) ↔ (tx s).getD i.toNat 0 = c := by
 rw [cP5]
 constructor
 ·intro h; exact UInt8.toNat_inj.1 (by omega)
 ·intro h; rw [h]
theorem cR4 {s : BA} {i : Nat} (h : i < (tx s).length) : tx (s.extract i (i + 1)) = [(tx s).getD i 0] := by
 rw [yH, List.drop_take, show i + 1 - i = 1 by omega, List.drop_eq_getElem_cons h, List.take_succ_cons, List.take_zero]
 simp [List.getD, h]
theorem cQ4 {w w' s : BA} {n N : Tx} {i : Nat} (hi : i < (tx s).length) (h : tx w ++ Lt.noted n ((tx s).drop i) = N)
  (hw : tx w' = tx w ++ ((if (tx s).getD i 0 = 10 then 32 :: 35 :: n else []) ++ if (tx s).getD i 0 = 13 then [] else [(tx s).getD i 0])) : tx w' ++ Lt.noted n ((tx s).drop (i + 1)) = N := by
 have e : (tx s).drop i = (tx s).getD i 0 :: (tx s).drop (i + 1) := by
  rw [List.drop_eq_getElem_cons hi]; simp [List.getD, hi]
 rw [e, Lt.noted] at h
 rw [hw, ← h]
 simp
theorem cL0.pure : cL0.Pure := by
 intro s0 s1 l2 _ _ _ hp
 have ey : ∀ {b : Bool}, (gJ.sig 0).post [.L l2, .B b] → (cL0.sig 0).post [.S s0, .S s1, .L l2, .B b] := fun h => by have := bG7 h; subst this; rfl
 refine ⟨by show (0 : Int) ≤ 500; omega, fun s3 h3 _ => ⟨by show (0 : Int) ≤ 20; omega, fun s4 h4 _ => ⟨hp, fun v5 l6 v7 l8 v9 l10 i11 i12 hP _ _ _ _ _ v13 v14 v15 n16 => ⟨⟨by show (0 : Int) ≤ 0; omega, fun k hk => by have : (k : Int) < 0 := hk; omega⟩, fun i17 r17 hI => ?_⟩⟩⟩⟩
 have h3 : s3 = s0.extract 0 500 := h3
 have h4 : s4 = s1.extract 0 20 := h4
 obtain ⟨a1, a2⟩ := hI
 simp only [arg_z, arg_s, D.toI_I, D.toS_S, ← h4] at a1 a2
 have z3 : s3.size ≤ 500 := by rw [← cJ6, h3, yH, List.drop_zero, List.length_take]; omega
 have z4 : s4.size ≤ 20 := by rw [← cJ6, h4, yH, List.drop_zero, List.length_take]; omega
 refine ⟨fun hlt => ⟨a1, fun _ => ⟨fun _ => ⟨hp, fun b hb => ey hb⟩, fun hne => ?_⟩⟩, fun hge => ⟨fun _ => ⟨hp, fun b hb => ey hb⟩, fun e12 => ⟨⟨by show (0 : Int) ≤ 0; omega, by show (0 : Int) ≤ 500; omega, by show (0 : Int) ≤ 23 * 0; omega, rfl⟩, fun s18 i19 hs18 r19 hJ => ?_⟩⟩⟩
 ·rw [cL7 (i := i17 + 1) (by omega) (by omega)]
  refine ⟨⟨by show 0 ≤ i17 + 1; omega, fun k hk => ?_⟩, by show (20 - (i17 + 1)).toNat < (20 - i17).toNat; omega⟩
  have hk : (k : Int) < i17 + 1 := hk
  show (tx (s1.extract 0 20)).getD k 0 ≠ 10
  rw [← h4]
  by_cases hk' : (k : Int) < i17
  ·exact a2 k hk'
  ·have : k = i17.toNat := by omega
   subst this
   exact fun h => hne ((cM4 10).2 h)
 ·obtain ⟨b1, b2, b3, b4⟩ := hJ
  simp only [arg_z, arg_s, D.toI_I, D.toS_S, ← h4, ← h3] at b1 b2 b3 b4
  have n10 : (10 : UInt8) ∉ tx s4 := by
   intro hm
   obtain ⟨k, hk, hk'⟩ := List.mem_iff_getElem.1 hm
   rw [cJ6] at hk
   exact a2 k (by omega) (by rw [cM7 (by rw [cJ6]; exact hk)]; exact hk')
  have zz : (⟨#[32, 35]⟩ : BA).size = 2 := rfl
  have ez : (⟨#[32, 35]⟩ : BA) = bx [32, 35] := rfl
  refine ⟨fun hlt => ⟨b1, fun _ => ?_⟩, fun hge2 => ⟨fun _ => ⟨hp, fun b hb => ey hb⟩, fun hsz => ⟨by simp only [ByteArray.size_append, zz]; omega, fun _ => ⟨hp, fun v20 l21 v22 l23 v24 l25 i26 i27 hQ _ _ _ _ _ v28 v29 v30 n31 => ⟨hp, fun b32 hb => ?_⟩⟩⟩⟩⟩
  ·have hi : i19.toNat < (tx s3).length := by rw [cJ6]; omega
   have e1 := cR4 hi
   have w1 : wrap .i64 (i19 + 1) = i19 + 1 := cL7 (by omega) (by omega)
   have w2 : (i19 + 1).toNat = i19.toNat + 1 := by omega
   have z5 : (s3.extract i19.toNat (i19.toNat + 1)).size = 1 := by rw [← cJ6, e1]; rfl
   have hT : ∀ w' : BA, (w'.size : Int) ≤ 23 * (i19 + 1) → tx w' = tx s18 ++ ((if (tx s3).getD i19.toNat 0 = 10 then 32 :: 35 :: tx s4 else []) ++ if (tx s3).getD i19.toNat 0 = 13 then [] else [(tx s3).getD i19.toNat 0]) →
     cL0.I1 [.S s0, .S s1, .L l2, .S w', .I (i19 + 1)] ∧ cL0.I1M [.S s0, .S s1, .L l2, .S w', .I (i19 + 1)] < cL0.I1M [.S s0, .S s1, .L l2, .S s18, .I i19] := by
    intro w' hz hw
    refine ⟨⟨by show 0 ≤ i19 + 1; omega, by show i19 + 1 ≤ 500; omega, hz, ?_⟩, by show (500 - (i19 + 1)).toNat < (500 - i19).toNat; omega⟩
    show tx w' ++ Lt.noted (tx (s1.extract 0 20)) ((tx (s0.extract 0 500)).drop (i19 + 1).toNat) = Lt.noted (tx (s1.extract 0 20)) (tx (s0.extract 0 500))
    rw [← h3, ← h4, w2]
    exact cQ4 hi b4 hw
   simp only [w1, w2]
   refine ⟨fun h10 => ?_, fun h10 => ?_⟩
   ·have c10 := (cM4 (s := s3) (i := i19) 10).1 h10
    refine ⟨by simp only [ByteArray.size_append, zz]; omega, fun _ => ⟨by simp only [ByteArray.size_append, zz]; omega, fun _ => ⟨fun h13 => ⟨by omega, fun _ => ⟨by omega, fun _ => ⟨by simp only [ByteArray.size_append, zz, z5]; omega, fun _ => ?_⟩⟩⟩, fun h13 => ?_⟩⟩⟩
    ·refine hT _ (by simp only [ByteArray.size_append, zz, z5]; omega) ?_
     rw [cL9, cL9, cL9, e1, c10, ez, tx_bx]
     simp
    ·exact absurd (h10.symm.trans h13) (by decide)
   ·have c10 : ¬ (tx s3).getD i19.toNat 0 = 10 := fun h => h10 ((cM4 10).2 h)
    refine ⟨fun h13 => ⟨by omega, fun _ => ⟨by omega, fun _ => ⟨by simp only [ByteArray.size_append, z5]; omega, fun _ => ?_⟩⟩⟩, fun h13 => ?_⟩
    ·have c13 : ¬ (tx s3).getD i19.toNat 0 = 13 := fun h => h13 ((cM4 13).2 h)
     refine hT _ (by simp only [ByteArray.size_append, z5]; omega) ?_
     rw [cL9, e1, if_neg c10, if_neg c13]
     rfl
    ·have c13 := (cM4 (s := s3) (i := i19) 13).1 h13
     refine hT _ (by omega) ?_
     rw [if_neg c10, if_pos c13]
     simp
  ·have hb := bG7 hb
   subst hb
   obtain ⟨p1, p2, p3, p4, p5⟩ := hP
   obtain ⟨q1, q2, q3, q4, q5⟩ := hQ
   simp only [arg_z, arg_s, D.toI_I, D.toS_S, D.toL_L] at p1 p2 p3 p4 p5 q1 q2 q3 q4 q5
   rw [List.drop_eq_nil_of_le (by rw [cJ6]; omega), Lt.noted, List.append_nil] at b4
   have hpz : (Lt.parse (tx s3)).2.2 = 0 := by rw [← p5]; exact e12
   obtain ⟨g1, g2⟩ := (cE1 (tx s3)).2 hpz
   have hq : Lt.parse (tx (s18 ++ ⟨#[32, 35]⟩)) = Lt.parse (tx s3) := by
    rw [cL9, b4, ez, tx_bx]
    exact Lt.cR0 n10 (by rw [← b4, cJ6]; omega) hpz
   rw [hq] at q1 q2 q3 q4 q5
   have hsm := cR1 g2
   generalize Lt.parse (tx s3) = p at *
   refine ⟨fun _ => ⟨fun _ => ⟨fun _ => ⟨fun _ => ⟨⟨p.1, ⟨p1, p2, p3⟩, hsm⟩, fun v33 l34 v35 l36 v37 l38 hA _ _ _ => ⟨⟨p.1, ⟨q1, q2, q3⟩, hsm⟩, fun v39 l40 v41 l42 v43 l44 hB _ _ _ => ⟨⟨p.1, hA p.1 ⟨p1, p2, p3⟩, hsm⟩, fun i45 hC _ => ?_⟩⟩⟩, fun h => absurd (q4.trans g1) h⟩, fun h => absurd (p4.trans g1) h⟩, fun h => absurd (q5.trans hpz) h⟩, fun h => by cases h⟩
   have h0 : i45 = 0 := hC p.1 (hA p.1 ⟨p1, p2, p3⟩) (hB p.1 ⟨q1, q2, q3⟩)
   subst h0
   show some (D.B (0 == (0 : Int))) = some (.B true)
   rfl
end Go.Vc
namespace Go.Vc
open Go.RowKit (Below)
theorem cC0 {P : Program} {w : World} {n : String} {g t e fuel : Nat} {ss : List (List UInt8)} {cs : Array Value} {p : List MemPlace} (hg : P.globalNamed n = some g)
  (hu : P.underlying t = some (.slice e)) (he : P.underlying e = some .string) (ce : P.cellsOf e = 1) (hv : w.var? P n = some cs) (h0 : ss ≠ []) (hs : ∀ s ∈ ss, s.length ≤ 1000)
  (h : DataW.trod (fun _ => ()) P w 0 (fun _ => true) false fuel t cs.toList = some (.slice (ss.map fun s => .lit (.string s)) [], p)) :
  ∃ v, fA w (.slice (some ⟨g, 0, none⟩) 1 1) 1 1 [v] ∧ one v ∧ fA w v 1 ss.length (ss.map fun s => .string (bx s)) := by
 obtain ⟨a, cap, hcs, hl, hel⟩ := open_row hu ce h
 have hl : ss.length ≤ cap := by simpa using hl
 have hcap : cap ≤ maxLen := by
  rcases DataW.trod_slice hu h with ⟨hx, _⟩ | ⟨_, _, cap', _, _, _, _, hx, _, _, _, h3, _⟩
  ·rw [hcs] at hx; simp at hx
  ·rw [hcs] at hx
   simp only [List.cons.injEq, Value.slice.injEq, and_true] at hx
   rw [hx.2.2]; exact h3
 have hcell : ∀ i s, ss[i]? = some s → w.cell? (a.add i) = some (.string (bx s)) := by
  intro i s hi
  obtain ⟨v, m, q, hc, ht⟩ := hel i (.lit (.string s)) (by rw [List.getElem?_map, hi]; rfl)
  obtain ⟨b, hb, hx⟩ := DataW.trod_string he ht
  simp only [List.cons.injEq, and_true] at hb
  have hx' : s = b.data.toList := by
   have := congrArg Prod.fst hx.1
   simpa using this
  subst hx'
  rw [hc, hb]
  rfl
 refine ⟨.slice (some a) ss.length cap, .inr (.inr ⟨⟨g, 0, none⟩, 1, rfl, rfl, ?_, Nat.le_refl _, by decide, rfl, ?_⟩), rfl, .inr (.inr ⟨a, cap, rfl, ?_, ?_, hl, hcap, by simp, ?_⟩)⟩
 ·unfold World.var? at hv
  rw [hg] at hv
  simp only [Option.bind_some] at hv
  split at hv
  ·rename_i hh
   exact (Array.getElem?_eq_some_iff.1 hh).1
  ·cases hv
 ·intro j u hj
  have hj0 : j = 0 := by
   have := (List.getElem?_eq_some_iff.1 hj).1
   simp at this
   exact this
  subst hj0
  simp only [List.getElem?_cons_zero, Option.some.injEq] at hj
  subst hj
  unfold World.var? at hv
  rw [hg] at hv
  simp only [Option.bind_some] at hv
  split at hv
  ·rename_i cs' e' fz hh
   cases hv
   have hc0 : cs[0]? = some (.slice (some a) ss.length cap) := by
    rw [← Array.getElem?_toList, hcs]; simp
   show (match w.heap[g]? with | some (Obj.cells c _ _) => if (none : Option Nat).isSome then none else c[0 + 0]? | _ => none) = _
   rw [hh]
   exact hc0
  ·cases hv
 all_goals
  have hb : a.spot = none ∧ a.block < w.heap.size := by
   cases ss with
   | nil => exact absurd rfl h0
   | cons s r =>
    have h1 := hcell 0 s rfl
    have ha : a.add 0 = a := by simp [Addr.add]
    rw [ha] at h1
    unfold World.cell? at h1
    split at h1
    ·rename_i hb
     split at h1
     ·cases h1
     ·rename_i hs
      exact ⟨by simpa using hs, (Array.getElem?_eq_some_iff.1 hb).1⟩
    ·cases h1
 ·exact hb.1
 ·exact hb.2
 ·intro j u hj
  rw [List.getElem?_map] at hj
  cases hss : ss[j]? with
  | none => rw [hss] at hj; cases hj
  | some s =>
   rw [hss] at hj
   simp only [Option.map_some, Option.some.injEq] at hj
   rw [← hj]
   exact hcell j s hss
def nmW (v : Value) : D := .L [.L [.V v, .L (txR Lt.names)]]
theorem cD0 {ρ : LD} {w : World} {g i : Nat} {v : Value} (hi : ρ[i]? = some (nmW v)) (h1 : fA w (.slice (some ⟨g, 0, none⟩) 1 1) 1 1 [v]) (h2 : one v) (h3 : fA w v 1 Lt.names.length (Lt.names.map fun s => .string (bx s))) :
  ∀ c ∈ nmH g i, c.holds ρ w := by
 have e' : (Tm.den ρ (.at i)) = nmW v := by simp [Tm.den, List.getD, hi]
 have hh : (Tm.den ρ (.o1 .hdr (.nat g))).toV = .slice (some ⟨g, 0, none⟩) 1 1 := rfl
 have hz : ∀ x ∈ txR Lt.names, (x.toS.size : Int) ≤ bW := by
  intro x hx
  obtain ⟨s, hs, rfl⟩ := List.mem_map.1 hx
  have : ∀ s ∈ Lt.names, s.length ≤ 5 := by decide
  have := this s hs
  show ((bx s).size : Int) ≤ 9223372036854775807
  simp only [bx, ByteArray.size, List.size_toArray]
  omega
 intro c hc
 rcases List.mem_cons.1 hc with rfl | hc
 ·show fA w (Tm.den ρ (.o1 .hdr (.nat g))).toV 1 (EK.len [.sl [.str]] (Tm.den ρ (.at i))) (EK.cells [.sl [.str]] (Tm.den ρ (.at i))) ∧ EK.ok [.sl [.str]] (Tm.den ρ (.at i))
  rw [e', hh]
  refine ⟨h1, ?_⟩
  intro x hx
  rcases List.mem_singleton.1 hx with rfl
  exact ⟨⟨⟨v, _, rfl⟩, h2⟩, fun y hy => ⟨hz y hy, trivial⟩⟩
 ·rcases List.mem_singleton.1 hc with rfl
  show jU w [.sl [.str]] (Tm.den ρ (.at i))
  rw [e']
  intro x hx
  rcases List.mem_singleton.1 hx with rfl
  refine ⟨⟨?_, fun y hy => ⟨trivial, trivial⟩⟩, trivial⟩
  have : EK.cells [.str] (slC (.L [.V v, .L (txR Lt.names)])) = Lt.names.map fun s => .string (bx s) := rfl
  rw [this]
  exact h3
theorem cE0 {ρ : LD} {g i : Nat} : owns ρ (nmH g i) = [] := rfl
theorem bZ4 {P : Program} {f g : FuncId} {ks : List AK} (hk : Kept P [] f (aS9 g ks)) {args : Array Value} {ρ : LD} {w : World} {v : Value}
  (hks : aD9 false 0 ks = []) (hs : bY (jP ks) ρ) (ha : aU (ρ ++ [nmW v]) (aB9 0 ks) args.toList)
  (h1 : fA w (.slice (some ⟨g, 0, none⟩) 1 1) 1 1 [v]) (h2 : one v) (h3 : fA w v 1 Lt.names.length (Lt.names.map fun s => .string (bx s))) :
  Calls P f args w fun e w' => e = .returned (.bool true) ∧ Below w.heap.size w w' := by
 have hl := cO hs
 have hi : (ρ ++ [nmW v])[(jP ks).length]? = some (nmW v) := by rw [← hl]; simp
 have ho : owns (ρ ++ [nmW v]) (nmH g (jP ks).length) = [] := cE0
 have hh : aN (ρ ++ [nmW v]) (nmH g (jP ks).length) w := ⟨cD0 hi h1 h2 h3, by rw [ho]; simp, fun _ _ b _ => by rw [ho]; simp⟩
 refine (hk.holds w args (ρ ++ [nmW v]) (aB7 hs ⟨⟨_, rfl⟩, trivial⟩) ?_ ha hh (fun g h => by cases h)).mono ?_
 ·show xC (arg (ρ ++ [nmW v]) (jP ks).length)
  refine ⟨v, ?_⟩
  simp only [arg, List.getD, hi]
  rfl
 rintro e w' ⟨u, rfl, hfit⟩
 rcases hfit with hfit | ⟨r, hr, _⟩
 rotate_left
 ·cases hr
 obtain ⟨σ, hσ, hpost, hres, _, _, _, hfr⟩ := hfit
 have hfr : eY w (owns (ρ ++ [nmW v]) (nmH g (jP ks).length)) w' := hfr
 rw [ho] at hfr
 refine ⟨?_, hfr.below⟩
 have hσ : bY [.B] σ := hσ
 match σ, hσ with
 | [d], hd =>
  obtain ⟨b, rfl⟩ := hd.1
  have hb : b = true := by
   have : (((ρ ++ [nmW v]) ++ [D.B b]).getLast? = some (.B true)) := hpost
   simpa using this
  subst hb
  have hv : u = .bool (((ρ ++ [nmW v]) ++ [D.B true]).getD ((jP ks).length + 1) default).toB := hres
  rw [hv]
  simp [List.getD, ← hl]
end Go.Vc