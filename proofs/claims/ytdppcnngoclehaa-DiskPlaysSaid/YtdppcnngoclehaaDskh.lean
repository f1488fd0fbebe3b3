/-
 DiskPlays: contracts.
 Printed by wip/vct.py: the conditions of functions, by their contracts.
 DiskPlays: plain conditions.
-/
import Derived.Test.YtdppcnngoclehaaDskg
import Derived.KernelRfl
import Derived.Test.YtdppcnngoclehaaDskf
set_option linter.unusedVariables false
set_option linter.unusedSimpArgs false
open _root_.Go.IntKind (wrap)
namespace Go.Vc
open Dk (Ds)
def dS.sig : Sig :=
 { args := [iO 0, .one (.agg (zP 2)), .one (.agg [.lf (.int .i64 (.at 15)), .lf (.int .i64 (.at 16)), .lf (.str (.at 17)), .lf (.str (.at 18)), .lf (.sl (.at 19))])], heap := tX 0 1 ++ zH 2 ++ [.rsl (.at 19) [.int .i64] (.at 20)],
   aA := [.N, .L] ++ zS ++ [.I, .I, .S, .S, .V, .Z], res := .tup [.agg (zP 22), .lf (.bool (.at 35))], heap' := tX 0 21 ++ zH 22, news := .L :: zS ++ [.B],
   pre := fun l => ∃ x n b, bC (arg l 1).toL x ∧ bY l 2 x ∧ Lim n b x ∧ n ≤ 1000 ∧ b ≤ 1000000,
   post := fun l => ∀ x n b, bC (arg l 1).toL x → bY l 2 x → Lim n b x → n ≤ 1000 → b ≤ 1000000 → (arg l 35).toB = true ∧ ∃ y, bC (arg l 21).toL y ∧ bY l 22 y ∧ Lim (n + 1) (b + 100) y }
def aO.sig : Sig :=
 { args := [iO 0, .one (.agg (zP 2))], heap := tX 0 1 ++ zH 2, aA := [.N, .L] ++ zS, res := gI 15, heap' := tX 0 1, news := [.I],
   pre := fun l => ∃ x, bC (arg l 1).toL x ∧ bY l 2 x ∧ Small x, post := fun l => (arg l 15).toI = 0 }
def aO.I0 : LD → Prop := fun l => 0 ≤ (arg l 15).toI ∧ (arg l 15).toI ≤ (arg l 7).toL.length
def aO.I0M : LD → Nat := fun l => ((arg l 7).toL.length - (arg l 15).toI).toNat
def aO.I1 : LD → Prop := fun l => 0 ≤ (arg l 15).toI ∧ (arg l 15).toI ≤ (arg l 5).toL.length
def aO.I1M : LD → Nat := fun l => ((arg l 5).toL.length - (arg l 15).toI).toNat
def aO.T : St :=
 ⟨[.one (.lf (.ptr (.at 0) 0))] ++ List.replicate 2 (.one (.lf .junk)) ++ [.one (.lf (.ptr (.at 15) 0))] ++ List.replicate 145 (.one (.lf .junk)), tX 0 1 ++ .box (.at 15) (zP 2) :: zH 2, [.N, .L, .V, .L, .V, .L, .V, .L, .V, .L, .I, .I, .I, .B, .I, .N]⟩
def aO.J0 : LD → Prop := fun _ => True
def aO.J0M : LD → Nat := fun _ => 0
def dV.sig : Sig := qM [.i .i64, .l actK] [.b] (fun _ => True) yes
structure aJ3 (i : Int) (dw a b c d : LD) (r cr f : Int) (de : Bool) (ca : Int) (x : Ds) : Prop where
 lo : 0 ≤ i
 hi : i ≤ 40
 disk : bC dw x
 doc : Rf a b c d r cr f de ca x
 lim : Lim i.toNat (100 * i.toNat) x
def dV.I0 : LD → Prop := fun l => ∃ x, aJ3 (arg l 3).toI (arg l 4).toL (arg l 5).toL (arg l 6).toL (arg l 7).toL (arg l 8).toL (arg l 9).toI (arg l 10).toI (arg l 11).toI (arg l 12).toB (arg l 13).toI x
def dV.I0M : LD → Nat := fun l => (40 - (arg l 3).toI).toNat
end Go.Vc
namespace Go.Vc
set_option linter.unusedVariables false
set_option maxRecDepth 100000
def dS.Pure : Prop :=
 ∀ n0 : Nat,
 ∀ l1 : LD,
 ∀ v2 : Value,
 ∀ l3 : LD,
 ∀ v4 : Value,
 ∀ l5 : LD,
 ∀ v6 : Value,
 ∀ l7 : LD,
 ∀ v8 : Value,
 ∀ l9 : LD,
 ∀ i10 i11 i12 : Int,
 ∀ b13 : Bool,
 ∀ i14 i15 i16 : Int,
 ∀ s17 s18 : BA,
 ∀ v19 : Value,
 ∀ z20 : LI,
 R64 i10 →
 R64 i11 →
 R64 i12 →
 R64 i14 →
 R64 i15 →
 R64 i16 →
 ((s17.size : Int) ≤ 9223372036854775807) →
 ((s18.size : Int) ≤ 9223372036854775807) →
 (EK.ok [.str, .int .i64] (D.L l3)) →
 (EK.ok [.str, .int .i64] (D.L l5)) →
 (EK.ok [.str, .int .i64] (D.L l7)) →
 (EK.ok [.str, .str, .int .i64] (D.L l9)) →
 (∀ x ∈ z20, IntKind.has .i64 x) →
 dS.sig.pre [.N n0, .L l1, .V v2, .L l3, .V v4, .L l5, .V v6, .L l7, .V v8, .L l9, .I i10, .I i11, .I i12, .B b13, .I i14, .I i15, .I i16, .S s17, .S s18, .V v19, .Z z20] →
 ∀ n21 n22 : Nat,
 ∀ v23 v24 v25 v26 : Value,
 ∀ n27 : Nat,
 lT.sig.pre [.I i15, .I i16, .S s17, .S s18, .V v19, .Z z20] ∧ (
 ∀ s28 s29 : BA,
 lT.sig.post [.I i15, .I i16, .S s17, .S s18, .V v19, .Z z20, .S s28, .S s29] →
 ((s28.size : Int) ≤ 9223372036854775807) →
 ((s29.size : Int) ≤ 9223372036854775807) →
 ((
 (i15 = 1) →
  yQ.sig.pre [.N n0, .L l1, .S s28] ∧ (
 ∀ l30 : LD,
 ∀ i31 : Int,
  yQ.sig.post [.N n0, .L l1, .S s28, .L l30, .I i31] →
 R64 i31 →
  jP.sig.pre [.V v2, .L l3, .V v4, .L l5, .V v6, .L l7, .V v8, .L l9, .I i10, .I i11, .I i12, .B b13, .I i14, .S s28] ∧ (
 ∀ v32 : Value,
 ∀ l33 : LD,
 ∀ v34 : Value,
 ∀ l35 : LD,
 ∀ v36 : Value,
 ∀ l37 : LD,
 ∀ v38 : Value,
 ∀ l39 : LD,
 ∀ i40 i41 i42 : Int,
 ∀ b43 : Bool,
 ∀ i44 i45 : Int,
  jP.sig.post [.V v2, .L l3, .V v4, .L l5, .V v6, .L l7, .V v8, .L l9, .I i10, .I i11, .I i12, .B b13, .I i14, .S s28, .V v32, .L l33, .V v34, .L l35, .V v36, .L l37, .V v38, .L l39, .I i40, .I i41, .I i42, .B b43, .I i44, .I i45] →
 R64 i40 →
 R64 i41 →
 R64 i42 →
 R64 i44 →
 R64 i45 →
 (EK.ok [.str, .int .i64] (D.L l33)) →
 (EK.ok [.str, .int .i64] (D.L l35)) →
 (EK.ok [.str, .int .i64] (D.L l37)) →
 (EK.ok [.str, .str, .int .i64] (D.L l39)) →
 ∀ v46 v47 v48 v49 : Value,
 ∀ n50 : Nat,
  dS.sig.post [.N n0, .L l1, .V v2, .L l3, .V v4, .L l5, .V v6, .L l7, .V v8, .L l9, .I i10, .I i11, .I i12, .B b13, .I i14, .I i15, .I i16, .S s17, .S s18, .V v19, .Z z20, .L l30, .V v32, .L l33, .V v34, .L l35, .V v36, .L l37, .V v38, .L l39, .I i40, .I i41, .I i42, .B b43, .I i44, .B (i31 == i45)]))) ∧ (
 (i15 ≠ 1) →
 ((
 (i15 = 2) →
  yN.sig.pre [.N n0, .L l1, .S s28, .S s29] ∧ (
 ∀ l30 : LD,
 ∀ i31 : Int,
  yN.sig.post [.N n0, .L l1, .S s28, .S s29, .L l30, .I i31] →
 R64 i31 →
  jO.sig.pre [.V v2, .L l3, .V v4, .L l5, .V v6, .L l7, .V v8, .L l9, .I i10, .I i11, .I i12, .B b13, .I i14, .S s28, .S s29] ∧ (
 ∀ v32 : Value,
 ∀ l33 : LD,
 ∀ v34 : Value,
 ∀ l35 : LD,
 ∀ v36 : Value,
 ∀ l37 : LD,
 ∀ v38 : Value,
 ∀ l39 : LD,
 ∀ i40 i41 i42 : Int,
 ∀ b43 : Bool,
 ∀ i44 i45 : Int,
  jO.sig.post [.V v2, .L l3, .V v4, .L l5, .V v6, .L l7, .V v8, .L l9, .I i10, .I i11, .I i12, .B b13, .I i14, .S s28, .S s29, .V v32, .L l33, .V v34, .L l35, .V v36, .L l37, .V v38, .L l39, .I i40, .I i41, .I i42, .B b43, .I i44, .I i45] →
 R64 i40 →
 R64 i41 →
 R64 i42 →
 R64 i44 →
 R64 i45 →
 (EK.ok [.str, .int .i64] (D.L l33)) →
 (EK.ok [.str, .int .i64] (D.L l35)) →
 (EK.ok [.str, .int .i64] (D.L l37)) →
 (EK.ok [.str, .str, .int .i64] (D.L l39)) →
 ∀ v46 v47 v48 v49 : Value,
 ∀ n50 : Nat,
  dS.sig.post [.N n0, .L l1, .V v2, .L l3, .V v4, .L l5, .V v6, .L l7, .V v8, .L l9, .I i10, .I i11, .I i12, .B b13, .I i14, .I i15, .I i16, .S s17, .S s18, .V v19, .Z z20, .L l30, .V v32, .L l33, .V v34, .L l35, .V v36, .L l37, .V v38, .L l39, .I i40, .I i41, .I i42, .B b43, .I i44, .B (i31 == i45)]))) ∧ (
 (i15 ≠ 2) →
 ((
 (i15 = 3) →
  zB.sig.pre [.N n0, .L l1, .S s28] ∧ (
 ∀ l30 : LD,
 ∀ i31 : Int,
  zB.sig.post [.N n0, .L l1, .S s28, .L l30, .I i31] →
 R64 i31 →
  kP.sig.pre [.V v2, .L l3, .V v4, .L l5, .V v6, .L l7, .V v8, .L l9, .I i10, .I i11, .I i12, .B b13, .I i14, .S s28] ∧ (
 ∀ v32 : Value,
 ∀ l33 : LD,
 ∀ v34 : Value,
 ∀ l35 : LD,
 ∀ v36 : Value,
 ∀ l37 : LD,
 ∀ v38 : Value,
 ∀ l39 : LD,
 ∀ i40 i41 i42 : Int,
 ∀ b43 : Bool,
 ∀ i44 i45 : Int,
  kP.sig.post [.V v2, .L l3, .V v4, .L l5, .V v6, .L l7, .V v8, .L l9, .I i10, .I i11, .I i12, .B b13, .I i14, .S s28, .V v32, .L l33, .V v34, .L l35, .V v36, .L l37, .V v38, .L l39, .I i40, .I i41, .I i42, .B b43, .I i44, .I i45] →
 R64 i40 →
 R64 i41 →
 R64 i42 →
 R64 i44 →
 R64 i45 →
 (EK.ok [.str, .int .i64] (D.L l33)) →
 (EK.ok [.str, .int .i64] (D.L l35)) →
 (EK.ok [.str, .int .i64] (D.L l37)) →
 (EK.ok [.str, .str, .int .i64] (D.L l39)) →
 ∀ v46 v47 v48 v49 : Value,
 ∀ n50 : Nat,
  dS.sig.post [.N n0, .L l1, .V v2, .L l3, .V v4, .L l5, .V v6, .L l7, .V v8, .L l9, .I i10, .I i11, .I i12, .B b13, .I i14, .I i15, .I i16, .S s17, .S s18, .V v19, .Z z20, .L l30, .V v32, .L l33, .V v34, .L l35, .V v36, .L l37, .V v38, .L l39, .I i40, .I i41, .I i42, .B b43, .I i44, .B (i31 == i45)]))) ∧ (
 (i15 ≠ 3) →
 ((
 (i15 = 4) →
   zC.sig.pre [.N n0, .L l1] ∧ (
 ∀ l30 : LD,
 ∀ i31 : Int,
   zC.sig.post [.N n0, .L l1, .L l30, .I i31] →
 R64 i31 →
   mO.sig.pre [.V v2, .L l3, .V v4, .L l5, .V v6, .L l7, .V v8, .L l9, .I i10, .I i11, .I i12, .B b13, .I i14] ∧ (
 ∀ v32 : Value,
 ∀ l33 : LD,
 ∀ v34 : Value,
 ∀ l35 : LD,
 ∀ v36 : Value,
 ∀ l37 : LD,
 ∀ v38 : Value,
 ∀ l39 : LD,
 ∀ i40 i41 i42 : Int,
 ∀ b43 : Bool,
 ∀ i44 i45 : Int,
   mO.sig.post [.V v2, .L l3, .V v4, .L l5, .V v6, .L l7, .V v8, .L l9, .I i10, .I i11, .I i12, .B b13, .I i14, .V v32, .L l33, .V v34, .L l35, .V v36, .L l37, .V v38, .L l39, .I i40, .I i41, .I i42, .B b43, .I i44, .I i45] →
 R64 i40 →
 R64 i41 →
 R64 i42 →
 R64 i44 →
 R64 i45 →
 (EK.ok [.str, .int .i64] (D.L l33)) →
 (EK.ok [.str, .int .i64] (D.L l35)) →
 (EK.ok [.str, .int .i64] (D.L l37)) →
 (EK.ok [.str, .str, .int .i64] (D.L l39)) →
 ∀ v46 v47 v48 v49 : Value,
 ∀ n50 : Nat,
   dS.sig.post [.N n0, .L l1, .V v2, .L l3, .V v4, .L l5, .V v6, .L l7, .V v8, .L l9, .I i10, .I i11, .I i12, .B b13, .I i14, .I i15, .I i16, .S s17, .S s18, .V v19, .Z z20, .L l30, .V v32, .L l33, .V v34, .L l35, .V v36, .L l37, .V v38, .L l39, .I i40, .I i41, .I i42, .B b43, .I i44, .B (i31 == i45)]))) ∧ (
 (i15 ≠ 4) →
 ((
 (i15 = 5) →
   yX.sig.pre [.N n0, .L l1, .S s28, .S s29] ∧ (
 ∀ l30 : LD,
 ∀ i31 : Int,
   yX.sig.post [.N n0, .L l1, .S s28, .S s29, .L l30, .I i31] →
 R64 i31 →
   jC.sig.pre [.V v2, .L l3, .V v4, .L l5, .V v6, .L l7, .V v8, .L l9, .I i10, .I i11, .I i12, .B b13, .I i14, .S s28, .S s29] ∧ (
 ∀ v32 : Value,
 ∀ l33 : LD,
 ∀ v34 : Value,
 ∀ l35 : LD,
 ∀ v36 : Value,
 ∀ l37 : LD,
 ∀ v38 : Value,
 ∀ l39 : LD,
 ∀ i40 i41 i42 : Int,
 ∀ b43 : Bool,
 ∀ i44 i45 : Int,
   jC.sig.post [.V v2, .L l3, .V v4, .L l5, .V v6, .L l7, .V v8, .L l9, .I i10, .I i11, .I i12, .B b13, .I i14, .S s28, .S s29, .V v32, .L l33, .V v34, .L l35, .V v36, .L l37, .V v38, .L l39, .I i40, .I i41, .I i42, .B b43, .I i44, .I i45] →
 R64 i40 →
 R64 i41 →
 R64 i42 →
 R64 i44 →
 R64 i45 →
 (EK.ok [.str, .int .i64] (D.L l33)) →
 (EK.ok [.str, .int .i64] (D.L l35)) →
 (EK.ok [.str, .int .i64] (D.L l37)) →
 (EK.ok [.str, .str, .int .i64] (D.L l39)) →
 ∀ v46 v47 v48 v49 : Value,
 ∀ n50 : Nat,
   dS.sig.post [.N n0, .L l1, .V v2, .L l3, .V v4, .L l5, .V v6, .L l7, .V v8, .L l9, .I i10, .I i11, .I i12, .B b13, .I i14, .I i15, .I i16, .S s17, .S s18, .V v19, .Z z20, .L l30, .V v32, .L l33, .V v34, .L l35, .V v36, .L l37, .V v38, .L l39, .I i40, .I i41, .I i42, .B b43, .I i44, .B (i31 == i45)]))) ∧ (
 (i15 ≠ 5) →
 ((
 (i15 = 6) →
    yV.sig.pre [.N n0, .L l1, .S s28] ∧ (
 ∀ l30 : LD,
 ∀ i31 : Int,
    yV.sig.post [.N n0, .L l1, .S s28, .L l30, .I i31] →
 R64 i31 →
    kD.sig.pre [.V v2, .L l3, .V v4, .L l5, .V v6, .L l7, .V v8, .L l9, .I i10, .I i11, .I i12, .B b13, .I i14, .S s28] ∧ (
 ∀ v32 : Value,
 ∀ l33 : LD,
 ∀ v34 : Value,
 ∀ l35 : LD,
 ∀ v36 : Value,
 ∀ l37 : LD,
 ∀ v38 : Value,
 ∀ l39 : LD,
 ∀ i40 i41 i42 : Int,
 ∀ b43 : Bool,
 ∀ i44 i45 : Int,
    kD.sig.post [.V v2, .L l3, .V v4, .L l5, .V v6, .L l7, .V v8, .L l9, .I i10, .I i11, .I i12, .B b13, .I i14, .S s28, .V v32, .L l33, .V v34, .L l35, .V v36, .L l37, .V v38, .L l39, .I i40, .I i41, .I i42, .B b43, .I i44, .I i45] →
 R64 i40 →
 R64 i41 →
 R64 i42 →
 R64 i44 →
 R64 i45 →
 (EK.ok [.str, .int .i64] (D.L l33)) →
 (EK.ok [.str, .int .i64] (D.L l35)) →
 (EK.ok [.str, .int .i64] (D.L l37)) →
 (EK.ok [.str, .str, .int .i64] (D.L l39)) →
 ∀ v46 v47 v48 v49 : Value,
 ∀ n50 : Nat,
    dS.sig.post [.N n0, .L l1, .V v2, .L l3, .V v4, .L l5, .V v6, .L l7, .V v8, .L l9, .I i10, .I i11, .I i12, .B b13, .I i14, .I i15, .I i16, .S s17, .S s18, .V v19, .Z z20, .L l30, .V v32, .L l33, .V v34, .L l35, .V v36, .L l37, .V v38, .L l39, .I i40, .I i41, .I i42, .B b43, .I i44, .B (i31 == i45)]))) ∧ (
 (i15 ≠ 6) →
 ((
 (i15 = 7) →
    yY.sig.pre [.N n0, .L l1, .V v19, .Z z20] ∧ (
 ∀ l30 : LD,
    yY.sig.post [.N n0, .L l1, .V v19, .Z z20, .L l30] →
    dK.sig.pre [.V v2, .L l3, .V v4, .L l5, .V v6, .L l7, .V v8, .L l9, .I i10, .I i11, .I i12, .B b13, .I i14, .V v19, .Z z20] ∧ (
 ∀ v31 : Value,
 ∀ l32 : LD,
 ∀ v33 : Value,
 ∀ l34 : LD,
 ∀ v35 : Value,
 ∀ l36 : LD,
 ∀ v37 : Value,
 ∀ l38 : LD,
 ∀ i39 i40 i41 : Int,
 ∀ b42 : Bool,
 ∀ i43 : Int,
    dK.sig.post [.V v2, .L l3, .V v4, .L l5, .V v6, .L l7, .V v8, .L l9, .I i10, .I i11, .I i12, .B b13, .I i14, .V v19, .Z z20, .V v31, .L l32, .V v33, .L l34, .V v35, .L l36, .V v37, .L l38, .I i39, .I i40, .I i41, .B b42, .I i43] →
 R64 i39 →
 R64 i40 →
 R64 i41 →
 R64 i43 →
 (EK.ok [.str, .int .i64] (D.L l32)) →
 (EK.ok [.str, .int .i64] (D.L l34)) →
 (EK.ok [.str, .int .i64] (D.L l36)) →
 (EK.ok [.str, .str, .int .i64] (D.L l38)) →
    dS.sig.post [.N n0, .L l1, .V v2, .L l3, .V v4, .L l5, .V v6, .L l7, .V v8, .L l9, .I i10, .I i11, .I i12, .B b13, .I i14, .I i15, .I i16, .S s17, .S s18, .V v19, .Z z20, .L l30, .V v31, .L l32, .V v33, .L l34, .V v35, .L l36, .V v37, .L l38, .I i39, .I i40, .I i41, .B b42, .I i43, .B true]))) ∧ (
 (i15 ≠ 7) →
 ((
 (i15 = 8) →
     yP.sig.pre [.N n0, .L l1, .I i16] ∧ (
 ∀ l30 : LD,
     yP.sig.post [.N n0, .L l1, .I i16, .L l30] →
     dS.sig.post [.N n0, .L l1, .V v2, .L l3, .V v4, .L l5, .V v6, .L l7, .V v8, .L l9, .I i10, .I i11, .I i12, .B b13, .I i14, .I i15, .I i16, .S s17, .S s18, .V v19, .Z z20, .L l30, .V v2, .L l3, .V v4, .L l5, .V v6, .L l7, .V v8, .L l9, .I i10, .I (eY i16 (-1 : Int)), .I i12, .B b13, .I i14, .B true])) ∧ (
 (i15 ≠ 8) →
 ((
 (i15 = 9) →
     yR.sig.pre [.N n0, .L l1, .I i16] ∧ (
 ∀ l30 : LD,
     yR.sig.post [.N n0, .L l1, .I i16, .L l30] →
     dS.sig.post [.N n0, .L l1, .V v2, .L l3, .V v4, .L l5, .V v6, .L l7, .V v8, .L l9, .I i10, .I i11, .I i12, .B b13, .I i14, .I i15, .I i16, .S s17, .S s18, .V v19, .Z z20, .L l30, .V v2, .L l3, .V v4, .L l5, .V v6, .L l7, .V v8, .L l9, .I i10, .I i11, .I (eY i16 (-1 : Int)), .B b13, .I i14, .B true])) ∧ (
 (i15 ≠ 9) →
 ((
 (i15 = 10) →
      yZ.sig.pre [.N n0, .L l1, .I i16] ∧ (
 ∀ l30 : LD,
      yZ.sig.post [.N n0, .L l1, .I i16, .L l30] →
      dS.sig.post [.N n0, .L l1, .V v2, .L l3, .V v4, .L l5, .V v6, .L l7, .V v8, .L l9, .I i10, .I i11, .I i12, .B b13, .I i14, .I i15, .I i16, .S s17, .S s18, .V v19, .Z z20, .L l30, .V v2, .L l3, .V v4, .L l5, .V v6, .L l7, .V v8, .L l9, .I (eY i16 0), .I i11, .I i12, .B b13, .I i14, .B true])) ∧ (
 (i15 ≠ 10) →
 ((
 (i15 = 11) →
      qH.sig.pre [.N n0, .L l1, .S s28] ∧ (
 ∀ s30 : BA,
 ∀ i31 : Int,
      qH.sig.post [.N n0, .L l1, .S s28, .S s30, .I i31] →
 ((s30.size : Int) ≤ 9223372036854775807) →
 R64 i31 →
      kN.sig.pre [.V v2, .L l3, .V v4, .L l5, .V v6, .L l7, .V v8, .L l9, .I i10, .I i11, .I i12, .B b13, .I i14, .S s28] ∧ (
 ∀ s32 : BA,
 ∀ i33 : Int,
      kN.sig.post [.V v2, .L l3, .V v4, .L l5, .V v6, .L l7, .V v8, .L l9, .I i10, .I i11, .I i12, .B b13, .I i14, .S s28, .S s32, .I i33] →
 ((s32.size : Int) ≤ 9223372036854775807) →
 R64 i33 →
 ((
 (i31 = i33) →
       dS.sig.post [.N n0, .L l1, .V v2, .L l3, .V v4, .L l5, .V v6, .L l7, .V v8, .L l9, .I i10, .I i11, .I i12, .B b13, .I i14, .I i15, .I i16, .S s17, .S s18, .V v19, .Z z20, .L l1, .V v2, .L l3, .V v4, .L l5, .V v6, .L l7, .V v8, .L l9, .I i10, .I i11, .I i12, .B b13, .I i14, .B (s30.toList == s32.toList)]) ∧ (
 (i31 ≠ i33) →
       dS.sig.post [.N n0, .L l1, .V v2, .L l3, .V v4, .L l5, .V v6, .L l7, .V v8, .L l9, .I i10, .I i11, .I i12, .B b13, .I i14, .I i15, .I i16, .S s17, .S s18, .V v19, .Z z20, .L l1, .V v2, .L l3, .V v4, .L l5, .V v6, .L l7, .V v8, .L l9, .I i10, .I i11, .I i12, .B b13, .I i14, .B false]))))) ∧ (
 (i15 ≠ 11) →
      dS.sig.post [.N n0, .L l1, .V v2, .L l3, .V v4, .L l5, .V v6, .L l7, .V v8, .L l9, .I i10, .I i11, .I i12, .B b13, .I i14, .I i15, .I i16, .S s17, .S s18, .V v19, .Z z20, .L l1, .V v2, .L l3, .V v4, .L l5, .V v6, .L l7, .V v8, .L l9, .I i10, .I i11, .I i12, .B b13, .I i14, .B true])))))))))))))))))))))))
abbrev aO.K0 (n0 : Nat) (l1 : LD) (i14 : Int) (v2 : Value) (l3 : LD) (v4 : Value) (l5 : LD) (v6 : Value) (l7 : LD) (v8 : Value) (l9 : LD) (i10 : Int) (i11 : Int) (i12 : Int) (b13 : Bool) : Prop :=
 (
   yO.sig.pre [.N n0, .L l1] ∧ (
 ∀ i19 : Int,
   yO.sig.post [.N n0, .L l1, .I i19] →
 R64 i19 →
 ((
 (i19 ≠ i14) →
    aO.sig.post [.N n0, .L l1, .V v2, .L l3, .V v4, .L l5, .V v6, .L l7, .V v8, .L l9, .I i10, .I i11, .I i12, .B b13, .I i14, .I (-1 : Int)]) ∧ (
 (i19 = i14) →
    aO.J0 [.N n0, .L l1, .V v2, .L l3, .V v4, .L l5, .V v6, .L l7, .V v8, .L l9, .I i10, .I i11, .I i12, .B b13, .I i14] ∧ (
 (
 ∀ n15 : Nat,
    aO.J0 [.N n0, .L l1, .V v2, .L l3, .V v4, .L l5, .V v6, .L l7, .V v8, .L l9, .I i10, .I i11, .I i12, .B b13, .I i14] →
    zA.sig.pre [.N n0, .L l1] ∧ (
 ∀ v16 : Value,
 ∀ l17 : LD,
 ∀ v18 : Value,
 ∀ l19 : LD,
    zA.sig.post [.N n0, .L l1, .V v16, .L l17, .V v18, .L l19] →
 (EK.ok [.str] (D.L l17)) →
 (EK.ok [.str] (D.L l19)) →
 ((
 ((l17.length : Int) ≠ (l7.length : Int)) →
    aO.sig.post [.N n0, .L l1, .V v2, .L l3, .V v4, .L l5, .V v6, .L l7, .V v8, .L l9, .I i10, .I i11, .I i12, .B b13, .I i14, .I (-1 : Int)]) ∧ (
 ((l17.length : Int) = (l7.length : Int)) →
 ((
 ((l19.length : Int) ≠ (l17.length : Int)) →
     aO.sig.post [.N n0, .L l1, .V v2, .L l3, .V v4, .L l5, .V v6, .L l7, .V v8, .L l9, .I i10, .I i11, .I i12, .B b13, .I i14, .I (-1 : Int)]) ∧ (
 ((l19.length : Int) = (l17.length : Int)) →
     aO.I0 [.N n0, .L l1, .V v2, .L l3, .V v4, .L l5, .V v6, .L l7, .V v8, .L l9, .I i10, .I i11, .I i12, .B b13, .I i14, .I 0] ∧ (
 ∀ i20 : Int,
 R64 i20 →
     aO.I0 [.N n0, .L l1, .V v2, .L l3, .V v4, .L l5, .V v6, .L l7, .V v8, .L l9, .I i10, .I i11, .I i12, .B b13, .I i14, .I i20] →
 ((
 (i20 < (l7.length : Int)) →
 Im (0 ≤ i20) (
 ∀ n21 : Nat,
 Im (0 ≤ ((l7.getD i20.toNat default).toL.getD (1 : Int).toNat default).toI) (
 Im (((l7.getD i20.toNat default).toL.getD (1 : Int).toNat default).toI < (l3.length : Int)) (
 ∀ n22 : Nat,
 Im (i20 < (l17.length : Int)) (
 ((
 ((l17.getD i20.toNat default).toS ≠ ((l7.getD i20.toNat default).toL.getD (0 : Int).toNat default).toS) →
      aO.sig.post [.N n0, .L l1, .V v2, .L l3, .V v4, .L l5, .V v6, .L l7, .V v8, .L l9, .I i10, .I i11, .I i12, .B b13, .I i14, .I (-1 : Int)]) ∧ (
 ((l17.getD i20.toNat default).toS = ((l7.getD i20.toNat default).toL.getD (0 : Int).toNat default).toS) →
 Im (i20 < (l19.length : Int)) (
 Im (0 ≤ ((l3.getD ((l7.getD i20.toNat default).toL.getD (1 : Int).toNat default).toI.toNat default).toL.getD (1 : Int).toNat default).toI) (
 Im (((l3.getD ((l7.getD i20.toNat default).toL.getD (1 : Int).toNat default).toI.toNat default).toL.getD (1 : Int).toNat default).toI ≤ (((l3.getD ((l7.getD i20.toNat default).toL.getD (1 : Int).toNat default).toI.toNat default).toL.getD (0 : Int).toNat default).toS.size : Int)) (
 ((
 ((l19.getD i20.toNat default).toS ≠ (((l3.getD ((l7.getD i20.toNat default).toL.getD (1 : Int).toNat default).toI.toNat default).toL.getD (0 : Int).toNat default).toS.extract (0 : Int).toNat ((l3.getD ((l7.getD i20.toNat default).toL.getD (1 : Int).toNat default).toI.toNat default).toL.getD (1 : Int).toNat default).toI.toNat)) →
      aO.sig.post [.N n0, .L l1, .V v2, .L l3, .V v4, .L l5, .V v6, .L l7, .V v8, .L l9, .I i10, .I i11, .I i12, .B b13, .I i14, .I (-1 : Int)]) ∧ (
 ((l19.getD i20.toNat default).toS = (((l3.getD ((l7.getD i20.toNat default).toL.getD (1 : Int).toNat default).toI.toNat default).toL.getD (0 : Int).toNat default).toS.extract (0 : Int).toNat ((l3.getD ((l7.getD i20.toNat default).toL.getD (1 : Int).toNat default).toI.toNat default).toL.getD (1 : Int).toNat default).toI.toNat)) →
      Bk aO.I0 aO.I0M [.N n0, .L l1, .V v2, .L l3, .V v4, .L l5, .V v6, .L l7, .V v8, .L l9, .I i10, .I i11, .I i12, .B b13, .I i14, .I (wrap .i64 (i20 + 1))] [.N n0, .L l1, .V v2, .L l3, .V v4, .L l5, .V v6, .L l7, .V v8, .L l9, .I i10, .I i11, .I i12, .B b13, .I i14, .I i20])))))))))))) ∧ (
 ((l7.length : Int) ≤ i20) →
     yT.sig.pre [.N n0, .L l1] ∧ (
 ∀ v21 : Value,
 ∀ l22 : LD,
 ∀ i23 : Int,
     yT.sig.post [.N n0, .L l1, .V v21, .L l22, .I i23] →
 R64 i23 →
 (EK.ok [.str] (D.L l22)) →
 ((
 (b13 = true) →
 ((
 (i23 ≠ 9) →
      aO.sig.post [.N n0, .L l1, .V v2, .L l3, .V v4, .L l5, .V v6, .L l7, .V v8, .L l9, .I i10, .I i11, .I i12, .B b13, .I i14, .I (-1 : Int)]) ∧ (
 (i23 = 9) →
 ((
 (0 < (l22.length : Int)) →
       aO.sig.post [.N n0, .L l1, .V v2, .L l3, .V v4, .L l5, .V v6, .L l7, .V v8, .L l9, .I i10, .I i11, .I i12, .B b13, .I i14, .I (-1 : Int)]) ∧ (
 ((l22.length : Int) ≤ (0 : Int)) →
       aO.sig.post [.N n0, .L l1, .V v2, .L l3, .V v4, .L l5, .V v6, .L l7, .V v8, .L l9, .I i10, .I i11, .I i12, .B b13, .I i14, .I 0]))))) ∧ (
 (b13 = false) →
 ((
 (i23 ≠ 0) →
      aO.sig.post [.N n0, .L l1, .V v2, .L l3, .V v4, .L l5, .V v6, .L l7, .V v8, .L l9, .I i10, .I i11, .I i12, .B b13, .I i14, .I (-1 : Int)]) ∧ (
 (i23 = 0) →
 ((
 ((l22.length : Int) ≠ (l5.length : Int)) →
       aO.sig.post [.N n0, .L l1, .V v2, .L l3, .V v4, .L l5, .V v6, .L l7, .V v8, .L l9, .I i10, .I i11, .I i12, .B b13, .I i14, .I (-1 : Int)]) ∧ (
 ((l22.length : Int) = (l5.length : Int)) →
       aO.I1 [.N n0, .L l1, .V v2, .L l3, .V v4, .L l5, .V v6, .L l7, .V v8, .L l9, .I i10, .I i11, .I i12, .B b13, .I i14, .I 0] ∧ (
 ∀ i24 : Int,
 R64 i24 →
       aO.I1 [.N n0, .L l1, .V v2, .L l3, .V v4, .L l5, .V v6, .L l7, .V v8, .L l9, .I i10, .I i11, .I i12, .B b13, .I i14, .I i24] →
 ((
 (i24 < (l5.length : Int)) →
 Im (0 ≤ i24) (
 ∀ n25 : Nat,
       qH.sig.pre [.N n0, .L l1, (D.S ((l5.getD i24.toNat default).toL.getD (0 : Int).toNat default).toS)] ∧ (
 ∀ s26 : BA,
 ∀ i27 : Int,
       qH.sig.post [.N n0, .L l1, (D.S ((l5.getD i24.toNat default).toL.getD (0 : Int).toNat default).toS), .S s26, .I i27] →
 ((s26.size : Int) ≤ 9223372036854775807) →
 R64 i27 →
 Im (i24 < (l22.length : Int)) (
 ((
 ((l22.getD i24.toNat default).toS ≠ ((l5.getD i24.toNat default).toL.getD (0 : Int).toNat default).toS) →
        aO.sig.post [.N n0, .L l1, .V v2, .L l3, .V v4, .L l5, .V v6, .L l7, .V v8, .L l9, .I i10, .I i11, .I i12, .B b13, .I i14, .I (-1 : Int)]) ∧ (
 ((l22.getD i24.toNat default).toS = ((l5.getD i24.toNat default).toL.getD (0 : Int).toNat default).toS) →
 ((
 (i27 ≠ 0) →
        aO.sig.post [.N n0, .L l1, .V v2, .L l3, .V v4, .L l5, .V v6, .L l7, .V v8, .L l9, .I i10, .I i11, .I i12, .B b13, .I i14, .I (-1 : Int)]) ∧ (
 (i27 = 0) →
 Im (0 ≤ ((l5.getD i24.toNat default).toL.getD (1 : Int).toNat default).toI) (
 Im (((l5.getD i24.toNat default).toL.getD (1 : Int).toNat default).toI < (l3.length : Int)) (
 ((
 (s26 ≠ ((l3.getD ((l5.getD i24.toNat default).toL.getD (1 : Int).toNat default).toI.toNat default).toL.getD (0 : Int).toNat default).toS) →
         aO.sig.post [.N n0, .L l1, .V v2, .L l3, .V v4, .L l5, .V v6, .L l7, .V v8, .L l9, .I i10, .I i11, .I i12, .B b13, .I i14, .I (-1 : Int)]) ∧ (
 (s26 = ((l3.getD ((l5.getD i24.toNat default).toL.getD (1 : Int).toNat default).toI.toNat default).toL.getD (0 : Int).toNat default).toS) →
         Bk aO.I1 aO.I1M [.N n0, .L l1, .V v2, .L l3, .V v4, .L l5, .V v6, .L l7, .V v8, .L l9, .I i10, .I i11, .I i12, .B b13, .I i14, .I (wrap .i64 (i24 + 1))] [.N n0, .L l1, .V v2, .L l3, .V v4, .L l5, .V v6, .L l7, .V v8, .L l9, .I i10, .I i11, .I i12, .B b13, .I i14, .I i24])))))))))))) ∧ (
 ((l5.length : Int) ≤ i24) →
       aO.sig.post [.N n0, .L l1, .V v2, .L l3, .V v4, .L l5, .V v6, .L l7, .V v8, .L l9, .I i10, .I i11, .I i12, .B b13, .I i14, .I 0]))))))))))))))))))))))))
abbrev aO.K1 (n0 : Nat) (l1 : LD) (v2 : Value) (l3 : LD) (v4 : Value) (l5 : LD) (v6 : Value) (l7 : LD) (v8 : Value) (l9 : LD) (i10 : Int) (i11 : Int) (i12 : Int) (b13 : Bool) (i14 : Int) : Prop :=
 (
  yS.sig.pre [.N n0, .L l1] ∧ (
 ∀ i16 : Int,
  yS.sig.post [.N n0, .L l1, .I i16] →
 R64 i16 →
  dZ.sig.pre [.V v2, .L l3, .V v4, .L l5, .V v6, .L l7, .V v8, .L l9, .I i10, .I i11, .I i12, .B b13, .I i14] ∧ (
 ∀ i17 : Int,
  dZ.sig.post [.V v2, .L l3, .V v4, .L l5, .V v6, .L l7, .V v8, .L l9, .I i10, .I i11, .I i12, .B b13, .I i14, .I i17] →
 R64 i17 →
 ((
 (i16 ≠ i17) →
  aO.sig.post [.N n0, .L l1, .V v2, .L l3, .V v4, .L l5, .V v6, .L l7, .V v8, .L l9, .I i10, .I i11, .I i12, .B b13, .I i14, .I (-1 : Int)]) ∧ (
 (i16 = i17) →
 ((
  sK.sig.pre [.N n0, .L l1] ∧ (
 ∀ b18 : Bool,
  sK.sig.post [.N n0, .L l1, .B b18] →
 ((
 (b18 ≠ b13) →
   aO.sig.post [.N n0, .L l1, .V v2, .L l3, .V v4, .L l5, .V v6, .L l7, .V v8, .L l9, .I i10, .I i11, .I i12, .B b13, .I i14, .I (-1 : Int)]) ∧ (
 (b18 = b13) →
 ((aO.K0 n0 l1 i14 v2 l3 v4 l5 v6 l7 v8 l9 i10 i11 i12 b13) ∧ (aO.K0 n0 l1 i14 v2 l3 v4 l5 v6 l7 v8 l9 i10 i11 i12 b13)))))) ∧ (
  sK.sig.pre [.N n0, .L l1] ∧ (
 ∀ b18 : Bool,
  sK.sig.post [.N n0, .L l1, .B b18] →
 ((
 (b18 ≠ b13) →
   aO.sig.post [.N n0, .L l1, .V v2, .L l3, .V v4, .L l5, .V v6, .L l7, .V v8, .L l9, .I i10, .I i11, .I i12, .B b13, .I i14, .I (-1 : Int)]) ∧ (
 (b18 = b13) →
 ((aO.K0 n0 l1 i14 v2 l3 v4 l5 v6 l7 v8 l9 i10 i11 i12 b13) ∧ (aO.K0 n0 l1 i14 v2 l3 v4 l5 v6 l7 v8 l9 i10 i11 i12 b13))))))))))))
def aO.Pure : Prop :=
 ∀ n0 : Nat,
 ∀ l1 : LD,
 ∀ v2 : Value,
 ∀ l3 : LD,
 ∀ v4 : Value,
 ∀ l5 : LD,
 ∀ v6 : Value,
 ∀ l7 : LD,
 ∀ v8 : Value,
 ∀ l9 : LD,
 ∀ i10 i11 i12 : Int,
 ∀ b13 : Bool,
 ∀ i14 : Int,
 R64 i10 →
 R64 i11 →
 R64 i12 →
 R64 i14 →
 (EK.ok [.str, .int .i64] (D.L l3)) →
 (EK.ok [.str, .int .i64] (D.L l5)) →
 (EK.ok [.str, .int .i64] (D.L l7)) →
 (EK.ok [.str, .str, .int .i64] (D.L l9)) →
 aO.sig.pre [.N n0, .L l1, .V v2, .L l3, .V v4, .L l5, .V v6, .L l7, .V v8, .L l9, .I i10, .I i11, .I i12, .B b13, .I i14] →
 ∀ n15 : Nat,
 ((aO.K1 n0 l1 v2 l3 v4 l5 v6 l7 v8 l9 i10 i11 i12 b13 i14) ∧ (aO.K1 n0 l1 v2 l3 v4 l5 v6 l7 v8 l9 i10 i11 i12 b13 i14))
def dV.Pure : Prop :=
 ∀ i0 : Int,
 ∀ v1 : Value,
 ∀ l2 : LD,
 R64 i0 →
 (EK.ok [.int .i64, .int .i64, .str, .str, .sl [.int .i64]] (D.L l2)) →
 dV.sig.pre [.I i0, .V v1, .L l2] →
 yU.sig.pre [.I i0] ∧ (
 ∀ n3 : Nat,
 ∀ l4 : LD,
 yU.sig.post [.I i0, .N n3, .L l4] →
 mM.sig.pre [.I i0] ∧ (
 ∀ v5 : Value,
 ∀ l6 : LD,
 ∀ v7 : Value,
 ∀ l8 : LD,
 ∀ v9 : Value,
 ∀ l10 : LD,
 ∀ v11 : Value,
 ∀ l12 : LD,
 ∀ i13 i14 i15 : Int,
 ∀ b16 : Bool,
 ∀ i17 : Int,
 mM.sig.post [.I i0, .V v5, .L l6, .V v7, .L l8, .V v9, .L l10, .V v11, .L l12, .I i13, .I i14, .I i15, .B b16, .I i17] →
 R64 i13 →
 R64 i14 →
 R64 i15 →
 R64 i17 →
 (EK.ok [.str, .int .i64] (D.L l6)) →
 (EK.ok [.str, .int .i64] (D.L l8)) →
 (EK.ok [.str, .int .i64] (D.L l10)) →
 (EK.ok [.str, .str, .int .i64] (D.L l12)) →
 ∀ v18 v19 v20 v21 : Value,
 ∀ n22 : Nat,
 iU.sig.pre [] ∧ (
 ∀ b23 : Bool,
 iU.sig.post [.B b23] →
 ((
 (b23 = false) →
  dV.sig.post [.I i0, .V v1, .L l2, .B false]) ∧ (
 (b23 = true) →
  aO.sig.pre [.N n3, .L l4, .V v5, .L l6, .V v7, .L l8, .V v9, .L l10, .V v11, .L l12, .I i13, .I i14, .I i15, .B b16, .I i17] ∧ (
 ∀ i24 : Int,
  aO.sig.post [.N n3, .L l4, .V v5, .L l6, .V v7, .L l8, .V v9, .L l10, .V v11, .L l12, .I i13, .I i14, .I i15, .B b16, .I i17, .I i24] →
 R64 i24 →
 ((
 (i24 ≠ 0) →
  dV.sig.post [.I i0, .V v1, .L l2, .B false]) ∧ (
 (i24 = 0) →
  dV.I0 [.I i0, .V v1, .L l2, .I 0, .L l4, .L l6, .L l8, .L l10, .L l12, .I i13, .I i14, .I i15, .B b16, .I i17] ∧ (
 ∀ i25 : Int,
 ∀ l26 : LD,
 ∀ v27 : Value,
 ∀ l28 : LD,
 ∀ v29 : Value,
 ∀ l30 : LD,
 ∀ v31 : Value,
 ∀ l32 : LD,
 ∀ v33 : Value,
 ∀ l34 : LD,
 ∀ i35 i36 i37 : Int,
 ∀ b38 : Bool,
 ∀ i39 : Int,
 R64 i25 →
 R64 i35 →
 R64 i36 →
 R64 i37 →
 R64 i39 →
 (EK.ok [.str, .int .i64] (D.L l28)) →
 (EK.ok [.str, .int .i64] (D.L l30)) →
 (EK.ok [.str, .int .i64] (D.L l32)) →
 (EK.ok [.str, .str, .int .i64] (D.L l34)) →
  dV.I0 [.I i0, .V v1, .L l2, .I i25, .L l26, .L l28, .L l30, .L l32, .L l34, .I i35, .I i36, .I i37, .B b38, .I i39] →
 ((
 (i25 < (l2.length : Int)) →
 ((
 (i25 < 40) →
 Im (0 ≤ i25) (
 ((
   dS.sig.pre [.N n3, .L l26, .V v27, .L l28, .V v29, .L l30, .V v31, .L l32, .V v33, .L l34, .I i35, .I i36, .I i37, .B b38, .I i39, (D.I ((l2.getD i25.toNat default).toL.getD (0 : Int).toNat default).toI), (D.I ((l2.getD i25.toNat default).toL.getD (1 : Int).toNat default).toI), (D.S ((l2.getD i25.toNat default).toL.getD (2 : Int).toNat default).toS), (D.S ((l2.getD i25.toNat default).toL.getD (3 : Int).toNat default).toS), (D.V (((l2.getD i25.toNat default).toL.getD (4 : Int).toNat default).toL.getD (0 : Int).toNat default).toV), (D.Z (((l2.getD i25.toNat default).toL.getD (4 : Int).toNat default).toL.getD (1 : Int).toNat default).aC)] ∧ (
 ∀ l40 : LD,
 ∀ v41 : Value,
 ∀ l42 : LD,
 ∀ v43 : Value,
 ∀ l44 : LD,
 ∀ v45 : Value,
 ∀ l46 : LD,
 ∀ v47 : Value,
 ∀ l48 : LD,
 ∀ i49 i50 i51 : Int,
 ∀ b52 : Bool,
 ∀ i53 : Int,
 ∀ b54 : Bool,
   dS.sig.post [.N n3, .L l26, .V v27, .L l28, .V v29, .L l30, .V v31, .L l32, .V v33, .L l34, .I i35, .I i36, .I i37, .B b38, .I i39, (D.I ((l2.getD i25.toNat default).toL.getD (0 : Int).toNat default).toI), (D.I ((l2.getD i25.toNat default).toL.getD (1 : Int).toNat default).toI), (D.S ((l2.getD i25.toNat default).toL.getD (2 : Int).toNat default).toS), (D.S ((l2.getD i25.toNat default).toL.getD (3 : Int).toNat default).toS), (D.V (((l2.getD i25.toNat default).toL.getD (4 : Int).toNat default).toL.getD (0 : Int).toNat default).toV), (D.Z (((l2.getD i25.toNat default).toL.getD (4 : Int).toNat default).toL.getD (1 : Int).toNat default).aC), .L l40, .V v41, .L l42, .V v43, .L l44, .V v45, .L l46, .V v47, .L l48, .I i49, .I i50, .I i51, .B b52, .I i53, .B b54] →
 R64 i49 →
 R64 i50 →
 R64 i51 →
 R64 i53 →
 (EK.ok [.str, .int .i64] (D.L l42)) →
 (EK.ok [.str, .int .i64] (D.L l44)) →
 (EK.ok [.str, .int .i64] (D.L l46)) →
 (EK.ok [.str, .str, .int .i64] (D.L l48)) →
 ∀ v55 v56 v57 v58 : Value,
 ∀ n59 : Nat,
 ((
 (b54 = false) →
    dV.sig.post [.I i0, .V v1, .L l2, .B false]) ∧ (
 (b54 = true) →
    aO.sig.pre [.N n3, .L l40, .V v41, .L l42, .V v43, .L l44, .V v45, .L l46, .V v47, .L l48, .I i49, .I i50, .I i51, .B b52, .I i53] ∧ (
 ∀ i60 : Int,
    aO.sig.post [.N n3, .L l40, .V v41, .L l42, .V v43, .L l44, .V v45, .L l46, .V v47, .L l48, .I i49, .I i50, .I i51, .B b52, .I i53, .I i60] →
 R64 i60 →
 ((
 (i60 ≠ 0) →
    dV.sig.post [.I i0, .V v1, .L l2, .B false]) ∧ (
 (i60 = 0) →
    Bk dV.I0 dV.I0M [.I i0, .V v1, .L l2, .I (wrap .i64 (i25 + 1)), .L l40, .L l42, .L l44, .L l46, .L l48, .I i49, .I i50, .I i51, .B b52, .I i53] [.I i0, .V v1, .L l2, .I i25, .L l26, .L l28, .L l30, .L l32, .L l34, .I i35, .I i36, .I i37, .B b38, .I i39]))))))) ∧ (
 ∀ v40 v41 v42 v43 : Value,
 ∀ n44 : Nat,
   dS.sig.pre [.N n3, .L l26, .V v27, .L l28, .V v29, .L l30, .V v31, .L l32, .V v33, .L l34, .I i35, .I i36, .I i37, .B b38, .I i39, (D.I ((l2.getD i25.toNat default).toL.getD (0 : Int).toNat default).toI), (D.I ((l2.getD i25.toNat default).toL.getD (1 : Int).toNat default).toI), (D.S ((l2.getD i25.toNat default).toL.getD (2 : Int).toNat default).toS), (D.S ((l2.getD i25.toNat default).toL.getD (3 : Int).toNat default).toS), (D.V (((l2.getD i25.toNat default).toL.getD (4 : Int).toNat default).toL.getD (0 : Int).toNat default).toV), (D.Z (((l2.getD i25.toNat default).toL.getD (4 : Int).toNat default).toL.getD (1 : Int).toNat default).aC)] ∧ (
 ∀ l45 : LD,
 ∀ v46 : Value,
 ∀ l47 : LD,
 ∀ v48 : Value,
 ∀ l49 : LD,
 ∀ v50 : Value,
 ∀ l51 : LD,
 ∀ v52 : Value,
 ∀ l53 : LD,
 ∀ i54 i55 i56 : Int,
 ∀ b57 : Bool,
 ∀ i58 : Int,
 ∀ b59 : Bool,
   dS.sig.post [.N n3, .L l26, .V v27, .L l28, .V v29, .L l30, .V v31, .L l32, .V v33, .L l34, .I i35, .I i36, .I i37, .B b38, .I i39, (D.I ((l2.getD i25.toNat default).toL.getD (0 : Int).toNat default).toI), (D.I ((l2.getD i25.toNat default).toL.getD (1 : Int).toNat default).toI), (D.S ((l2.getD i25.toNat default).toL.getD (2 : Int).toNat default).toS), (D.S ((l2.getD i25.toNat default).toL.getD (3 : Int).toNat default).toS), (D.V (((l2.getD i25.toNat default).toL.getD (4 : Int).toNat default).toL.getD (0 : Int).toNat default).toV), (D.Z (((l2.getD i25.toNat default).toL.getD (4 : Int).toNat default).toL.getD (1 : Int).toNat default).aC), .L l45, .V v46, .L l47, .V v48, .L l49, .V v50, .L l51, .V v52, .L l53, .I i54, .I i55, .I i56, .B b57, .I i58, .B b59] →
 R64 i54 →
 R64 i55 →
 R64 i56 →
 R64 i58 →
 (EK.ok [.str, .int .i64] (D.L l47)) →
 (EK.ok [.str, .int .i64] (D.L l49)) →
 (EK.ok [.str, .int .i64] (D.L l51)) →
 (EK.ok [.str, .str, .int .i64] (D.L l53)) →
 ((
 (b59 = false) →
    dV.sig.post [.I i0, .V v1, .L l2, .B false]) ∧ (
 (b59 = true) →
    aO.sig.pre [.N n3, .L l45, .V v46, .L l47, .V v48, .L l49, .V v50, .L l51, .V v52, .L l53, .I i54, .I i55, .I i56, .B b57, .I i58] ∧ (
 ∀ i60 : Int,
    aO.sig.post [.N n3, .L l45, .V v46, .L l47, .V v48, .L l49, .V v50, .L l51, .V v52, .L l53, .I i54, .I i55, .I i56, .B b57, .I i58, .I i60] →
 R64 i60 →
 ((
 (i60 ≠ 0) →
    dV.sig.post [.I i0, .V v1, .L l2, .B false]) ∧ (
 (i60 = 0) →
    Bk dV.I0 dV.I0M [.I i0, .V v1, .L l2, .I (wrap .i64 (i25 + 1)), .L l45, .L l47, .L l49, .L l51, .L l53, .I i54, .I i55, .I i56, .B b57, .I i58] [.I i0, .V v1, .L l2, .I i25, .L l26, .L l28, .L l30, .L l32, .L l34, .I i35, .I i36, .I i37, .B b38, .I i39])))))))))) ∧ (
 (40 ≤ i25) →
   dV.sig.post [.I i0, .V v1, .L l2, .B true]))) ∧ (
 ((l2.length : Int) ≤ i25) →
  dV.sig.post [.I i0, .V v1, .L l2, .B true])))))))))))
end Go.Vc
namespace Go.Vc
open Dk (Ds Fi Cg fileAt)
theorem cI6 {n b : Nat} {x : Ds} (h : Lim n b x) (c : Int) : Lim n b { x with room := max c 0 } := ⟨h.inv.same rfl rfl rfl rfl, h.files, h.hist, h.pend, h.calls0, h.calls, by show 0 ≤ max c 0; omega, h.bytes⟩
theorem bX7 {n b : Nat} {x : Ds} (h : Lim n b x) (c : Int) : Lim n b { x with fail := c } := ⟨h.inv.same rfl rfl rfl rfl, h.files, h.hist, h.pend, h.calls0, h.calls, h.room, h.bytes⟩
theorem bD2 (s : BA) (k : Nat) : (s.extract 0 k).size ≤ k := by rw [ByteArray.size_extract]; omega
theorem dS.pure : dS.Pure := by
 intro n0 l1 v2 l3 v4 l5 v6 l7 v8 l9 i10 i11 i12 b13 i14 i15 i16 s17 s18 v19 z20 _ _ _ _ _ _ _ _ _ _ _ _ _ hp n21 n22 v23 v24 v25 v26 n27
 obtain ⟨x, n, b, r, rf, lm, hn, hb⟩ := hp
 have r : bC l1 x := r
 have rf : Rf l3 l5 l7 l9 i10 i11 i12 b13 i14 x := ⟨rf.1, rf.2, rf.3, rf.4, rf.5, rf.6, rf.7, rf.8, rf.9⟩
 have sx := lm.small (by omega) (by omega)
 have key : ∀ (l' : LD) (u0 u2 u4 u6 : Value) (m1 m3 m5 m7 : LD) (j8 j9 j10 : Int) (c11 : Bool) (j12 : Int) (bb : Bool) (z : Ds), bb = true → bC l' z → Rf m1 m3 m5 m7 j8 j9 j10 c11 j12 z → (∀ n b, Lim n b x → Lim (n + 1) (b + 100) z) →
   dS.sig.post [.N n0, .L l1, .V v2, .L l3, .V v4, .L l5, .V v6, .L l7, .V v8, .L l9, .I i10, .I i11, .I i12, .B b13, .I i14, .I i15, .I i16, .S s17, .S s18, .V v19, .Z z20, .L l', .V u0, .L m1, .V u2, .L m3, .V u4, .L m5, .V u6, .L m7, .I j8, .I j9, .I j10, .B c11, .I j12, .B bb] :=
  fun l' u0 u2 u4 u6 m1 m3 m5 m7 j8 j9 j10 c11 j12 bb z h1 h2 h3 h4 y n b _ hy hl _ _ => by
   obtain rfl := rf.inj ⟨hy.1, hy.2, hy.3, hy.4, hy.5, hy.6, hy.7, hy.8, hy.9⟩
   exact ⟨h1, z, h2, ⟨h3.1, h3.2, h3.3, h3.4, h3.5, h3.6, h3.7, h3.8, h3.9⟩, h4 n b hl⟩
 refine ⟨trivial, fun s28 s29 hfew _ _ => ?_⟩
 obtain ⟨e28, e29⟩ : s28 = s17.extract 0 8 ∧ s29 = (if i15 = 5 then (s18.extract 0 100).extract 0 8 else s18.extract 0 100) := hfew
 have z29 : s29.size ≤ 100 := by
  rw [e29]; split
  ·have := bD2 (s18.extract 0 100) 8; omega
  ·exact bD2 _ _
 have up : ∀ (f : Nat → Nat → Ds → Prop) , True := fun _ => trivial
 have le1 : ∀ {n b : Nat} {z : Ds}, Lim (n + 1) b z → Lim (n + 1) (b + 100) z := fun h => h.mono (Nat.le_refl _) (by omega)
 have le0 : ∀ {n b : Nat} {z : Ds}, Lim n b z → Lim (n + 1) (b + 100) z := fun h => h.mono (by omega) (by omega)
 refine ⟨fun _ => ⟨⟨x, r, sx⟩, fun l30 i31 hq _ => ⟨⟨x, rf.at, sx⟩, fun v32 l33 v34 l35 v36 l37 v38 l39 i40 i41 i42 b43 i44 i45 hz => ?_⟩⟩, fun _ =>
  ⟨fun _ => ⟨⟨x, r, sx⟩, fun l30 i31 hq _ => ⟨⟨⟨x, rf.at, sx⟩, by show s29.size ≤ 1000000; omega⟩, fun v32 l33 v34 l35 v36 l37 v38 l39 i40 i41 i42 b43 i44 i45 hz => ?_⟩⟩, fun _ =>
  ⟨fun _ => ⟨⟨x, r, sx⟩, fun l30 i31 hq _ => ⟨⟨x, rf.at, sx⟩, fun v32 l33 v34 l35 v36 l37 v38 l39 i40 i41 i42 b43 i44 i45 hz => ?_⟩⟩, fun _ =>
  ⟨fun _ => ⟨⟨x, r, sx⟩, fun l30 i31 hq _ => ⟨⟨x, rf.at, sx⟩, fun v32 l33 v34 l35 v36 l37 v38 l39 i40 i41 i42 b43 i44 i45 hz => ?_⟩⟩, fun _ =>
  ⟨fun _ => ⟨⟨x, r, sx⟩, fun l30 i31 hq _ => ⟨⟨x, rf.at, sx⟩, fun v32 l33 v34 l35 v36 l37 v38 l39 i40 i41 i42 b43 i44 i45 hz => ?_⟩⟩, fun _ =>
  ⟨fun _ => ⟨⟨x, r, sx⟩, fun l30 i31 hq _ => ⟨⟨x, rf.at, sx⟩, fun v32 l33 v34 l35 v36 l37 v38 l39 i40 i41 i42 b43 i44 i45 hz => ?_⟩⟩, fun _ =>
  ⟨fun _ => ⟨⟨x, r, sx⟩, fun l30 hq => ⟨⟨x, rf.at, sx⟩, fun v32 l33 v34 l35 v36 l37 v38 l39 i40 i41 i42 b43 i44 hz => ?_⟩⟩, fun _ =>
  ⟨fun _ => ⟨⟨x, r, sx⟩, fun l30 hq => ?_⟩, fun _ => ⟨fun _ => ⟨⟨x, r, sx⟩, fun l30 hq => ?_⟩, fun _ => ⟨fun _ => ⟨⟨x, r, sx⟩, fun l30 hq => ?_⟩, fun _ =>
  ⟨fun _ => ⟨⟨x, r, sx⟩, fun s30 i31 hq _ _ => ⟨⟨x, rf.at, sx⟩, fun s32 i33 hz _ _ => ?_⟩⟩, fun _ => key _ _ _ _ _ _ _ _ _ _ _ _ _ _ _ x rfl r rf fun n b h => le0 h⟩⟩⟩⟩⟩⟩⟩⟩⟩⟩⟩
 all_goals intros
 ·obtain ⟨q1, q2⟩ := hq x r sx
  obtain ⟨z1, z2⟩ := hz x rf.at sx
  exact key _ _ _ _ _ _ _ _ _ _ _ _ _ _ _ _ (beq_iff_eq.2 (q2.trans z2.symm)) q1 ⟨z1.1, z1.2, z1.3, z1.4, z1.5, z1.6, z1.7, z1.8, z1.9⟩ fun n b h => le1 (cC3 h _)
 ·obtain ⟨q1, q2⟩ := hq x r sx
  obtain ⟨z1, z2⟩ := hz x rf.at sx
  exact key _ _ _ _ _ _ _ _ _ _ _ _ _ _ _ _ (beq_iff_eq.2 (q2.trans z2.symm)) q1 ⟨z1.1, z1.2, z1.3, z1.4, z1.5, z1.6, z1.7, z1.8, z1.9⟩ fun n b h => (cC0 h _ _).mono (Nat.le_refl _) (Nat.add_le_add_left z29 b)
 ·obtain ⟨q1, q2⟩ := hq x r sx
  obtain ⟨z1, z2⟩ := hz x rf.at sx
  exact key _ _ _ _ _ _ _ _ _ _ _ _ _ _ _ _ (beq_iff_eq.2 (q2.trans z2.symm)) q1 ⟨z1.1, z1.2, z1.3, z1.4, z1.5, z1.6, z1.7, z1.8, z1.9⟩ fun n b h => le1 (cC8 h _)
 ·obtain ⟨q1, q2⟩ := hq x r sx
  obtain ⟨z1, z2⟩ := hz x rf.at sx
  exact key _ _ _ _ _ _ _ _ _ _ _ _ _ _ _ _ (beq_iff_eq.2 (q2.trans z2.symm)) q1 ⟨z1.1, z1.2, z1.3, z1.4, z1.5, z1.6, z1.7, z1.8, z1.9⟩ fun n b h => le1 (cC9 h)
 ·obtain ⟨q1, q2⟩ := hq x r sx
  obtain ⟨z1, z2⟩ := hz x rf.at sx
  exact key _ _ _ _ _ _ _ _ _ _ _ _ _ _ _ _ (beq_iff_eq.2 (q2.trans z2.symm)) q1 ⟨z1.1, z1.2, z1.3, z1.4, z1.5, z1.6, z1.7, z1.8, z1.9⟩ fun n b h => le1 (cC6 h _ _)
 ·obtain ⟨q1, q2⟩ := hq x r sx
  obtain ⟨z1, z2⟩ := hz x rf.at sx
  exact key _ _ _ _ _ _ _ _ _ _ _ _ _ _ _ _ (beq_iff_eq.2 (q2.trans z2.symm)) q1 ⟨z1.1, z1.2, z1.3, z1.4, z1.5, z1.6, z1.7, z1.8, z1.9⟩ fun n b h => le1 (cC5 h _)
 ·have z1 := hz x rf.at sx
  exact key _ _ _ _ _ _ _ _ _ _ _ _ _ _ _ _ rfl (hq x r sx) ⟨z1.1, z1.2, z1.3, z1.4, z1.5, z1.6, z1.7, z1.8, z1.9⟩ fun n b h => le0 (cC7 h _)
 ·exact key _ _ _ _ _ _ _ _ _ _ _ _ _ _ _ _ rfl (hq x r sx) ⟨rf.1, rf.2, rf.3, rf.4, rf.5, pW _ _, rf.7, rf.8, rf.9⟩ fun n b h => le0 (cC1 h _)
 ·exact key _ _ _ _ _ _ _ _ _ _ _ _ _ _ _ _ rfl (hq x r sx) ⟨rf.1, rf.2, rf.3, rf.4, rf.5, rf.6, pW _ _, rf.8, rf.9⟩ fun n b h => le0 (bX7 h _)
 ·exact key _ _ _ _ _ _ _ _ _ _ _ _ _ _ _ _ rfl (hq x r sx) ⟨rf.1, rf.2, rf.3, rf.4, pW _ _, rf.6, rf.7, rf.8, rf.9⟩ fun n b h => le0 (cI6 h _)
 ·have q := (hq x r sx).trans (hz x rf.at sx).symm
  simp only [Prod.mk.injEq] at q
  have q1 : s30 = s32 := gG q.1
  have q2 : i31 = i33 := q.2
  exact ⟨fun _ => key _ _ _ _ _ _ _ _ _ _ _ _ _ _ _ x (by rw [q1]; simp) r rf fun n b h => le0 h, fun h => absurd q2 h⟩
theorem dV.pure : dV.Pure := by
 intro i0 v1 l2 _ _ _
 refine ⟨trivial, fun n3 l4 hq => ⟨trivial, fun v5 l6 v7 l8 v9 l10 v11 l12 i13 i14 i15 b16 i17 hz => ?_⟩⟩
 have r : bC l4 (Dk.new i0) := hq
 have rf : Rf l6 l8 l10 l12 i13 i14 i15 b16 i17 (Dk.new i0) := ⟨hz.1, hz.2, hz.3, hz.4, hz.5, hz.6, hz.7, hz.8, hz.9⟩
 have h0 := cC4 i0
 have sx := h0.small (by omega) (by omega)
 intro _ _ _ _ _ _ _ _ _ _ _ _ _
 refine ⟨trivial, fun b23 hb => ⟨fun h => ?_, fun _ => ⟨⟨_, r, ⟨rf.1, rf.2, rf.3, rf.4, rf.5, rf.6, rf.7, rf.8, rf.9⟩, sx⟩, fun i24 hs _ => ⟨fun h => absurd hs h, fun _ => ⟨⟨_, Int.le_refl _, by show (0 : Int) ≤ 40; omega, r, rf, h0⟩, ?_⟩⟩⟩⟩⟩
 ·have hb : b23 = true := hb
  rw [hb] at h; cases h
 intro i25 l26 v27 l28 v29 l30 v31 l32 v33 l34 i35 i36 i37 b38 i39 _ _ _ _ _ _ _ _ _ h
 obtain ⟨x, p⟩ := h
 have p : aJ3 i25 l26 l28 l30 l32 l34 i35 i36 i37 b38 i39 x := p
 obtain ⟨lo, hi, r, rf, lm⟩ := p
 have rp : bC l26 x := r
 have ra : bY (.V v27 :: .L l28 :: .V v29 :: .L l30 :: .V v31 :: .L l32 :: .V v33 :: .L l34 :: .I i35 :: .I i36 :: .I i37 :: .B b38 :: .I i39 :: []) 0 x := rf.at
 refine ⟨fun h1 => ⟨fun h2 => ⟨lo, fun _ => ⟨⟨⟨x, _, _, rp, ⟨rf.1, rf.2, rf.3, rf.4, rf.5, rf.6, rf.7, rf.8, rf.9⟩, lm, by omega, by omega⟩, fun l40 v41 l42 v43 l44 v45 l46 v47 l48 i49 i50 i51 b52 i53 b54 hd => ?_⟩,
  fun v40 v41 v42 v43 n44 => ⟨⟨x, _, _, rp, ⟨rf.1, rf.2, rf.3, rf.4, rf.5, rf.6, rf.7, rf.8, rf.9⟩, lm, by omega, by omega⟩, fun l40 v41 l42 v43 l44 v45 l46 v47 l48 i49 i50 i51 b52 i53 b54 hd => ?_⟩⟩⟩, fun _ => rfl⟩, fun _ => rfl⟩
 all_goals
  obtain ⟨hb, y, ry, rfy, ly⟩ := hd x i25.toNat (100 * i25.toNat) rp ⟨rf.1, rf.2, rf.3, rf.4, rf.5, rf.6, rf.7, rf.8, rf.9⟩ lm (by omega) (by omega)
  have hb : b54 = true := hb
  have ry : bC l40 y := ry
  intros
  refine ⟨fun h => (by rw [hb] at h; cases h), fun _ => ⟨⟨y, ry, ⟨rfy.1, rfy.2, rfy.3, rfy.4, rfy.5, rfy.6, rfy.7, rfy.8, rfy.9⟩, ly.small (by omega) (by omega)⟩, fun i60 hs _ => ⟨fun h => absurd hs h, fun _ => ?_⟩⟩⟩
  rw [wrap64 (by omega) (by omega)]
  have e1 : (i25 + 1).toNat = i25.toNat + 1 := by omega
  have pl : aJ3 (i25 + 1) l40 l42 l44 l46 l48 i49 i50 i51 b52 i53 y := ⟨by omega, by omega, ry, ⟨rfy.1, rfy.2, rfy.3, rfy.4, rfy.5, rfy.6, rfy.7, rfy.8, rfy.9⟩, by rw [e1]; exact ly⟩
  exact ⟨⟨y, pl⟩, by show (40 - (i25 + 1)).toNat < (40 - i25).toNat; omega⟩
theorem bS5 {l3 : LD} {x : Ds} {k : Int} (hf : l3 = x.files.map fiR) (h0 : 0 ≤ k) (h1 : k.toNat < x.files.length) : k < (l3.length : Nat) ∧ l3.getD k.toNat default = fiR (fileAt x k.toNat) := by
 refine ⟨by rw [hf, List.length_map]; omega, ?_⟩
 rw [hf, fileAt, List.getD, List.getD, List.getElem?_map, List.getElem?_eq_getElem h1]; rfl
theorem aT2 {α : Type} {f g : α → D} {l m : LD} {L : List α} {i : Int} (h : l = L.map f) (k : m = L.map g) (h0 : 0 ≤ i) (h1 : i < (l.length : Nat)) : ∃ p ∈ L, L[i.toNat]? = some p ∧ l.getD i.toNat default = f p ∧ m.getD i.toNat default = g p ∧ i < (m.length : Nat) := by
 obtain ⟨p, e1, e2⟩ := oP h h0 h1
 refine ⟨p, List.mem_of_getElem? e1, e1, e2, ?_, by rw [k, List.length_map]; rw [h, List.length_map] at h1; exact h1⟩
 rw [k, List.getD, List.getElem?_map, e1]; rfl
theorem bD9 : ∀ {L : List (Tx × Nat)} {p : Tx × Nat}, Dk.Sorted L → p ∈ L → Dk.find L p.1 = some p.2
 | [], p, _, h => by cases h
 | q :: L, p, hs, h => by
  have hs := List.pairwise_cons.1 hs
  rcases List.mem_cons.1 h with rfl | h
  ·rw [Dk.find, if_pos rfl]
  ·rw [Dk.find, if_neg (fun e => Dk.lt_irrefl p.1 (by have := hs.1 p h; rw [e] at this; exact this)), bD9 hs.2 h]
theorem aO.pure : aO.Pure := by
 intro n0 l1 v2 l3 v4 l5 v6 l7 v8 l9 i10 i11 i12 b13 i14 _ _ _ _ _ _ _ _ hp
 obtain ⟨x, r, rf, sx⟩ := hp
 have r : bC l1 x := r
 have rf : Rf l3 l5 l7 l9 i10 i11 i12 b13 i14 x := ⟨rf.1, rf.2, rf.3, rf.4, rf.5, rf.6, rf.7, rf.8, rf.9⟩
 have ex := rf.lnN sx
 have e7 : l7.length ≤ 10000000 := by rw [rf.safe, List.length_map]; have := sx.names; omega
 have good : ∀ i : Int, i = 0 → aO.sig.post [.N n0, .L l1, .V v2, .L l3, .V v4, .L l5, .V v6, .L l7, .V v8, .L l9, .I i10, .I i11, .I i12, .B b13, .I i14, .I i] := fun i h => h
 have K0 : aO.K0 n0 l1 i14 v2 l3 v4 l5 v6 l7 v8 l9 i10 i11 i12 b13 := by
  refine ⟨⟨x, r, sx⟩, fun i19 hc _ => ⟨fun h => absurd ((hc x r sx).trans rf.calls.symm) h, fun _ => ⟨trivial, ?_⟩⟩⟩
  intros
  refine ⟨⟨x, r, sx⟩, fun v20 l21 v22 l23 hs _ _ => ?_⟩
  obtain ⟨s1, s2⟩ := hs x r sx
  have s1 : l21 = x.safe.map fun p => .S (bx p.1) := s1
  have s2 : l23 = x.safe.map fun p => .S (bx ((fileAt x p.2).data.take (fileAt x p.2).safe)) := s2
  have n1 : l21.length = l7.length := by rw [s1, rf.safe, List.length_map, List.length_map]
  have n2 : l23.length = l21.length := by rw [s1, s2, List.length_map, List.length_map]
  refine ⟨fun h => absurd (congrArg _ n1) h, fun _ => ⟨fun h => absurd (congrArg _ n2) h, fun _ => ?_⟩⟩
  intros
  refine ⟨⟨Int.le_refl _, Int.natCast_nonneg _⟩, fun i24 _ hi => ?_⟩
  obtain ⟨a0, a1⟩ : 0 ≤ i24 ∧ i24 ≤ l7.length := hi
  refine ⟨fun h => ⟨a0, fun _ => ?_⟩, fun _ => ⟨⟨x, r, sx⟩, fun v25 l26 i27 hn _ _ => ?_⟩⟩
  ·obtain ⟨p, hm, c1, c2, c3, c4⟩ := aT2 rf.safe s1 a0 h
   obtain ⟨_, hm', d1, d2, d3, d4⟩ := aT2 rf.safe s2 a0 h
   obtain rfl := Option.some.inj (c1.symm.trans d1)
   have f0 := sx.inv.ins p hm
   obtain ⟨f1, f2⟩ := bS5 (k := (p.2 : Int)) rf.files (Int.natCast_nonneg _) f0
   have f3 := sx.inv.fs _ (Dk.uD f0)
   rw [Int.toNat_natCast] at f2
   intros
   rw [c2, c3, d3, rZ, yD, Int.toNat_natCast, f2, rE, aO2, Int.toNat_natCast, bA0]
   refine ⟨Int.natCast_nonneg _, fun _ => ⟨f1, fun _ => ?_⟩⟩
   intros
   refine ⟨c4, fun _ => ⟨fun h => absurd rfl h, fun _ => ⟨d4, fun _ => ⟨Int.natCast_nonneg _, fun _ => ⟨Int.ofNat_le.2 f3, fun _ => ⟨fun h => absurd rfl h, fun _ => ?_⟩⟩⟩⟩⟩⟩
   rw [wrap64 (by omega) (by omega)]
   exact ⟨⟨by show 0 ≤ i24 + 1; omega, by show i24 + 1 ≤ l7.length; omega⟩, by show (l7.length - (i24 + 1)).toNat < (l7.length - i24).toNat; omega⟩
  ·obtain ⟨q1, q2⟩ := hn x r sx
   have q1 : i27 = if x.dead then 9 else 0 := q1
   have q2 : l26 = if x.dead then [] else x.names.map fun p => .S (bx p.1) := q2
   rw [← rf.dead] at q1 q2
   refine ⟨fun h => ?_, fun h => ?_⟩
   ·rw [h] at q1 q2
    refine ⟨fun h => absurd q1 h, fun _ => ⟨fun h => ?_, fun _ => good _ rfl⟩⟩
    rw [q2] at h; exact absurd h (by simp)
   ·rw [h] at q1 q2
    have q2 : l26 = x.names.map fun p => .S (bx p.1) := q2
    have n3 : l26.length = l5.length := by rw [q2, rf.names, List.length_map, List.length_map]
    refine ⟨fun h => absurd q1 h, fun _ => ⟨fun h => absurd (congrArg _ n3) h, fun _ => ?_⟩⟩
    intros
    refine ⟨⟨Int.le_refl _, Int.natCast_nonneg _⟩, fun i28 _ hi => ?_⟩
    obtain ⟨a0, a1⟩ : 0 ≤ i28 ∧ i28 ≤ l5.length := hi
    refine ⟨fun h2 => ⟨a0, fun _ => ?_⟩, fun _ => good _ rfl⟩
    obtain ⟨p, hm, c1, c2, c3, c4⟩ := aT2 rf.names q2 a0 h2
    have f0 := sx.inv.inn p hm
    obtain ⟨f1, f2⟩ := bS5 (k := (p.2 : Int)) rf.files (Int.natCast_nonneg _) f0
    rw [Int.toNat_natCast] at f2
    intros
    rw [c2, c3, rZ, yD, Int.toNat_natCast, f2, rE]
    refine ⟨⟨x, r, sx⟩, fun s30 i31 hr _ _ => ⟨c4, fun _ => ⟨fun h => absurd rfl h, fun _ => ?_⟩⟩⟩
    have hr : (tx s30, i31) = Dk.read x p.1 := hr x r sx
    have hrd : Dk.read x p.1 = ((fileAt x p.2).data, 0) := by
     unfold Dk.read
     rw [if_neg (by rw [← rf.dead, h]; simp), bD9 sx.inv.sn hm]
    rw [hrd] at hr
    simp only [Prod.mk.injEq] at hr
    refine ⟨fun h => absurd hr.2 h, fun _ => ⟨Int.natCast_nonneg _, fun _ => ⟨f1, fun _ => ⟨fun h => absurd (gG hr.1) h, fun _ => ?_⟩⟩⟩⟩
    rw [wrap64 (by omega) (by omega)]
    exact ⟨⟨by show 0 ≤ i28 + 1; omega, by show i28 + 1 ≤ l5.length; omega⟩, by show (l5.length - (i28 + 1)).toNat < (l5.length - i28).toNat; omega⟩
 have K1 : aO.K1 n0 l1 v2 l3 v4 l5 v6 l7 v8 l9 i10 i11 i12 b13 i14 := by
  refine ⟨⟨x, r, sx⟩, fun i16 hf _ => ⟨⟨x, rf.at, sx⟩, fun i17 hg _ => ⟨fun h => absurd ((hf x r sx).trans (hg x rf.at sx).symm) h, fun _ => ⟨⟨⟨x, r, sx⟩, fun b18 hd => ⟨fun h => absurd ((hd x r sx).trans rf.dead.symm) h, fun _ => ⟨K0, K0⟩⟩⟩, ⟨x, r, sx⟩, fun b18 hd => ⟨fun h => absurd ((hd x r sx).trans rf.dead.symm) h, fun _ => ⟨K0, K0⟩⟩⟩⟩⟩⟩
 intros
 exact ⟨K1, K1⟩
end Go.Vc