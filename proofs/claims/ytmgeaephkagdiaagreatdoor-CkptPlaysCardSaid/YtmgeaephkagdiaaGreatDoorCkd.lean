/-
 The store's law with faults: contracts.
 Printed by wip/vct.py: the conditions of functions, by their contracts.
 The store's law with faults: CkptPlays.
-/
import Derived.Test.YtmgeaephkagdiaaGreatDoorCkb
import Derived.KernelRfl
set_option linter.unusedVariables false
set_option linter.unusedSimpArgs false
namespace Go.Vc
open Dk (Ds)
def act23K : EK := [.int .i64, .int .i64, .sl [.str, .str], .sl [.int .i64]]
def LCkptPlays.sig : Sig := sigF [.i .i64, .l act23K] [.b] (fun _ => True) yes
namespace Ck
def May (m : List D) (o : Option Tx) : Prop := ∃ L v, Good L ∧ D.L [.V v, .L (refs L)] ∈ m ∧ (o = some (tblT L) ∨ (o = none ∧ L = []))
end Ck
structure Play23 (i : Int) (m dw : List D) (y : Ds) : Prop where
 lo : 0 ≤ i
 hi : i ≤ 15
 disk : RepL dw y
 safe : Ck.Safe y (Ck.May m)
 lim : Lim (10 * i.toNat) (11000 * i.toNat) y
 len : m.length ≤ i.toNat + 1
def LCkptPlays.I0 : List D → Prop := fun l => ∃ y, Play23 (arg l 4).toI (arg l 3).toL (arg l 5).toL y
def LCkptPlays.I0M : List D → Nat := fun l => (15 - (arg l 4).toI).toNat
def LCkptPlays.I1 : List D → Prop := fun l => 0 ≤ (arg l 5).toI ∧ (arg l 5).toI ≤ (arg l 3).toL.length ∧ (arg l 6).toL.length ≤ 1000000 ∧ ((arg l 4).toB = true ∨ ∃ (k : Nat) (v : Value), (arg l 5).toI ≤ k ∧ (arg l 3).toL[k]? = some (D.L [.V v, .L (refs (arg l 6).toL)]))
def LCkptPlays.I1M : List D → Nat := fun l => ((arg l 3).toL.length - (arg l 5).toI).toNat
def LCkptPlays.T : St :=
 ⟨[.one (.lf (.int .i64 (.at 0))), .one (.lf (.sl (.at 1)))] ++ List.replicate 3 (.one (.lf .junk)) ++ [.one (.lf (.ptr (.at 3) 0)), .one (.lf (.sl (.at 12))), .one (.lf (.int .i64 (.at 10)))] ++ List.replicate 14 (.one (.lf .junk)) ++ [.one (.lf (.int .i64 (.at 0))), .one (.lf (.ptr (.at 3) 0)), .one (.lf (.bool (.at 5))), .one (.lf (.bool (.o1 .not (.at 5)))), .one (.lf (.bool (.bool false))), .one (.lf (.ptr (.at 3) 0)), .one (.lf (.bool (.bool false))), .one (.lf (.bool (.bool false))), .one (.lf (.sl (.at 6))), .one (.lf (.sl (.at 7)))] ++ List.replicate 114 (.one (.lf .junk)),
  [.rsl (.at 12) [.sl [.str, .str]] (.at 13), .abs (.deep [.sl [.str, .str]]) [(.at 13)], .box (.at 3) [.lf (.mp (.o1 .asN (.o2 .lget (.at 14) (.int 0)))), .lf (.mp (.o1 .asN (.o2 .lget (.at 14) (.int 1)))), .lf (.mp (.o1 .asN (.o2 .lget (.at 14) (.int 2)))), .lf (.sl (.o1 .asV (.o2 .lget (.at 14) (.int 3)))), .lf (.int .i64 (.o1 .asI (.o2 .lget (.at 14) (.int 8)))), .lf (.int .i64 (.o1 .asI (.o2 .lget (.at 14) (.int 9)))), .lf (.int .i64 (.o1 .asI (.o2 .lget (.at 14) (.int 10)))), .lf (.int .i64 (.o1 .asI (.o2 .lget (.at 14) (.int 11)))), .lf (.bool (.o1 .asB (.o2 .lget (.at 14) (.int 12)))), .lf (.int .i64 (.o1 .asI (.o2 .lget (.at 14) (.int 13))))], .abs (.mpp (.int .i64) [.str, .int .i64]) [(.o1 .asN (.o2 .lget (.at 14) (.int 0))), (.o1 .asL (.o2 .lget (.at 14) (.int 4)))], .abs (.mp (.str) (.int .i64)) [(.o1 .asN (.o2 .lget (.at 14) (.int 1))), (.o1 .asL (.o2 .lget (.at 14) (.int 5)))], .abs (.mp (.str) (.int .i64)) [(.o1 .asN (.o2 .lget (.at 14) (.int 2))), (.o1 .asL (.o2 .lget (.at 14) (.int 6)))], .osl (.o1 .asV (.o2 .lget (.at 14) (.int 3))) [.str, .str, .int .i64] (.o1 .asL (.o2 .lget (.at 14) (.int 7))), .rsl (.at 6) [.str, .str] .lnil, .rsl (.at 1) act23K (.at 2), .abs (.deep act23K) [(.at 2)]], [.I, .V, .L, .N, .L, .B, .V, .V, .V, .L, .I, .L, .V, .L, .L]⟩
def LCkptPlays.J0 : List D → Prop := fun l => 0 ≤ (arg l 10).toI ∧ (arg l 10).toI < 15 ∧ ∃ y, Play23 ((arg l 10).toI + 1) (arg l 12).toL (arg l 13).toL y
def LCkptPlays.J0M : List D → Nat := fun _ => 0
end Go.Vc
namespace Go.Vc
set_option linter.unusedVariables false
set_option maxRecDepth 100000
abbrev LCkptPlays.K0 (i0 : Int) (v1 : Value) (l2 : List D) (n3 : Nat) (l4 : List D) (b5 : Bool) (v6 : Value) (v7 : Value) (v8 : Value) (l9 : List D) (i10 : Int) (l11 : List D) : Prop :=
 (
 (
 ∀ v12 : Value,
 ∀ l13 l14 : List D,
 (EK.ok [.sl [.str, .str]] (D.L l13)) →
   LCkptPlays.J0 [.I i0, .V v1, .L l2, .N n3, .L l4, .B b5, .V v6, .V v7, .V v8, .L l9, .I i10, .L l11, .L l13, .L l14] →
   qDead.sig.pre [.N n3, .L l14] ∧ (
 ∀ b15 : Bool,
   qDead.sig.post [.N n3, .L l14, .B b15] →
 ((
 (b15 = true) →
 ((
    cLoad.sig.pre [.N n3, .L l14] ∧ (
 ∀ b16 : Bool,
 ∀ i17 : Int,
    cLoad.sig.post [.N n3, .L l14, .B b16, .I i17] →
 R64 i17 →
 ((
 (b16 = true) →
     LCkptPlays.sig.post [.I i0, .V v1, .L l2, .B false]) ∧ (
 (b16 = false) →
 ((
 (i17 ≠ 9) →
     LCkptPlays.sig.post [.I i0, .V v1, .L l2, .B false]) ∧ (
 (i17 = 9) →
     Bk LCkptPlays.I0 LCkptPlays.I0M [.I i0, .V v1, .L l2, .L l13, .I (IntKind.wrap .i64 (i10 + 1)), .L l14] [.I i0, .V v1, .L l2, .L l9, .I i10, .L l11])))))) ∧ (
    cLoad.sig.pre [.N n3, .L l14] ∧ (
 ∀ n16 : Nat,
 ∀ v17 : Value,
 ∀ l18 : List D,
 ∀ b19 : Bool,
    cLoad.sig.post2 [.N n3, .L l14, .N n16, .V v17, .L l18, .B b19] →
 (EK.ok [.ints .u8 32, .str] (D.L l18)) →
    LCkptPlays.sig.post [.I i0, .V v1, .L l2, .B false])))) ∧ (
 (b15 = false) →
 ((
    cLoad.sig.pre [.N n3, .L l14] ∧ (
 ∀ b16 : Bool,
 ∀ i17 : Int,
    cLoad.sig.post [.N n3, .L l14, .B b16, .I i17] →
 R64 i17 →
 ((
 (i17 ≠ 0) →
     LCkptPlays.sig.post [.I i0, .V v1, .L l2, .B false]) ∧ (
 (i17 = 0) →
     LCkptPlays.sig.post [.I i0, .V v1, .L l2, .B false])))) ∧ (
    cLoad.sig.pre [.N n3, .L l14] ∧ (
 ∀ n16 : Nat,
 ∀ v17 : Value,
 ∀ l18 : List D,
 ∀ b19 : Bool,
    cLoad.sig.post2 [.N n3, .L l14, .N n16, .V v17, .L l18, .B b19] →
 (EK.ok [.ints .u8 32, .str] (D.L l18)) →
    LCkptPlays.I1 [.I i0, .V v1, .L l2, .L l13, .B false, .I 0, .L l18] ∧ (
 ∀ b20 : Bool,
 ∀ i21 : Int,
 ∀ l22 : List D,
 R64 i21 →
 (EK.ok [.ints .u8 32, .str] (D.L l22)) →
    LCkptPlays.I1 [.I i0, .V v1, .L l2, .L l13, .B b20, .I i21, .L l22] →
 ((
 (i21 < ((l13.length : Nat) : Int)) →
 (0 ≤ i21) ∧ ((0 ≤ i21) →
 ((
 (b20 = true) →
     Bk LCkptPlays.I1 LCkptPlays.I1M [.I i0, .V v1, .L l2, .L l13, .B true, .I (IntKind.wrap .i64 (i21 + 1)), .L l22] [.I i0, .V v1, .L l2, .L l13, .B b20, .I i21, .L l22]) ∧ (
 (b20 = false) →
     TSame.sig.pre [.N n16, .V v17, .L l22, (D.V ((((l13.getD i21.toNat default)).toL.getD (0 : Int).toNat default)).toV), (D.L ((((l13.getD i21.toNat default)).toL.getD (1 : Int).toNat default)).toL)] ∧ (
 ∀ i23 : Int,
     TSame.sig.post [.N n16, .V v17, .L l22, (D.V ((((l13.getD i21.toNat default)).toL.getD (0 : Int).toNat default)).toV), (D.L ((((l13.getD i21.toNat default)).toL.getD (1 : Int).toNat default)).toL), .I i23] →
 R64 i23 →
     Bk LCkptPlays.I1 LCkptPlays.I1M [.I i0, .V v1, .L l2, .L l13, .B (i23 == 0), .I (IntKind.wrap .i64 (i21 + 1)), .L l22] [.I i0, .V v1, .L l2, .L l13, .B b20, .I i21, .L l22]))))) ∧ (
 (((l13.length : Nat) : Int) ≤ i21) →
 ((
 (b20 = false) →
     LCkptPlays.sig.post [.I i0, .V v1, .L l2, .B false]) ∧ (
 (b20 = true) →
     Bk LCkptPlays.I0 LCkptPlays.I0M [.I i0, .V v1, .L l2, .L l13, .I (IntKind.wrap .i64 (i10 + 1)), .L l14] [.I i0, .V v1, .L l2, .L l9, .I i10, .L l11])))))))))))))
def LCkptPlays.Pure : Prop :=
 ∀ i0 : Int,
 ∀ v1 : Value,
 ∀ l2 : List D,
 R64 i0 →
 (EK.ok [.int .i64, .int .i64, .sl [.str, .str], .sl [.int .i64]] (D.L l2)) →
 LCkptPlays.sig.pre [.I i0, .V v1, .L l2] →
 qNew.sig.pre [.I i0] ∧ (
 ∀ n3 : Nat,
 ∀ l4 : List D,
 qNew.sig.post [.I i0, .N n3, .L l4] →
 aw23.sig.pre [] ∧ (
 ∀ b5 : Bool,
 aw23.sig.post [.B b5] →
 ((
 (b5 = false) →
  LCkptPlays.sig.post [.I i0, .V v1, .L l2, .B false]) ∧ (
 (b5 = true) →
 ∀ v6 v7 : Value,
  LCkptPlays.I0 [.I i0, .V v1, .L l2, .L ((D.L ((D.V v6) :: ((D.L ([] : List D)) :: ([] : List D)))) :: ([] : List D)), .I 0, .L l4] ∧ (
 ∀ v8 : Value,
 ∀ l9 : List D,
 ∀ i10 : Int,
 ∀ l11 : List D,
 R64 i10 →
 (EK.ok [.sl [.str, .str]] (D.L l9)) →
  LCkptPlays.I0 [.I i0, .V v1, .L l2, .L l9, .I i10, .L l11] →
 ((
 (i10 < ((l2.length : Nat) : Int)) →
 ((
 (i10 < 15) →
 (0 ≤ i10) ∧ ((0 ≤ i10) →
 ∀ v12 v13 : Value,
 ∀ n14 : Nat,
 ((
 (((((l2.getD i10.toNat default)).toL.getD (0 : Int).toNat default)).toI = 1) →
     Grow.sig.pre [(D.V ((((((l2.getD i10.toNat default)).toL.getD (2 : Int).toNat default)).toL.getD (0 : Int).toNat default)).toV), (D.L ((((((l2.getD i10.toNat default)).toL.getD (2 : Int).toNat default)).toL.getD (1 : Int).toNat default)).toL)] ∧ (
 ∀ n15 : Nat,
 ∀ v16 v17 : Value,
 ∀ l18 l19 : List D,
   Grow.sig.post [(D.V ((((((l2.getD i10.toNat default)).toL.getD (2 : Int).toNat default)).toL.getD (0 : Int).toNat default)).toV), (D.L ((((((l2.getD i10.toNat default)).toL.getD (2 : Int).toNat default)).toL.getD (1 : Int).toNat default)).toL), .N n15, .V v16, .V v17, .L l18, .L l19] →
 (EK.ok [.ints .u8 32, .str] (D.L l18)) →
 (EK.ok [.str, .str] (D.L l19)) →
   qDead.sig.pre [.N n3, .L l11] ∧ (
 ∀ b20 : Bool,
   qDead.sig.post [.N n3, .L l11, .B b20] →
   cSave.sig.pre [.N n3, .L l11, .N n15, .V v16, .L l18] ∧ (
 ∀ l21 : List D,
 ∀ i22 : Int,
   cSave.sig.post [.N n3, .L l11, .N n15, .V v16, .L l18, .L l21, .I i22] →
 R64 i22 →
 ((
 (i22 = 0) →
 ∀ v23 : Value,
   LCkptPlays.J0 [.I i0, .V v1, .L l2, .N n3, .L l4, .B b5, .V v6, .V v7, .V v8, .L l9, .I i10, .L l11, .L ((D.L ((D.V v17) :: ((D.L l19) :: ([] : List D)))) :: ([] : List D)), .L l21] ∧ (LCkptPlays.K0 i0 v1 l2 n3 l4 b5 v6 v7 v8 l9 i10 l11)) ∧ (
 (i22 ≠ 0) →
 ((
 (b20 = false) →
 ∀ v23 : Value,
 ((((([] : List D) ++ l9).length : Nat) : Int) ≤ (5864062014805 : Int)) ∧ (((((([] : List D) ++ l9).length : Nat) : Int) ≤ (5864062014805 : Int)) →
 ∀ v24 v25 : Value,
 (((((([] : List D) ++ l9) ++ ((D.L ((D.V v17) :: ((D.L l19) :: ([] : List D)))) :: ([] : List D))).length : Nat) : Int) ≤ (5864062014805 : Int)) ∧ ((((((([] : List D) ++ l9) ++ ((D.L ((D.V v17) :: ((D.L l19) :: ([] : List D)))) :: ([] : List D))).length : Nat) : Int) ≤ (5864062014805 : Int)) →
 ∀ v26 : Value,
    LCkptPlays.J0 [.I i0, .V v1, .L l2, .N n3, .L l4, .B b5, .V v6, .V v7, .V v8, .L l9, .I i10, .L l11, .L ((([] : List D) ++ l9) ++ ((D.L ((D.V v17) :: ((D.L l19) :: ([] : List D)))) :: ([] : List D))), .L l21] ∧ (LCkptPlays.K0 i0 v1 l2 n3 l4 b5 v6 v7 v8 l9 i10 l11)))) ∧ (
 (b20 = true) →
    LCkptPlays.J0 [.I i0, .V v1, .L l2, .N n3, .L l4, .B b5, .V v6, .V v7, .V v8, .L l9, .I i10, .L l11, .L l9, .L l21] ∧ (LCkptPlays.K0 i0 v1 l2 n3 l4 b5 v6 v7 v8 l9 i10 l11))))))))) ∧ (
 (((((l2.getD i10.toNat default)).toL.getD (0 : Int).toNat default)).toI ≠ 1) →
 ((
 (((((l2.getD i10.toNat default)).toL.getD (0 : Int).toNat default)).toI = 2) →
      cClean.sig.pre [.N n3, .L l11] ∧ (
 ∀ l15 : List D,
 ∀ i16 : Int,
   cClean.sig.post [.N n3, .L l11, .L l15, .I i16] →
 R64 i16 →
   LCkptPlays.J0 [.I i0, .V v1, .L l2, .N n3, .L l4, .B b5, .V v6, .V v7, .V v8, .L l9, .I i10, .L l11, .L l9, .L l15] ∧ (LCkptPlays.K0 i0 v1 l2 n3 l4 b5 v6 v7 v8 l9 i10 l11))) ∧ (
 (((((l2.getD i10.toNat default)).toL.getD (0 : Int).toNat default)).toI ≠ 2) →
 ((
 (((((l2.getD i10.toNat default)).toL.getD (0 : Int).toNat default)).toI = 3) →
    qRestart.sig.pre [.N n3, .L l11, (D.V ((((((l2.getD i10.toNat default)).toL.getD (3 : Int).toNat default)).toL.getD (0 : Int).toNat default)).toV), (D.Z ((((((l2.getD i10.toNat default)).toL.getD (3 : Int).toNat default)).toL.getD (1 : Int).toNat default)).toLi)] ∧ (
 ∀ l15 : List D,
    qRestart.sig.post [.N n3, .L l11, (D.V ((((((l2.getD i10.toNat default)).toL.getD (3 : Int).toNat default)).toL.getD (0 : Int).toNat default)).toV), (D.Z ((((((l2.getD i10.toNat default)).toL.getD (3 : Int).toNat default)).toL.getD (1 : Int).toNat default)).toLi), .L l15] →
    LCkptPlays.J0 [.I i0, .V v1, .L l2, .N n3, .L l4, .B b5, .V v6, .V v7, .V v8, .L l9, .I i10, .L l11, .L l9, .L l15] ∧ (LCkptPlays.K0 i0 v1 l2 n3 l4 b5 v6 v7 v8 l9 i10 l11))) ∧ (
 (((((l2.getD i10.toNat default)).toL.getD (0 : Int).toNat default)).toI ≠ 3) →
 ((
 (((((l2.getD i10.toNat default)).toL.getD (0 : Int).toNat default)).toI = 4) →
    qCrash.sig.pre [.N n3, .L l11, (D.I ((((l2.getD i10.toNat default)).toL.getD (1 : Int).toNat default)).toI)] ∧ (
 ∀ l15 : List D,
    qCrash.sig.post [.N n3, .L l11, (D.I ((((l2.getD i10.toNat default)).toL.getD (1 : Int).toNat default)).toI), .L l15] →
    LCkptPlays.J0 [.I i0, .V v1, .L l2, .N n3, .L l4, .B b5, .V v6, .V v7, .V v8, .L l9, .I i10, .L l11, .L l9, .L l15] ∧ (LCkptPlays.K0 i0 v1 l2 n3 l4 b5 v6 v7 v8 l9 i10 l11))) ∧ (
 (((((l2.getD i10.toNat default)).toL.getD (0 : Int).toNat default)).toI ≠ 4) →
 ((
 (((((l2.getD i10.toNat default)).toL.getD (0 : Int).toNat default)).toI = 5) →
     qFail.sig.pre [.N n3, .L l11, (D.I ((((l2.getD i10.toNat default)).toL.getD (1 : Int).toNat default)).toI)] ∧ (
 ∀ l15 : List D,
     qFail.sig.post [.N n3, .L l11, (D.I ((((l2.getD i10.toNat default)).toL.getD (1 : Int).toNat default)).toI), .L l15] →
     LCkptPlays.J0 [.I i0, .V v1, .L l2, .N n3, .L l4, .B b5, .V v6, .V v7, .V v8, .L l9, .I i10, .L l11, .L l9, .L l15] ∧ (LCkptPlays.K0 i0 v1 l2 n3 l4 b5 v6 v7 v8 l9 i10 l11))) ∧ (
 (((((l2.getD i10.toNat default)).toL.getD (0 : Int).toNat default)).toI ≠ 5) →
 ((
 (((((l2.getD i10.toNat default)).toL.getD (0 : Int).toNat default)).toI = 6) →
     qRoom.sig.pre [.N n3, .L l11, (D.I ((((l2.getD i10.toNat default)).toL.getD (1 : Int).toNat default)).toI)] ∧ (
 ∀ l15 : List D,
     qRoom.sig.post [.N n3, .L l11, (D.I ((((l2.getD i10.toNat default)).toL.getD (1 : Int).toNat default)).toI), .L l15] →
     LCkptPlays.J0 [.I i0, .V v1, .L l2, .N n3, .L l4, .B b5, .V v6, .V v7, .V v8, .L l9, .I i10, .L l11, .L l9, .L l15] ∧ (LCkptPlays.K0 i0 v1 l2 n3 l4 b5 v6 v7 v8 l9 i10 l11))) ∧ (
 (((((l2.getD i10.toNat default)).toL.getD (0 : Int).toNat default)).toI ≠ 6) →
     LCkptPlays.J0 [.I i0, .V v1, .L l2, .N n3, .L l4, .B b5, .V v6, .V v7, .V v8, .L l9, .I i10, .L l11, .L l9, .L l11] ∧ (LCkptPlays.K0 i0 v1 l2 n3 l4 b5 v6 v7 v8 l9 i10 l11))))))))))))))) ∧ (
 (15 ≤ i10) →
  LCkptPlays.sig.post [.I i0, .V v1, .L l2, .B true]))) ∧ (
 (((l2.length : Nat) : Int) ≤ i10) →
   LCkptPlays.sig.post [.I i0, .V v1, .L l2, .B true])))))))
end Go.Vc
namespace Go.Vc
open Dk (Ds)
theorem LCkptPlays.tail {i0 : Int} {v1 : Value} {l2 : List D} {n3 : Nat} {l4 : List D} {b5 : Bool} {v6 v7 v8 : Value} {l9 : List D} {i10 : Int} {l11 : List D} : LCkptPlays.K0 i0 v1 l2 n3 l4 b5 v6 v7 v8 l9 i10 l11 := by
 intro v12 l13 l14 _ hJ
 obtain ⟨j0, j1, y, hp⟩ : 0 ≤ i10 ∧ i10 < 15 ∧ ∃ y, Play23 (i10 + 1) l13 l14 y := hJ
 have mid : Mid y := hp.lim.mono (by omega) (by omega)
 have hlen := hp.len
 have next : LCkptPlays.I0 [.I i0, .V v1, .L l2, .L l13, .I (IntKind.wrap .i64 (i10 + 1)), .L l14] ∧ LCkptPlays.I0M [.I i0, .V v1, .L l2, .L l13, .I (IntKind.wrap .i64 (i10 + 1)), .L l14] < LCkptPlays.I0M [.I i0, .V v1, .L l2, .L l9, .I i10, .L l11] := by
  rw [i64w (by omega) (by omega)]
  exact ⟨⟨y, hp⟩, by show (15 - (i10 + 1)).toNat < (15 - i10).toNat; omega⟩
 refine ⟨⟨y, hp.disk, mid.small⟩, fun b15 hb => ?_⟩
 have hb : b15 = y.dead := hb y hp.disk mid.small
 refine ⟨fun hd => ?_, fun hd => ?_⟩
 ·have yd : y.dead = true := hb.symm.trans hd
  have rd : Dk.read y Ck.old = ([], 9) := by unfold Dk.read; rw [if_pos yd]
  have eE : Ck.loadE y = 9 := by unfold Ck.loadE; rw [rd]; rfl
  have pc : cLoad.sig.pre [.N n3, .L l14] := ⟨y, hp.disk, mid.small, by rw [rd]; simp⟩
  refine ⟨⟨pc, fun b16 i17 h _ => ?_⟩, pc, fun n16 v17 l18 b19 h _ => ?_⟩
  ·obtain ⟨_, h2, h3⟩ : i17 ≠ 0 ∧ i17 = Ck.loadE y ∧ b16 = false := h y hp.disk mid.small
   exact ⟨fun hx => absurd (h3.symm.trans hx) (by decide), fun _ => ⟨fun hx => absurd (h2.trans eE) hx, fun _ => next⟩⟩
  ·obtain ⟨h1, _⟩ : Ck.loadE y = 0 ∧ l18 = Ck.loadL y ∧ b19 = Ck.loadB y := h y hp.disk mid.small
   rw [eE] at h1
   exact absurd h1 (by decide)
 ·have yd : y.dead = false := hb.symm.trans hd
  have ld : ∃ L v, D.L [.V v, .L (refs L)] ∈ l13 ∧ Ck.loadE y = 0 ∧ refs (Ck.loadL y) = refs L ∧ (Ck.loadL y).length ≤ 1000000 ∧ (Dk.read y Ck.old).1.length ≤ 500000 := by
   rcases hp.safe.read yd with ⟨t, ⟨L, v, g, hm, ht⟩, e⟩ | ⟨⟨L, v, g, hm, ht⟩, e⟩
   ·rcases ht with ht | ⟨ht, _⟩
    ·obtain rfl : t = tblT L := Option.some.inj ht
     obtain ⟨a1, a2, _⟩ := Ck.loadE_of g e
     exact ⟨L, v, hm, a1, by rw [a2, refs_norm], by rw [a2, List.length_map]; have := g.len; omega, by rw [e]; have := g.bytes; show (tblT L).length ≤ 500000; omega⟩
    ·cases ht
   ·rcases ht with ht | ⟨_, hL⟩
    ·cases ht
    ·obtain ⟨a1, a2, _⟩ := Ck.loadE_none e
     subst hL
     exact ⟨[], v, hm, a1, by rw [a2], by rw [a2]; simp, by rw [e]; simp⟩
  obtain ⟨L, v, hm, eE, eL, eN, eR⟩ := ld
  have pc : cLoad.sig.pre [.N n3, .L l14] := ⟨y, hp.disk, mid.small, eR⟩
  refine ⟨⟨pc, fun b16 i17 h _ => ?_⟩, pc, fun n16 v17 l18 b19 h _ => ?_⟩
  ·obtain ⟨h1, h2, _⟩ : i17 ≠ 0 ∧ i17 = Ck.loadE y ∧ b16 = false := h y hp.disk mid.small
   exact absurd (h2.trans eE) h1
  ·obtain ⟨_, h2, _⟩ : Ck.loadE y = 0 ∧ l18 = Ck.loadL y ∧ b19 = Ck.loadB y := h y hp.disk mid.small
   obtain ⟨k, hk⟩ := List.getElem?_of_mem hm
   refine ⟨⟨Int.le_refl _, by show (0 : Int) ≤ l13.length; omega, by rw [← h2] at eN; exact eN, .inr ⟨k, v, by show (0 : Int) ≤ k; omega, by show l13[k]? = some (D.L [.V v, .L (refs l18)]); rw [hk, h2, eL]⟩⟩, fun b20 i21 l22 _ _ hI => ?_⟩
   obtain ⟨q1, q2, q3, q4⟩ : 0 ≤ i21 ∧ i21 ≤ l13.length ∧ l22.length ≤ 1000000 ∧ (b20 = true ∨ ∃ (k : Nat) (v : Value), i21 ≤ k ∧ l13[k]? = some (D.L [.V v, .L (refs l22)])) := hI
   have less : i21 < l13.length → ((l13.length : Int) - (i21 + 1)).toNat < (l13.length - i21).toNat := by omega
   refine ⟨fun h21 => ⟨q1, fun _ => ⟨fun hb => ?_, fun hb => ⟨q3, fun i23 h23 _ => ?_⟩⟩⟩, fun h21 => ⟨fun hb => ?_, fun _ => next⟩⟩
   ·rw [i64w (by omega) (by omega)]
    exact ⟨⟨by show 0 ≤ i21 + 1; omega, by show i21 + 1 ≤ l13.length; omega, q3, .inl rfl⟩, less h21⟩
   ·rw [i64w (by omega) (by omega)]
    refine ⟨⟨by show 0 ≤ i21 + 1; omega, by show i21 + 1 ≤ l13.length; omega, q3, ?_⟩, less h21⟩
    rcases q4 with q | ⟨k, v, k1, k2⟩
    ·rw [q] at hb; cases hb
    ·by_cases e : (k : Int) = i21
     ·left
      have e2 : l13.getD i21.toNat default = D.L [.V v, .L (refs l22)] := by rw [List.getD, show i21.toNat = k from by omega, k2]; rfl
      have h23 : ((l13.getD i21.toNat default).toL.getD (1 : Int).toNat default).toL = refs l22 → i23 = 0 := h23
      show (i23 == 0) = true
      rw [h23 (by rw [e2]; rfl)]; rfl
     ·exact .inr ⟨k, v, by show i21 + 1 ≤ (k : Int); omega, k2⟩
   ·rcases q4 with q | ⟨k, v, k1, k2⟩
    ·rw [q] at hb; cases hb
    ·have := (List.getElem?_eq_some_iff.1 k2).1
     omega
theorem LCkptPlays.pure : LCkptPlays.Pure := by
 intro i0 v1 l2 _ _ _
 refine ⟨trivial, fun n3 l4 r4 => ⟨trivial, fun b5 h5 => ⟨fun hb => ?_, fun _ v6 v7 => ⟨?_, fun v8 l9 i10 l11 _ _ hI => ?_⟩⟩⟩⟩
 ·have h5 : b5 = true := h5
  rw [h5] at hb; cases hb
 ·exact ⟨Dk.new i0, Int.le_refl _, by show (0 : Int) ≤ 15; decide, r4, (Ck.safe_new i0).mono fun o ho => ⟨[], v6, Ck.good_nil, List.mem_singleton.2 rfl, .inr ⟨ho, rfl⟩⟩, (lim_new i0).mono (Nat.zero_le _) (Nat.zero_le _), Nat.le_refl _⟩
 obtain ⟨y, hp⟩ : ∃ y, Play23 i10 l9 l11 y := hI
 have hlo := hp.lo
 have hhi := hp.hi
 have hlen := hp.len
 have mid : Mid y := hp.lim.mono (by omega) (by omega)
 refine ⟨fun _ => ⟨fun h15 => ⟨hlo, fun _ v12 v13 n14 => ?_⟩, fun _ => rfl⟩, fun _ => rfl⟩
 have go : ∀ m dw y', RepL dw y' → Ck.Safe y' (Ck.May m) → Lim (10 * i10.toNat + 10) (11000 * i10.toNat + 11000) y' → m.length ≤ i10.toNat + 2 →
   LCkptPlays.J0 [.I i0, .V v1, .L l2, .N n3, .L l4, .B b5, .V v6, .V v7, .V v8, .L l9, .I i10, .L l11, .L m, .L dw] ∧ LCkptPlays.K0 i0 v1 l2 n3 l4 b5 v6 v7 v8 l9 i10 l11 :=
  fun m dw y' a b c d => ⟨⟨hlo, h15, y', ⟨by show 0 ≤ i10 + 1; omega, by show i10 + 1 ≤ 15; omega, a, b, c.mono (by show _ ≤ 10 * (i10 + 1).toNat; omega) (by show _ ≤ 11000 * (i10 + 1).toNat; omega), by show m.length ≤ (i10 + 1).toNat + 1; omega⟩⟩, LCkptPlays.tail⟩
 have same : ∀ dw z, RepL dw z → z.names = y.names → z.safe = y.safe → z.pend = y.pend → z.files = y.files → Lim (10 * i10.toNat) (11000 * i10.toNat) z → LCkptPlays.J0 [.I i0, .V v1, .L l2, .N n3, .L l4, .B b5, .V v6, .V v7, .V v8, .L l9, .I i10, .L l11, .L l9, .L dw] ∧ LCkptPlays.K0 i0 v1 l2 n3 l4 b5 v6 v7 v8 l9 i10 l11 :=
  fun dw z a n s p f l => go l9 dw z a (hp.safe.like l.inv n s p fun _ _ i _ => by unfold Dk.fileAt; rw [f]) (l.mono (by omega) (by omega)) (by omega)
 refine ⟨fun _ => ⟨trivial, fun n15 v16 v17 l18 l19 hg k18 _ => ?_⟩, fun _ => ⟨fun _ => ⟨⟨y, hp.disk, mid.small⟩, fun l15 i16 h _ => ?_⟩, fun _ => ⟨fun _ => ⟨⟨y, hp.disk, mid.small⟩, fun l15 h => ?_⟩, fun _ => ⟨fun _ => ⟨⟨y, hp.disk, mid.small⟩, fun l15 h => ?_⟩,
  fun _ => ⟨fun _ => ⟨⟨y, hp.disk, mid.small⟩, fun l15 h => ?_⟩, fun _ => ⟨fun _ => ⟨⟨y, hp.disk, mid.small⟩, fun l15 h => ?_⟩, fun _ => same l11 y hp.disk rfl rfl rfl rfl hp.lim⟩⟩⟩⟩⟩⟩
 ·obtain ⟨g, x1, _⟩ := good_grow k18 hg
  subst x1
  refine ⟨⟨y, hp.disk, mid.small⟩, fun b20 h20 => ⟨⟨⟨y, hp.disk, mid⟩, g.ok⟩, fun l21 i22 hsv _ => ?_⟩⟩
  have h20 : b20 = y.dead := h20 y hp.disk mid.small
  obtain ⟨r21, e22⟩ := hsv y hp.disk mid
  have r21 : RepL l21 (Ck.save y (tblT l18)).1 := r21
  have e22 : i22 = (Ck.save y (tblT l18)).2 := e22
  obtain ⟨s1, s2, s3⟩ := hp.safe.save (tblT l18)
  have hb := g.bytes
  have hl := (Ck.lim_go (t := tblT l18) hp.lim).mono (show _ ≤ 10 * i10.toNat + 10 by omega) (show _ ≤ 11000 * i10.toNat + 11000 by omega)
  refine ⟨fun h0 v23 => ?_, fun hn => ⟨fun hd v23 => ⟨?_, fun _ v24 v25 => ⟨?_, fun _ v26 => ?_⟩⟩, fun hd => ?_⟩⟩
  ·exact go [D.L [.V v17, .L (refs l18)]] l21 _ r21 ((s2 (e22.symm.trans h0)).mono fun o ho => ⟨l18, v17, g, List.mem_singleton.2 rfl, .inl ho⟩) hl (by simp)
  ·rw [List.nil_append]; omega
  ·rw [List.nil_append, List.length_append]; simp; omega
  ·refine go (([] : List D) ++ l9 ++ [D.L [.V v17, .L (refs l18)]]) l21 _ r21 (s1.mono fun o ho => ?_) hl (by simp; omega)
   rcases ho with ⟨L, v, gL, hm, h⟩ | h
   ·exact ⟨L, v, gL, List.mem_append_left _ hm, h⟩
   ·exact ⟨l18, v17, g, List.mem_append_right _ (List.mem_singleton.2 rfl), .inl h⟩
  ·rw [s3 (h20.symm.trans hd)] at r21
   exact same l21 y r21 rfl rfl rfl rfl hp.lim
 ·obtain ⟨a, _⟩ := h y hp.disk mid.small
  exact go l9 l15 _ a hp.safe.clean.1 ((Ck.lim_clean hp.lim).mono (by omega) (by omega)) (by omega)
 ·exact go l9 l15 _ (h y hp.disk mid.small) (hp.safe.restart _) ((lim_restart hp.lim _).mono (by omega) (by omega)) (by omega)
 ·exact same l15 _ (h y hp.disk mid.small) rfl rfl rfl rfl (lim_crash hp.lim _)
 ·exact same l15 _ (h y hp.disk mid.small) rfl rfl rfl rfl ⟨hp.lim.inv.same rfl rfl rfl rfl, hp.lim.files, hp.lim.hist, hp.lim.pend, hp.lim.calls0, hp.lim.calls, hp.lim.room, hp.lim.bytes⟩
 ·exact same l15 _ (h y hp.disk mid.small) rfl rfl rfl rfl ⟨hp.lim.inv.same rfl rfl rfl rfl, hp.lim.files, hp.lim.hist, hp.lim.pend, hp.lim.calls0, hp.lim.calls, by show (0 : Int) ≤ max _ 0; omega, hp.lim.bytes⟩
end Go.Vc