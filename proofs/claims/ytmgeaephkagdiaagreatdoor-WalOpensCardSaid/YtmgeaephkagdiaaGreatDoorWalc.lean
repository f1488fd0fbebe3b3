/-
  The log's laws: the document's answer, and contracts.
  Printed by wip/vct.py: the conditions of functions, by their contracts.
  The log's laws: the document's answer, plainly.
  The log's laws: Say, and what Open finds.
  The log's laws: WalOpens.
-/
import Derived.Test.YtmgeaephkagdiaaGreatDoorWalb
import Derived.Test.YtmgeaephkagdiaaGreatDoorFramed
import Derived.Test.YtmgeaephkagdiaaGreatDoorDskf
import Derived.KernelRfl
set_option linter.unusedVariables false
set_option linter.unusedSimpArgs false
namespace Go.Vc
open Dk (Ds)
namespace Wl
/-- What files say, read in the order of their names. -/
def sayGo : List (Tx × Tx) → Nat → Bool → List Tx → List Tx × Nat
  | [], next, _, out => (out, next)
  | (n, t) :: r, next, began, out => match first n with
    | none => sayGo r next began out
    | some q => if q ≠ (if began then next else q) then (out, next) else sayGo r ((q + (scanT t q).length) % 18446744073709551616) true (out ++ scanT t q)
def say (l : List (Tx × Tx)) : List Tx × Nat := sayGo l 1 false []
end Wl
def prs (a b : List D) : List (Tx × Tx) := (fnd a).zip (fnd b)
def sizes (a : List D) : Nat := (a.map fun d => d.toS.size + 1).sum

def rVal.sig : Sig := sigF [.i .u8] [.i .u64] (fun _ => True) fun l => (arg l 1).toI = ((Wl.hexV (UInt8.ofNat (arg l 0).toI.toNat)).getD 16 : Nat)
def rNum.sig : Sig := wFirst.sig
def rNum.I0 : List D → Prop := fun l => (arg l 0).toS.size = 20 ∧ (tx (arg l 0).toS).take 4 = Wl.pre ∧ 4 ≤ (arg l 2).toI ∧ (arg l 2).toI ≤ 20 ∧ 0 ≤ (arg l 1).toI ∧ (arg l 1).toI.toNat < 16 ^ ((arg l 2).toI.toNat - 4) ∧
  Wl.first (tx (arg l 0).toS) = Wl.val ((tx (arg l 0).toS).drop (arg l 2).toI.toNat) (arg l 1).toI.toNat
def rNum.I0M : List D → Nat := fun l => (20 - (arg l 2).toI).toNat
/-- names, texts: the records, the next number. -/
def rSay.sig : Sig := sigF [.l [.str], .l [.str]] [.l [.str], .i .u64] (fun l => (arg l 1).toL.length = (arg l 3).toL.length ∧ (arg l 1).toL.length ≤ 60000 ∧ sizes (arg l 3).toL ≤ 100000000) fun l =>
  (arg l 5).toL = txD (Wl.say (prs (arg l 1).toL (arg l 3).toL)).1 ∧ (arg l 6).toI = ((Wl.say (prs (arg l 1).toL (arg l 3).toL)).2 : Nat)
/-- out, next, began, i. -/
def rSay.I0 : List D → Prop := fun l => 0 ≤ (arg l 7).toI ∧ (arg l 7).toI ≤ (arg l 1).toL.length ∧ ∃ O, (arg l 4).toL = txD O ∧ O.length ≤ sizes ((arg l 3).toL.take (arg l 7).toI.toNat) ∧
  Wl.say (prs (arg l 1).toL (arg l 3).toL) = Wl.sayGo ((prs (arg l 1).toL (arg l 3).toL).drop (arg l 7).toI.toNat) (arg l 5).toI.toNat (arg l 6).toB O
def rSay.I0M : List D → Nat := fun l => ((arg l 1).toL.length - (arg l 7).toI).toNat
def aw7.sig : Sig := sigF [] [.b] (fun _ => True) fun l => (arg l 0).toB = true
def LWalOpens.sig : Sig := sigF [.l [.str], .l [.str], .i .i64] [.b] (fun _ => True) yes
/-- A disk on which nothing went wrong. -/
structure Calm (n : Nat) (x : Ds) : Prop where
  lim : Lim (2 * n) (200 * n) x
  dead : x.dead = false
  crash : x.crash = -1
  fail : x.fail = -1
  room : x.room = 100000
/-- i, disk's word. -/
def LWalOpens.I0 : List D → Prop := fun l => 0 ≤ (arg l 5).toI ∧ (arg l 5).toI ≤ 6 ∧ ∃ x, RepL (arg l 6).toL x ∧ Calm (arg l 5).toI.toNat x
def LWalOpens.I0M : List D → Nat := fun l => (6 - (arg l 5).toI).toNat
/-- list, all, i, disk's word. -/
def LWalOpens.I1 : List D → Prop := fun l => 0 ≤ (arg l 7).toI ∧ (arg l 7).toI ≤ (arg l 5).toL.length ∧ ∃ x, RepL (arg l 8).toL x ∧ Calm 6 x ∧ (arg l 5).toL = txD (x.names.map Prod.fst) ∧ (arg l 6).toL = txD (((x.names.map Prod.fst).take (arg l 7).toI.toNat).map fun n => (Dk.read x n).1)
def LWalOpens.I1M : List D → Nat := fun l => ((arg l 5).toL.length - (arg l 7).toI).toNat
end Go.Vc
namespace Go.Vc
set_option linter.unusedVariables false
set_option maxRecDepth 100000
def rVal.Pure : Prop :=
 ∀ (i0 : Int),
 (0 ≤ i0 ∧ i0 < 256) →
 rVal.sig.pre [.I i0] →
 ((
 ((48 : Int) ≤ i0) →
 ((
 (i0 ≤ (57 : Int)) →
   rVal.sig.post [.I i0, (D.I (IntKind.wrap .u64 ((IntKind.wrap .u64 i0) - (48 : Int))))]) ∧ (
 ((57 : Int) < i0) →
 ((
 ((97 : Int) ≤ i0) →
 ((
 (i0 ≤ (102 : Int)) →
     rVal.sig.post [.I i0, (D.I (IntKind.wrap .u64 ((IntKind.wrap .u64 i0) - (87 : Int))))]) ∧ (
 ((102 : Int) < i0) →
     rVal.sig.post [.I i0, (D.I (16 : Int))]))) ∧ (
 (i0 < (97 : Int)) →
    rVal.sig.post [.I i0, (D.I (16 : Int))]))))) ∧ (
 (i0 < (48 : Int)) →
 ((
 ((97 : Int) ≤ i0) →
 ((
 (i0 ≤ (102 : Int)) →
    rVal.sig.post [.I i0, (D.I (IntKind.wrap .u64 ((IntKind.wrap .u64 i0) - (87 : Int))))]) ∧ (
 ((102 : Int) < i0) →
    rVal.sig.post [.I i0, (D.I (16 : Int))]))) ∧ (
 (i0 < (97 : Int)) →
   rVal.sig.post [.I i0, (D.I (16 : Int))]))))
def rNum.Pure : Prop :=
 ∀ (s0 : ByteArray),
 ((s0.size : Int) ≤ 9223372036854775807) →
 rNum.sig.pre [.S s0] →
 ((
 (((s0.size : Nat) : Int) ≠ (20 : Int)) →
  rNum.sig.post [.S s0, (D.I (0 : Int)), .B false]) ∧ (
 (((s0.size : Nat) : Int) = (20 : Int)) →
 ((4 : Int) ≤ ((s0.size : Nat) : Int)) ∧ (((4 : Int) ≤ ((s0.size : Nat) : Int)) →
 ((
 ((s0.extract (0 : Int).toNat (4 : Int).toNat) ≠ (⟨#[119, 97, 108, 45]⟩ : ByteArray)) →
   rNum.sig.post [.S s0, (D.I (0 : Int)), .B false]) ∧ (
 ((s0.extract (0 : Int).toNat (4 : Int).toNat) = (⟨#[119, 97, 108, 45]⟩ : ByteArray)) →
   rNum.I0 [.S s0, (D.I (0 : Int)), (D.I (4 : Int))] ∧ (
 ∀ (i1 : Int),
 ∀ (i2 : Int),
 (0 ≤ i1 ∧ i1 < 18446744073709551616) →
 (-9223372036854775808 ≤ i2 ∧ i2 < 9223372036854775808) →
   rNum.I0 [.S s0, .I i1, .I i2] →
 ((
 (i2 < (20 : Int)) →
 ((0 : Int) ≤ i2) ∧ (((0 : Int) ≤ i2) →
 (i2 < ((s0.size : Nat) : Int)) ∧ ((i2 < ((s0.size : Nat) : Int)) →
    rVal.sig.pre [(D.I (byteAt s0 i2))] ∧ (
 ∀ (i3 : Int),
    rVal.sig.post [(D.I (byteAt s0 i2)), .I i3] →
 (0 ≤ i3 ∧ i3 < 18446744073709551616) →
 ((
 ((15 : Int) < i3) →
     rNum.sig.post [.S s0, (D.I (0 : Int)), .B false]) ∧ (
 (i3 ≤ (15 : Int)) →
     rNum.I0 [.S s0, (D.I (IntKind.wrap .u64 ((IntKind.wrap .u64 ((16 : Int) * i1)) + i3))), (D.I (IntKind.wrap .i64 (i2 + (1 : Int))))] ∧ rNum.I0M [.S s0, (D.I (IntKind.wrap .u64 ((IntKind.wrap .u64 ((16 : Int) * i1)) + i3))), (D.I (IntKind.wrap .i64 (i2 + (1 : Int))))] < rNum.I0M [.S s0, .I i1, .I i2])))))) ∧ (
 ((20 : Int) ≤ i2) →
    rNum.sig.post [.S s0, .I i1, .B true]))))))))
def rSay.Pure : Prop :=
 ∀ (v0 : Value),
 ∀ (l1 : List D),
 ∀ (v2 : Value),
 ∀ (l3 : List D),
 (EK.ok [.str] (D.L l1)) →
 (EK.ok [.str] (D.L l3)) →
 rSay.sig.pre [.V v0, .L l1, .V v2, .L l3] →
 ∀ (v4 : Value),
 ∀ (v5 : Value),
 rSay.I0 [.V v0, .L l1, .V v2, .L l3, (D.L ([] : List D)), (D.I (1 : Int)), .B false, (D.I (0 : Int))] ∧ (
 ∀ (v6 : Value),
 ∀ (l7 : List D),
 ∀ (i8 : Int),
 ∀ (b9 : Bool),
 ∀ (i10 : Int),
 (0 ≤ i8 ∧ i8 < 18446744073709551616) →
 (-9223372036854775808 ≤ i10 ∧ i10 < 9223372036854775808) →
 (EK.ok [.str] (D.L l7)) →
 rSay.I0 [.V v0, .L l1, .V v2, .L l3, .L l7, .I i8, .B b9, .I i10] →
 ((
 (i10 < ((l1.length : Nat) : Int)) →
 ((0 : Int) ≤ i10) ∧ (((0 : Int) ≤ i10) →
  rNum.sig.pre [(D.S ((l1.getD i10.toNat default)).toS)] ∧ (
 ∀ (i11 : Int),
 ∀ (b12 : Bool),
  rNum.sig.post [(D.S ((l1.getD i10.toNat default)).toS), .I i11, .B b12] →
 (0 ≤ i11 ∧ i11 < 18446744073709551616) →
 ((
 (b12 = false) →
   rSay.I0 [.V v0, .L l1, .V v2, .L l3, .L l7, .I i8, .B b9, (D.I (IntKind.wrap .i64 (i10 + (1 : Int))))] ∧ rSay.I0M [.V v0, .L l1, .V v2, .L l3, .L l7, .I i8, .B b9, (D.I (IntKind.wrap .i64 (i10 + (1 : Int))))] < rSay.I0M [.V v0, .L l1, .V v2, .L l3, .L l7, .I i8, .B b9, .I i10]) ∧ (
 (b12 = true) →
 ((
 (b9 = false) →
 ((
 (i11 ≠ i11) →
     rSay.sig.post [.V v0, .L l1, .V v2, .L l3, .V v6, .L l7, .I i11]) ∧ (
 (i11 = i11) →
 (i10 < ((l3.length : Nat) : Int)) ∧ ((i10 < ((l3.length : Nat) : Int)) →
     RScn.sig.pre [(D.S ((l3.getD i10.toNat default)).toS), .I i11] ∧ (
 ∀ (v13 : Value),
 ∀ (l14 : List D),
 ∀ (i15 : Int),
     RScn.sig.post [(D.S ((l3.getD i10.toNat default)).toS), .I i11, .V v13, .L l14, .I i15] →
 (-9223372036854775808 ≤ i15 ∧ i15 < 9223372036854775808) →
 (EK.ok [.str] (D.L l14)) →
 ((((l7 ++ l14).length : Nat) : Int) ≤ (8796093022208 : Int)) ∧ (((((l7 ++ l14).length : Nat) : Int) ≤ (8796093022208 : Int)) →
 ∀ (v16 : Value),
     rSay.I0 [.V v0, .L l1, .V v2, .L l3, (D.L (l7 ++ l14)), (D.I (IntKind.wrap .u64 (i11 + (IntKind.wrap .u64 ((l14.length : Nat) : Int))))), .B true, (D.I (IntKind.wrap .i64 (i10 + (1 : Int))))] ∧ rSay.I0M [.V v0, .L l1, .V v2, .L l3, (D.L (l7 ++ l14)), (D.I (IntKind.wrap .u64 (i11 + (IntKind.wrap .u64 ((l14.length : Nat) : Int))))), .B true, (D.I (IntKind.wrap .i64 (i10 + (1 : Int))))] < rSay.I0M [.V v0, .L l1, .V v2, .L l3, .L l7, .I i8, .B b9, .I i10])))))) ∧ (
 (b9 = true) →
 ((
 (i11 ≠ i8) →
     rSay.sig.post [.V v0, .L l1, .V v2, .L l3, .V v6, .L l7, .I i8]) ∧ (
 (i11 = i8) →
 (i10 < ((l3.length : Nat) : Int)) ∧ ((i10 < ((l3.length : Nat) : Int)) →
     RScn.sig.pre [(D.S ((l3.getD i10.toNat default)).toS), .I i11] ∧ (
 ∀ (v13 : Value),
 ∀ (l14 : List D),
 ∀ (i15 : Int),
     RScn.sig.post [(D.S ((l3.getD i10.toNat default)).toS), .I i11, .V v13, .L l14, .I i15] →
 (-9223372036854775808 ≤ i15 ∧ i15 < 9223372036854775808) →
 (EK.ok [.str] (D.L l14)) →
 ((((l7 ++ l14).length : Nat) : Int) ≤ (8796093022208 : Int)) ∧ (((((l7 ++ l14).length : Nat) : Int) ≤ (8796093022208 : Int)) →
 ∀ (v16 : Value),
     rSay.I0 [.V v0, .L l1, .V v2, .L l3, (D.L (l7 ++ l14)), (D.I (IntKind.wrap .u64 (i8 + (IntKind.wrap .u64 ((l14.length : Nat) : Int))))), .B true, (D.I (IntKind.wrap .i64 (i10 + (1 : Int))))] ∧ rSay.I0M [.V v0, .L l1, .V v2, .L l3, (D.L (l7 ++ l14)), (D.I (IntKind.wrap .u64 (i8 + (IntKind.wrap .u64 ((l14.length : Nat) : Int))))), .B true, (D.I (IntKind.wrap .i64 (i10 + (1 : Int))))] < rSay.I0M [.V v0, .L l1, .V v2, .L l3, .L l7, .I i8, .B b9, .I i10])))))))))))) ∧ (
 (((l1.length : Nat) : Int) ≤ i10) →
  rSay.sig.post [.V v0, .L l1, .V v2, .L l3, .V v6, .L l7, .I i8])))
def aw7.Pure : Prop :=
 aw7.sig.pre [] →
 qNew.sig.pre [(D.I (1000 : Int))] ∧ (
 ∀ (n0 : Nat),
 ∀ (l1 : List D),
 qNew.sig.post [(D.I (1000 : Int)), .N n0, .L l1] →
 ((
  pOpen.sig.pre [.N n0, .L l1, (D.I (100 : Int))] ∧ (
 ∀ (n2 : Nat),
 ∀ (l3 : List D),
 ∀ (v4 : Value),
 ∀ (l5 : List D),
  pOpen.sig.post [.N n0, .L l1, (D.I (100 : Int)), .N n2, .L l3, .V v4, .L l5] →
 (EK.ok [.str] (D.L l5)) →
 ((
 ((0 : Int) < ((l5.length : Nat) : Int)) →
   aw7.sig.post [.B false]) ∧ (
 (((l5.length : Nat) : Int) ≤ (0 : Int)) →
   pAppend.sig.pre [.N n2, .N n0, .L l3, .L l1, (D.S (⟨#[97]⟩ : ByteArray))] ∧ (
 ∀ (l6 : List D),
 ∀ (l7 : List D),
 ∀ (i8 : Int),
   pAppend.sig.post [.N n2, .N n0, .L l3, .L l1, (D.S (⟨#[97]⟩ : ByteArray)), .L l6, .L l7, .I i8] →
 (-9223372036854775808 ≤ i8 ∧ i8 < 9223372036854775808) →
 ((
 (i8 ≠ (0 : Int)) →
    aw7.sig.post [.B false]) ∧ (
 (i8 = (0 : Int)) →
    pAppend.sig.pre [.N n2, .N n0, .L l6, .L l7, (D.S (⟨#[98]⟩ : ByteArray))] ∧ (
 ∀ (l9 : List D),
 ∀ (l10 : List D),
 ∀ (i11 : Int),
    pAppend.sig.post [.N n2, .N n0, .L l6, .L l7, (D.S (⟨#[98]⟩ : ByteArray)), .L l9, .L l10, .I i11] →
 (-9223372036854775808 ≤ i11 ∧ i11 < 9223372036854775808) →
 ((
 (i11 ≠ (0 : Int)) →
     aw7.sig.post [.B false]) ∧ (
 (i11 = (0 : Int)) →
     pSync.sig.pre [.N n2, .N n0, .L l9, .L l10] ∧ (
 ∀ (l12 : List D),
 ∀ (l13 : List D),
 ∀ (i14 : Int),
     pSync.sig.post [.N n2, .N n0, .L l9, .L l10, .L l12, .L l13, .I i14] →
 (-9223372036854775808 ≤ i14 ∧ i14 < 9223372036854775808) →
 ((
 (i14 ≠ (0 : Int)) →
      aw7.sig.post [.B false]) ∧ (
 (i14 = (0 : Int)) →
 ∀ (v15 : Value),
      qRestart.sig.pre [.N n0, .L l13, .V v15, (D.Z ([] : List Int))] ∧ (
 ∀ (l16 : List D),
      qRestart.sig.post [.N n0, .L l13, .V v15, (D.Z ([] : List Int)), .L l16] →
 ((
       pOpen.sig.pre [.N n0, .L l16, (D.I (100 : Int))] ∧ (
 ∀ (n17 : Nat),
 ∀ (l18 : List D),
 ∀ (v19 : Value),
 ∀ (l20 : List D),
       pOpen.sig.post [.N n0, .L l16, (D.I (100 : Int)), .N n17, .L l18, .V v19, .L l20] →
 (EK.ok [.str] (D.L l20)) →
 ((
 (((l20.length : Nat) : Int) = (2 : Int)) →
 ((0 : Int) < ((l20.length : Nat) : Int)) ∧ (((0 : Int) < ((l20.length : Nat) : Int)) →
 ((
 (((l20.getD (0 : Int).toNat default)).toS = (⟨#[97]⟩ : ByteArray)) →
 ((1 : Int) < ((l20.length : Nat) : Int)) ∧ (((1 : Int) < ((l20.length : Nat) : Int)) →
 ((
 (((l20.getD (1 : Int).toNat default)).toS = (⟨#[98]⟩ : ByteArray)) →
          pNext.sig.pre [.N n17, .N n0, .L l18] ∧ (
          pNext.sig.post [.N n17, .N n0, .L l18] →
 ((
 (((l18.getD (1 : Int).toNat default)).toI = (3 : Int)) →
           wName.sig.pre [(D.I (3 : Int))] ∧ (
 ∀ (s21 : ByteArray),
           wName.sig.post [(D.I (3 : Int)), .S s21] →
 ((s21.size : Int) ≤ 9223372036854775807) →
           aw7.sig.post [(D.B (s21.toList == (⟨#[119, 97, 108, 45, 48, 48, 48, 48, 48, 48, 48, 48, 48, 48, 48, 48, 48, 48, 48, 51]⟩ : ByteArray).toList))])) ∧ (
 (((l18.getD (1 : Int).toNat default)).toI ≠ (3 : Int)) →
           aw7.sig.post [.B false])))) ∧ (
 (((l20.getD (1 : Int).toNat default)).toS ≠ (⟨#[98]⟩ : ByteArray)) →
          aw7.sig.post [.B false])))) ∧ (
 (((l20.getD (0 : Int).toNat default)).toS ≠ (⟨#[97]⟩ : ByteArray)) →
         aw7.sig.post [.B false])))) ∧ (
 (((l20.length : Nat) : Int) ≠ (2 : Int)) →
        aw7.sig.post [.B false])))) ∧ (
       pOpen.sig.pre [.N n0, .L l16, (D.I (100 : Int))] ∧ (
 ∀ (v17 : Value),
 ∀ (l18 : List D),
 ∀ (i19 : Int),
       pOpen.sig.post2 [.N n0, .L l16, (D.I (100 : Int)), .V v17, .L l18, .I i19] →
 (-9223372036854775808 ≤ i19 ∧ i19 < 9223372036854775808) →
 (EK.ok [.str] (D.L l18)) →
 ((
 (i19 = (0 : Int)) →
        aw7.sig.post [.B false]) ∧ (
 (i19 ≠ (0 : Int)) →
        aw7.sig.post [.B false]))))))))))))))))))) ∧ (
  pOpen.sig.pre [.N n0, .L l1, (D.I (100 : Int))] ∧ (
 ∀ (v2 : Value),
 ∀ (l3 : List D),
 ∀ (i4 : Int),
  pOpen.sig.post2 [.N n0, .L l1, (D.I (100 : Int)), .V v2, .L l3, .I i4] →
 (-9223372036854775808 ≤ i4 ∧ i4 < 9223372036854775808) →
 (EK.ok [.str] (D.L l3)) →
  aw7.sig.post [.B false]))))
def LWalOpens.Pure : Prop :=
 ∀ (v0 : Value),
 ∀ (l1 : List D),
 ∀ (v2 : Value),
 ∀ (l3 : List D),
 ∀ (i4 : Int),
 (-9223372036854775808 ≤ i4 ∧ i4 < 9223372036854775808) →
 (EK.ok [.str] (D.L l1)) →
 (EK.ok [.str] (D.L l3)) →
 LWalOpens.sig.pre [.V v0, .L l1, .V v2, .L l3, .I i4] →
 qNew.sig.pre [(D.I (100000 : Int))] ∧ (
 ∀ (n5 : Nat),
 ∀ (l6 : List D),
 qNew.sig.post [(D.I (100000 : Int)), .N n5, .L l6] →
 aw7.sig.pre [] ∧ (
 ∀ (b7 : Bool),
 aw7.sig.post [.B b7] →
 ((
 (b7 = false) →
  LWalOpens.sig.post [.V v0, .L l1, .V v2, .L l3, .I i4, .B false]) ∧ (
 (b7 = true) →
  LWalOpens.I0 [.V v0, .L l1, .V v2, .L l3, .I i4, (D.I (0 : Int)), .L l6] ∧ (
 ∀ (i8 : Int),
 ∀ (l9 : List D),
 (-9223372036854775808 ≤ i8 ∧ i8 < 9223372036854775808) →
  LWalOpens.I0 [.V v0, .L l1, .V v2, .L l3, .I i4, .I i8, .L l9] →
 ((
 (i8 < ((l1.length : Nat) : Int)) →
 ((
 (i8 < ((l3.length : Nat) : Int)) →
 ((
 (i8 < (6 : Int)) →
 ((0 : Int) ≤ i8) ∧ (((0 : Int) ≤ i8) →
     dCut.sig.pre [(D.S ((l1.getD i8.toNat default)).toS), (D.I (24 : Int))] ∧ (
 ∀ (s10 : ByteArray),
     dCut.sig.post [(D.S ((l1.getD i8.toNat default)).toS), (D.I (24 : Int)), .S s10] →
 ((s10.size : Int) ≤ 9223372036854775807) →
     qCreate.sig.pre [.N n5, .L l9, .S s10] ∧ (
 ∀ (l11 : List D),
 ∀ (i12 : Int),
     qCreate.sig.post [.N n5, .L l9, .S s10, .L l11, .I i12] →
 (-9223372036854775808 ≤ i12 ∧ i12 < 9223372036854775808) →
 ((
 (i12 = (0 : Int)) →
      dCut.sig.pre [(D.S ((l3.getD i8.toNat default)).toS), (D.I (200 : Int))] ∧ (
 ∀ (s13 : ByteArray),
      dCut.sig.post [(D.S ((l3.getD i8.toNat default)).toS), (D.I (200 : Int)), .S s13] →
 ((s13.size : Int) ≤ 9223372036854775807) →
      qAppend.sig.pre [.N n5, .L l11, .S s10, .S s13] ∧ (
 ∀ (l14 : List D),
 ∀ (i15 : Int),
      qAppend.sig.post [.N n5, .L l11, .S s10, .S s13, .L l14, .I i15] →
 (-9223372036854775808 ≤ i15 ∧ i15 < 9223372036854775808) →
 ((
 (i15 ≠ (0 : Int)) →
       LWalOpens.sig.post [.V v0, .L l1, .V v2, .L l3, .I i4, .B false]) ∧ (
 (i15 = (0 : Int)) →
       LWalOpens.I0 [.V v0, .L l1, .V v2, .L l3, .I i4, (D.I (IntKind.wrap .i64 (i8 + (1 : Int)))), .L l14] ∧ LWalOpens.I0M [.V v0, .L l1, .V v2, .L l3, .I i4, (D.I (IntKind.wrap .i64 (i8 + (1 : Int)))), .L l14] < LWalOpens.I0M [.V v0, .L l1, .V v2, .L l3, .I i4, .I i8, .L l9]))))) ∧ (
 (i12 ≠ (0 : Int)) →
      LWalOpens.I0 [.V v0, .L l1, .V v2, .L l3, .I i4, (D.I (IntKind.wrap .i64 (i8 + (1 : Int)))), .L l11] ∧ LWalOpens.I0M [.V v0, .L l1, .V v2, .L l3, .I i4, (D.I (IntKind.wrap .i64 (i8 + (1 : Int)))), .L l11] < LWalOpens.I0M [.V v0, .L l1, .V v2, .L l3, .I i4, .I i8, .L l9])))))) ∧ (
 ((6 : Int) ≤ i8) →
     qNames.sig.pre [.N n5, .L l9] ∧ (
 ∀ (v10 : Value),
 ∀ (l11 : List D),
 ∀ (i12 : Int),
     qNames.sig.post [.N n5, .L l9, .V v10, .L l11, .I i12] →
 (-9223372036854775808 ≤ i12 ∧ i12 < 9223372036854775808) →
 (EK.ok [.str] (D.L l11)) →
 ∀ (v13 : Value),
     LWalOpens.I1 [.V v0, .L l1, .V v2, .L l3, .I i4, .L l11, (D.L ([] : List D)), (D.I (0 : Int)), .L l9] ∧ (
 ∀ (v14 : Value),
 ∀ (l15 : List D),
 ∀ (i16 : Int),
 ∀ (l17 : List D),
 (-9223372036854775808 ≤ i16 ∧ i16 < 9223372036854775808) →
 (EK.ok [.str] (D.L l15)) →
     LWalOpens.I1 [.V v0, .L l1, .V v2, .L l3, .I i4, .L l11, .L l15, .I i16, .L l17] →
 ((
 (i16 < ((l11.length : Nat) : Int)) →
 ((0 : Int) ≤ i16) ∧ (((0 : Int) ≤ i16) →
      qRead.sig.pre [.N n5, .L l17, (D.S ((l11.getD i16.toNat default)).toS)] ∧ (
 ∀ (s18 : ByteArray),
 ∀ (i19 : Int),
      qRead.sig.post [.N n5, .L l17, (D.S ((l11.getD i16.toNat default)).toS), .S s18, .I i19] →
 ((s18.size : Int) ≤ 9223372036854775807) →
 (-9223372036854775808 ≤ i19 ∧ i19 < 9223372036854775808) →
 ((
 (i19 ≠ (0 : Int)) →
       LWalOpens.sig.post [.V v0, .L l1, .V v2, .L l3, .I i4, .B false]) ∧ (
 (i19 = (0 : Int)) →
 ∀ (v20 : Value),
 ((((l15 ++ ((D.S s18) :: ([] : List D))).length : Nat) : Int) ≤ (8796093022208 : Int)) ∧ (((((l15 ++ ((D.S s18) :: ([] : List D))).length : Nat) : Int) ≤ (8796093022208 : Int)) →
 ∀ (v21 : Value),
       LWalOpens.I1 [.V v0, .L l1, .V v2, .L l3, .I i4, .L l11, (D.L (l15 ++ ((D.S s18) :: ([] : List D)))), (D.I (IntKind.wrap .i64 (i16 + (1 : Int)))), .L l17] ∧ LWalOpens.I1M [.V v0, .L l1, .V v2, .L l3, .I i4, .L l11, (D.L (l15 ++ ((D.S s18) :: ([] : List D)))), (D.I (IntKind.wrap .i64 (i16 + (1 : Int)))), .L l17] < LWalOpens.I1M [.V v0, .L l1, .V v2, .L l3, .I i4, .L l11, .L l15, .I i16, .L l17])))))) ∧ (
 (((l11.length : Nat) : Int) ≤ i16) →
 ((
       pOpen.sig.pre [.N n5, .L l17, .I i4] ∧ (
 ∀ (n18 : Nat),
 ∀ (l19 : List D),
 ∀ (v20 : Value),
 ∀ (l21 : List D),
       pOpen.sig.post [.N n5, .L l17, .I i4, .N n18, .L l19, .V v20, .L l21] →
 (EK.ok [.str] (D.L l21)) →
       rSay.sig.pre [.V v10, .L l11, .V v14, .L l15] ∧ (
 ∀ (v22 : Value),
 ∀ (l23 : List D),
 ∀ (i24 : Int),
       rSay.sig.post [.V v10, .L l11, .V v14, .L l15, .V v22, .L l23, .I i24] →
 (0 ≤ i24 ∧ i24 < 18446744073709551616) →
 (EK.ok [.str] (D.L l23)) →
 ((
 (i12 = (0 : Int)) →
        pNext.sig.pre [.N n18, .N n5, .L l19] ∧ (
        pNext.sig.post [.N n18, .N n5, .L l19] →
 ((
 (((l19.getD (1 : Int).toNat default)).toI = i24) →
         SameL.sig.pre [.V v20, .L l21, .V v22, .L l23] ∧ (
 ∀ (i25 : Int),
         SameL.sig.post [.V v20, .L l21, .V v22, .L l23, .I i25] →
 (-9223372036854775808 ≤ i25 ∧ i25 < 9223372036854775808) →
         LWalOpens.sig.post [.V v0, .L l1, .V v2, .L l3, .I i4, (D.B (i25 == (0 : Int)))])) ∧ (
 (((l19.getD (1 : Int).toNat default)).toI ≠ i24) →
         LWalOpens.sig.post [.V v0, .L l1, .V v2, .L l3, .I i4, .B false])))) ∧ (
 (i12 ≠ (0 : Int)) →
        LWalOpens.sig.post [.V v0, .L l1, .V v2, .L l3, .I i4, .B false]))))) ∧ (
       pOpen.sig.pre [.N n5, .L l17, .I i4] ∧ (
 ∀ (v18 : Value),
 ∀ (l19 : List D),
 ∀ (i20 : Int),
       pOpen.sig.post2 [.N n5, .L l17, .I i4, .V v18, .L l19, .I i20] →
 (-9223372036854775808 ≤ i20 ∧ i20 < 9223372036854775808) →
 (EK.ok [.str] (D.L l19)) →
       rSay.sig.pre [.V v10, .L l11, .V v14, .L l15] ∧ (
 ∀ (v21 : Value),
 ∀ (l22 : List D),
 ∀ (i23 : Int),
       rSay.sig.post [.V v10, .L l11, .V v14, .L l15, .V v21, .L l22, .I i23] →
 (0 ≤ i23 ∧ i23 < 18446744073709551616) →
 (EK.ok [.str] (D.L l22)) →
 ((
 (i12 = (0 : Int)) →
 ((
 (i20 = (0 : Int)) →
         LWalOpens.sig.post [.V v0, .L l1, .V v2, .L l3, .I i4, .B false]) ∧ (
 (i20 ≠ (0 : Int)) →
         LWalOpens.sig.post [.V v0, .L l1, .V v2, .L l3, .I i4, .B false]))) ∧ (
 (i12 ≠ (0 : Int)) →
        LWalOpens.sig.post [.V v0, .L l1, .V v2, .L l3, .I i4, .B false]))))))))))))) ∧ (
 (((l3.length : Nat) : Int) ≤ i8) →
    qNames.sig.pre [.N n5, .L l9] ∧ (
 ∀ (v10 : Value),
 ∀ (l11 : List D),
 ∀ (i12 : Int),
    qNames.sig.post [.N n5, .L l9, .V v10, .L l11, .I i12] →
 (-9223372036854775808 ≤ i12 ∧ i12 < 9223372036854775808) →
 (EK.ok [.str] (D.L l11)) →
 ∀ (v13 : Value),
    LWalOpens.I1 [.V v0, .L l1, .V v2, .L l3, .I i4, .L l11, (D.L ([] : List D)), (D.I (0 : Int)), .L l9] ∧ (
 ∀ (v14 : Value),
 ∀ (l15 : List D),
 ∀ (i16 : Int),
 ∀ (l17 : List D),
 (-9223372036854775808 ≤ i16 ∧ i16 < 9223372036854775808) →
 (EK.ok [.str] (D.L l15)) →
    LWalOpens.I1 [.V v0, .L l1, .V v2, .L l3, .I i4, .L l11, .L l15, .I i16, .L l17] →
 ((
 (i16 < ((l11.length : Nat) : Int)) →
 ((0 : Int) ≤ i16) ∧ (((0 : Int) ≤ i16) →
     qRead.sig.pre [.N n5, .L l17, (D.S ((l11.getD i16.toNat default)).toS)] ∧ (
 ∀ (s18 : ByteArray),
 ∀ (i19 : Int),
     qRead.sig.post [.N n5, .L l17, (D.S ((l11.getD i16.toNat default)).toS), .S s18, .I i19] →
 ((s18.size : Int) ≤ 9223372036854775807) →
 (-9223372036854775808 ≤ i19 ∧ i19 < 9223372036854775808) →
 ((
 (i19 ≠ (0 : Int)) →
      LWalOpens.sig.post [.V v0, .L l1, .V v2, .L l3, .I i4, .B false]) ∧ (
 (i19 = (0 : Int)) →
 ∀ (v20 : Value),
 ((((l15 ++ ((D.S s18) :: ([] : List D))).length : Nat) : Int) ≤ (8796093022208 : Int)) ∧ (((((l15 ++ ((D.S s18) :: ([] : List D))).length : Nat) : Int) ≤ (8796093022208 : Int)) →
 ∀ (v21 : Value),
      LWalOpens.I1 [.V v0, .L l1, .V v2, .L l3, .I i4, .L l11, (D.L (l15 ++ ((D.S s18) :: ([] : List D)))), (D.I (IntKind.wrap .i64 (i16 + (1 : Int)))), .L l17] ∧ LWalOpens.I1M [.V v0, .L l1, .V v2, .L l3, .I i4, .L l11, (D.L (l15 ++ ((D.S s18) :: ([] : List D)))), (D.I (IntKind.wrap .i64 (i16 + (1 : Int)))), .L l17] < LWalOpens.I1M [.V v0, .L l1, .V v2, .L l3, .I i4, .L l11, .L l15, .I i16, .L l17])))))) ∧ (
 (((l11.length : Nat) : Int) ≤ i16) →
 ((
      pOpen.sig.pre [.N n5, .L l17, .I i4] ∧ (
 ∀ (n18 : Nat),
 ∀ (l19 : List D),
 ∀ (v20 : Value),
 ∀ (l21 : List D),
      pOpen.sig.post [.N n5, .L l17, .I i4, .N n18, .L l19, .V v20, .L l21] →
 (EK.ok [.str] (D.L l21)) →
      rSay.sig.pre [.V v10, .L l11, .V v14, .L l15] ∧ (
 ∀ (v22 : Value),
 ∀ (l23 : List D),
 ∀ (i24 : Int),
      rSay.sig.post [.V v10, .L l11, .V v14, .L l15, .V v22, .L l23, .I i24] →
 (0 ≤ i24 ∧ i24 < 18446744073709551616) →
 (EK.ok [.str] (D.L l23)) →
 ((
 (i12 = (0 : Int)) →
       pNext.sig.pre [.N n18, .N n5, .L l19] ∧ (
       pNext.sig.post [.N n18, .N n5, .L l19] →
 ((
 (((l19.getD (1 : Int).toNat default)).toI = i24) →
        SameL.sig.pre [.V v20, .L l21, .V v22, .L l23] ∧ (
 ∀ (i25 : Int),
        SameL.sig.post [.V v20, .L l21, .V v22, .L l23, .I i25] →
 (-9223372036854775808 ≤ i25 ∧ i25 < 9223372036854775808) →
        LWalOpens.sig.post [.V v0, .L l1, .V v2, .L l3, .I i4, (D.B (i25 == (0 : Int)))])) ∧ (
 (((l19.getD (1 : Int).toNat default)).toI ≠ i24) →
        LWalOpens.sig.post [.V v0, .L l1, .V v2, .L l3, .I i4, .B false])))) ∧ (
 (i12 ≠ (0 : Int)) →
       LWalOpens.sig.post [.V v0, .L l1, .V v2, .L l3, .I i4, .B false]))))) ∧ (
      pOpen.sig.pre [.N n5, .L l17, .I i4] ∧ (
 ∀ (v18 : Value),
 ∀ (l19 : List D),
 ∀ (i20 : Int),
      pOpen.sig.post2 [.N n5, .L l17, .I i4, .V v18, .L l19, .I i20] →
 (-9223372036854775808 ≤ i20 ∧ i20 < 9223372036854775808) →
 (EK.ok [.str] (D.L l19)) →
      rSay.sig.pre [.V v10, .L l11, .V v14, .L l15] ∧ (
 ∀ (v21 : Value),
 ∀ (l22 : List D),
 ∀ (i23 : Int),
      rSay.sig.post [.V v10, .L l11, .V v14, .L l15, .V v21, .L l22, .I i23] →
 (0 ≤ i23 ∧ i23 < 18446744073709551616) →
 (EK.ok [.str] (D.L l22)) →
 ((
 (i12 = (0 : Int)) →
 ((
 (i20 = (0 : Int)) →
        LWalOpens.sig.post [.V v0, .L l1, .V v2, .L l3, .I i4, .B false]) ∧ (
 (i20 ≠ (0 : Int)) →
        LWalOpens.sig.post [.V v0, .L l1, .V v2, .L l3, .I i4, .B false]))) ∧ (
 (i12 ≠ (0 : Int)) →
       LWalOpens.sig.post [.V v0, .L l1, .V v2, .L l3, .I i4, .B false]))))))))))))) ∧ (
 (((l1.length : Nat) : Int) ≤ i8) →
   qNames.sig.pre [.N n5, .L l9] ∧ (
 ∀ (v10 : Value),
 ∀ (l11 : List D),
 ∀ (i12 : Int),
   qNames.sig.post [.N n5, .L l9, .V v10, .L l11, .I i12] →
 (-9223372036854775808 ≤ i12 ∧ i12 < 9223372036854775808) →
 (EK.ok [.str] (D.L l11)) →
 ∀ (v13 : Value),
   LWalOpens.I1 [.V v0, .L l1, .V v2, .L l3, .I i4, .L l11, (D.L ([] : List D)), (D.I (0 : Int)), .L l9] ∧ (
 ∀ (v14 : Value),
 ∀ (l15 : List D),
 ∀ (i16 : Int),
 ∀ (l17 : List D),
 (-9223372036854775808 ≤ i16 ∧ i16 < 9223372036854775808) →
 (EK.ok [.str] (D.L l15)) →
   LWalOpens.I1 [.V v0, .L l1, .V v2, .L l3, .I i4, .L l11, .L l15, .I i16, .L l17] →
 ((
 (i16 < ((l11.length : Nat) : Int)) →
 ((0 : Int) ≤ i16) ∧ (((0 : Int) ≤ i16) →
    qRead.sig.pre [.N n5, .L l17, (D.S ((l11.getD i16.toNat default)).toS)] ∧ (
 ∀ (s18 : ByteArray),
 ∀ (i19 : Int),
    qRead.sig.post [.N n5, .L l17, (D.S ((l11.getD i16.toNat default)).toS), .S s18, .I i19] →
 ((s18.size : Int) ≤ 9223372036854775807) →
 (-9223372036854775808 ≤ i19 ∧ i19 < 9223372036854775808) →
 ((
 (i19 ≠ (0 : Int)) →
     LWalOpens.sig.post [.V v0, .L l1, .V v2, .L l3, .I i4, .B false]) ∧ (
 (i19 = (0 : Int)) →
 ∀ (v20 : Value),
 ((((l15 ++ ((D.S s18) :: ([] : List D))).length : Nat) : Int) ≤ (8796093022208 : Int)) ∧ (((((l15 ++ ((D.S s18) :: ([] : List D))).length : Nat) : Int) ≤ (8796093022208 : Int)) →
 ∀ (v21 : Value),
     LWalOpens.I1 [.V v0, .L l1, .V v2, .L l3, .I i4, .L l11, (D.L (l15 ++ ((D.S s18) :: ([] : List D)))), (D.I (IntKind.wrap .i64 (i16 + (1 : Int)))), .L l17] ∧ LWalOpens.I1M [.V v0, .L l1, .V v2, .L l3, .I i4, .L l11, (D.L (l15 ++ ((D.S s18) :: ([] : List D)))), (D.I (IntKind.wrap .i64 (i16 + (1 : Int)))), .L l17] < LWalOpens.I1M [.V v0, .L l1, .V v2, .L l3, .I i4, .L l11, .L l15, .I i16, .L l17])))))) ∧ (
 (((l11.length : Nat) : Int) ≤ i16) →
 ((
     pOpen.sig.pre [.N n5, .L l17, .I i4] ∧ (
 ∀ (n18 : Nat),
 ∀ (l19 : List D),
 ∀ (v20 : Value),
 ∀ (l21 : List D),
     pOpen.sig.post [.N n5, .L l17, .I i4, .N n18, .L l19, .V v20, .L l21] →
 (EK.ok [.str] (D.L l21)) →
     rSay.sig.pre [.V v10, .L l11, .V v14, .L l15] ∧ (
 ∀ (v22 : Value),
 ∀ (l23 : List D),
 ∀ (i24 : Int),
     rSay.sig.post [.V v10, .L l11, .V v14, .L l15, .V v22, .L l23, .I i24] →
 (0 ≤ i24 ∧ i24 < 18446744073709551616) →
 (EK.ok [.str] (D.L l23)) →
 ((
 (i12 = (0 : Int)) →
      pNext.sig.pre [.N n18, .N n5, .L l19] ∧ (
      pNext.sig.post [.N n18, .N n5, .L l19] →
 ((
 (((l19.getD (1 : Int).toNat default)).toI = i24) →
       SameL.sig.pre [.V v20, .L l21, .V v22, .L l23] ∧ (
 ∀ (i25 : Int),
       SameL.sig.post [.V v20, .L l21, .V v22, .L l23, .I i25] →
 (-9223372036854775808 ≤ i25 ∧ i25 < 9223372036854775808) →
       LWalOpens.sig.post [.V v0, .L l1, .V v2, .L l3, .I i4, (D.B (i25 == (0 : Int)))])) ∧ (
 (((l19.getD (1 : Int).toNat default)).toI ≠ i24) →
       LWalOpens.sig.post [.V v0, .L l1, .V v2, .L l3, .I i4, .B false])))) ∧ (
 (i12 ≠ (0 : Int)) →
      LWalOpens.sig.post [.V v0, .L l1, .V v2, .L l3, .I i4, .B false]))))) ∧ (
     pOpen.sig.pre [.N n5, .L l17, .I i4] ∧ (
 ∀ (v18 : Value),
 ∀ (l19 : List D),
 ∀ (i20 : Int),
     pOpen.sig.post2 [.N n5, .L l17, .I i4, .V v18, .L l19, .I i20] →
 (-9223372036854775808 ≤ i20 ∧ i20 < 9223372036854775808) →
 (EK.ok [.str] (D.L l19)) →
     rSay.sig.pre [.V v10, .L l11, .V v14, .L l15] ∧ (
 ∀ (v21 : Value),
 ∀ (l22 : List D),
 ∀ (i23 : Int),
     rSay.sig.post [.V v10, .L l11, .V v14, .L l15, .V v21, .L l22, .I i23] →
 (0 ≤ i23 ∧ i23 < 18446744073709551616) →
 (EK.ok [.str] (D.L l22)) →
 ((
 (i12 = (0 : Int)) →
 ((
 (i20 = (0 : Int)) →
       LWalOpens.sig.post [.V v0, .L l1, .V v2, .L l3, .I i4, .B false]) ∧ (
 (i20 ≠ (0 : Int)) →
       LWalOpens.sig.post [.V v0, .L l1, .V v2, .L l3, .I i4, .B false]))) ∧ (
 (i12 ≠ (0 : Int)) →
      LWalOpens.sig.post [.V v0, .L l1, .V v2, .L l3, .I i4, .B false])))))))))))))))))
end Go.Vc
namespace Go.Vc
open Dk (Ds)
set_option maxRecDepth 20000 in
theorem hexV_nat : ∀ n : Nat, n < 256 → Wl.hexV (UInt8.ofNat n) = if 48 ≤ n ∧ n ≤ 57 then some (n - 48) else if 97 ≤ n ∧ n ≤ 102 then some (n - 87) else none := by decide
theorem rVal.pure : rVal.Pure := by
  intro i0 hr _
  have key : ∀ r : Int, (r = if 48 ≤ i0 ∧ i0 ≤ 57 then i0 - 48 else if 97 ≤ i0 ∧ i0 ≤ 102 then i0 - 87 else 16) → rVal.sig.post [.I i0, .I r] := by
    intro r h
    show r = ((Wl.hexV (UInt8.ofNat i0.toNat)).getD 16 : Nat)
    rw [hexV_nat _ (by omega), h]
    by_cases h1 : 48 ≤ i0 ∧ i0 ≤ 57
    · rw [if_pos h1, if_pos (show 48 ≤ i0.toNat ∧ i0.toNat ≤ 57 from by omega)]
      show i0 - 48 = ((i0.toNat - 48 : Nat) : Int)
      omega
    · rw [if_neg h1, if_neg (show ¬(48 ≤ i0.toNat ∧ i0.toNat ≤ 57) from by omega)]
      by_cases h2 : 97 ≤ i0 ∧ i0 ≤ 102
      · rw [if_pos h2, if_pos (show 97 ≤ i0.toNat ∧ i0.toNat ≤ 102 from by omega)]
        show i0 - 87 = ((i0.toNat - 87 : Nat) : Int)
        omega
      · rw [if_neg h2, if_neg (show ¬(97 ≤ i0.toNat ∧ i0.toNat ≤ 102) from by omega)]; rfl
  have w0 : IntKind.u64.wrap i0 = i0 := wrap_u64_eq (by omega) (by omega)
  refine ⟨fun h1 => ⟨fun h2 => key _ ?_, fun h2 => ⟨fun h3 => ⟨fun h4 => key _ ?_, fun h4 => key _ ?_⟩, fun h3 => key _ ?_⟩⟩, fun h1 => ⟨fun h3 => ⟨fun h4 => key _ ?_, fun h4 => key _ ?_⟩, fun h3 => key _ ?_⟩⟩
  · rw [w0, if_pos ⟨h1, h2⟩, wrap_u64_eq (by omega) (by omega)]
  · rw [w0, if_neg (by omega), if_pos ⟨h3, h4⟩, wrap_u64_eq (by omega) (by omega)]
  · rw [if_neg (by omega), if_neg (by omega)]
  · rw [if_neg (by omega), if_neg (by omega)]
  · omega
  · rw [if_neg (by omega), if_neg (by omega)]
  · rw [if_neg (by omega), if_neg (by omega)]

theorem rNum.pure : rNum.Pure := by
  intro s0 hs0 _
  have no : Wl.first (tx s0) = none → rNum.sig.post [.S s0, .I 0, .B false] := by
    intro h
    show match Wl.first (tx s0) with | some n => _ | none => false = false
    rw [h]
  have e4 : tx (s0.extract 0 4) = (tx s0).take 4 := by rw [tx_extract, List.drop_zero]
  refine ⟨fun hne => no ?_, fun he => ⟨(by omega), fun _ => ⟨fun hne => no ?_, fun hp => ?_⟩⟩⟩
  · unfold Wl.first
    rw [if_neg (fun h => hne (by have := h.2; rw [tx_size] at this; omega))]
  · unfold Wl.first
    rw [if_neg (fun h => hne ?_)]
    have h1 := e4.trans h.1
    have h2 := congrArg bx h1
    rw [bx_tx] at h2
    exact h2
  have hp : s0.extract 0 4 = bx Wl.pre := hp
  have h20 : (tx s0).length = 20 := by rw [tx_size]; omega
  have hpre : (tx s0).take 4 = Wl.pre := by rw [← e4, hp]; rfl
  refine ⟨⟨(by show s0.size = 20; omega), hpre, Int.le_refl _, (by decide : (4 : Int) ≤ 20), Int.le_refl _, (by decide : (0 : Nat) < 16 ^ 0), ?_⟩, ?_⟩
  · show Wl.first (tx s0) = Wl.val ((tx s0).drop 4) 0
    unfold Wl.first; rw [if_pos ⟨hpre, h20⟩]
  intro i1 i2 hr1 _ ⟨_, _, g1, g2, g3, g4, g5⟩
  have g1 : 4 ≤ i2 := g1
  have g2 : i2 ≤ 20 := g2
  have g3 : 0 ≤ i1 := g3
  have g4 : i1.toNat < 16 ^ (i2.toNat - 4) := g4
  have g5 : Wl.first (tx s0) = Wl.val ((tx s0).drop i2.toNat) i1.toNat := g5
  refine ⟨fun hlt => ⟨by omega, fun _ => ⟨by omega, fun _ => ⟨trivial, fun i3 hx hr3 => ?_⟩⟩⟩, fun hge => ?_⟩
  · have hdrop : (tx s0).drop i2.toNat = (tx s0)[i2.toNat]'(by omega) :: (tx s0).drop (i2.toNat + 1) := List.drop_eq_getElem_cons (by omega)
    have hb : byteAt s0 i2 = (((tx s0)[i2.toNat]'(by omega)).toNat : Int) := by
      unfold byteAt
      show (((tx s0).getD i2.toNat 0).toNat : Int) = _
      rw [List.getD, List.getElem?_eq_getElem (by omega)]
      rfl
    generalize (tx s0)[i2.toNat]'(by omega) = c at hdrop hb
    have hx : i3 = ((Wl.hexV (UInt8.ofNat (byteAt s0 i2).toNat)).getD 16 : Nat) := hx
    rw [hb, Int.toNat_natCast, UInt8.ofNat_toNat] at hx
    rw [hdrop, Wl.val] at g5
    cases hv : Wl.hexV c with
    | none =>
      rw [hv] at hx g5
      have hx : i3 = 16 := hx
      have g5 : Wl.first (tx s0) = none := g5
      exact ⟨fun _ => no g5, fun h => by omega⟩
    | some v =>
      rw [hv] at hx g5
      have hx : i3 = (v : Int) := hx
      have g5 : Wl.first (tx s0) = Wl.val ((tx s0).drop (i2.toNat + 1)) (16 * i1.toNat + v) := g5
      have hv16 := (Wl.hex_of c v hv).1
      refine ⟨fun h => by omega, fun _ => ?_⟩
      have hp : (16 : Nat) ^ (i2.toNat - 4) ≤ 16 ^ 15 := Nat.pow_le_pow_right (by decide) (by omega)
      have h15 : (16 : Nat) ^ 15 = 1152921504606846976 := by decide
      have h16 : (16 : Nat) ^ ((i2 + 1).toNat - 4) = 16 * 16 ^ (i2.toNat - 4) := by
        rw [show (i2 + 1).toNat - 4 = (i2.toNat - 4) + 1 from by omega, Nat.pow_succ, Nat.mul_comm]
      have w1 : IntKind.u64.wrap (16 * i1) = 16 * i1 := wrap_u64_eq (by omega) (by omega)
      have w2 : IntKind.u64.wrap (16 * i1 + i3) = 16 * i1 + v := by rw [hx]; exact wrap_u64_eq (by omega) (by omega)
      have w3 : IntKind.i64.wrap (i2 + 1) = i2 + 1 := wrap64 (by omega) (by omega)
      rw [w1, w2, w3]
      refine ⟨⟨(by show s0.size = 20; omega), hpre, (by omega : 4 ≤ i2 + 1), (by omega : i2 + 1 ≤ 20), (by omega : 0 ≤ 16 * i1 + (v : Int)), ?_, ?_⟩, (by omega : (20 - (i2 + 1)).toNat < (20 - i2).toNat)⟩
      · show (16 * i1 + (v : Int)).toNat < 16 ^ ((i2 + 1).toNat - 4)
        rw [h16]; omega
      · show Wl.first (tx s0) = Wl.val ((tx s0).drop (i2 + 1).toNat) (16 * i1 + (v : Int)).toNat
        rw [g5, show (i2 + 1).toNat = i2.toNat + 1 from by omega, show (16 * i1 + (v : Int)).toNat = 16 * i1.toNat + v from by omega]
  · have e : i2.toNat = 20 := by omega
    rw [e, List.drop_of_length_le (by omega)] at g5
    have g5 : Wl.first (tx s0) = some i1.toNat := g5
    show match Wl.first (tx s0) with | some n => i1 = n ∧ true = true | none => true = false
    rw [g5]
    exact ⟨by omega, rfl⟩
end Go.Vc
namespace Go.Vc
open Dk (Ds)
theorem open_say (x : Ds) : ∀ (l : List (Tx × Nat)) (next : Nat) (began : Bool) (O F : List Tx), (∀ p ∈ l, (Dk.read x p.1).2 = 0) →
    ∃ F', Wl.openAll x (l.filterMap fun p => Wl.first p.1) (if began then next else (l.filterMap fun p => Wl.first p.1).headD next) O F =
      ((Wl.sayGo (l.map fun p => (p.1, (Dk.read x p.1).1)) next began O).2, (Wl.sayGo (l.map fun p => (p.1, (Dk.read x p.1).1)) next began O).1, F', 0)
  | [], next, began, O, F, _ => ⟨F, by cases began <;> rfl⟩
  | p :: l, next, began, O, F, h => by
    cases hf : Wl.first p.1 with
    | none =>
      obtain ⟨F', hF⟩ := open_say x l next began O F fun q hq => h q (List.mem_cons_of_mem _ hq)
      refine ⟨F', ?_⟩
      rw [List.filterMap_cons, hf, List.map_cons, Wl.sayGo, hf]
      exact hF
    | some q =>
      have hn := (Wl.first_some hf).2
      have hr := h p (by simp)
      obtain ⟨F', hF⟩ := open_say x l ((q + (Wl.scanT (Dk.read x p.1).1 q).length) % 18446744073709551616) true (O ++ Wl.scanT (Dk.read x p.1).1 q) (F ++ [Wl.name q]) fun q hq => h q (List.mem_cons_of_mem _ hq)
      have e1 : (if began = true then next else ((p :: l).filterMap fun p => Wl.first p.1).headD next) = if began = true then next else q := by
        rw [List.filterMap_cons, hf]; rfl
      rw [e1, List.filterMap_cons, hf, List.map_cons, Wl.sayGo, hf]
      dsimp only
      rw [Wl.openAll]
      by_cases hq : q ≠ if began = true then next else q
      · rw [if_pos hq, if_pos hq]
        refine ⟨F, ?_⟩
        cases began with
        | true => rfl
        | false => exact absurd rfl hq
      · rw [if_neg hq, if_neg hq, ← hn, if_neg (by simp [hr])]
        have hq : q = if began = true then next else q := Classical.byContradiction hq
        refine ⟨F', ?_⟩
        rw [← hn] at hF
        rw [← hq]
        exact hF
theorem opened_say {x : Ds} (hd : x.dead = false) (hr : ∀ p ∈ x.names, (Dk.read x p.1).2 = 0) (limit : Int) :
    ∃ F, Wl.opened x limit = (some (⟨max limit 1, (Wl.say (x.names.map fun p => (p.1, (Dk.read x p.1).1))).2, [], 0, false, F⟩, (Wl.say (x.names.map fun p => (p.1, (Dk.read x p.1).1))).1), 0) := by
  obtain ⟨F, h⟩ := open_say x x.names 1 false [] [] hr
  refine ⟨F, ?_⟩
  unfold Wl.opened
  rw [if_neg (by rw [hd]; simp)]
  have h : Wl.openAll x (Wl.files x) ((Wl.files x).headD 1) [] [] = _ := h
  rw [h]; rfl

theorem prs_get {a b : List D} {i : Nat} (hi : i < a.length) (hj : i < b.length) : (prs a b).drop i = (tx (a.getD i default).toS, tx (b.getD i default).toS) :: (prs a b).drop (i + 1) := by
  have hl : i < (prs a b).length := by simp [prs, fnd]; omega
  rw [List.drop_eq_getElem_cons hl]
  congr 1
  simp [prs, fnd, List.getD, hi, hj]
theorem sizes_take {b : List D} {i : Nat} (hi : i < b.length) : sizes (b.take (i + 1)) = sizes (b.take i) + ((b.getD i default).toS.size + 1) := by
  unfold sizes
  rw [List.take_succ_eq_append_getElem hi, List.map_append, List.sum_append]
  simp [List.getD, hi]
theorem sizes_le (b : List D) (i : Nat) : sizes (b.take i) ≤ sizes b := by
  have h := congrArg sizes (List.take_append_drop i b)
  unfold sizes at h ⊢
  rw [List.map_append, List.sum_append] at h
  omega
theorem scanT_len (s : ByteArray) (q : Nat) : (Wl.scanT (tx s) q).length ≤ s.size + 1 := by
  unfold Wl.scanT
  rw [List.length_map, bx_tx]; exact scanF_len _ _

theorem rSay.pure : rSay.Pure := by
  intro v0 l1 v2 l3 _ _ ⟨p1, p2, p3⟩ v4 v5
  have p1 : l1.length = l3.length := p1
  have p2 : l1.length ≤ 60000 := p2
  have p3 : sizes l3 ≤ 100000000 := p3
  refine ⟨⟨Int.le_refl _, (by show (0 : Int) ≤ (l1.length : Int); omega), [], rfl, Nat.zero_le _, rfl⟩, ?_⟩
  intro v6 l7 i8 b9 i10 hr8 _ _ ⟨g1, g2, O, hO, hOl, hs0⟩
  have g1 : 0 ≤ i10 := g1
  have g2 : i10 ≤ l1.length := g2
  have hO : l7 = txD O := hO
  have hOl : O.length ≤ sizes (l3.take i10.toNat) := hOl
  have hs : Wl.say (prs l1 l3) = Wl.sayGo ((prs l1 l3).drop i10.toNat) i8.toNat b9 O := hs0
  clear hs0
  subst hO
  -- the end
  have done : ∀ n : Int, Wl.say (prs l1 l3) = (O, n.toNat) → 0 ≤ n → rSay.sig.post [.V v0, .L l1, .V v2, .L l3, .V v6, .L (txD O), .I n] := by
    intro n h hn
    show txD O = txD (Wl.say (prs l1 l3)).1 ∧ n = ((Wl.say (prs l1 l3)).2 : Nat)
    rw [h]
    exact ⟨rfl, by show n = (n.toNat : Int); omega⟩
  refine ⟨fun hlt => ⟨g1, fun _ => ⟨trivial, fun i11 b12 hn hr11 => ?_⟩⟩, fun hge => done i8 ?_ hr8.1⟩
  rotate_left
  · rw [hs, List.drop_of_length_le (by simp [prs, fnd]; omega)]; rfl
  have hlt : i10 < l1.length := hlt
  have hd := prs_get (a := l1) (b := l3) (i := i10.toNat) (by omega) (by omega)
  have hst := sizes_take (b := l3) (i := i10.toNat) (by omega)
  have hsl := sizes_le l3 (i10.toNat + 1)
  have w : IntKind.i64.wrap (i10 + 1) = i10 + 1 := wrap64 (by omega) (by omega)
  rw [w]
  have e1 : (i10 + 1).toNat = i10.toNat + 1 := by omega
  rw [hd] at hs
  have hn : match Wl.first (tx (l1.getD i10.toNat default).toS) with | some n => i11 = (n : Int) ∧ b12 = true | none => b12 = false := hn
  generalize (l3.getD i10.toNat default).toS = t at hs hst ⊢
  generalize tx (l1.getD i10.toNat default).toS = nm at hs hn
  have mm : (l1.length - (i10 + 1)).toNat < (l1.length - i10).toNat := by omega
  refine ⟨fun hb => ?_, fun hb => ?_⟩
  · have hf : Wl.first nm = none := by
      cases hf : Wl.first nm with
      | none => rfl
      | some n => rw [hf] at hn; rw [hn.2] at hb; cases hb
    rw [Wl.sayGo, hf] at hs
    refine ⟨⟨(by omega : 0 ≤ i10 + 1), (by omega : i10 + 1 ≤ l1.length), O, rfl, ?_, ?_⟩, mm⟩
    · show O.length ≤ sizes (l3.take (i10 + 1).toNat)
      rw [e1]; omega
    · show Wl.say (prs l1 l3) = Wl.sayGo ((prs l1 l3).drop (i10 + 1).toNat) i8.toNat b9 O
      rw [e1]; exact hs
  · obtain ⟨q, hf, rfl⟩ : ∃ q : Nat, Wl.first nm = some q ∧ i11 = q := by
      cases hf : Wl.first nm with
      | none => rw [hf] at hn; rw [hn] at hb; cases hb
      | some n => rw [hf] at hn; exact ⟨n, rfl, hn.1⟩
    rw [Wl.sayGo, hf] at hs
    dsimp only at hs
    have go : q = (if b9 = true then i8.toNat else q) → i10 < l3.length ∧ (i10 < l3.length → RScn.sig.pre [.S t, .I q] ∧ ∀ (v13 : Value) (l14 : List D) (i15 : Int), RScn.sig.post [.S t, .I q, .V v13, .L l14, .I i15] →
        (((txD O ++ l14).length : Nat) : Int) ≤ 8796093022208 ∧
        (rSay.I0 [.V v0, .L l1, .V v2, .L l3, .L (txD O ++ l14), .I (IntKind.u64.wrap ((q : Int) + IntKind.u64.wrap ((l14.length : Nat) : Int))), .B true, .I (i10 + 1)] ∧
          rSay.I0M [.V v0, .L l1, .V v2, .L l3, .L (txD O ++ l14), .I (IntKind.u64.wrap ((q : Int) + IntKind.u64.wrap ((l14.length : Nat) : Int))), .B true, .I (i10 + 1)] < rSay.I0M [.V v0, .L l1, .V v2, .L l3, .L (txD O), .I i8, .B b9, .I i10])) := by
      intro hq
      refine ⟨by omega, fun _ => ⟨(by show t.size ≤ 1000000000; omega), fun v13 l14 i15 hp => ?_⟩⟩
      obtain rfl : l14 = txts (scanF (bytesOf t) q).1 := hp.1
      rw [txts_scan]
      have hl : (txD (Wl.scanT (tx t) q)).length ≤ t.size + 1 := by rw [txD, List.length_map]; exact scanT_len t q
      have hl2 : (txD O).length = O.length := by rw [txD, List.length_map]
      have hl3 : (txD (Wl.scanT (tx t) q)).length = (Wl.scanT (tx t) q).length := by rw [txD, List.length_map]
      refine ⟨by rw [List.length_append]; omega, ⟨⟨(by omega : 0 ≤ i10 + 1), (by omega : i10 + 1 ≤ l1.length), O ++ Wl.scanT (tx t) q, ?_, ?_, ?_⟩, mm⟩⟩
      · show txD O ++ txD _ = txD _
        unfold txD; rw [List.map_append]
      · show (O ++ Wl.scanT (tx t) q).length ≤ sizes (l3.take (i10 + 1).toNat)
        rw [e1, List.length_append]; omega
      · have w1 : (IntKind.u64.wrap ((q : Int) + IntKind.u64.wrap (((txD (Wl.scanT (tx t) q)).length : Nat) : Int))).toNat = (q + (Wl.scanT (tx t) q).length) % 18446744073709551616 := by
          rw [hl3, IntKind.wrap_u64, IntKind.wrap_u64]; omega
        show Wl.say (prs l1 l3) = Wl.sayGo ((prs l1 l3).drop (i10 + 1).toNat) (IntKind.u64.wrap ((q : Int) + IntKind.u64.wrap (((txD (Wl.scanT (tx t) q)).length : Nat) : Int))).toNat true (O ++ Wl.scanT (tx t) q)
        rw [e1, w1, hs, if_neg (by rw [← hq]; simp)]
    refine ⟨fun hb9 => ⟨fun h => absurd rfl h, fun _ => ?_⟩, fun hb9 => ⟨fun hne => done i8 ?_ hr8.1, fun he => ?_⟩⟩
    · have := go (by rw [hb9]; rfl)
      exact ⟨this.1, fun h => ⟨(this.2 h).1, fun v13 l14 i15 hp _ _ => ⟨((this.2 h).2 v13 l14 i15 hp).1, fun _ _ => ((this.2 h).2 v13 l14 i15 hp).2⟩⟩⟩
    · rw [hs, hb9, if_pos (by show q ≠ i8.toNat; intro h; exact hne (by omega))]
    · have := go (by rw [hb9]; show q = i8.toNat; omega)
      rw [← he]
      exact ⟨this.1, fun h => ⟨(this.2 h).1, fun v13 l14 i15 hp _ _ => ⟨((this.2 h).2 v13 l14 i15 hp).1, fun _ _ => ((this.2 h).2 v13 l14 i15 hp).2⟩⟩⟩
end Go.Vc
namespace Go.Vc
open Dk (Ds)
theorem lim_app2 {n b : Nat} {x : Ds} {g : Wl.Lg} {s : Tx} (h : Lim n b x) : Lim (n + 1) (b + s.length) (Wl.app2 s x g).1 := by
  unfold Wl.app2
  split <;> exact lim_append h _ _
theorem lim_wappend {n b : Nat} {x : Ds} {g : Wl.Lg} {r : Tx} (h : Lim n b x) : Lim (n + g.found.length + 5) (b + (Wl.frT g.next r).length) (Wl.append x g r).1 := by
  unfold Wl.append
  split
  · exact h.mono (by omega) (by omega)
  · split
    · have ht := lim_wturn (g := g) h
      unfold Wl.app1
      split
      · exact ht.mono (by omega) (by omega)
      · exact lim_app2 ht
    · exact (lim_app2 h).mono (by omega) (Nat.le_refl _)

def wq0 : Ds := Dk.new 1000
def wqg : Wl.Lg := ⟨100, 1, [], 0, false, []⟩
def wqA := Wl.append wq0 wqg [97]
def wqB := Wl.append wqA.1 wqA.2.1 [98]
def wqS := Wl.sync wqB.1 wqB.2.1
def wqR := Dk.restart wqS.1 []
theorem wq_e0 : Wl.opened wq0 100 = (some (wqg, []), 0) := by rfl
theorem wq_e1 : wqA.2.2 = 0 ∧ wqB.2.2 = 0 ∧ wqS.2.2 = 0 := by decide +kernel
theorem wq_e2 : (Wl.opened wqR 100).2 = 0 := by decide +kernel
theorem wq_e3 : (Wl.opened wqR 100).1.map (fun p => (p.2, p.1.next)) = some ([[97], [98]], 3) := by decide +kernel
theorem wq_l0 : Lim 0 0 wq0 := lim_new 1000
theorem wq_lA : Lim 5 19 wqA.1 := (lim_wappend wq_l0).mono (by decide +kernel) (by decide +kernel)
theorem wq_lB : Lim 10 38 wqB.1 := (lim_wappend wq_lA).mono (by decide +kernel) (by decide +kernel)
theorem wq_lS : Lim 11 38 wqS.1 := (lim_wsync wq_lB).mono (by decide +kernel) (by decide +kernel)
theorem wq_lR : Lim 11 38 wqR := lim_restart wq_lS []
theorem wq_gA : LgOk wqA.2.1 := ⟨by decide +kernel, by decide +kernel, by decide +kernel, by decide +kernel⟩
theorem wq_gB : LgOk wqB.2.1 := ⟨by decide +kernel, by decide +kernel, by decide +kernel, by decide +kernel⟩
theorem wq_g0 : LgOk wqg := ⟨by decide, by decide, by decide, by decide⟩
theorem mid_of {n b : Nat} {x : Ds} (h : Lim n b x) (hn : n ≤ 50000 := by omega) (hb : b ≤ 100000000 := by omega) : Mid x := Lim.mono h hn hb

theorem aw7.pure : aw7.Pure := by
  intro _
  refine ⟨trivial, fun n0 l1 r1 => ?_⟩
  have r1 : RepL l1 wq0 := r1
  have m0 : Mid wq0 := mid_of wq_l0
  refine ⟨⟨⟨wq0, r1, m0⟩, fun n2 l3 v4 l5 ho _ => ?_⟩, ⟨wq0, r1, m0⟩, fun v2 l3 i4 ho _ _ => ?_⟩
  rotate_left
  · obtain ⟨h1, _, h2⟩ := ho wq0 r1 m0
    have h2 : Wl.opened wq0 100 = (none, i4) := h2
    rw [wq_e0] at h2; cases h2
  obtain ⟨g, r, o1, g3, o2, _⟩ := ho wq0 r1 m0
  have o1 : Wl.opened wq0 100 = (some (g, r), 0) := o1
  rw [wq_e0] at o1
  cases o1
  obtain rfl : l5 = [] := o2
  have g3 : LgRep l3 wqg := g3
  refine ⟨fun h => absurd h (by decide), fun _ => ⟨⟨⟨wq0, r1, m0⟩, g3.1, (show LgOk (lgOf l3 0) from by rw [g3.2]; exact wq_g0), (by decide : (ByteArray.size ⟨#[97]⟩) ≤ 900000000)⟩, fun l6 l7 i8 ha _ => ?_⟩⟩
  obtain ⟨ra, ga, ea⟩ := ha wq0 wqg r1 m0 g3
  have ra : RepL l7 wqA.1 := ra
  have ga : LgRep l6 wqA.2.1 := ga
  have ea : i8 = wqA.2.2 := ea
  have mA : Mid wqA.1 := mid_of wq_lA
  rw [wq_e1.1] at ea
  refine ⟨fun h => absurd ea h, fun _ => ⟨⟨⟨_, ra, mA⟩, ga.1, (show LgOk (lgOf l6 0) from by rw [ga.2]; exact wq_gA), (by decide : (ByteArray.size ⟨#[98]⟩) ≤ 900000000)⟩, fun l9 l10 i11 hb _ => ?_⟩⟩
  obtain ⟨rb, gb, eb⟩ := hb _ _ ra mA ga
  have rb : RepL l10 wqB.1 := rb
  have gb : LgRep l9 wqB.2.1 := gb
  have eb : i11 = wqB.2.2 := eb
  have mB : Mid wqB.1 := mid_of wq_lB
  rw [wq_e1.2.1] at eb
  refine ⟨fun h => absurd eb h, fun _ => ⟨⟨⟨_, rb, mB⟩, gb.1, (show LgOk (lgOf l9 0) from by rw [gb.2]; exact wq_gB)⟩, fun l12 l13 i14 hs _ => ?_⟩⟩
  obtain ⟨rs, gs, es⟩ := hs _ _ rb mB gb
  have rs : RepL l13 wqS.1 := rs
  have es : i14 = wqS.2.2 := es
  rw [wq_e1.2.2] at es
  have mS : Mid wqS.1 := mid_of wq_lS
  refine ⟨fun h => absurd es h, fun _ v15 => ⟨⟨_, rs, mS.small⟩, fun l16 hr => ?_⟩⟩
  have rr : RepL l16 wqR := hr _ rs mS.small
  have mR : Mid wqR := mid_of wq_lR
  refine ⟨⟨⟨_, rr, mR⟩, fun n17 l18 v19 l20 ho _ => ?_⟩, ⟨_, rr, mR⟩, fun v17 l18 i19 ho _ _ => ?_⟩
  rotate_left
  · obtain ⟨h1, _, h2⟩ := ho _ rr mR
    have h2 : Wl.opened wqR 100 = (none, i19) := h2
    have h3 := wq_e2
    rw [h2] at h3; exact absurd h3 h1
  obtain ⟨g, r, o1, gg, o2, _⟩ := ho _ rr mR
  have o1 : Wl.opened wqR 100 = (some (g, r), 0) := o1
  have h3 := wq_e3
  rw [o1] at h3
  have h3 : some (r, g.next) = some ([[97], [98]], 3) := h3
  obtain ⟨rfl, h4⟩ := Prod.mk.inj (Option.some.inj h3)
  have o2 : l20 = txD [[97], [98]] := o2
  subst o2
  have gg : LgRep l18 g := gg
  have hnx : (l18.getD 1 default).toI = 3 := by
    have h1 := congrArg Wl.Lg.next gg.2
    have h1 : (arg l18 1).toI.toNat = g.next := h1
    have : (l18.getD 1 default).toI.toNat = 3 := h1.trans h4
    omega
  refine ⟨fun _ => ⟨by decide, fun _ => ⟨fun _ => ⟨by decide, fun _ => ⟨fun _ => ⟨gg.1, fun _ => ⟨fun _ => ⟨trivial, fun s21 h21 _ => ?_⟩, fun h => absurd hnx h⟩⟩, fun h => absurd rfl h⟩⟩, fun h => absurd rfl h⟩⟩, fun h => absurd rfl h⟩
  have h21 : s21 = bx (Wl.name 3) := h21
  have e : bx (Wl.name 3) = (⟨#[119, 97, 108, 45, 48, 48, 48, 48, 48, 48, 48, 48, 48, 48, 48, 48, 48, 48, 48, 51]⟩ : ByteArray) := by decide +kernel
  show (s21.toList == _) = true
  rw [h21, e]
  exact beq_self_eq_true _
theorem begin_calm {x : Ds} (hd : x.dead = false) (hc : x.crash = -1) (hf : x.fail = -1) : Dk.begin x = ({ x with calls := x.calls + 1 }, false, 0) := by
  obtain ⟨a1, a2, a3, a4, a5, a6, a7, a8, a9⟩ := x
  have hd : a8 = false := hd
  have hc : a6 = -1 := hc
  have hf : a7 = -1 := hf
  subst hd hf hc
  rfl
/-- Nothing goes wrong on it. -/
structure Well (x : Ds) : Prop where
  dead : x.dead = false
  crash : x.crash = -1
  fail : x.fail = -1
  room : x.room = 100000
theorem well_create {x : Ds} (h : Well x) (nm : Tx) : Well (Dk.create x nm).1 ∧ ((Dk.create x nm).2 = 0 → ∃ i, (nm, i) ∈ (Dk.create x nm).1.names) := by
  unfold Dk.create
  rw [if_neg (by rw [h.dead]; simp)]
  split
  · exact ⟨h, fun h => absurd (show (1 : Int) = 0 from h) (by decide)⟩
  · rename_i hn
    split
    · exact ⟨h, fun h => absurd (show (6 : Int) = 0 from h) (by decide)⟩
    · rw [begin_calm h.dead h.crash h.fail]
      dsimp only
      rw [if_neg (by simp)]
      exact ⟨⟨h.dead, h.crash, h.fail, h.room⟩, fun _ => ⟨x.files.length, Dk.mem_apply.2 (.inl ⟨hn, rfl⟩)⟩⟩
theorem well_append {n b : Nat} {x : Ds} (h : Well x) (hl : Lim n b x) {nm s : Tx} {i : Nat} (hi : (nm, i) ∈ x.names) (hs : b + s.length ≤ 100000) : Well (Dk.append x nm s).1 ∧ (Dk.append x nm s).2 = 0 := by
  have hu := Nat.le_trans (used_tot x) hl.bytes
  have hfr : ¬ ((s.length : Int) > Dk.free x) := by
    unfold Dk.free
    rw [h.room]; omega
  unfold Dk.append
  rw [if_neg (by rw [h.dead]; simp), find_sorted hl.inv.sn hi]
  dsimp only
  rw [if_neg hfr, begin_calm h.dead h.crash h.fail]
  dsimp only
  rw [if_neg (by simp)]
  exact ⟨⟨h.dead, h.crash, h.fail, h.room⟩, rfl⟩
theorem Calm.well {n : Nat} {x : Ds} (h : Calm n x) : Well x := ⟨h.dead, h.crash, h.fail, h.room⟩
theorem Calm.mid {n : Nat} {x : Ds} (h : Calm n x) (hn : n ≤ 6) : Mid x := h.lim.mono (by omega) (by omega)
theorem fnd_txD (l : List Tx) : fnd (txD l) = l := by
  unfold fnd txD
  rw [List.map_map]
  exact (List.map_congr_left (g := id) fun t _ => tx_bx t).trans (List.map_id _)
theorem sizes_bound {k : Nat} : ∀ {l : List D}, (∀ d ∈ l, d.toS.size + 1 ≤ k) → sizes l ≤ l.length * k
  | [], _ => Nat.zero_le _
  | d :: l, h => by
    have h1 := h d (by simp)
    have h2 := sizes_bound (l := l) fun e he => h e (List.mem_cons_of_mem _ he)
    unfold sizes at h2 ⊢
    rw [List.map_cons, List.sum_cons, List.length_cons, Nat.add_mul]
    omega
theorem say_len : ∀ (l : List (Tx × Tx)) (n : Nat) (b : Bool) (O : List Tx), (Wl.sayGo l n b O).1.length ≤ O.length + (l.map fun p => p.2.length + 1).sum
  | [], _, _, O => by simp [Wl.sayGo]
  | (nm, t) :: l, n, b, O => by
    rw [Wl.sayGo, List.map_cons, List.sum_cons]
    split
    · have := say_len l n b O; omega
    · rename_i q _
      by_cases hq : q ≠ if b = true then n else q
      · rw [if_pos hq]; show O.length ≤ _; omega
      · rw [if_neg hq]
        have h1 := say_len l ((q + (Wl.scanT t q).length) % 18446744073709551616) true (O ++ Wl.scanT t q)
        have h2 := scanT_len (bx t) q
        rw [tx_bx] at h2
        have h3 : (bx t).size = t.length := rfl
        rw [List.length_append] at h1
        show _ ≤ _ + (t.length + 1 + _)
        omega

theorem cut_le (s : ByteArray) (n : Nat) : (tx (s.extract 0 n)).length ≤ n := by rw [tx_extract, List.drop_zero, List.length_take]; omega
theorem LWalOpens.tail (n5 : Nat) (v10 v14 v0 v2 : Value) (l1 l3 l11 l15 l17 : List D) (i4 i12 i16 : Int) (e12 : i12 = 0) (q1 : 0 ≤ i16) (q2 : i16 ≤ l11.length) {x : Ds} (hx : RepL l17 x) (cx : Calm 6 x)
    (en : l11 = txD (x.names.map Prod.fst)) (ea : l15 = txD (((x.names.map Prod.fst).take i16.toNat).map fun n => (Dk.read x n).1)) :
     ((
      (i16 < ((l11.length : Nat) : Int)) →
      ((0 : Int) ≤ i16) ∧ (((0 : Int) ≤ i16) →
      qRead.sig.pre [(D.N n5), (D.L l17), (D.S ((l11.getD i16.toNat default)).toS)] ∧ (
      ∀ (s18 : ByteArray),
      ∀ (i19 : Int),
      qRead.sig.post [(D.N n5), (D.L l17), (D.S ((l11.getD i16.toNat default)).toS), (D.S s18), (D.I i19)] →
      ((s18.size : Int) ≤ 9223372036854775807) →
      (-9223372036854775808 ≤ i19 ∧ i19 < 9223372036854775808) →
      ((
       (i19 ≠ (0 : Int)) →
       LWalOpens.sig.post [(D.V v0), (D.L l1), (D.V v2), (D.L l3), (D.I i4), (D.B false)]) ∧ (
       (i19 = (0 : Int)) →
       ∀ (v20 : Value),
       ((((l15 ++ ((D.S s18) :: ([] : List D))).length : Nat) : Int) ≤ (8796093022208 : Int)) ∧ (((((l15 ++ ((D.S s18) :: ([] : List D))).length : Nat) : Int) ≤ (8796093022208 : Int)) →
       ∀ (v21 : Value),
       LWalOpens.I1 [(D.V v0), (D.L l1), (D.V v2), (D.L l3), (D.I i4), (D.L l11), (D.L (l15 ++ ((D.S s18) :: ([] : List D)))), (D.I (IntKind.wrap .i64 (i16 + (1 : Int)))), (D.L l17)] ∧ LWalOpens.I1M [(D.V v0), (D.L l1), (D.V v2), (D.L l3), (D.I i4), (D.L l11), (D.L (l15 ++ ((D.S s18) :: ([] : List D)))), (D.I (IntKind.wrap .i64 (i16 + (1 : Int)))), (D.L l17)] < LWalOpens.I1M [(D.V v0), (D.L l1), (D.V v2), (D.L l3), (D.I i4), (D.L l11), (D.L l15), (D.I i16), (D.L l17)])))))) ∧ (
      (((l11.length : Nat) : Int) ≤ i16) →
      ((
       pOpen.sig.pre [(D.N n5), (D.L l17), (D.I i4)] ∧ (
       ∀ (n18 : Nat),
       ∀ (l19 : List D),
       ∀ (v20 : Value),
       ∀ (l21 : List D),
       pOpen.sig.post [(D.N n5), (D.L l17), (D.I i4), (D.N n18), (D.L l19), (D.V v20), (D.L l21)] →
       (EK.ok [.str] (D.L l21)) →
       rSay.sig.pre [(D.V v10), (D.L l11), (D.V v14), (D.L l15)] ∧ (
       ∀ (v22 : Value),
       ∀ (l23 : List D),
       ∀ (i24 : Int),
       rSay.sig.post [(D.V v10), (D.L l11), (D.V v14), (D.L l15), (D.V v22), (D.L l23), (D.I i24)] →
       (0 ≤ i24 ∧ i24 < 18446744073709551616) →
       (EK.ok [.str] (D.L l23)) →
       ((
        (i12 = (0 : Int)) →
        pNext.sig.pre [(D.N n18), (D.N n5), (D.L l19)] ∧ (
        pNext.sig.post [(D.N n18), (D.N n5), (D.L l19)] →
        ((
         (((l19.getD (1 : Int).toNat default)).toI = i24) →
         SameL.sig.pre [(D.V v20), (D.L l21), (D.V v22), (D.L l23)] ∧ (
         ∀ (i25 : Int),
         SameL.sig.post [(D.V v20), (D.L l21), (D.V v22), (D.L l23), (D.I i25)] →
         (-9223372036854775808 ≤ i25 ∧ i25 < 9223372036854775808) →
         LWalOpens.sig.post [(D.V v0), (D.L l1), (D.V v2), (D.L l3), (D.I i4), (D.B (i25 == (0 : Int)))])) ∧ (
         (((l19.getD (1 : Int).toNat default)).toI ≠ i24) →
         LWalOpens.sig.post [(D.V v0), (D.L l1), (D.V v2), (D.L l3), (D.I i4), (D.B false)])))) ∧ (
        (i12 ≠ (0 : Int)) →
        LWalOpens.sig.post [(D.V v0), (D.L l1), (D.V v2), (D.L l3), (D.I i4), (D.B false)]))))) ∧ (
       pOpen.sig.pre [(D.N n5), (D.L l17), (D.I i4)] ∧ (
       ∀ (v18 : Value),
       ∀ (l19 : List D),
       ∀ (i20 : Int),
       pOpen.sig.post2 [(D.N n5), (D.L l17), (D.I i4), (D.V v18), (D.L l19), (D.I i20)] →
       (-9223372036854775808 ≤ i20 ∧ i20 < 9223372036854775808) →
       (EK.ok [.str] (D.L l19)) →
       rSay.sig.pre [(D.V v10), (D.L l11), (D.V v14), (D.L l15)] ∧ (
       ∀ (v21 : Value),
       ∀ (l22 : List D),
       ∀ (i23 : Int),
       rSay.sig.post [(D.V v10), (D.L l11), (D.V v14), (D.L l15), (D.V v21), (D.L l22), (D.I i23)] →
       (0 ≤ i23 ∧ i23 < 18446744073709551616) →
       (EK.ok [.str] (D.L l22)) →
       ((
        (i12 = (0 : Int)) →
        ((
         (i20 = (0 : Int)) →
         LWalOpens.sig.post [(D.V v0), (D.L l1), (D.V v2), (D.L l3), (D.I i4), (D.B false)]) ∧ (
         (i20 ≠ (0 : Int)) →
         LWalOpens.sig.post [(D.V v0), (D.L l1), (D.V v2), (D.L l3), (D.I i4), (D.B false)]))) ∧ (
        (i12 ≠ (0 : Int)) →
        LWalOpens.sig.post [(D.V v0), (D.L l1), (D.V v2), (D.L l3), (D.I i4), (D.B false)])))))))) := by
  have mx : Mid x := cx.mid (by omega)
  have sx : Small x := mx.small
  have hrd : ∀ p ∈ x.names, Dk.read x p.1 = ((Dk.fileAt x p.2).data, 0) := by
    intro p hp
    unfold Dk.read
    rw [if_neg (by rw [cx.dead]; simp), find_sorted mx.inv.sn hp]
  have hln : l11.length = x.names.length := by rw [en, txD, List.length_map, List.length_map]
  have hnm : x.names.length ≤ 12 := Nat.le_trans (mx.hist.names mx.inv) cx.lim.files
  have hll : l15.length = min i16.toNat x.names.length := by rw [ea, txD, List.length_map, List.length_map, List.length_take, List.length_map]
  refine ⟨fun hlt => ⟨q1, fun _ => ⟨⟨x, hx, sx⟩, fun s18 i19 hr _ _ => ?_⟩⟩, fun hge => ?_⟩
  · have hi : i16.toNat < x.names.length := by omega
    have hr := hr x hx sx
    have eg : l11.getD i16.toNat default = .S (bx (x.names[i16.toNat]).1) := by
      rw [en, txD, List.getD, List.getElem?_map, List.getElem?_map, List.getElem?_eq_getElem hi]; rfl
    have hr : (tx s18, i19) = Dk.read x (tx (l11.getD i16.toNat default).toS) := hr
    rw [eg] at hr
    have hr : (tx s18, i19) = Dk.read x (x.names[i16.toNat]).1 := hr
    have hr2 := hrd _ (List.getElem_mem hi)
    have h19 : i19 = 0 := by
      have := congrArg Prod.snd (hr.trans hr2)
      exact this
    refine ⟨fun h => absurd h19 h, fun _ v20 => ⟨by rw [List.length_append, hll]; show ((_ + 1 : Nat) : Int) ≤ _; omega, fun _ v21 => ?_⟩⟩
    have w : IntKind.i64.wrap (i16 + 1) = i16 + 1 := wrap64 (by omega) (by omega)
    rw [w]
    refine ⟨⟨(by omega : 0 ≤ i16 + 1), (by omega : i16 + 1 ≤ l11.length), x, hx, cx, en, ?_⟩, (by omega : (l11.length - (i16 + 1)).toNat < (l11.length - i16).toNat)⟩
    show l15 ++ [D.S s18] = txD (((x.names.map Prod.fst).take (i16 + 1).toNat).map fun n => (Dk.read x n).1)
    have hi2 : i16.toNat < (x.names.map Prod.fst).length := by rw [List.length_map]; exact hi
    rw [show (i16 + 1).toNat = i16.toNat + 1 from by omega, List.take_succ_eq_append_getElem hi2, List.map_append, txD, List.map_append, ea, txD]
    congr 1
    show [D.S s18] = [D.S (bx (Dk.read x (x.names.map Prod.fst)[i16.toNat]).1)]
    rw [List.getElem_map, ← hr]
    show _ = [D.S (bx (tx s18))]
    rw [bx_tx]
  have hall : l15 = txD (x.names.map fun p => (Dk.read x p.1).1) := by
    rw [ea, List.take_of_length_le (by rw [List.length_map]; omega), List.map_map]; rfl
  have hsz : sizes l15 ≤ 14412 := by
    have h1 : sizes l15 ≤ l15.length * 1201 := by
      refine sizes_bound fun d hd => ?_
      rw [hall] at hd
      obtain ⟨t, ht, rfl⟩ := List.mem_map.1 hd
      obtain ⟨p, hp, rfl⟩ := List.mem_map.1 ht
      have h1 := read_len (x := x) p.1
      have h2 := cx.lim.bytes
      have h3 : (D.S (bx (Dk.read x p.1).1)).toS.size = (Dk.read x p.1).1.length := rfl
      rw [h3]; omega
    have h2 : l15.length ≤ 12 := by rw [hll]; exact Nat.le_trans (Nat.min_le_right _ _) hnm
    exact Nat.le_trans h1 (Nat.le_trans (Nat.mul_le_mul_right 1201 h2) (Nat.le_of_eq rfl))
  have hprs : prs l11 l15 = x.names.map fun p => (p.1, (Dk.read x p.1).1) := by
    unfold prs
    rw [en, hall, fnd_txD, fnd_txD, List.zip_map']
  have hpre : l11.length = l15.length ∧ l11.length ≤ 60000 ∧ sizes l15 ≤ 100000000 := ⟨by rw [hall, txD, List.length_map, List.length_map]; exact hln, by omega, by omega⟩
  obtain ⟨F, hop⟩ := opened_say cx.dead (fun p hp => by rw [hrd p hp]) i4
  rw [← hprs] at hop
  refine ⟨⟨⟨x, hx, mx⟩, fun n18 l19 v20 l21 ho _ => ⟨hpre, fun v22 l23 i24 hsay hr24 _ => ⟨fun _ => ?_, fun h => absurd e12 h⟩⟩⟩, ⟨x, hx, mx⟩, fun v18 l19 i20 ho _ _ => ?_⟩
  rotate_left
  · obtain ⟨h1, _, h2⟩ := ho x hx mx
    have h2 : Wl.opened x i4 = (none, i20) := h2
    rw [hop] at h2; cases h2
  obtain ⟨g, r, o1, gg, o2, on⟩ := ho x hx mx
  have o1 : Wl.opened x i4 = (some (g, r), 0) := o1
  rw [hop] at o1
  obtain ⟨rfl, rfl⟩ := Prod.mk.inj (Option.some.inj (Prod.mk.inj o1).1)
  have gg : LgRep l19 _ := gg
  have o2 : l21 = txD (Wl.say (prs l11 l15)).1 := o2
  have s1 : l23 = txD (Wl.say (prs l11 l15)).1 := hsay.1
  have s2 : i24 = ((Wl.say (prs l11 l15)).2 : Nat) := hsay.2
  have hn : (l19.getD 1 default).toI.toNat = (Wl.say (prs l11 l15)).2 := congrArg Wl.Lg.next gg.2
  refine ⟨gg.1, fun _ => ⟨fun _ => ⟨?_, fun i25 h25 _ => ?_⟩, fun hne => absurd ?_ hne⟩⟩
  · show l23.length ≤ 1000000
    rw [s1, txD, List.length_map]
    have h1 := say_len (prs l11 l15) 1 false []
    have h2 : ((prs l11 l15).map fun p => p.2.length + 1).sum ≤ 14412 := by
      have : ((prs l11 l15).map fun p => p.2.length + 1) = l15.map fun d => d.toS.size + 1 := by
        rw [hprs, hall, txD, List.map_map, List.map_map, List.map_map]; rfl
      rw [this]; exact hsz
    have h1 : (Wl.say (prs l11 l15)).1.length ≤ 0 + _ := h1
    omega
  · have h25 : l21 = l23 → i25 = 0 := h25
    rw [h25 (o2.trans s1.symm)]; rfl
  · -- the log's next number
    show (l19.getD 1 default).toI = i24
    have on : 0 ≤ (l19.getD 1 default).toI := on
    omega

theorem LWalOpens.pure : LWalOpens.Pure := by
  intro v0 l1 v2 l3 i4 hr4 _ _ _
  refine ⟨trivial, fun n5 l6 r6 => ⟨trivial, fun b7 hb7 => ⟨fun h => ?_, fun _ => ⟨?_, ?_⟩⟩⟩⟩
  · have hb7 : b7 = true := hb7
    rw [hb7] at h; cases h
  · exact ⟨Int.le_refl _, (by decide : (0 : Int) ≤ 6), Dk.new 100000, r6, lim_new 100000, rfl, rfl, rfl, rfl⟩
  clear r6 l6
  intro i8 l9 _ ⟨g1, g2, x0, hx0, c0⟩
  have g1 : 0 ≤ i8 := g1
  have g2 : i8 ≤ 6 := g2
  have hx0 : RepL l9 x0 := hx0
  have c0 : Calm i8.toNat x0 := c0
  have m0 : Mid x0 := c0.mid (by omega)
  have sm0 : Small x0 := m0.small
  refine ⟨fun h1 => ⟨fun h2 => ⟨fun h3 => ⟨g1, fun _ => ⟨(by decide : (0 : Int) ≤ 24), fun s10 h10 _ => ⟨⟨x0, hx0, sm0⟩, fun l11 i12 hc _ => ?_⟩⟩⟩, fun h3 => ?_⟩, fun h2 => ?_⟩, fun h1 => ?_⟩
  · obtain ⟨rc, ec⟩ := hc x0 hx0 sm0
    have rc : RepL l11 (Dk.create x0 (tx s10)).1 := rc
    have ec : i12 = (Dk.create x0 (tx s10)).2 := ec
    obtain ⟨wc, nc⟩ := well_create c0.well (tx s10)
    have lc := lim_create c0.lim (tx s10)
    rw [← ec] at nc
    generalize (Dk.create x0 (tx s10)).1 = x1 at rc wc nc lc
    have w : IntKind.i64.wrap (i8 + 1) = i8 + 1 := wrap64 (by omega) (by omega)
    rw [w]
    have mm : (6 - (i8 + 1)).toNat < (6 - i8).toNat := by omega
    refine ⟨fun h0 => ⟨(by decide : (0 : Int) ≤ 200), fun s13 h13 _ => ⟨⟨x1, rc, lc.small (by omega) (by omega)⟩, fun l14 i15 ha _ => ?_⟩⟩, fun hne => ⟨⟨(by omega : 0 ≤ i8 + 1), (by omega : i8 + 1 ≤ 6), x1, rc, lc.mono ?_ ?_, wc.dead, wc.crash, wc.fail, wc.room⟩, mm⟩⟩
    · obtain ⟨ra, ea⟩ := ha x1 rc (lc.small (by omega) (by omega))
      have ra : RepL l14 (Dk.append x1 (tx s10) (tx s13)).1 := ra
      have ea : i15 = (Dk.append x1 (tx s10) (tx s13)).2 := ea
      obtain ⟨j, hj⟩ := nc h0
      have h13 : s13 = (l3.getD i8.toNat default).toS.extract 0 200 := h13
      have hl : (tx s13).length ≤ 200 := by rw [h13]; exact cut_le _ 200
      obtain ⟨wa, ea2⟩ := well_append wc lc hj (s := tx s13) (by omega)
      have la := lim_append lc (tx s10) (tx s13)
      rw [ea2] at ea
      refine ⟨fun h => absurd ea h, fun _ => ⟨⟨(by omega : 0 ≤ i8 + 1), (by omega : i8 + 1 ≤ 6), _, ra, la.mono ?_ ?_, wa.dead, wa.crash, wa.fail, wa.room⟩, mm⟩⟩
      · show 2 * i8.toNat + 1 + 1 ≤ 2 * (i8 + 1).toNat
        omega
      · show 200 * i8.toNat + (tx s13).length ≤ 200 * (i8 + 1).toNat
        omega
    · show 2 * i8.toNat + 1 ≤ 2 * (i8 + 1).toNat
      omega
    · show 200 * i8.toNat ≤ 200 * (i8 + 1).toNat
      omega
  all_goals
    clear h1
    refine ⟨⟨x0, hx0, sm0⟩, fun v10 l11 i12 hq _ _ v13 => ?_⟩
    obtain ⟨e12, e11⟩ := hq x0 hx0 sm0
    have e12 : i12 = if x0.dead then 9 else 0 := e12
    have e11 : l11 = if x0.dead then [] else x0.names.map fun p => .S (bx p.1) := e11
    rw [c0.dead] at e12 e11
    have e12 : i12 = 0 := e12
    have e11 : l11 = txD (x0.names.map Prod.fst) := by rw [e11]; unfold txD; rw [List.map_map]; rfl
    have c6 : Calm 6 x0 := ⟨c0.lim.mono (by omega) (by omega), c0.dead, c0.crash, c0.fail, c0.room⟩
    refine ⟨⟨Int.le_refl _, (by show (0 : Int) ≤ (l11.length : Int); omega), x0, hx0, c6, e11, rfl⟩, ?_⟩
    rintro v14 l15 i16 l17 _ _ ⟨q1, q2, x, hx, cx, en, ea⟩
    have q1 : 0 ≤ i16 := q1
    have q2 : i16 ≤ l11.length := q2
    have hx : RepL l17 x := hx
    have cx : Calm 6 x := cx
    have en : l11 = txD (x.names.map Prod.fst) := en
    have ea : l15 = txD (((x.names.map Prod.fst).take i16.toNat).map fun n => (Dk.read x n).1) := ea
    exact LWalOpens.tail n5 v10 v14 v0 v2 l1 l3 l11 l15 l17 i4 i12 i16 e12 q1 q2 hx cx en ea
end Go.Vc
