/-
 The store: its model over the document's disk, and contracts.
 Printed by wip/vct.py: the conditions of functions, by their contracts.
 The store: Clean, Save and Load do what the model does.
 The disk's calls, for the store: what they make of it.
-/
import Derived.Test.YtmgeaephkagdiaaGreatDoorTabd
import Derived.Test.YtmgeaephkagdiaaGreatDoorDskf
import Derived.Test.YtmgeaephkagdiaaGreatDoorWala
import Derived.KernelRfl
set_option linter.unusedVariables false
set_option linter.unusedSimpArgs false
open _root_.Go.IntKind (wrap)
namespace Go.Vc
open Dk (Ds)
namespace Ck
def old : Tx := [115, 116, 111, 114, 101]
def new : Tx := [115, 116, 111, 114, 101, 45, 110, 101, 119]
def clean (x : Ds) : Ds × Int := if x.dead then (x, 9) else if x.names.any (fun p => p.1 == new) then Dk.remove x new else (x, 0)
def ops (t : Tx) : List (Ds → Ds × Int) := [clean, fun x => Dk.create x new, fun x => Dk.append x new t, fun x => Dk.sync x new, fun x => Dk.rename x new old, Dk.fD]
def go : List (Ds → Ds × Int) → Ds → Ds × Int
 | [], x => (x, 0)
 | f :: r, x => if (f x).2 ≠ 0 then f x else go r (f x).1
def save (x : Ds) (t : Tx) : Ds × Int := go (ops t) x
def nM (x : Ds) : Int := if (Dk.read x old).2 = 5 then 0 else if (Dk.read x old).2 ≠ 0 then (Dk.read x old).2 else (dI (bx (Dk.read x old).1)).1
def pF (x : Ds) : LD := if (Dk.read x old).2 = 5 then [] else (dI (bx (Dk.read x old).1)).2
def oZ (x : Ds) : Bool := (Dk.read x old).2 == 0
end Ck
def dJ (L : LD) : Tx := tx (textOf (lC (dH L)))
def pX.sig : Sig := { args := [kK 0], heap := qE 0 1, aA := [.N, .L], res := nV 3, heap' := qE 0 2, news := [.L, .I], pre := fun l => ∃ x, bD (arg l 1).toL x ∧ Small x, post := fun l => isQ l 2 Ck.clean }
def aP0 (op : Ds → Ds × Int) : Sig :=
 { args := [kK 0], heap := .box (.at 0) [.lf (.ptr (.at 1) 0)] :: qE 1 2, aA := [.N, .N, .L], res := nV 4, heap' := .box (.at 0) [.lf (.ptr (.at 1) 0)] :: qE 1 3, news := [.L, .I],
   pre := fun l => ∃ x, bD (arg l 2).toL x ∧ Small x, post := fun l => ∀ x, bD (arg l 2).toL x → Small x → bD (arg l 3).toL (op x).1 ∧ (arg l 4).toI = (op x).2 }
def sU.sig : Sig := aP0 Ck.clean
def sV.sig : Sig := aP0 fun x => Dk.create x Ck.new
def sW.sig : Sig := aP0 fun x => Dk.sync x Ck.new
def sZ.sig : Sig := aP0 fun x => Dk.rename x Ck.new Ck.old
def aY0 (L : LD) : Prop := L.length ≤ 900000 ∧ (dH L).length ≤ 900000
def oP.sig : Sig :=
 { args := [kK 0, kK 3], heap := .box (.at 0) [.lf (.ptr (.at 1) 0)] :: .box (.at 3) [.lf (.ptr (.at 4) 0)] :: (aL7 4 5 ++ qE 1 2), aA := [.N, .N, .L, .N, .N, .V, .L], res := nV 8,
   heap' := .box (.at 0) [.lf (.ptr (.at 1) 0)] :: .box (.at 3) [.lf (.ptr (.at 4) 0)] :: (aL7 4 5 ++ qE 1 7), news := [.L, .I],
   pre := fun l => (∃ x, bD (arg l 2).toL x ∧ Small x) ∧ aY0 (arg l 6).toL,
   post := fun l => ∀ x, bD (arg l 2).toL x → Small x → bD (arg l 7).toL (Dk.append x Ck.new (dJ (arg l 6).toL)).1 ∧ (arg l 8).toI = (Dk.append x Ck.new (dJ (arg l 6).toL)).2 }
def dW.sig : Sig :=
 { args := [kK 0, kK 2], heap := aL7 2 3 ++ qE 0 1, aA := [.N, .L, .N, .V, .L], res := nV 6, heap' := aL7 2 3 ++ qE 0 5, news := [.L, .I],
   pre := fun l => (∃ x, bD (arg l 1).toL x ∧ Mid x) ∧ aY0 (arg l 4).toL,
   post := fun l => ∀ x, bD (arg l 1).toL x → Mid x → bD (arg l 5).toL (Ck.save x (dJ (arg l 4).toL)).1 ∧ (arg l 6).toI = (Ck.save x (dJ (arg l 4).toL)).2 }
def ckB (k : Nat) : Nat := if k ≤ 2 then 100000000 else 101000000
def dW.I0 : LD → Prop := fun l => 0 ≤ (arg l 5).toI ∧ (arg l 5).toI ≤ 6 ∧ ∀ x, bD (arg l 1).toL x → Mid x → ∃ y, bD (arg l 6).toL y ∧ Lim (50000 + (arg l 5).toI.toNat) (ckB (arg l 5).toI.toNat) y ∧ Ck.save x (dJ (arg l 4).toL) = Ck.go ((Ck.ops (dJ (arg l 4).toL)).drop (arg l 5).toI.toNat) y
def dW.I0M : LD → Nat := fun l => (6 - (arg l 5).toI).toNat
def dQ.sig : Sig :=
 { args := [kK 0], heap := qE 0 1, aA := [.N, .L], res := .tup [.lf .nilp, .lf (.bool (.at 2)), .lf (.int .i64 (.at 3))], heap' := qE 0 1, news := [.B, .I],
   pre := fun l => ∃ x, bD (arg l 1).toL x ∧ Small x ∧ (Dk.read x Ck.old).1.length ≤ 500000,
   post := fun l => ∀ x, bD (arg l 1).toL x → Small x → (arg l 3).toI ≠ 0 ∧ (arg l 3).toI = Ck.nM x ∧ (arg l 2).toB = false,
   alt := some (.tup [.lf (.ptr (.at 2) 0), .lf (.bool (.at 5)), .lf (.int .i64 (.int 0))], aL7 2 3 ++ qE 0 1, [.N, .V, .L, .B]),
   dM := fun l => ∀ x, bD (arg l 1).toL x → Small x → Ck.nM x = 0 ∧ (arg l 4).toL = Ck.pF x ∧ (arg l 5).toB = Ck.oZ x }
end Go.Vc
namespace Go.Vc
set_option linter.unusedVariables false
set_option maxRecDepth 100000
def pX.Pure : Prop :=
 ∀ n0 : Nat,
 ∀ l1 : LD,
 pX.sig.pre [.N n0, .L l1] →
 aJ7.sig.pre [.N n0, .L l1] ∧ (
 ∀ v2 : Value,
 ∀ l3 : LD,
 ∀ i4 : Int,
 aJ7.sig.post [.N n0, .L l1, .V v2, .L l3, .I i4] →
 R64 i4 →
 (EK.ok [.str] (D.L l3)) →
 ((
 (i4 ≠ 0) →
  pX.sig.post [.N n0, .L l1, .L l1, .I i4]) ∧ (
 (i4 = 0) →
  uQ.sig.pre [.V v2, .L l3, .S (⟨#[115, 116, 111, 114, 101, 45, 110, 101, 119]⟩ : BA)] ∧ (
 ∀ b5 : Bool,
  uQ.sig.post [.V v2, .L l3, .S (⟨#[115, 116, 111, 114, 101, 45, 110, 101, 119]⟩ : BA), .B b5] →
 ((
 (b5 = true) →
  aJ9.sig.pre [.N n0, .L l1, .S (⟨#[115, 116, 111, 114, 101, 45, 110, 101, 119]⟩ : BA)] ∧ (
 ∀ l6 : LD,
 ∀ i7 : Int,
  aJ9.sig.post [.N n0, .L l1, .S (⟨#[115, 116, 111, 114, 101, 45, 110, 101, 119]⟩ : BA), .L l6, .I i7] →
 R64 i7 →
  pX.sig.post [.N n0, .L l1, .L l6, .I i7])) ∧ (
 (b5 = false) →
  pX.sig.post [.N n0, .L l1, .L l1, .I 0]))))))
def sU.Pure : Prop :=
 ∀ n0 n1 : Nat,
 ∀ l2 : LD,
 sU.sig.pre [.N n0, .N n1, .L l2] →
 pX.sig.pre [.N n1, .L l2] ∧ (
 ∀ l3 : LD,
 ∀ i4 : Int,
 pX.sig.post [.N n1, .L l2, .L l3, .I i4] →
 R64 i4 →
 sU.sig.post [.N n0, .N n1, .L l2, .L l3, .I i4])
def sV.Pure : Prop :=
 ∀ n0 n1 : Nat,
 ∀ l2 : LD,
 sV.sig.pre [.N n0, .N n1, .L l2] →
 sG.sig.pre [.N n1, .L l2, .S (⟨#[115, 116, 111, 114, 101, 45, 110, 101, 119]⟩ : BA)] ∧ (
 ∀ l3 : LD,
 ∀ i4 : Int,
 sG.sig.post [.N n1, .L l2, .S (⟨#[115, 116, 111, 114, 101, 45, 110, 101, 119]⟩ : BA), .L l3, .I i4] →
 R64 i4 →
 sV.sig.post [.N n0, .N n1, .L l2, .L l3, .I i4])
def oP.Pure : Prop :=
 ∀ n0 n1 : Nat,
 ∀ l2 : LD,
 ∀ n3 n4 : Nat,
 ∀ v5 : Value,
 ∀ l6 : LD,
 (EK.ok [.ints .u8 32, .str] (D.L l6)) →
 oP.sig.pre [.N n0, .N n1, .L l2, .N n3, .N n4, .V v5, .L l6] →
 ((
  gG.sig.pre [.N n4, .V v5, .L l6] ∧ (
 ∀ s7 : BA,
  gG.sig.post [.N n4, .V v5, .L l6, .S s7] →
 ((s7.size : Int) ≤ 9223372036854775807) →
  lV.sig.pre [.N n1, .L l2, .S (⟨#[115, 116, 111, 114, 101, 45, 110, 101, 119]⟩ : BA), .S s7] ∧ (
 ∀ l8 : LD,
 ∀ i9 : Int,
  lV.sig.post [.N n1, .L l2, .S (⟨#[115, 116, 111, 114, 101, 45, 110, 101, 119]⟩ : BA), .S s7, .L l8, .I i9] →
 R64 i9 →
  oP.sig.post [.N n0, .N n1, .L l2, .N n3, .N n4, .V v5, .L l6, .L l8, .I i9]))) ∧ (
 ((
  gG.sig.pre [.N n4, .V v5, .L l6] ∧ (
 ∀ s7 : BA,
  gG.sig.post [.N n4, .V v5, .L l6, .S s7] →
 ((s7.size : Int) ≤ 9223372036854775807) →
   lV.sig.pre [.N n1, .L l2, .S (⟨#[115, 116, 111, 114, 101, 45, 110, 101, 119]⟩ : BA), .S s7] ∧ (
 ∀ l8 : LD,
 ∀ i9 : Int,
  lV.sig.post [.N n1, .L l2, .S (⟨#[115, 116, 111, 114, 101, 45, 110, 101, 119]⟩ : BA), .S s7, .L l8, .I i9] →
 R64 i9 →
  oP.sig.post [.N n0, .N n1, .L l2, .N n3, .N n4, .V v5, .L l6, .L l8, .I i9]))) ∧ (
  gG.sig.pre [.N n4, .V v5, .L l6] ∧ (
 ∀ s7 : BA,
  gG.sig.post [.N n4, .V v5, .L l6, .S s7] →
 ((s7.size : Int) ≤ 9223372036854775807) →
   lV.sig.pre [.N n1, .L l2, .S (⟨#[115, 116, 111, 114, 101, 45, 110, 101, 119]⟩ : BA), .S s7] ∧ (
 ∀ l8 : LD,
 ∀ i9 : Int,
  lV.sig.post [.N n1, .L l2, .S (⟨#[115, 116, 111, 114, 101, 45, 110, 101, 119]⟩ : BA), .S s7, .L l8, .I i9] →
 R64 i9 →
  oP.sig.post [.N n0, .N n1, .L l2, .N n3, .N n4, .V v5, .L l6, .L l8, .I i9]))))))
def sW.Pure : Prop :=
 ∀ n0 n1 : Nat,
 ∀ l2 : LD,
 sW.sig.pre [.N n0, .N n1, .L l2] →
 aK3.sig.pre [.N n1, .L l2, .S (⟨#[115, 116, 111, 114, 101, 45, 110, 101, 119]⟩ : BA)] ∧ (
 ∀ l3 : LD,
 ∀ i4 : Int,
 aK3.sig.post [.N n1, .L l2, .S (⟨#[115, 116, 111, 114, 101, 45, 110, 101, 119]⟩ : BA), .L l3, .I i4] →
 R64 i4 →
 sW.sig.post [.N n0, .N n1, .L l2, .L l3, .I i4])
def sZ.Pure : Prop :=
 ∀ n0 n1 : Nat,
 ∀ l2 : LD,
 sZ.sig.pre [.N n0, .N n1, .L l2] →
 aK1.sig.pre [.N n1, .L l2, .S (⟨#[115, 116, 111, 114, 101, 45, 110, 101, 119]⟩ : BA), .S (⟨#[115, 116, 111, 114, 101]⟩ : BA)] ∧ (
 ∀ l3 : LD,
 ∀ i4 : Int,
 aK1.sig.post [.N n1, .L l2, .S (⟨#[115, 116, 111, 114, 101, 45, 110, 101, 119]⟩ : BA), .S (⟨#[115, 116, 111, 114, 101]⟩ : BA), .L l3, .I i4] →
 R64 i4 →
 sZ.sig.post [.N n0, .N n1, .L l2, .L l3, .I i4])
def dW.Pure : Prop :=
 ∀ n0 : Nat,
 ∀ l1 : LD,
 ∀ n2 : Nat,
 ∀ v3 : Value,
 ∀ l4 : LD,
 (EK.ok [.ints .u8 32, .str] (D.L l4)) →
 dW.sig.pre [.N n0, .L l1, .N n2, .V v3, .L l4] →
 ∀ n5 n6 n7 : Nat,
 dW.I0 [.N n0, .L l1, .N n2, .V v3, .L l4, .I 0, .L l1] ∧ (
 ∀ i8 : Int,
 ∀ l9 : LD,
 R64 i8 →
 dW.I0 [.N n0, .L l1, .N n2, .V v3, .L l4, .I i8, .L l9] →
 ((
 (i8 < 6) →
 Im (0 ≤ i8) (
 ((
 (i8 = 0) →
  sU.sig.pre [.N n5, .N n0, .L l9] ∧ (
 ∀ l10 : LD,
 ∀ i11 : Int,
  sU.sig.post [.N n5, .N n0, .L l9, .L l10, .I i11] →
 R64 i11 →
 ((
 (i11 ≠ 0) →
  dW.sig.post [.N n0, .L l1, .N n2, .V v3, .L l4, .L l10, .I i11]) ∧ (
 (i11 = 0) →
  Bk dW.I0 dW.I0M [.N n0, .L l1, .N n2, .V v3, .L l4, .I (wrap .i64 (i8 + 1)), .L l10] [.N n0, .L l1, .N n2, .V v3, .L l4, .I i8, .L l9])))) ∧ (
 ((
 (i8 = 1) →
  sV.sig.pre [.N n5, .N n0, .L l9] ∧ (
 ∀ l10 : LD,
 ∀ i11 : Int,
  sV.sig.post [.N n5, .N n0, .L l9, .L l10, .I i11] →
 R64 i11 →
 ((
 (i11 ≠ 0) →
   dW.sig.post [.N n0, .L l1, .N n2, .V v3, .L l4, .L l10, .I i11]) ∧ (
 (i11 = 0) →
   Bk dW.I0 dW.I0M [.N n0, .L l1, .N n2, .V v3, .L l4, .I (wrap .i64 (i8 + 1)), .L l10] [.N n0, .L l1, .N n2, .V v3, .L l4, .I i8, .L l9])))) ∧ (
 ((
 (i8 = 2) →
   oP.sig.pre [.N n5, .N n0, .L l9, .N n6, .N n2, .V v3, .L l4] ∧ (
 ∀ l10 : LD,
 ∀ i11 : Int,
   oP.sig.post [.N n5, .N n0, .L l9, .N n6, .N n2, .V v3, .L l4, .L l10, .I i11] →
 R64 i11 →
 ((
 (i11 ≠ 0) →
   dW.sig.post [.N n0, .L l1, .N n2, .V v3, .L l4, .L l10, .I i11]) ∧ (
 (i11 = 0) →
   Bk dW.I0 dW.I0M [.N n0, .L l1, .N n2, .V v3, .L l4, .I (wrap .i64 (i8 + 1)), .L l10] [.N n0, .L l1, .N n2, .V v3, .L l4, .I i8, .L l9])))) ∧ (
 ((
 (i8 = 3) →
   sW.sig.pre [.N n5, .N n0, .L l9] ∧ (
 ∀ l10 : LD,
 ∀ i11 : Int,
   sW.sig.post [.N n5, .N n0, .L l9, .L l10, .I i11] →
 R64 i11 →
 ((
 (i11 ≠ 0) →
    dW.sig.post [.N n0, .L l1, .N n2, .V v3, .L l4, .L l10, .I i11]) ∧ (
 (i11 = 0) →
    Bk dW.I0 dW.I0M [.N n0, .L l1, .N n2, .V v3, .L l4, .I (wrap .i64 (i8 + 1)), .L l10] [.N n0, .L l1, .N n2, .V v3, .L l4, .I i8, .L l9])))) ∧ (
 ((
 (i8 = 4) →
    sZ.sig.pre [.N n5, .N n0, .L l9] ∧ (
 ∀ l10 : LD,
 ∀ i11 : Int,
    sZ.sig.post [.N n5, .N n0, .L l9, .L l10, .I i11] →
 R64 i11 →
 ((
 (i11 ≠ 0) →
    dW.sig.post [.N n0, .L l1, .N n2, .V v3, .L l4, .L l10, .I i11]) ∧ (
 (i11 = 0) →
    Bk dW.I0 dW.I0M [.N n0, .L l1, .N n2, .V v3, .L l4, .I (wrap .i64 (i8 + 1)), .L l10] [.N n0, .L l1, .N n2, .V v3, .L l4, .I i8, .L l9])))) ∧ (
 (i8 = 5) →
    aK4.sig.pre [.N n0, .L l9] ∧ (
 ∀ l10 : LD,
 ∀ i11 : Int,
    aK4.sig.post [.N n0, .L l9, .L l10, .I i11] →
 R64 i11 →
 ((
 (i11 ≠ 0) →
    dW.sig.post [.N n0, .L l1, .N n2, .V v3, .L l4, .L l10, .I i11]) ∧ (
 (i11 = 0) →
    Bk dW.I0 dW.I0M [.N n0, .L l1, .N n2, .V v3, .L l4, .I (wrap .i64 (i8 + 1)), .L l10] [.N n0, .L l1, .N n2, .V v3, .L l4, .I i8, .L l9]))))))))))))))) ∧ (
 (6 ≤ i8) →
  dW.sig.post [.N n0, .L l1, .N n2, .V v3, .L l4, .L l9, .I 0])))
def dQ.Pure : Prop :=
 ∀ n0 : Nat,
 ∀ l1 : LD,
 dQ.sig.pre [.N n0, .L l1] →
 aJ8.sig.pre [.N n0, .L l1, .S (⟨#[115, 116, 111, 114, 101]⟩ : BA)] ∧ (
 ∀ s2 : BA,
 ∀ i3 : Int,
 aJ8.sig.post [.N n0, .L l1, .S (⟨#[115, 116, 111, 114, 101]⟩ : BA), .S s2, .I i3] →
 ((s2.size : Int) ≤ 9223372036854775807) →
 R64 i3 →
 ((
 (i3 = 5) →
 ∀ v4 : Value,
 ∀ n5 : Nat,
  dQ.sig.dM [.N n0, .L l1, .N n5, .V v4, .L ([] : LD), .B false] ∧ (
  True)) ∧ (
 (i3 ≠ 5) →
 ((
 (i3 ≠ 0) →
  dQ.sig.post [.N n0, .L l1, .B false, .I i3]) ∧ (
 (i3 = 0) →
 ((
  kG.sig.pre [.S s2] ∧ (
 ∀ i4 : Int,
  kG.sig.post [.S s2, .I i4] →
 R64 i4 →
 ((
 (i4 ≠ 0) →
   dQ.sig.post [.N n0, .L l1, .B false, .I i4]) ∧ (
 (i4 = 0) →
   dQ.sig.post [.N n0, .L l1, .B true, .I 0])))) ∧ (
  kG.sig.pre [.S s2] ∧ (
 ∀ n4 : Nat,
 ∀ v5 : Value,
 ∀ l6 : LD,
  kG.sig.dM [.S s2, .N n4, .V v5, .L l6] →
 (EK.ok [.ints .u8 32, .str] (D.L l6)) →
  dQ.sig.dM [.N n0, .L l1, .N n4, .V v5, .L l6, .B true] ∧ (
  True)))))))))
end Go.Vc
namespace Go.Vc
open Dk (Ds)
namespace Ck
theorem dH3 {n b : Nat} {x : Ds} (h : Lim n b x) : Lim (n + 1) b (clean x).1 := by
 unfold clean
 split
 ·exact h.mono (by omega) (Nat.le_refl _)
 ·split
  ·exact cF7 h _
  ·exact h.mono (by omega) (Nat.le_refl _)
end Ck
theorem pX.pure : pX.Pure := by
 intro n0 l1 ⟨x, hx, sx⟩
 have hx : bD l1 x := hx
 refine ⟨⟨x, hx, sx⟩, fun v2 l3 i4 hn _ _ => ?_⟩
 obtain ⟨e4, e3⟩ := hn x hx sx
 have e4 : i4 = if x.dead then 9 else 0 := e4
 have e3 : l3 = if x.dead then [] else x.names.map fun p => .S (bx p.1) := e3
 -- what the word says of any disk that it represents
 have all : ∀ y, bD l1 y → Small y → i4 = (if y.dead then 9 else 0) ∧ l3 = if y.dead then [] else y.names.map fun p => .S (bx p.1) := fun y hy sy => hn y hy sy
 have hin : ∀ y : Ds, l3 = y.names.map (fun p => .S (bx p.1)) → ((∃ d ∈ l3, d.toS = (⟨#[115, 116, 111, 114, 101, 45, 110, 101, 119]⟩ : BA)) ↔ (y.names.any fun p => p.1 == Ck.new) = true) := by
  intro y e
  rw [e, List.any_eq_true]
  constructor
  ·rintro ⟨d, hd, h⟩
   obtain ⟨p, hp, rfl⟩ := List.mem_map.1 hd
   have h : bx p.1 = _ := h
   refine ⟨p, hp, ?_⟩
   have : p.1 = Ck.new := by rw [← tx_bx p.1, h]; rfl
   simpa using this
  ·rintro ⟨p, hp, h⟩
   have h : p.1 = Ck.new := by simpa using h
   exact ⟨_, List.mem_map.2 ⟨p, hp, rfl⟩, by show bx p.1 = _; rw [h]; rfl⟩
 refine ⟨fun h => ?_, fun h => ⟨?_, fun b5 h5 => ⟨fun hb => ⟨⟨x, hx, sx⟩, fun l6 i7 hr _ => ?_⟩, fun hb => ?_⟩⟩⟩
 ·intro y hy sy
  obtain ⟨f4, _⟩ := all y hy sy
  have hd : y.dead = true := by
   cases hd : y.dead with
   | true => rfl
   | false => rw [hd] at f4; exact absurd f4 h
  rw [hd] at f4
  show bD l1 (Ck.clean y).1 ∧ i4 = (Ck.clean y).2
  unfold Ck.clean
  rw [if_pos hd]
  exact ⟨hy, f4⟩
 ·show l3.length ≤ 1000000000
  have hnm : x.names.length ≤ 1000000000 := by
   have h1 := sx.names
   have h2 := Dk.aQ7 x.pend x.safe
   rw [sx.inv.names]
   omega
  rw [e3]
  split
  ·exact Nat.zero_le _
  ·rw [List.length_map]; exact hnm
 all_goals
  intro y hy sy
  obtain ⟨f4, f3⟩ := all y hy sy
  have hd : y.dead = false := by
   cases hd : y.dead with
   | false => rfl
   | true => rw [hd] at f4; exact absurd (f4.symm.trans h) (by decide)
  rw [hd] at f3
  have h5 : b5 = true ↔ ∃ d ∈ l3, d.toS = (⟨#[115, 116, 111, 114, 101, 45, 110, 101, 119]⟩ : BA) := h5
  rw [hin y f3] at h5
 ·obtain ⟨r1, r2⟩ := hr y hy sy
  show bD l6 (Ck.clean y).1 ∧ i7 = (Ck.clean y).2
  unfold Ck.clean
  rw [if_neg (by rw [hd]; simp), if_pos (h5.1 hb)]
  exact ⟨r1, r2⟩
 ·show bD l1 (Ck.clean y).1 ∧ (0 : Int) = (Ck.clean y).2
  unfold Ck.clean
  rw [if_neg (by rw [hd]; simp), if_neg (fun h => by rw [h5.2 h] at hb; cases hb)]
  exact ⟨hy, rfl⟩
theorem sU.pure : sU.Pure := by
 intro n0 n1 l2 ⟨x, hx, sx⟩
 first | exact ⟨⟨x, hx, sx⟩, fun l3 i4 h _ => h⟩ | repeat' first | exact ⟨⟨x, hx, sx⟩, fun l3 i4 h _ => h⟩ | refine ⟨?_, ?_⟩
theorem sV.pure : sV.Pure := by
 intro n0 n1 l2 ⟨x, hx, sx⟩
 first | exact ⟨⟨x, hx, sx⟩, fun l3 i4 h _ => h⟩ | repeat' first | exact ⟨⟨x, hx, sx⟩, fun l3 i4 h _ => h⟩ | refine ⟨?_, ?_⟩
theorem sW.pure : sW.Pure := by
 intro n0 n1 l2 ⟨x, hx, sx⟩
 first | exact ⟨⟨x, hx, sx⟩, fun l3 i4 h _ => h⟩ | repeat' first | exact ⟨⟨x, hx, sx⟩, fun l3 i4 h _ => h⟩ | refine ⟨?_, ?_⟩
theorem sZ.pure : sZ.Pure := by
 intro n0 n1 l2 ⟨x, hx, sx⟩
 first | exact ⟨⟨x, hx, sx⟩, fun l3 i4 h _ => h⟩ | repeat' first | exact ⟨⟨x, hx, sx⟩, fun l3 i4 h _ => h⟩ | refine ⟨?_, ?_⟩
theorem oP.pure : oP.Pure := by
 intro n0 n1 l2 n3 n4 v5 l6 _ ⟨⟨x, hx, sx⟩, ht⟩
 have key : gG.sig.pre [.N n4, .V v5, .L l6] ∧ (∀ s7 : BA, gG.sig.post [.N n4, .V v5, .L l6, .S s7] → ((s7.size : Int) ≤ 9223372036854775807) →
   lV.sig.pre [.N n1, .L l2, .S ⟨#[115, 116, 111, 114, 101, 45, 110, 101, 119]⟩, .S s7] ∧ (∀ (l8 : LD) (i9 : Int), lV.sig.post [.N n1, .L l2, .S ⟨#[115, 116, 111, 114, 101, 45, 110, 101, 119]⟩, .S s7, .L l8, .I i9] → (-9223372036854775808 ≤ i9 ∧ i9 < 9223372036854775808) →
    oP.sig.post [.N n0, .N n1, .L l2, .N n3, .N n4, .V v5, .L l6, .L l8, .I i9])) := by
  refine ⟨ht, fun s7 h7 _ => ⟨⟨x, hx, sx⟩, fun l8 i9 ha _ y hy sy => ?_⟩⟩
  have h7 : s7 = textOf (lC (dH l6)) := h7
  obtain ⟨r1, r2⟩ := ha y hy sy
  have e : tx s7 = dJ l6 := by rw [h7]; rfl
  have r1 : bD l8 (Dk.append y Ck.new (tx s7)).1 := r1
  have r2 : i9 = (Dk.append y Ck.new (tx s7)).2 := r2
  rw [e] at r1 r2
  exact ⟨r1, r2⟩
 first | exact key | repeat' first | exact key | refine ⟨?_, ?_⟩
theorem dW.pure : dW.Pure := by
 intro n0 l1 n2 v3 l4 _ ⟨⟨x, hx, mx⟩, ht⟩ n5 n6 n7
 have hx : bD l1 x := hx
 have ht : aY0 l4 := ht
 have htl : (dJ l4).length ≤ 1000000 := by
  show (tx (textOf (lC (dH l4)))).length ≤ 1000000
  have h1 : (tx (textOf (lC (dH l4)))).length = (lC (dH l4)).length := by
   show (textOf (lC (dH l4))).size = _
   exact textOf_size _
  rw [h1, lC, List.length_append]
  have h2 := ht.2
  have h3 := (aL3 (l := dH l4) (by omega)).1
  omega
 refine ⟨⟨Int.le_refl _, (by decide : (0 : Int) ≤ 6), fun y hy my => ⟨y, hy, Lim.mono my (Nat.le_refl _) (Nat.le_refl _), rfl⟩⟩, fun i8 l9 _ ⟨q1, q2, q3⟩ => ?_⟩
 have q1 : 0 ≤ i8 := q1
 have q2 : i8 ≤ 6 := q2
 have q3 : ∀ x, bD l1 x → Mid x → ∃ y, bD l9 y ∧ Lim (50000 + i8.toNat) (ckB i8.toNat) y ∧ Ck.save x (dJ l4) = Ck.go ((Ck.ops (dJ l4)).drop i8.toNat) y := q3
 obtain ⟨y0, ry0, ly0, _⟩ := q3 x hx mx
 have hB : ∀ k, ckB k ≤ 101000000 := fun k => by unfold ckB; split <;> omega
 have sy0 : Small y0 := ly0.small (by omega) (by have := hB i8.toNat; omega)
 have w : IntKind.i64.wrap (i8 + 1) = i8 + 1 := wrap64 (by omega) (by omega)
 -- a step: its operation, and how much comes
 have step : ∀ (op : Ds → Ds × Int) (k : Nat), i8 = k → k < 6 → (Ck.ops (dJ l4)).drop k = op :: (Ck.ops (dJ l4)).drop (k + 1) → (∀ y, Lim (50000 + k) (ckB k) y → Lim (50000 + (k + 1)) (ckB (k + 1)) (op y).1) →
   ∀ (l10 : LD) (i11 : Int), (∀ y, bD l9 y → Small y → bD l10 (op y).1 ∧ i11 = (op y).2) →
   ((i11 ≠ (0 : Int)) → dW.sig.post [.N n0, .L l1, .N n2, .V v3, .L l4, .L l10, .I i11]) ∧
   ((i11 = (0 : Int)) → dW.I0 [.N n0, .L l1, .N n2, .V v3, .L l4, .I (i8 + 1), .L l10] ∧ dW.I0M [.N n0, .L l1, .N n2, .V v3, .L l4, .I (i8 + 1), .L l10] < dW.I0M [.N n0, .L l1, .N n2, .V v3, .L l4, .I i8, .L l9]) := by
  intro op k hk hk6 hop hlim l10 i11 hpo
  have hkn : i8.toNat = k := by omega
  refine ⟨fun hne z hz mz => ?_, fun h0 => ⟨⟨(by omega : 0 ≤ i8 + 1), (by omega : i8 + 1 ≤ 6), fun z hz mz => ?_⟩, (by omega : (6 - (i8 + 1)).toNat < (6 - i8).toNat)⟩⟩
  all_goals
   obtain ⟨y, ry, ly, ey⟩ := q3 z hz mz
   rw [hkn] at ly ey
   obtain ⟨p1, p2⟩ := hpo y ry (ly.small (by omega) (by have := hB k; omega))
   rw [hop, Ck.go] at ey
  ·rw [if_pos (by rw [← p2]; exact hne)] at ey
   show bD l10 (Ck.save z (dJ l4)).1 ∧ i11 = (Ck.save z (dJ l4)).2
   rw [ey]; exact ⟨p1, p2⟩
  ·rw [if_neg (by rw [← p2]; simp [h0])] at ey
   refine ⟨(op y).1, p1, ?_, ?_⟩
   ·show Lim (50000 + (i8 + 1).toNat) (ckB (i8 + 1).toNat) (op y).1
    rw [show (i8 + 1).toNat = k + 1 from by omega]
    exact hlim y ly
   ·show Ck.save z (dJ l4) = Ck.go ((Ck.ops (dJ l4)).drop (i8 + 1).toNat) (op y).1
    rw [show (i8 + 1).toNat = k + 1 from by omega]
    exact ey
 have hO : Ck.ops (dJ l4) = [Ck.clean, fun x => Dk.create x Ck.new, fun x => Dk.append x Ck.new (dJ l4), fun x => Dk.sync x Ck.new, fun x => Dk.rename x Ck.new Ck.old, Dk.fD] := rfl
 rw [w]
 refine ⟨fun h6 => ⟨q1, fun _ => ⟨fun h => ⟨⟨y0, ry0, sy0⟩, fun l10 i11 hp _ => ?_⟩, ⟨fun h => ⟨⟨y0, ry0, sy0⟩, fun l10 i11 hp _ => ?_⟩, ⟨fun h => ⟨⟨⟨y0, ry0, sy0⟩, ht⟩, fun l10 i11 hp _ => ?_⟩, ⟨fun h => ⟨⟨y0, ry0, sy0⟩, fun l10 i11 hp _ => ?_⟩, ⟨fun h => ⟨⟨y0, ry0, sy0⟩, fun l10 i11 hp _ => ?_⟩, fun h => ⟨⟨y0, ry0, sy0⟩, fun l10 i11 hp _ => ?_⟩⟩⟩⟩⟩⟩⟩, fun h6 => ?_⟩
 ·exact step _ 0 h (by omega) rfl (fun y hl => (Ck.dH3 hl)) l10 i11 hp
 ·exact step _ 1 h (by omega) rfl (fun y hl => bJ3 hl _) l10 i11 hp
 ·refine step (fun x => Dk.append x Ck.new (dJ l4)) 2 h (by omega) rfl (fun y hl => ?_) l10 i11 hp
  have hl : Lim 50002 100000000 y := hl
  have := bJ2 hl Ck.new (dJ l4)
  exact this.mono (Nat.le_refl _) (by show 100000000 + (dJ l4).length ≤ 101000000; omega)
 ·exact step _ 3 h (by omega) rfl (fun y hl => cF9 hl _) l10 i11 hp
 ·exact step _ 4 h (by omega) rfl (fun y hl => cF8 hl _ _) l10 i11 hp
 ·exact step _ 5 h (by omega) rfl (fun y hl => cG0 hl) l10 i11 hp
 ·intro z hz mz
  obtain ⟨y, ry, _, ey⟩ := q3 z hz mz
  have e6 : i8.toNat = 6 := by omega
  rw [e6] at ey
  show bD l9 (Ck.save z (dJ l4)).1 ∧ (0 : Int) = (Ck.save z (dJ l4)).2
  rw [ey]
  exact ⟨ry, rfl⟩
theorem dQ.pure : dQ.Pure := by
 intro n0 l1 ⟨x, hx, sx, hsz⟩
 have hx : bD l1 x := hx
 refine ⟨⟨x, hx, sx⟩, fun s2 i3 hr _ _ => ?_⟩
 have hr : ∀ y, bD l1 y → Small y → (tx s2, i3) = Dk.read y Ck.old := fun y hy sy => hr y hy sy
 have hs : s2.size ≤ 500000 := by
  have h1 : (Dk.read x Ck.old).1.length ≤ 500000 := hsz
  rw [← hr x hx sx] at h1
  exact h1
 have hE : ∀ y, bD l1 y → Small y → Ck.nM y = (if i3 = 5 then 0 else if i3 ≠ 0 then i3 else (dI s2).1) ∧ Ck.pF y = (if i3 = 5 then [] else (dI s2).2) ∧ Ck.oZ y = (i3 == 0) := by
  intro y hy sy
  have e := hr y hy sy
  have e1 : (Dk.read y Ck.old).1 = tx s2 := by rw [← e]
  have e2 : (Dk.read y Ck.old).2 = i3 := by rw [← e]
  unfold Ck.nM Ck.pF Ck.oZ
  rw [e1, e2, bx_tx]
  exact ⟨rfl, rfl, rfl⟩
 refine ⟨fun h5 v4 n5 => ⟨fun y hy sy => ?_, trivial⟩, fun h5 => ⟨fun h0 y hy sy => ?_, fun h0 => ⟨⟨hs, fun i4 h4 _ => ⟨fun hne y hy sy => ?_, fun h => absurd h h4.1⟩⟩, hs, fun n4 v5 l6 h6 _ => ⟨fun y hy sy => ?_, trivial⟩⟩⟩⟩
 all_goals obtain ⟨a1, a2, a3⟩ := hE y hy sy
 ·rw [if_pos h5] at a1 a2
  rw [h5] at a3
  exact ⟨a1, a2.symm, a3.symm⟩
 ·rw [if_neg h5, if_pos h0] at a1
  exact ⟨h0, a1.symm, rfl⟩
 ·rw [if_neg h5, if_neg (by simp [h0])] at a1
  have h4 : i4 ≠ 0 ∧ i4 = (dI s2).1 := h4
  exact ⟨hne, h4.2.trans a1.symm, rfl⟩
 ·rw [if_neg h5] at a1 a2
  rw [if_neg (by simp [h0])] at a1
  have h6 : (dI s2).1 = 0 ∧ l6 = (dI s2).2 := h6
  refine ⟨a1.trans h6.1, h6.2.trans a2.symm, ?_⟩
  rw [a3, h0]; rfl
end Go.Vc
namespace Go.Vc
open Dk (Ds Fi Cg fileAt)
namespace Ck
def Whole (x : Ds) (i : Nat) : Prop := (fileAt x i).safe = (fileAt x i).data.length
theorem bF9 {y : Ds} {i j : Nat} {f : Fi} (hi : i < y.files.length) : fileAt (Dk.set y i f) j = if j = i then f else fileAt y j := by
 unfold fileAt Dk.set
 dsimp only
 rw [List.getD, List.getD, List.getElem?_set]
 by_cases h : i = j
 ·subst h; rw [if_pos rfl, if_pos hi, if_pos rfl]; rfl
 ·rw [if_neg h, if_neg (fun e => h e.symm)]
theorem dD8 {y : Ds} {i j : Nat} {f : Fi} : fileAt (Dk.set y i f) j = if j = i ∧ i < y.files.length then f else fileAt y j := by
 by_cases hi : i < y.files.length
 ·rw [bF9 hi]
  by_cases h : j = i
  ·rw [if_pos h, if_pos ⟨h, hi⟩]
  ·rw [if_neg h, if_neg (fun e => h e.1)]
 ·rw [if_neg (fun e => hi e.2)]
  unfold fileAt Dk.set
  dsimp only
  rw [List.set_eq_of_length_le (by omega)]
theorem dU1 {x : Ds} {nm : Tx} (h : (Dk.sync x nm).2 = 0) : ∃ y i, Core x y ∧ Dk.find x.names nm = some i ∧ (Dk.sync x nm).1 = Dk.set y i ⟨(fileAt x i).data, (fileAt x i).data.length⟩ := by
 unfold Dk.sync at h ⊢
 split at h
 ·exact absurd (show (9 : Int) = 0 from h) (by decide)
 ·rename_i hd
  rw [if_neg hd]
  split at h
  ·exact absurd (show (5 : Int) = 0 from h) (by decide)
  ·rename_i i hf
   rw [hf]
   have hc := pY x
   generalize Dk.begin x = z at hc h ⊢
   obtain ⟨y, st, e⟩ := z
   dsimp only at hc h ⊢
   by_cases he : e ≠ 0
   ·rw [if_pos he] at h; exact absurd h he
   ·rw [if_neg he]
    exact ⟨y, i, hc, rfl, by rw [hc.at]⟩
theorem cV5 {x : Ds} {nm s : Tx} (h : (Dk.append x nm s).2 = 0) : ∃ y i, Core x y ∧ Dk.find x.names nm = some i ∧ (Dk.append x nm s).1 = Dk.set y i ⟨(fileAt x i).data ++ s, (fileAt x i).safe⟩ := by
 unfold Dk.append at h ⊢
 split at h
 ·exact absurd (show (9 : Int) = 0 from h) (by decide)
 ·rename_i hd
  rw [if_neg hd]
  split at h
  ·exact absurd (show (5 : Int) = 0 from h) (by decide)
  ·rename_i i hf
   rw [hf]
   dsimp only at h ⊢
   split at h
   ·exact absurd (show (7 : Int) = 0 from h) (by decide)
   ·rename_i hfr
    rw [if_neg hfr]
    have hc := pY x
    generalize Dk.begin x = z at hc h ⊢
    obtain ⟨y, st, e⟩ := z
    dsimp only at hc h ⊢
    by_cases he : e ≠ 0 ∧ st = false
    ·rw [if_pos he] at h; exact absurd h he.1
    ·rw [if_neg he]
     exact ⟨y, i, hc, rfl, by rw [hc.at]⟩
theorem dA5 {x : Ds} {nm : Tx} (h : (Dk.create x nm).2 = 0) : ∃ y, Core x y ∧ nm ≠ [] ∧ Dk.find x.names nm = none ∧ (Dk.create x nm).1 = Dk.turn { y with files := y.files ++ [⟨[], 0⟩] } ⟨[], nm, x.files.length⟩ := by
 unfold Dk.create at h ⊢
 by_cases hd : x.dead = true
 ·rw [if_pos hd] at h; exact absurd (show (9 : Int) = 0 from h) (by decide)
 rw [if_neg hd] at h ⊢
 by_cases h1 : nm = []
 ·rw [if_pos h1] at h; exact absurd (show (1 : Int) = 0 from h) (by decide)
 rw [if_neg h1] at h ⊢
 by_cases h2 : (Dk.find x.names nm).isSome = true
 ·rw [if_pos h2] at h; exact absurd (show (6 : Int) = 0 from h) (by decide)
 rw [if_neg h2] at h ⊢
 have hc := pY x
 generalize Dk.begin x = z at hc h ⊢
 obtain ⟨y, st, e⟩ := z
 dsimp only at hc h ⊢
 by_cases he : e ≠ 0 ∧ st = false
 ·rw [if_pos he] at h; exact absurd h he.1
 ·rw [if_neg he]
  exact ⟨y, hc, h1, by simpa using h2, by rw [hc.files]⟩
theorem dP6 {x : Ds} {nm : Tx} (h : (Dk.remove x nm).2 = 0) : ∃ y, Core x y ∧ (Dk.remove x nm).1 = Dk.turn y ⟨nm, [], 0⟩ := by
 unfold Dk.remove at h ⊢
 by_cases hd : x.dead = true
 ·rw [if_pos hd] at h; exact absurd (show (9 : Int) = 0 from h) (by decide)
 rw [if_neg hd] at h ⊢
 cases hf : Dk.find x.names nm with
 | none => rw [hf] at h; exact absurd (show (5 : Int) = 0 from h) (by decide)
 | some i =>
  rw [hf] at h
  dsimp only at h ⊢
  have hc := pY x
  generalize Dk.begin x = z at hc h ⊢
  obtain ⟨y, st, e⟩ := z
  dsimp only at hc h ⊢
  by_cases he : e ≠ 0 ∧ st = false
  ·rw [if_pos he] at h; exact absurd h he.1
  ·rw [if_neg he]; exact ⟨y, hc, rfl⟩
theorem dK0 {x : Ds} (h : (Dk.fD x).2 = 0) : ∃ y, Core x y ∧ (Dk.fD x).1 = { y with safe := x.names, pend := [] } := by
 unfold Dk.fD at h ⊢
 have hc := pY x
 generalize Dk.begin x = z at hc h ⊢
 obtain ⟨y, st, e⟩ := z
 dsimp only at hc h ⊢
 by_cases he : e ≠ 0
 ·rw [if_pos he] at h; exact absurd h he
 ·rw [if_neg he]
  exact ⟨y, hc, by rw [← hc.names]⟩
theorem cutAt (d : Ds) (ch : LI) : ∀ (i k : Nat) (fs : List Fi) (j : Nat) (f : Fi), fs[j]? = some f → Dk.held d (i + j) = true → f.safe ≤ f.data.length → ∃ n, f.safe ≤ n ∧ n ≤ f.data.length ∧ (Dk.cut d ch i k fs)[j]? = some ⟨f.data.take n, n⟩
 | _, _, [], j, f, h, _, _ => by simp at h
 | i, k, g :: fs, 0, f, h, hh, hs => by
  obtain rfl : g = f := by simpa using h
  rw [Dk.cut]
  split
  ·rename_i hc
   have := Dk.aI9 ch k (g.data.length - g.safe + 1) (by omega)
   exact ⟨g.safe + Dk.pick ch k (g.data.length - g.safe + 1), by omega, by omega, rfl⟩
  ·rename_i hc
   have hl : ¬ g.safe < g.data.length := fun h => hc ⟨hh, h⟩
   have e : g.safe = g.data.length := by omega
   refine ⟨g.safe, Nat.le_refl _, hs, ?_⟩
   rw [List.getElem?_cons_zero]
   congr 1
   rw [e, List.take_length, ← e]
 | i, k, g :: fs, j + 1, f, h, hh, hs => by
  have h : fs[j]? = some f := by simpa using h
  have hh : Dk.held d (i + 1 + j) = true := by rw [show i + 1 + j = i + (j + 1) from by omega]; exact hh
  rw [Dk.cut]
  split
  ·obtain ⟨n, h1, h2, h3⟩ := cutAt d ch (i + 1) (k + 1) fs j f h hh hs
   exact ⟨n, h1, h2, by rw [List.getElem?_cons_succ]; exact h3⟩
  ·obtain ⟨n, h1, h2, h3⟩ := cutAt d ch (i + 1) k fs j f h hh hs
   exact ⟨n, h1, h2, by rw [List.getElem?_cons_succ]; exact h3⟩
theorem dD7 {x : Ds} (hi : Dk.Inv x) (ch : LI) {p : Tx × Nat} (hp : p ∈ (Dk.restart x ch).names) : ∃ n, (fileAt x p.2).safe ≤ n ∧ n ≤ (fileAt x p.2).data.length ∧ fileAt (Dk.restart x ch) p.2 = ⟨(fileAt x p.2).data.take n, n⟩ := by
 have hi2 := Dk.bI4 hi ch
 have hlt : p.2 < x.files.length := by
  have h1 := hi2.ins p hp
  have h2 : (Dk.restart x ch).files.length = x.files.length := Dk.xQ _ _ _ _ _
  omega
 have hg : x.files[p.2]? = some (fileAt x p.2) := by
  unfold fileAt
  rw [List.getD, List.getElem?_eq_getElem hlt]; rfl
 have hf : (fileAt x p.2).safe ≤ (fileAt x p.2).data.length := by
  refine hi.fs _ ?_
  exact List.mem_of_getElem? hg
 have hh : Dk.held { x with safe := (Dk.restart x ch).names, names := (Dk.restart x ch).names, pend := [], dead := false, crash := -1, fail := -1 } (0 + p.2) = true := by
  rw [Nat.zero_add]
  exact aR5 (x := { x with safe := (Dk.restart x ch).names, names := (Dk.restart x ch).names, pend := [], dead := false, crash := -1, fail := -1 }) hp
 obtain ⟨n, h1, h2, h3⟩ := cutAt _ ch 0 1 x.files p.2 _ hg hh hf
 refine ⟨n, h1, h2, ?_⟩
 have h3 : (Dk.restart x ch).files[p.2]? = some ⟨(fileAt x p.2).data.take n, n⟩ := h3
 show (Dk.restart x ch).files.getD p.2 ⟨[], 0⟩ = _
 rw [List.getD, h3]; rfl
theorem cH1 {n b : Nat} {x : Ds} (h : Lim n b x) (hn : n ≤ 50000 := by omega) (hb : b ≤ 100000000 := by omega) : Mid x := Lim.mono h hn hb
end Ck
end Go.Vc