/-
 Contracts of tables that grow: insertion anywhere, the document's lists, items.
 Printed by wip/vct.py: the conditions of functions, by their contracts.
 Tables that grow: the plain part.
 Tables that grow: bytes there and back; the laws.
 Tables that grow: the order in which entries come doesn't matter.
-/
import Derived.Test.YtmgeaephkagdiaaGreatDoorTabc
import Derived.Test.YtmgeaephkagdiaaGreatDoorTabi
import Derived.KernelRfl
set_option linter.unusedVariables false
set_option linter.unusedSimpArgs false
open _root_.Go.IntKind (wrap)
namespace Go.Vc
def before (k : LI) (r : D) : Bool := decide (cmpL (keyE r) k < 0)
def wH (L : LD) (k : LI) : Bool := L.any fun r => decide (cmpL (keyE r) k = 0)
def jZ (L : LD) (k : LI) (s : BA) : LD :=
 if wH L k then L else L.takeWhile (before k) ++ sH k s :: L.dropWhile (before k)
def kS.pre : LD → Prop
 | [.N _, .V _, .L L, .Z _, .S _] => rising L ∧ L.length ≤ 900000
 | _ => False
def kS.post : LD → Prop
 | [.N _, .V _, .L L, .Z k, .S s, .V _, .L L', .B f] => L' = jZ L k s ∧ f = !wH L k ∧ rising L'
 | _ => False
def kS.sig : Sig := { args := [.one (.lf (.ptr (.at 0) 0)), arr .u8 32 3, aS 4], heap := tbl 1, aA := [.N, .V, .L, .Z, .S], res := aB 7, heap' := tbl 5, news := [.V, .L, .B], pre := kS.pre, post := kS.post }
def aL7 (b n : Nat) : List Ch := [.box (.at b) [.lf (.sl (.at n))], .osl (.at n) eG (.at (n + 1))]
def aA6 (X : LD) (t : Nat) : BA := ((X.getD t default).toL.getD 0 default).toS
def firstAt (X : LD) (k : BA) (j : Nat) : Prop := j < X.length ∧ aA6 X j = k ∧ ∀ t, t < j → aA6 X t ≠ k
def iR.post : LD → Prop
 | [.V _, .L X, .S k, .I i] => (i < 0 → ∀ t, t < X.length → aA6 X t ≠ k) ∧ (0 ≤ i → firstAt X k i.toNat)
 | _ => False
def iR.pre : LD → Prop
 | [.V _, .L X, .S _] => X.length ≤ 1000000
 | _ => False
def iR.sig : Sig := gQ [.l yT, .s] [.i .i64] iR.pre iR.post
def iR.I0 : LD → Prop
 | [.V _, .L X, .S k, .I i] => 0 ≤ i ∧ i ≤ X.length ∧ ∀ t : Nat, (t : Int) < i → aA6 X t ≠ k
 | _ => False
def iR.I0M : LD → Nat
 | [.V _, .L X, .S _, .I i] => (X.length - i).toNat
 | _ => 0
def qO (d : D) : D := .L [.S (d.toL.getD 0 default).toS, .S (d.toL.getD 1 default).toS]
def vH (X : LD) (k : BA) : Bool := X.any fun d => decide ((d.toL.getD 0 default).toS = k)
def lH (k : BA) (d : D) : Bool := !(Op.bytesLess k.toList (d.toL.getD 0 default).toS.toList)
def yS (X : LD) (k s : BA) : LD := if vH X k then X else (X.takeWhile (lH k)).map qO ++ .L [.S k, .S s] :: (X.dropWhile (lH k)).map qO
def fO.pre : LD → Prop
 | [.V _, .L X, .S _, .S _] => X.length ≤ 900000
 | _ => False
def fO.post : LD → Prop
 | [.V _, .L X, .S k, .S s, .V _, .B f, .L X'] => X' = yS X k s ∧ f = !vH X k
 | _ => False
def fO.sig : Sig := { args := [.one (.lf (.sl (.at 0))), .one (.agg [.lf (.str (.at 2)), .lf (.str (.at 3))])], heap := [.rsl (.at 0) yT (.at 1)], aA := [.V, .L, .S, .S], res := .tup [.lf (.sl (.at 4)), .lf (.bool (.at 5))], heap' := [.rsl (.at 4) yT (.at 6)], news := [.V, .B, .L], pre := fO.pre, post := fO.post }
def fO.I0 : LD → Prop
 | [.V _, .L X, .S k, .S s, .L out, .B done, .I i] => 0 ≤ i ∧ i ≤ X.length ∧
   (done = false → out = (X.take i.toNat).map qO ∧ ∀ d ∈ X.take i.toNat, lH k d = true) ∧
   (done = true → ∃ j : Nat, (j : Int) < i ∧ (∀ d ∈ X.take j, lH k d = true) ∧ lH k (bJ X j) = false ∧ out = (X.take j).map qO ++ .L [.S k, .S s] :: ((X.take i.toNat).drop j).map qO)
 | _ => False
def fO.I0M : LD → Nat
 | [.V _, .L X, .S _, .S _, .L _, .B _, .I i] => (X.length - i).toNat
 | _ => 0
def rowX (d : D) : LI := bytesOf (d.toL.getD 0 default).toS ++ gV (d.toL.getD 1 default).toS
def aY1 (X : LD) : LI := [79, 82, 68, 69, 65, 76, 84, 49] ++ dA X.length ++ X.flatMap rowX
def dF9 : EK := [.str, .str]
def aH3 (d : D) : LI := iU (bytesOf ((d.toL.getD 0 default).toS.extract 0 20))
def aH4 (d : D) : BA := (d.toL.getD 1 default).toS.extract 0 60
def growE : LD → LD → LD
 | L, [] => L
 | L, d :: ds => growE (jZ L (aH3 d) (aH4 d)) ds
def Grow.post : LD → Prop
 | [.V _, .L items, .N _, .V _, .V _, .L L, .L X] => L = growE [] (items.take 12) ∧ X = refs L ∧ rising L ∧ L.length ≤ 12 ∧ ∀ d ∈ L, (textE d).size ≤ 60
 | _ => False
def Grow.pre : LD → Prop
 | [.V _, .L _] => True
 | _ => False
def Grow.sig : Sig := { args := [.one (.lf (.sl (.at 0)))], heap := [.rsl (.at 0) dF9 (.at 1)], aA := [.V, .L], res := .tup [.lf (.ptr (.at 2) 0), .lf (.sl (.at 4))], heap' := [.box (.at 2) [.lf (.sl (.at 3))], .osl (.at 3) eG (.at 5), .rsl (.at 4) yT (.at 6)], news := [.N, .V, .V, .L, .L], pre := Grow.pre, post := Grow.post }
def Grow.I0 : LD → Prop
 | [.V _, .L items, .L X, .I i, .L L] => 0 ≤ i ∧ i ≤ 12 ∧ i ≤ items.length ∧ L = growE [] (items.take i.toNat) ∧ X = refs L ∧ rising L ∧ L.length ≤ i ∧ ∀ d ∈ L, (textE d).size ≤ 60
 | _ => False
def Grow.I0M : LD → Nat
 | [.V _, .L _, .L _, .I i, .L _] => (12 - i).toNat
 | _ => 0
end Go.Vc
namespace Go.Vc
set_option linter.unusedVariables false
def kS.Pure : Prop :=
 ∀ n0 : Nat,
 ∀ v1 : Value,
 ∀ l2 : LD,
 ∀ z3 : LI,
 ∀ s4 : BA,
 (z3.length = 32) →
 (∀ x ∈ z3, IntKind.has .u8 x) →
 ((s4.size : Int) ≤ 9223372036854775807) →
 (EK.ok [.ints .u8 32, .str] (D.L l2)) →
 kS.sig.pre [.N n0, .V v1, .L l2, .Z z3, .S s4] →
 ∀ n5 : Nat,
 nT.sig.pre [.N n0, .V v1, .L l2, .Z z3] ∧ (
 ∀ i6 : Int,
 ∀ b7 : Bool,
 nT.sig.post [.N n0, .V v1, .L l2, .Z z3, .I i6, .B b7] →
 R64 i6 →
 ((
 (b7 = false) →
 ((
 ∀ v8 : Value,
  jQ.sig.pre [.V v1, .L l2, .I i6, .V v8, .L ((D.L ((D.Z z3) :: ((D.S s4) :: ([] : LD)))) :: ([] : LD))] ∧ (
 ∀ v9 : Value,
 ∀ l10 : LD,
  jQ.sig.post [.V v1, .L l2, .I i6, .V v8, .L ((D.L ((D.Z z3) :: ((D.S s4) :: ([] : LD)))) :: ([] : LD)), .V v9, .L l10] →
 (EK.ok [.ints .u8 32, .str] (D.L l10)) →
  kS.sig.post [.N n0, .V v1, .L l2, .Z z3, .S s4, .V v9, .L l10, .B (!b7)])) ∧ (
 ((
 ∀ v8 : Value,
  jQ.sig.pre [.V v1, .L l2, .I i6, .V v8, .L ((D.L ((D.Z z3) :: ((D.S s4) :: ([] : LD)))) :: ([] : LD))] ∧ (
 ∀ v9 : Value,
 ∀ l10 : LD,
  jQ.sig.post [.V v1, .L l2, .I i6, .V v8, .L ((D.L ((D.Z z3) :: ((D.S s4) :: ([] : LD)))) :: ([] : LD)), .V v9, .L l10] →
 (EK.ok [.ints .u8 32, .str] (D.L l10)) →
  kS.sig.post [.N n0, .V v1, .L l2, .Z z3, .S s4, .V v9, .L l10, .B (!b7)])) ∧ (
 ∀ v8 : Value,
  jQ.sig.pre [.V v1, .L l2, .I i6, .V v8, .L ((D.L ((D.Z z3) :: ((D.S s4) :: ([] : LD)))) :: ([] : LD))] ∧ (
 ∀ v9 : Value,
 ∀ l10 : LD,
  jQ.sig.post [.V v1, .L l2, .I i6, .V v8, .L ((D.L ((D.Z z3) :: ((D.S s4) :: ([] : LD)))) :: ([] : LD)), .V v9, .L l10] →
 (EK.ok [.ints .u8 32, .str] (D.L l10)) →
  kS.sig.post [.N n0, .V v1, .L l2, .Z z3, .S s4, .V v9, .L l10, .B (!b7)])))))) ∧ (
 (b7 = true) →
  kS.sig.post [.N n0, .V v1, .L l2, .Z z3, .S s4, .V v1, .L l2, .B (!b7)])))
def iR.Pure : Prop :=
 ∀ v0 : Value,
 ∀ l1 : LD,
 ∀ s2 : BA,
 ((s2.size : Int) ≤ 9223372036854775807) →
 (EK.ok [.str, .str] (D.L l1)) →
 iR.sig.pre [.V v0, .L l1, .S s2] →
 iR.I0 [.V v0, .L l1, .S s2, .I 0] ∧ (
 ∀ i3 : Int,
 R64 i3 →
 iR.I0 [.V v0, .L l1, .S s2, .I i3] →
 ((
 (i3 < (l1.length : Int)) →
 Im (0 ≤ i3) (
 ∀ n4 : Nat,
 ((
 (((l1.getD i3.toNat default).toL.getD (0 : Int).toNat default).toS = s2) →
   iR.sig.post [.V v0, .L l1, .S s2, .I i3]) ∧ (
 (((l1.getD i3.toNat default).toL.getD (0 : Int).toNat default).toS ≠ s2) →
   Bk iR.I0 iR.I0M [.V v0, .L l1, .S s2, .I (wrap .i64 (i3 + 1))] [.V v0, .L l1, .S s2, .I i3])))) ∧ (
 ((l1.length : Int) ≤ i3) →
  iR.sig.post [.V v0, .L l1, .S s2, .I (-1 : Int)])))
def fO.Pure : Prop :=
 ∀ v0 : Value,
 ∀ l1 : LD,
 ∀ s2 s3 : BA,
 ((s2.size : Int) ≤ 9223372036854775807) →
 ((s3.size : Int) ≤ 9223372036854775807) →
 (EK.ok [.str, .str] (D.L l1)) →
 fO.sig.pre [.V v0, .L l1, .S s2, .S s3] →
 ∀ n4 : Nat,
 ∀ v5 : Value,
 iR.sig.pre [.V v0, .L l1, .S s2] ∧ (
 ∀ i6 : Int,
 iR.sig.post [.V v0, .L l1, .S s2, .I i6] →
 R64 i6 →
 ((
 (0 ≤ i6) →
  fO.sig.post [.V v0, .L l1, .S s2, .S s3, .V v0, .B false, .L l1]) ∧ (
 (i6 < 0) →
 ∀ v7 : Value,
  fO.I0 [.V v0, .L l1, .S s2, .S s3, .L ([] : LD), .B false, .I 0] ∧ (
 ∀ v8 : Value,
 ∀ l9 : LD,
 ∀ b10 : Bool,
 ∀ i11 : Int,
 R64 i11 →
 (EK.ok [.str, .str] (D.L l9)) →
  fO.I0 [.V v0, .L l1, .S s2, .S s3, .L l9, .B b10, .I i11] →
 ((
 (i11 < (l1.length : Int)) →
 Im (0 ≤ i11) (
 ∀ n12 : Nat,
 ((
 (b10 = false) →
 ((
 ((Op.bytesLess s2.toList ((l1.getD i11.toNat default).toL.getD (0 : Int).toNat default).toS.toList) = true) →
 ∀ v13 : Value,
 Im (((l9 ++ ((D.L ((D.S s2) :: ((D.S s3) :: ([] : LD)))) :: ([] : LD))).length : Int) ≤ (4398046511104 : Int)) (
 ∀ v14 v15 : Value,
 Im ((((l9 ++ ((D.L ((D.S s2) :: ((D.S s3) :: ([] : LD)))) :: ([] : LD))) ++ ((D.L ((D.S ((l1.getD i11.toNat default).toL.getD (0 : Int).toNat default).toS) :: ((D.S ((l1.getD i11.toNat default).toL.getD (1 : Int).toNat default).toS) :: ([] : LD)))) :: ([] : LD))).length : Int) ≤ (4398046511104 : Int)) (
 ∀ v16 : Value,
   Bk fO.I0 fO.I0M [.V v0, .L l1, .S s2, .S s3, .L ((l9 ++ ((D.L ((D.S s2) :: ((D.S s3) :: ([] : LD)))) :: ([] : LD))) ++ ((D.L ((D.S ((l1.getD i11.toNat default).toL.getD (0 : Int).toNat default).toS) :: ((D.S ((l1.getD i11.toNat default).toL.getD (1 : Int).toNat default).toS) :: ([] : LD)))) :: ([] : LD))), .B true, .I (wrap .i64 (i11 + 1))] [.V v0, .L l1, .S s2, .S s3, .L l9, .B b10, .I i11]))) ∧ (
 ((Op.bytesLess s2.toList ((l1.getD i11.toNat default).toL.getD (0 : Int).toNat default).toS.toList) = false) →
 ∀ v13 : Value,
 Im (((l9 ++ ((D.L ((D.S ((l1.getD i11.toNat default).toL.getD (0 : Int).toNat default).toS) :: ((D.S ((l1.getD i11.toNat default).toL.getD (1 : Int).toNat default).toS) :: ([] : LD)))) :: ([] : LD))).length : Int) ≤ (4398046511104 : Int)) (
 ∀ v14 : Value,
   Bk fO.I0 fO.I0M [.V v0, .L l1, .S s2, .S s3, .L (l9 ++ ((D.L ((D.S ((l1.getD i11.toNat default).toL.getD (0 : Int).toNat default).toS) :: ((D.S ((l1.getD i11.toNat default).toL.getD (1 : Int).toNat default).toS) :: ([] : LD)))) :: ([] : LD))), .B b10, .I (wrap .i64 (i11 + 1))] [.V v0, .L l1, .S s2, .S s3, .L l9, .B b10, .I i11])))) ∧ (
 (b10 = true) →
 ∀ v13 : Value,
 Im (((l9 ++ ((D.L ((D.S ((l1.getD i11.toNat default).toL.getD (0 : Int).toNat default).toS) :: ((D.S ((l1.getD i11.toNat default).toL.getD (1 : Int).toNat default).toS) :: ([] : LD)))) :: ([] : LD))).length : Int) ≤ (4398046511104 : Int)) (
 ∀ v14 : Value,
  Bk fO.I0 fO.I0M [.V v0, .L l1, .S s2, .S s3, .L (l9 ++ ((D.L ((D.S ((l1.getD i11.toNat default).toL.getD (0 : Int).toNat default).toS) :: ((D.S ((l1.getD i11.toNat default).toL.getD (1 : Int).toNat default).toS) :: ([] : LD)))) :: ([] : LD))), .B b10, .I (wrap .i64 (i11 + 1))] [.V v0, .L l1, .S s2, .S s3, .L l9, .B b10, .I i11]))))) ∧ (
 ((l1.length : Int) ≤ i11) →
 ((
 (b10 = false) →
 ∀ v12 : Value,
 Im (((l9 ++ ((D.L ((D.S s2) :: ((D.S s3) :: ([] : LD)))) :: ([] : LD))).length : Int) ≤ (4398046511104 : Int)) (
 ∀ v13 : Value,
  fO.sig.post [.V v0, .L l1, .S s2, .S s3, .V v13, .B true, .L (l9 ++ ((D.L ((D.S s2) :: ((D.S s3) :: ([] : LD)))) :: ([] : LD)))])) ∧ (
 (b10 = true) →
  fO.sig.post [.V v0, .L l1, .S s2, .S s3, .V v8, .B true, .L l9]))))))))
def Grow.Pure : Prop :=
 ∀ v0 : Value,
 ∀ l1 : LD,
 (EK.ok [.str, .str] (D.L l1)) →
 Grow.sig.pre [.V v0, .L l1] →
 ∀ v2 v3 : Value,
 ∀ n4 : Nat,
 ∀ v5 : Value,
 Grow.I0 [.V v0, .L l1, .L ([] : LD), .I 0, .L ([] : LD)] ∧ (
 ∀ v6 : Value,
 ∀ l7 : LD,
 ∀ i8 : Int,
 ∀ v9 : Value,
 ∀ l10 : LD,
 R64 i8 →
 (EK.ok [.str, .str] (D.L l7)) →
 (EK.ok [.ints .u8 32, .str] (D.L l10)) →
 Grow.I0 [.V v0, .L l1, .L l7, .I i8, .L l10] →
 ((
 (i8 < (l1.length : Int)) →
 ((
 (i8 < 12) →
 Im (0 ≤ i8) (
  Cut.sig.pre [(D.S ((l1.getD i8.toNat default).toL.getD (0 : Int).toNat default).toS), .I 20] ∧ (
 ∀ s11 : BA,
  Cut.sig.post [(D.S ((l1.getD i8.toNat default).toL.getD (0 : Int).toNat default).toS), .I 20, .S s11] →
 ((s11.size : Int) ≤ 9223372036854775807) →
   HOf.sig.pre [.S s11] ∧ (
 ∀ z12 : LI,
  HOf.sig.post [.S s11, .Z z12] →
 (z12.length = 32) →
 (∀ x ∈ z12, IntKind.has .u8 x) →
 ∀ n13 : Nat,
  Cut.sig.pre [(D.S ((l1.getD i8.toNat default).toL.getD (1 : Int).toNat default).toS), .I 60] ∧ (
 ∀ s14 : BA,
  Cut.sig.post [(D.S ((l1.getD i8.toNat default).toL.getD (1 : Int).toNat default).toS), .I 60, .S s14] →
 ((s14.size : Int) ≤ 9223372036854775807) →
   kS.sig.pre [.N n4, .V v9, .L l10, .Z z12, .S s14] ∧ (
 ∀ v15 : Value,
 ∀ l16 : LD,
 ∀ b17 : Bool,
  kS.sig.post [.N n4, .V v9, .L l10, .Z z12, .S s14, .V v15, .L l16, .B b17] →
 (EK.ok [.ints .u8 32, .str] (D.L l16)) →
  fO.sig.pre [.V v6, .L l7, .S (textOf z12), .S s14] ∧ (
 ∀ v18 : Value,
 ∀ b19 : Bool,
 ∀ l20 : LD,
  fO.sig.post [.V v6, .L l7, .S (textOf z12), .S s14, .V v18, .B b19, .L l20] →
 (EK.ok [.str, .str] (D.L l20)) →
  Bk Grow.I0 Grow.I0M [.V v0, .L l1, .L l20, .I (wrap .i64 (i8 + 1)), .L l16] [.V v0, .L l1, .L l7, .I i8, .L l10]))))))) ∧ (
 (12 ≤ i8) →
  Grow.sig.post [.V v0, .L l1, .N n4, .V v9, .V v6, .L l10, .L l7]))) ∧ (
 ((l1.length : Int) ≤ i8) →
  Grow.sig.post [.V v0, .L l1, .N n4, .V v9, .V v6, .L l10, .L l7])))
end Go.Vc
namespace Go.Vc
def RE (a b : D) : Prop := cmpL (keyE a) (keyE b) < 0
def lS (L : LD) : Prop := ∀ d ∈ L, (keyE d).length = 32 ∧ ∀ x ∈ keyE d, 0 ≤ x ∧ x < 256
theorem bI9 {l : LD} (h : EK.ok [.ints .u8 32, .str] (.L l)) : lS l := fun _ hd => key_ok h hd
theorem bN1 {L : LD} : rising L ↔ L.Pairwise RE := by
 rw [List.pairwise_iff_getElem]
 constructor
 ·intro h i j hi hj hij
  have := h i j hij hj
  simpa [bJ, List.getD, List.getElem?_eq_getElem hi, List.getElem?_eq_getElem hj, RE] using this
 ·intro h i j hij hj
  have := h i j (by omega) hj hij
  simpa [bJ, List.getD, List.getElem?_eq_getElem hj, List.getElem?_eq_getElem (show i < L.length by omega), RE] using this
theorem aY6 {p : D → Bool} : ∀ {L : LD} {i : Nat}, (∀ d ∈ L.take i, p d = true) → (∀ d, L[i]? = some d → p d = false) → L.takeWhile p = L.take i ∧ L.dropWhile p = L.drop i
 | [], i, _, _ => by simp
 | x :: L, 0, _, h2 => by
  have := h2 x rfl
  simp [List.takeWhile, List.dropWhile, this]
 | x :: L, i + 1, h1, h2 => by
  have hx := h1 x (by simp)
  have ih := aY6 (L := L) (i := i) (fun d hd => h1 d (by simp [hd])) (fun d hd => h2 d (by simpa using hd))
  simp [List.takeWhile, List.dropWhile, hx, ih]
theorem aG9 {L : LD} {k : LI} (hk : k.length = 32) (ho : lS L) : wH L k = true ↔ ∃ d ∈ L, keyE d = k := by
 simp only [wH, List.any_eq_true, decide_eq_true_eq]
 constructor
 ·rintro ⟨d, hd, h⟩; exact ⟨d, hd, (cmp_eq (by rw [(ho d hd).1, hk])).1 h⟩
 ·rintro ⟨d, hd, h⟩; exact ⟨d, hd, (cmp_eq (by rw [(ho d hd).1, hk])).2 h⟩
theorem dC6 {L : LD} {i : Nat} (hi : i < L.length) : L[i]? = some (bJ L i) := by
 simp [bJ, List.getD, List.getElem?_eq_getElem hi]
theorem cK7 {L : LD} {k : LI} {i : Int} {f : Bool} (hk : k.length = 32) (ho : lS L) (hr : rising L) (h : placeOf L k i f) : f = wH L k ∧ (f = true → keyE (bJ L i.toNat) = k) := by
 obtain ⟨p1, p2, p3, p4, p5⟩ := h
 have len : ∀ j, j < L.length → (keyE (bJ L j)).length = k.length := fun j hj => by rw [(ho _ (xY hj)).1, hk]
 have one : f = true → keyE (bJ L i.toNat) = k := by
  intro hf
  rw [hf] at p5
  have := p5.symm
  simp only [Bool.and_eq_true, decide_eq_true_eq] at this
  exact (cmp_eq (len _ (by omega))).1 this.2
 refine ⟨?_, one⟩
 cases hf : f with
 | true =>
  symm
  rw [aG9 hk ho]
  have hi : i < L.length := by
   rw [hf] at p5
   have := p5.symm
   simp only [Bool.and_eq_true, decide_eq_true_eq] at this
   exact this.1
  exact ⟨_, xY (by omega), one hf⟩
 | false =>
  symm
  rw [Bool.eq_false_iff]
  intro hh
  obtain ⟨d, hd, he⟩ := (aG9 hk ho).1 hh
  obtain ⟨j, hj, rfl⟩ := List.getElem_of_mem hd
  have ej : bJ L j = L[j] := by simp [bJ, List.getD, List.getElem?_eq_getElem hj]
  have c0 : cmpL (keyE (bJ L j)) k = 0 := (cmp_eq (len j hj)).2 (by rw [ej]; exact he)
  have h1 : i ≤ j := by
   by_cases hh : i ≤ j
   ·exact hh
   ·have := p3 j (by omega); omega
  by_cases hij : i.toNat = j
  ·rw [hf] at p5
   have := p5
   rw [hij, c0] at this
   simp at this; omega
  ·have c1 := hr i.toNat j (by omega) hj
   have := aO3 (by rw [len _ (by omega), len j hj]) (len j hj) c1 (by omega)
   have := p4 i.toNat (by omega) (by omega)
   omega
theorem dM6 {L : LD} {k : LI} {i : Int} {f : Bool} {s : BA} (hk : k.length = 32) (ho : lS L) (hr : rising L) (h : placeOf L k i f) :
  (f = true → jZ L k s = L) ∧ (f = false → jZ L k s = L.take i.toNat ++ sH k s :: L.drop i.toNat) ∧ rising (jZ L k s) := by
 have hh := (cK7 hk ho hr h).1
 obtain ⟨p1, p2, p3, p4, p5⟩ := h
 have len : ∀ d ∈ L, (keyE d).length = k.length := fun d hd => by rw [(ho d hd).1, hk]
 have a1 : ∀ d ∈ L.take i.toNat, before k d = true := by
  intro d hd
  obtain ⟨j, hj, rfl⟩ := List.getElem_of_mem hd
  rw [List.length_take] at hj
  have := p3 j (by omega)
  simpa [before, bJ, List.getD, List.getElem?_eq_getElem (show j < L.length by omega)] using this
 have a2 : ∀ d ∈ L.drop i.toNat, 0 ≤ cmpL (keyE d) k := by
  intro d hd
  obtain ⟨j, hj, rfl⟩ := List.getElem_of_mem hd
  rw [List.length_drop] at hj
  have := p4 (i.toNat + j) (by omega) (by omega)
  rw [List.getElem_drop]
  simpa [bJ, List.getD, List.getElem?_eq_getElem (show i.toNat + j < L.length by omega)] using this
 obtain ⟨t1, t2⟩ := aY6 a1 (fun d hd => by
  have hm : d ∈ L.drop i.toNat := by
   rw [List.mem_iff_getElem?]
   exact ⟨0, by rw [List.getElem?_drop]; simpa using hd⟩
  have := a2 d hm
  simp [before]; omega)
 have e2 : f = false → jZ L k s = L.take i.toNat ++ sH k s :: L.drop i.toNat := by
  intro hf
  rw [jZ, if_neg (by rw [← hh, hf]; simp), t1, t2]
 have e1 : f = true → jZ L k s = L := by
  intro hf
  rw [jZ, if_pos (by rw [← hh, hf])]
 refine ⟨e1, e2, ?_⟩
 cases hf : f with
 | true => rw [e1 hf]; exact hr
 | false =>
  rw [e2 hf, bN1, List.pairwise_append]
  have hp := bN1.1 hr
  rw [← List.take_append_drop i.toNat L, List.pairwise_append] at hp
  obtain ⟨q1, q2, q3⟩ := hp
  have hno : ∀ d ∈ L, keyE d ≠ k := by
   intro d hd he
   have := (aG9 hk ho).2 ⟨d, hd, he⟩
   rw [← hh, hf] at this; cases this
  have b2 : ∀ d ∈ L.drop i.toNat, cmpL k (keyE d) < 0 := by
   intro d hd
   have hdm := List.mem_of_mem_drop hd
   have h1 := a2 d hd
   have h2 : cmpL (keyE d) k ≠ 0 := fun h => hno d hdm ((cmp_eq (len d hdm)).1 h)
   have h3 := aO2 (len d hdm)
   omega
  refine ⟨q1, List.pairwise_cons.2 ⟨fun d hd => b2 d hd, q2⟩, ?_⟩
  intro a ha b hb
  have ha1 : cmpL (keyE a) k < 0 := by simpa [before] using a1 a ha
  rcases List.mem_cons.1 hb with rfl | hb
  ·exact ha1
  ·exact q3 a ha b hb
theorem cL6 (L : LD) (k : LI) (s : BA) : (jZ L k s).length ≤ L.length + 1 ∧ L.length ≤ (jZ L k s).length := by
 unfold jZ
 split
 ·omega
 ·have := congrArg List.length (List.takeWhile_append_dropWhile (p := before k) (l := L))
  simp only [List.length_append, List.length_cons] at this ⊢
  omega
theorem kS.pure : kS.Pure := by
 intro n0 v1 l2 z3 s4 h1 h2 h3 h4 h5 n5
 obtain ⟨h5, h6⟩ : rising l2 ∧ l2.length ≤ 900000 := h5
 have ho := bI9 h4
 refine ⟨⟨h5, by omega⟩, ?_⟩
 intro i6 b7 h7 h8
 have h7 : placeOf l2 z3 i6 b7 := h7
 have hp := dM6 (s := s4) h1 ho h5 h7
 have hh := (cK7 h1 ho h5 h7).1
 have fin : b7 = false → ∀ v8 : Value, jQ.sig.pre [(D.V v1), (D.L l2), (D.I i6), (D.V v8), (D.L ((D.L ((D.Z z3) :: ((D.S s4) :: ([] : LD)))) :: ([] : LD)))] ∧
   ∀ (v9 : Value) (l10 : LD), jQ.sig.post [(D.V v1), (D.L l2), (D.I i6), (D.V v8), (D.L ((D.L ((D.Z z3) :: ((D.S s4) :: ([] : LD)))) :: ([] : LD))), (D.V v9), (D.L l10)] → (EK.ok [.ints .u8 32, .str] (D.L l10)) →
    kS.sig.post [(D.N n0), (D.V v1), (D.L l2), (D.Z z3), (D.S s4), (D.V v9), (D.L l10), (D.B (!b7))] := by
  intro hb v8
  refine ⟨⟨h7.1, h7.2.1, by simp, by omega, by simp⟩, fun v9 l10 h9 _ => ?_⟩
  have h9 : l10 = l2.take i6.toNat ++ [sH z3 s4] ++ l2.drop i6.toNat := h9
  have e : l10 = jZ l2 z3 s4 := by rw [h9, hp.2.1 hb]; simp
  exact ⟨e, by rw [hh], by rw [e]; exact hp.2.2⟩
 exact ⟨fun h8 => ⟨fin h8, fin h8, fin h8⟩, fun h8 => ⟨(hp.1 h8).symm, by rw [hh], h5⟩⟩
theorem iR.pure : iR.Pure := by
 intro v0 l1 s2 h1 h2 h3
 have h3 : l1.length ≤ 1000000 := h3
 refine ⟨⟨by omega, by omega, fun t ht => by omega⟩, ?_⟩
 intro i3 h4 h5
 obtain ⟨a1, a2, a3⟩ : 0 ≤ i3 ∧ i3 ≤ l1.length ∧ ∀ t : Nat, (t : Int) < i3 → aA6 l1 t ≠ s2 := h5
 refine ⟨?_, ?_⟩
 ·intro h6
  refine ⟨a1, fun _ n4 => ⟨?_, ?_⟩⟩
  ·intro h7
   exact ⟨fun h => by omega, fun _ => ⟨by omega, h7, fun t ht => a3 t (by omega)⟩⟩
  ·intro h7
   rw [aH (by omega) (by omega)]
   refine ⟨⟨by omega, by omega, fun t ht => ?_⟩, ?_⟩
   ·by_cases htt : t = i3.toNat
    ·subst htt; exact h7
    ·exact a3 t (by omega)
   ·show ((l1.length : Int) - (i3 + 1)).toNat < ((l1.length : Int) - i3).toNat
    omega
 ·intro h6
  exact ⟨fun _ t ht => a3 t (by omega), fun h => by omega⟩
theorem cR6 {L : LD} {i : Nat} (hi : i < L.length) : L.take (i + 1) = L.take i ++ [bJ L i] := by
 rw [List.take_add_one]
 simp [bJ, List.getD, List.getElem?_eq_getElem hi]
theorem fO.pure : fO.Pure := by
 intro v0 l1 s2 s3 h1 h2 h3 h4 n4 v5
 have h4 : l1.length ≤ 900000 := h4
 refine ⟨by show l1.length ≤ 1000000; omega, ?_⟩
 intro i6 h5 h6
 obtain ⟨f1, f2⟩ : (i6 < 0 → ∀ t, t < l1.length → aA6 l1 t ≠ s2) ∧ (0 ≤ i6 → firstAt l1 s2 i6.toNat) := h5
 refine ⟨?_, ?_⟩
 ·intro h7
  have hf := f2 h7
  have hx : vH l1 s2 = true := by
   simp only [vH, List.any_eq_true, decide_eq_true_eq]
   exact ⟨bJ l1 i6.toNat, xY hf.1, hf.2.1⟩
  exact ⟨by rw [yS, if_pos hx], by rw [hx]; rfl⟩
 intro h7
 have hx : vH l1 s2 = false := by
  rw [Bool.eq_false_iff]
  intro hh
  simp only [vH, List.any_eq_true, decide_eq_true_eq] at hh
  obtain ⟨d, hd, he⟩ := hh
  obtain ⟨j, hj, rfl⟩ := List.getElem_of_mem hd
  have ej : bJ l1 j = l1[j] := by simp [bJ, List.getD, List.getElem?_eq_getElem hj]
  exact f1 h7 j hj (by show ((bJ l1 j).toL.getD 0 default).toS = s2; rw [ej]; exact he)
 intro v7
 refine ⟨⟨by omega, by omega, fun _ => ⟨rfl, by simp⟩, fun h => by cases h⟩, ?_⟩
 intro v8 l9 b10 i11 h8 h9 h10
 obtain ⟨a1, a2, a3, a4⟩ : 0 ≤ i11 ∧ i11 ≤ l1.length ∧ (b10 = false → l9 = (l1.take i11.toNat).map qO ∧ ∀ d ∈ l1.take i11.toNat, lH s2 d = true) ∧
   (b10 = true → ∃ j : Nat, (j : Int) < i11 ∧ (∀ d ∈ l1.take j, lH s2 d = true) ∧ lH s2 (bJ l1 j) = false ∧ l9 = (l1.take j).map qO ++ .L [.S s2, .S s3] :: ((l1.take i11.toNat).drop j).map qO) := h10
 have hlen : l9.length ≤ l1.length + 1 := by
  cases b10 with
  | false => rw [(a3 rfl).1]; simp; omega
  | true => obtain ⟨j, q1, _, _, q4⟩ := a4 rfl; rw [q4]; simp; omega
 have lens : ∀ x y : D, (((l9 ++ [x]).length : Nat) : Int) ≤ 4398046511104 ∧ ((((l9 ++ [x]) ++ [y]).length : Nat) : Int) ≤ 4398046511104 := by
  intro x y
  simp only [List.length_append, List.length_singleton]
  omega
 have fin : ∀ (b : Bool) (z : LD), (b = false → z = (l1.take (i11.toNat + 1)).map qO ∧ ∀ d ∈ l1.take (i11.toNat + 1), lH s2 d = true) →
   (b = true → ∃ j : Nat, (j : Int) < i11 + 1 ∧ (∀ d ∈ l1.take j, lH s2 d = true) ∧ lH s2 (bJ l1 j) = false ∧ z = (l1.take j).map qO ++ .L [.S s2, .S s3] :: ((l1.take (i11.toNat + 1)).drop j).map qO) →
   i11 < l1.length →
   fO.I0 [(D.V v0), (D.L l1), (D.S s2), (D.S s3), (D.L z), (D.B b), (D.I (wrap .i64 (i11 + (1 : Int))))] ∧
    fO.I0M [(D.V v0), (D.L l1), (D.S s2), (D.S s3), (D.L z), (D.B b), (D.I (wrap .i64 (i11 + (1 : Int))))] < fO.I0M [(D.V v0), (D.L l1), (D.S s2), (D.S s3), (D.L l9), (D.B b10), (D.I i11)] := by
  intro b z z1 z2 hi
  rw [aH (by omega) (by omega)]
  refine ⟨⟨by omega, by omega, fun h => ?_, fun h => ?_⟩, ?_⟩
  ·rw [show (i11 + 1).toNat = i11.toNat + 1 from by omega]; exact z1 h
  ·rw [show (i11 + 1).toNat = i11.toNat + 1 from by omega]; exact z2 h
  ·show ((l1.length : Int) - (i11 + 1)).toNat < ((l1.length : Int) - i11).toNat
   omega
 refine ⟨?_, ?_⟩
 ·intro h11
  have ts := cR6 (L := l1) (i := i11.toNat) (by omega)
  refine ⟨a1, fun _ n12 => ⟨?_, ?_⟩⟩
  ·intro h12
   obtain ⟨q1, q2⟩ := a3 h12
   refine ⟨?_, ?_⟩
   ·intro h13 v13
    refine ⟨(lens _ (.I 0)).1, fun _ v14 v15 => ⟨(lens _ _).2, fun _ v16 => ?_⟩⟩
    refine fin true _ (fun h => by cases h) (fun _ => ⟨i11.toNat, by omega, q2, ?_, ?_⟩) h11
    ·show (!(Op.bytesLess s2.toList ((l1.getD i11.toNat default).toL.getD 0 default).toS.toList)) = false
     rw [show ((l1.getD i11.toNat default).toL.getD 0 default) = ((l1.getD i11.toNat default).toL.getD (0 : Int).toNat default) from rfl, h13]; rfl
    ·have hd : (l1.take i11.toNat).drop i11.toNat = [] := List.drop_of_length_le (by rw [List.length_take]; omega)
     have hd2 : (l1.take (i11.toNat + 1)).drop i11.toNat = [bJ l1 i11.toNat] := by
      rw [ts, List.drop_append_of_le_length (by rw [List.length_take]; omega), hd]; rfl
     rw [hd2, q1]
     simp only [List.append_assoc]
     rfl
   ·intro h13 v13
    refine ⟨(lens _ (.I 0)).1, fun _ v14 => ?_⟩
    rw [h12]
    refine fin false _ (fun _ => ⟨?_, ?_⟩) (fun h => by cases h) h11
    ·rw [ts, List.map_append, q1]; rfl
    ·intro d hd
     rw [ts] at hd
     rcases List.mem_append.1 hd with hd | hd
     ·exact q2 d hd
     ·rw [List.mem_singleton] at hd
      subst hd
      show (!(Op.bytesLess s2.toList ((l1.getD i11.toNat default).toL.getD 0 default).toS.toList)) = true
      rw [show ((l1.getD i11.toNat default).toL.getD 0 default) = ((l1.getD i11.toNat default).toL.getD (0 : Int).toNat default) from rfl, h13]; rfl
  ·intro h12 v13
   obtain ⟨j, q1, q2, q3, q4⟩ := a4 h12
   refine ⟨(lens _ (.I 0)).1, fun _ v14 => ?_⟩
   rw [h12]
   refine fin true _ (fun h => by cases h) (fun _ => ⟨j, by omega, q2, q3, ?_⟩) h11
   rw [ts, List.drop_append_of_le_length (by rw [List.length_take]; omega), List.map_append, q4]
   simp only [List.append_assoc, List.cons_append]
   rfl
 ·intro h11
  have ht : l1.take i11.toNat = l1 := List.take_of_length_le (by omega)
  rw [ht] at a3 a4
  refine ⟨?_, ?_⟩
  ·intro h12 v12
   obtain ⟨q1, q2⟩ := a3 h12
   refine ⟨(lens _ (.I 0)).1, fun _ v13 => ⟨?_, by rw [hx]; rfl⟩⟩
   have := aY6 (p := lH s2) (L := l1) (i := l1.length) (fun d hd => q2 d (List.mem_of_mem_take hd)) (fun d hd => by simp at hd)
   rw [yS, if_neg (by rw [hx]; simp), this.1, this.2, List.take_length, List.drop_length, q1]
   rfl
  ·intro h12
   obtain ⟨j, q1, q2, q3, q4⟩ := a4 h12
   refine ⟨?_, by rw [hx]; rfl⟩
   have := aY6 (p := lH s2) (L := l1) (i := j) q2 (fun d hd => by
    rw [dC6 (by omega)] at hd
    cases hd; exact q3)
   rw [yS, if_neg (by rw [hx]; simp), this.1, this.2, q4]
theorem cI4 (L : LD) : (refs L).map qO = refs L := by
 simp only [refs, List.map_map]
 exact List.map_congr_left fun d _ => rfl
theorem cS9 {p q : D → Bool} : ∀ {L : LD}, (∀ d ∈ L, p d = q d) → L.takeWhile p = L.takeWhile q ∧ L.dropWhile p = L.dropWhile q
 | [], _ => by simp
 | x :: L, h => by
  have hx := h x (by simp)
  have ih := cS9 (L := L) fun d hd => h d (by simp [hd])
  cases hp : p x with
  | true => rw [hp] at hx; simp [List.takeWhile, List.dropWhile, hp, ← hx, ih]
  | false => rw [hp] at hx; simp [List.takeWhile, List.dropWhile, hp, ← hx]
theorem dV3 {a b : LI} (ha : ∀ x ∈ a, 0 ≤ x ∧ x < 256) (hb : ∀ x ∈ b, 0 ≤ x ∧ x < 256) (h : textOf a = textOf b) : a = b := by
 have := congrArg bytesOf h
 rwa [lK ha, lK hb] at this
theorem dF3 {L : LD} {k : LI} (hk : k.length = 32 ∧ ∀ x ∈ k, 0 ≤ x ∧ x < 256) (ho : lS L) : vH (refs L) (textOf k) = wH L k := by
 rw [Bool.eq_iff_iff, aG9 hk.1 ho]
 simp only [vH, refs, List.any_map, List.any_eq_true, Function.comp, decide_eq_true_eq]
 constructor
 ·rintro ⟨d, hd, h⟩; exact ⟨d, hd, dV3 (ho d hd).2 hk.2 h⟩
 ·rintro ⟨d, hd, h⟩; exact ⟨d, hd, congrArg textOf h⟩
theorem dN5 {L : LD} {k : LI} {s : BA} (hk : k.length = 32 ∧ ∀ x ∈ k, 0 ≤ x ∧ x < 256) (ho : lS L) : refs (jZ L k s) = yS (refs L) (textOf k) s := by
 rw [jZ, yS, dF3 hk ho]
 cases hh : wH L k with
 | true => simp
 | false =>
  simp only [Bool.false_eq_true, if_false]
  have hno : ∀ d ∈ L, keyE d ≠ k := fun d hd he => by
   have := (aG9 hk.1 ho).2 ⟨d, hd, he⟩
   rw [hh] at this; cases this
  have hp : ∀ d ∈ L, before k d = (lH (textOf k) ∘ aK6) d := by
   intro d hd
   have hl : (keyE d).length = k.length := by rw [(ho d hd).1, hk.1]
   have e : (lH (textOf k) ∘ aK6) d = !(decide (cmpL k (keyE d) < 0)) := by
    show (!(Op.bytesLess (textOf k).toList (textOf (keyE d)).toList)) = _
    rw [cF1 (by rw [textOf_size, hl]) hk.2, lK (ho d hd).2]
   rw [e, before]
   have h1 := aO2 hl
   have h2 : cmpL (keyE d) k ≠ 0 := fun h => hno d hd ((cmp_eq hl).1 h)
   by_cases h3 : cmpL (keyE d) k < 0
   ·simp [h3]; omega
   ·simp [h3]; omega
  have hc := cS9 hp
  have e1 : (refs L).takeWhile (lH (textOf k)) = refs (L.takeWhile (before k)) := by
   rw [refs, List.takeWhile_map, hc.1]; rfl
  have e2 : (refs L).dropWhile (lH (textOf k)) = refs (L.dropWhile (before k)) := by
   rw [refs, List.dropWhile_map, hc.2]; rfl
  rw [e1, e2, cI4, cI4]
  simp only [refs, List.map_append, List.map_cons]
  rfl
theorem dN7 {L : LD} {k : LI} {s : BA} {n : Nat} (hs : s.size ≤ n) (ho : ∀ d ∈ L, (textE d).size ≤ n) : ∀ d ∈ jZ L k s, (textE d).size ≤ n := by
 unfold jZ
 split
 ·exact ho
 ·intro d hd
  rcases List.mem_append.1 hd with hd | hd
  ·exact ho d (List.takeWhile_sublist _ |>.subset hd)
  ·rcases List.mem_cons.1 hd with rfl | hd
   ·exact hs
   ·exact ho d (List.dropWhile_sublist _ |>.subset hd)
theorem bZ9 : ∀ (ds : LD) (L : LD) (d : D), growE L (ds ++ [d]) = jZ (growE L ds) (aH3 d) (aH4 d)
 | [], _, _ => rfl
 | x :: ds, L, d => bZ9 ds _ d
theorem bV6 {s r : BA} {n : Int} (hn : 0 ≤ n) (h : Cut.sig.post [.S s, .I n, .S r]) : r = s.extract 0 n.toNat ∧ r.size ≤ n.toNat := by
 have h : r = if (s.size : Int) > n then s.extract 0 n.toNat else s := h
 have e : r = s.extract 0 n.toNat := by
  rw [h]
  split
  ·rfl
  ·apply aE3
   rw [rG, List.drop_zero, List.take_of_length_le (by rw [bytesOf_length']; omega)]
 exact ⟨e, by rw [e, ByteArray.size_extract]; omega⟩
theorem Grow.pure : Grow.Pure := by
 intro v0 l1 h1 h2 v2 v3 n4 v5
 refine ⟨⟨by omega, by omega, by omega, rfl, rfl, fun i j _ hj => by simp at hj, by simp, by simp⟩, ?_⟩
 intro v6 l7 i8 v9 l10 h3 h4 h5 h6
 obtain ⟨a1, a2, a3, a4, a5, a6, a7, a8⟩ : 0 ≤ i8 ∧ i8 ≤ 12 ∧ i8 ≤ l1.length ∧ l10 = growE [] (l1.take i8.toNat) ∧ l7 = refs l10 ∧ rising l10 ∧ l10.length ≤ i8 ∧ ∀ d ∈ l10, (textE d).size ≤ 60 := h6
 have ho := bI9 h5
 have done : (i8 = 12 ∨ i8 = l1.length) → Grow.sig.post [(D.V v0), (D.L l1), (D.N n4), (D.V v9), (D.V v6), (D.L l10), (D.L l7)] := by
  intro hc
  have : l1.take i8.toNat = l1.take 12 := by
   rcases hc with h | h
   ·rw [h]; rfl
   ·rw [List.take_of_length_le (by omega), List.take_of_length_le (by omega)]
  exact ⟨by rw [a4, this], a5, a6, by omega, a8⟩
 refine ⟨?_, fun h => done (.inr (by omega))⟩
 intro h7
 refine ⟨?_, fun h => done (.inl (by omega))⟩
 intro h8
 refine ⟨a1, fun _ => ⟨by show (0 : Int) ≤ 20; omega, ?_⟩⟩
 intro s11 h9 _
 have c1 := bV6 (by omega) h9
 refine ⟨by show s11.size ≤ 1000000; have := c1.2; omega, ?_⟩
 intro z12 h10 h11 h12 n13
 have h10 : z12 = iU (bytesOf s11) := h10
 have hz : z12.length = 32 ∧ ∀ x ∈ z12, 0 ≤ x ∧ x < 256 := ⟨h11, fun x hx => qJ.1 (h12 x hx)⟩
 refine ⟨by show (0 : Int) ≤ 60; omega, ?_⟩
 intro s14 h13 _
 have c2 := bV6 (by omega) h13
 refine ⟨⟨a6, by omega⟩, ?_⟩
 intro v15 l16 b17 h14 h15
 obtain ⟨h14, h14', h14''⟩ : l16 = jZ l10 z12 s14 ∧ b17 = !wH l10 z12 ∧ rising l16 := h14
 refine ⟨by show l7.length ≤ 900000; rw [a5, aV9]; omega, ?_⟩
 intro v18 b19 l20 h16 h17
 obtain ⟨h16, _⟩ : l20 = yS l7 (textOf z12) s14 ∧ b19 = !vH l7 (textOf z12) := h16
 rw [aH (by omega) (by omega)]
 have ek : z12 = aH3 (bJ l1 i8.toNat) := by rw [h10, c1.1]; rfl
 have et : s14 = aH4 (bJ l1 i8.toNat) := c2.1
 refine ⟨⟨by omega, by omega, by omega, ?_, ?_, h14'', ?_, ?_⟩, ?_⟩
 ·rw [show (i8 + 1).toNat = i8.toNat + 1 from by omega, cR6 (by omega), bZ9, ← a4, h14, ek, et]
 ·rw [h16, h14, a5, dN5 hz ho]
 ·have := (cL6 l10 z12 s14).1
  rw [h14]; omega
 ·rw [h14]
  exact dN7 c2.2 a8
 ·show (12 - (i8 + 1)).toNat < (12 - i8).toNat
  omega
end Go.Vc
namespace Go.Vc
theorem bZ1 {α β : Type} {f g : α → List β} : ∀ {l : List α}, (∀ d ∈ l, f d = g d) → l.flatMap f = l.flatMap g
 | [], _ => rfl
 | x :: l, h => by rw [List.flatMap_cons, List.flatMap_cons, h x (by simp), bZ1 fun d hd => h d (by simp [hd])]
theorem cR8 {X : LD} : ∀ x ∈ aY1 X, 0 ≤ x ∧ x < 256 := by
 intro x hx
 rcases List.mem_append.1 hx with hx | hx
 ·rcases List.mem_append.1 hx with hx | hx
  ·have : x = 79 ∨ x = 82 ∨ x = 68 ∨ x = 69 ∨ x = 65 ∨ x = 76 ∨ x = 84 ∨ x = 49 := by simpa using hx
   omega
  ·exact bL3 (by omega) x hx
 ·obtain ⟨d, _, hd⟩ := List.mem_flatMap.1 hx
  rcases List.mem_append.1 hd with hd | hd
  ·exact nX _ x hd
  ·rcases List.mem_append.1 hd with hd | hd
   ·exact bL3 (by omega) x hd
   ·exact nX _ x hd
theorem cR9 {L : LD} (ho : lS L) : aY1 (refs L) = dH L := by
 rw [aY1, dH, aV9]
 congr 1
 rw [refs, List.flatMap_map]
 refine bZ1 fun d hd => ?_
 show bytesOf (textOf (keyE d)) ++ gV (textE d) = keyE d ++ gV (textE d)
 rw [lK (ho d hd).2]
theorem aL3 {l : LI} (h : l.length ≤ 1000000) : (iU l).length = 32 ∧ ∀ x ∈ iU l, 0 ≤ x ∧ x < 256 := by
 rw [cP2 h]
 have h8 : (bV dO (fQ l)).1.length = 8 := bW3 _ _ _ (Nat.le_refl _) rfl
 rw [jY]
 have : ∀ (st : LI), (st.flatMap fun v => [wrap .u8 (aW .u32 v 24), wrap .u8 (aW .u32 v 16), wrap .u8 (aW .u32 v 8), wrap .u8 v]).length = 4 * st.length := by
  intro st
  induction st with
  | nil => rfl
  | cons x st ih => simp only [List.flatMap_cons, List.length_append, ih, List.length_cons, List.length_nil]; omega
 refine ⟨by rw [this, h8], ?_⟩
 intro x hx
 obtain ⟨v, _, hv⟩ := List.mem_flatMap.1 hx
 have hw : ∀ y : Int, 0 ≤ wrap .u8 y ∧ wrap .u8 y < 256 := fun y => (dW5 _).1 (bR0 .u8 y)
 simp only [List.mem_cons, List.not_mem_nil, or_false] at hv
 rcases hv with rfl | rfl | rfl | rfl <;> exact hw _
def pG (d : D) : D := sH (keyE d) (textE d)
theorem dP5 (L : LD) : refs (L.map pG) = refs L := by
 rw [refs, refs, List.map_map]
 exact List.map_congr_left fun d _ => rfl
theorem dG7 {k : LI} (hk : k.length = 32 ∧ ∀ x ∈ k, 0 ≤ x ∧ x < 256) : jW (textOf k) = k := by
 rw [jW, lK hk.2, hk.1]
 rw [List.take_of_length_le (by rw [hk.1]; decide)]
 simp
theorem go_back {S : BA} : ∀ (ds A : LD) {a : Int}, 0 ≤ a ∧ a ≤ S.size → (bytesOf S).drop a.toNat = ds.flatMap fF → lS ds → lS A → (A ++ ds).Pairwise RE → (∀ d ∈ ds, (textE d).size ≤ 4194304) →
  kD S ds.length (a, 0, A) = ((S.size : Int), (0 : Int), A ++ ds.map pG)
 | [], A, a, ha, h, _, _, _, _ => by
  have : a = S.size := by
   have e := congrArg List.length h
   rw [List.length_drop, bytesOf_length'] at e
   simp only [List.flatMap_nil, List.length_nil] at e
   omega
  rw [this]; simp [kD]
 | d :: ds, A, a, ha, h, hk, hA, hp, ht => by
  have hkd := hk d (by simp)
  rw [List.flatMap_cons, fF, List.append_assoc] at h
  have hb : bytesOf (textOf (keyE d)) = keyE d := lK hkd.2
  have e1 := bA7 (t := textOf (keyE d)) ha (by rw [hb]; exact h)
  rw [textOf_size, hkd.1, hb, hkd.1] at e1
  have hl := at_len ha h
  rw [hkd.1] at hl
  have ha2 : 0 ≤ a + 32 ∧ a + 32 ≤ S.size := by omega
  have h2 : (bytesOf S).drop (a + 32).toNat = gV (textE d) ++ ds.flatMap fF := by
   rw [show (a + 32).toNat = a.toNat + 32 from by omega, ← List.drop_drop, h, List.drop_left' hkd.1]
  have e2 := cX0 (m := 4194304) (by have := ht d (by simp); omega) (by decide) ha2 h2
  have hl2 := at_len ha2 h2
  have ha3 : 0 ≤ a + 32 + (gV (textE d)).length ∧ a + 32 + (gV (textE d)).length ≤ S.size := by omega
  have h3 : (bytesOf S).drop (a + 32 + (gV (textE d)).length).toNat = ds.flatMap fF := by
   rw [show (a + 32 + (gV (textE d)).length).toNat = (a + 32).toNat + (gV (textE d)).length from by omega, ← List.drop_drop, h2, List.drop_left]
  have hst : lZ S (a, 0, A) = (a + 32 + (gV (textE d)).length, 0, A ++ [pG d]) := by
   unfold lZ
   simp only
   rw [show ((32 : Nat) : Int) = 32 from rfl] at e1
   rw [e1]
   simp only
   rw [e2]
   simp only
   rw [dG7 hkd, if_neg]
   ·rfl
   ·rintro ⟨_, h0, hc⟩
    have hm : bJ A (A.length - 1) ∈ A := xY (by omega)
    have := (List.pairwise_append.1 hp).2.2 _ hm d (by simp)
    have : cmpL (keyE (bJ A (A.length - 1))) (keyE d) < 0 := this
    omega
  rw [List.length_cons, kD, if_pos rfl, hst]
  have hn : keyE (pG d) = keyE d := rfl
  have hA2 : lS (A ++ [pG d]) := by
   intro x hx
   rcases List.mem_append.1 hx with hx | hx
   ·exact hA x hx
   ·rw [List.mem_singleton] at hx; subst hx; exact hkd
  have hp2 : ((A ++ [pG d]) ++ ds).Pairwise RE := by
   rw [List.pairwise_append, List.pairwise_cons] at hp
   rw [List.append_assoc, List.pairwise_append]
   exact ⟨hp.1, List.pairwise_cons.2 ⟨hp.2.1.1, hp.2.1.2⟩, fun x hx y hy => by
    rcases List.mem_cons.1 hy with rfl | hy
    ·exact hp.2.2 x hx d (by simp)
    ·exact hp.2.2 x hx y (List.mem_cons_of_mem _ hy)⟩
  rw [go_back ds (A ++ [pG d]) ha3 h3 (fun x hx => hk x (by simp [hx])) hA2 hp2 (fun x hx => ht x (by simp [hx]))]
  simp
theorem bX7 : ∀ {L : LD}, lS L → L.length ≤ (L.flatMap fF).length
 | [], _ => by simp
 | d :: L, ho => by
  have := bX7 (L := L) (fun x hx => ho x (by simp [hx]))
  rw [List.flatMap_cons, List.length_append, fF, List.length_append, (ho d (by simp)).1, List.length_cons]
  omega
theorem dV0 {L : LD} (ho : lS L) (hr : rising L) (hl : (dH L).length ≤ 400000) (ht : ∀ d ∈ L, (textE d).size ≤ 4194304) : kN (textOf (dH L)) = (0, L.map pG) := by
 have hX : dH L = aY1 (refs L) := (cR9 ho).symm
 have hb : bytesOf (textOf (dH L)) = dH L := by rw [hX, lK cR8]
 obtain ⟨S, hS⟩ : ∃ S, S = textOf (dH L) := ⟨_, rfl⟩
 rw [← hS] at hb ⊢
 have hsz : S.size = (dH L).length := by rw [← hb, bytesOf_length']
 have h0 : (bytesOf S).drop (0 : Int).toNat = bytesOf vV ++ (dA L.length ++ L.flatMap fF) := by
  rw [hb, bJ7, dH, List.append_assoc]; rfl
 have z : (0 : Int) ≤ 0 ∧ (0 : Int) ≤ S.size := ⟨by omega, by omega⟩
 have e1 := bA7 z h0
 have hm8 : (bytesOf vV).length = 8 := by rw [bJ7]; rfl
 have hms : vV.size = 8 := by rw [← bytesOf_length', hm8]
 rw [hms, hm8] at e1
 have hl8 := at_len z h0
 rw [hm8] at hl8
 have z8 : (0 : Int) ≤ 8 ∧ (8 : Int) ≤ S.size := by omega
 have h8 : (bytesOf S).drop (8 : Int).toNat = dA L.length ++ L.flatMap fF := by
  have := congrArg (List.drop 8) h0
  rw [List.drop_drop, List.drop_left' hm8] at this
  simpa using this
 have hLn : (L.length : Int) < 18446744073709551616 := by
  have := bX7 ho
  rw [dH, List.length_append, List.length_append] at hl
  omega
 have e2 := bS9 (by omega) z8 h8
 have hn : iG S = ((8 : Int) + (dA L.length).length, (0 : Int), (L.length : Int)) := by
  unfold iG
  simp only
  rw [show ((8 : Nat) : Int) = 8 from rfl, show (0 : Int) + 8 = 8 from rfl] at e1
  rw [e1]
  simp only
  rw [if_neg (fun h => h.2 rfl), e2]
 have hl9 := at_len z8 h8
 have h9 : (bytesOf S).drop (8 + (dA L.length).length : Int).toNat = L.flatMap fF := by
  rw [show (8 + (dA L.length).length : Int).toNat = (8 : Int).toNat + (dA L.length).length from by omega, ← List.drop_drop, h8, List.drop_left]
 have hg := go_back L [] (by omega) h9 ho (by intro d hd; cases hd) (bN1.1 hr) ht
 have ha : lY S = ((S.size : Int), (0 : Int), L.map pG) := by
  unfold lY
  rw [hn]
  simp only
  rw [show ((L.length : Int)).toNat = L.length from by omega, hg]
  simp
 unfold kN
 rw [ha]
 simp [mV]
theorem dN3 {l : LI} (hl : l.length ≤ 400000) (h8 : 8 ≤ l.length) (hb : ∀ x ∈ l, 0 ≤ x ∧ x < 256) : dI (textOf (lC l)) = kN (textOf l) := by
 have hs := aL3 (l := l) (by omega)
 have e : textOf (lC l) = textOf l ++ textOf (iU l) := by rw [xG]; rfl
 have hz : (textOf l).size = l.length := textOf_size l
 have hz2 : (textOf (iU l)).size = 32 := by rw [textOf_size, hs.1]
 have hz3 : (textOf l ++ textOf (iU l)).size = l.length + 32 := by rw [ByteArray.size_append, hz, hz2]
 have x1 : (textOf l ++ textOf (iU l)).extract 0 l.length = textOf l := by rw [← hz]; exact dD0
 have x2 : (textOf l ++ textOf (iU l)).extract l.length (l.length + 32) = textOf (iU l) := by
  apply aE3
  rw [rG, bU1, lK hb, lK hs.2, List.take_of_length_le (by rw [List.length_append, hs.1]; omega), List.drop_left]
 rw [e, dI, hz3, if_neg (by omega), Nat.add_sub_cancel, x1, x2, lK hb, if_neg (by simp)]
theorem dV1 {L : LD} (hn : L.length ≤ 13) (ht : ∀ d ∈ L, (textE d).size ≤ 60) (ho : lS L) : (dH L).length ≤ 10000 ∧ 8 ≤ (dH L).length := by
 have e : ∀ {M : LD}, (∀ d ∈ M, (textE d).size ≤ 60) → lS M → (M.flatMap fF).length ≤ M.length * 101 := by
  intro M
  induction M with
  | nil => intros; simp
  | cons d M ih =>
   intro h1 h2
   have := ih (fun x hx => h1 x (by simp [hx])) (fun x hx => h2 x (by simp [hx]))
   have h3 := h1 d (by simp)
   have h4 := (aB6 ((textE d).size : Int)).1
   rw [List.flatMap_cons, List.length_append, fF, List.length_append, (h2 d (by simp)).1, gV, List.length_append, bytesOf_length', List.length_cons]
   omega
 have h1 := e ht ho
 have h2 := (aB6 (L.length : Int)).1
 rw [dH, List.length_append, List.length_append]
 simp only [List.length_cons, List.length_nil]
 omega
end Go.Vc
namespace Go.Vc
theorem cA0 : ∀ (ds L : LD), (growE L ds).length ≤ L.length + ds.length
 | [], L => Nat.le_refl _
 | d :: ds, L => by
  have h1 := cA0 ds (jZ L (aH3 d) (aH4 d))
  have h2 := (cL6 L (aH3 d) (aH4 d)).1
  rw [growE, List.length_cons]; omega
end Go.Vc