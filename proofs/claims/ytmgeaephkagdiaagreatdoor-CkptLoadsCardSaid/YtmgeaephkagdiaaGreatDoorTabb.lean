/-
 Contracts of tables: texts by names, in order.
 Printed by wip/vct.py: the conditions of functions, by their contracts.
 Tables: the plain part.
 Tables: bytes that are read as a table are its bytes.
 Tables: bytes that are read as a table are its bytes.
-/
import Derived.Test.YtmgeaephkagdiaaGreatDoorShab
import Derived.Test.YtmgeaephkagdiaaGreatDoorPack
import Derived.KernelRfl
set_option linter.unusedVariables false
set_option linter.unusedSimpArgs false
open _root_.Go.IntKind (wrap)
namespace Go.Vc
def eG : EK := [.ints .u8 32, .str]
def keyE (r : D) : LI := (r.toL.getD 0 default).aC
def textE (r : D) : BA := (r.toL.getD 1 default).toS
def sH (k : LI) (s : BA) : D := .L [.Z k, .S s]
def bJ (L : LD) (i : Nat) : D := L.getD i default
def rising (L : LD) : Prop := ∀ i j, i < j → j < L.length → cmpL (keyE (bJ L i)) (keyE (bJ L j)) < 0
def placeOf (L : LD) (k : LI) (i : Int) (f : Bool) : Prop :=
 0 ≤ i ∧ i ≤ L.length ∧ (∀ t : Nat, (t : Int) < i → cmpL (keyE (bJ L t)) k < 0) ∧ (∀ t : Nat, i ≤ (t : Int) → t < L.length → 0 ≤ cmpL (keyE (bJ L t)) k) ∧ f = (decide (i < L.length) && decide (cmpL (keyE (bJ L i.toNat)) k = 0))
def nR.post : LD → Prop
 | [.Z a, .S _, .Z k, .I r] => r = cmpL a k
 | _ => False
def nR.sig : Sig := { args := [.one (.agg [.ints .u8 32 (.at 0), .lf (.str (.at 1))]), arr .u8 32 2], heap := [], aA := [.Z, .S, .Z], res := aI .i64 3, heap' := [], news := [.I], pre := tru, post := nR.post }
def BSF.pre : LD → Prop
 | [.V _, .L L, .Z _] => rising L ∧ L.length ≤ 1000000
 | _ => False
def BSF.post : LD → Prop
 | [.V _, .L L, .Z k, .I i, .B f] => placeOf L k i f
 | _ => False
def BSF.sig (g : FuncId) : Sig := { args := [.one (.lf (.sl (.at 0))), arr .u8 32 2, .one (.lf (.fn g))], heap := [.rsl (.at 0) eG (.at 1)], aA := [.V, .L, .Z], res := .tup [.lf (.int .i64 (.at 3)), .lf (.bool (.at 4))], heap' := [], news := [.I, .B], pre := BSF.pre, post := BSF.post }
def BSF.I0 : LD → Prop
 | [.V _, .L L, .Z k, .I i, .I j] => 0 ≤ i ∧ i ≤ j ∧ j ≤ L.length ∧ (∀ t : Nat, (t : Int) < i → cmpL (keyE (bJ L t)) k < 0) ∧ (∀ t : Nat, j ≤ (t : Int) → t < L.length → 0 ≤ cmpL (keyE (bJ L t)) k)
 | _ => False
def BSF.I0M : LD → Nat
 | [.V _, .L _, .Z _, .I i, .I j] => (j - i).toNat
 | _ => 0
def tbl (n : Nat) : List Ch := [.box (.at 0) [.lf (.sl (.at n))], .osl (.at n) eG (.at (n + 1))]
def nT.pre : LD → Prop
 | [.N _, .V _, .L L, .Z _] => rising L ∧ L.length ≤ 1000000
 | _ => False
def nT.post : LD → Prop
 | [.N _, .V _, .L L, .Z k, .I i, .B f] => placeOf L k i f
 | _ => False
def nT.sig : Sig := { args := [.one (.lf (.ptr (.at 0) 0)), arr .u8 32 3], heap := tbl 1, aA := [.N, .V, .L, .Z], res := .tup [.lf (.int .i64 (.at 4)), .lf (.bool (.at 5))], heap' := tbl 1, news := [.I, .B], pre := nT.pre, post := nT.post }
def pV.post : LD → Prop
 | [.N _, .V _, .L L, .I r] => r = L.length
 | _ => False
def pV.sig : Sig := { args := [.one (.lf (.ptr (.at 0) 0))], heap := tbl 1, aA := [.N, .V, .L], res := aI .i64 3, heap' := tbl 1, news := [.I], pre := tru, post := pV.post }
def fF (r : D) : LI := keyE r ++ gV (textE r)
def dH (L : LD) : LI := [79, 82, 68, 69, 65, 76, 84, 49] ++ dA L.length ++ L.flatMap fF
def lC (l : LI) : LI := l ++ iU l
def gG.pre : LD → Prop
 | [.N _, .V _, .L L] => L.length ≤ 900000 ∧ (dH L).length ≤ 900000
 | _ => False
def gG.post : LD → Prop
 | [.N _, .V _, .L L, .S r] => r = textOf (lC (dH L))
 | _ => False
def gG.sig : Sig := { args := [.one (.lf (.ptr (.at 0) 0))], heap := tbl 1, aA := [.N, .V, .L], res := aS 3, heap' := tbl 1, news := [.S], pre := gG.pre, post := gG.post }
def gG.I0 : LD → Prop
 | [.N _, .V _, .L L, .I i, .Z z] => 0 ≤ i ∧ i ≤ L.length ∧ z = [79, 82, 68, 69, 65, 76, 84, 49] ++ dA L.length ++ (L.take i.toNat).flatMap fF
 | _ => False
def gG.I0M : LD → Nat
 | [.N _, .V _, .L L, .I i, .Z _] => (L.length - i).toNat
 | _ => 0
def jW (s : BA) : LI := ((bytesOf s).take (32 : Int).toNat) ++ ((List.replicate (32 : Int).toNat (0 : Int)).drop (((bytesOf s).length : Nat) : Int).toNat)
def vV : BA := ⟨#[79, 82, 68, 69, 65, 76, 84, 49]⟩
def lZ (s : BA) (x : Int × Int × LD) : Int × Int × LD :=
 let r := aK s x.1 x.2.1 32
 let t := jM s r.1 r.2.1 4194304
 (t.1, if t.2.1 = 0 ∧ 0 < x.2.2.length ∧ 0 ≤ cmpL (keyE (bJ x.2.2 (x.2.2.length - 1))) (jW r.2.2) then 16 else t.2.1, x.2.2 ++ [sH (jW r.2.2) t.2.2])
def kD (s : BA) : Nat → Int × Int × LD → Int × Int × LD
 | 0, x => x
 | n + 1, x => if x.2.1 = 0 then kD s n (lZ s x) else x
def iG (s : BA) : Int × Int × Int :=
 let r := aK s 0 0 8
 rdNum s r.1 (if r.2.1 = 0 ∧ r.2.2 ≠ vV then 3 else r.2.1)
def lY (s : BA) : Int × Int × LD := kD s (iG s).2.2.toNat ((iG s).1, (iG s).2.1, [])
def kN (s : BA) : Int × LD := (mV s (lY s).1 (lY s).2.1, (lY s).2.2)
def dI (s : BA) : Int × LD :=
 if s.size < 40 then (2, []) else if textOf (iU (bytesOf (s.extract 0 (s.size - 32)))) ≠ s.extract (s.size - 32) s.size then (4, []) else kN (s.extract 0 (s.size - 32))
def cR7 (post dM pre : LD → Prop) : Sig :=
 { args := [aS 0], heap := [], aA := [.S], res := .tup [.lf .nilp, .lf (.int .i64 (.at 1))], heap' := [], news := [.I],
   alt := some (.tup [.lf (.ptr (.at 1) 0), .lf (.int .i64 (.int 0))], [.box (.at 1) [.lf (.sl (.at 2))], .osl (.at 2) eG (.at 3)], [.N, .V, .L]), pre := pre, post := post, dM := dM }
def aO.pre : LD → Prop
 | [.S s] => s.size ≤ 500000
 | _ => False
def aO.post : LD → Prop
 | [.S s, .I e] => e ≠ 0 ∧ e = (kN s).1
 | _ => False
def aO.dM : LD → Prop
 | [.S s, .N _, .V _, .L L] => (kN s).1 = 0 ∧ L = (kN s).2
 | _ => False
def aO.sig : Sig := cR7 aO.post aO.dM aO.pre
def aO.I0 : LD → Prop
 | [.S s, .I n, .S s', .I a, .I e, .L L] => s' = s ∧ 0 ≤ a ∧ a ≤ s.size ∧ 33 * L.length ≤ a + (if e = 0 then 0 else 33) ∧ kD s n.toNat (a, e, L) = lY s
 | _ => False
def aO.I0M : LD → Nat
 | [.S _, .I n, .S _, .I _, .I _, .L _] => n.toNat
 | _ => 0
def aO.T : St :=
 ⟨jk 4 ++ [.one (.lf (.ptr (.at 1) 0)), .one (.lf (.ptr (.at 2) 0)), .one (.lf (.int .u64 (.at 3)))] ++ jk 76,
  [.box (.at 1) [.lf (.str (.at 0)), .lf (.int .i64 (.at 4)), .lf (.int .i64 (.at 5))], .box (.at 2) [.lf (.sl (.at 6))], .osl (.at 6) [.ints .u8 32, .str] .lnil], [.S, .N, .N, .I, .I, .I, .V]⟩
def aO.J0 : LD → Prop
 | [.S s, .I n, .I a, .I e] => (a, e, n) = iG s
 | _ => False
def aO.J0M : LD → Nat := fun _ => 0
def kG.post : LD → Prop
 | [.S s, .I e] => e ≠ 0 ∧ e = (dI s).1
 | _ => False
def kG.dM : LD → Prop
 | [.S s, .N _, .V _, .L L] => (dI s).1 = 0 ∧ L = (dI s).2
 | _ => False
def kG.sig : Sig := cR7 kG.post kG.dM aO.pre
end Go.Vc
namespace Go.Vc
set_option linter.unusedVariables false
def nR.Pure : Prop :=
 ∀ z0 : LI,
 ∀ s1 : BA,
 ∀ z2 : LI,
 (z0.length = 32) →
 (∀ x ∈ z0, IntKind.has .u8 x) →
 ((s1.size : Int) ≤ 9223372036854775807) →
 (z2.length = 32) →
 (∀ x ∈ z2, IntKind.has .u8 x) →
 nR.sig.pre [.Z z0, .S s1, .Z z2] →
 ∀ n3 n4 : Nat,
 iH.sig.pre [.Z z0, .Z z2] ∧ (
 ∀ i5 : Int,
 iH.sig.post [.Z z0, .Z z2, .I i5] →
 R64 i5 →
 nR.sig.post [.Z z0, .S s1, .Z z2, .I i5])
def BSF.Pure : Prop :=
 ∀ v0 : Value,
 ∀ l1 : LD,
 ∀ z2 : LI,
 (z2.length = 32) →
 (∀ x ∈ z2, IntKind.has .u8 x) →
 (EK.ok [.ints .u8 32, .str] (D.L l1)) →
 (BSF.sig 0).pre [.V v0, .L l1, .Z z2] →
 ∀ n3 : Nat,
 BSF.I0 [.V v0, .L l1, .Z z2, .I 0, .I (l1.length : Int)] ∧ (
 ∀ i4 i5 : Int,
 R64 i4 →
 R64 i5 →
 BSF.I0 [.V v0, .L l1, .Z z2, .I i4, .I i5] →
 ((
 (i4 < i5) →
 Im (0 ≤ (wrap .i64 (aW .u64 (wrap .u64 (wrap .i64 (i4 + i5))) 1))) (
 Im ((wrap .i64 (aW .u64 (wrap .u64 (wrap .i64 (i4 + i5))) 1)) < (l1.length : Int)) (
  nR.sig.pre [(D.Z ((l1.getD (wrap .i64 (aW .u64 (wrap .u64 (wrap .i64 (i4 + i5))) 1)).toNat default).toL.getD (0 : Int).toNat default).aC), (D.S ((l1.getD (wrap .i64 (aW .u64 (wrap .u64 (wrap .i64 (i4 + i5))) 1)).toNat default).toL.getD (1 : Int).toNat default).toS), .Z z2] ∧ (
 ∀ i6 : Int,
  nR.sig.post [(D.Z ((l1.getD (wrap .i64 (aW .u64 (wrap .u64 (wrap .i64 (i4 + i5))) 1)).toNat default).toL.getD (0 : Int).toNat default).aC), (D.S ((l1.getD (wrap .i64 (aW .u64 (wrap .u64 (wrap .i64 (i4 + i5))) 1)).toNat default).toL.getD (1 : Int).toNat default).toS), .Z z2, .I i6] →
 R64 i6 →
 ((
 (i6 < 0) →
  Bk BSF.I0 BSF.I0M [.V v0, .L l1, .Z z2, .I (wrap .i64 ((wrap .i64 (aW .u64 (wrap .u64 (wrap .i64 (i4 + i5))) 1)) + 1)), .I i5] [.V v0, .L l1, .Z z2, .I i4, .I i5]) ∧ (
 (0 ≤ i6) →
  Bk BSF.I0 BSF.I0M [.V v0, .L l1, .Z z2, .I i4, .I (wrap .i64 (aW .u64 (wrap .u64 (wrap .i64 (i4 + i5))) 1))] [.V v0, .L l1, .Z z2, .I i4, .I i5])))))) ∧ (
 (i5 ≤ i4) →
 ((
 (i4 < (l1.length : Int)) →
 Im (0 ≤ i4) (
  nR.sig.pre [(D.Z ((l1.getD i4.toNat default).toL.getD (0 : Int).toNat default).aC), (D.S ((l1.getD i4.toNat default).toL.getD (1 : Int).toNat default).toS), .Z z2] ∧ (
 ∀ i6 : Int,
  nR.sig.post [(D.Z ((l1.getD i4.toNat default).toL.getD (0 : Int).toNat default).aC), (D.S ((l1.getD i4.toNat default).toL.getD (1 : Int).toNat default).toS), .Z z2, .I i6] →
 R64 i6 →
 (BSF.sig 0).post [.V v0, .L l1, .Z z2, .I i4, .B (i6 == 0)]))) ∧ (
 ((l1.length : Int) ≤ i4) →
 (BSF.sig 0).post [.V v0, .L l1, .Z z2, .I i4, .B false])))))
def nT.Pure : Prop :=
 ∀ n0 : Nat,
 ∀ v1 : Value,
 ∀ l2 : LD,
 ∀ z3 : LI,
 (z3.length = 32) →
 (∀ x ∈ z3, IntKind.has .u8 x) →
 (EK.ok [.ints .u8 32, .str] (D.L l2)) →
 nT.sig.pre [.N n0, .V v1, .L l2, .Z z3] →
 ∀ n4 : Nat,
 (BSF.sig 0).pre [.V v1, .L l2, .Z z3] ∧ (
 ∀ i5 : Int,
 ∀ b6 : Bool,
 (BSF.sig 0).post [.V v1, .L l2, .Z z3, .I i5, .B b6] →
 R64 i5 →
 nT.sig.post [.N n0, .V v1, .L l2, .Z z3, .I i5, .B b6])
def pV.Pure : Prop :=
 ∀ n0 : Nat,
 ∀ v1 : Value,
 ∀ l2 : LD,
 (EK.ok [.ints .u8 32, .str] (D.L l2)) →
 pV.sig.pre [.N n0, .V v1, .L l2] →
 pV.sig.post [.N n0, .V v1, .L l2, .I (l2.length : Int)]
def gG.Pure : Prop :=
 ∀ n0 : Nat,
 ∀ v1 : Value,
 ∀ l2 : LD,
 (EK.ok [.ints .u8 32, .str] (D.L l2)) →
 gG.sig.pre [.N n0, .V v1, .L l2] →
 ∀ v3 : Value,
 ∀ n4 : Nat,
 mF.sig.pre [.N n4, .V v3, .Z ([] : LI), .S (⟨#[79, 82, 68, 69, 65, 76, 84, 49]⟩ : BA)] ∧ (
 ∀ v5 : Value,
 ∀ z6 : LI,
 mF.sig.post [.N n4, .V v3, .Z ([] : LI), .S (⟨#[79, 82, 68, 69, 65, 76, 84, 49]⟩ : BA), .V v5, .Z z6] →
 (∀ x ∈ z6, IntKind.has .u8 x) →
 kT.sig.pre [.N n4, .V v5, .Z z6, .I (wrap .u64 (l2.length : Int))] ∧ (
 ∀ v7 : Value,
 ∀ z8 : LI,
 kT.sig.post [.N n4, .V v5, .Z z6, .I (wrap .u64 (l2.length : Int)), .V v7, .Z z8] →
 (∀ x ∈ z8, IntKind.has .u8 x) →
 gG.I0 [.N n0, .V v1, .L l2, .I 0, .Z z8] ∧ (
 ∀ i9 : Int,
 ∀ v10 : Value,
 ∀ z11 : LI,
 R64 i9 →
 (∀ x ∈ z11, IntKind.has .u8 x) →
 gG.I0 [.N n0, .V v1, .L l2, .I i9, .Z z11] →
 ((
 (i9 < (l2.length : Int)) →
 Im (0 ≤ i9) (
 ∀ n12 : Nat,
  mF.sig.pre [.N n4, .V v10, .Z z11, .S (textOf ((l2.getD i9.toNat default).toL.getD (0 : Int).toNat default).aC)] ∧ (
 ∀ v13 : Value,
 ∀ z14 : LI,
  mF.sig.post [.N n4, .V v10, .Z z11, .S (textOf ((l2.getD i9.toNat default).toL.getD (0 : Int).toNat default).aC), .V v13, .Z z14] →
 (∀ x ∈ z14, IntKind.has .u8 x) →
  nD.sig.pre [.N n4, .V v13, .Z z14, (D.S ((l2.getD i9.toNat default).toL.getD (1 : Int).toNat default).toS)] ∧ (
 ∀ v15 : Value,
 ∀ z16 : LI,
  nD.sig.post [.N n4, .V v13, .Z z14, (D.S ((l2.getD i9.toNat default).toL.getD (1 : Int).toNat default).toS), .V v15, .Z z16] →
 (∀ x ∈ z16, IntKind.has .u8 x) →
  Bk gG.I0 gG.I0M [.N n0, .V v1, .L l2, .I (wrap .i64 (i9 + 1)), .Z z16] [.N n0, .V v1, .L l2, .I i9, .Z z11])))) ∧ (
 ((l2.length : Int) ≤ i9) →
  nU.sig.pre [.N n4, .V v10, .Z z11] ∧ (
 ∀ s12 : BA,
  nU.sig.post [.N n4, .V v10, .Z z11, .S s12] →
 ((s12.size : Int) ≤ 9223372036854775807) →
  HOf.sig.pre [.S s12] ∧ (
 ∀ z13 : LI,
  HOf.sig.post [.S s12, .Z z13] →
 (z13.length = 32) →
 (∀ x ∈ z13, IntKind.has .u8 x) →
 ∀ n14 : Nat,
  mF.sig.pre [.N n4, .V v10, .Z z11, .S (textOf z13)] ∧ (
 ∀ v15 : Value,
 ∀ z16 : LI,
  mF.sig.post [.N n4, .V v10, .Z z11, .S (textOf z13), .V v15, .Z z16] →
 (∀ x ∈ z16, IntKind.has .u8 x) →
  nU.sig.pre [.N n4, .V v15, .Z z16] ∧ (
 ∀ s17 : BA,
  nU.sig.post [.N n4, .V v15, .Z z16, .S s17] →
 ((s17.size : Int) ≤ 9223372036854775807) →
  gG.sig.post [.N n0, .V v1, .L l2, .S s17])))))))))
def aO.K0 (n1 : Nat) (s8 : BA) (i9 : Int) (i10 : Int) (l12 : LD) (s0 : BA) (i7 : Int) : Prop :=
 (
   eH.sig.pre [.N n1, .S s8, .I i9, .I i10, .I 32] ∧ (
 ∀ i14 i15 : Int,
 ∀ s16 : BA,
   eH.sig.post [.N n1, .S s8, .I i9, .I i10, .I 32, .I i14, .I i15, .S s16] →
 ((s16.size : Int) ≤ 9223372036854775807) →
 R64 i14 →
 R64 i15 →
   kE.sig.pre [.N n1, .S s8, .I i14, .I i15, .I 4194304] ∧ (
 ∀ i17 i18 : Int,
 ∀ s19 : BA,
   kE.sig.post [.N n1, .S s8, .I i14, .I i15, .I 4194304, .I i17, .I i18, .S s19] →
 ((s19.size : Int) ≤ 9223372036854775807) →
 R64 i17 →
 R64 i18 →
   pR.sig.pre [.N n1, .S s8, .I i17, .I i18] ∧ (
   pR.sig.post [.N n1, .S s8, .I i17, .I i18] →
 ((
 (i18 = 0) →
 ((
 (0 < (l12.length : Int)) →
 Im ((0 : Int) ≤ (wrap .i64 ((l12.length : Int) - (1 : Int)))) (
 Im ((wrap .i64 ((l12.length : Int) - (1 : Int))) < (l12.length : Int)) (
    iH.sig.pre [(D.Z ((l12.getD (wrap .i64 ((l12.length : Int) - (1 : Int))).toNat default).toL.getD (0 : Int).toNat default).aC), .Z (((bytesOf s16).take (32 : Int).toNat) ++ ((List.replicate (32 : Int).toNat (0 : Int)).drop ((bytesOf s16).length : Int).toNat))] ∧ (
 ∀ i20 : Int,
    iH.sig.post [(D.Z ((l12.getD (wrap .i64 ((l12.length : Int) - (1 : Int))).toNat default).toL.getD (0 : Int).toNat default).aC), .Z (((bytesOf s16).take (32 : Int).toNat) ++ ((List.replicate (32 : Int).toNat (0 : Int)).drop ((bytesOf s16).length : Int).toNat)), .I i20] →
 R64 i20 →
 ((
 (0 ≤ i20) →
    kR.sig.pre [.N n1, .S s8, .I i17, .I i18, .I 16] ∧ (
 ∀ i21 i22 : Int,
    kR.sig.post [.N n1, .S s8, .I i17, .I i18, .I 16, .I i21, .I i22] →
 R64 i21 →
 R64 i22 →
 ((
 ∀ v23 : Value,
 Im (((l12 ++ ((D.L ((D.Z (((bytesOf s16).take (32 : Int).toNat) ++ ((List.replicate (32 : Int).toNat (0 : Int)).drop ((bytesOf s16).length : Int).toNat))) :: ((D.S s19) :: ([] : LD)))) :: ([] : LD))).length : Int) ≤ (2932031007402 : Int)) (
 ∀ v24 : Value,
     Bk aO.I0 aO.I0M [.S s0, .I (wrap .u64 (i7 - 1)), .S s8, .I i21, .I i22, .L (l12 ++ ((D.L ((D.Z (((bytesOf s16).take (32 : Int).toNat) ++ ((List.replicate (32 : Int).toNat (0 : Int)).drop ((bytesOf s16).length : Int).toNat))) :: ((D.S s19) :: ([] : LD)))) :: ([] : LD)))] [.S s0, .I i7, .S s8, .I i9, .I i10, .L l12])) ∧ (
 ((
 ∀ v23 : Value,
 Im (((l12 ++ ((D.L ((D.Z (((bytesOf s16).take (32 : Int).toNat) ++ ((List.replicate (32 : Int).toNat (0 : Int)).drop ((bytesOf s16).length : Int).toNat))) :: ((D.S s19) :: ([] : LD)))) :: ([] : LD))).length : Int) ≤ (2932031007402 : Int)) (
 ∀ v24 : Value,
     Bk aO.I0 aO.I0M [.S s0, .I (wrap .u64 (i7 - 1)), .S s8, .I i21, .I i22, .L (l12 ++ ((D.L ((D.Z (((bytesOf s16).take (32 : Int).toNat) ++ ((List.replicate (32 : Int).toNat (0 : Int)).drop ((bytesOf s16).length : Int).toNat))) :: ((D.S s19) :: ([] : LD)))) :: ([] : LD)))] [.S s0, .I i7, .S s8, .I i9, .I i10, .L l12])) ∧ (
 ∀ v23 : Value,
 Im (((l12 ++ ((D.L ((D.Z (((bytesOf s16).take (32 : Int).toNat) ++ ((List.replicate (32 : Int).toNat (0 : Int)).drop ((bytesOf s16).length : Int).toNat))) :: ((D.S s19) :: ([] : LD)))) :: ([] : LD))).length : Int) ≤ (2932031007402 : Int)) (
 ∀ v24 : Value,
     Bk aO.I0 aO.I0M [.S s0, .I (wrap .u64 (i7 - 1)), .S s8, .I i21, .I i22, .L (l12 ++ ((D.L ((D.Z (((bytesOf s16).take (32 : Int).toNat) ++ ((List.replicate (32 : Int).toNat (0 : Int)).drop ((bytesOf s16).length : Int).toNat))) :: ((D.S s19) :: ([] : LD)))) :: ([] : LD)))] [.S s0, .I i7, .S s8, .I i9, .I i10, .L l12]))))))) ∧ (
 (i20 < 0) →
 ((
 ∀ v21 : Value,
 Im (((l12 ++ ((D.L ((D.Z (((bytesOf s16).take (32 : Int).toNat) ++ ((List.replicate (32 : Int).toNat (0 : Int)).drop ((bytesOf s16).length : Int).toNat))) :: ((D.S s19) :: ([] : LD)))) :: ([] : LD))).length : Int) ≤ (2932031007402 : Int)) (
 ∀ v22 : Value,
     Bk aO.I0 aO.I0M [.S s0, .I (wrap .u64 (i7 - 1)), .S s8, .I i17, .I i18, .L (l12 ++ ((D.L ((D.Z (((bytesOf s16).take (32 : Int).toNat) ++ ((List.replicate (32 : Int).toNat (0 : Int)).drop ((bytesOf s16).length : Int).toNat))) :: ((D.S s19) :: ([] : LD)))) :: ([] : LD)))] [.S s0, .I i7, .S s8, .I i9, .I i10, .L l12])) ∧ (
 ((
 ∀ v21 : Value,
 Im (((l12 ++ ((D.L ((D.Z (((bytesOf s16).take (32 : Int).toNat) ++ ((List.replicate (32 : Int).toNat (0 : Int)).drop ((bytesOf s16).length : Int).toNat))) :: ((D.S s19) :: ([] : LD)))) :: ([] : LD))).length : Int) ≤ (2932031007402 : Int)) (
 ∀ v22 : Value,
     Bk aO.I0 aO.I0M [.S s0, .I (wrap .u64 (i7 - 1)), .S s8, .I i17, .I i18, .L (l12 ++ ((D.L ((D.Z (((bytesOf s16).take (32 : Int).toNat) ++ ((List.replicate (32 : Int).toNat (0 : Int)).drop ((bytesOf s16).length : Int).toNat))) :: ((D.S s19) :: ([] : LD)))) :: ([] : LD)))] [.S s0, .I i7, .S s8, .I i9, .I i10, .L l12])) ∧ (
 ∀ v21 : Value,
 Im (((l12 ++ ((D.L ((D.Z (((bytesOf s16).take (32 : Int).toNat) ++ ((List.replicate (32 : Int).toNat (0 : Int)).drop ((bytesOf s16).length : Int).toNat))) :: ((D.S s19) :: ([] : LD)))) :: ([] : LD))).length : Int) ≤ (2932031007402 : Int)) (
 ∀ v22 : Value,
     Bk aO.I0 aO.I0M [.S s0, .I (wrap .u64 (i7 - 1)), .S s8, .I i17, .I i18, .L (l12 ++ ((D.L ((D.Z (((bytesOf s16).take (32 : Int).toNat) ++ ((List.replicate (32 : Int).toNat (0 : Int)).drop ((bytesOf s16).length : Int).toNat))) :: ((D.S s19) :: ([] : LD)))) :: ([] : LD)))] [.S s0, .I i7, .S s8, .I i9, .I i10, .L l12]))))))))))) ∧ (
 ((l12.length : Int) ≤ (0 : Int)) →
 ((
 ∀ v20 : Value,
 Im (((l12 ++ ((D.L ((D.Z (((bytesOf s16).take (32 : Int).toNat) ++ ((List.replicate (32 : Int).toNat (0 : Int)).drop ((bytesOf s16).length : Int).toNat))) :: ((D.S s19) :: ([] : LD)))) :: ([] : LD))).length : Int) ≤ (2932031007402 : Int)) (
 ∀ v21 : Value,
    Bk aO.I0 aO.I0M [.S s0, .I (wrap .u64 (i7 - 1)), .S s8, .I i17, .I i18, .L (l12 ++ ((D.L ((D.Z (((bytesOf s16).take (32 : Int).toNat) ++ ((List.replicate (32 : Int).toNat (0 : Int)).drop ((bytesOf s16).length : Int).toNat))) :: ((D.S s19) :: ([] : LD)))) :: ([] : LD)))] [.S s0, .I i7, .S s8, .I i9, .I i10, .L l12])) ∧ (
 ((
 ∀ v20 : Value,
 Im (((l12 ++ ((D.L ((D.Z (((bytesOf s16).take (32 : Int).toNat) ++ ((List.replicate (32 : Int).toNat (0 : Int)).drop ((bytesOf s16).length : Int).toNat))) :: ((D.S s19) :: ([] : LD)))) :: ([] : LD))).length : Int) ≤ (2932031007402 : Int)) (
 ∀ v21 : Value,
     Bk aO.I0 aO.I0M [.S s0, .I (wrap .u64 (i7 - 1)), .S s8, .I i17, .I i18, .L (l12 ++ ((D.L ((D.Z (((bytesOf s16).take (32 : Int).toNat) ++ ((List.replicate (32 : Int).toNat (0 : Int)).drop ((bytesOf s16).length : Int).toNat))) :: ((D.S s19) :: ([] : LD)))) :: ([] : LD)))] [.S s0, .I i7, .S s8, .I i9, .I i10, .L l12])) ∧ (
 ∀ v20 : Value,
 Im (((l12 ++ ((D.L ((D.Z (((bytesOf s16).take (32 : Int).toNat) ++ ((List.replicate (32 : Int).toNat (0 : Int)).drop ((bytesOf s16).length : Int).toNat))) :: ((D.S s19) :: ([] : LD)))) :: ([] : LD))).length : Int) ≤ (2932031007402 : Int)) (
 ∀ v21 : Value,
     Bk aO.I0 aO.I0M [.S s0, .I (wrap .u64 (i7 - 1)), .S s8, .I i17, .I i18, .L (l12 ++ ((D.L ((D.Z (((bytesOf s16).take (32 : Int).toNat) ++ ((List.replicate (32 : Int).toNat (0 : Int)).drop ((bytesOf s16).length : Int).toNat))) :: ((D.S s19) :: ([] : LD)))) :: ([] : LD)))] [.S s0, .I i7, .S s8, .I i9, .I i10, .L l12])))))))) ∧ (
 (i18 ≠ 0) →
 ((
 ∀ v20 : Value,
 Im (((l12 ++ ((D.L ((D.Z (((bytesOf s16).take (32 : Int).toNat) ++ ((List.replicate (32 : Int).toNat (0 : Int)).drop ((bytesOf s16).length : Int).toNat))) :: ((D.S s19) :: ([] : LD)))) :: ([] : LD))).length : Int) ≤ (2932031007402 : Int)) (
 ∀ v21 : Value,
    Bk aO.I0 aO.I0M [.S s0, .I (wrap .u64 (i7 - 1)), .S s8, .I i17, .I i18, .L (l12 ++ ((D.L ((D.Z (((bytesOf s16).take (32 : Int).toNat) ++ ((List.replicate (32 : Int).toNat (0 : Int)).drop ((bytesOf s16).length : Int).toNat))) :: ((D.S s19) :: ([] : LD)))) :: ([] : LD)))] [.S s0, .I i7, .S s8, .I i9, .I i10, .L l12])) ∧ (
 ((
 ∀ v20 : Value,
 Im (((l12 ++ ((D.L ((D.Z (((bytesOf s16).take (32 : Int).toNat) ++ ((List.replicate (32 : Int).toNat (0 : Int)).drop ((bytesOf s16).length : Int).toNat))) :: ((D.S s19) :: ([] : LD)))) :: ([] : LD))).length : Int) ≤ (2932031007402 : Int)) (
 ∀ v21 : Value,
    Bk aO.I0 aO.I0M [.S s0, .I (wrap .u64 (i7 - 1)), .S s8, .I i17, .I i18, .L (l12 ++ ((D.L ((D.Z (((bytesOf s16).take (32 : Int).toNat) ++ ((List.replicate (32 : Int).toNat (0 : Int)).drop ((bytesOf s16).length : Int).toNat))) :: ((D.S s19) :: ([] : LD)))) :: ([] : LD)))] [.S s0, .I i7, .S s8, .I i9, .I i10, .L l12])) ∧ (
 ∀ v20 : Value,
 Im (((l12 ++ ((D.L ((D.Z (((bytesOf s16).take (32 : Int).toNat) ++ ((List.replicate (32 : Int).toNat (0 : Int)).drop ((bytesOf s16).length : Int).toNat))) :: ((D.S s19) :: ([] : LD)))) :: ([] : LD))).length : Int) ≤ (2932031007402 : Int)) (
 ∀ v21 : Value,
    Bk aO.I0 aO.I0M [.S s0, .I (wrap .u64 (i7 - 1)), .S s8, .I i17, .I i18, .L (l12 ++ ((D.L ((D.Z (((bytesOf s16).take (32 : Int).toNat) ++ ((List.replicate (32 : Int).toNat (0 : Int)).drop ((bytesOf s16).length : Int).toNat))) :: ((D.S s19) :: ([] : LD)))) :: ([] : LD)))] [.S s0, .I i7, .S s8, .I i9, .I i10, .L l12])))))))))))
def aO.K1 (s0 : BA) : Prop :=
 (
 (
 ∀ n1 n2 : Nat,
 ∀ i3 i4 i5 : Int,
 ∀ v6 : Value,
 U64 i3 →
 R64 i4 →
 R64 i5 →
  aO.J0 [.S s0, .I i3, .I i4, .I i5] →
  aO.I0 [.S s0, .I i3, .S s0, .I i4, .I i5, .L ([] : LD)] ∧ (
 ∀ i7 : Int,
 ∀ s8 : BA,
 ∀ i9 i10 : Int,
 ∀ v11 : Value,
 ∀ l12 : LD,
 U64 i7 →
 ((s8.size : Int) ≤ 9223372036854775807) →
 R64 i9 →
 R64 i10 →
 (EK.ok [.ints .u8 32, .str] (D.L l12)) →
  aO.I0 [.S s0, .I i7, .S s8, .I i9, .I i10, .L l12] →
 ((
 (0 < i7) →
  pR.sig.pre [.N n1, .S s8, .I i9, .I i10] ∧ (
  pR.sig.post [.N n1, .S s8, .I i9, .I i10] →
 ((
 (i10 = 0) →
 ∀ n13 : Nat,
 ((aO.K0 n1 s8 i9 i10 l12 s0 i7) ∧ (aO.K0 n1 s8 i9 i10 l12 s0 i7))) ∧ (
 (i10 ≠ 0) →
  lD.sig.pre [.N n1, .S s8, .I i9, .I i10] ∧ (
 ∀ i13 i14 i15 : Int,
  lD.sig.post [.N n1, .S s8, .I i9, .I i10, .I i13, .I i14, .I i15] →
 R64 i15 →
 R64 i13 →
 R64 i14 →
 ((
 (i15 ≠ 0) →
   aO.sig.post [.S s0, .I i15]) ∧ (
 (i15 = 0) →
   aO.sig.dM [.S s0, .N n2, .V v11, .L l12] ∧ (
   True)))))))) ∧ (
 (i7 ≤ 0) →
  lD.sig.pre [.N n1, .S s8, .I i9, .I i10] ∧ (
 ∀ i13 i14 i15 : Int,
  lD.sig.post [.N n1, .S s8, .I i9, .I i10, .I i13, .I i14, .I i15] →
 R64 i15 →
 R64 i13 →
 R64 i14 →
 ((
 (i15 ≠ 0) →
  aO.sig.post [.S s0, .I i15]) ∧ (
 (i15 = 0) →
  aO.sig.dM [.S s0, .N n2, .V v11, .L l12] ∧ (
  True)))))))))
def aO.Pure : Prop :=
 ∀ s0 : BA,
 ((s0.size : Int) ≤ 9223372036854775807) →
 aO.sig.pre [.S s0] →
 sQ.sig.pre [.S s0] ∧ (
 ∀ n1 : Nat,
 sQ.sig.post [.S s0, .N n1] →
 eH.sig.pre [.N n1, .S s0, .I 0, .I 0, .I 8] ∧ (
 ∀ i2 i3 : Int,
 ∀ s4 : BA,
 eH.sig.post [.N n1, .S s0, .I 0, .I 0, .I 8, .I i2, .I i3, .S s4] →
 ((s4.size : Int) ≤ 9223372036854775807) →
 R64 i2 →
 R64 i3 →
 ((
 (s4 ≠ (⟨#[79, 82, 68, 69, 65, 76, 84, 49]⟩ : BA)) →
  kR.sig.pre [.N n1, .S s0, .I i2, .I i3, .I 3] ∧ (
 ∀ i5 i6 : Int,
  kR.sig.post [.N n1, .S s0, .I i2, .I i3, .I 3, .I i5, .I i6] →
 R64 i5 →
 R64 i6 →
 ∀ v7 : Value,
 ∀ n8 : Nat,
  gW.sig.pre [.N n1, .S s0, .I i5, .I i6] ∧ (
 ∀ i9 i10 i11 : Int,
  gW.sig.post [.N n1, .S s0, .I i5, .I i6, .I i9, .I i10, .I i11] →
 U64 i11 →
 R64 i9 →
 R64 i10 →
  aO.J0 [.S s0, .I i11, .I i9, .I i10] ∧ (aO.K1 s0)))) ∧ (
 (s4 = (⟨#[79, 82, 68, 69, 65, 76, 84, 49]⟩ : BA)) →
 ∀ v5 : Value,
 ∀ n6 : Nat,
  gW.sig.pre [.N n1, .S s0, .I i2, .I i3] ∧ (
 ∀ i7 i8 i9 : Int,
  gW.sig.post [.N n1, .S s0, .I i2, .I i3, .I i7, .I i8, .I i9] →
 U64 i9 →
 R64 i7 →
 R64 i8 →
  aO.J0 [.S s0, .I i9, .I i7, .I i8] ∧ (aO.K1 s0))))))
def kG.Pure : Prop :=
 ∀ s0 : BA,
 ((s0.size : Int) ≤ 9223372036854775807) →
 kG.sig.pre [.S s0] →
 ((
 ((wrap .i64 ((s0.size : Int) - (32 : Int))) < (8 : Int)) →
  kG.sig.post [.S s0, .I 2]) ∧ (
 ((8 : Int) ≤ (wrap .i64 ((s0.size : Int) - (32 : Int)))) →
 Im ((0 : Int) ≤ (wrap .i64 ((s0.size : Int) - (32 : Int)))) (
 Im ((wrap .i64 ((s0.size : Int) - (32 : Int))) ≤ (s0.size : Int)) (
  HOf.sig.pre [.S (s0.extract (0 : Int).toNat (wrap .i64 ((s0.size : Int) - (32 : Int))).toNat)] ∧ (
 ∀ z1 : LI,
  HOf.sig.post [.S (s0.extract (0 : Int).toNat (wrap .i64 ((s0.size : Int) - (32 : Int))).toNat), .Z z1] →
 (z1.length = 32) →
 (∀ x ∈ z1, IntKind.has .u8 x) →
 ∀ n2 : Nat,
 ((
 ((textOf z1) ≠ (s0.extract (wrap .i64 ((s0.size : Int) - (32 : Int))).toNat (s0.size : Int).toNat)) →
   kG.sig.post [.S s0, .I 4]) ∧ (
 ((textOf z1) = (s0.extract (wrap .i64 ((s0.size : Int) - (32 : Int))).toNat (s0.size : Int).toNat)) →
 ((
  aO.sig.pre [.S (s0.extract (0 : Int).toNat (wrap .i64 ((s0.size : Int) - (32 : Int))).toNat)] ∧ (
 ∀ i3 : Int,
  aO.sig.post [.S (s0.extract (0 : Int).toNat (wrap .i64 ((s0.size : Int) - (32 : Int))).toNat), .I i3] →
 R64 i3 →
  kG.sig.post [.S s0, .I i3])) ∧ (
  aO.sig.pre [.S (s0.extract (0 : Int).toNat (wrap .i64 ((s0.size : Int) - (32 : Int))).toNat)] ∧ (
 ∀ n3 : Nat,
 ∀ v4 : Value,
 ∀ l5 : LD,
  aO.sig.dM [.S (s0.extract (0 : Int).toNat (wrap .i64 ((s0.size : Int) - (32 : Int))).toNat), .N n3, .V v4, .L l5] →
 (EK.ok [.ints .u8 32, .str] (D.L l5)) →
  kG.sig.dM [.S s0, .N n3, .V v4, .L l5] ∧ (
  True)))))))))))
end Go.Vc
namespace Go.Vc
theorem cN1 {l : LD} (h : EK.ok [.ints .u8 32, .str] (.L l)) {d : D} (hd : d ∈ l) : ∃ k s, d.toL = [k, s] ∧ k.aC.length = 32 ∧ (∀ x ∈ k.aC, 0 ≤ x ∧ x < 256) ∧ (s.toS.size : Int) ≤ fG := by
 have h1 : ∀ r ∈ l, kW [.ints .u8 32, .str] r.toL := h
 have h3 := h1 _ hd
 generalize d.toL = r at h3 ⊢
 match r, h3 with
 | [k, s], h3 =>
  obtain ⟨h4, h5, _⟩ := h3
  exact ⟨k, s, rfl, h4.1, fun x hx => qJ.1 (h4.2 x hx), h5⟩
theorem xY {l : LD} {i : Nat} (hi : i < l.length) : bJ l i ∈ l := by
 simp only [bJ, List.getD, List.getElem?_eq_getElem hi, Option.getD_some]
 exact List.getElem_mem _
theorem key_ok {l : LD} (h : EK.ok [.ints .u8 32, .str] (.L l)) {d : D} (hd : d ∈ l) : (keyE d).length = 32 ∧ (∀ x ∈ keyE d, 0 ≤ x ∧ x < 256) := by
 obtain ⟨k, s, e, h1, h2, _⟩ := cN1 h hd
 rw [keyE, e]; exact ⟨h1, h2⟩
theorem aO3 : ∀ {a b c : LI}, a.length = b.length → b.length = c.length → cmpL a b < 0 → cmpL b c ≤ 0 → cmpL a c < 0
 | [], [], [], _, _, h, _ => by simp [cmpL] at h
 | x :: a, y :: b, z :: c, h1, h2, h, h' => by
  simp only [cmpL] at h h' ⊢
  have h1 : a.length = b.length := by simpa using h1
  have h2 : b.length = c.length := by simpa using h2
  split at h
  ·split at h'
   ·rw [if_pos (by omega)]; omega
   ·split at h'
    ·omega
    ·rw [if_pos (by omega)]; omega
  ·split at h
   ·omega
   ·split at h'
    ·rw [if_pos (by omega)]; omega
    ·split at h'
     ·omega
     ·rw [if_neg (by omega), if_neg (by omega)]
      exact aO3 h1 h2 h h'
theorem aO2 : ∀ {a b : LI}, a.length = b.length → cmpL a b = - cmpL b a
 | [], [], _ => by simp [cmpL]
 | x :: a, y :: b, h => by
  simp only [cmpL]
  have h : a.length = b.length := by simpa using h
  by_cases h1 : x < y
  ·rw [if_pos h1, if_neg (by omega), if_pos h1]
  ·by_cases h2 : x > y
   ·rw [if_neg h1, if_pos h2, if_pos h2]; rfl
   ·rw [if_neg h1, if_neg h2, if_neg h2, if_neg h1]
    exact aO2 h
theorem cmp_eq : ∀ {a b : LI}, a.length = b.length → (cmpL a b = 0 ↔ a = b)
 | [], [], _ => by simp [cmpL]
 | x :: a, y :: b, h => by
  simp only [cmpL]
  have h : a.length = b.length := by simpa using h
  by_cases h1 : x < y
  ·rw [if_pos h1]; simp; omega
  ·by_cases h2 : x > y
   ·rw [if_neg h1, if_pos h2]; simp; omega
   ·rw [if_neg h1, if_neg h2, cmp_eq h, show x = y from by omega]; simp
theorem half {i j : Int} (h : 0 ≤ i) (h' : i < j) (h2 : j ≤ 1000000) : wrap .i64 (aW .u64 (wrap .u64 (wrap .i64 (i + j))) (1 : Int)) = (i + j) / 2 := by
 have e0 : wrap .i64 (i + j) = i + j := aH (by omega) (by omega)
 have e1 : wrap .u64 (i + j) = i + j := eY (by omega) (by omega)
 have e : aW .u64 (i + j) 1 = (i + j) / 2 := by
  show (i + j).fdiv 2 = (i + j) / 2
  exact Int.fdiv_eq_ediv_of_nonneg _ (by decide)
 rw [e0, e1, e, aH (by omega) (by omega)]
theorem BSF.pure : BSF.Pure := by
 intro v0 l1 z2 h1 h2 h3 h4 n3
 have h4 : rising l1 ∧ l1.length ≤ 1000000 := h4
 have hk : ∀ i : Nat, i < l1.length → (keyE (bJ l1 i)).length = z2.length := fun i hi => by rw [(key_ok h3 (xY hi)).1, h1]
 have anti : ∀ a b : LI, a.length = b.length → cmpL a b = - cmpL b a := fun a b h => aO2 h
 refine ⟨?_, ?_⟩
 ·exact ⟨by omega, by omega, by omega, fun t ht => by omega, fun t ht ht' => by omega⟩
 intro i4 i5 h5 h6 h7
 obtain ⟨a1, a2, a3, a4, a5⟩ : 0 ≤ i4 ∧ i4 ≤ i5 ∧ i5 ≤ l1.length ∧ (∀ t : Nat, (t : Int) < i4 → cmpL (keyE (bJ l1 t)) z2 < 0) ∧ (∀ t : Nat, i5 ≤ (t : Int) → t < l1.length → 0 ≤ cmpL (keyE (bJ l1 t)) z2) := h7
 refine ⟨?_, ?_⟩
 ·intro h8
  rw [half a1 h8 (by omega)]
  refine ⟨by omega, fun h9 => ?_⟩
  refine ⟨by omega, fun h10 => ?_⟩
  refine ⟨trivial, ?_⟩
  intro i6 h11 h12
  have h11 : i6 = cmpL (keyE (bJ l1 ((i4 + i5) / 2).toNat)) z2 := h11
  refine ⟨?_, ?_⟩
  ·intro h13
   rw [aH (by omega) (by omega)]
   refine ⟨⟨by omega, by omega, by omega, fun t ht => ?_, a5⟩, ?_⟩
   ·by_cases ht2 : t = ((i4 + i5) / 2).toNat
    ·subst ht2; omega
    ·have hl := h4.1 t ((i4 + i5) / 2).toNat (by omega) (by omega)
     exact aO3 (by rw [hk t (by omega), hk _ (by omega)]) (hk _ (by omega)) hl (by omega)
   ·show (i5 - ((i4 + i5) / 2 + 1)).toNat < (i5 - i4).toNat
    omega
  ·intro h13
   refine ⟨⟨by omega, by omega, by omega, a4, fun t ht ht' => ?_⟩, ?_⟩
   ·by_cases ht2 : t = ((i4 + i5) / 2).toNat
    ·subst ht2; omega
    ·have hl := h4.1 ((i4 + i5) / 2).toNat t (by omega) (by omega)
     have e1 := anti (keyE (bJ l1 t)) z2 (hk t ht')
     have e2 := anti (keyE (bJ l1 ((i4 + i5) / 2).toNat)) z2 (hk _ (by omega))
     by_cases hc : cmpL (keyE (bJ l1 t)) z2 < 0
     ·have := aO3 (by rw [hk t (by omega), hk _ (by omega)]) (hk _ (by omega)) hl (Int.le_of_lt hc)
      omega
     ·omega
   ·show ((i4 + i5) / 2 - i4).toNat < (i5 - i4).toNat
    omega
 ·intro h8
  refine ⟨?_, ?_⟩
  ·intro h9
   refine ⟨a1, fun h10 => ?_⟩
   refine ⟨trivial, ?_⟩
   intro i6 h11 h12
   have h11 : i6 = cmpL (keyE (bJ l1 i4.toNat)) z2 := h11
   refine ⟨a1, by omega, a4, fun t ht ht' => a5 t (by omega) ht', ?_⟩
   rw [h11]
   simp [h9]
   try rfl
  ·intro h9
   refine ⟨a1, by omega, a4, fun t ht ht' => by omega, ?_⟩
   simp [Int.not_lt.2 h9]
theorem nR.pure : nR.Pure := by
 intro z0 s1 z2 h1 h2 h3 h4 h5 h6 n3 n4
 exact ⟨trivial, fun i5 h7 h8 => h7⟩
theorem nT.pure : nT.Pure := by
 intro n0 v1 l2 z3 h1 h2 h3 h4 n4
 exact ⟨h4, fun i5 b6 h5 h6 => h5⟩
theorem pV.pure : pV.Pure := by
 intro n0 v1 l2
 intros
 rfl
theorem dC5 {l : LD} {i : Nat} (hi : i < l.length) : (l.take (i + 1)).flatMap fF = (l.take i).flatMap fF ++ fF (bJ l i) := by
 have e : l.take (i + 1) = l.take i ++ [bJ l i] := by
  rw [List.take_add_one]
  simp [bJ, List.getD, List.getElem?_eq_getElem hi]
 rw [e, List.flatMap_append]; simp
theorem bX5 (l : LD) (i : Nat) : ((l.take i).flatMap fF).length ≤ (l.flatMap fF).length := by
 have : l.flatMap fF = (l.take i).flatMap fF ++ (l.drop i).flatMap fF := by rw [← List.flatMap_append, List.take_append_drop]
 rw [this, List.length_append]; omega
theorem gG.pure : gG.Pure := by
 intro n0 v1 l2 h1 h2 v3 n4
 obtain ⟨q1, q2⟩ : l2.length ≤ 900000 ∧ (dH l2).length ≤ 900000 := h2
 have hu : wrap .u64 ((l2.length : Nat) : Int) = l2.length := eY (by omega) (by omega)
 rw [hu]
 have ql : 8 + (dA l2.length).length + (l2.flatMap fF).length ≤ 900000 := by
  rw [dH, List.length_append, List.length_append] at q2
  exact q2
 refine ⟨⟨by simp, by decide⟩, ?_⟩
 intro v5 z6 h3 h4
 have h3 : z6 = [] ++ bytesOf ⟨#[79, 82, 68, 69, 65, 76, 84, 49]⟩ := h3
 have e6 : z6 = [79, 82, 68, 69, 65, 76, 84, 49] := by rw [h3]; decide
 subst e6
 refine ⟨by show (8 : Nat) ≤ 3000000000; omega, ?_⟩
 intro v7 z8 h5 h6
 refine ⟨⟨by omega, by omega, ?_⟩, ?_⟩
 ·have h5 : z8 = _ ++ dA l2.length := h5
  rw [h5]; simp
 intro i9 v10 z11 h7 h8 h9
 obtain ⟨a1, a2, a3⟩ : 0 ≤ i9 ∧ i9 ≤ l2.length ∧ z11 = [79, 82, 68, 69, 65, 76, 84, 49] ++ dA l2.length ++ (l2.take i9.toNat).flatMap fF := h9
 have hz : z11.length ≤ 900000 := by
  have := bX5 l2 i9.toNat
  rw [a3, List.length_append, List.length_append]
  show 8 + _ + _ ≤ _
  omega
 refine ⟨?_, ?_⟩
 ·intro h10
  refine ⟨a1, fun h11 => ?_⟩
  intro n12
  have hm := xY (l := l2) (i := i9.toNat) (by omega)
  have hk := key_ok h1 hm
  obtain ⟨k, s, er, r1, r2, r3⟩ := cN1 h1 hm
  have es := dC5 (l := l2) (i := i9.toNat) (by omega)
  have el := bX5 l2 (i9.toNat + 1)
  rw [es, List.length_append, fF, List.length_append, gV, List.length_append, bytesOf_length'] at el
  refine ⟨⟨by omega, ?_⟩, ?_⟩
  ·show (textOf (keyE (bJ l2 i9.toNat))).size ≤ _
   rw [textOf_size, hk.1]; omega
  intro v13 z14 h12 h13
  have h12 : z14 = z11 ++ bytesOf (textOf (keyE (bJ l2 i9.toNat))) := h12
  rw [lK hk.2] at h12
  refine ⟨⟨by rw [h12, List.length_append, hk.1]; omega, ?_⟩, ?_⟩
  ·show (textE (bJ l2 i9.toNat)).size ≤ _
   omega
  intro v15 z16 h14 h15
  have h14 : z16 = z14 ++ gV (textE (bJ l2 i9.toNat)) := h14
  rw [aH (by omega) (by omega)]
  refine ⟨⟨by omega, by omega, ?_⟩, ?_⟩
  ·rw [show (i9 + 1).toNat = i9.toNat + 1 from by omega, es, h14, h12, a3, fF]
   simp only [List.append_assoc]
  ·show ((l2.length : Int) - (i9 + 1)).toNat < ((l2.length : Int) - i9).toNat
   omega
 ·intro h10
  have e11 : z11 = dH l2 := by
   rw [a3, List.take_of_length_le (by omega)]; rfl
  refine ⟨trivial, ?_⟩
  intro s12 h11 h12
  have h11 : s12 = textOf z11 := h11
  subst h11
  refine ⟨by show (textOf z11).size ≤ 1000000; rw [textOf_size]; omega, ?_⟩
  intro z13 h13 h14 h15 n14
  have h13 : z13 = iU (bytesOf (textOf z11)) := h13
  have h8' : ∀ x ∈ z11, 0 ≤ x ∧ x < 256 := fun x hx => qJ.1 (h8 x hx)
  have h15' : ∀ x ∈ z13, 0 ≤ x ∧ x < 256 := fun x hx => qJ.1 (h15 x hx)
  rw [lK h8'] at h13
  refine ⟨⟨by omega, by rw [textOf_size, h14]; omega⟩, ?_⟩
  intro v15 z16 h16 h17
  have h16 : z16 = z11 ++ bytesOf (textOf z13) := h16
  rw [lK h15'] at h16
  refine ⟨trivial, ?_⟩
  intro s17 h18 h19
  have h18 : s17 = textOf z16 := h18
  show s17 = textOf (lC (dH l2))
  rw [h18, h16, h13, e11]; rfl
end Go.Vc
namespace Go.Vc
theorem dP3 {S : BA} {a e m a1 e1 : Int} {r : BA} (ha : 0 ≤ a ∧ a ≤ S.size) (h : (a1, e1, r) = jM S a e m) : 0 ≤ a1 ∧ a1 ≤ S.size ∧ (e1 ≠ 0 → a1 = a) := by
 generalize hn : rdNum S a e = n at h
 obtain ⟨b, f, w⟩ := n
 have hb := wW ha hn.symm
 unfold jM at h
 rw [hn] at h
 simp only at h
 generalize hx : (if f = 0 ∧ w > max m 0 then (12 : Int) else f) = x at h
 generalize hq : aK S b x (min w 1099511627776) = q at h
 obtain ⟨c, g, u⟩ := q
 have hc := uH hb hq.symm
 simp only [Prod.mk.injEq] at h
 obtain ⟨h1, h2, _⟩ := h
 subst h2
 by_cases hg : e1 = 0
 ·rw [if_neg (by omega)] at h1; subst h1; exact ⟨hc.1, hc.2, fun h => absurd hg h⟩
 ·rw [if_pos hg] at h1; subst h1; exact ⟨ha.1, ha.2, fun _ => rfl⟩
theorem cI5 (v : Int) : 1 ≤ (dA v).length := by
 unfold dA; split <;> simp
theorem dP1 {S : BA} {a e a1 e1 : Int} {r : BA} (h : (a1, e1, r) = aK S a e 32) : (e1 = 0 → a1 = a + 32) ∧ (a ≤ a1) := by
 unfold aK at h
 split at h
 ·simp only [Prod.mk.injEq] at h; exact ⟨fun h' => by omega, by omega⟩
 ·split at h <;> simp only [Prod.mk.injEq] at h
  ·exact ⟨fun h' => by omega, by omega⟩
  ·exact ⟨fun h' => by omega, by omega⟩
theorem cQ1 {S : BA} {a e : Int} {L : LD} (ha : 0 ≤ a ∧ a ≤ S.size) : 0 ≤ (lZ S (a, e, L)).1 ∧ (lZ S (a, e, L)).1 ≤ S.size ∧ a ≤ (lZ S (a, e, L)).1 ∧ ((lZ S (a, e, L)).2.1 = 0 → a + 33 ≤ (lZ S (a, e, L)).1) := by
 unfold lZ
 simp only
 generalize hr : aK S a e 32 = r
 obtain ⟨b, f, k⟩ := r
 have hb := uH ha hr.symm
 have h32 := dP1 hr.symm
 simp only
 generalize ht : jM S b f 4194304 = t
 obtain ⟨c, g, u⟩ := t
 have hc := dP3 hb ht.symm
 simp only
 refine ⟨hc.1, hc.2.1, ?_, ?_⟩
 ·by_cases hg : g = 0
  ·subst hg
   have := aY2 hb (by decide) ht.symm
   omega
  ·have := hc.2.2 hg
   omega
 ·intro hz
  have hg : g = 0 := by
   split at hz
   ·omega
   ·exact hz
  subst hg
  have s := aY2 hb (by decide) ht.symm
  have h1 := h32.1 s.1
  have hl := congrArg List.length s.2.2.2
  have hn := cI5 u.size
  rw [gV, List.length_append, pk_len (by rw [bytesOf_length']; omega)] at hl
  omega
theorem bH5 {S : BA} {x : Int × Int × LD} (h : x.2.1 ≠ 0) : ∀ n, kD S n x = x
 | 0 => rfl
 | n + 1 => by rw [kD, if_neg h]
theorem aO.p0 {n1 : Nat} {s0 s8 : BA} {i9 i10 i7 : Int} {l12 : LD} (hs : s0.size ≤ 500000) (hi : 0 < i7 ∧ i7 < 18446744073709551616) (he : i10 = 0)
  (h : aO.I0 [(D.S s0), (D.I i7), (D.S s8), (D.I i9), (D.I i10), (D.L l12)]) : aO.K0 n1 s8 i9 i10 l12 s0 i7 := by
 obtain ⟨rfl, a1, a2, a3, a4⟩ : s8 = s0 ∧ 0 ≤ i9 ∧ i9 ≤ s0.size ∧ 33 * l12.length ≤ i9 + (if i10 = 0 then 0 else 33) ∧ kD s0 i7.toNat (i9, i10, l12) = lY s0 := h
 subst he
 rw [if_pos rfl] at a3
 rw [show i7.toNat = (i7 - 1).toNat + 1 from by omega, kD, if_pos rfl] at a4
 have sr := cQ1 (e := 0) (L := l12) ⟨a1, a2⟩
 refine ⟨⟨a1, a2⟩, ?_⟩
 intro i14 i15 s16 h29 h30 h31 h32
 have h29 : (i14, i15, s16) = aK s8 i9 0 32 := h29
 have hb := uH ⟨a1, a2⟩ h29
 refine ⟨hb, ?_⟩
 intro i17 i18 s19 h33 h34 h35 h36
 have h33 : (i17, i18, s19) = jM s8 i14 i15 4194304 := h33
 refine ⟨trivial, fun _ => ?_⟩
 have hw : wrap .u64 (i7 - 1) = i7 - 1 := eY (by omega) (by omega)
 have hlen : (((l12 ++ [D.L [D.Z (jW s16), D.S s19]]).length : Nat) : Int) ≤ 2932031007402 := by
  rw [List.length_append]; simp; omega
 have go : ∀ x : Int, (x = if i18 = 0 ∧ 0 < l12.length ∧ 0 ≤ cmpL (keyE (bJ l12 (l12.length - 1))) (jW s16) then 16 else i18) →
   aO.I0 [(D.S s8), (D.I (wrap .u64 (i7 - (1 : Int)))), (D.S s8), (D.I i17), (D.I x), (D.L (l12 ++ [D.L [D.Z (jW s16), D.S s19]]))] ∧
   aO.I0M [(D.S s8), (D.I (wrap .u64 (i7 - (1 : Int)))), (D.S s8), (D.I i17), (D.I x), (D.L (l12 ++ [D.L [D.Z (jW s16), D.S s19]]))] < aO.I0M [(D.S s8), (D.I i7), (D.S s8), (D.I i9), (D.I 0), (D.L l12)] := by
  intro x hx
  have e : lZ s8 (i9, 0, l12) = (i17, x, l12 ++ [D.L [D.Z (jW s16), D.S s19]]) := by
   unfold lZ
   simp only
   rw [← h29]
   simp only
   rw [← h33]
   simp only
   rw [← hx]; rfl
  rw [e] at sr a4
  rw [hw]
  refine ⟨⟨rfl, sr.1, sr.2.1, ?_, a4⟩, ?_⟩
  ·rw [List.length_append]
   simp only [List.length_cons, List.length_nil] at sr ⊢
   by_cases hx0 : x = 0
   ·rw [if_pos hx0]; have := sr.2.2.2 hx0; omega
   ·rw [if_neg hx0]; omega
  ·show (i7 - 1).toNat < i7.toNat
   omega
 refine ⟨?_, ?_⟩
 ·intro h38
  refine ⟨?_, ?_⟩
  ·intro h39
   rw [show wrap .i64 (((l12.length : Nat) : Int) - (1 : Int)) = (l12.length : Int) - 1 from aH (by omega) (by omega)]
   refine ⟨by omega, fun _ => ⟨by omega, fun _ => ⟨trivial, ?_⟩⟩⟩
   intro i20 h42 h43
   have h42 : i20 = cmpL (keyE (bJ l12 ((l12.length : Int) - 1).toNat)) (jW s16) := h42
   rw [show ((l12.length : Int) - 1).toNat = l12.length - 1 from by omega] at h42
   refine ⟨?_, ?_⟩
   ·intro h44
    refine ⟨dP2 hb h33, ?_⟩
    intro i21 i22 h45 h46 h47
    obtain ⟨rfl, h45⟩ : i21 = i17 ∧ i22 = if i18 = 0 then 16 else i18 := h45
    rw [if_pos h38] at h45
    have g := go i22 (by rw [h45, if_pos ⟨h38, by omega, by omega⟩])
    exact ⟨fun _ => ⟨hlen, fun _ _ => g⟩, fun _ => ⟨hlen, fun _ _ => g⟩, fun _ => ⟨hlen, fun _ _ => g⟩⟩
   ·intro h44
    have g := go i18 (by rw [if_neg (by omega)])
    exact ⟨fun _ => ⟨hlen, fun _ _ => g⟩, fun _ => ⟨hlen, fun _ _ => g⟩, fun _ => ⟨hlen, fun _ _ => g⟩⟩
  ·intro h39
   have g := go i18 (by rw [if_neg (by omega)])
   exact ⟨fun _ => ⟨hlen, fun _ _ => g⟩, fun _ => ⟨hlen, fun _ _ => g⟩, fun _ => ⟨hlen, fun _ _ => g⟩⟩
 ·intro h38
  have g := go i18 (by rw [if_neg (by omega)])
  exact ⟨fun _ => ⟨hlen, fun _ _ => g⟩, fun _ => ⟨hlen, fun _ _ => g⟩, fun _ => ⟨hlen, fun _ _ => g⟩⟩
theorem bW0 {S : BA} {a e : Int} (x : LD) : (∀ n, kD S n (a, e, x) = lY S → (n = 0 ∨ e ≠ 0) → (mV S a e, x) = kN S) := by
 intro n h hc
 have h2 : kD S n (a, e, x) = (a, e, x) := by
  rcases hc with rfl | hc
  ·rfl
  ·exact bH5 hc n
 rw [kN, ← h, h2]
theorem aO.p1 {s0 : BA} (hs : s0.size ≤ 500000) : aO.K1 s0 := by
 intro n1 n2 i3 i4 i5 v6 h1 h2 h3 h4
 have h4 : (i4, i5, i3) = iG s0 := h4
 have ha : 0 ≤ i4 ∧ i4 ≤ s0.size := by
  have e0 : (i4, i5, i3) = rdNum s0 (aK s0 0 0 8).1 (if (aK s0 0 0 8).2.1 = 0 ∧ (aK s0 0 0 8).2.2 ≠ vV then 3 else (aK s0 0 0 8).2.1) := h4
  exact wW (uH (r := (aK s0 0 0 8).2.2) (e1 := (aK s0 0 0 8).2.1) (e := 0) (n := 8) (a := 0) ⟨by omega, by omega⟩ rfl) e0
 refine ⟨⟨rfl, ha.1, ha.2, by simp; split <;> omega, by rw [lY, ← h4]⟩, ?_⟩
 intro i7 s8 i9 i10 v11 l12 h5 h6 h7 h8 h9 h10
 have h10' := h10
 obtain ⟨rfl, a1, a2, a3, a4⟩ : s8 = s0 ∧ 0 ≤ i9 ∧ i9 ≤ s0.size ∧ 33 * l12.length ≤ i9 + (if i10 = 0 then 0 else 33) ∧ kD s0 i7.toNat (i9, i10, l12) = lY s0 := h10'
 have fin : (i7.toNat = 0 ∨ i10 ≠ 0) → lD.sig.pre [(D.N n1), (D.S s8), (D.I i9), (D.I i10)] ∧ ∀ (i13 i14 i15 : Int), lD.sig.post [(D.N n1), (D.S s8), (D.I i9), (D.I i10), (D.I i13), (D.I i14), (D.I i15)] →
  (-9223372036854775808 ≤ i15 ∧ i15 < 9223372036854775808) → (-9223372036854775808 ≤ i13 ∧ i13 < 9223372036854775808) → (-9223372036854775808 ≤ i14 ∧ i14 < 9223372036854775808) →
  (((i15 ≠ (0 : Int)) → aO.sig.post [(D.S s8), (D.I i15)]) ∧ ((i15 = (0 : Int)) → aO.sig.dM [(D.S s8), (D.N n2), (D.V v11), (D.L l12)] ∧ True)) := by
  intro hc
  refine ⟨⟨a1, a2⟩, ?_⟩
  intro i13 i14 i15 h _ _ _
  obtain ⟨_, e1, e2⟩ : i13 = i9 ∧ i14 = mV s8 i9 i10 ∧ i15 = i14 := h
  have d := bW0 l12 _ a4 hc
  rw [e1] at e2
  subst e2
  exact ⟨fun h => ⟨h, congrArg (·.1) d⟩, fun h => ⟨⟨by rw [← d]; exact h, congrArg (·.2) d⟩, trivial⟩⟩
 refine ⟨?_, ?_⟩
 ·intro h26
  refine ⟨trivial, fun _ => ⟨?_, ?_⟩⟩
  ·intro h28 n13
   have k := aO.p0 (n1 := n1) hs ⟨h26, h5.2⟩ h28 h10
   exact ⟨k, k⟩
  ·intro h28
   exact fin (.inr h28)
 ·intro h26
  exact fin (.inl (by omega))
theorem aO.pure : aO.Pure := by
 intro s0 h1 h2
 have hs : s0.size ≤ 500000 := h2
 refine ⟨trivial, ?_⟩
 intro n1 h3
 refine ⟨⟨by omega, by omega⟩, ?_⟩
 intro i2 i3 s4 h4 h5 h6 h7
 have h4 : (i2, i3, s4) = aK s0 0 0 8 := h4
 have hr := uH (S := s0) (a := 0) ⟨by omega, by omega⟩ h4
 have key : ∀ x, (x = if i3 = 0 ∧ s4 ≠ vV then 3 else i3) → ∀ a e n, (a, e, n) = rdNum s0 i2 x → (a, e, n) = iG s0 := by
  intro x hx a e n h
  rw [iG, ← h4]
  simp only
  rw [← hx]; exact h
 refine ⟨?_, ?_⟩
 ·intro h8
  refine ⟨hr, ?_⟩
  intro i5 i6 h9 h10 h11 v7 n8
  obtain ⟨rfl, h9⟩ : i5 = i2 ∧ i6 = if i3 = 0 then 3 else i3 := h9
  refine ⟨hr, ?_⟩
  intro i9 i10 i11 h12 h13 h14 h15
  refine ⟨key i6 ?_ _ _ _ h12, aO.p1 hs⟩
  rw [h9]
  by_cases hc : i3 = 0
  ·rw [if_pos hc, if_pos ⟨hc, h8⟩]
  ·rw [if_neg hc, if_neg (fun h => hc h.1)]
 ·intro h8 v5 n6
  refine ⟨hr, ?_⟩
  intro i7 i8 i9 h12 h13 h14 h15
  exact ⟨key i3 (by rw [if_neg (fun h => h.2 h8)]) _ _ _ h12, aO.p1 hs⟩
theorem kG.pure : kG.Pure := by
 intro s0 h1 h2
 have hs : s0.size ≤ 500000 := h2
 have hw : wrap .i64 (((s0.size : Nat) : Int) - (32 : Int)) = (s0.size : Int) - 32 := aH (by omega) (by omega)
 rw [hw]
 refine ⟨?_, ?_⟩
 ·intro h3
  refine ⟨by decide, ?_⟩
  rw [dI, if_pos (by omega)]
 ·intro h3
  refine ⟨by omega, fun _ => ⟨by omega, fun _ => ?_⟩⟩
  rw [show (0 : Int).toNat = 0 from rfl, show ((s0.size : Int) - 32).toNat = s0.size - 32 from by omega, show ((s0.size : Nat) : Int).toNat = s0.size from by omega]
  have hz : (s0.extract 0 (s0.size - 32)).size ≤ 500000 := by rw [ByteArray.size_extract]; omega
  refine ⟨by show _ ≤ 1000000; omega, ?_⟩
  intro z1 h4 h5 h6 n2
  have h4 : z1 = iU (bytesOf (s0.extract 0 (s0.size - 32))) := h4
  refine ⟨?_, ?_⟩
  ·intro h7
   rw [h4] at h7
   refine ⟨by decide, ?_⟩
   rw [dI, if_neg (by omega), if_pos h7]
  ·intro h7
   rw [h4] at h7
   have e : dI s0 = kN (s0.extract 0 (s0.size - 32)) := by rw [dI, if_neg (by omega), if_neg (fun h => h h7)]
   refine ⟨⟨hz, ?_⟩, ⟨hz, ?_⟩⟩
   ·intro i3 h8 h9
    exact ⟨h8.1, by rw [e]; exact h8.2⟩
   ·intro n3 v4 l5 h8 h9
    exact ⟨⟨by rw [e]; exact h8.1, by rw [e]; exact h8.2⟩, trivial⟩
theorem aS2 {t : BA} (h : t.size = 32) : jW t = bytesOf t := by
 have hl := bytesOf_length' t
 rw [jW, List.take_of_length_le (by rw [hl, h]; decide), List.drop_eq_nil_of_le (by rw [List.length_replicate, hl, h]; decide), List.append_nil]
theorem aP3 (l : LI) (a m n : Nat) : (l.drop a).take (m + n) = (l.drop a).take m ++ (l.drop (a + m)).take n := by
 rw [List.take_add, List.drop_drop]
theorem dT2 {S : BA} {a : Int} {L : LD} (ha : 0 ≤ a ∧ a ≤ S.size) (h : (lZ S (a, 0, L)).2.1 = 0) :
  ∃ b d, lZ S (a, 0, L) = (b, 0, L ++ [d]) ∧ a ≤ b ∧ b ≤ S.size ∧ ((bytesOf S).drop a.toNat).take (b - a).toNat = fF d := by
 unfold lZ at h ⊢
 simp only at h ⊢
 generalize hr : aK S a 0 32 = r at h ⊢
 obtain ⟨b, f, k⟩ := r
 have hb := uH ha hr.symm
 simp only at h ⊢
 generalize ht : jM S b f 4194304 = t at h ⊢
 obtain ⟨c, g, u⟩ := t
 simp only at h ⊢
 have hg : g = 0 := by
  split at h
  ·omega
  ·exact h
 subst hg
 have s := aY2 hb (by decide) ht.symm
 obtain ⟨rfl, s2, s3, s4⟩ := s
 have r' := aV7 ha hr.symm
 obtain ⟨_, _, r3, r4, r5, r6⟩ := r'
 refine ⟨c, sH (jW k) u, by rw [h], by omega, s3, ?_⟩
 rw [show (c - a).toNat = (32 : Int).toNat + (c - b).toNat from by omega, aP3, r5, show a.toNat + (32 : Int).toNat = b.toNat from by omega, s4, aS2 (by omega)]
 rfl
theorem bZ8 {S : BA} : ∀ (n : Nat) {a : Int} {L : LD}, 0 ≤ a ∧ a ≤ S.size → (kD S n (a, 0, L)).2.1 = 0 →
  ∃ b M, kD S n (a, 0, L) = (b, 0, L ++ M) ∧ M.length = n ∧ a ≤ b ∧ b ≤ S.size ∧ ((bytesOf S).drop a.toNat).take (b - a).toNat = M.flatMap fF
 | 0, a, L, ha, _ => ⟨a, [], by simp [kD], rfl, by omega, ha.2, by simp⟩
 | n + 1, a, L, ha, h => by
  rw [kD, if_pos rfl] at h ⊢
  by_cases he : (lZ S (a, 0, L)).2.1 = 0
  ·obtain ⟨b, d, e1, e2, e3, e4⟩ := dT2 ha he
   rw [e1] at h ⊢
   obtain ⟨c, M, f1, f2, f3, f4, f5⟩ := bZ8 n ⟨by omega, e3⟩ h
   refine ⟨c, d :: M, by rw [f1]; simp, by simp [f2], by omega, f4, ?_⟩
   rw [show (c - a).toNat = (b - a).toNat + (c - b).toNat from by omega, aP3, e4, show a.toNat + (b - a).toNat = b.toNat from by omega, f5]
   simp
  ·rw [bH5 he] at h
   exact absurd h he
theorem bJ7 : bytesOf vV = [79, 82, 68, 69, 65, 76, 84, 49] := by decide
theorem dV2 {S : BA} (h : (kN S).1 = 0) : dH (kN S).2 = bytesOf S ∧ (kN S).2.length ≤ S.size := by
 unfold kN at h ⊢
 simp only at h ⊢
 have hd : (lY S).2.1 = 0 ∧ (S.size : Int) ≤ (lY S).1 := by
  unfold mV at h
  split at h
  ·omega
  ·exact ⟨h, by omega⟩
 unfold lY at hd ⊢
 generalize hn : iG S = x at hd ⊢
 obtain ⟨a, e, n⟩ := x
 simp only at hd ⊢
 have he : e = 0 := by
  by_cases he : e = 0
  ·exact he
  ·rw [bH5 he] at hd; exact hd.1
 subst he
 unfold iG at hn
 simp only at hn
 generalize hr : aK S 0 0 8 = r at hn
 obtain ⟨b, f, k⟩ := r
 simp only at hn
 have z : (0 : Int) ≤ 0 ∧ (0 : Int) ≤ S.size := ⟨by omega, by omega⟩
 have hb := uH z hr.symm
 have s := cI6 hb hn.symm
 obtain ⟨s1, s2, s3, s4⟩ := s
 have hf : f = 0 ∧ k = vV := by
  split at s1
  ·omega
  ·rename_i hc
   exact ⟨s1, by
    by_cases hk : k = vV
    ·exact hk
    ·exact absurd ⟨s1, hk⟩ hc⟩
 obtain ⟨rfl, rfl⟩ := hf
 have r' := aV7 z hr.symm
 obtain ⟨_, _, r3, r4, r5, r6⟩ := r'
 have ha : 0 ≤ a ∧ a ≤ S.size := ⟨by omega, s3⟩
 obtain ⟨c, M, g1, g2, g3, g4, g5⟩ := bZ8 n.toNat ha hd.1
 rw [g1] at hd ⊢
 simp only [List.nil_append] at hd ⊢
 have hl := bytesOf_length' S
 have hnn : 0 ≤ n := by
  by_cases hc : 0 ≤ n
  ·exact hc
  ·exfalso
   rw [dA, if_pos (by omega)] at s4
   have hm : n ∈ ((bytesOf S).drop b.toNat).take (a - b).toNat := by rw [s4]; simp
   have := nX S n (List.mem_of_mem_drop (List.mem_of_mem_take hm))
   omega
 have hln : ((M.length : Nat) : Int) = n := by omega
 have e1 : bytesOf S = ((bytesOf S).drop (0 : Int).toNat).take ((8 : Int).toNat + ((a - b).toNat + (c - a).toNat)) := by
  rw [List.take_of_length_le]
  ·rfl
  ·rw [List.length_drop, hl]
   have : (c : Int) = S.size := by omega
   omega
 have e2 : bytesOf S = dH M := by
  rw [aP3, r5, aP3, show (0 : Int).toNat + (8 : Int).toNat = b.toNat from by omega, s4, show b.toNat + (a - b).toNat = a.toNat from by omega, g5, bJ7] at e1
  rw [dH, hln, List.append_assoc]
  exact e1
 refine ⟨e2.symm, ?_⟩
 have e3 := congrArg List.length e2
 rw [hl, dH, List.length_append, List.length_append] at e3
 have : M.length ≤ (M.flatMap fF).length := by
  clear g5 e2 e1 g1 g2 hln e3 h
  induction M with
  | nil => simp
  | cons d M ih =>
   rw [List.flatMap_cons, List.length_append, List.length_cons]
   have : 1 ≤ (fF d).length := by
    have := cI5 (textE d).size
    rw [fF, List.length_append, gV, List.length_append]; omega
   omega
 omega
end Go.Vc
namespace Go.Vc
theorem dN2 {s : BA} (h : (dI s).1 = 0) : 40 ≤ s.size ∧ dI s = kN (s.extract 0 (s.size - 32)) := by
 unfold dI at h ⊢
 split at h
 ·exact absurd h (by decide)
 ·split at h
  ·exact absurd h (by decide)
  ·rename_i h1 h2
   exact ⟨by omega, by rw [if_neg h1, if_neg h2]⟩
theorem dD0 {a b : BA} : (a ++ b).extract 0 a.size = a := by
 apply aE3
 rw [rG, bU1, List.drop_zero, ← bytesOf_length', List.take_left]
end Go.Vc