/-
 Contracts of tables: texts by names, in order.
 Printed by wip/vct.py: the conditions of functions, by their contracts.
 Tables: the plain part.
 Tables: bytes that are read as a table are its bytes.
 Tables: bytes that are read as a table are its bytes.
-/
import Derived.Test.YtmgeaephkagdiaaGreatDoorShab
import Derived.Test.YtmgeaephkagdiaaGreatDoorPack
import Derived.KernelRfl
set_option linter.unusedVariables false
set_option linter.unusedSimpArgs false
namespace Go.Vc
def entK : EK := [.ints .u8 32, .str]
def keyE (r : D) : List Int := (r.toL.getD 0 default).toLi
def textE (r : D) : ByteArray := (r.toL.getD 1 default).toS
def rowE (k : List Int) (s : ByteArray) : D := .L [.Z k, .S s]
def entAt (L : List D) (i : Nat) : D := L.getD i default
def rising (L : List D) : Prop := ∀ i j, i < j → j < L.length → cmpL (keyE (entAt L i)) (keyE (entAt L j)) < 0
def placeOf (L : List D) (k : List Int) (i : Int) (f : Bool) : Prop :=
 0 ≤ i ∧ i ≤ L.length ∧ (∀ t : Nat, (t : Int) < i → cmpL (keyE (entAt L t)) k < 0) ∧ (∀ t : Nat, i ≤ (t : Int) → t < L.length → 0 ≤ cmpL (keyE (entAt L t)) k) ∧ f = (decide (i < L.length) && decide (cmpL (keyE (entAt L i.toNat)) k = 0))
def ECmp.post : List D → Prop
 | [.Z a, .S _, .Z k, .I r] => r = cmpL a k
 | _ => False
def ECmp.sig : Sig := { args := [.one (.agg [.ints .u8 32 (.at 0), .lf (.str (.at 1))]), arr .u8 32 2], heap := [], srts := [.Z, .S, .Z], res := aI .i64 3, heap' := [], news := [.I], pre := tru, post := ECmp.post }
def BSF.pre : List D → Prop
 | [.V _, .L L, .Z _] => rising L ∧ L.length ≤ 1000000
 | _ => False
def BSF.post : List D → Prop
 | [.V _, .L L, .Z k, .I i, .B f] => placeOf L k i f
 | _ => False
def BSF.sig (g : FuncId) : Sig := { args := [.one (.lf (.sl (.at 0))), arr .u8 32 2, .one (.lf (.fn g))], heap := [.rsl (.at 0) entK (.at 1)], srts := [.V, .L, .Z], res := .tup [.lf (.int .i64 (.at 3)), .lf (.bool (.at 4))], heap' := [], news := [.I, .B], pre := BSF.pre, post := BSF.post }
def BSF.I0 : List D → Prop
 | [.V _, .L L, .Z k, .I i, .I j] => 0 ≤ i ∧ i ≤ j ∧ j ≤ L.length ∧ (∀ t : Nat, (t : Int) < i → cmpL (keyE (entAt L t)) k < 0) ∧ (∀ t : Nat, j ≤ (t : Int) → t < L.length → 0 ≤ cmpL (keyE (entAt L t)) k)
 | _ => False
def BSF.I0M : List D → Nat
 | [.V _, .L _, .Z _, .I i, .I j] => (j - i).toNat
 | _ => 0
def tbl (n : Nat) : List Ch := [.box (.at 0) [.lf (.sl (.at n))], .osl (.at n) entK (.at (n + 1))]
def TFind.pre : List D → Prop
 | [.N _, .V _, .L L, .Z _] => rising L ∧ L.length ≤ 1000000
 | _ => False
def TFind.post : List D → Prop
 | [.N _, .V _, .L L, .Z k, .I i, .B f] => placeOf L k i f
 | _ => False
def TFind.sig : Sig := { args := [.one (.lf (.ptr (.at 0) 0)), arr .u8 32 3], heap := tbl 1, srts := [.N, .V, .L, .Z], res := .tup [.lf (.int .i64 (.at 4)), .lf (.bool (.at 5))], heap' := tbl 1, news := [.I, .B], pre := TFind.pre, post := TFind.post }
def TLen.post : List D → Prop
 | [.N _, .V _, .L L, .I r] => r = L.length
 | _ => False
def TLen.sig : Sig := { args := [.one (.lf (.ptr (.at 0) 0))], heap := tbl 1, srts := [.N, .V, .L], res := aI .i64 3, heap' := tbl 1, news := [.I], pre := tru, post := TLen.post }
def entB (r : D) : List Int := keyE r ++ textB (textE r)
def tblB (L : List D) : List Int := [79, 82, 68, 69, 65, 76, 84, 49] ++ numB L.length ++ L.flatMap entB
def sealB (l : List Int) : List Int := l ++ shaL l
def TBytes.pre : List D → Prop
 | [.N _, .V _, .L L] => L.length ≤ 900000 ∧ (tblB L).length ≤ 900000
 | _ => False
def TBytes.post : List D → Prop
 | [.N _, .V _, .L L, .S r] => r = textOf (sealB (tblB L))
 | _ => False
def TBytes.sig : Sig := { args := [.one (.lf (.ptr (.at 0) 0))], heap := tbl 1, srts := [.N, .V, .L], res := aS 3, heap' := tbl 1, news := [.S], pre := TBytes.pre, post := TBytes.post }
def TBytes.I0 : List D → Prop
 | [.N _, .V _, .L L, .I i, .Z z] => 0 ≤ i ∧ i ≤ L.length ∧ z = [79, 82, 68, 69, 65, 76, 84, 49] ++ numB L.length ++ (L.take i.toNat).flatMap entB
 | _ => False
def TBytes.I0M : List D → Nat
 | [.N _, .V _, .L L, .I i, .Z _] => (L.length - i).toNat
 | _ => 0
def key32 (s : ByteArray) : List Int := ((bytesOf s).take (32 : Int).toNat) ++ ((List.replicate (32 : Int).toNat (0 : Int)).drop (((bytesOf s).length : Nat) : Int).toNat)
def tblMagic : ByteArray := ⟨#[79, 82, 68, 69, 65, 76, 84, 49]⟩
def tblStep (s : ByteArray) (x : Int × Int × List D) : Int × Int × List D :=
 let r := rdRaw s x.1 x.2.1 32
 let t := rdText s r.1 r.2.1 4194304
 (t.1, if t.2.1 = 0 ∧ 0 < x.2.2.length ∧ 0 ≤ cmpL (keyE (entAt x.2.2 (x.2.2.length - 1))) (key32 r.2.2) then 16 else t.2.1, x.2.2 ++ [rowE (key32 r.2.2) t.2.2])
def tblGo (s : ByteArray) : Nat → Int × Int × List D → Int × Int × List D
 | 0, x => x
 | n + 1, x => if x.2.1 = 0 then tblGo s n (tblStep s x) else x
def tblNum (s : ByteArray) : Int × Int × Int :=
 let r := rdRaw s 0 0 8
 rdNum s r.1 (if r.2.1 = 0 ∧ r.2.2 ≠ tblMagic then 3 else r.2.1)
def tblAll (s : ByteArray) : Int × Int × List D := tblGo s (tblNum s).2.2.toNat ((tblNum s).1, (tblNum s).2.1, [])
def tblRd (s : ByteArray) : Int × List D := (rdDone s (tblAll s).1 (tblAll s).2.1, (tblAll s).2.2)
def tblPs (s : ByteArray) : Int × List D :=
 if s.size < 40 then (2, []) else if textOf (shaL (bytesOf (s.extract 0 (s.size - 32)))) ≠ s.extract (s.size - 32) s.size then (4, []) else tblRd (s.extract 0 (s.size - 32))
def tblOr (post post2 pre : List D → Prop) : Sig :=
 { args := [aS 0], heap := [], srts := [.S], res := .tup [.lf .nilp, .lf (.int .i64 (.at 1))], heap' := [], news := [.I],
   alt := some (.tup [.lf (.ptr (.at 1) 0), .lf (.int .i64 (.int 0))], [.box (.at 1) [.lf (.sl (.at 2))], .osl (.at 2) entK (.at 3)], [.N, .V, .L]), pre := pre, post := post, post2 := post2 }
def TRead.pre : List D → Prop
 | [.S s] => s.size ≤ 500000
 | _ => False
def TRead.post : List D → Prop
 | [.S s, .I e] => e ≠ 0 ∧ e = (tblRd s).1
 | _ => False
def TRead.post2 : List D → Prop
 | [.S s, .N _, .V _, .L L] => (tblRd s).1 = 0 ∧ L = (tblRd s).2
 | _ => False
def TRead.sig : Sig := tblOr TRead.post TRead.post2 TRead.pre
def TRead.I0 : List D → Prop
 | [.S s, .I n, .S s', .I a, .I e, .L L] => s' = s ∧ 0 ≤ a ∧ a ≤ s.size ∧ 33 * L.length ≤ a + (if e = 0 then 0 else 33) ∧ tblGo s n.toNat (a, e, L) = tblAll s
 | _ => False
def TRead.I0M : List D → Nat
 | [.S _, .I n, .S _, .I _, .I _, .L _] => n.toNat
 | _ => 0
def TRead.T : St :=
 ⟨jk 4 ++ [.one (.lf (.ptr (.at 1) 0)), .one (.lf (.ptr (.at 2) 0)), .one (.lf (.int .u64 (.at 3)))] ++ jk 76,
  [.box (.at 1) [.lf (.str (.at 0)), .lf (.int .i64 (.at 4)), .lf (.int .i64 (.at 5))], .box (.at 2) [.lf (.sl (.at 6))], .osl (.at 6) [.ints .u8 32, .str] .lnil], [.S, .N, .N, .I, .I, .I, .V]⟩
def TRead.J0 : List D → Prop
 | [.S s, .I n, .I a, .I e] => (a, e, n) = tblNum s
 | _ => False
def TRead.J0M : List D → Nat := fun _ => 0
def TParse.post : List D → Prop
 | [.S s, .I e] => e ≠ 0 ∧ e = (tblPs s).1
 | _ => False
def TParse.post2 : List D → Prop
 | [.S s, .N _, .V _, .L L] => (tblPs s).1 = 0 ∧ L = (tblPs s).2
 | _ => False
def TParse.sig : Sig := tblOr TParse.post TParse.post2 TRead.pre
end Go.Vc
namespace Go.Vc
set_option linter.unusedVariables false
def ECmp.Pure : Prop :=
 ∀ z0 : List Int,
 ∀ s1 : ByteArray,
 ∀ z2 : List Int,
 (z0.length = 32) →
 (∀ x ∈ z0, IntKind.has .u8 x) →
 ((s1.size : Int) ≤ 9223372036854775807) →
 (z2.length = 32) →
 (∀ x ∈ z2, IntKind.has .u8 x) →
 ECmp.sig.pre [.Z z0, .S s1, .Z z2] →
 ∀ n3 n4 : Nat,
 HCmp.sig.pre [.Z z0, .Z z2] ∧ (
 ∀ i5 : Int,
 HCmp.sig.post [.Z z0, .Z z2, .I i5] →
 R64 i5 →
 ECmp.sig.post [.Z z0, .S s1, .Z z2, .I i5])
def BSF.Pure : Prop :=
 ∀ v0 : Value,
 ∀ l1 : List D,
 ∀ z2 : List Int,
 (z2.length = 32) →
 (∀ x ∈ z2, IntKind.has .u8 x) →
 (EK.ok [.ints .u8 32, .str] (D.L l1)) →
 (BSF.sig 0).pre [.V v0, .L l1, .Z z2] →
 ∀ n3 : Nat,
 BSF.I0 [.V v0, .L l1, .Z z2, .I 0, .I ((l1.length : Nat) : Int)] ∧ (
 ∀ i4 i5 : Int,
 R64 i4 →
 R64 i5 →
 BSF.I0 [.V v0, .L l1, .Z z2, .I i4, .I i5] →
 ((
 (i4 < i5) →
 (0 ≤ (IntKind.wrap .i64 (shrI .u64 (IntKind.wrap .u64 (IntKind.wrap .i64 (i4 + i5))) 1))) ∧ ((0 ≤ (IntKind.wrap .i64 (shrI .u64 (IntKind.wrap .u64 (IntKind.wrap .i64 (i4 + i5))) 1))) →
 ((IntKind.wrap .i64 (shrI .u64 (IntKind.wrap .u64 (IntKind.wrap .i64 (i4 + i5))) 1)) < ((l1.length : Nat) : Int)) ∧ (((IntKind.wrap .i64 (shrI .u64 (IntKind.wrap .u64 (IntKind.wrap .i64 (i4 + i5))) 1)) < ((l1.length : Nat) : Int)) →
  ECmp.sig.pre [(D.Z ((((l1.getD (IntKind.wrap .i64 (shrI .u64 (IntKind.wrap .u64 (IntKind.wrap .i64 (i4 + i5))) 1)).toNat default)).toL.getD (0 : Int).toNat default)).toLi), (D.S ((((l1.getD (IntKind.wrap .i64 (shrI .u64 (IntKind.wrap .u64 (IntKind.wrap .i64 (i4 + i5))) 1)).toNat default)).toL.getD (1 : Int).toNat default)).toS), .Z z2] ∧ (
 ∀ i6 : Int,
  ECmp.sig.post [(D.Z ((((l1.getD (IntKind.wrap .i64 (shrI .u64 (IntKind.wrap .u64 (IntKind.wrap .i64 (i4 + i5))) 1)).toNat default)).toL.getD (0 : Int).toNat default)).toLi), (D.S ((((l1.getD (IntKind.wrap .i64 (shrI .u64 (IntKind.wrap .u64 (IntKind.wrap .i64 (i4 + i5))) 1)).toNat default)).toL.getD (1 : Int).toNat default)).toS), .Z z2, .I i6] →
 R64 i6 →
 ((
 (i6 < 0) →
  Bk BSF.I0 BSF.I0M [.V v0, .L l1, .Z z2, .I (IntKind.wrap .i64 ((IntKind.wrap .i64 (shrI .u64 (IntKind.wrap .u64 (IntKind.wrap .i64 (i4 + i5))) 1)) + 1)), .I i5] [.V v0, .L l1, .Z z2, .I i4, .I i5]) ∧ (
 (0 ≤ i6) →
  Bk BSF.I0 BSF.I0M [.V v0, .L l1, .Z z2, .I i4, .I (IntKind.wrap .i64 (shrI .u64 (IntKind.wrap .u64 (IntKind.wrap .i64 (i4 + i5))) 1))] [.V v0, .L l1, .Z z2, .I i4, .I i5])))))) ∧ (
 (i5 ≤ i4) →
 ((
 (i4 < ((l1.length : Nat) : Int)) →
 (0 ≤ i4) ∧ ((0 ≤ i4) →
  ECmp.sig.pre [(D.Z ((((l1.getD i4.toNat default)).toL.getD (0 : Int).toNat default)).toLi), (D.S ((((l1.getD i4.toNat default)).toL.getD (1 : Int).toNat default)).toS), .Z z2] ∧ (
 ∀ i6 : Int,
  ECmp.sig.post [(D.Z ((((l1.getD i4.toNat default)).toL.getD (0 : Int).toNat default)).toLi), (D.S ((((l1.getD i4.toNat default)).toL.getD (1 : Int).toNat default)).toS), .Z z2, .I i6] →
 R64 i6 →
 (BSF.sig 0).post [.V v0, .L l1, .Z z2, .I i4, .B (i6 == 0)]))) ∧ (
 (((l1.length : Nat) : Int) ≤ i4) →
 (BSF.sig 0).post [.V v0, .L l1, .Z z2, .I i4, .B false])))))
def TFind.Pure : Prop :=
 ∀ n0 : Nat,
 ∀ v1 : Value,
 ∀ l2 : List D,
 ∀ z3 : List Int,
 (z3.length = 32) →
 (∀ x ∈ z3, IntKind.has .u8 x) →
 (EK.ok [.ints .u8 32, .str] (D.L l2)) →
 TFind.sig.pre [.N n0, .V v1, .L l2, .Z z3] →
 ∀ n4 : Nat,
 (BSF.sig 0).pre [.V v1, .L l2, .Z z3] ∧ (
 ∀ i5 : Int,
 ∀ b6 : Bool,
 (BSF.sig 0).post [.V v1, .L l2, .Z z3, .I i5, .B b6] →
 R64 i5 →
 TFind.sig.post [.N n0, .V v1, .L l2, .Z z3, .I i5, .B b6])
def TLen.Pure : Prop :=
 ∀ n0 : Nat,
 ∀ v1 : Value,
 ∀ l2 : List D,
 (EK.ok [.ints .u8 32, .str] (D.L l2)) →
 TLen.sig.pre [.N n0, .V v1, .L l2] →
 TLen.sig.post [.N n0, .V v1, .L l2, .I ((l2.length : Nat) : Int)]
def TBytes.Pure : Prop :=
 ∀ n0 : Nat,
 ∀ v1 : Value,
 ∀ l2 : List D,
 (EK.ok [.ints .u8 32, .str] (D.L l2)) →
 TBytes.sig.pre [.N n0, .V v1, .L l2] →
 ∀ v3 : Value,
 ∀ n4 : Nat,
 WRaw.sig.pre [.N n4, .V v3, .Z ([] : List Int), .S (⟨#[79, 82, 68, 69, 65, 76, 84, 49]⟩ : ByteArray)] ∧ (
 ∀ v5 : Value,
 ∀ z6 : List Int,
 WRaw.sig.post [.N n4, .V v3, .Z ([] : List Int), .S (⟨#[79, 82, 68, 69, 65, 76, 84, 49]⟩ : ByteArray), .V v5, .Z z6] →
 (∀ x ∈ z6, IntKind.has .u8 x) →
 WNum.sig.pre [.N n4, .V v5, .Z z6, .I (IntKind.wrap .u64 ((l2.length : Nat) : Int))] ∧ (
 ∀ v7 : Value,
 ∀ z8 : List Int,
 WNum.sig.post [.N n4, .V v5, .Z z6, .I (IntKind.wrap .u64 ((l2.length : Nat) : Int)), .V v7, .Z z8] →
 (∀ x ∈ z8, IntKind.has .u8 x) →
 TBytes.I0 [.N n0, .V v1, .L l2, .I 0, .Z z8] ∧ (
 ∀ i9 : Int,
 ∀ v10 : Value,
 ∀ z11 : List Int,
 R64 i9 →
 (∀ x ∈ z11, IntKind.has .u8 x) →
 TBytes.I0 [.N n0, .V v1, .L l2, .I i9, .Z z11] →
 ((
 (i9 < ((l2.length : Nat) : Int)) →
 (0 ≤ i9) ∧ ((0 ≤ i9) →
 ∀ n12 : Nat,
  WRaw.sig.pre [.N n4, .V v10, .Z z11, .S (textOf ((((l2.getD i9.toNat default)).toL.getD (0 : Int).toNat default)).toLi)] ∧ (
 ∀ v13 : Value,
 ∀ z14 : List Int,
  WRaw.sig.post [.N n4, .V v10, .Z z11, .S (textOf ((((l2.getD i9.toNat default)).toL.getD (0 : Int).toNat default)).toLi), .V v13, .Z z14] →
 (∀ x ∈ z14, IntKind.has .u8 x) →
  WText.sig.pre [.N n4, .V v13, .Z z14, (D.S ((((l2.getD i9.toNat default)).toL.getD (1 : Int).toNat default)).toS)] ∧ (
 ∀ v15 : Value,
 ∀ z16 : List Int,
  WText.sig.post [.N n4, .V v13, .Z z14, (D.S ((((l2.getD i9.toNat default)).toL.getD (1 : Int).toNat default)).toS), .V v15, .Z z16] →
 (∀ x ∈ z16, IntKind.has .u8 x) →
  Bk TBytes.I0 TBytes.I0M [.N n0, .V v1, .L l2, .I (IntKind.wrap .i64 (i9 + 1)), .Z z16] [.N n0, .V v1, .L l2, .I i9, .Z z11])))) ∧ (
 (((l2.length : Nat) : Int) ≤ i9) →
  WBytes.sig.pre [.N n4, .V v10, .Z z11] ∧ (
 ∀ s12 : ByteArray,
  WBytes.sig.post [.N n4, .V v10, .Z z11, .S s12] →
 ((s12.size : Int) ≤ 9223372036854775807) →
  HOf.sig.pre [.S s12] ∧ (
 ∀ z13 : List Int,
  HOf.sig.post [.S s12, .Z z13] →
 (z13.length = 32) →
 (∀ x ∈ z13, IntKind.has .u8 x) →
 ∀ n14 : Nat,
  WRaw.sig.pre [.N n4, .V v10, .Z z11, .S (textOf z13)] ∧ (
 ∀ v15 : Value,
 ∀ z16 : List Int,
  WRaw.sig.post [.N n4, .V v10, .Z z11, .S (textOf z13), .V v15, .Z z16] →
 (∀ x ∈ z16, IntKind.has .u8 x) →
  WBytes.sig.pre [.N n4, .V v15, .Z z16] ∧ (
 ∀ s17 : ByteArray,
  WBytes.sig.post [.N n4, .V v15, .Z z16, .S s17] →
 ((s17.size : Int) ≤ 9223372036854775807) →
  TBytes.sig.post [.N n0, .V v1, .L l2, .S s17])))))))))
def TRead.K0 (n1 : Nat) (s8 : ByteArray) (i9 : Int) (i10 : Int) (l12 : List D) (s0 : ByteArray) (i7 : Int) : Prop :=
 (
   PRaw.sig.pre [.N n1, .S s8, .I i9, .I i10, .I 32] ∧ (
 ∀ i14 i15 : Int,
 ∀ s16 : ByteArray,
   PRaw.sig.post [.N n1, .S s8, .I i9, .I i10, .I 32, .I i14, .I i15, .S s16] →
 ((s16.size : Int) ≤ 9223372036854775807) →
 R64 i14 →
 R64 i15 →
   PText.sig.pre [.N n1, .S s8, .I i14, .I i15, .I 4194304] ∧ (
 ∀ i17 i18 : Int,
 ∀ s19 : ByteArray,
   PText.sig.post [.N n1, .S s8, .I i14, .I i15, .I 4194304, .I i17, .I i18, .S s19] →
 ((s19.size : Int) ≤ 9223372036854775807) →
 R64 i17 →
 R64 i18 →
   PErr.sig.pre [.N n1, .S s8, .I i17, .I i18] ∧ (
   PErr.sig.post [.N n1, .S s8, .I i17, .I i18] →
 ((
 (i18 = 0) →
 ((
 (0 < ((l12.length : Nat) : Int)) →
 ((0 : Int) ≤ (IntKind.wrap .i64 (((l12.length : Nat) : Int) - (1 : Int)))) ∧ (((0 : Int) ≤ (IntKind.wrap .i64 (((l12.length : Nat) : Int) - (1 : Int)))) →
 ((IntKind.wrap .i64 (((l12.length : Nat) : Int) - (1 : Int))) < ((l12.length : Nat) : Int)) ∧ (((IntKind.wrap .i64 (((l12.length : Nat) : Int) - (1 : Int))) < ((l12.length : Nat) : Int)) →
    HCmp.sig.pre [(D.Z ((((l12.getD (IntKind.wrap .i64 (((l12.length : Nat) : Int) - (1 : Int))).toNat default)).toL.getD (0 : Int).toNat default)).toLi), .Z (((bytesOf s16).take (32 : Int).toNat) ++ ((List.replicate (32 : Int).toNat (0 : Int)).drop (((bytesOf s16).length : Nat) : Int).toNat))] ∧ (
 ∀ i20 : Int,
    HCmp.sig.post [(D.Z ((((l12.getD (IntKind.wrap .i64 (((l12.length : Nat) : Int) - (1 : Int))).toNat default)).toL.getD (0 : Int).toNat default)).toLi), .Z (((bytesOf s16).take (32 : Int).toNat) ++ ((List.replicate (32 : Int).toNat (0 : Int)).drop (((bytesOf s16).length : Nat) : Int).toNat)), .I i20] →
 R64 i20 →
 ((
 (0 ≤ i20) →
    PFail.sig.pre [.N n1, .S s8, .I i17, .I i18, .I 16] ∧ (
 ∀ i21 i22 : Int,
    PFail.sig.post [.N n1, .S s8, .I i17, .I i18, .I 16, .I i21, .I i22] →
 R64 i21 →
 R64 i22 →
 ((
 ∀ v23 : Value,
 ((((l12 ++ ((D.L ((D.Z (((bytesOf s16).take (32 : Int).toNat) ++ ((List.replicate (32 : Int).toNat (0 : Int)).drop (((bytesOf s16).length : Nat) : Int).toNat))) :: ((D.S s19) :: ([] : List D)))) :: ([] : List D))).length : Nat) : Int) ≤ (2932031007402 : Int)) ∧ (((((l12 ++ ((D.L ((D.Z (((bytesOf s16).take (32 : Int).toNat) ++ ((List.replicate (32 : Int).toNat (0 : Int)).drop (((bytesOf s16).length : Nat) : Int).toNat))) :: ((D.S s19) :: ([] : List D)))) :: ([] : List D))).length : Nat) : Int) ≤ (2932031007402 : Int)) →
 ∀ v24 : Value,
     Bk TRead.I0 TRead.I0M [.S s0, .I (IntKind.wrap .u64 (i7 - 1)), .S s8, .I i21, .I i22, .L (l12 ++ ((D.L ((D.Z (((bytesOf s16).take (32 : Int).toNat) ++ ((List.replicate (32 : Int).toNat (0 : Int)).drop (((bytesOf s16).length : Nat) : Int).toNat))) :: ((D.S s19) :: ([] : List D)))) :: ([] : List D)))] [.S s0, .I i7, .S s8, .I i9, .I i10, .L l12])) ∧ (
 ((
 ∀ v23 : Value,
 ((((l12 ++ ((D.L ((D.Z (((bytesOf s16).take (32 : Int).toNat) ++ ((List.replicate (32 : Int).toNat (0 : Int)).drop (((bytesOf s16).length : Nat) : Int).toNat))) :: ((D.S s19) :: ([] : List D)))) :: ([] : List D))).length : Nat) : Int) ≤ (2932031007402 : Int)) ∧ (((((l12 ++ ((D.L ((D.Z (((bytesOf s16).take (32 : Int).toNat) ++ ((List.replicate (32 : Int).toNat (0 : Int)).drop (((bytesOf s16).length : Nat) : Int).toNat))) :: ((D.S s19) :: ([] : List D)))) :: ([] : List D))).length : Nat) : Int) ≤ (2932031007402 : Int)) →
 ∀ v24 : Value,
     Bk TRead.I0 TRead.I0M [.S s0, .I (IntKind.wrap .u64 (i7 - 1)), .S s8, .I i21, .I i22, .L (l12 ++ ((D.L ((D.Z (((bytesOf s16).take (32 : Int).toNat) ++ ((List.replicate (32 : Int).toNat (0 : Int)).drop (((bytesOf s16).length : Nat) : Int).toNat))) :: ((D.S s19) :: ([] : List D)))) :: ([] : List D)))] [.S s0, .I i7, .S s8, .I i9, .I i10, .L l12])) ∧ (
 ∀ v23 : Value,
 ((((l12 ++ ((D.L ((D.Z (((bytesOf s16).take (32 : Int).toNat) ++ ((List.replicate (32 : Int).toNat (0 : Int)).drop (((bytesOf s16).length : Nat) : Int).toNat))) :: ((D.S s19) :: ([] : List D)))) :: ([] : List D))).length : Nat) : Int) ≤ (2932031007402 : Int)) ∧ (((((l12 ++ ((D.L ((D.Z (((bytesOf s16).take (32 : Int).toNat) ++ ((List.replicate (32 : Int).toNat (0 : Int)).drop (((bytesOf s16).length : Nat) : Int).toNat))) :: ((D.S s19) :: ([] : List D)))) :: ([] : List D))).length : Nat) : Int) ≤ (2932031007402 : Int)) →
 ∀ v24 : Value,
     Bk TRead.I0 TRead.I0M [.S s0, .I (IntKind.wrap .u64 (i7 - 1)), .S s8, .I i21, .I i22, .L (l12 ++ ((D.L ((D.Z (((bytesOf s16).take (32 : Int).toNat) ++ ((List.replicate (32 : Int).toNat (0 : Int)).drop (((bytesOf s16).length : Nat) : Int).toNat))) :: ((D.S s19) :: ([] : List D)))) :: ([] : List D)))] [.S s0, .I i7, .S s8, .I i9, .I i10, .L l12]))))))) ∧ (
 (i20 < 0) →
 ((
 ∀ v21 : Value,
 ((((l12 ++ ((D.L ((D.Z (((bytesOf s16).take (32 : Int).toNat) ++ ((List.replicate (32 : Int).toNat (0 : Int)).drop (((bytesOf s16).length : Nat) : Int).toNat))) :: ((D.S s19) :: ([] : List D)))) :: ([] : List D))).length : Nat) : Int) ≤ (2932031007402 : Int)) ∧ (((((l12 ++ ((D.L ((D.Z (((bytesOf s16).take (32 : Int).toNat) ++ ((List.replicate (32 : Int).toNat (0 : Int)).drop (((bytesOf s16).length : Nat) : Int).toNat))) :: ((D.S s19) :: ([] : List D)))) :: ([] : List D))).length : Nat) : Int) ≤ (2932031007402 : Int)) →
 ∀ v22 : Value,
     Bk TRead.I0 TRead.I0M [.S s0, .I (IntKind.wrap .u64 (i7 - 1)), .S s8, .I i17, .I i18, .L (l12 ++ ((D.L ((D.Z (((bytesOf s16).take (32 : Int).toNat) ++ ((List.replicate (32 : Int).toNat (0 : Int)).drop (((bytesOf s16).length : Nat) : Int).toNat))) :: ((D.S s19) :: ([] : List D)))) :: ([] : List D)))] [.S s0, .I i7, .S s8, .I i9, .I i10, .L l12])) ∧ (
 ((
 ∀ v21 : Value,
 ((((l12 ++ ((D.L ((D.Z (((bytesOf s16).take (32 : Int).toNat) ++ ((List.replicate (32 : Int).toNat (0 : Int)).drop (((bytesOf s16).length : Nat) : Int).toNat))) :: ((D.S s19) :: ([] : List D)))) :: ([] : List D))).length : Nat) : Int) ≤ (2932031007402 : Int)) ∧ (((((l12 ++ ((D.L ((D.Z (((bytesOf s16).take (32 : Int).toNat) ++ ((List.replicate (32 : Int).toNat (0 : Int)).drop (((bytesOf s16).length : Nat) : Int).toNat))) :: ((D.S s19) :: ([] : List D)))) :: ([] : List D))).length : Nat) : Int) ≤ (2932031007402 : Int)) →
 ∀ v22 : Value,
     Bk TRead.I0 TRead.I0M [.S s0, .I (IntKind.wrap .u64 (i7 - 1)), .S s8, .I i17, .I i18, .L (l12 ++ ((D.L ((D.Z (((bytesOf s16).take (32 : Int).toNat) ++ ((List.replicate (32 : Int).toNat (0 : Int)).drop (((bytesOf s16).length : Nat) : Int).toNat))) :: ((D.S s19) :: ([] : List D)))) :: ([] : List D)))] [.S s0, .I i7, .S s8, .I i9, .I i10, .L l12])) ∧ (
 ∀ v21 : Value,
 ((((l12 ++ ((D.L ((D.Z (((bytesOf s16).take (32 : Int).toNat) ++ ((List.replicate (32 : Int).toNat (0 : Int)).drop (((bytesOf s16).length : Nat) : Int).toNat))) :: ((D.S s19) :: ([] : List D)))) :: ([] : List D))).length : Nat) : Int) ≤ (2932031007402 : Int)) ∧ (((((l12 ++ ((D.L ((D.Z (((bytesOf s16).take (32 : Int).toNat) ++ ((List.replicate (32 : Int).toNat (0 : Int)).drop (((bytesOf s16).length : Nat) : Int).toNat))) :: ((D.S s19) :: ([] : List D)))) :: ([] : List D))).length : Nat) : Int) ≤ (2932031007402 : Int)) →
 ∀ v22 : Value,
     Bk TRead.I0 TRead.I0M [.S s0, .I (IntKind.wrap .u64 (i7 - 1)), .S s8, .I i17, .I i18, .L (l12 ++ ((D.L ((D.Z (((bytesOf s16).take (32 : Int).toNat) ++ ((List.replicate (32 : Int).toNat (0 : Int)).drop (((bytesOf s16).length : Nat) : Int).toNat))) :: ((D.S s19) :: ([] : List D)))) :: ([] : List D)))] [.S s0, .I i7, .S s8, .I i9, .I i10, .L l12]))))))))))) ∧ (
 (((l12.length : Nat) : Int) ≤ (0 : Int)) →
 ((
 ∀ v20 : Value,
 ((((l12 ++ ((D.L ((D.Z (((bytesOf s16).take (32 : Int).toNat) ++ ((List.replicate (32 : Int).toNat (0 : Int)).drop (((bytesOf s16).length : Nat) : Int).toNat))) :: ((D.S s19) :: ([] : List D)))) :: ([] : List D))).length : Nat) : Int) ≤ (2932031007402 : Int)) ∧ (((((l12 ++ ((D.L ((D.Z (((bytesOf s16).take (32 : Int).toNat) ++ ((List.replicate (32 : Int).toNat (0 : Int)).drop (((bytesOf s16).length : Nat) : Int).toNat))) :: ((D.S s19) :: ([] : List D)))) :: ([] : List D))).length : Nat) : Int) ≤ (2932031007402 : Int)) →
 ∀ v21 : Value,
    Bk TRead.I0 TRead.I0M [.S s0, .I (IntKind.wrap .u64 (i7 - 1)), .S s8, .I i17, .I i18, .L (l12 ++ ((D.L ((D.Z (((bytesOf s16).take (32 : Int).toNat) ++ ((List.replicate (32 : Int).toNat (0 : Int)).drop (((bytesOf s16).length : Nat) : Int).toNat))) :: ((D.S s19) :: ([] : List D)))) :: ([] : List D)))] [.S s0, .I i7, .S s8, .I i9, .I i10, .L l12])) ∧ (
 ((
 ∀ v20 : Value,
 ((((l12 ++ ((D.L ((D.Z (((bytesOf s16).take (32 : Int).toNat) ++ ((List.replicate (32 : Int).toNat (0 : Int)).drop (((bytesOf s16).length : Nat) : Int).toNat))) :: ((D.S s19) :: ([] : List D)))) :: ([] : List D))).length : Nat) : Int) ≤ (2932031007402 : Int)) ∧ (((((l12 ++ ((D.L ((D.Z (((bytesOf s16).take (32 : Int).toNat) ++ ((List.replicate (32 : Int).toNat (0 : Int)).drop (((bytesOf s16).length : Nat) : Int).toNat))) :: ((D.S s19) :: ([] : List D)))) :: ([] : List D))).length : Nat) : Int) ≤ (2932031007402 : Int)) →
 ∀ v21 : Value,
     Bk TRead.I0 TRead.I0M [.S s0, .I (IntKind.wrap .u64 (i7 - 1)), .S s8, .I i17, .I i18, .L (l12 ++ ((D.L ((D.Z (((bytesOf s16).take (32 : Int).toNat) ++ ((List.replicate (32 : Int).toNat (0 : Int)).drop (((bytesOf s16).length : Nat) : Int).toNat))) :: ((D.S s19) :: ([] : List D)))) :: ([] : List D)))] [.S s0, .I i7, .S s8, .I i9, .I i10, .L l12])) ∧ (
 ∀ v20 : Value,
 ((((l12 ++ ((D.L ((D.Z (((bytesOf s16).take (32 : Int).toNat) ++ ((List.replicate (32 : Int).toNat (0 : Int)).drop (((bytesOf s16).length : Nat) : Int).toNat))) :: ((D.S s19) :: ([] : List D)))) :: ([] : List D))).length : Nat) : Int) ≤ (2932031007402 : Int)) ∧ (((((l12 ++ ((D.L ((D.Z (((bytesOf s16).take (32 : Int).toNat) ++ ((List.replicate (32 : Int).toNat (0 : Int)).drop (((bytesOf s16).length : Nat) : Int).toNat))) :: ((D.S s19) :: ([] : List D)))) :: ([] : List D))).length : Nat) : Int) ≤ (2932031007402 : Int)) →
 ∀ v21 : Value,
     Bk TRead.I0 TRead.I0M [.S s0, .I (IntKind.wrap .u64 (i7 - 1)), .S s8, .I i17, .I i18, .L (l12 ++ ((D.L ((D.Z (((bytesOf s16).take (32 : Int).toNat) ++ ((List.replicate (32 : Int).toNat (0 : Int)).drop (((bytesOf s16).length : Nat) : Int).toNat))) :: ((D.S s19) :: ([] : List D)))) :: ([] : List D)))] [.S s0, .I i7, .S s8, .I i9, .I i10, .L l12])))))))) ∧ (
 (i18 ≠ 0) →
 ((
 ∀ v20 : Value,
 ((((l12 ++ ((D.L ((D.Z (((bytesOf s16).take (32 : Int).toNat) ++ ((List.replicate (32 : Int).toNat (0 : Int)).drop (((bytesOf s16).length : Nat) : Int).toNat))) :: ((D.S s19) :: ([] : List D)))) :: ([] : List D))).length : Nat) : Int) ≤ (2932031007402 : Int)) ∧ (((((l12 ++ ((D.L ((D.Z (((bytesOf s16).take (32 : Int).toNat) ++ ((List.replicate (32 : Int).toNat (0 : Int)).drop (((bytesOf s16).length : Nat) : Int).toNat))) :: ((D.S s19) :: ([] : List D)))) :: ([] : List D))).length : Nat) : Int) ≤ (2932031007402 : Int)) →
 ∀ v21 : Value,
    Bk TRead.I0 TRead.I0M [.S s0, .I (IntKind.wrap .u64 (i7 - 1)), .S s8, .I i17, .I i18, .L (l12 ++ ((D.L ((D.Z (((bytesOf s16).take (32 : Int).toNat) ++ ((List.replicate (32 : Int).toNat (0 : Int)).drop (((bytesOf s16).length : Nat) : Int).toNat))) :: ((D.S s19) :: ([] : List D)))) :: ([] : List D)))] [.S s0, .I i7, .S s8, .I i9, .I i10, .L l12])) ∧ (
 ((
 ∀ v20 : Value,
 ((((l12 ++ ((D.L ((D.Z (((bytesOf s16).take (32 : Int).toNat) ++ ((List.replicate (32 : Int).toNat (0 : Int)).drop (((bytesOf s16).length : Nat) : Int).toNat))) :: ((D.S s19) :: ([] : List D)))) :: ([] : List D))).length : Nat) : Int) ≤ (2932031007402 : Int)) ∧ (((((l12 ++ ((D.L ((D.Z (((bytesOf s16).take (32 : Int).toNat) ++ ((List.replicate (32 : Int).toNat (0 : Int)).drop (((bytesOf s16).length : Nat) : Int).toNat))) :: ((D.S s19) :: ([] : List D)))) :: ([] : List D))).length : Nat) : Int) ≤ (2932031007402 : Int)) →
 ∀ v21 : Value,
    Bk TRead.I0 TRead.I0M [.S s0, .I (IntKind.wrap .u64 (i7 - 1)), .S s8, .I i17, .I i18, .L (l12 ++ ((D.L ((D.Z (((bytesOf s16).take (32 : Int).toNat) ++ ((List.replicate (32 : Int).toNat (0 : Int)).drop (((bytesOf s16).length : Nat) : Int).toNat))) :: ((D.S s19) :: ([] : List D)))) :: ([] : List D)))] [.S s0, .I i7, .S s8, .I i9, .I i10, .L l12])) ∧ (
 ∀ v20 : Value,
 ((((l12 ++ ((D.L ((D.Z (((bytesOf s16).take (32 : Int).toNat) ++ ((List.replicate (32 : Int).toNat (0 : Int)).drop (((bytesOf s16).length : Nat) : Int).toNat))) :: ((D.S s19) :: ([] : List D)))) :: ([] : List D))).length : Nat) : Int) ≤ (2932031007402 : Int)) ∧ (((((l12 ++ ((D.L ((D.Z (((bytesOf s16).take (32 : Int).toNat) ++ ((List.replicate (32 : Int).toNat (0 : Int)).drop (((bytesOf s16).length : Nat) : Int).toNat))) :: ((D.S s19) :: ([] : List D)))) :: ([] : List D))).length : Nat) : Int) ≤ (2932031007402 : Int)) →
 ∀ v21 : Value,
    Bk TRead.I0 TRead.I0M [.S s0, .I (IntKind.wrap .u64 (i7 - 1)), .S s8, .I i17, .I i18, .L (l12 ++ ((D.L ((D.Z (((bytesOf s16).take (32 : Int).toNat) ++ ((List.replicate (32 : Int).toNat (0 : Int)).drop (((bytesOf s16).length : Nat) : Int).toNat))) :: ((D.S s19) :: ([] : List D)))) :: ([] : List D)))] [.S s0, .I i7, .S s8, .I i9, .I i10, .L l12])))))))))))
def TRead.K1 (s0 : ByteArray) : Prop :=
 (
 (
 ∀ n1 n2 : Nat,
 ∀ i3 i4 i5 : Int,
 ∀ v6 : Value,
 U64 i3 →
 R64 i4 →
 R64 i5 →
  TRead.J0 [.S s0, .I i3, .I i4, .I i5] →
  TRead.I0 [.S s0, .I i3, .S s0, .I i4, .I i5, .L ([] : List D)] ∧ (
 ∀ i7 : Int,
 ∀ s8 : ByteArray,
 ∀ i9 i10 : Int,
 ∀ v11 : Value,
 ∀ l12 : List D,
 U64 i7 →
 ((s8.size : Int) ≤ 9223372036854775807) →
 R64 i9 →
 R64 i10 →
 (EK.ok [.ints .u8 32, .str] (D.L l12)) →
  TRead.I0 [.S s0, .I i7, .S s8, .I i9, .I i10, .L l12] →
 ((
 (0 < i7) →
  PErr.sig.pre [.N n1, .S s8, .I i9, .I i10] ∧ (
  PErr.sig.post [.N n1, .S s8, .I i9, .I i10] →
 ((
 (i10 = 0) →
 ∀ n13 : Nat,
 ((TRead.K0 n1 s8 i9 i10 l12 s0 i7) ∧ (TRead.K0 n1 s8 i9 i10 l12 s0 i7))) ∧ (
 (i10 ≠ 0) →
  PDone.sig.pre [.N n1, .S s8, .I i9, .I i10] ∧ (
 ∀ i13 i14 i15 : Int,
  PDone.sig.post [.N n1, .S s8, .I i9, .I i10, .I i13, .I i14, .I i15] →
 R64 i15 →
 R64 i13 →
 R64 i14 →
 ((
 (i15 ≠ 0) →
   TRead.sig.post [.S s0, .I i15]) ∧ (
 (i15 = 0) →
   TRead.sig.post2 [.S s0, .N n2, .V v11, .L l12] ∧ (
   True)))))))) ∧ (
 (i7 ≤ 0) →
  PDone.sig.pre [.N n1, .S s8, .I i9, .I i10] ∧ (
 ∀ i13 i14 i15 : Int,
  PDone.sig.post [.N n1, .S s8, .I i9, .I i10, .I i13, .I i14, .I i15] →
 R64 i15 →
 R64 i13 →
 R64 i14 →
 ((
 (i15 ≠ 0) →
  TRead.sig.post [.S s0, .I i15]) ∧ (
 (i15 = 0) →
  TRead.sig.post2 [.S s0, .N n2, .V v11, .L l12] ∧ (
  True)))))))))
def TRead.Pure : Prop :=
 ∀ s0 : ByteArray,
 ((s0.size : Int) ≤ 9223372036854775807) →
 TRead.sig.pre [.S s0] →
 PRead.sig.pre [.S s0] ∧ (
 ∀ n1 : Nat,
 PRead.sig.post [.S s0, .N n1] →
 PRaw.sig.pre [.N n1, .S s0, .I 0, .I 0, .I 8] ∧ (
 ∀ i2 i3 : Int,
 ∀ s4 : ByteArray,
 PRaw.sig.post [.N n1, .S s0, .I 0, .I 0, .I 8, .I i2, .I i3, .S s4] →
 ((s4.size : Int) ≤ 9223372036854775807) →
 R64 i2 →
 R64 i3 →
 ((
 (s4 ≠ (⟨#[79, 82, 68, 69, 65, 76, 84, 49]⟩ : ByteArray)) →
  PFail.sig.pre [.N n1, .S s0, .I i2, .I i3, .I 3] ∧ (
 ∀ i5 i6 : Int,
  PFail.sig.post [.N n1, .S s0, .I i2, .I i3, .I 3, .I i5, .I i6] →
 R64 i5 →
 R64 i6 →
 ∀ v7 : Value,
 ∀ n8 : Nat,
  PNum.sig.pre [.N n1, .S s0, .I i5, .I i6] ∧ (
 ∀ i9 i10 i11 : Int,
  PNum.sig.post [.N n1, .S s0, .I i5, .I i6, .I i9, .I i10, .I i11] →
 U64 i11 →
 R64 i9 →
 R64 i10 →
  TRead.J0 [.S s0, .I i11, .I i9, .I i10] ∧ (TRead.K1 s0)))) ∧ (
 (s4 = (⟨#[79, 82, 68, 69, 65, 76, 84, 49]⟩ : ByteArray)) →
 ∀ v5 : Value,
 ∀ n6 : Nat,
  PNum.sig.pre [.N n1, .S s0, .I i2, .I i3] ∧ (
 ∀ i7 i8 i9 : Int,
  PNum.sig.post [.N n1, .S s0, .I i2, .I i3, .I i7, .I i8, .I i9] →
 U64 i9 →
 R64 i7 →
 R64 i8 →
  TRead.J0 [.S s0, .I i9, .I i7, .I i8] ∧ (TRead.K1 s0))))))
def TParse.Pure : Prop :=
 ∀ s0 : ByteArray,
 ((s0.size : Int) ≤ 9223372036854775807) →
 TParse.sig.pre [.S s0] →
 ((
 ((IntKind.wrap .i64 (((s0.size : Nat) : Int) - (32 : Int))) < (8 : Int)) →
  TParse.sig.post [.S s0, .I 2]) ∧ (
 ((8 : Int) ≤ (IntKind.wrap .i64 (((s0.size : Nat) : Int) - (32 : Int)))) →
 ((0 : Int) ≤ (IntKind.wrap .i64 (((s0.size : Nat) : Int) - (32 : Int)))) ∧ (((0 : Int) ≤ (IntKind.wrap .i64 (((s0.size : Nat) : Int) - (32 : Int)))) →
 ((IntKind.wrap .i64 (((s0.size : Nat) : Int) - (32 : Int))) ≤ ((s0.size : Nat) : Int)) ∧ (((IntKind.wrap .i64 (((s0.size : Nat) : Int) - (32 : Int))) ≤ ((s0.size : Nat) : Int)) →
  HOf.sig.pre [.S (s0.extract (0 : Int).toNat (IntKind.wrap .i64 (((s0.size : Nat) : Int) - (32 : Int))).toNat)] ∧ (
 ∀ z1 : List Int,
  HOf.sig.post [.S (s0.extract (0 : Int).toNat (IntKind.wrap .i64 (((s0.size : Nat) : Int) - (32 : Int))).toNat), .Z z1] →
 (z1.length = 32) →
 (∀ x ∈ z1, IntKind.has .u8 x) →
 ∀ n2 : Nat,
 ((
 ((textOf z1) ≠ (s0.extract (IntKind.wrap .i64 (((s0.size : Nat) : Int) - (32 : Int))).toNat ((s0.size : Nat) : Int).toNat)) →
   TParse.sig.post [.S s0, .I 4]) ∧ (
 ((textOf z1) = (s0.extract (IntKind.wrap .i64 (((s0.size : Nat) : Int) - (32 : Int))).toNat ((s0.size : Nat) : Int).toNat)) →
 ((
  TRead.sig.pre [.S (s0.extract (0 : Int).toNat (IntKind.wrap .i64 (((s0.size : Nat) : Int) - (32 : Int))).toNat)] ∧ (
 ∀ i3 : Int,
  TRead.sig.post [.S (s0.extract (0 : Int).toNat (IntKind.wrap .i64 (((s0.size : Nat) : Int) - (32 : Int))).toNat), .I i3] →
 R64 i3 →
  TParse.sig.post [.S s0, .I i3])) ∧ (
  TRead.sig.pre [.S (s0.extract (0 : Int).toNat (IntKind.wrap .i64 (((s0.size : Nat) : Int) - (32 : Int))).toNat)] ∧ (
 ∀ n3 : Nat,
 ∀ v4 : Value,
 ∀ l5 : List D,
  TRead.sig.post2 [.S (s0.extract (0 : Int).toNat (IntKind.wrap .i64 (((s0.size : Nat) : Int) - (32 : Int))).toNat), .N n3, .V v4, .L l5] →
 (EK.ok [.ints .u8 32, .str] (D.L l5)) →
  TParse.sig.post2 [.S s0, .N n3, .V v4, .L l5] ∧ (
  True)))))))))))
end Go.Vc
namespace Go.Vc
theorem row_ok {l : List D} (h : EK.ok [.ints .u8 32, .str] (.L l)) {d : D} (hd : d ∈ l) : ∃ k s, d.toL = [k, s] ∧ k.toLi.length = 32 ∧ (∀ x ∈ k.toLi, 0 ≤ x ∧ x < 256) ∧ (s.toS.size : Int) ≤ int64max := by
 have h1 : ∀ r ∈ l, ckOk [.ints .u8 32, .str] r.toL := h
 have h3 := h1 _ hd
 generalize d.toL = r at h3 ⊢
 match r, h3 with
 | [k, s], h3 =>
  obtain ⟨h4, h5, _⟩ := h3
  exact ⟨k, s, rfl, h4.1, fun x hx => has_in.1 (h4.2 x hx), h5⟩
theorem entAt_mem {l : List D} {i : Nat} (hi : i < l.length) : entAt l i ∈ l := by
 simp only [entAt, List.getD, List.getElem?_eq_getElem hi, Option.getD_some]
 exact List.getElem_mem _
theorem key_ok {l : List D} (h : EK.ok [.ints .u8 32, .str] (.L l)) {d : D} (hd : d ∈ l) : (keyE d).length = 32 ∧ (∀ x ∈ keyE d, 0 ≤ x ∧ x < 256) := by
 obtain ⟨k, s, e, h1, h2, _⟩ := row_ok h hd
 rw [keyE, e]; exact ⟨h1, h2⟩
theorem cmp_trans : ∀ {a b c : List Int}, a.length = b.length → b.length = c.length → cmpL a b < 0 → cmpL b c ≤ 0 → cmpL a c < 0
 | [], [], [], _, _, h, _ => by simp [cmpL] at h
 | x :: a, y :: b, z :: c, h1, h2, h, h' => by
  simp only [cmpL] at h h' ⊢
  have h1 : a.length = b.length := by simpa using h1
  have h2 : b.length = c.length := by simpa using h2
  split at h
  ·split at h'
   ·rw [if_pos (by omega)]; omega
   ·split at h'
    ·omega
    ·rw [if_pos (by omega)]; omega
  ·split at h
   ·omega
   ·split at h'
    ·rw [if_pos (by omega)]; omega
    ·split at h'
     ·omega
     ·rw [if_neg (by omega), if_neg (by omega)]
      exact cmp_trans h1 h2 h h'
theorem cmp_anti : ∀ {a b : List Int}, a.length = b.length → cmpL a b = - cmpL b a
 | [], [], _ => by simp [cmpL]
 | x :: a, y :: b, h => by
  simp only [cmpL]
  have h : a.length = b.length := by simpa using h
  by_cases h1 : x < y
  ·rw [if_pos h1, if_neg (by omega), if_pos h1]
  ·by_cases h2 : x > y
   ·rw [if_neg h1, if_pos h2, if_pos h2]; rfl
   ·rw [if_neg h1, if_neg h2, if_neg h2, if_neg h1]
    exact cmp_anti h
theorem cmp_eq : ∀ {a b : List Int}, a.length = b.length → (cmpL a b = 0 ↔ a = b)
 | [], [], _ => by simp [cmpL]
 | x :: a, y :: b, h => by
  simp only [cmpL]
  have h : a.length = b.length := by simpa using h
  by_cases h1 : x < y
  ·rw [if_pos h1]; simp; omega
  ·by_cases h2 : x > y
   ·rw [if_neg h1, if_pos h2]; simp; omega
   ·rw [if_neg h1, if_neg h2, cmp_eq h, show x = y from by omega]; simp
theorem half {i j : Int} (h : 0 ≤ i) (h' : i < j) (h2 : j ≤ 1000000) : IntKind.wrap .i64 (shrI .u64 (IntKind.wrap .u64 (IntKind.wrap .i64 (i + j))) (1 : Int)) = (i + j) / 2 := by
 have e0 : IntKind.wrap .i64 (i + j) = i + j := i64w (by omega) (by omega)
 have e1 : IntKind.wrap .u64 (i + j) = i + j := u64w (by omega) (by omega)
 have e : shrI .u64 (i + j) 1 = (i + j) / 2 := by
  show (i + j).fdiv 2 = (i + j) / 2
  exact Int.fdiv_eq_ediv_of_nonneg _ (by decide)
 rw [e0, e1, e, i64w (by omega) (by omega)]
theorem BSF.pure : BSF.Pure := by
 intro v0 l1 z2 h1 h2 h3 h4 n3
 have h4 : rising l1 ∧ l1.length ≤ 1000000 := h4
 have hk : ∀ i : Nat, i < l1.length → (keyE (entAt l1 i)).length = z2.length := fun i hi => by rw [(key_ok h3 (entAt_mem hi)).1, h1]
 have anti : ∀ a b : List Int, a.length = b.length → cmpL a b = - cmpL b a := fun a b h => cmp_anti h
 refine ⟨?_, ?_⟩
 ·exact ⟨by omega, by omega, by omega, fun t ht => by omega, fun t ht ht' => by omega⟩
 intro i4 i5 h5 h6 h7
 obtain ⟨a1, a2, a3, a4, a5⟩ : 0 ≤ i4 ∧ i4 ≤ i5 ∧ i5 ≤ l1.length ∧ (∀ t : Nat, (t : Int) < i4 → cmpL (keyE (entAt l1 t)) z2 < 0) ∧ (∀ t : Nat, i5 ≤ (t : Int) → t < l1.length → 0 ≤ cmpL (keyE (entAt l1 t)) z2) := h7
 refine ⟨?_, ?_⟩
 ·intro h8
  rw [half a1 h8 (by omega)]
  refine ⟨by omega, fun h9 => ?_⟩
  refine ⟨by omega, fun h10 => ?_⟩
  refine ⟨trivial, ?_⟩
  intro i6 h11 h12
  have h11 : i6 = cmpL (keyE (entAt l1 ((i4 + i5) / 2).toNat)) z2 := h11
  refine ⟨?_, ?_⟩
  ·intro h13
   rw [i64w (by omega) (by omega)]
   refine ⟨⟨by omega, by omega, by omega, fun t ht => ?_, a5⟩, ?_⟩
   ·by_cases ht2 : t = ((i4 + i5) / 2).toNat
    ·subst ht2; omega
    ·have hl := h4.1 t ((i4 + i5) / 2).toNat (by omega) (by omega)
     exact cmp_trans (by rw [hk t (by omega), hk _ (by omega)]) (hk _ (by omega)) hl (by omega)
   ·show (i5 - ((i4 + i5) / 2 + 1)).toNat < (i5 - i4).toNat
    omega
  ·intro h13
   refine ⟨⟨by omega, by omega, by omega, a4, fun t ht ht' => ?_⟩, ?_⟩
   ·by_cases ht2 : t = ((i4 + i5) / 2).toNat
    ·subst ht2; omega
    ·have hl := h4.1 ((i4 + i5) / 2).toNat t (by omega) (by omega)
     have e1 := anti (keyE (entAt l1 t)) z2 (hk t ht')
     have e2 := anti (keyE (entAt l1 ((i4 + i5) / 2).toNat)) z2 (hk _ (by omega))
     by_cases hc : cmpL (keyE (entAt l1 t)) z2 < 0
     ·have := cmp_trans (by rw [hk t (by omega), hk _ (by omega)]) (hk _ (by omega)) hl (Int.le_of_lt hc)
      omega
     ·omega
   ·show ((i4 + i5) / 2 - i4).toNat < (i5 - i4).toNat
    omega
 ·intro h8
  refine ⟨?_, ?_⟩
  ·intro h9
   refine ⟨a1, fun h10 => ?_⟩
   refine ⟨trivial, ?_⟩
   intro i6 h11 h12
   have h11 : i6 = cmpL (keyE (entAt l1 i4.toNat)) z2 := h11
   refine ⟨a1, by omega, a4, fun t ht ht' => a5 t (by omega) ht', ?_⟩
   rw [h11]
   simp [h9]
   try rfl
  ·intro h9
   refine ⟨a1, by omega, a4, fun t ht ht' => by omega, ?_⟩
   simp [Int.not_lt.2 h9]
theorem ECmp.pure : ECmp.Pure := by
 intro z0 s1 z2 h1 h2 h3 h4 h5 h6 n3 n4
 exact ⟨trivial, fun i5 h7 h8 => h7⟩
theorem TFind.pure : TFind.Pure := by
 intro n0 v1 l2 z3 h1 h2 h3 h4 n4
 exact ⟨h4, fun i5 b6 h5 h6 => h5⟩
theorem TLen.pure : TLen.Pure := by
 intro n0 v1 l2
 intros
 rfl
theorem entB_snoc {l : List D} {i : Nat} (hi : i < l.length) : (l.take (i + 1)).flatMap entB = (l.take i).flatMap entB ++ entB (entAt l i) := by
 have e : l.take (i + 1) = l.take i ++ [entAt l i] := by
  rw [List.take_add_one]
  simp [entAt, List.getD, List.getElem?_eq_getElem hi]
 rw [e, List.flatMap_append]; simp
theorem entB_part (l : List D) (i : Nat) : ((l.take i).flatMap entB).length ≤ (l.flatMap entB).length := by
 have : l.flatMap entB = (l.take i).flatMap entB ++ (l.drop i).flatMap entB := by rw [← List.flatMap_append, List.take_append_drop]
 rw [this, List.length_append]; omega
theorem TBytes.pure : TBytes.Pure := by
 intro n0 v1 l2 h1 h2 v3 n4
 obtain ⟨q1, q2⟩ : l2.length ≤ 900000 ∧ (tblB l2).length ≤ 900000 := h2
 have hu : IntKind.wrap .u64 ((l2.length : Nat) : Int) = l2.length := u64w (by omega) (by omega)
 rw [hu]
 have ql : 8 + (numB l2.length).length + (l2.flatMap entB).length ≤ 900000 := by
  rw [tblB, List.length_append, List.length_append] at q2
  exact q2
 refine ⟨⟨by simp, by decide⟩, ?_⟩
 intro v5 z6 h3 h4
 have h3 : z6 = [] ++ bytesOf ⟨#[79, 82, 68, 69, 65, 76, 84, 49]⟩ := h3
 have e6 : z6 = [79, 82, 68, 69, 65, 76, 84, 49] := by rw [h3]; decide
 subst e6
 refine ⟨by show (8 : Nat) ≤ 3000000000; omega, ?_⟩
 intro v7 z8 h5 h6
 refine ⟨⟨by omega, by omega, ?_⟩, ?_⟩
 ·have h5 : z8 = _ ++ numB l2.length := h5
  rw [h5]; simp
 intro i9 v10 z11 h7 h8 h9
 obtain ⟨a1, a2, a3⟩ : 0 ≤ i9 ∧ i9 ≤ l2.length ∧ z11 = [79, 82, 68, 69, 65, 76, 84, 49] ++ numB l2.length ++ (l2.take i9.toNat).flatMap entB := h9
 have hz : z11.length ≤ 900000 := by
  have := entB_part l2 i9.toNat
  rw [a3, List.length_append, List.length_append]
  show 8 + _ + _ ≤ _
  omega
 refine ⟨?_, ?_⟩
 ·intro h10
  refine ⟨a1, fun h11 => ?_⟩
  intro n12
  have hm := entAt_mem (l := l2) (i := i9.toNat) (by omega)
  have hk := key_ok h1 hm
  obtain ⟨k, s, er, r1, r2, r3⟩ := row_ok h1 hm
  have es := entB_snoc (l := l2) (i := i9.toNat) (by omega)
  have el := entB_part l2 (i9.toNat + 1)
  rw [es, List.length_append, entB, List.length_append, textB, List.length_append, bytesOf_length'] at el
  refine ⟨⟨by omega, ?_⟩, ?_⟩
  ·show (textOf (keyE (entAt l2 i9.toNat))).size ≤ _
   rw [textOf_size, hk.1]; omega
  intro v13 z14 h12 h13
  have h12 : z14 = z11 ++ bytesOf (textOf (keyE (entAt l2 i9.toNat))) := h12
  rw [bytesOf_textOf hk.2] at h12
  refine ⟨⟨by rw [h12, List.length_append, hk.1]; omega, ?_⟩, ?_⟩
  ·show (textE (entAt l2 i9.toNat)).size ≤ _
   omega
  intro v15 z16 h14 h15
  have h14 : z16 = z14 ++ textB (textE (entAt l2 i9.toNat)) := h14
  rw [i64w (by omega) (by omega)]
  refine ⟨⟨by omega, by omega, ?_⟩, ?_⟩
  ·rw [show (i9 + 1).toNat = i9.toNat + 1 from by omega, es, h14, h12, a3, entB]
   simp only [List.append_assoc]
  ·show ((l2.length : Int) - (i9 + 1)).toNat < ((l2.length : Int) - i9).toNat
   omega
 ·intro h10
  have e11 : z11 = tblB l2 := by
   rw [a3, List.take_of_length_le (by omega)]; rfl
  refine ⟨trivial, ?_⟩
  intro s12 h11 h12
  have h11 : s12 = textOf z11 := h11
  subst h11
  refine ⟨by show (textOf z11).size ≤ 1000000; rw [textOf_size]; omega, ?_⟩
  intro z13 h13 h14 h15 n14
  have h13 : z13 = shaL (bytesOf (textOf z11)) := h13
  have h8' : ∀ x ∈ z11, 0 ≤ x ∧ x < 256 := fun x hx => has_in.1 (h8 x hx)
  have h15' : ∀ x ∈ z13, 0 ≤ x ∧ x < 256 := fun x hx => has_in.1 (h15 x hx)
  rw [bytesOf_textOf h8'] at h13
  refine ⟨⟨by omega, by rw [textOf_size, h14]; omega⟩, ?_⟩
  intro v15 z16 h16 h17
  have h16 : z16 = z11 ++ bytesOf (textOf z13) := h16
  rw [bytesOf_textOf h15'] at h16
  refine ⟨trivial, ?_⟩
  intro s17 h18 h19
  have h18 : s17 = textOf z16 := h18
  show s17 = textOf (sealB (tblB l2))
  rw [h18, h16, h13, e11]; rfl
end Go.Vc
namespace Go.Vc
theorem rdText_rg {S : ByteArray} {a e m a1 e1 : Int} {r : ByteArray} (ha : 0 ≤ a ∧ a ≤ S.size) (h : (a1, e1, r) = rdText S a e m) : 0 ≤ a1 ∧ a1 ≤ S.size ∧ (e1 ≠ 0 → a1 = a) := by
 generalize hn : rdNum S a e = n at h
 obtain ⟨b, f, w⟩ := n
 have hb := rdNum_at ha hn.symm
 unfold rdText at h
 rw [hn] at h
 simp only at h
 generalize hx : (if f = 0 ∧ w > max m 0 then (12 : Int) else f) = x at h
 generalize hq : rdRaw S b x (min w 1099511627776) = q at h
 obtain ⟨c, g, u⟩ := q
 have hc := rdRaw_at hb hq.symm
 simp only [Prod.mk.injEq] at h
 obtain ⟨h1, h2, _⟩ := h
 subst h2
 by_cases hg : e1 = 0
 ·rw [if_neg (by omega)] at h1; subst h1; exact ⟨hc.1, hc.2, fun h => absurd hg h⟩
 ·rw [if_pos hg] at h1; subst h1; exact ⟨ha.1, ha.2, fun _ => rfl⟩
theorem numB_pos (v : Int) : 1 ≤ (numB v).length := by
 unfold numB; split <;> simp
theorem rdRaw_32 {S : ByteArray} {a e a1 e1 : Int} {r : ByteArray} (h : (a1, e1, r) = rdRaw S a e 32) : (e1 = 0 → a1 = a + 32) ∧ (a ≤ a1) := by
 unfold rdRaw at h
 split at h
 ·simp only [Prod.mk.injEq] at h; exact ⟨fun h' => by omega, by omega⟩
 ·split at h <;> simp only [Prod.mk.injEq] at h
  ·exact ⟨fun h' => by omega, by omega⟩
  ·exact ⟨fun h' => by omega, by omega⟩
theorem step_rg {S : ByteArray} {a e : Int} {L : List D} (ha : 0 ≤ a ∧ a ≤ S.size) : 0 ≤ (tblStep S (a, e, L)).1 ∧ (tblStep S (a, e, L)).1 ≤ S.size ∧ a ≤ (tblStep S (a, e, L)).1 ∧ ((tblStep S (a, e, L)).2.1 = 0 → a + 33 ≤ (tblStep S (a, e, L)).1) := by
 unfold tblStep
 simp only
 generalize hr : rdRaw S a e 32 = r
 obtain ⟨b, f, k⟩ := r
 have hb := rdRaw_at ha hr.symm
 have h32 := rdRaw_32 hr.symm
 simp only
 generalize ht : rdText S b f 4194304 = t
 obtain ⟨c, g, u⟩ := t
 have hc := rdText_rg hb ht.symm
 simp only
 refine ⟨hc.1, hc.2.1, ?_, ?_⟩
 ·by_cases hg : g = 0
  ·subst hg
   have := text_spell hb (by decide) ht.symm
   omega
  ·have := hc.2.2 hg
   omega
 ·intro hz
  have hg : g = 0 := by
   split at hz
   ·omega
   ·exact hz
  subst hg
  have s := text_spell hb (by decide) ht.symm
  have h1 := h32.1 s.1
  have hl := congrArg List.length s.2.2.2
  have hn := numB_pos u.size
  rw [textB, List.length_append, pk_len (by rw [bytesOf_length']; omega)] at hl
  omega
theorem go_stop {S : ByteArray} {x : Int × Int × List D} (h : x.2.1 ≠ 0) : ∀ n, tblGo S n x = x
 | 0 => rfl
 | n + 1 => by rw [tblGo, if_neg h]
theorem TRead.p0 {n1 : Nat} {s0 s8 : ByteArray} {i9 i10 i7 : Int} {l12 : List D} (hs : s0.size ≤ 500000) (hi : 0 < i7 ∧ i7 < 18446744073709551616) (he : i10 = 0)
  (h : TRead.I0 [(D.S s0), (D.I i7), (D.S s8), (D.I i9), (D.I i10), (D.L l12)]) : TRead.K0 n1 s8 i9 i10 l12 s0 i7 := by
 obtain ⟨rfl, a1, a2, a3, a4⟩ : s8 = s0 ∧ 0 ≤ i9 ∧ i9 ≤ s0.size ∧ 33 * l12.length ≤ i9 + (if i10 = 0 then 0 else 33) ∧ tblGo s0 i7.toNat (i9, i10, l12) = tblAll s0 := h
 subst he
 rw [if_pos rfl] at a3
 rw [show i7.toNat = (i7 - 1).toNat + 1 from by omega, tblGo, if_pos rfl] at a4
 have sr := step_rg (e := 0) (L := l12) ⟨a1, a2⟩
 refine ⟨⟨a1, a2⟩, ?_⟩
 intro i14 i15 s16 h29 h30 h31 h32
 have h29 : (i14, i15, s16) = rdRaw s8 i9 0 32 := h29
 have hb := rdRaw_at ⟨a1, a2⟩ h29
 refine ⟨hb, ?_⟩
 intro i17 i18 s19 h33 h34 h35 h36
 have h33 : (i17, i18, s19) = rdText s8 i14 i15 4194304 := h33
 refine ⟨trivial, fun _ => ?_⟩
 have hw : IntKind.wrap .u64 (i7 - 1) = i7 - 1 := u64w (by omega) (by omega)
 have hlen : (((l12 ++ [D.L [D.Z (key32 s16), D.S s19]]).length : Nat) : Int) ≤ 2932031007402 := by
  rw [List.length_append]; simp; omega
 have go : ∀ x : Int, (x = if i18 = 0 ∧ 0 < l12.length ∧ 0 ≤ cmpL (keyE (entAt l12 (l12.length - 1))) (key32 s16) then 16 else i18) →
   TRead.I0 [(D.S s8), (D.I (IntKind.wrap .u64 (i7 - (1 : Int)))), (D.S s8), (D.I i17), (D.I x), (D.L (l12 ++ [D.L [D.Z (key32 s16), D.S s19]]))] ∧
   TRead.I0M [(D.S s8), (D.I (IntKind.wrap .u64 (i7 - (1 : Int)))), (D.S s8), (D.I i17), (D.I x), (D.L (l12 ++ [D.L [D.Z (key32 s16), D.S s19]]))] < TRead.I0M [(D.S s8), (D.I i7), (D.S s8), (D.I i9), (D.I 0), (D.L l12)] := by
  intro x hx
  have e : tblStep s8 (i9, 0, l12) = (i17, x, l12 ++ [D.L [D.Z (key32 s16), D.S s19]]) := by
   unfold tblStep
   simp only
   rw [← h29]
   simp only
   rw [← h33]
   simp only
   rw [← hx]; rfl
  rw [e] at sr a4
  rw [hw]
  refine ⟨⟨rfl, sr.1, sr.2.1, ?_, a4⟩, ?_⟩
  ·rw [List.length_append]
   simp only [List.length_cons, List.length_nil] at sr ⊢
   by_cases hx0 : x = 0
   ·rw [if_pos hx0]; have := sr.2.2.2 hx0; omega
   ·rw [if_neg hx0]; omega
  ·show (i7 - 1).toNat < i7.toNat
   omega
 refine ⟨?_, ?_⟩
 ·intro h38
  refine ⟨?_, ?_⟩
  ·intro h39
   rw [show IntKind.wrap .i64 (((l12.length : Nat) : Int) - (1 : Int)) = (l12.length : Int) - 1 from i64w (by omega) (by omega)]
   refine ⟨by omega, fun _ => ⟨by omega, fun _ => ⟨trivial, ?_⟩⟩⟩
   intro i20 h42 h43
   have h42 : i20 = cmpL (keyE (entAt l12 ((l12.length : Int) - 1).toNat)) (key32 s16) := h42
   rw [show ((l12.length : Int) - 1).toNat = l12.length - 1 from by omega] at h42
   refine ⟨?_, ?_⟩
   ·intro h44
    refine ⟨rdText_at hb h33, ?_⟩
    intro i21 i22 h45 h46 h47
    obtain ⟨rfl, h45⟩ : i21 = i17 ∧ i22 = if i18 = 0 then 16 else i18 := h45
    rw [if_pos h38] at h45
    have g := go i22 (by rw [h45, if_pos ⟨h38, by omega, by omega⟩])
    exact ⟨fun _ => ⟨hlen, fun _ _ => g⟩, fun _ => ⟨hlen, fun _ _ => g⟩, fun _ => ⟨hlen, fun _ _ => g⟩⟩
   ·intro h44
    have g := go i18 (by rw [if_neg (by omega)])
    exact ⟨fun _ => ⟨hlen, fun _ _ => g⟩, fun _ => ⟨hlen, fun _ _ => g⟩, fun _ => ⟨hlen, fun _ _ => g⟩⟩
  ·intro h39
   have g := go i18 (by rw [if_neg (by omega)])
   exact ⟨fun _ => ⟨hlen, fun _ _ => g⟩, fun _ => ⟨hlen, fun _ _ => g⟩, fun _ => ⟨hlen, fun _ _ => g⟩⟩
 ·intro h38
  have g := go i18 (by rw [if_neg (by omega)])
  exact ⟨fun _ => ⟨hlen, fun _ _ => g⟩, fun _ => ⟨hlen, fun _ _ => g⟩, fun _ => ⟨hlen, fun _ _ => g⟩⟩
theorem done_num {S : ByteArray} {a e : Int} (x : List D) : (∀ n, tblGo S n (a, e, x) = tblAll S → (n = 0 ∨ e ≠ 0) → (rdDone S a e, x) = tblRd S) := by
 intro n h hc
 have h2 : tblGo S n (a, e, x) = (a, e, x) := by
  rcases hc with rfl | hc
  ·rfl
  ·exact go_stop hc n
 rw [tblRd, ← h, h2]
theorem TRead.p1 {s0 : ByteArray} (hs : s0.size ≤ 500000) : TRead.K1 s0 := by
 intro n1 n2 i3 i4 i5 v6 h1 h2 h3 h4
 have h4 : (i4, i5, i3) = tblNum s0 := h4
 have ha : 0 ≤ i4 ∧ i4 ≤ s0.size := by
  have e0 : (i4, i5, i3) = rdNum s0 (rdRaw s0 0 0 8).1 (if (rdRaw s0 0 0 8).2.1 = 0 ∧ (rdRaw s0 0 0 8).2.2 ≠ tblMagic then 3 else (rdRaw s0 0 0 8).2.1) := h4
  exact rdNum_at (rdRaw_at (r := (rdRaw s0 0 0 8).2.2) (e1 := (rdRaw s0 0 0 8).2.1) (e := 0) (n := 8) (a := 0) ⟨by omega, by omega⟩ rfl) e0
 refine ⟨⟨rfl, ha.1, ha.2, by simp; split <;> omega, by rw [tblAll, ← h4]⟩, ?_⟩
 intro i7 s8 i9 i10 v11 l12 h5 h6 h7 h8 h9 h10
 have h10' := h10
 obtain ⟨rfl, a1, a2, a3, a4⟩ : s8 = s0 ∧ 0 ≤ i9 ∧ i9 ≤ s0.size ∧ 33 * l12.length ≤ i9 + (if i10 = 0 then 0 else 33) ∧ tblGo s0 i7.toNat (i9, i10, l12) = tblAll s0 := h10'
 have fin : (i7.toNat = 0 ∨ i10 ≠ 0) → PDone.sig.pre [(D.N n1), (D.S s8), (D.I i9), (D.I i10)] ∧ ∀ (i13 i14 i15 : Int), PDone.sig.post [(D.N n1), (D.S s8), (D.I i9), (D.I i10), (D.I i13), (D.I i14), (D.I i15)] →
  (-9223372036854775808 ≤ i15 ∧ i15 < 9223372036854775808) → (-9223372036854775808 ≤ i13 ∧ i13 < 9223372036854775808) → (-9223372036854775808 ≤ i14 ∧ i14 < 9223372036854775808) →
  (((i15 ≠ (0 : Int)) → TRead.sig.post [(D.S s8), (D.I i15)]) ∧ ((i15 = (0 : Int)) → TRead.sig.post2 [(D.S s8), (D.N n2), (D.V v11), (D.L l12)] ∧ True)) := by
  intro hc
  refine ⟨⟨a1, a2⟩, ?_⟩
  intro i13 i14 i15 h _ _ _
  obtain ⟨_, e1, e2⟩ : i13 = i9 ∧ i14 = rdDone s8 i9 i10 ∧ i15 = i14 := h
  have d := done_num l12 _ a4 hc
  rw [e1] at e2
  subst e2
  exact ⟨fun h => ⟨h, congrArg (·.1) d⟩, fun h => ⟨⟨by rw [← d]; exact h, congrArg (·.2) d⟩, trivial⟩⟩
 refine ⟨?_, ?_⟩
 ·intro h26
  refine ⟨trivial, fun _ => ⟨?_, ?_⟩⟩
  ·intro h28 n13
   have k := TRead.p0 (n1 := n1) hs ⟨h26, h5.2⟩ h28 h10
   exact ⟨k, k⟩
  ·intro h28
   exact fin (.inr h28)
 ·intro h26
  exact fin (.inl (by omega))
theorem TRead.pure : TRead.Pure := by
 intro s0 h1 h2
 have hs : s0.size ≤ 500000 := h2
 refine ⟨trivial, ?_⟩
 intro n1 h3
 refine ⟨⟨by omega, by omega⟩, ?_⟩
 intro i2 i3 s4 h4 h5 h6 h7
 have h4 : (i2, i3, s4) = rdRaw s0 0 0 8 := h4
 have hr := rdRaw_at (S := s0) (a := 0) ⟨by omega, by omega⟩ h4
 have key : ∀ x, (x = if i3 = 0 ∧ s4 ≠ tblMagic then 3 else i3) → ∀ a e n, (a, e, n) = rdNum s0 i2 x → (a, e, n) = tblNum s0 := by
  intro x hx a e n h
  rw [tblNum, ← h4]
  simp only
  rw [← hx]; exact h
 refine ⟨?_, ?_⟩
 ·intro h8
  refine ⟨hr, ?_⟩
  intro i5 i6 h9 h10 h11 v7 n8
  obtain ⟨rfl, h9⟩ : i5 = i2 ∧ i6 = if i3 = 0 then 3 else i3 := h9
  refine ⟨hr, ?_⟩
  intro i9 i10 i11 h12 h13 h14 h15
  refine ⟨key i6 ?_ _ _ _ h12, TRead.p1 hs⟩
  rw [h9]
  by_cases hc : i3 = 0
  ·rw [if_pos hc, if_pos ⟨hc, h8⟩]
  ·rw [if_neg hc, if_neg (fun h => hc h.1)]
 ·intro h8 v5 n6
  refine ⟨hr, ?_⟩
  intro i7 i8 i9 h12 h13 h14 h15
  exact ⟨key i3 (by rw [if_neg (fun h => h.2 h8)]) _ _ _ h12, TRead.p1 hs⟩
theorem TParse.pure : TParse.Pure := by
 intro s0 h1 h2
 have hs : s0.size ≤ 500000 := h2
 have hw : IntKind.wrap .i64 (((s0.size : Nat) : Int) - (32 : Int)) = (s0.size : Int) - 32 := i64w (by omega) (by omega)
 rw [hw]
 refine ⟨?_, ?_⟩
 ·intro h3
  refine ⟨by decide, ?_⟩
  rw [tblPs, if_pos (by omega)]
 ·intro h3
  refine ⟨by omega, fun _ => ⟨by omega, fun _ => ?_⟩⟩
  rw [show (0 : Int).toNat = 0 from rfl, show ((s0.size : Int) - 32).toNat = s0.size - 32 from by omega, show ((s0.size : Nat) : Int).toNat = s0.size from by omega]
  have hz : (s0.extract 0 (s0.size - 32)).size ≤ 500000 := by rw [ByteArray.size_extract]; omega
  refine ⟨by show _ ≤ 1000000; omega, ?_⟩
  intro z1 h4 h5 h6 n2
  have h4 : z1 = shaL (bytesOf (s0.extract 0 (s0.size - 32))) := h4
  refine ⟨?_, ?_⟩
  ·intro h7
   rw [h4] at h7
   refine ⟨by decide, ?_⟩
   rw [tblPs, if_neg (by omega), if_pos h7]
  ·intro h7
   rw [h4] at h7
   have e : tblPs s0 = tblRd (s0.extract 0 (s0.size - 32)) := by rw [tblPs, if_neg (by omega), if_neg (fun h => h h7)]
   refine ⟨⟨hz, ?_⟩, ⟨hz, ?_⟩⟩
   ·intro i3 h8 h9
    exact ⟨h8.1, by rw [e]; exact h8.2⟩
   ·intro n3 v4 l5 h8 h9
    exact ⟨⟨by rw [e]; exact h8.1, by rw [e]; exact h8.2⟩, trivial⟩
theorem magicB : bytesOf tblMagic = [79, 82, 68, 69, 65, 76, 84, 49] := by decide
end Go.Vc
namespace Go.Vc
theorem extract_left {a b : ByteArray} : (a ++ b).extract 0 a.size = a := by
 apply text_inj
 rw [bytesOf_extract, bytesOf_append, List.drop_zero, ← bytesOf_length', List.take_left]
end Go.Vc