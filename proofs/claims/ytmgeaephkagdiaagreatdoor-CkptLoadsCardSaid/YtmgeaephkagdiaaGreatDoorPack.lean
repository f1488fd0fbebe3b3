/-
 Contracts of the numbers and texts as bytes (pack, and the document's): writing.
 Printed by wip/vct.py: the conditions of functions, by their contracts.
 Numbers and texts as bytes: the plain part.
 Numbers and texts as bytes: more of the plain part.
 Numbers and texts as bytes: the laws on writing.
 Contracts of the numbers and texts as bytes: reading.
 Printed by wip/vct.py: the conditions of functions, by their contracts.
 Numbers and texts as bytes: reading, the plain part.
 Numbers and texts as bytes: the laws on reading.
 Numbers and texts as bytes: what is written is read again.
-/
import Derived.Test.YtmgeaephkagdiaaGreatDoorWord
import Derived.Test.YtmgeaephkagdiaaGreatDoorTab
import Derived.KernelRfl
set_option linter.unusedVariables false
set_option linter.unusedSimpArgs false
open _root_.Go.IntKind (wrap)
namespace Go.Vc
def beB (v : Int) (n : Nat) : LI := (bytesLE v n).reverse
def oV (v n : Int) : LI := beB v (clamp 1 8 n).toNat
def bH (v : Int) : Int := if v < 256 then 1 else if v < 65536 then 2 else if v < 16777216 then 3 else if v < 4294967296 then 4 else if v < 1099511627776 then 5 else if v < 281474976710656 then 6 else if v < 72057594037927936 then 7 else 8
def dA (v : Int) : LI := if v < 248 then [v] else (247 + bH v) :: beB v (bH v).toNat
def gV (s : BA) : LI := dA s.size ++ bytesOf s
def roomy (z : LI) : Prop := z.length ≤ 4000000000
def aZ5 (as : List AK) (pre post : LD → Prop) : Sig :=
 { args := .one (.lf (.ptr (.at 0) 0)) :: vU 3 as, heap := .box (.at 0) [.lf (.sl (.at 1))] :: .osl (.at 1) [.int .u8] (.at 2) :: uZ false 3 as, aA := .N :: .V :: .Z :: lX as,
   res := .tup [], heap' := [.box (.at 0) [.lf (.sl (.at (3 + (lX as).length)))], .osl (.at (3 + (lX as).length)) [.int .u8] (.at (4 + (lX as).length))], news := [.V, .Z], pre := pre, post := post }
def fV.pre : LD → Prop
 | [.N _, .V _, .Z z, .I _, .I _] => roomy z
 | _ => False
def fV.post : LD → Prop
 | [.N _, .V _, .Z z, .I v, .I n, .V _, .Z z'] => z' = z ++ oV v n
 | _ => False
def fV.sig : Sig := aZ5 [.i .u64, .i .i64] fV.pre fV.post
def fV.I0 : LD → Prop
 | [.N _, .V _, .Z z, .I v, .I n0, .I i, .Z z'] => -1 ≤ i ∧ i < clamp 1 8 n0 ∧ z' = z ++ (oV v n0).take (clamp 1 8 n0 - 1 - i).toNat
 | _ => False
def fV.I0M : LD → Nat
 | [.N _, .V _, .Z _, .I _, .I _, .I i, .Z _] => (i + 1).toNat
 | _ => 0
def Width.post : LD → Prop
 | [.I v, .I r] => r = bH v
 | _ => False
def Width.sig : Sig := gQ [.i .u64] [.i .i64] tru Width.post
def Width.I0 : LD → Prop
 | [.I v0, .I v, .I n] => 1 ≤ n ∧ n ≤ 8 ∧ v = v0 / 256 ^ (n - 1).toNat ∧ (n = 1 ∨ 256 ^ (n - 1).toNat ≤ v0)
 | _ => False
def Width.I0M : LD → Nat
 | [.I _, .I v, .I _] => v.toNat
 | _ => 0
def kT.pre : LD → Prop
 | [.N _, .V _, .Z z, .I _] => z.length ≤ 3000000000
 | _ => False
def kT.post : LD → Prop
 | [.N _, .V _, .Z z, .I v, .V _, .Z z'] => z' = z ++ dA v
 | _ => False
def kT.sig : Sig := aZ5 [.i .u64] kT.pre kT.post
def nD.pre : LD → Prop
 | [.N _, .V _, .Z z, .S s] => z.length ≤ 1000000000 ∧ s.size ≤ 1000000000
 | _ => False
def nD.post : LD → Prop
 | [.N _, .V _, .Z z, .S s, .V _, .Z z'] => z' = z ++ gV s
 | _ => False
def nD.sig : Sig := aZ5 [.s] nD.pre nD.post
def mF.post : LD → Prop
 | [.N _, .V _, .Z z, .S s, .V _, .Z z'] => z' = z ++ bytesOf s
 | _ => False
def mF.sig : Sig := aZ5 [.s] nD.pre mF.post
def nU.post : LD → Prop
 | [.N _, .V _, .Z z, .S r] => r = textOf z
 | _ => False
def nU.sig : Sig :=
 { args := [.one (.lf (.ptr (.at 0) 0))], heap := [.box (.at 0) [.lf (.sl (.at 1))], .osl (.at 1) [.int .u8] (.at 2)], aA := [.N, .V, .Z],
   res := .one (.lf (.str (.at 3))), heap' := [.box (.at 0) [.lf (.sl (.at 1))], .osl (.at 1) [.int .u8] (.at 2)], news := [.S], pre := tru, post := nU.post }
def gB.pre : LD → Prop
 | [.I _, .I n] => 1 ≤ n ∧ n ≤ 8
 | _ => False
def gB.post : LD → Prop
 | [.I v, .I n, .S r] => r = textOf (oV v n)
 | _ => False
def gB.sig : Sig := gQ [.i .u64, .i .i64] [.s] gB.pre gB.post
def gB.I0 : LD → Prop
 | [.I v, .I n, .S s, .I i] => 0 ≤ i ∧ i ≤ n ∧ s = textOf ((bytesLE v i.toNat).reverse)
 | _ => False
def gB.I0M : LD → Nat
 | [.I _, .I n, .S _, .I i] => (n - i).toNat
 | _ => 0
def fU.post : LD → Prop
 | [.I v, .S r] => r = textOf (dA v)
 | _ => False
def fU.sig : Sig := gQ [.i .u64] [.s] tru fU.post
def fU.I0 : LD → Prop
 | [.I v, .I n, .I i] => 1 ≤ i ∧ i ≤ 8 ∧ 1 ≤ n ∧ n ≤ i ∧ (n = 1 ∨ 256 ^ (n - 1).toNat ≤ v) ∧ ∀ j : Nat, n ≤ (j : Int) → (j : Int) < i → v < 256 ^ j
 | _ => False
def fU.I0M : LD → Nat
 | [.I _, .I _, .I i] => (8 - i).toNat
 | _ => 0
def aK (S : BA) (at_ err n : Int) : Int × Int × BA :=
 if err ≠ 0 then (at_, err, ByteArray.empty) else if n < 0 ∨ (S.size : Int) - at_ < n then (at_, 2, ByteArray.empty) else (at_ + n, err, S.extract at_.toNat (at_ + n).toNat)
def dK (l : LI) : Int := l.foldl (fun v c => 256 * v + c) 0
def bY (S : BA) (at_ err n : Int) : Int × Int × Int :=
 let r := aK S at_ err (clamp 1 8 n)
 (r.1, r.2.1, dK (bytesOf r.2.2))
def rdNum (S : BA) (at_ err : Int) : Int × Int × Int :=
 let r := bY S at_ err 1
 if r.2.1 ≠ 0 ∨ r.2.2 < 248 then r else
 let q := bY S r.1 r.2.1 (r.2.2 - 247)
 let e := if q.2.1 = 0 ∧ (q.2.2 < 248 ∨ bH q.2.2 ≠ r.2.2 - 247) then 3 else q.2.1
 if e ≠ 0 then (at_, e, 0) else (q.1, e, q.2.2)
def jM (S : BA) (at_ err most : Int) : Int × Int × BA :=
 let r := rdNum S at_ err
 let e := if r.2.1 = 0 ∧ r.2.2 > max most 0 then 12 else r.2.1
 let q := aK S r.1 e (min r.2.2 1099511627776)
 (if q.2.1 ≠ 0 then at_ else q.1, q.2.1, q.2.2)
def mV (S : BA) (at_ err : Int) : Int := if at_ < S.size ∧ err = 0 then 3 else err
def aC7 (as rs : List AK) (pre post : LD → Prop) : Sig :=
 let n := 4 + (lX as).length
 { args := .one (.lf (.ptr (.at 0) 0)) :: vU 4 as, heap := [.box (.at 0) [.lf (.str (.at 1)), .lf (.int .i64 (.at 2)), .lf (.int .i64 (.at 3))]], aA := .N :: .S :: .I :: .I :: lX as,
   res := cM2 (vU (n + 2) rs), heap' := [.box (.at 0) [.lf (.str (.at 1)), .lf (.int .i64 (.at n)), .lf (.int .i64 (.at (n + 1)))]], news := .I :: .I :: lX rs, pre := pre, post := post }
def sQ.sig : Sig :=
 { args := [.one (.lf (.str (.at 0)))], heap := [], aA := [.S], res := .one (.lf (.ptr (.at 1) 0)), heap' := [.box (.at 1) [.lf (.str (.at 0)), .lf (.int .i64 (.int 0)), .lf (.int .i64 (.int 0))]], news := [.N], pre := tru, post := tru }
def pR.sig : Sig :=
 { args := [.one (.lf (.ptr (.at 0) 0))], heap := [.box (.at 0) [.lf (.str (.at 1)), .lf (.int .i64 (.at 2)), .lf (.int .i64 (.at 3))]], aA := [.N, .S, .I, .I],
   res := .one (.lf (.int .i64 (.at 3))), heap' := [.box (.at 0) [.lf (.str (.at 1)), .lf (.int .i64 (.at 2)), .lf (.int .i64 (.at 3))]], news := [], pre := tru, post := tru }
def eH.pre : LD → Prop
 | .N _ :: .S s :: .I a :: .I _ :: _ => 0 ≤ a ∧ a ≤ s.size
 | _ => False
def eH.post : LD → Prop
 | [.N _, .S s, .I a, .I e, .I n, .I a', .I e', .S r] => (a', e', r) = aK s a e n
 | _ => False
def eH.sig : Sig := aC7 [.i .i64] [.s] eH.pre eH.post
def iY.post : LD → Prop
 | [.N _, .S s, .I a, .I e, .I n, .I a', .I e', .I r] => (a', e', r) = bY s a e n
 | _ => False
def iY.sig : Sig := aC7 [.i .i64] [.i .u64] eH.pre iY.post
def iY.I0 : LD → Prop
 | [.N _, .S s, .I a, .I e, .I n, .I v, .I i] => 0 ≤ i ∧ i ≤ (bytesOf (aK s a e (clamp 1 8 n)).2.2).length ∧ v = dK ((bytesOf (aK s a e (clamp 1 8 n)).2.2).take i.toNat)
 | _ => False
def iY.I0M : LD → Nat
 | [.N _, .S s, .I a, .I e, .I n, .I _, .I i] => (((bytesOf (aK s a e (clamp 1 8 n)).2.2).length : Int) - i).toNat
 | _ => 0
def gW.post : LD → Prop
 | [.N _, .S s, .I a, .I e, .I a', .I e', .I r] => (a', e', r) = rdNum s a e
 | _ => False
def gW.sig : Sig := aC7 [] [.i .u64] eH.pre gW.post
def kE.post : LD → Prop
 | [.N _, .S s, .I a, .I e, .I m, .I a', .I e', .S r] => (a', e', r) = jM s a e m
 | _ => False
def kE.sig : Sig := aC7 [.i .i64] [.s] eH.pre kE.post
def kR.post : LD → Prop
 | [.N _, .S _, .I a, .I e, .I x, .I a', .I e'] => a' = a ∧ e' = if e = 0 then x else e
 | _ => False
def kR.sig : Sig := aC7 [.i .i64] [] eH.pre kR.post
def lD.post : LD → Prop
 | [.N _, .S s, .I a, .I e, .I a', .I e', .I r] => a' = a ∧ e' = mV s a e ∧ r = e'
 | _ => False
def lD.sig : Sig := aC7 [] [.i .i64] eH.pre lD.post
def cutF (s : BA) (n : Nat) : BA := if (s.size : Int) > n then s.extract 0 n else s
end Go.Vc
namespace Go.Vc
set_option linter.unusedVariables false
def fV.Pure : Prop :=
 ∀ n0 : Nat,
 ∀ v1 : Value,
 ∀ z2 : LI,
 ∀ i3 i4 : Int,
 U64 i3 →
 R64 i4 →
 (∀ x ∈ z2, IntKind.has .u8 x) →
 fV.sig.pre [.N n0, .V v1, .Z z2, .I i3, .I i4] →
 fV.I0 [.N n0, .V v1, .Z z2, .I i3, .I i4, .I (wrap .i64 ((iQ (fJ i4 1) 8) - 1)), .Z z2] ∧ (
 ∀ i5 : Int,
 ∀ v6 : Value,
 ∀ z7 : LI,
 R64 i5 →
 (∀ x ∈ z7, IntKind.has .u8 x) →
 fV.I0 [.N n0, .V v1, .Z z2, .I i3, .I i4, .I i5, .Z z7] →
 ((
 (0 ≤ i5) →
 ((
  Field.sig.pre [.I i3, .I (wrap .i64 (8 * i5)), .I 8] ∧ (
 ∀ i8 : Int,
  Field.sig.post [.I i3, .I (wrap .i64 (8 * i5)), .I 8, .I i8] →
 U64 i8 →
 ∀ v9 : Value,
 Im (((z7 ++ ((wrap .u8 i8) :: ([] : LI))).length : Int) ≤ (140737488355328 : Int)) (
 ∀ v10 : Value,
  Bk fV.I0 fV.I0M [.N n0, .V v1, .Z z2, .I i3, .I i4, .I (wrap .i64 (i5 - 1)), .Z (z7 ++ ((wrap .u8 i8) :: ([] : LI)))] [.N n0, .V v1, .Z z2, .I i3, .I i4, .I i5, .Z z7]))) ∧ (
  Field.sig.pre [.I i3, .I (wrap .i64 (8 * i5)), .I 8] ∧ (
 ∀ i8 : Int,
  Field.sig.post [.I i3, .I (wrap .i64 (8 * i5)), .I 8, .I i8] →
 U64 i8 →
 ((
 ∀ v9 : Value,
 Im (((z7 ++ ((wrap .u8 i8) :: ([] : LI))).length : Int) ≤ (140737488355328 : Int)) (
 ∀ v10 : Value,
  Bk fV.I0 fV.I0M [.N n0, .V v1, .Z z2, .I i3, .I i4, .I (wrap .i64 (i5 - 1)), .Z (z7 ++ ((wrap .u8 i8) :: ([] : LI)))] [.N n0, .V v1, .Z z2, .I i3, .I i4, .I i5, .Z z7])) ∧ (
 ∀ v9 : Value,
 Im (((z7 ++ ((wrap .u8 i8) :: ([] : LI))).length : Int) ≤ (140737488355328 : Int)) (
 ∀ v10 : Value,
  Bk fV.I0 fV.I0M [.N n0, .V v1, .Z z2, .I i3, .I i4, .I (wrap .i64 (i5 - 1)), .Z (z7 ++ ((wrap .u8 i8) :: ([] : LI)))] [.N n0, .V v1, .Z z2, .I i3, .I i4, .I i5, .Z z7]))))))) ∧ (
 (i5 < 0) →
  fV.sig.post [.N n0, .V v1, .Z z2, .I i3, .I i4, .V v6, .Z z7])))
def Width.Pure : Prop :=
 ∀ i0 : Int,
 U64 i0 →
 Width.sig.pre [.I i0] →
 Width.I0 [.I i0, .I i0, .I 1] ∧ (
 ∀ i1 i2 : Int,
 U64 i1 →
 R64 i2 →
 Width.I0 [.I i0, .I i1, .I i2] →
 ((
 ((aW .u64 i1 8) ≠ 0) →
  Bk Width.I0 Width.I0M [.I i0, .I (aW .u64 i1 8), .I (wrap .i64 (i2 + 1))] [.I i0, .I i1, .I i2]) ∧ (
 ((aW .u64 i1 8) = 0) →
  Width.sig.post [.I i0, .I i2])))
def kT.Pure : Prop :=
 ∀ n0 : Nat,
 ∀ v1 : Value,
 ∀ z2 : LI,
 ∀ i3 : Int,
 U64 i3 →
 (∀ x ∈ z2, IntKind.has .u8 x) →
 kT.sig.pre [.N n0, .V v1, .Z z2, .I i3] →
 ((
 (i3 < 248) →
 ∀ v4 : Value,
 Im (((z2 ++ ((wrap .u8 i3) :: ([] : LI))).length : Int) ≤ (140737488355328 : Int)) (
 ∀ v5 : Value,
  kT.sig.post [.N n0, .V v1, .Z z2, .I i3, .V v5, .Z (z2 ++ ((wrap .u8 i3) :: ([] : LI)))])) ∧ (
 (248 ≤ i3) →
  Width.sig.pre [.I i3] ∧ (
 ∀ i4 : Int,
  Width.sig.post [.I i3, .I i4] →
 R64 i4 →
 ∀ v5 : Value,
 Im (((z2 ++ ((wrap .u8 (wrap .i64 ((wrap .i64 ((248 : Int) + i4)) - (1 : Int)))) :: ([] : LI))).length : Int) ≤ (140737488355328 : Int)) (
 ∀ v6 : Value,
  fV.sig.pre [.N n0, .V v6, .Z (z2 ++ ((wrap .u8 (wrap .i64 ((wrap .i64 (248 + i4)) - 1))) :: ([] : LI))), .I i3, .I i4] ∧ (
 ∀ v7 : Value,
 ∀ z8 : LI,
  fV.sig.post [.N n0, .V v6, .Z (z2 ++ ((wrap .u8 (wrap .i64 ((wrap .i64 (248 + i4)) - 1))) :: ([] : LI))), .I i3, .I i4, .V v7, .Z z8] →
 (∀ x ∈ z8, IntKind.has .u8 x) →
  kT.sig.post [.N n0, .V v1, .Z z2, .I i3, .V v7, .Z z8])))))
def nD.Pure : Prop :=
 ∀ n0 : Nat,
 ∀ v1 : Value,
 ∀ z2 : LI,
 ∀ s3 : BA,
 ((s3.size : Int) ≤ 9223372036854775807) →
 (∀ x ∈ z2, IntKind.has .u8 x) →
 nD.sig.pre [.N n0, .V v1, .Z z2, .S s3] →
 kT.sig.pre [.N n0, .V v1, .Z z2, .I (wrap .u64 (s3.size : Int))] ∧ (
 ∀ v4 : Value,
 ∀ z5 : LI,
 kT.sig.post [.N n0, .V v1, .Z z2, .I (wrap .u64 (s3.size : Int)), .V v4, .Z z5] →
 (∀ x ∈ z5, IntKind.has .u8 x) →
 Im (((z5 ++ (bytesOf s3)).length : Int) ≤ (140737488355328 : Int)) (
 ∀ v6 : Value,
 nD.sig.post [.N n0, .V v1, .Z z2, .S s3, .V v6, .Z (z5 ++ (bytesOf s3))]))
def mF.Pure : Prop :=
 ∀ n0 : Nat,
 ∀ v1 : Value,
 ∀ z2 : LI,
 ∀ s3 : BA,
 ((s3.size : Int) ≤ 9223372036854775807) →
 (∀ x ∈ z2, IntKind.has .u8 x) →
 mF.sig.pre [.N n0, .V v1, .Z z2, .S s3] →
 Im (((z2 ++ (bytesOf s3)).length : Int) ≤ (140737488355328 : Int)) (
 ∀ v4 : Value,
 mF.sig.post [.N n0, .V v1, .Z z2, .S s3, .V v4, .Z (z2 ++ (bytesOf s3))])
def nU.Pure : Prop :=
 ∀ n0 : Nat,
 ∀ v1 : Value,
 ∀ z2 : LI,
 (∀ x ∈ z2, IntKind.has .u8 x) →
 nU.sig.pre [.N n0, .V v1, .Z z2] →
 nU.sig.post [.N n0, .V v1, .Z z2, .S (textOf z2)]
def gB.Pure : Prop :=
 ∀ i0 i1 : Int,
 U64 i0 →
 R64 i1 →
 gB.sig.pre [.I i0, .I i1] →
 kF.sig.pre [.I i0, .I i1] ∧ (
 ∀ s2 : BA,
 kF.sig.post [.I i0, .I i1, .S s2] →
 ((s2.size : Int) ≤ 9223372036854775807) →
 ∀ v3 : Value,
 gB.I0 [.I i0, .I i1, .S (⟨#[]⟩ : BA), .I 0] ∧ (
 ∀ s4 : BA,
 ∀ i5 : Int,
 ((s4.size : Int) ≤ 9223372036854775807) →
 R64 i5 →
 gB.I0 [.I i0, .I i1, .S s4, .I i5] →
 ((
 (i5 < ((bytesOf s2).length : Int)) →
 Im (0 ≤ i5) (
 ∀ v6 : Value,
 Im ((((textOf (((bytesOf s2).getD i5.toNat 0) :: ([] : LI))) ++ s4).size : Int) ≤ (9223372036854775807 : Int)) (
  Bk gB.I0 gB.I0M [.I i0, .I i1, .S ((textOf (((bytesOf s2).getD i5.toNat 0) :: ([] : LI))) ++ s4), .I (wrap .i64 (i5 + 1))] [.I i0, .I i1, .S s4, .I i5]))) ∧ (
 (((bytesOf s2).length : Int) ≤ i5) →
  gB.sig.post [.I i0, .I i1, .S s4]))))
def fU.Pure : Prop :=
 ∀ i0 : Int,
 U64 i0 →
 fU.sig.pre [.I i0] →
 ((
 (i0 < 248) →
 ∀ v1 : Value,
  fU.sig.post [.I i0, .S (textOf ((wrap .u8 i0) :: ([] : LI)))]) ∧ (
 (248 ≤ i0) →
  fU.I0 [.I i0, .I 1, .I 1] ∧ (
 ∀ i1 i2 : Int,
 R64 i1 →
 R64 i2 →
  fU.I0 [.I i0, .I i1, .I i2] →
 ((
 (i2 < 8) →
  pU.sig.pre [.I i0, .I (wrap .i64 (8 * i2)), .I 64] ∧ (
 ∀ i3 : Int,
  pU.sig.post [.I i0, .I (wrap .i64 (8 * i2)), .I 64, .I i3] →
 U64 i3 →
 ((
 (0 < i3) →
  Bk fU.I0 fU.I0M [.I i0, .I (wrap .i64 (i2 + 1)), .I (wrap .i64 (i2 + 1))] [.I i0, .I i1, .I i2]) ∧ (
 (i3 ≤ 0) →
  Bk fU.I0 fU.I0M [.I i0, .I i1, .I (wrap .i64 (i2 + 1))] [.I i0, .I i1, .I i2])))) ∧ (
 (8 ≤ i2) →
 ((
 ∀ v3 : Value,
 ((
   gB.sig.pre [.I i0, .I i1] ∧ (
 ∀ s4 : BA,
   gB.sig.post [.I i0, .I i1, .S s4] →
 ((s4.size : Int) ≤ 9223372036854775807) →
 Im ((((textOf ((wrap .u8 (wrap .i64 ((247 : Int) + i1))) :: ([] : LI))) ++ s4).size : Int) ≤ (9223372036854775807 : Int)) (
     fU.sig.post [.I i0, .S ((textOf ((wrap .u8 (wrap .i64 (247 + i1))) :: ([] : LI))) ++ s4)]))) ∧ (
     gB.sig.pre [.I i0, .I i1] ∧ (
 ∀ s4 : BA,
   gB.sig.post [.I i0, .I i1, .S s4] →
 ((s4.size : Int) ≤ 9223372036854775807) →
 Im ((((textOf ((wrap .u8 (wrap .i64 ((247 : Int) + i1))) :: ([] : LI))) ++ s4).size : Int) ≤ (9223372036854775807 : Int)) (
     fU.sig.post [.I i0, .S ((textOf ((wrap .u8 (wrap .i64 (247 + i1))) :: ([] : LI))) ++ s4)]))))) ∧ (
  gB.sig.pre [.I i0, .I i1] ∧ (
 ∀ s3 : BA,
  gB.sig.post [.I i0, .I i1, .S s3] →
 ((s3.size : Int) ≤ 9223372036854775807) →
 ∀ v4 : Value,
 Im ((((textOf ((wrap .u8 (wrap .i64 ((247 : Int) + i1))) :: ([] : LI))) ++ s3).size : Int) ≤ (9223372036854775807 : Int)) (
  fU.sig.post [.I i0, .S ((textOf ((wrap .u8 (wrap .i64 (247 + i1))) :: ([] : LI))) ++ s3)])))))))))
def sQ.Pure : Prop :=
 ∀ s0 : BA,
 ((s0.size : Int) ≤ 9223372036854775807) →
 sQ.sig.pre [.S s0] →
 ∀ n1 : Nat,
 sQ.sig.post [.S s0, .N n1]
def pR.Pure : Prop :=
 ∀ n0 : Nat,
 ∀ s1 : BA,
 ∀ i2 i3 : Int,
 ((s1.size : Int) ≤ 9223372036854775807) →
 R64 i2 →
 R64 i3 →
 pR.sig.pre [.N n0, .S s1, .I i2, .I i3] →
 pR.sig.post [.N n0, .S s1, .I i2, .I i3]
def eH.Pure : Prop :=
 ∀ n0 : Nat,
 ∀ s1 : BA,
 ∀ i2 i3 i4 : Int,
 R64 i4 →
 ((s1.size : Int) ≤ 9223372036854775807) →
 R64 i2 →
 R64 i3 →
 eH.sig.pre [.N n0, .S s1, .I i2, .I i3, .I i4] →
 ((
 (i3 ≠ 0) →
  eH.sig.post [.N n0, .S s1, .I i2, .I i3, .I i4, .I i2, .I i3, .S (⟨#[]⟩ : BA)]) ∧ (
 (i3 = 0) →
 ((
 (i4 < 0) →
  eH.sig.post [.N n0, .S s1, .I i2, .I i3, .I i4, .I i2, .I 2, .S (⟨#[]⟩ : BA)]) ∧ (
 (0 ≤ i4) →
 ((
 ((wrap .i64 ((s1.size : Int) - i2)) < i4) →
  eH.sig.post [.N n0, .S s1, .I i2, .I i3, .I i4, .I i2, .I 2, .S (⟨#[]⟩ : BA)]) ∧ (
 (i4 ≤ (wrap .i64 ((s1.size : Int) - i2))) →
 Im ((wrap .i64 ((wrap .i64 (i2 + i4)) - i4)) ≤ (wrap .i64 (i2 + i4))) (
 Im (0 ≤ (wrap .i64 ((wrap .i64 (i2 + i4)) - i4))) (
 Im ((wrap .i64 (i2 + i4)) ≤ (s1.size : Int)) (
  eH.sig.post [.N n0, .S s1, .I i2, .I i3, .I i4, .I (wrap .i64 (i2 + i4)), .I i3, .S (s1.extract (wrap .i64 ((wrap .i64 (i2 + i4)) - i4)).toNat (wrap .i64 (i2 + i4)).toNat)])))))))))
def iY.Pure : Prop :=
 ∀ n0 : Nat,
 ∀ s1 : BA,
 ∀ i2 i3 i4 : Int,
 R64 i4 →
 ((s1.size : Int) ≤ 9223372036854775807) →
 R64 i2 →
 R64 i3 →
 iY.sig.pre [.N n0, .S s1, .I i2, .I i3, .I i4] →
 eH.sig.pre [.N n0, .S s1, .I i2, .I i3, .I (iQ (fJ i4 1) 8)] ∧ (
 ∀ i5 i6 : Int,
 ∀ s7 : BA,
 eH.sig.post [.N n0, .S s1, .I i2, .I i3, .I (iQ (fJ i4 1) 8), .I i5, .I i6, .S s7] →
 ((s7.size : Int) ≤ 9223372036854775807) →
 R64 i5 →
 R64 i6 →
 ∀ v8 : Value,
 iY.I0 [.N n0, .S s1, .I i2, .I i3, .I i4, .I 0, .I 0] ∧ (
 ∀ i9 i10 : Int,
 U64 i9 →
 R64 i10 →
 iY.I0 [.N n0, .S s1, .I i2, .I i3, .I i4, .I i9, .I i10] →
 ((
 (i10 < ((bytesOf s7).length : Int)) →
 Im (0 ≤ i10) (
  Bk iY.I0 iY.I0M [.N n0, .S s1, .I i2, .I i3, .I i4, .I (Go.bits .or .u64 (fC .u64 i9 8) (wrap .u64 ((bytesOf s7).getD i10.toNat 0))), .I (wrap .i64 (i10 + 1))] [.N n0, .S s1, .I i2, .I i3, .I i4, .I i9, .I i10])) ∧ (
 (((bytesOf s7).length : Int) ≤ i10) →
  iY.sig.post [.N n0, .S s1, .I i2, .I i3, .I i4, .I i5, .I i6, .I i9]))))
def gW.Pure : Prop :=
 ∀ n0 : Nat,
 ∀ s1 : BA,
 ∀ i2 i3 : Int,
 ((s1.size : Int) ≤ 9223372036854775807) →
 R64 i2 →
 R64 i3 →
 gW.sig.pre [.N n0, .S s1, .I i2, .I i3] →
 iY.sig.pre [.N n0, .S s1, .I i2, .I i3, .I 1] ∧ (
 ∀ i4 i5 i6 : Int,
 iY.sig.post [.N n0, .S s1, .I i2, .I i3, .I 1, .I i4, .I i5, .I i6] →
 U64 i6 →
 R64 i4 →
 R64 i5 →
 ((
 (i5 ≠ 0) →
  gW.sig.post [.N n0, .S s1, .I i2, .I i3, .I i4, .I i5, .I i6]) ∧ (
 (i5 = 0) →
 ((
 (i6 < 248) →
  gW.sig.post [.N n0, .S s1, .I i2, .I i3, .I i4, .I i5, .I i6]) ∧ (
 (248 ≤ i6) →
  iY.sig.pre [.N n0, .S s1, .I i4, .I i5, .I (wrap .i64 ((wrap .i64 ((wrap .i64 i6) - 248)) + 1))] ∧ (
 ∀ i7 i8 i9 : Int,
  iY.sig.post [.N n0, .S s1, .I i4, .I i5, .I (wrap .i64 ((wrap .i64 ((wrap .i64 i6) - 248)) + 1)), .I i7, .I i8, .I i9] →
 U64 i9 →
 R64 i7 →
 R64 i8 →
 ((
 (i8 = 0) →
 ((
 (i9 < 248) →
 ((
 ((3 : Int) ≠ (0 : Int)) →
   gW.sig.post [.N n0, .S s1, .I i2, .I i3, .I i2, .I 3, .I 0]) ∧ (
 ((3 : Int) = (0 : Int)) →
   gW.sig.post [.N n0, .S s1, .I i2, .I i3, .I i7, .I 3, .I i9]))) ∧ (
 (248 ≤ i9) →
   Width.sig.pre [.I i9] ∧ (
 ∀ i10 : Int,
   Width.sig.post [.I i9, .I i10] →
 R64 i10 →
 ((
 (i10 ≠ (wrap .i64 ((wrap .i64 ((wrap .i64 i6) - 248)) + 1))) →
 ((
 ((3 : Int) ≠ (0 : Int)) →
    gW.sig.post [.N n0, .S s1, .I i2, .I i3, .I i2, .I 3, .I 0]) ∧ (
 ((3 : Int) = (0 : Int)) →
    gW.sig.post [.N n0, .S s1, .I i2, .I i3, .I i7, .I 3, .I i9]))) ∧ (
 (i10 = (wrap .i64 ((wrap .i64 ((wrap .i64 i6) - 248)) + 1))) →
 ((
 (i8 ≠ 0) →
    gW.sig.post [.N n0, .S s1, .I i2, .I i3, .I i2, .I i8, .I 0]) ∧ (
 (i8 = 0) →
    gW.sig.post [.N n0, .S s1, .I i2, .I i3, .I i7, .I i8, .I i9])))))))) ∧ (
 (i8 ≠ 0) →
 ((
 (i8 ≠ 0) →
   gW.sig.post [.N n0, .S s1, .I i2, .I i3, .I i2, .I i8, .I 0]) ∧ (
 (i8 = 0) →
   gW.sig.post [.N n0, .S s1, .I i2, .I i3, .I i7, .I i8, .I i9]))))))))))
end Go.Vc
namespace Go.Vc
theorem dD6 {v a r : Int} (hv : 0 ≤ v ∧ v < 18446744073709551616) (hr : 0 ≤ r ∧ r < 18446744073709551616) {n : Nat} (hn : n < 8) (ha : a = 8 * (n : Int)) (h : Field.sig.post [.I v, .I a, .I 64, .I r]) : r = v / 256 ^ n := by
 subst ha
 have h : ∀ i, i < 64 → bt r i = (decide (0 ≤ 8 * (n : Int)) && decide (8 * (n : Int) < 64) && decide ((i : Int) < 64) && bt v (i + (8 * (n : Int)).toNat)) := h
 have hp : (0 : Int) < 256 ^ n := by rw [aJ2]; exact oJ _
 apply bF4 (aL9 hr) (aL9 ⟨Int.ediv_nonneg hv.1 (Int.le_of_lt hp), Int.lt_of_le_of_lt (Int.ediv_le_self _ hv.1) hv.2⟩)
 intro i hi
 rw [h i hi, aJ2, zJ, show (8 * (n : Int)).toNat = 8 * n from by omega]
 have e1 : 0 ≤ 8 * (n : Int) := by omega
 have e2 : 8 * (n : Int) < 64 := by omega
 have e3 : (i : Int) < 64 := by omega
 simp [e1, e2, e3]
theorem dD5 {v a r : Int} {n : Nat} (hn : n < 8) (ha : a = 8 * (n : Int)) (h : Field.sig.post [.I v, .I a, .I 8, .I r]) : wrap .u8 r = v / 256 ^ n % 256 := by
 subst ha
 have h : ∀ i, i < 64 → bt r i = (decide (0 ≤ 8 * (n : Int)) && decide (8 * (n : Int) < 64) && decide ((i : Int) < 8) && bt v (i + (8 * (n : Int)).toNat)) := h
 rw [IntKind.wrap_u8]
 apply bY1 (w := 8) (by omega) (by show _ < 256; omega) (by omega) (by show _ < 256; omega)
 intro i hi
 rw [bC0 _ _ _ hi, show (256 : Int) = 2 ^ 8 from rfl, aE7 _ hi, h i (by omega), show (8 * (n : Int)).toNat = 8 * n from by omega]
 have e1 : 0 ≤ 8 * (n : Int) := by omega
 have e2 : 8 * (n : Int) < 64 := by omega
 have e3 : (i : Int) < 8 := by omega
 simp [e1, e2, e3]
theorem xO (v : Int) (n : Nat) : (beB v n).length = n := by rw [beB, List.length_reverse, sS]
theorem cX3 (v : Int) (n : Nat) : ∀ x ∈ beB v n, 0 ≤ x ∧ x < 256 := fun x hx => aN7 v n x (List.mem_reverse.1 hx)
theorem bT0 (v : Int) {n k : Nat} (h : k < n) : (beB v n).getD k 0 = v / 256 ^ (n - 1 - k) % 256 := by
 have e : (beB v n).getD k 0 = (bytesLE v n).getD (n - 1 - k) 0 := by
  simp only [List.getD, beB]
  rw [List.getElem?_reverse (by rw [sS]; exact h), sS]
 rw [e, bU0 _ _ (by omega)]
theorem take_snoc' {l : LI} {i : Nat} (h : i < l.length) : l.take (i + 1) = l.take i ++ [l.getD i 0] := by
 rw [List.take_add_one]
 congr 1
 simp [List.getD, h]
theorem aO1 (n : Int) : 1 ≤ clamp 1 8 n ∧ clamp 1 8 n ≤ 8 := by unfold clamp; split <;> (try split) <;> omega
theorem bU9 (n : Int) : iQ (fJ n 1) 8 = clamp 1 8 n := by rw [aT3, aT2]; unfold clamp; split <;> (try split) <;> omega
theorem bG6 (v n : Int) : (oV v n).length = (clamp 1 8 n).toNat := xO _ _
theorem fV.pure : fV.Pure := by
 intro n0 v1 z2 i3 i4 h1 h2 h3 h4
 have h4 : z2.length ≤ 4000000000 := h4
 have hc := aO1 i4
 rw [bU9, aH (x := clamp 1 8 i4 - 1) (by omega) (by omega)]
 refine ⟨?_, ?_⟩
 ·refine ⟨by omega, by omega, ?_⟩
  rw [show (clamp 1 8 i4 - 1 - (clamp 1 8 i4 - 1)).toNat = 0 from by omega]; simp
 intro i5 v6 z7 h5 h6 h7
 have h7 : -1 ≤ i5 ∧ i5 < clamp 1 8 i4 ∧ z7 = z2 ++ (oV i3 i4).take (clamp 1 8 i4 - 1 - i5).toNat := h7
 obtain ⟨a, b, c⟩ := h7
 refine ⟨?_, ?_⟩
 ·intro h8
  rw [aH (x := 8 * i5) (by omega) (by omega), aH (x := i5 - 1) (by omega) (by omega)]
  have hl7 : z7.length ≤ 4000000008 := by
   rw [c, List.length_append, List.length_take, bG6]; omega
  have fin : ∀ i8 : Int, Field.sig.post [(D.I i3), (D.I (8 * i5)), (D.I 8), (D.I i8)] → (((z7 ++ [wrap .u8 i8]).length : Nat) : Int) ≤ 140737488355328 ∧
    (fV.I0 [(D.N n0), (D.V v1), (D.Z z2), (D.I i3), (D.I i4), (D.I (i5 - 1)), (D.Z (z7 ++ [wrap .u8 i8]))] ∧
    fV.I0M [(D.N n0), (D.V v1), (D.Z z2), (D.I i3), (D.I i4), (D.I (i5 - 1)), (D.Z (z7 ++ [wrap .u8 i8]))] < fV.I0M [(D.N n0), (D.V v1), (D.Z z2), (D.I i3), (D.I i4), (D.I i5), (D.Z z7)]) := by
   intro i8 h9
   refine ⟨by rw [List.length_append]; simp only [List.length_cons, List.length_nil]; omega, ⟨by omega, by omega, ?_⟩, ?_⟩
   ·rw [dD5 (n := i5.toNat) (by omega) (by omega) h9, c, List.append_assoc]
    congr 1
    rw [show (clamp 1 8 i4 - 1 - (i5 - 1)).toNat = (clamp 1 8 i4 - 1 - i5).toNat + 1 from by omega, take_snoc' (by rw [bG6]; omega)]
    congr 1
    rw [oV, bT0 _ (by omega), show (clamp 1 8 i4).toNat - 1 - (clamp 1 8 i4 - 1 - i5).toNat = i5.toNat from by omega]
   ·show (i5 - 1 + 1).toNat < (i5 + 1).toNat
    omega
  refine ⟨?_, ?_⟩
  ·refine ⟨trivial, ?_⟩
   intro i8 h9 h10 v9
   exact ⟨(fin i8 h9).1, fun _ v10 => (fin i8 h9).2⟩
  ·refine ⟨trivial, ?_⟩
   intro i8 h9 h10
   exact ⟨fun v9 => ⟨(fin i8 h9).1, fun _ v10 => (fin i8 h9).2⟩, fun v9 => ⟨(fin i8 h9).1, fun _ v10 => (fin i8 h9).2⟩⟩
 ·intro h8
  show z7 = z2 ++ oV i3 i4
  rw [c, List.take_of_length_le (by rw [bG6]; omega)]
theorem cU2 {v n : Int} (hv : 0 ≤ v ∧ v < 18446744073709551616) (h1 : 1 ≤ n) (h2 : n ≤ 8) (hlo : n = 1 ∨ 256 ^ (n - 1).toNat ≤ v) (hhi : n = 8 ∨ v < 256 ^ n.toNat) : bH v = n := by
 have hc : n = 1 ∨ n = 2 ∨ n = 3 ∨ n = 4 ∨ n = 5 ∨ n = 6 ∨ n = 7 ∨ n = 8 := by omega
 rcases hc with rfl | rfl | rfl | rfl | rfl | rfl | rfl | rfl
 ·have h : v < 256 := hhi.resolve_left (by decide)
  unfold bH; rw [if_pos h]
 ·have h : 256 ≤ v := hlo.resolve_left (by decide)
  have h' : v < 65536 := hhi.resolve_left (by decide)
  unfold bH; rw [if_neg (by omega), if_pos h']
 ·have h : 65536 ≤ v := hlo.resolve_left (by decide)
  have h' : v < 16777216 := hhi.resolve_left (by decide)
  unfold bH; rw [if_neg (by omega), if_neg (by omega), if_pos h']
 ·have h : 16777216 ≤ v := hlo.resolve_left (by decide)
  have h' : v < 4294967296 := hhi.resolve_left (by decide)
  unfold bH; rw [if_neg (by omega), if_neg (by omega), if_neg (by omega), if_pos h']
 ·have h : 4294967296 ≤ v := hlo.resolve_left (by decide)
  have h' : v < 1099511627776 := hhi.resolve_left (by decide)
  unfold bH; rw [if_neg (by omega), if_neg (by omega), if_neg (by omega), if_neg (by omega), if_pos h']
 ·have h : 1099511627776 ≤ v := hlo.resolve_left (by decide)
  have h' : v < 281474976710656 := hhi.resolve_left (by decide)
  unfold bH; rw [if_neg (by omega), if_neg (by omega), if_neg (by omega), if_neg (by omega), if_neg (by omega), if_pos h']
 ·have h : 281474976710656 ≤ v := hlo.resolve_left (by decide)
  have h' : v < 72057594037927936 := hhi.resolve_left (by decide)
  unfold bH; rw [if_neg (by omega), if_neg (by omega), if_neg (by omega), if_neg (by omega), if_neg (by omega), if_neg (by omega), if_pos h']
 ·have h : 72057594037927936 ≤ v := hlo.resolve_left (by decide)
  unfold bH; rw [if_neg (by omega), if_neg (by omega), if_neg (by omega), if_neg (by omega), if_neg (by omega), if_neg (by omega), if_neg (by omega)]
theorem aM2 (v : Int) : 1 ≤ bH v ∧ bH v ≤ 8 := by
 unfold bH
 repeat' split
 all_goals decide
theorem shr8 {v : Int} : aW .u64 v 8 = v / 256 := by
 show v.fdiv (2 ^ 8) = v / 256
 rw [Int.fdiv_eq_ediv_of_nonneg _ (by decide)]; rfl
theorem aJ1 (n : Nat) : (0 : Int) < 256 ^ n := by rw [aJ2]; exact oJ _
theorem Width.pure : Width.Pure := by
 intro i0 h1 h2
 refine ⟨?_, ?_⟩
 ·exact ⟨by decide, by decide, by simp, .inl rfl⟩
 intro i1 i2 h3 h4 h5
 have h5 : 1 ≤ i2 ∧ i2 ≤ 8 ∧ i1 = i0 / 256 ^ (i2 - 1).toNat ∧ (i2 = 1 ∨ 256 ^ (i2 - 1).toNat ≤ i0) := h5
 obtain ⟨a, b, c, d⟩ := h5
 rw [shr8]
 have e1 : i1 / 256 = i0 / 256 ^ i2.toNat := by
  rw [c, ← bE4, show (i2 - 1).toNat + 1 = i2.toNat from by omega]
 refine ⟨?_, ?_⟩
 ·intro h6
  have hge : 256 ^ i2.toNat ≤ i0 := by
   apply Classical.byContradiction
   intro hc
   rw [e1, Int.ediv_eq_zero_of_lt h1.1 (by omega)] at h6
   exact h6 rfl
  have hlt8 : i2 < 8 := by
   apply Classical.byContradiction
   intro hc
   have : i2 = 8 := by omega
   subst this
   have : (18446744073709551616 : Int) ≤ i0 := hge
   omega
  rw [aH (by omega) (by omega)]
  refine ⟨?_, ?_⟩
  ·refine ⟨by omega, by omega, ?_, .inr ?_⟩
   ·rw [e1, show (i2 + 1 - 1).toNat = i2.toNat from by omega]
   ·rw [show (i2 + 1 - 1).toNat = i2.toNat from by omega]; exact hge
  ·show (i1 / 256).toNat < i1.toNat
   have : 0 < i1 := by
    apply Classical.byContradiction
    intro hc
    have : i1 = 0 := by omega
    rw [this] at h6; exact h6 rfl
   omega
 ·intro h6
  show i2 = bH i0
  symm
  apply cU2 h1 a b d
  right
  apply Classical.byContradiction
  intro hc
  have : 1 ≤ i0 / 256 ^ i2.toNat := Int.le_ediv_of_mul_le (aJ1 _) (by omega)
  omega
end Go.Vc
namespace Go.Vc
theorem aB6 (v : Int) : (dA v).length ≤ 9 ∧ 1 ≤ (dA v).length := by
 have := aM2 v
 unfold dA
 split
 ·simp
 ·rw [List.length_cons, xO]; omega
theorem bZ0 {v : Int} : oV v (bH v) = beB v (bH v).toNat := by
 have := aM2 v
 rw [oV, show clamp 1 8 (bH v) = bH v from by unfold clamp; rw [if_neg (by omega), if_neg (by omega)]]
theorem kT.pure : kT.Pure := by
 intro n0 v1 z2 i3 h1 h2 h3
 have h3 : z2.length ≤ 3000000000 := h3
 refine ⟨?_, ?_⟩
 ·intro h4 v4
  refine ⟨?_, fun h5 => ?_⟩
  ·rw [List.length_append]; simp only [List.length_cons, List.length_nil]; omega
  intro v5
  show z2 ++ [wrap .u8 i3] = z2 ++ dA i3
  rw [dA, if_pos h4, IntKind.wrap_u8, show i3 % 256 = i3 from by omega]
 ·intro h4
  refine ⟨trivial, ?_⟩
  intro i4 h5 h6 v5
  have h5 : i4 = bH i3 := h5
  have hw := aM2 i3
  have e : wrap .u8 (wrap .i64 ((wrap .i64 ((248 : Int) + i4)) - (1 : Int))) = 247 + bH i3 := by
   rw [h5, aH (x := 248 + bH i3) (by omega) (by omega), aH (by omega) (by omega), IntKind.wrap_u8]; omega
  rw [e]
  refine ⟨?_, fun h7 => ?_⟩
  ·rw [List.length_append]; simp only [List.length_cons, List.length_nil]; omega
  intro v6
  refine ⟨?_, ?_⟩
  ·show (z2 ++ [247 + bH i3]).length ≤ 4000000000
   rw [List.length_append]; simp only [List.length_cons, List.length_nil]; omega
  intro v7 z8 h8 h9
  have h8 : z8 = z2 ++ [247 + bH i3] ++ oV i3 i4 := h8
  show z8 = z2 ++ dA i3
  rw [h8, h5, bZ0, dA, if_neg (by omega), List.append_assoc]; rfl
theorem nD.pure : nD.Pure := by
 intro n0 v1 z2 s3 h1 h2 h3
 have h3 : z2.length ≤ 1000000000 ∧ s3.size ≤ 1000000000 := h3
 rw [eY (by omega) (by omega)]
 refine ⟨?_, ?_⟩
 ·show z2.length ≤ 3000000000
  omega
 intro v4 z5 h4 h5
 have h4 : z5 = z2 ++ dA s3.size := h4
 have hn := aB6 s3.size
 refine ⟨?_, fun h6 => ?_⟩
 ·rw [h4, List.length_append, List.length_append, bytesOf_length']; omega
 intro v6
 show z5 ++ bytesOf s3 = z2 ++ gV s3
 rw [h4, gV, List.append_assoc]
theorem mF.pure : mF.Pure := by
 intro n0 v1 z2 s3 h1 h2 h3
 have h3 : z2.length ≤ 1000000000 ∧ s3.size ≤ 1000000000 := h3
 refine ⟨?_, fun h4 => ?_⟩
 ·rw [List.length_append, bytesOf_length']; omega
 intro v4
 rfl
theorem nU.pure : nU.Pure := by
 intro n0 v1 z2 h1 h2
 rfl
theorem gB.pure : gB.Pure := by
 intro i0 i1 h1 h2 h3
 have h3 : 1 ≤ i1 ∧ i1 ≤ 8 := h3
 refine ⟨trivial, ?_⟩
 intro s2 h4 h5 v3
 have hc8 : clamp 0 8 i1 = i1 := by unfold clamp; rw [if_neg (by omega), if_neg (by omega)]
 have h4 : s2 = textOf (bytesLE i0 (clamp 0 8 i1).toNat) := h4
 rw [hc8] at h4
 have hb : bytesOf s2 = bytesLE i0 i1.toNat := by rw [h4, lK (aN7 _ _)]
 have hl8 : (bytesOf s2).length = i1.toNat := by rw [hb, sS]
 refine ⟨?_, ?_⟩
 ·exact ⟨by decide, by omega, rfl⟩
 intro s4 i5 h6 h7 h8
 have h8 : 0 ≤ i5 ∧ i5 ≤ i1 ∧ s4 = textOf ((bytesLE i0 i5.toNat).reverse) := h8
 obtain ⟨a, b, c⟩ := h8
 refine ⟨?_, ?_⟩
 ·intro h9
  refine ⟨?_, fun h10 => ?_⟩
  ·omega -- (0 : Int) ≤ i5
  intro v6
  rw [c, cS0, hb, bU0 _ _ (by omega), aH (by omega) (by omega)]
  refine ⟨?_, fun h11 => ?_⟩
  ·rw [xB, List.length_cons, List.length_reverse, sS]; omega
  refine ⟨?_, ?_⟩
  ·refine ⟨by omega, by omega, ?_⟩
   rw [show (i5 + 1).toNat = i5.toNat + 1 from by omega, aF2, List.reverse_append]; rfl
  ·show (i1 - (i5 + 1)).toNat < (i1 - i5).toNat
   omega
 ·intro h9
  show s4 = textOf (oV i0 i1)
  rw [c, oV, beB, show clamp 1 8 i1 = i1 from by unfold clamp; rw [if_neg (by omega), if_neg (by omega)], show i5.toNat = i1.toNat from by omega]
theorem fU.pure : fU.Pure := by
 intro i0 h1 h2
 refine ⟨?_, ?_⟩
 ·intro h3 v1
  show textOf [wrap .u8 i0] = textOf (dA i0)
  rw [dA, if_pos h3, IntKind.wrap_u8, show i0 % 256 = i0 from by omega]
 ·intro h3
  refine ⟨?_, ?_⟩
  ·exact ⟨by decide, by decide, by decide, by decide, .inl rfl, fun j hj hj' => by omega⟩
  intro i1 i2 h4 h5 h6
  have h6 : 1 ≤ i2 ∧ i2 ≤ 8 ∧ 1 ≤ i1 ∧ i1 ≤ i2 ∧ (i1 = 1 ∨ 256 ^ (i1 - 1).toNat ≤ i0) ∧ ∀ j : Nat, i1 ≤ (j : Int) → (j : Int) < i2 → i0 < 256 ^ j := h6
  obtain ⟨a, b, c, d, e, f⟩ := h6
  refine ⟨?_, ?_⟩
  ·intro h7
   rw [aH (x := 8 * i2) (by omega) (by omega), aH (x := i2 + 1) (by omega) (by omega)]
   refine ⟨trivial, ?_⟩
   intro i3 h8 h9
   have hq := dD6 h1 h9 (n := i2.toNat) (by omega) (by omega) h8
   have less : ∀ n : Int, fU.I0M [(D.I i0), (D.I n), (D.I (i2 + 1))] < fU.I0M [(D.I i0), (D.I i1), (D.I i2)] := by
    intro n
    show (8 - (i2 + 1)).toNat < (8 - i2).toNat
    omega
   refine ⟨?_, ?_⟩
   ·intro h10
    refine ⟨⟨by omega, by omega, by omega, by omega, .inr ?_, fun j hj hj' => by omega⟩, less _⟩
    rw [show (i2 + 1 - 1).toNat = i2.toNat from by omega]
    apply Classical.byContradiction
    intro hc
    rw [hq, Int.ediv_eq_zero_of_lt h1.1 (by omega)] at h10
    omega
   ·intro h10
    refine ⟨⟨by omega, by omega, by omega, by omega, e, fun j hj hj' => ?_⟩, less _⟩
    by_cases hj2 : (j : Int) < i2
    ·exact f j hj hj2
    ·have : j = i2.toNat := by omega
     subst this
     apply Classical.byContradiction
     intro hc
     have : 1 ≤ i0 / 256 ^ i2.toNat := Int.le_ediv_of_mul_le (aJ1 _) (by omega)
     omega
  ·intro h7
   have hw : bH i0 = i1 := cU2 h1 c (by omega) e (by
    by_cases h : i1 = 8
    ·exact .inl h
    ·exact .inr (f i1.toNat (by omega) (by omega)))
   have e8 : wrap .u8 (wrap .i64 ((247 : Int) + i1)) = 247 + bH i0 := by
    rw [aH (by omega) (by omega), IntKind.wrap_u8, hw]; omega
   rw [e8]
   have fin : ∀ s4 : BA, gB.sig.post [(D.I i0), (D.I i1), (D.S s4)] → (((textOf [247 + bH i0] ++ s4).size : Nat) : Int) ≤ 9223372036854775807 ∧ fU.sig.post [(D.I i0), (D.S (textOf [247 + bH i0] ++ s4))] := by
    intro s4 h
    have h : s4 = textOf (oV i0 i1) := h
    have e1 : textOf [247 + bH i0] ++ s4 = textOf (dA i0) := by
     rw [h, cS0, dA, if_neg (by omega), ← hw, bZ0]
    refine ⟨?_, e1⟩
    rw [e1, xB]; have := aB6 i0; omega
   have pre : gB.sig.pre [(D.I i0), (D.I i1)] := ⟨c, by omega⟩
   refine ⟨?_, ?_⟩
   ·intro v3
    exact ⟨⟨pre, fun s4 h8 h9 => ⟨(fin s4 h8).1, fun _ => (fin s4 h8).2⟩⟩, ⟨pre, fun s4 h8 h9 => ⟨(fin s4 h8).1, fun _ => (fin s4 h8).2⟩⟩⟩
   ·exact ⟨pre, fun s4 h8 h9 v4 => ⟨(fin s4 h8).1, fun _ => (fin s4 h8).2⟩⟩
theorem sQ.pure : sQ.Pure := by
 intro s0 h1 h2 n1
 trivial
theorem pR.pure : pR.Pure := by
 intro n0 s1 i2 i3 h1 h2 h3 h4
 trivial
theorem eH.pure : eH.Pure := by
 intro n0 s1 i2 i3 i4 h1 h2 h3 h4 h5
 have h5 : 0 ≤ i2 ∧ i2 ≤ s1.size := h5
 rw [aH (x := ((s1.size : Nat) : Int) - i2) (by omega) (by omega)]
 refine ⟨?_, ?_⟩
 ·intro h6
  show (i2, i3, ByteArray.empty) = aK s1 i2 i3 i4
  rw [aK, if_pos h6]
 ·intro h6
  refine ⟨?_, ?_⟩
  ·intro h7
   show (i2, (2 : Int), ByteArray.empty) = aK s1 i2 i3 i4
   rw [aK, if_neg (by omega), if_pos (.inl h7)]
  ·intro h7
   refine ⟨?_, ?_⟩
   ·intro h8
    show (i2, (2 : Int), ByteArray.empty) = aK s1 i2 i3 i4
    rw [aK, if_neg (by omega), if_pos (.inr h8)]
   ·intro h8
    rw [aH (x := i2 + i4) (by omega) (by omega), aH (x := i2 + i4 - i4) (by omega) (by omega), show i2 + i4 - i4 = i2 from by omega]
    refine ⟨by omega, fun h9 => ⟨by omega, fun h10 => ⟨by omega, fun h11 => ?_⟩⟩⟩
    show (i2 + i4, i3, s1.extract i2.toNat (i2 + i4).toNat) = aK s1 i2 i3 i4
    rw [aK, if_neg (by omega), if_neg (by omega)]
theorem aK5 (S : BA) (a e n : Int) (hn : 0 ≤ n) (ha : 0 ≤ a ∧ a ≤ S.size) : ((aK S a e n).2.2.size : Int) ≤ n ∧ 0 ≤ (aK S a e n).1 ∧ (aK S a e n).1 ≤ S.size := by
 unfold aK
 split
 ·exact ⟨by show ((0 : Nat) : Int) ≤ n; omega, ha.1, ha.2⟩
 ·split
  ·exact ⟨by show ((0 : Nat) : Int) ≤ n; omega, ha.1, ha.2⟩
  ·rename_i h
   refine ⟨?_, by show 0 ≤ a + n; omega, by show a + n ≤ S.size; omega⟩
   show ((S.extract a.toNat (a + n).toNat).size : Int) ≤ n
   rw [ByteArray.size_extract]; omega
theorem bA9 (l : LI) (c : Int) : dK (l ++ [c]) = 256 * dK l + c := by simp [dK]
theorem zD {l : LI} (h : ∀ x ∈ l, 0 ≤ x ∧ x < 256) : ∀ k, k ≤ l.length → 0 ≤ dK (l.take k) ∧ dK (l.take k) < 256 ^ k
 | 0, _ => by simp [dK]
 | k + 1, hk => by
  have ih := zD h k (by omega)
  have hx : 0 ≤ l.getD k 0 ∧ l.getD k 0 < 256 := by
   simp only [List.getD, List.getElem?_eq_getElem (show k < l.length by omega), Option.getD_some]
   exact h _ (List.getElem_mem _)
  rw [take_snoc' (by omega), bA9, Int.pow_succ]
  omega
theorem dL8 {v c : Int} (h0 : 0 ≤ v) (h1 : v < 72057594037927936) (c0 : 0 ≤ c) (c1 : c < 256) : Go.bits .or .u64 (fC .u64 v 8) c = 256 * v + c := by
 have e : fC .u64 v 8 = v * 256 := by
  show IntKind.u64.wrap (v * 2 ^ 8) = v * 256
  rw [show (2 : Int) ^ 8 = 256 from rfl, eY (by omega) (by omega)]
 have j := bits_join .u64 64 (by decide) (fun n h0 h1 => bR4 h0 h1) 8 (v * 256) c (by omega) (by show v * 256 % 256 = 0; omega) (by show v * 256 < 18446744073709551616; omega) c0 (by show c < 256; exact c1) (by show c < 18446744073709551616; omega)
 rw [e, j]; omega
theorem iY.pure : iY.Pure := by
 intro n0 s1 i2 i3 i4 h1 h2 h3 h4 h5
 have h5 : 0 ≤ i2 ∧ i2 ≤ s1.size := h5
 have hc := aO1 i4
 rw [bU9]
 refine ⟨h5, ?_⟩
 intro i5 i6 s7 h6 h7 h8 h9 v8
 have h6 : (i5, i6, s7) = aK s1 i2 i3 (clamp 1 8 i4) := h6
 have hs7 : s7.size ≤ 8 := by
  have := (aK5 s1 i2 i3 (clamp 1 8 i4) (by omega) h5).1
  rw [← h6] at this
  have this : (s7.size : Int) ≤ clamp 1 8 i4 := this
  omega
 have hlen := bytesOf_length' s7
 have hby := nX s7
 refine ⟨?_, ?_⟩
 ·refine ⟨by decide, ?_, rfl⟩
  omega
 intro i9 i10 h10 h11 h12
 have es : (aK s1 i2 i3 (clamp 1 8 i4)).2.2 = s7 := by rw [← h6]
 have h12 : 0 ≤ i10 ∧ i10 ≤ (bytesOf (aK s1 i2 i3 (clamp 1 8 i4)).2.2).length ∧ i9 = dK ((bytesOf (aK s1 i2 i3 (clamp 1 8 i4)).2.2).take i10.toNat) := h12
 rw [es] at h12
 obtain ⟨a, b, d⟩ := h12
 refine ⟨?_, ?_⟩
 ·intro h13
  refine ⟨?_, fun h14 => ?_⟩
  ·omega -- (0 : Int) ≤ i10
  have hx : 0 ≤ (bytesOf s7).getD i10.toNat 0 ∧ (bytesOf s7).getD i10.toNat 0 < 256 := by
   simp only [List.getD, List.getElem?_eq_getElem (show i10.toNat < (bytesOf s7).length by omega), Option.getD_some]
   exact hby _ (List.getElem_mem _)
  have hr := zD hby i10.toNat (by omega)
  have hp : (256 : Int) ^ i10.toNat ≤ 256 ^ 7 := by
   have h2 : 256 ^ i10.toNat ≤ 256 ^ 7 := Nat.pow_le_pow_right (by decide : 0 < 256) (by omega)
   have h3 : ((256 ^ i10.toNat : Nat) : Int) ≤ ((256 ^ 7 : Nat) : Int) := by omega
   rwa [Int.natCast_pow, Int.natCast_pow] at h3
  have hp7 : (256 : Int) ^ 7 = 72057594037927936 := rfl
  rw [eY (by omega) (by omega), dL8 (by omega) (by omega) hx.1 hx.2, aH (by omega) (by omega)]
  refine ⟨?_, ?_⟩
  ·show 0 ≤ i10 + 1 ∧ i10 + 1 ≤ (bytesOf (aK s1 i2 i3 (clamp 1 8 i4)).2.2).length ∧ 256 * i9 + (bytesOf s7).getD i10.toNat 0 = dK ((bytesOf (aK s1 i2 i3 (clamp 1 8 i4)).2.2).take (i10 + 1).toNat)
   rw [es]
   refine ⟨by omega, by omega, ?_⟩
   rw [show (i10 + 1).toNat = i10.toNat + 1 from by omega, take_snoc' (by omega), bA9, d]
  ·show (((bytesOf (aK s1 i2 i3 (clamp 1 8 i4)).2.2).length : Int) - (i10 + 1)).toNat < (((bytesOf (aK s1 i2 i3 (clamp 1 8 i4)).2.2).length : Int) - i10).toNat
   rw [es]
   omega
 ·intro h13
  show (i5, i6, i9) = bY s1 i2 i3 i4
  rw [bY, ← h6, d, List.take_of_length_le (by omega)]
theorem gW.pure : gW.Pure := by
 intro n0 s1 i2 i3 h1 h2 h3 h4
 have h4 : 0 ≤ i2 ∧ i2 ≤ s1.size := h4
 refine ⟨h4, ?_⟩
 intro i4 i5 i6 h5 h6 h7 h8
 have h5 : (i4, i5, i6) = bY s1 i2 i3 1 := h5
 have ha4 : 0 ≤ i4 ∧ i4 ≤ s1.size := by
  have hc := aO1 1
  have := (aK5 s1 i2 i3 (clamp 1 8 1) (by omega) h4).2
  rw [bY] at h5
  have e : i4 = (aK s1 i2 i3 (clamp 1 8 1)).1 := congrArg (·.1) h5
  rw [e]; exact this
 have unf : rdNum s1 i2 i3 = if i5 ≠ 0 ∨ i6 < 248 then (i4, i5, i6) else
   (if (if (bY s1 i4 i5 (i6 - 247)).2.1 = 0 ∧ ((bY s1 i4 i5 (i6 - 247)).2.2 < 248 ∨ bH (bY s1 i4 i5 (i6 - 247)).2.2 ≠ i6 - 247) then 3 else (bY s1 i4 i5 (i6 - 247)).2.1) ≠ 0
    then (i2, (if (bY s1 i4 i5 (i6 - 247)).2.1 = 0 ∧ ((bY s1 i4 i5 (i6 - 247)).2.2 < 248 ∨ bH (bY s1 i4 i5 (i6 - 247)).2.2 ≠ i6 - 247) then 3 else (bY s1 i4 i5 (i6 - 247)).2.1), 0)
    else ((bY s1 i4 i5 (i6 - 247)).1, (if (bY s1 i4 i5 (i6 - 247)).2.1 = 0 ∧ ((bY s1 i4 i5 (i6 - 247)).2.2 < 248 ∨ bH (bY s1 i4 i5 (i6 - 247)).2.2 ≠ i6 - 247) then 3 else (bY s1 i4 i5 (i6 - 247)).2.1), (bY s1 i4 i5 (i6 - 247)).2.2)) := by
  rw [rdNum, ← h5]
 have h6b : i6 < 256 := by
  have hc1 : clamp 1 8 1 = 1 := by decide
  rw [bY, hc1] at h5
  have e : i6 = dK (bytesOf (aK s1 i2 i3 1).2.2) := congrArg (·.2.2) h5
  have hs := (aK5 s1 i2 i3 1 (by decide) h4).1
  have hl := bytesOf_length' (aK s1 i2 i3 1).2.2
  have hr := zD (nX (aK s1 i2 i3 1).2.2) _ (Nat.le_refl _)
  rw [List.take_length] at hr
  have h01 : (bytesOf (aK s1 i2 i3 1).2.2).length = 0 ∨ (bytesOf (aK s1 i2 i3 1).2.2).length = 1 := by omega
  rw [e]
  rcases h01 with h | h <;> rw [h] at hr
  ·have : (256 : Int) ^ 0 = 1 := rfl
   omega
  ·have : (256 : Int) ^ 1 = 256 := rfl
   omega
 refine ⟨?_, ?_⟩
 ·intro h9
  show (i4, i5, i6) = rdNum s1 i2 i3
  rw [unf, if_pos (.inl h9)]
 ·intro h9
  refine ⟨?_, ?_⟩
  ·intro h10
   show (i4, i5, i6) = rdNum s1 i2 i3
   rw [unf, if_pos (.inr h10)]
  ·intro h10
   rw [if_neg (by omega)] at unf
   have ei : wrap .i64 i6 = i6 := aH (by omega) (by omega)
   have en : wrap .i64 ((wrap .i64 (i6 - (248 : Int))) + (1 : Int)) = i6 - 247 := by
    rw [aH (x := i6 - 248) (by omega) (by omega), aH (by omega) (by omega)]; omega
   rw [ei, en]
   refine ⟨ha4, ?_⟩
   intro i7 i8 i9 h11 h12 h13 h14
   have h11 : (i7, i8, i9) = bY s1 i4 i5 (i6 - 247) := h11
   rw [← h11] at unf
   dsimp only at unf
   refine ⟨?_, ?_⟩
   ·intro h15
    refine ⟨?_, ?_⟩
    ·intro h16
     have hcc : i8 = 0 ∧ (i9 < 248 ∨ bH i9 ≠ i6 - 247) := ⟨h15, .inl h16⟩
     simp only [if_pos hcc] at unf
     refine ⟨?_, ?_⟩
     ·intro h17
      show (i2, (3 : Int), (0 : Int)) = rdNum s1 i2 i3
      rw [unf]; rfl
     ·intro h17
      exact absurd h17 (by decide)
    ·intro h16
     refine ⟨trivial, ?_⟩
     intro i10 h17 h18
     have h17 : i10 = bH i9 := h17
     refine ⟨?_, ?_⟩
     ·intro h19
      have hcc : i8 = 0 ∧ (i9 < 248 ∨ bH i9 ≠ i6 - 247) := ⟨h15, .inr (by rw [← h17]; exact h19)⟩
      simp only [if_pos hcc] at unf
      refine ⟨?_, ?_⟩
      ·intro h20
       show (i2, (3 : Int), (0 : Int)) = rdNum s1 i2 i3
       rw [unf]; rfl
      ·intro h20
       exact absurd h20 (by decide)
     ·intro h19
      have hcc : ¬ (i8 = 0 ∧ (i9 < 248 ∨ bH i9 ≠ i6 - 247)) := by
       rintro ⟨_, h | h⟩
       ·omega
       ·exact h (by rw [← h17]; exact h19)
      simp only [if_neg hcc] at unf
      refine ⟨?_, ?_⟩
      ·intro h20
       exact absurd h15 h20
      ·intro h20
       show (i7, i8, i9) = rdNum s1 i2 i3
       rw [unf, if_neg (by omega)]
   ·intro h15
    have hcc : ¬ (i8 = 0 ∧ (i9 < 248 ∨ bH i9 ≠ i6 - 247)) := by
     rintro ⟨h, _⟩; exact h15 h
    simp only [if_neg hcc] at unf
    refine ⟨?_, ?_⟩
    ·intro h16
     show (i2, i8, (0 : Int)) = rdNum s1 i2 i3
     rw [unf, if_pos h16]
    ·intro h16
     exact absurd h16 h15
end Go.Vc
namespace Go.Vc
theorem aN3 : ∀ (l : LI) (a : Int), l.foldl (fun v c => 256 * v + c) a = a * 256 ^ l.length + dK l
 | [], a => by simp [dK]
 | c :: l, a => by
  simp only [List.foldl_cons, dK, List.length_cons]
  rw [aN3 l (256 * a + c), aN3 l (256 * 0 + c), Int.pow_succ, Int.add_mul, Int.add_mul]
  have e1 : 256 * a * 256 ^ l.length = a * (256 ^ l.length * 256) := by rw [Int.mul_comm 256 a, Int.mul_assoc, Int.mul_comm 256]
  omega
theorem bT1 (v : Int) : ∀ n : Nat, dK (beB v n) = v % 256 ^ n
 | 0 => by simp [beB, bytesLE, dK, Int.emod_one]
 | n + 1 => by
  have e : beB v (n + 1) = (v / 256 ^ n % 256) :: beB v n := by rw [beB, aF2, List.reverse_append]; rfl
  rw [e]
  show (beB v n).foldl (fun v c => 256 * v + c) (256 * 0 + v / 256 ^ n % 256) = _
  rw [aN3, bT1 v n, xO]
  have hp := aJ1 n
  have h1 := Int.mul_ediv_add_emod v (256 ^ n)
  have h2 := Int.emod_emod_of_dvd v (show (256 : Int) ^ n ∣ 256 ^ (n + 1) from ⟨256, Int.pow_succ ..⟩)
  have h3 := Int.mul_ediv_add_emod v (256 ^ (n + 1))
  have h4 : v / 256 ^ (n + 1) = v / 256 ^ n / 256 := bE4 v n
  rw [Int.pow_succ] at h3 ⊢
  have h5 := Int.mul_ediv_add_emod (v / 256 ^ n) 256
  rw [Int.pow_succ] at h4
  rw [h4] at h3
  generalize v / 256 ^ n = q at *
  generalize v % 256 ^ n = r at *
  generalize (256 : Int) ^ n = P at *
  have e6 : P * 256 * (q / 256) = P * (256 * (q / 256)) := Int.mul_assoc ..
  have e7 : P * q = P * (256 * (q / 256)) + P * (q % 256) := by rw [← Int.mul_add, h5]
  have e8 : (256 * 0 + q % 256) * P = P * (q % 256) := by rw [Int.mul_zero, Int.zero_add, Int.mul_comm]
  omega
theorem dX5 {v : Int} (h : 0 ≤ v ∧ v < 18446744073709551616) : v < 256 ^ (bH v).toNat := by
 unfold bH
 repeat' split
 ·show v < 256; assumption
 ·show v < 65536; assumption
 ·show v < 16777216; assumption
 ·show v < 4294967296; assumption
 ·show v < 1099511627776; assumption
 ·show v < 281474976710656; assumption
 ·show v < 72057594037927936; assumption
 ·show v < 18446744073709551616; exact h.2
theorem bL3 {v : Int} (h : 0 ≤ v) : ∀ x ∈ dA v, 0 ≤ x ∧ x < 256 := by
 have w := aM2 v
 intro x hx
 unfold dA at hx
 split at hx
 ·simp at hx; omega
 ·rcases List.mem_cons.1 hx with rfl | hx
  ·omega
  ·exact cX3 _ _ x hx
end Go.Vc
namespace Go.Vc
def cur (n : Nat) : S0 := .agg [.lf (.str (.at n)), .lf (.int .i64 (.at (n + 1))), .lf (.int .i64 (.at (n + 2)))]
def cur' (s n : Nat) : S0 := .agg [.lf (.str (.at s)), .lf (.int .i64 (.at n)), .lf (.int .i64 (.at (n + 1)))]
def aF5 (as rs : List AK) (pre post : LD → Prop) : Sig :=
 let n := 3 + (lX as).length
 { args := .one (cur 0) :: vU 3 as, heap := [], aA := .S :: .I :: .I :: lX as,
   res := .tup (cur' 0 n :: (vU (n + 2) rs).map fun x => match x with | .one y => y | _ => .lf .junk), heap' := [], news := .I :: .I :: lX rs, pre := pre, post := post }
def aQ.pre : LD → Prop
 | .S s :: .I a :: .I _ :: _ => 0 ≤ a ∧ a ≤ s.size ∧ s.size ≤ 1000000000
 | _ => False
def aQ.post : LD → Prop
 | [.S s, .I a, .I e, .I n, .I a', .I e', .S r] => (a', e', r) = aK s a e n
 | _ => False
def aQ.sig : Sig := aF5 [.i .i64] [.s] aQ.pre aQ.post
def iI.pre : LD → Prop
 | [.S s, .I a, .I _, .I n] => 0 ≤ a ∧ a ≤ s.size ∧ s.size ≤ 1000000000 ∧ 1 ≤ n ∧ n ≤ 8
 | _ => False
def iI.post : LD → Prop
 | [.S s, .I a, .I e, .I n, .I a', .I e', .I r] => (a', e', r) = bY s a e n
 | _ => False
def iI.sig : Sig := aF5 [.i .i64] [.i .u64] iI.pre iI.post
def iI.I0 : LD → Prop
 | [.S s, .I a, .I e, .I n, .I v, .I i] => 0 ≤ i ∧ i ≤ (aK s a e n).2.2.size ∧ v = dK ((bytesOf (aK s a e n).2.2).take i.toNat)
 | _ => False
def iI.I0M : LD → Nat
 | [.S s, .I a, .I e, .I n, .I _, .I i] => ((aK s a e n).2.2.size - i).toNat
 | _ => 0
def iJ.post : LD → Prop
 | [.S s, .I a, .I e, .I a', .I e', .I r] => (a', e', r) = rdNum s a e
 | _ => False
def iJ.sig : Sig := aF5 [] [.i .u64] aQ.pre iJ.post
def aZ.post : LD → Prop
 | [.S s, .I a, .I e, .I m, .I a', .I e', .S r] => (a', e', r) = jM s a e m
 | _ => False
def aZ.sig : Sig := aF5 [.i .i64] [.s] aQ.pre aZ.post
def kV.post : LD → Prop
 | [.S s, .I a, .I e, .I a', .I e'] => a' = a ∧ e' = mV s a e
 | _ => False
def kV.sig : Sig := { aF5 [] [] aQ.pre kV.post with res := .one (cur' 0 3) }
end Go.Vc
namespace Go.Vc
set_option linter.unusedVariables false
def kE.Pure : Prop :=
 ∀ n0 : Nat,
 ∀ s1 : BA,
 ∀ i2 i3 i4 : Int,
 R64 i4 →
 ((s1.size : Int) ≤ 9223372036854775807) →
 R64 i2 →
 R64 i3 →
 kE.sig.pre [.N n0, .S s1, .I i2, .I i3, .I i4] →
 gW.sig.pre [.N n0, .S s1, .I i2, .I i3] ∧ (
 ∀ i5 i6 i7 : Int,
 gW.sig.post [.N n0, .S s1, .I i2, .I i3, .I i5, .I i6, .I i7] →
 U64 i7 →
 R64 i5 →
 R64 i6 →
 ((
 (i6 = 0) →
 ((
 ((wrap .u64 (fJ i4 0)) < i7) →
   eH.sig.pre [.N n0, .S s1, .I i5, .I 12, .I (wrap .i64 (iQ i7 1099511627776))] ∧ (
 ∀ i8 i9 : Int,
 ∀ s10 : BA,
  eH.sig.post [.N n0, .S s1, .I i5, .I 12, .I (wrap .i64 (iQ i7 1099511627776)), .I i8, .I i9, .S s10] →
 ((s10.size : Int) ≤ 9223372036854775807) →
 R64 i8 →
 R64 i9 →
 ((
 (i9 ≠ 0) →
  kE.sig.post [.N n0, .S s1, .I i2, .I i3, .I i4, .I i2, .I i9, .S s10]) ∧ (
 (i9 = 0) →
  kE.sig.post [.N n0, .S s1, .I i2, .I i3, .I i4, .I i8, .I i9, .S s10])))) ∧ (
 (i7 ≤ (wrap .u64 (fJ i4 0))) →
  eH.sig.pre [.N n0, .S s1, .I i5, .I i6, .I (wrap .i64 (iQ i7 1099511627776))] ∧ (
 ∀ i8 i9 : Int,
 ∀ s10 : BA,
  eH.sig.post [.N n0, .S s1, .I i5, .I i6, .I (wrap .i64 (iQ i7 1099511627776)), .I i8, .I i9, .S s10] →
 ((s10.size : Int) ≤ 9223372036854775807) →
 R64 i8 →
 R64 i9 →
 ((
 (i9 ≠ 0) →
  kE.sig.post [.N n0, .S s1, .I i2, .I i3, .I i4, .I i2, .I i9, .S s10]) ∧ (
 (i9 = 0) →
  kE.sig.post [.N n0, .S s1, .I i2, .I i3, .I i4, .I i8, .I i9, .S s10])))))) ∧ (
 (i6 ≠ 0) →
  eH.sig.pre [.N n0, .S s1, .I i5, .I i6, .I (wrap .i64 (iQ i7 1099511627776))] ∧ (
 ∀ i8 i9 : Int,
 ∀ s10 : BA,
  eH.sig.post [.N n0, .S s1, .I i5, .I i6, .I (wrap .i64 (iQ i7 1099511627776)), .I i8, .I i9, .S s10] →
 ((s10.size : Int) ≤ 9223372036854775807) →
 R64 i8 →
 R64 i9 →
 ((
 (i9 ≠ 0) →
  kE.sig.post [.N n0, .S s1, .I i2, .I i3, .I i4, .I i2, .I i9, .S s10]) ∧ (
 (i9 = 0) →
  kE.sig.post [.N n0, .S s1, .I i2, .I i3, .I i4, .I i8, .I i9, .S s10]))))))
def kR.Pure : Prop :=
 ∀ n0 : Nat,
 ∀ s1 : BA,
 ∀ i2 i3 i4 : Int,
 R64 i4 →
 ((s1.size : Int) ≤ 9223372036854775807) →
 R64 i2 →
 R64 i3 →
 kR.sig.pre [.N n0, .S s1, .I i2, .I i3, .I i4] →
 ((
 (i3 = 0) →
  kR.sig.post [.N n0, .S s1, .I i2, .I i3, .I i4, .I i2, .I i4]) ∧ (
 (i3 ≠ 0) →
  kR.sig.post [.N n0, .S s1, .I i2, .I i3, .I i4, .I i2, .I i3]))
def lD.Pure : Prop :=
 ∀ n0 : Nat,
 ∀ s1 : BA,
 ∀ i2 i3 : Int,
 ((s1.size : Int) ≤ 9223372036854775807) →
 R64 i2 →
 R64 i3 →
 lD.sig.pre [.N n0, .S s1, .I i2, .I i3] →
 ((
 (i2 < (s1.size : Int)) →
  kR.sig.pre [.N n0, .S s1, .I i2, .I i3, .I 3] ∧ (
 ∀ i4 i5 : Int,
  kR.sig.post [.N n0, .S s1, .I i2, .I i3, .I 3, .I i4, .I i5] →
 R64 i4 →
 R64 i5 →
  lD.sig.post [.N n0, .S s1, .I i2, .I i3, .I i4, .I i5, .I i5])) ∧ (
 ((s1.size : Int) ≤ i2) →
  lD.sig.post [.N n0, .S s1, .I i2, .I i3, .I i2, .I i3, .I i3]))
def aQ.Pure : Prop :=
 ∀ s0 : BA,
 ∀ i1 i2 i3 : Int,
 ((s0.size : Int) ≤ 9223372036854775807) →
 R64 i1 →
 R64 i2 →
 R64 i3 →
 aQ.sig.pre [.S s0, .I i1, .I i2, .I i3] →
 ∀ n4 n5 : Nat,
 ((
 (i2 ≠ 0) →
  aQ.sig.post [.S s0, .I i1, .I i2, .I i3, .I i1, .I i2, .S (⟨#[]⟩ : BA)]) ∧ (
 (i2 = 0) →
 ((
 (i3 < 0) →
  aQ.sig.post [.S s0, .I i1, .I i2, .I i3, .I i1, .I 2, .S (⟨#[]⟩ : BA)]) ∧ (
 (0 ≤ i3) →
 ((
 ((wrap .i64 ((s0.size : Int) - i1)) < i3) →
  aQ.sig.post [.S s0, .I i1, .I i2, .I i3, .I i1, .I 2, .S (⟨#[]⟩ : BA)]) ∧ (
 (i3 ≤ (wrap .i64 ((s0.size : Int) - i1))) →
 Im (i1 ≤ (wrap .i64 (i1 + i3))) (
 Im (0 ≤ i1) (
 Im ((wrap .i64 (i1 + i3)) ≤ (s0.size : Int)) (
  aQ.sig.post [.S s0, .I i1, .I i2, .I i3, .I (wrap .i64 (i1 + i3)), .I i2, .S (s0.extract i1.toNat (wrap .i64 (i1 + i3)).toNat)])))))))))
def iI.Pure : Prop :=
 ∀ s0 : BA,
 ∀ i1 i2 i3 : Int,
 ((s0.size : Int) ≤ 9223372036854775807) →
 R64 i1 →
 R64 i2 →
 R64 i3 →
 iI.sig.pre [.S s0, .I i1, .I i2, .I i3] →
 ∀ n4 n5 : Nat,
 aQ.sig.pre [.S s0, .I i1, .I i2, .I i3] ∧ (
 ∀ i6 i7 : Int,
 ∀ s8 : BA,
 aQ.sig.post [.S s0, .I i1, .I i2, .I i3, .I i6, .I i7, .S s8] →
 R64 i6 →
 R64 i7 →
 ((s8.size : Int) ≤ 9223372036854775807) →
 iI.I0 [.S s0, .I i1, .I i2, .I i3, .I 0, .I 0] ∧ (
 ∀ i9 i10 : Int,
 U64 i9 →
 R64 i10 →
 iI.I0 [.S s0, .I i1, .I i2, .I i3, .I i9, .I i10] →
 ((
 (i10 < (s8.size : Int)) →
 Im (0 ≤ i10) (
  Bk iI.I0 iI.I0M [.S s0, .I i1, .I i2, .I i3, .I (wrap .u64 ((wrap .u64 (256 * i9)) + (wrap .u64 (byteAt s8 i10)))), .I (wrap .i64 (i10 + 1))] [.S s0, .I i1, .I i2, .I i3, .I i9, .I i10])) ∧ (
 ((s8.size : Int) ≤ i10) →
  iI.sig.post [.S s0, .I i1, .I i2, .I i3, .I i6, .I i7, .I i9]))))
def iJ.Pure : Prop :=
 ∀ s0 : BA,
 ∀ i1 i2 : Int,
 ((s0.size : Int) ≤ 9223372036854775807) →
 R64 i1 →
 R64 i2 →
 iJ.sig.pre [.S s0, .I i1, .I i2] →
 ∀ n3 n4 : Nat,
 iI.sig.pre [.S s0, .I i1, .I i2, .I 1] ∧ (
 ∀ i5 i6 i7 : Int,
 iI.sig.post [.S s0, .I i1, .I i2, .I 1, .I i5, .I i6, .I i7] →
 R64 i5 →
 R64 i6 →
 U64 i7 →
 ∀ n8 : Nat,
 ((
 (i6 ≠ 0) →
  iJ.sig.post [.S s0, .I i1, .I i2, .I i5, .I i6, .I i7]) ∧ (
 (i6 = 0) →
 ((
 (i7 < 248) →
  iJ.sig.post [.S s0, .I i1, .I i2, .I i5, .I i6, .I i7]) ∧ (
 (248 ≤ i7) →
  iI.sig.pre [.S s0, .I i5, .I i6, .I (wrap .i64 ((wrap .i64 i7) - 247))] ∧ (
 ∀ i9 i10 i11 : Int,
  iI.sig.post [.S s0, .I i5, .I i6, .I (wrap .i64 ((wrap .i64 i7) - 247)), .I i9, .I i10, .I i11] →
 R64 i9 →
 R64 i10 →
 U64 i11 →
 ((
 (i10 = 0) →
 Im (i1 ≤ i9) (
 Im (0 ≤ i1) (
 Im (i9 ≤ (s0.size : Int)) (
  fU.sig.pre [.I i11] ∧ (
 ∀ s12 : BA,
  fU.sig.post [.I i11, .S s12] →
 ((s12.size : Int) ≤ 9223372036854775807) →
 ((
 (s12 ≠ (s0.extract i1.toNat i9.toNat)) →
 ((
 ((3 : Int) ≠ (0 : Int)) →
   iJ.sig.post [.S s0, .I i1, .I i2, .I i1, .I 3, .I 0]) ∧ (
 ((3 : Int) = (0 : Int)) →
   iJ.sig.post [.S s0, .I i1, .I i2, .I i9, .I 3, .I i11]))) ∧ (
 (s12 = (s0.extract i1.toNat i9.toNat)) →
 ((
 (i10 ≠ 0) →
   iJ.sig.post [.S s0, .I i1, .I i2, .I i1, .I i10, .I 0]) ∧ (
 (i10 = 0) →
   iJ.sig.post [.S s0, .I i1, .I i2, .I i9, .I i10, .I i11]))))))))) ∧ (
 (i10 ≠ 0) →
 ((
 (i10 ≠ 0) →
   iJ.sig.post [.S s0, .I i1, .I i2, .I i1, .I i10, .I 0]) ∧ (
 (i10 = 0) →
   iJ.sig.post [.S s0, .I i1, .I i2, .I i9, .I i10, .I i11]))))))))))
def aZ.Pure : Prop :=
 ∀ s0 : BA,
 ∀ i1 i2 i3 : Int,
 ((s0.size : Int) ≤ 9223372036854775807) →
 R64 i1 →
 R64 i2 →
 R64 i3 →
 aZ.sig.pre [.S s0, .I i1, .I i2, .I i3] →
 ∀ n4 n5 : Nat,
 iJ.sig.pre [.S s0, .I i1, .I i2] ∧ (
 ∀ i6 i7 i8 : Int,
 iJ.sig.post [.S s0, .I i1, .I i2, .I i6, .I i7, .I i8] →
 R64 i6 →
 R64 i7 →
 U64 i8 →
 ∀ n9 : Nat,
 ((
 (i7 = 0) →
 ((
 (i3 < 0) →
 ((
 (0 < i8) →
 ((
 ((12 : Int) = (0 : Int)) →
 ((
 ((wrap .u64 (wrap .i64 ((s0.size : Int) - i6))) < i8) →
 ((
 ((2 : Int) ≠ (0 : Int)) →
    aZ.sig.post [.S s0, .I i1, .I i2, .I i3, .I i1, .I 2, .S (⟨#[]⟩ : BA)]) ∧ (
 ((2 : Int) = (0 : Int)) →
    aQ.sig.pre [.S s0, .I i6, .I 2, .I (wrap .i64 i8)] ∧ (
 ∀ i10 i11 : Int,
 ∀ s12 : BA,
    aQ.sig.post [.S s0, .I i6, .I 2, .I (wrap .i64 i8), .I i10, .I i11, .S s12] →
 R64 i10 →
 R64 i11 →
 ((s12.size : Int) ≤ 9223372036854775807) →
    aZ.sig.post [.S s0, .I i1, .I i2, .I i3, .I i10, .I i11, .S s12])))) ∧ (
 (i8 ≤ (wrap .u64 (wrap .i64 ((s0.size : Int) - i6)))) →
 ((
 ((12 : Int) ≠ (0 : Int)) →
    aZ.sig.post [.S s0, .I i1, .I i2, .I i3, .I i1, .I 12, .S (⟨#[]⟩ : BA)]) ∧ (
 ((12 : Int) = (0 : Int)) →
    aQ.sig.pre [.S s0, .I i6, .I 12, .I (wrap .i64 i8)] ∧ (
 ∀ i10 i11 : Int,
 ∀ s12 : BA,
    aQ.sig.post [.S s0, .I i6, .I 12, .I (wrap .i64 i8), .I i10, .I i11, .S s12] →
 R64 i10 →
 R64 i11 →
 ((s12.size : Int) ≤ 9223372036854775807) →
    aZ.sig.post [.S s0, .I i1, .I i2, .I i3, .I i10, .I i11, .S s12])))))) ∧ (
 ((12 : Int) ≠ (0 : Int)) →
 ((
 ((12 : Int) ≠ (0 : Int)) →
   aZ.sig.post [.S s0, .I i1, .I i2, .I i3, .I i1, .I 12, .S (⟨#[]⟩ : BA)]) ∧ (
 ((12 : Int) = (0 : Int)) →
   aQ.sig.pre [.S s0, .I i6, .I 12, .I (wrap .i64 i8)] ∧ (
 ∀ i10 i11 : Int,
 ∀ s12 : BA,
   aQ.sig.post [.S s0, .I i6, .I 12, .I (wrap .i64 i8), .I i10, .I i11, .S s12] →
 R64 i10 →
 R64 i11 →
 ((s12.size : Int) ≤ 9223372036854775807) →
   aZ.sig.post [.S s0, .I i1, .I i2, .I i3, .I i10, .I i11, .S s12])))))) ∧ (
 (i8 ≤ 0) →
 ((
 (0 ≤ i3) →
 ((
 ((wrap .u64 i3) < i8) →
 ((
 ((12 : Int) = (0 : Int)) →
 ((
 ((wrap .u64 (wrap .i64 ((s0.size : Int) - i6))) < i8) →
 ((
 ((2 : Int) ≠ (0 : Int)) →
     aZ.sig.post [.S s0, .I i1, .I i2, .I i3, .I i1, .I 2, .S (⟨#[]⟩ : BA)]) ∧ (
 ((2 : Int) = (0 : Int)) →
     aQ.sig.pre [.S s0, .I i6, .I 2, .I (wrap .i64 i8)] ∧ (
 ∀ i10 i11 : Int,
 ∀ s12 : BA,
     aQ.sig.post [.S s0, .I i6, .I 2, .I (wrap .i64 i8), .I i10, .I i11, .S s12] →
 R64 i10 →
 R64 i11 →
 ((s12.size : Int) ≤ 9223372036854775807) →
     aZ.sig.post [.S s0, .I i1, .I i2, .I i3, .I i10, .I i11, .S s12])))) ∧ (
 (i8 ≤ (wrap .u64 (wrap .i64 ((s0.size : Int) - i6)))) →
 ((
 ((12 : Int) ≠ (0 : Int)) →
     aZ.sig.post [.S s0, .I i1, .I i2, .I i3, .I i1, .I 12, .S (⟨#[]⟩ : BA)]) ∧ (
 ((12 : Int) = (0 : Int)) →
     aQ.sig.pre [.S s0, .I i6, .I 12, .I (wrap .i64 i8)] ∧ (
 ∀ i10 i11 : Int,
 ∀ s12 : BA,
     aQ.sig.post [.S s0, .I i6, .I 12, .I (wrap .i64 i8), .I i10, .I i11, .S s12] →
 R64 i10 →
 R64 i11 →
 ((s12.size : Int) ≤ 9223372036854775807) →
     aZ.sig.post [.S s0, .I i1, .I i2, .I i3, .I i10, .I i11, .S s12])))))) ∧ (
 ((12 : Int) ≠ (0 : Int)) →
 ((
 ((12 : Int) ≠ (0 : Int)) →
    aZ.sig.post [.S s0, .I i1, .I i2, .I i3, .I i1, .I 12, .S (⟨#[]⟩ : BA)]) ∧ (
 ((12 : Int) = (0 : Int)) →
    aQ.sig.pre [.S s0, .I i6, .I 12, .I (wrap .i64 i8)] ∧ (
 ∀ i10 i11 : Int,
 ∀ s12 : BA,
    aQ.sig.post [.S s0, .I i6, .I 12, .I (wrap .i64 i8), .I i10, .I i11, .S s12] →
 R64 i10 →
 R64 i11 →
 ((s12.size : Int) ≤ 9223372036854775807) →
    aZ.sig.post [.S s0, .I i1, .I i2, .I i3, .I i10, .I i11, .S s12])))))) ∧ (
 (i8 ≤ (wrap .u64 i3)) →
 ((
 ((
 ((wrap .u64 (wrap .i64 ((s0.size : Int) - i6))) < i8) →
 ((
 ((2 : Int) ≠ (0 : Int)) →
     aZ.sig.post [.S s0, .I i1, .I i2, .I i3, .I i1, .I 2, .S (⟨#[]⟩ : BA)]) ∧ (
 ((2 : Int) = (0 : Int)) →
     aQ.sig.pre [.S s0, .I i6, .I 2, .I (wrap .i64 i8)] ∧ (
 ∀ i10 i11 : Int,
 ∀ s12 : BA,
     aQ.sig.post [.S s0, .I i6, .I 2, .I (wrap .i64 i8), .I i10, .I i11, .S s12] →
 R64 i10 →
 R64 i11 →
 ((s12.size : Int) ≤ 9223372036854775807) →
     aZ.sig.post [.S s0, .I i1, .I i2, .I i3, .I i10, .I i11, .S s12])))) ∧ (
 (i8 ≤ (wrap .u64 (wrap .i64 ((s0.size : Int) - i6)))) →
 ((
 (i7 ≠ 0) →
     aZ.sig.post [.S s0, .I i1, .I i2, .I i3, .I i1, .I i7, .S (⟨#[]⟩ : BA)]) ∧ (
 (i7 = 0) →
     aQ.sig.pre [.S s0, .I i6, .I i7, .I (wrap .i64 i8)] ∧ (
 ∀ i10 i11 : Int,
 ∀ s12 : BA,
     aQ.sig.post [.S s0, .I i6, .I i7, .I (wrap .i64 i8), .I i10, .I i11, .S s12] →
 R64 i10 →
 R64 i11 →
 ((s12.size : Int) ≤ 9223372036854775807) →
     aZ.sig.post [.S s0, .I i1, .I i2, .I i3, .I i10, .I i11, .S s12])))))) ∧ (
 (i7 ≠ 0) →
 ((
 (i7 ≠ 0) →
    aZ.sig.post [.S s0, .I i1, .I i2, .I i3, .I i1, .I i7, .S (⟨#[]⟩ : BA)]) ∧ (
 (i7 = 0) →
    aQ.sig.pre [.S s0, .I i6, .I i7, .I (wrap .i64 i8)] ∧ (
 ∀ i10 i11 : Int,
 ∀ s12 : BA,
    aQ.sig.post [.S s0, .I i6, .I i7, .I (wrap .i64 i8), .I i10, .I i11, .S s12] →
 R64 i10 →
 R64 i11 →
 ((s12.size : Int) ≤ 9223372036854775807) →
    aZ.sig.post [.S s0, .I i1, .I i2, .I i3, .I i10, .I i11, .S s12])))))))) ∧ (
 (i3 < 0) →
 ((
 ((
 ((wrap .u64 (wrap .i64 ((s0.size : Int) - i6))) < i8) →
 ((
 ((2 : Int) ≠ (0 : Int)) →
    aZ.sig.post [.S s0, .I i1, .I i2, .I i3, .I i1, .I 2, .S (⟨#[]⟩ : BA)]) ∧ (
 ((2 : Int) = (0 : Int)) →
    aQ.sig.pre [.S s0, .I i6, .I 2, .I (wrap .i64 i8)] ∧ (
 ∀ i10 i11 : Int,
 ∀ s12 : BA,
    aQ.sig.post [.S s0, .I i6, .I 2, .I (wrap .i64 i8), .I i10, .I i11, .S s12] →
 R64 i10 →
 R64 i11 →
 ((s12.size : Int) ≤ 9223372036854775807) →
    aZ.sig.post [.S s0, .I i1, .I i2, .I i3, .I i10, .I i11, .S s12])))) ∧ (
 (i8 ≤ (wrap .u64 (wrap .i64 ((s0.size : Int) - i6)))) →
 ((
 (i7 ≠ 0) →
    aZ.sig.post [.S s0, .I i1, .I i2, .I i3, .I i1, .I i7, .S (⟨#[]⟩ : BA)]) ∧ (
 (i7 = 0) →
    aQ.sig.pre [.S s0, .I i6, .I i7, .I (wrap .i64 i8)] ∧ (
 ∀ i10 i11 : Int,
 ∀ s12 : BA,
    aQ.sig.post [.S s0, .I i6, .I i7, .I (wrap .i64 i8), .I i10, .I i11, .S s12] →
 R64 i10 →
 R64 i11 →
 ((s12.size : Int) ≤ 9223372036854775807) →
    aZ.sig.post [.S s0, .I i1, .I i2, .I i3, .I i10, .I i11, .S s12])))))) ∧ (
 (i7 ≠ 0) →
 ((
 (i7 ≠ 0) →
    aZ.sig.post [.S s0, .I i1, .I i2, .I i3, .I i1, .I i7, .S (⟨#[]⟩ : BA)]) ∧ (
 (i7 = 0) →
    aQ.sig.pre [.S s0, .I i6, .I i7, .I (wrap .i64 i8)] ∧ (
 ∀ i10 i11 : Int,
 ∀ s12 : BA,
    aQ.sig.post [.S s0, .I i6, .I i7, .I (wrap .i64 i8), .I i10, .I i11, .S s12] →
 R64 i10 →
 R64 i11 →
 ((s12.size : Int) ≤ 9223372036854775807) →
    aZ.sig.post [.S s0, .I i1, .I i2, .I i3, .I i10, .I i11, .S s12])))))))))) ∧ (
 (0 ≤ i3) →
 ((
 (0 ≤ i3) →
 ((
 ((wrap .u64 i3) < i8) →
 ((
 ((12 : Int) = (0 : Int)) →
 ((
 ((wrap .u64 (wrap .i64 ((s0.size : Int) - i6))) < i8) →
 ((
 ((2 : Int) ≠ (0 : Int)) →
    aZ.sig.post [.S s0, .I i1, .I i2, .I i3, .I i1, .I 2, .S (⟨#[]⟩ : BA)]) ∧ (
 ((2 : Int) = (0 : Int)) →
    aQ.sig.pre [.S s0, .I i6, .I 2, .I (wrap .i64 i8)] ∧ (
 ∀ i10 i11 : Int,
 ∀ s12 : BA,
    aQ.sig.post [.S s0, .I i6, .I 2, .I (wrap .i64 i8), .I i10, .I i11, .S s12] →
 R64 i10 →
 R64 i11 →
 ((s12.size : Int) ≤ 9223372036854775807) →
    aZ.sig.post [.S s0, .I i1, .I i2, .I i3, .I i10, .I i11, .S s12])))) ∧ (
 (i8 ≤ (wrap .u64 (wrap .i64 ((s0.size : Int) - i6)))) →
 ((
 ((12 : Int) ≠ (0 : Int)) →
    aZ.sig.post [.S s0, .I i1, .I i2, .I i3, .I i1, .I 12, .S (⟨#[]⟩ : BA)]) ∧ (
 ((12 : Int) = (0 : Int)) →
    aQ.sig.pre [.S s0, .I i6, .I 12, .I (wrap .i64 i8)] ∧ (
 ∀ i10 i11 : Int,
 ∀ s12 : BA,
    aQ.sig.post [.S s0, .I i6, .I 12, .I (wrap .i64 i8), .I i10, .I i11, .S s12] →
 R64 i10 →
 R64 i11 →
 ((s12.size : Int) ≤ 9223372036854775807) →
    aZ.sig.post [.S s0, .I i1, .I i2, .I i3, .I i10, .I i11, .S s12])))))) ∧ (
 ((12 : Int) ≠ (0 : Int)) →
 ((
 ((12 : Int) ≠ (0 : Int)) →
    aZ.sig.post [.S s0, .I i1, .I i2, .I i3, .I i1, .I 12, .S (⟨#[]⟩ : BA)]) ∧ (
 ((12 : Int) = (0 : Int)) →
    aQ.sig.pre [.S s0, .I i6, .I 12, .I (wrap .i64 i8)] ∧ (
 ∀ i10 i11 : Int,
 ∀ s12 : BA,
    aQ.sig.post [.S s0, .I i6, .I 12, .I (wrap .i64 i8), .I i10, .I i11, .S s12] →
 R64 i10 →
 R64 i11 →
 ((s12.size : Int) ≤ 9223372036854775807) →
    aZ.sig.post [.S s0, .I i1, .I i2, .I i3, .I i10, .I i11, .S s12])))))) ∧ (
 (i8 ≤ (wrap .u64 i3)) →
 ((
 ((
 ((wrap .u64 (wrap .i64 ((s0.size : Int) - i6))) < i8) →
 ((
 ((2 : Int) ≠ (0 : Int)) →
    aZ.sig.post [.S s0, .I i1, .I i2, .I i3, .I i1, .I 2, .S (⟨#[]⟩ : BA)]) ∧ (
 ((2 : Int) = (0 : Int)) →
    aQ.sig.pre [.S s0, .I i6, .I 2, .I (wrap .i64 i8)] ∧ (
 ∀ i10 i11 : Int,
 ∀ s12 : BA,
    aQ.sig.post [.S s0, .I i6, .I 2, .I (wrap .i64 i8), .I i10, .I i11, .S s12] →
 R64 i10 →
 R64 i11 →
 ((s12.size : Int) ≤ 9223372036854775807) →
    aZ.sig.post [.S s0, .I i1, .I i2, .I i3, .I i10, .I i11, .S s12])))) ∧ (
 (i8 ≤ (wrap .u64 (wrap .i64 ((s0.size : Int) - i6)))) →
 ((
 (i7 ≠ 0) →
    aZ.sig.post [.S s0, .I i1, .I i2, .I i3, .I i1, .I i7, .S (⟨#[]⟩ : BA)]) ∧ (
 (i7 = 0) →
    aQ.sig.pre [.S s0, .I i6, .I i7, .I (wrap .i64 i8)] ∧ (
 ∀ i10 i11 : Int,
 ∀ s12 : BA,
    aQ.sig.post [.S s0, .I i6, .I i7, .I (wrap .i64 i8), .I i10, .I i11, .S s12] →
 R64 i10 →
 R64 i11 →
 ((s12.size : Int) ≤ 9223372036854775807) →
    aZ.sig.post [.S s0, .I i1, .I i2, .I i3, .I i10, .I i11, .S s12])))))) ∧ (
 (i7 ≠ 0) →
 ((
 (i7 ≠ 0) →
    aZ.sig.post [.S s0, .I i1, .I i2, .I i3, .I i1, .I i7, .S (⟨#[]⟩ : BA)]) ∧ (
 (i7 = 0) →
    aQ.sig.pre [.S s0, .I i6, .I i7, .I (wrap .i64 i8)] ∧ (
 ∀ i10 i11 : Int,
 ∀ s12 : BA,
    aQ.sig.post [.S s0, .I i6, .I i7, .I (wrap .i64 i8), .I i10, .I i11, .S s12] →
 R64 i10 →
 R64 i11 →
 ((s12.size : Int) ≤ 9223372036854775807) →
    aZ.sig.post [.S s0, .I i1, .I i2, .I i3, .I i10, .I i11, .S s12])))))))) ∧ (
 (i3 < 0) →
 ((
 ((
 ((wrap .u64 (wrap .i64 ((s0.size : Int) - i6))) < i8) →
 ((
 ((2 : Int) ≠ (0 : Int)) →
    aZ.sig.post [.S s0, .I i1, .I i2, .I i3, .I i1, .I 2, .S (⟨#[]⟩ : BA)]) ∧ (
 ((2 : Int) = (0 : Int)) →
    aQ.sig.pre [.S s0, .I i6, .I 2, .I (wrap .i64 i8)] ∧ (
 ∀ i10 i11 : Int,
 ∀ s12 : BA,
    aQ.sig.post [.S s0, .I i6, .I 2, .I (wrap .i64 i8), .I i10, .I i11, .S s12] →
 R64 i10 →
 R64 i11 →
 ((s12.size : Int) ≤ 9223372036854775807) →
    aZ.sig.post [.S s0, .I i1, .I i2, .I i3, .I i10, .I i11, .S s12])))) ∧ (
 (i8 ≤ (wrap .u64 (wrap .i64 ((s0.size : Int) - i6)))) →
 ((
 (i7 ≠ 0) →
    aZ.sig.post [.S s0, .I i1, .I i2, .I i3, .I i1, .I i7, .S (⟨#[]⟩ : BA)]) ∧ (
 (i7 = 0) →
    aQ.sig.pre [.S s0, .I i6, .I i7, .I (wrap .i64 i8)] ∧ (
 ∀ i10 i11 : Int,
 ∀ s12 : BA,
    aQ.sig.post [.S s0, .I i6, .I i7, .I (wrap .i64 i8), .I i10, .I i11, .S s12] →
 R64 i10 →
 R64 i11 →
 ((s12.size : Int) ≤ 9223372036854775807) →
    aZ.sig.post [.S s0, .I i1, .I i2, .I i3, .I i10, .I i11, .S s12])))))) ∧ (
 (i7 ≠ 0) →
 ((
 (i7 ≠ 0) →
   aZ.sig.post [.S s0, .I i1, .I i2, .I i3, .I i1, .I i7, .S (⟨#[]⟩ : BA)]) ∧ (
 (i7 = 0) →
   aQ.sig.pre [.S s0, .I i6, .I i7, .I (wrap .i64 i8)] ∧ (
 ∀ i10 i11 : Int,
 ∀ s12 : BA,
   aQ.sig.post [.S s0, .I i6, .I i7, .I (wrap .i64 i8), .I i10, .I i11, .S s12] →
 R64 i10 →
 R64 i11 →
 ((s12.size : Int) ≤ 9223372036854775807) →
   aZ.sig.post [.S s0, .I i1, .I i2, .I i3, .I i10, .I i11, .S s12])))))))))) ∧ (
 (i7 ≠ 0) →
 ((
 (i7 = 0) →
 ((
 ((wrap .u64 (wrap .i64 ((s0.size : Int) - i6))) < i8) →
 ((
 ((2 : Int) ≠ (0 : Int)) →
   aZ.sig.post [.S s0, .I i1, .I i2, .I i3, .I i1, .I 2, .S (⟨#[]⟩ : BA)]) ∧ (
 ((2 : Int) = (0 : Int)) →
   aQ.sig.pre [.S s0, .I i6, .I 2, .I (wrap .i64 i8)] ∧ (
 ∀ i10 i11 : Int,
 ∀ s12 : BA,
   aQ.sig.post [.S s0, .I i6, .I 2, .I (wrap .i64 i8), .I i10, .I i11, .S s12] →
 R64 i10 →
 R64 i11 →
 ((s12.size : Int) ≤ 9223372036854775807) →
   aZ.sig.post [.S s0, .I i1, .I i2, .I i3, .I i10, .I i11, .S s12])))) ∧ (
 (i8 ≤ (wrap .u64 (wrap .i64 ((s0.size : Int) - i6)))) →
 ((
 (i7 ≠ 0) →
   aZ.sig.post [.S s0, .I i1, .I i2, .I i3, .I i1, .I i7, .S (⟨#[]⟩ : BA)]) ∧ (
 (i7 = 0) →
   aQ.sig.pre [.S s0, .I i6, .I i7, .I (wrap .i64 i8)] ∧ (
 ∀ i10 i11 : Int,
 ∀ s12 : BA,
   aQ.sig.post [.S s0, .I i6, .I i7, .I (wrap .i64 i8), .I i10, .I i11, .S s12] →
 R64 i10 →
 R64 i11 →
 ((s12.size : Int) ≤ 9223372036854775807) →
   aZ.sig.post [.S s0, .I i1, .I i2, .I i3, .I i10, .I i11, .S s12])))))) ∧ (
 (i7 ≠ 0) →
 ((
 (i7 ≠ 0) →
  aZ.sig.post [.S s0, .I i1, .I i2, .I i3, .I i1, .I i7, .S (⟨#[]⟩ : BA)]) ∧ (
 (i7 = 0) →
  aQ.sig.pre [.S s0, .I i6, .I i7, .I (wrap .i64 i8)] ∧ (
 ∀ i10 i11 : Int,
 ∀ s12 : BA,
  aQ.sig.post [.S s0, .I i6, .I i7, .I (wrap .i64 i8), .I i10, .I i11, .S s12] →
 R64 i10 →
 R64 i11 →
 ((s12.size : Int) ≤ 9223372036854775807) →
  aZ.sig.post [.S s0, .I i1, .I i2, .I i3, .I i10, .I i11, .S s12]))))))))
def kV.Pure : Prop :=
 ∀ s0 : BA,
 ∀ i1 i2 : Int,
 ((s0.size : Int) ≤ 9223372036854775807) →
 R64 i1 →
 R64 i2 →
 kV.sig.pre [.S s0, .I i1, .I i2] →
 ∀ n3 n4 : Nat,
 ((
 (i2 = 0) →
 ((
 (i1 < (s0.size : Int)) →
  kV.sig.post [.S s0, .I i1, .I i2, .I i1, .I 3]) ∧ (
 ((s0.size : Int) ≤ i1) →
   kV.sig.post [.S s0, .I i1, .I i2, .I i1, .I i2]))) ∧ (
 (i2 ≠ 0) →
  kV.sig.post [.S s0, .I i1, .I i2, .I i1, .I i2]))
end Go.Vc
namespace Go.Vc
theorem aU9 {s : BA} {a e n a' e' r : Int} (h : (a', e', r) = bY s a e n) (ha : 0 ≤ a ∧ a ≤ s.size) : 0 ≤ a' ∧ a' ≤ s.size := by
 have hc := aO1 n
 have := (aK5 s a e (clamp 1 8 n) (by omega) ha).2
 have e1 : a' = (aK s a e (clamp 1 8 n)).1 := congrArg (·.1) h
 rw [e1]; exact this
theorem bM4 {s : BA} {a e n : Int} (he : e ≠ 0) : bY s a e n = (a, e, 0) := by
 rw [bY, aK, if_pos he]; rfl
theorem bD2 {n : Int} (hn : 1 ≤ n ∧ n ≤ 8) : clamp 1 8 n = n := by unfold clamp; rw [if_neg (by omega), if_neg (by omega)]
theorem aJ0 {s : BA} {a n : Int} (ha : 0 ≤ a) (hn : 1 ≤ n ∧ n ≤ 8) (h : a + n ≤ s.size) : bY s a 0 n = (a + n, 0, dK (((bytesOf s).drop a.toNat).take n.toNat)) := by
 rw [bY, bD2 hn, aK, if_neg (by simp), if_neg (by omega)]
 show (a + n, (0 : Int), dK (bytesOf (s.extract a.toNat (a + n).toNat))) = _
 rw [rG, List.drop_take, show (a + n).toNat - a.toNat = n.toNat from by omega]
theorem cK6 {s : BA} {a n : Int} (hn : 1 ≤ n ∧ n ≤ 8) (h : (s.size : Int) < a + n) : bY s a 0 n = (a, 2, 0) := by
 rw [bY, bD2 hn, aK, if_neg (by simp), if_pos (by omega)]; rfl
theorem aC3 {s : BA} {a e n a' r : Int} (ha : 0 ≤ a) (hn : 1 ≤ n ∧ n ≤ 8) (h : (a', 0, r) = bY s a e n) :
  e = 0 ∧ a + n ≤ s.size ∧ a' = a + n ∧ r = dK (((bytesOf s).drop a.toNat).take n.toNat) := by
 by_cases he : e = 0
 ·subst he
  by_cases hs : a + n ≤ s.size
  ·rw [aJ0 ha hn hs] at h
   simp only [Prod.mk.injEq] at h
   exact ⟨rfl, hs, h.1, h.2.2⟩
  ·rw [cK6 hn (by omega)] at h
   simp only [Prod.mk.injEq] at h
   omega
 ·rw [bM4 he] at h
  simp only [Prod.mk.injEq] at h
  omega
theorem pk_len {l : LI} {a n : Nat} (h : a + n ≤ l.length) : ((l.drop a).take n).length = n := by
 rw [List.length_take, List.length_drop]; omega
theorem dM5 : ∀ (l : LI), (∀ x ∈ l, 0 ≤ x ∧ x < 256) → ∀ i (h2 : i < l.length), dK l / 256 ^ (l.length - 1 - i) % 256 = l[i] := by
 intro l
 induction l with
 | nil => intro _ i h2; simp at h2
 | cons c l ih =>
  intro h i h2
  have hc := h c (by simp)
  have hr := zD (l := l) (fun x hx => h x (by simp [hx])) l.length (Nat.le_refl _)
  rw [List.take_length] at hr
  have e0 : dK (c :: l) = c * 256 ^ l.length + dK l := by
   show l.foldl _ (256 * 0 + c) = _
   rw [aN3]; simp
  rw [e0, List.length_cons]
  cases i with
  | zero =>
   rw [show l.length + 1 - 1 - 0 = l.length from by omega, Int.add_comm, Int.add_mul_ediv_right _ _ (Int.ne_of_gt (aJ1 _)), Int.ediv_eq_zero_of_lt hr.1 hr.2]
   simp; omega
  | succ i =>
   have hi : i < l.length := by simpa using h2
   rw [show l.length + 1 - 1 - (i + 1) = l.length - 1 - i from by omega, List.getElem_cons_succ, ← ih (fun x hx => h x (by simp [hx])) i hi]
   have e1 : c * 256 ^ l.length = (c * 256 ^ i * 256) * 256 ^ (l.length - 1 - i) := by
    rw [Int.mul_assoc, Int.mul_assoc, ← Int.pow_succ', ← Int.pow_add]
    congr 2
    omega
   rw [e1, Int.add_comm, Int.add_mul_ediv_right _ _ (Int.ne_of_gt (aJ1 _))]
   omega
theorem dM4 {l : LI} (h : ∀ x ∈ l, 0 ≤ x ∧ x < 256) : beB (dK l) l.length = l := by
 apply List.ext_getElem (xO _ _)
 intro i h1 h2
 have hb := bT0 (dK l) (n := l.length) (k := i) h2
 have e1 : (beB (dK l) l.length).getD i 0 = (beB (dK l) l.length)[i] := by simp [List.getD, h1]
 rw [← e1, hb]
 exact dM5 l h i h2
theorem cK5 {l : LI} {n : Int} (h : ∀ x ∈ l, 0 ≤ x ∧ x < 256) (hn : 1 ≤ n) (hl : (l.length : Int) = n) :
  dA (dK l) = (247 + n) :: l ↔ ¬ (dK l < 248 ∨ bH (dK l) ≠ n) := by
 constructor
 ·intro he hc
  unfold dA at he
  split at he
  ·have := congrArg List.length he
   simp at this
   subst this
   simp at hl; omega
  ·simp only [List.cons.injEq] at he
   have := he.1
   omega
 ·intro hc
  have h1 : ¬ dK l < 248 := by omega
  have h2 : bH (dK l) = n := by omega
  rw [dA, if_neg h1, h2]
  congr 1
  rw [show n.toNat = l.length from by omega, dM4 h]
theorem aC9 {S : BA} {a e a1 e1 v1 : Int} (h : (a1, e1, v1) = bY S a e 1) (hc : e1 ≠ 0 ∨ v1 < 248) : rdNum S a e = (a1, e1, v1) := by
 rw [rdNum, ← h, if_pos hc]
theorem bN2 {S : BA} {a e a1 e1 v1 a2 e2 u : Int} (h : (a1, e1, v1) = bY S a e 1) (hc : ¬ (e1 ≠ 0 ∨ v1 < 248)) (h2 : (a2, e2, u) = bY S a1 e1 (v1 - 247)) (he : e2 ≠ 0) : rdNum S a e = (a, e2, 0) := by
 rw [rdNum, ← h, if_neg hc, ← h2]
 simp [he]
theorem bN3 {S : BA} {a e a1 e1 v1 a2 u : Int} (h : (a1, e1, v1) = bY S a e 1) (hc : ¬ (e1 ≠ 0 ∨ v1 < 248)) (h2 : (a2, 0, u) = bY S a1 e1 (v1 - 247)) (he : u < 248 ∨ bH u ≠ v1 - 247) : rdNum S a e = (a, 3, 0) := by
 rw [rdNum, ← h, if_neg hc, ← h2]
 simp [he]
theorem aW2 {S : BA} {a e a1 e1 v1 a2 u : Int} (h : (a1, e1, v1) = bY S a e 1) (hc : ¬ (e1 ≠ 0 ∨ v1 < 248)) (h2 : (a2, 0, u) = bY S a1 e1 (v1 - 247)) (he : ¬ (u < 248 ∨ bH u ≠ v1 - 247)) : rdNum S a e = (a2, 0, u) := by
 rw [rdNum, ← h, if_neg hc, ← h2]
 simp only [he]
 simp
theorem cK4 {S : BA} {a e a1 e1 v1 : Int} (ha : 0 ≤ a ∧ a ≤ S.size) (h : (a1, e1, v1) = bY S a e 1) : 0 ≤ v1 ∧ v1 < 256 := by
 by_cases he : e1 = 0
 ·subst he
  have hi := aC3 ha.1 (by omega) h
  have hr := zD (l := ((bytesOf S).drop a.toNat).take 1) (fun x hx => nX S x (List.mem_of_mem_drop (List.mem_of_mem_take hx))) _ (Nat.le_refl _)
  rw [List.take_length, pk_len (by rw [bytesOf_length']; omega)] at hr
  have e : v1 = dK (((bytesOf S).drop a.toNat).take 1) := hi.2.2.2
  rw [e]; exact hr
 ·have : v1 = 0 := by
   by_cases h0 : e = 0
   ·subst h0
    by_cases hs : a + 1 ≤ S.size
    ·rw [aJ0 ha.1 (by omega) hs] at h; simp only [Prod.mk.injEq] at h; omega
    ·rw [cK6 (by omega) (by omega)] at h; simp only [Prod.mk.injEq] at h; omega
   ·rw [bM4 h0] at h; simp only [Prod.mk.injEq] at h; omega
  omega
theorem wW {S : BA} {a e a1 e1 v1 : Int} (ha : 0 ≤ a ∧ a ≤ S.size) (h : (a1, e1, v1) = rdNum S a e) : 0 ≤ a1 ∧ a1 ≤ S.size := by
 generalize hr : bY S a e 1 = r
 obtain ⟨b, f, w⟩ := r
 have hb := aU9 hr.symm ha
 by_cases hc : f ≠ 0 ∨ w < 248
 ·rw [aC9 hr.symm hc] at h
  simp only [Prod.mk.injEq] at h
  rw [h.1]; exact hb
 ·generalize hq : bY S b f (w - 247) = q
  obtain ⟨c, g, u⟩ := q
  have hcc := aU9 hq.symm hb
  by_cases hg : g = 0
  ·subst hg
   by_cases hu : u < 248 ∨ bH u ≠ w - 247
   ·rw [bN3 hr.symm hc hq.symm hu] at h
    simp only [Prod.mk.injEq] at h
    rw [h.1]; exact ha
   ·rw [aW2 hr.symm hc hq.symm hu] at h
    simp only [Prod.mk.injEq] at h
    rw [h.1]; exact hcc
  ·rw [bN2 hr.symm hc hq.symm hg] at h
   simp only [Prod.mk.injEq] at h
   rw [h.1]; exact ha
theorem uH {S : BA} {a e n a1 e1 : Int} {r : BA} (ha : 0 ≤ a ∧ a ≤ S.size) (h : (a1, e1, r) = aK S a e n) : 0 ≤ a1 ∧ a1 ≤ S.size := by
 unfold aK at h
 split at h
 ·simp only [Prod.mk.injEq] at h; rw [h.1]; exact ha
 ·split at h
  ·simp only [Prod.mk.injEq] at h; rw [h.1]; exact ha
  ·simp only [Prod.mk.injEq] at h; omega
theorem dP2 {S : BA} {a e m a1 e1 : Int} {r : BA} (ha : 0 ≤ a ∧ a ≤ S.size) (h : (a1, e1, r) = jM S a e m) : 0 ≤ a1 ∧ a1 ≤ S.size := by
 generalize hn : rdNum S a e = n
 obtain ⟨b, f, w⟩ := n
 have hb := wW ha hn.symm
 unfold jM at h
 rw [hn] at h
 simp only at h
 generalize hq : aK S b (if f = 0 ∧ w > max m 0 then 12 else f) (min w 1099511627776) = q at h
 obtain ⟨c, g, u⟩ := q
 have hc := uH hb hq.symm
 simp only [Prod.mk.injEq] at h
 rw [h.1]
 split <;> assumption
theorem kR.pure : kR.Pure := by
 intro n0 s1 i2 i3 i4 h1 h2 h3 h4 h5
 refine ⟨?_, ?_⟩
 ·intro h6
  exact ⟨rfl, by rw [if_pos h6]⟩
 ·intro h6
  exact ⟨rfl, by rw [if_neg h6]⟩
theorem lD.pure : lD.Pure := by
 intro n0 s1 i2 i3 h1 h2 h3 h4
 have h4 : 0 ≤ i2 ∧ i2 ≤ s1.size := h4
 refine ⟨?_, ?_⟩
 ·intro h5
  refine ⟨h4, ?_⟩
  intro i4 i5 h6 h7 h8
  obtain ⟨e1, e2⟩ : i4 = i2 ∧ i5 = if i3 = 0 then 3 else i3 := h6
  refine ⟨e1, ?_, rfl⟩
  rw [mV, e2]
  by_cases hc : i3 = 0
  ·rw [if_pos hc, if_pos ⟨h5, hc⟩]
  ·rw [if_neg hc, if_neg (fun h => hc h.2)]
 ·intro h5
  refine ⟨rfl, ?_, rfl⟩
  rw [mV, if_neg (by omega)]
theorem dA7 {x : Int} (h : 0 ≤ x ∧ x < 18446744073709551616) : wrap .i64 (iQ x (1099511627776 : Int)) = min x 1099511627776 := by
 rw [aT3, aH (by omega) (by omega)]
theorem kE.pure : kE.Pure := by
 intro n0 s1 i2 i3 i4 h1 h2 h3 h4 h5
 have h5 : 0 ≤ i2 ∧ i2 ≤ s1.size := h5
 refine ⟨h5, ?_⟩
 intro i5 i6 i7 h6 h8 h7 h9
 have h6 : (i5, i6, i7) = rdNum s1 i2 i3 := h6
 have hb := wW h5 h6
 have unf : ∀ x, (if i6 = 0 ∧ i7 > max i4 0 then (12 : Int) else i6) = x → ∀ a e r, (a, e, r) = aK s1 i5 x (min i7 1099511627776) → jM s1 i2 i3 i4 = (if e ≠ 0 then i2 else a, e, r) := by
  intro x hx a e r hr
  unfold jM
  rw [← h6]
  simp only [hx]
  rw [← hr]
 have em : wrap .u64 (fJ i4 (0 : Int)) = max i4 0 := by rw [aT2, eY (by omega) (by omega)]
 have e40 := dA7 (x := i7) (by assumption)
 try rw [em]
 have fin : ∀ x, (if i6 = 0 ∧ i7 > max i4 0 then (12 : Int) else i6) = x → eH.sig.pre [(D.N n0), (D.S s1), (D.I i5), (D.I x), (D.I (min i7 1099511627776))] ∧
   ∀ (i8 i9 : Int) (s10 : BA), eH.sig.post [(D.N n0), (D.S s1), (D.I i5), (D.I x), (D.I (min i7 1099511627776)), (D.I i8), (D.I i9), (D.S s10)] →
    (i9 ≠ 0 → kE.sig.post [(D.N n0), (D.S s1), (D.I i2), (D.I i3), (D.I i4), (D.I i2), (D.I i9), (D.S s10)]) ∧
    (i9 = 0 → kE.sig.post [(D.N n0), (D.S s1), (D.I i2), (D.I i3), (D.I i4), (D.I i8), (D.I i9), (D.S s10)]) := by
  intro x hx
  refine ⟨hb, ?_⟩
  intro i8 i9 s10 h
  have h := unf x hx i8 i9 s10 h
  constructor
  ·intro hc
   show (i2, i9, s10) = jM s1 i2 i3 i4
   rw [h, if_pos hc]
  ·intro hc
   show (i8, i9, s10) = jM s1 i2 i3 i4
   rw [h, if_neg (by omega)]
 rw [e40]
 refine ⟨?_, ?_⟩
 ·intro h10
  refine ⟨?_, ?_⟩
  ·intro h11
   have f := fin 12 (by rw [if_pos ⟨h10, h11⟩])
   exact ⟨f.1, fun i8 i9 s10 h _ _ _ => f.2 i8 i9 s10 h⟩
  ·intro h11
   have f := fin i6 (by rw [if_neg (by omega)])
   exact ⟨f.1, fun i8 i9 s10 h _ _ _ => f.2 i8 i9 s10 h⟩
 ·intro h10
  have f := fin i6 (by rw [if_neg (by omega)])
  exact ⟨f.1, fun i8 i9 s10 h _ _ _ => f.2 i8 i9 s10 h⟩
theorem aQ.pure : aQ.Pure := by
 intro s0 i1 i2 i3 h1 h2 h3 h4 h5 n4 n5
 have h5 : 0 ≤ i1 ∧ i1 ≤ s0.size ∧ s0.size ≤ 1000000000 := h5
 try rw [aH (x := ((s0.size : Nat) : Int) - i1) (by omega) (by omega)]
 refine ⟨?_, ?_⟩
 ·intro h6
  show (i1, i2, ByteArray.empty) = aK s0 i1 i2 i3
  rw [aK, if_pos h6]
 ·intro h6
  have h6 : i2 = 0 := h6
  refine ⟨?_, ?_⟩
  ·intro h7
   show (i1, (2 : Int), ByteArray.empty) = aK s0 i1 i2 i3
   rw [aK, if_neg (by omega), if_pos (.inl h7)]
  ·intro h7
   refine ⟨?_, ?_⟩
   ·intro h8
    show (i1, (2 : Int), ByteArray.empty) = aK s0 i1 i2 i3
    rw [aK, if_neg (by omega), if_pos (.inr h8)]
   ·intro h8
    rw [aH (x := i1 + i3) (by omega) (by omega)]
    refine ⟨by omega, fun h9 => ⟨by omega, fun h10 => ⟨by omega, fun h11 => ?_⟩⟩⟩
    show (i1 + i3, i2, s0.extract i1.toNat (i1 + i3).toNat) = aK s0 i1 i2 i3
    rw [aK, if_neg (by omega), if_neg (by omega)]
theorem iI.pure : iI.Pure := by
 intro s0 i1 i2 i3 h1 h2 h3 h4 h5 n4 n5
 have h5 : 0 ≤ i1 ∧ i1 ≤ s0.size ∧ s0.size ≤ 1000000000 ∧ 1 ≤ i3 ∧ i3 ≤ 8 := h5
 have ec := bD2 (n := i3) ⟨h5.2.2.2.1, h5.2.2.2.2⟩
 refine ⟨⟨h5.1, h5.2.1, h5.2.2.1⟩, ?_⟩
 intro i6 i7 s8 h6 h7 h8 h9
 have h6 : (i6, i7, s8) = aK s0 i1 i2 i3 := h6
 have es : (aK s0 i1 i2 i3).2.2 = s8 := by rw [← h6]
 have hs8 : (s8.size : Int) ≤ i3 := by
  have := (aK5 s0 i1 i2 i3 (by omega) ⟨h5.1, h5.2.1⟩).1
  rwa [es] at this
 have hlen := bytesOf_length' s8
 have hby := nX s8
 have inv : ∀ v i : Int, iI.I0 [(D.S s0), (D.I i1), (D.I i2), (D.I i3), (D.I v), (D.I i)] ↔ 0 ≤ i ∧ i ≤ s8.size ∧ v = dK ((bytesOf s8).take i.toNat) := by
  intro v i
  show 0 ≤ i ∧ i ≤ (aK s0 i1 i2 i3).2.2.size ∧ v = dK ((bytesOf (aK s0 i1 i2 i3).2.2).take i.toNat) ↔ _
  rw [es]
 refine ⟨?_, ?_⟩
 ·exact (inv _ _).2 ⟨by decide, by omega, rfl⟩
 intro i9 i10 h10 h11 h12
 obtain ⟨a, b, d⟩ := (inv _ _).1 h12
 refine ⟨?_, ?_⟩
 ·intro h13
  refine ⟨a, fun h14 => ?_⟩
  have hx : 0 ≤ byteAt s8 i10 ∧ byteAt s8 i10 < 256 := qJ.1 (cA6 s8 i10)
  have hr := zD hby i10.toNat (by omega)
  have hp : (256 : Int) ^ i10.toNat ≤ 256 ^ 7 := by
   have h2 : 256 ^ i10.toNat ≤ 256 ^ 7 := Nat.pow_le_pow_right (by decide : 0 < 256) (by omega)
   have h3 : ((256 ^ i10.toNat : Nat) : Int) ≤ ((256 ^ 7 : Nat) : Int) := by omega
   rwa [Int.natCast_pow, Int.natCast_pow] at h3
  have hp7 : (256 : Int) ^ 7 = 72057594037927936 := rfl
  rw [eY (x := byteAt s8 i10) (by omega) (by omega), eY (x := 256 * i9) (by omega) (by omega), eY (by omega) (by omega), aH (by omega) (by omega)]
  refine ⟨?_, ?_⟩
  ·refine (inv _ _).2 ⟨by omega, by omega, ?_⟩
   rw [show (i10 + 1).toNat = i10.toNat + 1 from by omega, take_snoc' (by omega), bA9, d, aF1]
  ·show ((aK s0 i1 i2 i3).2.2.size - (i10 + 1)).toNat < ((aK s0 i1 i2 i3).2.2.size - i10).toNat
   rw [es]; omega
 ·intro h13
  show (i6, i7, i9) = bY s0 i1 i2 i3
  rw [bY, ec, ← h6, d, List.take_of_length_le (by omega)]
theorem iJ.pure : iJ.Pure := by
 intro s0 i1 i2 h1 h2 h3 h4 n3 n4
 have h4 : 0 ≤ i1 ∧ i1 ≤ s0.size ∧ s0.size ≤ 1000000000 := h4
 refine ⟨⟨h4.1, h4.2.1, h4.2.2, by decide, by decide⟩, ?_⟩
 intro i5 i6 i7 h5 h6 h7 h8 n8
 have h5 : (i5, i6, i7) = bY s0 i1 i2 1 := h5
 have hb := aU9 h5 ⟨h4.1, h4.2.1⟩
 have hv := cK4 ⟨h4.1, h4.2.1⟩ h5
 refine ⟨?_, ?_⟩
 ·intro h9
  exact (aC9 h5 (.inl h9)).symm
 ·intro h9
  refine ⟨?_, ?_⟩
  ·intro h10
   exact (aC9 h5 (.inr h10)).symm
  ·intro h10
   have hc : ¬ (i6 ≠ 0 ∨ i7 < 248) := by omega
   rw [aH (x := i7) (by omega) (by omega), aH (x := i7 - 247) (by omega) (by omega)]
   refine ⟨⟨hb.1, hb.2, h4.2.2, by omega, by omega⟩, ?_⟩
   intro i9 i10 i11 h11 h12 h13 h14
   have h11 : (i9, i10, i11) = bY s0 i5 i6 (i7 - 247) := h11
   have fb : i10 ≠ 0 → iJ.sig.post [(D.S s0), (D.I i1), (D.I i2), (D.I i1), (D.I i10), (D.I (0 : Int))] := fun h => (bN2 h5 hc h11 h).symm
   refine ⟨?_, ?_⟩
   ·intro h15
    subst h15
    subst h9
    have q1 := aC3 h4.1 (by omega) h5
    have q2 := aC3 hb.1 (by omega) h11
    have b1 : i1 ≤ i9 := by omega
    have b3 : i9 ≤ s0.size := by omega
    have hl := bytesOf_length' s0
    have has : ∀ x ∈ ((bytesOf s0).drop i5.toNat).take (i7 - 247).toNat, 0 ≤ x ∧ x < 256 := fun x hx => nX s0 x (List.mem_of_mem_drop (List.mem_of_mem_take hx))
    have hlen : ((((bytesOf s0).drop i5.toNat).take (i7 - 247).toNat).length : Int) = i7 - 247 := by rw [pk_len (by omega)]; omega
    have one := cK5 has (n := i7 - 247) (by omega) hlen
    rw [← q2.2.2.2, show 247 + (i7 - 247) = i7 from by omega] at one
    have cut : bytesOf (s0.extract i1.toNat i9.toNat) = i7 :: ((bytesOf s0).drop i5.toNat).take (i7 - 247).toNat := by
     rw [rG, List.drop_take, show i9.toNat - i1.toNat = 1 + (i7 - 247).toNat from by omega, List.take_add, List.drop_drop, show i1.toNat + 1 = i5.toNat from by omega]
     have e1 := q1.2.2.2
     have e2 : ((bytesOf s0).drop i1.toNat).take 1 = [((bytesOf s0).drop i1.toNat).getD 0 0] := by
      have := take_snoc' (l := (bytesOf s0).drop i1.toNat) (i := 0) (by rw [List.length_drop]; omega)
      simpa using this
     have e3 : i7 = ((bytesOf s0).drop i1.toNat).getD 0 0 := by
      rw [e1, show (1 : Int).toNat = 1 from rfl, e2]; simp [dK]
     rw [e2, ← e3]; rfl
    have fin : ∀ s12 : BA, fU.sig.post [(D.I i11), (D.S s12)] → (s12 ≠ s0.extract i1.toNat i9.toNat → iJ.sig.post [(D.S s0), (D.I i1), (D.I i2), (D.I i1), (D.I (3 : Int)), (D.I (0 : Int))]) ∧
      (s12 = s0.extract i1.toNat i9.toNat → iJ.sig.post [(D.S s0), (D.I i1), (D.I i2), (D.I i9), (D.I (0 : Int)), (D.I i11)]) := by
     intro s12 hs
     have hs : s12 = textOf (dA i11) := hs
     have hsb : bytesOf s12 = dA i11 := by rw [hs, lK (bL3 h14.1)]
     constructor
     ·intro hne
      refine (bN3 h5 hc h11 ?_).symm
      apply Classical.byContradiction
      intro hcc
      exact hne (aE3 (by rw [hsb, cut]; exact one.2 hcc))
     ·intro he
      refine (aW2 h5 hc h11 (one.1 ?_)).symm
      rw [← hsb, he, cut]
    repeat' first
     | exact ⟨trivial, fun s12 hs _ => ⟨b1, fun _ => ⟨h4.1, fun _ => ⟨b3, fun _ => ⟨fun hh => ⟨fun _ => (fin s12 hs).1 hh, fun hx => absurd hx (by decide)⟩, fun hh => ⟨fun hx => absurd rfl hx, fun _ => (fin s12 hs).2 hh⟩⟩⟩⟩⟩⟩
     | exact ⟨b1, fun _ => ⟨h4.1, fun _ => ⟨b3, fun _ => ⟨trivial, fun s12 hs _ => ⟨fun hh => ⟨fun _ => (fin s12 hs).1 hh, fun hx => absurd hx (by decide)⟩, fun hh => ⟨fun hx => absurd rfl hx, fun _ => (fin s12 hs).2 hh⟩⟩⟩⟩⟩⟩
     | refine ⟨?_, ?_⟩
   ·intro h15
    refine ⟨fun _ => fb h15, fun h => absurd h h15⟩
theorem aZ.pure : aZ.Pure := by
 intro s0 i1 i2 i3 h1 h2 h3 h4 h5 n4 n5
 have h5 : 0 ≤ i1 ∧ i1 ≤ s0.size ∧ s0.size ≤ 1000000000 := h5
 refine ⟨h5, ?_⟩
 intro i6 i7 i8 h6 h7 h8 h9 n9
 have h6 : (i6, i7, i8) = rdNum s0 i1 i2 := h6
 have hb := wW ⟨h5.1, h5.2.1⟩ h6
 have unf : ∀ x, (if i7 = 0 ∧ i8 > max i3 0 then (12 : Int) else i7) = x → ∀ a e r, (a, e, r) = aK s0 i6 x (min i8 1099511627776) → jM s0 i1 i2 i3 = (if e ≠ 0 then i1 else a, e, r) := by
  intro x hx a e r hr
  unfold jM
  rw [← h6]
  simp only [hx]
  rw [← hr]
 have f12 : i7 = 0 → max i3 0 < i8 → aZ.sig.post [(D.S s0), (D.I i1), (D.I i2), (D.I i3), (D.I i1), (D.I (12 : Int)), (D.S (⟨#[]⟩ : BA))] := by
  intro a b
  refine Eq.symm ?_
  rw [unf 12 (by rw [if_pos ⟨a, b⟩]) i6 12 ByteArray.empty (by rw [aK, if_pos (by decide)])]; rfl
 have f2 : i7 = 0 → i8 ≤ max i3 0 → (s0.size : Int) - i6 < i8 → aZ.sig.post [(D.S s0), (D.I i1), (D.I i2), (D.I i3), (D.I i1), (D.I (2 : Int)), (D.S (⟨#[]⟩ : BA))] := by
  intro a b c
  refine Eq.symm ?_
  rw [unf 0 (by rw [if_neg (by omega), a]) i6 2 ByteArray.empty (by rw [aK, if_neg (by simp), if_pos (by omega)])]; rfl
 have fe : i7 ≠ 0 → aZ.sig.post [(D.S s0), (D.I i1), (D.I i2), (D.I i3), (D.I i1), (D.I i7), (D.S (⟨#[]⟩ : BA))] := by
  intro a
  refine Eq.symm ?_
  rw [unf i7 (by rw [if_neg (by omega)]) i6 i7 ByteArray.empty (by rw [aK, if_pos a]), if_pos a]; rfl
 have fok : i7 = 0 → i8 ≤ max i3 0 → i8 ≤ (s0.size : Int) - i6 → aQ.sig.pre [(D.S s0), (D.I i6), (D.I i7), (D.I (wrap .i64 i8))] ∧ (
   ∀ (i10 : Int), ∀ (i11 : Int), ∀ (s12 : BA),
    aQ.sig.post [(D.S s0), (D.I i6), (D.I i7), (D.I (wrap .i64 i8)), (D.I i10), (D.I i11), (D.S s12)] →
    (-9223372036854775808 ≤ i10 ∧ i10 < 9223372036854775808) →
    (-9223372036854775808 ≤ i11 ∧ i11 < 9223372036854775808) →
    ((s12.size : Int) ≤ 9223372036854775807) →
    aZ.sig.post [(D.S s0), (D.I i1), (D.I i2), (D.I i3), (D.I i10), (D.I i11), (D.S s12)]) := by
  intro a b c
  refine ⟨⟨hb.1, hb.2, h5.2.2⟩, ?_⟩
  intro i10 i11 s12 h _ _ _
  rw [aH (by omega) (by omega)] at h
  have h : (i10, i11, s12) = aK s0 i6 i7 i8 := h
  refine Eq.symm ?_
  have hm : min i8 1099511627776 = i8 := by omega
  rw [unf i7 (by rw [if_neg (by omega)]) i10 i11 s12 (by rw [hm, h])]
  have e11 : i11 = 0 := by
   rw [aK, if_neg (by omega), if_neg (by omega)] at h
   simp only [Prod.mk.injEq] at h
   rw [h.2.1, a]
  rw [if_neg (by omega)]
 rw [aH (x := ((s0.size : Nat) : Int) - i6) (by omega) (by omega), eY (x := ((s0.size : Nat) : Int) - i6) (by omega) (by omega)]
 have hw : 0 ≤ i3 → wrap .u64 i3 = i3 := fun h => eY h (by omega)
 by_cases hi3 : 0 ≤ i3
 ·rw [hw hi3]
  repeat' first
   | (exfalso; omega)
   | exact f12 (by omega) (by omega)
   | exact f2 (by omega) (by omega) (by omega)
   | exact fe (by omega)
   | exact fok (by omega) (by omega) (by omega)
   | refine ⟨?_, ?_⟩
   | intro _
 ·repeat' first
   | (exfalso; omega)
   | exact f12 (by omega) (by omega)
   | exact f2 (by omega) (by omega) (by omega)
   | exact fe (by omega)
   | exact fok (by omega) (by omega) (by omega)
   | refine ⟨?_, ?_⟩
   | intro _
theorem kV.pure : kV.Pure := by
 intro s0 i1 i2 h1 h2 h3 h4 n3 n4
 refine ⟨?_, ?_⟩
 ·intro h5
  refine ⟨?_, ?_⟩
  ·intro h6
   refine ⟨rfl, ?_⟩
   rw [mV, if_pos ⟨h6, h5⟩]
  ·intro h6
   refine ⟨rfl, ?_⟩
   rw [mV, if_neg (by omega)]
 ·intro h5
  refine ⟨rfl, ?_⟩
  rw [mV, if_neg (by omega)]
end Go.Vc
namespace Go.Vc
theorem cR5 {S : BA} {a : Int} (ha : 0 ≤ a) (h : a + 1 ≤ S.size) : ((bytesOf S).drop a.toNat).take 1 = [dK (((bytesOf S).drop a.toNat).take 1)] := by
 have hl := bytesOf_length' S
 have e2 : ((bytesOf S).drop a.toNat).take 1 = [((bytesOf S).drop a.toNat).getD 0 0] := by
  have := take_snoc' (l := (bytesOf S).drop a.toNat) (i := 0) (by rw [List.length_drop]; omega)
  simpa using this
 rw [e2]; simp [dK]
theorem cI6 {S : BA} {a e a' v : Int} (ha : 0 ≤ a ∧ a ≤ S.size) (h : (a', 0, v) = rdNum S a e) :
  e = 0 ∧ a ≤ a' ∧ a' ≤ S.size ∧ ((bytesOf S).drop a.toNat).take (a' - a).toNat = dA v := by
 have hr := wW ha h
 generalize hq : bY S a e 1 = r
 obtain ⟨b, f, w⟩ := r
 have hb := aU9 hq.symm ha
 have hw := cK4 ha hq.symm
 by_cases hc : f ≠ 0 ∨ w < 248
 ·rw [aC9 hq.symm hc] at h
  simp only [Prod.mk.injEq] at h
  obtain ⟨rfl, rfl, rfl⟩ := h
  have q := aC3 ha.1 (by omega) hq.symm
  refine ⟨q.1, by omega, hr.2, ?_⟩
  have e4 := q.2.2.2
  rw [show (1 : Int).toNat = 1 from rfl] at e4
  rw [show (a' - a).toNat = 1 from by omega, cR5 ha.1 q.2.1, ← e4, dA, if_pos (by omega)]
 ·generalize hp : bY S b f (w - 247) = p
  obtain ⟨c, g, u⟩ := p
  by_cases hg : g = 0
  ·subst hg
   by_cases hu : u < 248 ∨ bH u ≠ w - 247
   ·rw [bN3 hq.symm hc hp.symm hu] at h
    simp only [Prod.mk.injEq] at h
    omega
   ·rw [aW2 hq.symm hc hp.symm hu] at h
    simp only [Prod.mk.injEq] at h
    obtain ⟨rfl, -, rfl⟩ := h
    have hf : f = 0 := by omega
    subst hf
    have q1 := aC3 ha.1 (by omega) hq.symm
    have q2 := aC3 hb.1 (by omega) hp.symm
    have hl := bytesOf_length' S
    refine ⟨q1.1, by omega, hr.2, ?_⟩
    have has : ∀ x ∈ ((bytesOf S).drop b.toNat).take (w - 247).toNat, 0 ≤ x ∧ x < 256 := fun x hx => nX S x (List.mem_of_mem_drop (List.mem_of_mem_take hx))
    have hlen : ((((bytesOf S).drop b.toNat).take (w - 247).toNat).length : Int) = w - 247 := by rw [pk_len (by omega)]; omega
    have one := cK5 has (n := w - 247) (by omega) hlen
    rw [← q2.2.2.2, show 247 + (w - 247) = w from by omega] at one
    rw [one.2 hu, show (a' - a).toNat = 1 + (w - 247).toNat from by omega, List.take_add, List.drop_drop, show a.toNat + 1 = b.toNat from by omega, cR5 ha.1 q1.2.1]
    have e4 := q1.2.2.2
    rw [show (1 : Int).toNat = 1 from rfl] at e4
    rw [← e4]; rfl
  ·rw [bN2 hq.symm hc hp.symm hg] at h
   simp only [Prod.mk.injEq] at h
   omega
theorem aV7 {S : BA} {a e n a' : Int} {t : BA} (ha : 0 ≤ a ∧ a ≤ S.size) (h : (a', 0, t) = aK S a e n) :
  e = 0 ∧ 0 ≤ n ∧ a' = a + n ∧ a' ≤ S.size ∧ ((bytesOf S).drop a.toNat).take n.toNat = bytesOf t ∧ (t.size : Int) = n := by
 unfold aK at h
 split at h
 ·simp only [Prod.mk.injEq] at h; omega
 ·split at h
  ·simp only [Prod.mk.injEq] at h; omega
  ·simp only [Prod.mk.injEq] at h
   obtain ⟨rfl, -, rfl⟩ := h
   refine ⟨by omega, by omega, rfl, by omega, ?_, ?_⟩
   ·rw [rG, List.drop_take, show (a + n).toNat - a.toNat = n.toNat from by omega]
   ·rw [ByteArray.size_extract]; omega
theorem aY2 {S : BA} {a e m a' : Int} {t : BA} (ha : 0 ≤ a ∧ a ≤ S.size) (hm : 0 ≤ m ∧ m ≤ 1000000000) (h : (a', 0, t) = jM S a e m) :
  e = 0 ∧ a ≤ a' ∧ a' ≤ S.size ∧ ((bytesOf S).drop a.toNat).take (a' - a).toNat = gV t := by
 generalize hn : rdNum S a e = n
 obtain ⟨b, f, w⟩ := n
 have hb := wW ha hn.symm
 unfold jM at h
 rw [hn] at h
 simp only at h
 by_cases hc : f = 0 ∧ w > max m 0
 ·rw [if_pos hc, aK, if_pos (show (12 : Int) ≠ 0 by decide)] at h
  simp only [Prod.mk.injEq] at h
  omega
 ·rw [if_neg hc] at h
  generalize hq : aK S b f (min w 1099511627776) = q at h
  obtain ⟨c, g, u⟩ := q
  simp only [Prod.mk.injEq] at h
  obtain ⟨h1, h2, rfl⟩ := h
  subst h2
  rw [if_neg (by decide)] at h1
  subst h1
  have r := aV7 hb hq.symm
  obtain ⟨rfl, r2, r3, r4, r5, r6⟩ := r
  have s := cI6 ha hn.symm
  have hmin : min w 1099511627776 = w := by omega
  rw [hmin] at r2 r3 r5 r6
  refine ⟨s.1, by omega, r4, ?_⟩
  rw [gV, r6, show (a' - a).toNat = (b - a).toNat + w.toNat from by omega, List.take_add, List.drop_drop, s.2.2.2, show a.toNat + (b - a).toNat = b.toNat from by omega, r5]
end Go.Vc
namespace Go.Vc
theorem at_len {S : BA} {a : Int} {l r : LI} (ha : 0 ≤ a ∧ a ≤ S.size) (h : (bytesOf S).drop a.toNat = l ++ r) : a + l.length ≤ S.size := by
 have e := congrArg List.length h
 rw [List.length_drop, bytesOf_length', List.length_append] at e
 omega
theorem aN0 {S : BA} {a : Int} {l r : LI} {n : Nat} (hn : n = l.length) (h : (bytesOf S).drop a.toNat = l ++ r) : ((bytesOf S).drop a.toNat).take n = l := by
 rw [h, hn, List.take_left]
theorem bS9 {S : BA} {a v : Int} {r : LI} (hv : 0 ≤ v ∧ v < 18446744073709551616) (ha : 0 ≤ a ∧ a ≤ S.size) (h : (bytesOf S).drop a.toNat = dA v ++ r) :
  rdNum S a 0 = (a + (dA v).length, 0, v) := by
 have hl := at_len ha h
 have hw := aM2 v
 unfold dA at h hl ⊢
 by_cases hc : v < 248
 ·rw [if_pos hc] at h hl ⊢
  have k := aJ0 (s := S) (n := 1) ha.1 (by omega) (by simp at hl; omega)
  rw [show (1 : Int).toNat = [v].length from rfl, aN0 rfl h, show dK [v] = v from by simp [dK]] at k
  rw [aC9 k.symm (.inr hc)]; rfl
 ·rw [if_neg hc] at h hl ⊢
  rw [List.length_cons, xO] at hl
  have k := aJ0 (s := S) (n := 1) ha.1 (by omega) (by omega)
  rw [show (1 : Int).toNat = [247 + bH v].length from rfl, aN0 rfl (show _ = [247 + bH v] ++ (beB v (bH v).toNat ++ r) from h), show dK [247 + bH v] = 247 + bH v from by simp [dK]] at k
  have k2 := aJ0 (s := S) (a := a + 1) (n := bH v) (by omega) (by omega) (by omega)
  have h2 : (bytesOf S).drop (a + 1).toNat = beB v (bH v).toNat ++ r := by
   rw [show (a + 1).toNat = a.toNat + 1 from by omega, ← List.drop_drop, h]; rfl
  rw [aN0 (by rw [xO]) h2, bT1, Int.emod_eq_of_lt hv.1 (dX5 hv)] at k2
  rw [aW2 k.symm (by omega) (a2 := a + 1 + bH v) (u := v) (by rw [show 247 + bH v - 247 = bH v from by omega, k2]) (by omega)]
  rw [List.length_cons, xO]
  have e9 : a + 1 + bH v = a + (((bH v).toNat + 1 : Nat) : Int) := by omega
  rw [e9]
theorem bA7 {S t : BA} {a : Int} {r : LI} (ha : 0 ≤ a ∧ a ≤ S.size) (h : (bytesOf S).drop a.toNat = bytesOf t ++ r) :
  aK S a 0 t.size = (a + (bytesOf t).length, 0, t) := by
 have hl := at_len ha h
 have hb := bytesOf_length' t
 rw [aK, if_neg (by simp), if_neg (by omega)]
 simp only [Prod.mk.injEq]
 refine ⟨by omega, trivial, ?_⟩
 apply aE3
 rw [rG, List.drop_take, aN0 (by omega) h]
theorem cX0 {S t : BA} {a m : Int} {r : LI} (hm : t.size ≤ m) (hm2 : m ≤ 1000000000) (ha : 0 ≤ a ∧ a ≤ S.size) (h : (bytesOf S).drop a.toNat = gV t ++ r) :
  jM S a 0 m = (a + (gV t).length, 0, t) := by
 have hl := at_len ha h
 rw [gV, List.append_assoc] at h
 rw [gV, List.length_append] at hl
 have k := bS9 (by omega) ha h
 have h2 : (bytesOf S).drop (a + (dA t.size).length).toNat = bytesOf t ++ r := by
  rw [show (a + (dA t.size).length).toNat = a.toNat + (dA t.size).length from by omega, ← List.drop_drop, h, List.drop_left]
 have k2 := bA7 (by omega) h2
 unfold jM
 rw [k]
 simp only
 rw [if_neg (show ¬ (True ∧ (t.size : Int) > max m 0) from fun h => by omega), show min (t.size : Int) 1099511627776 = t.size from by omega, k2]
 simp only [ne_eq, not_true_eq_false, if_false, Prod.mk.injEq, and_true]
 rw [gV, List.length_append]; omega
end Go.Vc