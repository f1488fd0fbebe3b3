/-
 Contracts of the numbers and texts as bytes (pack, and the document's): writing.
 Printed by wip/vct.py: the conditions of functions, by their contracts.
 Numbers and texts as bytes: the plain part.
 Numbers and texts as bytes: more of the plain part.
 Numbers and texts as bytes: the laws on writing.
 Contracts of the numbers and texts as bytes: reading.
 Printed by wip/vct.py: the conditions of functions, by their contracts.
 Numbers and texts as bytes: reading, the plain part.
 Numbers and texts as bytes: the laws on reading.
 Numbers and texts as bytes: what is written is read again.
-/
import Derived.Test.YtmgeaephkagdiaaGreatDoorWord
import Derived.Test.YtmgeaephkagdiaaGreatDoorTab
import Derived.KernelRfl
set_option linter.unusedVariables false
set_option linter.unusedSimpArgs false
namespace Go.Vc
def beB (v : Int) (n : Nat) : List Int := (bytesLE v n).reverse
def fixB (v n : Int) : List Int := beB v (clamp 1 8 n).toNat
def widthF (v : Int) : Int := if v < 256 then 1 else if v < 65536 then 2 else if v < 16777216 then 3 else if v < 4294967296 then 4 else if v < 1099511627776 then 5 else if v < 281474976710656 then 6 else if v < 72057594037927936 then 7 else 8
def numB (v : Int) : List Int := if v < 248 then [v] else (247 + widthF v) :: beB v (widthF v).toNat
def textB (s : ByteArray) : List Int := numB s.size ++ bytesOf s
def roomy (z : List Int) : Prop := z.length ≤ 4000000000
def wrSig (as : List AK) (pre post : List D → Prop) : Sig :=
 { args := .one (.lf (.ptr (.at 0) 0)) :: svsOf 3 as, heap := .box (.at 0) [.lf (.sl (.at 1))] :: .osl (.at 1) [.int .u8] (.at 2) :: chsOf false 3 as, srts := .N :: .V :: .Z :: srtsOf as,
   res := .tup [], heap' := [.box (.at 0) [.lf (.sl (.at (3 + (srtsOf as).length)))], .osl (.at (3 + (srtsOf as).length)) [.int .u8] (.at (4 + (srtsOf as).length))], news := [.V, .Z], pre := pre, post := post }
def WFixed.pre : List D → Prop
 | [.N _, .V _, .Z z, .I _, .I _] => roomy z
 | _ => False
def WFixed.post : List D → Prop
 | [.N _, .V _, .Z z, .I v, .I n, .V _, .Z z'] => z' = z ++ fixB v n
 | _ => False
def WFixed.sig : Sig := wrSig [.i .u64, .i .i64] WFixed.pre WFixed.post
def WFixed.I0 : List D → Prop
 | [.N _, .V _, .Z z, .I v, .I n0, .I i, .Z z'] => -1 ≤ i ∧ i < clamp 1 8 n0 ∧ z' = z ++ (fixB v n0).take (clamp 1 8 n0 - 1 - i).toNat
 | _ => False
def WFixed.I0M : List D → Nat
 | [.N _, .V _, .Z _, .I _, .I _, .I i, .Z _] => (i + 1).toNat
 | _ => 0
def Width.post : List D → Prop
 | [.I v, .I r] => r = widthF v
 | _ => False
def Width.sig : Sig := sigF [.i .u64] [.i .i64] tru Width.post
def Width.I0 : List D → Prop
 | [.I v0, .I v, .I n] => 1 ≤ n ∧ n ≤ 8 ∧ v = v0 / 256 ^ (n - 1).toNat ∧ (n = 1 ∨ 256 ^ (n - 1).toNat ≤ v0)
 | _ => False
def Width.I0M : List D → Nat
 | [.I _, .I v, .I _] => v.toNat
 | _ => 0
def WNum.pre : List D → Prop
 | [.N _, .V _, .Z z, .I _] => z.length ≤ 3000000000
 | _ => False
def WNum.post : List D → Prop
 | [.N _, .V _, .Z z, .I v, .V _, .Z z'] => z' = z ++ numB v
 | _ => False
def WNum.sig : Sig := wrSig [.i .u64] WNum.pre WNum.post
def WText.pre : List D → Prop
 | [.N _, .V _, .Z z, .S s] => z.length ≤ 1000000000 ∧ s.size ≤ 1000000000
 | _ => False
def WText.post : List D → Prop
 | [.N _, .V _, .Z z, .S s, .V _, .Z z'] => z' = z ++ textB s
 | _ => False
def WText.sig : Sig := wrSig [.s] WText.pre WText.post
def WRaw.post : List D → Prop
 | [.N _, .V _, .Z z, .S s, .V _, .Z z'] => z' = z ++ bytesOf s
 | _ => False
def WRaw.sig : Sig := wrSig [.s] WText.pre WRaw.post
def WBytes.post : List D → Prop
 | [.N _, .V _, .Z z, .S r] => r = textOf z
 | _ => False
def WBytes.sig : Sig :=
 { args := [.one (.lf (.ptr (.at 0) 0))], heap := [.box (.at 0) [.lf (.sl (.at 1))], .osl (.at 1) [.int .u8] (.at 2)], srts := [.N, .V, .Z],
   res := .one (.lf (.str (.at 3))), heap' := [.box (.at 0) [.lf (.sl (.at 1))], .osl (.at 1) [.int .u8] (.at 2)], news := [.S], pre := tru, post := WBytes.post }
def rdRaw (S : ByteArray) (at_ err n : Int) : Int × Int × ByteArray :=
 if err ≠ 0 then (at_, err, ByteArray.empty) else if n < 0 ∨ (S.size : Int) - at_ < n then (at_, 2, ByteArray.empty) else (at_ + n, err, S.extract at_.toNat (at_ + n).toNat)
def beNum (l : List Int) : Int := l.foldl (fun v c => 256 * v + c) 0
def rdFixed (S : ByteArray) (at_ err n : Int) : Int × Int × Int :=
 let r := rdRaw S at_ err (clamp 1 8 n)
 (r.1, r.2.1, beNum (bytesOf r.2.2))
def rdNum (S : ByteArray) (at_ err : Int) : Int × Int × Int :=
 let r := rdFixed S at_ err 1
 if r.2.1 ≠ 0 ∨ r.2.2 < 248 then r else
 let q := rdFixed S r.1 r.2.1 (r.2.2 - 247)
 let e := if q.2.1 = 0 ∧ (q.2.2 < 248 ∨ widthF q.2.2 ≠ r.2.2 - 247) then 3 else q.2.1
 if e ≠ 0 then (at_, e, 0) else (q.1, e, q.2.2)
def rdText (S : ByteArray) (at_ err most : Int) : Int × Int × ByteArray :=
 let r := rdNum S at_ err
 let e := if r.2.1 = 0 ∧ r.2.2 > max most 0 then 12 else r.2.1
 let q := rdRaw S r.1 e (min r.2.2 1099511627776)
 (if q.2.1 ≠ 0 then at_ else q.1, q.2.1, q.2.2)
def rdDone (S : ByteArray) (at_ err : Int) : Int := if at_ < S.size ∧ err = 0 then 3 else err
def rdSig (as rs : List AK) (pre post : List D → Prop) : Sig :=
 let n := 4 + (srtsOf as).length
 { args := .one (.lf (.ptr (.at 0) 0)) :: svsOf 4 as, heap := [.box (.at 0) [.lf (.str (.at 1)), .lf (.int .i64 (.at 2)), .lf (.int .i64 (.at 3))]], srts := .N :: .S :: .I :: .I :: srtsOf as,
   res := resOf (svsOf (n + 2) rs), heap' := [.box (.at 0) [.lf (.str (.at 1)), .lf (.int .i64 (.at n)), .lf (.int .i64 (.at (n + 1)))]], news := .I :: .I :: srtsOf rs, pre := pre, post := post }
def PRead.sig : Sig :=
 { args := [.one (.lf (.str (.at 0)))], heap := [], srts := [.S], res := .one (.lf (.ptr (.at 1) 0)), heap' := [.box (.at 1) [.lf (.str (.at 0)), .lf (.int .i64 (.int 0)), .lf (.int .i64 (.int 0))]], news := [.N], pre := tru, post := tru }
def PErr.sig : Sig :=
 { args := [.one (.lf (.ptr (.at 0) 0))], heap := [.box (.at 0) [.lf (.str (.at 1)), .lf (.int .i64 (.at 2)), .lf (.int .i64 (.at 3))]], srts := [.N, .S, .I, .I],
   res := .one (.lf (.int .i64 (.at 3))), heap' := [.box (.at 0) [.lf (.str (.at 1)), .lf (.int .i64 (.at 2)), .lf (.int .i64 (.at 3))]], news := [], pre := tru, post := tru }
def PRaw.pre : List D → Prop
 | .N _ :: .S s :: .I a :: .I _ :: _ => 0 ≤ a ∧ a ≤ s.size
 | _ => False
def PRaw.post : List D → Prop
 | [.N _, .S s, .I a, .I e, .I n, .I a', .I e', .S r] => (a', e', r) = rdRaw s a e n
 | _ => False
def PRaw.sig : Sig := rdSig [.i .i64] [.s] PRaw.pre PRaw.post
def PFixed.post : List D → Prop
 | [.N _, .S s, .I a, .I e, .I n, .I a', .I e', .I r] => (a', e', r) = rdFixed s a e n
 | _ => False
def PFixed.sig : Sig := rdSig [.i .i64] [.i .u64] PRaw.pre PFixed.post
def PFixed.I0 : List D → Prop
 | [.N _, .S s, .I a, .I e, .I n, .I v, .I i] => 0 ≤ i ∧ i ≤ (bytesOf (rdRaw s a e (clamp 1 8 n)).2.2).length ∧ v = beNum ((bytesOf (rdRaw s a e (clamp 1 8 n)).2.2).take i.toNat)
 | _ => False
def PFixed.I0M : List D → Nat
 | [.N _, .S s, .I a, .I e, .I n, .I _, .I i] => (((bytesOf (rdRaw s a e (clamp 1 8 n)).2.2).length : Int) - i).toNat
 | _ => 0
def PNum.post : List D → Prop
 | [.N _, .S s, .I a, .I e, .I a', .I e', .I r] => (a', e', r) = rdNum s a e
 | _ => False
def PNum.sig : Sig := rdSig [] [.i .u64] PRaw.pre PNum.post
def PText.post : List D → Prop
 | [.N _, .S s, .I a, .I e, .I m, .I a', .I e', .S r] => (a', e', r) = rdText s a e m
 | _ => False
def PText.sig : Sig := rdSig [.i .i64] [.s] PRaw.pre PText.post
def PFail.post : List D → Prop
 | [.N _, .S _, .I a, .I e, .I x, .I a', .I e'] => a' = a ∧ e' = if e = 0 then x else e
 | _ => False
def PFail.sig : Sig := rdSig [.i .i64] [] PRaw.pre PFail.post
def PDone.post : List D → Prop
 | [.N _, .S s, .I a, .I e, .I a', .I e', .I r] => a' = a ∧ e' = rdDone s a e ∧ r = e'
 | _ => False
def PDone.sig : Sig := rdSig [] [.i .i64] PRaw.pre PDone.post
def cutF (s : ByteArray) (n : Nat) : ByteArray := if (s.size : Int) > n then s.extract 0 n else s
end Go.Vc
namespace Go.Vc
set_option linter.unusedVariables false
def WFixed.Pure : Prop :=
 ∀ n0 : Nat,
 ∀ v1 : Value,
 ∀ z2 : List Int,
 ∀ i3 i4 : Int,
 U64 i3 →
 R64 i4 →
 (∀ x ∈ z2, IntKind.has .u8 x) →
 WFixed.sig.pre [.N n0, .V v1, .Z z2, .I i3, .I i4] →
 WFixed.I0 [.N n0, .V v1, .Z z2, .I i3, .I i4, .I (IntKind.wrap .i64 ((minI (maxI i4 1) 8) - 1)), .Z z2] ∧ (
 ∀ i5 : Int,
 ∀ v6 : Value,
 ∀ z7 : List Int,
 R64 i5 →
 (∀ x ∈ z7, IntKind.has .u8 x) →
 WFixed.I0 [.N n0, .V v1, .Z z2, .I i3, .I i4, .I i5, .Z z7] →
 ((
 (0 ≤ i5) →
 ((
  Field.sig.pre [.I i3, .I (IntKind.wrap .i64 (8 * i5)), .I 8] ∧ (
 ∀ i8 : Int,
  Field.sig.post [.I i3, .I (IntKind.wrap .i64 (8 * i5)), .I 8, .I i8] →
 U64 i8 →
 ∀ v9 : Value,
 ((((z7 ++ ((IntKind.wrap .u8 i8) :: ([] : List Int))).length : Nat) : Int) ≤ (140737488355328 : Int)) ∧ (((((z7 ++ ((IntKind.wrap .u8 i8) :: ([] : List Int))).length : Nat) : Int) ≤ (140737488355328 : Int)) →
 ∀ v10 : Value,
  Bk WFixed.I0 WFixed.I0M [.N n0, .V v1, .Z z2, .I i3, .I i4, .I (IntKind.wrap .i64 (i5 - 1)), .Z (z7 ++ ((IntKind.wrap .u8 i8) :: ([] : List Int)))] [.N n0, .V v1, .Z z2, .I i3, .I i4, .I i5, .Z z7]))) ∧ (
  Field.sig.pre [.I i3, .I (IntKind.wrap .i64 (8 * i5)), .I 8] ∧ (
 ∀ i8 : Int,
  Field.sig.post [.I i3, .I (IntKind.wrap .i64 (8 * i5)), .I 8, .I i8] →
 U64 i8 →
 ((
 ∀ v9 : Value,
 ((((z7 ++ ((IntKind.wrap .u8 i8) :: ([] : List Int))).length : Nat) : Int) ≤ (140737488355328 : Int)) ∧ (((((z7 ++ ((IntKind.wrap .u8 i8) :: ([] : List Int))).length : Nat) : Int) ≤ (140737488355328 : Int)) →
 ∀ v10 : Value,
  Bk WFixed.I0 WFixed.I0M [.N n0, .V v1, .Z z2, .I i3, .I i4, .I (IntKind.wrap .i64 (i5 - 1)), .Z (z7 ++ ((IntKind.wrap .u8 i8) :: ([] : List Int)))] [.N n0, .V v1, .Z z2, .I i3, .I i4, .I i5, .Z z7])) ∧ (
 ∀ v9 : Value,
 ((((z7 ++ ((IntKind.wrap .u8 i8) :: ([] : List Int))).length : Nat) : Int) ≤ (140737488355328 : Int)) ∧ (((((z7 ++ ((IntKind.wrap .u8 i8) :: ([] : List Int))).length : Nat) : Int) ≤ (140737488355328 : Int)) →
 ∀ v10 : Value,
  Bk WFixed.I0 WFixed.I0M [.N n0, .V v1, .Z z2, .I i3, .I i4, .I (IntKind.wrap .i64 (i5 - 1)), .Z (z7 ++ ((IntKind.wrap .u8 i8) :: ([] : List Int)))] [.N n0, .V v1, .Z z2, .I i3, .I i4, .I i5, .Z z7]))))))) ∧ (
 (i5 < 0) →
  WFixed.sig.post [.N n0, .V v1, .Z z2, .I i3, .I i4, .V v6, .Z z7])))
def Width.Pure : Prop :=
 ∀ i0 : Int,
 U64 i0 →
 Width.sig.pre [.I i0] →
 Width.I0 [.I i0, .I i0, .I 1] ∧ (
 ∀ i1 i2 : Int,
 U64 i1 →
 R64 i2 →
 Width.I0 [.I i0, .I i1, .I i2] →
 ((
 ((shrI .u64 i1 8) ≠ 0) →
  Bk Width.I0 Width.I0M [.I i0, .I (shrI .u64 i1 8), .I (IntKind.wrap .i64 (i2 + 1))] [.I i0, .I i1, .I i2]) ∧ (
 ((shrI .u64 i1 8) = 0) →
  Width.sig.post [.I i0, .I i2])))
def WNum.Pure : Prop :=
 ∀ n0 : Nat,
 ∀ v1 : Value,
 ∀ z2 : List Int,
 ∀ i3 : Int,
 U64 i3 →
 (∀ x ∈ z2, IntKind.has .u8 x) →
 WNum.sig.pre [.N n0, .V v1, .Z z2, .I i3] →
 ((
 (i3 < 248) →
 ∀ v4 : Value,
 ((((z2 ++ ((IntKind.wrap .u8 i3) :: ([] : List Int))).length : Nat) : Int) ≤ (140737488355328 : Int)) ∧ (((((z2 ++ ((IntKind.wrap .u8 i3) :: ([] : List Int))).length : Nat) : Int) ≤ (140737488355328 : Int)) →
 ∀ v5 : Value,
  WNum.sig.post [.N n0, .V v1, .Z z2, .I i3, .V v5, .Z (z2 ++ ((IntKind.wrap .u8 i3) :: ([] : List Int)))])) ∧ (
 (248 ≤ i3) →
  Width.sig.pre [.I i3] ∧ (
 ∀ i4 : Int,
  Width.sig.post [.I i3, .I i4] →
 R64 i4 →
 ∀ v5 : Value,
 ((((z2 ++ ((IntKind.wrap .u8 (IntKind.wrap .i64 ((IntKind.wrap .i64 ((248 : Int) + i4)) - (1 : Int)))) :: ([] : List Int))).length : Nat) : Int) ≤ (140737488355328 : Int)) ∧ (((((z2 ++ ((IntKind.wrap .u8 (IntKind.wrap .i64 ((IntKind.wrap .i64 ((248 : Int) + i4)) - (1 : Int)))) :: ([] : List Int))).length : Nat) : Int) ≤ (140737488355328 : Int)) →
 ∀ v6 : Value,
  WFixed.sig.pre [.N n0, .V v6, .Z (z2 ++ ((IntKind.wrap .u8 (IntKind.wrap .i64 ((IntKind.wrap .i64 (248 + i4)) - 1))) :: ([] : List Int))), .I i3, .I i4] ∧ (
 ∀ v7 : Value,
 ∀ z8 : List Int,
  WFixed.sig.post [.N n0, .V v6, .Z (z2 ++ ((IntKind.wrap .u8 (IntKind.wrap .i64 ((IntKind.wrap .i64 (248 + i4)) - 1))) :: ([] : List Int))), .I i3, .I i4, .V v7, .Z z8] →
 (∀ x ∈ z8, IntKind.has .u8 x) →
  WNum.sig.post [.N n0, .V v1, .Z z2, .I i3, .V v7, .Z z8])))))
def WText.Pure : Prop :=
 ∀ n0 : Nat,
 ∀ v1 : Value,
 ∀ z2 : List Int,
 ∀ s3 : ByteArray,
 ((s3.size : Int) ≤ 9223372036854775807) →
 (∀ x ∈ z2, IntKind.has .u8 x) →
 WText.sig.pre [.N n0, .V v1, .Z z2, .S s3] →
 WNum.sig.pre [.N n0, .V v1, .Z z2, .I (IntKind.wrap .u64 ((s3.size : Nat) : Int))] ∧ (
 ∀ v4 : Value,
 ∀ z5 : List Int,
 WNum.sig.post [.N n0, .V v1, .Z z2, .I (IntKind.wrap .u64 ((s3.size : Nat) : Int)), .V v4, .Z z5] →
 (∀ x ∈ z5, IntKind.has .u8 x) →
 ((((z5 ++ (bytesOf s3)).length : Nat) : Int) ≤ (140737488355328 : Int)) ∧ (((((z5 ++ (bytesOf s3)).length : Nat) : Int) ≤ (140737488355328 : Int)) →
 ∀ v6 : Value,
 WText.sig.post [.N n0, .V v1, .Z z2, .S s3, .V v6, .Z (z5 ++ (bytesOf s3))]))
def WRaw.Pure : Prop :=
 ∀ n0 : Nat,
 ∀ v1 : Value,
 ∀ z2 : List Int,
 ∀ s3 : ByteArray,
 ((s3.size : Int) ≤ 9223372036854775807) →
 (∀ x ∈ z2, IntKind.has .u8 x) →
 WRaw.sig.pre [.N n0, .V v1, .Z z2, .S s3] →
 ((((z2 ++ (bytesOf s3)).length : Nat) : Int) ≤ (140737488355328 : Int)) ∧ (((((z2 ++ (bytesOf s3)).length : Nat) : Int) ≤ (140737488355328 : Int)) →
 ∀ v4 : Value,
 WRaw.sig.post [.N n0, .V v1, .Z z2, .S s3, .V v4, .Z (z2 ++ (bytesOf s3))])
def WBytes.Pure : Prop :=
 ∀ n0 : Nat,
 ∀ v1 : Value,
 ∀ z2 : List Int,
 (∀ x ∈ z2, IntKind.has .u8 x) →
 WBytes.sig.pre [.N n0, .V v1, .Z z2] →
 WBytes.sig.post [.N n0, .V v1, .Z z2, .S (textOf z2)]
def PRead.Pure : Prop :=
 ∀ s0 : ByteArray,
 ((s0.size : Int) ≤ 9223372036854775807) →
 PRead.sig.pre [.S s0] →
 ∀ n1 : Nat,
 PRead.sig.post [.S s0, .N n1]
def PErr.Pure : Prop :=
 ∀ n0 : Nat,
 ∀ s1 : ByteArray,
 ∀ i2 i3 : Int,
 ((s1.size : Int) ≤ 9223372036854775807) →
 R64 i2 →
 R64 i3 →
 PErr.sig.pre [.N n0, .S s1, .I i2, .I i3] →
 PErr.sig.post [.N n0, .S s1, .I i2, .I i3]
def PRaw.Pure : Prop :=
 ∀ n0 : Nat,
 ∀ s1 : ByteArray,
 ∀ i2 i3 i4 : Int,
 R64 i4 →
 ((s1.size : Int) ≤ 9223372036854775807) →
 R64 i2 →
 R64 i3 →
 PRaw.sig.pre [.N n0, .S s1, .I i2, .I i3, .I i4] →
 ((
 (i3 ≠ 0) →
  PRaw.sig.post [.N n0, .S s1, .I i2, .I i3, .I i4, .I i2, .I i3, .S (⟨#[]⟩ : ByteArray)]) ∧ (
 (i3 = 0) →
 ((
 (i4 < 0) →
  PRaw.sig.post [.N n0, .S s1, .I i2, .I i3, .I i4, .I i2, .I 2, .S (⟨#[]⟩ : ByteArray)]) ∧ (
 (0 ≤ i4) →
 ((
 ((IntKind.wrap .i64 (((s1.size : Nat) : Int) - i2)) < i4) →
  PRaw.sig.post [.N n0, .S s1, .I i2, .I i3, .I i4, .I i2, .I 2, .S (⟨#[]⟩ : ByteArray)]) ∧ (
 (i4 ≤ (IntKind.wrap .i64 (((s1.size : Nat) : Int) - i2))) →
 ((IntKind.wrap .i64 ((IntKind.wrap .i64 (i2 + i4)) - i4)) ≤ (IntKind.wrap .i64 (i2 + i4))) ∧ (((IntKind.wrap .i64 ((IntKind.wrap .i64 (i2 + i4)) - i4)) ≤ (IntKind.wrap .i64 (i2 + i4))) →
 (0 ≤ (IntKind.wrap .i64 ((IntKind.wrap .i64 (i2 + i4)) - i4))) ∧ ((0 ≤ (IntKind.wrap .i64 ((IntKind.wrap .i64 (i2 + i4)) - i4))) →
 ((IntKind.wrap .i64 (i2 + i4)) ≤ ((s1.size : Nat) : Int)) ∧ (((IntKind.wrap .i64 (i2 + i4)) ≤ ((s1.size : Nat) : Int)) →
  PRaw.sig.post [.N n0, .S s1, .I i2, .I i3, .I i4, .I (IntKind.wrap .i64 (i2 + i4)), .I i3, .S (s1.extract (IntKind.wrap .i64 ((IntKind.wrap .i64 (i2 + i4)) - i4)).toNat (IntKind.wrap .i64 (i2 + i4)).toNat)])))))))))
def PFixed.Pure : Prop :=
 ∀ n0 : Nat,
 ∀ s1 : ByteArray,
 ∀ i2 i3 i4 : Int,
 R64 i4 →
 ((s1.size : Int) ≤ 9223372036854775807) →
 R64 i2 →
 R64 i3 →
 PFixed.sig.pre [.N n0, .S s1, .I i2, .I i3, .I i4] →
 PRaw.sig.pre [.N n0, .S s1, .I i2, .I i3, .I (minI (maxI i4 1) 8)] ∧ (
 ∀ i5 i6 : Int,
 ∀ s7 : ByteArray,
 PRaw.sig.post [.N n0, .S s1, .I i2, .I i3, .I (minI (maxI i4 1) 8), .I i5, .I i6, .S s7] →
 ((s7.size : Int) ≤ 9223372036854775807) →
 R64 i5 →
 R64 i6 →
 ∀ v8 : Value,
 PFixed.I0 [.N n0, .S s1, .I i2, .I i3, .I i4, .I 0, .I 0] ∧ (
 ∀ i9 i10 : Int,
 U64 i9 →
 R64 i10 →
 PFixed.I0 [.N n0, .S s1, .I i2, .I i3, .I i4, .I i9, .I i10] →
 ((
 (i10 < (((bytesOf s7).length : Nat) : Int)) →
 (0 ≤ i10) ∧ ((0 ≤ i10) →
  Bk PFixed.I0 PFixed.I0M [.N n0, .S s1, .I i2, .I i3, .I i4, .I (Go.bits .or .u64 (shlI .u64 i9 8) (IntKind.wrap .u64 ((bytesOf s7).getD i10.toNat 0))), .I (IntKind.wrap .i64 (i10 + 1))] [.N n0, .S s1, .I i2, .I i3, .I i4, .I i9, .I i10])) ∧ (
 ((((bytesOf s7).length : Nat) : Int) ≤ i10) →
  PFixed.sig.post [.N n0, .S s1, .I i2, .I i3, .I i4, .I i5, .I i6, .I i9]))))
def PNum.Pure : Prop :=
 ∀ n0 : Nat,
 ∀ s1 : ByteArray,
 ∀ i2 i3 : Int,
 ((s1.size : Int) ≤ 9223372036854775807) →
 R64 i2 →
 R64 i3 →
 PNum.sig.pre [.N n0, .S s1, .I i2, .I i3] →
 PFixed.sig.pre [.N n0, .S s1, .I i2, .I i3, .I 1] ∧ (
 ∀ i4 i5 i6 : Int,
 PFixed.sig.post [.N n0, .S s1, .I i2, .I i3, .I 1, .I i4, .I i5, .I i6] →
 U64 i6 →
 R64 i4 →
 R64 i5 →
 ((
 (i5 ≠ 0) →
  PNum.sig.post [.N n0, .S s1, .I i2, .I i3, .I i4, .I i5, .I i6]) ∧ (
 (i5 = 0) →
 ((
 (i6 < 248) →
  PNum.sig.post [.N n0, .S s1, .I i2, .I i3, .I i4, .I i5, .I i6]) ∧ (
 (248 ≤ i6) →
  PFixed.sig.pre [.N n0, .S s1, .I i4, .I i5, .I (IntKind.wrap .i64 ((IntKind.wrap .i64 ((IntKind.wrap .i64 i6) - 248)) + 1))] ∧ (
 ∀ i7 i8 i9 : Int,
  PFixed.sig.post [.N n0, .S s1, .I i4, .I i5, .I (IntKind.wrap .i64 ((IntKind.wrap .i64 ((IntKind.wrap .i64 i6) - 248)) + 1)), .I i7, .I i8, .I i9] →
 U64 i9 →
 R64 i7 →
 R64 i8 →
 ((
 (i8 = 0) →
 ((
 (i9 < 248) →
 ((
 ((3 : Int) ≠ (0 : Int)) →
   PNum.sig.post [.N n0, .S s1, .I i2, .I i3, .I i2, .I 3, .I 0]) ∧ (
 ((3 : Int) = (0 : Int)) →
   PNum.sig.post [.N n0, .S s1, .I i2, .I i3, .I i7, .I 3, .I i9]))) ∧ (
 (248 ≤ i9) →
   Width.sig.pre [.I i9] ∧ (
 ∀ i10 : Int,
   Width.sig.post [.I i9, .I i10] →
 R64 i10 →
 ((
 (i10 ≠ (IntKind.wrap .i64 ((IntKind.wrap .i64 ((IntKind.wrap .i64 i6) - 248)) + 1))) →
 ((
 ((3 : Int) ≠ (0 : Int)) →
    PNum.sig.post [.N n0, .S s1, .I i2, .I i3, .I i2, .I 3, .I 0]) ∧ (
 ((3 : Int) = (0 : Int)) →
    PNum.sig.post [.N n0, .S s1, .I i2, .I i3, .I i7, .I 3, .I i9]))) ∧ (
 (i10 = (IntKind.wrap .i64 ((IntKind.wrap .i64 ((IntKind.wrap .i64 i6) - 248)) + 1))) →
 ((
 (i8 ≠ 0) →
    PNum.sig.post [.N n0, .S s1, .I i2, .I i3, .I i2, .I i8, .I 0]) ∧ (
 (i8 = 0) →
    PNum.sig.post [.N n0, .S s1, .I i2, .I i3, .I i7, .I i8, .I i9])))))))) ∧ (
 (i8 ≠ 0) →
 ((
 (i8 ≠ 0) →
   PNum.sig.post [.N n0, .S s1, .I i2, .I i3, .I i2, .I i8, .I 0]) ∧ (
 (i8 = 0) →
   PNum.sig.post [.N n0, .S s1, .I i2, .I i3, .I i7, .I i8, .I i9]))))))))))
end Go.Vc
namespace Go.Vc
theorem field_byte {v a r : Int} {n : Nat} (hn : n < 8) (ha : a = 8 * (n : Int)) (h : Field.sig.post [.I v, .I a, .I 8, .I r]) : IntKind.wrap .u8 r = v / 256 ^ n % 256 := by
 subst ha
 have h : ∀ i, i < 64 → bt r i = (decide (0 ≤ 8 * (n : Int)) && decide (8 * (n : Int) < 64) && decide ((i : Int) < 8) && bt v (i + (8 * (n : Int)).toNat)) := h
 rw [IntKind.wrap_u8]
 apply eq_of_bt (w := 8) (by omega) (by show _ < 256; omega) (by omega) (by show _ < 256; omega)
 intro i hi
 rw [bt_byte _ _ _ hi, show (256 : Int) = 2 ^ 8 from rfl, bt_emod _ hi, h i (by omega), show (8 * (n : Int)).toNat = 8 * n from by omega]
 have e1 : 0 ≤ 8 * (n : Int) := by omega
 have e2 : 8 * (n : Int) < 64 := by omega
 have e3 : (i : Int) < 8 := by omega
 simp [e1, e2, e3]
theorem beB_len (v : Int) (n : Nat) : (beB v n).length = n := by rw [beB, List.length_reverse, bytesLE_len]
theorem beB_has (v : Int) (n : Nat) : ∀ x ∈ beB v n, 0 ≤ x ∧ x < 256 := fun x hx => bytesLE_has v n x (List.mem_reverse.1 hx)
theorem beB_get (v : Int) {n k : Nat} (h : k < n) : (beB v n).getD k 0 = v / 256 ^ (n - 1 - k) % 256 := by
 have e : (beB v n).getD k 0 = (bytesLE v n).getD (n - 1 - k) 0 := by
  simp only [List.getD, beB]
  rw [List.getElem?_reverse (by rw [bytesLE_len]; exact h), bytesLE_len]
 rw [e, bytesLE_get _ _ (by omega)]
theorem take_snoc' {l : List Int} {i : Nat} (h : i < l.length) : l.take (i + 1) = l.take i ++ [l.getD i 0] := by
 rw [List.take_add_one]
 congr 1
 simp [List.getD, h]
theorem clamp18 (n : Int) : 1 ≤ clamp 1 8 n ∧ clamp 1 8 n ≤ 8 := by unfold clamp; split <;> (try split) <;> omega
theorem clamp18_eq (n : Int) : minI (maxI n 1) 8 = clamp 1 8 n := by rw [minI_eq, maxI_eq]; unfold clamp; split <;> (try split) <;> omega
theorem fixB_len (v n : Int) : (fixB v n).length = (clamp 1 8 n).toNat := beB_len _ _
theorem WFixed.pure : WFixed.Pure := by
 intro n0 v1 z2 i3 i4 h1 h2 h3 h4
 have h4 : z2.length ≤ 4000000000 := h4
 have hc := clamp18 i4
 rw [clamp18_eq, i64w (x := clamp 1 8 i4 - 1) (by omega) (by omega)]
 refine ⟨?_, ?_⟩
 ·refine ⟨by omega, by omega, ?_⟩
  rw [show (clamp 1 8 i4 - 1 - (clamp 1 8 i4 - 1)).toNat = 0 from by omega]; simp
 intro i5 v6 z7 h5 h6 h7
 have h7 : -1 ≤ i5 ∧ i5 < clamp 1 8 i4 ∧ z7 = z2 ++ (fixB i3 i4).take (clamp 1 8 i4 - 1 - i5).toNat := h7
 obtain ⟨a, b, c⟩ := h7
 refine ⟨?_, ?_⟩
 ·intro h8
  rw [i64w (x := 8 * i5) (by omega) (by omega), i64w (x := i5 - 1) (by omega) (by omega)]
  have hl7 : z7.length ≤ 4000000008 := by
   rw [c, List.length_append, List.length_take, fixB_len]; omega
  have fin : ∀ i8 : Int, Field.sig.post [(D.I i3), (D.I (8 * i5)), (D.I 8), (D.I i8)] → (((z7 ++ [IntKind.wrap .u8 i8]).length : Nat) : Int) ≤ 140737488355328 ∧
    (WFixed.I0 [(D.N n0), (D.V v1), (D.Z z2), (D.I i3), (D.I i4), (D.I (i5 - 1)), (D.Z (z7 ++ [IntKind.wrap .u8 i8]))] ∧
    WFixed.I0M [(D.N n0), (D.V v1), (D.Z z2), (D.I i3), (D.I i4), (D.I (i5 - 1)), (D.Z (z7 ++ [IntKind.wrap .u8 i8]))] < WFixed.I0M [(D.N n0), (D.V v1), (D.Z z2), (D.I i3), (D.I i4), (D.I i5), (D.Z z7)]) := by
   intro i8 h9
   refine ⟨by rw [List.length_append]; simp only [List.length_cons, List.length_nil]; omega, ⟨by omega, by omega, ?_⟩, ?_⟩
   ·rw [field_byte (n := i5.toNat) (by omega) (by omega) h9, c, List.append_assoc]
    congr 1
    rw [show (clamp 1 8 i4 - 1 - (i5 - 1)).toNat = (clamp 1 8 i4 - 1 - i5).toNat + 1 from by omega, take_snoc' (by rw [fixB_len]; omega)]
    congr 1
    rw [fixB, beB_get _ (by omega), show (clamp 1 8 i4).toNat - 1 - (clamp 1 8 i4 - 1 - i5).toNat = i5.toNat from by omega]
   ·show (i5 - 1 + 1).toNat < (i5 + 1).toNat
    omega
  refine ⟨?_, ?_⟩
  ·refine ⟨trivial, ?_⟩
   intro i8 h9 h10 v9
   exact ⟨(fin i8 h9).1, fun _ v10 => (fin i8 h9).2⟩
  ·refine ⟨trivial, ?_⟩
   intro i8 h9 h10
   exact ⟨fun v9 => ⟨(fin i8 h9).1, fun _ v10 => (fin i8 h9).2⟩, fun v9 => ⟨(fin i8 h9).1, fun _ v10 => (fin i8 h9).2⟩⟩
 ·intro h8
  show z7 = z2 ++ fixB i3 i4
  rw [c, List.take_of_length_le (by rw [fixB_len]; omega)]
theorem widthF_of {v n : Int} (hv : 0 ≤ v ∧ v < 18446744073709551616) (h1 : 1 ≤ n) (h2 : n ≤ 8) (hlo : n = 1 ∨ 256 ^ (n - 1).toNat ≤ v) (hhi : n = 8 ∨ v < 256 ^ n.toNat) : widthF v = n := by
 have hc : n = 1 ∨ n = 2 ∨ n = 3 ∨ n = 4 ∨ n = 5 ∨ n = 6 ∨ n = 7 ∨ n = 8 := by omega
 rcases hc with rfl | rfl | rfl | rfl | rfl | rfl | rfl | rfl
 ·have h : v < 256 := hhi.resolve_left (by decide)
  unfold widthF; rw [if_pos h]
 ·have h : 256 ≤ v := hlo.resolve_left (by decide)
  have h' : v < 65536 := hhi.resolve_left (by decide)
  unfold widthF; rw [if_neg (by omega), if_pos h']
 ·have h : 65536 ≤ v := hlo.resolve_left (by decide)
  have h' : v < 16777216 := hhi.resolve_left (by decide)
  unfold widthF; rw [if_neg (by omega), if_neg (by omega), if_pos h']
 ·have h : 16777216 ≤ v := hlo.resolve_left (by decide)
  have h' : v < 4294967296 := hhi.resolve_left (by decide)
  unfold widthF; rw [if_neg (by omega), if_neg (by omega), if_neg (by omega), if_pos h']
 ·have h : 4294967296 ≤ v := hlo.resolve_left (by decide)
  have h' : v < 1099511627776 := hhi.resolve_left (by decide)
  unfold widthF; rw [if_neg (by omega), if_neg (by omega), if_neg (by omega), if_neg (by omega), if_pos h']
 ·have h : 1099511627776 ≤ v := hlo.resolve_left (by decide)
  have h' : v < 281474976710656 := hhi.resolve_left (by decide)
  unfold widthF; rw [if_neg (by omega), if_neg (by omega), if_neg (by omega), if_neg (by omega), if_neg (by omega), if_pos h']
 ·have h : 281474976710656 ≤ v := hlo.resolve_left (by decide)
  have h' : v < 72057594037927936 := hhi.resolve_left (by decide)
  unfold widthF; rw [if_neg (by omega), if_neg (by omega), if_neg (by omega), if_neg (by omega), if_neg (by omega), if_neg (by omega), if_pos h']
 ·have h : 72057594037927936 ≤ v := hlo.resolve_left (by decide)
  unfold widthF; rw [if_neg (by omega), if_neg (by omega), if_neg (by omega), if_neg (by omega), if_neg (by omega), if_neg (by omega), if_neg (by omega)]
theorem widthF_range (v : Int) : 1 ≤ widthF v ∧ widthF v ≤ 8 := by
 unfold widthF
 repeat' split
 all_goals decide
theorem shr8 {v : Int} : shrI .u64 v 8 = v / 256 := by
 show v.fdiv (2 ^ 8) = v / 256
 rw [Int.fdiv_eq_ediv_of_nonneg _ (by decide)]; rfl
theorem pow256_pos (n : Nat) : (0 : Int) < 256 ^ n := by rw [pow_256]; exact pow_pos' _
theorem Width.pure : Width.Pure := by
 intro i0 h1 h2
 refine ⟨?_, ?_⟩
 ·exact ⟨by decide, by decide, by simp, .inl rfl⟩
 intro i1 i2 h3 h4 h5
 have h5 : 1 ≤ i2 ∧ i2 ≤ 8 ∧ i1 = i0 / 256 ^ (i2 - 1).toNat ∧ (i2 = 1 ∨ 256 ^ (i2 - 1).toNat ≤ i0) := h5
 obtain ⟨a, b, c, d⟩ := h5
 rw [shr8]
 have e1 : i1 / 256 = i0 / 256 ^ i2.toNat := by
  rw [c, ← div_pow_succ, show (i2 - 1).toNat + 1 = i2.toNat from by omega]
 refine ⟨?_, ?_⟩
 ·intro h6
  have hge : 256 ^ i2.toNat ≤ i0 := by
   apply Classical.byContradiction
   intro hc
   rw [e1, Int.ediv_eq_zero_of_lt h1.1 (by omega)] at h6
   exact h6 rfl
  have hlt8 : i2 < 8 := by
   apply Classical.byContradiction
   intro hc
   have : i2 = 8 := by omega
   subst this
   have : (18446744073709551616 : Int) ≤ i0 := hge
   omega
  rw [i64w (by omega) (by omega)]
  refine ⟨?_, ?_⟩
  ·refine ⟨by omega, by omega, ?_, .inr ?_⟩
   ·rw [e1, show (i2 + 1 - 1).toNat = i2.toNat from by omega]
   ·rw [show (i2 + 1 - 1).toNat = i2.toNat from by omega]; exact hge
  ·show (i1 / 256).toNat < i1.toNat
   have : 0 < i1 := by
    apply Classical.byContradiction
    intro hc
    have : i1 = 0 := by omega
    rw [this] at h6; exact h6 rfl
   omega
 ·intro h6
  show i2 = widthF i0
  symm
  apply widthF_of h1 a b d
  right
  apply Classical.byContradiction
  intro hc
  have : 1 ≤ i0 / 256 ^ i2.toNat := Int.le_ediv_of_mul_le (pow256_pos _) (by omega)
  omega
end Go.Vc
namespace Go.Vc
theorem numB_len (v : Int) : (numB v).length ≤ 9 ∧ 1 ≤ (numB v).length := by
 have := widthF_range v
 unfold numB
 split
 ·simp
 ·rw [List.length_cons, beB_len]; omega
theorem fixB_wide {v : Int} : fixB v (widthF v) = beB v (widthF v).toNat := by
 have := widthF_range v
 rw [fixB, show clamp 1 8 (widthF v) = widthF v from by unfold clamp; rw [if_neg (by omega), if_neg (by omega)]]
theorem WNum.pure : WNum.Pure := by
 intro n0 v1 z2 i3 h1 h2 h3
 have h3 : z2.length ≤ 3000000000 := h3
 refine ⟨?_, ?_⟩
 ·intro h4 v4
  refine ⟨?_, fun h5 => ?_⟩
  ·rw [List.length_append]; simp only [List.length_cons, List.length_nil]; omega
  intro v5
  show z2 ++ [IntKind.wrap .u8 i3] = z2 ++ numB i3
  rw [numB, if_pos h4, IntKind.wrap_u8, show i3 % 256 = i3 from by omega]
 ·intro h4
  refine ⟨trivial, ?_⟩
  intro i4 h5 h6 v5
  have h5 : i4 = widthF i3 := h5
  have hw := widthF_range i3
  have e : IntKind.wrap .u8 (IntKind.wrap .i64 ((IntKind.wrap .i64 ((248 : Int) + i4)) - (1 : Int))) = 247 + widthF i3 := by
   rw [h5, i64w (x := 248 + widthF i3) (by omega) (by omega), i64w (by omega) (by omega), IntKind.wrap_u8]; omega
  rw [e]
  refine ⟨?_, fun h7 => ?_⟩
  ·rw [List.length_append]; simp only [List.length_cons, List.length_nil]; omega
  intro v6
  refine ⟨?_, ?_⟩
  ·show (z2 ++ [247 + widthF i3]).length ≤ 4000000000
   rw [List.length_append]; simp only [List.length_cons, List.length_nil]; omega
  intro v7 z8 h8 h9
  have h8 : z8 = z2 ++ [247 + widthF i3] ++ fixB i3 i4 := h8
  show z8 = z2 ++ numB i3
  rw [h8, h5, fixB_wide, numB, if_neg (by omega), List.append_assoc]; rfl
theorem WText.pure : WText.Pure := by
 intro n0 v1 z2 s3 h1 h2 h3
 have h3 : z2.length ≤ 1000000000 ∧ s3.size ≤ 1000000000 := h3
 rw [u64w (by omega) (by omega)]
 refine ⟨?_, ?_⟩
 ·show z2.length ≤ 3000000000
  omega
 intro v4 z5 h4 h5
 have h4 : z5 = z2 ++ numB s3.size := h4
 have hn := numB_len s3.size
 refine ⟨?_, fun h6 => ?_⟩
 ·rw [h4, List.length_append, List.length_append, bytesOf_length']; omega
 intro v6
 show z5 ++ bytesOf s3 = z2 ++ textB s3
 rw [h4, textB, List.append_assoc]
theorem WRaw.pure : WRaw.Pure := by
 intro n0 v1 z2 s3 h1 h2 h3
 have h3 : z2.length ≤ 1000000000 ∧ s3.size ≤ 1000000000 := h3
 refine ⟨?_, fun h4 => ?_⟩
 ·rw [List.length_append, bytesOf_length']; omega
 intro v4
 rfl
theorem WBytes.pure : WBytes.Pure := by
 intro n0 v1 z2 h1 h2
 rfl
theorem PRead.pure : PRead.Pure := by
 intro s0 h1 h2 n1
 trivial
theorem PErr.pure : PErr.Pure := by
 intro n0 s1 i2 i3 h1 h2 h3 h4
 trivial
theorem PRaw.pure : PRaw.Pure := by
 intro n0 s1 i2 i3 i4 h1 h2 h3 h4 h5
 have h5 : 0 ≤ i2 ∧ i2 ≤ s1.size := h5
 rw [i64w (x := ((s1.size : Nat) : Int) - i2) (by omega) (by omega)]
 refine ⟨?_, ?_⟩
 ·intro h6
  show (i2, i3, ByteArray.empty) = rdRaw s1 i2 i3 i4
  rw [rdRaw, if_pos h6]
 ·intro h6
  refine ⟨?_, ?_⟩
  ·intro h7
   show (i2, (2 : Int), ByteArray.empty) = rdRaw s1 i2 i3 i4
   rw [rdRaw, if_neg (by omega), if_pos (.inl h7)]
  ·intro h7
   refine ⟨?_, ?_⟩
   ·intro h8
    show (i2, (2 : Int), ByteArray.empty) = rdRaw s1 i2 i3 i4
    rw [rdRaw, if_neg (by omega), if_pos (.inr h8)]
   ·intro h8
    rw [i64w (x := i2 + i4) (by omega) (by omega), i64w (x := i2 + i4 - i4) (by omega) (by omega), show i2 + i4 - i4 = i2 from by omega]
    refine ⟨by omega, fun h9 => ⟨by omega, fun h10 => ⟨by omega, fun h11 => ?_⟩⟩⟩
    show (i2 + i4, i3, s1.extract i2.toNat (i2 + i4).toNat) = rdRaw s1 i2 i3 i4
    rw [rdRaw, if_neg (by omega), if_neg (by omega)]
theorem rdRaw_size (S : ByteArray) (a e n : Int) (hn : 0 ≤ n) (ha : 0 ≤ a ∧ a ≤ S.size) : ((rdRaw S a e n).2.2.size : Int) ≤ n ∧ 0 ≤ (rdRaw S a e n).1 ∧ (rdRaw S a e n).1 ≤ S.size := by
 unfold rdRaw
 split
 ·exact ⟨by show ((0 : Nat) : Int) ≤ n; omega, ha.1, ha.2⟩
 ·split
  ·exact ⟨by show ((0 : Nat) : Int) ≤ n; omega, ha.1, ha.2⟩
  ·rename_i h
   refine ⟨?_, by show 0 ≤ a + n; omega, by show a + n ≤ S.size; omega⟩
   show ((S.extract a.toNat (a + n).toNat).size : Int) ≤ n
   rw [ByteArray.size_extract]; omega
theorem beNum_snoc (l : List Int) (c : Int) : beNum (l ++ [c]) = 256 * beNum l + c := by simp [beNum]
theorem beNum_range {l : List Int} (h : ∀ x ∈ l, 0 ≤ x ∧ x < 256) : ∀ k, k ≤ l.length → 0 ≤ beNum (l.take k) ∧ beNum (l.take k) < 256 ^ k
 | 0, _ => by simp [beNum]
 | k + 1, hk => by
  have ih := beNum_range h k (by omega)
  have hx : 0 ≤ l.getD k 0 ∧ l.getD k 0 < 256 := by
   simp only [List.getD, List.getElem?_eq_getElem (show k < l.length by omega), Option.getD_some]
   exact h _ (List.getElem_mem _)
  rw [take_snoc' (by omega), beNum_snoc, Int.pow_succ]
  omega
theorem or_low {v c : Int} (h0 : 0 ≤ v) (h1 : v < 72057594037927936) (c0 : 0 ≤ c) (c1 : c < 256) : Go.bits .or .u64 (shlI .u64 v 8) c = 256 * v + c := by
 have e : shlI .u64 v 8 = v * 256 := by
  show IntKind.u64.wrap (v * 2 ^ 8) = v * 256
  rw [show (2 : Int) ^ 8 = 256 from rfl, u64w (by omega) (by omega)]
 have j := bits_join .u64 64 (by decide) (fun n h0 h1 => wrap_u64_eq h0 h1) 8 (v * 256) c (by omega) (by show v * 256 % 256 = 0; omega) (by show v * 256 < 18446744073709551616; omega) c0 (by show c < 256; exact c1) (by show c < 18446744073709551616; omega)
 rw [e, j]; omega
theorem PFixed.pure : PFixed.Pure := by
 intro n0 s1 i2 i3 i4 h1 h2 h3 h4 h5
 have h5 : 0 ≤ i2 ∧ i2 ≤ s1.size := h5
 have hc := clamp18 i4
 rw [clamp18_eq]
 refine ⟨h5, ?_⟩
 intro i5 i6 s7 h6 h7 h8 h9 v8
 have h6 : (i5, i6, s7) = rdRaw s1 i2 i3 (clamp 1 8 i4) := h6
 have hs7 : s7.size ≤ 8 := by
  have := (rdRaw_size s1 i2 i3 (clamp 1 8 i4) (by omega) h5).1
  rw [← h6] at this
  have this : (s7.size : Int) ≤ clamp 1 8 i4 := this
  omega
 have hlen := bytesOf_length' s7
 have hby := bytesOf_has s7
 refine ⟨?_, ?_⟩
 ·refine ⟨by decide, ?_, rfl⟩
  omega
 intro i9 i10 h10 h11 h12
 have es : (rdRaw s1 i2 i3 (clamp 1 8 i4)).2.2 = s7 := by rw [← h6]
 have h12 : 0 ≤ i10 ∧ i10 ≤ (bytesOf (rdRaw s1 i2 i3 (clamp 1 8 i4)).2.2).length ∧ i9 = beNum ((bytesOf (rdRaw s1 i2 i3 (clamp 1 8 i4)).2.2).take i10.toNat) := h12
 rw [es] at h12
 obtain ⟨a, b, d⟩ := h12
 refine ⟨?_, ?_⟩
 ·intro h13
  refine ⟨?_, fun h14 => ?_⟩
  ·omega -- (0 : Int) ≤ i10
  have hx : 0 ≤ (bytesOf s7).getD i10.toNat 0 ∧ (bytesOf s7).getD i10.toNat 0 < 256 := by
   simp only [List.getD, List.getElem?_eq_getElem (show i10.toNat < (bytesOf s7).length by omega), Option.getD_some]
   exact hby _ (List.getElem_mem _)
  have hr := beNum_range hby i10.toNat (by omega)
  have hp : (256 : Int) ^ i10.toNat ≤ 256 ^ 7 := by
   have h2 : 256 ^ i10.toNat ≤ 256 ^ 7 := Nat.pow_le_pow_right (by decide : 0 < 256) (by omega)
   have h3 : ((256 ^ i10.toNat : Nat) : Int) ≤ ((256 ^ 7 : Nat) : Int) := by omega
   rwa [Int.natCast_pow, Int.natCast_pow] at h3
  have hp7 : (256 : Int) ^ 7 = 72057594037927936 := rfl
  rw [u64w (by omega) (by omega), or_low (by omega) (by omega) hx.1 hx.2, i64w (by omega) (by omega)]
  refine ⟨?_, ?_⟩
  ·show 0 ≤ i10 + 1 ∧ i10 + 1 ≤ (bytesOf (rdRaw s1 i2 i3 (clamp 1 8 i4)).2.2).length ∧ 256 * i9 + (bytesOf s7).getD i10.toNat 0 = beNum ((bytesOf (rdRaw s1 i2 i3 (clamp 1 8 i4)).2.2).take (i10 + 1).toNat)
   rw [es]
   refine ⟨by omega, by omega, ?_⟩
   rw [show (i10 + 1).toNat = i10.toNat + 1 from by omega, take_snoc' (by omega), beNum_snoc, d]
  ·show (((bytesOf (rdRaw s1 i2 i3 (clamp 1 8 i4)).2.2).length : Int) - (i10 + 1)).toNat < (((bytesOf (rdRaw s1 i2 i3 (clamp 1 8 i4)).2.2).length : Int) - i10).toNat
   rw [es]
   omega
 ·intro h13
  show (i5, i6, i9) = rdFixed s1 i2 i3 i4
  rw [rdFixed, ← h6, d, List.take_of_length_le (by omega)]
theorem PNum.pure : PNum.Pure := by
 intro n0 s1 i2 i3 h1 h2 h3 h4
 have h4 : 0 ≤ i2 ∧ i2 ≤ s1.size := h4
 refine ⟨h4, ?_⟩
 intro i4 i5 i6 h5 h6 h7 h8
 have h5 : (i4, i5, i6) = rdFixed s1 i2 i3 1 := h5
 have ha4 : 0 ≤ i4 ∧ i4 ≤ s1.size := by
  have hc := clamp18 1
  have := (rdRaw_size s1 i2 i3 (clamp 1 8 1) (by omega) h4).2
  rw [rdFixed] at h5
  have e : i4 = (rdRaw s1 i2 i3 (clamp 1 8 1)).1 := congrArg (·.1) h5
  rw [e]; exact this
 have unf : rdNum s1 i2 i3 = if i5 ≠ 0 ∨ i6 < 248 then (i4, i5, i6) else
   (if (if (rdFixed s1 i4 i5 (i6 - 247)).2.1 = 0 ∧ ((rdFixed s1 i4 i5 (i6 - 247)).2.2 < 248 ∨ widthF (rdFixed s1 i4 i5 (i6 - 247)).2.2 ≠ i6 - 247) then 3 else (rdFixed s1 i4 i5 (i6 - 247)).2.1) ≠ 0
    then (i2, (if (rdFixed s1 i4 i5 (i6 - 247)).2.1 = 0 ∧ ((rdFixed s1 i4 i5 (i6 - 247)).2.2 < 248 ∨ widthF (rdFixed s1 i4 i5 (i6 - 247)).2.2 ≠ i6 - 247) then 3 else (rdFixed s1 i4 i5 (i6 - 247)).2.1), 0)
    else ((rdFixed s1 i4 i5 (i6 - 247)).1, (if (rdFixed s1 i4 i5 (i6 - 247)).2.1 = 0 ∧ ((rdFixed s1 i4 i5 (i6 - 247)).2.2 < 248 ∨ widthF (rdFixed s1 i4 i5 (i6 - 247)).2.2 ≠ i6 - 247) then 3 else (rdFixed s1 i4 i5 (i6 - 247)).2.1), (rdFixed s1 i4 i5 (i6 - 247)).2.2)) := by
  rw [rdNum, ← h5]
 have h6b : i6 < 256 := by
  have hc1 : clamp 1 8 1 = 1 := by decide
  rw [rdFixed, hc1] at h5
  have e : i6 = beNum (bytesOf (rdRaw s1 i2 i3 1).2.2) := congrArg (·.2.2) h5
  have hs := (rdRaw_size s1 i2 i3 1 (by decide) h4).1
  have hl := bytesOf_length' (rdRaw s1 i2 i3 1).2.2
  have hr := beNum_range (bytesOf_has (rdRaw s1 i2 i3 1).2.2) _ (Nat.le_refl _)
  rw [List.take_length] at hr
  have h01 : (bytesOf (rdRaw s1 i2 i3 1).2.2).length = 0 ∨ (bytesOf (rdRaw s1 i2 i3 1).2.2).length = 1 := by omega
  rw [e]
  rcases h01 with h | h <;> rw [h] at hr
  ·have : (256 : Int) ^ 0 = 1 := rfl
   omega
  ·have : (256 : Int) ^ 1 = 256 := rfl
   omega
 refine ⟨?_, ?_⟩
 ·intro h9
  show (i4, i5, i6) = rdNum s1 i2 i3
  rw [unf, if_pos (.inl h9)]
 ·intro h9
  refine ⟨?_, ?_⟩
  ·intro h10
   show (i4, i5, i6) = rdNum s1 i2 i3
   rw [unf, if_pos (.inr h10)]
  ·intro h10
   rw [if_neg (by omega)] at unf
   have ei : IntKind.wrap .i64 i6 = i6 := i64w (by omega) (by omega)
   have en : IntKind.wrap .i64 ((IntKind.wrap .i64 (i6 - (248 : Int))) + (1 : Int)) = i6 - 247 := by
    rw [i64w (x := i6 - 248) (by omega) (by omega), i64w (by omega) (by omega)]; omega
   rw [ei, en]
   refine ⟨ha4, ?_⟩
   intro i7 i8 i9 h11 h12 h13 h14
   have h11 : (i7, i8, i9) = rdFixed s1 i4 i5 (i6 - 247) := h11
   rw [← h11] at unf
   dsimp only at unf
   refine ⟨?_, ?_⟩
   ·intro h15
    refine ⟨?_, ?_⟩
    ·intro h16
     have hcc : i8 = 0 ∧ (i9 < 248 ∨ widthF i9 ≠ i6 - 247) := ⟨h15, .inl h16⟩
     simp only [if_pos hcc] at unf
     refine ⟨?_, ?_⟩
     ·intro h17
      show (i2, (3 : Int), (0 : Int)) = rdNum s1 i2 i3
      rw [unf]; rfl
     ·intro h17
      exact absurd h17 (by decide)
    ·intro h16
     refine ⟨trivial, ?_⟩
     intro i10 h17 h18
     have h17 : i10 = widthF i9 := h17
     refine ⟨?_, ?_⟩
     ·intro h19
      have hcc : i8 = 0 ∧ (i9 < 248 ∨ widthF i9 ≠ i6 - 247) := ⟨h15, .inr (by rw [← h17]; exact h19)⟩
      simp only [if_pos hcc] at unf
      refine ⟨?_, ?_⟩
      ·intro h20
       show (i2, (3 : Int), (0 : Int)) = rdNum s1 i2 i3
       rw [unf]; rfl
      ·intro h20
       exact absurd h20 (by decide)
     ·intro h19
      have hcc : ¬ (i8 = 0 ∧ (i9 < 248 ∨ widthF i9 ≠ i6 - 247)) := by
       rintro ⟨_, h | h⟩
       ·omega
       ·exact h (by rw [← h17]; exact h19)
      simp only [if_neg hcc] at unf
      refine ⟨?_, ?_⟩
      ·intro h20
       exact absurd h15 h20
      ·intro h20
       show (i7, i8, i9) = rdNum s1 i2 i3
       rw [unf, if_neg (by omega)]
   ·intro h15
    have hcc : ¬ (i8 = 0 ∧ (i9 < 248 ∨ widthF i9 ≠ i6 - 247)) := by
     rintro ⟨h, _⟩; exact h15 h
    simp only [if_neg hcc] at unf
    refine ⟨?_, ?_⟩
    ·intro h16
     show (i2, i8, (0 : Int)) = rdNum s1 i2 i3
     rw [unf, if_pos h16]
    ·intro h16
     exact absurd h16 h15
end Go.Vc
namespace Go.Vc
theorem beNum_acc : ∀ (l : List Int) (a : Int), l.foldl (fun v c => 256 * v + c) a = a * 256 ^ l.length + beNum l
 | [], a => by simp [beNum]
 | c :: l, a => by
  simp only [List.foldl_cons, beNum, List.length_cons]
  rw [beNum_acc l (256 * a + c), beNum_acc l (256 * 0 + c), Int.pow_succ, Int.add_mul, Int.add_mul]
  have e1 : 256 * a * 256 ^ l.length = a * (256 ^ l.length * 256) := by rw [Int.mul_comm 256 a, Int.mul_assoc, Int.mul_comm 256]
  omega
theorem beNum_beB (v : Int) : ∀ n : Nat, beNum (beB v n) = v % 256 ^ n
 | 0 => by simp [beB, bytesLE, beNum, Int.emod_one]
 | n + 1 => by
  have e : beB v (n + 1) = (v / 256 ^ n % 256) :: beB v n := by rw [beB, bytesLE_succ, List.reverse_append]; rfl
  rw [e]
  show (beB v n).foldl (fun v c => 256 * v + c) (256 * 0 + v / 256 ^ n % 256) = _
  rw [beNum_acc, beNum_beB v n, beB_len]
  have hp := pow256_pos n
  have h1 := Int.mul_ediv_add_emod v (256 ^ n)
  have h2 := Int.emod_emod_of_dvd v (show (256 : Int) ^ n ∣ 256 ^ (n + 1) from ⟨256, Int.pow_succ ..⟩)
  have h3 := Int.mul_ediv_add_emod v (256 ^ (n + 1))
  have h4 : v / 256 ^ (n + 1) = v / 256 ^ n / 256 := div_pow_succ v n
  rw [Int.pow_succ] at h3 ⊢
  have h5 := Int.mul_ediv_add_emod (v / 256 ^ n) 256
  rw [Int.pow_succ] at h4
  rw [h4] at h3
  generalize v / 256 ^ n = q at *
  generalize v % 256 ^ n = r at *
  generalize (256 : Int) ^ n = P at *
  have e6 : P * 256 * (q / 256) = P * (256 * (q / 256)) := Int.mul_assoc ..
  have e7 : P * q = P * (256 * (q / 256)) + P * (q % 256) := by rw [← Int.mul_add, h5]
  have e8 : (256 * 0 + q % 256) * P = P * (q % 256) := by rw [Int.mul_zero, Int.zero_add, Int.mul_comm]
  omega
theorem widthF_lt {v : Int} (h : 0 ≤ v ∧ v < 18446744073709551616) : v < 256 ^ (widthF v).toNat := by
 unfold widthF
 repeat' split
 ·show v < 256; assumption
 ·show v < 65536; assumption
 ·show v < 16777216; assumption
 ·show v < 4294967296; assumption
 ·show v < 1099511627776; assumption
 ·show v < 281474976710656; assumption
 ·show v < 72057594037927936; assumption
 ·show v < 18446744073709551616; exact h.2
theorem numB_has {v : Int} (h : 0 ≤ v) : ∀ x ∈ numB v, 0 ≤ x ∧ x < 256 := by
 have w := widthF_range v
 intro x hx
 unfold numB at hx
 split at hx
 ·simp at hx; omega
 ·rcases List.mem_cons.1 hx with rfl | hx
  ·omega
  ·exact beB_has _ _ x hx
end Go.Vc
namespace Go.Vc
def cur (n : Nat) : S0 := .agg [.lf (.str (.at n)), .lf (.int .i64 (.at (n + 1))), .lf (.int .i64 (.at (n + 2)))]
end Go.Vc
namespace Go.Vc
set_option linter.unusedVariables false
def PText.Pure : Prop :=
 ∀ n0 : Nat,
 ∀ s1 : ByteArray,
 ∀ i2 i3 i4 : Int,
 R64 i4 →
 ((s1.size : Int) ≤ 9223372036854775807) →
 R64 i2 →
 R64 i3 →
 PText.sig.pre [.N n0, .S s1, .I i2, .I i3, .I i4] →
 PNum.sig.pre [.N n0, .S s1, .I i2, .I i3] ∧ (
 ∀ i5 i6 i7 : Int,
 PNum.sig.post [.N n0, .S s1, .I i2, .I i3, .I i5, .I i6, .I i7] →
 U64 i7 →
 R64 i5 →
 R64 i6 →
 ((
 (i6 = 0) →
 ((
 ((IntKind.wrap .u64 (maxI i4 0)) < i7) →
   PRaw.sig.pre [.N n0, .S s1, .I i5, .I 12, .I (IntKind.wrap .i64 (minI i7 1099511627776))] ∧ (
 ∀ i8 i9 : Int,
 ∀ s10 : ByteArray,
  PRaw.sig.post [.N n0, .S s1, .I i5, .I 12, .I (IntKind.wrap .i64 (minI i7 1099511627776)), .I i8, .I i9, .S s10] →
 ((s10.size : Int) ≤ 9223372036854775807) →
 R64 i8 →
 R64 i9 →
 ((
 (i9 ≠ 0) →
  PText.sig.post [.N n0, .S s1, .I i2, .I i3, .I i4, .I i2, .I i9, .S s10]) ∧ (
 (i9 = 0) →
  PText.sig.post [.N n0, .S s1, .I i2, .I i3, .I i4, .I i8, .I i9, .S s10])))) ∧ (
 (i7 ≤ (IntKind.wrap .u64 (maxI i4 0))) →
  PRaw.sig.pre [.N n0, .S s1, .I i5, .I i6, .I (IntKind.wrap .i64 (minI i7 1099511627776))] ∧ (
 ∀ i8 i9 : Int,
 ∀ s10 : ByteArray,
  PRaw.sig.post [.N n0, .S s1, .I i5, .I i6, .I (IntKind.wrap .i64 (minI i7 1099511627776)), .I i8, .I i9, .S s10] →
 ((s10.size : Int) ≤ 9223372036854775807) →
 R64 i8 →
 R64 i9 →
 ((
 (i9 ≠ 0) →
  PText.sig.post [.N n0, .S s1, .I i2, .I i3, .I i4, .I i2, .I i9, .S s10]) ∧ (
 (i9 = 0) →
  PText.sig.post [.N n0, .S s1, .I i2, .I i3, .I i4, .I i8, .I i9, .S s10])))))) ∧ (
 (i6 ≠ 0) →
  PRaw.sig.pre [.N n0, .S s1, .I i5, .I i6, .I (IntKind.wrap .i64 (minI i7 1099511627776))] ∧ (
 ∀ i8 i9 : Int,
 ∀ s10 : ByteArray,
  PRaw.sig.post [.N n0, .S s1, .I i5, .I i6, .I (IntKind.wrap .i64 (minI i7 1099511627776)), .I i8, .I i9, .S s10] →
 ((s10.size : Int) ≤ 9223372036854775807) →
 R64 i8 →
 R64 i9 →
 ((
 (i9 ≠ 0) →
  PText.sig.post [.N n0, .S s1, .I i2, .I i3, .I i4, .I i2, .I i9, .S s10]) ∧ (
 (i9 = 0) →
  PText.sig.post [.N n0, .S s1, .I i2, .I i3, .I i4, .I i8, .I i9, .S s10]))))))
def PFail.Pure : Prop :=
 ∀ n0 : Nat,
 ∀ s1 : ByteArray,
 ∀ i2 i3 i4 : Int,
 R64 i4 →
 ((s1.size : Int) ≤ 9223372036854775807) →
 R64 i2 →
 R64 i3 →
 PFail.sig.pre [.N n0, .S s1, .I i2, .I i3, .I i4] →
 ((
 (i3 = 0) →
  PFail.sig.post [.N n0, .S s1, .I i2, .I i3, .I i4, .I i2, .I i4]) ∧ (
 (i3 ≠ 0) →
  PFail.sig.post [.N n0, .S s1, .I i2, .I i3, .I i4, .I i2, .I i3]))
def PDone.Pure : Prop :=
 ∀ n0 : Nat,
 ∀ s1 : ByteArray,
 ∀ i2 i3 : Int,
 ((s1.size : Int) ≤ 9223372036854775807) →
 R64 i2 →
 R64 i3 →
 PDone.sig.pre [.N n0, .S s1, .I i2, .I i3] →
 ((
 (i2 < ((s1.size : Nat) : Int)) →
  PFail.sig.pre [.N n0, .S s1, .I i2, .I i3, .I 3] ∧ (
 ∀ i4 i5 : Int,
  PFail.sig.post [.N n0, .S s1, .I i2, .I i3, .I 3, .I i4, .I i5] →
 R64 i4 →
 R64 i5 →
  PDone.sig.post [.N n0, .S s1, .I i2, .I i3, .I i4, .I i5, .I i5])) ∧ (
 (((s1.size : Nat) : Int) ≤ i2) →
  PDone.sig.post [.N n0, .S s1, .I i2, .I i3, .I i2, .I i3, .I i3]))
end Go.Vc
namespace Go.Vc
theorem pk_rg {s : ByteArray} {a e n a' e' r : Int} (h : (a', e', r) = rdFixed s a e n) (ha : 0 ≤ a ∧ a ≤ s.size) : 0 ≤ a' ∧ a' ≤ s.size := by
 have hc := clamp18 n
 have := (rdRaw_size s a e (clamp 1 8 n) (by omega) ha).2
 have e1 : a' = (rdRaw s a e (clamp 1 8 n)).1 := congrArg (·.1) h
 rw [e1]; exact this
theorem pk_err {s : ByteArray} {a e n : Int} (he : e ≠ 0) : rdFixed s a e n = (a, e, 0) := by
 rw [rdFixed, rdRaw, if_pos he]; rfl
theorem clamp_in {n : Int} (hn : 1 ≤ n ∧ n ≤ 8) : clamp 1 8 n = n := by unfold clamp; rw [if_neg (by omega), if_neg (by omega)]
theorem pk_ok {s : ByteArray} {a n : Int} (ha : 0 ≤ a) (hn : 1 ≤ n ∧ n ≤ 8) (h : a + n ≤ s.size) : rdFixed s a 0 n = (a + n, 0, beNum (((bytesOf s).drop a.toNat).take n.toNat)) := by
 rw [rdFixed, clamp_in hn, rdRaw, if_neg (by simp), if_neg (by omega)]
 show (a + n, (0 : Int), beNum (bytesOf (s.extract a.toNat (a + n).toNat))) = _
 rw [bytesOf_extract, List.drop_take, show (a + n).toNat - a.toNat = n.toNat from by omega]
theorem pk_short {s : ByteArray} {a n : Int} (hn : 1 ≤ n ∧ n ≤ 8) (h : (s.size : Int) < a + n) : rdFixed s a 0 n = (a, 2, 0) := by
 rw [rdFixed, clamp_in hn, rdRaw, if_neg (by simp), if_pos (by omega)]; rfl
theorem pk_inv {s : ByteArray} {a e n a' r : Int} (ha : 0 ≤ a) (hn : 1 ≤ n ∧ n ≤ 8) (h : (a', 0, r) = rdFixed s a e n) :
  e = 0 ∧ a + n ≤ s.size ∧ a' = a + n ∧ r = beNum (((bytesOf s).drop a.toNat).take n.toNat) := by
 by_cases he : e = 0
 ·subst he
  by_cases hs : a + n ≤ s.size
  ·rw [pk_ok ha hn hs] at h
   simp only [Prod.mk.injEq] at h
   exact ⟨rfl, hs, h.1, h.2.2⟩
  ·rw [pk_short hn (by omega)] at h
   simp only [Prod.mk.injEq] at h
   omega
 ·rw [pk_err he] at h
  simp only [Prod.mk.injEq] at h
  omega
theorem pk_len {l : List Int} {a n : Nat} (h : a + n ≤ l.length) : ((l.drop a).take n).length = n := by
 rw [List.length_take, List.length_drop]; omega
theorem pk_be : ∀ (l : List Int), (∀ x ∈ l, 0 ≤ x ∧ x < 256) → ∀ i (h2 : i < l.length), beNum l / 256 ^ (l.length - 1 - i) % 256 = l[i] := by
 intro l
 induction l with
 | nil => intro _ i h2; simp at h2
 | cons c l ih =>
  intro h i h2
  have hc := h c (by simp)
  have hr := beNum_range (l := l) (fun x hx => h x (by simp [hx])) l.length (Nat.le_refl _)
  rw [List.take_length] at hr
  have e0 : beNum (c :: l) = c * 256 ^ l.length + beNum l := by
   show l.foldl _ (256 * 0 + c) = _
   rw [beNum_acc]; simp
  rw [e0, List.length_cons]
  cases i with
  | zero =>
   rw [show l.length + 1 - 1 - 0 = l.length from by omega, Int.add_comm, Int.add_mul_ediv_right _ _ (Int.ne_of_gt (pow256_pos _)), Int.ediv_eq_zero_of_lt hr.1 hr.2]
   simp; omega
  | succ i =>
   have hi : i < l.length := by simpa using h2
   rw [show l.length + 1 - 1 - (i + 1) = l.length - 1 - i from by omega, List.getElem_cons_succ, ← ih (fun x hx => h x (by simp [hx])) i hi]
   have e1 : c * 256 ^ l.length = (c * 256 ^ i * 256) * 256 ^ (l.length - 1 - i) := by
    rw [Int.mul_assoc, Int.mul_assoc, ← Int.pow_succ', ← Int.pow_add]
    congr 2
    omega
   rw [e1, Int.add_comm, Int.add_mul_ediv_right _ _ (Int.ne_of_gt (pow256_pos _))]
   omega
theorem pk_back {l : List Int} (h : ∀ x ∈ l, 0 ≤ x ∧ x < 256) : beB (beNum l) l.length = l := by
 apply List.ext_getElem (beB_len _ _)
 intro i h1 h2
 have hb := beB_get (beNum l) (n := l.length) (k := i) h2
 have e1 : (beB (beNum l) l.length).getD i 0 = (beB (beNum l) l.length)[i] := by simp [List.getD, h1]
 rw [← e1, hb]
 exact pk_be l h i h2
theorem pk_one {l : List Int} {n : Int} (h : ∀ x ∈ l, 0 ≤ x ∧ x < 256) (hn : 1 ≤ n) (hl : (l.length : Int) = n) :
  numB (beNum l) = (247 + n) :: l ↔ ¬ (beNum l < 248 ∨ widthF (beNum l) ≠ n) := by
 constructor
 ·intro he hc
  unfold numB at he
  split at he
  ·have := congrArg List.length he
   simp at this
   subst this
   simp at hl; omega
  ·simp only [List.cons.injEq] at he
   have := he.1
   omega
 ·intro hc
  have h1 : ¬ beNum l < 248 := by omega
  have h2 : widthF (beNum l) = n := by omega
  rw [numB, if_neg h1, h2]
  congr 1
  rw [show n.toNat = l.length from by omega, pk_back h]
theorem rn_a {S : ByteArray} {a e a1 e1 v1 : Int} (h : (a1, e1, v1) = rdFixed S a e 1) (hc : e1 ≠ 0 ∨ v1 < 248) : rdNum S a e = (a1, e1, v1) := by
 rw [rdNum, ← h, if_pos hc]
theorem rn_b {S : ByteArray} {a e a1 e1 v1 a2 e2 u : Int} (h : (a1, e1, v1) = rdFixed S a e 1) (hc : ¬ (e1 ≠ 0 ∨ v1 < 248)) (h2 : (a2, e2, u) = rdFixed S a1 e1 (v1 - 247)) (he : e2 ≠ 0) : rdNum S a e = (a, e2, 0) := by
 rw [rdNum, ← h, if_neg hc, ← h2]
 simp [he]
theorem rn_c {S : ByteArray} {a e a1 e1 v1 a2 u : Int} (h : (a1, e1, v1) = rdFixed S a e 1) (hc : ¬ (e1 ≠ 0 ∨ v1 < 248)) (h2 : (a2, 0, u) = rdFixed S a1 e1 (v1 - 247)) (he : u < 248 ∨ widthF u ≠ v1 - 247) : rdNum S a e = (a, 3, 0) := by
 rw [rdNum, ← h, if_neg hc, ← h2]
 simp [he]
theorem rn_d {S : ByteArray} {a e a1 e1 v1 a2 u : Int} (h : (a1, e1, v1) = rdFixed S a e 1) (hc : ¬ (e1 ≠ 0 ∨ v1 < 248)) (h2 : (a2, 0, u) = rdFixed S a1 e1 (v1 - 247)) (he : ¬ (u < 248 ∨ widthF u ≠ v1 - 247)) : rdNum S a e = (a2, 0, u) := by
 rw [rdNum, ← h, if_neg hc, ← h2]
 simp only [he]
 simp
theorem pk_byte {S : ByteArray} {a e a1 e1 v1 : Int} (ha : 0 ≤ a ∧ a ≤ S.size) (h : (a1, e1, v1) = rdFixed S a e 1) : 0 ≤ v1 ∧ v1 < 256 := by
 by_cases he : e1 = 0
 ·subst he
  have hi := pk_inv ha.1 (by omega) h
  have hr := beNum_range (l := ((bytesOf S).drop a.toNat).take 1) (fun x hx => bytesOf_has S x (List.mem_of_mem_drop (List.mem_of_mem_take hx))) _ (Nat.le_refl _)
  rw [List.take_length, pk_len (by rw [bytesOf_length']; omega)] at hr
  have e : v1 = beNum (((bytesOf S).drop a.toNat).take 1) := hi.2.2.2
  rw [e]; exact hr
 ·have : v1 = 0 := by
   by_cases h0 : e = 0
   ·subst h0
    by_cases hs : a + 1 ≤ S.size
    ·rw [pk_ok ha.1 (by omega) hs] at h; simp only [Prod.mk.injEq] at h; omega
    ·rw [pk_short (by omega) (by omega)] at h; simp only [Prod.mk.injEq] at h; omega
   ·rw [pk_err h0] at h; simp only [Prod.mk.injEq] at h; omega
  omega
theorem rdNum_at {S : ByteArray} {a e a1 e1 v1 : Int} (ha : 0 ≤ a ∧ a ≤ S.size) (h : (a1, e1, v1) = rdNum S a e) : 0 ≤ a1 ∧ a1 ≤ S.size := by
 generalize hr : rdFixed S a e 1 = r
 obtain ⟨b, f, w⟩ := r
 have hb := pk_rg hr.symm ha
 by_cases hc : f ≠ 0 ∨ w < 248
 ·rw [rn_a hr.symm hc] at h
  simp only [Prod.mk.injEq] at h
  rw [h.1]; exact hb
 ·generalize hq : rdFixed S b f (w - 247) = q
  obtain ⟨c, g, u⟩ := q
  have hcc := pk_rg hq.symm hb
  by_cases hg : g = 0
  ·subst hg
   by_cases hu : u < 248 ∨ widthF u ≠ w - 247
   ·rw [rn_c hr.symm hc hq.symm hu] at h
    simp only [Prod.mk.injEq] at h
    rw [h.1]; exact ha
   ·rw [rn_d hr.symm hc hq.symm hu] at h
    simp only [Prod.mk.injEq] at h
    rw [h.1]; exact hcc
  ·rw [rn_b hr.symm hc hq.symm hg] at h
   simp only [Prod.mk.injEq] at h
   rw [h.1]; exact ha
theorem rdRaw_at {S : ByteArray} {a e n a1 e1 : Int} {r : ByteArray} (ha : 0 ≤ a ∧ a ≤ S.size) (h : (a1, e1, r) = rdRaw S a e n) : 0 ≤ a1 ∧ a1 ≤ S.size := by
 unfold rdRaw at h
 split at h
 ·simp only [Prod.mk.injEq] at h; rw [h.1]; exact ha
 ·split at h
  ·simp only [Prod.mk.injEq] at h; rw [h.1]; exact ha
  ·simp only [Prod.mk.injEq] at h; omega
theorem rdText_at {S : ByteArray} {a e m a1 e1 : Int} {r : ByteArray} (ha : 0 ≤ a ∧ a ≤ S.size) (h : (a1, e1, r) = rdText S a e m) : 0 ≤ a1 ∧ a1 ≤ S.size := by
 generalize hn : rdNum S a e = n
 obtain ⟨b, f, w⟩ := n
 have hb := rdNum_at ha hn.symm
 unfold rdText at h
 rw [hn] at h
 simp only at h
 generalize hq : rdRaw S b (if f = 0 ∧ w > max m 0 then 12 else f) (min w 1099511627776) = q at h
 obtain ⟨c, g, u⟩ := q
 have hc := rdRaw_at hb hq.symm
 simp only [Prod.mk.injEq] at h
 rw [h.1]
 split <;> assumption
theorem PFail.pure : PFail.Pure := by
 intro n0 s1 i2 i3 i4 h1 h2 h3 h4 h5
 refine ⟨?_, ?_⟩
 ·intro h6
  exact ⟨rfl, by rw [if_pos h6]⟩
 ·intro h6
  exact ⟨rfl, by rw [if_neg h6]⟩
theorem PDone.pure : PDone.Pure := by
 intro n0 s1 i2 i3 h1 h2 h3 h4
 have h4 : 0 ≤ i2 ∧ i2 ≤ s1.size := h4
 refine ⟨?_, ?_⟩
 ·intro h5
  refine ⟨h4, ?_⟩
  intro i4 i5 h6 h7 h8
  obtain ⟨e1, e2⟩ : i4 = i2 ∧ i5 = if i3 = 0 then 3 else i3 := h6
  refine ⟨e1, ?_, rfl⟩
  rw [rdDone, e2]
  by_cases hc : i3 = 0
  ·rw [if_pos hc, if_pos ⟨h5, hc⟩]
  ·rw [if_neg hc, if_neg (fun h => hc h.2)]
 ·intro h5
  refine ⟨rfl, ?_, rfl⟩
  rw [rdDone, if_neg (by omega)]
theorem cut40 {x : Int} (h : 0 ≤ x ∧ x < 18446744073709551616) : IntKind.wrap .i64 (minI x (1099511627776 : Int)) = min x 1099511627776 := by
 rw [minI_eq, i64w (by omega) (by omega)]
theorem PText.pure : PText.Pure := by
 intro n0 s1 i2 i3 i4 h1 h2 h3 h4 h5
 have h5 : 0 ≤ i2 ∧ i2 ≤ s1.size := h5
 refine ⟨h5, ?_⟩
 intro i5 i6 i7 h6 h8 h7 h9
 have h6 : (i5, i6, i7) = rdNum s1 i2 i3 := h6
 have hb := rdNum_at h5 h6
 have unf : ∀ x, (if i6 = 0 ∧ i7 > max i4 0 then (12 : Int) else i6) = x → ∀ a e r, (a, e, r) = rdRaw s1 i5 x (min i7 1099511627776) → rdText s1 i2 i3 i4 = (if e ≠ 0 then i2 else a, e, r) := by
  intro x hx a e r hr
  unfold rdText
  rw [← h6]
  simp only [hx]
  rw [← hr]
 have em : IntKind.wrap .u64 (maxI i4 (0 : Int)) = max i4 0 := by rw [maxI_eq, u64w (by omega) (by omega)]
 have e40 := cut40 (x := i7) (by assumption)
 try rw [em]
 have fin : ∀ x, (if i6 = 0 ∧ i7 > max i4 0 then (12 : Int) else i6) = x → PRaw.sig.pre [(D.N n0), (D.S s1), (D.I i5), (D.I x), (D.I (min i7 1099511627776))] ∧
   ∀ (i8 i9 : Int) (s10 : ByteArray), PRaw.sig.post [(D.N n0), (D.S s1), (D.I i5), (D.I x), (D.I (min i7 1099511627776)), (D.I i8), (D.I i9), (D.S s10)] →
    (i9 ≠ 0 → PText.sig.post [(D.N n0), (D.S s1), (D.I i2), (D.I i3), (D.I i4), (D.I i2), (D.I i9), (D.S s10)]) ∧
    (i9 = 0 → PText.sig.post [(D.N n0), (D.S s1), (D.I i2), (D.I i3), (D.I i4), (D.I i8), (D.I i9), (D.S s10)]) := by
  intro x hx
  refine ⟨hb, ?_⟩
  intro i8 i9 s10 h
  have h := unf x hx i8 i9 s10 h
  constructor
  ·intro hc
   show (i2, i9, s10) = rdText s1 i2 i3 i4
   rw [h, if_pos hc]
  ·intro hc
   show (i8, i9, s10) = rdText s1 i2 i3 i4
   rw [h, if_neg (by omega)]
 rw [e40]
 refine ⟨?_, ?_⟩
 ·intro h10
  refine ⟨?_, ?_⟩
  ·intro h11
   have f := fin 12 (by rw [if_pos ⟨h10, h11⟩])
   exact ⟨f.1, fun i8 i9 s10 h _ _ _ => f.2 i8 i9 s10 h⟩
  ·intro h11
   have f := fin i6 (by rw [if_neg (by omega)])
   exact ⟨f.1, fun i8 i9 s10 h _ _ _ => f.2 i8 i9 s10 h⟩
 ·intro h10
  have f := fin i6 (by rw [if_neg (by omega)])
  exact ⟨f.1, fun i8 i9 s10 h _ _ _ => f.2 i8 i9 s10 h⟩
end Go.Vc
namespace Go.Vc
theorem take_one_at {S : ByteArray} {a : Int} (ha : 0 ≤ a) (h : a + 1 ≤ S.size) : ((bytesOf S).drop a.toNat).take 1 = [beNum (((bytesOf S).drop a.toNat).take 1)] := by
 have hl := bytesOf_length' S
 have e2 : ((bytesOf S).drop a.toNat).take 1 = [((bytesOf S).drop a.toNat).getD 0 0] := by
  have := take_snoc' (l := (bytesOf S).drop a.toNat) (i := 0) (by rw [List.length_drop]; omega)
  simpa using this
 rw [e2]; simp [beNum]
theorem num_spell {S : ByteArray} {a e a' v : Int} (ha : 0 ≤ a ∧ a ≤ S.size) (h : (a', 0, v) = rdNum S a e) :
  e = 0 ∧ a ≤ a' ∧ a' ≤ S.size ∧ ((bytesOf S).drop a.toNat).take (a' - a).toNat = numB v := by
 have hr := rdNum_at ha h
 generalize hq : rdFixed S a e 1 = r
 obtain ⟨b, f, w⟩ := r
 have hb := pk_rg hq.symm ha
 have hw := pk_byte ha hq.symm
 by_cases hc : f ≠ 0 ∨ w < 248
 ·rw [rn_a hq.symm hc] at h
  simp only [Prod.mk.injEq] at h
  obtain ⟨rfl, rfl, rfl⟩ := h
  have q := pk_inv ha.1 (by omega) hq.symm
  refine ⟨q.1, by omega, hr.2, ?_⟩
  have e4 := q.2.2.2
  rw [show (1 : Int).toNat = 1 from rfl] at e4
  rw [show (a' - a).toNat = 1 from by omega, take_one_at ha.1 q.2.1, ← e4, numB, if_pos (by omega)]
 ·generalize hp : rdFixed S b f (w - 247) = p
  obtain ⟨c, g, u⟩ := p
  by_cases hg : g = 0
  ·subst hg
   by_cases hu : u < 248 ∨ widthF u ≠ w - 247
   ·rw [rn_c hq.symm hc hp.symm hu] at h
    simp only [Prod.mk.injEq] at h
    omega
   ·rw [rn_d hq.symm hc hp.symm hu] at h
    simp only [Prod.mk.injEq] at h
    obtain ⟨rfl, -, rfl⟩ := h
    have hf : f = 0 := by omega
    subst hf
    have q1 := pk_inv ha.1 (by omega) hq.symm
    have q2 := pk_inv hb.1 (by omega) hp.symm
    have hl := bytesOf_length' S
    refine ⟨q1.1, by omega, hr.2, ?_⟩
    have has : ∀ x ∈ ((bytesOf S).drop b.toNat).take (w - 247).toNat, 0 ≤ x ∧ x < 256 := fun x hx => bytesOf_has S x (List.mem_of_mem_drop (List.mem_of_mem_take hx))
    have hlen : ((((bytesOf S).drop b.toNat).take (w - 247).toNat).length : Int) = w - 247 := by rw [pk_len (by omega)]; omega
    have one := pk_one has (n := w - 247) (by omega) hlen
    rw [← q2.2.2.2, show 247 + (w - 247) = w from by omega] at one
    rw [one.2 hu, show (a' - a).toNat = 1 + (w - 247).toNat from by omega, List.take_add, List.drop_drop, show a.toNat + 1 = b.toNat from by omega, take_one_at ha.1 q1.2.1]
    have e4 := q1.2.2.2
    rw [show (1 : Int).toNat = 1 from rfl] at e4
    rw [← e4]; rfl
  ·rw [rn_b hq.symm hc hp.symm hg] at h
   simp only [Prod.mk.injEq] at h
   omega
theorem raw_spell {S : ByteArray} {a e n a' : Int} {t : ByteArray} (ha : 0 ≤ a ∧ a ≤ S.size) (h : (a', 0, t) = rdRaw S a e n) :
  e = 0 ∧ 0 ≤ n ∧ a' = a + n ∧ a' ≤ S.size ∧ ((bytesOf S).drop a.toNat).take n.toNat = bytesOf t ∧ (t.size : Int) = n := by
 unfold rdRaw at h
 split at h
 ·simp only [Prod.mk.injEq] at h; omega
 ·split at h
  ·simp only [Prod.mk.injEq] at h; omega
  ·simp only [Prod.mk.injEq] at h
   obtain ⟨rfl, -, rfl⟩ := h
   refine ⟨by omega, by omega, rfl, by omega, ?_, ?_⟩
   ·rw [bytesOf_extract, List.drop_take, show (a + n).toNat - a.toNat = n.toNat from by omega]
   ·rw [ByteArray.size_extract]; omega
theorem text_spell {S : ByteArray} {a e m a' : Int} {t : ByteArray} (ha : 0 ≤ a ∧ a ≤ S.size) (hm : 0 ≤ m ∧ m ≤ 1000000000) (h : (a', 0, t) = rdText S a e m) :
  e = 0 ∧ a ≤ a' ∧ a' ≤ S.size ∧ ((bytesOf S).drop a.toNat).take (a' - a).toNat = textB t := by
 generalize hn : rdNum S a e = n
 obtain ⟨b, f, w⟩ := n
 have hb := rdNum_at ha hn.symm
 unfold rdText at h
 rw [hn] at h
 simp only at h
 by_cases hc : f = 0 ∧ w > max m 0
 ·rw [if_pos hc, rdRaw, if_pos (show (12 : Int) ≠ 0 by decide)] at h
  simp only [Prod.mk.injEq] at h
  omega
 ·rw [if_neg hc] at h
  generalize hq : rdRaw S b f (min w 1099511627776) = q at h
  obtain ⟨c, g, u⟩ := q
  simp only [Prod.mk.injEq] at h
  obtain ⟨h1, h2, rfl⟩ := h
  subst h2
  rw [if_neg (by decide)] at h1
  subst h1
  have r := raw_spell hb hq.symm
  obtain ⟨rfl, r2, r3, r4, r5, r6⟩ := r
  have s := num_spell ha hn.symm
  have hmin : min w 1099511627776 = w := by omega
  rw [hmin] at r2 r3 r5 r6
  refine ⟨s.1, by omega, r4, ?_⟩
  rw [textB, r6, show (a' - a).toNat = (b - a).toNat + w.toNat from by omega, List.take_add, List.drop_drop, s.2.2.2, show a.toNat + (b - a).toNat = b.toNat from by omega, r5]
end Go.Vc
namespace Go.Vc
theorem at_len {S : ByteArray} {a : Int} {l r : List Int} (ha : 0 ≤ a ∧ a ≤ S.size) (h : (bytesOf S).drop a.toNat = l ++ r) : a + l.length ≤ S.size := by
 have e := congrArg List.length h
 rw [List.length_drop, bytesOf_length', List.length_append] at e
 omega
theorem at_take {S : ByteArray} {a : Int} {l r : List Int} {n : Nat} (hn : n = l.length) (h : (bytesOf S).drop a.toNat = l ++ r) : ((bytesOf S).drop a.toNat).take n = l := by
 rw [h, hn, List.take_left]
theorem back_num {S : ByteArray} {a v : Int} {r : List Int} (hv : 0 ≤ v ∧ v < 18446744073709551616) (ha : 0 ≤ a ∧ a ≤ S.size) (h : (bytesOf S).drop a.toNat = numB v ++ r) :
  rdNum S a 0 = (a + (numB v).length, 0, v) := by
 have hl := at_len ha h
 have hw := widthF_range v
 unfold numB at h hl ⊢
 by_cases hc : v < 248
 ·rw [if_pos hc] at h hl ⊢
  have k := pk_ok (s := S) (n := 1) ha.1 (by omega) (by simp at hl; omega)
  rw [show (1 : Int).toNat = [v].length from rfl, at_take rfl h, show beNum [v] = v from by simp [beNum]] at k
  rw [rn_a k.symm (.inr hc)]; rfl
 ·rw [if_neg hc] at h hl ⊢
  rw [List.length_cons, beB_len] at hl
  have k := pk_ok (s := S) (n := 1) ha.1 (by omega) (by omega)
  rw [show (1 : Int).toNat = [247 + widthF v].length from rfl, at_take rfl (show _ = [247 + widthF v] ++ (beB v (widthF v).toNat ++ r) from h), show beNum [247 + widthF v] = 247 + widthF v from by simp [beNum]] at k
  have k2 := pk_ok (s := S) (a := a + 1) (n := widthF v) (by omega) (by omega) (by omega)
  have h2 : (bytesOf S).drop (a + 1).toNat = beB v (widthF v).toNat ++ r := by
   rw [show (a + 1).toNat = a.toNat + 1 from by omega, ← List.drop_drop, h]; rfl
  rw [at_take (by rw [beB_len]) h2, beNum_beB, Int.emod_eq_of_lt hv.1 (widthF_lt hv)] at k2
  rw [rn_d k.symm (by omega) (a2 := a + 1 + widthF v) (u := v) (by rw [show 247 + widthF v - 247 = widthF v from by omega, k2]) (by omega)]
  rw [List.length_cons, beB_len]
  have e9 : a + 1 + widthF v = a + (((widthF v).toNat + 1 : Nat) : Int) := by omega
  rw [e9]
theorem back_raw {S t : ByteArray} {a : Int} {r : List Int} (ha : 0 ≤ a ∧ a ≤ S.size) (h : (bytesOf S).drop a.toNat = bytesOf t ++ r) :
  rdRaw S a 0 t.size = (a + (bytesOf t).length, 0, t) := by
 have hl := at_len ha h
 have hb := bytesOf_length' t
 rw [rdRaw, if_neg (by simp), if_neg (by omega)]
 simp only [Prod.mk.injEq]
 refine ⟨by omega, trivial, ?_⟩
 apply text_inj
 rw [bytesOf_extract, List.drop_take, at_take (by omega) h]
theorem back_text {S t : ByteArray} {a m : Int} {r : List Int} (hm : t.size ≤ m) (hm2 : m ≤ 1000000000) (ha : 0 ≤ a ∧ a ≤ S.size) (h : (bytesOf S).drop a.toNat = textB t ++ r) :
  rdText S a 0 m = (a + (textB t).length, 0, t) := by
 have hl := at_len ha h
 rw [textB, List.append_assoc] at h
 rw [textB, List.length_append] at hl
 have k := back_num (by omega) ha h
 have h2 : (bytesOf S).drop (a + (numB t.size).length).toNat = bytesOf t ++ r := by
  rw [show (a + (numB t.size).length).toNat = a.toNat + (numB t.size).length from by omega, ← List.drop_drop, h, List.drop_left]
 have k2 := back_raw (by omega) h2
 unfold rdText
 rw [k]
 simp only
 rw [if_neg (show ¬ (True ∧ (t.size : Int) > max m 0) from fun h => by omega), show min (t.size : Int) 1099511627776 = t.size from by omega, k2]
 simp only [ne_eq, not_true_eq_false, if_false, Prod.mk.injEq, and_true]
 rw [textB, List.length_append]; omega
end Go.Vc