/-
  Contracts of the numbers and texts as bytes (pack, and the document's): writing.
  Printed by wip/vct.py: the conditions of functions, by their contracts.
  Numbers and texts as bytes: the plain part.
  Numbers and texts as bytes: more of the plain part.
  Numbers and texts as bytes: the laws on writing.
-/
import Derived.Test.YtnnjpgenekgciaaDoorWord
import Derived.Test.YtnnjpgenekgciaaDoorTab
import Derived.KernelRfl
set_option linter.unusedVariables false
set_option linter.unusedSimpArgs false
namespace Go.Vc
/-- The lowest bytes, the highest first. -/
def beB (v : Int) (n : Nat) : List Int := (bytesLE v n).reverse
def fixB (v n : Int) : List Int := beB v (clamp 1 8 n).toNat
def widthF (v : Int) : Int := if v < 256 then 1 else if v < 65536 then 2 else if v < 16777216 then 3 else if v < 4294967296 then 4 else if v < 1099511627776 then 5 else if v < 281474976710656 then 6 else if v < 72057594037927936 then 7 else 8
def numB (v : Int) : List Int := if v < 248 then [v] else (247 + widthF v) :: beB v (widthF v).toNat
def textB (s : ByteArray) : List Int := numB s.size ++ bytesOf s

/-- Great, but no slice comes near. -/
def roomy (z : List Int) : Prop := z.length ≤ 4000000000

/-- A Writer's method. -/
def wrSig (as : List AK) (pre post : List D → Prop) : Sig :=
  { args := .one (.lf (.ptr (.at 0) 0)) :: svsOf 3 as, heap := .box (.at 0) [.lf (.sl (.at 1))] :: .osl (.at 1) [.int .u8] (.at 2) :: chsOf false 3 as, srts := .N :: .V :: .Z :: srtsOf as,
    res := .tup [], heap' := [.box (.at 0) [.lf (.sl (.at (3 + (srtsOf as).length)))], .osl (.at (3 + (srtsOf as).length)) [.int .u8] (.at (4 + (srtsOf as).length))], news := [.V, .Z], pre := pre, post := post }

def WFixed.pre : List D → Prop
  | [.N _, .V _, .Z z, .I _, .I _] => roomy z
  | _ => False
def WFixed.post : List D → Prop
  | [.N _, .V _, .Z z, .I v, .I n, .V _, .Z z'] => z' = z ++ fixB v n
  | _ => False
def WFixed.sig : Sig := wrSig [.i .u64, .i .i64] WFixed.pre WFixed.post
def WFixed.I0 : List D → Prop
  | [.N _, .V _, .Z z, .I v, .I n0, .I i, .Z z'] => -1 ≤ i ∧ i < clamp 1 8 n0 ∧ z' = z ++ (fixB v n0).take (clamp 1 8 n0 - 1 - i).toNat
  | _ => False
def WFixed.I0M : List D → Nat
  | [.N _, .V _, .Z _, .I _, .I _, .I i, .Z _] => (i + 1).toNat
  | _ => 0
def Width.post : List D → Prop
  | [.I v, .I r] => r = widthF v
  | _ => False
def Width.sig : Sig := sigF [.i .u64] [.i .i64] tru Width.post
def Width.I0 : List D → Prop
  | [.I v0, .I v, .I n] => 1 ≤ n ∧ n ≤ 8 ∧ v = v0 / 256 ^ (n - 1).toNat ∧ (n = 1 ∨ 256 ^ (n - 1).toNat ≤ v0)
  | _ => False
def Width.I0M : List D → Nat
  | [.I _, .I v, .I _] => v.toNat
  | _ => 0
def WNum.pre : List D → Prop
  | [.N _, .V _, .Z z, .I _] => z.length ≤ 3000000000
  | _ => False
def WNum.post : List D → Prop
  | [.N _, .V _, .Z z, .I v, .V _, .Z z'] => z' = z ++ numB v
  | _ => False
def WNum.sig : Sig := wrSig [.i .u64] WNum.pre WNum.post
def WText.pre : List D → Prop
  | [.N _, .V _, .Z z, .S s] => z.length ≤ 1000000000 ∧ s.size ≤ 1000000000
  | _ => False
def WText.post : List D → Prop
  | [.N _, .V _, .Z z, .S s, .V _, .Z z'] => z' = z ++ textB s
  | _ => False
def WText.sig : Sig := wrSig [.s] WText.pre WText.post
def WRaw.post : List D → Prop
  | [.N _, .V _, .Z z, .S s, .V _, .Z z'] => z' = z ++ bytesOf s
  | _ => False
def WRaw.sig : Sig := wrSig [.s] WText.pre WRaw.post
def WBytes.post : List D → Prop
  | [.N _, .V _, .Z z, .S r] => r = textOf z
  | _ => False
def WBytes.sig : Sig :=
  { args := [.one (.lf (.ptr (.at 0) 0))], heap := [.box (.at 0) [.lf (.sl (.at 1))], .osl (.at 1) [.int .u8] (.at 2)], srts := [.N, .V, .Z],
    res := .one (.lf (.str (.at 3))), heap' := [.box (.at 0) [.lf (.sl (.at 1))], .osl (.at 1) [.int .u8] (.at 2)], news := [.S], pre := tru, post := WBytes.post }

def RFixed.pre : List D → Prop
  | [.I _, .I n] => 1 ≤ n ∧ n ≤ 8
  | _ => False
def RFixed.post : List D → Prop
  | [.I v, .I n, .S r] => r = textOf (fixB v n)
  | _ => False
def RFixed.sig : Sig := sigF [.i .u64, .i .i64] [.s] RFixed.pre RFixed.post
def RFixed.I0 : List D → Prop
  | [.I v, .I n, .S s, .I i] => 0 ≤ i ∧ i ≤ n ∧ s = textOf ((bytesLE v i.toNat).reverse)
  | _ => False
def RFixed.I0M : List D → Nat
  | [.I _, .I n, .S _, .I i] => (n - i).toNat
  | _ => 0
def RNum.post : List D → Prop
  | [.I v, .S r] => r = textOf (numB v)
  | _ => False
def RNum.sig : Sig := sigF [.i .u64] [.s] tru RNum.post
def RNum.I0 : List D → Prop
  | [.I v, .I n, .I i] => 1 ≤ i ∧ i ≤ 8 ∧ 1 ≤ n ∧ n ≤ i ∧ (n = 1 ∨ 256 ^ (n - 1).toNat ≤ v) ∧ ∀ j : Nat, n ≤ (j : Int) → (j : Int) < i → v < 256 ^ j
  | _ => False
def RNum.I0M : List D → Nat
  | [.I _, .I _, .I i] => (8 - i).toNat
  | _ => 0
def RText.pre : List D → Prop
  | [.S s] => s.size ≤ 1000000000
  | _ => False
def RText.post : List D → Prop
  | [.S s, .S r] => r = textOf (textB s)
  | _ => False
def RText.sig : Sig := sigF [.s] [.s] RText.pre RText.post

def rdRaw (S : ByteArray) (at_ err n : Int) : Int × Int × ByteArray :=
  if err ≠ 0 then (at_, err, ByteArray.empty) else if n < 0 ∨ (S.size : Int) - at_ < n then (at_, 2, ByteArray.empty) else (at_ + n, err, S.extract at_.toNat (at_ + n).toNat)
def beNum (l : List Int) : Int := l.foldl (fun v c => 256 * v + c) 0
def rdFixed (S : ByteArray) (at_ err n : Int) : Int × Int × Int :=
  let r := rdRaw S at_ err (clamp 1 8 n)
  (r.1, r.2.1, beNum (bytesOf r.2.2))
def rdNum (S : ByteArray) (at_ err : Int) : Int × Int × Int :=
  let r := rdFixed S at_ err 1
  if r.2.1 ≠ 0 ∨ r.2.2 < 248 then r else
  let q := rdFixed S r.1 r.2.1 (r.2.2 - 247)
  let e := if q.2.1 = 0 ∧ (q.2.2 < 248 ∨ widthF q.2.2 ≠ r.2.2 - 247) then 3 else q.2.1
  if e ≠ 0 then (at_, e, 0) else (q.1, e, q.2.2)
def rdText (S : ByteArray) (at_ err most : Int) : Int × Int × ByteArray :=
  let r := rdNum S at_ err
  let e := if r.2.1 = 0 ∧ r.2.2 > max most 0 then 12 else r.2.1
  let q := rdRaw S r.1 e (min r.2.2 1099511627776)
  (if q.2.1 ≠ 0 then at_ else q.1, q.2.1, q.2.2)
def rdDone (S : ByteArray) (at_ err : Int) : Int := if at_ < S.size ∧ err = 0 then 3 else err

/-- A Reader's method: its text, its place, its error. -/
def rdSig (as rs : List AK) (pre post : List D → Prop) : Sig :=
  let n := 4 + (srtsOf as).length
  { args := .one (.lf (.ptr (.at 0) 0)) :: svsOf 4 as, heap := [.box (.at 0) [.lf (.str (.at 1)), .lf (.int .i64 (.at 2)), .lf (.int .i64 (.at 3))]], srts := .N :: .S :: .I :: .I :: srtsOf as,
    res := resOf (svsOf (n + 2) rs), heap' := [.box (.at 0) [.lf (.str (.at 1)), .lf (.int .i64 (.at n)), .lf (.int .i64 (.at (n + 1)))]], news := .I :: .I :: srtsOf rs, pre := pre, post := post }

def PRead.sig : Sig :=
  { args := [.one (.lf (.str (.at 0)))], heap := [], srts := [.S], res := .one (.lf (.ptr (.at 1) 0)), heap' := [.box (.at 1) [.lf (.str (.at 0)), .lf (.int .i64 (.int 0)), .lf (.int .i64 (.int 0))]], news := [.N], pre := tru, post := tru }
def PErr.sig : Sig :=
  { args := [.one (.lf (.ptr (.at 0) 0))], heap := [.box (.at 0) [.lf (.str (.at 1)), .lf (.int .i64 (.at 2)), .lf (.int .i64 (.at 3))]], srts := [.N, .S, .I, .I],
    res := .one (.lf (.int .i64 (.at 3))), heap' := [.box (.at 0) [.lf (.str (.at 1)), .lf (.int .i64 (.at 2)), .lf (.int .i64 (.at 3))]], news := [], pre := tru, post := tru }
def PRaw.pre : List D → Prop
  | .N _ :: .S s :: .I a :: .I _ :: _ => 0 ≤ a ∧ a ≤ s.size
  | _ => False
def PRaw.post : List D → Prop
  | [.N _, .S s, .I a, .I e, .I n, .I a', .I e', .S r] => (a', e', r) = rdRaw s a e n
  | _ => False
def PRaw.sig : Sig := rdSig [.i .i64] [.s] PRaw.pre PRaw.post
def PFixed.post : List D → Prop
  | [.N _, .S s, .I a, .I e, .I n, .I a', .I e', .I r] => (a', e', r) = rdFixed s a e n
  | _ => False
def PFixed.sig : Sig := rdSig [.i .i64] [.i .u64] PRaw.pre PFixed.post
def PFixed.I0 : List D → Prop
  | [.N _, .S s, .I a, .I e, .I n, .I v, .I i] => 0 ≤ i ∧ i ≤ (bytesOf (rdRaw s a e (clamp 1 8 n)).2.2).length ∧ v = beNum ((bytesOf (rdRaw s a e (clamp 1 8 n)).2.2).take i.toNat)
  | _ => False
def PFixed.I0M : List D → Nat
  | [.N _, .S s, .I a, .I e, .I n, .I _, .I i] => (((bytesOf (rdRaw s a e (clamp 1 8 n)).2.2).length : Int) - i).toNat
  | _ => 0
def PNum.post : List D → Prop
  | [.N _, .S s, .I a, .I e, .I a', .I e', .I r] => (a', e', r) = rdNum s a e
  | _ => False
def PNum.sig : Sig := rdSig [] [.i .u64] PRaw.pre PNum.post
def PText.post : List D → Prop
  | [.N _, .S s, .I a, .I e, .I m, .I a', .I e', .S r] => (a', e', r) = rdText s a e m
  | _ => False
def PText.sig : Sig := rdSig [.i .i64] [.s] PRaw.pre PText.post
def PFail.post : List D → Prop
  | [.N _, .S _, .I a, .I e, .I x, .I a', .I e'] => a' = a ∧ e' = if e = 0 then x else e
  | _ => False
def PFail.sig : Sig := rdSig [.i .i64] [] PRaw.pre PFail.post
def PDone.post : List D → Prop
  | [.N _, .S s, .I a, .I e, .I a', .I e', .I r] => a' = a ∧ e' = rdDone s a e ∧ r = e'
  | _ => False
def PDone.sig : Sig := rdSig [] [.i .i64] PRaw.pre PDone.post

end Go.Vc
namespace Go.Vc
set_option linter.unusedVariables false
def WFixed.vc : VC :=
 (.all .N
 (.all .V
 (.all .Z
 (.all .I
 (.all .I
 (.know (.has .u64 (.at 3))
 (.know (.has .i64 (.at 4))
 (.know (.allHas .u8 (.at 2))
 (.post 0 [(.at 0), (.at 1), (.at 2), (.at 3), (.at 4)]
 (.inv 0 [(.at 0), (.at 1), (.at 2), (.at 3), (.at 4), (.o2 (.sub .i64) (.o2 .min (.o2 .max (.at 4) (.int 1)) (.int 8)) (.int 1)), (.at 2)]
 (.all .I
 (.all .V
 (.all .Z
 (.know (.has .i64 (.at 5))
 (.know (.allHas .u8 (.at 7))
 (.asm 0 [(.at 0), (.at 1), (.at 2), (.at 3), (.at 4), (.at 5), (.at 7)]
 (.and
 (.imp (.o2 .le (.int 0) (.at 5)) true
 (.and
 (.pre 1 [(.at 3), (.o2 (.mul .i64) (.int 8) (.at 5)), (.int 8)]
 (.all .I
 (.post 1 [(.at 3), (.o2 (.mul .i64) (.int 8) (.at 5)), (.int 8), (.at 8)]
 (.know (.has .u64 (.at 8))
 (.all .V
 (.obl (.o2 .le (.o1 .lilen (.o2 .liapp (.at 7) (.o2 .licons (.o1 (.wrap .u8) (.at 8)) (.lis [])))) (.int 140737488355328))
 (.all .V
 (.back 0 [(.at 0), (.at 1), (.at 2), (.at 3), (.at 4), (.at 5), (.at 7)] [(.at 0), (.at 1), (.at 2), (.at 3), (.at 4), (.o2 (.sub .i64) (.at 5) (.int 1)), (.o2 .liapp (.at 7) (.o2 .licons (.o1 (.wrap .u8) (.at 8)) (.lis [])))]))))))))
 (.pre 1 [(.at 3), (.o2 (.mul .i64) (.int 8) (.at 5)), (.int 8)]
 (.all .I
 (.post 1 [(.at 3), (.o2 (.mul .i64) (.int 8) (.at 5)), (.int 8), (.at 8)]
 (.know (.has .u64 (.at 8))
 (.and
 (.all .V
 (.obl (.o2 .le (.o1 .lilen (.o2 .liapp (.at 7) (.o2 .licons (.o1 (.wrap .u8) (.at 8)) (.lis [])))) (.int 140737488355328))
 (.all .V
 (.back 0 [(.at 0), (.at 1), (.at 2), (.at 3), (.at 4), (.at 5), (.at 7)] [(.at 0), (.at 1), (.at 2), (.at 3), (.at 4), (.o2 (.sub .i64) (.at 5) (.int 1)), (.o2 .liapp (.at 7) (.o2 .licons (.o1 (.wrap .u8) (.at 8)) (.lis [])))]))))
 (.all .V
 (.obl (.o2 .le (.o1 .lilen (.o2 .liapp (.at 7) (.o2 .licons (.o1 (.wrap .u8) (.at 8)) (.lis [])))) (.int 140737488355328))
 (.all .V
 (.back 0 [(.at 0), (.at 1), (.at 2), (.at 3), (.at 4), (.at 5), (.at 7)] [(.at 0), (.at 1), (.at 2), (.at 3), (.at 4), (.o2 (.sub .i64) (.at 5) (.int 1)), (.o2 .liapp (.at 7) (.o2 .licons (.o1 (.wrap .u8) (.at 8)) (.lis [])))])))))))))))
 (.imp (.o2 .le (.int 0) (.at 5)) false
 (.ret [(.at 0), (.at 1), (.at 2), (.at 3), (.at 4), (.at 6), (.at 7)])))))))))))))))))))
def WFixed.Pure : Prop :=
 ∀ (n0 : Nat),
 ∀ (v1 : Value),
 ∀ (z2 : List Int),
 ∀ (i3 : Int),
 ∀ (i4 : Int),
 (0 ≤ i3 ∧ i3 < 18446744073709551616) →
 (-9223372036854775808 ≤ i4 ∧ i4 < 9223372036854775808) →
 (∀ x ∈ z2, IntKind.has .u8 x) →
 WFixed.sig.pre [(D.N n0), (D.V v1), (D.Z z2), (D.I i3), (D.I i4)] →
 WFixed.I0 [(D.N n0), (D.V v1), (D.Z z2), (D.I i3), (D.I i4), (D.I (IntKind.wrap .i64 ((minI (maxI i4 (1 : Int)) (8 : Int)) - (1 : Int)))), (D.Z z2)] ∧ (
 ∀ (i5 : Int),
 ∀ (v6 : Value),
 ∀ (z7 : List Int),
 (-9223372036854775808 ≤ i5 ∧ i5 < 9223372036854775808) →
 (∀ x ∈ z7, IntKind.has .u8 x) →
 WFixed.I0 [(D.N n0), (D.V v1), (D.Z z2), (D.I i3), (D.I i4), (D.I i5), (D.Z z7)] →
 ((
 ((0 : Int) ≤ i5) →
 ((
   Field.sig.pre [(D.I i3), (D.I (IntKind.wrap .i64 ((8 : Int) * i5))), (D.I (8 : Int))] ∧ (
 ∀ (i8 : Int),
   Field.sig.post [(D.I i3), (D.I (IntKind.wrap .i64 ((8 : Int) * i5))), (D.I (8 : Int)), (D.I i8)] →
 (0 ≤ i8 ∧ i8 < 18446744073709551616) →
 ∀ (v9 : Value),
 ((((z7 ++ ((IntKind.wrap .u8 i8) :: ([] : List Int))).length : Nat) : Int) ≤ (140737488355328 : Int)) ∧ (((((z7 ++ ((IntKind.wrap .u8 i8) :: ([] : List Int))).length : Nat) : Int) ≤ (140737488355328 : Int)) →
 ∀ (v10 : Value),
   WFixed.I0 [(D.N n0), (D.V v1), (D.Z z2), (D.I i3), (D.I i4), (D.I (IntKind.wrap .i64 (i5 - (1 : Int)))), (D.Z (z7 ++ ((IntKind.wrap .u8 i8) :: ([] : List Int))))] ∧ WFixed.I0M [(D.N n0), (D.V v1), (D.Z z2), (D.I i3), (D.I i4), (D.I (IntKind.wrap .i64 (i5 - (1 : Int)))), (D.Z (z7 ++ ((IntKind.wrap .u8 i8) :: ([] : List Int))))] < WFixed.I0M [(D.N n0), (D.V v1), (D.Z z2), (D.I i3), (D.I i4), (D.I i5), (D.Z z7)]))) ∧ (
   Field.sig.pre [(D.I i3), (D.I (IntKind.wrap .i64 ((8 : Int) * i5))), (D.I (8 : Int))] ∧ (
 ∀ (i8 : Int),
   Field.sig.post [(D.I i3), (D.I (IntKind.wrap .i64 ((8 : Int) * i5))), (D.I (8 : Int)), (D.I i8)] →
 (0 ≤ i8 ∧ i8 < 18446744073709551616) →
 ((
 ∀ (v9 : Value),
 ((((z7 ++ ((IntKind.wrap .u8 i8) :: ([] : List Int))).length : Nat) : Int) ≤ (140737488355328 : Int)) ∧ (((((z7 ++ ((IntKind.wrap .u8 i8) :: ([] : List Int))).length : Nat) : Int) ≤ (140737488355328 : Int)) →
 ∀ (v10 : Value),
    WFixed.I0 [(D.N n0), (D.V v1), (D.Z z2), (D.I i3), (D.I i4), (D.I (IntKind.wrap .i64 (i5 - (1 : Int)))), (D.Z (z7 ++ ((IntKind.wrap .u8 i8) :: ([] : List Int))))] ∧ WFixed.I0M [(D.N n0), (D.V v1), (D.Z z2), (D.I i3), (D.I i4), (D.I (IntKind.wrap .i64 (i5 - (1 : Int)))), (D.Z (z7 ++ ((IntKind.wrap .u8 i8) :: ([] : List Int))))] < WFixed.I0M [(D.N n0), (D.V v1), (D.Z z2), (D.I i3), (D.I i4), (D.I i5), (D.Z z7)])) ∧ (
 ∀ (v9 : Value),
 ((((z7 ++ ((IntKind.wrap .u8 i8) :: ([] : List Int))).length : Nat) : Int) ≤ (140737488355328 : Int)) ∧ (((((z7 ++ ((IntKind.wrap .u8 i8) :: ([] : List Int))).length : Nat) : Int) ≤ (140737488355328 : Int)) →
 ∀ (v10 : Value),
    WFixed.I0 [(D.N n0), (D.V v1), (D.Z z2), (D.I i3), (D.I i4), (D.I (IntKind.wrap .i64 (i5 - (1 : Int)))), (D.Z (z7 ++ ((IntKind.wrap .u8 i8) :: ([] : List Int))))] ∧ WFixed.I0M [(D.N n0), (D.V v1), (D.Z z2), (D.I i3), (D.I i4), (D.I (IntKind.wrap .i64 (i5 - (1 : Int)))), (D.Z (z7 ++ ((IntKind.wrap .u8 i8) :: ([] : List Int))))] < WFixed.I0M [(D.N n0), (D.V v1), (D.Z z2), (D.I i3), (D.I i4), (D.I i5), (D.Z z7)]))))))) ∧ (
 (i5 < (0 : Int)) →
  WFixed.sig.post [(D.N n0), (D.V v1), (D.Z z2), (D.I i3), (D.I i4), (D.V v6), (D.Z z7)])))
theorem WFixed.den : WFixed.vc.den2 (mkEnv WFixed.sig [Field.sig] [(WFixed.I0, WFixed.I0M)]) [] = WFixed.Pure := by kernel_rfl
def Width.vc : VC :=
 (.all .I
 (.know (.has .u64 (.at 0))
 (.post 0 [(.at 0)]
 (.inv 0 [(.at 0), (.at 0), (.int 1)]
 (.all .I
 (.all .I
 (.know (.has .u64 (.at 1))
 (.know (.has .i64 (.at 2))
 (.asm 0 [(.at 0), (.at 1), (.at 2)]
 (.and
 (.imp (.o1 .not (.o2 .eq (.o2 (.shr .u64) (.at 1) (.int 8)) (.int 0))) true
 (.back 0 [(.at 0), (.at 1), (.at 2)] [(.at 0), (.o2 (.shr .u64) (.at 1) (.int 8)), (.o2 (.add .i64) (.at 2) (.int 1))]))
 (.imp (.o1 .not (.o2 .eq (.o2 (.shr .u64) (.at 1) (.int 8)) (.int 0))) false
 (.ret [(.at 0), (.at 2)]))))))))))))
def Width.Pure : Prop :=
 ∀ (i0 : Int),
 (0 ≤ i0 ∧ i0 < 18446744073709551616) →
 Width.sig.pre [(D.I i0)] →
 Width.I0 [(D.I i0), (D.I i0), (D.I (1 : Int))] ∧ (
 ∀ (i1 : Int),
 ∀ (i2 : Int),
 (0 ≤ i1 ∧ i1 < 18446744073709551616) →
 (-9223372036854775808 ≤ i2 ∧ i2 < 9223372036854775808) →
 Width.I0 [(D.I i0), (D.I i1), (D.I i2)] →
 ((
 ((shrI .u64 i1 (8 : Int)) ≠ (0 : Int)) →
  Width.I0 [(D.I i0), (D.I (shrI .u64 i1 (8 : Int))), (D.I (IntKind.wrap .i64 (i2 + (1 : Int))))] ∧ Width.I0M [(D.I i0), (D.I (shrI .u64 i1 (8 : Int))), (D.I (IntKind.wrap .i64 (i2 + (1 : Int))))] < Width.I0M [(D.I i0), (D.I i1), (D.I i2)]) ∧ (
 ((shrI .u64 i1 (8 : Int)) = (0 : Int)) →
  Width.sig.post [(D.I i0), (D.I i2)])))
theorem Width.den : Width.vc.den2 (mkEnv Width.sig [] [(Width.I0, Width.I0M)]) [] = Width.Pure := by kernel_rfl
def WNum.vc : VC :=
 (.all .N
 (.all .V
 (.all .Z
 (.all .I
 (.know (.has .u64 (.at 3))
 (.know (.allHas .u8 (.at 2))
 (.post 0 [(.at 0), (.at 1), (.at 2), (.at 3)]
 (.and
 (.imp (.o2 .lt (.at 3) (.int 248)) true
 (.all .V
 (.obl (.o2 .le (.o1 .lilen (.o2 .liapp (.at 2) (.o2 .licons (.o1 (.wrap .u8) (.at 3)) (.lis [])))) (.int 140737488355328))
 (.all .V
 (.ret [(.at 0), (.at 1), (.at 2), (.at 3), (.at 5), (.o2 .liapp (.at 2) (.o2 .licons (.o1 (.wrap .u8) (.at 3)) (.lis [])))])))))
 (.imp (.o2 .lt (.at 3) (.int 248)) false
 (.pre 1 [(.at 3)]
 (.all .I
 (.post 1 [(.at 3), (.at 4)]
 (.know (.has .i64 (.at 4))
 (.all .V
 (.obl (.o2 .le (.o1 .lilen (.o2 .liapp (.at 2) (.o2 .licons (.o1 (.wrap .u8) (.o2 (.sub .i64) (.o2 (.add .i64) (.int 248) (.at 4)) (.int 1))) (.lis [])))) (.int 140737488355328))
 (.all .V
 (.pre 2 [(.at 0), (.at 6), (.o2 .liapp (.at 2) (.o2 .licons (.o1 (.wrap .u8) (.o2 (.sub .i64) (.o2 (.add .i64) (.int 248) (.at 4)) (.int 1))) (.lis []))), (.at 3), (.at 4)]
 (.all .V
 (.all .Z
 (.post 2 [(.at 0), (.at 6), (.o2 .liapp (.at 2) (.o2 .licons (.o1 (.wrap .u8) (.o2 (.sub .i64) (.o2 (.add .i64) (.int 248) (.at 4)) (.int 1))) (.lis []))), (.at 3), (.at 4), (.at 7), (.at 8)]
 (.know (.allHas .u8 (.at 8))
 (.ret [(.at 0), (.at 1), (.at 2), (.at 3), (.at 7), (.at 8)]))))))))))))))))))))))
def WNum.Pure : Prop :=
 ∀ (n0 : Nat),
 ∀ (v1 : Value),
 ∀ (z2 : List Int),
 ∀ (i3 : Int),
 (0 ≤ i3 ∧ i3 < 18446744073709551616) →
 (∀ x ∈ z2, IntKind.has .u8 x) →
 WNum.sig.pre [(D.N n0), (D.V v1), (D.Z z2), (D.I i3)] →
 ((
 (i3 < (248 : Int)) →
 ∀ (v4 : Value),
 ((((z2 ++ ((IntKind.wrap .u8 i3) :: ([] : List Int))).length : Nat) : Int) ≤ (140737488355328 : Int)) ∧ (((((z2 ++ ((IntKind.wrap .u8 i3) :: ([] : List Int))).length : Nat) : Int) ≤ (140737488355328 : Int)) →
 ∀ (v5 : Value),
  WNum.sig.post [(D.N n0), (D.V v1), (D.Z z2), (D.I i3), (D.V v5), (D.Z (z2 ++ ((IntKind.wrap .u8 i3) :: ([] : List Int))))])) ∧ (
 ((248 : Int) ≤ i3) →
  Width.sig.pre [(D.I i3)] ∧ (
 ∀ (i4 : Int),
  Width.sig.post [(D.I i3), (D.I i4)] →
 (-9223372036854775808 ≤ i4 ∧ i4 < 9223372036854775808) →
 ∀ (v5 : Value),
 ((((z2 ++ ((IntKind.wrap .u8 (IntKind.wrap .i64 ((IntKind.wrap .i64 ((248 : Int) + i4)) - (1 : Int)))) :: ([] : List Int))).length : Nat) : Int) ≤ (140737488355328 : Int)) ∧ (((((z2 ++ ((IntKind.wrap .u8 (IntKind.wrap .i64 ((IntKind.wrap .i64 ((248 : Int) + i4)) - (1 : Int)))) :: ([] : List Int))).length : Nat) : Int) ≤ (140737488355328 : Int)) →
 ∀ (v6 : Value),
  WFixed.sig.pre [(D.N n0), (D.V v6), (D.Z (z2 ++ ((IntKind.wrap .u8 (IntKind.wrap .i64 ((IntKind.wrap .i64 ((248 : Int) + i4)) - (1 : Int)))) :: ([] : List Int)))), (D.I i3), (D.I i4)] ∧ (
 ∀ (v7 : Value),
 ∀ (z8 : List Int),
  WFixed.sig.post [(D.N n0), (D.V v6), (D.Z (z2 ++ ((IntKind.wrap .u8 (IntKind.wrap .i64 ((IntKind.wrap .i64 ((248 : Int) + i4)) - (1 : Int)))) :: ([] : List Int)))), (D.I i3), (D.I i4), (D.V v7), (D.Z z8)] →
 (∀ x ∈ z8, IntKind.has .u8 x) →
  WNum.sig.post [(D.N n0), (D.V v1), (D.Z z2), (D.I i3), (D.V v7), (D.Z z8)])))))
theorem WNum.den : WNum.vc.den2 (mkEnv WNum.sig [Width.sig, WFixed.sig] []) [] = WNum.Pure := by kernel_rfl
def WText.vc : VC :=
 (.all .N
 (.all .V
 (.all .Z
 (.all .S
 (.know (.ssz (.at 3))
 (.know (.allHas .u8 (.at 2))
 (.post 0 [(.at 0), (.at 1), (.at 2), (.at 3)]
 (.pre 1 [(.at 0), (.at 1), (.at 2), (.o1 (.wrap .u64) (.o1 .slen (.at 3)))]
 (.all .V
 (.all .Z
 (.post 1 [(.at 0), (.at 1), (.at 2), (.o1 (.wrap .u64) (.o1 .slen (.at 3))), (.at 4), (.at 5)]
 (.know (.allHas .u8 (.at 5))
 (.obl (.o2 .le (.o1 .lilen (.o2 .liapp (.at 5) (.o1 .toLi (.at 3)))) (.int 140737488355328))
 (.all .V
 (.ret [(.at 0), (.at 1), (.at 2), (.at 3), (.at 6), (.o2 .liapp (.at 5) (.o1 .toLi (.at 3)))])))))))))))))))
def WText.Pure : Prop :=
 ∀ (n0 : Nat),
 ∀ (v1 : Value),
 ∀ (z2 : List Int),
 ∀ (s3 : ByteArray),
 ((s3.size : Int) ≤ 9223372036854775807) →
 (∀ x ∈ z2, IntKind.has .u8 x) →
 WText.sig.pre [(D.N n0), (D.V v1), (D.Z z2), (D.S s3)] →
 WNum.sig.pre [(D.N n0), (D.V v1), (D.Z z2), (D.I (IntKind.wrap .u64 ((s3.size : Nat) : Int)))] ∧ (
 ∀ (v4 : Value),
 ∀ (z5 : List Int),
 WNum.sig.post [(D.N n0), (D.V v1), (D.Z z2), (D.I (IntKind.wrap .u64 ((s3.size : Nat) : Int))), (D.V v4), (D.Z z5)] →
 (∀ x ∈ z5, IntKind.has .u8 x) →
 ((((z5 ++ (bytesOf s3)).length : Nat) : Int) ≤ (140737488355328 : Int)) ∧ (((((z5 ++ (bytesOf s3)).length : Nat) : Int) ≤ (140737488355328 : Int)) →
 ∀ (v6 : Value),
 WText.sig.post [(D.N n0), (D.V v1), (D.Z z2), (D.S s3), (D.V v6), (D.Z (z5 ++ (bytesOf s3)))]))
theorem WText.den : WText.vc.den2 (mkEnv WText.sig [WNum.sig] []) [] = WText.Pure := by kernel_rfl
def WRaw.vc : VC :=
 (.all .N
 (.all .V
 (.all .Z
 (.all .S
 (.know (.ssz (.at 3))
 (.know (.allHas .u8 (.at 2))
 (.post 0 [(.at 0), (.at 1), (.at 2), (.at 3)]
 (.obl (.o2 .le (.o1 .lilen (.o2 .liapp (.at 2) (.o1 .toLi (.at 3)))) (.int 140737488355328))
 (.all .V
 (.ret [(.at 0), (.at 1), (.at 2), (.at 3), (.at 4), (.o2 .liapp (.at 2) (.o1 .toLi (.at 3)))]))))))))))
def WRaw.Pure : Prop :=
 ∀ (n0 : Nat),
 ∀ (v1 : Value),
 ∀ (z2 : List Int),
 ∀ (s3 : ByteArray),
 ((s3.size : Int) ≤ 9223372036854775807) →
 (∀ x ∈ z2, IntKind.has .u8 x) →
 WRaw.sig.pre [(D.N n0), (D.V v1), (D.Z z2), (D.S s3)] →
 ((((z2 ++ (bytesOf s3)).length : Nat) : Int) ≤ (140737488355328 : Int)) ∧ (((((z2 ++ (bytesOf s3)).length : Nat) : Int) ≤ (140737488355328 : Int)) →
 ∀ (v4 : Value),
 WRaw.sig.post [(D.N n0), (D.V v1), (D.Z z2), (D.S s3), (D.V v4), (D.Z (z2 ++ (bytesOf s3)))])
theorem WRaw.den : WRaw.vc.den2 (mkEnv WRaw.sig [] []) [] = WRaw.Pure := by kernel_rfl
def WBytes.vc : VC :=
 (.all .N
 (.all .V
 (.all .Z
 (.know (.allHas .u8 (.at 2))
 (.post 0 [(.at 0), (.at 1), (.at 2)]
 (.ret [(.at 0), (.at 1), (.at 2), (.o1 .ofLi (.at 2))]))))))
def WBytes.Pure : Prop :=
 ∀ (n0 : Nat),
 ∀ (v1 : Value),
 ∀ (z2 : List Int),
 (∀ x ∈ z2, IntKind.has .u8 x) →
 WBytes.sig.pre [(D.N n0), (D.V v1), (D.Z z2)] →
 WBytes.sig.post [(D.N n0), (D.V v1), (D.Z z2), (D.S (textOf z2))]
theorem WBytes.den : WBytes.vc.den2 (mkEnv WBytes.sig [] []) [] = WBytes.Pure := by kernel_rfl
def RFixed.vc : VC :=
 (.all .I
 (.all .I
 (.know (.has .u64 (.at 0))
 (.know (.has .i64 (.at 1))
 (.post 0 [(.at 0), (.at 1)]
 (.pre 1 [(.at 0), (.at 1)]
 (.all .S
 (.post 1 [(.at 0), (.at 1), (.at 2)]
 (.know (.ssz (.at 2))
 (.all .V
 (.inv 0 [(.at 0), (.at 1), (.str ⟨#[]⟩), (.int 0)]
 (.all .S
 (.all .I
 (.know (.ssz (.at 4))
 (.know (.has .i64 (.at 5))
 (.asm 0 [(.at 0), (.at 1), (.at 4), (.at 5)]
 (.and
 (.imp (.o2 .lt (.at 5) (.o1 .lilen (.o1 .toLi (.at 2)))) true
 (.obl (.o2 .le (.int 0) (.at 5))
 (.all .V
 (.obl (.o2 .le (.o1 .slen (.o2 .cat (.o1 .ofLi (.o2 .licons (.o2 .liget (.o1 .toLi (.at 2)) (.at 5)) (.lis []))) (.at 4))) (.int 9223372036854775807))
 (.back 0 [(.at 0), (.at 1), (.at 4), (.at 5)] [(.at 0), (.at 1), (.o2 .cat (.o1 .ofLi (.o2 .licons (.o2 .liget (.o1 .toLi (.at 2)) (.at 5)) (.lis []))) (.at 4)), (.o2 (.add .i64) (.at 5) (.int 1))])))))
 (.imp (.o2 .lt (.at 5) (.o1 .lilen (.o1 .toLi (.at 2)))) false
 (.ret [(.at 0), (.at 1), (.at 4)])))))))))))))))))))
def RFixed.Pure : Prop :=
 ∀ (i0 : Int),
 ∀ (i1 : Int),
 (0 ≤ i0 ∧ i0 < 18446744073709551616) →
 (-9223372036854775808 ≤ i1 ∧ i1 < 9223372036854775808) →
 RFixed.sig.pre [(D.I i0), (D.I i1)] →
 RBytes.sig.pre [(D.I i0), (D.I i1)] ∧ (
 ∀ (s2 : ByteArray),
 RBytes.sig.post [(D.I i0), (D.I i1), (D.S s2)] →
 ((s2.size : Int) ≤ 9223372036854775807) →
 ∀ (v3 : Value),
 RFixed.I0 [(D.I i0), (D.I i1), (D.S (⟨#[]⟩ : ByteArray)), (D.I (0 : Int))] ∧ (
 ∀ (s4 : ByteArray),
 ∀ (i5 : Int),
 ((s4.size : Int) ≤ 9223372036854775807) →
 (-9223372036854775808 ≤ i5 ∧ i5 < 9223372036854775808) →
 RFixed.I0 [(D.I i0), (D.I i1), (D.S s4), (D.I i5)] →
 ((
 (i5 < (((bytesOf s2).length : Nat) : Int)) →
 ((0 : Int) ≤ i5) ∧ (((0 : Int) ≤ i5) →
 ∀ (v6 : Value),
 (((((textOf (((bytesOf s2).getD i5.toNat 0) :: ([] : List Int))) ++ s4).size : Nat) : Int) ≤ (9223372036854775807 : Int)) ∧ ((((((textOf (((bytesOf s2).getD i5.toNat 0) :: ([] : List Int))) ++ s4).size : Nat) : Int) ≤ (9223372036854775807 : Int)) →
  RFixed.I0 [(D.I i0), (D.I i1), (D.S ((textOf (((bytesOf s2).getD i5.toNat 0) :: ([] : List Int))) ++ s4)), (D.I (IntKind.wrap .i64 (i5 + (1 : Int))))] ∧ RFixed.I0M [(D.I i0), (D.I i1), (D.S ((textOf (((bytesOf s2).getD i5.toNat 0) :: ([] : List Int))) ++ s4)), (D.I (IntKind.wrap .i64 (i5 + (1 : Int))))] < RFixed.I0M [(D.I i0), (D.I i1), (D.S s4), (D.I i5)]))) ∧ (
 ((((bytesOf s2).length : Nat) : Int) ≤ i5) →
  RFixed.sig.post [(D.I i0), (D.I i1), (D.S s4)]))))
theorem RFixed.den : RFixed.vc.den2 (mkEnv RFixed.sig [RBytes.sig] [(RFixed.I0, RFixed.I0M)]) [] = RFixed.Pure := by kernel_rfl
def RNum.vc : VC :=
 (.all .I
 (.know (.has .u64 (.at 0))
 (.post 0 [(.at 0)]
 (.and
 (.imp (.o2 .lt (.at 0) (.int 248)) true
 (.all .V
 (.ret [(.at 0), (.o1 .ofLi (.o2 .licons (.o1 (.wrap .u8) (.at 0)) (.lis [])))])))
 (.imp (.o2 .lt (.at 0) (.int 248)) false
 (.inv 0 [(.at 0), (.int 1), (.int 1)]
 (.all .I
 (.all .I
 (.know (.has .i64 (.at 1))
 (.know (.has .i64 (.at 2))
 (.asm 0 [(.at 0), (.at 1), (.at 2)]
 (.and
 (.imp (.o2 .lt (.at 2) (.int 8)) true
 (.pre 1 [(.at 0), (.o2 (.mul .i64) (.int 8) (.at 2)), (.int 64)]
 (.all .I
 (.post 1 [(.at 0), (.o2 (.mul .i64) (.int 8) (.at 2)), (.int 64), (.at 3)]
 (.know (.has .u64 (.at 3))
 (.and
 (.imp (.o2 .lt (.int 0) (.at 3)) true
 (.back 0 [(.at 0), (.at 1), (.at 2)] [(.at 0), (.o2 (.add .i64) (.at 2) (.int 1)), (.o2 (.add .i64) (.at 2) (.int 1))]))
 (.imp (.o2 .lt (.int 0) (.at 3)) false
 (.back 0 [(.at 0), (.at 1), (.at 2)] [(.at 0), (.at 1), (.o2 (.add .i64) (.at 2) (.int 1))]))))))))
 (.imp (.o2 .lt (.at 2) (.int 8)) false
 (.and
 (.all .V
 (.and
 (.pre 2 [(.at 0), (.at 1)]
 (.all .S
 (.post 2 [(.at 0), (.at 1), (.at 4)]
 (.know (.ssz (.at 4))
 (.obl (.o2 .le (.o1 .slen (.o2 .cat (.o1 .ofLi (.o2 .licons (.o1 (.wrap .u8) (.o2 (.add .i64) (.int 247) (.at 1))) (.lis []))) (.at 4))) (.int 9223372036854775807))
 (.ret [(.at 0), (.o2 .cat (.o1 .ofLi (.o2 .licons (.o1 (.wrap .u8) (.o2 (.add .i64) (.int 247) (.at 1))) (.lis []))) (.at 4))]))))))
 (.pre 2 [(.at 0), (.at 1)]
 (.all .S
 (.post 2 [(.at 0), (.at 1), (.at 4)]
 (.know (.ssz (.at 4))
 (.obl (.o2 .le (.o1 .slen (.o2 .cat (.o1 .ofLi (.o2 .licons (.o1 (.wrap .u8) (.o2 (.add .i64) (.int 247) (.at 1))) (.lis []))) (.at 4))) (.int 9223372036854775807))
 (.ret [(.at 0), (.o2 .cat (.o1 .ofLi (.o2 .licons (.o1 (.wrap .u8) (.o2 (.add .i64) (.int 247) (.at 1))) (.lis []))) (.at 4))]))))))))
 (.pre 2 [(.at 0), (.at 1)]
 (.all .S
 (.post 2 [(.at 0), (.at 1), (.at 3)]
 (.know (.ssz (.at 3))
 (.all .V
 (.obl (.o2 .le (.o1 .slen (.o2 .cat (.o1 .ofLi (.o2 .licons (.o1 (.wrap .u8) (.o2 (.add .i64) (.int 247) (.at 1))) (.lis []))) (.at 3))) (.int 9223372036854775807))
 (.ret [(.at 0), (.o2 .cat (.o1 .ofLi (.o2 .licons (.o1 (.wrap .u8) (.o2 (.add .i64) (.int 247) (.at 1))) (.lis []))) (.at 3))])))))))))))))))))))))
def RNum.Pure : Prop :=
 ∀ (i0 : Int),
 (0 ≤ i0 ∧ i0 < 18446744073709551616) →
 RNum.sig.pre [(D.I i0)] →
 ((
 (i0 < (248 : Int)) →
 ∀ (v1 : Value),
  RNum.sig.post [(D.I i0), (D.S (textOf ((IntKind.wrap .u8 i0) :: ([] : List Int))))]) ∧ (
 ((248 : Int) ≤ i0) →
  RNum.I0 [(D.I i0), (D.I (1 : Int)), (D.I (1 : Int))] ∧ (
 ∀ (i1 : Int),
 ∀ (i2 : Int),
 (-9223372036854775808 ≤ i1 ∧ i1 < 9223372036854775808) →
 (-9223372036854775808 ≤ i2 ∧ i2 < 9223372036854775808) →
  RNum.I0 [(D.I i0), (D.I i1), (D.I i2)] →
 ((
 (i2 < (8 : Int)) →
   RField.sig.pre [(D.I i0), (D.I (IntKind.wrap .i64 ((8 : Int) * i2))), (D.I (64 : Int))] ∧ (
 ∀ (i3 : Int),
   RField.sig.post [(D.I i0), (D.I (IntKind.wrap .i64 ((8 : Int) * i2))), (D.I (64 : Int)), (D.I i3)] →
 (0 ≤ i3 ∧ i3 < 18446744073709551616) →
 ((
 ((0 : Int) < i3) →
    RNum.I0 [(D.I i0), (D.I (IntKind.wrap .i64 (i2 + (1 : Int)))), (D.I (IntKind.wrap .i64 (i2 + (1 : Int))))] ∧ RNum.I0M [(D.I i0), (D.I (IntKind.wrap .i64 (i2 + (1 : Int)))), (D.I (IntKind.wrap .i64 (i2 + (1 : Int))))] < RNum.I0M [(D.I i0), (D.I i1), (D.I i2)]) ∧ (
 (i3 ≤ (0 : Int)) →
    RNum.I0 [(D.I i0), (D.I i1), (D.I (IntKind.wrap .i64 (i2 + (1 : Int))))] ∧ RNum.I0M [(D.I i0), (D.I i1), (D.I (IntKind.wrap .i64 (i2 + (1 : Int))))] < RNum.I0M [(D.I i0), (D.I i1), (D.I i2)])))) ∧ (
 ((8 : Int) ≤ i2) →
 ((
 ∀ (v3 : Value),
 ((
     RFixed.sig.pre [(D.I i0), (D.I i1)] ∧ (
 ∀ (s4 : ByteArray),
     RFixed.sig.post [(D.I i0), (D.I i1), (D.S s4)] →
 ((s4.size : Int) ≤ 9223372036854775807) →
 (((((textOf ((IntKind.wrap .u8 (IntKind.wrap .i64 ((247 : Int) + i1))) :: ([] : List Int))) ++ s4).size : Nat) : Int) ≤ (9223372036854775807 : Int)) ∧ ((((((textOf ((IntKind.wrap .u8 (IntKind.wrap .i64 ((247 : Int) + i1))) :: ([] : List Int))) ++ s4).size : Nat) : Int) ≤ (9223372036854775807 : Int)) →
     RNum.sig.post [(D.I i0), (D.S ((textOf ((IntKind.wrap .u8 (IntKind.wrap .i64 ((247 : Int) + i1))) :: ([] : List Int))) ++ s4))]))) ∧ (
     RFixed.sig.pre [(D.I i0), (D.I i1)] ∧ (
 ∀ (s4 : ByteArray),
     RFixed.sig.post [(D.I i0), (D.I i1), (D.S s4)] →
 ((s4.size : Int) ≤ 9223372036854775807) →
 (((((textOf ((IntKind.wrap .u8 (IntKind.wrap .i64 ((247 : Int) + i1))) :: ([] : List Int))) ++ s4).size : Nat) : Int) ≤ (9223372036854775807 : Int)) ∧ ((((((textOf ((IntKind.wrap .u8 (IntKind.wrap .i64 ((247 : Int) + i1))) :: ([] : List Int))) ++ s4).size : Nat) : Int) ≤ (9223372036854775807 : Int)) →
     RNum.sig.post [(D.I i0), (D.S ((textOf ((IntKind.wrap .u8 (IntKind.wrap .i64 ((247 : Int) + i1))) :: ([] : List Int))) ++ s4))]))))) ∧ (
    RFixed.sig.pre [(D.I i0), (D.I i1)] ∧ (
 ∀ (s3 : ByteArray),
    RFixed.sig.post [(D.I i0), (D.I i1), (D.S s3)] →
 ((s3.size : Int) ≤ 9223372036854775807) →
 ∀ (v4 : Value),
 (((((textOf ((IntKind.wrap .u8 (IntKind.wrap .i64 ((247 : Int) + i1))) :: ([] : List Int))) ++ s3).size : Nat) : Int) ≤ (9223372036854775807 : Int)) ∧ ((((((textOf ((IntKind.wrap .u8 (IntKind.wrap .i64 ((247 : Int) + i1))) :: ([] : List Int))) ++ s3).size : Nat) : Int) ≤ (9223372036854775807 : Int)) →
    RNum.sig.post [(D.I i0), (D.S ((textOf ((IntKind.wrap .u8 (IntKind.wrap .i64 ((247 : Int) + i1))) :: ([] : List Int))) ++ s3))])))))))))
theorem RNum.den : RNum.vc.den2 (mkEnv RNum.sig [RField.sig, RFixed.sig] [(RNum.I0, RNum.I0M)]) [] = RNum.Pure := by kernel_rfl
def RText.vc : VC :=
 (.all .S
 (.know (.ssz (.at 0))
 (.post 0 [(.at 0)]
 (.pre 1 [(.o1 (.wrap .u64) (.o1 .slen (.at 0)))]
 (.all .S
 (.post 1 [(.o1 (.wrap .u64) (.o1 .slen (.at 0))), (.at 1)]
 (.know (.ssz (.at 1))
 (.obl (.o2 .le (.o1 .slen (.o2 .cat (.at 1) (.at 0))) (.int 9223372036854775807))
 (.ret [(.at 0), (.o2 .cat (.at 1) (.at 0))])))))))))
def RText.Pure : Prop :=
 ∀ (s0 : ByteArray),
 ((s0.size : Int) ≤ 9223372036854775807) →
 RText.sig.pre [(D.S s0)] →
 RNum.sig.pre [(D.I (IntKind.wrap .u64 ((s0.size : Nat) : Int)))] ∧ (
 ∀ (s1 : ByteArray),
 RNum.sig.post [(D.I (IntKind.wrap .u64 ((s0.size : Nat) : Int))), (D.S s1)] →
 ((s1.size : Int) ≤ 9223372036854775807) →
 ((((s1 ++ s0).size : Nat) : Int) ≤ (9223372036854775807 : Int)) ∧ (((((s1 ++ s0).size : Nat) : Int) ≤ (9223372036854775807 : Int)) →
 RText.sig.post [(D.S s0), (D.S (s1 ++ s0))]))
theorem RText.den : RText.vc.den2 (mkEnv RText.sig [RNum.sig] []) [] = RText.Pure := by kernel_rfl
def PRead.vc : VC :=
 (.all .S
 (.know (.ssz (.at 0))
 (.post 0 [(.at 0)]
 (.all .N
 (.ret [(.at 0), (.at 1)])))))
def PRead.Pure : Prop :=
 ∀ (s0 : ByteArray),
 ((s0.size : Int) ≤ 9223372036854775807) →
 PRead.sig.pre [(D.S s0)] →
 ∀ (n1 : Nat),
 PRead.sig.post [(D.S s0), (D.N n1)]
theorem PRead.den : PRead.vc.den2 (mkEnv PRead.sig [] []) [] = PRead.Pure := by kernel_rfl
def PErr.vc : VC :=
 (.all .N
 (.all .S
 (.all .I
 (.all .I
 (.know (.ssz (.at 1))
 (.know (.has .i64 (.at 2))
 (.know (.has .i64 (.at 3))
 (.post 0 [(.at 0), (.at 1), (.at 2), (.at 3)]
 (.ret [(.at 0), (.at 1), (.at 2), (.at 3)])))))))))
def PErr.Pure : Prop :=
 ∀ (n0 : Nat),
 ∀ (s1 : ByteArray),
 ∀ (i2 : Int),
 ∀ (i3 : Int),
 ((s1.size : Int) ≤ 9223372036854775807) →
 (-9223372036854775808 ≤ i2 ∧ i2 < 9223372036854775808) →
 (-9223372036854775808 ≤ i3 ∧ i3 < 9223372036854775808) →
 PErr.sig.pre [(D.N n0), (D.S s1), (D.I i2), (D.I i3)] →
 PErr.sig.post [(D.N n0), (D.S s1), (D.I i2), (D.I i3)]
theorem PErr.den : PErr.vc.den2 (mkEnv PErr.sig [] []) [] = PErr.Pure := by kernel_rfl
def PRaw.vc : VC :=
 (.all .N
 (.all .S
 (.all .I
 (.all .I
 (.all .I
 (.know (.has .i64 (.at 4))
 (.know (.ssz (.at 1))
 (.know (.has .i64 (.at 2))
 (.know (.has .i64 (.at 3))
 (.post 0 [(.at 0), (.at 1), (.at 2), (.at 3), (.at 4)]
 (.and
 (.imp (.o1 .not (.o2 .eq (.at 3) (.int 0))) true
 (.ret [(.at 0), (.at 1), (.at 2), (.at 3), (.at 4), (.at 2), (.at 3), (.str ⟨#[]⟩)]))
 (.imp (.o1 .not (.o2 .eq (.at 3) (.int 0))) false
 (.and
 (.imp (.o2 .lt (.at 4) (.int 0)) true
 (.ret [(.at 0), (.at 1), (.at 2), (.at 3), (.at 4), (.at 2), (.int 2), (.str ⟨#[]⟩)]))
 (.imp (.o2 .lt (.at 4) (.int 0)) false
 (.and
 (.imp (.o2 .lt (.o2 (.sub .i64) (.o1 .slen (.at 1)) (.at 2)) (.at 4)) true
 (.ret [(.at 0), (.at 1), (.at 2), (.at 3), (.at 4), (.at 2), (.int 2), (.str ⟨#[]⟩)]))
 (.imp (.o2 .lt (.o2 (.sub .i64) (.o1 .slen (.at 1)) (.at 2)) (.at 4)) false
 (.obl (.o2 .le (.o2 (.sub .i64) (.o2 (.add .i64) (.at 2) (.at 4)) (.at 4)) (.o2 (.add .i64) (.at 2) (.at 4)))
 (.obl (.o2 .le (.int 0) (.o2 (.sub .i64) (.o2 (.add .i64) (.at 2) (.at 4)) (.at 4)))
 (.obl (.o2 .le (.o2 (.add .i64) (.at 2) (.at 4)) (.o1 .slen (.at 1)))
 (.ret [(.at 0), (.at 1), (.at 2), (.at 3), (.at 4), (.o2 (.add .i64) (.at 2) (.at 4)), (.at 3), (.o3 .ssub (.at 1) (.o2 (.sub .i64) (.o2 (.add .i64) (.at 2) (.at 4)) (.at 4)) (.o2 (.add .i64) (.at 2) (.at 4)))]))))))))))))))))))))
def PRaw.Pure : Prop :=
 ∀ (n0 : Nat),
 ∀ (s1 : ByteArray),
 ∀ (i2 : Int),
 ∀ (i3 : Int),
 ∀ (i4 : Int),
 (-9223372036854775808 ≤ i4 ∧ i4 < 9223372036854775808) →
 ((s1.size : Int) ≤ 9223372036854775807) →
 (-9223372036854775808 ≤ i2 ∧ i2 < 9223372036854775808) →
 (-9223372036854775808 ≤ i3 ∧ i3 < 9223372036854775808) →
 PRaw.sig.pre [(D.N n0), (D.S s1), (D.I i2), (D.I i3), (D.I i4)] →
 ((
 (i3 ≠ (0 : Int)) →
  PRaw.sig.post [(D.N n0), (D.S s1), (D.I i2), (D.I i3), (D.I i4), (D.I i2), (D.I i3), (D.S (⟨#[]⟩ : ByteArray))]) ∧ (
 (i3 = (0 : Int)) →
 ((
 (i4 < (0 : Int)) →
   PRaw.sig.post [(D.N n0), (D.S s1), (D.I i2), (D.I i3), (D.I i4), (D.I i2), (D.I (2 : Int)), (D.S (⟨#[]⟩ : ByteArray))]) ∧ (
 ((0 : Int) ≤ i4) →
 ((
 ((IntKind.wrap .i64 (((s1.size : Nat) : Int) - i2)) < i4) →
    PRaw.sig.post [(D.N n0), (D.S s1), (D.I i2), (D.I i3), (D.I i4), (D.I i2), (D.I (2 : Int)), (D.S (⟨#[]⟩ : ByteArray))]) ∧ (
 (i4 ≤ (IntKind.wrap .i64 (((s1.size : Nat) : Int) - i2))) →
 ((IntKind.wrap .i64 ((IntKind.wrap .i64 (i2 + i4)) - i4)) ≤ (IntKind.wrap .i64 (i2 + i4))) ∧ (((IntKind.wrap .i64 ((IntKind.wrap .i64 (i2 + i4)) - i4)) ≤ (IntKind.wrap .i64 (i2 + i4))) →
 ((0 : Int) ≤ (IntKind.wrap .i64 ((IntKind.wrap .i64 (i2 + i4)) - i4))) ∧ (((0 : Int) ≤ (IntKind.wrap .i64 ((IntKind.wrap .i64 (i2 + i4)) - i4))) →
 ((IntKind.wrap .i64 (i2 + i4)) ≤ ((s1.size : Nat) : Int)) ∧ (((IntKind.wrap .i64 (i2 + i4)) ≤ ((s1.size : Nat) : Int)) →
    PRaw.sig.post [(D.N n0), (D.S s1), (D.I i2), (D.I i3), (D.I i4), (D.I (IntKind.wrap .i64 (i2 + i4))), (D.I i3), (D.S (s1.extract (IntKind.wrap .i64 ((IntKind.wrap .i64 (i2 + i4)) - i4)).toNat (IntKind.wrap .i64 (i2 + i4)).toNat))])))))))))
theorem PRaw.den : PRaw.vc.den2 (mkEnv PRaw.sig [] []) [] = PRaw.Pure := by kernel_rfl
def PFixed.vc : VC :=
 (.all .N
 (.all .S
 (.all .I
 (.all .I
 (.all .I
 (.know (.has .i64 (.at 4))
 (.know (.ssz (.at 1))
 (.know (.has .i64 (.at 2))
 (.know (.has .i64 (.at 3))
 (.post 0 [(.at 0), (.at 1), (.at 2), (.at 3), (.at 4)]
 (.pre 1 [(.at 0), (.at 1), (.at 2), (.at 3), (.o2 .min (.o2 .max (.at 4) (.int 1)) (.int 8))]
 (.all .I
 (.all .I
 (.all .S
 (.post 1 [(.at 0), (.at 1), (.at 2), (.at 3), (.o2 .min (.o2 .max (.at 4) (.int 1)) (.int 8)), (.at 5), (.at 6), (.at 7)]
 (.know (.ssz (.at 7))
 (.know (.has .i64 (.at 5))
 (.know (.has .i64 (.at 6))
 (.all .V
 (.inv 0 [(.at 0), (.at 1), (.at 2), (.at 3), (.at 4), (.int 0), (.int 0)]
 (.all .I
 (.all .I
 (.know (.has .u64 (.at 9))
 (.know (.has .i64 (.at 10))
 (.asm 0 [(.at 0), (.at 1), (.at 2), (.at 3), (.at 4), (.at 9), (.at 10)]
 (.and
 (.imp (.o2 .lt (.at 10) (.o1 .lilen (.o1 .toLi (.at 7)))) true
 (.obl (.o2 .le (.int 0) (.at 10))
 (.back 0 [(.at 0), (.at 1), (.at 2), (.at 3), (.at 4), (.at 9), (.at 10)] [(.at 0), (.at 1), (.at 2), (.at 3), (.at 4), (.o2 (.bits .or .u64) (.o2 (.shl .u64) (.at 9) (.int 8)) (.o1 (.wrap .u64) (.o2 .liget (.o1 .toLi (.at 7)) (.at 10)))), (.o2 (.add .i64) (.at 10) (.int 1))])))
 (.imp (.o2 .lt (.at 10) (.o1 .lilen (.o1 .toLi (.at 7)))) false
 (.ret [(.at 0), (.at 1), (.at 2), (.at 3), (.at 4), (.at 5), (.at 6), (.at 9)]))))))))))))))))))))))))))))
def PFixed.Pure : Prop :=
 ∀ (n0 : Nat),
 ∀ (s1 : ByteArray),
 ∀ (i2 : Int),
 ∀ (i3 : Int),
 ∀ (i4 : Int),
 (-9223372036854775808 ≤ i4 ∧ i4 < 9223372036854775808) →
 ((s1.size : Int) ≤ 9223372036854775807) →
 (-9223372036854775808 ≤ i2 ∧ i2 < 9223372036854775808) →
 (-9223372036854775808 ≤ i3 ∧ i3 < 9223372036854775808) →
 PFixed.sig.pre [(D.N n0), (D.S s1), (D.I i2), (D.I i3), (D.I i4)] →
 PRaw.sig.pre [(D.N n0), (D.S s1), (D.I i2), (D.I i3), (D.I (minI (maxI i4 (1 : Int)) (8 : Int)))] ∧ (
 ∀ (i5 : Int),
 ∀ (i6 : Int),
 ∀ (s7 : ByteArray),
 PRaw.sig.post [(D.N n0), (D.S s1), (D.I i2), (D.I i3), (D.I (minI (maxI i4 (1 : Int)) (8 : Int))), (D.I i5), (D.I i6), (D.S s7)] →
 ((s7.size : Int) ≤ 9223372036854775807) →
 (-9223372036854775808 ≤ i5 ∧ i5 < 9223372036854775808) →
 (-9223372036854775808 ≤ i6 ∧ i6 < 9223372036854775808) →
 ∀ (v8 : Value),
 PFixed.I0 [(D.N n0), (D.S s1), (D.I i2), (D.I i3), (D.I i4), (D.I (0 : Int)), (D.I (0 : Int))] ∧ (
 ∀ (i9 : Int),
 ∀ (i10 : Int),
 (0 ≤ i9 ∧ i9 < 18446744073709551616) →
 (-9223372036854775808 ≤ i10 ∧ i10 < 9223372036854775808) →
 PFixed.I0 [(D.N n0), (D.S s1), (D.I i2), (D.I i3), (D.I i4), (D.I i9), (D.I i10)] →
 ((
 (i10 < (((bytesOf s7).length : Nat) : Int)) →
 ((0 : Int) ≤ i10) ∧ (((0 : Int) ≤ i10) →
  PFixed.I0 [(D.N n0), (D.S s1), (D.I i2), (D.I i3), (D.I i4), (D.I (Go.bits .or .u64 (shlI .u64 i9 (8 : Int)) (IntKind.wrap .u64 ((bytesOf s7).getD i10.toNat 0)))), (D.I (IntKind.wrap .i64 (i10 + (1 : Int))))] ∧ PFixed.I0M [(D.N n0), (D.S s1), (D.I i2), (D.I i3), (D.I i4), (D.I (Go.bits .or .u64 (shlI .u64 i9 (8 : Int)) (IntKind.wrap .u64 ((bytesOf s7).getD i10.toNat 0)))), (D.I (IntKind.wrap .i64 (i10 + (1 : Int))))] < PFixed.I0M [(D.N n0), (D.S s1), (D.I i2), (D.I i3), (D.I i4), (D.I i9), (D.I i10)])) ∧ (
 ((((bytesOf s7).length : Nat) : Int) ≤ i10) →
  PFixed.sig.post [(D.N n0), (D.S s1), (D.I i2), (D.I i3), (D.I i4), (D.I i5), (D.I i6), (D.I i9)]))))
theorem PFixed.den : PFixed.vc.den2 (mkEnv PFixed.sig [PRaw.sig] [(PFixed.I0, PFixed.I0M)]) [] = PFixed.Pure := by kernel_rfl
def PNum.vc : VC :=
 (.all .N
 (.all .S
 (.all .I
 (.all .I
 (.know (.ssz (.at 1))
 (.know (.has .i64 (.at 2))
 (.know (.has .i64 (.at 3))
 (.post 0 [(.at 0), (.at 1), (.at 2), (.at 3)]
 (.pre 1 [(.at 0), (.at 1), (.at 2), (.at 3), (.int 1)]
 (.all .I
 (.all .I
 (.all .I
 (.post 1 [(.at 0), (.at 1), (.at 2), (.at 3), (.int 1), (.at 4), (.at 5), (.at 6)]
 (.know (.has .u64 (.at 6))
 (.know (.has .i64 (.at 4))
 (.know (.has .i64 (.at 5))
 (.and
 (.imp (.o1 .not (.o2 .eq (.at 5) (.int 0))) true
 (.ret [(.at 0), (.at 1), (.at 2), (.at 3), (.at 4), (.at 5), (.at 6)]))
 (.imp (.o1 .not (.o2 .eq (.at 5) (.int 0))) false
 (.and
 (.imp (.o2 .lt (.at 6) (.int 248)) true
 (.ret [(.at 0), (.at 1), (.at 2), (.at 3), (.at 4), (.at 5), (.at 6)]))
 (.imp (.o2 .lt (.at 6) (.int 248)) false
 (.pre 1 [(.at 0), (.at 1), (.at 4), (.at 5), (.o2 (.add .i64) (.o2 (.sub .i64) (.o1 (.wrap .i64) (.at 6)) (.int 248)) (.int 1))]
 (.all .I
 (.all .I
 (.all .I
 (.post 1 [(.at 0), (.at 1), (.at 4), (.at 5), (.o2 (.add .i64) (.o2 (.sub .i64) (.o1 (.wrap .i64) (.at 6)) (.int 248)) (.int 1)), (.at 7), (.at 8), (.at 9)]
 (.know (.has .u64 (.at 9))
 (.know (.has .i64 (.at 7))
 (.know (.has .i64 (.at 8))
 (.and
 (.imp (.o2 .eq (.at 8) (.int 0)) true
 (.and
 (.imp (.o2 .lt (.at 9) (.int 248)) true
 (.and
 (.imp (.o1 .not (.o2 .eq (.int 3) (.int 0))) true
 (.ret [(.at 0), (.at 1), (.at 2), (.at 3), (.at 2), (.int 3), (.int 0)]))
 (.imp (.o1 .not (.o2 .eq (.int 3) (.int 0))) false
 (.ret [(.at 0), (.at 1), (.at 2), (.at 3), (.at 7), (.int 3), (.at 9)]))))
 (.imp (.o2 .lt (.at 9) (.int 248)) false
 (.pre 2 [(.at 9)]
 (.all .I
 (.post 2 [(.at 9), (.at 10)]
 (.know (.has .i64 (.at 10))
 (.and
 (.imp (.o1 .not (.o2 .eq (.at 10) (.o2 (.add .i64) (.o2 (.sub .i64) (.o1 (.wrap .i64) (.at 6)) (.int 248)) (.int 1)))) true
 (.and
 (.imp (.o1 .not (.o2 .eq (.int 3) (.int 0))) true
 (.ret [(.at 0), (.at 1), (.at 2), (.at 3), (.at 2), (.int 3), (.int 0)]))
 (.imp (.o1 .not (.o2 .eq (.int 3) (.int 0))) false
 (.ret [(.at 0), (.at 1), (.at 2), (.at 3), (.at 7), (.int 3), (.at 9)]))))
 (.imp (.o1 .not (.o2 .eq (.at 10) (.o2 (.add .i64) (.o2 (.sub .i64) (.o1 (.wrap .i64) (.at 6)) (.int 248)) (.int 1)))) false
 (.and
 (.imp (.o1 .not (.o2 .eq (.at 8) (.int 0))) true
 (.ret [(.at 0), (.at 1), (.at 2), (.at 3), (.at 2), (.at 8), (.int 0)]))
 (.imp (.o1 .not (.o2 .eq (.at 8) (.int 0))) false
 (.ret [(.at 0), (.at 1), (.at 2), (.at 3), (.at 7), (.at 8), (.at 9)]))))))))))))
 (.imp (.o2 .eq (.at 8) (.int 0)) false
 (.and
 (.imp (.o1 .not (.o2 .eq (.at 8) (.int 0))) true
 (.ret [(.at 0), (.at 1), (.at 2), (.at 3), (.at 2), (.at 8), (.int 0)]))
 (.imp (.o1 .not (.o2 .eq (.at 8) (.int 0))) false
 (.ret [(.at 0), (.at 1), (.at 2), (.at 3), (.at 7), (.at 8), (.at 9)])))))))))))))))))))))))))))))))))
def PNum.Pure : Prop :=
 ∀ (n0 : Nat),
 ∀ (s1 : ByteArray),
 ∀ (i2 : Int),
 ∀ (i3 : Int),
 ((s1.size : Int) ≤ 9223372036854775807) →
 (-9223372036854775808 ≤ i2 ∧ i2 < 9223372036854775808) →
 (-9223372036854775808 ≤ i3 ∧ i3 < 9223372036854775808) →
 PNum.sig.pre [(D.N n0), (D.S s1), (D.I i2), (D.I i3)] →
 PFixed.sig.pre [(D.N n0), (D.S s1), (D.I i2), (D.I i3), (D.I (1 : Int))] ∧ (
 ∀ (i4 : Int),
 ∀ (i5 : Int),
 ∀ (i6 : Int),
 PFixed.sig.post [(D.N n0), (D.S s1), (D.I i2), (D.I i3), (D.I (1 : Int)), (D.I i4), (D.I i5), (D.I i6)] →
 (0 ≤ i6 ∧ i6 < 18446744073709551616) →
 (-9223372036854775808 ≤ i4 ∧ i4 < 9223372036854775808) →
 (-9223372036854775808 ≤ i5 ∧ i5 < 9223372036854775808) →
 ((
 (i5 ≠ (0 : Int)) →
  PNum.sig.post [(D.N n0), (D.S s1), (D.I i2), (D.I i3), (D.I i4), (D.I i5), (D.I i6)]) ∧ (
 (i5 = (0 : Int)) →
 ((
 (i6 < (248 : Int)) →
   PNum.sig.post [(D.N n0), (D.S s1), (D.I i2), (D.I i3), (D.I i4), (D.I i5), (D.I i6)]) ∧ (
 ((248 : Int) ≤ i6) →
   PFixed.sig.pre [(D.N n0), (D.S s1), (D.I i4), (D.I i5), (D.I (IntKind.wrap .i64 ((IntKind.wrap .i64 ((IntKind.wrap .i64 i6) - (248 : Int))) + (1 : Int))))] ∧ (
 ∀ (i7 : Int),
 ∀ (i8 : Int),
 ∀ (i9 : Int),
   PFixed.sig.post [(D.N n0), (D.S s1), (D.I i4), (D.I i5), (D.I (IntKind.wrap .i64 ((IntKind.wrap .i64 ((IntKind.wrap .i64 i6) - (248 : Int))) + (1 : Int)))), (D.I i7), (D.I i8), (D.I i9)] →
 (0 ≤ i9 ∧ i9 < 18446744073709551616) →
 (-9223372036854775808 ≤ i7 ∧ i7 < 9223372036854775808) →
 (-9223372036854775808 ≤ i8 ∧ i8 < 9223372036854775808) →
 ((
 (i8 = (0 : Int)) →
 ((
 (i9 < (248 : Int)) →
 ((
 ((3 : Int) ≠ (0 : Int)) →
      PNum.sig.post [(D.N n0), (D.S s1), (D.I i2), (D.I i3), (D.I i2), (D.I (3 : Int)), (D.I (0 : Int))]) ∧ (
 ((3 : Int) = (0 : Int)) →
      PNum.sig.post [(D.N n0), (D.S s1), (D.I i2), (D.I i3), (D.I i7), (D.I (3 : Int)), (D.I i9)]))) ∧ (
 ((248 : Int) ≤ i9) →
     Width.sig.pre [(D.I i9)] ∧ (
 ∀ (i10 : Int),
     Width.sig.post [(D.I i9), (D.I i10)] →
 (-9223372036854775808 ≤ i10 ∧ i10 < 9223372036854775808) →
 ((
 (i10 ≠ (IntKind.wrap .i64 ((IntKind.wrap .i64 ((IntKind.wrap .i64 i6) - (248 : Int))) + (1 : Int)))) →
 ((
 ((3 : Int) ≠ (0 : Int)) →
       PNum.sig.post [(D.N n0), (D.S s1), (D.I i2), (D.I i3), (D.I i2), (D.I (3 : Int)), (D.I (0 : Int))]) ∧ (
 ((3 : Int) = (0 : Int)) →
       PNum.sig.post [(D.N n0), (D.S s1), (D.I i2), (D.I i3), (D.I i7), (D.I (3 : Int)), (D.I i9)]))) ∧ (
 (i10 = (IntKind.wrap .i64 ((IntKind.wrap .i64 ((IntKind.wrap .i64 i6) - (248 : Int))) + (1 : Int)))) →
 ((
 (i8 ≠ (0 : Int)) →
       PNum.sig.post [(D.N n0), (D.S s1), (D.I i2), (D.I i3), (D.I i2), (D.I i8), (D.I (0 : Int))]) ∧ (
 (i8 = (0 : Int)) →
       PNum.sig.post [(D.N n0), (D.S s1), (D.I i2), (D.I i3), (D.I i7), (D.I i8), (D.I i9)])))))))) ∧ (
 (i8 ≠ (0 : Int)) →
 ((
 (i8 ≠ (0 : Int)) →
     PNum.sig.post [(D.N n0), (D.S s1), (D.I i2), (D.I i3), (D.I i2), (D.I i8), (D.I (0 : Int))]) ∧ (
 (i8 = (0 : Int)) →
     PNum.sig.post [(D.N n0), (D.S s1), (D.I i2), (D.I i3), (D.I i7), (D.I i8), (D.I i9)]))))))))))
theorem PNum.den : PNum.vc.den2 (mkEnv PNum.sig [PFixed.sig, Width.sig] []) [] = PNum.Pure := by kernel_rfl
end Go.Vc
namespace Go.Vc
theorem field_u64 {v a r : Int} (hv : 0 ≤ v ∧ v < 18446744073709551616) (hr : 0 ≤ r ∧ r < 18446744073709551616) {n : Nat} (hn : n < 8) (ha : a = 8 * (n : Int)) (h : Field.sig.post [.I v, .I a, .I 64, .I r]) : r = v / 256 ^ n := by
  subst ha
  have h : ∀ i, i < 64 → bt r i = (decide (0 ≤ 8 * (n : Int)) && decide (8 * (n : Int) < 64) && decide ((i : Int) < 64) && bt v (i + (8 * (n : Int)).toNat)) := h
  have hp : (0 : Int) < 256 ^ n := by rw [pow_256]; exact pow_pos' _
  apply eq_u64 (u64i hr) (u64i ⟨Int.ediv_nonneg hv.1 (Int.le_of_lt hp), Int.lt_of_le_of_lt (Int.ediv_le_self _ hv.1) hv.2⟩)
  intro i hi
  rw [h i hi, pow_256, bt_ediv_pow, show (8 * (n : Int)).toNat = 8 * n from by omega]
  have e1 : 0 ≤ 8 * (n : Int) := by omega
  have e2 : 8 * (n : Int) < 64 := by omega
  have e3 : (i : Int) < 64 := by omega
  simp [e1, e2, e3]

theorem field_byte {v a r : Int} {n : Nat} (hn : n < 8) (ha : a = 8 * (n : Int)) (h : Field.sig.post [.I v, .I a, .I 8, .I r]) : IntKind.wrap .u8 r = v / 256 ^ n % 256 := by
  subst ha
  have h : ∀ i, i < 64 → bt r i = (decide (0 ≤ 8 * (n : Int)) && decide (8 * (n : Int) < 64) && decide ((i : Int) < 8) && bt v (i + (8 * (n : Int)).toNat)) := h
  rw [IntKind.wrap_u8]
  apply eq_of_bt (w := 8) (by omega) (by show _ < 256; omega) (by omega) (by show _ < 256; omega)
  intro i hi
  rw [bt_byte _ _ _ hi, show (256 : Int) = 2 ^ 8 from rfl, bt_emod _ hi, h i (by omega), show (8 * (n : Int)).toNat = 8 * n from by omega]
  have e1 : 0 ≤ 8 * (n : Int) := by omega
  have e2 : 8 * (n : Int) < 64 := by omega
  have e3 : (i : Int) < 8 := by omega
  simp [e1, e2, e3]

theorem beB_len (v : Int) (n : Nat) : (beB v n).length = n := by rw [beB, List.length_reverse, bytesLE_len]
theorem beB_has (v : Int) (n : Nat) : ∀ x ∈ beB v n, 0 ≤ x ∧ x < 256 := fun x hx => bytesLE_has v n x (List.mem_reverse.1 hx)
theorem beB_get (v : Int) {n k : Nat} (h : k < n) : (beB v n).getD k 0 = v / 256 ^ (n - 1 - k) % 256 := by
  have e : (beB v n).getD k 0 = (bytesLE v n).getD (n - 1 - k) 0 := by
    simp only [List.getD, beB]
    rw [List.getElem?_reverse (by rw [bytesLE_len]; exact h), bytesLE_len]
  rw [e, bytesLE_get _ _ (by omega)]

theorem take_snoc' {l : List Int} {i : Nat} (h : i < l.length) : l.take (i + 1) = l.take i ++ [l.getD i 0] := by
  rw [List.take_add_one]
  congr 1
  simp [List.getD, h]

theorem clamp18 (n : Int) : 1 ≤ clamp 1 8 n ∧ clamp 1 8 n ≤ 8 := by unfold clamp; split <;> (try split) <;> omega
theorem clamp18_eq (n : Int) : minI (maxI n 1) 8 = clamp 1 8 n := by rw [minI_eq, maxI_eq]; unfold clamp; split <;> (try split) <;> omega

theorem fixB_len (v n : Int) : (fixB v n).length = (clamp 1 8 n).toNat := beB_len _ _

theorem WFixed.pure : WFixed.Pure := by
  intro n0 v1 z2 i3 i4 h1 h2 h3 h4
  have h4 : z2.length ≤ 4000000000 := h4
  have hc := clamp18 i4
  rw [clamp18_eq, i64w (x := clamp 1 8 i4 - 1) (by omega) (by omega)]
  refine ⟨?_, ?_⟩
  · refine ⟨by omega, by omega, ?_⟩
    rw [show (clamp 1 8 i4 - 1 - (clamp 1 8 i4 - 1)).toNat = 0 from by omega]; simp
  intro i5 v6 z7 h5 h6 h7
  have h7 : -1 ≤ i5 ∧ i5 < clamp 1 8 i4 ∧ z7 = z2 ++ (fixB i3 i4).take (clamp 1 8 i4 - 1 - i5).toNat := h7
  obtain ⟨a, b, c⟩ := h7
  refine ⟨?_, ?_⟩
  · intro h8
    rw [i64w (x := 8 * i5) (by omega) (by omega), i64w (x := i5 - 1) (by omega) (by omega)]
    have hl7 : z7.length ≤ 4000000008 := by
      rw [c, List.length_append, List.length_take, fixB_len]; omega
    have fin : ∀ i8 : Int, Field.sig.post [(D.I i3), (D.I (8 * i5)), (D.I 8), (D.I i8)] → (((z7 ++ [IntKind.wrap .u8 i8]).length : Nat) : Int) ≤ 140737488355328 ∧
        (WFixed.I0 [(D.N n0), (D.V v1), (D.Z z2), (D.I i3), (D.I i4), (D.I (i5 - 1)), (D.Z (z7 ++ [IntKind.wrap .u8 i8]))] ∧
        WFixed.I0M [(D.N n0), (D.V v1), (D.Z z2), (D.I i3), (D.I i4), (D.I (i5 - 1)), (D.Z (z7 ++ [IntKind.wrap .u8 i8]))] < WFixed.I0M [(D.N n0), (D.V v1), (D.Z z2), (D.I i3), (D.I i4), (D.I i5), (D.Z z7)]) := by
      intro i8 h9
      refine ⟨by rw [List.length_append]; simp only [List.length_cons, List.length_nil]; omega, ⟨by omega, by omega, ?_⟩, ?_⟩
      · rw [field_byte (n := i5.toNat) (by omega) (by omega) h9, c, List.append_assoc]
        congr 1
        rw [show (clamp 1 8 i4 - 1 - (i5 - 1)).toNat = (clamp 1 8 i4 - 1 - i5).toNat + 1 from by omega, take_snoc' (by rw [fixB_len]; omega)]
        congr 1
        rw [fixB, beB_get _ (by omega), show (clamp 1 8 i4).toNat - 1 - (clamp 1 8 i4 - 1 - i5).toNat = i5.toNat from by omega]
      · show (i5 - 1 + 1).toNat < (i5 + 1).toNat
        omega
    refine ⟨?_, ?_⟩
    · refine ⟨trivial, ?_⟩
      intro i8 h9 h10 v9
      exact ⟨(fin i8 h9).1, fun _ v10 => (fin i8 h9).2⟩
    · refine ⟨trivial, ?_⟩
      intro i8 h9 h10
      exact ⟨fun v9 => ⟨(fin i8 h9).1, fun _ v10 => (fin i8 h9).2⟩, fun v9 => ⟨(fin i8 h9).1, fun _ v10 => (fin i8 h9).2⟩⟩
  · intro h8
    show z7 = z2 ++ fixB i3 i4
    rw [c, List.take_of_length_le (by rw [fixB_len]; omega)]

theorem widthF_of {v n : Int} (hv : 0 ≤ v ∧ v < 18446744073709551616) (h1 : 1 ≤ n) (h2 : n ≤ 8) (hlo : n = 1 ∨ 256 ^ (n - 1).toNat ≤ v) (hhi : n = 8 ∨ v < 256 ^ n.toNat) : widthF v = n := by
  have hc : n = 1 ∨ n = 2 ∨ n = 3 ∨ n = 4 ∨ n = 5 ∨ n = 6 ∨ n = 7 ∨ n = 8 := by omega
  rcases hc with rfl | rfl | rfl | rfl | rfl | rfl | rfl | rfl
  · have h : v < 256 := hhi.resolve_left (by decide)
    unfold widthF; rw [if_pos h]
  · have h : 256 ≤ v := hlo.resolve_left (by decide)
    have h' : v < 65536 := hhi.resolve_left (by decide)
    unfold widthF; rw [if_neg (by omega), if_pos h']
  · have h : 65536 ≤ v := hlo.resolve_left (by decide)
    have h' : v < 16777216 := hhi.resolve_left (by decide)
    unfold widthF; rw [if_neg (by omega), if_neg (by omega), if_pos h']
  · have h : 16777216 ≤ v := hlo.resolve_left (by decide)
    have h' : v < 4294967296 := hhi.resolve_left (by decide)
    unfold widthF; rw [if_neg (by omega), if_neg (by omega), if_neg (by omega), if_pos h']
  · have h : 4294967296 ≤ v := hlo.resolve_left (by decide)
    have h' : v < 1099511627776 := hhi.resolve_left (by decide)
    unfold widthF; rw [if_neg (by omega), if_neg (by omega), if_neg (by omega), if_neg (by omega), if_pos h']
  · have h : 1099511627776 ≤ v := hlo.resolve_left (by decide)
    have h' : v < 281474976710656 := hhi.resolve_left (by decide)
    unfold widthF; rw [if_neg (by omega), if_neg (by omega), if_neg (by omega), if_neg (by omega), if_neg (by omega), if_pos h']
  · have h : 281474976710656 ≤ v := hlo.resolve_left (by decide)
    have h' : v < 72057594037927936 := hhi.resolve_left (by decide)
    unfold widthF; rw [if_neg (by omega), if_neg (by omega), if_neg (by omega), if_neg (by omega), if_neg (by omega), if_neg (by omega), if_pos h']
  · have h : 72057594037927936 ≤ v := hlo.resolve_left (by decide)
    unfold widthF; rw [if_neg (by omega), if_neg (by omega), if_neg (by omega), if_neg (by omega), if_neg (by omega), if_neg (by omega), if_neg (by omega)]

theorem widthF_range (v : Int) : 1 ≤ widthF v ∧ widthF v ≤ 8 := by
  unfold widthF
  repeat' split
  all_goals decide

theorem shr8 {v : Int} : shrI .u64 v 8 = v / 256 := by
  show v.fdiv (2 ^ 8) = v / 256
  rw [Int.fdiv_eq_ediv_of_nonneg _ (by decide)]; rfl

theorem pow256_pos (n : Nat) : (0 : Int) < 256 ^ n := by rw [pow_256]; exact pow_pos' _

theorem Width.pure : Width.Pure := by
  intro i0 h1 h2
  refine ⟨?_, ?_⟩
  · exact ⟨by decide, by decide, by simp, .inl rfl⟩
  intro i1 i2 h3 h4 h5
  have h5 : 1 ≤ i2 ∧ i2 ≤ 8 ∧ i1 = i0 / 256 ^ (i2 - 1).toNat ∧ (i2 = 1 ∨ 256 ^ (i2 - 1).toNat ≤ i0) := h5
  obtain ⟨a, b, c, d⟩ := h5
  rw [shr8]
  have e1 : i1 / 256 = i0 / 256 ^ i2.toNat := by
    rw [c, ← div_pow_succ, show (i2 - 1).toNat + 1 = i2.toNat from by omega]
  refine ⟨?_, ?_⟩
  · intro h6
    have hge : 256 ^ i2.toNat ≤ i0 := by
      apply Classical.byContradiction
      intro hc
      rw [e1, Int.ediv_eq_zero_of_lt h1.1 (by omega)] at h6
      exact h6 rfl
    have hlt8 : i2 < 8 := by
      apply Classical.byContradiction
      intro hc
      have : i2 = 8 := by omega
      subst this
      have : (18446744073709551616 : Int) ≤ i0 := hge
      omega
    rw [i64w (by omega) (by omega)]
    refine ⟨?_, ?_⟩
    · refine ⟨by omega, by omega, ?_, .inr ?_⟩
      · rw [e1, show (i2 + 1 - 1).toNat = i2.toNat from by omega]
      · rw [show (i2 + 1 - 1).toNat = i2.toNat from by omega]; exact hge
    · show (i1 / 256).toNat < i1.toNat
      have : 0 < i1 := by
        apply Classical.byContradiction
        intro hc
        have : i1 = 0 := by omega
        rw [this] at h6; exact h6 rfl
      omega
  · intro h6
    show i2 = widthF i0
    symm
    apply widthF_of h1 a b d
    right
    apply Classical.byContradiction
    intro hc
    have : 1 ≤ i0 / 256 ^ i2.toNat := Int.le_ediv_of_mul_le (pow256_pos _) (by omega)
    omega

end Go.Vc
namespace Go.Vc
theorem numB_len (v : Int) : (numB v).length ≤ 9 ∧ 1 ≤ (numB v).length := by
  have := widthF_range v
  unfold numB
  split
  · simp
  · rw [List.length_cons, beB_len]; omega

theorem fixB_wide {v : Int} : fixB v (widthF v) = beB v (widthF v).toNat := by
  have := widthF_range v
  rw [fixB, show clamp 1 8 (widthF v) = widthF v from by unfold clamp; rw [if_neg (by omega), if_neg (by omega)]]

theorem WNum.pure : WNum.Pure := by
  intro n0 v1 z2 i3 h1 h2 h3
  have h3 : z2.length ≤ 3000000000 := h3
  refine ⟨?_, ?_⟩
  · intro h4 v4
    refine ⟨?_, fun h5 => ?_⟩
    · rw [List.length_append]; simp only [List.length_cons, List.length_nil]; omega
    intro v5
    show z2 ++ [IntKind.wrap .u8 i3] = z2 ++ numB i3
    rw [numB, if_pos h4, IntKind.wrap_u8, show i3 % 256 = i3 from by omega]
  · intro h4
    refine ⟨trivial, ?_⟩
    intro i4 h5 h6 v5
    have h5 : i4 = widthF i3 := h5
    have hw := widthF_range i3
    have e : IntKind.wrap .u8 (IntKind.wrap .i64 ((IntKind.wrap .i64 ((248 : Int) + i4)) - (1 : Int))) = 247 + widthF i3 := by
      rw [h5, i64w (x := 248 + widthF i3) (by omega) (by omega), i64w (by omega) (by omega), IntKind.wrap_u8]; omega
    rw [e]
    refine ⟨?_, fun h7 => ?_⟩
    · rw [List.length_append]; simp only [List.length_cons, List.length_nil]; omega
    intro v6
    refine ⟨?_, ?_⟩
    · show (z2 ++ [247 + widthF i3]).length ≤ 4000000000
      rw [List.length_append]; simp only [List.length_cons, List.length_nil]; omega
    intro v7 z8 h8 h9
    have h8 : z8 = z2 ++ [247 + widthF i3] ++ fixB i3 i4 := h8
    show z8 = z2 ++ numB i3
    rw [h8, h5, fixB_wide, numB, if_neg (by omega), List.append_assoc]; rfl

theorem WText.pure : WText.Pure := by
  intro n0 v1 z2 s3 h1 h2 h3
  have h3 : z2.length ≤ 1000000000 ∧ s3.size ≤ 1000000000 := h3
  rw [u64w (by omega) (by omega)]
  refine ⟨?_, ?_⟩
  · show z2.length ≤ 3000000000
    omega
  intro v4 z5 h4 h5
  have h4 : z5 = z2 ++ numB s3.size := h4
  have hn := numB_len s3.size
  refine ⟨?_, fun h6 => ?_⟩
  · rw [h4, List.length_append, List.length_append, bytesOf_length']; omega
  intro v6
  show z5 ++ bytesOf s3 = z2 ++ textB s3
  rw [h4, textB, List.append_assoc]

theorem WRaw.pure : WRaw.Pure := by
  intro n0 v1 z2 s3 h1 h2 h3
  have h3 : z2.length ≤ 1000000000 ∧ s3.size ≤ 1000000000 := h3
  refine ⟨?_, fun h4 => ?_⟩
  · rw [List.length_append, bytesOf_length']; omega
  intro v4
  rfl

theorem WBytes.pure : WBytes.Pure := by
  intro n0 v1 z2 h1 h2
  rfl

theorem RFixed.pure : RFixed.Pure := by
  intro i0 i1 h1 h2 h3
  have h3 : 1 ≤ i1 ∧ i1 ≤ 8 := h3
  refine ⟨trivial, ?_⟩
  intro s2 h4 h5 v3
  have hc8 : clamp 0 8 i1 = i1 := by unfold clamp; rw [if_neg (by omega), if_neg (by omega)]
  have h4 : s2 = textOf (bytesLE i0 (clamp 0 8 i1).toNat) := h4
  rw [hc8] at h4
  have hb : bytesOf s2 = bytesLE i0 i1.toNat := by rw [h4, bytesOf_textOf (bytesLE_has _ _)]
  have hl8 : (bytesOf s2).length = i1.toNat := by rw [hb, bytesLE_len]
  refine ⟨?_, ?_⟩
  · exact ⟨by decide, by omega, rfl⟩
  intro s4 i5 h6 h7 h8
  have h8 : 0 ≤ i5 ∧ i5 ≤ i1 ∧ s4 = textOf ((bytesLE i0 i5.toNat).reverse) := h8
  obtain ⟨a, b, c⟩ := h8
  refine ⟨?_, ?_⟩
  · intro h9
    refine ⟨?_, fun h10 => ?_⟩
    · omega -- (0 : Int) ≤ i5
    intro v6
    rw [c, textOf_cons, hb, bytesLE_get _ _ (by omega), i64w (by omega) (by omega)]
    refine ⟨?_, fun h11 => ?_⟩
    · rw [size_textOf, List.length_cons, List.length_reverse, bytesLE_len]; omega
    refine ⟨?_, ?_⟩
    · refine ⟨by omega, by omega, ?_⟩
      rw [show (i5 + 1).toNat = i5.toNat + 1 from by omega, bytesLE_succ, List.reverse_append]; rfl
    · show (i1 - (i5 + 1)).toNat < (i1 - i5).toNat
      omega
  · intro h9
    show s4 = textOf (fixB i0 i1)
    rw [c, fixB, beB, show clamp 1 8 i1 = i1 from by unfold clamp; rw [if_neg (by omega), if_neg (by omega)], show i5.toNat = i1.toNat from by omega]

theorem RNum.pure : RNum.Pure := by
  intro i0 h1 h2
  refine ⟨?_, ?_⟩
  · intro h3 v1
    show textOf [IntKind.wrap .u8 i0] = textOf (numB i0)
    rw [numB, if_pos h3, IntKind.wrap_u8, show i0 % 256 = i0 from by omega]
  · intro h3
    refine ⟨?_, ?_⟩
    · exact ⟨by decide, by decide, by decide, by decide, .inl rfl, fun j hj hj' => by omega⟩
    intro i1 i2 h4 h5 h6
    have h6 : 1 ≤ i2 ∧ i2 ≤ 8 ∧ 1 ≤ i1 ∧ i1 ≤ i2 ∧ (i1 = 1 ∨ 256 ^ (i1 - 1).toNat ≤ i0) ∧ ∀ j : Nat, i1 ≤ (j : Int) → (j : Int) < i2 → i0 < 256 ^ j := h6
    obtain ⟨a, b, c, d, e, f⟩ := h6
    refine ⟨?_, ?_⟩
    · intro h7
      rw [i64w (x := 8 * i2) (by omega) (by omega), i64w (x := i2 + 1) (by omega) (by omega)]
      refine ⟨trivial, ?_⟩
      intro i3 h8 h9
      have hq := field_u64 h1 h9 (n := i2.toNat) (by omega) (by omega) h8
      have less : ∀ n : Int, RNum.I0M [(D.I i0), (D.I n), (D.I (i2 + 1))] < RNum.I0M [(D.I i0), (D.I i1), (D.I i2)] := by
        intro n
        show (8 - (i2 + 1)).toNat < (8 - i2).toNat
        omega
      refine ⟨?_, ?_⟩
      · intro h10
        refine ⟨⟨by omega, by omega, by omega, by omega, .inr ?_, fun j hj hj' => by omega⟩, less _⟩
        rw [show (i2 + 1 - 1).toNat = i2.toNat from by omega]
        apply Classical.byContradiction
        intro hc
        rw [hq, Int.ediv_eq_zero_of_lt h1.1 (by omega)] at h10
        omega
      · intro h10
        refine ⟨⟨by omega, by omega, by omega, by omega, e, fun j hj hj' => ?_⟩, less _⟩
        by_cases hj2 : (j : Int) < i2
        · exact f j hj hj2
        · have : j = i2.toNat := by omega
          subst this
          apply Classical.byContradiction
          intro hc
          have : 1 ≤ i0 / 256 ^ i2.toNat := Int.le_ediv_of_mul_le (pow256_pos _) (by omega)
          omega
    · intro h7
      have hw : widthF i0 = i1 := widthF_of h1 c (by omega) e (by
        by_cases h : i1 = 8
        · exact .inl h
        · exact .inr (f i1.toNat (by omega) (by omega)))
      have e8 : IntKind.wrap .u8 (IntKind.wrap .i64 ((247 : Int) + i1)) = 247 + widthF i0 := by
        rw [i64w (by omega) (by omega), IntKind.wrap_u8, hw]; omega
      rw [e8]
      have fin : ∀ s4 : ByteArray, RFixed.sig.post [(D.I i0), (D.I i1), (D.S s4)] → (((textOf [247 + widthF i0] ++ s4).size : Nat) : Int) ≤ 9223372036854775807 ∧ RNum.sig.post [(D.I i0), (D.S (textOf [247 + widthF i0] ++ s4))] := by
        intro s4 h
        have h : s4 = textOf (fixB i0 i1) := h
        have e1 : textOf [247 + widthF i0] ++ s4 = textOf (numB i0) := by
          rw [h, textOf_cons, numB, if_neg (by omega), ← hw, fixB_wide]
        refine ⟨?_, e1⟩
        rw [e1, size_textOf]; have := numB_len i0; omega
      have pre : RFixed.sig.pre [(D.I i0), (D.I i1)] := ⟨c, by omega⟩
      refine ⟨?_, ?_⟩
      · intro v3
        exact ⟨⟨pre, fun s4 h8 h9 => ⟨(fin s4 h8).1, fun _ => (fin s4 h8).2⟩⟩, ⟨pre, fun s4 h8 h9 => ⟨(fin s4 h8).1, fun _ => (fin s4 h8).2⟩⟩⟩
      · exact ⟨pre, fun s4 h8 h9 v4 => ⟨(fin s4 h8).1, fun _ => (fin s4 h8).2⟩⟩

theorem RText.pure : RText.Pure := by
  intro s0 h1 h2
  have h2 : s0.size ≤ 1000000000 := h2
  rw [u64w (by omega) (by omega)]
  refine ⟨trivial, ?_⟩
  intro s1 h3 h4
  have h3 : s1 = textOf (numB s0.size) := h3
  have e : s1 ++ s0 = textOf (textB s0) := by
    rw [h3, textB, ← textOf_append, textOf_bytesOf]
  refine ⟨?_, fun h5 => ?_⟩
  · rw [h3, ByteArray.size_append, size_textOf]; have := numB_len s0.size; omega
  exact e

theorem PRead.pure : PRead.Pure := by
  intro s0 h1 h2 n1
  trivial
theorem PErr.pure : PErr.Pure := by
  intro n0 s1 i2 i3 h1 h2 h3 h4
  trivial
theorem PRaw.pure : PRaw.Pure := by
  intro n0 s1 i2 i3 i4 h1 h2 h3 h4 h5
  have h5 : 0 ≤ i2 ∧ i2 ≤ s1.size := h5
  rw [i64w (x := ((s1.size : Nat) : Int) - i2) (by omega) (by omega)]
  refine ⟨?_, ?_⟩
  · intro h6
    show (i2, i3, ByteArray.empty) = rdRaw s1 i2 i3 i4
    rw [rdRaw, if_pos h6]
  · intro h6
    refine ⟨?_, ?_⟩
    · intro h7
      show (i2, (2 : Int), ByteArray.empty) = rdRaw s1 i2 i3 i4
      rw [rdRaw, if_neg (by omega), if_pos (.inl h7)]
    · intro h7
      refine ⟨?_, ?_⟩
      · intro h8
        show (i2, (2 : Int), ByteArray.empty) = rdRaw s1 i2 i3 i4
        rw [rdRaw, if_neg (by omega), if_pos (.inr h8)]
      · intro h8
        rw [i64w (x := i2 + i4) (by omega) (by omega), i64w (x := i2 + i4 - i4) (by omega) (by omega), show i2 + i4 - i4 = i2 from by omega]
        refine ⟨by omega, fun h9 => ⟨by omega, fun h10 => ⟨by omega, fun h11 => ?_⟩⟩⟩
        show (i2 + i4, i3, s1.extract i2.toNat (i2 + i4).toNat) = rdRaw s1 i2 i3 i4
        rw [rdRaw, if_neg (by omega), if_neg (by omega)]

theorem rdRaw_size (S : ByteArray) (a e n : Int) (hn : 0 ≤ n) (ha : 0 ≤ a ∧ a ≤ S.size) : ((rdRaw S a e n).2.2.size : Int) ≤ n ∧ 0 ≤ (rdRaw S a e n).1 ∧ (rdRaw S a e n).1 ≤ S.size := by
  unfold rdRaw
  split
  · exact ⟨by show ((0 : Nat) : Int) ≤ n; omega, ha.1, ha.2⟩
  · split
    · exact ⟨by show ((0 : Nat) : Int) ≤ n; omega, ha.1, ha.2⟩
    · rename_i h
      refine ⟨?_, by show 0 ≤ a + n; omega, by show a + n ≤ S.size; omega⟩
      show ((S.extract a.toNat (a + n).toNat).size : Int) ≤ n
      rw [ByteArray.size_extract]; omega

theorem beNum_snoc (l : List Int) (c : Int) : beNum (l ++ [c]) = 256 * beNum l + c := by simp [beNum]
theorem beNum_range {l : List Int} (h : ∀ x ∈ l, 0 ≤ x ∧ x < 256) : ∀ k, k ≤ l.length → 0 ≤ beNum (l.take k) ∧ beNum (l.take k) < 256 ^ k
  | 0, _ => by simp [beNum]
  | k + 1, hk => by
    have ih := beNum_range h k (by omega)
    have hx : 0 ≤ l.getD k 0 ∧ l.getD k 0 < 256 := by
      simp only [List.getD, List.getElem?_eq_getElem (show k < l.length by omega), Option.getD_some]
      exact h _ (List.getElem_mem _)
    rw [take_snoc' (by omega), beNum_snoc, Int.pow_succ]
    omega

/-- A byte below all that was there. -/
theorem or_low {v c : Int} (h0 : 0 ≤ v) (h1 : v < 72057594037927936) (c0 : 0 ≤ c) (c1 : c < 256) : Go.bits .or .u64 (shlI .u64 v 8) c = 256 * v + c := by
  have e : shlI .u64 v 8 = v * 256 := by
    show IntKind.u64.wrap (v * 2 ^ 8) = v * 256
    rw [show (2 : Int) ^ 8 = 256 from rfl, u64w (by omega) (by omega)]
  have j := bits_join .u64 64 (by decide) (fun n h0 h1 => wrap_u64_eq h0 h1) 8 (v * 256) c (by omega) (by show v * 256 % 256 = 0; omega) (by show v * 256 < 18446744073709551616; omega) c0 (by show c < 256; exact c1) (by show c < 18446744073709551616; omega)
  rw [e, j]; omega

theorem PFixed.pure : PFixed.Pure := by
  intro n0 s1 i2 i3 i4 h1 h2 h3 h4 h5
  have h5 : 0 ≤ i2 ∧ i2 ≤ s1.size := h5
  have hc := clamp18 i4
  rw [clamp18_eq]
  refine ⟨h5, ?_⟩
  intro i5 i6 s7 h6 h7 h8 h9 v8
  have h6 : (i5, i6, s7) = rdRaw s1 i2 i3 (clamp 1 8 i4) := h6
  have hs7 : s7.size ≤ 8 := by
    have := (rdRaw_size s1 i2 i3 (clamp 1 8 i4) (by omega) h5).1
    rw [← h6] at this
    have this : (s7.size : Int) ≤ clamp 1 8 i4 := this
    omega
  have hlen := bytesOf_length' s7
  have hby := bytesOf_has s7
  refine ⟨?_, ?_⟩
  · refine ⟨by decide, ?_, rfl⟩
    omega
  intro i9 i10 h10 h11 h12
  have es : (rdRaw s1 i2 i3 (clamp 1 8 i4)).2.2 = s7 := by rw [← h6]
  have h12 : 0 ≤ i10 ∧ i10 ≤ (bytesOf (rdRaw s1 i2 i3 (clamp 1 8 i4)).2.2).length ∧ i9 = beNum ((bytesOf (rdRaw s1 i2 i3 (clamp 1 8 i4)).2.2).take i10.toNat) := h12
  rw [es] at h12
  obtain ⟨a, b, d⟩ := h12
  refine ⟨?_, ?_⟩
  · intro h13
    refine ⟨?_, fun h14 => ?_⟩
    · omega -- (0 : Int) ≤ i10
    have hx : 0 ≤ (bytesOf s7).getD i10.toNat 0 ∧ (bytesOf s7).getD i10.toNat 0 < 256 := by
      simp only [List.getD, List.getElem?_eq_getElem (show i10.toNat < (bytesOf s7).length by omega), Option.getD_some]
      exact hby _ (List.getElem_mem _)
    have hr := beNum_range hby i10.toNat (by omega)
    have hp : (256 : Int) ^ i10.toNat ≤ 256 ^ 7 := by
      have h2 : 256 ^ i10.toNat ≤ 256 ^ 7 := Nat.pow_le_pow_right (by decide : 0 < 256) (by omega)
      have h3 : ((256 ^ i10.toNat : Nat) : Int) ≤ ((256 ^ 7 : Nat) : Int) := by omega
      rwa [Int.natCast_pow, Int.natCast_pow] at h3
    have hp7 : (256 : Int) ^ 7 = 72057594037927936 := rfl
    rw [u64w (by omega) (by omega), or_low (by omega) (by omega) hx.1 hx.2, i64w (by omega) (by omega)]
    refine ⟨?_, ?_⟩
    · show 0 ≤ i10 + 1 ∧ i10 + 1 ≤ (bytesOf (rdRaw s1 i2 i3 (clamp 1 8 i4)).2.2).length ∧ 256 * i9 + (bytesOf s7).getD i10.toNat 0 = beNum ((bytesOf (rdRaw s1 i2 i3 (clamp 1 8 i4)).2.2).take (i10 + 1).toNat)
      rw [es]
      refine ⟨by omega, by omega, ?_⟩
      rw [show (i10 + 1).toNat = i10.toNat + 1 from by omega, take_snoc' (by omega), beNum_snoc, d]
    · show (((bytesOf (rdRaw s1 i2 i3 (clamp 1 8 i4)).2.2).length : Int) - (i10 + 1)).toNat < (((bytesOf (rdRaw s1 i2 i3 (clamp 1 8 i4)).2.2).length : Int) - i10).toNat
      rw [es]
      omega
  · intro h13
    show (i5, i6, i9) = rdFixed s1 i2 i3 i4
    rw [rdFixed, ← h6, d, List.take_of_length_le (by omega)]

theorem PNum.pure : PNum.Pure := by
  intro n0 s1 i2 i3 h1 h2 h3 h4
  have h4 : 0 ≤ i2 ∧ i2 ≤ s1.size := h4
  refine ⟨h4, ?_⟩
  intro i4 i5 i6 h5 h6 h7 h8
  have h5 : (i4, i5, i6) = rdFixed s1 i2 i3 1 := h5
  have ha4 : 0 ≤ i4 ∧ i4 ≤ s1.size := by
    have hc := clamp18 1
    have := (rdRaw_size s1 i2 i3 (clamp 1 8 1) (by omega) h4).2
    rw [rdFixed] at h5
    have e : i4 = (rdRaw s1 i2 i3 (clamp 1 8 1)).1 := congrArg (·.1) h5
    rw [e]; exact this
  have unf : rdNum s1 i2 i3 = if i5 ≠ 0 ∨ i6 < 248 then (i4, i5, i6) else
      (if (if (rdFixed s1 i4 i5 (i6 - 247)).2.1 = 0 ∧ ((rdFixed s1 i4 i5 (i6 - 247)).2.2 < 248 ∨ widthF (rdFixed s1 i4 i5 (i6 - 247)).2.2 ≠ i6 - 247) then 3 else (rdFixed s1 i4 i5 (i6 - 247)).2.1) ≠ 0
       then (i2, (if (rdFixed s1 i4 i5 (i6 - 247)).2.1 = 0 ∧ ((rdFixed s1 i4 i5 (i6 - 247)).2.2 < 248 ∨ widthF (rdFixed s1 i4 i5 (i6 - 247)).2.2 ≠ i6 - 247) then 3 else (rdFixed s1 i4 i5 (i6 - 247)).2.1), 0)
       else ((rdFixed s1 i4 i5 (i6 - 247)).1, (if (rdFixed s1 i4 i5 (i6 - 247)).2.1 = 0 ∧ ((rdFixed s1 i4 i5 (i6 - 247)).2.2 < 248 ∨ widthF (rdFixed s1 i4 i5 (i6 - 247)).2.2 ≠ i6 - 247) then 3 else (rdFixed s1 i4 i5 (i6 - 247)).2.1), (rdFixed s1 i4 i5 (i6 - 247)).2.2)) := by
    rw [rdNum, ← h5]
  have h6b : i6 < 256 := by
    have hc1 : clamp 1 8 1 = 1 := by decide
    rw [rdFixed, hc1] at h5
    have e : i6 = beNum (bytesOf (rdRaw s1 i2 i3 1).2.2) := congrArg (·.2.2) h5
    have hs := (rdRaw_size s1 i2 i3 1 (by decide) h4).1
    have hl := bytesOf_length' (rdRaw s1 i2 i3 1).2.2
    have hr := beNum_range (bytesOf_has (rdRaw s1 i2 i3 1).2.2) _ (Nat.le_refl _)
    rw [List.take_length] at hr
    have h01 : (bytesOf (rdRaw s1 i2 i3 1).2.2).length = 0 ∨ (bytesOf (rdRaw s1 i2 i3 1).2.2).length = 1 := by omega
    rw [e]
    rcases h01 with h | h <;> rw [h] at hr
    · have : (256 : Int) ^ 0 = 1 := rfl
      omega
    · have : (256 : Int) ^ 1 = 256 := rfl
      omega
  refine ⟨?_, ?_⟩
  · intro h9
    show (i4, i5, i6) = rdNum s1 i2 i3
    rw [unf, if_pos (.inl h9)]
  · intro h9
    refine ⟨?_, ?_⟩
    · intro h10
      show (i4, i5, i6) = rdNum s1 i2 i3
      rw [unf, if_pos (.inr h10)]
    · intro h10
      rw [if_neg (by omega)] at unf
      have ei : IntKind.wrap .i64 i6 = i6 := i64w (by omega) (by omega)
      have en : IntKind.wrap .i64 ((IntKind.wrap .i64 (i6 - (248 : Int))) + (1 : Int)) = i6 - 247 := by
        rw [i64w (x := i6 - 248) (by omega) (by omega), i64w (by omega) (by omega)]; omega
      rw [ei, en]
      refine ⟨ha4, ?_⟩
      intro i7 i8 i9 h11 h12 h13 h14
      have h11 : (i7, i8, i9) = rdFixed s1 i4 i5 (i6 - 247) := h11
      rw [← h11] at unf
      dsimp only at unf
      refine ⟨?_, ?_⟩
      · intro h15
        refine ⟨?_, ?_⟩
        · intro h16
          have hcc : i8 = 0 ∧ (i9 < 248 ∨ widthF i9 ≠ i6 - 247) := ⟨h15, .inl h16⟩
          simp only [if_pos hcc] at unf
          refine ⟨?_, ?_⟩
          · intro h17
            show (i2, (3 : Int), (0 : Int)) = rdNum s1 i2 i3
            rw [unf]; rfl
          · intro h17
            exact absurd h17 (by decide)
        · intro h16
          refine ⟨trivial, ?_⟩
          intro i10 h17 h18
          have h17 : i10 = widthF i9 := h17
          refine ⟨?_, ?_⟩
          · intro h19
            have hcc : i8 = 0 ∧ (i9 < 248 ∨ widthF i9 ≠ i6 - 247) := ⟨h15, .inr (by rw [← h17]; exact h19)⟩
            simp only [if_pos hcc] at unf
            refine ⟨?_, ?_⟩
            · intro h20
              show (i2, (3 : Int), (0 : Int)) = rdNum s1 i2 i3
              rw [unf]; rfl
            · intro h20
              exact absurd h20 (by decide)
          · intro h19
            have hcc : ¬ (i8 = 0 ∧ (i9 < 248 ∨ widthF i9 ≠ i6 - 247)) := by
              rintro ⟨_, h | h⟩
              · omega
              · exact h (by rw [← h17]; exact h19)
            simp only [if_neg hcc] at unf
            refine ⟨?_, ?_⟩
            · intro h20
              exact absurd h15 h20
            · intro h20
              show (i7, i8, i9) = rdNum s1 i2 i3
              rw [unf, if_neg (by omega)]
      · intro h15
        have hcc : ¬ (i8 = 0 ∧ (i9 < 248 ∨ widthF i9 ≠ i6 - 247)) := by
          rintro ⟨h, _⟩; exact h15 h
        simp only [if_neg hcc] at unf
        refine ⟨?_, ?_⟩
        · intro h16
          show (i2, i8, (0 : Int)) = rdNum s1 i2 i3
          rw [unf, if_pos h16]
        · intro h16
          exact absurd h16 h15

end Go.Vc
namespace Go.Vc
theorem beNum_acc : ∀ (l : List Int) (a : Int), l.foldl (fun v c => 256 * v + c) a = a * 256 ^ l.length + beNum l
  | [], a => by simp [beNum]
  | c :: l, a => by
    simp only [List.foldl_cons, beNum, List.length_cons]
    rw [beNum_acc l (256 * a + c), beNum_acc l (256 * 0 + c), Int.pow_succ, Int.add_mul, Int.add_mul]
    have e1 : 256 * a * 256 ^ l.length = a * (256 ^ l.length * 256) := by rw [Int.mul_comm 256 a, Int.mul_assoc, Int.mul_comm 256]
    omega

theorem beNum_beB (v : Int) : ∀ n : Nat, beNum (beB v n) = v % 256 ^ n
  | 0 => by simp [beB, bytesLE, beNum, Int.emod_one]
  | n + 1 => by
    have e : beB v (n + 1) = (v / 256 ^ n % 256) :: beB v n := by rw [beB, bytesLE_succ, List.reverse_append]; rfl
    rw [e]
    show (beB v n).foldl (fun v c => 256 * v + c) (256 * 0 + v / 256 ^ n % 256) = _
    rw [beNum_acc, beNum_beB v n, beB_len]
    have hp := pow256_pos n
    have h1 := Int.mul_ediv_add_emod v (256 ^ n)
    have h2 := Int.emod_emod_of_dvd v (show (256 : Int) ^ n ∣ 256 ^ (n + 1) from ⟨256, Int.pow_succ ..⟩)
    have h3 := Int.mul_ediv_add_emod v (256 ^ (n + 1))
    have h4 : v / 256 ^ (n + 1) = v / 256 ^ n / 256 := div_pow_succ v n
    rw [Int.pow_succ] at h3 ⊢
    have h5 := Int.mul_ediv_add_emod (v / 256 ^ n) 256
    rw [Int.pow_succ] at h4
    rw [h4] at h3
    generalize v / 256 ^ n = q at *
    generalize v % 256 ^ n = r at *
    generalize (256 : Int) ^ n = P at *
    have e6 : P * 256 * (q / 256) = P * (256 * (q / 256)) := Int.mul_assoc ..
    have e7 : P * q = P * (256 * (q / 256)) + P * (q % 256) := by rw [← Int.mul_add, h5]
    have e8 : (256 * 0 + q % 256) * P = P * (q % 256) := by rw [Int.mul_zero, Int.zero_add, Int.mul_comm]
    omega

theorem widthF_lt {v : Int} (h : 0 ≤ v ∧ v < 18446744073709551616) : v < 256 ^ (widthF v).toNat := by
  unfold widthF
  repeat' split
  · show v < 256; assumption
  · show v < 65536; assumption
  · show v < 16777216; assumption
  · show v < 4294967296; assumption
  · show v < 1099511627776; assumption
  · show v < 281474976710656; assumption
  · show v < 72057594037927936; assumption
  · show v < 18446744073709551616; exact h.2

theorem numB_has {v : Int} (h : 0 ≤ v) : ∀ x ∈ numB v, 0 ≤ x ∧ x < 256 := by
  have w := widthF_range v
  intro x hx
  unfold numB at hx
  split at hx
  · simp at hx; omega
  · rcases List.mem_cons.1 hx with rfl | hx
    · omega
    · exact beB_has _ _ x hx

end Go.Vc
