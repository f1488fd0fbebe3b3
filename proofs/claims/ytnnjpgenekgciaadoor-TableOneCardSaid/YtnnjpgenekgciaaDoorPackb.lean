/-
  Contracts of the numbers and texts as bytes: reading.
  Printed by wip/vct.py: the conditions of functions, by their contracts.
-/
import Derived.Test.YtnnjpgenekgciaaDoorPack
import Derived.KernelRfl
set_option linter.unusedVariables false
set_option linter.unusedSimpArgs false
namespace Go.Vc

/-- The document's cursor: a struct of a text, a place, an error. -/
def cur (n : Nat) : S0 := .agg [.lf (.str (.at n)), .lf (.int .i64 (.at (n + 1))), .lf (.int .i64 (.at (n + 2)))]
/-- The same text, another place and error. -/
def cur' (s n : Nat) : S0 := .agg [.lf (.str (.at s)), .lf (.int .i64 (.at n)), .lf (.int .i64 (.at (n + 1)))]
def curSig (as rs : List AK) (pre post : List D → Prop) : Sig :=
  let n := 3 + (srtsOf as).length
  { args := .one (cur 0) :: svsOf 3 as, heap := [], srts := .S :: .I :: .I :: srtsOf as,
    res := .tup (cur' 0 n :: (svsOf (n + 2) rs).map fun x => match x with | .one y => y | _ => .lf .junk), heap' := [], news := .I :: .I :: srtsOf rs, pre := pre, post := post }
def cRaw.pre : List D → Prop
  | .S s :: .I a :: .I _ :: _ => 0 ≤ a ∧ a ≤ s.size ∧ s.size ≤ 1000000000
  | _ => False
def cRaw.post : List D → Prop
  | [.S s, .I a, .I e, .I n, .I a', .I e', .S r] => (a', e', r) = rdRaw s a e n
  | _ => False
def cRaw.sig : Sig := curSig [.i .i64] [.s] cRaw.pre cRaw.post
def cFixed.pre : List D → Prop
  | [.S s, .I a, .I _, .I n] => 0 ≤ a ∧ a ≤ s.size ∧ s.size ≤ 1000000000 ∧ 1 ≤ n ∧ n ≤ 8
  | _ => False
def cFixed.post : List D → Prop
  | [.S s, .I a, .I e, .I n, .I a', .I e', .I r] => (a', e', r) = rdFixed s a e n
  | _ => False
def cFixed.sig : Sig := curSig [.i .i64] [.i .u64] cFixed.pre cFixed.post
def cFixed.I0 : List D → Prop
  | [.S s, .I a, .I e, .I n, .I v, .I i] => 0 ≤ i ∧ i ≤ (rdRaw s a e n).2.2.size ∧ v = beNum ((bytesOf (rdRaw s a e n).2.2).take i.toNat)
  | _ => False
def cFixed.I0M : List D → Nat
  | [.S s, .I a, .I e, .I n, .I _, .I i] => ((rdRaw s a e n).2.2.size - i).toNat
  | _ => 0
def cNum.post : List D → Prop
  | [.S s, .I a, .I e, .I a', .I e', .I r] => (a', e', r) = rdNum s a e
  | _ => False
def cNum.sig : Sig := curSig [] [.i .u64] cRaw.pre cNum.post
def cText.post : List D → Prop
  | [.S s, .I a, .I e, .I m, .I a', .I e', .S r] => (a', e', r) = rdText s a e m
  | _ => False
def cText.sig : Sig := curSig [.i .i64] [.s] cRaw.pre cText.post
def cDone.post : List D → Prop
  | [.S s, .I a, .I e, .I a', .I e'] => a' = a ∧ e' = rdDone s a e
  | _ => False
def cDone.sig : Sig := { curSig [] [] cRaw.pre cDone.post with res := .one (cur' 0 3) }

/-- A Reader on a thing: its answer as the law compares it. -/
def LPackReads.sig : Sig := sigF [.s, .l thingK] [.b] tru yes
def LPackReads.I0 : List D → Prop
  | [.S _, .V _, .L _, .I i, .S s, .I a, .I e, .S s', .I a', .I e'] => 0 ≤ i ∧ i ≤ 30 ∧ s' = s ∧ a' = a ∧ e' = e ∧ 0 ≤ a ∧ a ≤ s.size ∧ s.size ≤ 600
  | _ => False
def LPackReads.I0M : List D → Nat
  | [.S _, .V _, .L _, .I i, .S _, .I _, .I _, .S _, .I _, .I _] => (30 - i).toNat
  | _ => 0
def LPackOne.sig : Sig := sigF [.s] [.b] tru yes
def LPackBack.I0 : List D → Prop
  | [.V _, .L l, .I i, .Z z] => 0 ≤ i ∧ i ≤ 20 ∧ i ≤ l.length ∧ z = thingsB (l.take i.toNat) ∧ (z.length : Int) ≤ 400 * i
  | _ => False
def LPackBack.I0M : List D → Nat
  | [.V _, .L _, .I i, .Z _] => (20 - i).toNat
  | _ => 0
def LPackBack.I1 : List D → Prop
  | [.V _, .L l, .I i, .S s, .I a, .I e] => 0 ≤ i ∧ i ≤ (l.take 20).length ∧ e = 0 ∧ s = textOf (thingsB (l.take 20)) ∧ s.size ≤ 8000 ∧ a = (thingsB ((l.take 20).take i.toNat)).length
  | _ => False
def LPackBack.I1M : List D → Nat
  | [.V _, .L _, .I i, .S _, .I _, .I _] => (20 - i).toNat
  | _ => 0
def LPackBack.sig : Sig := sigF [.l thingK] [.b] tru yes

end Go.Vc

namespace Go.Vc
set_option linter.unusedVariables false
def PText.vc : VC :=
 (.all .N
 (.all .S
 (.all .I
 (.all .I
 (.all .I
 (.know (.has .i64 (.at 4))
 (.know (.ssz (.at 1))
 (.know (.has .i64 (.at 2))
 (.know (.has .i64 (.at 3))
 (.post 0 [(.at 0), (.at 1), (.at 2), (.at 3), (.at 4)]
 (.pre 1 [(.at 0), (.at 1), (.at 2), (.at 3)]
 (.all .I
 (.all .I
 (.all .I
 (.post 1 [(.at 0), (.at 1), (.at 2), (.at 3), (.at 5), (.at 6), (.at 7)]
 (.know (.has .u64 (.at 7))
 (.know (.has .i64 (.at 5))
 (.know (.has .i64 (.at 6))
 (.and
  (.imp (.o2 .eq (.at 6) (.int 0)) true
  (.and
   (.imp (.o2 .lt (.o1 (.wrap .u64) (.o2 .max (.at 4) (.int 0))) (.at 7)) true
   (.pre 2 [(.at 0), (.at 1), (.at 5), (.int 12), (.o1 (.wrap .i64) (.o2 .min (.at 7) (.int 1099511627776)))]
   (.all .I
   (.all .I
   (.all .S
   (.post 2 [(.at 0), (.at 1), (.at 5), (.int 12), (.o1 (.wrap .i64) (.o2 .min (.at 7) (.int 1099511627776))), (.at 8), (.at 9), (.at 10)]
   (.know (.ssz (.at 10))
   (.know (.has .i64 (.at 8))
   (.know (.has .i64 (.at 9))
   (.and
    (.imp (.o1 .not (.o2 .eq (.at 9) (.int 0))) true
    (.ret [(.at 0), (.at 1), (.at 2), (.at 3), (.at 4), (.at 2), (.at 9), (.at 10)]))
    (.imp (.o1 .not (.o2 .eq (.at 9) (.int 0))) false
    (.ret [(.at 0), (.at 1), (.at 2), (.at 3), (.at 4), (.at 8), (.at 9), (.at 10)]))))))))))))
   (.imp (.o2 .lt (.o1 (.wrap .u64) (.o2 .max (.at 4) (.int 0))) (.at 7)) false
   (.pre 2 [(.at 0), (.at 1), (.at 5), (.at 6), (.o1 (.wrap .i64) (.o2 .min (.at 7) (.int 1099511627776)))]
   (.all .I
   (.all .I
   (.all .S
   (.post 2 [(.at 0), (.at 1), (.at 5), (.at 6), (.o1 (.wrap .i64) (.o2 .min (.at 7) (.int 1099511627776))), (.at 8), (.at 9), (.at 10)]
   (.know (.ssz (.at 10))
   (.know (.has .i64 (.at 8))
   (.know (.has .i64 (.at 9))
   (.and
    (.imp (.o1 .not (.o2 .eq (.at 9) (.int 0))) true
    (.ret [(.at 0), (.at 1), (.at 2), (.at 3), (.at 4), (.at 2), (.at 9), (.at 10)]))
    (.imp (.o1 .not (.o2 .eq (.at 9) (.int 0))) false
    (.ret [(.at 0), (.at 1), (.at 2), (.at 3), (.at 4), (.at 8), (.at 9), (.at 10)]))))))))))))))
  (.imp (.o2 .eq (.at 6) (.int 0)) false
  (.pre 2 [(.at 0), (.at 1), (.at 5), (.at 6), (.o1 (.wrap .i64) (.o2 .min (.at 7) (.int 1099511627776)))]
  (.all .I
  (.all .I
  (.all .S
  (.post 2 [(.at 0), (.at 1), (.at 5), (.at 6), (.o1 (.wrap .i64) (.o2 .min (.at 7) (.int 1099511627776))), (.at 8), (.at 9), (.at 10)]
  (.know (.ssz (.at 10))
  (.know (.has .i64 (.at 8))
  (.know (.has .i64 (.at 9))
  (.and
   (.imp (.o1 .not (.o2 .eq (.at 9) (.int 0))) true
   (.ret [(.at 0), (.at 1), (.at 2), (.at 3), (.at 4), (.at 2), (.at 9), (.at 10)]))
   (.imp (.o1 .not (.o2 .eq (.at 9) (.int 0))) false
   (.ret [(.at 0), (.at 1), (.at 2), (.at 3), (.at 4), (.at 8), (.at 9), (.at 10)])))))))))))))))))))))))))))))))
def PText.Pure : Prop :=
 ∀ (n0 : Nat),
 ∀ (s1 : ByteArray),
 ∀ (i2 : Int),
 ∀ (i3 : Int),
 ∀ (i4 : Int),
 (-9223372036854775808 ≤ i4 ∧ i4 < 9223372036854775808) →
 ((s1.size : Int) ≤ 9223372036854775807) →
 (-9223372036854775808 ≤ i2 ∧ i2 < 9223372036854775808) →
 (-9223372036854775808 ≤ i3 ∧ i3 < 9223372036854775808) →
 PText.sig.pre [(D.N n0), (D.S s1), (D.I i2), (D.I i3), (D.I i4)] →
 PNum.sig.pre [(D.N n0), (D.S s1), (D.I i2), (D.I i3)] ∧ (
 ∀ (i5 : Int),
 ∀ (i6 : Int),
 ∀ (i7 : Int),
 PNum.sig.post [(D.N n0), (D.S s1), (D.I i2), (D.I i3), (D.I i5), (D.I i6), (D.I i7)] →
 (0 ≤ i7 ∧ i7 < 18446744073709551616) →
 (-9223372036854775808 ≤ i5 ∧ i5 < 9223372036854775808) →
 (-9223372036854775808 ≤ i6 ∧ i6 < 9223372036854775808) →
 ((
  (i6 = (0 : Int)) →
  ((
   ((IntKind.wrap .u64 (maxI i4 (0 : Int))) < i7) →
   PRaw.sig.pre [(D.N n0), (D.S s1), (D.I i5), (D.I (12 : Int)), (D.I (IntKind.wrap .i64 (minI i7 (1099511627776 : Int))))] ∧ (
   ∀ (i8 : Int),
   ∀ (i9 : Int),
   ∀ (s10 : ByteArray),
   PRaw.sig.post [(D.N n0), (D.S s1), (D.I i5), (D.I (12 : Int)), (D.I (IntKind.wrap .i64 (minI i7 (1099511627776 : Int)))), (D.I i8), (D.I i9), (D.S s10)] →
   ((s10.size : Int) ≤ 9223372036854775807) →
   (-9223372036854775808 ≤ i8 ∧ i8 < 9223372036854775808) →
   (-9223372036854775808 ≤ i9 ∧ i9 < 9223372036854775808) →
   ((
    (i9 ≠ (0 : Int)) →
    PText.sig.post [(D.N n0), (D.S s1), (D.I i2), (D.I i3), (D.I i4), (D.I i2), (D.I i9), (D.S s10)]) ∧ (
    (i9 = (0 : Int)) →
    PText.sig.post [(D.N n0), (D.S s1), (D.I i2), (D.I i3), (D.I i4), (D.I i8), (D.I i9), (D.S s10)])))) ∧ (
   (i7 ≤ (IntKind.wrap .u64 (maxI i4 (0 : Int)))) →
   PRaw.sig.pre [(D.N n0), (D.S s1), (D.I i5), (D.I i6), (D.I (IntKind.wrap .i64 (minI i7 (1099511627776 : Int))))] ∧ (
   ∀ (i8 : Int),
   ∀ (i9 : Int),
   ∀ (s10 : ByteArray),
   PRaw.sig.post [(D.N n0), (D.S s1), (D.I i5), (D.I i6), (D.I (IntKind.wrap .i64 (minI i7 (1099511627776 : Int)))), (D.I i8), (D.I i9), (D.S s10)] →
   ((s10.size : Int) ≤ 9223372036854775807) →
   (-9223372036854775808 ≤ i8 ∧ i8 < 9223372036854775808) →
   (-9223372036854775808 ≤ i9 ∧ i9 < 9223372036854775808) →
   ((
    (i9 ≠ (0 : Int)) →
    PText.sig.post [(D.N n0), (D.S s1), (D.I i2), (D.I i3), (D.I i4), (D.I i2), (D.I i9), (D.S s10)]) ∧ (
    (i9 = (0 : Int)) →
    PText.sig.post [(D.N n0), (D.S s1), (D.I i2), (D.I i3), (D.I i4), (D.I i8), (D.I i9), (D.S s10)])))))) ∧ (
  (i6 ≠ (0 : Int)) →
  PRaw.sig.pre [(D.N n0), (D.S s1), (D.I i5), (D.I i6), (D.I (IntKind.wrap .i64 (minI i7 (1099511627776 : Int))))] ∧ (
  ∀ (i8 : Int),
  ∀ (i9 : Int),
  ∀ (s10 : ByteArray),
  PRaw.sig.post [(D.N n0), (D.S s1), (D.I i5), (D.I i6), (D.I (IntKind.wrap .i64 (minI i7 (1099511627776 : Int)))), (D.I i8), (D.I i9), (D.S s10)] →
  ((s10.size : Int) ≤ 9223372036854775807) →
  (-9223372036854775808 ≤ i8 ∧ i8 < 9223372036854775808) →
  (-9223372036854775808 ≤ i9 ∧ i9 < 9223372036854775808) →
  ((
   (i9 ≠ (0 : Int)) →
   PText.sig.post [(D.N n0), (D.S s1), (D.I i2), (D.I i3), (D.I i4), (D.I i2), (D.I i9), (D.S s10)]) ∧ (
   (i9 = (0 : Int)) →
   PText.sig.post [(D.N n0), (D.S s1), (D.I i2), (D.I i3), (D.I i4), (D.I i8), (D.I i9), (D.S s10)]))))))
theorem PText.den : PText.vc.den2 (mkEnv PText.sig [PNum.sig, PRaw.sig] []) [] = PText.Pure := by kernel_rfl
def PFail.vc : VC :=
 (.all .N
 (.all .S
 (.all .I
 (.all .I
 (.all .I
 (.know (.has .i64 (.at 4))
 (.know (.ssz (.at 1))
 (.know (.has .i64 (.at 2))
 (.know (.has .i64 (.at 3))
 (.post 0 [(.at 0), (.at 1), (.at 2), (.at 3), (.at 4)]
 (.and
  (.imp (.o2 .eq (.at 3) (.int 0)) true
  (.ret [(.at 0), (.at 1), (.at 2), (.at 3), (.at 4), (.at 2), (.at 4)]))
  (.imp (.o2 .eq (.at 3) (.int 0)) false
  (.ret [(.at 0), (.at 1), (.at 2), (.at 3), (.at 4), (.at 2), (.at 3)])))))))))))))
def PFail.Pure : Prop :=
 ∀ (n0 : Nat),
 ∀ (s1 : ByteArray),
 ∀ (i2 : Int),
 ∀ (i3 : Int),
 ∀ (i4 : Int),
 (-9223372036854775808 ≤ i4 ∧ i4 < 9223372036854775808) →
 ((s1.size : Int) ≤ 9223372036854775807) →
 (-9223372036854775808 ≤ i2 ∧ i2 < 9223372036854775808) →
 (-9223372036854775808 ≤ i3 ∧ i3 < 9223372036854775808) →
 PFail.sig.pre [(D.N n0), (D.S s1), (D.I i2), (D.I i3), (D.I i4)] →
 ((
  (i3 = (0 : Int)) →
  PFail.sig.post [(D.N n0), (D.S s1), (D.I i2), (D.I i3), (D.I i4), (D.I i2), (D.I i4)]) ∧ (
  (i3 ≠ (0 : Int)) →
  PFail.sig.post [(D.N n0), (D.S s1), (D.I i2), (D.I i3), (D.I i4), (D.I i2), (D.I i3)]))
theorem PFail.den : PFail.vc.den2 (mkEnv PFail.sig [] []) [] = PFail.Pure := by kernel_rfl
def PDone.vc : VC :=
 (.all .N
 (.all .S
 (.all .I
 (.all .I
 (.know (.ssz (.at 1))
 (.know (.has .i64 (.at 2))
 (.know (.has .i64 (.at 3))
 (.post 0 [(.at 0), (.at 1), (.at 2), (.at 3)]
 (.and
  (.imp (.o2 .lt (.at 2) (.o1 .slen (.at 1))) true
  (.pre 1 [(.at 0), (.at 1), (.at 2), (.at 3), (.int 3)]
  (.all .I
  (.all .I
  (.post 1 [(.at 0), (.at 1), (.at 2), (.at 3), (.int 3), (.at 4), (.at 5)]
  (.know (.has .i64 (.at 4))
  (.know (.has .i64 (.at 5))
  (.ret [(.at 0), (.at 1), (.at 2), (.at 3), (.at 4), (.at 5), (.at 5)]))))))))
  (.imp (.o2 .lt (.at 2) (.o1 .slen (.at 1))) false
  (.ret [(.at 0), (.at 1), (.at 2), (.at 3), (.at 2), (.at 3), (.at 3)])))))))))))
def PDone.Pure : Prop :=
 ∀ (n0 : Nat),
 ∀ (s1 : ByteArray),
 ∀ (i2 : Int),
 ∀ (i3 : Int),
 ((s1.size : Int) ≤ 9223372036854775807) →
 (-9223372036854775808 ≤ i2 ∧ i2 < 9223372036854775808) →
 (-9223372036854775808 ≤ i3 ∧ i3 < 9223372036854775808) →
 PDone.sig.pre [(D.N n0), (D.S s1), (D.I i2), (D.I i3)] →
 ((
  (i2 < ((s1.size : Nat) : Int)) →
  PFail.sig.pre [(D.N n0), (D.S s1), (D.I i2), (D.I i3), (D.I (3 : Int))] ∧ (
  ∀ (i4 : Int),
  ∀ (i5 : Int),
  PFail.sig.post [(D.N n0), (D.S s1), (D.I i2), (D.I i3), (D.I (3 : Int)), (D.I i4), (D.I i5)] →
  (-9223372036854775808 ≤ i4 ∧ i4 < 9223372036854775808) →
  (-9223372036854775808 ≤ i5 ∧ i5 < 9223372036854775808) →
  PDone.sig.post [(D.N n0), (D.S s1), (D.I i2), (D.I i3), (D.I i4), (D.I i5), (D.I i5)])) ∧ (
  (((s1.size : Nat) : Int) ≤ i2) →
  PDone.sig.post [(D.N n0), (D.S s1), (D.I i2), (D.I i3), (D.I i2), (D.I i3), (D.I i3)]))
theorem PDone.den : PDone.vc.den2 (mkEnv PDone.sig [PFail.sig] []) [] = PDone.Pure := by kernel_rfl
def cRaw.vc : VC :=
 (.all .S
 (.all .I
 (.all .I
 (.all .I
 (.know (.ssz (.at 0))
 (.know (.has .i64 (.at 1))
 (.know (.has .i64 (.at 2))
 (.know (.has .i64 (.at 3))
 (.post 0 [(.at 0), (.at 1), (.at 2), (.at 3)]
 (.all .N
 (.all .N
 (.and
  (.imp (.o1 .not (.o2 .eq (.at 2) (.int 0))) true
  (.ret [(.at 0), (.at 1), (.at 2), (.at 3), (.at 1), (.at 2), (.str ⟨#[]⟩)]))
  (.imp (.o1 .not (.o2 .eq (.at 2) (.int 0))) false
  (.and
   (.imp (.o2 .lt (.at 3) (.int 0)) true
   (.ret [(.at 0), (.at 1), (.at 2), (.at 3), (.at 1), (.int 2), (.str ⟨#[]⟩)]))
   (.imp (.o2 .lt (.at 3) (.int 0)) false
   (.and
    (.imp (.o2 .lt (.o2 (.sub .i64) (.o1 .slen (.at 0)) (.at 1)) (.at 3)) true
    (.ret [(.at 0), (.at 1), (.at 2), (.at 3), (.at 1), (.int 2), (.str ⟨#[]⟩)]))
    (.imp (.o2 .lt (.o2 (.sub .i64) (.o1 .slen (.at 0)) (.at 1)) (.at 3)) false
    (.obl (.o2 .le (.at 1) (.o2 (.add .i64) (.at 1) (.at 3)))
    (.obl (.o2 .le (.int 0) (.at 1))
    (.obl (.o2 .le (.o2 (.add .i64) (.at 1) (.at 3)) (.o1 .slen (.at 0)))
    (.ret [(.at 0), (.at 1), (.at 2), (.at 3), (.o2 (.add .i64) (.at 1) (.at 3)), (.at 2), (.o3 .ssub (.at 0) (.at 1) (.o2 (.add .i64) (.at 1) (.at 3)))])))))))))))))))))))))
def cRaw.Pure : Prop :=
 ∀ (s0 : ByteArray),
 ∀ (i1 : Int),
 ∀ (i2 : Int),
 ∀ (i3 : Int),
 ((s0.size : Int) ≤ 9223372036854775807) →
 (-9223372036854775808 ≤ i1 ∧ i1 < 9223372036854775808) →
 (-9223372036854775808 ≤ i2 ∧ i2 < 9223372036854775808) →
 (-9223372036854775808 ≤ i3 ∧ i3 < 9223372036854775808) →
 cRaw.sig.pre [(D.S s0), (D.I i1), (D.I i2), (D.I i3)] →
 ∀ (n4 : Nat),
 ∀ (n5 : Nat),
 ((
  (i2 ≠ (0 : Int)) →
  cRaw.sig.post [(D.S s0), (D.I i1), (D.I i2), (D.I i3), (D.I i1), (D.I i2), (D.S (⟨#[]⟩ : ByteArray))]) ∧ (
  (i2 = (0 : Int)) →
  ((
   (i3 < (0 : Int)) →
   cRaw.sig.post [(D.S s0), (D.I i1), (D.I i2), (D.I i3), (D.I i1), (D.I (2 : Int)), (D.S (⟨#[]⟩ : ByteArray))]) ∧ (
   ((0 : Int) ≤ i3) →
   ((
    ((IntKind.wrap .i64 (((s0.size : Nat) : Int) - i1)) < i3) →
    cRaw.sig.post [(D.S s0), (D.I i1), (D.I i2), (D.I i3), (D.I i1), (D.I (2 : Int)), (D.S (⟨#[]⟩ : ByteArray))]) ∧ (
    (i3 ≤ (IntKind.wrap .i64 (((s0.size : Nat) : Int) - i1))) →
    (i1 ≤ (IntKind.wrap .i64 (i1 + i3))) ∧ ((i1 ≤ (IntKind.wrap .i64 (i1 + i3))) →
    ((0 : Int) ≤ i1) ∧ (((0 : Int) ≤ i1) →
    ((IntKind.wrap .i64 (i1 + i3)) ≤ ((s0.size : Nat) : Int)) ∧ (((IntKind.wrap .i64 (i1 + i3)) ≤ ((s0.size : Nat) : Int)) →
    cRaw.sig.post [(D.S s0), (D.I i1), (D.I i2), (D.I i3), (D.I (IntKind.wrap .i64 (i1 + i3))), (D.I i2), (D.S (s0.extract i1.toNat (IntKind.wrap .i64 (i1 + i3)).toNat))])))))))))
theorem cRaw.den : cRaw.vc.den2 (mkEnv cRaw.sig [] []) [] = cRaw.Pure := by kernel_rfl
def cFixed.vc : VC :=
 (.all .S
 (.all .I
 (.all .I
 (.all .I
 (.know (.ssz (.at 0))
 (.know (.has .i64 (.at 1))
 (.know (.has .i64 (.at 2))
 (.know (.has .i64 (.at 3))
 (.post 0 [(.at 0), (.at 1), (.at 2), (.at 3)]
 (.all .N
 (.all .N
 (.pre 1 [(.at 0), (.at 1), (.at 2), (.at 3)]
 (.all .I
 (.all .I
 (.all .S
 (.post 1 [(.at 0), (.at 1), (.at 2), (.at 3), (.at 6), (.at 7), (.at 8)]
 (.know (.has .i64 (.at 6))
 (.know (.has .i64 (.at 7))
 (.know (.ssz (.at 8))
 (.inv 0 [(.at 0), (.at 1), (.at 2), (.at 3), (.int 0), (.int 0)]
 (.all .I
 (.all .I
 (.know (.has .u64 (.at 9))
 (.know (.has .i64 (.at 10))
 (.asm 0 [(.at 0), (.at 1), (.at 2), (.at 3), (.at 9), (.at 10)]
 (.and
  (.imp (.o2 .lt (.at 10) (.o1 .slen (.at 8))) true
  (.obl (.o2 .le (.int 0) (.at 10))
  (.back 0 [(.at 0), (.at 1), (.at 2), (.at 3), (.at 9), (.at 10)] [(.at 0), (.at 1), (.at 2), (.at 3), (.o2 (.add .u64) (.o2 (.mul .u64) (.int 256) (.at 9)) (.o1 (.wrap .u64) (.o2 .byte (.at 8) (.at 10)))), (.o2 (.add .i64) (.at 10) (.int 1))])))
  (.imp (.o2 .lt (.at 10) (.o1 .slen (.at 8))) false
  (.ret [(.at 0), (.at 1), (.at 2), (.at 3), (.at 6), (.at 7), (.at 9)]))))))))))))))))))))))))))))
def cFixed.Pure : Prop :=
 ∀ (s0 : ByteArray),
 ∀ (i1 : Int),
 ∀ (i2 : Int),
 ∀ (i3 : Int),
 ((s0.size : Int) ≤ 9223372036854775807) →
 (-9223372036854775808 ≤ i1 ∧ i1 < 9223372036854775808) →
 (-9223372036854775808 ≤ i2 ∧ i2 < 9223372036854775808) →
 (-9223372036854775808 ≤ i3 ∧ i3 < 9223372036854775808) →
 cFixed.sig.pre [(D.S s0), (D.I i1), (D.I i2), (D.I i3)] →
 ∀ (n4 : Nat),
 ∀ (n5 : Nat),
 cRaw.sig.pre [(D.S s0), (D.I i1), (D.I i2), (D.I i3)] ∧ (
 ∀ (i6 : Int),
 ∀ (i7 : Int),
 ∀ (s8 : ByteArray),
 cRaw.sig.post [(D.S s0), (D.I i1), (D.I i2), (D.I i3), (D.I i6), (D.I i7), (D.S s8)] →
 (-9223372036854775808 ≤ i6 ∧ i6 < 9223372036854775808) →
 (-9223372036854775808 ≤ i7 ∧ i7 < 9223372036854775808) →
 ((s8.size : Int) ≤ 9223372036854775807) →
 cFixed.I0 [(D.S s0), (D.I i1), (D.I i2), (D.I i3), (D.I (0 : Int)), (D.I (0 : Int))] ∧ (
 ∀ (i9 : Int),
 ∀ (i10 : Int),
 (0 ≤ i9 ∧ i9 < 18446744073709551616) →
 (-9223372036854775808 ≤ i10 ∧ i10 < 9223372036854775808) →
 cFixed.I0 [(D.S s0), (D.I i1), (D.I i2), (D.I i3), (D.I i9), (D.I i10)] →
 ((
  (i10 < ((s8.size : Nat) : Int)) →
  ((0 : Int) ≤ i10) ∧ (((0 : Int) ≤ i10) →
  cFixed.I0 [(D.S s0), (D.I i1), (D.I i2), (D.I i3), (D.I (IntKind.wrap .u64 ((IntKind.wrap .u64 ((256 : Int) * i9)) + (IntKind.wrap .u64 (byteAt s8 i10))))), (D.I (IntKind.wrap .i64 (i10 + (1 : Int))))] ∧ cFixed.I0M [(D.S s0), (D.I i1), (D.I i2), (D.I i3), (D.I (IntKind.wrap .u64 ((IntKind.wrap .u64 ((256 : Int) * i9)) + (IntKind.wrap .u64 (byteAt s8 i10))))), (D.I (IntKind.wrap .i64 (i10 + (1 : Int))))] < cFixed.I0M [(D.S s0), (D.I i1), (D.I i2), (D.I i3), (D.I i9), (D.I i10)])) ∧ (
  (((s8.size : Nat) : Int) ≤ i10) →
  cFixed.sig.post [(D.S s0), (D.I i1), (D.I i2), (D.I i3), (D.I i6), (D.I i7), (D.I i9)]))))
theorem cFixed.den : cFixed.vc.den2 (mkEnv cFixed.sig [cRaw.sig] [(cFixed.I0, cFixed.I0M)]) [] = cFixed.Pure := by kernel_rfl
def cNum.vc : VC :=
 (.all .S
 (.all .I
 (.all .I
 (.know (.ssz (.at 0))
 (.know (.has .i64 (.at 1))
 (.know (.has .i64 (.at 2))
 (.post 0 [(.at 0), (.at 1), (.at 2)]
 (.all .N
 (.all .N
 (.pre 1 [(.at 0), (.at 1), (.at 2), (.int 1)]
 (.all .I
 (.all .I
 (.all .I
 (.post 1 [(.at 0), (.at 1), (.at 2), (.int 1), (.at 5), (.at 6), (.at 7)]
 (.know (.has .i64 (.at 5))
 (.know (.has .i64 (.at 6))
 (.know (.has .u64 (.at 7))
 (.all .N
 (.and
  (.imp (.o1 .not (.o2 .eq (.at 6) (.int 0))) true
  (.ret [(.at 0), (.at 1), (.at 2), (.at 5), (.at 6), (.at 7)]))
  (.imp (.o1 .not (.o2 .eq (.at 6) (.int 0))) false
  (.and
   (.imp (.o2 .lt (.at 7) (.int 248)) true
   (.ret [(.at 0), (.at 1), (.at 2), (.at 5), (.at 6), (.at 7)]))
   (.imp (.o2 .lt (.at 7) (.int 248)) false
   (.pre 1 [(.at 0), (.at 5), (.at 6), (.o2 (.sub .i64) (.o1 (.wrap .i64) (.at 7)) (.int 247))]
   (.all .I
   (.all .I
   (.all .I
   (.post 1 [(.at 0), (.at 5), (.at 6), (.o2 (.sub .i64) (.o1 (.wrap .i64) (.at 7)) (.int 247)), (.at 9), (.at 10), (.at 11)]
   (.know (.has .i64 (.at 9))
   (.know (.has .i64 (.at 10))
   (.know (.has .u64 (.at 11))
   (.and
    (.imp (.o2 .eq (.at 10) (.int 0)) true
    (.and
     (.pre 2 [(.at 11)]
     (.all .S
     (.post 2 [(.at 11), (.at 12)]
     (.know (.ssz (.at 12))
     (.obl (.o2 .le (.at 1) (.at 9))
     (.obl (.o2 .le (.int 0) (.at 1))
     (.obl (.o2 .le (.at 9) (.o1 .slen (.at 0)))
     (.and
      (.imp (.o1 .not (.o2 .eqs (.at 12) (.o3 .ssub (.at 0) (.at 1) (.at 9)))) true
      (.and
       (.imp (.o1 .not (.o2 .eq (.int 3) (.int 0))) true
       (.ret [(.at 0), (.at 1), (.at 2), (.at 1), (.int 3), (.int 0)]))
       (.imp (.o1 .not (.o2 .eq (.int 3) (.int 0))) false
       (.ret [(.at 0), (.at 1), (.at 2), (.at 9), (.int 3), (.at 11)]))))
      (.imp (.o1 .not (.o2 .eqs (.at 12) (.o3 .ssub (.at 0) (.at 1) (.at 9)))) false
      (.and
       (.imp (.o1 .not (.o2 .eq (.at 10) (.int 0))) true
       (.ret [(.at 0), (.at 1), (.at 2), (.at 1), (.at 10), (.int 0)]))
       (.imp (.o1 .not (.o2 .eq (.at 10) (.int 0))) false
       (.ret [(.at 0), (.at 1), (.at 2), (.at 9), (.at 10), (.at 11)]))))))))))))
     (.and
      (.and
       (.pre 2 [(.at 11)]
       (.all .S
       (.post 2 [(.at 11), (.at 12)]
       (.know (.ssz (.at 12))
       (.obl (.o2 .le (.at 1) (.at 9))
       (.obl (.o2 .le (.int 0) (.at 1))
       (.obl (.o2 .le (.at 9) (.o1 .slen (.at 0)))
       (.and
        (.imp (.o1 .not (.o2 .eqs (.at 12) (.o3 .ssub (.at 0) (.at 1) (.at 9)))) true
        (.and
         (.imp (.o1 .not (.o2 .eq (.int 3) (.int 0))) true
         (.ret [(.at 0), (.at 1), (.at 2), (.at 1), (.int 3), (.int 0)]))
         (.imp (.o1 .not (.o2 .eq (.int 3) (.int 0))) false
         (.ret [(.at 0), (.at 1), (.at 2), (.at 9), (.int 3), (.at 11)]))))
        (.imp (.o1 .not (.o2 .eqs (.at 12) (.o3 .ssub (.at 0) (.at 1) (.at 9)))) false
        (.and
         (.imp (.o1 .not (.o2 .eq (.at 10) (.int 0))) true
         (.ret [(.at 0), (.at 1), (.at 2), (.at 1), (.at 10), (.int 0)]))
         (.imp (.o1 .not (.o2 .eq (.at 10) (.int 0))) false
         (.ret [(.at 0), (.at 1), (.at 2), (.at 9), (.at 10), (.at 11)]))))))))))))
       (.and
        (.and
         (.pre 2 [(.at 11)]
         (.all .S
         (.post 2 [(.at 11), (.at 12)]
         (.know (.ssz (.at 12))
         (.obl (.o2 .le (.at 1) (.at 9))
         (.obl (.o2 .le (.int 0) (.at 1))
         (.obl (.o2 .le (.at 9) (.o1 .slen (.at 0)))
         (.and
          (.imp (.o1 .not (.o2 .eqs (.at 12) (.o3 .ssub (.at 0) (.at 1) (.at 9)))) true
          (.and
           (.imp (.o1 .not (.o2 .eq (.int 3) (.int 0))) true
           (.ret [(.at 0), (.at 1), (.at 2), (.at 1), (.int 3), (.int 0)]))
           (.imp (.o1 .not (.o2 .eq (.int 3) (.int 0))) false
           (.ret [(.at 0), (.at 1), (.at 2), (.at 9), (.int 3), (.at 11)]))))
          (.imp (.o1 .not (.o2 .eqs (.at 12) (.o3 .ssub (.at 0) (.at 1) (.at 9)))) false
          (.and
           (.imp (.o1 .not (.o2 .eq (.at 10) (.int 0))) true
           (.ret [(.at 0), (.at 1), (.at 2), (.at 1), (.at 10), (.int 0)]))
           (.imp (.o1 .not (.o2 .eq (.at 10) (.int 0))) false
           (.ret [(.at 0), (.at 1), (.at 2), (.at 9), (.at 10), (.at 11)]))))))))))))
         (.obl (.o2 .le (.at 1) (.at 9))
         (.obl (.o2 .le (.int 0) (.at 1))
         (.obl (.o2 .le (.at 9) (.o1 .slen (.at 0)))
         (.pre 2 [(.at 11)]
         (.all .S
         (.post 2 [(.at 11), (.at 12)]
         (.know (.ssz (.at 12))
         (.and
          (.imp (.o1 .not (.o2 .eqs (.at 12) (.o3 .ssub (.at 0) (.at 1) (.at 9)))) true
          (.and
           (.imp (.o1 .not (.o2 .eq (.int 3) (.int 0))) true
           (.ret [(.at 0), (.at 1), (.at 2), (.at 1), (.int 3), (.int 0)]))
           (.imp (.o1 .not (.o2 .eq (.int 3) (.int 0))) false
           (.ret [(.at 0), (.at 1), (.at 2), (.at 9), (.int 3), (.at 11)]))))
          (.imp (.o1 .not (.o2 .eqs (.at 12) (.o3 .ssub (.at 0) (.at 1) (.at 9)))) false
          (.and
           (.imp (.o1 .not (.o2 .eq (.at 10) (.int 0))) true
           (.ret [(.at 0), (.at 1), (.at 2), (.at 1), (.at 10), (.int 0)]))
           (.imp (.o1 .not (.o2 .eq (.at 10) (.int 0))) false
           (.ret [(.at 0), (.at 1), (.at 2), (.at 9), (.at 10), (.at 11)])))))))))))))
        (.and
         (.pre 2 [(.at 11)]
         (.all .S
         (.post 2 [(.at 11), (.at 12)]
         (.know (.ssz (.at 12))
         (.obl (.o2 .le (.at 1) (.at 9))
         (.obl (.o2 .le (.int 0) (.at 1))
         (.obl (.o2 .le (.at 9) (.o1 .slen (.at 0)))
         (.and
          (.imp (.o1 .not (.o2 .eqs (.at 12) (.o3 .ssub (.at 0) (.at 1) (.at 9)))) true
          (.and
           (.imp (.o1 .not (.o2 .eq (.int 3) (.int 0))) true
           (.ret [(.at 0), (.at 1), (.at 2), (.at 1), (.int 3), (.int 0)]))
           (.imp (.o1 .not (.o2 .eq (.int 3) (.int 0))) false
           (.ret [(.at 0), (.at 1), (.at 2), (.at 9), (.int 3), (.at 11)]))))
          (.imp (.o1 .not (.o2 .eqs (.at 12) (.o3 .ssub (.at 0) (.at 1) (.at 9)))) false
          (.and
           (.imp (.o1 .not (.o2 .eq (.at 10) (.int 0))) true
           (.ret [(.at 0), (.at 1), (.at 2), (.at 1), (.at 10), (.int 0)]))
           (.imp (.o1 .not (.o2 .eq (.at 10) (.int 0))) false
           (.ret [(.at 0), (.at 1), (.at 2), (.at 9), (.at 10), (.at 11)]))))))))))))
         (.obl (.o2 .le (.at 1) (.at 9))
         (.obl (.o2 .le (.int 0) (.at 1))
         (.obl (.o2 .le (.at 9) (.o1 .slen (.at 0)))
         (.pre 2 [(.at 11)]
         (.all .S
         (.post 2 [(.at 11), (.at 12)]
         (.know (.ssz (.at 12))
         (.and
          (.imp (.o1 .not (.o2 .eqs (.at 12) (.o3 .ssub (.at 0) (.at 1) (.at 9)))) true
          (.and
           (.imp (.o1 .not (.o2 .eq (.int 3) (.int 0))) true
           (.ret [(.at 0), (.at 1), (.at 2), (.at 1), (.int 3), (.int 0)]))
           (.imp (.o1 .not (.o2 .eq (.int 3) (.int 0))) false
           (.ret [(.at 0), (.at 1), (.at 2), (.at 9), (.int 3), (.at 11)]))))
          (.imp (.o1 .not (.o2 .eqs (.at 12) (.o3 .ssub (.at 0) (.at 1) (.at 9)))) false
          (.and
           (.imp (.o1 .not (.o2 .eq (.at 10) (.int 0))) true
           (.ret [(.at 0), (.at 1), (.at 2), (.at 1), (.at 10), (.int 0)]))
           (.imp (.o1 .not (.o2 .eq (.at 10) (.int 0))) false
           (.ret [(.at 0), (.at 1), (.at 2), (.at 9), (.at 10), (.at 11)])))))))))))))))
      (.and
       (.and
        (.pre 2 [(.at 11)]
        (.all .S
        (.post 2 [(.at 11), (.at 12)]
        (.know (.ssz (.at 12))
        (.obl (.o2 .le (.at 1) (.at 9))
        (.obl (.o2 .le (.int 0) (.at 1))
        (.obl (.o2 .le (.at 9) (.o1 .slen (.at 0)))
        (.and
         (.imp (.o1 .not (.o2 .eqs (.at 12) (.o3 .ssub (.at 0) (.at 1) (.at 9)))) true
         (.and
          (.imp (.o1 .not (.o2 .eq (.int 3) (.int 0))) true
          (.ret [(.at 0), (.at 1), (.at 2), (.at 1), (.int 3), (.int 0)]))
          (.imp (.o1 .not (.o2 .eq (.int 3) (.int 0))) false
          (.ret [(.at 0), (.at 1), (.at 2), (.at 9), (.int 3), (.at 11)]))))
         (.imp (.o1 .not (.o2 .eqs (.at 12) (.o3 .ssub (.at 0) (.at 1) (.at 9)))) false
         (.and
          (.imp (.o1 .not (.o2 .eq (.at 10) (.int 0))) true
          (.ret [(.at 0), (.at 1), (.at 2), (.at 1), (.at 10), (.int 0)]))
          (.imp (.o1 .not (.o2 .eq (.at 10) (.int 0))) false
          (.ret [(.at 0), (.at 1), (.at 2), (.at 9), (.at 10), (.at 11)]))))))))))))
        (.and
         (.and
          (.pre 2 [(.at 11)]
          (.all .S
          (.post 2 [(.at 11), (.at 12)]
          (.know (.ssz (.at 12))
          (.obl (.o2 .le (.at 1) (.at 9))
          (.obl (.o2 .le (.int 0) (.at 1))
          (.obl (.o2 .le (.at 9) (.o1 .slen (.at 0)))
          (.and
           (.imp (.o1 .not (.o2 .eqs (.at 12) (.o3 .ssub (.at 0) (.at 1) (.at 9)))) true
           (.and
            (.imp (.o1 .not (.o2 .eq (.int 3) (.int 0))) true
            (.ret [(.at 0), (.at 1), (.at 2), (.at 1), (.int 3), (.int 0)]))
            (.imp (.o1 .not (.o2 .eq (.int 3) (.int 0))) false
            (.ret [(.at 0), (.at 1), (.at 2), (.at 9), (.int 3), (.at 11)]))))
           (.imp (.o1 .not (.o2 .eqs (.at 12) (.o3 .ssub (.at 0) (.at 1) (.at 9)))) false
           (.and
            (.imp (.o1 .not (.o2 .eq (.at 10) (.int 0))) true
            (.ret [(.at 0), (.at 1), (.at 2), (.at 1), (.at 10), (.int 0)]))
            (.imp (.o1 .not (.o2 .eq (.at 10) (.int 0))) false
            (.ret [(.at 0), (.at 1), (.at 2), (.at 9), (.at 10), (.at 11)]))))))))))))
          (.obl (.o2 .le (.at 1) (.at 9))
          (.obl (.o2 .le (.int 0) (.at 1))
          (.obl (.o2 .le (.at 9) (.o1 .slen (.at 0)))
          (.pre 2 [(.at 11)]
          (.all .S
          (.post 2 [(.at 11), (.at 12)]
          (.know (.ssz (.at 12))
          (.and
           (.imp (.o1 .not (.o2 .eqs (.at 12) (.o3 .ssub (.at 0) (.at 1) (.at 9)))) true
           (.and
            (.imp (.o1 .not (.o2 .eq (.int 3) (.int 0))) true
            (.ret [(.at 0), (.at 1), (.at 2), (.at 1), (.int 3), (.int 0)]))
            (.imp (.o1 .not (.o2 .eq (.int 3) (.int 0))) false
            (.ret [(.at 0), (.at 1), (.at 2), (.at 9), (.int 3), (.at 11)]))))
           (.imp (.o1 .not (.o2 .eqs (.at 12) (.o3 .ssub (.at 0) (.at 1) (.at 9)))) false
           (.and
            (.imp (.o1 .not (.o2 .eq (.at 10) (.int 0))) true
            (.ret [(.at 0), (.at 1), (.at 2), (.at 1), (.at 10), (.int 0)]))
            (.imp (.o1 .not (.o2 .eq (.at 10) (.int 0))) false
            (.ret [(.at 0), (.at 1), (.at 2), (.at 9), (.at 10), (.at 11)])))))))))))))
         (.and
          (.pre 2 [(.at 11)]
          (.all .S
          (.post 2 [(.at 11), (.at 12)]
          (.know (.ssz (.at 12))
          (.obl (.o2 .le (.at 1) (.at 9))
          (.obl (.o2 .le (.int 0) (.at 1))
          (.obl (.o2 .le (.at 9) (.o1 .slen (.at 0)))
          (.and
           (.imp (.o1 .not (.o2 .eqs (.at 12) (.o3 .ssub (.at 0) (.at 1) (.at 9)))) true
           (.and
            (.imp (.o1 .not (.o2 .eq (.int 3) (.int 0))) true
            (.ret [(.at 0), (.at 1), (.at 2), (.at 1), (.int 3), (.int 0)]))
            (.imp (.o1 .not (.o2 .eq (.int 3) (.int 0))) false
            (.ret [(.at 0), (.at 1), (.at 2), (.at 9), (.int 3), (.at 11)]))))
           (.imp (.o1 .not (.o2 .eqs (.at 12) (.o3 .ssub (.at 0) (.at 1) (.at 9)))) false
           (.and
            (.imp (.o1 .not (.o2 .eq (.at 10) (.int 0))) true
            (.ret [(.at 0), (.at 1), (.at 2), (.at 1), (.at 10), (.int 0)]))
            (.imp (.o1 .not (.o2 .eq (.at 10) (.int 0))) false
            (.ret [(.at 0), (.at 1), (.at 2), (.at 9), (.at 10), (.at 11)]))))))))))))
          (.obl (.o2 .le (.at 1) (.at 9))
          (.obl (.o2 .le (.int 0) (.at 1))
          (.obl (.o2 .le (.at 9) (.o1 .slen (.at 0)))
          (.pre 2 [(.at 11)]
          (.all .S
          (.post 2 [(.at 11), (.at 12)]
          (.know (.ssz (.at 12))
          (.and
           (.imp (.o1 .not (.o2 .eqs (.at 12) (.o3 .ssub (.at 0) (.at 1) (.at 9)))) true
           (.and
            (.imp (.o1 .not (.o2 .eq (.int 3) (.int 0))) true
            (.ret [(.at 0), (.at 1), (.at 2), (.at 1), (.int 3), (.int 0)]))
            (.imp (.o1 .not (.o2 .eq (.int 3) (.int 0))) false
            (.ret [(.at 0), (.at 1), (.at 2), (.at 9), (.int 3), (.at 11)]))))
           (.imp (.o1 .not (.o2 .eqs (.at 12) (.o3 .ssub (.at 0) (.at 1) (.at 9)))) false
           (.and
            (.imp (.o1 .not (.o2 .eq (.at 10) (.int 0))) true
            (.ret [(.at 0), (.at 1), (.at 2), (.at 1), (.at 10), (.int 0)]))
            (.imp (.o1 .not (.o2 .eq (.at 10) (.int 0))) false
            (.ret [(.at 0), (.at 1), (.at 2), (.at 9), (.at 10), (.at 11)])))))))))))))))
       (.and
        (.pre 2 [(.at 11)]
        (.all .S
        (.post 2 [(.at 11), (.at 12)]
        (.know (.ssz (.at 12))
        (.obl (.o2 .le (.at 1) (.at 9))
        (.obl (.o2 .le (.int 0) (.at 1))
        (.obl (.o2 .le (.at 9) (.o1 .slen (.at 0)))
        (.and
         (.imp (.o1 .not (.o2 .eqs (.at 12) (.o3 .ssub (.at 0) (.at 1) (.at 9)))) true
         (.and
          (.imp (.o1 .not (.o2 .eq (.int 3) (.int 0))) true
          (.ret [(.at 0), (.at 1), (.at 2), (.at 1), (.int 3), (.int 0)]))
          (.imp (.o1 .not (.o2 .eq (.int 3) (.int 0))) false
          (.ret [(.at 0), (.at 1), (.at 2), (.at 9), (.int 3), (.at 11)]))))
         (.imp (.o1 .not (.o2 .eqs (.at 12) (.o3 .ssub (.at 0) (.at 1) (.at 9)))) false
         (.and
          (.imp (.o1 .not (.o2 .eq (.at 10) (.int 0))) true
          (.ret [(.at 0), (.at 1), (.at 2), (.at 1), (.at 10), (.int 0)]))
          (.imp (.o1 .not (.o2 .eq (.at 10) (.int 0))) false
          (.ret [(.at 0), (.at 1), (.at 2), (.at 9), (.at 10), (.at 11)]))))))))))))
        (.and
         (.and
          (.pre 2 [(.at 11)]
          (.all .S
          (.post 2 [(.at 11), (.at 12)]
          (.know (.ssz (.at 12))
          (.obl (.o2 .le (.at 1) (.at 9))
          (.obl (.o2 .le (.int 0) (.at 1))
          (.obl (.o2 .le (.at 9) (.o1 .slen (.at 0)))
          (.and
           (.imp (.o1 .not (.o2 .eqs (.at 12) (.o3 .ssub (.at 0) (.at 1) (.at 9)))) true
           (.and
            (.imp (.o1 .not (.o2 .eq (.int 3) (.int 0))) true
            (.ret [(.at 0), (.at 1), (.at 2), (.at 1), (.int 3), (.int 0)]))
            (.imp (.o1 .not (.o2 .eq (.int 3) (.int 0))) false
            (.ret [(.at 0), (.at 1), (.at 2), (.at 9), (.int 3), (.at 11)]))))
           (.imp (.o1 .not (.o2 .eqs (.at 12) (.o3 .ssub (.at 0) (.at 1) (.at 9)))) false
           (.and
            (.imp (.o1 .not (.o2 .eq (.at 10) (.int 0))) true
            (.ret [(.at 0), (.at 1), (.at 2), (.at 1), (.at 10), (.int 0)]))
            (.imp (.o1 .not (.o2 .eq (.at 10) (.int 0))) false
            (.ret [(.at 0), (.at 1), (.at 2), (.at 9), (.at 10), (.at 11)]))))))))))))
          (.obl (.o2 .le (.at 1) (.at 9))
          (.obl (.o2 .le (.int 0) (.at 1))
          (.obl (.o2 .le (.at 9) (.o1 .slen (.at 0)))
          (.pre 2 [(.at 11)]
          (.all .S
          (.post 2 [(.at 11), (.at 12)]
          (.know (.ssz (.at 12))
          (.and
           (.imp (.o1 .not (.o2 .eqs (.at 12) (.o3 .ssub (.at 0) (.at 1) (.at 9)))) true
           (.and
            (.imp (.o1 .not (.o2 .eq (.int 3) (.int 0))) true
            (.ret [(.at 0), (.at 1), (.at 2), (.at 1), (.int 3), (.int 0)]))
            (.imp (.o1 .not (.o2 .eq (.int 3) (.int 0))) false
            (.ret [(.at 0), (.at 1), (.at 2), (.at 9), (.int 3), (.at 11)]))))
           (.imp (.o1 .not (.o2 .eqs (.at 12) (.o3 .ssub (.at 0) (.at 1) (.at 9)))) false
           (.and
            (.imp (.o1 .not (.o2 .eq (.at 10) (.int 0))) true
            (.ret [(.at 0), (.at 1), (.at 2), (.at 1), (.at 10), (.int 0)]))
            (.imp (.o1 .not (.o2 .eq (.at 10) (.int 0))) false
            (.ret [(.at 0), (.at 1), (.at 2), (.at 9), (.at 10), (.at 11)])))))))))))))
         (.and
          (.pre 2 [(.at 11)]
          (.all .S
          (.post 2 [(.at 11), (.at 12)]
          (.know (.ssz (.at 12))
          (.obl (.o2 .le (.at 1) (.at 9))
          (.obl (.o2 .le (.int 0) (.at 1))
          (.obl (.o2 .le (.at 9) (.o1 .slen (.at 0)))
          (.and
           (.imp (.o1 .not (.o2 .eqs (.at 12) (.o3 .ssub (.at 0) (.at 1) (.at 9)))) true
           (.and
            (.imp (.o1 .not (.o2 .eq (.int 3) (.int 0))) true
            (.ret [(.at 0), (.at 1), (.at 2), (.at 1), (.int 3), (.int 0)]))
            (.imp (.o1 .not (.o2 .eq (.int 3) (.int 0))) false
            (.ret [(.at 0), (.at 1), (.at 2), (.at 9), (.int 3), (.at 11)]))))
           (.imp (.o1 .not (.o2 .eqs (.at 12) (.o3 .ssub (.at 0) (.at 1) (.at 9)))) false
           (.and
            (.imp (.o1 .not (.o2 .eq (.at 10) (.int 0))) true
            (.ret [(.at 0), (.at 1), (.at 2), (.at 1), (.at 10), (.int 0)]))
            (.imp (.o1 .not (.o2 .eq (.at 10) (.int 0))) false
            (.ret [(.at 0), (.at 1), (.at 2), (.at 9), (.at 10), (.at 11)]))))))))))))
          (.obl (.o2 .le (.at 1) (.at 9))
          (.obl (.o2 .le (.int 0) (.at 1))
          (.obl (.o2 .le (.at 9) (.o1 .slen (.at 0)))
          (.pre 2 [(.at 11)]
          (.all .S
          (.post 2 [(.at 11), (.at 12)]
          (.know (.ssz (.at 12))
          (.and
           (.imp (.o1 .not (.o2 .eqs (.at 12) (.o3 .ssub (.at 0) (.at 1) (.at 9)))) true
           (.and
            (.imp (.o1 .not (.o2 .eq (.int 3) (.int 0))) true
            (.ret [(.at 0), (.at 1), (.at 2), (.at 1), (.int 3), (.int 0)]))
            (.imp (.o1 .not (.o2 .eq (.int 3) (.int 0))) false
            (.ret [(.at 0), (.at 1), (.at 2), (.at 9), (.int 3), (.at 11)]))))
           (.imp (.o1 .not (.o2 .eqs (.at 12) (.o3 .ssub (.at 0) (.at 1) (.at 9)))) false
           (.and
            (.imp (.o1 .not (.o2 .eq (.at 10) (.int 0))) true
            (.ret [(.at 0), (.at 1), (.at 2), (.at 1), (.at 10), (.int 0)]))
            (.imp (.o1 .not (.o2 .eq (.at 10) (.int 0))) false
            (.ret [(.at 0), (.at 1), (.at 2), (.at 9), (.at 10), (.at 11)])))))))))))))))))))
    (.imp (.o2 .eq (.at 10) (.int 0)) false
    (.and
     (.imp (.o1 .not (.o2 .eq (.at 10) (.int 0))) true
     (.ret [(.at 0), (.at 1), (.at 2), (.at 1), (.at 10), (.int 0)]))
     (.imp (.o1 .not (.o2 .eq (.at 10) (.int 0))) false
     (.ret [(.at 0), (.at 1), (.at 2), (.at 9), (.at 10), (.at 11)])))))))))))))))))))))))))))))))))))
def cNum.Pure : Prop :=
 ∀ (s0 : ByteArray),
 ∀ (i1 : Int),
 ∀ (i2 : Int),
 ((s0.size : Int) ≤ 9223372036854775807) →
 (-9223372036854775808 ≤ i1 ∧ i1 < 9223372036854775808) →
 (-9223372036854775808 ≤ i2 ∧ i2 < 9223372036854775808) →
 cNum.sig.pre [(D.S s0), (D.I i1), (D.I i2)] →
 ∀ (n3 : Nat),
 ∀ (n4 : Nat),
 cFixed.sig.pre [(D.S s0), (D.I i1), (D.I i2), (D.I (1 : Int))] ∧ (
 ∀ (i5 : Int),
 ∀ (i6 : Int),
 ∀ (i7 : Int),
 cFixed.sig.post [(D.S s0), (D.I i1), (D.I i2), (D.I (1 : Int)), (D.I i5), (D.I i6), (D.I i7)] →
 (-9223372036854775808 ≤ i5 ∧ i5 < 9223372036854775808) →
 (-9223372036854775808 ≤ i6 ∧ i6 < 9223372036854775808) →
 (0 ≤ i7 ∧ i7 < 18446744073709551616) →
 ∀ (n8 : Nat),
 ((
  (i6 ≠ (0 : Int)) →
  cNum.sig.post [(D.S s0), (D.I i1), (D.I i2), (D.I i5), (D.I i6), (D.I i7)]) ∧ (
  (i6 = (0 : Int)) →
  ((
   (i7 < (248 : Int)) →
   cNum.sig.post [(D.S s0), (D.I i1), (D.I i2), (D.I i5), (D.I i6), (D.I i7)]) ∧ (
   ((248 : Int) ≤ i7) →
   cFixed.sig.pre [(D.S s0), (D.I i5), (D.I i6), (D.I (IntKind.wrap .i64 ((IntKind.wrap .i64 i7) - (247 : Int))))] ∧ (
   ∀ (i9 : Int),
   ∀ (i10 : Int),
   ∀ (i11 : Int),
   cFixed.sig.post [(D.S s0), (D.I i5), (D.I i6), (D.I (IntKind.wrap .i64 ((IntKind.wrap .i64 i7) - (247 : Int)))), (D.I i9), (D.I i10), (D.I i11)] →
   (-9223372036854775808 ≤ i9 ∧ i9 < 9223372036854775808) →
   (-9223372036854775808 ≤ i10 ∧ i10 < 9223372036854775808) →
   (0 ≤ i11 ∧ i11 < 18446744073709551616) →
   ((
    (i10 = (0 : Int)) →
    ((
     RNum.sig.pre [(D.I i11)] ∧ (
     ∀ (s12 : ByteArray),
     RNum.sig.post [(D.I i11), (D.S s12)] →
     ((s12.size : Int) ≤ 9223372036854775807) →
     (i1 ≤ i9) ∧ ((i1 ≤ i9) →
     ((0 : Int) ≤ i1) ∧ (((0 : Int) ≤ i1) →
     (i9 ≤ ((s0.size : Nat) : Int)) ∧ ((i9 ≤ ((s0.size : Nat) : Int)) →
     ((
      (s12 ≠ (s0.extract i1.toNat i9.toNat)) →
      ((
       ((3 : Int) ≠ (0 : Int)) →
       cNum.sig.post [(D.S s0), (D.I i1), (D.I i2), (D.I i1), (D.I (3 : Int)), (D.I (0 : Int))]) ∧ (
       ((3 : Int) = (0 : Int)) →
       cNum.sig.post [(D.S s0), (D.I i1), (D.I i2), (D.I i9), (D.I (3 : Int)), (D.I i11)]))) ∧ (
      (s12 = (s0.extract i1.toNat i9.toNat)) →
      ((
       (i10 ≠ (0 : Int)) →
       cNum.sig.post [(D.S s0), (D.I i1), (D.I i2), (D.I i1), (D.I i10), (D.I (0 : Int))]) ∧ (
       (i10 = (0 : Int)) →
       cNum.sig.post [(D.S s0), (D.I i1), (D.I i2), (D.I i9), (D.I i10), (D.I i11)]))))))))) ∧ (
     ((
      ((
       RNum.sig.pre [(D.I i11)] ∧ (
       ∀ (s12 : ByteArray),
       RNum.sig.post [(D.I i11), (D.S s12)] →
       ((s12.size : Int) ≤ 9223372036854775807) →
       (i1 ≤ i9) ∧ ((i1 ≤ i9) →
       ((0 : Int) ≤ i1) ∧ (((0 : Int) ≤ i1) →
       (i9 ≤ ((s0.size : Nat) : Int)) ∧ ((i9 ≤ ((s0.size : Nat) : Int)) →
       ((
        (s12 ≠ (s0.extract i1.toNat i9.toNat)) →
        ((
         ((3 : Int) ≠ (0 : Int)) →
         cNum.sig.post [(D.S s0), (D.I i1), (D.I i2), (D.I i1), (D.I (3 : Int)), (D.I (0 : Int))]) ∧ (
         ((3 : Int) = (0 : Int)) →
         cNum.sig.post [(D.S s0), (D.I i1), (D.I i2), (D.I i9), (D.I (3 : Int)), (D.I i11)]))) ∧ (
        (s12 = (s0.extract i1.toNat i9.toNat)) →
        ((
         (i10 ≠ (0 : Int)) →
         cNum.sig.post [(D.S s0), (D.I i1), (D.I i2), (D.I i1), (D.I i10), (D.I (0 : Int))]) ∧ (
         (i10 = (0 : Int)) →
         cNum.sig.post [(D.S s0), (D.I i1), (D.I i2), (D.I i9), (D.I i10), (D.I i11)]))))))))) ∧ (
       ((
        ((
         RNum.sig.pre [(D.I i11)] ∧ (
         ∀ (s12 : ByteArray),
         RNum.sig.post [(D.I i11), (D.S s12)] →
         ((s12.size : Int) ≤ 9223372036854775807) →
         (i1 ≤ i9) ∧ ((i1 ≤ i9) →
         ((0 : Int) ≤ i1) ∧ (((0 : Int) ≤ i1) →
         (i9 ≤ ((s0.size : Nat) : Int)) ∧ ((i9 ≤ ((s0.size : Nat) : Int)) →
         ((
          (s12 ≠ (s0.extract i1.toNat i9.toNat)) →
          ((
           ((3 : Int) ≠ (0 : Int)) →
           cNum.sig.post [(D.S s0), (D.I i1), (D.I i2), (D.I i1), (D.I (3 : Int)), (D.I (0 : Int))]) ∧ (
           ((3 : Int) = (0 : Int)) →
           cNum.sig.post [(D.S s0), (D.I i1), (D.I i2), (D.I i9), (D.I (3 : Int)), (D.I i11)]))) ∧ (
          (s12 = (s0.extract i1.toNat i9.toNat)) →
          ((
           (i10 ≠ (0 : Int)) →
           cNum.sig.post [(D.S s0), (D.I i1), (D.I i2), (D.I i1), (D.I i10), (D.I (0 : Int))]) ∧ (
           (i10 = (0 : Int)) →
           cNum.sig.post [(D.S s0), (D.I i1), (D.I i2), (D.I i9), (D.I i10), (D.I i11)]))))))))) ∧ (
         (i1 ≤ i9) ∧ ((i1 ≤ i9) →
         ((0 : Int) ≤ i1) ∧ (((0 : Int) ≤ i1) →
         (i9 ≤ ((s0.size : Nat) : Int)) ∧ ((i9 ≤ ((s0.size : Nat) : Int)) →
         RNum.sig.pre [(D.I i11)] ∧ (
         ∀ (s12 : ByteArray),
         RNum.sig.post [(D.I i11), (D.S s12)] →
         ((s12.size : Int) ≤ 9223372036854775807) →
         ((
          (s12 ≠ (s0.extract i1.toNat i9.toNat)) →
          ((
           ((3 : Int) ≠ (0 : Int)) →
           cNum.sig.post [(D.S s0), (D.I i1), (D.I i2), (D.I i1), (D.I (3 : Int)), (D.I (0 : Int))]) ∧ (
           ((3 : Int) = (0 : Int)) →
           cNum.sig.post [(D.S s0), (D.I i1), (D.I i2), (D.I i9), (D.I (3 : Int)), (D.I i11)]))) ∧ (
          (s12 = (s0.extract i1.toNat i9.toNat)) →
          ((
           (i10 ≠ (0 : Int)) →
           cNum.sig.post [(D.S s0), (D.I i1), (D.I i2), (D.I i1), (D.I i10), (D.I (0 : Int))]) ∧ (
           (i10 = (0 : Int)) →
           cNum.sig.post [(D.S s0), (D.I i1), (D.I i2), (D.I i9), (D.I i10), (D.I i11)]))))))))))) ∧ (
        ((
         RNum.sig.pre [(D.I i11)] ∧ (
         ∀ (s12 : ByteArray),
         RNum.sig.post [(D.I i11), (D.S s12)] →
         ((s12.size : Int) ≤ 9223372036854775807) →
         (i1 ≤ i9) ∧ ((i1 ≤ i9) →
         ((0 : Int) ≤ i1) ∧ (((0 : Int) ≤ i1) →
         (i9 ≤ ((s0.size : Nat) : Int)) ∧ ((i9 ≤ ((s0.size : Nat) : Int)) →
         ((
          (s12 ≠ (s0.extract i1.toNat i9.toNat)) →
          ((
           ((3 : Int) ≠ (0 : Int)) →
           cNum.sig.post [(D.S s0), (D.I i1), (D.I i2), (D.I i1), (D.I (3 : Int)), (D.I (0 : Int))]) ∧ (
           ((3 : Int) = (0 : Int)) →
           cNum.sig.post [(D.S s0), (D.I i1), (D.I i2), (D.I i9), (D.I (3 : Int)), (D.I i11)]))) ∧ (
          (s12 = (s0.extract i1.toNat i9.toNat)) →
          ((
           (i10 ≠ (0 : Int)) →
           cNum.sig.post [(D.S s0), (D.I i1), (D.I i2), (D.I i1), (D.I i10), (D.I (0 : Int))]) ∧ (
           (i10 = (0 : Int)) →
           cNum.sig.post [(D.S s0), (D.I i1), (D.I i2), (D.I i9), (D.I i10), (D.I i11)]))))))))) ∧ (
         (i1 ≤ i9) ∧ ((i1 ≤ i9) →
         ((0 : Int) ≤ i1) ∧ (((0 : Int) ≤ i1) →
         (i9 ≤ ((s0.size : Nat) : Int)) ∧ ((i9 ≤ ((s0.size : Nat) : Int)) →
         RNum.sig.pre [(D.I i11)] ∧ (
         ∀ (s12 : ByteArray),
         RNum.sig.post [(D.I i11), (D.S s12)] →
         ((s12.size : Int) ≤ 9223372036854775807) →
         ((
          (s12 ≠ (s0.extract i1.toNat i9.toNat)) →
          ((
           ((3 : Int) ≠ (0 : Int)) →
           cNum.sig.post [(D.S s0), (D.I i1), (D.I i2), (D.I i1), (D.I (3 : Int)), (D.I (0 : Int))]) ∧ (
           ((3 : Int) = (0 : Int)) →
           cNum.sig.post [(D.S s0), (D.I i1), (D.I i2), (D.I i9), (D.I (3 : Int)), (D.I i11)]))) ∧ (
          (s12 = (s0.extract i1.toNat i9.toNat)) →
          ((
           (i10 ≠ (0 : Int)) →
           cNum.sig.post [(D.S s0), (D.I i1), (D.I i2), (D.I i1), (D.I i10), (D.I (0 : Int))]) ∧ (
           (i10 = (0 : Int)) →
           cNum.sig.post [(D.S s0), (D.I i1), (D.I i2), (D.I i9), (D.I i10), (D.I i11)]))))))))))))))) ∧ (
      ((
       ((
        RNum.sig.pre [(D.I i11)] ∧ (
        ∀ (s12 : ByteArray),
        RNum.sig.post [(D.I i11), (D.S s12)] →
        ((s12.size : Int) ≤ 9223372036854775807) →
        (i1 ≤ i9) ∧ ((i1 ≤ i9) →
        ((0 : Int) ≤ i1) ∧ (((0 : Int) ≤ i1) →
        (i9 ≤ ((s0.size : Nat) : Int)) ∧ ((i9 ≤ ((s0.size : Nat) : Int)) →
        ((
         (s12 ≠ (s0.extract i1.toNat i9.toNat)) →
         ((
          ((3 : Int) ≠ (0 : Int)) →
          cNum.sig.post [(D.S s0), (D.I i1), (D.I i2), (D.I i1), (D.I (3 : Int)), (D.I (0 : Int))]) ∧ (
          ((3 : Int) = (0 : Int)) →
          cNum.sig.post [(D.S s0), (D.I i1), (D.I i2), (D.I i9), (D.I (3 : Int)), (D.I i11)]))) ∧ (
         (s12 = (s0.extract i1.toNat i9.toNat)) →
         ((
          (i10 ≠ (0 : Int)) →
          cNum.sig.post [(D.S s0), (D.I i1), (D.I i2), (D.I i1), (D.I i10), (D.I (0 : Int))]) ∧ (
          (i10 = (0 : Int)) →
          cNum.sig.post [(D.S s0), (D.I i1), (D.I i2), (D.I i9), (D.I i10), (D.I i11)]))))))))) ∧ (
        ((
         ((
          RNum.sig.pre [(D.I i11)] ∧ (
          ∀ (s12 : ByteArray),
          RNum.sig.post [(D.I i11), (D.S s12)] →
          ((s12.size : Int) ≤ 9223372036854775807) →
          (i1 ≤ i9) ∧ ((i1 ≤ i9) →
          ((0 : Int) ≤ i1) ∧ (((0 : Int) ≤ i1) →
          (i9 ≤ ((s0.size : Nat) : Int)) ∧ ((i9 ≤ ((s0.size : Nat) : Int)) →
          ((
           (s12 ≠ (s0.extract i1.toNat i9.toNat)) →
           ((
            ((3 : Int) ≠ (0 : Int)) →
            cNum.sig.post [(D.S s0), (D.I i1), (D.I i2), (D.I i1), (D.I (3 : Int)), (D.I (0 : Int))]) ∧ (
            ((3 : Int) = (0 : Int)) →
            cNum.sig.post [(D.S s0), (D.I i1), (D.I i2), (D.I i9), (D.I (3 : Int)), (D.I i11)]))) ∧ (
           (s12 = (s0.extract i1.toNat i9.toNat)) →
           ((
            (i10 ≠ (0 : Int)) →
            cNum.sig.post [(D.S s0), (D.I i1), (D.I i2), (D.I i1), (D.I i10), (D.I (0 : Int))]) ∧ (
            (i10 = (0 : Int)) →
            cNum.sig.post [(D.S s0), (D.I i1), (D.I i2), (D.I i9), (D.I i10), (D.I i11)]))))))))) ∧ (
          (i1 ≤ i9) ∧ ((i1 ≤ i9) →
          ((0 : Int) ≤ i1) ∧ (((0 : Int) ≤ i1) →
          (i9 ≤ ((s0.size : Nat) : Int)) ∧ ((i9 ≤ ((s0.size : Nat) : Int)) →
          RNum.sig.pre [(D.I i11)] ∧ (
          ∀ (s12 : ByteArray),
          RNum.sig.post [(D.I i11), (D.S s12)] →
          ((s12.size : Int) ≤ 9223372036854775807) →
          ((
           (s12 ≠ (s0.extract i1.toNat i9.toNat)) →
           ((
            ((3 : Int) ≠ (0 : Int)) →
            cNum.sig.post [(D.S s0), (D.I i1), (D.I i2), (D.I i1), (D.I (3 : Int)), (D.I (0 : Int))]) ∧ (
            ((3 : Int) = (0 : Int)) →
            cNum.sig.post [(D.S s0), (D.I i1), (D.I i2), (D.I i9), (D.I (3 : Int)), (D.I i11)]))) ∧ (
           (s12 = (s0.extract i1.toNat i9.toNat)) →
           ((
            (i10 ≠ (0 : Int)) →
            cNum.sig.post [(D.S s0), (D.I i1), (D.I i2), (D.I i1), (D.I i10), (D.I (0 : Int))]) ∧ (
            (i10 = (0 : Int)) →
            cNum.sig.post [(D.S s0), (D.I i1), (D.I i2), (D.I i9), (D.I i10), (D.I i11)]))))))))))) ∧ (
         ((
          RNum.sig.pre [(D.I i11)] ∧ (
          ∀ (s12 : ByteArray),
          RNum.sig.post [(D.I i11), (D.S s12)] →
          ((s12.size : Int) ≤ 9223372036854775807) →
          (i1 ≤ i9) ∧ ((i1 ≤ i9) →
          ((0 : Int) ≤ i1) ∧ (((0 : Int) ≤ i1) →
          (i9 ≤ ((s0.size : Nat) : Int)) ∧ ((i9 ≤ ((s0.size : Nat) : Int)) →
          ((
           (s12 ≠ (s0.extract i1.toNat i9.toNat)) →
           ((
            ((3 : Int) ≠ (0 : Int)) →
            cNum.sig.post [(D.S s0), (D.I i1), (D.I i2), (D.I i1), (D.I (3 : Int)), (D.I (0 : Int))]) ∧ (
            ((3 : Int) = (0 : Int)) →
            cNum.sig.post [(D.S s0), (D.I i1), (D.I i2), (D.I i9), (D.I (3 : Int)), (D.I i11)]))) ∧ (
           (s12 = (s0.extract i1.toNat i9.toNat)) →
           ((
            (i10 ≠ (0 : Int)) →
            cNum.sig.post [(D.S s0), (D.I i1), (D.I i2), (D.I i1), (D.I i10), (D.I (0 : Int))]) ∧ (
            (i10 = (0 : Int)) →
            cNum.sig.post [(D.S s0), (D.I i1), (D.I i2), (D.I i9), (D.I i10), (D.I i11)]))))))))) ∧ (
          (i1 ≤ i9) ∧ ((i1 ≤ i9) →
          ((0 : Int) ≤ i1) ∧ (((0 : Int) ≤ i1) →
          (i9 ≤ ((s0.size : Nat) : Int)) ∧ ((i9 ≤ ((s0.size : Nat) : Int)) →
          RNum.sig.pre [(D.I i11)] ∧ (
          ∀ (s12 : ByteArray),
          RNum.sig.post [(D.I i11), (D.S s12)] →
          ((s12.size : Int) ≤ 9223372036854775807) →
          ((
           (s12 ≠ (s0.extract i1.toNat i9.toNat)) →
           ((
            ((3 : Int) ≠ (0 : Int)) →
            cNum.sig.post [(D.S s0), (D.I i1), (D.I i2), (D.I i1), (D.I (3 : Int)), (D.I (0 : Int))]) ∧ (
            ((3 : Int) = (0 : Int)) →
            cNum.sig.post [(D.S s0), (D.I i1), (D.I i2), (D.I i9), (D.I (3 : Int)), (D.I i11)]))) ∧ (
           (s12 = (s0.extract i1.toNat i9.toNat)) →
           ((
            (i10 ≠ (0 : Int)) →
            cNum.sig.post [(D.S s0), (D.I i1), (D.I i2), (D.I i1), (D.I i10), (D.I (0 : Int))]) ∧ (
            (i10 = (0 : Int)) →
            cNum.sig.post [(D.S s0), (D.I i1), (D.I i2), (D.I i9), (D.I i10), (D.I i11)]))))))))))))))) ∧ (
       ((
        RNum.sig.pre [(D.I i11)] ∧ (
        ∀ (s12 : ByteArray),
        RNum.sig.post [(D.I i11), (D.S s12)] →
        ((s12.size : Int) ≤ 9223372036854775807) →
        (i1 ≤ i9) ∧ ((i1 ≤ i9) →
        ((0 : Int) ≤ i1) ∧ (((0 : Int) ≤ i1) →
        (i9 ≤ ((s0.size : Nat) : Int)) ∧ ((i9 ≤ ((s0.size : Nat) : Int)) →
        ((
         (s12 ≠ (s0.extract i1.toNat i9.toNat)) →
         ((
          ((3 : Int) ≠ (0 : Int)) →
          cNum.sig.post [(D.S s0), (D.I i1), (D.I i2), (D.I i1), (D.I (3 : Int)), (D.I (0 : Int))]) ∧ (
          ((3 : Int) = (0 : Int)) →
          cNum.sig.post [(D.S s0), (D.I i1), (D.I i2), (D.I i9), (D.I (3 : Int)), (D.I i11)]))) ∧ (
         (s12 = (s0.extract i1.toNat i9.toNat)) →
         ((
          (i10 ≠ (0 : Int)) →
          cNum.sig.post [(D.S s0), (D.I i1), (D.I i2), (D.I i1), (D.I i10), (D.I (0 : Int))]) ∧ (
          (i10 = (0 : Int)) →
          cNum.sig.post [(D.S s0), (D.I i1), (D.I i2), (D.I i9), (D.I i10), (D.I i11)]))))))))) ∧ (
        ((
         ((
          RNum.sig.pre [(D.I i11)] ∧ (
          ∀ (s12 : ByteArray),
          RNum.sig.post [(D.I i11), (D.S s12)] →
          ((s12.size : Int) ≤ 9223372036854775807) →
          (i1 ≤ i9) ∧ ((i1 ≤ i9) →
          ((0 : Int) ≤ i1) ∧ (((0 : Int) ≤ i1) →
          (i9 ≤ ((s0.size : Nat) : Int)) ∧ ((i9 ≤ ((s0.size : Nat) : Int)) →
          ((
           (s12 ≠ (s0.extract i1.toNat i9.toNat)) →
           ((
            ((3 : Int) ≠ (0 : Int)) →
            cNum.sig.post [(D.S s0), (D.I i1), (D.I i2), (D.I i1), (D.I (3 : Int)), (D.I (0 : Int))]) ∧ (
            ((3 : Int) = (0 : Int)) →
            cNum.sig.post [(D.S s0), (D.I i1), (D.I i2), (D.I i9), (D.I (3 : Int)), (D.I i11)]))) ∧ (
           (s12 = (s0.extract i1.toNat i9.toNat)) →
           ((
            (i10 ≠ (0 : Int)) →
            cNum.sig.post [(D.S s0), (D.I i1), (D.I i2), (D.I i1), (D.I i10), (D.I (0 : Int))]) ∧ (
            (i10 = (0 : Int)) →
            cNum.sig.post [(D.S s0), (D.I i1), (D.I i2), (D.I i9), (D.I i10), (D.I i11)]))))))))) ∧ (
          (i1 ≤ i9) ∧ ((i1 ≤ i9) →
          ((0 : Int) ≤ i1) ∧ (((0 : Int) ≤ i1) →
          (i9 ≤ ((s0.size : Nat) : Int)) ∧ ((i9 ≤ ((s0.size : Nat) : Int)) →
          RNum.sig.pre [(D.I i11)] ∧ (
          ∀ (s12 : ByteArray),
          RNum.sig.post [(D.I i11), (D.S s12)] →
          ((s12.size : Int) ≤ 9223372036854775807) →
          ((
           (s12 ≠ (s0.extract i1.toNat i9.toNat)) →
           ((
            ((3 : Int) ≠ (0 : Int)) →
            cNum.sig.post [(D.S s0), (D.I i1), (D.I i2), (D.I i1), (D.I (3 : Int)), (D.I (0 : Int))]) ∧ (
            ((3 : Int) = (0 : Int)) →
            cNum.sig.post [(D.S s0), (D.I i1), (D.I i2), (D.I i9), (D.I (3 : Int)), (D.I i11)]))) ∧ (
           (s12 = (s0.extract i1.toNat i9.toNat)) →
           ((
            (i10 ≠ (0 : Int)) →
            cNum.sig.post [(D.S s0), (D.I i1), (D.I i2), (D.I i1), (D.I i10), (D.I (0 : Int))]) ∧ (
            (i10 = (0 : Int)) →
            cNum.sig.post [(D.S s0), (D.I i1), (D.I i2), (D.I i9), (D.I i10), (D.I i11)]))))))))))) ∧ (
         ((
          RNum.sig.pre [(D.I i11)] ∧ (
          ∀ (s12 : ByteArray),
          RNum.sig.post [(D.I i11), (D.S s12)] →
          ((s12.size : Int) ≤ 9223372036854775807) →
          (i1 ≤ i9) ∧ ((i1 ≤ i9) →
          ((0 : Int) ≤ i1) ∧ (((0 : Int) ≤ i1) →
          (i9 ≤ ((s0.size : Nat) : Int)) ∧ ((i9 ≤ ((s0.size : Nat) : Int)) →
          ((
           (s12 ≠ (s0.extract i1.toNat i9.toNat)) →
           ((
            ((3 : Int) ≠ (0 : Int)) →
            cNum.sig.post [(D.S s0), (D.I i1), (D.I i2), (D.I i1), (D.I (3 : Int)), (D.I (0 : Int))]) ∧ (
            ((3 : Int) = (0 : Int)) →
            cNum.sig.post [(D.S s0), (D.I i1), (D.I i2), (D.I i9), (D.I (3 : Int)), (D.I i11)]))) ∧ (
           (s12 = (s0.extract i1.toNat i9.toNat)) →
           ((
            (i10 ≠ (0 : Int)) →
            cNum.sig.post [(D.S s0), (D.I i1), (D.I i2), (D.I i1), (D.I i10), (D.I (0 : Int))]) ∧ (
            (i10 = (0 : Int)) →
            cNum.sig.post [(D.S s0), (D.I i1), (D.I i2), (D.I i9), (D.I i10), (D.I i11)]))))))))) ∧ (
          (i1 ≤ i9) ∧ ((i1 ≤ i9) →
          ((0 : Int) ≤ i1) ∧ (((0 : Int) ≤ i1) →
          (i9 ≤ ((s0.size : Nat) : Int)) ∧ ((i9 ≤ ((s0.size : Nat) : Int)) →
          RNum.sig.pre [(D.I i11)] ∧ (
          ∀ (s12 : ByteArray),
          RNum.sig.post [(D.I i11), (D.S s12)] →
          ((s12.size : Int) ≤ 9223372036854775807) →
          ((
           (s12 ≠ (s0.extract i1.toNat i9.toNat)) →
           ((
            ((3 : Int) ≠ (0 : Int)) →
            cNum.sig.post [(D.S s0), (D.I i1), (D.I i2), (D.I i1), (D.I (3 : Int)), (D.I (0 : Int))]) ∧ (
            ((3 : Int) = (0 : Int)) →
            cNum.sig.post [(D.S s0), (D.I i1), (D.I i2), (D.I i9), (D.I (3 : Int)), (D.I i11)]))) ∧ (
           (s12 = (s0.extract i1.toNat i9.toNat)) →
           ((
            (i10 ≠ (0 : Int)) →
            cNum.sig.post [(D.S s0), (D.I i1), (D.I i2), (D.I i1), (D.I i10), (D.I (0 : Int))]) ∧ (
            (i10 = (0 : Int)) →
            cNum.sig.post [(D.S s0), (D.I i1), (D.I i2), (D.I i9), (D.I i10), (D.I i11)]))))))))))))))))))))) ∧ (
    (i10 ≠ (0 : Int)) →
    ((
     (i10 ≠ (0 : Int)) →
     cNum.sig.post [(D.S s0), (D.I i1), (D.I i2), (D.I i1), (D.I i10), (D.I (0 : Int))]) ∧ (
     (i10 = (0 : Int)) →
     cNum.sig.post [(D.S s0), (D.I i1), (D.I i2), (D.I i9), (D.I i10), (D.I i11)]))))))))))
theorem cNum.den : cNum.vc.den2 (mkEnv cNum.sig [cFixed.sig, RNum.sig] []) [] = cNum.Pure := by kernel_rfl
def cText.vc : VC :=
 (.all .S
 (.all .I
 (.all .I
 (.all .I
 (.know (.ssz (.at 0))
 (.know (.has .i64 (.at 1))
 (.know (.has .i64 (.at 2))
 (.know (.has .i64 (.at 3))
 (.post 0 [(.at 0), (.at 1), (.at 2), (.at 3)]
 (.all .N
 (.all .N
 (.pre 1 [(.at 0), (.at 1), (.at 2)]
 (.all .I
 (.all .I
 (.all .I
 (.post 1 [(.at 0), (.at 1), (.at 2), (.at 6), (.at 7), (.at 8)]
 (.know (.has .i64 (.at 6))
 (.know (.has .i64 (.at 7))
 (.know (.has .u64 (.at 8))
 (.all .N
 (.and
  (.imp (.o2 .eq (.at 7) (.int 0)) true
  (.and
   (.imp (.o2 .lt (.at 3) (.int 0)) true
   (.and
    (.imp (.o2 .lt (.int 0) (.at 8)) true
    (.and
     (.imp (.o2 .eq (.int 12) (.int 0)) true
     (.and
      (.imp (.o2 .lt (.o1 (.wrap .u64) (.o2 (.sub .i64) (.o1 .slen (.at 0)) (.at 6))) (.at 8)) true
      (.and
       (.imp (.o1 .not (.o2 .eq (.int 2) (.int 0))) true
       (.ret [(.at 0), (.at 1), (.at 2), (.at 3), (.at 1), (.int 2), (.str ⟨#[]⟩)]))
       (.imp (.o1 .not (.o2 .eq (.int 2) (.int 0))) false
       (.pre 2 [(.at 0), (.at 6), (.int 2), (.o1 (.wrap .i64) (.at 8))]
       (.all .I
       (.all .I
       (.all .S
       (.post 2 [(.at 0), (.at 6), (.int 2), (.o1 (.wrap .i64) (.at 8)), (.at 10), (.at 11), (.at 12)]
       (.know (.has .i64 (.at 10))
       (.know (.has .i64 (.at 11))
       (.know (.ssz (.at 12))
       (.ret [(.at 0), (.at 1), (.at 2), (.at 3), (.at 10), (.at 11), (.at 12)]))))))))))))
      (.imp (.o2 .lt (.o1 (.wrap .u64) (.o2 (.sub .i64) (.o1 .slen (.at 0)) (.at 6))) (.at 8)) false
      (.and
       (.imp (.o1 .not (.o2 .eq (.int 12) (.int 0))) true
       (.ret [(.at 0), (.at 1), (.at 2), (.at 3), (.at 1), (.int 12), (.str ⟨#[]⟩)]))
       (.imp (.o1 .not (.o2 .eq (.int 12) (.int 0))) false
       (.pre 2 [(.at 0), (.at 6), (.int 12), (.o1 (.wrap .i64) (.at 8))]
       (.all .I
       (.all .I
       (.all .S
       (.post 2 [(.at 0), (.at 6), (.int 12), (.o1 (.wrap .i64) (.at 8)), (.at 10), (.at 11), (.at 12)]
       (.know (.has .i64 (.at 10))
       (.know (.has .i64 (.at 11))
       (.know (.ssz (.at 12))
       (.ret [(.at 0), (.at 1), (.at 2), (.at 3), (.at 10), (.at 11), (.at 12)]))))))))))))))
     (.imp (.o2 .eq (.int 12) (.int 0)) false
     (.and
      (.imp (.o1 .not (.o2 .eq (.int 12) (.int 0))) true
      (.ret [(.at 0), (.at 1), (.at 2), (.at 3), (.at 1), (.int 12), (.str ⟨#[]⟩)]))
      (.imp (.o1 .not (.o2 .eq (.int 12) (.int 0))) false
      (.pre 2 [(.at 0), (.at 6), (.int 12), (.o1 (.wrap .i64) (.at 8))]
      (.all .I
      (.all .I
      (.all .S
      (.post 2 [(.at 0), (.at 6), (.int 12), (.o1 (.wrap .i64) (.at 8)), (.at 10), (.at 11), (.at 12)]
      (.know (.has .i64 (.at 10))
      (.know (.has .i64 (.at 11))
      (.know (.ssz (.at 12))
      (.ret [(.at 0), (.at 1), (.at 2), (.at 3), (.at 10), (.at 11), (.at 12)]))))))))))))))
    (.imp (.o2 .lt (.int 0) (.at 8)) false
    (.and
     (.imp (.o2 .le (.int 0) (.at 3)) true
     (.and
      (.imp (.o2 .lt (.o1 (.wrap .u64) (.at 3)) (.at 8)) true
      (.and
       (.imp (.o2 .eq (.int 12) (.int 0)) true
       (.and
        (.imp (.o2 .lt (.o1 (.wrap .u64) (.o2 (.sub .i64) (.o1 .slen (.at 0)) (.at 6))) (.at 8)) true
        (.and
         (.imp (.o1 .not (.o2 .eq (.int 2) (.int 0))) true
         (.ret [(.at 0), (.at 1), (.at 2), (.at 3), (.at 1), (.int 2), (.str ⟨#[]⟩)]))
         (.imp (.o1 .not (.o2 .eq (.int 2) (.int 0))) false
         (.pre 2 [(.at 0), (.at 6), (.int 2), (.o1 (.wrap .i64) (.at 8))]
         (.all .I
         (.all .I
         (.all .S
         (.post 2 [(.at 0), (.at 6), (.int 2), (.o1 (.wrap .i64) (.at 8)), (.at 10), (.at 11), (.at 12)]
         (.know (.has .i64 (.at 10))
         (.know (.has .i64 (.at 11))
         (.know (.ssz (.at 12))
         (.ret [(.at 0), (.at 1), (.at 2), (.at 3), (.at 10), (.at 11), (.at 12)]))))))))))))
        (.imp (.o2 .lt (.o1 (.wrap .u64) (.o2 (.sub .i64) (.o1 .slen (.at 0)) (.at 6))) (.at 8)) false
        (.and
         (.imp (.o1 .not (.o2 .eq (.int 12) (.int 0))) true
         (.ret [(.at 0), (.at 1), (.at 2), (.at 3), (.at 1), (.int 12), (.str ⟨#[]⟩)]))
         (.imp (.o1 .not (.o2 .eq (.int 12) (.int 0))) false
         (.pre 2 [(.at 0), (.at 6), (.int 12), (.o1 (.wrap .i64) (.at 8))]
         (.all .I
         (.all .I
         (.all .S
         (.post 2 [(.at 0), (.at 6), (.int 12), (.o1 (.wrap .i64) (.at 8)), (.at 10), (.at 11), (.at 12)]
         (.know (.has .i64 (.at 10))
         (.know (.has .i64 (.at 11))
         (.know (.ssz (.at 12))
         (.ret [(.at 0), (.at 1), (.at 2), (.at 3), (.at 10), (.at 11), (.at 12)]))))))))))))))
       (.imp (.o2 .eq (.int 12) (.int 0)) false
       (.and
        (.imp (.o1 .not (.o2 .eq (.int 12) (.int 0))) true
        (.ret [(.at 0), (.at 1), (.at 2), (.at 3), (.at 1), (.int 12), (.str ⟨#[]⟩)]))
        (.imp (.o1 .not (.o2 .eq (.int 12) (.int 0))) false
        (.pre 2 [(.at 0), (.at 6), (.int 12), (.o1 (.wrap .i64) (.at 8))]
        (.all .I
        (.all .I
        (.all .S
        (.post 2 [(.at 0), (.at 6), (.int 12), (.o1 (.wrap .i64) (.at 8)), (.at 10), (.at 11), (.at 12)]
        (.know (.has .i64 (.at 10))
        (.know (.has .i64 (.at 11))
        (.know (.ssz (.at 12))
        (.ret [(.at 0), (.at 1), (.at 2), (.at 3), (.at 10), (.at 11), (.at 12)]))))))))))))))
      (.imp (.o2 .lt (.o1 (.wrap .u64) (.at 3)) (.at 8)) false
      (.and
       (.and
        (.imp (.o2 .lt (.o1 (.wrap .u64) (.o2 (.sub .i64) (.o1 .slen (.at 0)) (.at 6))) (.at 8)) true
        (.and
         (.imp (.o1 .not (.o2 .eq (.int 2) (.int 0))) true
         (.ret [(.at 0), (.at 1), (.at 2), (.at 3), (.at 1), (.int 2), (.str ⟨#[]⟩)]))
         (.imp (.o1 .not (.o2 .eq (.int 2) (.int 0))) false
         (.pre 2 [(.at 0), (.at 6), (.int 2), (.o1 (.wrap .i64) (.at 8))]
         (.all .I
         (.all .I
         (.all .S
         (.post 2 [(.at 0), (.at 6), (.int 2), (.o1 (.wrap .i64) (.at 8)), (.at 10), (.at 11), (.at 12)]
         (.know (.has .i64 (.at 10))
         (.know (.has .i64 (.at 11))
         (.know (.ssz (.at 12))
         (.ret [(.at 0), (.at 1), (.at 2), (.at 3), (.at 10), (.at 11), (.at 12)]))))))))))))
        (.imp (.o2 .lt (.o1 (.wrap .u64) (.o2 (.sub .i64) (.o1 .slen (.at 0)) (.at 6))) (.at 8)) false
        (.and
         (.imp (.o1 .not (.o2 .eq (.at 7) (.int 0))) true
         (.ret [(.at 0), (.at 1), (.at 2), (.at 3), (.at 1), (.at 7), (.str ⟨#[]⟩)]))
         (.imp (.o1 .not (.o2 .eq (.at 7) (.int 0))) false
         (.pre 2 [(.at 0), (.at 6), (.at 7), (.o1 (.wrap .i64) (.at 8))]
         (.all .I
         (.all .I
         (.all .S
         (.post 2 [(.at 0), (.at 6), (.at 7), (.o1 (.wrap .i64) (.at 8)), (.at 10), (.at 11), (.at 12)]
         (.know (.has .i64 (.at 10))
         (.know (.has .i64 (.at 11))
         (.know (.ssz (.at 12))
         (.ret [(.at 0), (.at 1), (.at 2), (.at 3), (.at 10), (.at 11), (.at 12)])))))))))))))
       (.imp (.o2 .eq (.at 7) (.int 0)) false
       (.and
        (.imp (.o1 .not (.o2 .eq (.at 7) (.int 0))) true
        (.ret [(.at 0), (.at 1), (.at 2), (.at 3), (.at 1), (.at 7), (.str ⟨#[]⟩)]))
        (.imp (.o1 .not (.o2 .eq (.at 7) (.int 0))) false
        (.pre 2 [(.at 0), (.at 6), (.at 7), (.o1 (.wrap .i64) (.at 8))]
        (.all .I
        (.all .I
        (.all .S
        (.post 2 [(.at 0), (.at 6), (.at 7), (.o1 (.wrap .i64) (.at 8)), (.at 10), (.at 11), (.at 12)]
        (.know (.has .i64 (.at 10))
        (.know (.has .i64 (.at 11))
        (.know (.ssz (.at 12))
        (.ret [(.at 0), (.at 1), (.at 2), (.at 3), (.at 10), (.at 11), (.at 12)]))))))))))))))))
     (.imp (.o2 .le (.int 0) (.at 3)) false
     (.and
      (.and
       (.imp (.o2 .lt (.o1 (.wrap .u64) (.o2 (.sub .i64) (.o1 .slen (.at 0)) (.at 6))) (.at 8)) true
       (.and
        (.imp (.o1 .not (.o2 .eq (.int 2) (.int 0))) true
        (.ret [(.at 0), (.at 1), (.at 2), (.at 3), (.at 1), (.int 2), (.str ⟨#[]⟩)]))
        (.imp (.o1 .not (.o2 .eq (.int 2) (.int 0))) false
        (.pre 2 [(.at 0), (.at 6), (.int 2), (.o1 (.wrap .i64) (.at 8))]
        (.all .I
        (.all .I
        (.all .S
        (.post 2 [(.at 0), (.at 6), (.int 2), (.o1 (.wrap .i64) (.at 8)), (.at 10), (.at 11), (.at 12)]
        (.know (.has .i64 (.at 10))
        (.know (.has .i64 (.at 11))
        (.know (.ssz (.at 12))
        (.ret [(.at 0), (.at 1), (.at 2), (.at 3), (.at 10), (.at 11), (.at 12)]))))))))))))
       (.imp (.o2 .lt (.o1 (.wrap .u64) (.o2 (.sub .i64) (.o1 .slen (.at 0)) (.at 6))) (.at 8)) false
       (.and
        (.imp (.o1 .not (.o2 .eq (.at 7) (.int 0))) true
        (.ret [(.at 0), (.at 1), (.at 2), (.at 3), (.at 1), (.at 7), (.str ⟨#[]⟩)]))
        (.imp (.o1 .not (.o2 .eq (.at 7) (.int 0))) false
        (.pre 2 [(.at 0), (.at 6), (.at 7), (.o1 (.wrap .i64) (.at 8))]
        (.all .I
        (.all .I
        (.all .S
        (.post 2 [(.at 0), (.at 6), (.at 7), (.o1 (.wrap .i64) (.at 8)), (.at 10), (.at 11), (.at 12)]
        (.know (.has .i64 (.at 10))
        (.know (.has .i64 (.at 11))
        (.know (.ssz (.at 12))
        (.ret [(.at 0), (.at 1), (.at 2), (.at 3), (.at 10), (.at 11), (.at 12)])))))))))))))
      (.imp (.o2 .eq (.at 7) (.int 0)) false
      (.and
       (.imp (.o1 .not (.o2 .eq (.at 7) (.int 0))) true
       (.ret [(.at 0), (.at 1), (.at 2), (.at 3), (.at 1), (.at 7), (.str ⟨#[]⟩)]))
       (.imp (.o1 .not (.o2 .eq (.at 7) (.int 0))) false
       (.pre 2 [(.at 0), (.at 6), (.at 7), (.o1 (.wrap .i64) (.at 8))]
       (.all .I
       (.all .I
       (.all .S
       (.post 2 [(.at 0), (.at 6), (.at 7), (.o1 (.wrap .i64) (.at 8)), (.at 10), (.at 11), (.at 12)]
       (.know (.has .i64 (.at 10))
       (.know (.has .i64 (.at 11))
       (.know (.ssz (.at 12))
       (.ret [(.at 0), (.at 1), (.at 2), (.at 3), (.at 10), (.at 11), (.at 12)]))))))))))))))))))
   (.imp (.o2 .lt (.at 3) (.int 0)) false
   (.and
    (.imp (.o2 .le (.int 0) (.at 3)) true
    (.and
     (.imp (.o2 .lt (.o1 (.wrap .u64) (.at 3)) (.at 8)) true
     (.and
      (.imp (.o2 .eq (.int 12) (.int 0)) true
      (.and
       (.imp (.o2 .lt (.o1 (.wrap .u64) (.o2 (.sub .i64) (.o1 .slen (.at 0)) (.at 6))) (.at 8)) true
       (.and
        (.imp (.o1 .not (.o2 .eq (.int 2) (.int 0))) true
        (.ret [(.at 0), (.at 1), (.at 2), (.at 3), (.at 1), (.int 2), (.str ⟨#[]⟩)]))
        (.imp (.o1 .not (.o2 .eq (.int 2) (.int 0))) false
        (.pre 2 [(.at 0), (.at 6), (.int 2), (.o1 (.wrap .i64) (.at 8))]
        (.all .I
        (.all .I
        (.all .S
        (.post 2 [(.at 0), (.at 6), (.int 2), (.o1 (.wrap .i64) (.at 8)), (.at 10), (.at 11), (.at 12)]
        (.know (.has .i64 (.at 10))
        (.know (.has .i64 (.at 11))
        (.know (.ssz (.at 12))
        (.ret [(.at 0), (.at 1), (.at 2), (.at 3), (.at 10), (.at 11), (.at 12)]))))))))))))
       (.imp (.o2 .lt (.o1 (.wrap .u64) (.o2 (.sub .i64) (.o1 .slen (.at 0)) (.at 6))) (.at 8)) false
       (.and
        (.imp (.o1 .not (.o2 .eq (.int 12) (.int 0))) true
        (.ret [(.at 0), (.at 1), (.at 2), (.at 3), (.at 1), (.int 12), (.str ⟨#[]⟩)]))
        (.imp (.o1 .not (.o2 .eq (.int 12) (.int 0))) false
        (.pre 2 [(.at 0), (.at 6), (.int 12), (.o1 (.wrap .i64) (.at 8))]
        (.all .I
        (.all .I
        (.all .S
        (.post 2 [(.at 0), (.at 6), (.int 12), (.o1 (.wrap .i64) (.at 8)), (.at 10), (.at 11), (.at 12)]
        (.know (.has .i64 (.at 10))
        (.know (.has .i64 (.at 11))
        (.know (.ssz (.at 12))
        (.ret [(.at 0), (.at 1), (.at 2), (.at 3), (.at 10), (.at 11), (.at 12)]))))))))))))))
      (.imp (.o2 .eq (.int 12) (.int 0)) false
      (.and
       (.imp (.o1 .not (.o2 .eq (.int 12) (.int 0))) true
       (.ret [(.at 0), (.at 1), (.at 2), (.at 3), (.at 1), (.int 12), (.str ⟨#[]⟩)]))
       (.imp (.o1 .not (.o2 .eq (.int 12) (.int 0))) false
       (.pre 2 [(.at 0), (.at 6), (.int 12), (.o1 (.wrap .i64) (.at 8))]
       (.all .I
       (.all .I
       (.all .S
       (.post 2 [(.at 0), (.at 6), (.int 12), (.o1 (.wrap .i64) (.at 8)), (.at 10), (.at 11), (.at 12)]
       (.know (.has .i64 (.at 10))
       (.know (.has .i64 (.at 11))
       (.know (.ssz (.at 12))
       (.ret [(.at 0), (.at 1), (.at 2), (.at 3), (.at 10), (.at 11), (.at 12)]))))))))))))))
     (.imp (.o2 .lt (.o1 (.wrap .u64) (.at 3)) (.at 8)) false
     (.and
      (.and
       (.imp (.o2 .lt (.o1 (.wrap .u64) (.o2 (.sub .i64) (.o1 .slen (.at 0)) (.at 6))) (.at 8)) true
       (.and
        (.imp (.o1 .not (.o2 .eq (.int 2) (.int 0))) true
        (.ret [(.at 0), (.at 1), (.at 2), (.at 3), (.at 1), (.int 2), (.str ⟨#[]⟩)]))
        (.imp (.o1 .not (.o2 .eq (.int 2) (.int 0))) false
        (.pre 2 [(.at 0), (.at 6), (.int 2), (.o1 (.wrap .i64) (.at 8))]
        (.all .I
        (.all .I
        (.all .S
        (.post 2 [(.at 0), (.at 6), (.int 2), (.o1 (.wrap .i64) (.at 8)), (.at 10), (.at 11), (.at 12)]
        (.know (.has .i64 (.at 10))
        (.know (.has .i64 (.at 11))
        (.know (.ssz (.at 12))
        (.ret [(.at 0), (.at 1), (.at 2), (.at 3), (.at 10), (.at 11), (.at 12)]))))))))))))
       (.imp (.o2 .lt (.o1 (.wrap .u64) (.o2 (.sub .i64) (.o1 .slen (.at 0)) (.at 6))) (.at 8)) false
       (.and
        (.imp (.o1 .not (.o2 .eq (.at 7) (.int 0))) true
        (.ret [(.at 0), (.at 1), (.at 2), (.at 3), (.at 1), (.at 7), (.str ⟨#[]⟩)]))
        (.imp (.o1 .not (.o2 .eq (.at 7) (.int 0))) false
        (.pre 2 [(.at 0), (.at 6), (.at 7), (.o1 (.wrap .i64) (.at 8))]
        (.all .I
        (.all .I
        (.all .S
        (.post 2 [(.at 0), (.at 6), (.at 7), (.o1 (.wrap .i64) (.at 8)), (.at 10), (.at 11), (.at 12)]
        (.know (.has .i64 (.at 10))
        (.know (.has .i64 (.at 11))
        (.know (.ssz (.at 12))
        (.ret [(.at 0), (.at 1), (.at 2), (.at 3), (.at 10), (.at 11), (.at 12)])))))))))))))
      (.imp (.o2 .eq (.at 7) (.int 0)) false
      (.and
       (.imp (.o1 .not (.o2 .eq (.at 7) (.int 0))) true
       (.ret [(.at 0), (.at 1), (.at 2), (.at 3), (.at 1), (.at 7), (.str ⟨#[]⟩)]))
       (.imp (.o1 .not (.o2 .eq (.at 7) (.int 0))) false
       (.pre 2 [(.at 0), (.at 6), (.at 7), (.o1 (.wrap .i64) (.at 8))]
       (.all .I
       (.all .I
       (.all .S
       (.post 2 [(.at 0), (.at 6), (.at 7), (.o1 (.wrap .i64) (.at 8)), (.at 10), (.at 11), (.at 12)]
       (.know (.has .i64 (.at 10))
       (.know (.has .i64 (.at 11))
       (.know (.ssz (.at 12))
       (.ret [(.at 0), (.at 1), (.at 2), (.at 3), (.at 10), (.at 11), (.at 12)]))))))))))))))))
    (.imp (.o2 .le (.int 0) (.at 3)) false
    (.and
     (.and
      (.imp (.o2 .lt (.o1 (.wrap .u64) (.o2 (.sub .i64) (.o1 .slen (.at 0)) (.at 6))) (.at 8)) true
      (.and
       (.imp (.o1 .not (.o2 .eq (.int 2) (.int 0))) true
       (.ret [(.at 0), (.at 1), (.at 2), (.at 3), (.at 1), (.int 2), (.str ⟨#[]⟩)]))
       (.imp (.o1 .not (.o2 .eq (.int 2) (.int 0))) false
       (.pre 2 [(.at 0), (.at 6), (.int 2), (.o1 (.wrap .i64) (.at 8))]
       (.all .I
       (.all .I
       (.all .S
       (.post 2 [(.at 0), (.at 6), (.int 2), (.o1 (.wrap .i64) (.at 8)), (.at 10), (.at 11), (.at 12)]
       (.know (.has .i64 (.at 10))
       (.know (.has .i64 (.at 11))
       (.know (.ssz (.at 12))
       (.ret [(.at 0), (.at 1), (.at 2), (.at 3), (.at 10), (.at 11), (.at 12)]))))))))))))
      (.imp (.o2 .lt (.o1 (.wrap .u64) (.o2 (.sub .i64) (.o1 .slen (.at 0)) (.at 6))) (.at 8)) false
      (.and
       (.imp (.o1 .not (.o2 .eq (.at 7) (.int 0))) true
       (.ret [(.at 0), (.at 1), (.at 2), (.at 3), (.at 1), (.at 7), (.str ⟨#[]⟩)]))
       (.imp (.o1 .not (.o2 .eq (.at 7) (.int 0))) false
       (.pre 2 [(.at 0), (.at 6), (.at 7), (.o1 (.wrap .i64) (.at 8))]
       (.all .I
       (.all .I
       (.all .S
       (.post 2 [(.at 0), (.at 6), (.at 7), (.o1 (.wrap .i64) (.at 8)), (.at 10), (.at 11), (.at 12)]
       (.know (.has .i64 (.at 10))
       (.know (.has .i64 (.at 11))
       (.know (.ssz (.at 12))
       (.ret [(.at 0), (.at 1), (.at 2), (.at 3), (.at 10), (.at 11), (.at 12)])))))))))))))
     (.imp (.o2 .eq (.at 7) (.int 0)) false
     (.and
      (.imp (.o1 .not (.o2 .eq (.at 7) (.int 0))) true
      (.ret [(.at 0), (.at 1), (.at 2), (.at 3), (.at 1), (.at 7), (.str ⟨#[]⟩)]))
      (.imp (.o1 .not (.o2 .eq (.at 7) (.int 0))) false
      (.pre 2 [(.at 0), (.at 6), (.at 7), (.o1 (.wrap .i64) (.at 8))]
      (.all .I
      (.all .I
      (.all .S
      (.post 2 [(.at 0), (.at 6), (.at 7), (.o1 (.wrap .i64) (.at 8)), (.at 10), (.at 11), (.at 12)]
      (.know (.has .i64 (.at 10))
      (.know (.has .i64 (.at 11))
      (.know (.ssz (.at 12))
      (.ret [(.at 0), (.at 1), (.at 2), (.at 3), (.at 10), (.at 11), (.at 12)]))))))))))))))))))
  (.imp (.o2 .eq (.at 7) (.int 0)) false
  (.and
   (.imp (.o2 .eq (.at 7) (.int 0)) true
   (.and
    (.imp (.o2 .lt (.o1 (.wrap .u64) (.o2 (.sub .i64) (.o1 .slen (.at 0)) (.at 6))) (.at 8)) true
    (.and
     (.imp (.o1 .not (.o2 .eq (.int 2) (.int 0))) true
     (.ret [(.at 0), (.at 1), (.at 2), (.at 3), (.at 1), (.int 2), (.str ⟨#[]⟩)]))
     (.imp (.o1 .not (.o2 .eq (.int 2) (.int 0))) false
     (.pre 2 [(.at 0), (.at 6), (.int 2), (.o1 (.wrap .i64) (.at 8))]
     (.all .I
     (.all .I
     (.all .S
     (.post 2 [(.at 0), (.at 6), (.int 2), (.o1 (.wrap .i64) (.at 8)), (.at 10), (.at 11), (.at 12)]
     (.know (.has .i64 (.at 10))
     (.know (.has .i64 (.at 11))
     (.know (.ssz (.at 12))
     (.ret [(.at 0), (.at 1), (.at 2), (.at 3), (.at 10), (.at 11), (.at 12)]))))))))))))
    (.imp (.o2 .lt (.o1 (.wrap .u64) (.o2 (.sub .i64) (.o1 .slen (.at 0)) (.at 6))) (.at 8)) false
    (.and
     (.imp (.o1 .not (.o2 .eq (.at 7) (.int 0))) true
     (.ret [(.at 0), (.at 1), (.at 2), (.at 3), (.at 1), (.at 7), (.str ⟨#[]⟩)]))
     (.imp (.o1 .not (.o2 .eq (.at 7) (.int 0))) false
     (.pre 2 [(.at 0), (.at 6), (.at 7), (.o1 (.wrap .i64) (.at 8))]
     (.all .I
     (.all .I
     (.all .S
     (.post 2 [(.at 0), (.at 6), (.at 7), (.o1 (.wrap .i64) (.at 8)), (.at 10), (.at 11), (.at 12)]
     (.know (.has .i64 (.at 10))
     (.know (.has .i64 (.at 11))
     (.know (.ssz (.at 12))
     (.ret [(.at 0), (.at 1), (.at 2), (.at 3), (.at 10), (.at 11), (.at 12)]))))))))))))))
   (.imp (.o2 .eq (.at 7) (.int 0)) false
   (.and
    (.imp (.o1 .not (.o2 .eq (.at 7) (.int 0))) true
    (.ret [(.at 0), (.at 1), (.at 2), (.at 3), (.at 1), (.at 7), (.str ⟨#[]⟩)]))
    (.imp (.o1 .not (.o2 .eq (.at 7) (.int 0))) false
    (.pre 2 [(.at 0), (.at 6), (.at 7), (.o1 (.wrap .i64) (.at 8))]
    (.all .I
    (.all .I
    (.all .S
    (.post 2 [(.at 0), (.at 6), (.at 7), (.o1 (.wrap .i64) (.at 8)), (.at 10), (.at 11), (.at 12)]
    (.know (.has .i64 (.at 10))
    (.know (.has .i64 (.at 11))
    (.know (.ssz (.at 12))
    (.ret [(.at 0), (.at 1), (.at 2), (.at 3), (.at 10), (.at 11), (.at 12)])))))))))))))))))))))))))))))))))))
def cText.Pure : Prop :=
 ∀ (s0 : ByteArray),
 ∀ (i1 : Int),
 ∀ (i2 : Int),
 ∀ (i3 : Int),
 ((s0.size : Int) ≤ 9223372036854775807) →
 (-9223372036854775808 ≤ i1 ∧ i1 < 9223372036854775808) →
 (-9223372036854775808 ≤ i2 ∧ i2 < 9223372036854775808) →
 (-9223372036854775808 ≤ i3 ∧ i3 < 9223372036854775808) →
 cText.sig.pre [(D.S s0), (D.I i1), (D.I i2), (D.I i3)] →
 ∀ (n4 : Nat),
 ∀ (n5 : Nat),
 cNum.sig.pre [(D.S s0), (D.I i1), (D.I i2)] ∧ (
 ∀ (i6 : Int),
 ∀ (i7 : Int),
 ∀ (i8 : Int),
 cNum.sig.post [(D.S s0), (D.I i1), (D.I i2), (D.I i6), (D.I i7), (D.I i8)] →
 (-9223372036854775808 ≤ i6 ∧ i6 < 9223372036854775808) →
 (-9223372036854775808 ≤ i7 ∧ i7 < 9223372036854775808) →
 (0 ≤ i8 ∧ i8 < 18446744073709551616) →
 ∀ (n9 : Nat),
 ((
  (i7 = (0 : Int)) →
  ((
   (i3 < (0 : Int)) →
   ((
    ((0 : Int) < i8) →
    ((
     ((12 : Int) = (0 : Int)) →
     ((
      ((IntKind.wrap .u64 (IntKind.wrap .i64 (((s0.size : Nat) : Int) - i6))) < i8) →
      ((
       ((2 : Int) ≠ (0 : Int)) →
       cText.sig.post [(D.S s0), (D.I i1), (D.I i2), (D.I i3), (D.I i1), (D.I (2 : Int)), (D.S (⟨#[]⟩ : ByteArray))]) ∧ (
       ((2 : Int) = (0 : Int)) →
       cRaw.sig.pre [(D.S s0), (D.I i6), (D.I (2 : Int)), (D.I (IntKind.wrap .i64 i8))] ∧ (
       ∀ (i10 : Int),
       ∀ (i11 : Int),
       ∀ (s12 : ByteArray),
       cRaw.sig.post [(D.S s0), (D.I i6), (D.I (2 : Int)), (D.I (IntKind.wrap .i64 i8)), (D.I i10), (D.I i11), (D.S s12)] →
       (-9223372036854775808 ≤ i10 ∧ i10 < 9223372036854775808) →
       (-9223372036854775808 ≤ i11 ∧ i11 < 9223372036854775808) →
       ((s12.size : Int) ≤ 9223372036854775807) →
       cText.sig.post [(D.S s0), (D.I i1), (D.I i2), (D.I i3), (D.I i10), (D.I i11), (D.S s12)])))) ∧ (
      (i8 ≤ (IntKind.wrap .u64 (IntKind.wrap .i64 (((s0.size : Nat) : Int) - i6)))) →
      ((
       ((12 : Int) ≠ (0 : Int)) →
       cText.sig.post [(D.S s0), (D.I i1), (D.I i2), (D.I i3), (D.I i1), (D.I (12 : Int)), (D.S (⟨#[]⟩ : ByteArray))]) ∧ (
       ((12 : Int) = (0 : Int)) →
       cRaw.sig.pre [(D.S s0), (D.I i6), (D.I (12 : Int)), (D.I (IntKind.wrap .i64 i8))] ∧ (
       ∀ (i10 : Int),
       ∀ (i11 : Int),
       ∀ (s12 : ByteArray),
       cRaw.sig.post [(D.S s0), (D.I i6), (D.I (12 : Int)), (D.I (IntKind.wrap .i64 i8)), (D.I i10), (D.I i11), (D.S s12)] →
       (-9223372036854775808 ≤ i10 ∧ i10 < 9223372036854775808) →
       (-9223372036854775808 ≤ i11 ∧ i11 < 9223372036854775808) →
       ((s12.size : Int) ≤ 9223372036854775807) →
       cText.sig.post [(D.S s0), (D.I i1), (D.I i2), (D.I i3), (D.I i10), (D.I i11), (D.S s12)])))))) ∧ (
     ((12 : Int) ≠ (0 : Int)) →
     ((
      ((12 : Int) ≠ (0 : Int)) →
      cText.sig.post [(D.S s0), (D.I i1), (D.I i2), (D.I i3), (D.I i1), (D.I (12 : Int)), (D.S (⟨#[]⟩ : ByteArray))]) ∧ (
      ((12 : Int) = (0 : Int)) →
      cRaw.sig.pre [(D.S s0), (D.I i6), (D.I (12 : Int)), (D.I (IntKind.wrap .i64 i8))] ∧ (
      ∀ (i10 : Int),
      ∀ (i11 : Int),
      ∀ (s12 : ByteArray),
      cRaw.sig.post [(D.S s0), (D.I i6), (D.I (12 : Int)), (D.I (IntKind.wrap .i64 i8)), (D.I i10), (D.I i11), (D.S s12)] →
      (-9223372036854775808 ≤ i10 ∧ i10 < 9223372036854775808) →
      (-9223372036854775808 ≤ i11 ∧ i11 < 9223372036854775808) →
      ((s12.size : Int) ≤ 9223372036854775807) →
      cText.sig.post [(D.S s0), (D.I i1), (D.I i2), (D.I i3), (D.I i10), (D.I i11), (D.S s12)])))))) ∧ (
    (i8 ≤ (0 : Int)) →
    ((
     ((0 : Int) ≤ i3) →
     ((
      ((IntKind.wrap .u64 i3) < i8) →
      ((
       ((12 : Int) = (0 : Int)) →
       ((
        ((IntKind.wrap .u64 (IntKind.wrap .i64 (((s0.size : Nat) : Int) - i6))) < i8) →
        ((
         ((2 : Int) ≠ (0 : Int)) →
         cText.sig.post [(D.S s0), (D.I i1), (D.I i2), (D.I i3), (D.I i1), (D.I (2 : Int)), (D.S (⟨#[]⟩ : ByteArray))]) ∧ (
         ((2 : Int) = (0 : Int)) →
         cRaw.sig.pre [(D.S s0), (D.I i6), (D.I (2 : Int)), (D.I (IntKind.wrap .i64 i8))] ∧ (
         ∀ (i10 : Int),
         ∀ (i11 : Int),
         ∀ (s12 : ByteArray),
         cRaw.sig.post [(D.S s0), (D.I i6), (D.I (2 : Int)), (D.I (IntKind.wrap .i64 i8)), (D.I i10), (D.I i11), (D.S s12)] →
         (-9223372036854775808 ≤ i10 ∧ i10 < 9223372036854775808) →
         (-9223372036854775808 ≤ i11 ∧ i11 < 9223372036854775808) →
         ((s12.size : Int) ≤ 9223372036854775807) →
         cText.sig.post [(D.S s0), (D.I i1), (D.I i2), (D.I i3), (D.I i10), (D.I i11), (D.S s12)])))) ∧ (
        (i8 ≤ (IntKind.wrap .u64 (IntKind.wrap .i64 (((s0.size : Nat) : Int) - i6)))) →
        ((
         ((12 : Int) ≠ (0 : Int)) →
         cText.sig.post [(D.S s0), (D.I i1), (D.I i2), (D.I i3), (D.I i1), (D.I (12 : Int)), (D.S (⟨#[]⟩ : ByteArray))]) ∧ (
         ((12 : Int) = (0 : Int)) →
         cRaw.sig.pre [(D.S s0), (D.I i6), (D.I (12 : Int)), (D.I (IntKind.wrap .i64 i8))] ∧ (
         ∀ (i10 : Int),
         ∀ (i11 : Int),
         ∀ (s12 : ByteArray),
         cRaw.sig.post [(D.S s0), (D.I i6), (D.I (12 : Int)), (D.I (IntKind.wrap .i64 i8)), (D.I i10), (D.I i11), (D.S s12)] →
         (-9223372036854775808 ≤ i10 ∧ i10 < 9223372036854775808) →
         (-9223372036854775808 ≤ i11 ∧ i11 < 9223372036854775808) →
         ((s12.size : Int) ≤ 9223372036854775807) →
         cText.sig.post [(D.S s0), (D.I i1), (D.I i2), (D.I i3), (D.I i10), (D.I i11), (D.S s12)])))))) ∧ (
       ((12 : Int) ≠ (0 : Int)) →
       ((
        ((12 : Int) ≠ (0 : Int)) →
        cText.sig.post [(D.S s0), (D.I i1), (D.I i2), (D.I i3), (D.I i1), (D.I (12 : Int)), (D.S (⟨#[]⟩ : ByteArray))]) ∧ (
        ((12 : Int) = (0 : Int)) →
        cRaw.sig.pre [(D.S s0), (D.I i6), (D.I (12 : Int)), (D.I (IntKind.wrap .i64 i8))] ∧ (
        ∀ (i10 : Int),
        ∀ (i11 : Int),
        ∀ (s12 : ByteArray),
        cRaw.sig.post [(D.S s0), (D.I i6), (D.I (12 : Int)), (D.I (IntKind.wrap .i64 i8)), (D.I i10), (D.I i11), (D.S s12)] →
        (-9223372036854775808 ≤ i10 ∧ i10 < 9223372036854775808) →
        (-9223372036854775808 ≤ i11 ∧ i11 < 9223372036854775808) →
        ((s12.size : Int) ≤ 9223372036854775807) →
        cText.sig.post [(D.S s0), (D.I i1), (D.I i2), (D.I i3), (D.I i10), (D.I i11), (D.S s12)])))))) ∧ (
      (i8 ≤ (IntKind.wrap .u64 i3)) →
      ((
       ((
        ((IntKind.wrap .u64 (IntKind.wrap .i64 (((s0.size : Nat) : Int) - i6))) < i8) →
        ((
         ((2 : Int) ≠ (0 : Int)) →
         cText.sig.post [(D.S s0), (D.I i1), (D.I i2), (D.I i3), (D.I i1), (D.I (2 : Int)), (D.S (⟨#[]⟩ : ByteArray))]) ∧ (
         ((2 : Int) = (0 : Int)) →
         cRaw.sig.pre [(D.S s0), (D.I i6), (D.I (2 : Int)), (D.I (IntKind.wrap .i64 i8))] ∧ (
         ∀ (i10 : Int),
         ∀ (i11 : Int),
         ∀ (s12 : ByteArray),
         cRaw.sig.post [(D.S s0), (D.I i6), (D.I (2 : Int)), (D.I (IntKind.wrap .i64 i8)), (D.I i10), (D.I i11), (D.S s12)] →
         (-9223372036854775808 ≤ i10 ∧ i10 < 9223372036854775808) →
         (-9223372036854775808 ≤ i11 ∧ i11 < 9223372036854775808) →
         ((s12.size : Int) ≤ 9223372036854775807) →
         cText.sig.post [(D.S s0), (D.I i1), (D.I i2), (D.I i3), (D.I i10), (D.I i11), (D.S s12)])))) ∧ (
        (i8 ≤ (IntKind.wrap .u64 (IntKind.wrap .i64 (((s0.size : Nat) : Int) - i6)))) →
        ((
         (i7 ≠ (0 : Int)) →
         cText.sig.post [(D.S s0), (D.I i1), (D.I i2), (D.I i3), (D.I i1), (D.I i7), (D.S (⟨#[]⟩ : ByteArray))]) ∧ (
         (i7 = (0 : Int)) →
         cRaw.sig.pre [(D.S s0), (D.I i6), (D.I i7), (D.I (IntKind.wrap .i64 i8))] ∧ (
         ∀ (i10 : Int),
         ∀ (i11 : Int),
         ∀ (s12 : ByteArray),
         cRaw.sig.post [(D.S s0), (D.I i6), (D.I i7), (D.I (IntKind.wrap .i64 i8)), (D.I i10), (D.I i11), (D.S s12)] →
         (-9223372036854775808 ≤ i10 ∧ i10 < 9223372036854775808) →
         (-9223372036854775808 ≤ i11 ∧ i11 < 9223372036854775808) →
         ((s12.size : Int) ≤ 9223372036854775807) →
         cText.sig.post [(D.S s0), (D.I i1), (D.I i2), (D.I i3), (D.I i10), (D.I i11), (D.S s12)])))))) ∧ (
       (i7 ≠ (0 : Int)) →
       ((
        (i7 ≠ (0 : Int)) →
        cText.sig.post [(D.S s0), (D.I i1), (D.I i2), (D.I i3), (D.I i1), (D.I i7), (D.S (⟨#[]⟩ : ByteArray))]) ∧ (
        (i7 = (0 : Int)) →
        cRaw.sig.pre [(D.S s0), (D.I i6), (D.I i7), (D.I (IntKind.wrap .i64 i8))] ∧ (
        ∀ (i10 : Int),
        ∀ (i11 : Int),
        ∀ (s12 : ByteArray),
        cRaw.sig.post [(D.S s0), (D.I i6), (D.I i7), (D.I (IntKind.wrap .i64 i8)), (D.I i10), (D.I i11), (D.S s12)] →
        (-9223372036854775808 ≤ i10 ∧ i10 < 9223372036854775808) →
        (-9223372036854775808 ≤ i11 ∧ i11 < 9223372036854775808) →
        ((s12.size : Int) ≤ 9223372036854775807) →
        cText.sig.post [(D.S s0), (D.I i1), (D.I i2), (D.I i3), (D.I i10), (D.I i11), (D.S s12)])))))))) ∧ (
     (i3 < (0 : Int)) →
     ((
      ((
       ((IntKind.wrap .u64 (IntKind.wrap .i64 (((s0.size : Nat) : Int) - i6))) < i8) →
       ((
        ((2 : Int) ≠ (0 : Int)) →
        cText.sig.post [(D.S s0), (D.I i1), (D.I i2), (D.I i3), (D.I i1), (D.I (2 : Int)), (D.S (⟨#[]⟩ : ByteArray))]) ∧ (
        ((2 : Int) = (0 : Int)) →
        cRaw.sig.pre [(D.S s0), (D.I i6), (D.I (2 : Int)), (D.I (IntKind.wrap .i64 i8))] ∧ (
        ∀ (i10 : Int),
        ∀ (i11 : Int),
        ∀ (s12 : ByteArray),
        cRaw.sig.post [(D.S s0), (D.I i6), (D.I (2 : Int)), (D.I (IntKind.wrap .i64 i8)), (D.I i10), (D.I i11), (D.S s12)] →
        (-9223372036854775808 ≤ i10 ∧ i10 < 9223372036854775808) →
        (-9223372036854775808 ≤ i11 ∧ i11 < 9223372036854775808) →
        ((s12.size : Int) ≤ 9223372036854775807) →
        cText.sig.post [(D.S s0), (D.I i1), (D.I i2), (D.I i3), (D.I i10), (D.I i11), (D.S s12)])))) ∧ (
       (i8 ≤ (IntKind.wrap .u64 (IntKind.wrap .i64 (((s0.size : Nat) : Int) - i6)))) →
       ((
        (i7 ≠ (0 : Int)) →
        cText.sig.post [(D.S s0), (D.I i1), (D.I i2), (D.I i3), (D.I i1), (D.I i7), (D.S (⟨#[]⟩ : ByteArray))]) ∧ (
        (i7 = (0 : Int)) →
        cRaw.sig.pre [(D.S s0), (D.I i6), (D.I i7), (D.I (IntKind.wrap .i64 i8))] ∧ (
        ∀ (i10 : Int),
        ∀ (i11 : Int),
        ∀ (s12 : ByteArray),
        cRaw.sig.post [(D.S s0), (D.I i6), (D.I i7), (D.I (IntKind.wrap .i64 i8)), (D.I i10), (D.I i11), (D.S s12)] →
        (-9223372036854775808 ≤ i10 ∧ i10 < 9223372036854775808) →
        (-9223372036854775808 ≤ i11 ∧ i11 < 9223372036854775808) →
        ((s12.size : Int) ≤ 9223372036854775807) →
        cText.sig.post [(D.S s0), (D.I i1), (D.I i2), (D.I i3), (D.I i10), (D.I i11), (D.S s12)])))))) ∧ (
      (i7 ≠ (0 : Int)) →
      ((
       (i7 ≠ (0 : Int)) →
       cText.sig.post [(D.S s0), (D.I i1), (D.I i2), (D.I i3), (D.I i1), (D.I i7), (D.S (⟨#[]⟩ : ByteArray))]) ∧ (
       (i7 = (0 : Int)) →
       cRaw.sig.pre [(D.S s0), (D.I i6), (D.I i7), (D.I (IntKind.wrap .i64 i8))] ∧ (
       ∀ (i10 : Int),
       ∀ (i11 : Int),
       ∀ (s12 : ByteArray),
       cRaw.sig.post [(D.S s0), (D.I i6), (D.I i7), (D.I (IntKind.wrap .i64 i8)), (D.I i10), (D.I i11), (D.S s12)] →
       (-9223372036854775808 ≤ i10 ∧ i10 < 9223372036854775808) →
       (-9223372036854775808 ≤ i11 ∧ i11 < 9223372036854775808) →
       ((s12.size : Int) ≤ 9223372036854775807) →
       cText.sig.post [(D.S s0), (D.I i1), (D.I i2), (D.I i3), (D.I i10), (D.I i11), (D.S s12)])))))))))) ∧ (
   ((0 : Int) ≤ i3) →
   ((
    ((0 : Int) ≤ i3) →
    ((
     ((IntKind.wrap .u64 i3) < i8) →
     ((
      ((12 : Int) = (0 : Int)) →
      ((
       ((IntKind.wrap .u64 (IntKind.wrap .i64 (((s0.size : Nat) : Int) - i6))) < i8) →
       ((
        ((2 : Int) ≠ (0 : Int)) →
        cText.sig.post [(D.S s0), (D.I i1), (D.I i2), (D.I i3), (D.I i1), (D.I (2 : Int)), (D.S (⟨#[]⟩ : ByteArray))]) ∧ (
        ((2 : Int) = (0 : Int)) →
        cRaw.sig.pre [(D.S s0), (D.I i6), (D.I (2 : Int)), (D.I (IntKind.wrap .i64 i8))] ∧ (
        ∀ (i10 : Int),
        ∀ (i11 : Int),
        ∀ (s12 : ByteArray),
        cRaw.sig.post [(D.S s0), (D.I i6), (D.I (2 : Int)), (D.I (IntKind.wrap .i64 i8)), (D.I i10), (D.I i11), (D.S s12)] →
        (-9223372036854775808 ≤ i10 ∧ i10 < 9223372036854775808) →
        (-9223372036854775808 ≤ i11 ∧ i11 < 9223372036854775808) →
        ((s12.size : Int) ≤ 9223372036854775807) →
        cText.sig.post [(D.S s0), (D.I i1), (D.I i2), (D.I i3), (D.I i10), (D.I i11), (D.S s12)])))) ∧ (
       (i8 ≤ (IntKind.wrap .u64 (IntKind.wrap .i64 (((s0.size : Nat) : Int) - i6)))) →
       ((
        ((12 : Int) ≠ (0 : Int)) →
        cText.sig.post [(D.S s0), (D.I i1), (D.I i2), (D.I i3), (D.I i1), (D.I (12 : Int)), (D.S (⟨#[]⟩ : ByteArray))]) ∧ (
        ((12 : Int) = (0 : Int)) →
        cRaw.sig.pre [(D.S s0), (D.I i6), (D.I (12 : Int)), (D.I (IntKind.wrap .i64 i8))] ∧ (
        ∀ (i10 : Int),
        ∀ (i11 : Int),
        ∀ (s12 : ByteArray),
        cRaw.sig.post [(D.S s0), (D.I i6), (D.I (12 : Int)), (D.I (IntKind.wrap .i64 i8)), (D.I i10), (D.I i11), (D.S s12)] →
        (-9223372036854775808 ≤ i10 ∧ i10 < 9223372036854775808) →
        (-9223372036854775808 ≤ i11 ∧ i11 < 9223372036854775808) →
        ((s12.size : Int) ≤ 9223372036854775807) →
        cText.sig.post [(D.S s0), (D.I i1), (D.I i2), (D.I i3), (D.I i10), (D.I i11), (D.S s12)])))))) ∧ (
      ((12 : Int) ≠ (0 : Int)) →
      ((
       ((12 : Int) ≠ (0 : Int)) →
       cText.sig.post [(D.S s0), (D.I i1), (D.I i2), (D.I i3), (D.I i1), (D.I (12 : Int)), (D.S (⟨#[]⟩ : ByteArray))]) ∧ (
       ((12 : Int) = (0 : Int)) →
       cRaw.sig.pre [(D.S s0), (D.I i6), (D.I (12 : Int)), (D.I (IntKind.wrap .i64 i8))] ∧ (
       ∀ (i10 : Int),
       ∀ (i11 : Int),
       ∀ (s12 : ByteArray),
       cRaw.sig.post [(D.S s0), (D.I i6), (D.I (12 : Int)), (D.I (IntKind.wrap .i64 i8)), (D.I i10), (D.I i11), (D.S s12)] →
       (-9223372036854775808 ≤ i10 ∧ i10 < 9223372036854775808) →
       (-9223372036854775808 ≤ i11 ∧ i11 < 9223372036854775808) →
       ((s12.size : Int) ≤ 9223372036854775807) →
       cText.sig.post [(D.S s0), (D.I i1), (D.I i2), (D.I i3), (D.I i10), (D.I i11), (D.S s12)])))))) ∧ (
     (i8 ≤ (IntKind.wrap .u64 i3)) →
     ((
      ((
       ((IntKind.wrap .u64 (IntKind.wrap .i64 (((s0.size : Nat) : Int) - i6))) < i8) →
       ((
        ((2 : Int) ≠ (0 : Int)) →
        cText.sig.post [(D.S s0), (D.I i1), (D.I i2), (D.I i3), (D.I i1), (D.I (2 : Int)), (D.S (⟨#[]⟩ : ByteArray))]) ∧ (
        ((2 : Int) = (0 : Int)) →
        cRaw.sig.pre [(D.S s0), (D.I i6), (D.I (2 : Int)), (D.I (IntKind.wrap .i64 i8))] ∧ (
        ∀ (i10 : Int),
        ∀ (i11 : Int),
        ∀ (s12 : ByteArray),
        cRaw.sig.post [(D.S s0), (D.I i6), (D.I (2 : Int)), (D.I (IntKind.wrap .i64 i8)), (D.I i10), (D.I i11), (D.S s12)] →
        (-9223372036854775808 ≤ i10 ∧ i10 < 9223372036854775808) →
        (-9223372036854775808 ≤ i11 ∧ i11 < 9223372036854775808) →
        ((s12.size : Int) ≤ 9223372036854775807) →
        cText.sig.post [(D.S s0), (D.I i1), (D.I i2), (D.I i3), (D.I i10), (D.I i11), (D.S s12)])))) ∧ (
       (i8 ≤ (IntKind.wrap .u64 (IntKind.wrap .i64 (((s0.size : Nat) : Int) - i6)))) →
       ((
        (i7 ≠ (0 : Int)) →
        cText.sig.post [(D.S s0), (D.I i1), (D.I i2), (D.I i3), (D.I i1), (D.I i7), (D.S (⟨#[]⟩ : ByteArray))]) ∧ (
        (i7 = (0 : Int)) →
        cRaw.sig.pre [(D.S s0), (D.I i6), (D.I i7), (D.I (IntKind.wrap .i64 i8))] ∧ (
        ∀ (i10 : Int),
        ∀ (i11 : Int),
        ∀ (s12 : ByteArray),
        cRaw.sig.post [(D.S s0), (D.I i6), (D.I i7), (D.I (IntKind.wrap .i64 i8)), (D.I i10), (D.I i11), (D.S s12)] →
        (-9223372036854775808 ≤ i10 ∧ i10 < 9223372036854775808) →
        (-9223372036854775808 ≤ i11 ∧ i11 < 9223372036854775808) →
        ((s12.size : Int) ≤ 9223372036854775807) →
        cText.sig.post [(D.S s0), (D.I i1), (D.I i2), (D.I i3), (D.I i10), (D.I i11), (D.S s12)])))))) ∧ (
      (i7 ≠ (0 : Int)) →
      ((
       (i7 ≠ (0 : Int)) →
       cText.sig.post [(D.S s0), (D.I i1), (D.I i2), (D.I i3), (D.I i1), (D.I i7), (D.S (⟨#[]⟩ : ByteArray))]) ∧ (
       (i7 = (0 : Int)) →
       cRaw.sig.pre [(D.S s0), (D.I i6), (D.I i7), (D.I (IntKind.wrap .i64 i8))] ∧ (
       ∀ (i10 : Int),
       ∀ (i11 : Int),
       ∀ (s12 : ByteArray),
       cRaw.sig.post [(D.S s0), (D.I i6), (D.I i7), (D.I (IntKind.wrap .i64 i8)), (D.I i10), (D.I i11), (D.S s12)] →
       (-9223372036854775808 ≤ i10 ∧ i10 < 9223372036854775808) →
       (-9223372036854775808 ≤ i11 ∧ i11 < 9223372036854775808) →
       ((s12.size : Int) ≤ 9223372036854775807) →
       cText.sig.post [(D.S s0), (D.I i1), (D.I i2), (D.I i3), (D.I i10), (D.I i11), (D.S s12)])))))))) ∧ (
    (i3 < (0 : Int)) →
    ((
     ((
      ((IntKind.wrap .u64 (IntKind.wrap .i64 (((s0.size : Nat) : Int) - i6))) < i8) →
      ((
       ((2 : Int) ≠ (0 : Int)) →
       cText.sig.post [(D.S s0), (D.I i1), (D.I i2), (D.I i3), (D.I i1), (D.I (2 : Int)), (D.S (⟨#[]⟩ : ByteArray))]) ∧ (
       ((2 : Int) = (0 : Int)) →
       cRaw.sig.pre [(D.S s0), (D.I i6), (D.I (2 : Int)), (D.I (IntKind.wrap .i64 i8))] ∧ (
       ∀ (i10 : Int),
       ∀ (i11 : Int),
       ∀ (s12 : ByteArray),
       cRaw.sig.post [(D.S s0), (D.I i6), (D.I (2 : Int)), (D.I (IntKind.wrap .i64 i8)), (D.I i10), (D.I i11), (D.S s12)] →
       (-9223372036854775808 ≤ i10 ∧ i10 < 9223372036854775808) →
       (-9223372036854775808 ≤ i11 ∧ i11 < 9223372036854775808) →
       ((s12.size : Int) ≤ 9223372036854775807) →
       cText.sig.post [(D.S s0), (D.I i1), (D.I i2), (D.I i3), (D.I i10), (D.I i11), (D.S s12)])))) ∧ (
      (i8 ≤ (IntKind.wrap .u64 (IntKind.wrap .i64 (((s0.size : Nat) : Int) - i6)))) →
      ((
       (i7 ≠ (0 : Int)) →
       cText.sig.post [(D.S s0), (D.I i1), (D.I i2), (D.I i3), (D.I i1), (D.I i7), (D.S (⟨#[]⟩ : ByteArray))]) ∧ (
       (i7 = (0 : Int)) →
       cRaw.sig.pre [(D.S s0), (D.I i6), (D.I i7), (D.I (IntKind.wrap .i64 i8))] ∧ (
       ∀ (i10 : Int),
       ∀ (i11 : Int),
       ∀ (s12 : ByteArray),
       cRaw.sig.post [(D.S s0), (D.I i6), (D.I i7), (D.I (IntKind.wrap .i64 i8)), (D.I i10), (D.I i11), (D.S s12)] →
       (-9223372036854775808 ≤ i10 ∧ i10 < 9223372036854775808) →
       (-9223372036854775808 ≤ i11 ∧ i11 < 9223372036854775808) →
       ((s12.size : Int) ≤ 9223372036854775807) →
       cText.sig.post [(D.S s0), (D.I i1), (D.I i2), (D.I i3), (D.I i10), (D.I i11), (D.S s12)])))))) ∧ (
     (i7 ≠ (0 : Int)) →
     ((
      (i7 ≠ (0 : Int)) →
      cText.sig.post [(D.S s0), (D.I i1), (D.I i2), (D.I i3), (D.I i1), (D.I i7), (D.S (⟨#[]⟩ : ByteArray))]) ∧ (
      (i7 = (0 : Int)) →
      cRaw.sig.pre [(D.S s0), (D.I i6), (D.I i7), (D.I (IntKind.wrap .i64 i8))] ∧ (
      ∀ (i10 : Int),
      ∀ (i11 : Int),
      ∀ (s12 : ByteArray),
      cRaw.sig.post [(D.S s0), (D.I i6), (D.I i7), (D.I (IntKind.wrap .i64 i8)), (D.I i10), (D.I i11), (D.S s12)] →
      (-9223372036854775808 ≤ i10 ∧ i10 < 9223372036854775808) →
      (-9223372036854775808 ≤ i11 ∧ i11 < 9223372036854775808) →
      ((s12.size : Int) ≤ 9223372036854775807) →
      cText.sig.post [(D.S s0), (D.I i1), (D.I i2), (D.I i3), (D.I i10), (D.I i11), (D.S s12)])))))))))) ∧ (
  (i7 ≠ (0 : Int)) →
  ((
   (i7 = (0 : Int)) →
   ((
    ((IntKind.wrap .u64 (IntKind.wrap .i64 (((s0.size : Nat) : Int) - i6))) < i8) →
    ((
     ((2 : Int) ≠ (0 : Int)) →
     cText.sig.post [(D.S s0), (D.I i1), (D.I i2), (D.I i3), (D.I i1), (D.I (2 : Int)), (D.S (⟨#[]⟩ : ByteArray))]) ∧ (
     ((2 : Int) = (0 : Int)) →
     cRaw.sig.pre [(D.S s0), (D.I i6), (D.I (2 : Int)), (D.I (IntKind.wrap .i64 i8))] ∧ (
     ∀ (i10 : Int),
     ∀ (i11 : Int),
     ∀ (s12 : ByteArray),
     cRaw.sig.post [(D.S s0), (D.I i6), (D.I (2 : Int)), (D.I (IntKind.wrap .i64 i8)), (D.I i10), (D.I i11), (D.S s12)] →
     (-9223372036854775808 ≤ i10 ∧ i10 < 9223372036854775808) →
     (-9223372036854775808 ≤ i11 ∧ i11 < 9223372036854775808) →
     ((s12.size : Int) ≤ 9223372036854775807) →
     cText.sig.post [(D.S s0), (D.I i1), (D.I i2), (D.I i3), (D.I i10), (D.I i11), (D.S s12)])))) ∧ (
    (i8 ≤ (IntKind.wrap .u64 (IntKind.wrap .i64 (((s0.size : Nat) : Int) - i6)))) →
    ((
     (i7 ≠ (0 : Int)) →
     cText.sig.post [(D.S s0), (D.I i1), (D.I i2), (D.I i3), (D.I i1), (D.I i7), (D.S (⟨#[]⟩ : ByteArray))]) ∧ (
     (i7 = (0 : Int)) →
     cRaw.sig.pre [(D.S s0), (D.I i6), (D.I i7), (D.I (IntKind.wrap .i64 i8))] ∧ (
     ∀ (i10 : Int),
     ∀ (i11 : Int),
     ∀ (s12 : ByteArray),
     cRaw.sig.post [(D.S s0), (D.I i6), (D.I i7), (D.I (IntKind.wrap .i64 i8)), (D.I i10), (D.I i11), (D.S s12)] →
     (-9223372036854775808 ≤ i10 ∧ i10 < 9223372036854775808) →
     (-9223372036854775808 ≤ i11 ∧ i11 < 9223372036854775808) →
     ((s12.size : Int) ≤ 9223372036854775807) →
     cText.sig.post [(D.S s0), (D.I i1), (D.I i2), (D.I i3), (D.I i10), (D.I i11), (D.S s12)])))))) ∧ (
   (i7 ≠ (0 : Int)) →
   ((
    (i7 ≠ (0 : Int)) →
    cText.sig.post [(D.S s0), (D.I i1), (D.I i2), (D.I i3), (D.I i1), (D.I i7), (D.S (⟨#[]⟩ : ByteArray))]) ∧ (
    (i7 = (0 : Int)) →
    cRaw.sig.pre [(D.S s0), (D.I i6), (D.I i7), (D.I (IntKind.wrap .i64 i8))] ∧ (
    ∀ (i10 : Int),
    ∀ (i11 : Int),
    ∀ (s12 : ByteArray),
    cRaw.sig.post [(D.S s0), (D.I i6), (D.I i7), (D.I (IntKind.wrap .i64 i8)), (D.I i10), (D.I i11), (D.S s12)] →
    (-9223372036854775808 ≤ i10 ∧ i10 < 9223372036854775808) →
    (-9223372036854775808 ≤ i11 ∧ i11 < 9223372036854775808) →
    ((s12.size : Int) ≤ 9223372036854775807) →
    cText.sig.post [(D.S s0), (D.I i1), (D.I i2), (D.I i3), (D.I i10), (D.I i11), (D.S s12)]))))))))
theorem cText.den : cText.vc.den2 (mkEnv cText.sig [cNum.sig, cRaw.sig] []) [] = cText.Pure := by kernel_rfl
def cDone.vc : VC :=
 (.all .S
 (.all .I
 (.all .I
 (.know (.ssz (.at 0))
 (.know (.has .i64 (.at 1))
 (.know (.has .i64 (.at 2))
 (.post 0 [(.at 0), (.at 1), (.at 2)]
 (.all .N
 (.all .N
 (.and
  (.imp (.o2 .eq (.at 2) (.int 0)) true
  (.and
   (.imp (.o2 .lt (.at 1) (.o1 .slen (.at 0))) true
   (.ret [(.at 0), (.at 1), (.at 2), (.at 1), (.int 3)]))
   (.imp (.o2 .lt (.at 1) (.o1 .slen (.at 0))) false
   (.ret [(.at 0), (.at 1), (.at 2), (.at 1), (.at 2)]))))
  (.imp (.o2 .eq (.at 2) (.int 0)) false
  (.ret [(.at 0), (.at 1), (.at 2), (.at 1), (.at 2)]))))))))))))
def cDone.Pure : Prop :=
 ∀ (s0 : ByteArray),
 ∀ (i1 : Int),
 ∀ (i2 : Int),
 ((s0.size : Int) ≤ 9223372036854775807) →
 (-9223372036854775808 ≤ i1 ∧ i1 < 9223372036854775808) →
 (-9223372036854775808 ≤ i2 ∧ i2 < 9223372036854775808) →
 cDone.sig.pre [(D.S s0), (D.I i1), (D.I i2)] →
 ∀ (n3 : Nat),
 ∀ (n4 : Nat),
 ((
  (i2 = (0 : Int)) →
  ((
   (i1 < ((s0.size : Nat) : Int)) →
   cDone.sig.post [(D.S s0), (D.I i1), (D.I i2), (D.I i1), (D.I (3 : Int))]) ∧ (
   (((s0.size : Nat) : Int) ≤ i1) →
   cDone.sig.post [(D.S s0), (D.I i1), (D.I i2), (D.I i1), (D.I i2)]))) ∧ (
  (i2 ≠ (0 : Int)) →
  cDone.sig.post [(D.S s0), (D.I i1), (D.I i2), (D.I i1), (D.I i2)]))
theorem cDone.den : cDone.vc.den2 (mkEnv cDone.sig [] []) [] = cDone.Pure := by kernel_rfl
def LPackOne.vc : VC :=
 (.all .S
 (.know (.ssz (.at 0))
 (.post 0 [(.at 0)]
 (.pre 1 [(.at 0), (.int 300)]
 (.all .S
 (.post 1 [(.at 0), (.int 300), (.at 1)]
 (.know (.ssz (.at 1))
 (.pre 2 [(.at 1)]
 (.all .N
 (.post 2 [(.at 1), (.at 2)]
 (.pre 3 [(.at 2), (.at 1), (.int 0), (.int 0)]
 (.all .I
 (.all .I
 (.all .I
 (.post 3 [(.at 2), (.at 1), (.int 0), (.int 0), (.at 3), (.at 4), (.at 5)]
 (.know (.has .u64 (.at 5))
 (.know (.has .i64 (.at 3))
 (.know (.has .i64 (.at 4))
 (.pre 4 [(.at 2), (.at 1), (.at 3), (.at 4)]
 (.all .I
 (.all .I
 (.all .I
 (.post 4 [(.at 2), (.at 1), (.at 3), (.at 4), (.at 6), (.at 7), (.at 8)]
 (.know (.has .i64 (.at 8))
 (.know (.has .i64 (.at 6))
 (.know (.has .i64 (.at 7))
 (.and
  (.imp (.o2 .eq (.at 8) (.int 0)) true
  (.pre 5 [(.at 5)]
  (.all .S
  (.post 5 [(.at 5), (.at 9)]
  (.know (.ssz (.at 9))
  (.and
   (.imp (.o1 .not (.o2 .eqs (.at 1) (.at 9))) true
   (.ret [(.at 0), (.bool false)]))
   (.imp (.o1 .not (.o2 .eqs (.at 1) (.at 9))) false
   (.pre 2 [(.at 1)]
   (.all .N
   (.post 2 [(.at 1), (.at 10)]
   (.pre 6 [(.at 10), (.at 1), (.int 0), (.int 0), (.int 300)]
   (.all .I
   (.all .I
   (.all .S
   (.post 6 [(.at 10), (.at 1), (.int 0), (.int 0), (.int 300), (.at 11), (.at 12), (.at 13)]
   (.know (.ssz (.at 13))
   (.know (.has .i64 (.at 11))
   (.know (.has .i64 (.at 12))
   (.pre 4 [(.at 10), (.at 1), (.at 11), (.at 12)]
   (.all .I
   (.all .I
   (.all .I
   (.post 4 [(.at 10), (.at 1), (.at 11), (.at 12), (.at 14), (.at 15), (.at 16)]
   (.know (.has .i64 (.at 16))
   (.know (.has .i64 (.at 14))
   (.know (.has .i64 (.at 15))
   (.and
    (.imp (.o2 .eq (.at 16) (.int 0)) true
    (.pre 7 [(.at 13)]
    (.all .S
    (.post 7 [(.at 13), (.at 17)]
    (.know (.ssz (.at 17))
    (.and
     (.imp (.o1 .not (.o2 .eqs (.at 1) (.at 17))) true
     (.ret [(.at 0), (.bool false)]))
     (.imp (.o1 .not (.o2 .eqs (.at 1) (.at 17))) false
     (.pre 2 [(.at 1)]
     (.all .N
     (.post 2 [(.at 1), (.at 18)]
     (.pre 8 [(.at 18), (.at 1), (.int 0), (.int 0), (.int 4)]
     (.all .I
     (.all .I
     (.post 8 [(.at 18), (.at 1), (.int 0), (.int 0), (.int 4), (.at 19), (.at 20)]
     (.know (.has .i64 (.at 19))
     (.know (.has .i64 (.at 20))
     (.pre 8 [(.at 18), (.at 1), (.at 19), (.at 20), (.int 2)]
     (.all .I
     (.all .I
     (.post 8 [(.at 18), (.at 1), (.at 19), (.at 20), (.int 2), (.at 21), (.at 22)]
     (.know (.has .i64 (.at 21))
     (.know (.has .i64 (.at 22))
     (.pre 11 []
     (.all .B
     (.post 11 [(.at 23)]
     (.and
      (.imp (.at 23) true
      (.pre 3 [(.at 18), (.at 1), (.at 21), (.at 22)]
      (.all .I
      (.all .I
      (.all .I
      (.post 3 [(.at 18), (.at 1), (.at 21), (.at 22), (.at 24), (.at 25), (.at 26)]
      (.know (.has .u64 (.at 26))
      (.know (.has .i64 (.at 24))
      (.know (.has .i64 (.at 25))
      (.and
       (.imp (.o2 .eq (.at 26) (.int 0)) true
       (.pre 9 [(.at 18), (.at 1), (.at 24), (.at 25)]
       (.post 9 [(.at 18), (.at 1), (.at 24), (.at 25)]
       (.and
        (.imp (.o2 .eq (.at 24) (.int 0)) true
        (.pre 10 [(.at 18), (.at 1), (.at 24), (.at 25)]
        (.post 10 [(.at 18), (.at 1), (.at 24), (.at 25)]
        (.ret [(.at 0), (.o2 .eq (.at 25) (.int 4))]))))
        (.imp (.o2 .eq (.at 24) (.int 0)) false
        (.ret [(.at 0), (.bool false)]))))))
       (.imp (.o2 .eq (.at 26) (.int 0)) false
       (.ret [(.at 0), (.bool false)]))))))))))))
      (.imp (.at 23) false
      (.ret [(.at 0), (.bool false)]))))))))))))))))))))))))))))
    (.imp (.o2 .eq (.at 16) (.int 0)) false
    (.pre 2 [(.at 1)]
    (.all .N
    (.post 2 [(.at 1), (.at 17)]
    (.pre 8 [(.at 17), (.at 1), (.int 0), (.int 0), (.int 4)]
    (.all .I
    (.all .I
    (.post 8 [(.at 17), (.at 1), (.int 0), (.int 0), (.int 4), (.at 18), (.at 19)]
    (.know (.has .i64 (.at 18))
    (.know (.has .i64 (.at 19))
    (.pre 8 [(.at 17), (.at 1), (.at 18), (.at 19), (.int 2)]
    (.all .I
    (.all .I
    (.post 8 [(.at 17), (.at 1), (.at 18), (.at 19), (.int 2), (.at 20), (.at 21)]
    (.know (.has .i64 (.at 20))
    (.know (.has .i64 (.at 21))
    (.pre 11 []
    (.all .B
    (.post 11 [(.at 22)]
    (.and
     (.imp (.at 22) true
     (.pre 3 [(.at 17), (.at 1), (.at 20), (.at 21)]
     (.all .I
     (.all .I
     (.all .I
     (.post 3 [(.at 17), (.at 1), (.at 20), (.at 21), (.at 23), (.at 24), (.at 25)]
     (.know (.has .u64 (.at 25))
     (.know (.has .i64 (.at 23))
     (.know (.has .i64 (.at 24))
     (.and
      (.imp (.o2 .eq (.at 25) (.int 0)) true
      (.pre 9 [(.at 17), (.at 1), (.at 23), (.at 24)]
      (.post 9 [(.at 17), (.at 1), (.at 23), (.at 24)]
      (.and
       (.imp (.o2 .eq (.at 23) (.int 0)) true
       (.pre 10 [(.at 17), (.at 1), (.at 23), (.at 24)]
       (.post 10 [(.at 17), (.at 1), (.at 23), (.at 24)]
       (.ret [(.at 0), (.o2 .eq (.at 24) (.int 4))]))))
       (.imp (.o2 .eq (.at 23) (.int 0)) false
       (.ret [(.at 0), (.bool false)]))))))
      (.imp (.o2 .eq (.at 25) (.int 0)) false
      (.ret [(.at 0), (.bool false)]))))))))))))
     (.imp (.at 22) false
     (.ret [(.at 0), (.bool false)])))))))))))))))))))))))))))))))))))))))))))))))))
  (.imp (.o2 .eq (.at 8) (.int 0)) false
  (.pre 2 [(.at 1)]
  (.all .N
  (.post 2 [(.at 1), (.at 9)]
  (.pre 6 [(.at 9), (.at 1), (.int 0), (.int 0), (.int 300)]
  (.all .I
  (.all .I
  (.all .S
  (.post 6 [(.at 9), (.at 1), (.int 0), (.int 0), (.int 300), (.at 10), (.at 11), (.at 12)]
  (.know (.ssz (.at 12))
  (.know (.has .i64 (.at 10))
  (.know (.has .i64 (.at 11))
  (.pre 4 [(.at 9), (.at 1), (.at 10), (.at 11)]
  (.all .I
  (.all .I
  (.all .I
  (.post 4 [(.at 9), (.at 1), (.at 10), (.at 11), (.at 13), (.at 14), (.at 15)]
  (.know (.has .i64 (.at 15))
  (.know (.has .i64 (.at 13))
  (.know (.has .i64 (.at 14))
  (.and
   (.imp (.o2 .eq (.at 15) (.int 0)) true
   (.pre 7 [(.at 12)]
   (.all .S
   (.post 7 [(.at 12), (.at 16)]
   (.know (.ssz (.at 16))
   (.and
    (.imp (.o1 .not (.o2 .eqs (.at 1) (.at 16))) true
    (.ret [(.at 0), (.bool false)]))
    (.imp (.o1 .not (.o2 .eqs (.at 1) (.at 16))) false
    (.pre 2 [(.at 1)]
    (.all .N
    (.post 2 [(.at 1), (.at 17)]
    (.pre 8 [(.at 17), (.at 1), (.int 0), (.int 0), (.int 4)]
    (.all .I
    (.all .I
    (.post 8 [(.at 17), (.at 1), (.int 0), (.int 0), (.int 4), (.at 18), (.at 19)]
    (.know (.has .i64 (.at 18))
    (.know (.has .i64 (.at 19))
    (.pre 8 [(.at 17), (.at 1), (.at 18), (.at 19), (.int 2)]
    (.all .I
    (.all .I
    (.post 8 [(.at 17), (.at 1), (.at 18), (.at 19), (.int 2), (.at 20), (.at 21)]
    (.know (.has .i64 (.at 20))
    (.know (.has .i64 (.at 21))
    (.pre 11 []
    (.all .B
    (.post 11 [(.at 22)]
    (.and
     (.imp (.at 22) true
     (.pre 3 [(.at 17), (.at 1), (.at 20), (.at 21)]
     (.all .I
     (.all .I
     (.all .I
     (.post 3 [(.at 17), (.at 1), (.at 20), (.at 21), (.at 23), (.at 24), (.at 25)]
     (.know (.has .u64 (.at 25))
     (.know (.has .i64 (.at 23))
     (.know (.has .i64 (.at 24))
     (.and
      (.imp (.o2 .eq (.at 25) (.int 0)) true
      (.pre 9 [(.at 17), (.at 1), (.at 23), (.at 24)]
      (.post 9 [(.at 17), (.at 1), (.at 23), (.at 24)]
      (.and
       (.imp (.o2 .eq (.at 23) (.int 0)) true
       (.pre 10 [(.at 17), (.at 1), (.at 23), (.at 24)]
       (.post 10 [(.at 17), (.at 1), (.at 23), (.at 24)]
       (.ret [(.at 0), (.o2 .eq (.at 24) (.int 4))]))))
       (.imp (.o2 .eq (.at 23) (.int 0)) false
       (.ret [(.at 0), (.bool false)]))))))
      (.imp (.o2 .eq (.at 25) (.int 0)) false
      (.ret [(.at 0), (.bool false)]))))))))))))
     (.imp (.at 22) false
     (.ret [(.at 0), (.bool false)]))))))))))))))))))))))))))))
   (.imp (.o2 .eq (.at 15) (.int 0)) false
   (.pre 2 [(.at 1)]
   (.all .N
   (.post 2 [(.at 1), (.at 16)]
   (.pre 8 [(.at 16), (.at 1), (.int 0), (.int 0), (.int 4)]
   (.all .I
   (.all .I
   (.post 8 [(.at 16), (.at 1), (.int 0), (.int 0), (.int 4), (.at 17), (.at 18)]
   (.know (.has .i64 (.at 17))
   (.know (.has .i64 (.at 18))
   (.pre 8 [(.at 16), (.at 1), (.at 17), (.at 18), (.int 2)]
   (.all .I
   (.all .I
   (.post 8 [(.at 16), (.at 1), (.at 17), (.at 18), (.int 2), (.at 19), (.at 20)]
   (.know (.has .i64 (.at 19))
   (.know (.has .i64 (.at 20))
   (.pre 11 []
   (.all .B
   (.post 11 [(.at 21)]
   (.and
    (.imp (.at 21) true
    (.pre 3 [(.at 16), (.at 1), (.at 19), (.at 20)]
    (.all .I
    (.all .I
    (.all .I
    (.post 3 [(.at 16), (.at 1), (.at 19), (.at 20), (.at 22), (.at 23), (.at 24)]
    (.know (.has .u64 (.at 24))
    (.know (.has .i64 (.at 22))
    (.know (.has .i64 (.at 23))
    (.and
     (.imp (.o2 .eq (.at 24) (.int 0)) true
     (.pre 9 [(.at 16), (.at 1), (.at 22), (.at 23)]
     (.post 9 [(.at 16), (.at 1), (.at 22), (.at 23)]
     (.and
      (.imp (.o2 .eq (.at 22) (.int 0)) true
      (.pre 10 [(.at 16), (.at 1), (.at 22), (.at 23)]
      (.post 10 [(.at 16), (.at 1), (.at 22), (.at 23)]
      (.ret [(.at 0), (.o2 .eq (.at 23) (.int 4))]))))
      (.imp (.o2 .eq (.at 22) (.int 0)) false
      (.ret [(.at 0), (.bool false)]))))))
     (.imp (.o2 .eq (.at 24) (.int 0)) false
     (.ret [(.at 0), (.bool false)]))))))))))))
    (.imp (.at 21) false
    (.ret [(.at 0), (.bool false)]))))))))))))))))))))))))))))))))))))))))))))))))))))))))))))))))))))))
def LPackOne.Pure : Prop :=
 ∀ (s0 : ByteArray),
 ((s0.size : Int) ≤ 9223372036854775807) →
 LPackOne.sig.pre [(D.S s0)] →
 Cut.sig.pre [(D.S s0), (D.I (300 : Int))] ∧ (
 ∀ (s1 : ByteArray),
 Cut.sig.post [(D.S s0), (D.I (300 : Int)), (D.S s1)] →
 ((s1.size : Int) ≤ 9223372036854775807) →
 PRead.sig.pre [(D.S s1)] ∧ (
 ∀ (n2 : Nat),
 PRead.sig.post [(D.S s1), (D.N n2)] →
 PNum.sig.pre [(D.N n2), (D.S s1), (D.I (0 : Int)), (D.I (0 : Int))] ∧ (
 ∀ (i3 : Int),
 ∀ (i4 : Int),
 ∀ (i5 : Int),
 PNum.sig.post [(D.N n2), (D.S s1), (D.I (0 : Int)), (D.I (0 : Int)), (D.I i3), (D.I i4), (D.I i5)] →
 (0 ≤ i5 ∧ i5 < 18446744073709551616) →
 (-9223372036854775808 ≤ i3 ∧ i3 < 9223372036854775808) →
 (-9223372036854775808 ≤ i4 ∧ i4 < 9223372036854775808) →
 PDone.sig.pre [(D.N n2), (D.S s1), (D.I i3), (D.I i4)] ∧ (
 ∀ (i6 : Int),
 ∀ (i7 : Int),
 ∀ (i8 : Int),
 PDone.sig.post [(D.N n2), (D.S s1), (D.I i3), (D.I i4), (D.I i6), (D.I i7), (D.I i8)] →
 (-9223372036854775808 ≤ i8 ∧ i8 < 9223372036854775808) →
 (-9223372036854775808 ≤ i6 ∧ i6 < 9223372036854775808) →
 (-9223372036854775808 ≤ i7 ∧ i7 < 9223372036854775808) →
 ((
  (i8 = (0 : Int)) →
  RNum.sig.pre [(D.I i5)] ∧ (
  ∀ (s9 : ByteArray),
  RNum.sig.post [(D.I i5), (D.S s9)] →
  ((s9.size : Int) ≤ 9223372036854775807) →
  ((
   (s1 ≠ s9) →
   LPackOne.sig.post [(D.S s0), (D.B false)]) ∧ (
   (s1 = s9) →
   PRead.sig.pre [(D.S s1)] ∧ (
   ∀ (n10 : Nat),
   PRead.sig.post [(D.S s1), (D.N n10)] →
   PText.sig.pre [(D.N n10), (D.S s1), (D.I (0 : Int)), (D.I (0 : Int)), (D.I (300 : Int))] ∧ (
   ∀ (i11 : Int),
   ∀ (i12 : Int),
   ∀ (s13 : ByteArray),
   PText.sig.post [(D.N n10), (D.S s1), (D.I (0 : Int)), (D.I (0 : Int)), (D.I (300 : Int)), (D.I i11), (D.I i12), (D.S s13)] →
   ((s13.size : Int) ≤ 9223372036854775807) →
   (-9223372036854775808 ≤ i11 ∧ i11 < 9223372036854775808) →
   (-9223372036854775808 ≤ i12 ∧ i12 < 9223372036854775808) →
   PDone.sig.pre [(D.N n10), (D.S s1), (D.I i11), (D.I i12)] ∧ (
   ∀ (i14 : Int),
   ∀ (i15 : Int),
   ∀ (i16 : Int),
   PDone.sig.post [(D.N n10), (D.S s1), (D.I i11), (D.I i12), (D.I i14), (D.I i15), (D.I i16)] →
   (-9223372036854775808 ≤ i16 ∧ i16 < 9223372036854775808) →
   (-9223372036854775808 ≤ i14 ∧ i14 < 9223372036854775808) →
   (-9223372036854775808 ≤ i15 ∧ i15 < 9223372036854775808) →
   ((
    (i16 = (0 : Int)) →
    RText.sig.pre [(D.S s13)] ∧ (
    ∀ (s17 : ByteArray),
    RText.sig.post [(D.S s13), (D.S s17)] →
    ((s17.size : Int) ≤ 9223372036854775807) →
    ((
     (s1 ≠ s17) →
     LPackOne.sig.post [(D.S s0), (D.B false)]) ∧ (
     (s1 = s17) →
     PRead.sig.pre [(D.S s1)] ∧ (
     ∀ (n18 : Nat),
     PRead.sig.post [(D.S s1), (D.N n18)] →
     PFail.sig.pre [(D.N n18), (D.S s1), (D.I (0 : Int)), (D.I (0 : Int)), (D.I (4 : Int))] ∧ (
     ∀ (i19 : Int),
     ∀ (i20 : Int),
     PFail.sig.post [(D.N n18), (D.S s1), (D.I (0 : Int)), (D.I (0 : Int)), (D.I (4 : Int)), (D.I i19), (D.I i20)] →
     (-9223372036854775808 ≤ i19 ∧ i19 < 9223372036854775808) →
     (-9223372036854775808 ≤ i20 ∧ i20 < 9223372036854775808) →
     PFail.sig.pre [(D.N n18), (D.S s1), (D.I i19), (D.I i20), (D.I (2 : Int))] ∧ (
     ∀ (i21 : Int),
     ∀ (i22 : Int),
     PFail.sig.post [(D.N n18), (D.S s1), (D.I i19), (D.I i20), (D.I (2 : Int)), (D.I i21), (D.I i22)] →
     (-9223372036854775808 ≤ i21 ∧ i21 < 9223372036854775808) →
     (-9223372036854775808 ≤ i22 ∧ i22 < 9223372036854775808) →
     Awake04.sig.pre [] ∧ (
     ∀ (b23 : Bool),
     Awake04.sig.post [(D.B b23)] →
     ((
      (b23 = true) →
      PNum.sig.pre [(D.N n18), (D.S s1), (D.I i21), (D.I i22)] ∧ (
      ∀ (i24 : Int),
      ∀ (i25 : Int),
      ∀ (i26 : Int),
      PNum.sig.post [(D.N n18), (D.S s1), (D.I i21), (D.I i22), (D.I i24), (D.I i25), (D.I i26)] →
      (0 ≤ i26 ∧ i26 < 18446744073709551616) →
      (-9223372036854775808 ≤ i24 ∧ i24 < 9223372036854775808) →
      (-9223372036854775808 ≤ i25 ∧ i25 < 9223372036854775808) →
      ((
       (i26 = (0 : Int)) →
       PAt.sig.pre [(D.N n18), (D.S s1), (D.I i24), (D.I i25)] ∧ (
       PAt.sig.post [(D.N n18), (D.S s1), (D.I i24), (D.I i25)] →
       ((
        (i24 = (0 : Int)) →
        PErr.sig.pre [(D.N n18), (D.S s1), (D.I i24), (D.I i25)] ∧ (
        PErr.sig.post [(D.N n18), (D.S s1), (D.I i24), (D.I i25)] →
        LPackOne.sig.post [(D.S s0), (D.B (i25 == (4 : Int)))])) ∧ (
        (i24 ≠ (0 : Int)) →
        LPackOne.sig.post [(D.S s0), (D.B false)])))) ∧ (
       (i26 ≠ (0 : Int)) →
       LPackOne.sig.post [(D.S s0), (D.B false)])))) ∧ (
      (b23 = false) →
      LPackOne.sig.post [(D.S s0), (D.B false)])))))))))) ∧ (
    (i16 ≠ (0 : Int)) →
    PRead.sig.pre [(D.S s1)] ∧ (
    ∀ (n17 : Nat),
    PRead.sig.post [(D.S s1), (D.N n17)] →
    PFail.sig.pre [(D.N n17), (D.S s1), (D.I (0 : Int)), (D.I (0 : Int)), (D.I (4 : Int))] ∧ (
    ∀ (i18 : Int),
    ∀ (i19 : Int),
    PFail.sig.post [(D.N n17), (D.S s1), (D.I (0 : Int)), (D.I (0 : Int)), (D.I (4 : Int)), (D.I i18), (D.I i19)] →
    (-9223372036854775808 ≤ i18 ∧ i18 < 9223372036854775808) →
    (-9223372036854775808 ≤ i19 ∧ i19 < 9223372036854775808) →
    PFail.sig.pre [(D.N n17), (D.S s1), (D.I i18), (D.I i19), (D.I (2 : Int))] ∧ (
    ∀ (i20 : Int),
    ∀ (i21 : Int),
    PFail.sig.post [(D.N n17), (D.S s1), (D.I i18), (D.I i19), (D.I (2 : Int)), (D.I i20), (D.I i21)] →
    (-9223372036854775808 ≤ i20 ∧ i20 < 9223372036854775808) →
    (-9223372036854775808 ≤ i21 ∧ i21 < 9223372036854775808) →
    Awake04.sig.pre [] ∧ (
    ∀ (b22 : Bool),
    Awake04.sig.post [(D.B b22)] →
    ((
     (b22 = true) →
     PNum.sig.pre [(D.N n17), (D.S s1), (D.I i20), (D.I i21)] ∧ (
     ∀ (i23 : Int),
     ∀ (i24 : Int),
     ∀ (i25 : Int),
     PNum.sig.post [(D.N n17), (D.S s1), (D.I i20), (D.I i21), (D.I i23), (D.I i24), (D.I i25)] →
     (0 ≤ i25 ∧ i25 < 18446744073709551616) →
     (-9223372036854775808 ≤ i23 ∧ i23 < 9223372036854775808) →
     (-9223372036854775808 ≤ i24 ∧ i24 < 9223372036854775808) →
     ((
      (i25 = (0 : Int)) →
      PAt.sig.pre [(D.N n17), (D.S s1), (D.I i23), (D.I i24)] ∧ (
      PAt.sig.post [(D.N n17), (D.S s1), (D.I i23), (D.I i24)] →
      ((
       (i23 = (0 : Int)) →
       PErr.sig.pre [(D.N n17), (D.S s1), (D.I i23), (D.I i24)] ∧ (
       PErr.sig.post [(D.N n17), (D.S s1), (D.I i23), (D.I i24)] →
       LPackOne.sig.post [(D.S s0), (D.B (i24 == (4 : Int)))])) ∧ (
       (i23 ≠ (0 : Int)) →
       LPackOne.sig.post [(D.S s0), (D.B false)])))) ∧ (
      (i25 ≠ (0 : Int)) →
      LPackOne.sig.post [(D.S s0), (D.B false)])))) ∧ (
     (b22 = false) →
     LPackOne.sig.post [(D.S s0), (D.B false)]))))))))))))))) ∧ (
  (i8 ≠ (0 : Int)) →
  PRead.sig.pre [(D.S s1)] ∧ (
  ∀ (n9 : Nat),
  PRead.sig.post [(D.S s1), (D.N n9)] →
  PText.sig.pre [(D.N n9), (D.S s1), (D.I (0 : Int)), (D.I (0 : Int)), (D.I (300 : Int))] ∧ (
  ∀ (i10 : Int),
  ∀ (i11 : Int),
  ∀ (s12 : ByteArray),
  PText.sig.post [(D.N n9), (D.S s1), (D.I (0 : Int)), (D.I (0 : Int)), (D.I (300 : Int)), (D.I i10), (D.I i11), (D.S s12)] →
  ((s12.size : Int) ≤ 9223372036854775807) →
  (-9223372036854775808 ≤ i10 ∧ i10 < 9223372036854775808) →
  (-9223372036854775808 ≤ i11 ∧ i11 < 9223372036854775808) →
  PDone.sig.pre [(D.N n9), (D.S s1), (D.I i10), (D.I i11)] ∧ (
  ∀ (i13 : Int),
  ∀ (i14 : Int),
  ∀ (i15 : Int),
  PDone.sig.post [(D.N n9), (D.S s1), (D.I i10), (D.I i11), (D.I i13), (D.I i14), (D.I i15)] →
  (-9223372036854775808 ≤ i15 ∧ i15 < 9223372036854775808) →
  (-9223372036854775808 ≤ i13 ∧ i13 < 9223372036854775808) →
  (-9223372036854775808 ≤ i14 ∧ i14 < 9223372036854775808) →
  ((
   (i15 = (0 : Int)) →
   RText.sig.pre [(D.S s12)] ∧ (
   ∀ (s16 : ByteArray),
   RText.sig.post [(D.S s12), (D.S s16)] →
   ((s16.size : Int) ≤ 9223372036854775807) →
   ((
    (s1 ≠ s16) →
    LPackOne.sig.post [(D.S s0), (D.B false)]) ∧ (
    (s1 = s16) →
    PRead.sig.pre [(D.S s1)] ∧ (
    ∀ (n17 : Nat),
    PRead.sig.post [(D.S s1), (D.N n17)] →
    PFail.sig.pre [(D.N n17), (D.S s1), (D.I (0 : Int)), (D.I (0 : Int)), (D.I (4 : Int))] ∧ (
    ∀ (i18 : Int),
    ∀ (i19 : Int),
    PFail.sig.post [(D.N n17), (D.S s1), (D.I (0 : Int)), (D.I (0 : Int)), (D.I (4 : Int)), (D.I i18), (D.I i19)] →
    (-9223372036854775808 ≤ i18 ∧ i18 < 9223372036854775808) →
    (-9223372036854775808 ≤ i19 ∧ i19 < 9223372036854775808) →
    PFail.sig.pre [(D.N n17), (D.S s1), (D.I i18), (D.I i19), (D.I (2 : Int))] ∧ (
    ∀ (i20 : Int),
    ∀ (i21 : Int),
    PFail.sig.post [(D.N n17), (D.S s1), (D.I i18), (D.I i19), (D.I (2 : Int)), (D.I i20), (D.I i21)] →
    (-9223372036854775808 ≤ i20 ∧ i20 < 9223372036854775808) →
    (-9223372036854775808 ≤ i21 ∧ i21 < 9223372036854775808) →
    Awake04.sig.pre [] ∧ (
    ∀ (b22 : Bool),
    Awake04.sig.post [(D.B b22)] →
    ((
     (b22 = true) →
     PNum.sig.pre [(D.N n17), (D.S s1), (D.I i20), (D.I i21)] ∧ (
     ∀ (i23 : Int),
     ∀ (i24 : Int),
     ∀ (i25 : Int),
     PNum.sig.post [(D.N n17), (D.S s1), (D.I i20), (D.I i21), (D.I i23), (D.I i24), (D.I i25)] →
     (0 ≤ i25 ∧ i25 < 18446744073709551616) →
     (-9223372036854775808 ≤ i23 ∧ i23 < 9223372036854775808) →
     (-9223372036854775808 ≤ i24 ∧ i24 < 9223372036854775808) →
     ((
      (i25 = (0 : Int)) →
      PAt.sig.pre [(D.N n17), (D.S s1), (D.I i23), (D.I i24)] ∧ (
      PAt.sig.post [(D.N n17), (D.S s1), (D.I i23), (D.I i24)] →
      ((
       (i23 = (0 : Int)) →
       PErr.sig.pre [(D.N n17), (D.S s1), (D.I i23), (D.I i24)] ∧ (
       PErr.sig.post [(D.N n17), (D.S s1), (D.I i23), (D.I i24)] →
       LPackOne.sig.post [(D.S s0), (D.B (i24 == (4 : Int)))])) ∧ (
       (i23 ≠ (0 : Int)) →
       LPackOne.sig.post [(D.S s0), (D.B false)])))) ∧ (
      (i25 ≠ (0 : Int)) →
      LPackOne.sig.post [(D.S s0), (D.B false)])))) ∧ (
     (b22 = false) →
     LPackOne.sig.post [(D.S s0), (D.B false)])))))))))) ∧ (
   (i15 ≠ (0 : Int)) →
   PRead.sig.pre [(D.S s1)] ∧ (
   ∀ (n16 : Nat),
   PRead.sig.post [(D.S s1), (D.N n16)] →
   PFail.sig.pre [(D.N n16), (D.S s1), (D.I (0 : Int)), (D.I (0 : Int)), (D.I (4 : Int))] ∧ (
   ∀ (i17 : Int),
   ∀ (i18 : Int),
   PFail.sig.post [(D.N n16), (D.S s1), (D.I (0 : Int)), (D.I (0 : Int)), (D.I (4 : Int)), (D.I i17), (D.I i18)] →
   (-9223372036854775808 ≤ i17 ∧ i17 < 9223372036854775808) →
   (-9223372036854775808 ≤ i18 ∧ i18 < 9223372036854775808) →
   PFail.sig.pre [(D.N n16), (D.S s1), (D.I i17), (D.I i18), (D.I (2 : Int))] ∧ (
   ∀ (i19 : Int),
   ∀ (i20 : Int),
   PFail.sig.post [(D.N n16), (D.S s1), (D.I i17), (D.I i18), (D.I (2 : Int)), (D.I i19), (D.I i20)] →
   (-9223372036854775808 ≤ i19 ∧ i19 < 9223372036854775808) →
   (-9223372036854775808 ≤ i20 ∧ i20 < 9223372036854775808) →
   Awake04.sig.pre [] ∧ (
   ∀ (b21 : Bool),
   Awake04.sig.post [(D.B b21)] →
   ((
    (b21 = true) →
    PNum.sig.pre [(D.N n16), (D.S s1), (D.I i19), (D.I i20)] ∧ (
    ∀ (i22 : Int),
    ∀ (i23 : Int),
    ∀ (i24 : Int),
    PNum.sig.post [(D.N n16), (D.S s1), (D.I i19), (D.I i20), (D.I i22), (D.I i23), (D.I i24)] →
    (0 ≤ i24 ∧ i24 < 18446744073709551616) →
    (-9223372036854775808 ≤ i22 ∧ i22 < 9223372036854775808) →
    (-9223372036854775808 ≤ i23 ∧ i23 < 9223372036854775808) →
    ((
     (i24 = (0 : Int)) →
     PAt.sig.pre [(D.N n16), (D.S s1), (D.I i22), (D.I i23)] ∧ (
     PAt.sig.post [(D.N n16), (D.S s1), (D.I i22), (D.I i23)] →
     ((
      (i22 = (0 : Int)) →
      PErr.sig.pre [(D.N n16), (D.S s1), (D.I i22), (D.I i23)] ∧ (
      PErr.sig.post [(D.N n16), (D.S s1), (D.I i22), (D.I i23)] →
      LPackOne.sig.post [(D.S s0), (D.B (i23 == (4 : Int)))])) ∧ (
      (i22 ≠ (0 : Int)) →
      LPackOne.sig.post [(D.S s0), (D.B false)])))) ∧ (
     (i24 ≠ (0 : Int)) →
     LPackOne.sig.post [(D.S s0), (D.B false)])))) ∧ (
    (b21 = false) →
    LPackOne.sig.post [(D.S s0), (D.B false)])))))))))))))))))
theorem LPackOne.den : LPackOne.vc.den2 (mkEnv LPackOne.sig [Cut.sig, PRead.sig, PNum.sig, PDone.sig, RNum.sig, PText.sig, RText.sig, PFail.sig, PAt.sig, PErr.sig, Awake04.sig] []) [] = LPackOne.Pure := by kernel_rfl
def LPackReads.vc : VC :=
 (.all .S
 (.all .V
 (.all .L
 (.know (.ssz (.at 0))
 (.know (.ekok [.int .i64, .int .i64, .int .u64, .str] (.at 2))
 (.post 0 [(.at 0), (.at 1), (.at 2)]
 (.pre 1 [(.at 0), (.int 600)]
 (.all .S
 (.post 1 [(.at 0), (.int 600), (.at 3)]
 (.know (.ssz (.at 3))
 (.pre 2 [(.at 3)]
 (.all .N
 (.post 2 [(.at 3), (.at 4)]
 (.all .N
 (.pre 3 []
 (.all .B
 (.post 3 [(.at 6)]
 (.and
  (.imp (.o1 .not (.at 6)) true
  (.ret [(.at 0), (.at 1), (.at 2), (.bool false)]))
  (.imp (.o1 .not (.at 6)) false
  (.inv 0 [(.at 0), (.at 1), (.at 2), (.int 0), (.at 3), (.int 0), (.int 0), (.at 3), (.int 0), (.int 0)]
  (.all .I
  (.all .S
  (.all .I
  (.all .I
  (.all .S
  (.all .I
  (.all .I
  (.know (.has .i64 (.at 7))
  (.know (.ssz (.at 8))
  (.know (.has .i64 (.at 9))
  (.know (.has .i64 (.at 10))
  (.know (.ssz (.at 11))
  (.know (.has .i64 (.at 12))
  (.know (.has .i64 (.at 13))
  (.asm 0 [(.at 0), (.at 1), (.at 2), (.at 7), (.at 8), (.at 9), (.at 10), (.at 11), (.at 12), (.at 13)]
  (.and
   (.imp (.o2 .lt (.at 7) (.o1 .llen (.at 2))) true
   (.and
    (.imp (.o2 .lt (.at 7) (.int 30)) true
    (.obl (.o2 .le (.int 0) (.at 7))
    (.all .N
    (.and
     (.imp (.o2 .eq (.o1 .asI (.o2 .lget (.o1 .asL (.o2 .lget (.at 2) (.at 7))) (.int 0))) (.int 1)) true
     (.pre 4 [(.at 8), (.at 9), (.at 10), (.o2 .min (.o2 .max (.o1 .asI (.o2 .lget (.o1 .asL (.o2 .lget (.at 2) (.at 7))) (.int 1))) (.int 1)) (.int 8))]
     (.all .I
     (.all .I
     (.all .I
     (.post 4 [(.at 8), (.at 9), (.at 10), (.o2 .min (.o2 .max (.o1 .asI (.o2 .lget (.o1 .asL (.o2 .lget (.at 2) (.at 7))) (.int 1))) (.int 1)) (.int 8)), (.at 15), (.at 16), (.at 17)]
     (.know (.has .i64 (.at 15))
     (.know (.has .i64 (.at 16))
     (.know (.has .u64 (.at 17))
     (.all .N
     (.pre 5 [(.at 4), (.at 11), (.at 12), (.at 13), (.o1 .asI (.o2 .lget (.o1 .asL (.o2 .lget (.at 2) (.at 7))) (.int 1)))]
     (.all .I
     (.all .I
     (.all .I
     (.post 5 [(.at 4), (.at 11), (.at 12), (.at 13), (.o1 .asI (.o2 .lget (.o1 .asL (.o2 .lget (.at 2) (.at 7))) (.int 1))), (.at 19), (.at 20), (.at 21)]
     (.know (.has .u64 (.at 21))
     (.know (.has .i64 (.at 19))
     (.know (.has .i64 (.at 20))
     (.and
      (.imp (.o1 .not (.o2 .eq (.at 21) (.at 17))) true
      (.ret [(.at 0), (.at 1), (.at 2), (.bool false)]))
      (.imp (.o1 .not (.o2 .eq (.at 21) (.at 17))) false
      (.and
       (.pre 12 [(.at 4), (.at 11), (.at 19), (.at 20)]
       (.post 12 [(.at 4), (.at 11), (.at 19), (.at 20)]
       (.and
        (.imp (.o1 .not (.o2 .eq (.at 19) (.at 15))) true
        (.ret [(.at 0), (.at 1), (.at 2), (.bool false)]))
        (.imp (.o1 .not (.o2 .eq (.at 19) (.at 15))) false
        (.and
         (.pre 13 [(.at 4), (.at 11), (.at 19), (.at 20)]
         (.post 13 [(.at 4), (.at 11), (.at 19), (.at 20)]
         (.and
          (.imp (.o1 .not (.o2 .eq (.at 20) (.at 16))) true
          (.ret [(.at 0), (.at 1), (.at 2), (.bool false)]))
          (.imp (.o1 .not (.o2 .eq (.at 20) (.at 16))) false
          (.back 0 [(.at 0), (.at 1), (.at 2), (.at 7), (.at 8), (.at 9), (.at 10), (.at 11), (.at 12), (.at 13)] [(.at 0), (.at 1), (.at 2), (.o2 (.add .i64) (.at 7) (.int 1)), (.at 8), (.at 15), (.at 16), (.at 11), (.at 19), (.at 20)])))))
         (.pre 13 [(.at 4), (.at 11), (.at 19), (.at 20)]
         (.post 13 [(.at 4), (.at 11), (.at 19), (.at 20)]
         (.and
          (.imp (.o1 .not (.o2 .eq (.at 20) (.at 16))) true
          (.ret [(.at 0), (.at 1), (.at 2), (.bool false)]))
          (.imp (.o1 .not (.o2 .eq (.at 20) (.at 16))) false
          (.back 0 [(.at 0), (.at 1), (.at 2), (.at 7), (.at 8), (.at 9), (.at 10), (.at 11), (.at 12), (.at 13)] [(.at 0), (.at 1), (.at 2), (.o2 (.add .i64) (.at 7) (.int 1)), (.at 8), (.at 15), (.at 16), (.at 11), (.at 19), (.at 20)]))))))))))
       (.pre 12 [(.at 4), (.at 11), (.at 19), (.at 20)]
       (.post 12 [(.at 4), (.at 11), (.at 19), (.at 20)]
       (.and
        (.imp (.o1 .not (.o2 .eq (.at 19) (.at 15))) true
        (.ret [(.at 0), (.at 1), (.at 2), (.bool false)]))
        (.imp (.o1 .not (.o2 .eq (.at 19) (.at 15))) false
        (.and
         (.pre 13 [(.at 4), (.at 11), (.at 19), (.at 20)]
         (.post 13 [(.at 4), (.at 11), (.at 19), (.at 20)]
         (.and
          (.imp (.o1 .not (.o2 .eq (.at 20) (.at 16))) true
          (.ret [(.at 0), (.at 1), (.at 2), (.bool false)]))
          (.imp (.o1 .not (.o2 .eq (.at 20) (.at 16))) false
          (.back 0 [(.at 0), (.at 1), (.at 2), (.at 7), (.at 8), (.at 9), (.at 10), (.at 11), (.at 12), (.at 13)] [(.at 0), (.at 1), (.at 2), (.o2 (.add .i64) (.at 7) (.int 1)), (.at 8), (.at 15), (.at 16), (.at 11), (.at 19), (.at 20)])))))
         (.pre 13 [(.at 4), (.at 11), (.at 19), (.at 20)]
         (.post 13 [(.at 4), (.at 11), (.at 19), (.at 20)]
         (.and
          (.imp (.o1 .not (.o2 .eq (.at 20) (.at 16))) true
          (.ret [(.at 0), (.at 1), (.at 2), (.bool false)]))
          (.imp (.o1 .not (.o2 .eq (.at 20) (.at 16))) false
          (.back 0 [(.at 0), (.at 1), (.at 2), (.at 7), (.at 8), (.at 9), (.at 10), (.at 11), (.at 12), (.at 13)] [(.at 0), (.at 1), (.at 2), (.o2 (.add .i64) (.at 7) (.int 1)), (.at 8), (.at 15), (.at 16), (.at 11), (.at 19), (.at 20)])))))))))))))))))))))))))))))))
     (.imp (.o2 .eq (.o1 .asI (.o2 .lget (.o1 .asL (.o2 .lget (.at 2) (.at 7))) (.int 0))) (.int 1)) false
     (.and
      (.imp (.o2 .eq (.o1 .asI (.o2 .lget (.o1 .asL (.o2 .lget (.at 2) (.at 7))) (.int 0))) (.int 2)) true
      (.pre 6 [(.at 8), (.at 9), (.at 10)]
      (.all .I
      (.all .I
      (.all .I
      (.post 6 [(.at 8), (.at 9), (.at 10), (.at 15), (.at 16), (.at 17)]
      (.know (.has .i64 (.at 15))
      (.know (.has .i64 (.at 16))
      (.know (.has .u64 (.at 17))
      (.all .N
      (.pre 7 [(.at 4), (.at 11), (.at 12), (.at 13)]
      (.all .I
      (.all .I
      (.all .I
      (.post 7 [(.at 4), (.at 11), (.at 12), (.at 13), (.at 19), (.at 20), (.at 21)]
      (.know (.has .u64 (.at 21))
      (.know (.has .i64 (.at 19))
      (.know (.has .i64 (.at 20))
      (.and
       (.imp (.o1 .not (.o2 .eq (.at 21) (.at 17))) true
       (.ret [(.at 0), (.at 1), (.at 2), (.bool false)]))
       (.imp (.o1 .not (.o2 .eq (.at 21) (.at 17))) false
       (.and
        (.pre 12 [(.at 4), (.at 11), (.at 19), (.at 20)]
        (.post 12 [(.at 4), (.at 11), (.at 19), (.at 20)]
        (.and
         (.imp (.o1 .not (.o2 .eq (.at 19) (.at 15))) true
         (.ret [(.at 0), (.at 1), (.at 2), (.bool false)]))
         (.imp (.o1 .not (.o2 .eq (.at 19) (.at 15))) false
         (.and
          (.pre 13 [(.at 4), (.at 11), (.at 19), (.at 20)]
          (.post 13 [(.at 4), (.at 11), (.at 19), (.at 20)]
          (.and
           (.imp (.o1 .not (.o2 .eq (.at 20) (.at 16))) true
           (.ret [(.at 0), (.at 1), (.at 2), (.bool false)]))
           (.imp (.o1 .not (.o2 .eq (.at 20) (.at 16))) false
           (.back 0 [(.at 0), (.at 1), (.at 2), (.at 7), (.at 8), (.at 9), (.at 10), (.at 11), (.at 12), (.at 13)] [(.at 0), (.at 1), (.at 2), (.o2 (.add .i64) (.at 7) (.int 1)), (.at 8), (.at 15), (.at 16), (.at 11), (.at 19), (.at 20)])))))
          (.pre 13 [(.at 4), (.at 11), (.at 19), (.at 20)]
          (.post 13 [(.at 4), (.at 11), (.at 19), (.at 20)]
          (.and
           (.imp (.o1 .not (.o2 .eq (.at 20) (.at 16))) true
           (.ret [(.at 0), (.at 1), (.at 2), (.bool false)]))
           (.imp (.o1 .not (.o2 .eq (.at 20) (.at 16))) false
           (.back 0 [(.at 0), (.at 1), (.at 2), (.at 7), (.at 8), (.at 9), (.at 10), (.at 11), (.at 12), (.at 13)] [(.at 0), (.at 1), (.at 2), (.o2 (.add .i64) (.at 7) (.int 1)), (.at 8), (.at 15), (.at 16), (.at 11), (.at 19), (.at 20)]))))))))))
        (.pre 12 [(.at 4), (.at 11), (.at 19), (.at 20)]
        (.post 12 [(.at 4), (.at 11), (.at 19), (.at 20)]
        (.and
         (.imp (.o1 .not (.o2 .eq (.at 19) (.at 15))) true
         (.ret [(.at 0), (.at 1), (.at 2), (.bool false)]))
         (.imp (.o1 .not (.o2 .eq (.at 19) (.at 15))) false
         (.and
          (.pre 13 [(.at 4), (.at 11), (.at 19), (.at 20)]
          (.post 13 [(.at 4), (.at 11), (.at 19), (.at 20)]
          (.and
           (.imp (.o1 .not (.o2 .eq (.at 20) (.at 16))) true
           (.ret [(.at 0), (.at 1), (.at 2), (.bool false)]))
           (.imp (.o1 .not (.o2 .eq (.at 20) (.at 16))) false
           (.back 0 [(.at 0), (.at 1), (.at 2), (.at 7), (.at 8), (.at 9), (.at 10), (.at 11), (.at 12), (.at 13)] [(.at 0), (.at 1), (.at 2), (.o2 (.add .i64) (.at 7) (.int 1)), (.at 8), (.at 15), (.at 16), (.at 11), (.at 19), (.at 20)])))))
          (.pre 13 [(.at 4), (.at 11), (.at 19), (.at 20)]
          (.post 13 [(.at 4), (.at 11), (.at 19), (.at 20)]
          (.and
           (.imp (.o1 .not (.o2 .eq (.at 20) (.at 16))) true
           (.ret [(.at 0), (.at 1), (.at 2), (.bool false)]))
           (.imp (.o1 .not (.o2 .eq (.at 20) (.at 16))) false
           (.back 0 [(.at 0), (.at 1), (.at 2), (.at 7), (.at 8), (.at 9), (.at 10), (.at 11), (.at 12), (.at 13)] [(.at 0), (.at 1), (.at 2), (.o2 (.add .i64) (.at 7) (.int 1)), (.at 8), (.at 15), (.at 16), (.at 11), (.at 19), (.at 20)])))))))))))))))))))))))))))))))
      (.imp (.o2 .eq (.o1 .asI (.o2 .lget (.o1 .asL (.o2 .lget (.at 2) (.at 7))) (.int 0))) (.int 2)) false
      (.and
       (.imp (.o2 .eq (.o1 .asI (.o2 .lget (.o1 .asL (.o2 .lget (.at 2) (.at 7))) (.int 0))) (.int 3)) true
       (.pre 8 [(.at 8), (.at 9), (.at 10), (.o1 .asI (.o2 .lget (.o1 .asL (.o2 .lget (.at 2) (.at 7))) (.int 1)))]
       (.all .I
       (.all .I
       (.all .S
       (.post 8 [(.at 8), (.at 9), (.at 10), (.o1 .asI (.o2 .lget (.o1 .asL (.o2 .lget (.at 2) (.at 7))) (.int 1))), (.at 15), (.at 16), (.at 17)]
       (.know (.has .i64 (.at 15))
       (.know (.has .i64 (.at 16))
       (.know (.ssz (.at 17))
       (.all .N
       (.pre 9 [(.at 4), (.at 11), (.at 12), (.at 13), (.o1 .asI (.o2 .lget (.o1 .asL (.o2 .lget (.at 2) (.at 7))) (.int 1)))]
       (.all .I
       (.all .I
       (.all .S
       (.post 9 [(.at 4), (.at 11), (.at 12), (.at 13), (.o1 .asI (.o2 .lget (.o1 .asL (.o2 .lget (.at 2) (.at 7))) (.int 1))), (.at 19), (.at 20), (.at 21)]
       (.know (.ssz (.at 21))
       (.know (.has .i64 (.at 19))
       (.know (.has .i64 (.at 20))
       (.and
        (.imp (.o1 .not (.o2 .eqs (.at 21) (.at 17))) true
        (.ret [(.at 0), (.at 1), (.at 2), (.bool false)]))
        (.imp (.o1 .not (.o2 .eqs (.at 21) (.at 17))) false
        (.and
         (.pre 12 [(.at 4), (.at 11), (.at 19), (.at 20)]
         (.post 12 [(.at 4), (.at 11), (.at 19), (.at 20)]
         (.and
          (.imp (.o1 .not (.o2 .eq (.at 19) (.at 15))) true
          (.ret [(.at 0), (.at 1), (.at 2), (.bool false)]))
          (.imp (.o1 .not (.o2 .eq (.at 19) (.at 15))) false
          (.and
           (.pre 13 [(.at 4), (.at 11), (.at 19), (.at 20)]
           (.post 13 [(.at 4), (.at 11), (.at 19), (.at 20)]
           (.and
            (.imp (.o1 .not (.o2 .eq (.at 20) (.at 16))) true
            (.ret [(.at 0), (.at 1), (.at 2), (.bool false)]))
            (.imp (.o1 .not (.o2 .eq (.at 20) (.at 16))) false
            (.back 0 [(.at 0), (.at 1), (.at 2), (.at 7), (.at 8), (.at 9), (.at 10), (.at 11), (.at 12), (.at 13)] [(.at 0), (.at 1), (.at 2), (.o2 (.add .i64) (.at 7) (.int 1)), (.at 8), (.at 15), (.at 16), (.at 11), (.at 19), (.at 20)])))))
           (.pre 13 [(.at 4), (.at 11), (.at 19), (.at 20)]
           (.post 13 [(.at 4), (.at 11), (.at 19), (.at 20)]
           (.and
            (.imp (.o1 .not (.o2 .eq (.at 20) (.at 16))) true
            (.ret [(.at 0), (.at 1), (.at 2), (.bool false)]))
            (.imp (.o1 .not (.o2 .eq (.at 20) (.at 16))) false
            (.back 0 [(.at 0), (.at 1), (.at 2), (.at 7), (.at 8), (.at 9), (.at 10), (.at 11), (.at 12), (.at 13)] [(.at 0), (.at 1), (.at 2), (.o2 (.add .i64) (.at 7) (.int 1)), (.at 8), (.at 15), (.at 16), (.at 11), (.at 19), (.at 20)]))))))))))
         (.pre 12 [(.at 4), (.at 11), (.at 19), (.at 20)]
         (.post 12 [(.at 4), (.at 11), (.at 19), (.at 20)]
         (.and
          (.imp (.o1 .not (.o2 .eq (.at 19) (.at 15))) true
          (.ret [(.at 0), (.at 1), (.at 2), (.bool false)]))
          (.imp (.o1 .not (.o2 .eq (.at 19) (.at 15))) false
          (.and
           (.pre 13 [(.at 4), (.at 11), (.at 19), (.at 20)]
           (.post 13 [(.at 4), (.at 11), (.at 19), (.at 20)]
           (.and
            (.imp (.o1 .not (.o2 .eq (.at 20) (.at 16))) true
            (.ret [(.at 0), (.at 1), (.at 2), (.bool false)]))
            (.imp (.o1 .not (.o2 .eq (.at 20) (.at 16))) false
            (.back 0 [(.at 0), (.at 1), (.at 2), (.at 7), (.at 8), (.at 9), (.at 10), (.at 11), (.at 12), (.at 13)] [(.at 0), (.at 1), (.at 2), (.o2 (.add .i64) (.at 7) (.int 1)), (.at 8), (.at 15), (.at 16), (.at 11), (.at 19), (.at 20)])))))
           (.pre 13 [(.at 4), (.at 11), (.at 19), (.at 20)]
           (.post 13 [(.at 4), (.at 11), (.at 19), (.at 20)]
           (.and
            (.imp (.o1 .not (.o2 .eq (.at 20) (.at 16))) true
            (.ret [(.at 0), (.at 1), (.at 2), (.bool false)]))
            (.imp (.o1 .not (.o2 .eq (.at 20) (.at 16))) false
            (.back 0 [(.at 0), (.at 1), (.at 2), (.at 7), (.at 8), (.at 9), (.at 10), (.at 11), (.at 12), (.at 13)] [(.at 0), (.at 1), (.at 2), (.o2 (.add .i64) (.at 7) (.int 1)), (.at 8), (.at 15), (.at 16), (.at 11), (.at 19), (.at 20)])))))))))))))))))))))))))))))))
       (.imp (.o2 .eq (.o1 .asI (.o2 .lget (.o1 .asL (.o2 .lget (.at 2) (.at 7))) (.int 0))) (.int 3)) false
       (.and
        (.imp (.o2 .eq (.o1 .asI (.o2 .lget (.o1 .asL (.o2 .lget (.at 2) (.at 7))) (.int 0))) (.int 4)) true
        (.pre 10 [(.at 8), (.at 9), (.at 10), (.o1 .asI (.o2 .lget (.o1 .asL (.o2 .lget (.at 2) (.at 7))) (.int 1)))]
        (.all .I
        (.all .I
        (.all .S
        (.post 10 [(.at 8), (.at 9), (.at 10), (.o1 .asI (.o2 .lget (.o1 .asL (.o2 .lget (.at 2) (.at 7))) (.int 1))), (.at 15), (.at 16), (.at 17)]
        (.know (.has .i64 (.at 15))
        (.know (.has .i64 (.at 16))
        (.know (.ssz (.at 17))
        (.all .N
        (.pre 11 [(.at 4), (.at 11), (.at 12), (.at 13), (.o1 .asI (.o2 .lget (.o1 .asL (.o2 .lget (.at 2) (.at 7))) (.int 1)))]
        (.all .I
        (.all .I
        (.all .S
        (.post 11 [(.at 4), (.at 11), (.at 12), (.at 13), (.o1 .asI (.o2 .lget (.o1 .asL (.o2 .lget (.at 2) (.at 7))) (.int 1))), (.at 19), (.at 20), (.at 21)]
        (.know (.ssz (.at 21))
        (.know (.has .i64 (.at 19))
        (.know (.has .i64 (.at 20))
        (.and
         (.imp (.o1 .not (.o2 .eqs (.at 21) (.at 17))) true
         (.ret [(.at 0), (.at 1), (.at 2), (.bool false)]))
         (.imp (.o1 .not (.o2 .eqs (.at 21) (.at 17))) false
         (.and
          (.pre 12 [(.at 4), (.at 11), (.at 19), (.at 20)]
          (.post 12 [(.at 4), (.at 11), (.at 19), (.at 20)]
          (.and
           (.imp (.o1 .not (.o2 .eq (.at 19) (.at 15))) true
           (.ret [(.at 0), (.at 1), (.at 2), (.bool false)]))
           (.imp (.o1 .not (.o2 .eq (.at 19) (.at 15))) false
           (.and
            (.pre 13 [(.at 4), (.at 11), (.at 19), (.at 20)]
            (.post 13 [(.at 4), (.at 11), (.at 19), (.at 20)]
            (.and
             (.imp (.o1 .not (.o2 .eq (.at 20) (.at 16))) true
             (.ret [(.at 0), (.at 1), (.at 2), (.bool false)]))
             (.imp (.o1 .not (.o2 .eq (.at 20) (.at 16))) false
             (.back 0 [(.at 0), (.at 1), (.at 2), (.at 7), (.at 8), (.at 9), (.at 10), (.at 11), (.at 12), (.at 13)] [(.at 0), (.at 1), (.at 2), (.o2 (.add .i64) (.at 7) (.int 1)), (.at 8), (.at 15), (.at 16), (.at 11), (.at 19), (.at 20)])))))
            (.pre 13 [(.at 4), (.at 11), (.at 19), (.at 20)]
            (.post 13 [(.at 4), (.at 11), (.at 19), (.at 20)]
            (.and
             (.imp (.o1 .not (.o2 .eq (.at 20) (.at 16))) true
             (.ret [(.at 0), (.at 1), (.at 2), (.bool false)]))
             (.imp (.o1 .not (.o2 .eq (.at 20) (.at 16))) false
             (.back 0 [(.at 0), (.at 1), (.at 2), (.at 7), (.at 8), (.at 9), (.at 10), (.at 11), (.at 12), (.at 13)] [(.at 0), (.at 1), (.at 2), (.o2 (.add .i64) (.at 7) (.int 1)), (.at 8), (.at 15), (.at 16), (.at 11), (.at 19), (.at 20)]))))))))))
          (.pre 12 [(.at 4), (.at 11), (.at 19), (.at 20)]
          (.post 12 [(.at 4), (.at 11), (.at 19), (.at 20)]
          (.and
           (.imp (.o1 .not (.o2 .eq (.at 19) (.at 15))) true
           (.ret [(.at 0), (.at 1), (.at 2), (.bool false)]))
           (.imp (.o1 .not (.o2 .eq (.at 19) (.at 15))) false
           (.and
            (.pre 13 [(.at 4), (.at 11), (.at 19), (.at 20)]
            (.post 13 [(.at 4), (.at 11), (.at 19), (.at 20)]
            (.and
             (.imp (.o1 .not (.o2 .eq (.at 20) (.at 16))) true
             (.ret [(.at 0), (.at 1), (.at 2), (.bool false)]))
             (.imp (.o1 .not (.o2 .eq (.at 20) (.at 16))) false
             (.back 0 [(.at 0), (.at 1), (.at 2), (.at 7), (.at 8), (.at 9), (.at 10), (.at 11), (.at 12), (.at 13)] [(.at 0), (.at 1), (.at 2), (.o2 (.add .i64) (.at 7) (.int 1)), (.at 8), (.at 15), (.at 16), (.at 11), (.at 19), (.at 20)])))))
            (.pre 13 [(.at 4), (.at 11), (.at 19), (.at 20)]
            (.post 13 [(.at 4), (.at 11), (.at 19), (.at 20)]
            (.and
             (.imp (.o1 .not (.o2 .eq (.at 20) (.at 16))) true
             (.ret [(.at 0), (.at 1), (.at 2), (.bool false)]))
             (.imp (.o1 .not (.o2 .eq (.at 20) (.at 16))) false
             (.back 0 [(.at 0), (.at 1), (.at 2), (.at 7), (.at 8), (.at 9), (.at 10), (.at 11), (.at 12), (.at 13)] [(.at 0), (.at 1), (.at 2), (.o2 (.add .i64) (.at 7) (.int 1)), (.at 8), (.at 15), (.at 16), (.at 11), (.at 19), (.at 20)])))))))))))))))))))))))))))))))
        (.imp (.o2 .eq (.o1 .asI (.o2 .lget (.o1 .asL (.o2 .lget (.at 2) (.at 7))) (.int 0))) (.int 4)) false
        (.and
         (.imp (.o1 .not (.bool true)) true
         (.ret [(.at 0), (.at 1), (.at 2), (.bool false)]))
         (.imp (.o1 .not (.bool true)) false
         (.and
          (.pre 12 [(.at 4), (.at 11), (.at 12), (.at 13)]
          (.post 12 [(.at 4), (.at 11), (.at 12), (.at 13)]
          (.and
           (.imp (.o1 .not (.o2 .eq (.at 12) (.at 9))) true
           (.ret [(.at 0), (.at 1), (.at 2), (.bool false)]))
           (.imp (.o1 .not (.o2 .eq (.at 12) (.at 9))) false
           (.and
            (.pre 13 [(.at 4), (.at 11), (.at 12), (.at 13)]
            (.post 13 [(.at 4), (.at 11), (.at 12), (.at 13)]
            (.and
             (.imp (.o1 .not (.o2 .eq (.at 13) (.at 10))) true
             (.ret [(.at 0), (.at 1), (.at 2), (.bool false)]))
             (.imp (.o1 .not (.o2 .eq (.at 13) (.at 10))) false
             (.back 0 [(.at 0), (.at 1), (.at 2), (.at 7), (.at 8), (.at 9), (.at 10), (.at 11), (.at 12), (.at 13)] [(.at 0), (.at 1), (.at 2), (.o2 (.add .i64) (.at 7) (.int 1)), (.at 8), (.at 9), (.at 10), (.at 11), (.at 12), (.at 13)])))))
            (.pre 13 [(.at 4), (.at 11), (.at 12), (.at 13)]
            (.post 13 [(.at 4), (.at 11), (.at 12), (.at 13)]
            (.and
             (.imp (.o1 .not (.o2 .eq (.at 13) (.at 10))) true
             (.ret [(.at 0), (.at 1), (.at 2), (.bool false)]))
             (.imp (.o1 .not (.o2 .eq (.at 13) (.at 10))) false
             (.back 0 [(.at 0), (.at 1), (.at 2), (.at 7), (.at 8), (.at 9), (.at 10), (.at 11), (.at 12), (.at 13)] [(.at 0), (.at 1), (.at 2), (.o2 (.add .i64) (.at 7) (.int 1)), (.at 8), (.at 9), (.at 10), (.at 11), (.at 12), (.at 13)]))))))))))
          (.pre 12 [(.at 4), (.at 11), (.at 12), (.at 13)]
          (.post 12 [(.at 4), (.at 11), (.at 12), (.at 13)]
          (.and
           (.imp (.o1 .not (.o2 .eq (.at 12) (.at 9))) true
           (.ret [(.at 0), (.at 1), (.at 2), (.bool false)]))
           (.imp (.o1 .not (.o2 .eq (.at 12) (.at 9))) false
           (.and
            (.pre 13 [(.at 4), (.at 11), (.at 12), (.at 13)]
            (.post 13 [(.at 4), (.at 11), (.at 12), (.at 13)]
            (.and
             (.imp (.o1 .not (.o2 .eq (.at 13) (.at 10))) true
             (.ret [(.at 0), (.at 1), (.at 2), (.bool false)]))
             (.imp (.o1 .not (.o2 .eq (.at 13) (.at 10))) false
             (.back 0 [(.at 0), (.at 1), (.at 2), (.at 7), (.at 8), (.at 9), (.at 10), (.at 11), (.at 12), (.at 13)] [(.at 0), (.at 1), (.at 2), (.o2 (.add .i64) (.at 7) (.int 1)), (.at 8), (.at 9), (.at 10), (.at 11), (.at 12), (.at 13)])))))
            (.pre 13 [(.at 4), (.at 11), (.at 12), (.at 13)]
            (.post 13 [(.at 4), (.at 11), (.at 12), (.at 13)]
            (.and
             (.imp (.o1 .not (.o2 .eq (.at 13) (.at 10))) true
             (.ret [(.at 0), (.at 1), (.at 2), (.bool false)]))
             (.imp (.o1 .not (.o2 .eq (.at 13) (.at 10))) false
             (.back 0 [(.at 0), (.at 1), (.at 2), (.at 7), (.at 8), (.at 9), (.at 10), (.at 11), (.at 12), (.at 13)] [(.at 0), (.at 1), (.at 2), (.o2 (.add .i64) (.at 7) (.int 1)), (.at 8), (.at 9), (.at 10), (.at 11), (.at 12), (.at 13)]))))))))))))))))))))))))
    (.imp (.o2 .lt (.at 7) (.int 30)) false
    (.pre 14 [(.at 8), (.at 9), (.at 10)]
    (.all .I
    (.all .I
    (.post 14 [(.at 8), (.at 9), (.at 10), (.at 14), (.at 15)]
    (.know (.has .i64 (.at 14))
    (.know (.has .i64 (.at 15))
    (.and
     (.pre 15 [(.at 4), (.at 11), (.at 12), (.at 13)]
     (.all .I
     (.all .I
     (.all .I
     (.post 15 [(.at 4), (.at 11), (.at 12), (.at 13), (.at 16), (.at 17), (.at 18)]
     (.know (.has .i64 (.at 18))
     (.know (.has .i64 (.at 16))
     (.know (.has .i64 (.at 17))
     (.and
      (.imp (.o2 .eq (.at 18) (.at 15)) true
      (.and
       (.pre 13 [(.at 4), (.at 11), (.at 16), (.at 17)]
       (.post 13 [(.at 4), (.at 11), (.at 16), (.at 17)]
       (.ret [(.at 0), (.at 1), (.at 2), (.o2 .eq (.at 17) (.at 15))])))
       (.pre 13 [(.at 4), (.at 11), (.at 16), (.at 17)]
       (.post 13 [(.at 4), (.at 11), (.at 16), (.at 17)]
       (.ret [(.at 0), (.at 1), (.at 2), (.o2 .eq (.at 17) (.at 15))])))))
      (.imp (.o2 .eq (.at 18) (.at 15)) false
      (.ret [(.at 0), (.at 1), (.at 2), (.bool false)])))))))))))
     (.pre 15 [(.at 4), (.at 11), (.at 12), (.at 13)]
     (.all .I
     (.all .I
     (.all .I
     (.post 15 [(.at 4), (.at 11), (.at 12), (.at 13), (.at 16), (.at 17), (.at 18)]
     (.know (.has .i64 (.at 18))
     (.know (.has .i64 (.at 16))
     (.know (.has .i64 (.at 17))
     (.and
      (.imp (.o2 .eq (.at 18) (.at 15)) true
      (.and
       (.pre 13 [(.at 4), (.at 11), (.at 16), (.at 17)]
       (.post 13 [(.at 4), (.at 11), (.at 16), (.at 17)]
       (.ret [(.at 0), (.at 1), (.at 2), (.o2 .eq (.at 17) (.at 15))])))
       (.pre 13 [(.at 4), (.at 11), (.at 16), (.at 17)]
       (.post 13 [(.at 4), (.at 11), (.at 16), (.at 17)]
       (.ret [(.at 0), (.at 1), (.at 2), (.o2 .eq (.at 17) (.at 15))])))))
      (.imp (.o2 .eq (.at 18) (.at 15)) false
      (.ret [(.at 0), (.at 1), (.at 2), (.bool false)])))))))))))))))))))))
   (.imp (.o2 .lt (.at 7) (.o1 .llen (.at 2))) false
   (.pre 14 [(.at 8), (.at 9), (.at 10)]
   (.all .I
   (.all .I
   (.post 14 [(.at 8), (.at 9), (.at 10), (.at 14), (.at 15)]
   (.know (.has .i64 (.at 14))
   (.know (.has .i64 (.at 15))
   (.and
    (.pre 15 [(.at 4), (.at 11), (.at 12), (.at 13)]
    (.all .I
    (.all .I
    (.all .I
    (.post 15 [(.at 4), (.at 11), (.at 12), (.at 13), (.at 16), (.at 17), (.at 18)]
    (.know (.has .i64 (.at 18))
    (.know (.has .i64 (.at 16))
    (.know (.has .i64 (.at 17))
    (.and
     (.imp (.o2 .eq (.at 18) (.at 15)) true
     (.and
      (.pre 13 [(.at 4), (.at 11), (.at 16), (.at 17)]
      (.post 13 [(.at 4), (.at 11), (.at 16), (.at 17)]
      (.ret [(.at 0), (.at 1), (.at 2), (.o2 .eq (.at 17) (.at 15))])))
      (.pre 13 [(.at 4), (.at 11), (.at 16), (.at 17)]
      (.post 13 [(.at 4), (.at 11), (.at 16), (.at 17)]
      (.ret [(.at 0), (.at 1), (.at 2), (.o2 .eq (.at 17) (.at 15))])))))
     (.imp (.o2 .eq (.at 18) (.at 15)) false
     (.ret [(.at 0), (.at 1), (.at 2), (.bool false)])))))))))))
    (.pre 15 [(.at 4), (.at 11), (.at 12), (.at 13)]
    (.all .I
    (.all .I
    (.all .I
    (.post 15 [(.at 4), (.at 11), (.at 12), (.at 13), (.at 16), (.at 17), (.at 18)]
    (.know (.has .i64 (.at 18))
    (.know (.has .i64 (.at 16))
    (.know (.has .i64 (.at 17))
    (.and
     (.imp (.o2 .eq (.at 18) (.at 15)) true
     (.and
      (.pre 13 [(.at 4), (.at 11), (.at 16), (.at 17)]
      (.post 13 [(.at 4), (.at 11), (.at 16), (.at 17)]
      (.ret [(.at 0), (.at 1), (.at 2), (.o2 .eq (.at 17) (.at 15))])))
      (.pre 13 [(.at 4), (.at 11), (.at 16), (.at 17)]
      (.post 13 [(.at 4), (.at 11), (.at 16), (.at 17)]
      (.ret [(.at 0), (.at 1), (.at 2), (.o2 .eq (.at 17) (.at 15))])))))
     (.imp (.o2 .eq (.at 18) (.at 15)) false
     (.ret [(.at 0), (.at 1), (.at 2), (.bool false)])))))))))))))))))))))))))))))))))))))))))))))))))))))))
def LPackReads.Pure : Prop :=
 ∀ (s0 : ByteArray),
 ∀ (v1 : Value),
 ∀ (l2 : List D),
 ((s0.size : Int) ≤ 9223372036854775807) →
 (EK.ok [.int .i64, .int .i64, .int .u64, .str] (D.L l2)) →
 LPackReads.sig.pre [(D.S s0), (D.V v1), (D.L l2)] →
 Cut.sig.pre [(D.S s0), (D.I (600 : Int))] ∧ (
 ∀ (s3 : ByteArray),
 Cut.sig.post [(D.S s0), (D.I (600 : Int)), (D.S s3)] →
 ((s3.size : Int) ≤ 9223372036854775807) →
 PRead.sig.pre [(D.S s3)] ∧ (
 ∀ (n4 : Nat),
 PRead.sig.post [(D.S s3), (D.N n4)] →
 ∀ (n5 : Nat),
 Awake04.sig.pre [] ∧ (
 ∀ (b6 : Bool),
 Awake04.sig.post [(D.B b6)] →
 ((
  (b6 = false) →
  LPackReads.sig.post [(D.S s0), (D.V v1), (D.L l2), (D.B false)]) ∧ (
  (b6 = true) →
  LPackReads.I0 [(D.S s0), (D.V v1), (D.L l2), (D.I (0 : Int)), (D.S s3), (D.I (0 : Int)), (D.I (0 : Int)), (D.S s3), (D.I (0 : Int)), (D.I (0 : Int))] ∧ (
  ∀ (i7 : Int),
  ∀ (s8 : ByteArray),
  ∀ (i9 : Int),
  ∀ (i10 : Int),
  ∀ (s11 : ByteArray),
  ∀ (i12 : Int),
  ∀ (i13 : Int),
  (-9223372036854775808 ≤ i7 ∧ i7 < 9223372036854775808) →
  ((s8.size : Int) ≤ 9223372036854775807) →
  (-9223372036854775808 ≤ i9 ∧ i9 < 9223372036854775808) →
  (-9223372036854775808 ≤ i10 ∧ i10 < 9223372036854775808) →
  ((s11.size : Int) ≤ 9223372036854775807) →
  (-9223372036854775808 ≤ i12 ∧ i12 < 9223372036854775808) →
  (-9223372036854775808 ≤ i13 ∧ i13 < 9223372036854775808) →
  LPackReads.I0 [(D.S s0), (D.V v1), (D.L l2), (D.I i7), (D.S s8), (D.I i9), (D.I i10), (D.S s11), (D.I i12), (D.I i13)] →
  ((
   (i7 < ((l2.length : Nat) : Int)) →
   ((
    (i7 < (30 : Int)) →
    ((0 : Int) ≤ i7) ∧ (((0 : Int) ≤ i7) →
    ∀ (n14 : Nat),
    ((
     (((((l2.getD i7.toNat default)).toL.getD (0 : Int).toNat default)).toI = (1 : Int)) →
     cFixed.sig.pre [(D.S s8), (D.I i9), (D.I i10), (D.I (minI (maxI ((((l2.getD i7.toNat default)).toL.getD (1 : Int).toNat default)).toI (1 : Int)) (8 : Int)))] ∧ (
     ∀ (i15 : Int),
     ∀ (i16 : Int),
     ∀ (i17 : Int),
     cFixed.sig.post [(D.S s8), (D.I i9), (D.I i10), (D.I (minI (maxI ((((l2.getD i7.toNat default)).toL.getD (1 : Int).toNat default)).toI (1 : Int)) (8 : Int))), (D.I i15), (D.I i16), (D.I i17)] →
     (-9223372036854775808 ≤ i15 ∧ i15 < 9223372036854775808) →
     (-9223372036854775808 ≤ i16 ∧ i16 < 9223372036854775808) →
     (0 ≤ i17 ∧ i17 < 18446744073709551616) →
     ∀ (n18 : Nat),
     PFixed.sig.pre [(D.N n4), (D.S s11), (D.I i12), (D.I i13), (D.I ((((l2.getD i7.toNat default)).toL.getD (1 : Int).toNat default)).toI)] ∧ (
     ∀ (i19 : Int),
     ∀ (i20 : Int),
     ∀ (i21 : Int),
     PFixed.sig.post [(D.N n4), (D.S s11), (D.I i12), (D.I i13), (D.I ((((l2.getD i7.toNat default)).toL.getD (1 : Int).toNat default)).toI), (D.I i19), (D.I i20), (D.I i21)] →
     (0 ≤ i21 ∧ i21 < 18446744073709551616) →
     (-9223372036854775808 ≤ i19 ∧ i19 < 9223372036854775808) →
     (-9223372036854775808 ≤ i20 ∧ i20 < 9223372036854775808) →
     ((
      (i21 ≠ i17) →
      LPackReads.sig.post [(D.S s0), (D.V v1), (D.L l2), (D.B false)]) ∧ (
      (i21 = i17) →
      ((
       PAt.sig.pre [(D.N n4), (D.S s11), (D.I i19), (D.I i20)] ∧ (
       PAt.sig.post [(D.N n4), (D.S s11), (D.I i19), (D.I i20)] →
       ((
        (i19 ≠ i15) →
        LPackReads.sig.post [(D.S s0), (D.V v1), (D.L l2), (D.B false)]) ∧ (
        (i19 = i15) →
        ((
         PErr.sig.pre [(D.N n4), (D.S s11), (D.I i19), (D.I i20)] ∧ (
         PErr.sig.post [(D.N n4), (D.S s11), (D.I i19), (D.I i20)] →
         ((
          (i20 ≠ i16) →
          LPackReads.sig.post [(D.S s0), (D.V v1), (D.L l2), (D.B false)]) ∧ (
          (i20 = i16) →
          LPackReads.I0 [(D.S s0), (D.V v1), (D.L l2), (D.I (IntKind.wrap .i64 (i7 + (1 : Int)))), (D.S s8), (D.I i15), (D.I i16), (D.S s11), (D.I i19), (D.I i20)] ∧ LPackReads.I0M [(D.S s0), (D.V v1), (D.L l2), (D.I (IntKind.wrap .i64 (i7 + (1 : Int)))), (D.S s8), (D.I i15), (D.I i16), (D.S s11), (D.I i19), (D.I i20)] < LPackReads.I0M [(D.S s0), (D.V v1), (D.L l2), (D.I i7), (D.S s8), (D.I i9), (D.I i10), (D.S s11), (D.I i12), (D.I i13)])))) ∧ (
         PErr.sig.pre [(D.N n4), (D.S s11), (D.I i19), (D.I i20)] ∧ (
         PErr.sig.post [(D.N n4), (D.S s11), (D.I i19), (D.I i20)] →
         ((
          (i20 ≠ i16) →
          LPackReads.sig.post [(D.S s0), (D.V v1), (D.L l2), (D.B false)]) ∧ (
          (i20 = i16) →
          LPackReads.I0 [(D.S s0), (D.V v1), (D.L l2), (D.I (IntKind.wrap .i64 (i7 + (1 : Int)))), (D.S s8), (D.I i15), (D.I i16), (D.S s11), (D.I i19), (D.I i20)] ∧ LPackReads.I0M [(D.S s0), (D.V v1), (D.L l2), (D.I (IntKind.wrap .i64 (i7 + (1 : Int)))), (D.S s8), (D.I i15), (D.I i16), (D.S s11), (D.I i19), (D.I i20)] < LPackReads.I0M [(D.S s0), (D.V v1), (D.L l2), (D.I i7), (D.S s8), (D.I i9), (D.I i10), (D.S s11), (D.I i12), (D.I i13)]))))))))) ∧ (
       PAt.sig.pre [(D.N n4), (D.S s11), (D.I i19), (D.I i20)] ∧ (
       PAt.sig.post [(D.N n4), (D.S s11), (D.I i19), (D.I i20)] →
       ((
        (i19 ≠ i15) →
        LPackReads.sig.post [(D.S s0), (D.V v1), (D.L l2), (D.B false)]) ∧ (
        (i19 = i15) →
        ((
         PErr.sig.pre [(D.N n4), (D.S s11), (D.I i19), (D.I i20)] ∧ (
         PErr.sig.post [(D.N n4), (D.S s11), (D.I i19), (D.I i20)] →
         ((
          (i20 ≠ i16) →
          LPackReads.sig.post [(D.S s0), (D.V v1), (D.L l2), (D.B false)]) ∧ (
          (i20 = i16) →
          LPackReads.I0 [(D.S s0), (D.V v1), (D.L l2), (D.I (IntKind.wrap .i64 (i7 + (1 : Int)))), (D.S s8), (D.I i15), (D.I i16), (D.S s11), (D.I i19), (D.I i20)] ∧ LPackReads.I0M [(D.S s0), (D.V v1), (D.L l2), (D.I (IntKind.wrap .i64 (i7 + (1 : Int)))), (D.S s8), (D.I i15), (D.I i16), (D.S s11), (D.I i19), (D.I i20)] < LPackReads.I0M [(D.S s0), (D.V v1), (D.L l2), (D.I i7), (D.S s8), (D.I i9), (D.I i10), (D.S s11), (D.I i12), (D.I i13)])))) ∧ (
         PErr.sig.pre [(D.N n4), (D.S s11), (D.I i19), (D.I i20)] ∧ (
         PErr.sig.post [(D.N n4), (D.S s11), (D.I i19), (D.I i20)] →
         ((
          (i20 ≠ i16) →
          LPackReads.sig.post [(D.S s0), (D.V v1), (D.L l2), (D.B false)]) ∧ (
          (i20 = i16) →
          LPackReads.I0 [(D.S s0), (D.V v1), (D.L l2), (D.I (IntKind.wrap .i64 (i7 + (1 : Int)))), (D.S s8), (D.I i15), (D.I i16), (D.S s11), (D.I i19), (D.I i20)] ∧ LPackReads.I0M [(D.S s0), (D.V v1), (D.L l2), (D.I (IntKind.wrap .i64 (i7 + (1 : Int)))), (D.S s8), (D.I i15), (D.I i16), (D.S s11), (D.I i19), (D.I i20)] < LPackReads.I0M [(D.S s0), (D.V v1), (D.L l2), (D.I i7), (D.S s8), (D.I i9), (D.I i10), (D.S s11), (D.I i12), (D.I i13)]))))))))))))))) ∧ (
     (((((l2.getD i7.toNat default)).toL.getD (0 : Int).toNat default)).toI ≠ (1 : Int)) →
     ((
      (((((l2.getD i7.toNat default)).toL.getD (0 : Int).toNat default)).toI = (2 : Int)) →
      cNum.sig.pre [(D.S s8), (D.I i9), (D.I i10)] ∧ (
      ∀ (i15 : Int),
      ∀ (i16 : Int),
      ∀ (i17 : Int),
      cNum.sig.post [(D.S s8), (D.I i9), (D.I i10), (D.I i15), (D.I i16), (D.I i17)] →
      (-9223372036854775808 ≤ i15 ∧ i15 < 9223372036854775808) →
      (-9223372036854775808 ≤ i16 ∧ i16 < 9223372036854775808) →
      (0 ≤ i17 ∧ i17 < 18446744073709551616) →
      ∀ (n18 : Nat),
      PNum.sig.pre [(D.N n4), (D.S s11), (D.I i12), (D.I i13)] ∧ (
      ∀ (i19 : Int),
      ∀ (i20 : Int),
      ∀ (i21 : Int),
      PNum.sig.post [(D.N n4), (D.S s11), (D.I i12), (D.I i13), (D.I i19), (D.I i20), (D.I i21)] →
      (0 ≤ i21 ∧ i21 < 18446744073709551616) →
      (-9223372036854775808 ≤ i19 ∧ i19 < 9223372036854775808) →
      (-9223372036854775808 ≤ i20 ∧ i20 < 9223372036854775808) →
      ((
       (i21 ≠ i17) →
       LPackReads.sig.post [(D.S s0), (D.V v1), (D.L l2), (D.B false)]) ∧ (
       (i21 = i17) →
       ((
        PAt.sig.pre [(D.N n4), (D.S s11), (D.I i19), (D.I i20)] ∧ (
        PAt.sig.post [(D.N n4), (D.S s11), (D.I i19), (D.I i20)] →
        ((
         (i19 ≠ i15) →
         LPackReads.sig.post [(D.S s0), (D.V v1), (D.L l2), (D.B false)]) ∧ (
         (i19 = i15) →
         ((
          PErr.sig.pre [(D.N n4), (D.S s11), (D.I i19), (D.I i20)] ∧ (
          PErr.sig.post [(D.N n4), (D.S s11), (D.I i19), (D.I i20)] →
          ((
           (i20 ≠ i16) →
           LPackReads.sig.post [(D.S s0), (D.V v1), (D.L l2), (D.B false)]) ∧ (
           (i20 = i16) →
           LPackReads.I0 [(D.S s0), (D.V v1), (D.L l2), (D.I (IntKind.wrap .i64 (i7 + (1 : Int)))), (D.S s8), (D.I i15), (D.I i16), (D.S s11), (D.I i19), (D.I i20)] ∧ LPackReads.I0M [(D.S s0), (D.V v1), (D.L l2), (D.I (IntKind.wrap .i64 (i7 + (1 : Int)))), (D.S s8), (D.I i15), (D.I i16), (D.S s11), (D.I i19), (D.I i20)] < LPackReads.I0M [(D.S s0), (D.V v1), (D.L l2), (D.I i7), (D.S s8), (D.I i9), (D.I i10), (D.S s11), (D.I i12), (D.I i13)])))) ∧ (
          PErr.sig.pre [(D.N n4), (D.S s11), (D.I i19), (D.I i20)] ∧ (
          PErr.sig.post [(D.N n4), (D.S s11), (D.I i19), (D.I i20)] →
          ((
           (i20 ≠ i16) →
           LPackReads.sig.post [(D.S s0), (D.V v1), (D.L l2), (D.B false)]) ∧ (
           (i20 = i16) →
           LPackReads.I0 [(D.S s0), (D.V v1), (D.L l2), (D.I (IntKind.wrap .i64 (i7 + (1 : Int)))), (D.S s8), (D.I i15), (D.I i16), (D.S s11), (D.I i19), (D.I i20)] ∧ LPackReads.I0M [(D.S s0), (D.V v1), (D.L l2), (D.I (IntKind.wrap .i64 (i7 + (1 : Int)))), (D.S s8), (D.I i15), (D.I i16), (D.S s11), (D.I i19), (D.I i20)] < LPackReads.I0M [(D.S s0), (D.V v1), (D.L l2), (D.I i7), (D.S s8), (D.I i9), (D.I i10), (D.S s11), (D.I i12), (D.I i13)]))))))))) ∧ (
        PAt.sig.pre [(D.N n4), (D.S s11), (D.I i19), (D.I i20)] ∧ (
        PAt.sig.post [(D.N n4), (D.S s11), (D.I i19), (D.I i20)] →
        ((
         (i19 ≠ i15) →
         LPackReads.sig.post [(D.S s0), (D.V v1), (D.L l2), (D.B false)]) ∧ (
         (i19 = i15) →
         ((
          PErr.sig.pre [(D.N n4), (D.S s11), (D.I i19), (D.I i20)] ∧ (
          PErr.sig.post [(D.N n4), (D.S s11), (D.I i19), (D.I i20)] →
          ((
           (i20 ≠ i16) →
           LPackReads.sig.post [(D.S s0), (D.V v1), (D.L l2), (D.B false)]) ∧ (
           (i20 = i16) →
           LPackReads.I0 [(D.S s0), (D.V v1), (D.L l2), (D.I (IntKind.wrap .i64 (i7 + (1 : Int)))), (D.S s8), (D.I i15), (D.I i16), (D.S s11), (D.I i19), (D.I i20)] ∧ LPackReads.I0M [(D.S s0), (D.V v1), (D.L l2), (D.I (IntKind.wrap .i64 (i7 + (1 : Int)))), (D.S s8), (D.I i15), (D.I i16), (D.S s11), (D.I i19), (D.I i20)] < LPackReads.I0M [(D.S s0), (D.V v1), (D.L l2), (D.I i7), (D.S s8), (D.I i9), (D.I i10), (D.S s11), (D.I i12), (D.I i13)])))) ∧ (
          PErr.sig.pre [(D.N n4), (D.S s11), (D.I i19), (D.I i20)] ∧ (
          PErr.sig.post [(D.N n4), (D.S s11), (D.I i19), (D.I i20)] →
          ((
           (i20 ≠ i16) →
           LPackReads.sig.post [(D.S s0), (D.V v1), (D.L l2), (D.B false)]) ∧ (
           (i20 = i16) →
           LPackReads.I0 [(D.S s0), (D.V v1), (D.L l2), (D.I (IntKind.wrap .i64 (i7 + (1 : Int)))), (D.S s8), (D.I i15), (D.I i16), (D.S s11), (D.I i19), (D.I i20)] ∧ LPackReads.I0M [(D.S s0), (D.V v1), (D.L l2), (D.I (IntKind.wrap .i64 (i7 + (1 : Int)))), (D.S s8), (D.I i15), (D.I i16), (D.S s11), (D.I i19), (D.I i20)] < LPackReads.I0M [(D.S s0), (D.V v1), (D.L l2), (D.I i7), (D.S s8), (D.I i9), (D.I i10), (D.S s11), (D.I i12), (D.I i13)]))))))))))))))) ∧ (
      (((((l2.getD i7.toNat default)).toL.getD (0 : Int).toNat default)).toI ≠ (2 : Int)) →
      ((
       (((((l2.getD i7.toNat default)).toL.getD (0 : Int).toNat default)).toI = (3 : Int)) →
       cText.sig.pre [(D.S s8), (D.I i9), (D.I i10), (D.I ((((l2.getD i7.toNat default)).toL.getD (1 : Int).toNat default)).toI)] ∧ (
       ∀ (i15 : Int),
       ∀ (i16 : Int),
       ∀ (s17 : ByteArray),
       cText.sig.post [(D.S s8), (D.I i9), (D.I i10), (D.I ((((l2.getD i7.toNat default)).toL.getD (1 : Int).toNat default)).toI), (D.I i15), (D.I i16), (D.S s17)] →
       (-9223372036854775808 ≤ i15 ∧ i15 < 9223372036854775808) →
       (-9223372036854775808 ≤ i16 ∧ i16 < 9223372036854775808) →
       ((s17.size : Int) ≤ 9223372036854775807) →
       ∀ (n18 : Nat),
       PText.sig.pre [(D.N n4), (D.S s11), (D.I i12), (D.I i13), (D.I ((((l2.getD i7.toNat default)).toL.getD (1 : Int).toNat default)).toI)] ∧ (
       ∀ (i19 : Int),
       ∀ (i20 : Int),
       ∀ (s21 : ByteArray),
       PText.sig.post [(D.N n4), (D.S s11), (D.I i12), (D.I i13), (D.I ((((l2.getD i7.toNat default)).toL.getD (1 : Int).toNat default)).toI), (D.I i19), (D.I i20), (D.S s21)] →
       ((s21.size : Int) ≤ 9223372036854775807) →
       (-9223372036854775808 ≤ i19 ∧ i19 < 9223372036854775808) →
       (-9223372036854775808 ≤ i20 ∧ i20 < 9223372036854775808) →
       ((
        (s21 ≠ s17) →
        LPackReads.sig.post [(D.S s0), (D.V v1), (D.L l2), (D.B false)]) ∧ (
        (s21 = s17) →
        ((
         PAt.sig.pre [(D.N n4), (D.S s11), (D.I i19), (D.I i20)] ∧ (
         PAt.sig.post [(D.N n4), (D.S s11), (D.I i19), (D.I i20)] →
         ((
          (i19 ≠ i15) →
          LPackReads.sig.post [(D.S s0), (D.V v1), (D.L l2), (D.B false)]) ∧ (
          (i19 = i15) →
          ((
           PErr.sig.pre [(D.N n4), (D.S s11), (D.I i19), (D.I i20)] ∧ (
           PErr.sig.post [(D.N n4), (D.S s11), (D.I i19), (D.I i20)] →
           ((
            (i20 ≠ i16) →
            LPackReads.sig.post [(D.S s0), (D.V v1), (D.L l2), (D.B false)]) ∧ (
            (i20 = i16) →
            LPackReads.I0 [(D.S s0), (D.V v1), (D.L l2), (D.I (IntKind.wrap .i64 (i7 + (1 : Int)))), (D.S s8), (D.I i15), (D.I i16), (D.S s11), (D.I i19), (D.I i20)] ∧ LPackReads.I0M [(D.S s0), (D.V v1), (D.L l2), (D.I (IntKind.wrap .i64 (i7 + (1 : Int)))), (D.S s8), (D.I i15), (D.I i16), (D.S s11), (D.I i19), (D.I i20)] < LPackReads.I0M [(D.S s0), (D.V v1), (D.L l2), (D.I i7), (D.S s8), (D.I i9), (D.I i10), (D.S s11), (D.I i12), (D.I i13)])))) ∧ (
           PErr.sig.pre [(D.N n4), (D.S s11), (D.I i19), (D.I i20)] ∧ (
           PErr.sig.post [(D.N n4), (D.S s11), (D.I i19), (D.I i20)] →
           ((
            (i20 ≠ i16) →
            LPackReads.sig.post [(D.S s0), (D.V v1), (D.L l2), (D.B false)]) ∧ (
            (i20 = i16) →
            LPackReads.I0 [(D.S s0), (D.V v1), (D.L l2), (D.I (IntKind.wrap .i64 (i7 + (1 : Int)))), (D.S s8), (D.I i15), (D.I i16), (D.S s11), (D.I i19), (D.I i20)] ∧ LPackReads.I0M [(D.S s0), (D.V v1), (D.L l2), (D.I (IntKind.wrap .i64 (i7 + (1 : Int)))), (D.S s8), (D.I i15), (D.I i16), (D.S s11), (D.I i19), (D.I i20)] < LPackReads.I0M [(D.S s0), (D.V v1), (D.L l2), (D.I i7), (D.S s8), (D.I i9), (D.I i10), (D.S s11), (D.I i12), (D.I i13)]))))))))) ∧ (
         PAt.sig.pre [(D.N n4), (D.S s11), (D.I i19), (D.I i20)] ∧ (
         PAt.sig.post [(D.N n4), (D.S s11), (D.I i19), (D.I i20)] →
         ((
          (i19 ≠ i15) →
          LPackReads.sig.post [(D.S s0), (D.V v1), (D.L l2), (D.B false)]) ∧ (
          (i19 = i15) →
          ((
           PErr.sig.pre [(D.N n4), (D.S s11), (D.I i19), (D.I i20)] ∧ (
           PErr.sig.post [(D.N n4), (D.S s11), (D.I i19), (D.I i20)] →
           ((
            (i20 ≠ i16) →
            LPackReads.sig.post [(D.S s0), (D.V v1), (D.L l2), (D.B false)]) ∧ (
            (i20 = i16) →
            LPackReads.I0 [(D.S s0), (D.V v1), (D.L l2), (D.I (IntKind.wrap .i64 (i7 + (1 : Int)))), (D.S s8), (D.I i15), (D.I i16), (D.S s11), (D.I i19), (D.I i20)] ∧ LPackReads.I0M [(D.S s0), (D.V v1), (D.L l2), (D.I (IntKind.wrap .i64 (i7 + (1 : Int)))), (D.S s8), (D.I i15), (D.I i16), (D.S s11), (D.I i19), (D.I i20)] < LPackReads.I0M [(D.S s0), (D.V v1), (D.L l2), (D.I i7), (D.S s8), (D.I i9), (D.I i10), (D.S s11), (D.I i12), (D.I i13)])))) ∧ (
           PErr.sig.pre [(D.N n4), (D.S s11), (D.I i19), (D.I i20)] ∧ (
           PErr.sig.post [(D.N n4), (D.S s11), (D.I i19), (D.I i20)] →
           ((
            (i20 ≠ i16) →
            LPackReads.sig.post [(D.S s0), (D.V v1), (D.L l2), (D.B false)]) ∧ (
            (i20 = i16) →
            LPackReads.I0 [(D.S s0), (D.V v1), (D.L l2), (D.I (IntKind.wrap .i64 (i7 + (1 : Int)))), (D.S s8), (D.I i15), (D.I i16), (D.S s11), (D.I i19), (D.I i20)] ∧ LPackReads.I0M [(D.S s0), (D.V v1), (D.L l2), (D.I (IntKind.wrap .i64 (i7 + (1 : Int)))), (D.S s8), (D.I i15), (D.I i16), (D.S s11), (D.I i19), (D.I i20)] < LPackReads.I0M [(D.S s0), (D.V v1), (D.L l2), (D.I i7), (D.S s8), (D.I i9), (D.I i10), (D.S s11), (D.I i12), (D.I i13)]))))))))))))))) ∧ (
       (((((l2.getD i7.toNat default)).toL.getD (0 : Int).toNat default)).toI ≠ (3 : Int)) →
       ((
        (((((l2.getD i7.toNat default)).toL.getD (0 : Int).toNat default)).toI = (4 : Int)) →
        cRaw.sig.pre [(D.S s8), (D.I i9), (D.I i10), (D.I ((((l2.getD i7.toNat default)).toL.getD (1 : Int).toNat default)).toI)] ∧ (
        ∀ (i15 : Int),
        ∀ (i16 : Int),
        ∀ (s17 : ByteArray),
        cRaw.sig.post [(D.S s8), (D.I i9), (D.I i10), (D.I ((((l2.getD i7.toNat default)).toL.getD (1 : Int).toNat default)).toI), (D.I i15), (D.I i16), (D.S s17)] →
        (-9223372036854775808 ≤ i15 ∧ i15 < 9223372036854775808) →
        (-9223372036854775808 ≤ i16 ∧ i16 < 9223372036854775808) →
        ((s17.size : Int) ≤ 9223372036854775807) →
        ∀ (n18 : Nat),
        PRaw.sig.pre [(D.N n4), (D.S s11), (D.I i12), (D.I i13), (D.I ((((l2.getD i7.toNat default)).toL.getD (1 : Int).toNat default)).toI)] ∧ (
        ∀ (i19 : Int),
        ∀ (i20 : Int),
        ∀ (s21 : ByteArray),
        PRaw.sig.post [(D.N n4), (D.S s11), (D.I i12), (D.I i13), (D.I ((((l2.getD i7.toNat default)).toL.getD (1 : Int).toNat default)).toI), (D.I i19), (D.I i20), (D.S s21)] →
        ((s21.size : Int) ≤ 9223372036854775807) →
        (-9223372036854775808 ≤ i19 ∧ i19 < 9223372036854775808) →
        (-9223372036854775808 ≤ i20 ∧ i20 < 9223372036854775808) →
        ((
         (s21 ≠ s17) →
         LPackReads.sig.post [(D.S s0), (D.V v1), (D.L l2), (D.B false)]) ∧ (
         (s21 = s17) →
         ((
          PAt.sig.pre [(D.N n4), (D.S s11), (D.I i19), (D.I i20)] ∧ (
          PAt.sig.post [(D.N n4), (D.S s11), (D.I i19), (D.I i20)] →
          ((
           (i19 ≠ i15) →
           LPackReads.sig.post [(D.S s0), (D.V v1), (D.L l2), (D.B false)]) ∧ (
           (i19 = i15) →
           ((
            PErr.sig.pre [(D.N n4), (D.S s11), (D.I i19), (D.I i20)] ∧ (
            PErr.sig.post [(D.N n4), (D.S s11), (D.I i19), (D.I i20)] →
            ((
             (i20 ≠ i16) →
             LPackReads.sig.post [(D.S s0), (D.V v1), (D.L l2), (D.B false)]) ∧ (
             (i20 = i16) →
             LPackReads.I0 [(D.S s0), (D.V v1), (D.L l2), (D.I (IntKind.wrap .i64 (i7 + (1 : Int)))), (D.S s8), (D.I i15), (D.I i16), (D.S s11), (D.I i19), (D.I i20)] ∧ LPackReads.I0M [(D.S s0), (D.V v1), (D.L l2), (D.I (IntKind.wrap .i64 (i7 + (1 : Int)))), (D.S s8), (D.I i15), (D.I i16), (D.S s11), (D.I i19), (D.I i20)] < LPackReads.I0M [(D.S s0), (D.V v1), (D.L l2), (D.I i7), (D.S s8), (D.I i9), (D.I i10), (D.S s11), (D.I i12), (D.I i13)])))) ∧ (
            PErr.sig.pre [(D.N n4), (D.S s11), (D.I i19), (D.I i20)] ∧ (
            PErr.sig.post [(D.N n4), (D.S s11), (D.I i19), (D.I i20)] →
            ((
             (i20 ≠ i16) →
             LPackReads.sig.post [(D.S s0), (D.V v1), (D.L l2), (D.B false)]) ∧ (
             (i20 = i16) →
             LPackReads.I0 [(D.S s0), (D.V v1), (D.L l2), (D.I (IntKind.wrap .i64 (i7 + (1 : Int)))), (D.S s8), (D.I i15), (D.I i16), (D.S s11), (D.I i19), (D.I i20)] ∧ LPackReads.I0M [(D.S s0), (D.V v1), (D.L l2), (D.I (IntKind.wrap .i64 (i7 + (1 : Int)))), (D.S s8), (D.I i15), (D.I i16), (D.S s11), (D.I i19), (D.I i20)] < LPackReads.I0M [(D.S s0), (D.V v1), (D.L l2), (D.I i7), (D.S s8), (D.I i9), (D.I i10), (D.S s11), (D.I i12), (D.I i13)]))))))))) ∧ (
          PAt.sig.pre [(D.N n4), (D.S s11), (D.I i19), (D.I i20)] ∧ (
          PAt.sig.post [(D.N n4), (D.S s11), (D.I i19), (D.I i20)] →
          ((
           (i19 ≠ i15) →
           LPackReads.sig.post [(D.S s0), (D.V v1), (D.L l2), (D.B false)]) ∧ (
           (i19 = i15) →
           ((
            PErr.sig.pre [(D.N n4), (D.S s11), (D.I i19), (D.I i20)] ∧ (
            PErr.sig.post [(D.N n4), (D.S s11), (D.I i19), (D.I i20)] →
            ((
             (i20 ≠ i16) →
             LPackReads.sig.post [(D.S s0), (D.V v1), (D.L l2), (D.B false)]) ∧ (
             (i20 = i16) →
             LPackReads.I0 [(D.S s0), (D.V v1), (D.L l2), (D.I (IntKind.wrap .i64 (i7 + (1 : Int)))), (D.S s8), (D.I i15), (D.I i16), (D.S s11), (D.I i19), (D.I i20)] ∧ LPackReads.I0M [(D.S s0), (D.V v1), (D.L l2), (D.I (IntKind.wrap .i64 (i7 + (1 : Int)))), (D.S s8), (D.I i15), (D.I i16), (D.S s11), (D.I i19), (D.I i20)] < LPackReads.I0M [(D.S s0), (D.V v1), (D.L l2), (D.I i7), (D.S s8), (D.I i9), (D.I i10), (D.S s11), (D.I i12), (D.I i13)])))) ∧ (
            PErr.sig.pre [(D.N n4), (D.S s11), (D.I i19), (D.I i20)] ∧ (
            PErr.sig.post [(D.N n4), (D.S s11), (D.I i19), (D.I i20)] →
            ((
             (i20 ≠ i16) →
             LPackReads.sig.post [(D.S s0), (D.V v1), (D.L l2), (D.B false)]) ∧ (
             (i20 = i16) →
             LPackReads.I0 [(D.S s0), (D.V v1), (D.L l2), (D.I (IntKind.wrap .i64 (i7 + (1 : Int)))), (D.S s8), (D.I i15), (D.I i16), (D.S s11), (D.I i19), (D.I i20)] ∧ LPackReads.I0M [(D.S s0), (D.V v1), (D.L l2), (D.I (IntKind.wrap .i64 (i7 + (1 : Int)))), (D.S s8), (D.I i15), (D.I i16), (D.S s11), (D.I i19), (D.I i20)] < LPackReads.I0M [(D.S s0), (D.V v1), (D.L l2), (D.I i7), (D.S s8), (D.I i9), (D.I i10), (D.S s11), (D.I i12), (D.I i13)]))))))))))))))) ∧ (
        (((((l2.getD i7.toNat default)).toL.getD (0 : Int).toNat default)).toI ≠ (4 : Int)) →
        ((
         (true = false) →
         LPackReads.sig.post [(D.S s0), (D.V v1), (D.L l2), (D.B false)]) ∧ (
         (true = true) →
         ((
          PAt.sig.pre [(D.N n4), (D.S s11), (D.I i12), (D.I i13)] ∧ (
          PAt.sig.post [(D.N n4), (D.S s11), (D.I i12), (D.I i13)] →
          ((
           (i12 ≠ i9) →
           LPackReads.sig.post [(D.S s0), (D.V v1), (D.L l2), (D.B false)]) ∧ (
           (i12 = i9) →
           ((
            PErr.sig.pre [(D.N n4), (D.S s11), (D.I i12), (D.I i13)] ∧ (
            PErr.sig.post [(D.N n4), (D.S s11), (D.I i12), (D.I i13)] →
            ((
             (i13 ≠ i10) →
             LPackReads.sig.post [(D.S s0), (D.V v1), (D.L l2), (D.B false)]) ∧ (
             (i13 = i10) →
             LPackReads.I0 [(D.S s0), (D.V v1), (D.L l2), (D.I (IntKind.wrap .i64 (i7 + (1 : Int)))), (D.S s8), (D.I i9), (D.I i10), (D.S s11), (D.I i12), (D.I i13)] ∧ LPackReads.I0M [(D.S s0), (D.V v1), (D.L l2), (D.I (IntKind.wrap .i64 (i7 + (1 : Int)))), (D.S s8), (D.I i9), (D.I i10), (D.S s11), (D.I i12), (D.I i13)] < LPackReads.I0M [(D.S s0), (D.V v1), (D.L l2), (D.I i7), (D.S s8), (D.I i9), (D.I i10), (D.S s11), (D.I i12), (D.I i13)])))) ∧ (
            PErr.sig.pre [(D.N n4), (D.S s11), (D.I i12), (D.I i13)] ∧ (
            PErr.sig.post [(D.N n4), (D.S s11), (D.I i12), (D.I i13)] →
            ((
             (i13 ≠ i10) →
             LPackReads.sig.post [(D.S s0), (D.V v1), (D.L l2), (D.B false)]) ∧ (
             (i13 = i10) →
             LPackReads.I0 [(D.S s0), (D.V v1), (D.L l2), (D.I (IntKind.wrap .i64 (i7 + (1 : Int)))), (D.S s8), (D.I i9), (D.I i10), (D.S s11), (D.I i12), (D.I i13)] ∧ LPackReads.I0M [(D.S s0), (D.V v1), (D.L l2), (D.I (IntKind.wrap .i64 (i7 + (1 : Int)))), (D.S s8), (D.I i9), (D.I i10), (D.S s11), (D.I i12), (D.I i13)] < LPackReads.I0M [(D.S s0), (D.V v1), (D.L l2), (D.I i7), (D.S s8), (D.I i9), (D.I i10), (D.S s11), (D.I i12), (D.I i13)]))))))))) ∧ (
          PAt.sig.pre [(D.N n4), (D.S s11), (D.I i12), (D.I i13)] ∧ (
          PAt.sig.post [(D.N n4), (D.S s11), (D.I i12), (D.I i13)] →
          ((
           (i12 ≠ i9) →
           LPackReads.sig.post [(D.S s0), (D.V v1), (D.L l2), (D.B false)]) ∧ (
           (i12 = i9) →
           ((
            PErr.sig.pre [(D.N n4), (D.S s11), (D.I i12), (D.I i13)] ∧ (
            PErr.sig.post [(D.N n4), (D.S s11), (D.I i12), (D.I i13)] →
            ((
             (i13 ≠ i10) →
             LPackReads.sig.post [(D.S s0), (D.V v1), (D.L l2), (D.B false)]) ∧ (
             (i13 = i10) →
             LPackReads.I0 [(D.S s0), (D.V v1), (D.L l2), (D.I (IntKind.wrap .i64 (i7 + (1 : Int)))), (D.S s8), (D.I i9), (D.I i10), (D.S s11), (D.I i12), (D.I i13)] ∧ LPackReads.I0M [(D.S s0), (D.V v1), (D.L l2), (D.I (IntKind.wrap .i64 (i7 + (1 : Int)))), (D.S s8), (D.I i9), (D.I i10), (D.S s11), (D.I i12), (D.I i13)] < LPackReads.I0M [(D.S s0), (D.V v1), (D.L l2), (D.I i7), (D.S s8), (D.I i9), (D.I i10), (D.S s11), (D.I i12), (D.I i13)])))) ∧ (
            PErr.sig.pre [(D.N n4), (D.S s11), (D.I i12), (D.I i13)] ∧ (
            PErr.sig.post [(D.N n4), (D.S s11), (D.I i12), (D.I i13)] →
            ((
             (i13 ≠ i10) →
             LPackReads.sig.post [(D.S s0), (D.V v1), (D.L l2), (D.B false)]) ∧ (
             (i13 = i10) →
             LPackReads.I0 [(D.S s0), (D.V v1), (D.L l2), (D.I (IntKind.wrap .i64 (i7 + (1 : Int)))), (D.S s8), (D.I i9), (D.I i10), (D.S s11), (D.I i12), (D.I i13)] ∧ LPackReads.I0M [(D.S s0), (D.V v1), (D.L l2), (D.I (IntKind.wrap .i64 (i7 + (1 : Int)))), (D.S s8), (D.I i9), (D.I i10), (D.S s11), (D.I i12), (D.I i13)] < LPackReads.I0M [(D.S s0), (D.V v1), (D.L l2), (D.I i7), (D.S s8), (D.I i9), (D.I i10), (D.S s11), (D.I i12), (D.I i13)])))))))))))))))))))))) ∧ (
    ((30 : Int) ≤ i7) →
    cDone.sig.pre [(D.S s8), (D.I i9), (D.I i10)] ∧ (
    ∀ (i14 : Int),
    ∀ (i15 : Int),
    cDone.sig.post [(D.S s8), (D.I i9), (D.I i10), (D.I i14), (D.I i15)] →
    (-9223372036854775808 ≤ i14 ∧ i14 < 9223372036854775808) →
    (-9223372036854775808 ≤ i15 ∧ i15 < 9223372036854775808) →
    ((
     PDone.sig.pre [(D.N n4), (D.S s11), (D.I i12), (D.I i13)] ∧ (
     ∀ (i16 : Int),
     ∀ (i17 : Int),
     ∀ (i18 : Int),
     PDone.sig.post [(D.N n4), (D.S s11), (D.I i12), (D.I i13), (D.I i16), (D.I i17), (D.I i18)] →
     (-9223372036854775808 ≤ i18 ∧ i18 < 9223372036854775808) →
     (-9223372036854775808 ≤ i16 ∧ i16 < 9223372036854775808) →
     (-9223372036854775808 ≤ i17 ∧ i17 < 9223372036854775808) →
     ((
      (i18 = i15) →
      ((
       PErr.sig.pre [(D.N n4), (D.S s11), (D.I i16), (D.I i17)] ∧ (
       PErr.sig.post [(D.N n4), (D.S s11), (D.I i16), (D.I i17)] →
       LPackReads.sig.post [(D.S s0), (D.V v1), (D.L l2), (D.B (i17 == i15))])) ∧ (
       PErr.sig.pre [(D.N n4), (D.S s11), (D.I i16), (D.I i17)] ∧ (
       PErr.sig.post [(D.N n4), (D.S s11), (D.I i16), (D.I i17)] →
       LPackReads.sig.post [(D.S s0), (D.V v1), (D.L l2), (D.B (i17 == i15))])))) ∧ (
      (i18 ≠ i15) →
      LPackReads.sig.post [(D.S s0), (D.V v1), (D.L l2), (D.B false)])))) ∧ (
     PDone.sig.pre [(D.N n4), (D.S s11), (D.I i12), (D.I i13)] ∧ (
     ∀ (i16 : Int),
     ∀ (i17 : Int),
     ∀ (i18 : Int),
     PDone.sig.post [(D.N n4), (D.S s11), (D.I i12), (D.I i13), (D.I i16), (D.I i17), (D.I i18)] →
     (-9223372036854775808 ≤ i18 ∧ i18 < 9223372036854775808) →
     (-9223372036854775808 ≤ i16 ∧ i16 < 9223372036854775808) →
     (-9223372036854775808 ≤ i17 ∧ i17 < 9223372036854775808) →
     ((
      (i18 = i15) →
      ((
       PErr.sig.pre [(D.N n4), (D.S s11), (D.I i16), (D.I i17)] ∧ (
       PErr.sig.post [(D.N n4), (D.S s11), (D.I i16), (D.I i17)] →
       LPackReads.sig.post [(D.S s0), (D.V v1), (D.L l2), (D.B (i17 == i15))])) ∧ (
       PErr.sig.pre [(D.N n4), (D.S s11), (D.I i16), (D.I i17)] ∧ (
       PErr.sig.post [(D.N n4), (D.S s11), (D.I i16), (D.I i17)] →
       LPackReads.sig.post [(D.S s0), (D.V v1), (D.L l2), (D.B (i17 == i15))])))) ∧ (
      (i18 ≠ i15) →
      LPackReads.sig.post [(D.S s0), (D.V v1), (D.L l2), (D.B false)]))))))))) ∧ (
   (((l2.length : Nat) : Int) ≤ i7) →
   cDone.sig.pre [(D.S s8), (D.I i9), (D.I i10)] ∧ (
   ∀ (i14 : Int),
   ∀ (i15 : Int),
   cDone.sig.post [(D.S s8), (D.I i9), (D.I i10), (D.I i14), (D.I i15)] →
   (-9223372036854775808 ≤ i14 ∧ i14 < 9223372036854775808) →
   (-9223372036854775808 ≤ i15 ∧ i15 < 9223372036854775808) →
   ((
    PDone.sig.pre [(D.N n4), (D.S s11), (D.I i12), (D.I i13)] ∧ (
    ∀ (i16 : Int),
    ∀ (i17 : Int),
    ∀ (i18 : Int),
    PDone.sig.post [(D.N n4), (D.S s11), (D.I i12), (D.I i13), (D.I i16), (D.I i17), (D.I i18)] →
    (-9223372036854775808 ≤ i18 ∧ i18 < 9223372036854775808) →
    (-9223372036854775808 ≤ i16 ∧ i16 < 9223372036854775808) →
    (-9223372036854775808 ≤ i17 ∧ i17 < 9223372036854775808) →
    ((
     (i18 = i15) →
     ((
      PErr.sig.pre [(D.N n4), (D.S s11), (D.I i16), (D.I i17)] ∧ (
      PErr.sig.post [(D.N n4), (D.S s11), (D.I i16), (D.I i17)] →
      LPackReads.sig.post [(D.S s0), (D.V v1), (D.L l2), (D.B (i17 == i15))])) ∧ (
      PErr.sig.pre [(D.N n4), (D.S s11), (D.I i16), (D.I i17)] ∧ (
      PErr.sig.post [(D.N n4), (D.S s11), (D.I i16), (D.I i17)] →
      LPackReads.sig.post [(D.S s0), (D.V v1), (D.L l2), (D.B (i17 == i15))])))) ∧ (
     (i18 ≠ i15) →
     LPackReads.sig.post [(D.S s0), (D.V v1), (D.L l2), (D.B false)])))) ∧ (
    PDone.sig.pre [(D.N n4), (D.S s11), (D.I i12), (D.I i13)] ∧ (
    ∀ (i16 : Int),
    ∀ (i17 : Int),
    ∀ (i18 : Int),
    PDone.sig.post [(D.N n4), (D.S s11), (D.I i12), (D.I i13), (D.I i16), (D.I i17), (D.I i18)] →
    (-9223372036854775808 ≤ i18 ∧ i18 < 9223372036854775808) →
    (-9223372036854775808 ≤ i16 ∧ i16 < 9223372036854775808) →
    (-9223372036854775808 ≤ i17 ∧ i17 < 9223372036854775808) →
    ((
     (i18 = i15) →
     ((
      PErr.sig.pre [(D.N n4), (D.S s11), (D.I i16), (D.I i17)] ∧ (
      PErr.sig.post [(D.N n4), (D.S s11), (D.I i16), (D.I i17)] →
      LPackReads.sig.post [(D.S s0), (D.V v1), (D.L l2), (D.B (i17 == i15))])) ∧ (
      PErr.sig.pre [(D.N n4), (D.S s11), (D.I i16), (D.I i17)] ∧ (
      PErr.sig.post [(D.N n4), (D.S s11), (D.I i16), (D.I i17)] →
      LPackReads.sig.post [(D.S s0), (D.V v1), (D.L l2), (D.B (i17 == i15))])))) ∧ (
     (i18 ≠ i15) →
     LPackReads.sig.post [(D.S s0), (D.V v1), (D.L l2), (D.B false)]))))))))))))))
theorem LPackReads.den : LPackReads.vc.den2 (mkEnv LPackReads.sig [Cut.sig, PRead.sig, Awake04.sig, cFixed.sig, PFixed.sig, cNum.sig, PNum.sig, cText.sig, PText.sig, cRaw.sig, PRaw.sig, PAt.sig, PErr.sig, cDone.sig, PDone.sig] [(LPackReads.I0, LPackReads.I0M)]) [] = LPackReads.Pure := by kernel_rfl
def LPackBack.vc : VC :=
 (.all .V
 (.all .L
 (.know (.ekok [.int .i64, .int .i64, .int .u64, .str] (.at 1))
 (.post 0 [(.at 0), (.at 1)]
 (.all .V
 (.all .N
 (.inv 0 [(.at 0), (.at 1), (.int 0), (.lis [])]
 (.all .I
 (.all .V
 (.all .Z
 (.know (.has .i64 (.at 4))
 (.know (.allHas .u8 (.at 6))
 (.asm 0 [(.at 0), (.at 1), (.at 4), (.at 6)]
 (.and
  (.imp (.o2 .lt (.at 4) (.o1 .llen (.at 1))) true
  (.and
   (.imp (.o2 .lt (.at 4) (.int 20)) true
   (.obl (.o2 .le (.int 0) (.at 4))
   (.pre 1 [(.at 3), (.at 5), (.at 6), (.o1 .asI (.o2 .lget (.o1 .asL (.o2 .lget (.at 1) (.at 4))) (.int 0))), (.o1 .asI (.o2 .lget (.o1 .asL (.o2 .lget (.at 1) (.at 4))) (.int 1))), (.o1 .asI (.o2 .lget (.o1 .asL (.o2 .lget (.at 1) (.at 4))) (.int 2))), (.o1 .asS (.o2 .lget (.o1 .asL (.o2 .lget (.at 1) (.at 4))) (.int 3)))]
   (.all .V
   (.all .Z
   (.all .S
   (.post 1 [(.at 3), (.at 5), (.at 6), (.o1 .asI (.o2 .lget (.o1 .asL (.o2 .lget (.at 1) (.at 4))) (.int 0))), (.o1 .asI (.o2 .lget (.o1 .asL (.o2 .lget (.at 1) (.at 4))) (.int 1))), (.o1 .asI (.o2 .lget (.o1 .asL (.o2 .lget (.at 1) (.at 4))) (.int 2))), (.o1 .asS (.o2 .lget (.o1 .asL (.o2 .lget (.at 1) (.at 4))) (.int 3))), (.at 7), (.at 8), (.at 9)]
   (.know (.ssz (.at 9))
   (.know (.allHas .u8 (.at 8))
   (.back 0 [(.at 0), (.at 1), (.at 4), (.at 6)] [(.at 0), (.at 1), (.o2 (.add .i64) (.at 4) (.int 1)), (.at 8)]))))))))))
   (.imp (.o2 .lt (.at 4) (.int 20)) false
   (.pre 2 [(.at 3), (.at 5), (.at 6)]
   (.all .S
   (.post 2 [(.at 3), (.at 5), (.at 6), (.at 7)]
   (.know (.ssz (.at 7))
   (.pre 3 [(.at 7)]
   (.all .N
   (.post 3 [(.at 7), (.at 8)]
   (.inv 1 [(.at 0), (.at 1), (.int 0), (.at 7), (.int 0), (.int 0)]
   (.all .I
   (.all .S
   (.all .I
   (.all .I
   (.know (.has .i64 (.at 9))
   (.know (.ssz (.at 10))
   (.know (.has .i64 (.at 11))
   (.know (.has .i64 (.at 12))
   (.asm 1 [(.at 0), (.at 1), (.at 9), (.at 10), (.at 11), (.at 12)]
   (.and
    (.imp (.o2 .lt (.at 9) (.o1 .llen (.at 1))) true
    (.and
     (.imp (.o2 .lt (.at 9) (.int 20)) true
     (.obl (.o2 .le (.int 0) (.at 9))
     (.all .N
     (.pre 4 [(.o1 .asS (.o2 .lget (.o1 .asL (.o2 .lget (.at 1) (.at 9))) (.int 3))), (.int 300)]
     (.all .S
     (.post 4 [(.o1 .asS (.o2 .lget (.o1 .asL (.o2 .lget (.at 1) (.at 9))) (.int 3))), (.int 300), (.at 14)]
     (.know (.ssz (.at 14))
     (.and
      (.imp (.o2 .eq (.o1 .asI (.o2 .lget (.o1 .asL (.o2 .lget (.at 1) (.at 9))) (.int 0))) (.int 1)) true
      (.and
       (.and
        (.pre 5 [(.at 8), (.at 10), (.at 11), (.at 12), (.o1 .asI (.o2 .lget (.o1 .asL (.o2 .lget (.at 1) (.at 9))) (.int 1)))]
        (.all .I
        (.all .I
        (.all .I
        (.post 5 [(.at 8), (.at 10), (.at 11), (.at 12), (.o1 .asI (.o2 .lget (.o1 .asL (.o2 .lget (.at 1) (.at 9))) (.int 1))), (.at 15), (.at 16), (.at 17)]
        (.know (.has .u64 (.at 17))
        (.know (.has .i64 (.at 15))
        (.know (.has .i64 (.at 16))
        (.and
         (.pre 6 [(.at 17), (.o2 .min (.o2 .max (.o1 .asI (.o2 .lget (.o1 .asL (.o2 .lget (.at 1) (.at 9))) (.int 1))) (.int 1)) (.int 8))]
         (.all .S
         (.post 6 [(.at 17), (.o2 .min (.o2 .max (.o1 .asI (.o2 .lget (.o1 .asL (.o2 .lget (.at 1) (.at 9))) (.int 1))) (.int 1)) (.int 8)), (.at 18)]
         (.know (.ssz (.at 18))
         (.pre 6 [(.o1 .asI (.o2 .lget (.o1 .asL (.o2 .lget (.at 1) (.at 9))) (.int 2))), (.o2 .min (.o2 .max (.o1 .asI (.o2 .lget (.o1 .asL (.o2 .lget (.at 1) (.at 9))) (.int 1))) (.int 1)) (.int 8))]
         (.all .S
         (.post 6 [(.o1 .asI (.o2 .lget (.o1 .asL (.o2 .lget (.at 1) (.at 9))) (.int 2))), (.o2 .min (.o2 .max (.o1 .asI (.o2 .lget (.o1 .asL (.o2 .lget (.at 1) (.at 9))) (.int 1))) (.int 1)) (.int 8)), (.at 19)]
         (.know (.ssz (.at 19))
         (.and
          (.imp (.o1 .not (.o2 .eqs (.at 18) (.at 19))) true
          (.ret [(.at 0), (.at 1), (.bool false)]))
          (.imp (.o1 .not (.o2 .eqs (.at 18) (.at 19))) false
          (.back 1 [(.at 0), (.at 1), (.at 9), (.at 10), (.at 11), (.at 12)] [(.at 0), (.at 1), (.o2 (.add .i64) (.at 9) (.int 1)), (.at 10), (.at 15), (.at 16)])))))))))))
         (.pre 6 [(.at 17), (.o2 .min (.o2 .max (.o1 .asI (.o2 .lget (.o1 .asL (.o2 .lget (.at 1) (.at 9))) (.int 1))) (.int 1)) (.int 8))]
         (.all .S
         (.post 6 [(.at 17), (.o2 .min (.o2 .max (.o1 .asI (.o2 .lget (.o1 .asL (.o2 .lget (.at 1) (.at 9))) (.int 1))) (.int 1)) (.int 8)), (.at 18)]
         (.know (.ssz (.at 18))
         (.pre 6 [(.o1 .asI (.o2 .lget (.o1 .asL (.o2 .lget (.at 1) (.at 9))) (.int 2))), (.o2 .min (.o2 .max (.o1 .asI (.o2 .lget (.o1 .asL (.o2 .lget (.at 1) (.at 9))) (.int 1))) (.int 1)) (.int 8))]
         (.all .S
         (.post 6 [(.o1 .asI (.o2 .lget (.o1 .asL (.o2 .lget (.at 1) (.at 9))) (.int 2))), (.o2 .min (.o2 .max (.o1 .asI (.o2 .lget (.o1 .asL (.o2 .lget (.at 1) (.at 9))) (.int 1))) (.int 1)) (.int 8)), (.at 19)]
         (.know (.ssz (.at 19))
         (.and
          (.imp (.o1 .not (.o2 .eqs (.at 18) (.at 19))) true
          (.ret [(.at 0), (.at 1), (.bool false)]))
          (.imp (.o1 .not (.o2 .eqs (.at 18) (.at 19))) false
          (.back 1 [(.at 0), (.at 1), (.at 9), (.at 10), (.at 11), (.at 12)] [(.at 0), (.at 1), (.o2 (.add .i64) (.at 9) (.int 1)), (.at 10), (.at 15), (.at 16)]))))))))))))))))))))
        (.pre 5 [(.at 8), (.at 10), (.at 11), (.at 12), (.o1 .asI (.o2 .lget (.o1 .asL (.o2 .lget (.at 1) (.at 9))) (.int 1)))]
        (.all .I
        (.all .I
        (.all .I
        (.post 5 [(.at 8), (.at 10), (.at 11), (.at 12), (.o1 .asI (.o2 .lget (.o1 .asL (.o2 .lget (.at 1) (.at 9))) (.int 1))), (.at 15), (.at 16), (.at 17)]
        (.know (.has .u64 (.at 17))
        (.know (.has .i64 (.at 15))
        (.know (.has .i64 (.at 16))
        (.pre 6 [(.at 17), (.o2 .min (.o2 .max (.o1 .asI (.o2 .lget (.o1 .asL (.o2 .lget (.at 1) (.at 9))) (.int 1))) (.int 1)) (.int 8))]
        (.all .S
        (.post 6 [(.at 17), (.o2 .min (.o2 .max (.o1 .asI (.o2 .lget (.o1 .asL (.o2 .lget (.at 1) (.at 9))) (.int 1))) (.int 1)) (.int 8)), (.at 18)]
        (.know (.ssz (.at 18))
        (.pre 6 [(.o1 .asI (.o2 .lget (.o1 .asL (.o2 .lget (.at 1) (.at 9))) (.int 2))), (.o2 .min (.o2 .max (.o1 .asI (.o2 .lget (.o1 .asL (.o2 .lget (.at 1) (.at 9))) (.int 1))) (.int 1)) (.int 8))]
        (.all .S
        (.post 6 [(.o1 .asI (.o2 .lget (.o1 .asL (.o2 .lget (.at 1) (.at 9))) (.int 2))), (.o2 .min (.o2 .max (.o1 .asI (.o2 .lget (.o1 .asL (.o2 .lget (.at 1) (.at 9))) (.int 1))) (.int 1)) (.int 8)), (.at 19)]
        (.know (.ssz (.at 19))
        (.and
         (.imp (.o1 .not (.o2 .eqs (.at 18) (.at 19))) true
         (.ret [(.at 0), (.at 1), (.bool false)]))
         (.imp (.o1 .not (.o2 .eqs (.at 18) (.at 19))) false
         (.back 1 [(.at 0), (.at 1), (.at 9), (.at 10), (.at 11), (.at 12)] [(.at 0), (.at 1), (.o2 (.add .i64) (.at 9) (.int 1)), (.at 10), (.at 15), (.at 16)]))))))))))))))))))))
       (.pre 5 [(.at 8), (.at 10), (.at 11), (.at 12), (.o1 .asI (.o2 .lget (.o1 .asL (.o2 .lget (.at 1) (.at 9))) (.int 1)))]
       (.all .I
       (.all .I
       (.all .I
       (.post 5 [(.at 8), (.at 10), (.at 11), (.at 12), (.o1 .asI (.o2 .lget (.o1 .asL (.o2 .lget (.at 1) (.at 9))) (.int 1))), (.at 15), (.at 16), (.at 17)]
       (.know (.has .u64 (.at 17))
       (.know (.has .i64 (.at 15))
       (.know (.has .i64 (.at 16))
       (.pre 6 [(.at 17), (.o2 .min (.o2 .max (.o1 .asI (.o2 .lget (.o1 .asL (.o2 .lget (.at 1) (.at 9))) (.int 1))) (.int 1)) (.int 8))]
       (.all .S
       (.post 6 [(.at 17), (.o2 .min (.o2 .max (.o1 .asI (.o2 .lget (.o1 .asL (.o2 .lget (.at 1) (.at 9))) (.int 1))) (.int 1)) (.int 8)), (.at 18)]
       (.know (.ssz (.at 18))
       (.pre 6 [(.o1 .asI (.o2 .lget (.o1 .asL (.o2 .lget (.at 1) (.at 9))) (.int 2))), (.o2 .min (.o2 .max (.o1 .asI (.o2 .lget (.o1 .asL (.o2 .lget (.at 1) (.at 9))) (.int 1))) (.int 1)) (.int 8))]
       (.all .S
       (.post 6 [(.o1 .asI (.o2 .lget (.o1 .asL (.o2 .lget (.at 1) (.at 9))) (.int 2))), (.o2 .min (.o2 .max (.o1 .asI (.o2 .lget (.o1 .asL (.o2 .lget (.at 1) (.at 9))) (.int 1))) (.int 1)) (.int 8)), (.at 19)]
       (.know (.ssz (.at 19))
       (.and
        (.imp (.o1 .not (.o2 .eqs (.at 18) (.at 19))) true
        (.ret [(.at 0), (.at 1), (.bool false)]))
        (.imp (.o1 .not (.o2 .eqs (.at 18) (.at 19))) false
        (.back 1 [(.at 0), (.at 1), (.at 9), (.at 10), (.at 11), (.at 12)] [(.at 0), (.at 1), (.o2 (.add .i64) (.at 9) (.int 1)), (.at 10), (.at 15), (.at 16)])))))))))))))))))))))
      (.imp (.o2 .eq (.o1 .asI (.o2 .lget (.o1 .asL (.o2 .lget (.at 1) (.at 9))) (.int 0))) (.int 1)) false
      (.and
       (.imp (.o2 .eq (.o1 .asI (.o2 .lget (.o1 .asL (.o2 .lget (.at 1) (.at 9))) (.int 0))) (.int 2)) true
       (.and
        (.pre 7 [(.at 8), (.at 10), (.at 11), (.at 12)]
        (.all .I
        (.all .I
        (.all .I
        (.post 7 [(.at 8), (.at 10), (.at 11), (.at 12), (.at 15), (.at 16), (.at 17)]
        (.know (.has .u64 (.at 17))
        (.know (.has .i64 (.at 15))
        (.know (.has .i64 (.at 16))
        (.and
         (.imp (.o1 .not (.o2 .eq (.at 17) (.o1 .asI (.o2 .lget (.o1 .asL (.o2 .lget (.at 1) (.at 9))) (.int 2))))) true
         (.ret [(.at 0), (.at 1), (.bool false)]))
         (.imp (.o1 .not (.o2 .eq (.at 17) (.o1 .asI (.o2 .lget (.o1 .asL (.o2 .lget (.at 1) (.at 9))) (.int 2))))) false
         (.back 1 [(.at 0), (.at 1), (.at 9), (.at 10), (.at 11), (.at 12)] [(.at 0), (.at 1), (.o2 (.add .i64) (.at 9) (.int 1)), (.at 10), (.at 15), (.at 16)])))))))))))
        (.pre 7 [(.at 8), (.at 10), (.at 11), (.at 12)]
        (.all .I
        (.all .I
        (.all .I
        (.post 7 [(.at 8), (.at 10), (.at 11), (.at 12), (.at 15), (.at 16), (.at 17)]
        (.know (.has .u64 (.at 17))
        (.know (.has .i64 (.at 15))
        (.know (.has .i64 (.at 16))
        (.and
         (.imp (.o1 .not (.o2 .eq (.at 17) (.o1 .asI (.o2 .lget (.o1 .asL (.o2 .lget (.at 1) (.at 9))) (.int 2))))) true
         (.ret [(.at 0), (.at 1), (.bool false)]))
         (.imp (.o1 .not (.o2 .eq (.at 17) (.o1 .asI (.o2 .lget (.o1 .asL (.o2 .lget (.at 1) (.at 9))) (.int 2))))) false
         (.back 1 [(.at 0), (.at 1), (.at 9), (.at 10), (.at 11), (.at 12)] [(.at 0), (.at 1), (.o2 (.add .i64) (.at 9) (.int 1)), (.at 10), (.at 15), (.at 16)])))))))))))))
       (.imp (.o2 .eq (.o1 .asI (.o2 .lget (.o1 .asL (.o2 .lget (.at 1) (.at 9))) (.int 0))) (.int 2)) false
       (.and
        (.imp (.o2 .eq (.o1 .asI (.o2 .lget (.o1 .asL (.o2 .lget (.at 1) (.at 9))) (.int 0))) (.int 3)) true
        (.pre 8 [(.at 8), (.at 10), (.at 11), (.at 12), (.int 300)]
        (.all .I
        (.all .I
        (.all .S
        (.post 8 [(.at 8), (.at 10), (.at 11), (.at 12), (.int 300), (.at 15), (.at 16), (.at 17)]
        (.know (.ssz (.at 17))
        (.know (.has .i64 (.at 15))
        (.know (.has .i64 (.at 16))
        (.and
         (.imp (.o1 .not (.o2 .eqs (.at 17) (.at 14))) true
         (.ret [(.at 0), (.at 1), (.bool false)]))
         (.imp (.o1 .not (.o2 .eqs (.at 17) (.at 14))) false
         (.back 1 [(.at 0), (.at 1), (.at 9), (.at 10), (.at 11), (.at 12)] [(.at 0), (.at 1), (.o2 (.add .i64) (.at 9) (.int 1)), (.at 10), (.at 15), (.at 16)]))))))))))))
        (.imp (.o2 .eq (.o1 .asI (.o2 .lget (.o1 .asL (.o2 .lget (.at 1) (.at 9))) (.int 0))) (.int 3)) false
        (.and
         (.imp (.o2 .eq (.o1 .asI (.o2 .lget (.o1 .asL (.o2 .lget (.at 1) (.at 9))) (.int 0))) (.int 4)) true
         (.pre 9 [(.at 8), (.at 10), (.at 11), (.at 12), (.o1 .slen (.at 14))]
         (.all .I
         (.all .I
         (.all .S
         (.post 9 [(.at 8), (.at 10), (.at 11), (.at 12), (.o1 .slen (.at 14)), (.at 15), (.at 16), (.at 17)]
         (.know (.ssz (.at 17))
         (.know (.has .i64 (.at 15))
         (.know (.has .i64 (.at 16))
         (.and
          (.imp (.o1 .not (.o2 .eqs (.at 17) (.at 14))) true
          (.ret [(.at 0), (.at 1), (.bool false)]))
          (.imp (.o1 .not (.o2 .eqs (.at 17) (.at 14))) false
          (.back 1 [(.at 0), (.at 1), (.at 9), (.at 10), (.at 11), (.at 12)] [(.at 0), (.at 1), (.o2 (.add .i64) (.at 9) (.int 1)), (.at 10), (.at 15), (.at 16)]))))))))))))
         (.imp (.o2 .eq (.o1 .asI (.o2 .lget (.o1 .asL (.o2 .lget (.at 1) (.at 9))) (.int 0))) (.int 4)) false
         (.back 1 [(.at 0), (.at 1), (.at 9), (.at 10), (.at 11), (.at 12)] [(.at 0), (.at 1), (.o2 (.add .i64) (.at 9) (.int 1)), (.at 10), (.at 11), (.at 12)]))))))))))))))))
     (.imp (.o2 .lt (.at 9) (.int 20)) false
     (.pre 10 []
     (.all .B
     (.post 10 [(.at 13)]
     (.and
      (.imp (.at 13) true
      (.pre 11 [(.at 8), (.at 10), (.at 11), (.at 12)]
      (.all .I
      (.all .I
      (.all .I
      (.post 11 [(.at 8), (.at 10), (.at 11), (.at 12), (.at 14), (.at 15), (.at 16)]
      (.know (.has .i64 (.at 16))
      (.know (.has .i64 (.at 14))
      (.know (.has .i64 (.at 15))
      (.ret [(.at 0), (.at 1), (.o2 .eq (.at 16) (.int 0))]))))))))))
      (.imp (.at 13) false
      (.ret [(.at 0), (.at 1), (.bool false)])))))))))
    (.imp (.o2 .lt (.at 9) (.o1 .llen (.at 1))) false
    (.pre 10 []
    (.all .B
    (.post 10 [(.at 13)]
    (.and
     (.imp (.at 13) true
     (.pre 11 [(.at 8), (.at 10), (.at 11), (.at 12)]
     (.all .I
     (.all .I
     (.all .I
     (.post 11 [(.at 8), (.at 10), (.at 11), (.at 12), (.at 14), (.at 15), (.at 16)]
     (.know (.has .i64 (.at 16))
     (.know (.has .i64 (.at 14))
     (.know (.has .i64 (.at 15))
     (.ret [(.at 0), (.at 1), (.o2 .eq (.at 16) (.int 0))]))))))))))
     (.imp (.at 13) false
     (.ret [(.at 0), (.at 1), (.bool false)]))))))))))))))))))))))))))))
  (.imp (.o2 .lt (.at 4) (.o1 .llen (.at 1))) false
  (.pre 2 [(.at 3), (.at 5), (.at 6)]
  (.all .S
  (.post 2 [(.at 3), (.at 5), (.at 6), (.at 7)]
  (.know (.ssz (.at 7))
  (.pre 3 [(.at 7)]
  (.all .N
  (.post 3 [(.at 7), (.at 8)]
  (.inv 1 [(.at 0), (.at 1), (.int 0), (.at 7), (.int 0), (.int 0)]
  (.all .I
  (.all .S
  (.all .I
  (.all .I
  (.know (.has .i64 (.at 9))
  (.know (.ssz (.at 10))
  (.know (.has .i64 (.at 11))
  (.know (.has .i64 (.at 12))
  (.asm 1 [(.at 0), (.at 1), (.at 9), (.at 10), (.at 11), (.at 12)]
  (.and
   (.imp (.o2 .lt (.at 9) (.o1 .llen (.at 1))) true
   (.and
    (.imp (.o2 .lt (.at 9) (.int 20)) true
    (.obl (.o2 .le (.int 0) (.at 9))
    (.all .N
    (.pre 4 [(.o1 .asS (.o2 .lget (.o1 .asL (.o2 .lget (.at 1) (.at 9))) (.int 3))), (.int 300)]
    (.all .S
    (.post 4 [(.o1 .asS (.o2 .lget (.o1 .asL (.o2 .lget (.at 1) (.at 9))) (.int 3))), (.int 300), (.at 14)]
    (.know (.ssz (.at 14))
    (.and
     (.imp (.o2 .eq (.o1 .asI (.o2 .lget (.o1 .asL (.o2 .lget (.at 1) (.at 9))) (.int 0))) (.int 1)) true
     (.and
      (.and
       (.pre 5 [(.at 8), (.at 10), (.at 11), (.at 12), (.o1 .asI (.o2 .lget (.o1 .asL (.o2 .lget (.at 1) (.at 9))) (.int 1)))]
       (.all .I
       (.all .I
       (.all .I
       (.post 5 [(.at 8), (.at 10), (.at 11), (.at 12), (.o1 .asI (.o2 .lget (.o1 .asL (.o2 .lget (.at 1) (.at 9))) (.int 1))), (.at 15), (.at 16), (.at 17)]
       (.know (.has .u64 (.at 17))
       (.know (.has .i64 (.at 15))
       (.know (.has .i64 (.at 16))
       (.and
        (.pre 6 [(.at 17), (.o2 .min (.o2 .max (.o1 .asI (.o2 .lget (.o1 .asL (.o2 .lget (.at 1) (.at 9))) (.int 1))) (.int 1)) (.int 8))]
        (.all .S
        (.post 6 [(.at 17), (.o2 .min (.o2 .max (.o1 .asI (.o2 .lget (.o1 .asL (.o2 .lget (.at 1) (.at 9))) (.int 1))) (.int 1)) (.int 8)), (.at 18)]
        (.know (.ssz (.at 18))
        (.pre 6 [(.o1 .asI (.o2 .lget (.o1 .asL (.o2 .lget (.at 1) (.at 9))) (.int 2))), (.o2 .min (.o2 .max (.o1 .asI (.o2 .lget (.o1 .asL (.o2 .lget (.at 1) (.at 9))) (.int 1))) (.int 1)) (.int 8))]
        (.all .S
        (.post 6 [(.o1 .asI (.o2 .lget (.o1 .asL (.o2 .lget (.at 1) (.at 9))) (.int 2))), (.o2 .min (.o2 .max (.o1 .asI (.o2 .lget (.o1 .asL (.o2 .lget (.at 1) (.at 9))) (.int 1))) (.int 1)) (.int 8)), (.at 19)]
        (.know (.ssz (.at 19))
        (.and
         (.imp (.o1 .not (.o2 .eqs (.at 18) (.at 19))) true
         (.ret [(.at 0), (.at 1), (.bool false)]))
         (.imp (.o1 .not (.o2 .eqs (.at 18) (.at 19))) false
         (.back 1 [(.at 0), (.at 1), (.at 9), (.at 10), (.at 11), (.at 12)] [(.at 0), (.at 1), (.o2 (.add .i64) (.at 9) (.int 1)), (.at 10), (.at 15), (.at 16)])))))))))))
        (.pre 6 [(.at 17), (.o2 .min (.o2 .max (.o1 .asI (.o2 .lget (.o1 .asL (.o2 .lget (.at 1) (.at 9))) (.int 1))) (.int 1)) (.int 8))]
        (.all .S
        (.post 6 [(.at 17), (.o2 .min (.o2 .max (.o1 .asI (.o2 .lget (.o1 .asL (.o2 .lget (.at 1) (.at 9))) (.int 1))) (.int 1)) (.int 8)), (.at 18)]
        (.know (.ssz (.at 18))
        (.pre 6 [(.o1 .asI (.o2 .lget (.o1 .asL (.o2 .lget (.at 1) (.at 9))) (.int 2))), (.o2 .min (.o2 .max (.o1 .asI (.o2 .lget (.o1 .asL (.o2 .lget (.at 1) (.at 9))) (.int 1))) (.int 1)) (.int 8))]
        (.all .S
        (.post 6 [(.o1 .asI (.o2 .lget (.o1 .asL (.o2 .lget (.at 1) (.at 9))) (.int 2))), (.o2 .min (.o2 .max (.o1 .asI (.o2 .lget (.o1 .asL (.o2 .lget (.at 1) (.at 9))) (.int 1))) (.int 1)) (.int 8)), (.at 19)]
        (.know (.ssz (.at 19))
        (.and
         (.imp (.o1 .not (.o2 .eqs (.at 18) (.at 19))) true
         (.ret [(.at 0), (.at 1), (.bool false)]))
         (.imp (.o1 .not (.o2 .eqs (.at 18) (.at 19))) false
         (.back 1 [(.at 0), (.at 1), (.at 9), (.at 10), (.at 11), (.at 12)] [(.at 0), (.at 1), (.o2 (.add .i64) (.at 9) (.int 1)), (.at 10), (.at 15), (.at 16)]))))))))))))))))))))
       (.pre 5 [(.at 8), (.at 10), (.at 11), (.at 12), (.o1 .asI (.o2 .lget (.o1 .asL (.o2 .lget (.at 1) (.at 9))) (.int 1)))]
       (.all .I
       (.all .I
       (.all .I
       (.post 5 [(.at 8), (.at 10), (.at 11), (.at 12), (.o1 .asI (.o2 .lget (.o1 .asL (.o2 .lget (.at 1) (.at 9))) (.int 1))), (.at 15), (.at 16), (.at 17)]
       (.know (.has .u64 (.at 17))
       (.know (.has .i64 (.at 15))
       (.know (.has .i64 (.at 16))
       (.pre 6 [(.at 17), (.o2 .min (.o2 .max (.o1 .asI (.o2 .lget (.o1 .asL (.o2 .lget (.at 1) (.at 9))) (.int 1))) (.int 1)) (.int 8))]
       (.all .S
       (.post 6 [(.at 17), (.o2 .min (.o2 .max (.o1 .asI (.o2 .lget (.o1 .asL (.o2 .lget (.at 1) (.at 9))) (.int 1))) (.int 1)) (.int 8)), (.at 18)]
       (.know (.ssz (.at 18))
       (.pre 6 [(.o1 .asI (.o2 .lget (.o1 .asL (.o2 .lget (.at 1) (.at 9))) (.int 2))), (.o2 .min (.o2 .max (.o1 .asI (.o2 .lget (.o1 .asL (.o2 .lget (.at 1) (.at 9))) (.int 1))) (.int 1)) (.int 8))]
       (.all .S
       (.post 6 [(.o1 .asI (.o2 .lget (.o1 .asL (.o2 .lget (.at 1) (.at 9))) (.int 2))), (.o2 .min (.o2 .max (.o1 .asI (.o2 .lget (.o1 .asL (.o2 .lget (.at 1) (.at 9))) (.int 1))) (.int 1)) (.int 8)), (.at 19)]
       (.know (.ssz (.at 19))
       (.and
        (.imp (.o1 .not (.o2 .eqs (.at 18) (.at 19))) true
        (.ret [(.at 0), (.at 1), (.bool false)]))
        (.imp (.o1 .not (.o2 .eqs (.at 18) (.at 19))) false
        (.back 1 [(.at 0), (.at 1), (.at 9), (.at 10), (.at 11), (.at 12)] [(.at 0), (.at 1), (.o2 (.add .i64) (.at 9) (.int 1)), (.at 10), (.at 15), (.at 16)]))))))))))))))))))))
      (.pre 5 [(.at 8), (.at 10), (.at 11), (.at 12), (.o1 .asI (.o2 .lget (.o1 .asL (.o2 .lget (.at 1) (.at 9))) (.int 1)))]
      (.all .I
      (.all .I
      (.all .I
      (.post 5 [(.at 8), (.at 10), (.at 11), (.at 12), (.o1 .asI (.o2 .lget (.o1 .asL (.o2 .lget (.at 1) (.at 9))) (.int 1))), (.at 15), (.at 16), (.at 17)]
      (.know (.has .u64 (.at 17))
      (.know (.has .i64 (.at 15))
      (.know (.has .i64 (.at 16))
      (.pre 6 [(.at 17), (.o2 .min (.o2 .max (.o1 .asI (.o2 .lget (.o1 .asL (.o2 .lget (.at 1) (.at 9))) (.int 1))) (.int 1)) (.int 8))]
      (.all .S
      (.post 6 [(.at 17), (.o2 .min (.o2 .max (.o1 .asI (.o2 .lget (.o1 .asL (.o2 .lget (.at 1) (.at 9))) (.int 1))) (.int 1)) (.int 8)), (.at 18)]
      (.know (.ssz (.at 18))
      (.pre 6 [(.o1 .asI (.o2 .lget (.o1 .asL (.o2 .lget (.at 1) (.at 9))) (.int 2))), (.o2 .min (.o2 .max (.o1 .asI (.o2 .lget (.o1 .asL (.o2 .lget (.at 1) (.at 9))) (.int 1))) (.int 1)) (.int 8))]
      (.all .S
      (.post 6 [(.o1 .asI (.o2 .lget (.o1 .asL (.o2 .lget (.at 1) (.at 9))) (.int 2))), (.o2 .min (.o2 .max (.o1 .asI (.o2 .lget (.o1 .asL (.o2 .lget (.at 1) (.at 9))) (.int 1))) (.int 1)) (.int 8)), (.at 19)]
      (.know (.ssz (.at 19))
      (.and
       (.imp (.o1 .not (.o2 .eqs (.at 18) (.at 19))) true
       (.ret [(.at 0), (.at 1), (.bool false)]))
       (.imp (.o1 .not (.o2 .eqs (.at 18) (.at 19))) false
       (.back 1 [(.at 0), (.at 1), (.at 9), (.at 10), (.at 11), (.at 12)] [(.at 0), (.at 1), (.o2 (.add .i64) (.at 9) (.int 1)), (.at 10), (.at 15), (.at 16)])))))))))))))))))))))
     (.imp (.o2 .eq (.o1 .asI (.o2 .lget (.o1 .asL (.o2 .lget (.at 1) (.at 9))) (.int 0))) (.int 1)) false
     (.and
      (.imp (.o2 .eq (.o1 .asI (.o2 .lget (.o1 .asL (.o2 .lget (.at 1) (.at 9))) (.int 0))) (.int 2)) true
      (.and
       (.pre 7 [(.at 8), (.at 10), (.at 11), (.at 12)]
       (.all .I
       (.all .I
       (.all .I
       (.post 7 [(.at 8), (.at 10), (.at 11), (.at 12), (.at 15), (.at 16), (.at 17)]
       (.know (.has .u64 (.at 17))
       (.know (.has .i64 (.at 15))
       (.know (.has .i64 (.at 16))
       (.and
        (.imp (.o1 .not (.o2 .eq (.at 17) (.o1 .asI (.o2 .lget (.o1 .asL (.o2 .lget (.at 1) (.at 9))) (.int 2))))) true
        (.ret [(.at 0), (.at 1), (.bool false)]))
        (.imp (.o1 .not (.o2 .eq (.at 17) (.o1 .asI (.o2 .lget (.o1 .asL (.o2 .lget (.at 1) (.at 9))) (.int 2))))) false
        (.back 1 [(.at 0), (.at 1), (.at 9), (.at 10), (.at 11), (.at 12)] [(.at 0), (.at 1), (.o2 (.add .i64) (.at 9) (.int 1)), (.at 10), (.at 15), (.at 16)])))))))))))
       (.pre 7 [(.at 8), (.at 10), (.at 11), (.at 12)]
       (.all .I
       (.all .I
       (.all .I
       (.post 7 [(.at 8), (.at 10), (.at 11), (.at 12), (.at 15), (.at 16), (.at 17)]
       (.know (.has .u64 (.at 17))
       (.know (.has .i64 (.at 15))
       (.know (.has .i64 (.at 16))
       (.and
        (.imp (.o1 .not (.o2 .eq (.at 17) (.o1 .asI (.o2 .lget (.o1 .asL (.o2 .lget (.at 1) (.at 9))) (.int 2))))) true
        (.ret [(.at 0), (.at 1), (.bool false)]))
        (.imp (.o1 .not (.o2 .eq (.at 17) (.o1 .asI (.o2 .lget (.o1 .asL (.o2 .lget (.at 1) (.at 9))) (.int 2))))) false
        (.back 1 [(.at 0), (.at 1), (.at 9), (.at 10), (.at 11), (.at 12)] [(.at 0), (.at 1), (.o2 (.add .i64) (.at 9) (.int 1)), (.at 10), (.at 15), (.at 16)])))))))))))))
      (.imp (.o2 .eq (.o1 .asI (.o2 .lget (.o1 .asL (.o2 .lget (.at 1) (.at 9))) (.int 0))) (.int 2)) false
      (.and
       (.imp (.o2 .eq (.o1 .asI (.o2 .lget (.o1 .asL (.o2 .lget (.at 1) (.at 9))) (.int 0))) (.int 3)) true
       (.pre 8 [(.at 8), (.at 10), (.at 11), (.at 12), (.int 300)]
       (.all .I
       (.all .I
       (.all .S
       (.post 8 [(.at 8), (.at 10), (.at 11), (.at 12), (.int 300), (.at 15), (.at 16), (.at 17)]
       (.know (.ssz (.at 17))
       (.know (.has .i64 (.at 15))
       (.know (.has .i64 (.at 16))
       (.and
        (.imp (.o1 .not (.o2 .eqs (.at 17) (.at 14))) true
        (.ret [(.at 0), (.at 1), (.bool false)]))
        (.imp (.o1 .not (.o2 .eqs (.at 17) (.at 14))) false
        (.back 1 [(.at 0), (.at 1), (.at 9), (.at 10), (.at 11), (.at 12)] [(.at 0), (.at 1), (.o2 (.add .i64) (.at 9) (.int 1)), (.at 10), (.at 15), (.at 16)]))))))))))))
       (.imp (.o2 .eq (.o1 .asI (.o2 .lget (.o1 .asL (.o2 .lget (.at 1) (.at 9))) (.int 0))) (.int 3)) false
       (.and
        (.imp (.o2 .eq (.o1 .asI (.o2 .lget (.o1 .asL (.o2 .lget (.at 1) (.at 9))) (.int 0))) (.int 4)) true
        (.pre 9 [(.at 8), (.at 10), (.at 11), (.at 12), (.o1 .slen (.at 14))]
        (.all .I
        (.all .I
        (.all .S
        (.post 9 [(.at 8), (.at 10), (.at 11), (.at 12), (.o1 .slen (.at 14)), (.at 15), (.at 16), (.at 17)]
        (.know (.ssz (.at 17))
        (.know (.has .i64 (.at 15))
        (.know (.has .i64 (.at 16))
        (.and
         (.imp (.o1 .not (.o2 .eqs (.at 17) (.at 14))) true
         (.ret [(.at 0), (.at 1), (.bool false)]))
         (.imp (.o1 .not (.o2 .eqs (.at 17) (.at 14))) false
         (.back 1 [(.at 0), (.at 1), (.at 9), (.at 10), (.at 11), (.at 12)] [(.at 0), (.at 1), (.o2 (.add .i64) (.at 9) (.int 1)), (.at 10), (.at 15), (.at 16)]))))))))))))
        (.imp (.o2 .eq (.o1 .asI (.o2 .lget (.o1 .asL (.o2 .lget (.at 1) (.at 9))) (.int 0))) (.int 4)) false
        (.back 1 [(.at 0), (.at 1), (.at 9), (.at 10), (.at 11), (.at 12)] [(.at 0), (.at 1), (.o2 (.add .i64) (.at 9) (.int 1)), (.at 10), (.at 11), (.at 12)]))))))))))))))))
    (.imp (.o2 .lt (.at 9) (.int 20)) false
    (.pre 10 []
    (.all .B
    (.post 10 [(.at 13)]
    (.and
     (.imp (.at 13) true
     (.pre 11 [(.at 8), (.at 10), (.at 11), (.at 12)]
     (.all .I
     (.all .I
     (.all .I
     (.post 11 [(.at 8), (.at 10), (.at 11), (.at 12), (.at 14), (.at 15), (.at 16)]
     (.know (.has .i64 (.at 16))
     (.know (.has .i64 (.at 14))
     (.know (.has .i64 (.at 15))
     (.ret [(.at 0), (.at 1), (.o2 .eq (.at 16) (.int 0))]))))))))))
     (.imp (.at 13) false
     (.ret [(.at 0), (.at 1), (.bool false)])))))))))
   (.imp (.o2 .lt (.at 9) (.o1 .llen (.at 1))) false
   (.pre 10 []
   (.all .B
   (.post 10 [(.at 13)]
   (.and
    (.imp (.at 13) true
    (.pre 11 [(.at 8), (.at 10), (.at 11), (.at 12)]
    (.all .I
    (.all .I
    (.all .I
    (.post 11 [(.at 8), (.at 10), (.at 11), (.at 12), (.at 14), (.at 15), (.at 16)]
    (.know (.has .i64 (.at 16))
    (.know (.has .i64 (.at 14))
    (.know (.has .i64 (.at 15))
    (.ret [(.at 0), (.at 1), (.o2 .eq (.at 16) (.int 0))]))))))))))
    (.imp (.at 13) false
    (.ret [(.at 0), (.at 1), (.bool false)]))))))))))))))))))))))))))))))))))))))))
def LPackBack.Pure : Prop :=
 ∀ (v0 : Value),
 ∀ (l1 : List D),
 (EK.ok [.int .i64, .int .i64, .int .u64, .str] (D.L l1)) →
 LPackBack.sig.pre [(D.V v0), (D.L l1)] →
 ∀ (v2 : Value),
 ∀ (n3 : Nat),
 LPackBack.I0 [(D.V v0), (D.L l1), (D.I (0 : Int)), (D.Z ([] : List Int))] ∧ (
 ∀ (i4 : Int),
 ∀ (v5 : Value),
 ∀ (z6 : List Int),
 (-9223372036854775808 ≤ i4 ∧ i4 < 9223372036854775808) →
 (∀ x ∈ z6, IntKind.has .u8 x) →
 LPackBack.I0 [(D.V v0), (D.L l1), (D.I i4), (D.Z z6)] →
 ((
  (i4 < ((l1.length : Nat) : Int)) →
  ((
   (i4 < (20 : Int)) →
   ((0 : Int) ≤ i4) ∧ (((0 : Int) ≤ i4) →
   Put.sig.pre [(D.N n3), (D.V v5), (D.Z z6), (D.I ((((l1.getD i4.toNat default)).toL.getD (0 : Int).toNat default)).toI), (D.I ((((l1.getD i4.toNat default)).toL.getD (1 : Int).toNat default)).toI), (D.I ((((l1.getD i4.toNat default)).toL.getD (2 : Int).toNat default)).toI), (D.S ((((l1.getD i4.toNat default)).toL.getD (3 : Int).toNat default)).toS)] ∧ (
   ∀ (v7 : Value),
   ∀ (z8 : List Int),
   ∀ (s9 : ByteArray),
   Put.sig.post [(D.N n3), (D.V v5), (D.Z z6), (D.I ((((l1.getD i4.toNat default)).toL.getD (0 : Int).toNat default)).toI), (D.I ((((l1.getD i4.toNat default)).toL.getD (1 : Int).toNat default)).toI), (D.I ((((l1.getD i4.toNat default)).toL.getD (2 : Int).toNat default)).toI), (D.S ((((l1.getD i4.toNat default)).toL.getD (3 : Int).toNat default)).toS), (D.V v7), (D.Z z8), (D.S s9)] →
   ((s9.size : Int) ≤ 9223372036854775807) →
   (∀ x ∈ z8, IntKind.has .u8 x) →
   LPackBack.I0 [(D.V v0), (D.L l1), (D.I (IntKind.wrap .i64 (i4 + (1 : Int)))), (D.Z z8)] ∧ LPackBack.I0M [(D.V v0), (D.L l1), (D.I (IntKind.wrap .i64 (i4 + (1 : Int)))), (D.Z z8)] < LPackBack.I0M [(D.V v0), (D.L l1), (D.I i4), (D.Z z6)]))) ∧ (
   ((20 : Int) ≤ i4) →
   WBytes.sig.pre [(D.N n3), (D.V v5), (D.Z z6)] ∧ (
   ∀ (s7 : ByteArray),
   WBytes.sig.post [(D.N n3), (D.V v5), (D.Z z6), (D.S s7)] →
   ((s7.size : Int) ≤ 9223372036854775807) →
   PRead.sig.pre [(D.S s7)] ∧ (
   ∀ (n8 : Nat),
   PRead.sig.post [(D.S s7), (D.N n8)] →
   LPackBack.I1 [(D.V v0), (D.L l1), (D.I (0 : Int)), (D.S s7), (D.I (0 : Int)), (D.I (0 : Int))] ∧ (
   ∀ (i9 : Int),
   ∀ (s10 : ByteArray),
   ∀ (i11 : Int),
   ∀ (i12 : Int),
   (-9223372036854775808 ≤ i9 ∧ i9 < 9223372036854775808) →
   ((s10.size : Int) ≤ 9223372036854775807) →
   (-9223372036854775808 ≤ i11 ∧ i11 < 9223372036854775808) →
   (-9223372036854775808 ≤ i12 ∧ i12 < 9223372036854775808) →
   LPackBack.I1 [(D.V v0), (D.L l1), (D.I i9), (D.S s10), (D.I i11), (D.I i12)] →
   ((
    (i9 < ((l1.length : Nat) : Int)) →
    ((
     (i9 < (20 : Int)) →
     ((0 : Int) ≤ i9) ∧ (((0 : Int) ≤ i9) →
     ∀ (n13 : Nat),
     Cut.sig.pre [(D.S ((((l1.getD i9.toNat default)).toL.getD (3 : Int).toNat default)).toS), (D.I (300 : Int))] ∧ (
     ∀ (s14 : ByteArray),
     Cut.sig.post [(D.S ((((l1.getD i9.toNat default)).toL.getD (3 : Int).toNat default)).toS), (D.I (300 : Int)), (D.S s14)] →
     ((s14.size : Int) ≤ 9223372036854775807) →
     ((
      (((((l1.getD i9.toNat default)).toL.getD (0 : Int).toNat default)).toI = (1 : Int)) →
      ((
       ((
        PFixed.sig.pre [(D.N n8), (D.S s10), (D.I i11), (D.I i12), (D.I ((((l1.getD i9.toNat default)).toL.getD (1 : Int).toNat default)).toI)] ∧ (
        ∀ (i15 : Int),
        ∀ (i16 : Int),
        ∀ (i17 : Int),
        PFixed.sig.post [(D.N n8), (D.S s10), (D.I i11), (D.I i12), (D.I ((((l1.getD i9.toNat default)).toL.getD (1 : Int).toNat default)).toI), (D.I i15), (D.I i16), (D.I i17)] →
        (0 ≤ i17 ∧ i17 < 18446744073709551616) →
        (-9223372036854775808 ≤ i15 ∧ i15 < 9223372036854775808) →
        (-9223372036854775808 ≤ i16 ∧ i16 < 9223372036854775808) →
        ((
         RFixed.sig.pre [(D.I i17), (D.I (minI (maxI ((((l1.getD i9.toNat default)).toL.getD (1 : Int).toNat default)).toI (1 : Int)) (8 : Int)))] ∧ (
         ∀ (s18 : ByteArray),
         RFixed.sig.post [(D.I i17), (D.I (minI (maxI ((((l1.getD i9.toNat default)).toL.getD (1 : Int).toNat default)).toI (1 : Int)) (8 : Int))), (D.S s18)] →
         ((s18.size : Int) ≤ 9223372036854775807) →
         RFixed.sig.pre [(D.I ((((l1.getD i9.toNat default)).toL.getD (2 : Int).toNat default)).toI), (D.I (minI (maxI ((((l1.getD i9.toNat default)).toL.getD (1 : Int).toNat default)).toI (1 : Int)) (8 : Int)))] ∧ (
         ∀ (s19 : ByteArray),
         RFixed.sig.post [(D.I ((((l1.getD i9.toNat default)).toL.getD (2 : Int).toNat default)).toI), (D.I (minI (maxI ((((l1.getD i9.toNat default)).toL.getD (1 : Int).toNat default)).toI (1 : Int)) (8 : Int))), (D.S s19)] →
         ((s19.size : Int) ≤ 9223372036854775807) →
         ((
          (s18 ≠ s19) →
          LPackBack.sig.post [(D.V v0), (D.L l1), (D.B false)]) ∧ (
          (s18 = s19) →
          LPackBack.I1 [(D.V v0), (D.L l1), (D.I (IntKind.wrap .i64 (i9 + (1 : Int)))), (D.S s10), (D.I i15), (D.I i16)] ∧ LPackBack.I1M [(D.V v0), (D.L l1), (D.I (IntKind.wrap .i64 (i9 + (1 : Int)))), (D.S s10), (D.I i15), (D.I i16)] < LPackBack.I1M [(D.V v0), (D.L l1), (D.I i9), (D.S s10), (D.I i11), (D.I i12)]))))) ∧ (
         RFixed.sig.pre [(D.I i17), (D.I (minI (maxI ((((l1.getD i9.toNat default)).toL.getD (1 : Int).toNat default)).toI (1 : Int)) (8 : Int)))] ∧ (
         ∀ (s18 : ByteArray),
         RFixed.sig.post [(D.I i17), (D.I (minI (maxI ((((l1.getD i9.toNat default)).toL.getD (1 : Int).toNat default)).toI (1 : Int)) (8 : Int))), (D.S s18)] →
         ((s18.size : Int) ≤ 9223372036854775807) →
         RFixed.sig.pre [(D.I ((((l1.getD i9.toNat default)).toL.getD (2 : Int).toNat default)).toI), (D.I (minI (maxI ((((l1.getD i9.toNat default)).toL.getD (1 : Int).toNat default)).toI (1 : Int)) (8 : Int)))] ∧ (
         ∀ (s19 : ByteArray),
         RFixed.sig.post [(D.I ((((l1.getD i9.toNat default)).toL.getD (2 : Int).toNat default)).toI), (D.I (minI (maxI ((((l1.getD i9.toNat default)).toL.getD (1 : Int).toNat default)).toI (1 : Int)) (8 : Int))), (D.S s19)] →
         ((s19.size : Int) ≤ 9223372036854775807) →
         ((
          (s18 ≠ s19) →
          LPackBack.sig.post [(D.V v0), (D.L l1), (D.B false)]) ∧ (
          (s18 = s19) →
          LPackBack.I1 [(D.V v0), (D.L l1), (D.I (IntKind.wrap .i64 (i9 + (1 : Int)))), (D.S s10), (D.I i15), (D.I i16)] ∧ LPackBack.I1M [(D.V v0), (D.L l1), (D.I (IntKind.wrap .i64 (i9 + (1 : Int)))), (D.S s10), (D.I i15), (D.I i16)] < LPackBack.I1M [(D.V v0), (D.L l1), (D.I i9), (D.S s10), (D.I i11), (D.I i12)])))))))) ∧ (
        PFixed.sig.pre [(D.N n8), (D.S s10), (D.I i11), (D.I i12), (D.I ((((l1.getD i9.toNat default)).toL.getD (1 : Int).toNat default)).toI)] ∧ (
        ∀ (i15 : Int),
        ∀ (i16 : Int),
        ∀ (i17 : Int),
        PFixed.sig.post [(D.N n8), (D.S s10), (D.I i11), (D.I i12), (D.I ((((l1.getD i9.toNat default)).toL.getD (1 : Int).toNat default)).toI), (D.I i15), (D.I i16), (D.I i17)] →
        (0 ≤ i17 ∧ i17 < 18446744073709551616) →
        (-9223372036854775808 ≤ i15 ∧ i15 < 9223372036854775808) →
        (-9223372036854775808 ≤ i16 ∧ i16 < 9223372036854775808) →
        RFixed.sig.pre [(D.I i17), (D.I (minI (maxI ((((l1.getD i9.toNat default)).toL.getD (1 : Int).toNat default)).toI (1 : Int)) (8 : Int)))] ∧ (
        ∀ (s18 : ByteArray),
        RFixed.sig.post [(D.I i17), (D.I (minI (maxI ((((l1.getD i9.toNat default)).toL.getD (1 : Int).toNat default)).toI (1 : Int)) (8 : Int))), (D.S s18)] →
        ((s18.size : Int) ≤ 9223372036854775807) →
        RFixed.sig.pre [(D.I ((((l1.getD i9.toNat default)).toL.getD (2 : Int).toNat default)).toI), (D.I (minI (maxI ((((l1.getD i9.toNat default)).toL.getD (1 : Int).toNat default)).toI (1 : Int)) (8 : Int)))] ∧ (
        ∀ (s19 : ByteArray),
        RFixed.sig.post [(D.I ((((l1.getD i9.toNat default)).toL.getD (2 : Int).toNat default)).toI), (D.I (minI (maxI ((((l1.getD i9.toNat default)).toL.getD (1 : Int).toNat default)).toI (1 : Int)) (8 : Int))), (D.S s19)] →
        ((s19.size : Int) ≤ 9223372036854775807) →
        ((
         (s18 ≠ s19) →
         LPackBack.sig.post [(D.V v0), (D.L l1), (D.B false)]) ∧ (
         (s18 = s19) →
         LPackBack.I1 [(D.V v0), (D.L l1), (D.I (IntKind.wrap .i64 (i9 + (1 : Int)))), (D.S s10), (D.I i15), (D.I i16)] ∧ LPackBack.I1M [(D.V v0), (D.L l1), (D.I (IntKind.wrap .i64 (i9 + (1 : Int)))), (D.S s10), (D.I i15), (D.I i16)] < LPackBack.I1M [(D.V v0), (D.L l1), (D.I i9), (D.S s10), (D.I i11), (D.I i12)])))))))) ∧ (
       PFixed.sig.pre [(D.N n8), (D.S s10), (D.I i11), (D.I i12), (D.I ((((l1.getD i9.toNat default)).toL.getD (1 : Int).toNat default)).toI)] ∧ (
       ∀ (i15 : Int),
       ∀ (i16 : Int),
       ∀ (i17 : Int),
       PFixed.sig.post [(D.N n8), (D.S s10), (D.I i11), (D.I i12), (D.I ((((l1.getD i9.toNat default)).toL.getD (1 : Int).toNat default)).toI), (D.I i15), (D.I i16), (D.I i17)] →
       (0 ≤ i17 ∧ i17 < 18446744073709551616) →
       (-9223372036854775808 ≤ i15 ∧ i15 < 9223372036854775808) →
       (-9223372036854775808 ≤ i16 ∧ i16 < 9223372036854775808) →
       RFixed.sig.pre [(D.I i17), (D.I (minI (maxI ((((l1.getD i9.toNat default)).toL.getD (1 : Int).toNat default)).toI (1 : Int)) (8 : Int)))] ∧ (
       ∀ (s18 : ByteArray),
       RFixed.sig.post [(D.I i17), (D.I (minI (maxI ((((l1.getD i9.toNat default)).toL.getD (1 : Int).toNat default)).toI (1 : Int)) (8 : Int))), (D.S s18)] →
       ((s18.size : Int) ≤ 9223372036854775807) →
       RFixed.sig.pre [(D.I ((((l1.getD i9.toNat default)).toL.getD (2 : Int).toNat default)).toI), (D.I (minI (maxI ((((l1.getD i9.toNat default)).toL.getD (1 : Int).toNat default)).toI (1 : Int)) (8 : Int)))] ∧ (
       ∀ (s19 : ByteArray),
       RFixed.sig.post [(D.I ((((l1.getD i9.toNat default)).toL.getD (2 : Int).toNat default)).toI), (D.I (minI (maxI ((((l1.getD i9.toNat default)).toL.getD (1 : Int).toNat default)).toI (1 : Int)) (8 : Int))), (D.S s19)] →
       ((s19.size : Int) ≤ 9223372036854775807) →
       ((
        (s18 ≠ s19) →
        LPackBack.sig.post [(D.V v0), (D.L l1), (D.B false)]) ∧ (
        (s18 = s19) →
        LPackBack.I1 [(D.V v0), (D.L l1), (D.I (IntKind.wrap .i64 (i9 + (1 : Int)))), (D.S s10), (D.I i15), (D.I i16)] ∧ LPackBack.I1M [(D.V v0), (D.L l1), (D.I (IntKind.wrap .i64 (i9 + (1 : Int)))), (D.S s10), (D.I i15), (D.I i16)] < LPackBack.I1M [(D.V v0), (D.L l1), (D.I i9), (D.S s10), (D.I i11), (D.I i12)])))))))) ∧ (
      (((((l1.getD i9.toNat default)).toL.getD (0 : Int).toNat default)).toI ≠ (1 : Int)) →
      ((
       (((((l1.getD i9.toNat default)).toL.getD (0 : Int).toNat default)).toI = (2 : Int)) →
       ((
        PNum.sig.pre [(D.N n8), (D.S s10), (D.I i11), (D.I i12)] ∧ (
        ∀ (i15 : Int),
        ∀ (i16 : Int),
        ∀ (i17 : Int),
        PNum.sig.post [(D.N n8), (D.S s10), (D.I i11), (D.I i12), (D.I i15), (D.I i16), (D.I i17)] →
        (0 ≤ i17 ∧ i17 < 18446744073709551616) →
        (-9223372036854775808 ≤ i15 ∧ i15 < 9223372036854775808) →
        (-9223372036854775808 ≤ i16 ∧ i16 < 9223372036854775808) →
        ((
         (i17 ≠ ((((l1.getD i9.toNat default)).toL.getD (2 : Int).toNat default)).toI) →
         LPackBack.sig.post [(D.V v0), (D.L l1), (D.B false)]) ∧ (
         (i17 = ((((l1.getD i9.toNat default)).toL.getD (2 : Int).toNat default)).toI) →
         LPackBack.I1 [(D.V v0), (D.L l1), (D.I (IntKind.wrap .i64 (i9 + (1 : Int)))), (D.S s10), (D.I i15), (D.I i16)] ∧ LPackBack.I1M [(D.V v0), (D.L l1), (D.I (IntKind.wrap .i64 (i9 + (1 : Int)))), (D.S s10), (D.I i15), (D.I i16)] < LPackBack.I1M [(D.V v0), (D.L l1), (D.I i9), (D.S s10), (D.I i11), (D.I i12)])))) ∧ (
        PNum.sig.pre [(D.N n8), (D.S s10), (D.I i11), (D.I i12)] ∧ (
        ∀ (i15 : Int),
        ∀ (i16 : Int),
        ∀ (i17 : Int),
        PNum.sig.post [(D.N n8), (D.S s10), (D.I i11), (D.I i12), (D.I i15), (D.I i16), (D.I i17)] →
        (0 ≤ i17 ∧ i17 < 18446744073709551616) →
        (-9223372036854775808 ≤ i15 ∧ i15 < 9223372036854775808) →
        (-9223372036854775808 ≤ i16 ∧ i16 < 9223372036854775808) →
        ((
         (i17 ≠ ((((l1.getD i9.toNat default)).toL.getD (2 : Int).toNat default)).toI) →
         LPackBack.sig.post [(D.V v0), (D.L l1), (D.B false)]) ∧ (
         (i17 = ((((l1.getD i9.toNat default)).toL.getD (2 : Int).toNat default)).toI) →
         LPackBack.I1 [(D.V v0), (D.L l1), (D.I (IntKind.wrap .i64 (i9 + (1 : Int)))), (D.S s10), (D.I i15), (D.I i16)] ∧ LPackBack.I1M [(D.V v0), (D.L l1), (D.I (IntKind.wrap .i64 (i9 + (1 : Int)))), (D.S s10), (D.I i15), (D.I i16)] < LPackBack.I1M [(D.V v0), (D.L l1), (D.I i9), (D.S s10), (D.I i11), (D.I i12)])))))) ∧ (
       (((((l1.getD i9.toNat default)).toL.getD (0 : Int).toNat default)).toI ≠ (2 : Int)) →
       ((
        (((((l1.getD i9.toNat default)).toL.getD (0 : Int).toNat default)).toI = (3 : Int)) →
        PText.sig.pre [(D.N n8), (D.S s10), (D.I i11), (D.I i12), (D.I (300 : Int))] ∧ (
        ∀ (i15 : Int),
        ∀ (i16 : Int),
        ∀ (s17 : ByteArray),
        PText.sig.post [(D.N n8), (D.S s10), (D.I i11), (D.I i12), (D.I (300 : Int)), (D.I i15), (D.I i16), (D.S s17)] →
        ((s17.size : Int) ≤ 9223372036854775807) →
        (-9223372036854775808 ≤ i15 ∧ i15 < 9223372036854775808) →
        (-9223372036854775808 ≤ i16 ∧ i16 < 9223372036854775808) →
        ((
         (s17 ≠ s14) →
         LPackBack.sig.post [(D.V v0), (D.L l1), (D.B false)]) ∧ (
         (s17 = s14) →
         LPackBack.I1 [(D.V v0), (D.L l1), (D.I (IntKind.wrap .i64 (i9 + (1 : Int)))), (D.S s10), (D.I i15), (D.I i16)] ∧ LPackBack.I1M [(D.V v0), (D.L l1), (D.I (IntKind.wrap .i64 (i9 + (1 : Int)))), (D.S s10), (D.I i15), (D.I i16)] < LPackBack.I1M [(D.V v0), (D.L l1), (D.I i9), (D.S s10), (D.I i11), (D.I i12)])))) ∧ (
        (((((l1.getD i9.toNat default)).toL.getD (0 : Int).toNat default)).toI ≠ (3 : Int)) →
        ((
         (((((l1.getD i9.toNat default)).toL.getD (0 : Int).toNat default)).toI = (4 : Int)) →
         PRaw.sig.pre [(D.N n8), (D.S s10), (D.I i11), (D.I i12), (D.I ((s14.size : Nat) : Int))] ∧ (
         ∀ (i15 : Int),
         ∀ (i16 : Int),
         ∀ (s17 : ByteArray),
         PRaw.sig.post [(D.N n8), (D.S s10), (D.I i11), (D.I i12), (D.I ((s14.size : Nat) : Int)), (D.I i15), (D.I i16), (D.S s17)] →
         ((s17.size : Int) ≤ 9223372036854775807) →
         (-9223372036854775808 ≤ i15 ∧ i15 < 9223372036854775808) →
         (-9223372036854775808 ≤ i16 ∧ i16 < 9223372036854775808) →
         ((
          (s17 ≠ s14) →
          LPackBack.sig.post [(D.V v0), (D.L l1), (D.B false)]) ∧ (
          (s17 = s14) →
          LPackBack.I1 [(D.V v0), (D.L l1), (D.I (IntKind.wrap .i64 (i9 + (1 : Int)))), (D.S s10), (D.I i15), (D.I i16)] ∧ LPackBack.I1M [(D.V v0), (D.L l1), (D.I (IntKind.wrap .i64 (i9 + (1 : Int)))), (D.S s10), (D.I i15), (D.I i16)] < LPackBack.I1M [(D.V v0), (D.L l1), (D.I i9), (D.S s10), (D.I i11), (D.I i12)])))) ∧ (
         (((((l1.getD i9.toNat default)).toL.getD (0 : Int).toNat default)).toI ≠ (4 : Int)) →
         LPackBack.I1 [(D.V v0), (D.L l1), (D.I (IntKind.wrap .i64 (i9 + (1 : Int)))), (D.S s10), (D.I i11), (D.I i12)] ∧ LPackBack.I1M [(D.V v0), (D.L l1), (D.I (IntKind.wrap .i64 (i9 + (1 : Int)))), (D.S s10), (D.I i11), (D.I i12)] < LPackBack.I1M [(D.V v0), (D.L l1), (D.I i9), (D.S s10), (D.I i11), (D.I i12)]))))))))))) ∧ (
     ((20 : Int) ≤ i9) →
     Awake04.sig.pre [] ∧ (
     ∀ (b13 : Bool),
     Awake04.sig.post [(D.B b13)] →
     ((
      (b13 = true) →
      PDone.sig.pre [(D.N n8), (D.S s10), (D.I i11), (D.I i12)] ∧ (
      ∀ (i14 : Int),
      ∀ (i15 : Int),
      ∀ (i16 : Int),
      PDone.sig.post [(D.N n8), (D.S s10), (D.I i11), (D.I i12), (D.I i14), (D.I i15), (D.I i16)] →
      (-9223372036854775808 ≤ i16 ∧ i16 < 9223372036854775808) →
      (-9223372036854775808 ≤ i14 ∧ i14 < 9223372036854775808) →
      (-9223372036854775808 ≤ i15 ∧ i15 < 9223372036854775808) →
      LPackBack.sig.post [(D.V v0), (D.L l1), (D.B (i16 == (0 : Int)))])) ∧ (
      (b13 = false) →
      LPackBack.sig.post [(D.V v0), (D.L l1), (D.B false)])))))) ∧ (
    (((l1.length : Nat) : Int) ≤ i9) →
    Awake04.sig.pre [] ∧ (
    ∀ (b13 : Bool),
    Awake04.sig.post [(D.B b13)] →
    ((
     (b13 = true) →
     PDone.sig.pre [(D.N n8), (D.S s10), (D.I i11), (D.I i12)] ∧ (
     ∀ (i14 : Int),
     ∀ (i15 : Int),
     ∀ (i16 : Int),
     PDone.sig.post [(D.N n8), (D.S s10), (D.I i11), (D.I i12), (D.I i14), (D.I i15), (D.I i16)] →
     (-9223372036854775808 ≤ i16 ∧ i16 < 9223372036854775808) →
     (-9223372036854775808 ≤ i14 ∧ i14 < 9223372036854775808) →
     (-9223372036854775808 ≤ i15 ∧ i15 < 9223372036854775808) →
     LPackBack.sig.post [(D.V v0), (D.L l1), (D.B (i16 == (0 : Int)))])) ∧ (
     (b13 = false) →
     LPackBack.sig.post [(D.V v0), (D.L l1), (D.B false)]))))))))))) ∧ (
  (((l1.length : Nat) : Int) ≤ i4) →
  WBytes.sig.pre [(D.N n3), (D.V v5), (D.Z z6)] ∧ (
  ∀ (s7 : ByteArray),
  WBytes.sig.post [(D.N n3), (D.V v5), (D.Z z6), (D.S s7)] →
  ((s7.size : Int) ≤ 9223372036854775807) →
  PRead.sig.pre [(D.S s7)] ∧ (
  ∀ (n8 : Nat),
  PRead.sig.post [(D.S s7), (D.N n8)] →
  LPackBack.I1 [(D.V v0), (D.L l1), (D.I (0 : Int)), (D.S s7), (D.I (0 : Int)), (D.I (0 : Int))] ∧ (
  ∀ (i9 : Int),
  ∀ (s10 : ByteArray),
  ∀ (i11 : Int),
  ∀ (i12 : Int),
  (-9223372036854775808 ≤ i9 ∧ i9 < 9223372036854775808) →
  ((s10.size : Int) ≤ 9223372036854775807) →
  (-9223372036854775808 ≤ i11 ∧ i11 < 9223372036854775808) →
  (-9223372036854775808 ≤ i12 ∧ i12 < 9223372036854775808) →
  LPackBack.I1 [(D.V v0), (D.L l1), (D.I i9), (D.S s10), (D.I i11), (D.I i12)] →
  ((
   (i9 < ((l1.length : Nat) : Int)) →
   ((
    (i9 < (20 : Int)) →
    ((0 : Int) ≤ i9) ∧ (((0 : Int) ≤ i9) →
    ∀ (n13 : Nat),
    Cut.sig.pre [(D.S ((((l1.getD i9.toNat default)).toL.getD (3 : Int).toNat default)).toS), (D.I (300 : Int))] ∧ (
    ∀ (s14 : ByteArray),
    Cut.sig.post [(D.S ((((l1.getD i9.toNat default)).toL.getD (3 : Int).toNat default)).toS), (D.I (300 : Int)), (D.S s14)] →
    ((s14.size : Int) ≤ 9223372036854775807) →
    ((
     (((((l1.getD i9.toNat default)).toL.getD (0 : Int).toNat default)).toI = (1 : Int)) →
     ((
      ((
       PFixed.sig.pre [(D.N n8), (D.S s10), (D.I i11), (D.I i12), (D.I ((((l1.getD i9.toNat default)).toL.getD (1 : Int).toNat default)).toI)] ∧ (
       ∀ (i15 : Int),
       ∀ (i16 : Int),
       ∀ (i17 : Int),
       PFixed.sig.post [(D.N n8), (D.S s10), (D.I i11), (D.I i12), (D.I ((((l1.getD i9.toNat default)).toL.getD (1 : Int).toNat default)).toI), (D.I i15), (D.I i16), (D.I i17)] →
       (0 ≤ i17 ∧ i17 < 18446744073709551616) →
       (-9223372036854775808 ≤ i15 ∧ i15 < 9223372036854775808) →
       (-9223372036854775808 ≤ i16 ∧ i16 < 9223372036854775808) →
       ((
        RFixed.sig.pre [(D.I i17), (D.I (minI (maxI ((((l1.getD i9.toNat default)).toL.getD (1 : Int).toNat default)).toI (1 : Int)) (8 : Int)))] ∧ (
        ∀ (s18 : ByteArray),
        RFixed.sig.post [(D.I i17), (D.I (minI (maxI ((((l1.getD i9.toNat default)).toL.getD (1 : Int).toNat default)).toI (1 : Int)) (8 : Int))), (D.S s18)] →
        ((s18.size : Int) ≤ 9223372036854775807) →
        RFixed.sig.pre [(D.I ((((l1.getD i9.toNat default)).toL.getD (2 : Int).toNat default)).toI), (D.I (minI (maxI ((((l1.getD i9.toNat default)).toL.getD (1 : Int).toNat default)).toI (1 : Int)) (8 : Int)))] ∧ (
        ∀ (s19 : ByteArray),
        RFixed.sig.post [(D.I ((((l1.getD i9.toNat default)).toL.getD (2 : Int).toNat default)).toI), (D.I (minI (maxI ((((l1.getD i9.toNat default)).toL.getD (1 : Int).toNat default)).toI (1 : Int)) (8 : Int))), (D.S s19)] →
        ((s19.size : Int) ≤ 9223372036854775807) →
        ((
         (s18 ≠ s19) →
         LPackBack.sig.post [(D.V v0), (D.L l1), (D.B false)]) ∧ (
         (s18 = s19) →
         LPackBack.I1 [(D.V v0), (D.L l1), (D.I (IntKind.wrap .i64 (i9 + (1 : Int)))), (D.S s10), (D.I i15), (D.I i16)] ∧ LPackBack.I1M [(D.V v0), (D.L l1), (D.I (IntKind.wrap .i64 (i9 + (1 : Int)))), (D.S s10), (D.I i15), (D.I i16)] < LPackBack.I1M [(D.V v0), (D.L l1), (D.I i9), (D.S s10), (D.I i11), (D.I i12)]))))) ∧ (
        RFixed.sig.pre [(D.I i17), (D.I (minI (maxI ((((l1.getD i9.toNat default)).toL.getD (1 : Int).toNat default)).toI (1 : Int)) (8 : Int)))] ∧ (
        ∀ (s18 : ByteArray),
        RFixed.sig.post [(D.I i17), (D.I (minI (maxI ((((l1.getD i9.toNat default)).toL.getD (1 : Int).toNat default)).toI (1 : Int)) (8 : Int))), (D.S s18)] →
        ((s18.size : Int) ≤ 9223372036854775807) →
        RFixed.sig.pre [(D.I ((((l1.getD i9.toNat default)).toL.getD (2 : Int).toNat default)).toI), (D.I (minI (maxI ((((l1.getD i9.toNat default)).toL.getD (1 : Int).toNat default)).toI (1 : Int)) (8 : Int)))] ∧ (
        ∀ (s19 : ByteArray),
        RFixed.sig.post [(D.I ((((l1.getD i9.toNat default)).toL.getD (2 : Int).toNat default)).toI), (D.I (minI (maxI ((((l1.getD i9.toNat default)).toL.getD (1 : Int).toNat default)).toI (1 : Int)) (8 : Int))), (D.S s19)] →
        ((s19.size : Int) ≤ 9223372036854775807) →
        ((
         (s18 ≠ s19) →
         LPackBack.sig.post [(D.V v0), (D.L l1), (D.B false)]) ∧ (
         (s18 = s19) →
         LPackBack.I1 [(D.V v0), (D.L l1), (D.I (IntKind.wrap .i64 (i9 + (1 : Int)))), (D.S s10), (D.I i15), (D.I i16)] ∧ LPackBack.I1M [(D.V v0), (D.L l1), (D.I (IntKind.wrap .i64 (i9 + (1 : Int)))), (D.S s10), (D.I i15), (D.I i16)] < LPackBack.I1M [(D.V v0), (D.L l1), (D.I i9), (D.S s10), (D.I i11), (D.I i12)])))))))) ∧ (
       PFixed.sig.pre [(D.N n8), (D.S s10), (D.I i11), (D.I i12), (D.I ((((l1.getD i9.toNat default)).toL.getD (1 : Int).toNat default)).toI)] ∧ (
       ∀ (i15 : Int),
       ∀ (i16 : Int),
       ∀ (i17 : Int),
       PFixed.sig.post [(D.N n8), (D.S s10), (D.I i11), (D.I i12), (D.I ((((l1.getD i9.toNat default)).toL.getD (1 : Int).toNat default)).toI), (D.I i15), (D.I i16), (D.I i17)] →
       (0 ≤ i17 ∧ i17 < 18446744073709551616) →
       (-9223372036854775808 ≤ i15 ∧ i15 < 9223372036854775808) →
       (-9223372036854775808 ≤ i16 ∧ i16 < 9223372036854775808) →
       RFixed.sig.pre [(D.I i17), (D.I (minI (maxI ((((l1.getD i9.toNat default)).toL.getD (1 : Int).toNat default)).toI (1 : Int)) (8 : Int)))] ∧ (
       ∀ (s18 : ByteArray),
       RFixed.sig.post [(D.I i17), (D.I (minI (maxI ((((l1.getD i9.toNat default)).toL.getD (1 : Int).toNat default)).toI (1 : Int)) (8 : Int))), (D.S s18)] →
       ((s18.size : Int) ≤ 9223372036854775807) →
       RFixed.sig.pre [(D.I ((((l1.getD i9.toNat default)).toL.getD (2 : Int).toNat default)).toI), (D.I (minI (maxI ((((l1.getD i9.toNat default)).toL.getD (1 : Int).toNat default)).toI (1 : Int)) (8 : Int)))] ∧ (
       ∀ (s19 : ByteArray),
       RFixed.sig.post [(D.I ((((l1.getD i9.toNat default)).toL.getD (2 : Int).toNat default)).toI), (D.I (minI (maxI ((((l1.getD i9.toNat default)).toL.getD (1 : Int).toNat default)).toI (1 : Int)) (8 : Int))), (D.S s19)] →
       ((s19.size : Int) ≤ 9223372036854775807) →
       ((
        (s18 ≠ s19) →
        LPackBack.sig.post [(D.V v0), (D.L l1), (D.B false)]) ∧ (
        (s18 = s19) →
        LPackBack.I1 [(D.V v0), (D.L l1), (D.I (IntKind.wrap .i64 (i9 + (1 : Int)))), (D.S s10), (D.I i15), (D.I i16)] ∧ LPackBack.I1M [(D.V v0), (D.L l1), (D.I (IntKind.wrap .i64 (i9 + (1 : Int)))), (D.S s10), (D.I i15), (D.I i16)] < LPackBack.I1M [(D.V v0), (D.L l1), (D.I i9), (D.S s10), (D.I i11), (D.I i12)])))))))) ∧ (
      PFixed.sig.pre [(D.N n8), (D.S s10), (D.I i11), (D.I i12), (D.I ((((l1.getD i9.toNat default)).toL.getD (1 : Int).toNat default)).toI)] ∧ (
      ∀ (i15 : Int),
      ∀ (i16 : Int),
      ∀ (i17 : Int),
      PFixed.sig.post [(D.N n8), (D.S s10), (D.I i11), (D.I i12), (D.I ((((l1.getD i9.toNat default)).toL.getD (1 : Int).toNat default)).toI), (D.I i15), (D.I i16), (D.I i17)] →
      (0 ≤ i17 ∧ i17 < 18446744073709551616) →
      (-9223372036854775808 ≤ i15 ∧ i15 < 9223372036854775808) →
      (-9223372036854775808 ≤ i16 ∧ i16 < 9223372036854775808) →
      RFixed.sig.pre [(D.I i17), (D.I (minI (maxI ((((l1.getD i9.toNat default)).toL.getD (1 : Int).toNat default)).toI (1 : Int)) (8 : Int)))] ∧ (
      ∀ (s18 : ByteArray),
      RFixed.sig.post [(D.I i17), (D.I (minI (maxI ((((l1.getD i9.toNat default)).toL.getD (1 : Int).toNat default)).toI (1 : Int)) (8 : Int))), (D.S s18)] →
      ((s18.size : Int) ≤ 9223372036854775807) →
      RFixed.sig.pre [(D.I ((((l1.getD i9.toNat default)).toL.getD (2 : Int).toNat default)).toI), (D.I (minI (maxI ((((l1.getD i9.toNat default)).toL.getD (1 : Int).toNat default)).toI (1 : Int)) (8 : Int)))] ∧ (
      ∀ (s19 : ByteArray),
      RFixed.sig.post [(D.I ((((l1.getD i9.toNat default)).toL.getD (2 : Int).toNat default)).toI), (D.I (minI (maxI ((((l1.getD i9.toNat default)).toL.getD (1 : Int).toNat default)).toI (1 : Int)) (8 : Int))), (D.S s19)] →
      ((s19.size : Int) ≤ 9223372036854775807) →
      ((
       (s18 ≠ s19) →
       LPackBack.sig.post [(D.V v0), (D.L l1), (D.B false)]) ∧ (
       (s18 = s19) →
       LPackBack.I1 [(D.V v0), (D.L l1), (D.I (IntKind.wrap .i64 (i9 + (1 : Int)))), (D.S s10), (D.I i15), (D.I i16)] ∧ LPackBack.I1M [(D.V v0), (D.L l1), (D.I (IntKind.wrap .i64 (i9 + (1 : Int)))), (D.S s10), (D.I i15), (D.I i16)] < LPackBack.I1M [(D.V v0), (D.L l1), (D.I i9), (D.S s10), (D.I i11), (D.I i12)])))))))) ∧ (
     (((((l1.getD i9.toNat default)).toL.getD (0 : Int).toNat default)).toI ≠ (1 : Int)) →
     ((
      (((((l1.getD i9.toNat default)).toL.getD (0 : Int).toNat default)).toI = (2 : Int)) →
      ((
       PNum.sig.pre [(D.N n8), (D.S s10), (D.I i11), (D.I i12)] ∧ (
       ∀ (i15 : Int),
       ∀ (i16 : Int),
       ∀ (i17 : Int),
       PNum.sig.post [(D.N n8), (D.S s10), (D.I i11), (D.I i12), (D.I i15), (D.I i16), (D.I i17)] →
       (0 ≤ i17 ∧ i17 < 18446744073709551616) →
       (-9223372036854775808 ≤ i15 ∧ i15 < 9223372036854775808) →
       (-9223372036854775808 ≤ i16 ∧ i16 < 9223372036854775808) →
       ((
        (i17 ≠ ((((l1.getD i9.toNat default)).toL.getD (2 : Int).toNat default)).toI) →
        LPackBack.sig.post [(D.V v0), (D.L l1), (D.B false)]) ∧ (
        (i17 = ((((l1.getD i9.toNat default)).toL.getD (2 : Int).toNat default)).toI) →
        LPackBack.I1 [(D.V v0), (D.L l1), (D.I (IntKind.wrap .i64 (i9 + (1 : Int)))), (D.S s10), (D.I i15), (D.I i16)] ∧ LPackBack.I1M [(D.V v0), (D.L l1), (D.I (IntKind.wrap .i64 (i9 + (1 : Int)))), (D.S s10), (D.I i15), (D.I i16)] < LPackBack.I1M [(D.V v0), (D.L l1), (D.I i9), (D.S s10), (D.I i11), (D.I i12)])))) ∧ (
       PNum.sig.pre [(D.N n8), (D.S s10), (D.I i11), (D.I i12)] ∧ (
       ∀ (i15 : Int),
       ∀ (i16 : Int),
       ∀ (i17 : Int),
       PNum.sig.post [(D.N n8), (D.S s10), (D.I i11), (D.I i12), (D.I i15), (D.I i16), (D.I i17)] →
       (0 ≤ i17 ∧ i17 < 18446744073709551616) →
       (-9223372036854775808 ≤ i15 ∧ i15 < 9223372036854775808) →
       (-9223372036854775808 ≤ i16 ∧ i16 < 9223372036854775808) →
       ((
        (i17 ≠ ((((l1.getD i9.toNat default)).toL.getD (2 : Int).toNat default)).toI) →
        LPackBack.sig.post [(D.V v0), (D.L l1), (D.B false)]) ∧ (
        (i17 = ((((l1.getD i9.toNat default)).toL.getD (2 : Int).toNat default)).toI) →
        LPackBack.I1 [(D.V v0), (D.L l1), (D.I (IntKind.wrap .i64 (i9 + (1 : Int)))), (D.S s10), (D.I i15), (D.I i16)] ∧ LPackBack.I1M [(D.V v0), (D.L l1), (D.I (IntKind.wrap .i64 (i9 + (1 : Int)))), (D.S s10), (D.I i15), (D.I i16)] < LPackBack.I1M [(D.V v0), (D.L l1), (D.I i9), (D.S s10), (D.I i11), (D.I i12)])))))) ∧ (
      (((((l1.getD i9.toNat default)).toL.getD (0 : Int).toNat default)).toI ≠ (2 : Int)) →
      ((
       (((((l1.getD i9.toNat default)).toL.getD (0 : Int).toNat default)).toI = (3 : Int)) →
       PText.sig.pre [(D.N n8), (D.S s10), (D.I i11), (D.I i12), (D.I (300 : Int))] ∧ (
       ∀ (i15 : Int),
       ∀ (i16 : Int),
       ∀ (s17 : ByteArray),
       PText.sig.post [(D.N n8), (D.S s10), (D.I i11), (D.I i12), (D.I (300 : Int)), (D.I i15), (D.I i16), (D.S s17)] →
       ((s17.size : Int) ≤ 9223372036854775807) →
       (-9223372036854775808 ≤ i15 ∧ i15 < 9223372036854775808) →
       (-9223372036854775808 ≤ i16 ∧ i16 < 9223372036854775808) →
       ((
        (s17 ≠ s14) →
        LPackBack.sig.post [(D.V v0), (D.L l1), (D.B false)]) ∧ (
        (s17 = s14) →
        LPackBack.I1 [(D.V v0), (D.L l1), (D.I (IntKind.wrap .i64 (i9 + (1 : Int)))), (D.S s10), (D.I i15), (D.I i16)] ∧ LPackBack.I1M [(D.V v0), (D.L l1), (D.I (IntKind.wrap .i64 (i9 + (1 : Int)))), (D.S s10), (D.I i15), (D.I i16)] < LPackBack.I1M [(D.V v0), (D.L l1), (D.I i9), (D.S s10), (D.I i11), (D.I i12)])))) ∧ (
       (((((l1.getD i9.toNat default)).toL.getD (0 : Int).toNat default)).toI ≠ (3 : Int)) →
       ((
        (((((l1.getD i9.toNat default)).toL.getD (0 : Int).toNat default)).toI = (4 : Int)) →
        PRaw.sig.pre [(D.N n8), (D.S s10), (D.I i11), (D.I i12), (D.I ((s14.size : Nat) : Int))] ∧ (
        ∀ (i15 : Int),
        ∀ (i16 : Int),
        ∀ (s17 : ByteArray),
        PRaw.sig.post [(D.N n8), (D.S s10), (D.I i11), (D.I i12), (D.I ((s14.size : Nat) : Int)), (D.I i15), (D.I i16), (D.S s17)] →
        ((s17.size : Int) ≤ 9223372036854775807) →
        (-9223372036854775808 ≤ i15 ∧ i15 < 9223372036854775808) →
        (-9223372036854775808 ≤ i16 ∧ i16 < 9223372036854775808) →
        ((
         (s17 ≠ s14) →
         LPackBack.sig.post [(D.V v0), (D.L l1), (D.B false)]) ∧ (
         (s17 = s14) →
         LPackBack.I1 [(D.V v0), (D.L l1), (D.I (IntKind.wrap .i64 (i9 + (1 : Int)))), (D.S s10), (D.I i15), (D.I i16)] ∧ LPackBack.I1M [(D.V v0), (D.L l1), (D.I (IntKind.wrap .i64 (i9 + (1 : Int)))), (D.S s10), (D.I i15), (D.I i16)] < LPackBack.I1M [(D.V v0), (D.L l1), (D.I i9), (D.S s10), (D.I i11), (D.I i12)])))) ∧ (
        (((((l1.getD i9.toNat default)).toL.getD (0 : Int).toNat default)).toI ≠ (4 : Int)) →
        LPackBack.I1 [(D.V v0), (D.L l1), (D.I (IntKind.wrap .i64 (i9 + (1 : Int)))), (D.S s10), (D.I i11), (D.I i12)] ∧ LPackBack.I1M [(D.V v0), (D.L l1), (D.I (IntKind.wrap .i64 (i9 + (1 : Int)))), (D.S s10), (D.I i11), (D.I i12)] < LPackBack.I1M [(D.V v0), (D.L l1), (D.I i9), (D.S s10), (D.I i11), (D.I i12)]))))))))))) ∧ (
    ((20 : Int) ≤ i9) →
    Awake04.sig.pre [] ∧ (
    ∀ (b13 : Bool),
    Awake04.sig.post [(D.B b13)] →
    ((
     (b13 = true) →
     PDone.sig.pre [(D.N n8), (D.S s10), (D.I i11), (D.I i12)] ∧ (
     ∀ (i14 : Int),
     ∀ (i15 : Int),
     ∀ (i16 : Int),
     PDone.sig.post [(D.N n8), (D.S s10), (D.I i11), (D.I i12), (D.I i14), (D.I i15), (D.I i16)] →
     (-9223372036854775808 ≤ i16 ∧ i16 < 9223372036854775808) →
     (-9223372036854775808 ≤ i14 ∧ i14 < 9223372036854775808) →
     (-9223372036854775808 ≤ i15 ∧ i15 < 9223372036854775808) →
     LPackBack.sig.post [(D.V v0), (D.L l1), (D.B (i16 == (0 : Int)))])) ∧ (
     (b13 = false) →
     LPackBack.sig.post [(D.V v0), (D.L l1), (D.B false)])))))) ∧ (
   (((l1.length : Nat) : Int) ≤ i9) →
   Awake04.sig.pre [] ∧ (
   ∀ (b13 : Bool),
   Awake04.sig.post [(D.B b13)] →
   ((
    (b13 = true) →
    PDone.sig.pre [(D.N n8), (D.S s10), (D.I i11), (D.I i12)] ∧ (
    ∀ (i14 : Int),
    ∀ (i15 : Int),
    ∀ (i16 : Int),
    PDone.sig.post [(D.N n8), (D.S s10), (D.I i11), (D.I i12), (D.I i14), (D.I i15), (D.I i16)] →
    (-9223372036854775808 ≤ i16 ∧ i16 < 9223372036854775808) →
    (-9223372036854775808 ≤ i14 ∧ i14 < 9223372036854775808) →
    (-9223372036854775808 ≤ i15 ∧ i15 < 9223372036854775808) →
    LPackBack.sig.post [(D.V v0), (D.L l1), (D.B (i16 == (0 : Int)))])) ∧ (
    (b13 = false) →
    LPackBack.sig.post [(D.V v0), (D.L l1), (D.B false)])))))))))))
theorem LPackBack.den : LPackBack.vc.den2 (mkEnv LPackBack.sig [Put.sig, WBytes.sig, PRead.sig, Cut.sig, PFixed.sig, RFixed.sig, PNum.sig, PText.sig, PRaw.sig, Awake04.sig, PDone.sig] [(LPackBack.I0, LPackBack.I0M), (LPackBack.I1, LPackBack.I1M)]) [] = LPackBack.Pure := by kernel_rfl
end Go.Vc
