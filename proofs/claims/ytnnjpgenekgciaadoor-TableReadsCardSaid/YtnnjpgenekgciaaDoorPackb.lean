/-
  Contracts of the numbers and texts as bytes: reading.
  Printed by wip/vct.py: the conditions of functions, by their contracts.
-/
import Derived.Test.YtnnjpgenekgciaaDoorPack
import Derived.KernelRfl
set_option linter.unusedVariables false
set_option linter.unusedSimpArgs false
namespace Go.Vc
/-- The document's cursor: a struct of a text, a place, an error. -/
def cur (n : Nat) : S0 := .agg [.lf (.str (.at n)), .lf (.int .i64 (.at (n + 1))), .lf (.int .i64 (.at (n + 2)))]
/-- The same text, another place and error. -/
def cur' (s n : Nat) : S0 := .agg [.lf (.str (.at s)), .lf (.int .i64 (.at n)), .lf (.int .i64 (.at (n + 1)))]
def curSig (as rs : List AK) (pre post : List D → Prop) : Sig :=
  let n := 3 + (srtsOf as).length
  { args := .one (cur 0) :: svsOf 3 as, heap := [], srts := .S :: .I :: .I :: srtsOf as,
    res := .tup (cur' 0 n :: (svsOf (n + 2) rs).map fun x => match x with | .one y => y | _ => .lf .junk), heap' := [], news := .I :: .I :: srtsOf rs, pre := pre, post := post }
def cRaw.pre : List D → Prop
  | .S s :: .I a :: .I _ :: _ => 0 ≤ a ∧ a ≤ s.size ∧ s.size ≤ 1000000000
  | _ => False
def cRaw.post : List D → Prop
  | [.S s, .I a, .I e, .I n, .I a', .I e', .S r] => (a', e', r) = rdRaw s a e n
  | _ => False
def cRaw.sig : Sig := curSig [.i .i64] [.s] cRaw.pre cRaw.post
def cFixed.pre : List D → Prop
  | [.S s, .I a, .I _, .I n] => 0 ≤ a ∧ a ≤ s.size ∧ s.size ≤ 1000000000 ∧ 1 ≤ n ∧ n ≤ 8
  | _ => False
def cFixed.post : List D → Prop
  | [.S s, .I a, .I e, .I n, .I a', .I e', .I r] => (a', e', r) = rdFixed s a e n
  | _ => False
def cFixed.sig : Sig := curSig [.i .i64] [.i .u64] cFixed.pre cFixed.post
def cFixed.I0 : List D → Prop
  | [.S s, .I a, .I e, .I n, .I v, .I i] => 0 ≤ i ∧ i ≤ (rdRaw s a e n).2.2.size ∧ v = beNum ((bytesOf (rdRaw s a e n).2.2).take i.toNat)
  | _ => False
def cFixed.I0M : List D → Nat
  | [.S s, .I a, .I e, .I n, .I _, .I i] => ((rdRaw s a e n).2.2.size - i).toNat
  | _ => 0
def cNum.post : List D → Prop
  | [.S s, .I a, .I e, .I a', .I e', .I r] => (a', e', r) = rdNum s a e
  | _ => False
def cNum.sig : Sig := curSig [] [.i .u64] cRaw.pre cNum.post
def cText.post : List D → Prop
  | [.S s, .I a, .I e, .I m, .I a', .I e', .S r] => (a', e', r) = rdText s a e m
  | _ => False
def cText.sig : Sig := curSig [.i .i64] [.s] cRaw.pre cText.post
def cDone.post : List D → Prop
  | [.S s, .I a, .I e, .I a', .I e'] => a' = a ∧ e' = rdDone s a e
  | _ => False
def cDone.sig : Sig := { curSig [] [] cRaw.pre cDone.post with res := .one (cur' 0 3) }

end Go.Vc
namespace Go.Vc
set_option linter.unusedVariables false
def PText.vc : VC :=
 (.all .N
 (.all .S
 (.all .I
 (.all .I
 (.all .I
 (.know (.has .i64 (.at 4))
 (.know (.ssz (.at 1))
 (.know (.has .i64 (.at 2))
 (.know (.has .i64 (.at 3))
 (.post 0 [(.at 0), (.at 1), (.at 2), (.at 3), (.at 4)]
 (.pre 1 [(.at 0), (.at 1), (.at 2), (.at 3)]
 (.all .I
 (.all .I
 (.all .I
 (.post 1 [(.at 0), (.at 1), (.at 2), (.at 3), (.at 5), (.at 6), (.at 7)]
 (.know (.has .u64 (.at 7))
 (.know (.has .i64 (.at 5))
 (.know (.has .i64 (.at 6))
 (.and
 (.imp (.o2 .eq (.at 6) (.int 0)) true
 (.and
 (.imp (.o2 .lt (.o1 (.wrap .u64) (.o2 .max (.at 4) (.int 0))) (.at 7)) true
 (.pre 2 [(.at 0), (.at 1), (.at 5), (.int 12), (.o1 (.wrap .i64) (.o2 .min (.at 7) (.int 1099511627776)))]
 (.all .I
 (.all .I
 (.all .S
 (.post 2 [(.at 0), (.at 1), (.at 5), (.int 12), (.o1 (.wrap .i64) (.o2 .min (.at 7) (.int 1099511627776))), (.at 8), (.at 9), (.at 10)]
 (.know (.ssz (.at 10))
 (.know (.has .i64 (.at 8))
 (.know (.has .i64 (.at 9))
 (.and
 (.imp (.o1 .not (.o2 .eq (.at 9) (.int 0))) true
 (.ret [(.at 0), (.at 1), (.at 2), (.at 3), (.at 4), (.at 2), (.at 9), (.at 10)]))
 (.imp (.o1 .not (.o2 .eq (.at 9) (.int 0))) false
 (.ret [(.at 0), (.at 1), (.at 2), (.at 3), (.at 4), (.at 8), (.at 9), (.at 10)]))))))))))))
 (.imp (.o2 .lt (.o1 (.wrap .u64) (.o2 .max (.at 4) (.int 0))) (.at 7)) false
 (.pre 2 [(.at 0), (.at 1), (.at 5), (.at 6), (.o1 (.wrap .i64) (.o2 .min (.at 7) (.int 1099511627776)))]
 (.all .I
 (.all .I
 (.all .S
 (.post 2 [(.at 0), (.at 1), (.at 5), (.at 6), (.o1 (.wrap .i64) (.o2 .min (.at 7) (.int 1099511627776))), (.at 8), (.at 9), (.at 10)]
 (.know (.ssz (.at 10))
 (.know (.has .i64 (.at 8))
 (.know (.has .i64 (.at 9))
 (.and
 (.imp (.o1 .not (.o2 .eq (.at 9) (.int 0))) true
 (.ret [(.at 0), (.at 1), (.at 2), (.at 3), (.at 4), (.at 2), (.at 9), (.at 10)]))
 (.imp (.o1 .not (.o2 .eq (.at 9) (.int 0))) false
 (.ret [(.at 0), (.at 1), (.at 2), (.at 3), (.at 4), (.at 8), (.at 9), (.at 10)]))))))))))))))
 (.imp (.o2 .eq (.at 6) (.int 0)) false
 (.pre 2 [(.at 0), (.at 1), (.at 5), (.at 6), (.o1 (.wrap .i64) (.o2 .min (.at 7) (.int 1099511627776)))]
 (.all .I
 (.all .I
 (.all .S
 (.post 2 [(.at 0), (.at 1), (.at 5), (.at 6), (.o1 (.wrap .i64) (.o2 .min (.at 7) (.int 1099511627776))), (.at 8), (.at 9), (.at 10)]
 (.know (.ssz (.at 10))
 (.know (.has .i64 (.at 8))
 (.know (.has .i64 (.at 9))
 (.and
 (.imp (.o1 .not (.o2 .eq (.at 9) (.int 0))) true
 (.ret [(.at 0), (.at 1), (.at 2), (.at 3), (.at 4), (.at 2), (.at 9), (.at 10)]))
 (.imp (.o1 .not (.o2 .eq (.at 9) (.int 0))) false
 (.ret [(.at 0), (.at 1), (.at 2), (.at 3), (.at 4), (.at 8), (.at 9), (.at 10)])))))))))))))))))))))))))))))))
def PText.Pure : Prop :=
 ∀ (n0 : Nat),
 ∀ (s1 : ByteArray),
 ∀ (i2 : Int),
 ∀ (i3 : Int),
 ∀ (i4 : Int),
 (-9223372036854775808 ≤ i4 ∧ i4 < 9223372036854775808) →
 ((s1.size : Int) ≤ 9223372036854775807) →
 (-9223372036854775808 ≤ i2 ∧ i2 < 9223372036854775808) →
 (-9223372036854775808 ≤ i3 ∧ i3 < 9223372036854775808) →
 PText.sig.pre [(D.N n0), (D.S s1), (D.I i2), (D.I i3), (D.I i4)] →
 PNum.sig.pre [(D.N n0), (D.S s1), (D.I i2), (D.I i3)] ∧ (
 ∀ (i5 : Int),
 ∀ (i6 : Int),
 ∀ (i7 : Int),
 PNum.sig.post [(D.N n0), (D.S s1), (D.I i2), (D.I i3), (D.I i5), (D.I i6), (D.I i7)] →
 (0 ≤ i7 ∧ i7 < 18446744073709551616) →
 (-9223372036854775808 ≤ i5 ∧ i5 < 9223372036854775808) →
 (-9223372036854775808 ≤ i6 ∧ i6 < 9223372036854775808) →
 ((
 (i6 = (0 : Int)) →
 ((
 ((IntKind.wrap .u64 (maxI i4 (0 : Int))) < i7) →
   PRaw.sig.pre [(D.N n0), (D.S s1), (D.I i5), (D.I (12 : Int)), (D.I (IntKind.wrap .i64 (minI i7 (1099511627776 : Int))))] ∧ (
 ∀ (i8 : Int),
 ∀ (i9 : Int),
 ∀ (s10 : ByteArray),
   PRaw.sig.post [(D.N n0), (D.S s1), (D.I i5), (D.I (12 : Int)), (D.I (IntKind.wrap .i64 (minI i7 (1099511627776 : Int)))), (D.I i8), (D.I i9), (D.S s10)] →
 ((s10.size : Int) ≤ 9223372036854775807) →
 (-9223372036854775808 ≤ i8 ∧ i8 < 9223372036854775808) →
 (-9223372036854775808 ≤ i9 ∧ i9 < 9223372036854775808) →
 ((
 (i9 ≠ (0 : Int)) →
    PText.sig.post [(D.N n0), (D.S s1), (D.I i2), (D.I i3), (D.I i4), (D.I i2), (D.I i9), (D.S s10)]) ∧ (
 (i9 = (0 : Int)) →
    PText.sig.post [(D.N n0), (D.S s1), (D.I i2), (D.I i3), (D.I i4), (D.I i8), (D.I i9), (D.S s10)])))) ∧ (
 (i7 ≤ (IntKind.wrap .u64 (maxI i4 (0 : Int)))) →
   PRaw.sig.pre [(D.N n0), (D.S s1), (D.I i5), (D.I i6), (D.I (IntKind.wrap .i64 (minI i7 (1099511627776 : Int))))] ∧ (
 ∀ (i8 : Int),
 ∀ (i9 : Int),
 ∀ (s10 : ByteArray),
   PRaw.sig.post [(D.N n0), (D.S s1), (D.I i5), (D.I i6), (D.I (IntKind.wrap .i64 (minI i7 (1099511627776 : Int)))), (D.I i8), (D.I i9), (D.S s10)] →
 ((s10.size : Int) ≤ 9223372036854775807) →
 (-9223372036854775808 ≤ i8 ∧ i8 < 9223372036854775808) →
 (-9223372036854775808 ≤ i9 ∧ i9 < 9223372036854775808) →
 ((
 (i9 ≠ (0 : Int)) →
    PText.sig.post [(D.N n0), (D.S s1), (D.I i2), (D.I i3), (D.I i4), (D.I i2), (D.I i9), (D.S s10)]) ∧ (
 (i9 = (0 : Int)) →
    PText.sig.post [(D.N n0), (D.S s1), (D.I i2), (D.I i3), (D.I i4), (D.I i8), (D.I i9), (D.S s10)])))))) ∧ (
 (i6 ≠ (0 : Int)) →
  PRaw.sig.pre [(D.N n0), (D.S s1), (D.I i5), (D.I i6), (D.I (IntKind.wrap .i64 (minI i7 (1099511627776 : Int))))] ∧ (
 ∀ (i8 : Int),
 ∀ (i9 : Int),
 ∀ (s10 : ByteArray),
  PRaw.sig.post [(D.N n0), (D.S s1), (D.I i5), (D.I i6), (D.I (IntKind.wrap .i64 (minI i7 (1099511627776 : Int)))), (D.I i8), (D.I i9), (D.S s10)] →
 ((s10.size : Int) ≤ 9223372036854775807) →
 (-9223372036854775808 ≤ i8 ∧ i8 < 9223372036854775808) →
 (-9223372036854775808 ≤ i9 ∧ i9 < 9223372036854775808) →
 ((
 (i9 ≠ (0 : Int)) →
   PText.sig.post [(D.N n0), (D.S s1), (D.I i2), (D.I i3), (D.I i4), (D.I i2), (D.I i9), (D.S s10)]) ∧ (
 (i9 = (0 : Int)) →
   PText.sig.post [(D.N n0), (D.S s1), (D.I i2), (D.I i3), (D.I i4), (D.I i8), (D.I i9), (D.S s10)]))))))
theorem PText.den : PText.vc.den2 (mkEnv PText.sig [PNum.sig, PRaw.sig] []) [] = PText.Pure := by kernel_rfl
def PFail.vc : VC :=
 (.all .N
 (.all .S
 (.all .I
 (.all .I
 (.all .I
 (.know (.has .i64 (.at 4))
 (.know (.ssz (.at 1))
 (.know (.has .i64 (.at 2))
 (.know (.has .i64 (.at 3))
 (.post 0 [(.at 0), (.at 1), (.at 2), (.at 3), (.at 4)]
 (.and
 (.imp (.o2 .eq (.at 3) (.int 0)) true
 (.ret [(.at 0), (.at 1), (.at 2), (.at 3), (.at 4), (.at 2), (.at 4)]))
 (.imp (.o2 .eq (.at 3) (.int 0)) false
 (.ret [(.at 0), (.at 1), (.at 2), (.at 3), (.at 4), (.at 2), (.at 3)])))))))))))))
def PFail.Pure : Prop :=
 ∀ (n0 : Nat),
 ∀ (s1 : ByteArray),
 ∀ (i2 : Int),
 ∀ (i3 : Int),
 ∀ (i4 : Int),
 (-9223372036854775808 ≤ i4 ∧ i4 < 9223372036854775808) →
 ((s1.size : Int) ≤ 9223372036854775807) →
 (-9223372036854775808 ≤ i2 ∧ i2 < 9223372036854775808) →
 (-9223372036854775808 ≤ i3 ∧ i3 < 9223372036854775808) →
 PFail.sig.pre [(D.N n0), (D.S s1), (D.I i2), (D.I i3), (D.I i4)] →
 ((
 (i3 = (0 : Int)) →
  PFail.sig.post [(D.N n0), (D.S s1), (D.I i2), (D.I i3), (D.I i4), (D.I i2), (D.I i4)]) ∧ (
 (i3 ≠ (0 : Int)) →
  PFail.sig.post [(D.N n0), (D.S s1), (D.I i2), (D.I i3), (D.I i4), (D.I i2), (D.I i3)]))
theorem PFail.den : PFail.vc.den2 (mkEnv PFail.sig [] []) [] = PFail.Pure := by kernel_rfl
def PDone.vc : VC :=
 (.all .N
 (.all .S
 (.all .I
 (.all .I
 (.know (.ssz (.at 1))
 (.know (.has .i64 (.at 2))
 (.know (.has .i64 (.at 3))
 (.post 0 [(.at 0), (.at 1), (.at 2), (.at 3)]
 (.and
 (.imp (.o2 .lt (.at 2) (.o1 .slen (.at 1))) true
 (.pre 1 [(.at 0), (.at 1), (.at 2), (.at 3), (.int 3)]
 (.all .I
 (.all .I
 (.post 1 [(.at 0), (.at 1), (.at 2), (.at 3), (.int 3), (.at 4), (.at 5)]
 (.know (.has .i64 (.at 4))
 (.know (.has .i64 (.at 5))
 (.ret [(.at 0), (.at 1), (.at 2), (.at 3), (.at 4), (.at 5), (.at 5)]))))))))
 (.imp (.o2 .lt (.at 2) (.o1 .slen (.at 1))) false
 (.ret [(.at 0), (.at 1), (.at 2), (.at 3), (.at 2), (.at 3), (.at 3)])))))))))))
def PDone.Pure : Prop :=
 ∀ (n0 : Nat),
 ∀ (s1 : ByteArray),
 ∀ (i2 : Int),
 ∀ (i3 : Int),
 ((s1.size : Int) ≤ 9223372036854775807) →
 (-9223372036854775808 ≤ i2 ∧ i2 < 9223372036854775808) →
 (-9223372036854775808 ≤ i3 ∧ i3 < 9223372036854775808) →
 PDone.sig.pre [(D.N n0), (D.S s1), (D.I i2), (D.I i3)] →
 ((
 (i2 < ((s1.size : Nat) : Int)) →
  PFail.sig.pre [(D.N n0), (D.S s1), (D.I i2), (D.I i3), (D.I (3 : Int))] ∧ (
 ∀ (i4 : Int),
 ∀ (i5 : Int),
  PFail.sig.post [(D.N n0), (D.S s1), (D.I i2), (D.I i3), (D.I (3 : Int)), (D.I i4), (D.I i5)] →
 (-9223372036854775808 ≤ i4 ∧ i4 < 9223372036854775808) →
 (-9223372036854775808 ≤ i5 ∧ i5 < 9223372036854775808) →
  PDone.sig.post [(D.N n0), (D.S s1), (D.I i2), (D.I i3), (D.I i4), (D.I i5), (D.I i5)])) ∧ (
 (((s1.size : Nat) : Int) ≤ i2) →
  PDone.sig.post [(D.N n0), (D.S s1), (D.I i2), (D.I i3), (D.I i2), (D.I i3), (D.I i3)]))
theorem PDone.den : PDone.vc.den2 (mkEnv PDone.sig [PFail.sig] []) [] = PDone.Pure := by kernel_rfl
def cRaw.vc : VC :=
 (.all .S
 (.all .I
 (.all .I
 (.all .I
 (.know (.ssz (.at 0))
 (.know (.has .i64 (.at 1))
 (.know (.has .i64 (.at 2))
 (.know (.has .i64 (.at 3))
 (.post 0 [(.at 0), (.at 1), (.at 2), (.at 3)]
 (.all .N
 (.all .N
 (.and
 (.imp (.o1 .not (.o2 .eq (.at 2) (.int 0))) true
 (.ret [(.at 0), (.at 1), (.at 2), (.at 3), (.at 1), (.at 2), (.str ⟨#[]⟩)]))
 (.imp (.o1 .not (.o2 .eq (.at 2) (.int 0))) false
 (.and
 (.imp (.o2 .lt (.at 3) (.int 0)) true
 (.ret [(.at 0), (.at 1), (.at 2), (.at 3), (.at 1), (.int 2), (.str ⟨#[]⟩)]))
 (.imp (.o2 .lt (.at 3) (.int 0)) false
 (.and
 (.imp (.o2 .lt (.o2 (.sub .i64) (.o1 .slen (.at 0)) (.at 1)) (.at 3)) true
 (.ret [(.at 0), (.at 1), (.at 2), (.at 3), (.at 1), (.int 2), (.str ⟨#[]⟩)]))
 (.imp (.o2 .lt (.o2 (.sub .i64) (.o1 .slen (.at 0)) (.at 1)) (.at 3)) false
 (.obl (.o2 .le (.at 1) (.o2 (.add .i64) (.at 1) (.at 3)))
 (.obl (.o2 .le (.int 0) (.at 1))
 (.obl (.o2 .le (.o2 (.add .i64) (.at 1) (.at 3)) (.o1 .slen (.at 0)))
 (.ret [(.at 0), (.at 1), (.at 2), (.at 3), (.o2 (.add .i64) (.at 1) (.at 3)), (.at 2), (.o3 .ssub (.at 0) (.at 1) (.o2 (.add .i64) (.at 1) (.at 3)))])))))))))))))))))))))
def cRaw.Pure : Prop :=
 ∀ (s0 : ByteArray),
 ∀ (i1 : Int),
 ∀ (i2 : Int),
 ∀ (i3 : Int),
 ((s0.size : Int) ≤ 9223372036854775807) →
 (-9223372036854775808 ≤ i1 ∧ i1 < 9223372036854775808) →
 (-9223372036854775808 ≤ i2 ∧ i2 < 9223372036854775808) →
 (-9223372036854775808 ≤ i3 ∧ i3 < 9223372036854775808) →
 cRaw.sig.pre [(D.S s0), (D.I i1), (D.I i2), (D.I i3)] →
 ∀ (n4 : Nat),
 ∀ (n5 : Nat),
 ((
 (i2 ≠ (0 : Int)) →
  cRaw.sig.post [(D.S s0), (D.I i1), (D.I i2), (D.I i3), (D.I i1), (D.I i2), (D.S (⟨#[]⟩ : ByteArray))]) ∧ (
 (i2 = (0 : Int)) →
 ((
 (i3 < (0 : Int)) →
   cRaw.sig.post [(D.S s0), (D.I i1), (D.I i2), (D.I i3), (D.I i1), (D.I (2 : Int)), (D.S (⟨#[]⟩ : ByteArray))]) ∧ (
 ((0 : Int) ≤ i3) →
 ((
 ((IntKind.wrap .i64 (((s0.size : Nat) : Int) - i1)) < i3) →
    cRaw.sig.post [(D.S s0), (D.I i1), (D.I i2), (D.I i3), (D.I i1), (D.I (2 : Int)), (D.S (⟨#[]⟩ : ByteArray))]) ∧ (
 (i3 ≤ (IntKind.wrap .i64 (((s0.size : Nat) : Int) - i1))) →
 (i1 ≤ (IntKind.wrap .i64 (i1 + i3))) ∧ ((i1 ≤ (IntKind.wrap .i64 (i1 + i3))) →
 ((0 : Int) ≤ i1) ∧ (((0 : Int) ≤ i1) →
 ((IntKind.wrap .i64 (i1 + i3)) ≤ ((s0.size : Nat) : Int)) ∧ (((IntKind.wrap .i64 (i1 + i3)) ≤ ((s0.size : Nat) : Int)) →
    cRaw.sig.post [(D.S s0), (D.I i1), (D.I i2), (D.I i3), (D.I (IntKind.wrap .i64 (i1 + i3))), (D.I i2), (D.S (s0.extract i1.toNat (IntKind.wrap .i64 (i1 + i3)).toNat))])))))))))
theorem cRaw.den : cRaw.vc.den2 (mkEnv cRaw.sig [] []) [] = cRaw.Pure := by kernel_rfl
def cFixed.vc : VC :=
 (.all .S
 (.all .I
 (.all .I
 (.all .I
 (.know (.ssz (.at 0))
 (.know (.has .i64 (.at 1))
 (.know (.has .i64 (.at 2))
 (.know (.has .i64 (.at 3))
 (.post 0 [(.at 0), (.at 1), (.at 2), (.at 3)]
 (.all .N
 (.all .N
 (.pre 1 [(.at 0), (.at 1), (.at 2), (.at 3)]
 (.all .I
 (.all .I
 (.all .S
 (.post 1 [(.at 0), (.at 1), (.at 2), (.at 3), (.at 6), (.at 7), (.at 8)]
 (.know (.has .i64 (.at 6))
 (.know (.has .i64 (.at 7))
 (.know (.ssz (.at 8))
 (.inv 0 [(.at 0), (.at 1), (.at 2), (.at 3), (.int 0), (.int 0)]
 (.all .I
 (.all .I
 (.know (.has .u64 (.at 9))
 (.know (.has .i64 (.at 10))
 (.asm 0 [(.at 0), (.at 1), (.at 2), (.at 3), (.at 9), (.at 10)]
 (.and
 (.imp (.o2 .lt (.at 10) (.o1 .slen (.at 8))) true
 (.obl (.o2 .le (.int 0) (.at 10))
 (.back 0 [(.at 0), (.at 1), (.at 2), (.at 3), (.at 9), (.at 10)] [(.at 0), (.at 1), (.at 2), (.at 3), (.o2 (.add .u64) (.o2 (.mul .u64) (.int 256) (.at 9)) (.o1 (.wrap .u64) (.o2 .byte (.at 8) (.at 10)))), (.o2 (.add .i64) (.at 10) (.int 1))])))
 (.imp (.o2 .lt (.at 10) (.o1 .slen (.at 8))) false
 (.ret [(.at 0), (.at 1), (.at 2), (.at 3), (.at 6), (.at 7), (.at 9)]))))))))))))))))))))))))))))
def cFixed.Pure : Prop :=
 ∀ (s0 : ByteArray),
 ∀ (i1 : Int),
 ∀ (i2 : Int),
 ∀ (i3 : Int),
 ((s0.size : Int) ≤ 9223372036854775807) →
 (-9223372036854775808 ≤ i1 ∧ i1 < 9223372036854775808) →
 (-9223372036854775808 ≤ i2 ∧ i2 < 9223372036854775808) →
 (-9223372036854775808 ≤ i3 ∧ i3 < 9223372036854775808) →
 cFixed.sig.pre [(D.S s0), (D.I i1), (D.I i2), (D.I i3)] →
 ∀ (n4 : Nat),
 ∀ (n5 : Nat),
 cRaw.sig.pre [(D.S s0), (D.I i1), (D.I i2), (D.I i3)] ∧ (
 ∀ (i6 : Int),
 ∀ (i7 : Int),
 ∀ (s8 : ByteArray),
 cRaw.sig.post [(D.S s0), (D.I i1), (D.I i2), (D.I i3), (D.I i6), (D.I i7), (D.S s8)] →
 (-9223372036854775808 ≤ i6 ∧ i6 < 9223372036854775808) →
 (-9223372036854775808 ≤ i7 ∧ i7 < 9223372036854775808) →
 ((s8.size : Int) ≤ 9223372036854775807) →
 cFixed.I0 [(D.S s0), (D.I i1), (D.I i2), (D.I i3), (D.I (0 : Int)), (D.I (0 : Int))] ∧ (
 ∀ (i9 : Int),
 ∀ (i10 : Int),
 (0 ≤ i9 ∧ i9 < 18446744073709551616) →
 (-9223372036854775808 ≤ i10 ∧ i10 < 9223372036854775808) →
 cFixed.I0 [(D.S s0), (D.I i1), (D.I i2), (D.I i3), (D.I i9), (D.I i10)] →
 ((
 (i10 < ((s8.size : Nat) : Int)) →
 ((0 : Int) ≤ i10) ∧ (((0 : Int) ≤ i10) →
  cFixed.I0 [(D.S s0), (D.I i1), (D.I i2), (D.I i3), (D.I (IntKind.wrap .u64 ((IntKind.wrap .u64 ((256 : Int) * i9)) + (IntKind.wrap .u64 (byteAt s8 i10))))), (D.I (IntKind.wrap .i64 (i10 + (1 : Int))))] ∧ cFixed.I0M [(D.S s0), (D.I i1), (D.I i2), (D.I i3), (D.I (IntKind.wrap .u64 ((IntKind.wrap .u64 ((256 : Int) * i9)) + (IntKind.wrap .u64 (byteAt s8 i10))))), (D.I (IntKind.wrap .i64 (i10 + (1 : Int))))] < cFixed.I0M [(D.S s0), (D.I i1), (D.I i2), (D.I i3), (D.I i9), (D.I i10)])) ∧ (
 (((s8.size : Nat) : Int) ≤ i10) →
  cFixed.sig.post [(D.S s0), (D.I i1), (D.I i2), (D.I i3), (D.I i6), (D.I i7), (D.I i9)]))))
theorem cFixed.den : cFixed.vc.den2 (mkEnv cFixed.sig [cRaw.sig] [(cFixed.I0, cFixed.I0M)]) [] = cFixed.Pure := by kernel_rfl
def cNum.vc : VC :=
 (.all .S
 (.all .I
 (.all .I
 (.know (.ssz (.at 0))
 (.know (.has .i64 (.at 1))
 (.know (.has .i64 (.at 2))
 (.post 0 [(.at 0), (.at 1), (.at 2)]
 (.all .N
 (.all .N
 (.pre 1 [(.at 0), (.at 1), (.at 2), (.int 1)]
 (.all .I
 (.all .I
 (.all .I
 (.post 1 [(.at 0), (.at 1), (.at 2), (.int 1), (.at 5), (.at 6), (.at 7)]
 (.know (.has .i64 (.at 5))
 (.know (.has .i64 (.at 6))
 (.know (.has .u64 (.at 7))
 (.all .N
 (.and
 (.imp (.o1 .not (.o2 .eq (.at 6) (.int 0))) true
 (.ret [(.at 0), (.at 1), (.at 2), (.at 5), (.at 6), (.at 7)]))
 (.imp (.o1 .not (.o2 .eq (.at 6) (.int 0))) false
 (.and
 (.imp (.o2 .lt (.at 7) (.int 248)) true
 (.ret [(.at 0), (.at 1), (.at 2), (.at 5), (.at 6), (.at 7)]))
 (.imp (.o2 .lt (.at 7) (.int 248)) false
 (.pre 1 [(.at 0), (.at 5), (.at 6), (.o2 (.sub .i64) (.o1 (.wrap .i64) (.at 7)) (.int 247))]
 (.all .I
 (.all .I
 (.all .I
 (.post 1 [(.at 0), (.at 5), (.at 6), (.o2 (.sub .i64) (.o1 (.wrap .i64) (.at 7)) (.int 247)), (.at 9), (.at 10), (.at 11)]
 (.know (.has .i64 (.at 9))
 (.know (.has .i64 (.at 10))
 (.know (.has .u64 (.at 11))
 (.and
 (.imp (.o2 .eq (.at 10) (.int 0)) true
 (.obl (.o2 .le (.at 1) (.at 9))
 (.obl (.o2 .le (.int 0) (.at 1))
 (.obl (.o2 .le (.at 9) (.o1 .slen (.at 0)))
 (.pre 2 [(.at 11)]
 (.all .S
 (.post 2 [(.at 11), (.at 12)]
 (.know (.ssz (.at 12))
 (.and
 (.imp (.o1 .not (.o2 .eqs (.at 12) (.o3 .ssub (.at 0) (.at 1) (.at 9)))) true
 (.and
 (.imp (.o1 .not (.o2 .eq (.int 3) (.int 0))) true
 (.ret [(.at 0), (.at 1), (.at 2), (.at 1), (.int 3), (.int 0)]))
 (.imp (.o1 .not (.o2 .eq (.int 3) (.int 0))) false
 (.ret [(.at 0), (.at 1), (.at 2), (.at 9), (.int 3), (.at 11)]))))
 (.imp (.o1 .not (.o2 .eqs (.at 12) (.o3 .ssub (.at 0) (.at 1) (.at 9)))) false
 (.and
 (.imp (.o1 .not (.o2 .eq (.at 10) (.int 0))) true
 (.ret [(.at 0), (.at 1), (.at 2), (.at 1), (.at 10), (.int 0)]))
 (.imp (.o1 .not (.o2 .eq (.at 10) (.int 0))) false
 (.ret [(.at 0), (.at 1), (.at 2), (.at 9), (.at 10), (.at 11)])))))))))))))
 (.imp (.o2 .eq (.at 10) (.int 0)) false
 (.and
 (.imp (.o1 .not (.o2 .eq (.at 10) (.int 0))) true
 (.ret [(.at 0), (.at 1), (.at 2), (.at 1), (.at 10), (.int 0)]))
 (.imp (.o1 .not (.o2 .eq (.at 10) (.int 0))) false
 (.ret [(.at 0), (.at 1), (.at 2), (.at 9), (.at 10), (.at 11)])))))))))))))))))))))))))))))))))))
def cNum.Pure : Prop :=
 ∀ (s0 : ByteArray),
 ∀ (i1 : Int),
 ∀ (i2 : Int),
 ((s0.size : Int) ≤ 9223372036854775807) →
 (-9223372036854775808 ≤ i1 ∧ i1 < 9223372036854775808) →
 (-9223372036854775808 ≤ i2 ∧ i2 < 9223372036854775808) →
 cNum.sig.pre [(D.S s0), (D.I i1), (D.I i2)] →
 ∀ (n3 : Nat),
 ∀ (n4 : Nat),
 cFixed.sig.pre [(D.S s0), (D.I i1), (D.I i2), (D.I (1 : Int))] ∧ (
 ∀ (i5 : Int),
 ∀ (i6 : Int),
 ∀ (i7 : Int),
 cFixed.sig.post [(D.S s0), (D.I i1), (D.I i2), (D.I (1 : Int)), (D.I i5), (D.I i6), (D.I i7)] →
 (-9223372036854775808 ≤ i5 ∧ i5 < 9223372036854775808) →
 (-9223372036854775808 ≤ i6 ∧ i6 < 9223372036854775808) →
 (0 ≤ i7 ∧ i7 < 18446744073709551616) →
 ∀ (n8 : Nat),
 ((
 (i6 ≠ (0 : Int)) →
  cNum.sig.post [(D.S s0), (D.I i1), (D.I i2), (D.I i5), (D.I i6), (D.I i7)]) ∧ (
 (i6 = (0 : Int)) →
 ((
 (i7 < (248 : Int)) →
   cNum.sig.post [(D.S s0), (D.I i1), (D.I i2), (D.I i5), (D.I i6), (D.I i7)]) ∧ (
 ((248 : Int) ≤ i7) →
   cFixed.sig.pre [(D.S s0), (D.I i5), (D.I i6), (D.I (IntKind.wrap .i64 ((IntKind.wrap .i64 i7) - (247 : Int))))] ∧ (
 ∀ (i9 : Int),
 ∀ (i10 : Int),
 ∀ (i11 : Int),
   cFixed.sig.post [(D.S s0), (D.I i5), (D.I i6), (D.I (IntKind.wrap .i64 ((IntKind.wrap .i64 i7) - (247 : Int)))), (D.I i9), (D.I i10), (D.I i11)] →
 (-9223372036854775808 ≤ i9 ∧ i9 < 9223372036854775808) →
 (-9223372036854775808 ≤ i10 ∧ i10 < 9223372036854775808) →
 (0 ≤ i11 ∧ i11 < 18446744073709551616) →
 ((
 (i10 = (0 : Int)) →
 (i1 ≤ i9) ∧ ((i1 ≤ i9) →
 ((0 : Int) ≤ i1) ∧ (((0 : Int) ≤ i1) →
 (i9 ≤ ((s0.size : Nat) : Int)) ∧ ((i9 ≤ ((s0.size : Nat) : Int)) →
    RNum.sig.pre [(D.I i11)] ∧ (
 ∀ (s12 : ByteArray),
    RNum.sig.post [(D.I i11), (D.S s12)] →
 ((s12.size : Int) ≤ 9223372036854775807) →
 ((
 (s12 ≠ (s0.extract i1.toNat i9.toNat)) →
 ((
 ((3 : Int) ≠ (0 : Int)) →
      cNum.sig.post [(D.S s0), (D.I i1), (D.I i2), (D.I i1), (D.I (3 : Int)), (D.I (0 : Int))]) ∧ (
 ((3 : Int) = (0 : Int)) →
      cNum.sig.post [(D.S s0), (D.I i1), (D.I i2), (D.I i9), (D.I (3 : Int)), (D.I i11)]))) ∧ (
 (s12 = (s0.extract i1.toNat i9.toNat)) →
 ((
 (i10 ≠ (0 : Int)) →
      cNum.sig.post [(D.S s0), (D.I i1), (D.I i2), (D.I i1), (D.I i10), (D.I (0 : Int))]) ∧ (
 (i10 = (0 : Int)) →
      cNum.sig.post [(D.S s0), (D.I i1), (D.I i2), (D.I i9), (D.I i10), (D.I i11)]))))))))) ∧ (
 (i10 ≠ (0 : Int)) →
 ((
 (i10 ≠ (0 : Int)) →
     cNum.sig.post [(D.S s0), (D.I i1), (D.I i2), (D.I i1), (D.I i10), (D.I (0 : Int))]) ∧ (
 (i10 = (0 : Int)) →
     cNum.sig.post [(D.S s0), (D.I i1), (D.I i2), (D.I i9), (D.I i10), (D.I i11)]))))))))))
theorem cNum.den : cNum.vc.den2 (mkEnv cNum.sig [cFixed.sig, RNum.sig] []) [] = cNum.Pure := by kernel_rfl
def cText.vc : VC :=
 (.all .S
 (.all .I
 (.all .I
 (.all .I
 (.know (.ssz (.at 0))
 (.know (.has .i64 (.at 1))
 (.know (.has .i64 (.at 2))
 (.know (.has .i64 (.at 3))
 (.post 0 [(.at 0), (.at 1), (.at 2), (.at 3)]
 (.all .N
 (.all .N
 (.pre 1 [(.at 0), (.at 1), (.at 2)]
 (.all .I
 (.all .I
 (.all .I
 (.post 1 [(.at 0), (.at 1), (.at 2), (.at 6), (.at 7), (.at 8)]
 (.know (.has .i64 (.at 6))
 (.know (.has .i64 (.at 7))
 (.know (.has .u64 (.at 8))
 (.all .N
 (.and
 (.imp (.o2 .eq (.at 7) (.int 0)) true
 (.and
 (.imp (.o2 .lt (.at 3) (.int 0)) true
 (.and
 (.imp (.o2 .lt (.int 0) (.at 8)) true
 (.and
 (.imp (.o2 .eq (.int 12) (.int 0)) true
 (.and
 (.imp (.o2 .lt (.o1 (.wrap .u64) (.o2 (.sub .i64) (.o1 .slen (.at 0)) (.at 6))) (.at 8)) true
 (.and
 (.imp (.o1 .not (.o2 .eq (.int 2) (.int 0))) true
 (.ret [(.at 0), (.at 1), (.at 2), (.at 3), (.at 1), (.int 2), (.str ⟨#[]⟩)]))
 (.imp (.o1 .not (.o2 .eq (.int 2) (.int 0))) false
 (.pre 2 [(.at 0), (.at 6), (.int 2), (.o1 (.wrap .i64) (.at 8))]
 (.all .I
 (.all .I
 (.all .S
 (.post 2 [(.at 0), (.at 6), (.int 2), (.o1 (.wrap .i64) (.at 8)), (.at 10), (.at 11), (.at 12)]
 (.know (.has .i64 (.at 10))
 (.know (.has .i64 (.at 11))
 (.know (.ssz (.at 12))
 (.ret [(.at 0), (.at 1), (.at 2), (.at 3), (.at 10), (.at 11), (.at 12)]))))))))))))
 (.imp (.o2 .lt (.o1 (.wrap .u64) (.o2 (.sub .i64) (.o1 .slen (.at 0)) (.at 6))) (.at 8)) false
 (.and
 (.imp (.o1 .not (.o2 .eq (.int 12) (.int 0))) true
 (.ret [(.at 0), (.at 1), (.at 2), (.at 3), (.at 1), (.int 12), (.str ⟨#[]⟩)]))
 (.imp (.o1 .not (.o2 .eq (.int 12) (.int 0))) false
 (.pre 2 [(.at 0), (.at 6), (.int 12), (.o1 (.wrap .i64) (.at 8))]
 (.all .I
 (.all .I
 (.all .S
 (.post 2 [(.at 0), (.at 6), (.int 12), (.o1 (.wrap .i64) (.at 8)), (.at 10), (.at 11), (.at 12)]
 (.know (.has .i64 (.at 10))
 (.know (.has .i64 (.at 11))
 (.know (.ssz (.at 12))
 (.ret [(.at 0), (.at 1), (.at 2), (.at 3), (.at 10), (.at 11), (.at 12)]))))))))))))))
 (.imp (.o2 .eq (.int 12) (.int 0)) false
 (.and
 (.imp (.o1 .not (.o2 .eq (.int 12) (.int 0))) true
 (.ret [(.at 0), (.at 1), (.at 2), (.at 3), (.at 1), (.int 12), (.str ⟨#[]⟩)]))
 (.imp (.o1 .not (.o2 .eq (.int 12) (.int 0))) false
 (.pre 2 [(.at 0), (.at 6), (.int 12), (.o1 (.wrap .i64) (.at 8))]
 (.all .I
 (.all .I
 (.all .S
 (.post 2 [(.at 0), (.at 6), (.int 12), (.o1 (.wrap .i64) (.at 8)), (.at 10), (.at 11), (.at 12)]
 (.know (.has .i64 (.at 10))
 (.know (.has .i64 (.at 11))
 (.know (.ssz (.at 12))
 (.ret [(.at 0), (.at 1), (.at 2), (.at 3), (.at 10), (.at 11), (.at 12)]))))))))))))))
 (.imp (.o2 .lt (.int 0) (.at 8)) false
 (.and
 (.imp (.o2 .le (.int 0) (.at 3)) true
 (.and
 (.imp (.o2 .lt (.o1 (.wrap .u64) (.at 3)) (.at 8)) true
 (.and
 (.imp (.o2 .eq (.int 12) (.int 0)) true
 (.and
 (.imp (.o2 .lt (.o1 (.wrap .u64) (.o2 (.sub .i64) (.o1 .slen (.at 0)) (.at 6))) (.at 8)) true
 (.and
 (.imp (.o1 .not (.o2 .eq (.int 2) (.int 0))) true
 (.ret [(.at 0), (.at 1), (.at 2), (.at 3), (.at 1), (.int 2), (.str ⟨#[]⟩)]))
 (.imp (.o1 .not (.o2 .eq (.int 2) (.int 0))) false
 (.pre 2 [(.at 0), (.at 6), (.int 2), (.o1 (.wrap .i64) (.at 8))]
 (.all .I
 (.all .I
 (.all .S
 (.post 2 [(.at 0), (.at 6), (.int 2), (.o1 (.wrap .i64) (.at 8)), (.at 10), (.at 11), (.at 12)]
 (.know (.has .i64 (.at 10))
 (.know (.has .i64 (.at 11))
 (.know (.ssz (.at 12))
 (.ret [(.at 0), (.at 1), (.at 2), (.at 3), (.at 10), (.at 11), (.at 12)]))))))))))))
 (.imp (.o2 .lt (.o1 (.wrap .u64) (.o2 (.sub .i64) (.o1 .slen (.at 0)) (.at 6))) (.at 8)) false
 (.and
 (.imp (.o1 .not (.o2 .eq (.int 12) (.int 0))) true
 (.ret [(.at 0), (.at 1), (.at 2), (.at 3), (.at 1), (.int 12), (.str ⟨#[]⟩)]))
 (.imp (.o1 .not (.o2 .eq (.int 12) (.int 0))) false
 (.pre 2 [(.at 0), (.at 6), (.int 12), (.o1 (.wrap .i64) (.at 8))]
 (.all .I
 (.all .I
 (.all .S
 (.post 2 [(.at 0), (.at 6), (.int 12), (.o1 (.wrap .i64) (.at 8)), (.at 10), (.at 11), (.at 12)]
 (.know (.has .i64 (.at 10))
 (.know (.has .i64 (.at 11))
 (.know (.ssz (.at 12))
 (.ret [(.at 0), (.at 1), (.at 2), (.at 3), (.at 10), (.at 11), (.at 12)]))))))))))))))
 (.imp (.o2 .eq (.int 12) (.int 0)) false
 (.and
 (.imp (.o1 .not (.o2 .eq (.int 12) (.int 0))) true
 (.ret [(.at 0), (.at 1), (.at 2), (.at 3), (.at 1), (.int 12), (.str ⟨#[]⟩)]))
 (.imp (.o1 .not (.o2 .eq (.int 12) (.int 0))) false
 (.pre 2 [(.at 0), (.at 6), (.int 12), (.o1 (.wrap .i64) (.at 8))]
 (.all .I
 (.all .I
 (.all .S
 (.post 2 [(.at 0), (.at 6), (.int 12), (.o1 (.wrap .i64) (.at 8)), (.at 10), (.at 11), (.at 12)]
 (.know (.has .i64 (.at 10))
 (.know (.has .i64 (.at 11))
 (.know (.ssz (.at 12))
 (.ret [(.at 0), (.at 1), (.at 2), (.at 3), (.at 10), (.at 11), (.at 12)]))))))))))))))
 (.imp (.o2 .lt (.o1 (.wrap .u64) (.at 3)) (.at 8)) false
 (.and
 (.and
 (.imp (.o2 .lt (.o1 (.wrap .u64) (.o2 (.sub .i64) (.o1 .slen (.at 0)) (.at 6))) (.at 8)) true
 (.and
 (.imp (.o1 .not (.o2 .eq (.int 2) (.int 0))) true
 (.ret [(.at 0), (.at 1), (.at 2), (.at 3), (.at 1), (.int 2), (.str ⟨#[]⟩)]))
 (.imp (.o1 .not (.o2 .eq (.int 2) (.int 0))) false
 (.pre 2 [(.at 0), (.at 6), (.int 2), (.o1 (.wrap .i64) (.at 8))]
 (.all .I
 (.all .I
 (.all .S
 (.post 2 [(.at 0), (.at 6), (.int 2), (.o1 (.wrap .i64) (.at 8)), (.at 10), (.at 11), (.at 12)]
 (.know (.has .i64 (.at 10))
 (.know (.has .i64 (.at 11))
 (.know (.ssz (.at 12))
 (.ret [(.at 0), (.at 1), (.at 2), (.at 3), (.at 10), (.at 11), (.at 12)]))))))))))))
 (.imp (.o2 .lt (.o1 (.wrap .u64) (.o2 (.sub .i64) (.o1 .slen (.at 0)) (.at 6))) (.at 8)) false
 (.and
 (.imp (.o1 .not (.o2 .eq (.at 7) (.int 0))) true
 (.ret [(.at 0), (.at 1), (.at 2), (.at 3), (.at 1), (.at 7), (.str ⟨#[]⟩)]))
 (.imp (.o1 .not (.o2 .eq (.at 7) (.int 0))) false
 (.pre 2 [(.at 0), (.at 6), (.at 7), (.o1 (.wrap .i64) (.at 8))]
 (.all .I
 (.all .I
 (.all .S
 (.post 2 [(.at 0), (.at 6), (.at 7), (.o1 (.wrap .i64) (.at 8)), (.at 10), (.at 11), (.at 12)]
 (.know (.has .i64 (.at 10))
 (.know (.has .i64 (.at 11))
 (.know (.ssz (.at 12))
 (.ret [(.at 0), (.at 1), (.at 2), (.at 3), (.at 10), (.at 11), (.at 12)])))))))))))))
 (.imp (.o2 .eq (.at 7) (.int 0)) false
 (.and
 (.imp (.o1 .not (.o2 .eq (.at 7) (.int 0))) true
 (.ret [(.at 0), (.at 1), (.at 2), (.at 3), (.at 1), (.at 7), (.str ⟨#[]⟩)]))
 (.imp (.o1 .not (.o2 .eq (.at 7) (.int 0))) false
 (.pre 2 [(.at 0), (.at 6), (.at 7), (.o1 (.wrap .i64) (.at 8))]
 (.all .I
 (.all .I
 (.all .S
 (.post 2 [(.at 0), (.at 6), (.at 7), (.o1 (.wrap .i64) (.at 8)), (.at 10), (.at 11), (.at 12)]
 (.know (.has .i64 (.at 10))
 (.know (.has .i64 (.at 11))
 (.know (.ssz (.at 12))
 (.ret [(.at 0), (.at 1), (.at 2), (.at 3), (.at 10), (.at 11), (.at 12)]))))))))))))))))
 (.imp (.o2 .le (.int 0) (.at 3)) false
 (.and
 (.and
 (.imp (.o2 .lt (.o1 (.wrap .u64) (.o2 (.sub .i64) (.o1 .slen (.at 0)) (.at 6))) (.at 8)) true
 (.and
 (.imp (.o1 .not (.o2 .eq (.int 2) (.int 0))) true
 (.ret [(.at 0), (.at 1), (.at 2), (.at 3), (.at 1), (.int 2), (.str ⟨#[]⟩)]))
 (.imp (.o1 .not (.o2 .eq (.int 2) (.int 0))) false
 (.pre 2 [(.at 0), (.at 6), (.int 2), (.o1 (.wrap .i64) (.at 8))]
 (.all .I
 (.all .I
 (.all .S
 (.post 2 [(.at 0), (.at 6), (.int 2), (.o1 (.wrap .i64) (.at 8)), (.at 10), (.at 11), (.at 12)]
 (.know (.has .i64 (.at 10))
 (.know (.has .i64 (.at 11))
 (.know (.ssz (.at 12))
 (.ret [(.at 0), (.at 1), (.at 2), (.at 3), (.at 10), (.at 11), (.at 12)]))))))))))))
 (.imp (.o2 .lt (.o1 (.wrap .u64) (.o2 (.sub .i64) (.o1 .slen (.at 0)) (.at 6))) (.at 8)) false
 (.and
 (.imp (.o1 .not (.o2 .eq (.at 7) (.int 0))) true
 (.ret [(.at 0), (.at 1), (.at 2), (.at 3), (.at 1), (.at 7), (.str ⟨#[]⟩)]))
 (.imp (.o1 .not (.o2 .eq (.at 7) (.int 0))) false
 (.pre 2 [(.at 0), (.at 6), (.at 7), (.o1 (.wrap .i64) (.at 8))]
 (.all .I
 (.all .I
 (.all .S
 (.post 2 [(.at 0), (.at 6), (.at 7), (.o1 (.wrap .i64) (.at 8)), (.at 10), (.at 11), (.at 12)]
 (.know (.has .i64 (.at 10))
 (.know (.has .i64 (.at 11))
 (.know (.ssz (.at 12))
 (.ret [(.at 0), (.at 1), (.at 2), (.at 3), (.at 10), (.at 11), (.at 12)])))))))))))))
 (.imp (.o2 .eq (.at 7) (.int 0)) false
 (.and
 (.imp (.o1 .not (.o2 .eq (.at 7) (.int 0))) true
 (.ret [(.at 0), (.at 1), (.at 2), (.at 3), (.at 1), (.at 7), (.str ⟨#[]⟩)]))
 (.imp (.o1 .not (.o2 .eq (.at 7) (.int 0))) false
 (.pre 2 [(.at 0), (.at 6), (.at 7), (.o1 (.wrap .i64) (.at 8))]
 (.all .I
 (.all .I
 (.all .S
 (.post 2 [(.at 0), (.at 6), (.at 7), (.o1 (.wrap .i64) (.at 8)), (.at 10), (.at 11), (.at 12)]
 (.know (.has .i64 (.at 10))
 (.know (.has .i64 (.at 11))
 (.know (.ssz (.at 12))
 (.ret [(.at 0), (.at 1), (.at 2), (.at 3), (.at 10), (.at 11), (.at 12)]))))))))))))))))))
 (.imp (.o2 .lt (.at 3) (.int 0)) false
 (.and
 (.imp (.o2 .le (.int 0) (.at 3)) true
 (.and
 (.imp (.o2 .lt (.o1 (.wrap .u64) (.at 3)) (.at 8)) true
 (.and
 (.imp (.o2 .eq (.int 12) (.int 0)) true
 (.and
 (.imp (.o2 .lt (.o1 (.wrap .u64) (.o2 (.sub .i64) (.o1 .slen (.at 0)) (.at 6))) (.at 8)) true
 (.and
 (.imp (.o1 .not (.o2 .eq (.int 2) (.int 0))) true
 (.ret [(.at 0), (.at 1), (.at 2), (.at 3), (.at 1), (.int 2), (.str ⟨#[]⟩)]))
 (.imp (.o1 .not (.o2 .eq (.int 2) (.int 0))) false
 (.pre 2 [(.at 0), (.at 6), (.int 2), (.o1 (.wrap .i64) (.at 8))]
 (.all .I
 (.all .I
 (.all .S
 (.post 2 [(.at 0), (.at 6), (.int 2), (.o1 (.wrap .i64) (.at 8)), (.at 10), (.at 11), (.at 12)]
 (.know (.has .i64 (.at 10))
 (.know (.has .i64 (.at 11))
 (.know (.ssz (.at 12))
 (.ret [(.at 0), (.at 1), (.at 2), (.at 3), (.at 10), (.at 11), (.at 12)]))))))))))))
 (.imp (.o2 .lt (.o1 (.wrap .u64) (.o2 (.sub .i64) (.o1 .slen (.at 0)) (.at 6))) (.at 8)) false
 (.and
 (.imp (.o1 .not (.o2 .eq (.int 12) (.int 0))) true
 (.ret [(.at 0), (.at 1), (.at 2), (.at 3), (.at 1), (.int 12), (.str ⟨#[]⟩)]))
 (.imp (.o1 .not (.o2 .eq (.int 12) (.int 0))) false
 (.pre 2 [(.at 0), (.at 6), (.int 12), (.o1 (.wrap .i64) (.at 8))]
 (.all .I
 (.all .I
 (.all .S
 (.post 2 [(.at 0), (.at 6), (.int 12), (.o1 (.wrap .i64) (.at 8)), (.at 10), (.at 11), (.at 12)]
 (.know (.has .i64 (.at 10))
 (.know (.has .i64 (.at 11))
 (.know (.ssz (.at 12))
 (.ret [(.at 0), (.at 1), (.at 2), (.at 3), (.at 10), (.at 11), (.at 12)]))))))))))))))
 (.imp (.o2 .eq (.int 12) (.int 0)) false
 (.and
 (.imp (.o1 .not (.o2 .eq (.int 12) (.int 0))) true
 (.ret [(.at 0), (.at 1), (.at 2), (.at 3), (.at 1), (.int 12), (.str ⟨#[]⟩)]))
 (.imp (.o1 .not (.o2 .eq (.int 12) (.int 0))) false
 (.pre 2 [(.at 0), (.at 6), (.int 12), (.o1 (.wrap .i64) (.at 8))]
 (.all .I
 (.all .I
 (.all .S
 (.post 2 [(.at 0), (.at 6), (.int 12), (.o1 (.wrap .i64) (.at 8)), (.at 10), (.at 11), (.at 12)]
 (.know (.has .i64 (.at 10))
 (.know (.has .i64 (.at 11))
 (.know (.ssz (.at 12))
 (.ret [(.at 0), (.at 1), (.at 2), (.at 3), (.at 10), (.at 11), (.at 12)]))))))))))))))
 (.imp (.o2 .lt (.o1 (.wrap .u64) (.at 3)) (.at 8)) false
 (.and
 (.and
 (.imp (.o2 .lt (.o1 (.wrap .u64) (.o2 (.sub .i64) (.o1 .slen (.at 0)) (.at 6))) (.at 8)) true
 (.and
 (.imp (.o1 .not (.o2 .eq (.int 2) (.int 0))) true
 (.ret [(.at 0), (.at 1), (.at 2), (.at 3), (.at 1), (.int 2), (.str ⟨#[]⟩)]))
 (.imp (.o1 .not (.o2 .eq (.int 2) (.int 0))) false
 (.pre 2 [(.at 0), (.at 6), (.int 2), (.o1 (.wrap .i64) (.at 8))]
 (.all .I
 (.all .I
 (.all .S
 (.post 2 [(.at 0), (.at 6), (.int 2), (.o1 (.wrap .i64) (.at 8)), (.at 10), (.at 11), (.at 12)]
 (.know (.has .i64 (.at 10))
 (.know (.has .i64 (.at 11))
 (.know (.ssz (.at 12))
 (.ret [(.at 0), (.at 1), (.at 2), (.at 3), (.at 10), (.at 11), (.at 12)]))))))))))))
 (.imp (.o2 .lt (.o1 (.wrap .u64) (.o2 (.sub .i64) (.o1 .slen (.at 0)) (.at 6))) (.at 8)) false
 (.and
 (.imp (.o1 .not (.o2 .eq (.at 7) (.int 0))) true
 (.ret [(.at 0), (.at 1), (.at 2), (.at 3), (.at 1), (.at 7), (.str ⟨#[]⟩)]))
 (.imp (.o1 .not (.o2 .eq (.at 7) (.int 0))) false
 (.pre 2 [(.at 0), (.at 6), (.at 7), (.o1 (.wrap .i64) (.at 8))]
 (.all .I
 (.all .I
 (.all .S
 (.post 2 [(.at 0), (.at 6), (.at 7), (.o1 (.wrap .i64) (.at 8)), (.at 10), (.at 11), (.at 12)]
 (.know (.has .i64 (.at 10))
 (.know (.has .i64 (.at 11))
 (.know (.ssz (.at 12))
 (.ret [(.at 0), (.at 1), (.at 2), (.at 3), (.at 10), (.at 11), (.at 12)])))))))))))))
 (.imp (.o2 .eq (.at 7) (.int 0)) false
 (.and
 (.imp (.o1 .not (.o2 .eq (.at 7) (.int 0))) true
 (.ret [(.at 0), (.at 1), (.at 2), (.at 3), (.at 1), (.at 7), (.str ⟨#[]⟩)]))
 (.imp (.o1 .not (.o2 .eq (.at 7) (.int 0))) false
 (.pre 2 [(.at 0), (.at 6), (.at 7), (.o1 (.wrap .i64) (.at 8))]
 (.all .I
 (.all .I
 (.all .S
 (.post 2 [(.at 0), (.at 6), (.at 7), (.o1 (.wrap .i64) (.at 8)), (.at 10), (.at 11), (.at 12)]
 (.know (.has .i64 (.at 10))
 (.know (.has .i64 (.at 11))
 (.know (.ssz (.at 12))
 (.ret [(.at 0), (.at 1), (.at 2), (.at 3), (.at 10), (.at 11), (.at 12)]))))))))))))))))
 (.imp (.o2 .le (.int 0) (.at 3)) false
 (.and
 (.and
 (.imp (.o2 .lt (.o1 (.wrap .u64) (.o2 (.sub .i64) (.o1 .slen (.at 0)) (.at 6))) (.at 8)) true
 (.and
 (.imp (.o1 .not (.o2 .eq (.int 2) (.int 0))) true
 (.ret [(.at 0), (.at 1), (.at 2), (.at 3), (.at 1), (.int 2), (.str ⟨#[]⟩)]))
 (.imp (.o1 .not (.o2 .eq (.int 2) (.int 0))) false
 (.pre 2 [(.at 0), (.at 6), (.int 2), (.o1 (.wrap .i64) (.at 8))]
 (.all .I
 (.all .I
 (.all .S
 (.post 2 [(.at 0), (.at 6), (.int 2), (.o1 (.wrap .i64) (.at 8)), (.at 10), (.at 11), (.at 12)]
 (.know (.has .i64 (.at 10))
 (.know (.has .i64 (.at 11))
 (.know (.ssz (.at 12))
 (.ret [(.at 0), (.at 1), (.at 2), (.at 3), (.at 10), (.at 11), (.at 12)]))))))))))))
 (.imp (.o2 .lt (.o1 (.wrap .u64) (.o2 (.sub .i64) (.o1 .slen (.at 0)) (.at 6))) (.at 8)) false
 (.and
 (.imp (.o1 .not (.o2 .eq (.at 7) (.int 0))) true
 (.ret [(.at 0), (.at 1), (.at 2), (.at 3), (.at 1), (.at 7), (.str ⟨#[]⟩)]))
 (.imp (.o1 .not (.o2 .eq (.at 7) (.int 0))) false
 (.pre 2 [(.at 0), (.at 6), (.at 7), (.o1 (.wrap .i64) (.at 8))]
 (.all .I
 (.all .I
 (.all .S
 (.post 2 [(.at 0), (.at 6), (.at 7), (.o1 (.wrap .i64) (.at 8)), (.at 10), (.at 11), (.at 12)]
 (.know (.has .i64 (.at 10))
 (.know (.has .i64 (.at 11))
 (.know (.ssz (.at 12))
 (.ret [(.at 0), (.at 1), (.at 2), (.at 3), (.at 10), (.at 11), (.at 12)])))))))))))))
 (.imp (.o2 .eq (.at 7) (.int 0)) false
 (.and
 (.imp (.o1 .not (.o2 .eq (.at 7) (.int 0))) true
 (.ret [(.at 0), (.at 1), (.at 2), (.at 3), (.at 1), (.at 7), (.str ⟨#[]⟩)]))
 (.imp (.o1 .not (.o2 .eq (.at 7) (.int 0))) false
 (.pre 2 [(.at 0), (.at 6), (.at 7), (.o1 (.wrap .i64) (.at 8))]
 (.all .I
 (.all .I
 (.all .S
 (.post 2 [(.at 0), (.at 6), (.at 7), (.o1 (.wrap .i64) (.at 8)), (.at 10), (.at 11), (.at 12)]
 (.know (.has .i64 (.at 10))
 (.know (.has .i64 (.at 11))
 (.know (.ssz (.at 12))
 (.ret [(.at 0), (.at 1), (.at 2), (.at 3), (.at 10), (.at 11), (.at 12)]))))))))))))))))))
 (.imp (.o2 .eq (.at 7) (.int 0)) false
 (.and
 (.imp (.o2 .eq (.at 7) (.int 0)) true
 (.and
 (.imp (.o2 .lt (.o1 (.wrap .u64) (.o2 (.sub .i64) (.o1 .slen (.at 0)) (.at 6))) (.at 8)) true
 (.and
 (.imp (.o1 .not (.o2 .eq (.int 2) (.int 0))) true
 (.ret [(.at 0), (.at 1), (.at 2), (.at 3), (.at 1), (.int 2), (.str ⟨#[]⟩)]))
 (.imp (.o1 .not (.o2 .eq (.int 2) (.int 0))) false
 (.pre 2 [(.at 0), (.at 6), (.int 2), (.o1 (.wrap .i64) (.at 8))]
 (.all .I
 (.all .I
 (.all .S
 (.post 2 [(.at 0), (.at 6), (.int 2), (.o1 (.wrap .i64) (.at 8)), (.at 10), (.at 11), (.at 12)]
 (.know (.has .i64 (.at 10))
 (.know (.has .i64 (.at 11))
 (.know (.ssz (.at 12))
 (.ret [(.at 0), (.at 1), (.at 2), (.at 3), (.at 10), (.at 11), (.at 12)]))))))))))))
 (.imp (.o2 .lt (.o1 (.wrap .u64) (.o2 (.sub .i64) (.o1 .slen (.at 0)) (.at 6))) (.at 8)) false
 (.and
 (.imp (.o1 .not (.o2 .eq (.at 7) (.int 0))) true
 (.ret [(.at 0), (.at 1), (.at 2), (.at 3), (.at 1), (.at 7), (.str ⟨#[]⟩)]))
 (.imp (.o1 .not (.o2 .eq (.at 7) (.int 0))) false
 (.pre 2 [(.at 0), (.at 6), (.at 7), (.o1 (.wrap .i64) (.at 8))]
 (.all .I
 (.all .I
 (.all .S
 (.post 2 [(.at 0), (.at 6), (.at 7), (.o1 (.wrap .i64) (.at 8)), (.at 10), (.at 11), (.at 12)]
 (.know (.has .i64 (.at 10))
 (.know (.has .i64 (.at 11))
 (.know (.ssz (.at 12))
 (.ret [(.at 0), (.at 1), (.at 2), (.at 3), (.at 10), (.at 11), (.at 12)]))))))))))))))
 (.imp (.o2 .eq (.at 7) (.int 0)) false
 (.and
 (.imp (.o1 .not (.o2 .eq (.at 7) (.int 0))) true
 (.ret [(.at 0), (.at 1), (.at 2), (.at 3), (.at 1), (.at 7), (.str ⟨#[]⟩)]))
 (.imp (.o1 .not (.o2 .eq (.at 7) (.int 0))) false
 (.pre 2 [(.at 0), (.at 6), (.at 7), (.o1 (.wrap .i64) (.at 8))]
 (.all .I
 (.all .I
 (.all .S
 (.post 2 [(.at 0), (.at 6), (.at 7), (.o1 (.wrap .i64) (.at 8)), (.at 10), (.at 11), (.at 12)]
 (.know (.has .i64 (.at 10))
 (.know (.has .i64 (.at 11))
 (.know (.ssz (.at 12))
 (.ret [(.at 0), (.at 1), (.at 2), (.at 3), (.at 10), (.at 11), (.at 12)])))))))))))))))))))))))))))))))))))
def cText.Pure : Prop :=
 ∀ (s0 : ByteArray),
 ∀ (i1 : Int),
 ∀ (i2 : Int),
 ∀ (i3 : Int),
 ((s0.size : Int) ≤ 9223372036854775807) →
 (-9223372036854775808 ≤ i1 ∧ i1 < 9223372036854775808) →
 (-9223372036854775808 ≤ i2 ∧ i2 < 9223372036854775808) →
 (-9223372036854775808 ≤ i3 ∧ i3 < 9223372036854775808) →
 cText.sig.pre [(D.S s0), (D.I i1), (D.I i2), (D.I i3)] →
 ∀ (n4 : Nat),
 ∀ (n5 : Nat),
 cNum.sig.pre [(D.S s0), (D.I i1), (D.I i2)] ∧ (
 ∀ (i6 : Int),
 ∀ (i7 : Int),
 ∀ (i8 : Int),
 cNum.sig.post [(D.S s0), (D.I i1), (D.I i2), (D.I i6), (D.I i7), (D.I i8)] →
 (-9223372036854775808 ≤ i6 ∧ i6 < 9223372036854775808) →
 (-9223372036854775808 ≤ i7 ∧ i7 < 9223372036854775808) →
 (0 ≤ i8 ∧ i8 < 18446744073709551616) →
 ∀ (n9 : Nat),
 ((
 (i7 = (0 : Int)) →
 ((
 (i3 < (0 : Int)) →
 ((
 ((0 : Int) < i8) →
 ((
 ((12 : Int) = (0 : Int)) →
 ((
 ((IntKind.wrap .u64 (IntKind.wrap .i64 (((s0.size : Nat) : Int) - i6))) < i8) →
 ((
 ((2 : Int) ≠ (0 : Int)) →
       cText.sig.post [(D.S s0), (D.I i1), (D.I i2), (D.I i3), (D.I i1), (D.I (2 : Int)), (D.S (⟨#[]⟩ : ByteArray))]) ∧ (
 ((2 : Int) = (0 : Int)) →
       cRaw.sig.pre [(D.S s0), (D.I i6), (D.I (2 : Int)), (D.I (IntKind.wrap .i64 i8))] ∧ (
 ∀ (i10 : Int),
 ∀ (i11 : Int),
 ∀ (s12 : ByteArray),
       cRaw.sig.post [(D.S s0), (D.I i6), (D.I (2 : Int)), (D.I (IntKind.wrap .i64 i8)), (D.I i10), (D.I i11), (D.S s12)] →
 (-9223372036854775808 ≤ i10 ∧ i10 < 9223372036854775808) →
 (-9223372036854775808 ≤ i11 ∧ i11 < 9223372036854775808) →
 ((s12.size : Int) ≤ 9223372036854775807) →
       cText.sig.post [(D.S s0), (D.I i1), (D.I i2), (D.I i3), (D.I i10), (D.I i11), (D.S s12)])))) ∧ (
 (i8 ≤ (IntKind.wrap .u64 (IntKind.wrap .i64 (((s0.size : Nat) : Int) - i6)))) →
 ((
 ((12 : Int) ≠ (0 : Int)) →
       cText.sig.post [(D.S s0), (D.I i1), (D.I i2), (D.I i3), (D.I i1), (D.I (12 : Int)), (D.S (⟨#[]⟩ : ByteArray))]) ∧ (
 ((12 : Int) = (0 : Int)) →
       cRaw.sig.pre [(D.S s0), (D.I i6), (D.I (12 : Int)), (D.I (IntKind.wrap .i64 i8))] ∧ (
 ∀ (i10 : Int),
 ∀ (i11 : Int),
 ∀ (s12 : ByteArray),
       cRaw.sig.post [(D.S s0), (D.I i6), (D.I (12 : Int)), (D.I (IntKind.wrap .i64 i8)), (D.I i10), (D.I i11), (D.S s12)] →
 (-9223372036854775808 ≤ i10 ∧ i10 < 9223372036854775808) →
 (-9223372036854775808 ≤ i11 ∧ i11 < 9223372036854775808) →
 ((s12.size : Int) ≤ 9223372036854775807) →
       cText.sig.post [(D.S s0), (D.I i1), (D.I i2), (D.I i3), (D.I i10), (D.I i11), (D.S s12)])))))) ∧ (
 ((12 : Int) ≠ (0 : Int)) →
 ((
 ((12 : Int) ≠ (0 : Int)) →
      cText.sig.post [(D.S s0), (D.I i1), (D.I i2), (D.I i3), (D.I i1), (D.I (12 : Int)), (D.S (⟨#[]⟩ : ByteArray))]) ∧ (
 ((12 : Int) = (0 : Int)) →
      cRaw.sig.pre [(D.S s0), (D.I i6), (D.I (12 : Int)), (D.I (IntKind.wrap .i64 i8))] ∧ (
 ∀ (i10 : Int),
 ∀ (i11 : Int),
 ∀ (s12 : ByteArray),
      cRaw.sig.post [(D.S s0), (D.I i6), (D.I (12 : Int)), (D.I (IntKind.wrap .i64 i8)), (D.I i10), (D.I i11), (D.S s12)] →
 (-9223372036854775808 ≤ i10 ∧ i10 < 9223372036854775808) →
 (-9223372036854775808 ≤ i11 ∧ i11 < 9223372036854775808) →
 ((s12.size : Int) ≤ 9223372036854775807) →
      cText.sig.post [(D.S s0), (D.I i1), (D.I i2), (D.I i3), (D.I i10), (D.I i11), (D.S s12)])))))) ∧ (
 (i8 ≤ (0 : Int)) →
 ((
 ((0 : Int) ≤ i3) →
 ((
 ((IntKind.wrap .u64 i3) < i8) →
 ((
 ((12 : Int) = (0 : Int)) →
 ((
 ((IntKind.wrap .u64 (IntKind.wrap .i64 (((s0.size : Nat) : Int) - i6))) < i8) →
 ((
 ((2 : Int) ≠ (0 : Int)) →
         cText.sig.post [(D.S s0), (D.I i1), (D.I i2), (D.I i3), (D.I i1), (D.I (2 : Int)), (D.S (⟨#[]⟩ : ByteArray))]) ∧ (
 ((2 : Int) = (0 : Int)) →
         cRaw.sig.pre [(D.S s0), (D.I i6), (D.I (2 : Int)), (D.I (IntKind.wrap .i64 i8))] ∧ (
 ∀ (i10 : Int),
 ∀ (i11 : Int),
 ∀ (s12 : ByteArray),
         cRaw.sig.post [(D.S s0), (D.I i6), (D.I (2 : Int)), (D.I (IntKind.wrap .i64 i8)), (D.I i10), (D.I i11), (D.S s12)] →
 (-9223372036854775808 ≤ i10 ∧ i10 < 9223372036854775808) →
 (-9223372036854775808 ≤ i11 ∧ i11 < 9223372036854775808) →
 ((s12.size : Int) ≤ 9223372036854775807) →
         cText.sig.post [(D.S s0), (D.I i1), (D.I i2), (D.I i3), (D.I i10), (D.I i11), (D.S s12)])))) ∧ (
 (i8 ≤ (IntKind.wrap .u64 (IntKind.wrap .i64 (((s0.size : Nat) : Int) - i6)))) →
 ((
 ((12 : Int) ≠ (0 : Int)) →
         cText.sig.post [(D.S s0), (D.I i1), (D.I i2), (D.I i3), (D.I i1), (D.I (12 : Int)), (D.S (⟨#[]⟩ : ByteArray))]) ∧ (
 ((12 : Int) = (0 : Int)) →
         cRaw.sig.pre [(D.S s0), (D.I i6), (D.I (12 : Int)), (D.I (IntKind.wrap .i64 i8))] ∧ (
 ∀ (i10 : Int),
 ∀ (i11 : Int),
 ∀ (s12 : ByteArray),
         cRaw.sig.post [(D.S s0), (D.I i6), (D.I (12 : Int)), (D.I (IntKind.wrap .i64 i8)), (D.I i10), (D.I i11), (D.S s12)] →
 (-9223372036854775808 ≤ i10 ∧ i10 < 9223372036854775808) →
 (-9223372036854775808 ≤ i11 ∧ i11 < 9223372036854775808) →
 ((s12.size : Int) ≤ 9223372036854775807) →
         cText.sig.post [(D.S s0), (D.I i1), (D.I i2), (D.I i3), (D.I i10), (D.I i11), (D.S s12)])))))) ∧ (
 ((12 : Int) ≠ (0 : Int)) →
 ((
 ((12 : Int) ≠ (0 : Int)) →
        cText.sig.post [(D.S s0), (D.I i1), (D.I i2), (D.I i3), (D.I i1), (D.I (12 : Int)), (D.S (⟨#[]⟩ : ByteArray))]) ∧ (
 ((12 : Int) = (0 : Int)) →
        cRaw.sig.pre [(D.S s0), (D.I i6), (D.I (12 : Int)), (D.I (IntKind.wrap .i64 i8))] ∧ (
 ∀ (i10 : Int),
 ∀ (i11 : Int),
 ∀ (s12 : ByteArray),
        cRaw.sig.post [(D.S s0), (D.I i6), (D.I (12 : Int)), (D.I (IntKind.wrap .i64 i8)), (D.I i10), (D.I i11), (D.S s12)] →
 (-9223372036854775808 ≤ i10 ∧ i10 < 9223372036854775808) →
 (-9223372036854775808 ≤ i11 ∧ i11 < 9223372036854775808) →
 ((s12.size : Int) ≤ 9223372036854775807) →
        cText.sig.post [(D.S s0), (D.I i1), (D.I i2), (D.I i3), (D.I i10), (D.I i11), (D.S s12)])))))) ∧ (
 (i8 ≤ (IntKind.wrap .u64 i3)) →
 ((
 ((
 ((IntKind.wrap .u64 (IntKind.wrap .i64 (((s0.size : Nat) : Int) - i6))) < i8) →
 ((
 ((2 : Int) ≠ (0 : Int)) →
         cText.sig.post [(D.S s0), (D.I i1), (D.I i2), (D.I i3), (D.I i1), (D.I (2 : Int)), (D.S (⟨#[]⟩ : ByteArray))]) ∧ (
 ((2 : Int) = (0 : Int)) →
         cRaw.sig.pre [(D.S s0), (D.I i6), (D.I (2 : Int)), (D.I (IntKind.wrap .i64 i8))] ∧ (
 ∀ (i10 : Int),
 ∀ (i11 : Int),
 ∀ (s12 : ByteArray),
         cRaw.sig.post [(D.S s0), (D.I i6), (D.I (2 : Int)), (D.I (IntKind.wrap .i64 i8)), (D.I i10), (D.I i11), (D.S s12)] →
 (-9223372036854775808 ≤ i10 ∧ i10 < 9223372036854775808) →
 (-9223372036854775808 ≤ i11 ∧ i11 < 9223372036854775808) →
 ((s12.size : Int) ≤ 9223372036854775807) →
         cText.sig.post [(D.S s0), (D.I i1), (D.I i2), (D.I i3), (D.I i10), (D.I i11), (D.S s12)])))) ∧ (
 (i8 ≤ (IntKind.wrap .u64 (IntKind.wrap .i64 (((s0.size : Nat) : Int) - i6)))) →
 ((
 (i7 ≠ (0 : Int)) →
         cText.sig.post [(D.S s0), (D.I i1), (D.I i2), (D.I i3), (D.I i1), (D.I i7), (D.S (⟨#[]⟩ : ByteArray))]) ∧ (
 (i7 = (0 : Int)) →
         cRaw.sig.pre [(D.S s0), (D.I i6), (D.I i7), (D.I (IntKind.wrap .i64 i8))] ∧ (
 ∀ (i10 : Int),
 ∀ (i11 : Int),
 ∀ (s12 : ByteArray),
         cRaw.sig.post [(D.S s0), (D.I i6), (D.I i7), (D.I (IntKind.wrap .i64 i8)), (D.I i10), (D.I i11), (D.S s12)] →
 (-9223372036854775808 ≤ i10 ∧ i10 < 9223372036854775808) →
 (-9223372036854775808 ≤ i11 ∧ i11 < 9223372036854775808) →
 ((s12.size : Int) ≤ 9223372036854775807) →
         cText.sig.post [(D.S s0), (D.I i1), (D.I i2), (D.I i3), (D.I i10), (D.I i11), (D.S s12)])))))) ∧ (
 (i7 ≠ (0 : Int)) →
 ((
 (i7 ≠ (0 : Int)) →
        cText.sig.post [(D.S s0), (D.I i1), (D.I i2), (D.I i3), (D.I i1), (D.I i7), (D.S (⟨#[]⟩ : ByteArray))]) ∧ (
 (i7 = (0 : Int)) →
        cRaw.sig.pre [(D.S s0), (D.I i6), (D.I i7), (D.I (IntKind.wrap .i64 i8))] ∧ (
 ∀ (i10 : Int),
 ∀ (i11 : Int),
 ∀ (s12 : ByteArray),
        cRaw.sig.post [(D.S s0), (D.I i6), (D.I i7), (D.I (IntKind.wrap .i64 i8)), (D.I i10), (D.I i11), (D.S s12)] →
 (-9223372036854775808 ≤ i10 ∧ i10 < 9223372036854775808) →
 (-9223372036854775808 ≤ i11 ∧ i11 < 9223372036854775808) →
 ((s12.size : Int) ≤ 9223372036854775807) →
        cText.sig.post [(D.S s0), (D.I i1), (D.I i2), (D.I i3), (D.I i10), (D.I i11), (D.S s12)])))))))) ∧ (
 (i3 < (0 : Int)) →
 ((
 ((
 ((IntKind.wrap .u64 (IntKind.wrap .i64 (((s0.size : Nat) : Int) - i6))) < i8) →
 ((
 ((2 : Int) ≠ (0 : Int)) →
        cText.sig.post [(D.S s0), (D.I i1), (D.I i2), (D.I i3), (D.I i1), (D.I (2 : Int)), (D.S (⟨#[]⟩ : ByteArray))]) ∧ (
 ((2 : Int) = (0 : Int)) →
        cRaw.sig.pre [(D.S s0), (D.I i6), (D.I (2 : Int)), (D.I (IntKind.wrap .i64 i8))] ∧ (
 ∀ (i10 : Int),
 ∀ (i11 : Int),
 ∀ (s12 : ByteArray),
        cRaw.sig.post [(D.S s0), (D.I i6), (D.I (2 : Int)), (D.I (IntKind.wrap .i64 i8)), (D.I i10), (D.I i11), (D.S s12)] →
 (-9223372036854775808 ≤ i10 ∧ i10 < 9223372036854775808) →
 (-9223372036854775808 ≤ i11 ∧ i11 < 9223372036854775808) →
 ((s12.size : Int) ≤ 9223372036854775807) →
        cText.sig.post [(D.S s0), (D.I i1), (D.I i2), (D.I i3), (D.I i10), (D.I i11), (D.S s12)])))) ∧ (
 (i8 ≤ (IntKind.wrap .u64 (IntKind.wrap .i64 (((s0.size : Nat) : Int) - i6)))) →
 ((
 (i7 ≠ (0 : Int)) →
        cText.sig.post [(D.S s0), (D.I i1), (D.I i2), (D.I i3), (D.I i1), (D.I i7), (D.S (⟨#[]⟩ : ByteArray))]) ∧ (
 (i7 = (0 : Int)) →
        cRaw.sig.pre [(D.S s0), (D.I i6), (D.I i7), (D.I (IntKind.wrap .i64 i8))] ∧ (
 ∀ (i10 : Int),
 ∀ (i11 : Int),
 ∀ (s12 : ByteArray),
        cRaw.sig.post [(D.S s0), (D.I i6), (D.I i7), (D.I (IntKind.wrap .i64 i8)), (D.I i10), (D.I i11), (D.S s12)] →
 (-9223372036854775808 ≤ i10 ∧ i10 < 9223372036854775808) →
 (-9223372036854775808 ≤ i11 ∧ i11 < 9223372036854775808) →
 ((s12.size : Int) ≤ 9223372036854775807) →
        cText.sig.post [(D.S s0), (D.I i1), (D.I i2), (D.I i3), (D.I i10), (D.I i11), (D.S s12)])))))) ∧ (
 (i7 ≠ (0 : Int)) →
 ((
 (i7 ≠ (0 : Int)) →
       cText.sig.post [(D.S s0), (D.I i1), (D.I i2), (D.I i3), (D.I i1), (D.I i7), (D.S (⟨#[]⟩ : ByteArray))]) ∧ (
 (i7 = (0 : Int)) →
       cRaw.sig.pre [(D.S s0), (D.I i6), (D.I i7), (D.I (IntKind.wrap .i64 i8))] ∧ (
 ∀ (i10 : Int),
 ∀ (i11 : Int),
 ∀ (s12 : ByteArray),
       cRaw.sig.post [(D.S s0), (D.I i6), (D.I i7), (D.I (IntKind.wrap .i64 i8)), (D.I i10), (D.I i11), (D.S s12)] →
 (-9223372036854775808 ≤ i10 ∧ i10 < 9223372036854775808) →
 (-9223372036854775808 ≤ i11 ∧ i11 < 9223372036854775808) →
 ((s12.size : Int) ≤ 9223372036854775807) →
       cText.sig.post [(D.S s0), (D.I i1), (D.I i2), (D.I i3), (D.I i10), (D.I i11), (D.S s12)])))))))))) ∧ (
 ((0 : Int) ≤ i3) →
 ((
 ((0 : Int) ≤ i3) →
 ((
 ((IntKind.wrap .u64 i3) < i8) →
 ((
 ((12 : Int) = (0 : Int)) →
 ((
 ((IntKind.wrap .u64 (IntKind.wrap .i64 (((s0.size : Nat) : Int) - i6))) < i8) →
 ((
 ((2 : Int) ≠ (0 : Int)) →
        cText.sig.post [(D.S s0), (D.I i1), (D.I i2), (D.I i3), (D.I i1), (D.I (2 : Int)), (D.S (⟨#[]⟩ : ByteArray))]) ∧ (
 ((2 : Int) = (0 : Int)) →
        cRaw.sig.pre [(D.S s0), (D.I i6), (D.I (2 : Int)), (D.I (IntKind.wrap .i64 i8))] ∧ (
 ∀ (i10 : Int),
 ∀ (i11 : Int),
 ∀ (s12 : ByteArray),
        cRaw.sig.post [(D.S s0), (D.I i6), (D.I (2 : Int)), (D.I (IntKind.wrap .i64 i8)), (D.I i10), (D.I i11), (D.S s12)] →
 (-9223372036854775808 ≤ i10 ∧ i10 < 9223372036854775808) →
 (-9223372036854775808 ≤ i11 ∧ i11 < 9223372036854775808) →
 ((s12.size : Int) ≤ 9223372036854775807) →
        cText.sig.post [(D.S s0), (D.I i1), (D.I i2), (D.I i3), (D.I i10), (D.I i11), (D.S s12)])))) ∧ (
 (i8 ≤ (IntKind.wrap .u64 (IntKind.wrap .i64 (((s0.size : Nat) : Int) - i6)))) →
 ((
 ((12 : Int) ≠ (0 : Int)) →
        cText.sig.post [(D.S s0), (D.I i1), (D.I i2), (D.I i3), (D.I i1), (D.I (12 : Int)), (D.S (⟨#[]⟩ : ByteArray))]) ∧ (
 ((12 : Int) = (0 : Int)) →
        cRaw.sig.pre [(D.S s0), (D.I i6), (D.I (12 : Int)), (D.I (IntKind.wrap .i64 i8))] ∧ (
 ∀ (i10 : Int),
 ∀ (i11 : Int),
 ∀ (s12 : ByteArray),
        cRaw.sig.post [(D.S s0), (D.I i6), (D.I (12 : Int)), (D.I (IntKind.wrap .i64 i8)), (D.I i10), (D.I i11), (D.S s12)] →
 (-9223372036854775808 ≤ i10 ∧ i10 < 9223372036854775808) →
 (-9223372036854775808 ≤ i11 ∧ i11 < 9223372036854775808) →
 ((s12.size : Int) ≤ 9223372036854775807) →
        cText.sig.post [(D.S s0), (D.I i1), (D.I i2), (D.I i3), (D.I i10), (D.I i11), (D.S s12)])))))) ∧ (
 ((12 : Int) ≠ (0 : Int)) →
 ((
 ((12 : Int) ≠ (0 : Int)) →
       cText.sig.post [(D.S s0), (D.I i1), (D.I i2), (D.I i3), (D.I i1), (D.I (12 : Int)), (D.S (⟨#[]⟩ : ByteArray))]) ∧ (
 ((12 : Int) = (0 : Int)) →
       cRaw.sig.pre [(D.S s0), (D.I i6), (D.I (12 : Int)), (D.I (IntKind.wrap .i64 i8))] ∧ (
 ∀ (i10 : Int),
 ∀ (i11 : Int),
 ∀ (s12 : ByteArray),
       cRaw.sig.post [(D.S s0), (D.I i6), (D.I (12 : Int)), (D.I (IntKind.wrap .i64 i8)), (D.I i10), (D.I i11), (D.S s12)] →
 (-9223372036854775808 ≤ i10 ∧ i10 < 9223372036854775808) →
 (-9223372036854775808 ≤ i11 ∧ i11 < 9223372036854775808) →
 ((s12.size : Int) ≤ 9223372036854775807) →
       cText.sig.post [(D.S s0), (D.I i1), (D.I i2), (D.I i3), (D.I i10), (D.I i11), (D.S s12)])))))) ∧ (
 (i8 ≤ (IntKind.wrap .u64 i3)) →
 ((
 ((
 ((IntKind.wrap .u64 (IntKind.wrap .i64 (((s0.size : Nat) : Int) - i6))) < i8) →
 ((
 ((2 : Int) ≠ (0 : Int)) →
        cText.sig.post [(D.S s0), (D.I i1), (D.I i2), (D.I i3), (D.I i1), (D.I (2 : Int)), (D.S (⟨#[]⟩ : ByteArray))]) ∧ (
 ((2 : Int) = (0 : Int)) →
        cRaw.sig.pre [(D.S s0), (D.I i6), (D.I (2 : Int)), (D.I (IntKind.wrap .i64 i8))] ∧ (
 ∀ (i10 : Int),
 ∀ (i11 : Int),
 ∀ (s12 : ByteArray),
        cRaw.sig.post [(D.S s0), (D.I i6), (D.I (2 : Int)), (D.I (IntKind.wrap .i64 i8)), (D.I i10), (D.I i11), (D.S s12)] →
 (-9223372036854775808 ≤ i10 ∧ i10 < 9223372036854775808) →
 (-9223372036854775808 ≤ i11 ∧ i11 < 9223372036854775808) →
 ((s12.size : Int) ≤ 9223372036854775807) →
        cText.sig.post [(D.S s0), (D.I i1), (D.I i2), (D.I i3), (D.I i10), (D.I i11), (D.S s12)])))) ∧ (
 (i8 ≤ (IntKind.wrap .u64 (IntKind.wrap .i64 (((s0.size : Nat) : Int) - i6)))) →
 ((
 (i7 ≠ (0 : Int)) →
        cText.sig.post [(D.S s0), (D.I i1), (D.I i2), (D.I i3), (D.I i1), (D.I i7), (D.S (⟨#[]⟩ : ByteArray))]) ∧ (
 (i7 = (0 : Int)) →
        cRaw.sig.pre [(D.S s0), (D.I i6), (D.I i7), (D.I (IntKind.wrap .i64 i8))] ∧ (
 ∀ (i10 : Int),
 ∀ (i11 : Int),
 ∀ (s12 : ByteArray),
        cRaw.sig.post [(D.S s0), (D.I i6), (D.I i7), (D.I (IntKind.wrap .i64 i8)), (D.I i10), (D.I i11), (D.S s12)] →
 (-9223372036854775808 ≤ i10 ∧ i10 < 9223372036854775808) →
 (-9223372036854775808 ≤ i11 ∧ i11 < 9223372036854775808) →
 ((s12.size : Int) ≤ 9223372036854775807) →
        cText.sig.post [(D.S s0), (D.I i1), (D.I i2), (D.I i3), (D.I i10), (D.I i11), (D.S s12)])))))) ∧ (
 (i7 ≠ (0 : Int)) →
 ((
 (i7 ≠ (0 : Int)) →
       cText.sig.post [(D.S s0), (D.I i1), (D.I i2), (D.I i3), (D.I i1), (D.I i7), (D.S (⟨#[]⟩ : ByteArray))]) ∧ (
 (i7 = (0 : Int)) →
       cRaw.sig.pre [(D.S s0), (D.I i6), (D.I i7), (D.I (IntKind.wrap .i64 i8))] ∧ (
 ∀ (i10 : Int),
 ∀ (i11 : Int),
 ∀ (s12 : ByteArray),
       cRaw.sig.post [(D.S s0), (D.I i6), (D.I i7), (D.I (IntKind.wrap .i64 i8)), (D.I i10), (D.I i11), (D.S s12)] →
 (-9223372036854775808 ≤ i10 ∧ i10 < 9223372036854775808) →
 (-9223372036854775808 ≤ i11 ∧ i11 < 9223372036854775808) →
 ((s12.size : Int) ≤ 9223372036854775807) →
       cText.sig.post [(D.S s0), (D.I i1), (D.I i2), (D.I i3), (D.I i10), (D.I i11), (D.S s12)])))))))) ∧ (
 (i3 < (0 : Int)) →
 ((
 ((
 ((IntKind.wrap .u64 (IntKind.wrap .i64 (((s0.size : Nat) : Int) - i6))) < i8) →
 ((
 ((2 : Int) ≠ (0 : Int)) →
       cText.sig.post [(D.S s0), (D.I i1), (D.I i2), (D.I i3), (D.I i1), (D.I (2 : Int)), (D.S (⟨#[]⟩ : ByteArray))]) ∧ (
 ((2 : Int) = (0 : Int)) →
       cRaw.sig.pre [(D.S s0), (D.I i6), (D.I (2 : Int)), (D.I (IntKind.wrap .i64 i8))] ∧ (
 ∀ (i10 : Int),
 ∀ (i11 : Int),
 ∀ (s12 : ByteArray),
       cRaw.sig.post [(D.S s0), (D.I i6), (D.I (2 : Int)), (D.I (IntKind.wrap .i64 i8)), (D.I i10), (D.I i11), (D.S s12)] →
 (-9223372036854775808 ≤ i10 ∧ i10 < 9223372036854775808) →
 (-9223372036854775808 ≤ i11 ∧ i11 < 9223372036854775808) →
 ((s12.size : Int) ≤ 9223372036854775807) →
       cText.sig.post [(D.S s0), (D.I i1), (D.I i2), (D.I i3), (D.I i10), (D.I i11), (D.S s12)])))) ∧ (
 (i8 ≤ (IntKind.wrap .u64 (IntKind.wrap .i64 (((s0.size : Nat) : Int) - i6)))) →
 ((
 (i7 ≠ (0 : Int)) →
       cText.sig.post [(D.S s0), (D.I i1), (D.I i2), (D.I i3), (D.I i1), (D.I i7), (D.S (⟨#[]⟩ : ByteArray))]) ∧ (
 (i7 = (0 : Int)) →
       cRaw.sig.pre [(D.S s0), (D.I i6), (D.I i7), (D.I (IntKind.wrap .i64 i8))] ∧ (
 ∀ (i10 : Int),
 ∀ (i11 : Int),
 ∀ (s12 : ByteArray),
       cRaw.sig.post [(D.S s0), (D.I i6), (D.I i7), (D.I (IntKind.wrap .i64 i8)), (D.I i10), (D.I i11), (D.S s12)] →
 (-9223372036854775808 ≤ i10 ∧ i10 < 9223372036854775808) →
 (-9223372036854775808 ≤ i11 ∧ i11 < 9223372036854775808) →
 ((s12.size : Int) ≤ 9223372036854775807) →
       cText.sig.post [(D.S s0), (D.I i1), (D.I i2), (D.I i3), (D.I i10), (D.I i11), (D.S s12)])))))) ∧ (
 (i7 ≠ (0 : Int)) →
 ((
 (i7 ≠ (0 : Int)) →
      cText.sig.post [(D.S s0), (D.I i1), (D.I i2), (D.I i3), (D.I i1), (D.I i7), (D.S (⟨#[]⟩ : ByteArray))]) ∧ (
 (i7 = (0 : Int)) →
      cRaw.sig.pre [(D.S s0), (D.I i6), (D.I i7), (D.I (IntKind.wrap .i64 i8))] ∧ (
 ∀ (i10 : Int),
 ∀ (i11 : Int),
 ∀ (s12 : ByteArray),
      cRaw.sig.post [(D.S s0), (D.I i6), (D.I i7), (D.I (IntKind.wrap .i64 i8)), (D.I i10), (D.I i11), (D.S s12)] →
 (-9223372036854775808 ≤ i10 ∧ i10 < 9223372036854775808) →
 (-9223372036854775808 ≤ i11 ∧ i11 < 9223372036854775808) →
 ((s12.size : Int) ≤ 9223372036854775807) →
      cText.sig.post [(D.S s0), (D.I i1), (D.I i2), (D.I i3), (D.I i10), (D.I i11), (D.S s12)])))))))))) ∧ (
 (i7 ≠ (0 : Int)) →
 ((
 (i7 = (0 : Int)) →
 ((
 ((IntKind.wrap .u64 (IntKind.wrap .i64 (((s0.size : Nat) : Int) - i6))) < i8) →
 ((
 ((2 : Int) ≠ (0 : Int)) →
     cText.sig.post [(D.S s0), (D.I i1), (D.I i2), (D.I i3), (D.I i1), (D.I (2 : Int)), (D.S (⟨#[]⟩ : ByteArray))]) ∧ (
 ((2 : Int) = (0 : Int)) →
     cRaw.sig.pre [(D.S s0), (D.I i6), (D.I (2 : Int)), (D.I (IntKind.wrap .i64 i8))] ∧ (
 ∀ (i10 : Int),
 ∀ (i11 : Int),
 ∀ (s12 : ByteArray),
     cRaw.sig.post [(D.S s0), (D.I i6), (D.I (2 : Int)), (D.I (IntKind.wrap .i64 i8)), (D.I i10), (D.I i11), (D.S s12)] →
 (-9223372036854775808 ≤ i10 ∧ i10 < 9223372036854775808) →
 (-9223372036854775808 ≤ i11 ∧ i11 < 9223372036854775808) →
 ((s12.size : Int) ≤ 9223372036854775807) →
     cText.sig.post [(D.S s0), (D.I i1), (D.I i2), (D.I i3), (D.I i10), (D.I i11), (D.S s12)])))) ∧ (
 (i8 ≤ (IntKind.wrap .u64 (IntKind.wrap .i64 (((s0.size : Nat) : Int) - i6)))) →
 ((
 (i7 ≠ (0 : Int)) →
     cText.sig.post [(D.S s0), (D.I i1), (D.I i2), (D.I i3), (D.I i1), (D.I i7), (D.S (⟨#[]⟩ : ByteArray))]) ∧ (
 (i7 = (0 : Int)) →
     cRaw.sig.pre [(D.S s0), (D.I i6), (D.I i7), (D.I (IntKind.wrap .i64 i8))] ∧ (
 ∀ (i10 : Int),
 ∀ (i11 : Int),
 ∀ (s12 : ByteArray),
     cRaw.sig.post [(D.S s0), (D.I i6), (D.I i7), (D.I (IntKind.wrap .i64 i8)), (D.I i10), (D.I i11), (D.S s12)] →
 (-9223372036854775808 ≤ i10 ∧ i10 < 9223372036854775808) →
 (-9223372036854775808 ≤ i11 ∧ i11 < 9223372036854775808) →
 ((s12.size : Int) ≤ 9223372036854775807) →
     cText.sig.post [(D.S s0), (D.I i1), (D.I i2), (D.I i3), (D.I i10), (D.I i11), (D.S s12)])))))) ∧ (
 (i7 ≠ (0 : Int)) →
 ((
 (i7 ≠ (0 : Int)) →
    cText.sig.post [(D.S s0), (D.I i1), (D.I i2), (D.I i3), (D.I i1), (D.I i7), (D.S (⟨#[]⟩ : ByteArray))]) ∧ (
 (i7 = (0 : Int)) →
    cRaw.sig.pre [(D.S s0), (D.I i6), (D.I i7), (D.I (IntKind.wrap .i64 i8))] ∧ (
 ∀ (i10 : Int),
 ∀ (i11 : Int),
 ∀ (s12 : ByteArray),
    cRaw.sig.post [(D.S s0), (D.I i6), (D.I i7), (D.I (IntKind.wrap .i64 i8)), (D.I i10), (D.I i11), (D.S s12)] →
 (-9223372036854775808 ≤ i10 ∧ i10 < 9223372036854775808) →
 (-9223372036854775808 ≤ i11 ∧ i11 < 9223372036854775808) →
 ((s12.size : Int) ≤ 9223372036854775807) →
    cText.sig.post [(D.S s0), (D.I i1), (D.I i2), (D.I i3), (D.I i10), (D.I i11), (D.S s12)]))))))))
theorem cText.den : cText.vc.den2 (mkEnv cText.sig [cNum.sig, cRaw.sig] []) [] = cText.Pure := by kernel_rfl
def cDone.vc : VC :=
 (.all .S
 (.all .I
 (.all .I
 (.know (.ssz (.at 0))
 (.know (.has .i64 (.at 1))
 (.know (.has .i64 (.at 2))
 (.post 0 [(.at 0), (.at 1), (.at 2)]
 (.all .N
 (.all .N
 (.and
 (.imp (.o2 .eq (.at 2) (.int 0)) true
 (.and
 (.imp (.o2 .lt (.at 1) (.o1 .slen (.at 0))) true
 (.ret [(.at 0), (.at 1), (.at 2), (.at 1), (.int 3)]))
 (.imp (.o2 .lt (.at 1) (.o1 .slen (.at 0))) false
 (.ret [(.at 0), (.at 1), (.at 2), (.at 1), (.at 2)]))))
 (.imp (.o2 .eq (.at 2) (.int 0)) false
 (.ret [(.at 0), (.at 1), (.at 2), (.at 1), (.at 2)]))))))))))))
def cDone.Pure : Prop :=
 ∀ (s0 : ByteArray),
 ∀ (i1 : Int),
 ∀ (i2 : Int),
 ((s0.size : Int) ≤ 9223372036854775807) →
 (-9223372036854775808 ≤ i1 ∧ i1 < 9223372036854775808) →
 (-9223372036854775808 ≤ i2 ∧ i2 < 9223372036854775808) →
 cDone.sig.pre [(D.S s0), (D.I i1), (D.I i2)] →
 ∀ (n3 : Nat),
 ∀ (n4 : Nat),
 ((
 (i2 = (0 : Int)) →
 ((
 (i1 < ((s0.size : Nat) : Int)) →
   cDone.sig.post [(D.S s0), (D.I i1), (D.I i2), (D.I i1), (D.I (3 : Int))]) ∧ (
 (((s0.size : Nat) : Int) ≤ i1) →
   cDone.sig.post [(D.S s0), (D.I i1), (D.I i2), (D.I i1), (D.I i2)]))) ∧ (
 (i2 ≠ (0 : Int)) →
  cDone.sig.post [(D.S s0), (D.I i1), (D.I i2), (D.I i1), (D.I i2)]))
theorem cDone.den : cDone.vc.den2 (mkEnv cDone.sig [] []) [] = cDone.Pure := by kernel_rfl
end Go.Vc
