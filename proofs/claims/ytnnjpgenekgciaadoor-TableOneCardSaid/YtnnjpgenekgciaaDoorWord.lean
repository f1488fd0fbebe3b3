/-
  Contracts of the functions on whole numbers (word, and the document's).
  Printed by wip/vct.py: the conditions of functions, by their contracts.
  The functions on whole numbers keep their contracts: the plain part.
  The document's functions on whole numbers keep their contracts: the plain part.
  More contracts of the functions on whole numbers; the laws.
  Printed by wip/vct.py: the conditions of functions, by their contracts.
  More functions on whole numbers keep their contracts: the plain part.
  Still more functions on whole numbers keep their contracts: the plain part.
  The laws of whole numbers: the plain part.
-/
import Derived.Test.YtnnjpgenekgciaaDoorVcd
import Derived.KernelRfl
set_option linter.unusedVariables false
set_option linter.unusedSimpArgs false
namespace Go.Vc

def tru (_ : List D) : Prop := True

/-! ### what they say -/
def b2i (b : Bool) : Int := if b then 1 else 0
def bitsOf (v : Int) : List Int := (List.range 64).map fun i => b2i (bt v i)
def valueOf : List Int → Int
  | [] => 0
  | b :: l => b + 2 * valueOf l
def is01 (l : List Int) : Prop := ∀ x ∈ l, x = 0 ∨ x = 1
def clamp (a b n : Int) : Int := if n < a then a else if n > b then b else n
/-- How many bits. -/
def pop : Nat → Nat → Nat
  | 0, _ => 0
  | k + 1, n => n % 2 + pop k (n / 2)
def popI (v : Int) : Int := (pop 64 v.toNat : Nat)

/-! ### the program's -/
def Low.post : List D → Prop
  | [.I v, .I n, .I r] => ∀ i, i < 64 → bt r i = (decide ((i : Int) < n) && bt v i)
  | _ => False
def Low.sig : Sig := sigF [.i .u64, .i .i64] [.i .u64] tru Low.post
def Signed.post : List D → Prop
  | [.I v, .I n, .I r] => ∀ i, i < 64 → bt r i = bt v (min i ((clamp 1 64 n).toNat - 1))
  | _ => False
def Signed.sig : Sig := sigF [.i .u64, .i .i64] [.i .i64] tru Signed.post
def Bit.post : List D → Prop
  | [.I v, .I n, .B r] => r = (decide (0 ≤ n) && decide (n < 64) && bt v n.toNat)
  | _ => False
def Bit.sig : Sig := sigF [.i .u64, .i .i64] [.b] tru Bit.post
def With.post : List D → Prop
  | [.I v, .I n, .I r] => ∀ i, i < 64 → bt r i = (decide ((i : Int) = n) || bt v i)
  | _ => False
def With.sig : Sig := sigF [.i .u64, .i .i64] [.i .u64] tru With.post
def Field.post : List D → Prop
  | [.I v, .I a, .I n, .I r] => ∀ i, i < 64 → bt r i = (decide (0 ≤ a) && decide (a < 64) && decide ((i : Int) < n) && bt v (i + a.toNat))
  | _ => False
def Field.sig : Sig := sigF [.i .u64, .i .i64, .i .i64] [.i .u64] tru Field.post
def Lay.post : List D → Prop
  | [.I v, .I a, .I n, .I x, .I r] => ∀ i, i < 64 → bt r i = (if 0 ≤ a ∧ a ≤ (i : Int) ∧ (i : Int) - a < n then bt x (i - a.toNat) else bt v i)
  | _ => False
def Lay.sig : Sig := sigF [.i .u64, .i .i64, .i .i64, .i .u64] [.i .u64] tru Lay.post
def Turn.post : List D → Prop
  | [.I v, .I n, .I r] => ∀ i, i < 64 → bt r i = bt v (((i : Int) - n) % 64).toNat
  | _ => False
def Turn.sig : Sig := sigF [.i .u64, .i .i64] [.i .u64] tru Turn.post
def Turn32.post : List D → Prop
  | [.I v, .I n, .I r] => ∀ i, i < 32 → bt r i = bt v (((i : Int) - n) % 32).toNat
  | _ => False
def Turn32.sig : Sig := sigF [.i .u32, .i .i64] [.i .u32] tru Turn32.post
def Left.post : List D → Prop
  | [.I v, .I n, .I r] => ∀ i, i < 64 → bt r i = (decide (n % 64 ≤ (i : Int)) && bt v (i - (n % 64).toNat))
  | _ => False
def Left.sig : Sig := sigF [.i .u64, .i .u64] [.i .u64] tru Left.post
def Right.post : List D → Prop
  | [.I v, .I n, .I r] => ∀ i, i < 64 → bt r i = bt v (i + (n % 64).toNat)
  | _ => False
def Right.sig : Sig := sigF [.i .u64, .i .u64] [.i .u64] tru Right.post
def Count.post : List D → Prop
  | [.I v, .I r] => r = popI v
  | _ => False
def Count.sig : Sig := sigF [.i .u64] [.i .i64] tru Count.post
def Count.I0 : List D → Prop
  | [.I v0, .I v, .I n] => n + popI v = popI v0 ∧ 0 ≤ n
  | _ => False
def Count.I0M : List D → Nat
  | [.I _, .I v, .I _] => v.toNat
  | _ => 0
def First.post : List D → Prop
  | [.I v, .I r] => 0 ≤ r ∧ r ≤ 64 ∧ (∀ i, (i : Nat) < 64 → (i : Int) < r → bt v i = false) ∧ (r < 64 → bt v r.toNat = true)
  | _ => False
def First.sig : Sig := sigF [.i .u64] [.i .i64] tru First.post

/-! ### the document's -/
def RBits.post : List D → Prop
  | [.I v, .V _, .Z l] => l = bitsOf v
  | _ => False
def RBits.sig : Sig := sigF [.i .u64] [.z .i64] tru RBits.post
def RBits.I0 : List D → Prop
  | [.I v0, .I v, .Z l, .I i] => 0 ≤ i ∧ i ≤ 64 ∧ v = v0 / 2 ^ i.toNat ∧ l = (bitsOf v0).take i.toNat
  | _ => False
def RBits.I0M : List D → Nat
  | [.I _, .I _, .Z _, .I i] => (64 - i).toNat
  | _ => 0
def RValue.pre : List D → Prop
  | [.V _, .Z l] => l.length ≤ 64 ∧ is01 l
  | _ => False
def RValue.post : List D → Prop
  | [.V _, .Z l, .I r] => r = valueOf l
  | _ => False
def RValue.sig : Sig := sigF [.z .i64] [.i .u64] RValue.pre RValue.post
def RValue.I0 : List D → Prop
  | [.V _, .Z l, .I v, .I i] => -1 ≤ i ∧ i < l.length ∧ v = valueOf (l.drop (i + 1).toNat)
  | _ => False
def RValue.I0M : List D → Nat
  | [.V _, .Z _, .I _, .I i] => (i + 1).toNat
  | _ => 0
def RTurn.pre : List D → Prop
  | [.I _, .I _, .I all] => all = 64 ∨ all = 32
  | _ => False
def RTurn.post : List D → Prop
  | [.I v, .I n, .I all, .I r] => ∀ i, i < 64 → bt r i = (decide ((i : Int) < all) && bt v (((i : Int) - n) % all).toNat)
  | _ => False
def RTurn.sig : Sig := sigF [.i .u64, .i .i64, .i .i64] [.i .u64] RTurn.pre RTurn.post
def RTurn.I0 : List D → Prop
  | [.I v, .I n, .I all, .I i, .Z l] => (all = 64 ∨ all = 32) ∧ 0 ≤ i ∧ i ≤ all ∧ (l.length : Int) = all ∧ is01 l ∧ ∀ j : Nat, (j : Int) < i → l.getD ((((j : Int) + n) % all).toNat) 0 = b2i (bt v j)
  | _ => False
def RTurn.I0M : List D → Nat
  | [.I _, .I _, .I all, .I i, .Z _] => (all - i).toNat
  | _ => 0
def RMove.pre : List D → Prop
  | [.I _, .I n] => -64 < n ∧ n < 64
  | _ => False
def RMove.post : List D → Prop
  | [.I v, .I n, .I r] => ∀ i, i < 64 → bt r i = (decide (n ≤ (i : Int)) && bt v ((i : Int) - n).toNat)
  | _ => False
def RMove.sig : Sig := sigF [.i .u64, .i .i64] [.i .u64] RMove.pre RMove.post
def RMove.I0 : List D → Prop
  | [.I v, .I n, .I i, .Z l] => 0 ≤ i ∧ i ≤ 64 ∧ l.length = 64 ∧ ∀ j : Nat, j < 64 → l.getD j 0 = (if n ≤ (j : Int) ∧ (j : Int) - n < i then b2i (bt v ((j : Int) - n).toNat) else 0)
  | _ => False
def RMove.I0M : List D → Nat
  | [.I _, .I _, .I i, .Z _] => (64 - i).toNat
  | _ => 0
def RCount.sig : Sig := Count.sig
def RFirst.sig : Sig := First.sig
def RCount.I0 : List D → Prop
  | [.I v, .I n, .I i] => 0 ≤ i ∧ i ≤ 64 ∧ n = ((bitsOf v).take i.toNat).sum
  | _ => False
def RCount.I0M : List D → Nat
  | [.I _, .I _, .I i] => (64 - i).toNat
  | _ => 0
def RFirst.I0 : List D → Prop
  | [.I v, .I i] => 0 ≤ i ∧ i ≤ 64 ∧ ∀ j : Nat, (j : Int) < i → bt v j = false
  | _ => False
def RFirst.I0M : List D → Nat
  | [.I _, .I i] => (64 - i).toNat
  | _ => 0

end Go.Vc

namespace Go.Vc
set_option linter.unusedVariables false
def Low.vc : VC :=
 (.all .I
 (.all .I
 (.know (.has .u64 (.at 0))
 (.know (.has .i64 (.at 1))
 (.post 0 [(.at 0), (.at 1)]
 (.and
  (.imp (.o2 .le (.at 1) (.int 0)) true
  (.ret [(.at 0), (.at 1), (.int 0)]))
  (.imp (.o2 .le (.at 1) (.int 0)) false
  (.and
   (.imp (.o2 .le (.int 64) (.at 1)) true
   (.ret [(.at 0), (.at 1), (.at 0)]))
   (.imp (.o2 .le (.int 64) (.at 1)) false
   (.obl (.o2 .le (.int 0) (.at 1))
   (.ret [(.at 0), (.at 1), (.o2 (.bits .and .u64) (.at 0) (.o2 (.sub .u64) (.o2 (.shl .u64) (.int 1) (.at 1)) (.int 1)))])))))))))))
def Low.Pure : Prop :=
 ∀ (i0 : Int),
 ∀ (i1 : Int),
 (0 ≤ i0 ∧ i0 < 18446744073709551616) →
 (-9223372036854775808 ≤ i1 ∧ i1 < 9223372036854775808) →
 Low.sig.pre [(D.I i0), (D.I i1)] →
 ((
  (i1 ≤ (0 : Int)) →
  Low.sig.post [(D.I i0), (D.I i1), (D.I (0 : Int))]) ∧ (
  ((0 : Int) < i1) →
  ((
   ((64 : Int) ≤ i1) →
   Low.sig.post [(D.I i0), (D.I i1), (D.I i0)]) ∧ (
   (i1 < (64 : Int)) →
   ((0 : Int) ≤ i1) ∧ (((0 : Int) ≤ i1) →
   Low.sig.post [(D.I i0), (D.I i1), (D.I (Go.bits .and .u64 i0 (IntKind.wrap .u64 ((shlI .u64 (1 : Int) i1) - (1 : Int)))))])))))
theorem Low.den : Low.vc.den2 (mkEnv Low.sig [] []) [] = Low.Pure := by kernel_rfl
def Signed.vc : VC :=
 (.all .I
 (.all .I
 (.know (.has .u64 (.at 0))
 (.know (.has .i64 (.at 1))
 (.post 0 [(.at 0), (.at 1)]
 (.obl (.o2 .le (.int 0) (.o2 (.sub .i64) (.int 64) (.o2 .min (.o2 .max (.at 1) (.int 1)) (.int 64))))
 (.ret [(.at 0), (.at 1), (.o2 (.shr .i64) (.o1 (.wrap .i64) (.o2 (.shl .u64) (.at 0) (.o2 (.sub .i64) (.int 64) (.o2 .min (.o2 .max (.at 1) (.int 1)) (.int 64))))) (.o2 (.sub .i64) (.int 64) (.o2 .min (.o2 .max (.at 1) (.int 1)) (.int 64))))])))))))
def Signed.Pure : Prop :=
 ∀ (i0 : Int),
 ∀ (i1 : Int),
 (0 ≤ i0 ∧ i0 < 18446744073709551616) →
 (-9223372036854775808 ≤ i1 ∧ i1 < 9223372036854775808) →
 Signed.sig.pre [(D.I i0), (D.I i1)] →
 ((0 : Int) ≤ (IntKind.wrap .i64 ((64 : Int) - (minI (maxI i1 (1 : Int)) (64 : Int))))) ∧ (((0 : Int) ≤ (IntKind.wrap .i64 ((64 : Int) - (minI (maxI i1 (1 : Int)) (64 : Int))))) →
 Signed.sig.post [(D.I i0), (D.I i1), (D.I (shrI .i64 (IntKind.wrap .i64 (shlI .u64 i0 (IntKind.wrap .i64 ((64 : Int) - (minI (maxI i1 (1 : Int)) (64 : Int)))))) (IntKind.wrap .i64 ((64 : Int) - (minI (maxI i1 (1 : Int)) (64 : Int))))))])
theorem Signed.den : Signed.vc.den2 (mkEnv Signed.sig [] []) [] = Signed.Pure := by kernel_rfl
def Bit.vc : VC :=
 (.all .I
 (.all .I
 (.know (.has .u64 (.at 0))
 (.know (.has .i64 (.at 1))
 (.post 0 [(.at 0), (.at 1)]
 (.and
  (.imp (.o2 .le (.int 0) (.at 1)) true
  (.and
   (.imp (.o2 .lt (.at 1) (.int 64)) true
   (.ret [(.at 0), (.at 1), (.o2 .eq (.o2 (.bits .and .u64) (.o2 (.shr .u64) (.at 0) (.at 1)) (.int 1)) (.int 1))]))
   (.imp (.o2 .lt (.at 1) (.int 64)) false
   (.ret [(.at 0), (.at 1), (.bool false)]))))
  (.imp (.o2 .le (.int 0) (.at 1)) false
  (.ret [(.at 0), (.at 1), (.bool false)]))))))))
def Bit.Pure : Prop :=
 ∀ (i0 : Int),
 ∀ (i1 : Int),
 (0 ≤ i0 ∧ i0 < 18446744073709551616) →
 (-9223372036854775808 ≤ i1 ∧ i1 < 9223372036854775808) →
 Bit.sig.pre [(D.I i0), (D.I i1)] →
 ((
  ((0 : Int) ≤ i1) →
  ((
   (i1 < (64 : Int)) →
   Bit.sig.post [(D.I i0), (D.I i1), (D.B ((Go.bits .and .u64 (shrI .u64 i0 i1) (1 : Int)) == (1 : Int)))]) ∧ (
   ((64 : Int) ≤ i1) →
   Bit.sig.post [(D.I i0), (D.I i1), (D.B false)]))) ∧ (
  (i1 < (0 : Int)) →
  Bit.sig.post [(D.I i0), (D.I i1), (D.B false)]))
theorem Bit.den : Bit.vc.den2 (mkEnv Bit.sig [] []) [] = Bit.Pure := by kernel_rfl
def With.vc : VC :=
 (.all .I
 (.all .I
 (.know (.has .u64 (.at 0))
 (.know (.has .i64 (.at 1))
 (.post 0 [(.at 0), (.at 1)]
 (.and
  (.imp (.o2 .lt (.at 1) (.int 0)) true
  (.ret [(.at 0), (.at 1), (.at 0)]))
  (.imp (.o2 .lt (.at 1) (.int 0)) false
  (.and
   (.imp (.o2 .lt (.int 63) (.at 1)) true
   (.ret [(.at 0), (.at 1), (.at 0)]))
   (.imp (.o2 .lt (.int 63) (.at 1)) false
   (.obl (.o2 .le (.int 0) (.at 1))
   (.ret [(.at 0), (.at 1), (.o2 (.bits .or .u64) (.at 0) (.o2 (.shl .u64) (.int 1) (.at 1)))])))))))))))
def With.Pure : Prop :=
 ∀ (i0 : Int),
 ∀ (i1 : Int),
 (0 ≤ i0 ∧ i0 < 18446744073709551616) →
 (-9223372036854775808 ≤ i1 ∧ i1 < 9223372036854775808) →
 With.sig.pre [(D.I i0), (D.I i1)] →
 ((
  (i1 < (0 : Int)) →
  With.sig.post [(D.I i0), (D.I i1), (D.I i0)]) ∧ (
  ((0 : Int) ≤ i1) →
  ((
   ((63 : Int) < i1) →
   With.sig.post [(D.I i0), (D.I i1), (D.I i0)]) ∧ (
   (i1 ≤ (63 : Int)) →
   ((0 : Int) ≤ i1) ∧ (((0 : Int) ≤ i1) →
   With.sig.post [(D.I i0), (D.I i1), (D.I (Go.bits .or .u64 i0 (shlI .u64 (1 : Int) i1)))])))))
theorem With.den : With.vc.den2 (mkEnv With.sig [] []) [] = With.Pure := by kernel_rfl
def Field.vc : VC :=
 (.all .I
 (.all .I
 (.all .I
 (.know (.has .u64 (.at 0))
 (.know (.has .i64 (.at 1))
 (.know (.has .i64 (.at 2))
 (.post 0 [(.at 0), (.at 1), (.at 2)]
 (.and
  (.imp (.o2 .lt (.at 1) (.int 0)) true
  (.ret [(.at 0), (.at 1), (.at 2), (.int 0)]))
  (.imp (.o2 .lt (.at 1) (.int 0)) false
  (.and
   (.imp (.o2 .lt (.int 63) (.at 1)) true
   (.ret [(.at 0), (.at 1), (.at 2), (.int 0)]))
   (.imp (.o2 .lt (.int 63) (.at 1)) false
   (.obl (.o2 .le (.int 0) (.at 1))
   (.pre 1 [(.o2 (.shr .u64) (.at 0) (.at 1)), (.at 2)]
   (.all .I
   (.post 1 [(.o2 (.shr .u64) (.at 0) (.at 1)), (.at 2), (.at 3)]
   (.know (.has .u64 (.at 3))
   (.ret [(.at 0), (.at 1), (.at 2), (.at 3)])))))))))))))))))
def Field.Pure : Prop :=
 ∀ (i0 : Int),
 ∀ (i1 : Int),
 ∀ (i2 : Int),
 (0 ≤ i0 ∧ i0 < 18446744073709551616) →
 (-9223372036854775808 ≤ i1 ∧ i1 < 9223372036854775808) →
 (-9223372036854775808 ≤ i2 ∧ i2 < 9223372036854775808) →
 Field.sig.pre [(D.I i0), (D.I i1), (D.I i2)] →
 ((
  (i1 < (0 : Int)) →
  Field.sig.post [(D.I i0), (D.I i1), (D.I i2), (D.I (0 : Int))]) ∧ (
  ((0 : Int) ≤ i1) →
  ((
   ((63 : Int) < i1) →
   Field.sig.post [(D.I i0), (D.I i1), (D.I i2), (D.I (0 : Int))]) ∧ (
   (i1 ≤ (63 : Int)) →
   ((0 : Int) ≤ i1) ∧ (((0 : Int) ≤ i1) →
   Low.sig.pre [(D.I (shrI .u64 i0 i1)), (D.I i2)] ∧ (
   ∀ (i3 : Int),
   Low.sig.post [(D.I (shrI .u64 i0 i1)), (D.I i2), (D.I i3)] →
   (0 ≤ i3 ∧ i3 < 18446744073709551616) →
   Field.sig.post [(D.I i0), (D.I i1), (D.I i2), (D.I i3)]))))))
theorem Field.den : Field.vc.den2 (mkEnv Field.sig [Low.sig] []) [] = Field.Pure := by kernel_rfl
def Lay.vc : VC :=
 (.all .I
 (.all .I
 (.all .I
 (.all .I
 (.know (.has .u64 (.at 0))
 (.know (.has .i64 (.at 1))
 (.know (.has .i64 (.at 2))
 (.know (.has .u64 (.at 3))
 (.post 0 [(.at 0), (.at 1), (.at 2), (.at 3)]
 (.and
  (.imp (.o2 .lt (.at 1) (.int 0)) true
  (.ret [(.at 0), (.at 1), (.at 2), (.at 3), (.at 0)]))
  (.imp (.o2 .lt (.at 1) (.int 0)) false
  (.and
   (.imp (.o2 .lt (.int 63) (.at 1)) true
   (.ret [(.at 0), (.at 1), (.at 2), (.at 3), (.at 0)]))
   (.imp (.o2 .lt (.int 63) (.at 1)) false
   (.and
    (.imp (.o2 .le (.at 2) (.int 0)) true
    (.ret [(.at 0), (.at 1), (.at 2), (.at 3), (.at 0)]))
    (.imp (.o2 .le (.at 2) (.int 0)) false
    (.pre 1 [(.int 18446744073709551615), (.at 2)]
    (.all .I
    (.post 1 [(.int 18446744073709551615), (.at 2), (.at 4)]
    (.know (.has .u64 (.at 4))
    (.obl (.o2 .le (.int 0) (.at 1))
    (.ret [(.at 0), (.at 1), (.at 2), (.at 3), (.o2 (.bits .or .u64) (.o2 (.bits .andNot .u64) (.at 0) (.o2 (.shl .u64) (.at 4) (.at 1))) (.o2 (.bits .and .u64) (.o2 (.shl .u64) (.at 3) (.at 1)) (.o2 (.shl .u64) (.at 4) (.at 1))))])))))))))))))))))))))
def Lay.Pure : Prop :=
 ∀ (i0 : Int),
 ∀ (i1 : Int),
 ∀ (i2 : Int),
 ∀ (i3 : Int),
 (0 ≤ i0 ∧ i0 < 18446744073709551616) →
 (-9223372036854775808 ≤ i1 ∧ i1 < 9223372036854775808) →
 (-9223372036854775808 ≤ i2 ∧ i2 < 9223372036854775808) →
 (0 ≤ i3 ∧ i3 < 18446744073709551616) →
 Lay.sig.pre [(D.I i0), (D.I i1), (D.I i2), (D.I i3)] →
 ((
  (i1 < (0 : Int)) →
  Lay.sig.post [(D.I i0), (D.I i1), (D.I i2), (D.I i3), (D.I i0)]) ∧ (
  ((0 : Int) ≤ i1) →
  ((
   ((63 : Int) < i1) →
   Lay.sig.post [(D.I i0), (D.I i1), (D.I i2), (D.I i3), (D.I i0)]) ∧ (
   (i1 ≤ (63 : Int)) →
   ((
    (i2 ≤ (0 : Int)) →
    Lay.sig.post [(D.I i0), (D.I i1), (D.I i2), (D.I i3), (D.I i0)]) ∧ (
    ((0 : Int) < i2) →
    Low.sig.pre [(D.I (18446744073709551615 : Int)), (D.I i2)] ∧ (
    ∀ (i4 : Int),
    Low.sig.post [(D.I (18446744073709551615 : Int)), (D.I i2), (D.I i4)] →
    (0 ≤ i4 ∧ i4 < 18446744073709551616) →
    ((0 : Int) ≤ i1) ∧ (((0 : Int) ≤ i1) →
    Lay.sig.post [(D.I i0), (D.I i1), (D.I i2), (D.I i3), (D.I (Go.bits .or .u64 (Go.bits .andNot .u64 i0 (shlI .u64 i4 i1)) (Go.bits .and .u64 (shlI .u64 i3 i1) (shlI .u64 i4 i1))))]))))))))
theorem Lay.den : Lay.vc.den2 (mkEnv Lay.sig [Low.sig] []) [] = Lay.Pure := by kernel_rfl
def Turn.vc : VC :=
 (.all .I
 (.all .I
 (.know (.has .u64 (.at 0))
 (.know (.has .i64 (.at 1))
 (.post 0 [(.at 0), (.at 1)]
 (.ret [(.at 0), (.at 1), (.o2 (.bits .or .u64) (.o2 (.shl .u64) (.at 0) (.o2 (.bits .and .u64) (.o1 (.wrap .u64) (.at 1)) (.int 63))) (.o2 (.shr .u64) (.at 0) (.o2 (.sub .u64) (.int 64) (.o2 (.bits .and .u64) (.o1 (.wrap .u64) (.at 1)) (.int 63)))))]))))))
def Turn.Pure : Prop :=
 ∀ (i0 : Int),
 ∀ (i1 : Int),
 (0 ≤ i0 ∧ i0 < 18446744073709551616) →
 (-9223372036854775808 ≤ i1 ∧ i1 < 9223372036854775808) →
 Turn.sig.pre [(D.I i0), (D.I i1)] →
 Turn.sig.post [(D.I i0), (D.I i1), (D.I (Go.bits .or .u64 (shlI .u64 i0 (Go.bits .and .u64 (IntKind.wrap .u64 i1) (63 : Int))) (shrI .u64 i0 (IntKind.wrap .u64 ((64 : Int) - (Go.bits .and .u64 (IntKind.wrap .u64 i1) (63 : Int)))))))]
theorem Turn.den : Turn.vc.den2 (mkEnv Turn.sig [] []) [] = Turn.Pure := by kernel_rfl
def Turn32.vc : VC :=
 (.all .I
 (.all .I
 (.know (.has .u32 (.at 0))
 (.know (.has .i64 (.at 1))
 (.post 0 [(.at 0), (.at 1)]
 (.ret [(.at 0), (.at 1), (.o2 (.bits .or .u32) (.o2 (.shl .u32) (.at 0) (.o2 (.bits .and .u64) (.o1 (.wrap .u64) (.at 1)) (.int 31))) (.o2 (.shr .u32) (.at 0) (.o2 (.sub .u64) (.int 32) (.o2 (.bits .and .u64) (.o1 (.wrap .u64) (.at 1)) (.int 31)))))]))))))
def Turn32.Pure : Prop :=
 ∀ (i0 : Int),
 ∀ (i1 : Int),
 (0 ≤ i0 ∧ i0 < 4294967296) →
 (-9223372036854775808 ≤ i1 ∧ i1 < 9223372036854775808) →
 Turn32.sig.pre [(D.I i0), (D.I i1)] →
 Turn32.sig.post [(D.I i0), (D.I i1), (D.I (Go.bits .or .u32 (shlI .u32 i0 (Go.bits .and .u64 (IntKind.wrap .u64 i1) (31 : Int))) (shrI .u32 i0 (IntKind.wrap .u64 ((32 : Int) - (Go.bits .and .u64 (IntKind.wrap .u64 i1) (31 : Int)))))))]
theorem Turn32.den : Turn32.vc.den2 (mkEnv Turn32.sig [] []) [] = Turn32.Pure := by kernel_rfl
def Left.vc : VC :=
 (.all .I
 (.all .I
 (.know (.has .u64 (.at 0))
 (.know (.has .u64 (.at 1))
 (.post 0 [(.at 0), (.at 1)]
 (.ret [(.at 0), (.at 1), (.o2 (.shl .u64) (.at 0) (.o2 (.bits .and .u64) (.at 1) (.int 63)))]))))))
def Left.Pure : Prop :=
 ∀ (i0 : Int),
 ∀ (i1 : Int),
 (0 ≤ i0 ∧ i0 < 18446744073709551616) →
 (0 ≤ i1 ∧ i1 < 18446744073709551616) →
 Left.sig.pre [(D.I i0), (D.I i1)] →
 Left.sig.post [(D.I i0), (D.I i1), (D.I (shlI .u64 i0 (Go.bits .and .u64 i1 (63 : Int))))]
theorem Left.den : Left.vc.den2 (mkEnv Left.sig [] []) [] = Left.Pure := by kernel_rfl
def Right.vc : VC :=
 (.all .I
 (.all .I
 (.know (.has .u64 (.at 0))
 (.know (.has .u64 (.at 1))
 (.post 0 [(.at 0), (.at 1)]
 (.ret [(.at 0), (.at 1), (.o2 (.shr .u64) (.at 0) (.o2 (.bits .and .u64) (.at 1) (.int 63)))]))))))
def Right.Pure : Prop :=
 ∀ (i0 : Int),
 ∀ (i1 : Int),
 (0 ≤ i0 ∧ i0 < 18446744073709551616) →
 (0 ≤ i1 ∧ i1 < 18446744073709551616) →
 Right.sig.pre [(D.I i0), (D.I i1)] →
 Right.sig.post [(D.I i0), (D.I i1), (D.I (shrI .u64 i0 (Go.bits .and .u64 i1 (63 : Int))))]
theorem Right.den : Right.vc.den2 (mkEnv Right.sig [] []) [] = Right.Pure := by kernel_rfl
def Count.vc : VC :=
 (.all .I
 (.know (.has .u64 (.at 0))
 (.post 0 [(.at 0)]
 (.inv 0 [(.at 0), (.at 0), (.int 0)]
 (.all .I
 (.all .I
 (.know (.has .u64 (.at 1))
 (.know (.has .i64 (.at 2))
 (.asm 0 [(.at 0), (.at 1), (.at 2)]
 (.and
  (.imp (.o1 .not (.o2 .eq (.at 1) (.int 0))) true
  (.back 0 [(.at 0), (.at 1), (.at 2)] [(.at 0), (.o2 (.bits .and .u64) (.at 1) (.o2 (.sub .u64) (.at 1) (.int 1))), (.o2 (.add .i64) (.at 2) (.int 1))]))
  (.imp (.o1 .not (.o2 .eq (.at 1) (.int 0))) false
  (.ret [(.at 0), (.at 2)]))))))))))))
def Count.Pure : Prop :=
 ∀ (i0 : Int),
 (0 ≤ i0 ∧ i0 < 18446744073709551616) →
 Count.sig.pre [(D.I i0)] →
 Count.I0 [(D.I i0), (D.I i0), (D.I (0 : Int))] ∧ (
 ∀ (i1 : Int),
 ∀ (i2 : Int),
 (0 ≤ i1 ∧ i1 < 18446744073709551616) →
 (-9223372036854775808 ≤ i2 ∧ i2 < 9223372036854775808) →
 Count.I0 [(D.I i0), (D.I i1), (D.I i2)] →
 ((
  (i1 ≠ (0 : Int)) →
  Count.I0 [(D.I i0), (D.I (Go.bits .and .u64 i1 (IntKind.wrap .u64 (i1 - (1 : Int))))), (D.I (IntKind.wrap .i64 (i2 + (1 : Int))))] ∧ Count.I0M [(D.I i0), (D.I (Go.bits .and .u64 i1 (IntKind.wrap .u64 (i1 - (1 : Int))))), (D.I (IntKind.wrap .i64 (i2 + (1 : Int))))] < Count.I0M [(D.I i0), (D.I i1), (D.I i2)]) ∧ (
  (i1 = (0 : Int)) →
  Count.sig.post [(D.I i0), (D.I i2)])))
theorem Count.den : Count.vc.den2 (mkEnv Count.sig [] [(Count.I0, Count.I0M)]) [] = Count.Pure := by kernel_rfl
def First.vc : VC :=
 (.all .I
 (.know (.has .u64 (.at 0))
 (.post 0 [(.at 0)]
 (.and
  (.imp (.o2 .eq (.at 0) (.int 0)) true
  (.ret [(.at 0), (.int 64)]))
  (.imp (.o2 .eq (.at 0) (.int 0)) false
  (.pre 1 [(.o2 (.sub .u64) (.o2 (.bits .and .u64) (.at 0) (.o2 (.sub .u64) (.int 0) (.at 0))) (.int 1))]
  (.all .I
  (.post 1 [(.o2 (.sub .u64) (.o2 (.bits .and .u64) (.at 0) (.o2 (.sub .u64) (.int 0) (.at 0))) (.int 1)), (.at 1)]
  (.know (.has .i64 (.at 1))
  (.ret [(.at 0), (.at 1)]))))))))))
def First.Pure : Prop :=
 ∀ (i0 : Int),
 (0 ≤ i0 ∧ i0 < 18446744073709551616) →
 First.sig.pre [(D.I i0)] →
 ((
  (i0 = (0 : Int)) →
  First.sig.post [(D.I i0), (D.I (64 : Int))]) ∧ (
  (i0 ≠ (0 : Int)) →
  Count.sig.pre [(D.I (IntKind.wrap .u64 ((Go.bits .and .u64 i0 (IntKind.wrap .u64 ((0 : Int) - i0))) - (1 : Int))))] ∧ (
  ∀ (i1 : Int),
  Count.sig.post [(D.I (IntKind.wrap .u64 ((Go.bits .and .u64 i0 (IntKind.wrap .u64 ((0 : Int) - i0))) - (1 : Int)))), (D.I i1)] →
  (-9223372036854775808 ≤ i1 ∧ i1 < 9223372036854775808) →
  First.sig.post [(D.I i0), (D.I i1)])))
theorem First.den : First.vc.den2 (mkEnv First.sig [Count.sig] []) [] = First.Pure := by kernel_rfl
def RBits.vc : VC :=
 (.all .I
 (.know (.has .u64 (.at 0))
 (.post 0 [(.at 0)]
 (.all .V
 (.all .V
 (.inv 0 [(.at 0), (.at 0), (.lis []), (.int 0)]
 (.all .I
 (.all .V
 (.all .Z
 (.all .I
 (.know (.has .u64 (.at 3))
 (.know (.has .i64 (.at 6))
 (.know (.allHas .i64 (.at 5))
 (.asm 0 [(.at 0), (.at 3), (.at 5), (.at 6)]
 (.and
  (.imp (.o2 .lt (.at 6) (.int 64)) true
  (.all .V
  (.obl (.o2 .le (.o1 .lilen (.o2 .liapp (.at 5) (.o2 .licons (.o1 (.wrap .i64) (.o2 .rem (.at 3) (.int 2))) (.lis [])))) (.int 17592186044416))
  (.all .V
  (.back 0 [(.at 0), (.at 3), (.at 5), (.at 6)] [(.at 0), (.o2 (.quo .u64) (.at 3) (.int 2)), (.o2 .liapp (.at 5) (.o2 .licons (.o1 (.wrap .i64) (.o2 .rem (.at 3) (.int 2))) (.lis []))), (.o2 (.add .i64) (.at 6) (.int 1))])))))
  (.imp (.o2 .lt (.at 6) (.int 64)) false
  (.ret [(.at 0), (.at 4), (.at 5)])))))))))))))))))
def RBits.Pure : Prop :=
 ∀ (i0 : Int),
 (0 ≤ i0 ∧ i0 < 18446744073709551616) →
 RBits.sig.pre [(D.I i0)] →
 ∀ (v1 : Value),
 ∀ (v2 : Value),
 RBits.I0 [(D.I i0), (D.I i0), (D.Z ([] : List Int)), (D.I (0 : Int))] ∧ (
 ∀ (i3 : Int),
 ∀ (v4 : Value),
 ∀ (z5 : List Int),
 ∀ (i6 : Int),
 (0 ≤ i3 ∧ i3 < 18446744073709551616) →
 (-9223372036854775808 ≤ i6 ∧ i6 < 9223372036854775808) →
 (∀ x ∈ z5, IntKind.has .i64 x) →
 RBits.I0 [(D.I i0), (D.I i3), (D.Z z5), (D.I i6)] →
 ((
  (i6 < (64 : Int)) →
  ∀ (v7 : Value),
  ((((z5 ++ ((IntKind.wrap .i64 (Int.tmod i3 (2 : Int))) :: ([] : List Int))).length : Nat) : Int) ≤ (17592186044416 : Int)) ∧ (((((z5 ++ ((IntKind.wrap .i64 (Int.tmod i3 (2 : Int))) :: ([] : List Int))).length : Nat) : Int) ≤ (17592186044416 : Int)) →
  ∀ (v8 : Value),
  RBits.I0 [(D.I i0), (D.I (IntKind.wrap .u64 (Int.tdiv i3 (2 : Int)))), (D.Z (z5 ++ ((IntKind.wrap .i64 (Int.tmod i3 (2 : Int))) :: ([] : List Int)))), (D.I (IntKind.wrap .i64 (i6 + (1 : Int))))] ∧ RBits.I0M [(D.I i0), (D.I (IntKind.wrap .u64 (Int.tdiv i3 (2 : Int)))), (D.Z (z5 ++ ((IntKind.wrap .i64 (Int.tmod i3 (2 : Int))) :: ([] : List Int)))), (D.I (IntKind.wrap .i64 (i6 + (1 : Int))))] < RBits.I0M [(D.I i0), (D.I i3), (D.Z z5), (D.I i6)])) ∧ (
  ((64 : Int) ≤ i6) →
  RBits.sig.post [(D.I i0), (D.V v4), (D.Z z5)])))
theorem RBits.den : RBits.vc.den2 (mkEnv RBits.sig [] [(RBits.I0, RBits.I0M)]) [] = RBits.Pure := by kernel_rfl
def RValue.vc : VC :=
 (.all .V
 (.all .Z
 (.know (.allHas .i64 (.at 1))
 (.post 0 [(.at 0), (.at 1)]
 (.inv 0 [(.at 0), (.at 1), (.int 0), (.o2 (.sub .i64) (.o1 .lilen (.at 1)) (.int 1))]
 (.all .I
 (.all .I
 (.know (.has .u64 (.at 2))
 (.know (.has .i64 (.at 3))
 (.asm 0 [(.at 0), (.at 1), (.at 2), (.at 3)]
 (.and
  (.imp (.o2 .le (.int 0) (.at 3)) true
  (.obl (.o2 .lt (.at 3) (.o1 .lilen (.at 1)))
  (.back 0 [(.at 0), (.at 1), (.at 2), (.at 3)] [(.at 0), (.at 1), (.o2 (.add .u64) (.o2 (.mul .u64) (.int 2) (.at 2)) (.o1 (.wrap .u64) (.o2 .liget (.at 1) (.at 3)))), (.o2 (.sub .i64) (.at 3) (.int 1))])))
  (.imp (.o2 .le (.int 0) (.at 3)) false
  (.ret [(.at 0), (.at 1), (.at 2)])))))))))))))
def RValue.Pure : Prop :=
 ∀ (v0 : Value),
 ∀ (z1 : List Int),
 (∀ x ∈ z1, IntKind.has .i64 x) →
 RValue.sig.pre [(D.V v0), (D.Z z1)] →
 RValue.I0 [(D.V v0), (D.Z z1), (D.I (0 : Int)), (D.I (IntKind.wrap .i64 (((z1.length : Nat) : Int) - (1 : Int))))] ∧ (
 ∀ (i2 : Int),
 ∀ (i3 : Int),
 (0 ≤ i2 ∧ i2 < 18446744073709551616) →
 (-9223372036854775808 ≤ i3 ∧ i3 < 9223372036854775808) →
 RValue.I0 [(D.V v0), (D.Z z1), (D.I i2), (D.I i3)] →
 ((
  ((0 : Int) ≤ i3) →
  (i3 < ((z1.length : Nat) : Int)) ∧ ((i3 < ((z1.length : Nat) : Int)) →
  RValue.I0 [(D.V v0), (D.Z z1), (D.I (IntKind.wrap .u64 ((IntKind.wrap .u64 ((2 : Int) * i2)) + (IntKind.wrap .u64 (z1.getD i3.toNat 0))))), (D.I (IntKind.wrap .i64 (i3 - (1 : Int))))] ∧ RValue.I0M [(D.V v0), (D.Z z1), (D.I (IntKind.wrap .u64 ((IntKind.wrap .u64 ((2 : Int) * i2)) + (IntKind.wrap .u64 (z1.getD i3.toNat 0))))), (D.I (IntKind.wrap .i64 (i3 - (1 : Int))))] < RValue.I0M [(D.V v0), (D.Z z1), (D.I i2), (D.I i3)])) ∧ (
  (i3 < (0 : Int)) →
  RValue.sig.post [(D.V v0), (D.Z z1), (D.I i2)])))
theorem RValue.den : RValue.vc.den2 (mkEnv RValue.sig [] [(RValue.I0, RValue.I0M)]) [] = RValue.Pure := by kernel_rfl
def RTurn.vc : VC :=
 (.all .I
 (.all .I
 (.all .I
 (.know (.has .u64 (.at 0))
 (.know (.has .i64 (.at 1))
 (.know (.has .i64 (.at 2))
 (.post 0 [(.at 0), (.at 1), (.at 2)]
 (.pre 1 [(.at 0)]
 (.all .V
 (.all .Z
 (.post 1 [(.at 0), (.at 3), (.at 4)]
 (.know (.allHas .i64 (.at 4))
 (.obl (.o2 .le (.int 0) (.at 2))
 (.obl (.o2 .le (.at 2) (.int 17592186044416))
 (.all .V
 (.inv 0 [(.at 0), (.at 1), (.at 2), (.int 0), (.o2 .lirep (.at 2) (.int 0))]
 (.all .I
 (.all .Z
 (.know (.has .i64 (.at 6))
 (.know (.allHas .i64 (.at 7))
 (.asm 0 [(.at 0), (.at 1), (.at 2), (.at 6), (.at 7)]
 (.and
  (.imp (.o2 .lt (.at 6) (.at 2)) true
  (.obl (.o1 .not (.o2 .eq (.at 2) (.int 0)))
  (.obl (.o2 .le (.int 0) (.at 6))
  (.obl (.o2 .lt (.at 6) (.o1 .lilen (.at 4)))
  (.obl (.o2 .le (.int 0) (.o2 .rem (.o2 (.add .i64) (.o2 .rem (.o2 (.add .i64) (.at 6) (.o2 .rem (.at 1) (.at 2))) (.at 2)) (.at 2)) (.at 2)))
  (.obl (.o2 .lt (.o2 .rem (.o2 (.add .i64) (.o2 .rem (.o2 (.add .i64) (.at 6) (.o2 .rem (.at 1) (.at 2))) (.at 2)) (.at 2)) (.at 2)) (.o1 .lilen (.at 7)))
  (.back 0 [(.at 0), (.at 1), (.at 2), (.at 6), (.at 7)] [(.at 0), (.at 1), (.at 2), (.o2 (.add .i64) (.at 6) (.int 1)), (.o3 .liset (.at 7) (.o2 .rem (.o2 (.add .i64) (.o2 .rem (.o2 (.add .i64) (.at 6) (.o2 .rem (.at 1) (.at 2))) (.at 2)) (.at 2)) (.at 2)) (.o2 .liget (.at 4) (.at 6)))])))))))
  (.imp (.o2 .lt (.at 6) (.at 2)) false
  (.pre 2 [(.at 5), (.at 7)]
  (.all .I
  (.post 2 [(.at 5), (.at 7), (.at 8)]
  (.know (.has .u64 (.at 8))
  (.ret [(.at 0), (.at 1), (.at 2), (.at 8)]))))))))))))))))))))))))))))
def RTurn.Pure : Prop :=
 ∀ (i0 : Int),
 ∀ (i1 : Int),
 ∀ (i2 : Int),
 (0 ≤ i0 ∧ i0 < 18446744073709551616) →
 (-9223372036854775808 ≤ i1 ∧ i1 < 9223372036854775808) →
 (-9223372036854775808 ≤ i2 ∧ i2 < 9223372036854775808) →
 RTurn.sig.pre [(D.I i0), (D.I i1), (D.I i2)] →
 RBits.sig.pre [(D.I i0)] ∧ (
 ∀ (v3 : Value),
 ∀ (z4 : List Int),
 RBits.sig.post [(D.I i0), (D.V v3), (D.Z z4)] →
 (∀ x ∈ z4, IntKind.has .i64 x) →
 ((0 : Int) ≤ i2) ∧ (((0 : Int) ≤ i2) →
 (i2 ≤ (17592186044416 : Int)) ∧ ((i2 ≤ (17592186044416 : Int)) →
 ∀ (v5 : Value),
 RTurn.I0 [(D.I i0), (D.I i1), (D.I i2), (D.I (0 : Int)), (D.Z (List.replicate i2.toNat (0 : Int)))] ∧ (
 ∀ (i6 : Int),
 ∀ (z7 : List Int),
 (-9223372036854775808 ≤ i6 ∧ i6 < 9223372036854775808) →
 (∀ x ∈ z7, IntKind.has .i64 x) →
 RTurn.I0 [(D.I i0), (D.I i1), (D.I i2), (D.I i6), (D.Z z7)] →
 ((
  (i6 < i2) →
  (i2 ≠ (0 : Int)) ∧ ((i2 ≠ (0 : Int)) →
  ((0 : Int) ≤ i6) ∧ (((0 : Int) ≤ i6) →
  (i6 < ((z4.length : Nat) : Int)) ∧ ((i6 < ((z4.length : Nat) : Int)) →
  ((0 : Int) ≤ (Int.tmod (IntKind.wrap .i64 ((Int.tmod (IntKind.wrap .i64 (i6 + (Int.tmod i1 i2))) i2) + i2)) i2)) ∧ (((0 : Int) ≤ (Int.tmod (IntKind.wrap .i64 ((Int.tmod (IntKind.wrap .i64 (i6 + (Int.tmod i1 i2))) i2) + i2)) i2)) →
  ((Int.tmod (IntKind.wrap .i64 ((Int.tmod (IntKind.wrap .i64 (i6 + (Int.tmod i1 i2))) i2) + i2)) i2) < ((z7.length : Nat) : Int)) ∧ (((Int.tmod (IntKind.wrap .i64 ((Int.tmod (IntKind.wrap .i64 (i6 + (Int.tmod i1 i2))) i2) + i2)) i2) < ((z7.length : Nat) : Int)) →
  RTurn.I0 [(D.I i0), (D.I i1), (D.I i2), (D.I (IntKind.wrap .i64 (i6 + (1 : Int)))), (D.Z (z7.set (Int.tmod (IntKind.wrap .i64 ((Int.tmod (IntKind.wrap .i64 (i6 + (Int.tmod i1 i2))) i2) + i2)) i2).toNat (z4.getD i6.toNat 0)))] ∧ RTurn.I0M [(D.I i0), (D.I i1), (D.I i2), (D.I (IntKind.wrap .i64 (i6 + (1 : Int)))), (D.Z (z7.set (Int.tmod (IntKind.wrap .i64 ((Int.tmod (IntKind.wrap .i64 (i6 + (Int.tmod i1 i2))) i2) + i2)) i2).toNat (z4.getD i6.toNat 0)))] < RTurn.I0M [(D.I i0), (D.I i1), (D.I i2), (D.I i6), (D.Z z7)])))))) ∧ (
  (i2 ≤ i6) →
  RValue.sig.pre [(D.V v5), (D.Z z7)] ∧ (
  ∀ (i8 : Int),
  RValue.sig.post [(D.V v5), (D.Z z7), (D.I i8)] →
  (0 ≤ i8 ∧ i8 < 18446744073709551616) →
  RTurn.sig.post [(D.I i0), (D.I i1), (D.I i2), (D.I i8)])))))))
theorem RTurn.den : RTurn.vc.den2 (mkEnv RTurn.sig [RBits.sig, RValue.sig] [(RTurn.I0, RTurn.I0M)]) [] = RTurn.Pure := by kernel_rfl
def RMove.vc : VC :=
 (.all .I
 (.all .I
 (.know (.has .u64 (.at 0))
 (.know (.has .i64 (.at 1))
 (.post 0 [(.at 0), (.at 1)]
 (.pre 1 [(.at 0)]
 (.all .V
 (.all .Z
 (.post 1 [(.at 0), (.at 2), (.at 3)]
 (.know (.allHas .i64 (.at 3))
 (.all .V
 (.inv 0 [(.at 0), (.at 1), (.int 0), (.o2 .lirep (.int 64) (.int 0))]
 (.all .I
 (.all .Z
 (.know (.has .i64 (.at 5))
 (.know (.allHas .i64 (.at 6))
 (.asm 0 [(.at 0), (.at 1), (.at 5), (.at 6)]
 (.and
  (.imp (.o2 .lt (.at 5) (.o1 .lilen (.at 3))) true
  (.and
   (.imp (.o2 .le (.int 0) (.o2 (.add .i64) (.at 5) (.at 1))) true
   (.and
    (.imp (.o2 .lt (.o2 (.add .i64) (.at 5) (.at 1)) (.int 64)) true
    (.obl (.o2 .le (.int 0) (.at 5))
    (.obl (.o2 .lt (.o2 (.add .i64) (.at 5) (.at 1)) (.o1 .lilen (.at 6)))
    (.back 0 [(.at 0), (.at 1), (.at 5), (.at 6)] [(.at 0), (.at 1), (.o2 (.add .i64) (.at 5) (.int 1)), (.o3 .liset (.at 6) (.o2 (.add .i64) (.at 5) (.at 1)) (.o2 .liget (.at 3) (.at 5)))]))))
    (.imp (.o2 .lt (.o2 (.add .i64) (.at 5) (.at 1)) (.int 64)) false
    (.back 0 [(.at 0), (.at 1), (.at 5), (.at 6)] [(.at 0), (.at 1), (.o2 (.add .i64) (.at 5) (.int 1)), (.at 6)]))))
   (.imp (.o2 .le (.int 0) (.o2 (.add .i64) (.at 5) (.at 1))) false
   (.back 0 [(.at 0), (.at 1), (.at 5), (.at 6)] [(.at 0), (.at 1), (.o2 (.add .i64) (.at 5) (.int 1)), (.at 6)]))))
  (.imp (.o2 .lt (.at 5) (.o1 .lilen (.at 3))) false
  (.pre 2 [(.at 4), (.at 6)]
  (.all .I
  (.post 2 [(.at 4), (.at 6), (.at 7)]
  (.know (.has .u64 (.at 7))
  (.ret [(.at 0), (.at 1), (.at 7)]))))))))))))))))))))))))
def RMove.Pure : Prop :=
 ∀ (i0 : Int),
 ∀ (i1 : Int),
 (0 ≤ i0 ∧ i0 < 18446744073709551616) →
 (-9223372036854775808 ≤ i1 ∧ i1 < 9223372036854775808) →
 RMove.sig.pre [(D.I i0), (D.I i1)] →
 RBits.sig.pre [(D.I i0)] ∧ (
 ∀ (v2 : Value),
 ∀ (z3 : List Int),
 RBits.sig.post [(D.I i0), (D.V v2), (D.Z z3)] →
 (∀ x ∈ z3, IntKind.has .i64 x) →
 ∀ (v4 : Value),
 RMove.I0 [(D.I i0), (D.I i1), (D.I (0 : Int)), (D.Z (List.replicate (64 : Int).toNat (0 : Int)))] ∧ (
 ∀ (i5 : Int),
 ∀ (z6 : List Int),
 (-9223372036854775808 ≤ i5 ∧ i5 < 9223372036854775808) →
 (∀ x ∈ z6, IntKind.has .i64 x) →
 RMove.I0 [(D.I i0), (D.I i1), (D.I i5), (D.Z z6)] →
 ((
  (i5 < ((z3.length : Nat) : Int)) →
  ((
   ((0 : Int) ≤ (IntKind.wrap .i64 (i5 + i1))) →
   ((
    ((IntKind.wrap .i64 (i5 + i1)) < (64 : Int)) →
    ((0 : Int) ≤ i5) ∧ (((0 : Int) ≤ i5) →
    ((IntKind.wrap .i64 (i5 + i1)) < ((z6.length : Nat) : Int)) ∧ (((IntKind.wrap .i64 (i5 + i1)) < ((z6.length : Nat) : Int)) →
    RMove.I0 [(D.I i0), (D.I i1), (D.I (IntKind.wrap .i64 (i5 + (1 : Int)))), (D.Z (z6.set (IntKind.wrap .i64 (i5 + i1)).toNat (z3.getD i5.toNat 0)))] ∧ RMove.I0M [(D.I i0), (D.I i1), (D.I (IntKind.wrap .i64 (i5 + (1 : Int)))), (D.Z (z6.set (IntKind.wrap .i64 (i5 + i1)).toNat (z3.getD i5.toNat 0)))] < RMove.I0M [(D.I i0), (D.I i1), (D.I i5), (D.Z z6)]))) ∧ (
    ((64 : Int) ≤ (IntKind.wrap .i64 (i5 + i1))) →
    RMove.I0 [(D.I i0), (D.I i1), (D.I (IntKind.wrap .i64 (i5 + (1 : Int)))), (D.Z z6)] ∧ RMove.I0M [(D.I i0), (D.I i1), (D.I (IntKind.wrap .i64 (i5 + (1 : Int)))), (D.Z z6)] < RMove.I0M [(D.I i0), (D.I i1), (D.I i5), (D.Z z6)]))) ∧ (
   ((IntKind.wrap .i64 (i5 + i1)) < (0 : Int)) →
   RMove.I0 [(D.I i0), (D.I i1), (D.I (IntKind.wrap .i64 (i5 + (1 : Int)))), (D.Z z6)] ∧ RMove.I0M [(D.I i0), (D.I i1), (D.I (IntKind.wrap .i64 (i5 + (1 : Int)))), (D.Z z6)] < RMove.I0M [(D.I i0), (D.I i1), (D.I i5), (D.Z z6)]))) ∧ (
  (((z3.length : Nat) : Int) ≤ i5) →
  RValue.sig.pre [(D.V v4), (D.Z z6)] ∧ (
  ∀ (i7 : Int),
  RValue.sig.post [(D.V v4), (D.Z z6), (D.I i7)] →
  (0 ≤ i7 ∧ i7 < 18446744073709551616) →
  RMove.sig.post [(D.I i0), (D.I i1), (D.I i7)])))))
theorem RMove.den : RMove.vc.den2 (mkEnv RMove.sig [RBits.sig, RValue.sig] [(RMove.I0, RMove.I0M)]) [] = RMove.Pure := by kernel_rfl
def RCount.vc : VC :=
 (.all .I
 (.know (.has .u64 (.at 0))
 (.post 0 [(.at 0)]
 (.pre 1 [(.at 0)]
 (.all .V
 (.all .Z
 (.post 1 [(.at 0), (.at 1), (.at 2)]
 (.know (.allHas .i64 (.at 2))
 (.inv 0 [(.at 0), (.int 0), (.int 0)]
 (.all .I
 (.all .I
 (.know (.has .i64 (.at 3))
 (.know (.has .i64 (.at 4))
 (.asm 0 [(.at 0), (.at 3), (.at 4)]
 (.and
  (.imp (.o2 .lt (.at 4) (.o1 .lilen (.at 2))) true
  (.obl (.o2 .le (.int 0) (.at 4))
  (.back 0 [(.at 0), (.at 3), (.at 4)] [(.at 0), (.o2 (.add .i64) (.at 3) (.o2 .liget (.at 2) (.at 4))), (.o2 (.add .i64) (.at 4) (.int 1))])))
  (.imp (.o2 .lt (.at 4) (.o1 .lilen (.at 2))) false
  (.ret [(.at 0), (.at 3)])))))))))))))))))
def RCount.Pure : Prop :=
 ∀ (i0 : Int),
 (0 ≤ i0 ∧ i0 < 18446744073709551616) →
 RCount.sig.pre [(D.I i0)] →
 RBits.sig.pre [(D.I i0)] ∧ (
 ∀ (v1 : Value),
 ∀ (z2 : List Int),
 RBits.sig.post [(D.I i0), (D.V v1), (D.Z z2)] →
 (∀ x ∈ z2, IntKind.has .i64 x) →
 RCount.I0 [(D.I i0), (D.I (0 : Int)), (D.I (0 : Int))] ∧ (
 ∀ (i3 : Int),
 ∀ (i4 : Int),
 (-9223372036854775808 ≤ i3 ∧ i3 < 9223372036854775808) →
 (-9223372036854775808 ≤ i4 ∧ i4 < 9223372036854775808) →
 RCount.I0 [(D.I i0), (D.I i3), (D.I i4)] →
 ((
  (i4 < ((z2.length : Nat) : Int)) →
  ((0 : Int) ≤ i4) ∧ (((0 : Int) ≤ i4) →
  RCount.I0 [(D.I i0), (D.I (IntKind.wrap .i64 (i3 + (z2.getD i4.toNat 0)))), (D.I (IntKind.wrap .i64 (i4 + (1 : Int))))] ∧ RCount.I0M [(D.I i0), (D.I (IntKind.wrap .i64 (i3 + (z2.getD i4.toNat 0)))), (D.I (IntKind.wrap .i64 (i4 + (1 : Int))))] < RCount.I0M [(D.I i0), (D.I i3), (D.I i4)])) ∧ (
  (((z2.length : Nat) : Int) ≤ i4) →
  RCount.sig.post [(D.I i0), (D.I i3)]))))
theorem RCount.den : RCount.vc.den2 (mkEnv RCount.sig [RBits.sig] [(RCount.I0, RCount.I0M)]) [] = RCount.Pure := by kernel_rfl
def RFirst.vc : VC :=
 (.all .I
 (.know (.has .u64 (.at 0))
 (.post 0 [(.at 0)]
 (.pre 1 [(.at 0)]
 (.all .V
 (.all .Z
 (.post 1 [(.at 0), (.at 1), (.at 2)]
 (.know (.allHas .i64 (.at 2))
 (.inv 0 [(.at 0), (.int 0)]
 (.all .I
 (.know (.has .i64 (.at 3))
 (.asm 0 [(.at 0), (.at 3)]
 (.and
  (.imp (.o2 .lt (.at 3) (.o1 .lilen (.at 2))) true
  (.obl (.o2 .le (.int 0) (.at 3))
  (.and
   (.imp (.o2 .eq (.o2 .liget (.at 2) (.at 3)) (.int 1)) true
   (.ret [(.at 0), (.at 3)]))
   (.imp (.o2 .eq (.o2 .liget (.at 2) (.at 3)) (.int 1)) false
   (.back 0 [(.at 0), (.at 3)] [(.at 0), (.o2 (.add .i64) (.at 3) (.int 1))])))))
  (.imp (.o2 .lt (.at 3) (.o1 .lilen (.at 2))) false
  (.ret [(.at 0), (.int 64)])))))))))))))))
def RFirst.Pure : Prop :=
 ∀ (i0 : Int),
 (0 ≤ i0 ∧ i0 < 18446744073709551616) →
 RFirst.sig.pre [(D.I i0)] →
 RBits.sig.pre [(D.I i0)] ∧ (
 ∀ (v1 : Value),
 ∀ (z2 : List Int),
 RBits.sig.post [(D.I i0), (D.V v1), (D.Z z2)] →
 (∀ x ∈ z2, IntKind.has .i64 x) →
 RFirst.I0 [(D.I i0), (D.I (0 : Int))] ∧ (
 ∀ (i3 : Int),
 (-9223372036854775808 ≤ i3 ∧ i3 < 9223372036854775808) →
 RFirst.I0 [(D.I i0), (D.I i3)] →
 ((
  (i3 < ((z2.length : Nat) : Int)) →
  ((0 : Int) ≤ i3) ∧ (((0 : Int) ≤ i3) →
  ((
   ((z2.getD i3.toNat 0) = (1 : Int)) →
   RFirst.sig.post [(D.I i0), (D.I i3)]) ∧ (
   ((z2.getD i3.toNat 0) ≠ (1 : Int)) →
   RFirst.I0 [(D.I i0), (D.I (IntKind.wrap .i64 (i3 + (1 : Int))))] ∧ RFirst.I0M [(D.I i0), (D.I (IntKind.wrap .i64 (i3 + (1 : Int))))] < RFirst.I0M [(D.I i0), (D.I i3)])))) ∧ (
  (((z2.length : Nat) : Int) ≤ i3) →
  RFirst.sig.post [(D.I i0), (D.I (64 : Int))]))))
theorem RFirst.den : RFirst.vc.den2 (mkEnv RFirst.sig [RBits.sig] [(RFirst.I0, RFirst.I0M)]) [] = RFirst.Pure := by kernel_rfl
end Go.Vc

namespace Go.Vc

theorem u64i {x : Int} (h : 0 ≤ x ∧ x < 18446744073709551616) : IntKind.u64.has x := has_in.2 h
theorem i64i {x : Int} (h : -9223372036854775808 ≤ x ∧ x < 9223372036854775808) : IntKind.i64.has x := has_in.2 h
theorem u32i {x : Int} (h : 0 ≤ x ∧ x < 4294967296) : IntKind.u32.has x := has_in.2 h
theorem minI_eq (a b : Int) : minI a b = min a b := by simp only [minI]; omega
theorem maxI_eq (a b : Int) : maxI a b = max a b := by simp only [maxI]; omega
theorem i64w {x : Int} (h : -9223372036854775808 ≤ x) (h' : x < 9223372036854775808) : IntKind.i64.wrap x = x := by rw [IntKind.wrap_i64]; omega
theorem u64w {x : Int} (h : 0 ≤ x) (h' : x < 18446744073709551616) : IntKind.u64.wrap x = x := by rw [IntKind.wrap_u64]; omega

theorem Low.pure : Low.Pure := by
  intro i0 i1 h1 h2 h3
  refine ⟨?_, ?_⟩
  · intro h4
    show ∀ i, i < 64 → bt 0 i = (decide ((i : Int) < i1) && bt i0 i)
    intro i hi
    have : ¬ ((i : Int) < i1) := by omega
    simp [this, bt_zero]
  · intro h4
    refine ⟨?_, ?_⟩
    · intro h5
      show ∀ i, i < 64 → bt i0 i = (decide ((i : Int) < i1) && bt i0 i)
      intro i hi
      have : ((i : Int) < i1) := by omega
      simp [this]
    · intro h5
      refine ⟨?_, fun h6 => ?_⟩
      · omega -- (0 : Int) ≤ i1
      show ∀ i, i < 64 → bt (Go.bits .and .u64 i0 (IntKind.wrap .u64 ((shlI .u64 (1 : Int) i1) - (1 : Int)))) i = (decide ((i : Int) < i1) && bt i0 i)
      intro i hi
      rw [bt_and .u64 _ _ hi, bt_wrap .u64 _ hi, shl_one _ h6 h5, bt_mask]
      have : (i < i1.toNat) ↔ ((i : Int) < i1) := by omega
      simp [this, Bool.and_comm]

theorem Signed.pure : Signed.Pure := by
  intro i0 i1 h1 h2 h3
  rw [minI_eq, maxI_eq, i64w (by omega) (by omega)]
  refine ⟨?_, fun h4 => ?_⟩
  · omega -- (0 : Int) ≤ (IntKind.wrap .i64 ((64 : Int) - (minI (maxI i1 (1 : Int)) (64 : Int))))
  show ∀ i, i < 64 → bt (shrI .i64 (IntKind.wrap .i64 (shlI .u64 i0 (64 - min (max i1 1) 64))) (64 - min (max i1 1) 64)) i = bt i0 (min i ((clamp 1 64 i1).toNat - 1))
  intro i hi
  have hc : clamp 1 64 i1 = min (max i1 1) 64 := by unfold clamp; omega
  rw [hc]
  generalize hm : min (max i1 1) 64 = m
  have hm1 : 1 ≤ m ∧ m ≤ 64 := by omega
  rw [bt_shr_any _ _ _ (by simp only [IntKind.bits]; omega)]
  by_cases hb : i + (64 - m).toNat < 64
  · rw [bt_wrap .i64 _ hb, bt_shl .u64 _ _ hb]
    have e1 : (64 - m).toNat ≤ i + (64 - m).toNat := by omega
    have e2 : i + (64 - m).toNat - (64 - m).toNat = min i (m.toNat - 1) := by omega
    simp [e2]
  · rw [bt_i64_ge (wrap_has _ _) (by omega), ← bt_i64_ge (i := 63) (wrap_has _ _) (by omega), bt_wrap .i64 _ (by decide), bt_shl .u64 _ _ (by decide)]
    have e1 : (64 - m).toNat ≤ 63 := by omega
    have e2 : 63 - (64 - m).toNat = min i (m.toNat - 1) := by omega
    simp [e1, e2]

theorem bit_one {b : Int} {i : Nat} : bt b i = true ↔ b / 2 ^ i % 2 = 1 := by simp [bt]

theorem and_one (a : Int) : Go.bits .and .u64 a 1 = b2i (bt a 0) := by
  apply eq_u64 (bits_has _ _ _ _)
  · rw [u64_has]; unfold b2i; split <;> decide
  · intro i hi
    rw [bt_and .u64 _ _ hi, bt_one]
    by_cases h : i = 0
    · subst h; unfold b2i; cases bt a 0 <;> simp [bt_zero, bt_one]
    · unfold b2i; cases bt a 0 <;> simp [bt_zero, bt_one, h]

theorem Bit.pure : Bit.Pure := by
  intro i0 i1 h1 h2 h3
  refine ⟨?_, ?_⟩
  · intro h4
    refine ⟨?_, ?_⟩
    · intro h5
      show ((Go.bits .and .u64 (shrI .u64 i0 i1) (1 : Int)) == (1 : Int)) = (decide (0 ≤ i1) && decide (i1 < 64) && bt i0 i1.toNat)
      rw [and_one _, bt_shr_u64 _ (u64i h1)]
      simp only [h4, h5, decide_true, Bool.true_and, Nat.zero_add]
      cases bt i0 i1.toNat <;> simp [b2i]
    · intro h5
      show false = (decide (0 ≤ i1) && decide (i1 < 64) && bt i0 i1.toNat)
      have : ¬ i1 < 64 := by omega
      simp [this]
  · intro h4
    show false = (decide (0 ≤ i1) && decide (i1 < 64) && bt i0 i1.toNat)
    have : ¬ 0 ≤ i1 := by omega
    simp [this]

theorem With.pure : With.Pure := by
  intro i0 i1 h1 h2 h3
  refine ⟨?_, ?_⟩
  · intro h4
    show ∀ i, i < 64 → bt i0 i = (decide ((i : Int) = i1) || bt i0 i)
    intro i hi
    have : ¬ (i : Int) = i1 := by omega
    simp [this]
  · intro h4
    refine ⟨?_, ?_⟩
    · intro h5
      show ∀ i, i < 64 → bt i0 i = (decide ((i : Int) = i1) || bt i0 i)
      intro i hi
      have : ¬ (i : Int) = i1 := by omega
      simp [this]
    · intro h5
      refine ⟨?_, fun h6 => ?_⟩
      · omega -- (0 : Int) ≤ i1
      show ∀ i, i < 64 → bt (Go.bits .or .u64 i0 (shlI .u64 (1 : Int) i1)) i = (decide ((i : Int) = i1) || bt i0 i)
      intro i hi
      rw [bt_or .u64 _ _ hi, shl_one _ h6 (by omega), bt_pow]
      have : (i1.toNat = i) ↔ ((i : Int) = i1) := by omega
      simp [this, Bool.or_comm]

theorem Field.pure : Field.Pure := by
  intro i0 i1 i2 h1 h2 h3 h4
  refine ⟨?_, ?_⟩
  · intro h5
    show ∀ i, i < 64 → bt 0 i = (decide (0 ≤ i1) && decide (i1 < 64) && decide ((i : Int) < i2) && bt i0 (i + i1.toNat))
    intro i hi
    have : ¬ 0 ≤ i1 := by omega
    simp [this, bt_zero]
  · intro h5
    refine ⟨?_, ?_⟩
    · intro h6
      show ∀ i, i < 64 → bt 0 i = (decide (0 ≤ i1) && decide (i1 < 64) && decide ((i : Int) < i2) && bt i0 (i + i1.toNat))
      intro i hi
      have : ¬ i1 < 64 := by omega
      simp [this, bt_zero]
    · intro h6
      refine ⟨?_, fun h7 => ?_⟩
      · omega -- (0 : Int) ≤ i1
      refine ⟨?_, ?_⟩
      · trivial -- pre [(D.I (shrI .u64 i0 i1)), (D.I i2)]
      intro i3 h8 h9
      show ∀ i, i < 64 → bt i3 i = (decide (0 ≤ i1) && decide (i1 < 64) && decide ((i : Int) < i2) && bt i0 (i + i1.toNat))
      intro i hi
      have h8 : ∀ i, i < 64 → bt i3 i = (decide ((i : Int) < i2) && bt (shrI .u64 i0 i1) i) := h8
      have : i1 < 64 := by omega
      rw [h8 i hi, bt_shr_u64 _ (u64i h1)]
      simp [h5, this]

theorem Lay.pure : Lay.Pure := by
  intro i0 i1 i2 i3 h1 h2 h3 h4 h5
  refine ⟨?_, ?_⟩
  · intro h6
    show ∀ i, i < 64 → bt i0 i = (if 0 ≤ i1 ∧ i1 ≤ (i : Int) ∧ (i : Int) - i1 < i2 then bt i3 (i - i1.toNat) else bt i0 i)
    intro i hi
    rw [if_neg (by omega)]
  · intro h6
    refine ⟨?_, ?_⟩
    · intro h7
      show ∀ i, i < 64 → bt i0 i = (if 0 ≤ i1 ∧ i1 ≤ (i : Int) ∧ (i : Int) - i1 < i2 then bt i3 (i - i1.toNat) else bt i0 i)
      intro i hi
      rw [if_neg (by omega)]
    · intro h7
      refine ⟨?_, ?_⟩
      · intro h8
        show ∀ i, i < 64 → bt i0 i = (if 0 ≤ i1 ∧ i1 ≤ (i : Int) ∧ (i : Int) - i1 < i2 then bt i3 (i - i1.toNat) else bt i0 i)
        intro i hi
        rw [if_neg (by omega)]
      · intro h8
        refine ⟨?_, ?_⟩
        · trivial -- pre [(D.I (18446744073709551615 : Int)), (D.I i2)]
        intro i4 h9 h10
        refine ⟨?_, fun h11 => ?_⟩
        · omega -- (0 : Int) ≤ i1
        have h9 : ∀ i, i < 64 → bt i4 i = (decide ((i : Int) < i2) && bt 18446744073709551615 i) := h9
        show ∀ i, i < 64 → bt (Go.bits .or .u64 (Go.bits .andNot .u64 i0 (shlI .u64 i4 i1)) (Go.bits .and .u64 (shlI .u64 i3 i1) (shlI .u64 i4 i1))) i = (if 0 ≤ i1 ∧ i1 ≤ (i : Int) ∧ (i : Int) - i1 < i2 then bt i3 (i - i1.toNat) else bt i0 i)
        intro i hi
        rw [bt_or .u64 _ _ hi, bt_andNot .u64 _ _ hi, bt_and .u64 _ _ hi, bt_shl .u64 _ _ hi, bt_shl .u64 _ _ hi, h9 _ (by omega), show (18446744073709551615 : Int) = 2 ^ 64 - 1 from rfl, bt_mask]
        have e3 : i - i1.toNat < 64 := by omega
        by_cases c : i1 ≤ (i : Int)
        · have e1 : i1.toNat ≤ i := by omega
          have e2 : ((i - i1.toNat : Nat) : Int) = (i : Int) - i1 := by omega
          by_cases d : (i : Int) - i1 < i2
          · simp [h11, c, d, e1, e2, e3]
          · simp [c, d, e1, e2, e3]
        · have e1 : ¬ i1.toNat ≤ i := by omega
          simp [c, e1]

theorem and_63 (a : Int) (ha : IntKind.u64.has a) : Go.bits .and .u64 a 63 = a % 64 := by
  have h := (u64_has a).1 ha
  have e := bits_mask .u64 64 (by decide) (fun n h0 h1 => wrap_u64_eq h0 (by simpa using h1)) 6 (by decide) a h.1 h.2
  simpa using e
theorem and_31 (a : Int) (ha : IntKind.u64.has a) : Go.bits .and .u64 a 31 = a % 32 := by
  have h := (u64_has a).1 ha
  have e := bits_mask .u64 64 (by decide) (fun n h0 h1 => wrap_u64_eq h0 (by simpa using h1)) 5 (by decide) a h.1 h.2
  simpa using e

theorem Turn.pure : Turn.Pure := by
  intro i0 i1 h1 h2 h3
  show ∀ i, i < 64 → bt (Go.bits .or .u64 (shlI .u64 i0 (Go.bits .and .u64 (IntKind.wrap .u64 i1) (63 : Int))) (shrI .u64 i0 (IntKind.wrap .u64 ((64 : Int) - (Go.bits .and .u64 (IntKind.wrap .u64 i1) (63 : Int)))))) i = bt i0 (((i : Int) - i1) % 64).toNat
  intro i hi
  rw [and_63 _ (wrap_has _ _), IntKind.wrap_u64 i1]
  have e : i1 % 18446744073709551616 % 64 = i1 % 64 := by omega
  rw [e, u64w (by omega) (by omega), bt_or .u64 _ _ hi, bt_shl .u64 _ _ hi, bt_shr_u64 _ (u64i h1)]
  by_cases c : (i1 % 64).toNat ≤ i
  · have e1 : (((i : Int) - i1) % 64).toNat = i - (i1 % 64).toNat := by omega
    rw [bt_u64_ge (u64i h1) (i := i + (64 - i1 % 64).toNat) (by omega)]
    simp [c, e1]
  · have e1 : (((i : Int) - i1) % 64).toNat = i + (64 - i1 % 64).toNat := by omega
    simp [c, e1]

theorem Turn32.pure : Turn32.Pure := by
  intro i0 i1 h1 h2 h3
  show ∀ i, i < 32 → bt (Go.bits .or .u32 (shlI .u32 i0 (Go.bits .and .u64 (IntKind.wrap .u64 i1) (31 : Int))) (shrI .u32 i0 (IntKind.wrap .u64 ((32 : Int) - (Go.bits .and .u64 (IntKind.wrap .u64 i1) (31 : Int)))))) i = bt i0 (((i : Int) - i1) % 32).toNat
  intro i hi
  rw [and_31 _ (wrap_has _ _), IntKind.wrap_u64 i1]
  have e : i1 % 18446744073709551616 % 32 = i1 % 32 := by omega
  rw [e, u64w (by omega) (by omega), bt_or .u32 _ _ hi, bt_shl .u32 _ _ hi, bt_shr_u32 _ (u32i h1)]
  by_cases c : (i1 % 32).toNat ≤ i
  · have e1 : (((i : Int) - i1) % 32).toNat = i - (i1 % 32).toNat := by omega
    rw [bt_u32_ge (u32i h1) (i := i + (32 - i1 % 32).toNat) (by omega)]
    simp [c, e1]
  · have e1 : (((i : Int) - i1) % 32).toNat = i + (32 - i1 % 32).toNat := by omega
    simp [c, e1]

theorem Left.pure : Left.Pure := by
  intro i0 i1 h1 h2 h3
  show ∀ i, i < 64 → bt (shlI .u64 i0 (Go.bits .and .u64 i1 (63 : Int))) i = (decide (i1 % 64 ≤ (i : Int)) && bt i0 (i - (i1 % 64).toNat))
  intro i hi
  rw [and_63 _ (u64i h2), bt_shl .u64 _ _ hi]
  have : ((i1 % 64).toNat ≤ i) ↔ (i1 % 64 ≤ (i : Int)) := by omega
  simp [this]

theorem Right.pure : Right.Pure := by
  intro i0 i1 h1 h2 h3
  show ∀ i, i < 64 → bt (shrI .u64 i0 (Go.bits .and .u64 i1 (63 : Int))) i = bt i0 (i + (i1 % 64).toNat)
  intro i hi
  rw [and_63 _ (u64i h2), bt_shr_u64 _ (u64i h1)]

/-! ### counting -/
theorem and_pred : ∀ (k n : Nat), 0 < n → pop k (n &&& (n - 1)) + 1 = pop k n ∨ 2 ^ k ∣ n
  | 0, n, _ => Or.inr (by simp)
  | k + 1, n, hn => by
    by_cases h : n % 2 = 1
    · left
      have e : n &&& (n - 1) = n - 1 := by
        apply Nat.eq_of_testBit_eq
        intro i
        rw [Nat.testBit_and]
        cases i with
        | zero => simp [Nat.testBit_zero]; omega
        | succ i => simp only [Nat.testBit_succ]; rw [show (n - 1) / 2 = n / 2 from by omega]; simp
      rw [e]
      simp only [pop]
      rw [show (n - 1) / 2 = n / 2 from by omega]
      omega
    · have hev : n % 2 = 0 := by omega
      have h0 : 0 < n / 2 := by omega
      have e1 : (n &&& (n - 1)) % 2 = 0 := by
        have h2 : (n &&& (n - 1)).testBit 0 = false := by rw [Nat.testBit_and]; simp [Nat.testBit_zero, hev]
        rw [Nat.testBit_zero] at h2
        have := of_decide_eq_false h2
        omega
      have e2 : (n &&& (n - 1)) / 2 = (n / 2) &&& (n / 2 - 1) := by
        apply Nat.eq_of_testBit_eq
        intro i
        rw [← Nat.testBit_succ, Nat.testBit_and, Nat.testBit_and, Nat.testBit_succ, Nat.testBit_succ, show (n - 1) / 2 = n / 2 - 1 from by omega]
      rcases and_pred k (n / 2) h0 with h | h
      · left
        simp only [pop]
        rw [e1, e2]
        omega
      · right
        rw [Nat.pow_succ]
        obtain ⟨q, hq⟩ := h
        exact ⟨q, by rw [Nat.mul_right_comm, ← hq]; exact (Nat.div_mul_cancel (Nat.dvd_of_mod_eq_zero hev)).symm⟩

theorem pop_zero : ∀ k, pop k 0 = 0
  | 0 => rfl
  | k + 1 => by simp [pop, pop_zero k]

theorem popI_pred {v : Int} (h0 : 0 < v) (h1 : v < 18446744073709551616) : popI (Go.bits .and .u64 v (v - 1)) + 1 = popI v ∧ Go.bits .and .u64 v (v - 1) < v ∧ 0 ≤ Go.bits .and .u64 v (v - 1) := by
  rw [u64_and _ _ (by omega) (by omega) (by omega) (by omega)]
  have e : (v - 1).toNat = v.toNat - 1 := by omega
  rw [e]
  have hl : (v.toNat &&& (v.toNat - 1)) ≤ v.toNat - 1 := Nat.and_le_right
  refine ⟨?_, by omega, by omega⟩
  simp only [popI, Int.toNat_natCast]
  rcases and_pred 64 v.toNat (by omega) with h | h
  · omega
  · have := Nat.le_of_dvd (by omega) h
    simp only [show 2 ^ 64 = 18446744073709551616 from rfl] at this
    omega

theorem pop_le : ∀ k n, pop k n ≤ k
  | 0, _ => Nat.le_refl _
  | k + 1, n => by
    have := pop_le k (n / 2)
    simp only [pop]
    omega

theorem Count.pure : Count.Pure := by
  intro i0 h1 h2
  refine ⟨?_, ?_⟩
  · exact ⟨by simp, Int.le_refl _⟩
  intro i1 i2 h3 h4 h5
  have h5 : i2 + popI i1 = popI i0 ∧ 0 ≤ i2 := h5
  have hb : popI i0 ≤ 64 := by have := pop_le 64 i0.toNat; unfold popI; omega
  have hb2 : 0 ≤ popI i1 := by unfold popI; omega
  refine ⟨?_, ?_⟩
  · intro h6
    have hp := popI_pred (v := i1) (by omega) (by omega)
    rw [u64w (by omega) (by omega), i64w (by omega) (by omega)]
    refine ⟨?_, ?_⟩
    · show i2 + 1 + popI _ = popI i0 ∧ 0 ≤ i2 + 1
      omega
    · show (Go.bits .and .u64 i1 (i1 - 1)).toNat < i1.toNat
      omega
  · intro h6
    show i2 = popI i0
    have : i1 = 0 := by omega
    rw [this] at h5
    have : popI 0 = 0 := by unfold popI; rw [show (0 : Int).toNat = 0 from rfl, pop_zero]; rfl
    omega

theorem bt_val_eq {a b : Int} (h : a = b) (i : Nat) : bt a i = bt b i := by rw [h]

/-- The lowest bit that is there, by itself. -/
theorem lowest {v : Int} (h0 : 0 < v) (h1 : v < 18446744073709551616) : ∃ k : Nat, k < 64 ∧ bt v k = true ∧ (∀ j, j < k → bt v j = false) ∧ Go.bits .and .u64 v (IntKind.wrap .u64 (0 - v)) = 2 ^ k := by
  have hex : ∃ k : Nat, bt v k = true := by
    apply Classical.byContradiction
    intro h
    have : v = 0 := eq_u64 (u64i ⟨by omega, by omega⟩) (u64i ⟨by omega, by omega⟩) (fun i _ => by
      rw [bt_zero]
      cases hb : bt v i with
      | false => rfl
      | true => exact absurd ⟨i, hb⟩ h)
    omega
  have hmin : ∃ k : Nat, bt v k = true ∧ ∀ j, j < k → bt v j = false := by
    obtain ⟨k, hk⟩ := hex
    induction k using Nat.strongRecOn with
    | _ k ih =>
      by_cases h : ∃ j, j < k ∧ bt v j = true
      · obtain ⟨j, hj, hb⟩ := h
        exact ih j hj hb
      · refine ⟨k, hk, fun j hj => ?_⟩
        cases hb : bt v j with
        | false => rfl
        | true => exact absurd ⟨j, hj, hb⟩ h
  obtain ⟨k, hk, hlow⟩ := hmin
  have hk64 : k < 64 := by
    apply Classical.byContradiction
    intro hc
    rw [bt_u64_ge (u64i ⟨by omega, by omega⟩) (by omega)] at hk
    cases hk
  refine ⟨k, hk64, hk, hlow, ?_⟩
  have hp : (2 : Int) ^ k < 2 ^ 64 := Int.pow_lt_pow_of_lt (by decide) hk64
  apply eq_u64 (bits_has _ _ _ _) ((u64_has _).2 ⟨Int.le_of_lt (pow_pos' k), hp⟩)
  intro i hi
  rw [bt_and .u64 _ _ hi, bt_wrap .u64 _ hi, bt_pow]
  have hn : bt (0 - v) i = ((BitVec.ofInt 64 (-v)).getLsbD i) := by rw [bt_ofInt]; simp [hi]
  rw [hn, BitVec.ofInt_neg, BitVec.getLsbD_neg, bt_ofInt]
  simp only [hi, decide_true, Bool.true_and]
  by_cases c : i < k
  · have e : ¬ k = i := by omega
    simp [hlow i c, e]
  · by_cases e : k = i
    · subst e
      have : ¬ ∃ j, j < k ∧ (BitVec.ofInt 64 v).getLsbD j = true := by
        rintro ⟨j, hj, hb⟩
        rw [bt_ofInt, hlow j hj] at hb
        simp at hb
      simp [hk, this]
    · have : ∃ j, j < i ∧ (BitVec.ofInt 64 v).getLsbD j = true := ⟨k, by omega, by rw [bt_ofInt, hk]; simp [hk64]⟩
      simp [e, this]

theorem pop_mask : ∀ (n k : Nat), k ≤ n → pop n (2 ^ k - 1) = k
  | 0, k, h => by have : k = 0 := by omega
                  subst this; rfl
  | n + 1, 0, _ => by simp [pop_zero]
  | n + 1, k + 1, h => by
    simp only [pop]
    have hp : 0 < 2 ^ k := Nat.two_pow_pos k
    have e1 : (2 ^ (k + 1) - 1) % 2 = 1 := by rw [Nat.pow_succ]; omega
    have e2 : (2 ^ (k + 1) - 1) / 2 = 2 ^ k - 1 := by rw [Nat.pow_succ]; omega
    rw [e1, e2, pop_mask n k (by omega)]
    omega

theorem First.pure : First.Pure := by
  intro i0 h1 h2
  refine ⟨?_, ?_⟩
  · intro h3
    subst h3
    exact ⟨by decide, by decide, fun i _ _ => bt_zero i, fun h => absurd h (by decide)⟩
  · intro h3
    refine ⟨?_, ?_⟩
    · trivial -- pre
    intro i1 h4 h5
    obtain ⟨k, hk, hb, hlow, e⟩ := lowest (v := i0) (by omega) (by omega)
    have h4 : i1 = popI (IntKind.wrap .u64 ((Go.bits .and .u64 i0 (IntKind.wrap .u64 ((0 : Int) - i0))) - (1 : Int))) := h4
    have hp : (2 : Int) ^ k < 2 ^ 64 := Int.pow_lt_pow_of_lt (by decide) hk
    have hp0 := pow_pos' k
    simp only [show (2 : Int) ^ 64 = 18446744073709551616 from rfl] at hp
    rw [e, u64w (by omega) (by omega)] at h4
    have e2 : popI (2 ^ k - 1) = k := by
      have : ((2 : Int) ^ k - 1).toNat = 2 ^ k - 1 := by
        have h : ((2 : Int) ^ k) = ((2 ^ k : Nat) : Int) := by simp
        rw [h]; have := Nat.two_pow_pos k; omega
      rw [popI, this, pop_mask 64 k (by omega)]
    rw [e2] at h4
    subst h4
    exact ⟨by omega, by omega, fun i _ hi => hlow i (by omega), fun _ => by simpa using hb⟩

end Go.Vc

namespace Go.Vc

theorem bitsOf_len (v : Int) : (bitsOf v).length = 64 := by simp [bitsOf]
theorem bitsOf_get (v : Int) {i : Nat} (h : i < 64) : (bitsOf v).getD i 0 = b2i (bt v i) := by simp [bitsOf, List.getD, h]
theorem b2i_01 (b : Bool) : b2i b = 0 ∨ b2i b = 1 := by cases b <;> simp [b2i]
theorem b2i_inj {a b : Bool} (h : b2i a = b2i b) : a = b := by cases a <;> cases b <;> simp_all [b2i]
theorem bitsOf_01 (v : Int) : is01 (bitsOf v) := by
  intro x hx
  simp only [bitsOf, List.mem_map] at hx
  obtain ⟨i, _, rfl⟩ := hx
  exact b2i_01 _
theorem is01_getD {l : List Int} (h : is01 l) (i : Nat) : l.getD i 0 = 0 ∨ l.getD i 0 = 1 := by
  simp only [List.getD]
  cases e : l[i]? with
  | none => simp
  | some x => simpa using h x (List.mem_of_getElem? e)
theorem is01_set {l : List Int} (h : is01 l) (i : Nat) {x : Int} (hx : x = 0 ∨ x = 1) : is01 (l.set i x) := by
  intro y hy
  rcases List.mem_or_eq_of_mem_set hy with h1 | h1
  · exact h y h1
  · rw [h1]; exact hx
theorem getD_set {l : List Int} (i j : Nat) (x : Int) (hi : i < l.length) : (l.set i x).getD j 0 = if j = i then x else l.getD j 0 := by
  simp only [List.getD]
  by_cases h : j = i
  · subst h; simp [hi]
  · rw [List.getElem?_set_ne (by omega)]; simp [h]

theorem valueOf_bt : ∀ {l : List Int}, is01 l → ∀ i : Nat, bt (valueOf l) i = (l.getD i 0 == 1)
  | [], _, i => by simp [valueOf, bt_zero]
  | b :: l, h, i => by
    have hb := h b (by simp)
    have hl : is01 l := fun x hx => h x (by simp [hx])
    cases i with
    | zero =>
      simp only [valueOf, bt, List.getD_cons_zero, Int.pow_zero, Int.ediv_one]
      rcases hb with rfl | rfl
      · simp
      · have : (1 + 2 * valueOf l) % 2 = 1 := by omega
        simp [this]
    | succ i =>
      rw [List.getD_cons_succ, ← valueOf_bt hl i]
      have e : (b + 2 * valueOf l) / 2 ^ (i + 1) = valueOf l / 2 ^ i := by
        rw [Int.pow_succ, Int.mul_comm (2 ^ i) 2, ← Int.ediv_ediv_of_nonneg (by decide : (0 : Int) ≤ 2)]
        have : (b + 2 * valueOf l) / 2 = valueOf l := by omega
        rw [this]
      show decide ((b + 2 * valueOf l) / 2 ^ (i + 1) % 2 = 1) = decide (valueOf l / 2 ^ i % 2 = 1)
      simp only [e]

theorem valueOf_range : ∀ {l : List Int}, is01 l → 0 ≤ valueOf l ∧ valueOf l < 2 ^ l.length
  | [], _ => by simp [valueOf]
  | b :: l, h => by
    have hb := h b (by simp)
    have hl := valueOf_range (l := l) (fun x hx => h x (by simp [hx]))
    simp only [valueOf, List.length_cons, Int.pow_succ]
    omega

theorem valueOf_u64 {l : List Int} (h : is01 l) (hl : l.length ≤ 64) : 0 ≤ valueOf l ∧ valueOf l < 18446744073709551616 := by
  have h1 := valueOf_range h
  have h2 : (2 : Int) ^ l.length ≤ 2 ^ 64 := by exact_mod_cast Nat.pow_le_pow_right (by decide : 0 < 2) hl
  simp only [show (2 : Int) ^ 64 = 18446744073709551616 from rfl] at h2
  omega

theorem drop_getD {l : List Int} {i : Nat} (h : i < l.length) : l.drop i = l.getD i 0 :: l.drop (i + 1) := by
  rw [List.drop_eq_getElem_cons h]
  simp [List.getD, h]

theorem bits_take_succ (v : Int) {i : Nat} (h : i < 64) : (bitsOf v).take (i + 1) = (bitsOf v).take i ++ [b2i (bt v i)] := by
  rw [List.take_add_one]
  congr 1
  simp [bitsOf, h]

theorem RBits.pure : RBits.Pure := by
  intro i0 h1 h2 v1 v2
  refine ⟨?_, ?_⟩
  · exact ⟨by decide, by decide, by simp, by simp⟩
  intro i3 v4 z5 i6 h3 h4 h5 h6
  have h6 : 0 ≤ i6 ∧ i6 ≤ 64 ∧ i3 = i0 / 2 ^ i6.toNat ∧ z5 = (bitsOf i0).take i6.toNat := h6
  obtain ⟨a, b, c, d⟩ := h6
  refine ⟨?_, ?_⟩
  · intro h7 v7
    have hl : z5.length = i6.toNat := by rw [d, List.length_take, bitsOf_len]; omega
    refine ⟨?_, fun h8 => ?_⟩
    · simp only [List.length_append, List.length_cons, List.length_nil]
      omega
    intro v8
    have e1 : Int.tmod i3 2 = b2i (bt i0 i6.toNat) := by
      rw [Int.tmod_eq_emod_of_nonneg h3.1]
      simp only [bt, ← c]
      have : i3 % 2 = 0 ∨ i3 % 2 = 1 := by omega
      rcases this with h | h <;> simp [h, b2i]
    have e2 : Int.tdiv i3 2 = i3 / 2 := Int.tdiv_eq_ediv_of_nonneg h3.1
    have e4 : (i6 + 1).toNat = i6.toNat + 1 := by omega
    rw [e1, e2, i64w (by unfold b2i; split <;> decide) (by unfold b2i; split <;> decide), u64w (by omega) (by omega), i64w (by omega) (by omega)]
    refine ⟨?_, ?_⟩
    · show 0 ≤ i6 + 1 ∧ i6 + 1 ≤ 64 ∧ i3 / 2 = i0 / 2 ^ (i6 + 1).toNat ∧ z5 ++ [b2i (bt i0 i6.toNat)] = (bitsOf i0).take (i6 + 1).toNat
      refine ⟨by omega, by omega, ?_, ?_⟩
      · rw [e4, Int.pow_succ, c, Int.ediv_ediv_of_nonneg (Int.le_of_lt (pow_pos' _))]
      · rw [e4, bits_take_succ _ (by omega), d]
    · show (64 - (i6 + 1)).toNat < (64 - i6).toNat
      omega
  · intro h7
    show z5 = bitsOf i0
    rw [d, List.take_of_length_le]
    rw [bitsOf_len]; omega

theorem RValue.pure : RValue.Pure := by
  intro v0 z1 h1 h2
  have h2 : z1.length ≤ 64 ∧ is01 z1 := h2
  obtain ⟨hl, h01⟩ := h2
  refine ⟨?_, ?_⟩
  · rw [i64w (by omega) (by omega)]
    refine ⟨by omega, by omega, ?_⟩
    rw [List.drop_of_length_le (by omega)]; rfl
  intro i2 i3 h3 h4 h5
  have h5 : -1 ≤ i3 ∧ i3 < z1.length ∧ i2 = valueOf (z1.drop (i3 + 1).toNat) := h5
  obtain ⟨a, b, c⟩ := h5
  refine ⟨?_, ?_⟩
  · intro h6
    refine ⟨?_, fun h7 => ?_⟩
    · omega -- i3 < ((z1.length : Nat) : Int)
    have hd : z1.drop i3.toNat = z1.getD i3.toNat 0 :: z1.drop (i3 + 1).toNat := by
      rw [drop_getD (by omega), show (i3 + 1).toNat = i3.toNat + 1 from by omega]
    have hx := is01_getD h01 i3.toNat
    have hdr : is01 (z1.drop i3.toNat) := fun x hx => h01 x (List.mem_of_mem_drop hx)
    have hv := valueOf_u64 hdr (by rw [List.length_drop]; omega)
    have he : valueOf (z1.drop i3.toNat) = z1.getD i3.toNat 0 + 2 * i2 := by rw [hd, c]; rfl
    rw [u64w (x := 2 * i2) (by omega) (by omega), u64w (x := z1.getD i3.toNat 0) (by omega) (by omega), u64w (by omega) (by omega), i64w (by omega) (by omega)]
    refine ⟨?_, ?_⟩
    · refine ⟨by omega, by omega, ?_⟩
      rw [show i3 - 1 + 1 = i3 from by omega, he]; omega
    · show (i3 - 1 + 1).toNat < (i3 + 1).toNat
      omega
  · intro h6
    show i2 = valueOf z1
    rw [c, show (i3 + 1).toNat = 0 from by omega]; rfl

theorem tmod_eq (n : Int) {m : Int} (_hm : 0 < m) : Int.tmod n m = if 0 ≤ n then n % m else -((-n) % m) := by
  split
  · exact Int.tmod_eq_emod_of_nonneg ‹_›
  · have e : n = -(-n) := by omega
    conv => lhs; rw [e]
    rw [Int.neg_tmod, Int.tmod_eq_emod_of_nonneg (by omega)]

theorem RTurn.pure : RTurn.Pure := by
  intro i0 i1 i2 h1 h2 h3 h4
  have h4 : i2 = 64 ∨ i2 = 32 := h4
  refine ⟨?_, ?_⟩
  · trivial -- pre [(D.I i0)]
  intro v3 z4 h5 h6
  have h5 : z4 = bitsOf i0 := h5
  refine ⟨?_, fun h7 => ?_⟩
  · omega -- (0 : Int) ≤ i2
  refine ⟨?_, fun h8 => ?_⟩
  · omega -- i2 ≤ (17592186044416 : Int)
  intro v5
  refine ⟨?_, ?_⟩
  · refine ⟨h4, by omega, by omega, by simp; omega, ?_, fun j hj => by omega⟩
    intro x hx
    exact Or.inl (List.eq_of_mem_replicate hx)
  intro i6 z7 h9 h10 h11
  have h11 : (i2 = 64 ∨ i2 = 32) ∧ 0 ≤ i6 ∧ i6 ≤ i2 ∧ (z7.length : Int) = i2 ∧ is01 z7 ∧ ∀ j : Nat, (j : Int) < i6 → z7.getD ((((j : Int) + i1) % i2).toNat) 0 = b2i (bt i0 j) := h11
  obtain ⟨_, a, b, c, d, e⟩ := h11
  refine ⟨?_, ?_⟩
  · intro h12
    have hpos : Int.tmod (IntKind.wrap .i64 ((Int.tmod (IntKind.wrap .i64 (i6 + (Int.tmod i1 i2))) i2) + i2)) i2 = (i6 + i1) % i2 := by
      have hm := tmod_eq i1 (m := i2) (by omega)
      generalize Int.tmod i1 i2 = t at hm ⊢
      have ht : -i2 < t ∧ t < i2 ∧ (i6 + t) % i2 = (i6 + i1) % i2 := by rcases h4 with rfl | rfl <;> split at hm <;> omega
      rw [i64w (x := i6 + t) (by omega) (by omega)]
      have hm3 := tmod_eq (i6 + t) (m := i2) (by omega)
      generalize Int.tmod (i6 + t) i2 = u at hm3 ⊢
      have hu : -i2 < u ∧ u < i2 ∧ u % i2 = (i6 + t) % i2 := by rcases h4 with rfl | rfl <;> split at hm3 <;> omega
      rw [i64w (by omega) (by omega), Int.tmod_eq_emod_of_nonneg (by omega), Int.add_emod_right, hu.2.2, ht.2.2]
    have hp0 : 0 ≤ (i6 + i1) % i2 := Int.emod_nonneg _ (by omega)
    have hp1 : (i6 + i1) % i2 < i2 := Int.emod_lt_of_pos _ (by omega)
    rw [hpos]
    refine ⟨?_, fun h13 => ?_⟩
    · omega -- i2 ≠ (0 : Int)
    refine ⟨?_, fun h14 => ?_⟩
    · omega -- (0 : Int) ≤ i6
    refine ⟨?_, fun h15 => ?_⟩
    · rw [h5, bitsOf_len]; omega
    refine ⟨?_, fun h16 => ?_⟩
    · omega
    refine ⟨?_, fun h17 => ?_⟩
    · omega
    rw [i64w (by omega) (by omega)]
    refine ⟨?_, ?_⟩
    · refine ⟨h4, by omega, by omega, by rw [List.length_set]; omega, is01_set d _ (is01_getD (by rw [h5]; exact bitsOf_01 _) _), ?_⟩
      intro j hj
      rw [getD_set _ _ _ (by omega)]
      by_cases hji : (j : Int) = i6
      · rw [if_pos (by rw [hji]), h5, bitsOf_get _ (by omega), ← hji]; rfl
      · rw [if_neg, e j (by omega)]
        intro hc
        have : ((j : Int) + i1) % i2 = (i6 + i1) % i2 := by
          have := Int.emod_nonneg ((j : Int) + i1) (b := i2) (by omega)
          omega
        have h0 := Int.emod_emod_of_dvd
        rcases h4 with rfl | rfl <;> omega
    · show (i2 - (i6 + 1)).toNat < (i2 - i6).toNat
      omega
  · intro h12
    refine ⟨?_, ?_⟩
    · exact ⟨by omega, d⟩
    intro i8 h13 h14
    have h13 : i8 = valueOf z7 := h13
    show ∀ i, i < 64 → bt i8 i = (decide ((i : Int) < i2) && bt i0 (((i : Int) - i1) % i2).toNat)
    intro i hi
    rw [h13, valueOf_bt d]
    by_cases hc : (i : Int) < i2
    · have hq0 : 0 ≤ ((i : Int) - i1) % i2 := Int.emod_nonneg _ (by omega)
      have hq1 : ((i : Int) - i1) % i2 < i2 := Int.emod_lt_of_pos _ (by omega)
      have he := e ((((i : Int) - i1) % i2).toNat) (by omega)
      have hi2 : (((((((i : Int) - i1) % i2).toNat : Nat) : Int) + i1) % i2).toNat = i := by
        rw [Int.toNat_of_nonneg hq0]
        rcases h4 with rfl | rfl <;> omega
      rw [hi2] at he
      rw [he]
      simp only [hc, decide_true, Bool.true_and]
      cases bt i0 (((i : Int) - i1) % i2).toNat <;> simp [b2i]
    · have : z7.length ≤ i := by omega
      simp [hc, List.getD, this]

theorem RMove.pure : RMove.Pure := by
  intro i0 i1 h1 h2 h3
  have h3 : -64 < i1 ∧ i1 < 64 := h3
  refine ⟨?_, ?_⟩
  · trivial -- pre [(D.I i0)]
  intro v2 z3 h4 h5 v4
  have h4 : z3 = bitsOf i0 := h4
  have hl3 : z3.length = 64 := by rw [h4, bitsOf_len]
  refine ⟨?_, ?_⟩
  · refine ⟨by decide, by decide, by simp, fun j hj => ?_⟩
    rw [if_neg (by omega)]
    simp only [List.getD, List.getElem?_replicate]
    split <;> rfl
  intro i5 z6 h6 h7 h8
  have h8 : 0 ≤ i5 ∧ i5 ≤ 64 ∧ z6.length = 64 ∧ ∀ j : Nat, j < 64 → z6.getD j 0 = (if i1 ≤ (j : Int) ∧ (j : Int) - i1 < i5 then b2i (bt i0 ((j : Int) - i1).toNat) else 0) := h8
  obtain ⟨a, b, c, d⟩ := h8
  refine ⟨?_, ?_⟩
  · intro h9
    rw [i64w (x := i5 + i1) (by omega) (by omega), i64w (by omega) (by omega)]
    refine ⟨?_, ?_⟩
    · intro h10
      refine ⟨?_, ?_⟩
      · intro h11
        refine ⟨?_, fun h12 => ?_⟩
        · omega -- (0 : Int) ≤ i5
        refine ⟨?_, fun h13 => ?_⟩
        · omega
        refine ⟨?_, ?_⟩
        · refine ⟨by omega, by omega, by rw [List.length_set]; exact c, fun j hj => ?_⟩
          rw [getD_set _ _ _ (by omega), h4, bitsOf_get _ (by omega)]
          by_cases hj2 : j = (i5 + i1).toNat
          · rw [if_pos hj2, if_pos (by omega), show ((j : Int) - i1).toNat = i5.toNat from by omega]
          · rw [if_neg hj2, d j hj]
            by_cases hc : i1 ≤ (j : Int) ∧ (j : Int) - i1 < i5
            · rw [if_pos hc, if_pos (by omega)]
            · rw [if_neg hc, if_neg (by omega)]
        · show (64 - (i5 + 1)).toNat < (64 - i5).toNat
          omega
      · intro h11
        refine ⟨?_, ?_⟩
        · refine ⟨by omega, by omega, c, fun j hj => ?_⟩
          rw [d j hj]
          by_cases hc : i1 ≤ (j : Int) ∧ (j : Int) - i1 < i5
          · rw [if_pos hc, if_pos (by omega)]
          · rw [if_neg hc, if_neg (by omega)]
        · show (64 - (i5 + 1)).toNat < (64 - i5).toNat
          omega
    · intro h10
      refine ⟨?_, ?_⟩
      · refine ⟨by omega, by omega, c, fun j hj => ?_⟩
        rw [d j hj]
        by_cases hc : i1 ≤ (j : Int) ∧ (j : Int) - i1 < i5
        · rw [if_pos hc, if_pos (by omega)]
        · rw [if_neg hc, if_neg (by omega)]
      · show (64 - (i5 + 1)).toNat < (64 - i5).toNat
        omega
  · intro h9
    have h01 : is01 z6 := by
      intro x hx
      obtain ⟨j, hj, rfl⟩ := List.mem_iff_getElem.1 hx
      have := d j (by omega)
      simp only [List.getD, hj, List.getElem?_eq_getElem, Option.getD_some] at this
      rw [this]
      split
      · exact b2i_01 _
      · exact Or.inl rfl
    refine ⟨?_, ?_⟩
    · exact ⟨by omega, h01⟩
    intro i7 h10 h11
    have h10 : i7 = valueOf z6 := h10
    show ∀ i, i < 64 → bt i7 i = (decide (i1 ≤ (i : Int)) && bt i0 ((i : Int) - i1).toNat)
    intro i hi
    rw [h10, valueOf_bt h01, d i hi]
    by_cases hc : i1 ≤ (i : Int)
    · by_cases hd : (i : Int) - i1 < i5
      · rw [if_pos ⟨hc, hd⟩]
        simp only [hc, decide_true, Bool.true_and]
        cases bt i0 ((i : Int) - i1).toNat <;> simp [b2i]
      · rw [if_neg (by omega), bt_u64_ge (u64i h1) (by omega)]; simp
    · rw [if_neg (by omega)]; simp [hc]

theorem sum_take_succ {l : List Int} {i : Nat} (h : i < l.length) : (l.take (i + 1)).sum = (l.take i).sum + l.getD i 0 := by
  rw [List.take_add_one, List.sum_append]
  simp [List.getD, h]

theorem bits_sum_pop : ∀ (k n : Nat), ((List.range k).map fun i => b2i (Nat.testBit n i)).sum = (pop k n : Int)
  | 0, n => by simp [pop]
  | k + 1, n => by
    rw [List.range_succ_eq_map]
    simp only [List.map_cons, List.map_map, List.sum_cons, pop]
    have e : ((List.range k).map ((fun i => b2i (Nat.testBit n i)) ∘ Nat.succ)) = (List.range k).map fun i => b2i (Nat.testBit (n / 2) i) := by
      apply List.map_congr_left
      intro i _
      simp only [Function.comp, Nat.succ_eq_add_one, Nat.testBit_succ]
    rw [e, bits_sum_pop k (n / 2)]
    have : b2i (n.testBit 0) = ((n % 2 : Nat) : Int) := by
      rw [Nat.testBit_zero]
      rcases Nat.mod_two_eq_zero_or_one n with h | h <;> simp [h, b2i]
    rw [this]; omega

theorem popI_bits {v : Int} (h : 0 ≤ v) : popI v = (bitsOf v).sum := by
  rw [popI, ← bits_sum_pop]
  congr 1
  apply List.map_congr_left
  intro i _
  rw [bt_toNat h]

theorem sum01 : ∀ {l : List Int}, is01 l → 0 ≤ l.sum ∧ l.sum ≤ l.length
  | [], _ => by simp
  | b :: l, h => by
    have hb := h b (by simp)
    have hl := sum01 (l := l) (fun x hx => h x (by simp [hx]))
    simp only [List.sum_cons, List.length_cons]
    omega

theorem RCount.pure : RCount.Pure := by
  intro i0 h1 h2
  refine ⟨?_, ?_⟩
  · trivial -- pre [(D.I i0)]
  intro v1 z2 h3 h4
  have h3 : z2 = bitsOf i0 := h3
  have hl : z2.length = 64 := by rw [h3, bitsOf_len]
  refine ⟨?_, ?_⟩
  · exact ⟨by decide, by decide, by simp⟩
  intro i3 i4 h5 h6 h7
  have h7 : 0 ≤ i4 ∧ i4 ≤ 64 ∧ i3 = ((bitsOf i0).take i4.toNat).sum := h7
  obtain ⟨a, b, c⟩ := h7
  refine ⟨?_, ?_⟩
  · intro h8
    refine ⟨?_, fun h9 => ?_⟩
    · omega
    have hs := sum01 (l := (bitsOf i0).take i4.toNat) (fun x hx => bitsOf_01 i0 x (List.mem_of_mem_take hx))
    have hg := is01_getD (bitsOf_01 i0) i4.toNat
    have hlen : ((bitsOf i0).take i4.toNat).length ≤ 64 := by rw [List.length_take, bitsOf_len]; omega
    rw [h3, i64w (x := i3 + _) (by omega) (by omega), i64w (by omega) (by omega)]
    refine ⟨?_, ?_⟩
    · refine ⟨by omega, by omega, ?_⟩
      rw [show (i4 + 1).toNat = i4.toNat + 1 from by omega, sum_take_succ (by rw [bitsOf_len]; omega), c]
    · show (64 - (i4 + 1)).toNat < (64 - i4).toNat
      omega
  · intro h8
    show i3 = popI i0
    rw [c, popI_bits h1.1, List.take_of_length_le (by rw [bitsOf_len]; omega)]

theorem RFirst.pure : RFirst.Pure := by
  intro i0 h1 h2
  refine ⟨?_, ?_⟩
  · trivial -- pre [(D.I i0)]
  intro v1 z2 h3 h4
  have h3 : z2 = bitsOf i0 := h3
  have hl : z2.length = 64 := by rw [h3, bitsOf_len]
  refine ⟨?_, ?_⟩
  · exact ⟨by decide, by decide, fun j hj => by omega⟩
  intro i3 h5 h6
  have h6 : 0 ≤ i3 ∧ i3 ≤ 64 ∧ ∀ j : Nat, (j : Int) < i3 → bt i0 j = false := h6
  obtain ⟨a, b, c⟩ := h6
  refine ⟨?_, ?_⟩
  · intro h7
    refine ⟨?_, fun h8 => ?_⟩
    · omega -- (0 : Int) ≤ i3
    rw [h3, bitsOf_get _ (by omega)]
    refine ⟨?_, ?_⟩
    · intro h9
      refine ⟨by omega, by omega, fun i _ hi => c i hi, fun _ => ?_⟩
      exact b2i_inj h9
    · intro h9
      rw [i64w (by omega) (by omega)]
      refine ⟨?_, ?_⟩
      · refine ⟨by omega, by omega, fun j hj => ?_⟩
        by_cases hji : (j : Int) < i3
        · exact c j hji
        · have : j = i3.toNat := by omega
          subst this
          cases hb : bt i0 i3.toNat with
          | false => rfl
          | true => rw [hb] at h9; exact absurd rfl h9
      · show (64 - (i3 + 1)).toNat < (64 - i3).toNat
        omega
  · intro h7
    refine ⟨by decide, by decide, fun i hi _ => c i (by omega), fun h => absurd h (by decide)⟩

end Go.Vc

namespace Go.Vc

def Swap.post : List D → Prop
  | [.I v, .I r] => ∀ i, i < 64 → bt r i = bt v (8 * (7 - i / 8) + i % 8)
  | _ => False
def Swap.sig : Sig := sigF [.i .u64] [.i .u64] tru Swap.post

/-- The lowest n bytes. -/
def bytesLE (v : Int) (n : Nat) : List Int := (List.range n).map fun j => v / 256 ^ j % 256
def numOf : List Int → Int
  | [] => 0
  | b :: l => b + 256 * numOf l

def Bytes.post : List D → Prop
  | [.I v, .I n, .S r] => r = textOf (bytesLE v (clamp 0 8 n).toNat)
  | _ => False
def Bytes.sig : Sig := sigF [.i .u64, .i .i64] [.s] tru Bytes.post
def Bytes.I0 : List D → Prop
  | [.I v, .I n, .I i, .Z l] => 0 ≤ i ∧ i ≤ clamp 0 8 n ∧ l.length = (clamp 0 8 n).toNat ∧ l.take i.toNat = bytesLE v i.toNat
  | _ => False
def Bytes.I0M : List D → Nat
  | [.I _, .I n, .I i, .Z _] => (clamp 0 8 n - i).toNat
  | _ => 0
def RBytes.sig : Sig := Bytes.sig
def RBytes.I0 : List D → Prop
  | [.I v0, .I n, .I v, .S s, .I i] => 0 ≤ i ∧ i ≤ clamp 0 8 n ∧ v = v0 / 256 ^ i.toNat ∧ s = textOf (bytesLE v0 i.toNat)
  | _ => False
def RBytes.I0M : List D → Nat
  | [.I _, .I n, .I _, .S _, .I i] => (clamp 0 8 n - i).toNat
  | _ => 0
def Number.post : List D → Prop
  | [.S s, .I r] => r = numOf ((bytesOf s).take 8)
  | _ => False
def Number.sig : Sig := sigF [.s] [.i .u64] tru Number.post
def Number.I0 : List D → Prop
  | [.S s, .I v, .I i] => 0 ≤ i ∧ i ≤ min (s.size : Int) 8 ∧ v = numOf ((bytesOf s).take i.toNat)
  | _ => False
def Number.I0M : List D → Nat
  | [.S s, .I _, .I i] => (min (s.size : Int) 8 - i).toNat
  | _ => 0
def RNumber.sig : Sig := Number.sig
def RNumber.I0 : List D → Prop
  | [.S s, .I v, .I i] => -1 ≤ i ∧ i < min (s.size : Int) 8 ∧ v = numOf (((bytesOf s).take 8).drop (i + 1).toNat)
  | _ => False
def RNumber.I0M : List D → Nat
  | [.S _, .I _, .I i] => (i + 1).toNat
  | _ => 0
def RSwap.sig : Sig := Swap.sig
def RSwap.I0 : List D → Prop
  | [.I v, .S s, .I i] => 0 ≤ i ∧ i ≤ 8 ∧ s = textOf ((bytesLE v i.toNat).reverse)
  | _ => False
def RSwap.I0M : List D → Nat
  | [.I _, .S _, .I i] => (8 - i).toNat
  | _ => 0

def wide (n : Int) : Int := if n = 1 then 8 else if n = 2 then 16 else if n = 4 then 32 else 64
def Narrow.post : List D → Prop
  | [.I v, .I n, .I u, .I s] => (∀ i, i < 64 → bt u i = (decide ((i : Int) < wide n) && bt v i)) ∧ (∀ i, i < 64 → bt s i = bt v (min i ((wide n).toNat - 1)))
  | _ => False
def Narrow.sig : Sig := sigF [.i .u64, .i .i64] [.i .u64, .i .i64] tru Narrow.post
def foldF (n : Int) : Int := if n < 0 then -2 * n - 1 else 2 * n
def unfoldF (v : Int) : Int := if v % 2 = 0 then v / 2 else -(v / 2) - 1
def Fold.post : List D → Prop
  | [.I n, .I r] => r = foldF n
  | _ => False
def Fold.sig : Sig := sigF [.i .i64] [.i .u64] tru Fold.post
def RFold.sig : Sig := Fold.sig
def Unfold.post : List D → Prop
  | [.I v, .I r] => r = unfoldF v
  | _ => False
def Unfold.sig : Sig := sigF [.i .u64] [.i .i64] tru Unfold.post

def RLow.sig : Sig := Low.sig
def RBit.sig : Sig := Bit.sig
def RWith.sig : Sig := With.sig
def RField.sig : Sig := Field.sig
def RLay.sig : Sig := Lay.sig
def RLay.I0 : List D → Prop
  | [.I v, .I a, .I n, .I x, .I i, .Z l] => 0 ≤ i ∧ i ≤ 64 ∧ l.length = 64 ∧ ∀ j : Nat, j < 64 → l.getD j 0 = b2i (if 0 ≤ a ∧ a ≤ (j : Int) ∧ (j : Int) - a < n ∧ (j : Int) - a < i then bt x (j - a.toNat) else bt v j)
  | _ => False
def RLay.I0M : List D → Nat
  | [.I _, .I _, .I _, .I _, .I i, .Z _] => (64 - i).toNat
  | _ => 0
def RSigned.sig : Sig := Signed.sig
def RSigned.I0 : List D → Prop
  | [.I v, .I n, .I i, .Z l] => clamp 1 64 n ≤ i ∧ i ≤ 64 ∧ l.length = 64 ∧ ∀ j : Nat, j < 64 → l.getD j 0 = b2i (bt v (if (j : Int) < i then min j ((clamp 1 64 n).toNat - 1) else j))
  | _ => False
def RSigned.I0M : List D → Nat
  | [.I _, .I _, .I i, .Z _] => (64 - i).toNat
  | _ => 0
def RSigned.I1 : List D → Prop
  | [.I v, .I n, .I i, .Z l] => 0 ≤ i ∧ i ≤ 64 ∧ l.length = 64 ∧ ∀ j : Nat, j < 64 → l.getD j 0 = b2i ((bt v (min j ((clamp 1 64 n).toNat - 1))) ^^ decide ((j : Int) < i))
  | _ => False
def RSigned.I1M : List D → Nat
  | [.I _, .I _, .I i, .Z _] => (64 - i).toNat
  | _ => 0

def Cut.pre : List D → Prop
  | [.S _, .I n] => 0 ≤ n
  | _ => False
def Cut.post : List D → Prop
  | [.S s, .I n, .S r] => r = if (s.size : Int) > n then s.extract 0 n.toNat else s
  | _ => False
def Cut.sig : Sig := sigF [.s, .i .i64] [.s] Cut.pre Cut.post

/-! ### laws -/
def Awake01.sig : Sig := sigF [] [.b] tru yes
def LMoves.sig : Sig := sigF [.i .u64, .i .i64, .i .u64] [.b] tru yes
def LParts.sig : Sig := sigF [.i .u64, .i .u64, .i .i64, .i .i64] [.b] tru yes
def LBytes.sig : Sig := sigF [.i .u64, .s, .i .i64] [.b] tru yes
def LBack.sig : Sig := sigF [.i .u64, .i .i64] [.b] tru yes
def LLaid.sig : Sig := sigF [.i .u64, .i .u64, .i .i64, .i .i64] [.b] tru yes
def LLaid.I0 : List D → Prop
  | [.I _, .I _, .I _, .I _, .I i] => 0 ≤ i ∧ i ≤ 64
  | _ => False
def LLaid.I0M : List D → Nat
  | [.I _, .I _, .I _, .I _, .I i] => (64 - i).toNat
  | _ => 0

end Go.Vc

namespace Go.Vc
set_option linter.unusedVariables false
def Swap.vc : VC :=
 (.all .I
 (.know (.has .u64 (.at 0))
 (.post 0 [(.at 0)]
 (.ret [(.at 0), (.o2 (.bits .or .u64) (.o2 (.shr .u64) (.o2 (.bits .or .u64) (.o2 (.bits .and .u64) (.o2 (.shr .u64) (.o2 (.bits .or .u64) (.o2 (.bits .and .u64) (.o2 (.shr .u64) (.at 0) (.int 8)) (.int 71777214294589695)) (.o2 (.shl .u64) (.o2 (.bits .and .u64) (.at 0) (.int 71777214294589695)) (.int 8))) (.int 16)) (.int 281470681808895)) (.o2 (.shl .u64) (.o2 (.bits .and .u64) (.o2 (.bits .or .u64) (.o2 (.bits .and .u64) (.o2 (.shr .u64) (.at 0) (.int 8)) (.int 71777214294589695)) (.o2 (.shl .u64) (.o2 (.bits .and .u64) (.at 0) (.int 71777214294589695)) (.int 8))) (.int 281470681808895)) (.int 16))) (.int 32)) (.o2 (.shl .u64) (.o2 (.bits .or .u64) (.o2 (.bits .and .u64) (.o2 (.shr .u64) (.o2 (.bits .or .u64) (.o2 (.bits .and .u64) (.o2 (.shr .u64) (.at 0) (.int 8)) (.int 71777214294589695)) (.o2 (.shl .u64) (.o2 (.bits .and .u64) (.at 0) (.int 71777214294589695)) (.int 8))) (.int 16)) (.int 281470681808895)) (.o2 (.shl .u64) (.o2 (.bits .and .u64) (.o2 (.bits .or .u64) (.o2 (.bits .and .u64) (.o2 (.shr .u64) (.at 0) (.int 8)) (.int 71777214294589695)) (.o2 (.shl .u64) (.o2 (.bits .and .u64) (.at 0) (.int 71777214294589695)) (.int 8))) (.int 281470681808895)) (.int 16))) (.int 32)))]))))
def Swap.Pure : Prop :=
 ∀ (i0 : Int),
 (0 ≤ i0 ∧ i0 < 18446744073709551616) →
 Swap.sig.pre [(D.I i0)] →
 Swap.sig.post [(D.I i0), (D.I (Go.bits .or .u64 (shrI .u64 (Go.bits .or .u64 (Go.bits .and .u64 (shrI .u64 (Go.bits .or .u64 (Go.bits .and .u64 (shrI .u64 i0 (8 : Int)) (71777214294589695 : Int)) (shlI .u64 (Go.bits .and .u64 i0 (71777214294589695 : Int)) (8 : Int))) (16 : Int)) (281470681808895 : Int)) (shlI .u64 (Go.bits .and .u64 (Go.bits .or .u64 (Go.bits .and .u64 (shrI .u64 i0 (8 : Int)) (71777214294589695 : Int)) (shlI .u64 (Go.bits .and .u64 i0 (71777214294589695 : Int)) (8 : Int))) (281470681808895 : Int)) (16 : Int))) (32 : Int)) (shlI .u64 (Go.bits .or .u64 (Go.bits .and .u64 (shrI .u64 (Go.bits .or .u64 (Go.bits .and .u64 (shrI .u64 i0 (8 : Int)) (71777214294589695 : Int)) (shlI .u64 (Go.bits .and .u64 i0 (71777214294589695 : Int)) (8 : Int))) (16 : Int)) (281470681808895 : Int)) (shlI .u64 (Go.bits .and .u64 (Go.bits .or .u64 (Go.bits .and .u64 (shrI .u64 i0 (8 : Int)) (71777214294589695 : Int)) (shlI .u64 (Go.bits .and .u64 i0 (71777214294589695 : Int)) (8 : Int))) (281470681808895 : Int)) (16 : Int))) (32 : Int))))]
theorem Swap.den : Swap.vc.den2 (mkEnv Swap.sig [] []) [] = Swap.Pure := by kernel_rfl
def Bytes.vc : VC :=
 (.all .I
 (.all .I
 (.know (.has .u64 (.at 0))
 (.know (.has .i64 (.at 1))
 (.post 0 [(.at 0), (.at 1)]
 (.obl (.o2 .le (.int 0) (.o2 .min (.o2 .max (.at 1) (.int 0)) (.int 8)))
 (.obl (.o2 .le (.o2 .min (.o2 .max (.at 1) (.int 0)) (.int 8)) (.int 140737488355328))
 (.all .V
 (.inv 0 [(.at 0), (.at 1), (.int 0), (.o2 .lirep (.o2 .min (.o2 .max (.at 1) (.int 0)) (.int 8)) (.int 0))]
 (.all .I
 (.all .Z
 (.know (.has .i64 (.at 3))
 (.know (.allHas .u8 (.at 4))
 (.asm 0 [(.at 0), (.at 1), (.at 3), (.at 4)]
 (.and
  (.imp (.o2 .lt (.at 3) (.o1 .lilen (.o2 .lirep (.o2 .min (.o2 .max (.at 1) (.int 0)) (.int 8)) (.int 0)))) true
  (.obl (.o2 .le (.int 0) (.o2 (.mul .i64) (.int 8) (.at 3)))
  (.obl (.o2 .le (.int 0) (.at 3))
  (.obl (.o2 .lt (.at 3) (.o1 .lilen (.at 4)))
  (.back 0 [(.at 0), (.at 1), (.at 3), (.at 4)] [(.at 0), (.at 1), (.o2 (.add .i64) (.at 3) (.int 1)), (.o3 .liset (.at 4) (.at 3) (.o1 (.wrap .u8) (.o2 (.shr .u64) (.at 0) (.o2 (.mul .i64) (.int 8) (.at 3)))))])))))
  (.imp (.o2 .lt (.at 3) (.o1 .lilen (.o2 .lirep (.o2 .min (.o2 .max (.at 1) (.int 0)) (.int 8)) (.int 0)))) false
  (.ret [(.at 0), (.at 1), (.o1 .ofLi (.at 4))])))))))))))))))))
def Bytes.Pure : Prop :=
 ∀ (i0 : Int),
 ∀ (i1 : Int),
 (0 ≤ i0 ∧ i0 < 18446744073709551616) →
 (-9223372036854775808 ≤ i1 ∧ i1 < 9223372036854775808) →
 Bytes.sig.pre [(D.I i0), (D.I i1)] →
 ((0 : Int) ≤ (minI (maxI i1 (0 : Int)) (8 : Int))) ∧ (((0 : Int) ≤ (minI (maxI i1 (0 : Int)) (8 : Int))) →
 ((minI (maxI i1 (0 : Int)) (8 : Int)) ≤ (140737488355328 : Int)) ∧ (((minI (maxI i1 (0 : Int)) (8 : Int)) ≤ (140737488355328 : Int)) →
 ∀ (v2 : Value),
 Bytes.I0 [(D.I i0), (D.I i1), (D.I (0 : Int)), (D.Z (List.replicate (minI (maxI i1 (0 : Int)) (8 : Int)).toNat (0 : Int)))] ∧ (
 ∀ (i3 : Int),
 ∀ (z4 : List Int),
 (-9223372036854775808 ≤ i3 ∧ i3 < 9223372036854775808) →
 (∀ x ∈ z4, IntKind.has .u8 x) →
 Bytes.I0 [(D.I i0), (D.I i1), (D.I i3), (D.Z z4)] →
 ((
  (i3 < (((List.replicate (minI (maxI i1 (0 : Int)) (8 : Int)).toNat (0 : Int)).length : Nat) : Int)) →
  ((0 : Int) ≤ (IntKind.wrap .i64 ((8 : Int) * i3))) ∧ (((0 : Int) ≤ (IntKind.wrap .i64 ((8 : Int) * i3))) →
  ((0 : Int) ≤ i3) ∧ (((0 : Int) ≤ i3) →
  (i3 < ((z4.length : Nat) : Int)) ∧ ((i3 < ((z4.length : Nat) : Int)) →
  Bytes.I0 [(D.I i0), (D.I i1), (D.I (IntKind.wrap .i64 (i3 + (1 : Int)))), (D.Z (z4.set i3.toNat (IntKind.wrap .u8 (shrI .u64 i0 (IntKind.wrap .i64 ((8 : Int) * i3))))))] ∧ Bytes.I0M [(D.I i0), (D.I i1), (D.I (IntKind.wrap .i64 (i3 + (1 : Int)))), (D.Z (z4.set i3.toNat (IntKind.wrap .u8 (shrI .u64 i0 (IntKind.wrap .i64 ((8 : Int) * i3))))))] < Bytes.I0M [(D.I i0), (D.I i1), (D.I i3), (D.Z z4)])))) ∧ (
  ((((List.replicate (minI (maxI i1 (0 : Int)) (8 : Int)).toNat (0 : Int)).length : Nat) : Int) ≤ i3) →
  Bytes.sig.post [(D.I i0), (D.I i1), (D.S (textOf z4))])))))
theorem Bytes.den : Bytes.vc.den2 (mkEnv Bytes.sig [] [(Bytes.I0, Bytes.I0M)]) [] = Bytes.Pure := by kernel_rfl
def RBytes.vc : VC :=
 (.all .I
 (.all .I
 (.know (.has .u64 (.at 0))
 (.know (.has .i64 (.at 1))
 (.post 0 [(.at 0), (.at 1)]
 (.inv 0 [(.at 0), (.at 1), (.at 0), (.str ⟨#[]⟩), (.int 0)]
 (.all .I
 (.all .S
 (.all .I
 (.know (.has .u64 (.at 2))
 (.know (.ssz (.at 3))
 (.know (.has .i64 (.at 4))
 (.asm 0 [(.at 0), (.at 1), (.at 2), (.at 3), (.at 4)]
 (.and
  (.imp (.o2 .lt (.at 4) (.at 1)) true
  (.and
   (.imp (.o2 .lt (.at 4) (.int 8)) true
   (.all .V
   (.obl (.o2 .le (.o1 .slen (.o2 .cat (.at 3) (.o1 .ofLi (.o2 .licons (.o1 (.wrap .u8) (.o2 .rem (.at 2) (.int 256))) (.lis []))))) (.int 9223372036854775807))
   (.back 0 [(.at 0), (.at 1), (.at 2), (.at 3), (.at 4)] [(.at 0), (.at 1), (.o2 (.quo .u64) (.at 2) (.int 256)), (.o2 .cat (.at 3) (.o1 .ofLi (.o2 .licons (.o1 (.wrap .u8) (.o2 .rem (.at 2) (.int 256))) (.lis [])))), (.o2 (.add .i64) (.at 4) (.int 1))]))))
   (.imp (.o2 .lt (.at 4) (.int 8)) false
   (.ret [(.at 0), (.at 1), (.at 3)]))))
  (.imp (.o2 .lt (.at 4) (.at 1)) false
  (.ret [(.at 0), (.at 1), (.at 3)]))))))))))))))))
def RBytes.Pure : Prop :=
 ∀ (i0 : Int),
 ∀ (i1 : Int),
 (0 ≤ i0 ∧ i0 < 18446744073709551616) →
 (-9223372036854775808 ≤ i1 ∧ i1 < 9223372036854775808) →
 RBytes.sig.pre [(D.I i0), (D.I i1)] →
 RBytes.I0 [(D.I i0), (D.I i1), (D.I i0), (D.S ⟨#[]⟩), (D.I (0 : Int))] ∧ (
 ∀ (i2 : Int),
 ∀ (s3 : ByteArray),
 ∀ (i4 : Int),
 (0 ≤ i2 ∧ i2 < 18446744073709551616) →
 ((s3.size : Int) ≤ 9223372036854775807) →
 (-9223372036854775808 ≤ i4 ∧ i4 < 9223372036854775808) →
 RBytes.I0 [(D.I i0), (D.I i1), (D.I i2), (D.S s3), (D.I i4)] →
 ((
  (i4 < i1) →
  ((
   (i4 < (8 : Int)) →
   ∀ (v5 : Value),
   ((((s3 ++ (textOf ((IntKind.wrap .u8 (Int.tmod i2 (256 : Int))) :: ([] : List Int)))).size : Nat) : Int) ≤ (9223372036854775807 : Int)) ∧ (((((s3 ++ (textOf ((IntKind.wrap .u8 (Int.tmod i2 (256 : Int))) :: ([] : List Int)))).size : Nat) : Int) ≤ (9223372036854775807 : Int)) →
   RBytes.I0 [(D.I i0), (D.I i1), (D.I (IntKind.wrap .u64 (Int.tdiv i2 (256 : Int)))), (D.S (s3 ++ (textOf ((IntKind.wrap .u8 (Int.tmod i2 (256 : Int))) :: ([] : List Int))))), (D.I (IntKind.wrap .i64 (i4 + (1 : Int))))] ∧ RBytes.I0M [(D.I i0), (D.I i1), (D.I (IntKind.wrap .u64 (Int.tdiv i2 (256 : Int)))), (D.S (s3 ++ (textOf ((IntKind.wrap .u8 (Int.tmod i2 (256 : Int))) :: ([] : List Int))))), (D.I (IntKind.wrap .i64 (i4 + (1 : Int))))] < RBytes.I0M [(D.I i0), (D.I i1), (D.I i2), (D.S s3), (D.I i4)])) ∧ (
   ((8 : Int) ≤ i4) →
   RBytes.sig.post [(D.I i0), (D.I i1), (D.S s3)]))) ∧ (
  (i1 ≤ i4) →
  RBytes.sig.post [(D.I i0), (D.I i1), (D.S s3)])))
theorem RBytes.den : RBytes.vc.den2 (mkEnv RBytes.sig [] [(RBytes.I0, RBytes.I0M)]) [] = RBytes.Pure := by kernel_rfl
def Number.vc : VC :=
 (.all .S
 (.know (.ssz (.at 0))
 (.post 0 [(.at 0)]
 (.inv 0 [(.at 0), (.int 0), (.int 0)]
 (.all .I
 (.all .I
 (.know (.has .u64 (.at 1))
 (.know (.has .i64 (.at 2))
 (.asm 0 [(.at 0), (.at 1), (.at 2)]
 (.and
  (.imp (.o2 .lt (.at 2) (.o2 .min (.o1 .slen (.at 0)) (.int 8))) true
  (.obl (.o2 .le (.int 0) (.at 2))
  (.obl (.o2 .lt (.at 2) (.o1 .slen (.at 0)))
  (.obl (.o2 .le (.int 0) (.o2 (.mul .i64) (.int 8) (.at 2)))
  (.back 0 [(.at 0), (.at 1), (.at 2)] [(.at 0), (.o2 (.bits .or .u64) (.at 1) (.o2 (.shl .u64) (.o1 (.wrap .u64) (.o2 .byte (.at 0) (.at 2))) (.o2 (.mul .i64) (.int 8) (.at 2)))), (.o2 (.add .i64) (.at 2) (.int 1))])))))
  (.imp (.o2 .lt (.at 2) (.o2 .min (.o1 .slen (.at 0)) (.int 8))) false
  (.ret [(.at 0), (.at 1)]))))))))))))
def Number.Pure : Prop :=
 ∀ (s0 : ByteArray),
 ((s0.size : Int) ≤ 9223372036854775807) →
 Number.sig.pre [(D.S s0)] →
 Number.I0 [(D.S s0), (D.I (0 : Int)), (D.I (0 : Int))] ∧ (
 ∀ (i1 : Int),
 ∀ (i2 : Int),
 (0 ≤ i1 ∧ i1 < 18446744073709551616) →
 (-9223372036854775808 ≤ i2 ∧ i2 < 9223372036854775808) →
 Number.I0 [(D.S s0), (D.I i1), (D.I i2)] →
 ((
  (i2 < (minI ((s0.size : Nat) : Int) (8 : Int))) →
  ((0 : Int) ≤ i2) ∧ (((0 : Int) ≤ i2) →
  (i2 < ((s0.size : Nat) : Int)) ∧ ((i2 < ((s0.size : Nat) : Int)) →
  ((0 : Int) ≤ (IntKind.wrap .i64 ((8 : Int) * i2))) ∧ (((0 : Int) ≤ (IntKind.wrap .i64 ((8 : Int) * i2))) →
  Number.I0 [(D.S s0), (D.I (Go.bits .or .u64 i1 (shlI .u64 (IntKind.wrap .u64 (byteAt s0 i2)) (IntKind.wrap .i64 ((8 : Int) * i2))))), (D.I (IntKind.wrap .i64 (i2 + (1 : Int))))] ∧ Number.I0M [(D.S s0), (D.I (Go.bits .or .u64 i1 (shlI .u64 (IntKind.wrap .u64 (byteAt s0 i2)) (IntKind.wrap .i64 ((8 : Int) * i2))))), (D.I (IntKind.wrap .i64 (i2 + (1 : Int))))] < Number.I0M [(D.S s0), (D.I i1), (D.I i2)])))) ∧ (
  ((minI ((s0.size : Nat) : Int) (8 : Int)) ≤ i2) →
  Number.sig.post [(D.S s0), (D.I i1)])))
theorem Number.den : Number.vc.den2 (mkEnv Number.sig [] [(Number.I0, Number.I0M)]) [] = Number.Pure := by kernel_rfl
def RNumber.vc : VC :=
 (.all .S
 (.know (.ssz (.at 0))
 (.post 0 [(.at 0)]
 (.inv 0 [(.at 0), (.int 0), (.o2 (.sub .i64) (.o2 .min (.o1 .slen (.at 0)) (.int 8)) (.int 1))]
 (.all .I
 (.all .I
 (.know (.has .u64 (.at 1))
 (.know (.has .i64 (.at 2))
 (.asm 0 [(.at 0), (.at 1), (.at 2)]
 (.and
  (.imp (.o2 .le (.int 0) (.at 2)) true
  (.obl (.o2 .lt (.at 2) (.o1 .slen (.at 0)))
  (.back 0 [(.at 0), (.at 1), (.at 2)] [(.at 0), (.o2 (.add .u64) (.o2 (.mul .u64) (.int 256) (.at 1)) (.o1 (.wrap .u64) (.o2 .byte (.at 0) (.at 2)))), (.o2 (.sub .i64) (.at 2) (.int 1))])))
  (.imp (.o2 .le (.int 0) (.at 2)) false
  (.ret [(.at 0), (.at 1)]))))))))))))
def RNumber.Pure : Prop :=
 ∀ (s0 : ByteArray),
 ((s0.size : Int) ≤ 9223372036854775807) →
 RNumber.sig.pre [(D.S s0)] →
 RNumber.I0 [(D.S s0), (D.I (0 : Int)), (D.I (IntKind.wrap .i64 ((minI ((s0.size : Nat) : Int) (8 : Int)) - (1 : Int))))] ∧ (
 ∀ (i1 : Int),
 ∀ (i2 : Int),
 (0 ≤ i1 ∧ i1 < 18446744073709551616) →
 (-9223372036854775808 ≤ i2 ∧ i2 < 9223372036854775808) →
 RNumber.I0 [(D.S s0), (D.I i1), (D.I i2)] →
 ((
  ((0 : Int) ≤ i2) →
  (i2 < ((s0.size : Nat) : Int)) ∧ ((i2 < ((s0.size : Nat) : Int)) →
  RNumber.I0 [(D.S s0), (D.I (IntKind.wrap .u64 ((IntKind.wrap .u64 ((256 : Int) * i1)) + (IntKind.wrap .u64 (byteAt s0 i2))))), (D.I (IntKind.wrap .i64 (i2 - (1 : Int))))] ∧ RNumber.I0M [(D.S s0), (D.I (IntKind.wrap .u64 ((IntKind.wrap .u64 ((256 : Int) * i1)) + (IntKind.wrap .u64 (byteAt s0 i2))))), (D.I (IntKind.wrap .i64 (i2 - (1 : Int))))] < RNumber.I0M [(D.S s0), (D.I i1), (D.I i2)])) ∧ (
  (i2 < (0 : Int)) →
  RNumber.sig.post [(D.S s0), (D.I i1)])))
theorem RNumber.den : RNumber.vc.den2 (mkEnv RNumber.sig [] [(RNumber.I0, RNumber.I0M)]) [] = RNumber.Pure := by kernel_rfl
def RSwap.vc : VC :=
 (.all .I
 (.know (.has .u64 (.at 0))
 (.post 0 [(.at 0)]
 (.pre 1 [(.at 0), (.int 8)]
 (.all .S
 (.post 1 [(.at 0), (.int 8), (.at 1)]
 (.know (.ssz (.at 1))
 (.all .V
 (.inv 0 [(.at 0), (.str ⟨#[]⟩), (.int 0)]
 (.all .S
 (.all .I
 (.know (.ssz (.at 3))
 (.know (.has .i64 (.at 4))
 (.asm 0 [(.at 0), (.at 3), (.at 4)]
 (.and
  (.imp (.o2 .lt (.at 4) (.o1 .lilen (.o1 .toLi (.at 1)))) true
  (.obl (.o2 .le (.int 0) (.at 4))
  (.all .V
  (.obl (.o2 .le (.o1 .slen (.o2 .cat (.o1 .ofLi (.o2 .licons (.o2 .liget (.o1 .toLi (.at 1)) (.at 4)) (.lis []))) (.at 3))) (.int 9223372036854775807))
  (.back 0 [(.at 0), (.at 3), (.at 4)] [(.at 0), (.o2 .cat (.o1 .ofLi (.o2 .licons (.o2 .liget (.o1 .toLi (.at 1)) (.at 4)) (.lis []))) (.at 3)), (.o2 (.add .i64) (.at 4) (.int 1))])))))
  (.imp (.o2 .lt (.at 4) (.o1 .lilen (.o1 .toLi (.at 1)))) false
  (.pre 2 [(.at 3)]
  (.all .I
  (.post 2 [(.at 3), (.at 5)]
  (.know (.has .u64 (.at 5))
  (.ret [(.at 0), (.at 5)])))))))))))))))))))))
def RSwap.Pure : Prop :=
 ∀ (i0 : Int),
 (0 ≤ i0 ∧ i0 < 18446744073709551616) →
 RSwap.sig.pre [(D.I i0)] →
 RBytes.sig.pre [(D.I i0), (D.I (8 : Int))] ∧ (
 ∀ (s1 : ByteArray),
 RBytes.sig.post [(D.I i0), (D.I (8 : Int)), (D.S s1)] →
 ((s1.size : Int) ≤ 9223372036854775807) →
 ∀ (v2 : Value),
 RSwap.I0 [(D.I i0), (D.S ⟨#[]⟩), (D.I (0 : Int))] ∧ (
 ∀ (s3 : ByteArray),
 ∀ (i4 : Int),
 ((s3.size : Int) ≤ 9223372036854775807) →
 (-9223372036854775808 ≤ i4 ∧ i4 < 9223372036854775808) →
 RSwap.I0 [(D.I i0), (D.S s3), (D.I i4)] →
 ((
  (i4 < (((bytesOf s1).length : Nat) : Int)) →
  ((0 : Int) ≤ i4) ∧ (((0 : Int) ≤ i4) →
  ∀ (v5 : Value),
  (((((textOf (((bytesOf s1).getD i4.toNat 0) :: ([] : List Int))) ++ s3).size : Nat) : Int) ≤ (9223372036854775807 : Int)) ∧ ((((((textOf (((bytesOf s1).getD i4.toNat 0) :: ([] : List Int))) ++ s3).size : Nat) : Int) ≤ (9223372036854775807 : Int)) →
  RSwap.I0 [(D.I i0), (D.S ((textOf (((bytesOf s1).getD i4.toNat 0) :: ([] : List Int))) ++ s3)), (D.I (IntKind.wrap .i64 (i4 + (1 : Int))))] ∧ RSwap.I0M [(D.I i0), (D.S ((textOf (((bytesOf s1).getD i4.toNat 0) :: ([] : List Int))) ++ s3)), (D.I (IntKind.wrap .i64 (i4 + (1 : Int))))] < RSwap.I0M [(D.I i0), (D.S s3), (D.I i4)]))) ∧ (
  ((((bytesOf s1).length : Nat) : Int) ≤ i4) →
  RNumber.sig.pre [(D.S s3)] ∧ (
  ∀ (i5 : Int),
  RNumber.sig.post [(D.S s3), (D.I i5)] →
  (0 ≤ i5 ∧ i5 < 18446744073709551616) →
  RSwap.sig.post [(D.I i0), (D.I i5)])))))
theorem RSwap.den : RSwap.vc.den2 (mkEnv RSwap.sig [RBytes.sig, RNumber.sig] [(RSwap.I0, RSwap.I0M)]) [] = RSwap.Pure := by kernel_rfl
def Narrow.vc : VC :=
 (.all .I
 (.all .I
 (.know (.has .u64 (.at 0))
 (.know (.has .i64 (.at 1))
 (.post 0 [(.at 0), (.at 1)]
 (.and
  (.imp (.o2 .eq (.at 1) (.int 1)) true
  (.ret [(.at 0), (.at 1), (.o1 (.wrap .u64) (.o1 (.wrap .u8) (.at 0))), (.o1 (.wrap .i64) (.o1 (.wrap .i8) (.at 0)))]))
  (.imp (.o2 .eq (.at 1) (.int 1)) false
  (.and
   (.imp (.o2 .eq (.at 1) (.int 2)) true
   (.ret [(.at 0), (.at 1), (.o1 (.wrap .u64) (.o1 (.wrap .u16) (.at 0))), (.o1 (.wrap .i64) (.o1 (.wrap .i16) (.at 0)))]))
   (.imp (.o2 .eq (.at 1) (.int 2)) false
   (.and
    (.imp (.o2 .eq (.at 1) (.int 4)) true
    (.ret [(.at 0), (.at 1), (.o1 (.wrap .u64) (.o1 (.wrap .u32) (.at 0))), (.o1 (.wrap .i64) (.o1 (.wrap .i32) (.at 0)))]))
    (.imp (.o2 .eq (.at 1) (.int 4)) false
    (.ret [(.at 0), (.at 1), (.at 0), (.o1 (.wrap .i64) (.at 0))]))))))))))))
def Narrow.Pure : Prop :=
 ∀ (i0 : Int),
 ∀ (i1 : Int),
 (0 ≤ i0 ∧ i0 < 18446744073709551616) →
 (-9223372036854775808 ≤ i1 ∧ i1 < 9223372036854775808) →
 Narrow.sig.pre [(D.I i0), (D.I i1)] →
 ((
  (i1 = (1 : Int)) →
  Narrow.sig.post [(D.I i0), (D.I i1), (D.I (IntKind.wrap .u64 (IntKind.wrap .u8 i0))), (D.I (IntKind.wrap .i64 (IntKind.wrap .i8 i0)))]) ∧ (
  (i1 ≠ (1 : Int)) →
  ((
   (i1 = (2 : Int)) →
   Narrow.sig.post [(D.I i0), (D.I i1), (D.I (IntKind.wrap .u64 (IntKind.wrap .u16 i0))), (D.I (IntKind.wrap .i64 (IntKind.wrap .i16 i0)))]) ∧ (
   (i1 ≠ (2 : Int)) →
   ((
    (i1 = (4 : Int)) →
    Narrow.sig.post [(D.I i0), (D.I i1), (D.I (IntKind.wrap .u64 (IntKind.wrap .u32 i0))), (D.I (IntKind.wrap .i64 (IntKind.wrap .i32 i0)))]) ∧ (
    (i1 ≠ (4 : Int)) →
    Narrow.sig.post [(D.I i0), (D.I i1), (D.I i0), (D.I (IntKind.wrap .i64 i0))]))))))
theorem Narrow.den : Narrow.vc.den2 (mkEnv Narrow.sig [] []) [] = Narrow.Pure := by kernel_rfl
def Fold.vc : VC :=
 (.all .I
 (.know (.has .i64 (.at 0))
 (.post 0 [(.at 0)]
 (.ret [(.at 0), (.o2 (.bits .xor .u64) (.o2 (.shl .u64) (.o1 (.wrap .u64) (.at 0)) (.int 1)) (.o1 (.wrap .u64) (.o2 (.shr .i64) (.at 0) (.int 63))))]))))
def Fold.Pure : Prop :=
 ∀ (i0 : Int),
 (-9223372036854775808 ≤ i0 ∧ i0 < 9223372036854775808) →
 Fold.sig.pre [(D.I i0)] →
 Fold.sig.post [(D.I i0), (D.I (Go.bits .xor .u64 (shlI .u64 (IntKind.wrap .u64 i0) (1 : Int)) (IntKind.wrap .u64 (shrI .i64 i0 (63 : Int)))))]
theorem Fold.den : Fold.vc.den2 (mkEnv Fold.sig [] []) [] = Fold.Pure := by kernel_rfl
def RFold.vc : VC :=
 (.all .I
 (.know (.has .i64 (.at 0))
 (.post 0 [(.at 0)]
 (.and
  (.imp (.o2 .lt (.at 0) (.int 0)) true
  (.ret [(.at 0), (.o2 (.add .u64) (.o2 (.mul .u64) (.int 2) (.o1 (.wrap .u64) (.o2 (.sub .i64) (.int 0) (.o2 (.add .i64) (.at 0) (.int 1))))) (.int 1))]))
  (.imp (.o2 .lt (.at 0) (.int 0)) false
  (.ret [(.at 0), (.o2 (.mul .u64) (.int 2) (.o1 (.wrap .u64) (.at 0)))]))))))
def RFold.Pure : Prop :=
 ∀ (i0 : Int),
 (-9223372036854775808 ≤ i0 ∧ i0 < 9223372036854775808) →
 RFold.sig.pre [(D.I i0)] →
 ((
  (i0 < (0 : Int)) →
  RFold.sig.post [(D.I i0), (D.I (IntKind.wrap .u64 ((IntKind.wrap .u64 ((2 : Int) * (IntKind.wrap .u64 (IntKind.wrap .i64 ((0 : Int) - (IntKind.wrap .i64 (i0 + (1 : Int)))))))) + (1 : Int))))]) ∧ (
  ((0 : Int) ≤ i0) →
  RFold.sig.post [(D.I i0), (D.I (IntKind.wrap .u64 ((2 : Int) * (IntKind.wrap .u64 i0))))]))
theorem RFold.den : RFold.vc.den2 (mkEnv RFold.sig [] []) [] = RFold.Pure := by kernel_rfl
def Unfold.vc : VC :=
 (.all .I
 (.know (.has .u64 (.at 0))
 (.post 0 [(.at 0)]
 (.ret [(.at 0), (.o2 (.bits .xor .i64) (.o1 (.wrap .i64) (.o2 (.shr .u64) (.at 0) (.int 1))) (.o2 (.sub .i64) (.int 0) (.o1 (.wrap .i64) (.o2 (.bits .and .u64) (.at 0) (.int 1)))))]))))
def Unfold.Pure : Prop :=
 ∀ (i0 : Int),
 (0 ≤ i0 ∧ i0 < 18446744073709551616) →
 Unfold.sig.pre [(D.I i0)] →
 Unfold.sig.post [(D.I i0), (D.I (Go.bits .xor .i64 (IntKind.wrap .i64 (shrI .u64 i0 (1 : Int))) (IntKind.wrap .i64 ((0 : Int) - (IntKind.wrap .i64 (Go.bits .and .u64 i0 (1 : Int)))))))]
theorem Unfold.den : Unfold.vc.den2 (mkEnv Unfold.sig [] []) [] = Unfold.Pure := by kernel_rfl
def RLow.vc : VC :=
 (.all .I
 (.all .I
 (.know (.has .u64 (.at 0))
 (.know (.has .i64 (.at 1))
 (.post 0 [(.at 0), (.at 1)]
 (.pre 1 [(.at 0)]
 (.all .V
 (.all .Z
 (.post 1 [(.at 0), (.at 2), (.at 3)]
 (.know (.allHas .i64 (.at 3))
 (.obl (.o2 .le (.int 0) (.o2 .min (.o2 .max (.at 1) (.int 0)) (.int 64)))
 (.obl (.o2 .le (.o2 .min (.o2 .max (.at 1) (.int 0)) (.int 64)) (.o1 .lilen (.at 3)))
 (.all .V
 (.pre 2 [(.at 4), (.o2 .litake (.at 3) (.o2 .min (.o2 .max (.at 1) (.int 0)) (.int 64)))]
 (.all .I
 (.post 2 [(.at 4), (.o2 .litake (.at 3) (.o2 .min (.o2 .max (.at 1) (.int 0)) (.int 64))), (.at 5)]
 (.know (.has .u64 (.at 5))
 (.ret [(.at 0), (.at 1), (.at 5)]))))))))))))))))))
def RLow.Pure : Prop :=
 ∀ (i0 : Int),
 ∀ (i1 : Int),
 (0 ≤ i0 ∧ i0 < 18446744073709551616) →
 (-9223372036854775808 ≤ i1 ∧ i1 < 9223372036854775808) →
 RLow.sig.pre [(D.I i0), (D.I i1)] →
 RBits.sig.pre [(D.I i0)] ∧ (
 ∀ (v2 : Value),
 ∀ (z3 : List Int),
 RBits.sig.post [(D.I i0), (D.V v2), (D.Z z3)] →
 (∀ x ∈ z3, IntKind.has .i64 x) →
 ((0 : Int) ≤ (minI (maxI i1 (0 : Int)) (64 : Int))) ∧ (((0 : Int) ≤ (minI (maxI i1 (0 : Int)) (64 : Int))) →
 ((minI (maxI i1 (0 : Int)) (64 : Int)) ≤ ((z3.length : Nat) : Int)) ∧ (((minI (maxI i1 (0 : Int)) (64 : Int)) ≤ ((z3.length : Nat) : Int)) →
 ∀ (v4 : Value),
 RValue.sig.pre [(D.V v4), (D.Z (z3.take (minI (maxI i1 (0 : Int)) (64 : Int)).toNat))] ∧ (
 ∀ (i5 : Int),
 RValue.sig.post [(D.V v4), (D.Z (z3.take (minI (maxI i1 (0 : Int)) (64 : Int)).toNat)), (D.I i5)] →
 (0 ≤ i5 ∧ i5 < 18446744073709551616) →
 RLow.sig.post [(D.I i0), (D.I i1), (D.I i5)]))))
theorem RLow.den : RLow.vc.den2 (mkEnv RLow.sig [RBits.sig, RValue.sig] []) [] = RLow.Pure := by kernel_rfl
def RBit.vc : VC :=
 (.all .I
 (.all .I
 (.know (.has .u64 (.at 0))
 (.know (.has .i64 (.at 1))
 (.post 0 [(.at 0), (.at 1)]
 (.and
  (.imp (.o2 .le (.int 0) (.at 1)) true
  (.and
   (.imp (.o2 .lt (.at 1) (.int 64)) true
   (.pre 1 [(.at 0)]
   (.all .V
   (.all .Z
   (.post 1 [(.at 0), (.at 2), (.at 3)]
   (.know (.allHas .i64 (.at 3))
   (.obl (.o2 .le (.int 0) (.o2 .min (.o2 .max (.at 1) (.int 0)) (.int 63)))
   (.obl (.o2 .lt (.o2 .min (.o2 .max (.at 1) (.int 0)) (.int 63)) (.o1 .lilen (.at 3)))
   (.ret [(.at 0), (.at 1), (.o2 .eq (.o2 .liget (.at 3) (.o2 .min (.o2 .max (.at 1) (.int 0)) (.int 63))) (.int 1))])))))))))
   (.imp (.o2 .lt (.at 1) (.int 64)) false
   (.ret [(.at 0), (.at 1), (.bool false)]))))
  (.imp (.o2 .le (.int 0) (.at 1)) false
  (.ret [(.at 0), (.at 1), (.bool false)]))))))))
def RBit.Pure : Prop :=
 ∀ (i0 : Int),
 ∀ (i1 : Int),
 (0 ≤ i0 ∧ i0 < 18446744073709551616) →
 (-9223372036854775808 ≤ i1 ∧ i1 < 9223372036854775808) →
 RBit.sig.pre [(D.I i0), (D.I i1)] →
 ((
  ((0 : Int) ≤ i1) →
  ((
   (i1 < (64 : Int)) →
   RBits.sig.pre [(D.I i0)] ∧ (
   ∀ (v2 : Value),
   ∀ (z3 : List Int),
   RBits.sig.post [(D.I i0), (D.V v2), (D.Z z3)] →
   (∀ x ∈ z3, IntKind.has .i64 x) →
   ((0 : Int) ≤ (minI (maxI i1 (0 : Int)) (63 : Int))) ∧ (((0 : Int) ≤ (minI (maxI i1 (0 : Int)) (63 : Int))) →
   ((minI (maxI i1 (0 : Int)) (63 : Int)) < ((z3.length : Nat) : Int)) ∧ (((minI (maxI i1 (0 : Int)) (63 : Int)) < ((z3.length : Nat) : Int)) →
   RBit.sig.post [(D.I i0), (D.I i1), (D.B ((z3.getD (minI (maxI i1 (0 : Int)) (63 : Int)).toNat 0) == (1 : Int)))])))) ∧ (
   ((64 : Int) ≤ i1) →
   RBit.sig.post [(D.I i0), (D.I i1), (D.B false)]))) ∧ (
  (i1 < (0 : Int)) →
  RBit.sig.post [(D.I i0), (D.I i1), (D.B false)]))
theorem RBit.den : RBit.vc.den2 (mkEnv RBit.sig [RBits.sig] []) [] = RBit.Pure := by kernel_rfl
def RWith.vc : VC :=
 (.all .I
 (.all .I
 (.know (.has .u64 (.at 0))
 (.know (.has .i64 (.at 1))
 (.post 0 [(.at 0), (.at 1)]
 (.pre 1 [(.at 0)]
 (.all .V
 (.all .Z
 (.post 1 [(.at 0), (.at 2), (.at 3)]
 (.know (.allHas .i64 (.at 3))
 (.and
  (.imp (.o2 .le (.int 0) (.at 1)) true
  (.and
   (.imp (.o2 .lt (.at 1) (.int 64)) true
   (.obl (.o2 .lt (.at 1) (.o1 .lilen (.at 3)))
   (.pre 2 [(.at 2), (.o3 .liset (.at 3) (.at 1) (.int 1))]
   (.all .I
   (.post 2 [(.at 2), (.o3 .liset (.at 3) (.at 1) (.int 1)), (.at 4)]
   (.know (.has .u64 (.at 4))
   (.ret [(.at 0), (.at 1), (.at 4)])))))))
   (.imp (.o2 .lt (.at 1) (.int 64)) false
   (.pre 2 [(.at 2), (.at 3)]
   (.all .I
   (.post 2 [(.at 2), (.at 3), (.at 4)]
   (.know (.has .u64 (.at 4))
   (.ret [(.at 0), (.at 1), (.at 4)]))))))))
  (.imp (.o2 .le (.int 0) (.at 1)) false
  (.pre 2 [(.at 2), (.at 3)]
  (.all .I
  (.post 2 [(.at 2), (.at 3), (.at 4)]
  (.know (.has .u64 (.at 4))
  (.ret [(.at 0), (.at 1), (.at 4)])))))))))))))))))
def RWith.Pure : Prop :=
 ∀ (i0 : Int),
 ∀ (i1 : Int),
 (0 ≤ i0 ∧ i0 < 18446744073709551616) →
 (-9223372036854775808 ≤ i1 ∧ i1 < 9223372036854775808) →
 RWith.sig.pre [(D.I i0), (D.I i1)] →
 RBits.sig.pre [(D.I i0)] ∧ (
 ∀ (v2 : Value),
 ∀ (z3 : List Int),
 RBits.sig.post [(D.I i0), (D.V v2), (D.Z z3)] →
 (∀ x ∈ z3, IntKind.has .i64 x) →
 ((
  ((0 : Int) ≤ i1) →
  ((
   (i1 < (64 : Int)) →
   (i1 < ((z3.length : Nat) : Int)) ∧ ((i1 < ((z3.length : Nat) : Int)) →
   RValue.sig.pre [(D.V v2), (D.Z (z3.set i1.toNat (1 : Int)))] ∧ (
   ∀ (i4 : Int),
   RValue.sig.post [(D.V v2), (D.Z (z3.set i1.toNat (1 : Int))), (D.I i4)] →
   (0 ≤ i4 ∧ i4 < 18446744073709551616) →
   RWith.sig.post [(D.I i0), (D.I i1), (D.I i4)]))) ∧ (
   ((64 : Int) ≤ i1) →
   RValue.sig.pre [(D.V v2), (D.Z z3)] ∧ (
   ∀ (i4 : Int),
   RValue.sig.post [(D.V v2), (D.Z z3), (D.I i4)] →
   (0 ≤ i4 ∧ i4 < 18446744073709551616) →
   RWith.sig.post [(D.I i0), (D.I i1), (D.I i4)])))) ∧ (
  (i1 < (0 : Int)) →
  RValue.sig.pre [(D.V v2), (D.Z z3)] ∧ (
  ∀ (i4 : Int),
  RValue.sig.post [(D.V v2), (D.Z z3), (D.I i4)] →
  (0 ≤ i4 ∧ i4 < 18446744073709551616) →
  RWith.sig.post [(D.I i0), (D.I i1), (D.I i4)]))))
theorem RWith.den : RWith.vc.den2 (mkEnv RWith.sig [RBits.sig, RValue.sig] []) [] = RWith.Pure := by kernel_rfl
def RField.vc : VC :=
 (.all .I
 (.all .I
 (.all .I
 (.know (.has .u64 (.at 0))
 (.know (.has .i64 (.at 1))
 (.know (.has .i64 (.at 2))
 (.post 0 [(.at 0), (.at 1), (.at 2)]
 (.and
  (.imp (.o2 .lt (.at 1) (.int 0)) true
  (.ret [(.at 0), (.at 1), (.at 2), (.int 0)]))
  (.imp (.o2 .lt (.at 1) (.int 0)) false
  (.and
   (.imp (.o2 .lt (.int 63) (.at 1)) true
   (.ret [(.at 0), (.at 1), (.at 2), (.int 0)]))
   (.imp (.o2 .lt (.int 63) (.at 1)) false
   (.pre 1 [(.at 0)]
   (.all .V
   (.all .Z
   (.post 1 [(.at 0), (.at 3), (.at 4)]
   (.know (.allHas .i64 (.at 4))
   (.obl (.o2 .le (.at 1) (.o1 .lilen (.at 4)))
   (.obl (.o2 .le (.int 0) (.at 1))
   (.all .V
   (.obl (.o2 .le (.int 0) (.o2 .min (.o2 .max (.at 2) (.int 0)) (.o1 .lilen (.o2 .lidrop (.at 4) (.at 1)))))
   (.obl (.o2 .le (.o2 .min (.o2 .max (.at 2) (.int 0)) (.o1 .lilen (.o2 .lidrop (.at 4) (.at 1)))) (.o1 .lilen (.o2 .lidrop (.at 4) (.at 1))))
   (.all .V
   (.pre 2 [(.at 6), (.o2 .litake (.o2 .lidrop (.at 4) (.at 1)) (.o2 .min (.o2 .max (.at 2) (.int 0)) (.o1 .lilen (.o2 .lidrop (.at 4) (.at 1)))))]
   (.all .I
   (.post 2 [(.at 6), (.o2 .litake (.o2 .lidrop (.at 4) (.at 1)) (.o2 .min (.o2 .max (.at 2) (.int 0)) (.o1 .lilen (.o2 .lidrop (.at 4) (.at 1))))), (.at 7)]
   (.know (.has .u64 (.at 7))
   (.ret [(.at 0), (.at 1), (.at 2), (.at 7)])))))))))))))))))))))))))))
def RField.Pure : Prop :=
 ∀ (i0 : Int),
 ∀ (i1 : Int),
 ∀ (i2 : Int),
 (0 ≤ i0 ∧ i0 < 18446744073709551616) →
 (-9223372036854775808 ≤ i1 ∧ i1 < 9223372036854775808) →
 (-9223372036854775808 ≤ i2 ∧ i2 < 9223372036854775808) →
 RField.sig.pre [(D.I i0), (D.I i1), (D.I i2)] →
 ((
  (i1 < (0 : Int)) →
  RField.sig.post [(D.I i0), (D.I i1), (D.I i2), (D.I (0 : Int))]) ∧ (
  ((0 : Int) ≤ i1) →
  ((
   ((63 : Int) < i1) →
   RField.sig.post [(D.I i0), (D.I i1), (D.I i2), (D.I (0 : Int))]) ∧ (
   (i1 ≤ (63 : Int)) →
   RBits.sig.pre [(D.I i0)] ∧ (
   ∀ (v3 : Value),
   ∀ (z4 : List Int),
   RBits.sig.post [(D.I i0), (D.V v3), (D.Z z4)] →
   (∀ x ∈ z4, IntKind.has .i64 x) →
   (i1 ≤ ((z4.length : Nat) : Int)) ∧ ((i1 ≤ ((z4.length : Nat) : Int)) →
   ((0 : Int) ≤ i1) ∧ (((0 : Int) ≤ i1) →
   ∀ (v5 : Value),
   ((0 : Int) ≤ (minI (maxI i2 (0 : Int)) (((z4.drop i1.toNat).length : Nat) : Int))) ∧ (((0 : Int) ≤ (minI (maxI i2 (0 : Int)) (((z4.drop i1.toNat).length : Nat) : Int))) →
   ((minI (maxI i2 (0 : Int)) (((z4.drop i1.toNat).length : Nat) : Int)) ≤ (((z4.drop i1.toNat).length : Nat) : Int)) ∧ (((minI (maxI i2 (0 : Int)) (((z4.drop i1.toNat).length : Nat) : Int)) ≤ (((z4.drop i1.toNat).length : Nat) : Int)) →
   ∀ (v6 : Value),
   RValue.sig.pre [(D.V v6), (D.Z ((z4.drop i1.toNat).take (minI (maxI i2 (0 : Int)) (((z4.drop i1.toNat).length : Nat) : Int)).toNat))] ∧ (
   ∀ (i7 : Int),
   RValue.sig.post [(D.V v6), (D.Z ((z4.drop i1.toNat).take (minI (maxI i2 (0 : Int)) (((z4.drop i1.toNat).length : Nat) : Int)).toNat)), (D.I i7)] →
   (0 ≤ i7 ∧ i7 < 18446744073709551616) →
   RField.sig.post [(D.I i0), (D.I i1), (D.I i2), (D.I i7)]))))))))))
theorem RField.den : RField.vc.den2 (mkEnv RField.sig [RBits.sig, RValue.sig] []) [] = RField.Pure := by kernel_rfl
def RLay.vc : VC :=
 (.all .I
 (.all .I
 (.all .I
 (.all .I
 (.know (.has .u64 (.at 0))
 (.know (.has .i64 (.at 1))
 (.know (.has .i64 (.at 2))
 (.know (.has .u64 (.at 3))
 (.post 0 [(.at 0), (.at 1), (.at 2), (.at 3)]
 (.pre 1 [(.at 0)]
 (.all .V
 (.all .Z
 (.post 1 [(.at 0), (.at 4), (.at 5)]
 (.know (.allHas .i64 (.at 5))
 (.pre 1 [(.at 3)]
 (.all .V
 (.all .Z
 (.post 1 [(.at 3), (.at 6), (.at 7)]
 (.know (.allHas .i64 (.at 7))
 (.inv 0 [(.at 0), (.at 1), (.at 2), (.at 3), (.int 0), (.at 5)]
 (.all .I
 (.all .Z
 (.know (.has .i64 (.at 8))
 (.know (.allHas .i64 (.at 9))
 (.asm 0 [(.at 0), (.at 1), (.at 2), (.at 3), (.at 8), (.at 9)]
 (.and
  (.imp (.o2 .lt (.at 8) (.int 64)) true
  (.and
   (.imp (.o2 .lt (.at 8) (.at 2)) true
   (.and
    (.imp (.o2 .le (.int 0) (.at 1)) true
    (.and
     (.imp (.o2 .lt (.at 1) (.o2 (.sub .i64) (.int 64) (.at 8))) true
     (.obl (.o2 .le (.int 0) (.at 8))
     (.obl (.o2 .lt (.at 8) (.o1 .lilen (.at 7)))
     (.obl (.o2 .le (.int 0) (.o2 (.add .i64) (.at 1) (.at 8)))
     (.obl (.o2 .lt (.o2 (.add .i64) (.at 1) (.at 8)) (.o1 .lilen (.at 9)))
     (.back 0 [(.at 0), (.at 1), (.at 2), (.at 3), (.at 8), (.at 9)] [(.at 0), (.at 1), (.at 2), (.at 3), (.o2 (.add .i64) (.at 8) (.int 1)), (.o3 .liset (.at 9) (.o2 (.add .i64) (.at 1) (.at 8)) (.o2 .liget (.at 7) (.at 8)))]))))))
     (.imp (.o2 .lt (.at 1) (.o2 (.sub .i64) (.int 64) (.at 8))) false
     (.pre 2 [(.at 4), (.at 9)]
     (.all .I
     (.post 2 [(.at 4), (.at 9), (.at 10)]
     (.know (.has .u64 (.at 10))
     (.ret [(.at 0), (.at 1), (.at 2), (.at 3), (.at 10)]))))))))
    (.imp (.o2 .le (.int 0) (.at 1)) false
    (.pre 2 [(.at 4), (.at 9)]
    (.all .I
    (.post 2 [(.at 4), (.at 9), (.at 10)]
    (.know (.has .u64 (.at 10))
    (.ret [(.at 0), (.at 1), (.at 2), (.at 3), (.at 10)]))))))))
   (.imp (.o2 .lt (.at 8) (.at 2)) false
   (.pre 2 [(.at 4), (.at 9)]
   (.all .I
   (.post 2 [(.at 4), (.at 9), (.at 10)]
   (.know (.has .u64 (.at 10))
   (.ret [(.at 0), (.at 1), (.at 2), (.at 3), (.at 10)]))))))))
  (.imp (.o2 .lt (.at 8) (.int 64)) false
  (.pre 2 [(.at 4), (.at 9)]
  (.all .I
  (.post 2 [(.at 4), (.at 9), (.at 10)]
  (.know (.has .u64 (.at 10))
  (.ret [(.at 0), (.at 1), (.at 2), (.at 3), (.at 10)]))))))))))))))))))))))))))))))))
def RLay.Pure : Prop :=
 ∀ (i0 : Int),
 ∀ (i1 : Int),
 ∀ (i2 : Int),
 ∀ (i3 : Int),
 (0 ≤ i0 ∧ i0 < 18446744073709551616) →
 (-9223372036854775808 ≤ i1 ∧ i1 < 9223372036854775808) →
 (-9223372036854775808 ≤ i2 ∧ i2 < 9223372036854775808) →
 (0 ≤ i3 ∧ i3 < 18446744073709551616) →
 RLay.sig.pre [(D.I i0), (D.I i1), (D.I i2), (D.I i3)] →
 RBits.sig.pre [(D.I i0)] ∧ (
 ∀ (v4 : Value),
 ∀ (z5 : List Int),
 RBits.sig.post [(D.I i0), (D.V v4), (D.Z z5)] →
 (∀ x ∈ z5, IntKind.has .i64 x) →
 RBits.sig.pre [(D.I i3)] ∧ (
 ∀ (v6 : Value),
 ∀ (z7 : List Int),
 RBits.sig.post [(D.I i3), (D.V v6), (D.Z z7)] →
 (∀ x ∈ z7, IntKind.has .i64 x) →
 RLay.I0 [(D.I i0), (D.I i1), (D.I i2), (D.I i3), (D.I (0 : Int)), (D.Z z5)] ∧ (
 ∀ (i8 : Int),
 ∀ (z9 : List Int),
 (-9223372036854775808 ≤ i8 ∧ i8 < 9223372036854775808) →
 (∀ x ∈ z9, IntKind.has .i64 x) →
 RLay.I0 [(D.I i0), (D.I i1), (D.I i2), (D.I i3), (D.I i8), (D.Z z9)] →
 ((
  (i8 < (64 : Int)) →
  ((
   (i8 < i2) →
   ((
    ((0 : Int) ≤ i1) →
    ((
     (i1 < (IntKind.wrap .i64 ((64 : Int) - i8))) →
     ((0 : Int) ≤ i8) ∧ (((0 : Int) ≤ i8) →
     (i8 < ((z7.length : Nat) : Int)) ∧ ((i8 < ((z7.length : Nat) : Int)) →
     ((0 : Int) ≤ (IntKind.wrap .i64 (i1 + i8))) ∧ (((0 : Int) ≤ (IntKind.wrap .i64 (i1 + i8))) →
     ((IntKind.wrap .i64 (i1 + i8)) < ((z9.length : Nat) : Int)) ∧ (((IntKind.wrap .i64 (i1 + i8)) < ((z9.length : Nat) : Int)) →
     RLay.I0 [(D.I i0), (D.I i1), (D.I i2), (D.I i3), (D.I (IntKind.wrap .i64 (i8 + (1 : Int)))), (D.Z (z9.set (IntKind.wrap .i64 (i1 + i8)).toNat (z7.getD i8.toNat 0)))] ∧ RLay.I0M [(D.I i0), (D.I i1), (D.I i2), (D.I i3), (D.I (IntKind.wrap .i64 (i8 + (1 : Int)))), (D.Z (z9.set (IntKind.wrap .i64 (i1 + i8)).toNat (z7.getD i8.toNat 0)))] < RLay.I0M [(D.I i0), (D.I i1), (D.I i2), (D.I i3), (D.I i8), (D.Z z9)]))))) ∧ (
     ((IntKind.wrap .i64 ((64 : Int) - i8)) ≤ i1) →
     RValue.sig.pre [(D.V v4), (D.Z z9)] ∧ (
     ∀ (i10 : Int),
     RValue.sig.post [(D.V v4), (D.Z z9), (D.I i10)] →
     (0 ≤ i10 ∧ i10 < 18446744073709551616) →
     RLay.sig.post [(D.I i0), (D.I i1), (D.I i2), (D.I i3), (D.I i10)])))) ∧ (
    (i1 < (0 : Int)) →
    RValue.sig.pre [(D.V v4), (D.Z z9)] ∧ (
    ∀ (i10 : Int),
    RValue.sig.post [(D.V v4), (D.Z z9), (D.I i10)] →
    (0 ≤ i10 ∧ i10 < 18446744073709551616) →
    RLay.sig.post [(D.I i0), (D.I i1), (D.I i2), (D.I i3), (D.I i10)])))) ∧ (
   (i2 ≤ i8) →
   RValue.sig.pre [(D.V v4), (D.Z z9)] ∧ (
   ∀ (i10 : Int),
   RValue.sig.post [(D.V v4), (D.Z z9), (D.I i10)] →
   (0 ≤ i10 ∧ i10 < 18446744073709551616) →
   RLay.sig.post [(D.I i0), (D.I i1), (D.I i2), (D.I i3), (D.I i10)])))) ∧ (
  ((64 : Int) ≤ i8) →
  RValue.sig.pre [(D.V v4), (D.Z z9)] ∧ (
  ∀ (i10 : Int),
  RValue.sig.post [(D.V v4), (D.Z z9), (D.I i10)] →
  (0 ≤ i10 ∧ i10 < 18446744073709551616) →
  RLay.sig.post [(D.I i0), (D.I i1), (D.I i2), (D.I i3), (D.I i10)]))))))
theorem RLay.den : RLay.vc.den2 (mkEnv RLay.sig [RBits.sig, RValue.sig] [(RLay.I0, RLay.I0M)]) [] = RLay.Pure := by kernel_rfl
def RSigned.vc : VC :=
 (.all .I
 (.all .I
 (.know (.has .u64 (.at 0))
 (.know (.has .i64 (.at 1))
 (.post 0 [(.at 0), (.at 1)]
 (.pre 1 [(.at 0)]
 (.all .V
 (.all .Z
 (.post 1 [(.at 0), (.at 2), (.at 3)]
 (.know (.allHas .i64 (.at 3))
 (.obl (.o2 .le (.int 0) (.o2 (.sub .i64) (.o2 .min (.o2 .max (.at 1) (.int 1)) (.int 64)) (.int 1)))
 (.obl (.o2 .lt (.o2 (.sub .i64) (.o2 .min (.o2 .max (.at 1) (.int 1)) (.int 64)) (.int 1)) (.o1 .lilen (.at 3)))
 (.inv 0 [(.at 0), (.at 1), (.o2 .min (.o2 .max (.at 1) (.int 1)) (.int 64)), (.at 3)]
 (.all .I
 (.all .Z
 (.know (.has .i64 (.at 4))
 (.know (.allHas .i64 (.at 5))
 (.asm 0 [(.at 0), (.at 1), (.at 4), (.at 5)]
 (.and
  (.imp (.o2 .lt (.at 4) (.int 64)) true
  (.obl (.o2 .le (.int 0) (.at 4))
  (.obl (.o2 .lt (.at 4) (.o1 .lilen (.at 5)))
  (.back 0 [(.at 0), (.at 1), (.at 4), (.at 5)] [(.at 0), (.at 1), (.o2 (.add .i64) (.at 4) (.int 1)), (.o3 .liset (.at 5) (.at 4) (.o2 .liget (.at 3) (.o2 (.sub .i64) (.o2 .min (.o2 .max (.at 1) (.int 1)) (.int 64)) (.int 1))))]))))
  (.imp (.o2 .lt (.at 4) (.int 64)) false
  (.and
   (.imp (.o2 .eq (.o2 .liget (.at 3) (.o2 (.sub .i64) (.o2 .min (.o2 .max (.at 1) (.int 1)) (.int 64)) (.int 1))) (.int 0)) true
   (.pre 2 [(.at 2), (.at 5)]
   (.all .I
   (.post 2 [(.at 2), (.at 5), (.at 6)]
   (.know (.has .u64 (.at 6))
   (.ret [(.at 0), (.at 1), (.o1 (.wrap .i64) (.at 6))]))))))
   (.imp (.o2 .eq (.o2 .liget (.at 3) (.o2 (.sub .i64) (.o2 .min (.o2 .max (.at 1) (.int 1)) (.int 64)) (.int 1))) (.int 0)) false
   (.inv 1 [(.at 0), (.at 1), (.int 0), (.at 5)]
   (.all .I
   (.all .Z
   (.know (.has .i64 (.at 6))
   (.know (.allHas .i64 (.at 7))
   (.asm 1 [(.at 0), (.at 1), (.at 6), (.at 7)]
   (.and
    (.imp (.o2 .lt (.at 6) (.o1 .lilen (.at 5))) true
    (.obl (.o2 .le (.int 0) (.at 6))
    (.obl (.o2 .lt (.at 6) (.o1 .lilen (.at 7)))
    (.back 1 [(.at 0), (.at 1), (.at 6), (.at 7)] [(.at 0), (.at 1), (.o2 (.add .i64) (.at 6) (.int 1)), (.o3 .liset (.at 7) (.at 6) (.o2 (.sub .i64) (.int 1) (.o2 .liget (.at 7) (.at 6))))]))))
    (.imp (.o2 .lt (.at 6) (.o1 .lilen (.at 5))) false
    (.pre 2 [(.at 2), (.at 7)]
    (.all .I
    (.post 2 [(.at 2), (.at 7), (.at 8)]
    (.know (.has .u64 (.at 8))
    (.ret [(.at 0), (.at 1), (.o2 (.sub .i64) (.o2 (.sub .i64) (.int 0) (.o1 (.wrap .i64) (.at 8))) (.int 1))])))))))))))))))))))))))))))))))))))
def RSigned.Pure : Prop :=
 ∀ (i0 : Int),
 ∀ (i1 : Int),
 (0 ≤ i0 ∧ i0 < 18446744073709551616) →
 (-9223372036854775808 ≤ i1 ∧ i1 < 9223372036854775808) →
 RSigned.sig.pre [(D.I i0), (D.I i1)] →
 RBits.sig.pre [(D.I i0)] ∧ (
 ∀ (v2 : Value),
 ∀ (z3 : List Int),
 RBits.sig.post [(D.I i0), (D.V v2), (D.Z z3)] →
 (∀ x ∈ z3, IntKind.has .i64 x) →
 ((0 : Int) ≤ (IntKind.wrap .i64 ((minI (maxI i1 (1 : Int)) (64 : Int)) - (1 : Int)))) ∧ (((0 : Int) ≤ (IntKind.wrap .i64 ((minI (maxI i1 (1 : Int)) (64 : Int)) - (1 : Int)))) →
 ((IntKind.wrap .i64 ((minI (maxI i1 (1 : Int)) (64 : Int)) - (1 : Int))) < ((z3.length : Nat) : Int)) ∧ (((IntKind.wrap .i64 ((minI (maxI i1 (1 : Int)) (64 : Int)) - (1 : Int))) < ((z3.length : Nat) : Int)) →
 RSigned.I0 [(D.I i0), (D.I i1), (D.I (minI (maxI i1 (1 : Int)) (64 : Int))), (D.Z z3)] ∧ (
 ∀ (i4 : Int),
 ∀ (z5 : List Int),
 (-9223372036854775808 ≤ i4 ∧ i4 < 9223372036854775808) →
 (∀ x ∈ z5, IntKind.has .i64 x) →
 RSigned.I0 [(D.I i0), (D.I i1), (D.I i4), (D.Z z5)] →
 ((
  (i4 < (64 : Int)) →
  ((0 : Int) ≤ i4) ∧ (((0 : Int) ≤ i4) →
  (i4 < ((z5.length : Nat) : Int)) ∧ ((i4 < ((z5.length : Nat) : Int)) →
  RSigned.I0 [(D.I i0), (D.I i1), (D.I (IntKind.wrap .i64 (i4 + (1 : Int)))), (D.Z (z5.set i4.toNat (z3.getD (IntKind.wrap .i64 ((minI (maxI i1 (1 : Int)) (64 : Int)) - (1 : Int))).toNat 0)))] ∧ RSigned.I0M [(D.I i0), (D.I i1), (D.I (IntKind.wrap .i64 (i4 + (1 : Int)))), (D.Z (z5.set i4.toNat (z3.getD (IntKind.wrap .i64 ((minI (maxI i1 (1 : Int)) (64 : Int)) - (1 : Int))).toNat 0)))] < RSigned.I0M [(D.I i0), (D.I i1), (D.I i4), (D.Z z5)]))) ∧ (
  ((64 : Int) ≤ i4) →
  ((
   ((z3.getD (IntKind.wrap .i64 ((minI (maxI i1 (1 : Int)) (64 : Int)) - (1 : Int))).toNat 0) = (0 : Int)) →
   RValue.sig.pre [(D.V v2), (D.Z z5)] ∧ (
   ∀ (i6 : Int),
   RValue.sig.post [(D.V v2), (D.Z z5), (D.I i6)] →
   (0 ≤ i6 ∧ i6 < 18446744073709551616) →
   RSigned.sig.post [(D.I i0), (D.I i1), (D.I (IntKind.wrap .i64 i6))])) ∧ (
   ((z3.getD (IntKind.wrap .i64 ((minI (maxI i1 (1 : Int)) (64 : Int)) - (1 : Int))).toNat 0) ≠ (0 : Int)) →
   RSigned.I1 [(D.I i0), (D.I i1), (D.I (0 : Int)), (D.Z z5)] ∧ (
   ∀ (i6 : Int),
   ∀ (z7 : List Int),
   (-9223372036854775808 ≤ i6 ∧ i6 < 9223372036854775808) →
   (∀ x ∈ z7, IntKind.has .i64 x) →
   RSigned.I1 [(D.I i0), (D.I i1), (D.I i6), (D.Z z7)] →
   ((
    (i6 < ((z5.length : Nat) : Int)) →
    ((0 : Int) ≤ i6) ∧ (((0 : Int) ≤ i6) →
    (i6 < ((z7.length : Nat) : Int)) ∧ ((i6 < ((z7.length : Nat) : Int)) →
    RSigned.I1 [(D.I i0), (D.I i1), (D.I (IntKind.wrap .i64 (i6 + (1 : Int)))), (D.Z (z7.set i6.toNat (IntKind.wrap .i64 ((1 : Int) - (z7.getD i6.toNat 0)))))] ∧ RSigned.I1M [(D.I i0), (D.I i1), (D.I (IntKind.wrap .i64 (i6 + (1 : Int)))), (D.Z (z7.set i6.toNat (IntKind.wrap .i64 ((1 : Int) - (z7.getD i6.toNat 0)))))] < RSigned.I1M [(D.I i0), (D.I i1), (D.I i6), (D.Z z7)]))) ∧ (
    (((z5.length : Nat) : Int) ≤ i6) →
    RValue.sig.pre [(D.V v2), (D.Z z7)] ∧ (
    ∀ (i8 : Int),
    RValue.sig.post [(D.V v2), (D.Z z7), (D.I i8)] →
    (0 ≤ i8 ∧ i8 < 18446744073709551616) →
    RSigned.sig.post [(D.I i0), (D.I i1), (D.I (IntKind.wrap .i64 ((IntKind.wrap .i64 ((0 : Int) - (IntKind.wrap .i64 i8))) - (1 : Int))))]))))))))))))
theorem RSigned.den : RSigned.vc.den2 (mkEnv RSigned.sig [RBits.sig, RValue.sig] [(RSigned.I0, RSigned.I0M), (RSigned.I1, RSigned.I1M)]) [] = RSigned.Pure := by kernel_rfl
def Cut.vc : VC :=
 (.all .S
 (.all .I
 (.know (.ssz (.at 0))
 (.know (.has .i64 (.at 1))
 (.post 0 [(.at 0), (.at 1)]
 (.and
  (.imp (.o2 .lt (.at 1) (.o1 .slen (.at 0))) true
  (.obl (.o2 .le (.int 0) (.at 1))
  (.obl (.o2 .le (.at 1) (.o1 .slen (.at 0)))
  (.ret [(.at 0), (.at 1), (.o3 .ssub (.at 0) (.int 0) (.at 1))]))))
  (.imp (.o2 .lt (.at 1) (.o1 .slen (.at 0))) false
  (.ret [(.at 0), (.at 1), (.at 0)]))))))))
def Cut.Pure : Prop :=
 ∀ (s0 : ByteArray),
 ∀ (i1 : Int),
 ((s0.size : Int) ≤ 9223372036854775807) →
 (-9223372036854775808 ≤ i1 ∧ i1 < 9223372036854775808) →
 Cut.sig.pre [(D.S s0), (D.I i1)] →
 ((
  (i1 < ((s0.size : Nat) : Int)) →
  ((0 : Int) ≤ i1) ∧ (((0 : Int) ≤ i1) →
  (i1 ≤ ((s0.size : Nat) : Int)) ∧ ((i1 ≤ ((s0.size : Nat) : Int)) →
  Cut.sig.post [(D.S s0), (D.I i1), (D.S (s0.extract (0 : Int).toNat i1.toNat))]))) ∧ (
  (((s0.size : Nat) : Int) ≤ i1) →
  Cut.sig.post [(D.S s0), (D.I i1), (D.S s0)]))
theorem Cut.den : Cut.vc.den2 (mkEnv Cut.sig [] []) [] = Cut.Pure := by kernel_rfl
def Awake01.vc : VC :=
 (.post 0 []
 (.pre 1 [(.int 128), (.int 8)]
 (.all .I
 (.post 1 [(.int 128), (.int 8), (.at 0)]
 (.know (.has .i64 (.at 0))
 (.and
  (.imp (.o2 .eq (.at 0) (.int (-128))) true
  (.pre 2 [(.int 1), (.int (-1))]
  (.all .I
  (.post 2 [(.int 1), (.int (-1)), (.at 1)]
  (.know (.has .u64 (.at 1))
  (.and
   (.imp (.o2 .eq (.at 1) (.int 9223372036854775808)) true
   (.pre 3 [(.int 255), (.int 4), (.int 8), (.int 0)]
   (.all .I
   (.post 3 [(.int 255), (.int 4), (.int 8), (.int 0), (.at 2)]
   (.know (.has .u64 (.at 2))
   (.and
    (.imp (.o2 .eq (.at 2) (.int 15)) true
    (.pre 4 [(.int 8)]
    (.all .I
    (.post 4 [(.int 8), (.at 3)]
    (.know (.has .i64 (.at 3))
    (.and
     (.imp (.o2 .eq (.at 3) (.int 3)) true
     (.pre 5 [(.int 1)]
     (.all .I
     (.post 5 [(.int 1), (.at 4)]
     (.know (.has .u64 (.at 4))
     (.ret [(.o2 .eq (.at 4) (.int 72057594037927936))]))))))
     (.imp (.o2 .eq (.at 3) (.int 3)) false
     (.ret [(.bool false)]))))))))
    (.imp (.o2 .eq (.at 2) (.int 15)) false
    (.ret [(.bool false)]))))))))
   (.imp (.o2 .eq (.at 1) (.int 9223372036854775808)) false
   (.ret [(.bool false)]))))))))
  (.imp (.o2 .eq (.at 0) (.int (-128))) false
  (.ret [(.bool false)]))))))))
def Awake01.Pure : Prop :=
 Awake01.sig.pre [] →
 Signed.sig.pre [(D.I (128 : Int)), (D.I (8 : Int))] ∧ (
 ∀ (i0 : Int),
 Signed.sig.post [(D.I (128 : Int)), (D.I (8 : Int)), (D.I i0)] →
 (-9223372036854775808 ≤ i0 ∧ i0 < 9223372036854775808) →
 ((
  (i0 = (-128 : Int)) →
  Turn.sig.pre [(D.I (1 : Int)), (D.I (-1 : Int))] ∧ (
  ∀ (i1 : Int),
  Turn.sig.post [(D.I (1 : Int)), (D.I (-1 : Int)), (D.I i1)] →
  (0 ≤ i1 ∧ i1 < 18446744073709551616) →
  ((
   (i1 = (9223372036854775808 : Int)) →
   Lay.sig.pre [(D.I (255 : Int)), (D.I (4 : Int)), (D.I (8 : Int)), (D.I (0 : Int))] ∧ (
   ∀ (i2 : Int),
   Lay.sig.post [(D.I (255 : Int)), (D.I (4 : Int)), (D.I (8 : Int)), (D.I (0 : Int)), (D.I i2)] →
   (0 ≤ i2 ∧ i2 < 18446744073709551616) →
   ((
    (i2 = (15 : Int)) →
    First.sig.pre [(D.I (8 : Int))] ∧ (
    ∀ (i3 : Int),
    First.sig.post [(D.I (8 : Int)), (D.I i3)] →
    (-9223372036854775808 ≤ i3 ∧ i3 < 9223372036854775808) →
    ((
     (i3 = (3 : Int)) →
     Swap.sig.pre [(D.I (1 : Int))] ∧ (
     ∀ (i4 : Int),
     Swap.sig.post [(D.I (1 : Int)), (D.I i4)] →
     (0 ≤ i4 ∧ i4 < 18446744073709551616) →
     Awake01.sig.post [(D.B (i4 == (72057594037927936 : Int)))])) ∧ (
     (i3 ≠ (3 : Int)) →
     Awake01.sig.post [(D.B false)])))) ∧ (
    (i2 ≠ (15 : Int)) →
    Awake01.sig.post [(D.B false)])))) ∧ (
   (i1 ≠ (9223372036854775808 : Int)) →
   Awake01.sig.post [(D.B false)])))) ∧ (
  (i0 ≠ (-128 : Int)) →
  Awake01.sig.post [(D.B false)])))
theorem Awake01.den : Awake01.vc.den2 (mkEnv Awake01.sig [Signed.sig, Turn.sig, Lay.sig, First.sig, Swap.sig] []) [] = Awake01.Pure := by kernel_rfl
def LMoves.vc : VC :=
 (.all .I
 (.all .I
 (.all .I
 (.know (.has .u64 (.at 0))
 (.know (.has .i64 (.at 1))
 (.know (.has .u64 (.at 2))
 (.post 0 [(.at 0), (.at 1), (.at 2)]
 (.pre 1 []
 (.all .B
 (.post 1 [(.at 3)]
 (.and
  (.imp (.at 3) true
  (.pre 2 [(.at 0), (.at 1)]
  (.all .I
  (.post 2 [(.at 0), (.at 1), (.at 4)]
  (.know (.has .u64 (.at 4))
  (.pre 3 [(.at 0), (.at 1), (.int 64)]
  (.all .I
  (.post 3 [(.at 0), (.at 1), (.int 64), (.at 5)]
  (.know (.has .u64 (.at 5))
  (.and
   (.imp (.o2 .eq (.at 4) (.at 5)) true
   (.pre 4 [(.o1 (.wrap .u32) (.at 0)), (.at 1)]
   (.all .I
   (.post 4 [(.o1 (.wrap .u32) (.at 0)), (.at 1), (.at 6)]
   (.know (.has .u32 (.at 6))
   (.pre 3 [(.at 0), (.at 1), (.int 32)]
   (.all .I
   (.post 3 [(.at 0), (.at 1), (.int 32), (.at 7)]
   (.know (.has .u64 (.at 7))
   (.and
    (.imp (.o2 .eq (.o1 (.wrap .u64) (.at 6)) (.at 7)) true
    (.pre 5 [(.at 0), (.at 2)]
    (.all .I
    (.post 5 [(.at 0), (.at 2), (.at 8)]
    (.know (.has .u64 (.at 8))
    (.pre 7 [(.at 0), (.o1 (.wrap .i64) (.o2 .rem (.at 2) (.int 64)))]
    (.all .I
    (.post 7 [(.at 0), (.o1 (.wrap .i64) (.o2 .rem (.at 2) (.int 64))), (.at 9)]
    (.know (.has .u64 (.at 9))
    (.and
     (.imp (.o2 .eq (.at 8) (.at 9)) true
     (.pre 6 [(.at 0), (.at 2)]
     (.all .I
     (.post 6 [(.at 0), (.at 2), (.at 10)]
     (.know (.has .u64 (.at 10))
     (.pre 7 [(.at 0), (.o2 (.sub .i64) (.int 0) (.o1 (.wrap .i64) (.o2 .rem (.at 2) (.int 64))))]
     (.all .I
     (.post 7 [(.at 0), (.o2 (.sub .i64) (.int 0) (.o1 (.wrap .i64) (.o2 .rem (.at 2) (.int 64)))), (.at 11)]
     (.know (.has .u64 (.at 11))
     (.and
      (.imp (.o2 .eq (.at 10) (.at 11)) true
      (.pre 8 [(.at 0)]
      (.all .I
      (.post 8 [(.at 0), (.at 12)]
      (.know (.has .i64 (.at 12))
      (.pre 9 [(.at 0)]
      (.all .I
      (.post 9 [(.at 0), (.at 13)]
      (.know (.has .i64 (.at 13))
      (.and
       (.imp (.o2 .eq (.at 12) (.at 13)) true
       (.pre 10 [(.at 0)]
       (.all .I
       (.post 10 [(.at 0), (.at 14)]
       (.know (.has .i64 (.at 14))
       (.pre 11 [(.at 0)]
       (.all .I
       (.post 11 [(.at 0), (.at 15)]
       (.know (.has .i64 (.at 15))
       (.ret [(.at 0), (.at 1), (.at 2), (.o2 .eq (.at 14) (.at 15))]))))))))))
       (.imp (.o2 .eq (.at 12) (.at 13)) false
       (.ret [(.at 0), (.at 1), (.at 2), (.bool false)]))))))))))))
      (.imp (.o2 .eq (.at 10) (.at 11)) false
      (.ret [(.at 0), (.at 1), (.at 2), (.bool false)]))))))))))))
     (.imp (.o2 .eq (.at 8) (.at 9)) false
     (.ret [(.at 0), (.at 1), (.at 2), (.bool false)]))))))))))))
    (.imp (.o2 .eq (.o1 (.wrap .u64) (.at 6)) (.at 7)) false
    (.ret [(.at 0), (.at 1), (.at 2), (.bool false)]))))))))))))
   (.imp (.o2 .eq (.at 4) (.at 5)) false
   (.ret [(.at 0), (.at 1), (.at 2), (.bool false)]))))))))))))
  (.imp (.at 3) false
  (.ret [(.at 0), (.at 1), (.at 2), (.bool false)])))))))))))))
def LMoves.Pure : Prop :=
 ∀ (i0 : Int),
 ∀ (i1 : Int),
 ∀ (i2 : Int),
 (0 ≤ i0 ∧ i0 < 18446744073709551616) →
 (-9223372036854775808 ≤ i1 ∧ i1 < 9223372036854775808) →
 (0 ≤ i2 ∧ i2 < 18446744073709551616) →
 LMoves.sig.pre [(D.I i0), (D.I i1), (D.I i2)] →
 Awake01.sig.pre [] ∧ (
 ∀ (b3 : Bool),
 Awake01.sig.post [(D.B b3)] →
 ((
  (b3 = true) →
  Turn.sig.pre [(D.I i0), (D.I i1)] ∧ (
  ∀ (i4 : Int),
  Turn.sig.post [(D.I i0), (D.I i1), (D.I i4)] →
  (0 ≤ i4 ∧ i4 < 18446744073709551616) →
  RTurn.sig.pre [(D.I i0), (D.I i1), (D.I (64 : Int))] ∧ (
  ∀ (i5 : Int),
  RTurn.sig.post [(D.I i0), (D.I i1), (D.I (64 : Int)), (D.I i5)] →
  (0 ≤ i5 ∧ i5 < 18446744073709551616) →
  ((
   (i4 = i5) →
   Turn32.sig.pre [(D.I (IntKind.wrap .u32 i0)), (D.I i1)] ∧ (
   ∀ (i6 : Int),
   Turn32.sig.post [(D.I (IntKind.wrap .u32 i0)), (D.I i1), (D.I i6)] →
   (0 ≤ i6 ∧ i6 < 4294967296) →
   RTurn.sig.pre [(D.I i0), (D.I i1), (D.I (32 : Int))] ∧ (
   ∀ (i7 : Int),
   RTurn.sig.post [(D.I i0), (D.I i1), (D.I (32 : Int)), (D.I i7)] →
   (0 ≤ i7 ∧ i7 < 18446744073709551616) →
   ((
    ((IntKind.wrap .u64 i6) = i7) →
    Left.sig.pre [(D.I i0), (D.I i2)] ∧ (
    ∀ (i8 : Int),
    Left.sig.post [(D.I i0), (D.I i2), (D.I i8)] →
    (0 ≤ i8 ∧ i8 < 18446744073709551616) →
    RMove.sig.pre [(D.I i0), (D.I (IntKind.wrap .i64 (Int.tmod i2 (64 : Int))))] ∧ (
    ∀ (i9 : Int),
    RMove.sig.post [(D.I i0), (D.I (IntKind.wrap .i64 (Int.tmod i2 (64 : Int)))), (D.I i9)] →
    (0 ≤ i9 ∧ i9 < 18446744073709551616) →
    ((
     (i8 = i9) →
     Right.sig.pre [(D.I i0), (D.I i2)] ∧ (
     ∀ (i10 : Int),
     Right.sig.post [(D.I i0), (D.I i2), (D.I i10)] →
     (0 ≤ i10 ∧ i10 < 18446744073709551616) →
     RMove.sig.pre [(D.I i0), (D.I (IntKind.wrap .i64 ((0 : Int) - (IntKind.wrap .i64 (Int.tmod i2 (64 : Int))))))] ∧ (
     ∀ (i11 : Int),
     RMove.sig.post [(D.I i0), (D.I (IntKind.wrap .i64 ((0 : Int) - (IntKind.wrap .i64 (Int.tmod i2 (64 : Int)))))), (D.I i11)] →
     (0 ≤ i11 ∧ i11 < 18446744073709551616) →
     ((
      (i10 = i11) →
      Count.sig.pre [(D.I i0)] ∧ (
      ∀ (i12 : Int),
      Count.sig.post [(D.I i0), (D.I i12)] →
      (-9223372036854775808 ≤ i12 ∧ i12 < 9223372036854775808) →
      RCount.sig.pre [(D.I i0)] ∧ (
      ∀ (i13 : Int),
      RCount.sig.post [(D.I i0), (D.I i13)] →
      (-9223372036854775808 ≤ i13 ∧ i13 < 9223372036854775808) →
      ((
       (i12 = i13) →
       First.sig.pre [(D.I i0)] ∧ (
       ∀ (i14 : Int),
       First.sig.post [(D.I i0), (D.I i14)] →
       (-9223372036854775808 ≤ i14 ∧ i14 < 9223372036854775808) →
       RFirst.sig.pre [(D.I i0)] ∧ (
       ∀ (i15 : Int),
       RFirst.sig.post [(D.I i0), (D.I i15)] →
       (-9223372036854775808 ≤ i15 ∧ i15 < 9223372036854775808) →
       LMoves.sig.post [(D.I i0), (D.I i1), (D.I i2), (D.B (i14 == i15))]))) ∧ (
       (i12 ≠ i13) →
       LMoves.sig.post [(D.I i0), (D.I i1), (D.I i2), (D.B false)]))))) ∧ (
      (i10 ≠ i11) →
      LMoves.sig.post [(D.I i0), (D.I i1), (D.I i2), (D.B false)]))))) ∧ (
     (i8 ≠ i9) →
     LMoves.sig.post [(D.I i0), (D.I i1), (D.I i2), (D.B false)]))))) ∧ (
    ((IntKind.wrap .u64 i6) ≠ i7) →
    LMoves.sig.post [(D.I i0), (D.I i1), (D.I i2), (D.B false)]))))) ∧ (
   (i4 ≠ i5) →
   LMoves.sig.post [(D.I i0), (D.I i1), (D.I i2), (D.B false)]))))) ∧ (
  (b3 = false) →
  LMoves.sig.post [(D.I i0), (D.I i1), (D.I i2), (D.B false)])))
theorem LMoves.den : LMoves.vc.den2 (mkEnv LMoves.sig [Awake01.sig, Turn.sig, RTurn.sig, Turn32.sig, Left.sig, Right.sig, RMove.sig, Count.sig, RCount.sig, First.sig, RFirst.sig] []) [] = LMoves.Pure := by kernel_rfl
def LParts.vc : VC :=
 (.all .I
 (.all .I
 (.all .I
 (.all .I
 (.know (.has .u64 (.at 0))
 (.know (.has .u64 (.at 1))
 (.know (.has .i64 (.at 2))
 (.know (.has .i64 (.at 3))
 (.post 0 [(.at 0), (.at 1), (.at 2), (.at 3)]
 (.pre 1 []
 (.all .B
 (.post 1 [(.at 4)]
 (.and
  (.imp (.at 4) true
  (.pre 2 [(.at 0), (.at 3)]
  (.all .I
  (.post 2 [(.at 0), (.at 3), (.at 5)]
  (.know (.has .u64 (.at 5))
  (.pre 3 [(.at 0), (.at 3)]
  (.all .I
  (.post 3 [(.at 0), (.at 3), (.at 6)]
  (.know (.has .u64 (.at 6))
  (.and
   (.imp (.o2 .eq (.at 5) (.at 6)) true
   (.pre 4 [(.at 0), (.at 3)]
   (.all .I
   (.post 4 [(.at 0), (.at 3), (.at 7)]
   (.know (.has .i64 (.at 7))
   (.pre 5 [(.at 0), (.at 3)]
   (.all .I
   (.post 5 [(.at 0), (.at 3), (.at 8)]
   (.know (.has .i64 (.at 8))
   (.and
    (.imp (.o2 .eq (.at 7) (.at 8)) true
    (.pre 6 [(.at 0), (.at 2)]
    (.all .B
    (.post 6 [(.at 0), (.at 2), (.at 9)]
    (.pre 7 [(.at 0), (.at 2)]
    (.all .B
    (.post 7 [(.at 0), (.at 2), (.at 10)]
    (.and
     (.imp (.o2 .eqb (.at 9) (.at 10)) true
     (.pre 8 [(.at 0), (.at 2)]
     (.all .I
     (.post 8 [(.at 0), (.at 2), (.at 11)]
     (.know (.has .u64 (.at 11))
     (.pre 9 [(.at 0), (.at 2)]
     (.all .I
     (.post 9 [(.at 0), (.at 2), (.at 12)]
     (.know (.has .u64 (.at 12))
     (.and
      (.imp (.o2 .eq (.at 11) (.at 12)) true
      (.pre 10 [(.at 0), (.at 2), (.at 3)]
      (.all .I
      (.post 10 [(.at 0), (.at 2), (.at 3), (.at 13)]
      (.know (.has .u64 (.at 13))
      (.pre 11 [(.at 0), (.at 2), (.at 3)]
      (.all .I
      (.post 11 [(.at 0), (.at 2), (.at 3), (.at 14)]
      (.know (.has .u64 (.at 14))
      (.and
       (.imp (.o2 .eq (.at 13) (.at 14)) true
       (.pre 12 [(.at 0), (.at 2), (.at 3), (.at 1)]
       (.all .I
       (.post 12 [(.at 0), (.at 2), (.at 3), (.at 1), (.at 15)]
       (.know (.has .u64 (.at 15))
       (.pre 13 [(.at 0), (.at 2), (.at 3), (.at 1)]
       (.all .I
       (.post 13 [(.at 0), (.at 2), (.at 3), (.at 1), (.at 16)]
       (.know (.has .u64 (.at 16))
       (.ret [(.at 0), (.at 1), (.at 2), (.at 3), (.o2 .eq (.at 15) (.at 16))]))))))))))
       (.imp (.o2 .eq (.at 13) (.at 14)) false
       (.ret [(.at 0), (.at 1), (.at 2), (.at 3), (.bool false)]))))))))))))
      (.imp (.o2 .eq (.at 11) (.at 12)) false
      (.ret [(.at 0), (.at 1), (.at 2), (.at 3), (.bool false)]))))))))))))
     (.imp (.o2 .eqb (.at 9) (.at 10)) false
     (.ret [(.at 0), (.at 1), (.at 2), (.at 3), (.bool false)]))))))))))
    (.imp (.o2 .eq (.at 7) (.at 8)) false
    (.ret [(.at 0), (.at 1), (.at 2), (.at 3), (.bool false)]))))))))))))
   (.imp (.o2 .eq (.at 5) (.at 6)) false
   (.ret [(.at 0), (.at 1), (.at 2), (.at 3), (.bool false)]))))))))))))
  (.imp (.at 4) false
  (.ret [(.at 0), (.at 1), (.at 2), (.at 3), (.bool false)])))))))))))))))
def LParts.Pure : Prop :=
 ∀ (i0 : Int),
 ∀ (i1 : Int),
 ∀ (i2 : Int),
 ∀ (i3 : Int),
 (0 ≤ i0 ∧ i0 < 18446744073709551616) →
 (0 ≤ i1 ∧ i1 < 18446744073709551616) →
 (-9223372036854775808 ≤ i2 ∧ i2 < 9223372036854775808) →
 (-9223372036854775808 ≤ i3 ∧ i3 < 9223372036854775808) →
 LParts.sig.pre [(D.I i0), (D.I i1), (D.I i2), (D.I i3)] →
 Awake01.sig.pre [] ∧ (
 ∀ (b4 : Bool),
 Awake01.sig.post [(D.B b4)] →
 ((
  (b4 = true) →
  Low.sig.pre [(D.I i0), (D.I i3)] ∧ (
  ∀ (i5 : Int),
  Low.sig.post [(D.I i0), (D.I i3), (D.I i5)] →
  (0 ≤ i5 ∧ i5 < 18446744073709551616) →
  RLow.sig.pre [(D.I i0), (D.I i3)] ∧ (
  ∀ (i6 : Int),
  RLow.sig.post [(D.I i0), (D.I i3), (D.I i6)] →
  (0 ≤ i6 ∧ i6 < 18446744073709551616) →
  ((
   (i5 = i6) →
   Signed.sig.pre [(D.I i0), (D.I i3)] ∧ (
   ∀ (i7 : Int),
   Signed.sig.post [(D.I i0), (D.I i3), (D.I i7)] →
   (-9223372036854775808 ≤ i7 ∧ i7 < 9223372036854775808) →
   RSigned.sig.pre [(D.I i0), (D.I i3)] ∧ (
   ∀ (i8 : Int),
   RSigned.sig.post [(D.I i0), (D.I i3), (D.I i8)] →
   (-9223372036854775808 ≤ i8 ∧ i8 < 9223372036854775808) →
   ((
    (i7 = i8) →
    Bit.sig.pre [(D.I i0), (D.I i2)] ∧ (
    ∀ (b9 : Bool),
    Bit.sig.post [(D.I i0), (D.I i2), (D.B b9)] →
    RBit.sig.pre [(D.I i0), (D.I i2)] ∧ (
    ∀ (b10 : Bool),
    RBit.sig.post [(D.I i0), (D.I i2), (D.B b10)] →
    ((
     (b9 = b10) →
     With.sig.pre [(D.I i0), (D.I i2)] ∧ (
     ∀ (i11 : Int),
     With.sig.post [(D.I i0), (D.I i2), (D.I i11)] →
     (0 ≤ i11 ∧ i11 < 18446744073709551616) →
     RWith.sig.pre [(D.I i0), (D.I i2)] ∧ (
     ∀ (i12 : Int),
     RWith.sig.post [(D.I i0), (D.I i2), (D.I i12)] →
     (0 ≤ i12 ∧ i12 < 18446744073709551616) →
     ((
      (i11 = i12) →
      Field.sig.pre [(D.I i0), (D.I i2), (D.I i3)] ∧ (
      ∀ (i13 : Int),
      Field.sig.post [(D.I i0), (D.I i2), (D.I i3), (D.I i13)] →
      (0 ≤ i13 ∧ i13 < 18446744073709551616) →
      RField.sig.pre [(D.I i0), (D.I i2), (D.I i3)] ∧ (
      ∀ (i14 : Int),
      RField.sig.post [(D.I i0), (D.I i2), (D.I i3), (D.I i14)] →
      (0 ≤ i14 ∧ i14 < 18446744073709551616) →
      ((
       (i13 = i14) →
       Lay.sig.pre [(D.I i0), (D.I i2), (D.I i3), (D.I i1)] ∧ (
       ∀ (i15 : Int),
       Lay.sig.post [(D.I i0), (D.I i2), (D.I i3), (D.I i1), (D.I i15)] →
       (0 ≤ i15 ∧ i15 < 18446744073709551616) →
       RLay.sig.pre [(D.I i0), (D.I i2), (D.I i3), (D.I i1)] ∧ (
       ∀ (i16 : Int),
       RLay.sig.post [(D.I i0), (D.I i2), (D.I i3), (D.I i1), (D.I i16)] →
       (0 ≤ i16 ∧ i16 < 18446744073709551616) →
       LParts.sig.post [(D.I i0), (D.I i1), (D.I i2), (D.I i3), (D.B (i15 == i16))]))) ∧ (
       (i13 ≠ i14) →
       LParts.sig.post [(D.I i0), (D.I i1), (D.I i2), (D.I i3), (D.B false)]))))) ∧ (
      (i11 ≠ i12) →
      LParts.sig.post [(D.I i0), (D.I i1), (D.I i2), (D.I i3), (D.B false)]))))) ∧ (
     (b9 ≠ b10) →
     LParts.sig.post [(D.I i0), (D.I i1), (D.I i2), (D.I i3), (D.B false)]))))) ∧ (
    (i7 ≠ i8) →
    LParts.sig.post [(D.I i0), (D.I i1), (D.I i2), (D.I i3), (D.B false)]))))) ∧ (
   (i5 ≠ i6) →
   LParts.sig.post [(D.I i0), (D.I i1), (D.I i2), (D.I i3), (D.B false)]))))) ∧ (
  (b4 = false) →
  LParts.sig.post [(D.I i0), (D.I i1), (D.I i2), (D.I i3), (D.B false)])))
theorem LParts.den : LParts.vc.den2 (mkEnv LParts.sig [Awake01.sig, Low.sig, RLow.sig, Signed.sig, RSigned.sig, Bit.sig, RBit.sig, With.sig, RWith.sig, Field.sig, RField.sig, Lay.sig, RLay.sig] []) [] = LParts.Pure := by kernel_rfl
def LBytes.vc : VC :=
 (.all .I
 (.all .S
 (.all .I
 (.know (.has .u64 (.at 0))
 (.know (.ssz (.at 1))
 (.know (.has .i64 (.at 2))
 (.post 0 [(.at 0), (.at 1), (.at 2)]
 (.pre 2 [(.at 1), (.int 20)]
 (.all .S
 (.post 2 [(.at 1), (.int 20), (.at 3)]
 (.know (.ssz (.at 3))
 (.pre 3 [(.at 0), (.at 2)]
 (.all .I
 (.all .I
 (.post 3 [(.at 0), (.at 2), (.at 4), (.at 5)]
 (.know (.has .u64 (.at 4))
 (.know (.has .i64 (.at 5))
 (.and
  (.imp (.o2 .eq (.at 2) (.int 1)) true
  (.pre 1 []
  (.all .B
  (.post 1 [(.at 6)]
  (.and
   (.imp (.at 6) true
   (.pre 4 [(.at 0), (.at 2)]
   (.all .S
   (.post 4 [(.at 0), (.at 2), (.at 7)]
   (.know (.ssz (.at 7))
   (.pre 5 [(.at 0), (.at 2)]
   (.all .S
   (.post 5 [(.at 0), (.at 2), (.at 8)]
   (.know (.ssz (.at 8))
   (.and
    (.imp (.o2 .eqs (.at 7) (.at 8)) true
    (.pre 6 [(.at 3)]
    (.all .I
    (.post 6 [(.at 3), (.at 9)]
    (.know (.has .u64 (.at 9))
    (.pre 7 [(.at 3)]
    (.all .I
    (.post 7 [(.at 3), (.at 10)]
    (.know (.has .u64 (.at 10))
    (.and
     (.imp (.o2 .eq (.at 9) (.at 10)) true
     (.pre 8 [(.at 0)]
     (.all .I
     (.post 8 [(.at 0), (.at 11)]
     (.know (.has .u64 (.at 11))
     (.pre 9 [(.at 0)]
     (.all .I
     (.post 9 [(.at 0), (.at 12)]
     (.know (.has .u64 (.at 12))
     (.and
      (.imp (.o2 .eq (.at 11) (.at 12)) true
      (.pre 10 [(.at 0), (.o2 (.mul .i64) (.int 8) (.at 2))]
      (.all .I
      (.post 10 [(.at 0), (.o2 (.mul .i64) (.int 8) (.at 2)), (.at 13)]
      (.know (.has .u64 (.at 13))
      (.and
       (.imp (.o2 .eq (.at 4) (.at 13)) true
       (.pre 11 [(.at 0), (.o2 (.mul .i64) (.int 8) (.at 2))]
       (.all .I
       (.post 11 [(.at 0), (.o2 (.mul .i64) (.int 8) (.at 2)), (.at 14)]
       (.know (.has .i64 (.at 14))
       (.and
        (.imp (.o2 .eq (.at 5) (.at 14)) true
        (.pre 12 [(.o1 (.wrap .i64) (.at 0))]
        (.all .I
        (.post 12 [(.o1 (.wrap .i64) (.at 0)), (.at 15)]
        (.know (.has .u64 (.at 15))
        (.pre 13 [(.o1 (.wrap .i64) (.at 0))]
        (.all .I
        (.post 13 [(.o1 (.wrap .i64) (.at 0)), (.at 16)]
        (.know (.has .u64 (.at 16))
        (.ret [(.at 0), (.at 1), (.at 2), (.o2 .eq (.at 15) (.at 16))]))))))))))
        (.imp (.o2 .eq (.at 5) (.at 14)) false
        (.ret [(.at 0), (.at 1), (.at 2), (.bool false)]))))))))
       (.imp (.o2 .eq (.at 4) (.at 13)) false
       (.ret [(.at 0), (.at 1), (.at 2), (.bool false)]))))))))
      (.imp (.o2 .eq (.at 11) (.at 12)) false
      (.ret [(.at 0), (.at 1), (.at 2), (.bool false)]))))))))))))
     (.imp (.o2 .eq (.at 9) (.at 10)) false
     (.ret [(.at 0), (.at 1), (.at 2), (.bool false)]))))))))))))
    (.imp (.o2 .eqs (.at 7) (.at 8)) false
    (.ret [(.at 0), (.at 1), (.at 2), (.bool false)]))))))))))))
   (.imp (.at 6) false
   (.ret [(.at 0), (.at 1), (.at 2), (.bool false)])))))))
  (.imp (.o2 .eq (.at 2) (.int 1)) false
  (.and
   (.imp (.o2 .eq (.at 2) (.int 2)) true
   (.pre 1 []
   (.all .B
   (.post 1 [(.at 6)]
   (.and
    (.imp (.at 6) true
    (.pre 4 [(.at 0), (.at 2)]
    (.all .S
    (.post 4 [(.at 0), (.at 2), (.at 7)]
    (.know (.ssz (.at 7))
    (.pre 5 [(.at 0), (.at 2)]
    (.all .S
    (.post 5 [(.at 0), (.at 2), (.at 8)]
    (.know (.ssz (.at 8))
    (.and
     (.imp (.o2 .eqs (.at 7) (.at 8)) true
     (.pre 6 [(.at 3)]
     (.all .I
     (.post 6 [(.at 3), (.at 9)]
     (.know (.has .u64 (.at 9))
     (.pre 7 [(.at 3)]
     (.all .I
     (.post 7 [(.at 3), (.at 10)]
     (.know (.has .u64 (.at 10))
     (.and
      (.imp (.o2 .eq (.at 9) (.at 10)) true
      (.pre 8 [(.at 0)]
      (.all .I
      (.post 8 [(.at 0), (.at 11)]
      (.know (.has .u64 (.at 11))
      (.pre 9 [(.at 0)]
      (.all .I
      (.post 9 [(.at 0), (.at 12)]
      (.know (.has .u64 (.at 12))
      (.and
       (.imp (.o2 .eq (.at 11) (.at 12)) true
       (.pre 10 [(.at 0), (.o2 (.mul .i64) (.int 8) (.at 2))]
       (.all .I
       (.post 10 [(.at 0), (.o2 (.mul .i64) (.int 8) (.at 2)), (.at 13)]
       (.know (.has .u64 (.at 13))
       (.and
        (.imp (.o2 .eq (.at 4) (.at 13)) true
        (.pre 11 [(.at 0), (.o2 (.mul .i64) (.int 8) (.at 2))]
        (.all .I
        (.post 11 [(.at 0), (.o2 (.mul .i64) (.int 8) (.at 2)), (.at 14)]
        (.know (.has .i64 (.at 14))
        (.and
         (.imp (.o2 .eq (.at 5) (.at 14)) true
         (.pre 12 [(.o1 (.wrap .i64) (.at 0))]
         (.all .I
         (.post 12 [(.o1 (.wrap .i64) (.at 0)), (.at 15)]
         (.know (.has .u64 (.at 15))
         (.pre 13 [(.o1 (.wrap .i64) (.at 0))]
         (.all .I
         (.post 13 [(.o1 (.wrap .i64) (.at 0)), (.at 16)]
         (.know (.has .u64 (.at 16))
         (.ret [(.at 0), (.at 1), (.at 2), (.o2 .eq (.at 15) (.at 16))]))))))))))
         (.imp (.o2 .eq (.at 5) (.at 14)) false
         (.ret [(.at 0), (.at 1), (.at 2), (.bool false)]))))))))
        (.imp (.o2 .eq (.at 4) (.at 13)) false
        (.ret [(.at 0), (.at 1), (.at 2), (.bool false)]))))))))
       (.imp (.o2 .eq (.at 11) (.at 12)) false
       (.ret [(.at 0), (.at 1), (.at 2), (.bool false)]))))))))))))
      (.imp (.o2 .eq (.at 9) (.at 10)) false
      (.ret [(.at 0), (.at 1), (.at 2), (.bool false)]))))))))))))
     (.imp (.o2 .eqs (.at 7) (.at 8)) false
     (.ret [(.at 0), (.at 1), (.at 2), (.bool false)]))))))))))))
    (.imp (.at 6) false
    (.ret [(.at 0), (.at 1), (.at 2), (.bool false)])))))))
   (.imp (.o2 .eq (.at 2) (.int 2)) false
   (.and
    (.imp (.o2 .eq (.at 2) (.int 4)) true
    (.pre 1 []
    (.all .B
    (.post 1 [(.at 6)]
    (.and
     (.imp (.at 6) true
     (.pre 4 [(.at 0), (.at 2)]
     (.all .S
     (.post 4 [(.at 0), (.at 2), (.at 7)]
     (.know (.ssz (.at 7))
     (.pre 5 [(.at 0), (.at 2)]
     (.all .S
     (.post 5 [(.at 0), (.at 2), (.at 8)]
     (.know (.ssz (.at 8))
     (.and
      (.imp (.o2 .eqs (.at 7) (.at 8)) true
      (.pre 6 [(.at 3)]
      (.all .I
      (.post 6 [(.at 3), (.at 9)]
      (.know (.has .u64 (.at 9))
      (.pre 7 [(.at 3)]
      (.all .I
      (.post 7 [(.at 3), (.at 10)]
      (.know (.has .u64 (.at 10))
      (.and
       (.imp (.o2 .eq (.at 9) (.at 10)) true
       (.pre 8 [(.at 0)]
       (.all .I
       (.post 8 [(.at 0), (.at 11)]
       (.know (.has .u64 (.at 11))
       (.pre 9 [(.at 0)]
       (.all .I
       (.post 9 [(.at 0), (.at 12)]
       (.know (.has .u64 (.at 12))
       (.and
        (.imp (.o2 .eq (.at 11) (.at 12)) true
        (.pre 10 [(.at 0), (.o2 (.mul .i64) (.int 8) (.at 2))]
        (.all .I
        (.post 10 [(.at 0), (.o2 (.mul .i64) (.int 8) (.at 2)), (.at 13)]
        (.know (.has .u64 (.at 13))
        (.and
         (.imp (.o2 .eq (.at 4) (.at 13)) true
         (.pre 11 [(.at 0), (.o2 (.mul .i64) (.int 8) (.at 2))]
         (.all .I
         (.post 11 [(.at 0), (.o2 (.mul .i64) (.int 8) (.at 2)), (.at 14)]
         (.know (.has .i64 (.at 14))
         (.and
          (.imp (.o2 .eq (.at 5) (.at 14)) true
          (.pre 12 [(.o1 (.wrap .i64) (.at 0))]
          (.all .I
          (.post 12 [(.o1 (.wrap .i64) (.at 0)), (.at 15)]
          (.know (.has .u64 (.at 15))
          (.pre 13 [(.o1 (.wrap .i64) (.at 0))]
          (.all .I
          (.post 13 [(.o1 (.wrap .i64) (.at 0)), (.at 16)]
          (.know (.has .u64 (.at 16))
          (.ret [(.at 0), (.at 1), (.at 2), (.o2 .eq (.at 15) (.at 16))]))))))))))
          (.imp (.o2 .eq (.at 5) (.at 14)) false
          (.ret [(.at 0), (.at 1), (.at 2), (.bool false)]))))))))
         (.imp (.o2 .eq (.at 4) (.at 13)) false
         (.ret [(.at 0), (.at 1), (.at 2), (.bool false)]))))))))
        (.imp (.o2 .eq (.at 11) (.at 12)) false
        (.ret [(.at 0), (.at 1), (.at 2), (.bool false)]))))))))))))
       (.imp (.o2 .eq (.at 9) (.at 10)) false
       (.ret [(.at 0), (.at 1), (.at 2), (.bool false)]))))))))))))
      (.imp (.o2 .eqs (.at 7) (.at 8)) false
      (.ret [(.at 0), (.at 1), (.at 2), (.bool false)]))))))))))))
     (.imp (.at 6) false
     (.ret [(.at 0), (.at 1), (.at 2), (.bool false)])))))))
    (.imp (.o2 .eq (.at 2) (.int 4)) false
    (.pre 1 []
    (.all .B
    (.post 1 [(.at 6)]
    (.and
     (.imp (.at 6) true
     (.pre 4 [(.at 0), (.at 2)]
     (.all .S
     (.post 4 [(.at 0), (.at 2), (.at 7)]
     (.know (.ssz (.at 7))
     (.pre 5 [(.at 0), (.at 2)]
     (.all .S
     (.post 5 [(.at 0), (.at 2), (.at 8)]
     (.know (.ssz (.at 8))
     (.and
      (.imp (.o2 .eqs (.at 7) (.at 8)) true
      (.pre 6 [(.at 3)]
      (.all .I
      (.post 6 [(.at 3), (.at 9)]
      (.know (.has .u64 (.at 9))
      (.pre 7 [(.at 3)]
      (.all .I
      (.post 7 [(.at 3), (.at 10)]
      (.know (.has .u64 (.at 10))
      (.and
       (.imp (.o2 .eq (.at 9) (.at 10)) true
       (.pre 8 [(.at 0)]
       (.all .I
       (.post 8 [(.at 0), (.at 11)]
       (.know (.has .u64 (.at 11))
       (.pre 9 [(.at 0)]
       (.all .I
       (.post 9 [(.at 0), (.at 12)]
       (.know (.has .u64 (.at 12))
       (.and
        (.imp (.o2 .eq (.at 11) (.at 12)) true
        (.pre 10 [(.at 0), (.int 64)]
        (.all .I
        (.post 10 [(.at 0), (.int 64), (.at 13)]
        (.know (.has .u64 (.at 13))
        (.and
         (.imp (.o2 .eq (.at 4) (.at 13)) true
         (.pre 11 [(.at 0), (.int 64)]
         (.all .I
         (.post 11 [(.at 0), (.int 64), (.at 14)]
         (.know (.has .i64 (.at 14))
         (.and
          (.imp (.o2 .eq (.at 5) (.at 14)) true
          (.pre 12 [(.o1 (.wrap .i64) (.at 0))]
          (.all .I
          (.post 12 [(.o1 (.wrap .i64) (.at 0)), (.at 15)]
          (.know (.has .u64 (.at 15))
          (.pre 13 [(.o1 (.wrap .i64) (.at 0))]
          (.all .I
          (.post 13 [(.o1 (.wrap .i64) (.at 0)), (.at 16)]
          (.know (.has .u64 (.at 16))
          (.ret [(.at 0), (.at 1), (.at 2), (.o2 .eq (.at 15) (.at 16))]))))))))))
          (.imp (.o2 .eq (.at 5) (.at 14)) false
          (.ret [(.at 0), (.at 1), (.at 2), (.bool false)]))))))))
         (.imp (.o2 .eq (.at 4) (.at 13)) false
         (.ret [(.at 0), (.at 1), (.at 2), (.bool false)]))))))))
        (.imp (.o2 .eq (.at 11) (.at 12)) false
        (.ret [(.at 0), (.at 1), (.at 2), (.bool false)]))))))))))))
       (.imp (.o2 .eq (.at 9) (.at 10)) false
       (.ret [(.at 0), (.at 1), (.at 2), (.bool false)]))))))))))))
      (.imp (.o2 .eqs (.at 7) (.at 8)) false
      (.ret [(.at 0), (.at 1), (.at 2), (.bool false)]))))))))))))
     (.imp (.at 6) false
     (.ret [(.at 0), (.at 1), (.at 2), (.bool false)])))))))))))))))))))))))))))))
def LBytes.Pure : Prop :=
 ∀ (i0 : Int),
 ∀ (s1 : ByteArray),
 ∀ (i2 : Int),
 (0 ≤ i0 ∧ i0 < 18446744073709551616) →
 ((s1.size : Int) ≤ 9223372036854775807) →
 (-9223372036854775808 ≤ i2 ∧ i2 < 9223372036854775808) →
 LBytes.sig.pre [(D.I i0), (D.S s1), (D.I i2)] →
 Cut.sig.pre [(D.S s1), (D.I (20 : Int))] ∧ (
 ∀ (s3 : ByteArray),
 Cut.sig.post [(D.S s1), (D.I (20 : Int)), (D.S s3)] →
 ((s3.size : Int) ≤ 9223372036854775807) →
 Narrow.sig.pre [(D.I i0), (D.I i2)] ∧ (
 ∀ (i4 : Int),
 ∀ (i5 : Int),
 Narrow.sig.post [(D.I i0), (D.I i2), (D.I i4), (D.I i5)] →
 (0 ≤ i4 ∧ i4 < 18446744073709551616) →
 (-9223372036854775808 ≤ i5 ∧ i5 < 9223372036854775808) →
 ((
  (i2 = (1 : Int)) →
  Awake01.sig.pre [] ∧ (
  ∀ (b6 : Bool),
  Awake01.sig.post [(D.B b6)] →
  ((
   (b6 = true) →
   Bytes.sig.pre [(D.I i0), (D.I i2)] ∧ (
   ∀ (s7 : ByteArray),
   Bytes.sig.post [(D.I i0), (D.I i2), (D.S s7)] →
   ((s7.size : Int) ≤ 9223372036854775807) →
   RBytes.sig.pre [(D.I i0), (D.I i2)] ∧ (
   ∀ (s8 : ByteArray),
   RBytes.sig.post [(D.I i0), (D.I i2), (D.S s8)] →
   ((s8.size : Int) ≤ 9223372036854775807) →
   ((
    (s7 = s8) →
    Number.sig.pre [(D.S s3)] ∧ (
    ∀ (i9 : Int),
    Number.sig.post [(D.S s3), (D.I i9)] →
    (0 ≤ i9 ∧ i9 < 18446744073709551616) →
    RNumber.sig.pre [(D.S s3)] ∧ (
    ∀ (i10 : Int),
    RNumber.sig.post [(D.S s3), (D.I i10)] →
    (0 ≤ i10 ∧ i10 < 18446744073709551616) →
    ((
     (i9 = i10) →
     Swap.sig.pre [(D.I i0)] ∧ (
     ∀ (i11 : Int),
     Swap.sig.post [(D.I i0), (D.I i11)] →
     (0 ≤ i11 ∧ i11 < 18446744073709551616) →
     RSwap.sig.pre [(D.I i0)] ∧ (
     ∀ (i12 : Int),
     RSwap.sig.post [(D.I i0), (D.I i12)] →
     (0 ≤ i12 ∧ i12 < 18446744073709551616) →
     ((
      (i11 = i12) →
      RLow.sig.pre [(D.I i0), (D.I (IntKind.wrap .i64 ((8 : Int) * i2)))] ∧ (
      ∀ (i13 : Int),
      RLow.sig.post [(D.I i0), (D.I (IntKind.wrap .i64 ((8 : Int) * i2))), (D.I i13)] →
      (0 ≤ i13 ∧ i13 < 18446744073709551616) →
      ((
       (i4 = i13) →
       RSigned.sig.pre [(D.I i0), (D.I (IntKind.wrap .i64 ((8 : Int) * i2)))] ∧ (
       ∀ (i14 : Int),
       RSigned.sig.post [(D.I i0), (D.I (IntKind.wrap .i64 ((8 : Int) * i2))), (D.I i14)] →
       (-9223372036854775808 ≤ i14 ∧ i14 < 9223372036854775808) →
       ((
        (i5 = i14) →
        Fold.sig.pre [(D.I (IntKind.wrap .i64 i0))] ∧ (
        ∀ (i15 : Int),
        Fold.sig.post [(D.I (IntKind.wrap .i64 i0)), (D.I i15)] →
        (0 ≤ i15 ∧ i15 < 18446744073709551616) →
        RFold.sig.pre [(D.I (IntKind.wrap .i64 i0))] ∧ (
        ∀ (i16 : Int),
        RFold.sig.post [(D.I (IntKind.wrap .i64 i0)), (D.I i16)] →
        (0 ≤ i16 ∧ i16 < 18446744073709551616) →
        LBytes.sig.post [(D.I i0), (D.S s1), (D.I i2), (D.B (i15 == i16))]))) ∧ (
        (i5 ≠ i14) →
        LBytes.sig.post [(D.I i0), (D.S s1), (D.I i2), (D.B false)])))) ∧ (
       (i4 ≠ i13) →
       LBytes.sig.post [(D.I i0), (D.S s1), (D.I i2), (D.B false)])))) ∧ (
      (i11 ≠ i12) →
      LBytes.sig.post [(D.I i0), (D.S s1), (D.I i2), (D.B false)]))))) ∧ (
     (i9 ≠ i10) →
     LBytes.sig.post [(D.I i0), (D.S s1), (D.I i2), (D.B false)]))))) ∧ (
    (s7 ≠ s8) →
    LBytes.sig.post [(D.I i0), (D.S s1), (D.I i2), (D.B false)]))))) ∧ (
   (b6 = false) →
   LBytes.sig.post [(D.I i0), (D.S s1), (D.I i2), (D.B false)])))) ∧ (
  (i2 ≠ (1 : Int)) →
  ((
   (i2 = (2 : Int)) →
   Awake01.sig.pre [] ∧ (
   ∀ (b6 : Bool),
   Awake01.sig.post [(D.B b6)] →
   ((
    (b6 = true) →
    Bytes.sig.pre [(D.I i0), (D.I i2)] ∧ (
    ∀ (s7 : ByteArray),
    Bytes.sig.post [(D.I i0), (D.I i2), (D.S s7)] →
    ((s7.size : Int) ≤ 9223372036854775807) →
    RBytes.sig.pre [(D.I i0), (D.I i2)] ∧ (
    ∀ (s8 : ByteArray),
    RBytes.sig.post [(D.I i0), (D.I i2), (D.S s8)] →
    ((s8.size : Int) ≤ 9223372036854775807) →
    ((
     (s7 = s8) →
     Number.sig.pre [(D.S s3)] ∧ (
     ∀ (i9 : Int),
     Number.sig.post [(D.S s3), (D.I i9)] →
     (0 ≤ i9 ∧ i9 < 18446744073709551616) →
     RNumber.sig.pre [(D.S s3)] ∧ (
     ∀ (i10 : Int),
     RNumber.sig.post [(D.S s3), (D.I i10)] →
     (0 ≤ i10 ∧ i10 < 18446744073709551616) →
     ((
      (i9 = i10) →
      Swap.sig.pre [(D.I i0)] ∧ (
      ∀ (i11 : Int),
      Swap.sig.post [(D.I i0), (D.I i11)] →
      (0 ≤ i11 ∧ i11 < 18446744073709551616) →
      RSwap.sig.pre [(D.I i0)] ∧ (
      ∀ (i12 : Int),
      RSwap.sig.post [(D.I i0), (D.I i12)] →
      (0 ≤ i12 ∧ i12 < 18446744073709551616) →
      ((
       (i11 = i12) →
       RLow.sig.pre [(D.I i0), (D.I (IntKind.wrap .i64 ((8 : Int) * i2)))] ∧ (
       ∀ (i13 : Int),
       RLow.sig.post [(D.I i0), (D.I (IntKind.wrap .i64 ((8 : Int) * i2))), (D.I i13)] →
       (0 ≤ i13 ∧ i13 < 18446744073709551616) →
       ((
        (i4 = i13) →
        RSigned.sig.pre [(D.I i0), (D.I (IntKind.wrap .i64 ((8 : Int) * i2)))] ∧ (
        ∀ (i14 : Int),
        RSigned.sig.post [(D.I i0), (D.I (IntKind.wrap .i64 ((8 : Int) * i2))), (D.I i14)] →
        (-9223372036854775808 ≤ i14 ∧ i14 < 9223372036854775808) →
        ((
         (i5 = i14) →
         Fold.sig.pre [(D.I (IntKind.wrap .i64 i0))] ∧ (
         ∀ (i15 : Int),
         Fold.sig.post [(D.I (IntKind.wrap .i64 i0)), (D.I i15)] →
         (0 ≤ i15 ∧ i15 < 18446744073709551616) →
         RFold.sig.pre [(D.I (IntKind.wrap .i64 i0))] ∧ (
         ∀ (i16 : Int),
         RFold.sig.post [(D.I (IntKind.wrap .i64 i0)), (D.I i16)] →
         (0 ≤ i16 ∧ i16 < 18446744073709551616) →
         LBytes.sig.post [(D.I i0), (D.S s1), (D.I i2), (D.B (i15 == i16))]))) ∧ (
         (i5 ≠ i14) →
         LBytes.sig.post [(D.I i0), (D.S s1), (D.I i2), (D.B false)])))) ∧ (
        (i4 ≠ i13) →
        LBytes.sig.post [(D.I i0), (D.S s1), (D.I i2), (D.B false)])))) ∧ (
       (i11 ≠ i12) →
       LBytes.sig.post [(D.I i0), (D.S s1), (D.I i2), (D.B false)]))))) ∧ (
      (i9 ≠ i10) →
      LBytes.sig.post [(D.I i0), (D.S s1), (D.I i2), (D.B false)]))))) ∧ (
     (s7 ≠ s8) →
     LBytes.sig.post [(D.I i0), (D.S s1), (D.I i2), (D.B false)]))))) ∧ (
    (b6 = false) →
    LBytes.sig.post [(D.I i0), (D.S s1), (D.I i2), (D.B false)])))) ∧ (
   (i2 ≠ (2 : Int)) →
   ((
    (i2 = (4 : Int)) →
    Awake01.sig.pre [] ∧ (
    ∀ (b6 : Bool),
    Awake01.sig.post [(D.B b6)] →
    ((
     (b6 = true) →
     Bytes.sig.pre [(D.I i0), (D.I i2)] ∧ (
     ∀ (s7 : ByteArray),
     Bytes.sig.post [(D.I i0), (D.I i2), (D.S s7)] →
     ((s7.size : Int) ≤ 9223372036854775807) →
     RBytes.sig.pre [(D.I i0), (D.I i2)] ∧ (
     ∀ (s8 : ByteArray),
     RBytes.sig.post [(D.I i0), (D.I i2), (D.S s8)] →
     ((s8.size : Int) ≤ 9223372036854775807) →
     ((
      (s7 = s8) →
      Number.sig.pre [(D.S s3)] ∧ (
      ∀ (i9 : Int),
      Number.sig.post [(D.S s3), (D.I i9)] →
      (0 ≤ i9 ∧ i9 < 18446744073709551616) →
      RNumber.sig.pre [(D.S s3)] ∧ (
      ∀ (i10 : Int),
      RNumber.sig.post [(D.S s3), (D.I i10)] →
      (0 ≤ i10 ∧ i10 < 18446744073709551616) →
      ((
       (i9 = i10) →
       Swap.sig.pre [(D.I i0)] ∧ (
       ∀ (i11 : Int),
       Swap.sig.post [(D.I i0), (D.I i11)] →
       (0 ≤ i11 ∧ i11 < 18446744073709551616) →
       RSwap.sig.pre [(D.I i0)] ∧ (
       ∀ (i12 : Int),
       RSwap.sig.post [(D.I i0), (D.I i12)] →
       (0 ≤ i12 ∧ i12 < 18446744073709551616) →
       ((
        (i11 = i12) →
        RLow.sig.pre [(D.I i0), (D.I (IntKind.wrap .i64 ((8 : Int) * i2)))] ∧ (
        ∀ (i13 : Int),
        RLow.sig.post [(D.I i0), (D.I (IntKind.wrap .i64 ((8 : Int) * i2))), (D.I i13)] →
        (0 ≤ i13 ∧ i13 < 18446744073709551616) →
        ((
         (i4 = i13) →
         RSigned.sig.pre [(D.I i0), (D.I (IntKind.wrap .i64 ((8 : Int) * i2)))] ∧ (
         ∀ (i14 : Int),
         RSigned.sig.post [(D.I i0), (D.I (IntKind.wrap .i64 ((8 : Int) * i2))), (D.I i14)] →
         (-9223372036854775808 ≤ i14 ∧ i14 < 9223372036854775808) →
         ((
          (i5 = i14) →
          Fold.sig.pre [(D.I (IntKind.wrap .i64 i0))] ∧ (
          ∀ (i15 : Int),
          Fold.sig.post [(D.I (IntKind.wrap .i64 i0)), (D.I i15)] →
          (0 ≤ i15 ∧ i15 < 18446744073709551616) →
          RFold.sig.pre [(D.I (IntKind.wrap .i64 i0))] ∧ (
          ∀ (i16 : Int),
          RFold.sig.post [(D.I (IntKind.wrap .i64 i0)), (D.I i16)] →
          (0 ≤ i16 ∧ i16 < 18446744073709551616) →
          LBytes.sig.post [(D.I i0), (D.S s1), (D.I i2), (D.B (i15 == i16))]))) ∧ (
          (i5 ≠ i14) →
          LBytes.sig.post [(D.I i0), (D.S s1), (D.I i2), (D.B false)])))) ∧ (
         (i4 ≠ i13) →
         LBytes.sig.post [(D.I i0), (D.S s1), (D.I i2), (D.B false)])))) ∧ (
        (i11 ≠ i12) →
        LBytes.sig.post [(D.I i0), (D.S s1), (D.I i2), (D.B false)]))))) ∧ (
       (i9 ≠ i10) →
       LBytes.sig.post [(D.I i0), (D.S s1), (D.I i2), (D.B false)]))))) ∧ (
      (s7 ≠ s8) →
      LBytes.sig.post [(D.I i0), (D.S s1), (D.I i2), (D.B false)]))))) ∧ (
     (b6 = false) →
     LBytes.sig.post [(D.I i0), (D.S s1), (D.I i2), (D.B false)])))) ∧ (
    (i2 ≠ (4 : Int)) →
    Awake01.sig.pre [] ∧ (
    ∀ (b6 : Bool),
    Awake01.sig.post [(D.B b6)] →
    ((
     (b6 = true) →
     Bytes.sig.pre [(D.I i0), (D.I i2)] ∧ (
     ∀ (s7 : ByteArray),
     Bytes.sig.post [(D.I i0), (D.I i2), (D.S s7)] →
     ((s7.size : Int) ≤ 9223372036854775807) →
     RBytes.sig.pre [(D.I i0), (D.I i2)] ∧ (
     ∀ (s8 : ByteArray),
     RBytes.sig.post [(D.I i0), (D.I i2), (D.S s8)] →
     ((s8.size : Int) ≤ 9223372036854775807) →
     ((
      (s7 = s8) →
      Number.sig.pre [(D.S s3)] ∧ (
      ∀ (i9 : Int),
      Number.sig.post [(D.S s3), (D.I i9)] →
      (0 ≤ i9 ∧ i9 < 18446744073709551616) →
      RNumber.sig.pre [(D.S s3)] ∧ (
      ∀ (i10 : Int),
      RNumber.sig.post [(D.S s3), (D.I i10)] →
      (0 ≤ i10 ∧ i10 < 18446744073709551616) →
      ((
       (i9 = i10) →
       Swap.sig.pre [(D.I i0)] ∧ (
       ∀ (i11 : Int),
       Swap.sig.post [(D.I i0), (D.I i11)] →
       (0 ≤ i11 ∧ i11 < 18446744073709551616) →
       RSwap.sig.pre [(D.I i0)] ∧ (
       ∀ (i12 : Int),
       RSwap.sig.post [(D.I i0), (D.I i12)] →
       (0 ≤ i12 ∧ i12 < 18446744073709551616) →
       ((
        (i11 = i12) →
        RLow.sig.pre [(D.I i0), (D.I (64 : Int))] ∧ (
        ∀ (i13 : Int),
        RLow.sig.post [(D.I i0), (D.I (64 : Int)), (D.I i13)] →
        (0 ≤ i13 ∧ i13 < 18446744073709551616) →
        ((
         (i4 = i13) →
         RSigned.sig.pre [(D.I i0), (D.I (64 : Int))] ∧ (
         ∀ (i14 : Int),
         RSigned.sig.post [(D.I i0), (D.I (64 : Int)), (D.I i14)] →
         (-9223372036854775808 ≤ i14 ∧ i14 < 9223372036854775808) →
         ((
          (i5 = i14) →
          Fold.sig.pre [(D.I (IntKind.wrap .i64 i0))] ∧ (
          ∀ (i15 : Int),
          Fold.sig.post [(D.I (IntKind.wrap .i64 i0)), (D.I i15)] →
          (0 ≤ i15 ∧ i15 < 18446744073709551616) →
          RFold.sig.pre [(D.I (IntKind.wrap .i64 i0))] ∧ (
          ∀ (i16 : Int),
          RFold.sig.post [(D.I (IntKind.wrap .i64 i0)), (D.I i16)] →
          (0 ≤ i16 ∧ i16 < 18446744073709551616) →
          LBytes.sig.post [(D.I i0), (D.S s1), (D.I i2), (D.B (i15 == i16))]))) ∧ (
          (i5 ≠ i14) →
          LBytes.sig.post [(D.I i0), (D.S s1), (D.I i2), (D.B false)])))) ∧ (
         (i4 ≠ i13) →
         LBytes.sig.post [(D.I i0), (D.S s1), (D.I i2), (D.B false)])))) ∧ (
        (i11 ≠ i12) →
        LBytes.sig.post [(D.I i0), (D.S s1), (D.I i2), (D.B false)]))))) ∧ (
       (i9 ≠ i10) →
       LBytes.sig.post [(D.I i0), (D.S s1), (D.I i2), (D.B false)]))))) ∧ (
      (s7 ≠ s8) →
      LBytes.sig.post [(D.I i0), (D.S s1), (D.I i2), (D.B false)]))))) ∧ (
     (b6 = false) →
     LBytes.sig.post [(D.I i0), (D.S s1), (D.I i2), (D.B false)])))))))))))
theorem LBytes.den : LBytes.vc.den2 (mkEnv LBytes.sig [Awake01.sig, Cut.sig, Narrow.sig, Bytes.sig, RBytes.sig, Number.sig, RNumber.sig, Swap.sig, RSwap.sig, RLow.sig, RSigned.sig, Fold.sig, RFold.sig] []) [] = LBytes.Pure := by kernel_rfl
def LBack.vc : VC :=
 (.all .I
 (.all .I
 (.know (.has .u64 (.at 0))
 (.know (.has .i64 (.at 1))
 (.post 0 [(.at 0), (.at 1)]
 (.and
  (.imp (.o2 .lt (.at 1) (.int (-1000))) true
  (.pre 1 []
  (.all .B
  (.post 1 [(.at 2)]
  (.ret [(.at 0), (.at 1), (.at 2)])))))
  (.imp (.o2 .lt (.at 1) (.int (-1000))) false
  (.and
   (.imp (.o2 .lt (.int 1000) (.at 1)) true
   (.pre 1 []
   (.all .B
   (.post 1 [(.at 2)]
   (.ret [(.at 0), (.at 1), (.at 2)])))))
   (.imp (.o2 .lt (.int 1000) (.at 1)) false
   (.pre 1 []
   (.all .B
   (.post 1 [(.at 2)]
   (.and
    (.imp (.at 2) true
    (.pre 2 [(.at 0), (.at 1)]
    (.all .I
    (.post 2 [(.at 0), (.at 1), (.at 3)]
    (.know (.has .u64 (.at 3))
    (.pre 2 [(.at 3), (.o2 (.sub .i64) (.int 0) (.at 1))]
    (.all .I
    (.post 2 [(.at 3), (.o2 (.sub .i64) (.int 0) (.at 1)), (.at 4)]
    (.know (.has .u64 (.at 4))
    (.and
     (.imp (.o2 .eq (.at 4) (.at 0)) true
     (.pre 3 [(.at 0)]
     (.all .I
     (.post 3 [(.at 0), (.at 5)]
     (.know (.has .u64 (.at 5))
     (.pre 3 [(.at 5)]
     (.all .I
     (.post 3 [(.at 5), (.at 6)]
     (.know (.has .u64 (.at 6))
     (.and
      (.imp (.o2 .eq (.at 6) (.at 0)) true
      (.pre 4 [(.o1 (.wrap .i64) (.at 0))]
      (.all .I
      (.post 4 [(.o1 (.wrap .i64) (.at 0)), (.at 7)]
      (.know (.has .u64 (.at 7))
      (.pre 5 [(.at 7)]
      (.all .I
      (.post 5 [(.at 7), (.at 8)]
      (.know (.has .i64 (.at 8))
      (.and
       (.imp (.o2 .eq (.at 8) (.o1 (.wrap .i64) (.at 0))) true
       (.pre 5 [(.at 0)]
       (.all .I
       (.post 5 [(.at 0), (.at 9)]
       (.know (.has .i64 (.at 9))
       (.pre 4 [(.at 9)]
       (.all .I
       (.post 4 [(.at 9), (.at 10)]
       (.know (.has .u64 (.at 10))
       (.and
        (.imp (.o2 .eq (.at 10) (.at 0)) true
        (.pre 7 [(.at 0), (.int 8)]
        (.all .S
        (.post 7 [(.at 0), (.int 8), (.at 11)]
        (.know (.ssz (.at 11))
        (.pre 6 [(.at 11)]
        (.all .I
        (.post 6 [(.at 11), (.at 12)]
        (.know (.has .u64 (.at 12))
        (.ret [(.at 0), (.at 1), (.o2 .eq (.at 12) (.at 0))]))))))))))
        (.imp (.o2 .eq (.at 10) (.at 0)) false
        (.ret [(.at 0), (.at 1), (.bool false)]))))))))))))
       (.imp (.o2 .eq (.at 8) (.o1 (.wrap .i64) (.at 0))) false
       (.ret [(.at 0), (.at 1), (.bool false)]))))))))))))
      (.imp (.o2 .eq (.at 6) (.at 0)) false
      (.ret [(.at 0), (.at 1), (.bool false)]))))))))))))
     (.imp (.o2 .eq (.at 4) (.at 0)) false
     (.ret [(.at 0), (.at 1), (.bool false)]))))))))))))
    (.imp (.at 2) false
    (.ret [(.at 0), (.at 1), (.bool false)])))))))))))))))
def LBack.Pure : Prop :=
 ∀ (i0 : Int),
 ∀ (i1 : Int),
 (0 ≤ i0 ∧ i0 < 18446744073709551616) →
 (-9223372036854775808 ≤ i1 ∧ i1 < 9223372036854775808) →
 LBack.sig.pre [(D.I i0), (D.I i1)] →
 ((
  (i1 < (-1000 : Int)) →
  Awake01.sig.pre [] ∧ (
  ∀ (b2 : Bool),
  Awake01.sig.post [(D.B b2)] →
  LBack.sig.post [(D.I i0), (D.I i1), (D.B b2)])) ∧ (
  ((-1000 : Int) ≤ i1) →
  ((
   ((1000 : Int) < i1) →
   Awake01.sig.pre [] ∧ (
   ∀ (b2 : Bool),
   Awake01.sig.post [(D.B b2)] →
   LBack.sig.post [(D.I i0), (D.I i1), (D.B b2)])) ∧ (
   (i1 ≤ (1000 : Int)) →
   Awake01.sig.pre [] ∧ (
   ∀ (b2 : Bool),
   Awake01.sig.post [(D.B b2)] →
   ((
    (b2 = true) →
    Turn.sig.pre [(D.I i0), (D.I i1)] ∧ (
    ∀ (i3 : Int),
    Turn.sig.post [(D.I i0), (D.I i1), (D.I i3)] →
    (0 ≤ i3 ∧ i3 < 18446744073709551616) →
    Turn.sig.pre [(D.I i3), (D.I (IntKind.wrap .i64 ((0 : Int) - i1)))] ∧ (
    ∀ (i4 : Int),
    Turn.sig.post [(D.I i3), (D.I (IntKind.wrap .i64 ((0 : Int) - i1))), (D.I i4)] →
    (0 ≤ i4 ∧ i4 < 18446744073709551616) →
    ((
     (i4 = i0) →
     Swap.sig.pre [(D.I i0)] ∧ (
     ∀ (i5 : Int),
     Swap.sig.post [(D.I i0), (D.I i5)] →
     (0 ≤ i5 ∧ i5 < 18446744073709551616) →
     Swap.sig.pre [(D.I i5)] ∧ (
     ∀ (i6 : Int),
     Swap.sig.post [(D.I i5), (D.I i6)] →
     (0 ≤ i6 ∧ i6 < 18446744073709551616) →
     ((
      (i6 = i0) →
      Fold.sig.pre [(D.I (IntKind.wrap .i64 i0))] ∧ (
      ∀ (i7 : Int),
      Fold.sig.post [(D.I (IntKind.wrap .i64 i0)), (D.I i7)] →
      (0 ≤ i7 ∧ i7 < 18446744073709551616) →
      Unfold.sig.pre [(D.I i7)] ∧ (
      ∀ (i8 : Int),
      Unfold.sig.post [(D.I i7), (D.I i8)] →
      (-9223372036854775808 ≤ i8 ∧ i8 < 9223372036854775808) →
      ((
       (i8 = (IntKind.wrap .i64 i0)) →
       Unfold.sig.pre [(D.I i0)] ∧ (
       ∀ (i9 : Int),
       Unfold.sig.post [(D.I i0), (D.I i9)] →
       (-9223372036854775808 ≤ i9 ∧ i9 < 9223372036854775808) →
       Fold.sig.pre [(D.I i9)] ∧ (
       ∀ (i10 : Int),
       Fold.sig.post [(D.I i9), (D.I i10)] →
       (0 ≤ i10 ∧ i10 < 18446744073709551616) →
       ((
        (i10 = i0) →
        Bytes.sig.pre [(D.I i0), (D.I (8 : Int))] ∧ (
        ∀ (s11 : ByteArray),
        Bytes.sig.post [(D.I i0), (D.I (8 : Int)), (D.S s11)] →
        ((s11.size : Int) ≤ 9223372036854775807) →
        Number.sig.pre [(D.S s11)] ∧ (
        ∀ (i12 : Int),
        Number.sig.post [(D.S s11), (D.I i12)] →
        (0 ≤ i12 ∧ i12 < 18446744073709551616) →
        LBack.sig.post [(D.I i0), (D.I i1), (D.B (i12 == i0))]))) ∧ (
        (i10 ≠ i0) →
        LBack.sig.post [(D.I i0), (D.I i1), (D.B false)]))))) ∧ (
       (i8 ≠ (IntKind.wrap .i64 i0)) →
       LBack.sig.post [(D.I i0), (D.I i1), (D.B false)]))))) ∧ (
      (i6 ≠ i0) →
      LBack.sig.post [(D.I i0), (D.I i1), (D.B false)]))))) ∧ (
     (i4 ≠ i0) →
     LBack.sig.post [(D.I i0), (D.I i1), (D.B false)]))))) ∧ (
    (b2 = false) →
    LBack.sig.post [(D.I i0), (D.I i1), (D.B false)])))))))
theorem LBack.den : LBack.vc.den2 (mkEnv LBack.sig [Awake01.sig, Turn.sig, Swap.sig, Fold.sig, Unfold.sig, Number.sig, Bytes.sig] []) [] = LBack.Pure := by kernel_rfl
def LLaid.vc : VC :=
 (.all .I
 (.all .I
 (.all .I
 (.all .I
 (.know (.has .u64 (.at 0))
 (.know (.has .u64 (.at 1))
 (.know (.has .i64 (.at 2))
 (.know (.has .i64 (.at 3))
 (.post 0 [(.at 0), (.at 1), (.at 2), (.at 3)]
 (.and
  (.imp (.o2 .lt (.at 2) (.int 0)) true
  (.pre 1 []
  (.all .B
  (.post 1 [(.at 4)]
  (.ret [(.at 0), (.at 1), (.at 2), (.at 3), (.at 4)])))))
  (.imp (.o2 .lt (.at 2) (.int 0)) false
  (.and
   (.imp (.o2 .lt (.at 3) (.int 1)) true
   (.pre 1 []
   (.all .B
   (.post 1 [(.at 4)]
   (.ret [(.at 0), (.at 1), (.at 2), (.at 3), (.at 4)])))))
   (.imp (.o2 .lt (.at 3) (.int 1)) false
   (.and
    (.imp (.o2 .lt (.int 64) (.at 3)) true
    (.pre 1 []
    (.all .B
    (.post 1 [(.at 4)]
    (.ret [(.at 0), (.at 1), (.at 2), (.at 3), (.at 4)])))))
    (.imp (.o2 .lt (.int 64) (.at 3)) false
    (.and
     (.imp (.o2 .lt (.o2 (.sub .i64) (.int 64) (.at 3)) (.at 2)) true
     (.pre 1 []
     (.all .B
     (.post 1 [(.at 4)]
     (.ret [(.at 0), (.at 1), (.at 2), (.at 3), (.at 4)])))))
     (.imp (.o2 .lt (.o2 (.sub .i64) (.int 64) (.at 3)) (.at 2)) false
     (.pre 2 [(.at 0), (.at 2), (.at 3), (.at 1)]
     (.all .I
     (.post 2 [(.at 0), (.at 2), (.at 3), (.at 1), (.at 4)]
     (.know (.has .u64 (.at 4))
     (.inv 0 [(.at 0), (.at 1), (.at 2), (.at 3), (.int 0)]
     (.all .I
     (.know (.has .i64 (.at 5))
     (.asm 0 [(.at 0), (.at 1), (.at 2), (.at 3), (.at 5)]
     (.and
      (.imp (.o2 .lt (.at 5) (.int 64)) true
      (.and
       (.imp (.o2 .lt (.at 5) (.at 2)) true
       (.pre 3 [(.at 4), (.at 5)]
       (.all .B
       (.post 3 [(.at 4), (.at 5), (.at 6)]
       (.pre 3 [(.at 0), (.at 5)]
       (.all .B
       (.post 3 [(.at 0), (.at 5), (.at 7)]
       (.and
        (.imp (.o1 .not (.o2 .eqb (.at 6) (.at 7))) true
        (.ret [(.at 0), (.at 1), (.at 2), (.at 3), (.bool false)]))
        (.imp (.o1 .not (.o2 .eqb (.at 6) (.at 7))) false
        (.back 0 [(.at 0), (.at 1), (.at 2), (.at 3), (.at 5)] [(.at 0), (.at 1), (.at 2), (.at 3), (.o2 (.add .i64) (.at 5) (.int 1))]))))))))))
       (.imp (.o2 .lt (.at 5) (.at 2)) false
       (.and
        (.imp (.o2 .le (.o2 (.add .i64) (.at 2) (.at 3)) (.at 5)) true
        (.pre 3 [(.at 4), (.at 5)]
        (.all .B
        (.post 3 [(.at 4), (.at 5), (.at 6)]
        (.pre 3 [(.at 0), (.at 5)]
        (.all .B
        (.post 3 [(.at 0), (.at 5), (.at 7)]
        (.and
         (.imp (.o1 .not (.o2 .eqb (.at 6) (.at 7))) true
         (.ret [(.at 0), (.at 1), (.at 2), (.at 3), (.bool false)]))
         (.imp (.o1 .not (.o2 .eqb (.at 6) (.at 7))) false
         (.back 0 [(.at 0), (.at 1), (.at 2), (.at 3), (.at 5)] [(.at 0), (.at 1), (.at 2), (.at 3), (.o2 (.add .i64) (.at 5) (.int 1))]))))))))))
        (.imp (.o2 .le (.o2 (.add .i64) (.at 2) (.at 3)) (.at 5)) false
        (.back 0 [(.at 0), (.at 1), (.at 2), (.at 3), (.at 5)] [(.at 0), (.at 1), (.at 2), (.at 3), (.o2 (.add .i64) (.at 5) (.int 1))]))))))
      (.imp (.o2 .lt (.at 5) (.int 64)) false
      (.pre 1 []
      (.all .B
      (.post 1 [(.at 6)]
      (.and
       (.imp (.at 6) true
       (.pre 4 [(.at 4), (.at 2), (.at 3)]
       (.all .I
       (.post 4 [(.at 4), (.at 2), (.at 3), (.at 7)]
       (.know (.has .u64 (.at 7))
       (.pre 5 [(.at 1), (.at 3)]
       (.all .I
       (.post 5 [(.at 1), (.at 3), (.at 8)]
       (.know (.has .u64 (.at 8))
       (.and
        (.imp (.o2 .eq (.at 7) (.at 8)) true
        (.pre 4 [(.at 0), (.at 2), (.at 3)]
        (.all .I
        (.post 4 [(.at 0), (.at 2), (.at 3), (.at 9)]
        (.know (.has .u64 (.at 9))
        (.pre 2 [(.at 4), (.at 2), (.at 3), (.at 9)]
        (.all .I
        (.post 2 [(.at 4), (.at 2), (.at 3), (.at 9), (.at 10)]
        (.know (.has .u64 (.at 10))
        (.ret [(.at 0), (.at 1), (.at 2), (.at 3), (.o2 .eq (.at 10) (.at 0))]))))))))))
        (.imp (.o2 .eq (.at 7) (.at 8)) false
        (.ret [(.at 0), (.at 1), (.at 2), (.at 3), (.bool false)]))))))))))))
       (.imp (.at 6) false
       (.ret [(.at 0), (.at 1), (.at 2), (.at 3), (.bool false)])))))))))))))))))))))))))))))))))
def LLaid.Pure : Prop :=
 ∀ (i0 : Int),
 ∀ (i1 : Int),
 ∀ (i2 : Int),
 ∀ (i3 : Int),
 (0 ≤ i0 ∧ i0 < 18446744073709551616) →
 (0 ≤ i1 ∧ i1 < 18446744073709551616) →
 (-9223372036854775808 ≤ i2 ∧ i2 < 9223372036854775808) →
 (-9223372036854775808 ≤ i3 ∧ i3 < 9223372036854775808) →
 LLaid.sig.pre [(D.I i0), (D.I i1), (D.I i2), (D.I i3)] →
 ((
  (i2 < (0 : Int)) →
  Awake01.sig.pre [] ∧ (
  ∀ (b4 : Bool),
  Awake01.sig.post [(D.B b4)] →
  LLaid.sig.post [(D.I i0), (D.I i1), (D.I i2), (D.I i3), (D.B b4)])) ∧ (
  ((0 : Int) ≤ i2) →
  ((
   (i3 < (1 : Int)) →
   Awake01.sig.pre [] ∧ (
   ∀ (b4 : Bool),
   Awake01.sig.post [(D.B b4)] →
   LLaid.sig.post [(D.I i0), (D.I i1), (D.I i2), (D.I i3), (D.B b4)])) ∧ (
   ((1 : Int) ≤ i3) →
   ((
    ((64 : Int) < i3) →
    Awake01.sig.pre [] ∧ (
    ∀ (b4 : Bool),
    Awake01.sig.post [(D.B b4)] →
    LLaid.sig.post [(D.I i0), (D.I i1), (D.I i2), (D.I i3), (D.B b4)])) ∧ (
    (i3 ≤ (64 : Int)) →
    ((
     ((IntKind.wrap .i64 ((64 : Int) - i3)) < i2) →
     Awake01.sig.pre [] ∧ (
     ∀ (b4 : Bool),
     Awake01.sig.post [(D.B b4)] →
     LLaid.sig.post [(D.I i0), (D.I i1), (D.I i2), (D.I i3), (D.B b4)])) ∧ (
     (i2 ≤ (IntKind.wrap .i64 ((64 : Int) - i3))) →
     Lay.sig.pre [(D.I i0), (D.I i2), (D.I i3), (D.I i1)] ∧ (
     ∀ (i4 : Int),
     Lay.sig.post [(D.I i0), (D.I i2), (D.I i3), (D.I i1), (D.I i4)] →
     (0 ≤ i4 ∧ i4 < 18446744073709551616) →
     LLaid.I0 [(D.I i0), (D.I i1), (D.I i2), (D.I i3), (D.I (0 : Int))] ∧ (
     ∀ (i5 : Int),
     (-9223372036854775808 ≤ i5 ∧ i5 < 9223372036854775808) →
     LLaid.I0 [(D.I i0), (D.I i1), (D.I i2), (D.I i3), (D.I i5)] →
     ((
      (i5 < (64 : Int)) →
      ((
       (i5 < i2) →
       Bit.sig.pre [(D.I i4), (D.I i5)] ∧ (
       ∀ (b6 : Bool),
       Bit.sig.post [(D.I i4), (D.I i5), (D.B b6)] →
       Bit.sig.pre [(D.I i0), (D.I i5)] ∧ (
       ∀ (b7 : Bool),
       Bit.sig.post [(D.I i0), (D.I i5), (D.B b7)] →
       ((
        (b6 ≠ b7) →
        LLaid.sig.post [(D.I i0), (D.I i1), (D.I i2), (D.I i3), (D.B false)]) ∧ (
        (b6 = b7) →
        LLaid.I0 [(D.I i0), (D.I i1), (D.I i2), (D.I i3), (D.I (IntKind.wrap .i64 (i5 + (1 : Int))))] ∧ LLaid.I0M [(D.I i0), (D.I i1), (D.I i2), (D.I i3), (D.I (IntKind.wrap .i64 (i5 + (1 : Int))))] < LLaid.I0M [(D.I i0), (D.I i1), (D.I i2), (D.I i3), (D.I i5)]))))) ∧ (
       (i2 ≤ i5) →
       ((
        ((IntKind.wrap .i64 (i2 + i3)) ≤ i5) →
        Bit.sig.pre [(D.I i4), (D.I i5)] ∧ (
        ∀ (b6 : Bool),
        Bit.sig.post [(D.I i4), (D.I i5), (D.B b6)] →
        Bit.sig.pre [(D.I i0), (D.I i5)] ∧ (
        ∀ (b7 : Bool),
        Bit.sig.post [(D.I i0), (D.I i5), (D.B b7)] →
        ((
         (b6 ≠ b7) →
         LLaid.sig.post [(D.I i0), (D.I i1), (D.I i2), (D.I i3), (D.B false)]) ∧ (
         (b6 = b7) →
         LLaid.I0 [(D.I i0), (D.I i1), (D.I i2), (D.I i3), (D.I (IntKind.wrap .i64 (i5 + (1 : Int))))] ∧ LLaid.I0M [(D.I i0), (D.I i1), (D.I i2), (D.I i3), (D.I (IntKind.wrap .i64 (i5 + (1 : Int))))] < LLaid.I0M [(D.I i0), (D.I i1), (D.I i2), (D.I i3), (D.I i5)]))))) ∧ (
        (i5 < (IntKind.wrap .i64 (i2 + i3))) →
        LLaid.I0 [(D.I i0), (D.I i1), (D.I i2), (D.I i3), (D.I (IntKind.wrap .i64 (i5 + (1 : Int))))] ∧ LLaid.I0M [(D.I i0), (D.I i1), (D.I i2), (D.I i3), (D.I (IntKind.wrap .i64 (i5 + (1 : Int))))] < LLaid.I0M [(D.I i0), (D.I i1), (D.I i2), (D.I i3), (D.I i5)]))))) ∧ (
      ((64 : Int) ≤ i5) →
      Awake01.sig.pre [] ∧ (
      ∀ (b6 : Bool),
      Awake01.sig.post [(D.B b6)] →
      ((
       (b6 = true) →
       Field.sig.pre [(D.I i4), (D.I i2), (D.I i3)] ∧ (
       ∀ (i7 : Int),
       Field.sig.post [(D.I i4), (D.I i2), (D.I i3), (D.I i7)] →
       (0 ≤ i7 ∧ i7 < 18446744073709551616) →
       Low.sig.pre [(D.I i1), (D.I i3)] ∧ (
       ∀ (i8 : Int),
       Low.sig.post [(D.I i1), (D.I i3), (D.I i8)] →
       (0 ≤ i8 ∧ i8 < 18446744073709551616) →
       ((
        (i7 = i8) →
        Field.sig.pre [(D.I i0), (D.I i2), (D.I i3)] ∧ (
        ∀ (i9 : Int),
        Field.sig.post [(D.I i0), (D.I i2), (D.I i3), (D.I i9)] →
        (0 ≤ i9 ∧ i9 < 18446744073709551616) →
        Lay.sig.pre [(D.I i4), (D.I i2), (D.I i3), (D.I i9)] ∧ (
        ∀ (i10 : Int),
        Lay.sig.post [(D.I i4), (D.I i2), (D.I i3), (D.I i9), (D.I i10)] →
        (0 ≤ i10 ∧ i10 < 18446744073709551616) →
        LLaid.sig.post [(D.I i0), (D.I i1), (D.I i2), (D.I i3), (D.B (i10 == i0))]))) ∧ (
        (i7 ≠ i8) →
        LLaid.sig.post [(D.I i0), (D.I i1), (D.I i2), (D.I i3), (D.B false)]))))) ∧ (
       (b6 = false) →
       LLaid.sig.post [(D.I i0), (D.I i1), (D.I i2), (D.I i3), (D.B false)])))))))))))))))
theorem LLaid.den : LLaid.vc.den2 (mkEnv LLaid.sig [Awake01.sig, Lay.sig, Bit.sig, Field.sig, Low.sig] [(LLaid.I0, LLaid.I0M)]) [] = LLaid.Pure := by kernel_rfl
end Go.Vc

namespace Go.Vc


theorem m8 : ∀ i, i < 64 → bt 71777214294589695 i = decide (i / 8 % 2 = 0) := by decide
theorem m16 : ∀ i, i < 64 → bt 281470681808895 i = decide (i / 16 % 2 = 0) := by decide

theorem swap_step (v : Int) (hv : IntKind.u64.has v) (s m : Int) (n : Nat) (hs : s = n) (hm : ∀ i, i < 64 → bt m i = decide (i / n % 2 = 0)) (hn : n = 8 ∨ n = 16) (i : Nat) (hi : i < 64) :
    bt (Go.bits .or .u64 (Go.bits .and .u64 (shrI .u64 v s) m) (shlI .u64 (Go.bits .and .u64 v m) s)) i = bt v (if i / n % 2 = 0 then i + n else i - n) := by
  rw [bt_or .u64 _ _ hi, bt_and .u64 _ _ hi, bt_shr_u64 _ hv, bt_shl .u64 _ _ hi, hm i hi]
  have e : s.toNat = n := by omega
  rw [e]
  by_cases c : i / n % 2 = 0
  · simp only [c, decide_true, Bool.and_true, if_true]
    have : ¬ n ≤ i ∨ (i - n) / n % 2 = 1 := by rcases hn with rfl | rfl <;> omega
    rcases this with h | h
    · simp [h]
    · by_cases h2 : n ≤ i
      · rw [bt_and .u64 _ _ (show i - n < 64 by omega), hm _ (by omega)]; simp [h]
      · simp [h2]
  · have h1 : n ≤ i := by rcases hn with rfl | rfl <;> omega
    have h2 : (i - n) / n % 2 = 0 := by rcases hn with rfl | rfl <;> omega
    rw [bt_and .u64 _ _ (show i - n < 64 by omega), hm _ (by omega)]
    simp [c, h1, h2]

theorem Swap.pure : Swap.Pure := by
  intro i0 h1 h2
  have s1 := swap_step i0 (u64i h1) 8 71777214294589695 8 rfl m8 (Or.inl rfl)
  generalize hv1 : Go.bits .or .u64 (Go.bits .and .u64 (shrI .u64 i0 (8 : Int)) (71777214294589695 : Int)) (shlI .u64 (Go.bits .and .u64 i0 (71777214294589695 : Int)) (8 : Int)) = v1 at s1 ⊢
  have hh1 : IntKind.u64.has v1 := by rw [← hv1]; exact bits_has _ _ _ _
  have s2 := swap_step v1 hh1 16 281470681808895 16 rfl m16 (Or.inr rfl)
  generalize hv2 : Go.bits .or .u64 (Go.bits .and .u64 (shrI .u64 v1 (16 : Int)) (281470681808895 : Int)) (shlI .u64 (Go.bits .and .u64 v1 (281470681808895 : Int)) (16 : Int)) = v2 at s2 ⊢
  have hh2 : IntKind.u64.has v2 := by rw [← hv2]; exact bits_has _ _ _ _
  show ∀ i, i < 64 → bt (Go.bits .or .u64 (shrI .u64 v2 (32 : Int)) (shlI .u64 v2 (32 : Int))) i = bt i0 (8 * (7 - i / 8) + i % 8)
  intro i hi
  rw [bt_or .u64 _ _ hi, bt_shr_u64 _ hh2, bt_shl .u64 _ _ hi]
  simp only [show (32 : Int).toNat = 32 from rfl]
  have key : ∀ j, j < 64 → bt v2 j = bt i0 (if (if j / 16 % 2 = 0 then j + 16 else j - 16) / 8 % 2 = 0 then (if j / 16 % 2 = 0 then j + 16 else j - 16) + 8 else (if j / 16 % 2 = 0 then j + 16 else j - 16) - 8) := by
    intro j hj
    rw [s2 j hj, s1 _ (by split <;> omega)]
  by_cases c : 32 ≤ i
  · rw [bt_u64_ge hh2 (show 64 ≤ i + 32 by omega), key (i - 32) (by omega)]
    simp only [c, decide_true, Bool.true_and, Bool.false_or]
    congr 1
    repeat' split
    all_goals omega
  · rw [key (i + 32) (by omega)]
    simp only [c, decide_false, Bool.false_and, Bool.or_false]
    congr 1
    repeat' split
    all_goals omega

/-! ### bytes -/
theorem bytesLE_len (v : Int) (n : Nat) : (bytesLE v n).length = n := by simp [bytesLE]
theorem bytesLE_has (v : Int) (n : Nat) : ∀ x ∈ bytesLE v n, 0 ≤ x ∧ x < 256 := by
  intro x hx
  simp only [bytesLE, List.mem_map] at hx
  obtain ⟨j, _, rfl⟩ := hx
  omega
theorem bytesLE_succ (v : Int) (n : Nat) : bytesLE v (n + 1) = bytesLE v n ++ [v / 256 ^ n % 256] := by
  simp [bytesLE, List.range_succ]
theorem pow_256 (n : Nat) : (256 : Int) ^ n = 2 ^ (8 * n) := by
  rw [Int.pow_mul]; rfl
theorem shr_byte (v : Int) {i : Int} (h0 : 0 ≤ i) (h1 : i < 8) : IntKind.u8.wrap (shrI .u64 v (8 * i)) = v / 256 ^ i.toNat % 256 := by
  have hb : (8 * i).toNat ≤ 64 := by omega
  rw [IntKind.wrap_u8, shrI, show Nat.min (8 * i).toNat IntKind.u64.bits = (8 * i).toNat from Nat.min_eq_left hb,
    Int.fdiv_eq_ediv_of_nonneg _ (Int.le_of_lt (pow_pos' _)), pow_256, show (8 * i).toNat = 8 * i.toNat from by omega]

theorem clamp8 (n : Int) : 0 ≤ clamp 0 8 n ∧ clamp 0 8 n ≤ 8 := by unfold clamp; split <;> (try split) <;> omega
theorem clamp8_eq (n : Int) : minI (maxI n 0) 8 = clamp 0 8 n := by rw [minI_eq, maxI_eq]; unfold clamp; split <;> (try split) <;> omega

theorem Bytes.pure : Bytes.Pure := by
  intro i0 i1 h1 h2 h3
  rw [clamp8_eq]
  have hc := clamp8 i1
  have hlr : (List.replicate (clamp 0 8 i1).toNat (0 : Int)).length = (clamp 0 8 i1).toNat := by simp
  refine ⟨?_, fun h4 => ?_⟩
  · omega
  refine ⟨?_, fun h5 => ?_⟩
  · omega
  intro v2
  refine ⟨?_, ?_⟩
  · exact ⟨by omega, by omega, by simp, by simp [bytesLE]⟩
  intro i3 z4 h6 h7 h8
  have h8 : 0 ≤ i3 ∧ i3 ≤ clamp 0 8 i1 ∧ z4.length = (clamp 0 8 i1).toNat ∧ z4.take i3.toNat = bytesLE i0 i3.toNat := h8
  obtain ⟨a, b, c, d⟩ := h8
  refine ⟨?_, ?_⟩
  · intro h9
    rw [i64w (x := 8 * i3) (by omega) (by omega), i64w (by omega) (by omega)]
    refine ⟨?_, fun h10 => ?_⟩
    · omega
    refine ⟨?_, fun h11 => ?_⟩
    · omega -- (0 : Int) ≤ i3
    refine ⟨?_, fun h12 => ?_⟩
    · omega -- i3 < ((z4.length : Nat) : Int)
    refine ⟨?_, ?_⟩
    · refine ⟨by omega, by omega, by rw [List.length_set]; exact c, ?_⟩
      rw [shr_byte _ a (by omega), show (i3 + 1).toNat = i3.toNat + 1 from by omega, bytesLE_succ, List.take_add_one, List.take_set_of_le (Nat.le_refl _), d]
      congr 1
      rw [List.getElem?_set_self (by omega)]; rfl
    · show (clamp 0 8 i1 - (i3 + 1)).toNat < (clamp 0 8 i1 - i3).toNat
      omega
  · intro h9
    show textOf z4 = textOf (bytesLE i0 (clamp 0 8 i1).toNat)
    rw [show (clamp 0 8 i1).toNat = i3.toNat from by omega, ← d, List.take_of_length_le (by omega)]

theorem size_textOf (l : List Int) : (textOf l).size = l.length := textOf_size l

theorem div_pow_succ (v : Int) (n : Nat) : v / 256 ^ (n + 1) = v / 256 ^ n / 256 := by
  rw [Int.pow_succ, Int.ediv_ediv_of_nonneg]
  rw [pow_256]; exact Int.le_of_lt (pow_pos' _)

theorem RBytes.pure : RBytes.Pure := by
  intro i0 i1 h1 h2 h3
  have hc := clamp8 i1
  refine ⟨?_, ?_⟩
  · exact ⟨by omega, by omega, by simp, rfl⟩
  intro i2 s3 i4 h4 h5 h6 h7
  have h7 : 0 ≤ i4 ∧ i4 ≤ clamp 0 8 i1 ∧ i2 = i0 / 256 ^ i4.toNat ∧ s3 = textOf (bytesLE i0 i4.toNat) := h7
  obtain ⟨a, b, c, d⟩ := h7
  have hend : (8 ≤ i4 ∨ i1 ≤ i4) → textOf (bytesLE i0 i4.toNat) = textOf (bytesLE i0 (clamp 0 8 i1).toNat) := by
    intro h
    have : clamp 0 8 i1 = i4 := by unfold clamp at *; split <;> (try split) <;> omega
    rw [this]
  refine ⟨?_, ?_⟩
  · intro h8
    refine ⟨?_, ?_⟩
    · intro h9 v5
      have e1 : IntKind.wrap .u8 (Int.tmod i2 256) = i0 / 256 ^ i4.toNat % 256 := by
        rw [Int.tmod_eq_emod_of_nonneg h4.1, IntKind.wrap_u8, ← c]; omega
      have e2 : IntKind.wrap .u64 (Int.tdiv i2 256) = i2 / 256 := by
        rw [Int.tdiv_eq_ediv_of_nonneg h4.1, u64w (by omega) (by omega)]
      rw [e1, e2, i64w (by omega) (by omega), d, textOf_append, ← bytesLE_succ]
      have hlt : i4 < clamp 0 8 i1 := by unfold clamp at *; split <;> (try split) <;> omega
      refine ⟨?_, fun h10 => ?_⟩
      · rw [size_textOf, bytesLE_len]; omega
      refine ⟨?_, ?_⟩
      · refine ⟨by omega, by omega, ?_, ?_⟩
        · rw [show (i4 + 1).toNat = i4.toNat + 1 from by omega, div_pow_succ, c]
        · rw [show (i4 + 1).toNat = i4.toNat + 1 from by omega]
      · show (clamp 0 8 i1 - (i4 + 1)).toNat < (clamp 0 8 i1 - i4).toNat
        omega
    · intro h9
      show s3 = textOf (bytesLE i0 (clamp 0 8 i1).toNat)
      rw [d]; exact hend (Or.inl h9)
  · intro h8
    show s3 = textOf (bytesLE i0 (clamp 0 8 i1).toNat)
    rw [d]; exact hend (Or.inr h8)

theorem numOf_range : ∀ {l : List Int}, (∀ x ∈ l, 0 ≤ x ∧ x < 256) → 0 ≤ numOf l ∧ numOf l < 256 ^ l.length
  | [], _ => by simp [numOf]
  | b :: l, h => by
    have hb := h b (by simp)
    have hl := numOf_range (l := l) (fun x hx => h x (by simp [hx]))
    simp only [numOf, List.length_cons, Int.pow_succ]
    omega

theorem numOf_snoc : ∀ (l : List Int) (b : Int), numOf (l ++ [b]) = numOf l + b * 256 ^ l.length
  | [], b => by simp [numOf]
  | x :: l, b => by
    have e : b * 256 ^ (l.length + 1) = 256 * (b * 256 ^ l.length) := by rw [Int.pow_succ, ← Int.mul_assoc, Int.mul_comm]
    simp only [List.cons_append, numOf, List.length_cons, numOf_snoc l b, e, Int.mul_add]
    omega

theorem pow_le8 {n : Nat} (h : n ≤ 8) : (256 : Int) ^ n ≤ 256 ^ 8 := by
  have h2 : 256 ^ n ≤ 256 ^ 8 := Nat.pow_le_pow_right (by decide : 0 < 256) h
  have h3 : ((256 ^ n : Nat) : Int) ≤ ((256 ^ 8 : Nat) : Int) := by omega
  rwa [Int.natCast_pow, Int.natCast_pow] at h3

theorem numOf_u64 {l : List Int} (h : ∀ x ∈ l, 0 ≤ x ∧ x < 256) (hl : l.length ≤ 8) : 0 ≤ numOf l ∧ numOf l < 18446744073709551616 := by
  have h1 := numOf_range h
  have h2 : (256 : Int) ^ l.length ≤ 256 ^ 8 := pow_le8 hl
  simp only [show (256 : Int) ^ 8 = 18446744073709551616 from rfl] at h2
  omega

/-- A byte above all that was there. -/
theorem or_byte {v b : Int} {n : Nat} (hn : n < 8) (h0 : 0 ≤ v) (h1 : v < 256 ^ n) (b0 : 0 ≤ b) (b1 : b < 256) : Go.bits .or .u64 v (shlI .u64 b (8 * n)) = v + b * 256 ^ n := by
  have hp : (0 : Int) < 256 ^ n := by rw [pow_256]; exact pow_pos' _
  have h8 : (256 : Int) ^ n * 256 ≤ 18446744073709551616 := by
    have hq : (256 : Int) ^ (n + 1) ≤ 256 ^ 8 := pow_le8 (by omega)
    rw [Int.pow_succ] at hq
    exact hq
  have hm : b * 256 ^ n ≤ 255 * 256 ^ n := Int.mul_le_mul_of_nonneg_right (by omega) (Int.le_of_lt hp)
  have hm0 : 0 ≤ b * 256 ^ n := Int.mul_nonneg b0 (Int.le_of_lt hp)
  have e : shlI .u64 b (8 * n) = b * 256 ^ n := by
    rw [shlI, show Nat.min ((8 : Int) * n).toNat IntKind.u64.bits = 8 * n from by
      rw [show ((8 : Int) * n).toNat = 8 * n from by omega]; exact Nat.min_eq_left (by show 8 * n ≤ 64; omega), ← pow_256, u64w hm0 (by omega)]
  rw [e]
  have j := bits_join .u64 64 (by decide) (fun n h0 h1 => wrap_u64_eq h0 h1) (8 * n) (b * 256 ^ n) v hm0 (by rw [pow_256]; exact Int.mul_emod_left _ _) (by show b * 256 ^ n < 18446744073709551616; omega) h0 (by rw [← pow_256]; exact h1) (by show v < 18446744073709551616; omega)
  have hcomm : Go.bits .or .u64 v (b * 256 ^ n) = Go.bits .or .u64 (b * 256 ^ n) v := by
    apply eq_u64 (bits_has _ _ _ _) (bits_has _ _ _ _)
    intro i hi
    rw [bt_or .u64 _ _ hi, bt_or .u64 _ _ hi, Bool.or_comm]
  rw [hcomm, j]; omega

theorem Number.pure : Number.Pure := by
  intro s0 h1 h2
  have hb := bytesOf_has s0
  have hlen := bytesOf_length' s0
  refine ⟨?_, ?_⟩
  · exact ⟨by decide, by omega, rfl⟩
  intro i1 i2 h3 h4 h5
  have h5 : 0 ≤ i2 ∧ i2 ≤ min (s0.size : Int) 8 ∧ i1 = numOf ((bytesOf s0).take i2.toNat) := h5
  obtain ⟨a, b, c⟩ := h5
  rw [minI_eq]
  refine ⟨?_, ?_⟩
  · intro h6
    rw [i64w (x := 8 * i2) (by omega) (by omega), i64w (by omega) (by omega)]
    refine ⟨?_, fun h7 => ?_⟩
    · omega -- (0 : Int) ≤ i2
    refine ⟨?_, fun h8 => ?_⟩
    · omega -- i2 < ((s0.size : Nat) : Int)
    refine ⟨?_, fun h9 => ?_⟩
    · omega
    have hbt := byteAt_has s0 i2
    have htl : ((bytesOf s0).take i2.toNat).length = i2.toNat := by rw [List.length_take]; omega
    have hr := numOf_range (l := (bytesOf s0).take i2.toNat) (fun x hx => hb x (List.mem_of_mem_take hx))
    rw [htl, ← c] at hr
    have ho := or_byte (v := i1) (b := byteAt s0 i2) (n := i2.toNat) (by omega) hr.1 hr.2 hbt.1 hbt.2
    rw [show ((i2.toNat : Nat) : Int) = i2 from by omega] at ho
    rw [u64w (by omega) (by omega), ho]
    refine ⟨?_, ?_⟩
    · refine ⟨by omega, by omega, ?_⟩
      rw [show (i2 + 1).toNat = i2.toNat + 1 from by omega, List.take_add_one, byteAt_eq]
      have : (bytesOf s0)[i2.toNat]?.toList = [(bytesOf s0).getD i2.toNat 0] := by
        rw [List.getElem?_eq_getElem (by omega)]
        simp only [Option.toList_some, List.getD, List.getElem?_eq_getElem (show i2.toNat < (bytesOf s0).length by omega), Option.getD_some]
      rw [this, numOf_snoc, htl, c]
    · show (min (s0.size : Int) 8 - (i2 + 1)).toNat < (min (s0.size : Int) 8 - i2).toNat
      omega
  · intro h6
    show i1 = numOf ((bytesOf s0).take 8)
    rw [c]
    by_cases h : (s0.size : Int) ≤ 8
    · rw [List.take_of_length_le (by omega), List.take_of_length_le (by omega)]
    · rw [show i2.toNat = 8 from by omega]

theorem RNumber.pure : RNumber.Pure := by
  intro s0 h1 h2
  have hb := bytesOf_has s0
  have hlen := bytesOf_length' s0
  have hl8 : ((bytesOf s0).take 8).length = min s0.size 8 := by rw [List.length_take, hlen, Nat.min_comm]
  rw [minI_eq]
  refine ⟨?_, ?_⟩
  · rw [i64w (by omega) (by omega)]
    refine ⟨by omega, by omega, ?_⟩
    rw [List.drop_of_length_le (by omega)]; rfl
  intro i1 i2 h3 h4 h5
  have h5 : -1 ≤ i2 ∧ i2 < min (s0.size : Int) 8 ∧ i1 = numOf (((bytesOf s0).take 8).drop (i2 + 1).toNat) := h5
  obtain ⟨a, b, c⟩ := h5
  refine ⟨?_, ?_⟩
  · intro h6
    refine ⟨?_, fun h7 => ?_⟩
    · omega
    have hd : ((bytesOf s0).take 8).drop i2.toNat = byteAt s0 i2 :: ((bytesOf s0).take 8).drop (i2 + 1).toNat := by
      rw [drop_getD (by omega), show (i2 + 1).toNat = i2.toNat + 1 from by omega, byteAt_eq]
      congr 1
      simp only [List.getD]
      rw [List.getElem?_take_of_lt (by omega)]
    have hbt := byteAt_has s0 i2
    have hv := numOf_u64 (l := ((bytesOf s0).take 8).drop i2.toNat) (fun x hx => hb x (List.mem_of_mem_take (List.mem_of_mem_drop hx))) (by rw [List.length_drop]; omega)
    have he : numOf (((bytesOf s0).take 8).drop i2.toNat) = byteAt s0 i2 + 256 * i1 := by rw [hd, c]; rfl
    rw [u64w (x := 256 * i1) (by omega) (by omega), u64w (x := byteAt s0 i2) (by omega) (by omega), u64w (by omega) (by omega), i64w (by omega) (by omega)]
    refine ⟨?_, ?_⟩
    · refine ⟨by omega, by omega, ?_⟩
      rw [show i2 - 1 + 1 = i2 from by omega, he]; omega
    · show (i2 - 1 + 1).toNat < (i2 + 1).toNat
      omega
  · intro h6
    show i1 = numOf ((bytesOf s0).take 8)
    rw [c, show (i2 + 1).toNat = 0 from by omega]; rfl

end Go.Vc

namespace Go.Vc

/-- A number's bytes as bits. -/
theorem bt_numOf : ∀ {l : List Int}, (∀ x ∈ l, 0 ≤ x ∧ x < 256) → ∀ i : Nat, bt (numOf l) i = bt (l.getD (i / 8) 0) (i % 8)
  | [], _, i => by simp [numOf, bt_zero]
  | b :: l, h, i => by
    have hb := h b (by simp)
    have hl : ∀ x ∈ l, 0 ≤ x ∧ x < 256 := fun x hx => h x (by simp [hx])
    have e : numOf (b :: l) = b + numOf l * 2 ^ 8 := by simp only [numOf]; omega
    by_cases c : i < 8
    · rw [e, bt_add_mul _ _ c, show i / 8 = 0 from by omega, show i % 8 = i from by omega]; rfl
    · rw [show i / 8 = (i - 8) / 8 + 1 from by omega, show i % 8 = (i - 8) % 8 from by omega, List.getD_cons_succ, ← bt_numOf hl]
      have e2 : numOf l = numOf (b :: l) / 2 ^ 8 := by rw [e]; simp only [show (2 : Int) ^ 8 = 256 from rfl]; omega
      rw [e2, bt_ediv_pow, show i - 8 + 8 = i from by omega]

theorem bytesLE_get (v : Int) (n : Nat) {j : Nat} (h : j < n) : (bytesLE v n).getD j 0 = v / 256 ^ j % 256 := by simp [bytesLE, List.getD, h]

theorem bt_byte (v : Int) (j i : Nat) (h : i < 8) : bt (v / 256 ^ j % 256) i = bt v (i + 8 * j) := by
  rw [show (256 : Int) = 2 ^ 8 from rfl, bt_emod _ h, show ((2 : Int) ^ 8) ^ j = 2 ^ (8 * j) from (Int.pow_mul ..).symm, bt_ediv_pow]

theorem textOf_cons (b : Int) (l : List Int) : textOf [b] ++ textOf l = textOf (b :: l) := by rw [textOf_append]; rfl

theorem RSwap.pure : RSwap.Pure := by
  intro i0 h1 h2
  refine ⟨?_, ?_⟩
  · trivial
  intro s1 h3 h4 v2
  have h3 : s1 = textOf (bytesLE i0 8) := h3
  have hb : bytesOf s1 = bytesLE i0 8 := by rw [h3, bytesOf_textOf (bytesLE_has _ _)]
  have hl8 : (bytesOf s1).length = 8 := by rw [hb, bytesLE_len]
  refine ⟨?_, ?_⟩
  · exact ⟨by decide, by decide, rfl⟩
  intro s3 i4 h5 h6 h7
  have h7 : 0 ≤ i4 ∧ i4 ≤ 8 ∧ s3 = textOf ((bytesLE i0 i4.toNat).reverse) := h7
  obtain ⟨a, b, c⟩ := h7
  refine ⟨?_, ?_⟩
  · intro h8
    refine ⟨?_, fun h9 => ?_⟩
    · omega -- (0 : Int) ≤ i4
    intro v5
    rw [c, textOf_cons, hb, bytesLE_get _ _ (by omega), i64w (by omega) (by omega)]
    refine ⟨?_, fun h10 => ?_⟩
    · rw [size_textOf, List.length_cons, List.length_reverse, bytesLE_len]; omega
    refine ⟨?_, ?_⟩
    · refine ⟨by omega, by omega, ?_⟩
      rw [show (i4 + 1).toNat = i4.toNat + 1 from by omega, bytesLE_succ, List.reverse_append]; rfl
    · show (8 - (i4 + 1)).toNat < (8 - i4).toNat
      omega
  · intro h8
    refine ⟨?_, ?_⟩
    · trivial -- pre [(D.S s3)]
    intro i5 h9 h10
    have h9 : i5 = numOf ((bytesOf s3).take 8) := h9
    show ∀ i, i < 64 → bt i5 i = bt i0 (8 * (7 - i / 8) + i % 8)
    intro i hi
    have hr : bytesOf s3 = (bytesLE i0 8).reverse := by
      rw [c, show i4.toNat = 8 from by omega, bytesOf_textOf]
      intro x hx
      exact bytesLE_has i0 8 x (List.mem_reverse.1 hx)
    have hh : ∀ x ∈ (bytesLE i0 8).reverse, 0 ≤ x ∧ x < 256 := fun x hx => bytesLE_has i0 8 x (List.mem_reverse.1 hx)
    rw [h9, hr, List.take_of_length_le (by rw [List.length_reverse, bytesLE_len]; decide), bt_numOf hh]
    have e : (bytesLE i0 8).reverse.getD (i / 8) 0 = (bytesLE i0 8).getD (7 - i / 8) 0 := by
      simp only [List.getD]
      rw [List.getElem?_reverse (by rw [bytesLE_len]; omega), bytesLE_len, show 8 - 1 - i / 8 = 7 - i / 8 from by omega]
    rw [e, bytesLE_get _ _ (by omega), bt_byte _ _ _ (by omega), Nat.add_comm]

theorem bt_u8_ge {v : Int} (h : 0 ≤ v ∧ v < 256) {i : Nat} (hi : 8 ≤ i) : bt v i = false := bt_of_lt (w := 8) h.1 h.2 hi

/-- What is narrowed, without a sign. -/
theorem narrowU (k : IntKind) (n : Nat) (hk : k.bits = n) (hn : n ≤ 64) (hs : k.signed = false) (v : Int) (i : Nat) (hi : i < 64) :
    bt (IntKind.wrap .u64 (k.wrap v)) i = (decide (i < n) && bt v i) := by
  rw [bt_wrap .u64 _ hi]
  by_cases c : i < n
  · rw [bt_wrap k _ (by omega)]; simp [c]
  · have hm : 0 ≤ v % 2 ^ n := Int.emod_nonneg _ (Int.ne_of_gt (pow_pos' n))
    have e : k.wrap v = v % 2 ^ n := by simp [IntKind.wrap, hs, hk]
    rw [e, bt_of_lt hm (Int.emod_lt_of_pos _ (pow_pos' n)) (by omega)]
    simp [c]

theorem bt_neg_ge {v : Int} {w i : Nat} (h0 : -(2 ^ w) ≤ v) (h1 : v < 0) (hi : w ≤ i) : bt v i = true := by
  have e := bt_not v i
  have : bt (-v - 1) i = false := bt_of_lt (w := w) (by omega) (by omega) hi
  rw [this] at e
  simpa using e.symm

/-- What is narrowed, with its sign. -/
theorem narrowS (k : IntKind) (n : Nat) (hk : k.bits = n) (_hn : n ≤ 64) (h0 : 0 < n) (hs : k.signed = true) (v : Int) (i : Nat) (hi : i < 64) :
    bt (IntKind.wrap .i64 (k.wrap v)) i = bt v (min i (n - 1)) := by
  rw [bt_wrap .i64 _ hi]
  by_cases c : i < n
  · rw [bt_wrap k _ (by omega), Nat.min_eq_left (by omega)]
  · have hr := wrap_has k v
    have hp : (2 : Int) ^ n = 2 ^ (n - 1) + 2 ^ (n - 1) := by
      have : n = n - 1 + 1 := by omega
      conv => lhs; rw [this, Int.pow_succ]
      omega
    have hlo : -(2 ^ (n - 1)) ≤ k.wrap v ∧ k.wrap v < 2 ^ (n - 1) := by
      simp only [IntKind.wrap, hs, hk]
      have := Int.emod_nonneg v (Int.ne_of_gt (pow_pos' n))
      have := Int.emod_lt_of_pos v (pow_pos' n)
      split
      · rename_i h; simp at h; omega
      · rename_i h; simp at h; have := pow_pos' (n - 1); omega
    rw [Nat.min_eq_right (by omega)]
    by_cases hv : k.wrap v < 0
    · rw [bt_neg_ge hlo.1 hv (by omega), ← bt_wrap k v (show n - 1 < k.bits by omega), bt_neg_ge hlo.1 hv (by omega)]
    · rw [bt_of_lt (w := n - 1) (by omega) hlo.2 (by omega), ← bt_wrap k v (show n - 1 < k.bits by omega), bt_of_lt (w := n - 1) (by omega) hlo.2 (by omega)]

theorem Narrow.pure : Narrow.Pure := by
  intro i0 i1 h1 h2 h3
  have key : ∀ (n : Nat) (u s : Int), wide i1 = n → (∀ i, i < 64 → bt u i = (decide (i < n) && bt i0 i)) → (∀ i, i < 64 → bt s i = bt i0 (min i (n - 1))) → Narrow.sig.post [.I i0, .I i1, .I u, .I s] := by
    intro n u s hw hu hs
    show (∀ i, i < 64 → bt u i = (decide ((i : Int) < wide i1) && bt i0 i)) ∧ (∀ i, i < 64 → bt s i = bt i0 (min i ((wide i1).toNat - 1)))
    rw [hw]
    refine ⟨fun i hi => ?_, fun i hi => ?_⟩
    · rw [hu i hi]
      have : ((i : Int) < n) ↔ i < n := by omega
      simp [this]
    · rw [hs i hi]; simp
  refine ⟨?_, ?_⟩
  · intro h4
    exact key 8 _ _ (by simp [wide, h4]) (narrowU .u8 8 rfl (by decide) rfl i0) (narrowS .i8 8 rfl (by decide) (by decide) rfl i0)
  · intro h4
    refine ⟨?_, ?_⟩
    · intro h5
      exact key 16 _ _ (by simp [wide, h5]) (narrowU .u16 16 rfl (by decide) rfl i0) (narrowS .i16 16 rfl (by decide) (by decide) rfl i0)
    · intro h5
      refine ⟨?_, ?_⟩
      · intro h6
        exact key 32 _ _ (by simp [wide, h6]) (narrowU .u32 32 rfl (by decide) rfl i0) (narrowS .i32 32 rfl (by decide) (by decide) rfl i0)
      · intro h6
        refine key 64 _ _ (by simp [wide, h4, h5, h6]) (fun i hi => by simp [hi]) (fun i hi => ?_)
        rw [bt_wrap .i64 _ hi, Nat.min_eq_left (by omega)]

theorem shr63 {v : Int} (h : -9223372036854775808 ≤ v ∧ v < 9223372036854775808) : shrI .i64 v 63 = if v < 0 then -1 else 0 := by
  have e : shrI .i64 v 63 = v.fdiv (2 ^ 63) := rfl
  rw [e, Int.fdiv_eq_ediv_of_nonneg _ (by decide)]
  simp only [show (2 : Int) ^ 63 = 9223372036854775808 from rfl]
  split <;> omega

theorem xor_ones {a : Int} (h : IntKind.u64.has a) : Go.bits .xor .u64 a 18446744073709551615 = 18446744073709551615 - a := by
  have hr := (u64_has a).1 h
  simp only [show (2 : Int) ^ 64 = 18446744073709551616 from rfl] at hr
  apply eq_u64 (bits_has _ _ _ _) (u64i (by omega))
  intro i hi
  rw [bt_xor .u64 _ _ hi, show (18446744073709551615 : Int) = 2 ^ 64 - 1 from rfl, bt_mask]
  have e : (2 : Int) ^ 64 - 1 - a = (-a - 1) + 1 * 2 ^ 64 := by simp only [show (2 : Int) ^ 64 = 18446744073709551616 from rfl]; omega
  rw [e, bt_add_mul _ _ hi, bt_not]; simp [hi]

theorem xor_zero {a : Int} (h : IntKind.u64.has a) : Go.bits .xor .u64 a 0 = a := by
  apply eq_u64 (bits_has _ _ _ _) h
  intro i hi
  rw [bt_xor .u64 _ _ hi, bt_zero]; simp

theorem Fold.pure : Fold.Pure := by
  intro i0 h1 h2
  show Go.bits .xor .u64 (shlI .u64 (IntKind.wrap .u64 i0) (1 : Int)) (IntKind.wrap .u64 (shrI .i64 i0 (63 : Int))) = foldF i0
  have e : shlI .u64 (IntKind.wrap .u64 i0) 1 = IntKind.u64.wrap (IntKind.wrap .u64 i0 * 2) := rfl
  have hh : IntKind.u64.has (shlI .u64 (IntKind.wrap .u64 i0) 1) := shl_has _ _ _
  rw [shr63 h1]
  unfold foldF
  by_cases c : i0 < 0
  · rw [if_pos c, if_pos c, show IntKind.wrap .u64 (-1) = 18446744073709551615 from rfl, xor_ones hh, e, IntKind.wrap_u64, IntKind.wrap_u64]
    omega
  · rw [if_neg c, if_neg c, show IntKind.wrap .u64 0 = 0 from rfl, xor_zero hh, e, IntKind.wrap_u64, IntKind.wrap_u64]
    omega

theorem RFold.pure : RFold.Pure := by
  intro i0 h1 h2
  refine ⟨?_, ?_⟩
  · intro h3
    show (IntKind.wrap .u64 ((IntKind.wrap .u64 ((2 : Int) * (IntKind.wrap .u64 (IntKind.wrap .i64 ((0 : Int) - (IntKind.wrap .i64 (i0 + (1 : Int)))))))) + (1 : Int))) = foldF i0
    unfold foldF
    simp only [IntKind.wrap_u64, IntKind.wrap_i64]
    omega
  · intro h3
    show (IntKind.wrap .u64 ((2 : Int) * (IntKind.wrap .u64 i0))) = foldF i0
    unfold foldF
    simp only [IntKind.wrap_u64]
    omega

theorem xor_i64_zero {a : Int} (h : IntKind.i64.has a) : Go.bits .xor .i64 a 0 = a := by
  apply eq_i64 (bits_has _ _ _ _) h
  intro i hi
  rw [bt_xor .i64 _ _ hi, bt_zero]; simp

theorem xor_i64_ones {a : Int} (h : IntKind.i64.has a) : Go.bits .xor .i64 a (-1) = -a - 1 := by
  have hr := (i64_has a).1 h
  apply eq_i64 (bits_has _ _ _ _) (i64i (by omega))
  intro i hi
  rw [bt_xor .i64 _ _ hi, bt_neg_one, bt_not]; simp

theorem and_one_mod {a : Int} (h : IntKind.u64.has a) : Go.bits .and .u64 a 1 = a % 2 := by
  have h := (u64_has a).1 h
  have e := bits_mask .u64 64 (by decide) (fun n h0 h1 => wrap_u64_eq h0 h1) 1 (by decide) a h.1 h.2
  exact e

theorem Unfold.pure : Unfold.Pure := by
  intro i0 h1 h2
  show Go.bits .xor .i64 (IntKind.wrap .i64 (shrI .u64 i0 (1 : Int))) (IntKind.wrap .i64 ((0 : Int) - (IntKind.wrap .i64 (Go.bits .and .u64 i0 (1 : Int))))) = unfoldF i0
  have e : shrI .u64 i0 1 = i0 / 2 := by
    show i0.fdiv (2 ^ 1) = i0 / 2
    rw [Int.fdiv_eq_ediv_of_nonneg _ (by decide)]; rfl
  rw [e, and_one_mod (u64i h1), i64w (x := i0 % 2) (by omega) (by omega), i64w (x := i0 / 2) (by omega) (by omega), i64w (by omega) (by omega)]
  unfold unfoldF
  by_cases c : i0 % 2 = 0
  · rw [if_pos c, c, show (0 : Int) - 0 = 0 from rfl, xor_i64_zero (i64i (by omega))]
  · rw [if_neg c, show i0 % 2 = 1 from by omega, show (0 : Int) - 1 = -1 from rfl, xor_i64_ones (i64i (by omega))]

/-! ### the document's, by lists of bits -/
theorem is01_take {l : List Int} (h : is01 l) (n : Nat) : is01 (l.take n) := fun x hx => h x (List.mem_of_mem_take hx)
theorem is01_drop {l : List Int} (h : is01 l) (n : Nat) : is01 (l.drop n) := fun x hx => h x (List.mem_of_mem_drop hx)
theorem getD_take (l : List Int) (n i : Nat) : (l.take n).getD i 0 = if i < n then l.getD i 0 else 0 := by
  simp only [List.getD]
  by_cases h : i < n
  · rw [List.getElem?_take_of_lt h]; simp [h]
  · rw [List.getElem?_eq_none (by rw [List.length_take]; omega)]; simp [h]
theorem getD_drop (l : List Int) (n i : Nat) : (l.drop n).getD i 0 = l.getD (i + n) 0 := by
  simp only [List.getD, List.getElem?_drop, Nat.add_comm]
theorem b2i_eq1 (b : Bool) : (b2i b == 1) = b := by cases b <;> rfl

theorem RLow.pure : RLow.Pure := by
  intro i0 i1 h1 h2 h3
  rw [minI_eq, maxI_eq]
  refine ⟨?_, ?_⟩
  · trivial -- pre [(D.I i0)]
  intro v2 z3 h4 h5
  have h4 : z3 = bitsOf i0 := h4
  have hl : z3.length = 64 := by rw [h4, bitsOf_len]
  have h01 : is01 z3 := by rw [h4]; exact bitsOf_01 _
  refine ⟨?_, fun h6 => ?_⟩
  · omega
  refine ⟨?_, fun h7 => ?_⟩
  · omega
  intro v4
  refine ⟨?_, ?_⟩
  · exact ⟨by rw [List.length_take]; omega, is01_take h01 _⟩
  intro i5 h8 h9
  have h8 : i5 = valueOf (z3.take (min (max i1 0) 64).toNat) := h8
  show ∀ i, i < 64 → bt i5 i = (decide ((i : Int) < i1) && bt i0 i)
  intro i hi
  rw [h8, valueOf_bt (is01_take h01 _), getD_take]
  by_cases c : (i : Int) < i1
  · rw [if_pos (by omega), h4, bitsOf_get _ hi, b2i_eq1]; simp [c]
  · rw [if_neg (by omega)]; simp [c]

theorem RBit.pure : RBit.Pure := by
  intro i0 i1 h1 h2 h3
  refine ⟨?_, ?_⟩
  · intro h4
    refine ⟨?_, ?_⟩
    · intro h5
      refine ⟨?_, ?_⟩
      · trivial -- pre [(D.I i0)]
      intro v2 z3 h6 h7
      have h6 : z3 = bitsOf i0 := h6
      have hl : z3.length = 64 := by rw [h6, bitsOf_len]
      have e : minI (maxI i1 0) 63 = i1 := by rw [minI_eq, maxI_eq]; omega
      rw [e]
      refine ⟨?_, fun h8 => ?_⟩
      · omega
      refine ⟨?_, fun h9 => ?_⟩
      · omega
      show ((z3.getD i1.toNat 0) == (1 : Int)) = (decide (0 ≤ i1) && decide (i1 < 64) && bt i0 i1.toNat)
      rw [h6, bitsOf_get _ (by omega), b2i_eq1]
      simp [h4, h5]
    · intro h5
      show false = (decide (0 ≤ i1) && decide (i1 < 64) && bt i0 i1.toNat)
      have : ¬ i1 < 64 := by omega
      simp [this]
  · intro h4
    show false = (decide (0 ≤ i1) && decide (i1 < 64) && bt i0 i1.toNat)
    have : ¬ 0 ≤ i1 := by omega
    simp [this]

theorem RWith.pure : RWith.Pure := by
  intro i0 i1 h1 h2 h3
  refine ⟨?_, ?_⟩
  · trivial -- pre [(D.I i0)]
  intro v2 z3 h4 h5
  have h4 : z3 = bitsOf i0 := h4
  have hl : z3.length = 64 := by rw [h4, bitsOf_len]
  have h01 : is01 z3 := by rw [h4]; exact bitsOf_01 _
  refine ⟨?_, ?_⟩
  · intro h6
    refine ⟨?_, ?_⟩
    · intro h7
      refine ⟨?_, fun h8 => ?_⟩
      · omega
      have hs : is01 (z3.set i1.toNat 1) := is01_set h01 _ (Or.inr rfl)
      refine ⟨?_, ?_⟩
      · exact ⟨by rw [List.length_set]; omega, hs⟩
      intro i4 h9 h10
      have h9 : i4 = valueOf (z3.set i1.toNat 1) := h9
      show ∀ i, i < 64 → bt i4 i = (decide ((i : Int) = i1) || bt i0 i)
      intro i hi
      rw [h9, valueOf_bt hs, getD_set _ _ _ (by omega)]
      by_cases c : (i : Int) = i1
      · rw [if_pos (by omega)]; simp [c]
      · rw [if_neg (by omega), h4, bitsOf_get _ hi, b2i_eq1]; simp [c]
    · intro h7
      refine ⟨?_, ?_⟩
      · exact ⟨by omega, h01⟩
      intro i4 h8 h9
      have h8 : i4 = valueOf z3 := h8
      show ∀ i, i < 64 → bt i4 i = (decide ((i : Int) = i1) || bt i0 i)
      intro i hi
      have : ¬ (i : Int) = i1 := by omega
      rw [h8, valueOf_bt h01, h4, bitsOf_get _ hi, b2i_eq1]; simp [this]
  · intro h6
    refine ⟨?_, ?_⟩
    · exact ⟨by omega, h01⟩
    intro i4 h7 h8
    have h7 : i4 = valueOf z3 := h7
    show ∀ i, i < 64 → bt i4 i = (decide ((i : Int) = i1) || bt i0 i)
    intro i hi
    have : ¬ (i : Int) = i1 := by omega
    rw [h7, valueOf_bt h01, h4, bitsOf_get _ hi, b2i_eq1]; simp [this]

theorem RField.pure : RField.Pure := by
  intro i0 i1 i2 h1 h2 h3 h4
  refine ⟨?_, ?_⟩
  · intro h5
    show ∀ i, i < 64 → bt 0 i = (decide (0 ≤ i1) && decide (i1 < 64) && decide ((i : Int) < i2) && bt i0 (i + i1.toNat))
    intro i hi
    have : ¬ 0 ≤ i1 := by omega
    simp [this, bt_zero]
  · intro h5
    refine ⟨?_, ?_⟩
    · intro h6
      show ∀ i, i < 64 → bt 0 i = (decide (0 ≤ i1) && decide (i1 < 64) && decide ((i : Int) < i2) && bt i0 (i + i1.toNat))
      intro i hi
      have : ¬ i1 < 64 := by omega
      simp [this, bt_zero]
    · intro h6
      refine ⟨?_, ?_⟩
      · trivial -- pre [(D.I i0)]
      intro v3 z4 h7 h8
      have h7 : z4 = bitsOf i0 := h7
      have hl : z4.length = 64 := by rw [h7, bitsOf_len]
      have h01 : is01 z4 := by rw [h7]; exact bitsOf_01 _
      have hd : (z4.drop i1.toNat).length = 64 - i1.toNat := by rw [List.length_drop, hl]
      rw [minI_eq, maxI_eq]
      refine ⟨?_, fun h9 => ?_⟩
      · omega
      refine ⟨?_, fun h10 => ?_⟩
      · omega
      intro v5
      refine ⟨?_, fun h11 => ?_⟩
      · omega
      refine ⟨?_, fun h12 => ?_⟩
      · omega
      intro v6
      refine ⟨?_, ?_⟩
      · exact ⟨by rw [List.length_take]; omega, is01_take (is01_drop h01 _) _⟩
      intro i7 h13 h14
      have h13 : i7 = valueOf ((z4.drop i1.toNat).take (min (max i2 0) ((z4.drop i1.toNat).length : Int)).toNat) := h13
      show ∀ i, i < 64 → bt i7 i = (decide (0 ≤ i1) && decide (i1 < 64) && decide ((i : Int) < i2) && bt i0 (i + i1.toNat))
      intro i hi
      rw [h13, valueOf_bt (is01_take (is01_drop h01 _) _), getD_take, getD_drop, hd]
      have e0 : 0 ≤ i1 := by omega
      have e1 : i1 < 64 := by omega
      by_cases c : (i : Int) < i2
      · by_cases d : i + i1.toNat < 64
        · rw [if_pos (by omega), h7, bitsOf_get _ d, b2i_eq1]; simp [c, e0, e1]
        · rw [if_neg (by omega), bt_u64_ge (u64i h1) (by omega)]; simp
      · rw [if_neg (by omega)]; simp [c]

theorem RLay.pure : RLay.Pure := by
  intro i0 i1 i2 i3 h1 h2 h3 h4 h5
  refine ⟨?_, ?_⟩
  · trivial -- pre [(D.I i0)]
  intro v4 z5 h6 h7
  have h6 : z5 = bitsOf i0 := h6
  refine ⟨?_, ?_⟩
  · trivial -- pre [(D.I i3)]
  intro v6 z7 h8 h9
  have h8 : z7 = bitsOf i3 := h8
  have hl5 : z5.length = 64 := by rw [h6, bitsOf_len]
  have hl7 : z7.length = 64 := by rw [h8, bitsOf_len]
  refine ⟨?_, ?_⟩
  · refine ⟨by decide, by decide, hl5, fun j hj => ?_⟩
    rw [if_neg (by omega), h6, bitsOf_get _ hj]
  intro i8 z9 h10 h11 h12
  have h12 : 0 ≤ i8 ∧ i8 ≤ 64 ∧ z9.length = 64 ∧ ∀ j : Nat, j < 64 → z9.getD j 0 = b2i (if 0 ≤ i1 ∧ i1 ≤ (j : Int) ∧ (j : Int) - i1 < i2 ∧ (j : Int) - i1 < i8 then bt i3 (j - i1.toNat) else bt i0 j) := h12
  obtain ⟨a, b, c, d⟩ := h12
  have h01 : is01 z9 := by
    intro x hx
    obtain ⟨j, hj, rfl⟩ := List.mem_iff_getElem.1 hx
    have := d j (by omega)
    simp only [List.getD, hj, List.getElem?_eq_getElem, Option.getD_some] at this
    rw [this]; exact b2i_01 _
  have fin : (64 ≤ i8 ∨ i2 ≤ i8 ∨ i1 < 0 ∨ 64 - i8 ≤ i1) → RValue.sig.pre [(D.V v4), (D.Z z9)] ∧ ∀ i10 : Int, RValue.sig.post [(D.V v4), (D.Z z9), (D.I i10)] → (0 ≤ i10 ∧ i10 < 18446744073709551616) → RLay.sig.post [(D.I i0), (D.I i1), (D.I i2), (D.I i3), (D.I i10)] := by
    intro hend
    refine ⟨⟨by omega, h01⟩, fun i10 h17 h18 => ?_⟩
    have h17 : i10 = valueOf z9 := h17
    show ∀ i, i < 64 → bt i10 i = (if 0 ≤ i1 ∧ i1 ≤ (i : Int) ∧ (i : Int) - i1 < i2 then bt i3 (i - i1.toNat) else bt i0 i)
    intro i hi
    rw [h17, valueOf_bt h01, d i hi, b2i_eq1]
    by_cases e : 0 ≤ i1 ∧ i1 ≤ (i : Int) ∧ (i : Int) - i1 < i2
    · rw [if_pos e, if_pos (by omega)]
    · rw [if_neg e, if_neg (by omega)]
  refine ⟨?_, ?_⟩
  · intro h13
    rw [i64w (x := 64 - i8) (by omega) (by omega)]
    refine ⟨?_, ?_⟩
    · intro h14
      refine ⟨?_, ?_⟩
      · intro h15
        refine ⟨?_, ?_⟩
        · intro h16
          rw [i64w (x := i1 + i8) (by omega) (by omega), i64w (by omega) (by omega)]
          refine ⟨?_, fun h17 => ?_⟩
          · omega -- (0 : Int) ≤ i8
          refine ⟨?_, fun h18 => ?_⟩
          · omega -- i8 < ((z7.length : Nat) : Int)
          refine ⟨?_, fun h19 => ?_⟩
          · omega
          refine ⟨?_, fun h20 => ?_⟩
          · omega
          refine ⟨?_, ?_⟩
          · refine ⟨by omega, by omega, by rw [List.length_set]; exact c, fun j hj => ?_⟩
            rw [getD_set _ _ _ (by omega), h8, bitsOf_get _ (by omega)]
            by_cases hj2 : j = (i1 + i8).toNat
            · rw [if_pos hj2, if_pos (by omega), show j - i1.toNat = i8.toNat from by omega]
            · rw [if_neg hj2, d j hj]
              by_cases e : 0 ≤ i1 ∧ i1 ≤ (j : Int) ∧ (j : Int) - i1 < i2 ∧ (j : Int) - i1 < i8
              · rw [if_pos e, if_pos (by omega)]
              · rw [if_neg e, if_neg (by omega)]
          · show (64 - (i8 + 1)).toNat < (64 - i8).toNat
            omega
        · intro h16
          exact fin (by omega)
      · intro h15
        exact fin (by omega)
    · intro h14
      exact fin (by omega)
  · intro h13
    exact fin (by omega)

theorem Cut.pure : Cut.Pure := by
  intro s0 i1 h1 h2 h3
  have h3 : 0 ≤ i1 := h3
  refine ⟨?_, ?_⟩
  · intro h4
    refine ⟨?_, fun h5 => ?_⟩
    · omega -- (0 : Int) ≤ i1
    refine ⟨?_, fun h6 => ?_⟩
    · omega -- i1 ≤ ((s0.size : Nat) : Int)
    show s0.extract (0 : Int).toNat i1.toNat = if (s0.size : Int) > i1 then s0.extract 0 i1.toNat else s0
    rw [if_pos (by omega)]; rfl
  · intro h4
    show s0 = if (s0.size : Int) > i1 then s0.extract 0 i1.toNat else s0
    rw [if_neg (by omega)]

end Go.Vc

namespace Go.Vc

theorem u64same {a b : Int} {f : Nat → Bool} (ha : 0 ≤ a ∧ a < 18446744073709551616) (hb : 0 ≤ b ∧ b < 18446744073709551616) (h : ∀ i, i < 64 → bt a i = f i) (h' : ∀ i, i < 64 → bt b i = f i) : a = b :=
  eq_u64 (u64i ha) (u64i hb) fun i hi => (h i hi).trans (h' i hi).symm
theorem i64same {a b : Int} {f : Nat → Bool} (ha : -9223372036854775808 ≤ a ∧ a < 9223372036854775808) (hb : -9223372036854775808 ≤ b ∧ b < 9223372036854775808) (h : ∀ i, i < 64 → bt a i = f i) (h' : ∀ i, i < 64 → bt b i = f i) : a = b :=
  eq_i64 (i64i ha) (i64i hb) fun i hi => (h i hi).trans (h' i hi).symm

theorem RSigned.pure : RSigned.Pure := by
  intro i0 i1 h1 h2 h3
  have hc : minI (maxI i1 1) 64 = clamp 1 64 i1 := by rw [minI_eq, maxI_eq]; unfold clamp; split <;> (try split) <;> omega
  have hb : 1 ≤ clamp 1 64 i1 ∧ clamp 1 64 i1 ≤ 64 := by unfold clamp; split <;> (try split) <;> omega
  rw [hc, i64w (x := clamp 1 64 i1 - 1) (by omega) (by omega)]
  refine ⟨?_, ?_⟩
  · trivial -- pre [(D.I i0)]
  intro v2 z3 h4 h5
  have h4 : z3 = bitsOf i0 := h4
  have hl3 : z3.length = 64 := by rw [h4, bitsOf_len]
  refine ⟨?_, fun h6 => ?_⟩
  · omega
  refine ⟨?_, fun h7 => ?_⟩
  · omega
  have htop : z3.getD (clamp 1 64 i1 - 1).toNat 0 = b2i (bt i0 ((clamp 1 64 i1).toNat - 1)) := by
    rw [h4, bitsOf_get _ (by omega), show (clamp 1 64 i1 - 1).toNat = (clamp 1 64 i1).toNat - 1 from by omega]
  rw [htop]
  refine ⟨?_, ?_⟩
  · refine ⟨by omega, by omega, hl3, fun j hj => ?_⟩
    rw [h4, bitsOf_get _ hj]
    congr 2
    split <;> omega
  intro i4 z5 h8 h9 h10
  have h10 : clamp 1 64 i1 ≤ i4 ∧ i4 ≤ 64 ∧ z5.length = 64 ∧ ∀ j : Nat, j < 64 → z5.getD j 0 = b2i (bt i0 (if (j : Int) < i4 then min j ((clamp 1 64 i1).toNat - 1) else j)) := h10
  obtain ⟨a, b, c, d⟩ := h10
  have h01 : is01 z5 := by
    intro x hx
    obtain ⟨j, hj, rfl⟩ := List.mem_iff_getElem.1 hx
    have := d j (by omega)
    simp only [List.getD, hj, List.getElem?_eq_getElem, Option.getD_some] at this
    rw [this]; exact b2i_01 _
  refine ⟨?_, ?_⟩
  · intro h11
    refine ⟨?_, fun h12 => ?_⟩
    · omega -- (0 : Int) ≤ i4
    refine ⟨?_, fun h13 => ?_⟩
    · omega -- i4 < ((z5.length : Nat) : Int)
    rw [i64w (by omega) (by omega)]
    refine ⟨?_, ?_⟩
    · refine ⟨by omega, by omega, by rw [List.length_set]; exact c, fun j hj => ?_⟩
      rw [getD_set _ _ _ (by omega)]
      by_cases e : j = i4.toNat
      · rw [if_pos e, if_pos (by omega), Nat.min_eq_right (by omega)]
      · rw [if_neg e, d j hj]
        congr 2
        split <;> split <;> omega
    · show (64 - (i4 + 1)).toNat < (64 - i4).toNat
      omega
  · intro h11
    have d' : ∀ j : Nat, j < 64 → z5.getD j 0 = b2i (bt i0 (min j ((clamp 1 64 i1).toNat - 1))) := by
      intro j hj; rw [d j hj, if_pos (by omega)]
    have fill : ∀ r : Int, IntKind.i64.has r → (∀ i, i < 64 → bt r i = bt i0 (min i ((clamp 1 64 i1).toNat - 1))) → RSigned.sig.post [(D.I i0), (D.I i1), (D.I r)] := fun r _ h => h
    refine ⟨?_, ?_⟩
    · intro h12
      refine ⟨?_, ?_⟩
      · exact ⟨by omega, h01⟩
      intro i6 h13 h14
      have h13 : i6 = valueOf z5 := h13
      apply fill _ (wrap_has _ _)
      intro i hi
      rw [bt_wrap .i64 _ hi, h13, valueOf_bt h01, d' i hi, b2i_eq1]
    · intro h12
      refine ⟨?_, ?_⟩
      · refine ⟨by decide, by decide, c, fun j hj => ?_⟩
        rw [d' j hj]
        have : ¬ (j : Int) < 0 := by omega
        simp [this]
      intro i6 z7 h13 h14 h15
      have h15 : 0 ≤ i6 ∧ i6 ≤ 64 ∧ z7.length = 64 ∧ ∀ j : Nat, j < 64 → z7.getD j 0 = b2i ((bt i0 (min j ((clamp 1 64 i1).toNat - 1))) ^^ decide ((j : Int) < i6)) := h15
      obtain ⟨a2, b2, c2, d2⟩ := h15
      have h012 : is01 z7 := by
        intro x hx
        obtain ⟨j, hj, rfl⟩ := List.mem_iff_getElem.1 hx
        have := d2 j (by omega)
        simp only [List.getD, hj, List.getElem?_eq_getElem, Option.getD_some] at this
        rw [this]; exact b2i_01 _
      refine ⟨?_, ?_⟩
      · intro h16
        refine ⟨?_, fun h17 => ?_⟩
        · omega -- (0 : Int) ≤ i6
        refine ⟨?_, fun h18 => ?_⟩
        · omega -- i6 < ((z7.length : Nat) : Int)
        have hg := is01_getD h012 i6.toNat
        rw [i64w (x := i6 + 1) (by omega) (by omega), i64w (x := 1 - _) (by omega) (by omega)]
        refine ⟨?_, ?_⟩
        · refine ⟨by omega, by omega, by rw [List.length_set]; exact c2, fun j hj => ?_⟩
          rw [getD_set _ _ _ (by omega)]
          by_cases e : j = i6.toNat
          · rw [if_pos e, ← e, d2 j hj]
            have h1 : ¬ (j : Int) < i6 := by omega
            have h2 : (j : Int) < i6 + 1 := by omega
            simp only [h1, h2, decide_true, decide_false]
            cases bt i0 (min j ((clamp 1 64 i1).toNat - 1)) <;> rfl
          · rw [if_neg e, d2 j hj]
            have h1 : ((j : Int) < i6) ↔ ((j : Int) < i6 + 1) := by omega
            simp only [h1]
        · show (64 - (i6 + 1)).toNat < (64 - i6).toNat
          omega
      · intro h16
        refine ⟨?_, ?_⟩
        · exact ⟨by omega, h012⟩
        intro i8 h17 h18
        have h17 : i8 = valueOf z7 := h17
        apply fill _ (wrap_has _ _)
        intro i hi
        have e : bt (IntKind.wrap .i64 ((IntKind.wrap .i64 ((0 : Int) - (IntKind.wrap .i64 i8))) - (1 : Int))) i = !bt i8 i := by
          rw [← bt_not, bt_wrap .i64 _ hi]
          have : ∃ q, IntKind.wrap .i64 (0 - IntKind.wrap .i64 i8) - 1 = -i8 - 1 + q * 2 ^ 64 := by
            rw [IntKind.wrap_i64, IntKind.wrap_i64]
            simp only [show (2 : Int) ^ 64 = 18446744073709551616 from rfl]
            refine ⟨((0 - ((i8 + 9223372036854775808) % 18446744073709551616 - 9223372036854775808) + 9223372036854775808) % 18446744073709551616 - 9223372036854775808 + i8) / 18446744073709551616, ?_⟩
            omega
          obtain ⟨q, hq⟩ := this
          rw [hq, bt_add_mul _ _ hi]
        rw [e, h17, valueOf_bt h012, d2 i hi, b2i_eq1]
        have : (i : Int) < i6 := by omega
        simp [this]

theorem Awake01.pure : Awake01.Pure := by
  intro h1
  refine ⟨trivial, ?_⟩
  intro i0 h2 h3
  have e0 : i0 = -128 := i64same h3 (by decide) h2 (by decide)
  refine ⟨fun _ => ?_, fun h => absurd e0 h⟩
  refine ⟨trivial, ?_⟩
  intro i1 h5 h6
  have e1 : i1 = 9223372036854775808 := u64same h6 (by decide) h5 (by decide)
  refine ⟨fun _ => ?_, fun h => absurd e1 h⟩
  refine ⟨trivial, ?_⟩
  intro i2 h8 h9
  have e2 : i2 = 15 := u64same h9 (by decide) h8 (by decide)
  refine ⟨fun _ => ?_, fun h => absurd e2 h⟩
  refine ⟨trivial, ?_⟩
  intro i3 h11 h12
  have h11 : 0 ≤ i3 ∧ i3 ≤ 64 ∧ (∀ i, (i : Nat) < 64 → (i : Int) < i3 → bt 8 i = false) ∧ (i3 < 64 → bt 8 i3.toNat = true) := h11
  have e3 : i3 = 3 := by
    obtain ⟨a, b, c, d⟩ := h11
    apply Classical.byContradiction
    intro hne
    by_cases h : 3 < i3
    · exact absurd (c 3 (by decide) h) (by decide)
    · have := d (by omega)
      have h : i3 = 0 ∨ i3 = 1 ∨ i3 = 2 := by omega
      rcases h with rfl | rfl | rfl <;> exact absurd this (by decide)
  refine ⟨fun _ => ?_, fun h => absurd e3 h⟩
  refine ⟨trivial, ?_⟩
  intro i4 h14 h15
  have e4 : i4 = 72057594037927936 := u64same h15 (by decide) h14 (by decide)
  exact yesB (l := []) (by rw [e4]; rfl)

theorem awake01 {b : Bool} (h : Awake01.sig.post [D.B b]) : b = true := of_yes (l := []) h

theorem LMoves.pure : LMoves.Pure := by
  intro i0 i1 i2 h1 h2 h3 h4
  refine ⟨trivial, ?_⟩
  intro b3 h5
  refine ⟨fun _ => ?_, fun h => by rw [awake01 h5] at h; cases h⟩
  refine ⟨trivial, ?_⟩
  intro i4 h7 h8
  refine ⟨Or.inl rfl, ?_⟩
  intro i5 h9 h10
  have e1 : i4 = i5 := u64same h8 h10 h7 (fun i hi => by
    have := h9 i hi
    rw [this]
    have : (i : Int) < 64 := by omega
    simp [this])
  refine ⟨fun _ => ?_, fun h => absurd e1 h⟩
  refine ⟨trivial, ?_⟩
  intro i6 h12 h13
  refine ⟨Or.inr rfl, ?_⟩
  intro i7 h14 h15
  have h12 : ∀ i, i < 32 → bt i6 i = bt (IntKind.wrap .u32 i0) (((i : Int) - i1) % 32).toNat := h12
  have h14 : ∀ i, i < 64 → bt i7 i = (decide ((i : Int) < 32) && bt i0 (((i : Int) - i1) % 32).toNat) := h14
  have e2 : IntKind.wrap .u64 i6 = i7 := by
    rw [u64w (by omega) (by omega)]
    apply eq_u64 (u64i (by omega)) (u64i h15)
    intro i hi
    rw [h14 i hi]
    by_cases c : i < 32
    · rw [h12 i c, bt_wrap .u32 _ (show (((i : Int) - i1) % 32).toNat < 32 by omega)]
      have : (i : Int) < 32 := by omega
      simp [this]
    · rw [bt_u32_ge (u32i h13) (by omega)]
      have : ¬ (i : Int) < 32 := by omega
      simp [this]
  refine ⟨fun _ => ?_, fun h => absurd e2 h⟩
  refine ⟨trivial, ?_⟩
  intro i8 h17 h18
  have ek : IntKind.wrap .i64 (Int.tmod i2 (64 : Int)) = i2 % 64 := by
    rw [Int.tmod_eq_emod_of_nonneg h3.1, i64w (by omega) (by omega)]
  rw [ek]
  refine ⟨⟨by omega, by omega⟩, ?_⟩
  intro i9 h19 h20
  have h17 : ∀ i, i < 64 → bt i8 i = (decide (i2 % 64 ≤ (i : Int)) && bt i0 (i - (i2 % 64).toNat)) := h17
  have h19 : ∀ i, i < 64 → bt i9 i = (decide (i2 % 64 ≤ (i : Int)) && bt i0 ((i : Int) - i2 % 64).toNat) := h19
  have e3 : i8 = i9 := u64same h18 h20 h17 (fun i hi => by
    rw [h19 i hi, show ((i : Int) - i2 % 64).toNat = i - (i2 % 64).toNat from by omega])
  refine ⟨fun _ => ?_, fun h => absurd e3 h⟩
  refine ⟨trivial, ?_⟩
  intro i10 h22 h23
  rw [i64w (x := 0 - i2 % 64) (by omega) (by omega)]
  refine ⟨⟨by omega, by omega⟩, ?_⟩
  intro i11 h24 h25
  have h22 : ∀ i, i < 64 → bt i10 i = bt i0 (i + (i2 % 64).toNat) := h22
  have h24 : ∀ i, i < 64 → bt i11 i = (decide (0 - i2 % 64 ≤ (i : Int)) && bt i0 ((i : Int) - (0 - i2 % 64)).toNat) := h24
  have e4 : i10 = i11 := u64same h23 h25 h22 (fun i hi => by
    rw [h24 i hi, show ((i : Int) - (0 - i2 % 64)).toNat = i + (i2 % 64).toNat from by omega]
    have : 0 - i2 % 64 ≤ (i : Int) := by omega
    simp only [this, decide_true, Bool.true_and])
  refine ⟨fun _ => ?_, fun h => absurd e4 h⟩
  refine ⟨trivial, ?_⟩
  intro i12 h27 h28
  refine ⟨trivial, ?_⟩
  intro i13 h29 h30
  have h27 : i12 = popI i0 := h27
  have h29 : i13 = popI i0 := h29
  have e5 : i12 = i13 := by rw [h27, h29]
  refine ⟨fun _ => ?_, fun h => absurd e5 h⟩
  refine ⟨trivial, ?_⟩
  intro i14 h32 h33
  refine ⟨trivial, ?_⟩
  intro i15 h34 h35
  have h32 : 0 ≤ i14 ∧ i14 ≤ 64 ∧ (∀ i, (i : Nat) < 64 → (i : Int) < i14 → bt i0 i = false) ∧ (i14 < 64 → bt i0 i14.toNat = true) := h32
  have h34 : 0 ≤ i15 ∧ i15 ≤ 64 ∧ (∀ i, (i : Nat) < 64 → (i : Int) < i15 → bt i0 i = false) ∧ (i15 < 64 → bt i0 i15.toNat = true) := h34
  have e6 : i14 = i15 := by
    obtain ⟨a, b, c, d⟩ := h32
    obtain ⟨a', b', c', d'⟩ := h34
    apply Classical.byContradiction
    intro hne
    by_cases h : i14 < i15
    · have h1 := d (by omega)
      rw [c' i14.toNat (by omega) (by omega)] at h1; cases h1
    · have h1 := d' (by omega)
      rw [c i15.toNat (by omega) (by omega)] at h1; cases h1
  exact yesB (l := [_, _, _]) (by rw [e6]; simp)

theorem LParts.pure : LParts.Pure := by
  intro i0 i1 i2 i3 h1 h2 h3 h4 h5
  refine ⟨trivial, ?_⟩
  intro b4 h6
  refine ⟨fun _ => ?_, fun h => by rw [awake01 h6] at h; cases h⟩
  refine ⟨trivial, ?_⟩
  intro i5 h8 h9
  refine ⟨trivial, ?_⟩
  intro i6 h10 h11
  have e1 : i5 = i6 := u64same h9 h11 h8 h10
  refine ⟨fun _ => ?_, fun h => absurd e1 h⟩
  refine ⟨trivial, ?_⟩
  intro i7 h13 h14
  refine ⟨trivial, ?_⟩
  intro i8 h15 h16
  have e2 : i7 = i8 := i64same h14 h16 h13 h15
  refine ⟨fun _ => ?_, fun h => absurd e2 h⟩
  refine ⟨trivial, ?_⟩
  intro b9 h18
  refine ⟨trivial, ?_⟩
  intro b10 h19
  have h18 : b9 = (decide (0 ≤ i2) && decide (i2 < 64) && bt i0 i2.toNat) := h18
  have h19 : b10 = (decide (0 ≤ i2) && decide (i2 < 64) && bt i0 i2.toNat) := h19
  have e3 : b9 = b10 := by rw [h18, h19]
  refine ⟨fun _ => ?_, fun h => absurd e3 h⟩
  refine ⟨trivial, ?_⟩
  intro i11 h21 h22
  refine ⟨trivial, ?_⟩
  intro i12 h23 h24
  have e4 : i11 = i12 := u64same h22 h24 h21 h23
  refine ⟨fun _ => ?_, fun h => absurd e4 h⟩
  refine ⟨trivial, ?_⟩
  intro i13 h26 h27
  refine ⟨trivial, ?_⟩
  intro i14 h28 h29
  have e5 : i13 = i14 := u64same h27 h29 h26 h28
  refine ⟨fun _ => ?_, fun h => absurd e5 h⟩
  refine ⟨trivial, ?_⟩
  intro i15 h31 h32
  refine ⟨trivial, ?_⟩
  intro i16 h33 h34
  have e6 : i15 = i16 := u64same h32 h34 h31 h33
  exact yesB (l := [_, _, _, _]) (by rw [e6]; simp)

theorem unfold_fold {n : Int} : unfoldF (foldF n) = n := by unfold unfoldF foldF; split <;> split <;> omega
theorem fold_unfold {v : Int} (h : 0 ≤ v) : foldF (unfoldF v) = v := by unfold unfoldF foldF; split <;> split <;> omega

theorem LBack.pure : LBack.Pure := by
  intro i0 i1 h1 h2 h3
  refine ⟨fun _ => ⟨trivial, fun b2 h => yesB (l := [_, _]) (awake01 h)⟩, fun c1 => ⟨fun _ => ⟨trivial, fun b2 h => yesB (l := [_, _]) (awake01 h)⟩, fun c2 => ⟨trivial, ?_⟩⟩⟩
  intro b2 h6
  refine ⟨fun _ => ?_, fun h => by rw [awake01 h6] at h; cases h⟩
  refine ⟨trivial, ?_⟩
  intro i3 h8 h9
  rw [i64w (x := 0 - i1) (by omega) (by omega)]
  refine ⟨trivial, ?_⟩
  intro i4 h10 h11
  have h8 : ∀ i, i < 64 → bt i3 i = bt i0 (((i : Int) - i1) % 64).toNat := h8
  have h10 : ∀ i, i < 64 → bt i4 i = bt i3 (((i : Int) - (0 - i1)) % 64).toNat := h10
  have e1 : i4 = i0 := by
    apply eq_u64 (u64i h11) (u64i h1)
    intro i hi
    rw [h10 i hi, h8 _ (by omega)]
    congr 1
    omega
  refine ⟨fun _ => ?_, fun h => absurd e1 h⟩
  refine ⟨trivial, ?_⟩
  intro i5 h13 h14
  refine ⟨trivial, ?_⟩
  intro i6 h15 h16
  have h13 : ∀ i, i < 64 → bt i5 i = bt i0 (8 * (7 - i / 8) + i % 8) := h13
  have h15 : ∀ i, i < 64 → bt i6 i = bt i5 (8 * (7 - i / 8) + i % 8) := h15
  have e2 : i6 = i0 := by
    apply eq_u64 (u64i h16) (u64i h1)
    intro i hi
    rw [h15 i hi, h13 _ (by omega)]
    congr 1
    omega
  refine ⟨fun _ => ?_, fun h => absurd e2 h⟩
  refine ⟨trivial, ?_⟩
  intro i7 h18 h19
  refine ⟨trivial, ?_⟩
  intro i8 h20 h21
  have h18 : i7 = foldF (IntKind.wrap .i64 i0) := h18
  have h20 : i8 = unfoldF i7 := h20
  have e3 : i8 = IntKind.wrap .i64 i0 := by rw [h20, h18, unfold_fold]
  refine ⟨fun _ => ?_, fun h => absurd e3 h⟩
  refine ⟨trivial, ?_⟩
  intro i9 h23 h24
  refine ⟨trivial, ?_⟩
  intro i10 h25 h26
  have h23 : i9 = unfoldF i0 := h23
  have h25 : i10 = foldF i9 := h25
  have e4 : i10 = i0 := by rw [h25, h23, fold_unfold h1.1]
  refine ⟨fun _ => ?_, fun h => absurd e4 h⟩
  refine ⟨trivial, ?_⟩
  intro s11 h28 h29
  refine ⟨trivial, ?_⟩
  intro i12 h30 h31
  have h28 : s11 = textOf (bytesLE i0 8) := h28
  have h30 : i12 = numOf ((bytesOf s11).take 8) := h30
  have e5 : i12 = i0 := by
    apply eq_u64 (u64i h31) (u64i h1)
    intro i hi
    rw [h30, h28, bytesOf_textOf (bytesLE_has _ _), List.take_of_length_le (by rw [bytesLE_len]; decide), bt_numOf (bytesLE_has _ _), bytesLE_get _ _ (by omega), bt_byte _ _ _ (by omega)]
    congr 1
    omega
  exact yesB (l := [_, _]) (by rw [e5]; simp)

theorem LLaid.pure : LLaid.Pure := by
  intro i0 i1 i2 i3 h1 h2 h3 h4 h5
  have aw : ∀ b : Bool, Awake01.sig.post [D.B b] → LLaid.sig.post [(D.I i0), (D.I i1), (D.I i2), (D.I i3), (D.B b)] := fun b h => yesB (l := [_, _, _, _]) (awake01 h)
  refine ⟨fun _ => ⟨trivial, aw⟩, fun c1 => ⟨fun _ => ⟨trivial, aw⟩, fun c2 => ⟨fun _ => ⟨trivial, aw⟩, fun c3 => ?_⟩⟩⟩
  rw [i64w (x := 64 - i3) (by omega) (by omega)]
  refine ⟨fun _ => ⟨trivial, aw⟩, fun c4 => ⟨trivial, ?_⟩⟩
  intro i4 h10 h11
  have h10 : ∀ i, i < 64 → bt i4 i = (if 0 ≤ i2 ∧ i2 ≤ (i : Int) ∧ (i : Int) - i2 < i3 then bt i1 (i - i2.toNat) else bt i0 i) := h10
  refine ⟨⟨by decide, by decide⟩, ?_⟩
  intro i5 h12 h13
  have h13 : 0 ≤ i5 ∧ i5 ≤ 64 := h13
  refine ⟨?_, ?_⟩
  · intro h14
    rw [i64w (x := i5 + 1) (by omega) (by omega)]
    have nxt : LLaid.I0 [(D.I i0), (D.I i1), (D.I i2), (D.I i3), (D.I (i5 + 1))] ∧ LLaid.I0M [(D.I i0), (D.I i1), (D.I i2), (D.I i3), (D.I (i5 + 1))] < LLaid.I0M [(D.I i0), (D.I i1), (D.I i2), (D.I i3), (D.I i5)] := by
      refine ⟨⟨by omega, by omega⟩, ?_⟩
      show (64 - (i5 + 1)).toNat < (64 - i5).toNat
      omega
    have go : (i5 < i2 ∨ i2 + i3 ≤ i5) → ∀ b6 : Bool, Bit.sig.post [(D.I i4), (D.I i5), (D.B b6)] → ∀ b7 : Bool, Bit.sig.post [(D.I i0), (D.I i5), (D.B b7)] → b6 = b7 := by
      intro hc b6 h6 b7 h7
      have h6 : b6 = (decide (0 ≤ i5) && decide (i5 < 64) && bt i4 i5.toNat) := h6
      have h7 : b7 = (decide (0 ≤ i5) && decide (i5 < 64) && bt i0 i5.toNat) := h7
      rw [h6, h7, h10 _ (by omega), if_neg (by omega)]
    refine ⟨?_, ?_⟩
    · intro h15
      refine ⟨trivial, fun b6 h16 => ⟨trivial, fun b7 h17 => ?_⟩⟩
      exact ⟨fun h => absurd (go (Or.inl h15) b6 h16 b7 h17) h, fun _ => nxt⟩
    · intro h15
      rw [i64w (x := i2 + i3) (by omega) (by omega)]
      refine ⟨?_, fun _ => nxt⟩
      intro h16
      refine ⟨trivial, fun b6 h17 => ⟨trivial, fun b7 h18 => ?_⟩⟩
      exact ⟨fun h => absurd (go (Or.inr h16) b6 h17 b7 h18) h, fun _ => nxt⟩
  · intro h14
    refine ⟨trivial, fun b6 h15 => ?_⟩
    refine ⟨fun _ => ?_, fun h => by rw [awake01 h15] at h; cases h⟩
    refine ⟨trivial, ?_⟩
    intro i7 h17 h18
    refine ⟨trivial, ?_⟩
    intro i8 h19 h20
    have h17 : ∀ i, i < 64 → bt i7 i = (decide (0 ≤ i2) && decide (i2 < 64) && decide ((i : Int) < i3) && bt i4 (i + i2.toNat)) := h17
    have h19 : ∀ i, i < 64 → bt i8 i = (decide ((i : Int) < i3) && bt i1 i) := h19
    have a1 : 0 ≤ i2 := by omega
    have a2 : i2 < 64 := by omega
    have e1 : i7 = i8 := by
      apply eq_u64 (u64i h18) (u64i h20)
      intro i hi
      rw [h17 i hi, h19 i hi]
      by_cases c : (i : Int) < i3
      · rw [h10 _ (by omega), if_pos (by omega), show i + i2.toNat - i2.toNat = i from by omega]
        simp [a1, a2]
      · simp [c]
    refine ⟨fun _ => ?_, fun h => absurd e1 h⟩
    refine ⟨trivial, ?_⟩
    intro i9 h22 h23
    refine ⟨trivial, ?_⟩
    intro i10 h24 h25
    have h22 : ∀ i, i < 64 → bt i9 i = (decide (0 ≤ i2) && decide (i2 < 64) && decide ((i : Int) < i3) && bt i0 (i + i2.toNat)) := h22
    have h24 : ∀ i, i < 64 → bt i10 i = (if 0 ≤ i2 ∧ i2 ≤ (i : Int) ∧ (i : Int) - i2 < i3 then bt i9 (i - i2.toNat) else bt i4 i) := h24
    have e2 : i10 = i0 := by
      apply eq_u64 (u64i h25) (u64i h1)
      intro i hi
      rw [h24 i hi]
      by_cases c : 0 ≤ i2 ∧ i2 ≤ (i : Int) ∧ (i : Int) - i2 < i3
      · rw [if_pos c, h22 _ (by omega), show i - i2.toNat + i2.toNat = i from by omega]
        have : ((i - i2.toNat : Nat) : Int) < i3 := by omega
        simp [a1, a2, this]
      · rw [if_neg c, h10 i hi, if_neg c]
    exact yesB (l := [_, _, _, _]) (by rw [e2]; simp)

theorem LBytes.pure : LBytes.Pure := by
  intro i0 s1 i2 h1 h2 h3 h4
  refine ⟨(by decide : (0 : Int) ≤ 20), ?_⟩
  intro s3 h5 h6
  refine ⟨trivial, ?_⟩
  intro i4 i5 h7 h8 h9
  have h7 : (∀ i, i < 64 → bt i4 i = (decide ((i : Int) < wide i2) && bt i0 i)) ∧ (∀ i, i < 64 → bt i5 i = bt i0 (min i ((wide i2).toNat - 1))) := h7
  obtain ⟨hu, hs⟩ := h7
  have same : ∀ s7 : ByteArray, Bytes.sig.post [(D.I i0), (D.I i2), (D.S s7)] → ∀ s8 : ByteArray, RBytes.sig.post [(D.I i0), (D.I i2), (D.S s8)] → s7 = s8 := by
    intro s7 a s8 b
    have a : s7 = textOf (bytesLE i0 (clamp 0 8 i2).toNat) := a
    have b : s8 = textOf (bytesLE i0 (clamp 0 8 i2).toNat) := b
    rw [a, b]
  have same2 : ∀ i9 : Int, Number.sig.post [(D.S s3), (D.I i9)] → ∀ i10 : Int, RNumber.sig.post [(D.S s3), (D.I i10)] → i9 = i10 := by
    intro i9 a i10 b
    have a : i9 = numOf ((bytesOf s3).take 8) := a
    have b : i10 = numOf ((bytesOf s3).take 8) := b
    rw [a, b]
  have same3 : ∀ w : Int, wide i2 = w → ∀ i13 : Int, RLow.sig.post [(D.I i0), (D.I w), (D.I i13)] → (0 ≤ i13 ∧ i13 < 18446744073709551616) → i4 = i13 := by
    intro w hw i13 h b
    rw [hw] at hu
    exact u64same h8 b hu h
  have same4 : ∀ w : Int, wide i2 = w → ∀ i14 : Int, RSigned.sig.post [(D.I i0), (D.I w), (D.I i14)] → (-9223372036854775808 ≤ i14 ∧ i14 < 9223372036854775808) → i5 = i14 := by
    intro w hw i14 h b
    have hc : clamp 1 64 w = w := by rw [← hw]; unfold wide clamp; repeat' split
                                     all_goals omega
    have h : ∀ i, i < 64 → bt i14 i = bt i0 (min i ((clamp 1 64 w).toNat - 1)) := h
    rw [hc] at h
    rw [hw] at hs
    exact i64same h9 b hs h
  have same5 : ∀ i15 : Int, Fold.sig.post [(D.I (IntKind.wrap .i64 i0)), (D.I i15)] → ∀ i16 : Int, RFold.sig.post [(D.I (IntKind.wrap .i64 i0)), (D.I i16)] → i15 = i16 := by
    intro i15 a i16 b
    have a : i15 = foldF (IntKind.wrap .i64 i0) := a
    have b : i16 = foldF (IntKind.wrap .i64 i0) := b
    rw [a, b]
  refine ⟨fun c1 => ?_, fun c1 => ⟨fun c2 => ?_, fun c2 => ⟨fun c3 => ?_, fun c3 => ?_⟩⟩⟩
  · have w : wide i2 = IntKind.wrap .i64 (8 * i2) := by subst c1; decide
    refine ⟨trivial, fun b6 h11 => ?_⟩
    refine ⟨fun _ => ?_, fun h => by rw [awake01 h11] at h; cases h⟩
    refine ⟨trivial, fun s7 a1 a2 => ⟨trivial, fun s8 a3 a4 => ⟨fun _ => ?_, fun h => absurd (same s7 a1 s8 a3) h⟩⟩⟩
    refine ⟨trivial, fun i9 a1 a2 => ⟨trivial, fun i10 a3 a4 => ⟨fun _ => ?_, fun h => absurd (same2 i9 a1 i10 a3) h⟩⟩⟩
    refine ⟨trivial, fun i11 a1 a2 => ⟨trivial, fun i12 a3 a4 => ⟨fun _ => ?_, fun h => absurd (u64same a2 a4 a1 a3) h⟩⟩⟩
    refine ⟨trivial, fun i13 a1 a2 => ⟨fun _ => ?_, fun h => absurd (same3 _ w i13 a1 a2) h⟩⟩
    refine ⟨trivial, fun i14 a1 a2 => ⟨fun _ => ?_, fun h => absurd (same4 _ w i14 a1 a2) h⟩⟩
    refine ⟨trivial, fun i15 a1 a2 => ⟨trivial, fun i16 a3 a4 => yesB (l := [_, _, _]) (by rw [same5 i15 a1 i16 a3]; simp)⟩⟩
  · have w : wide i2 = IntKind.wrap .i64 (8 * i2) := by subst c2; decide
    refine ⟨trivial, fun b6 h11 => ?_⟩
    refine ⟨fun _ => ?_, fun h => by rw [awake01 h11] at h; cases h⟩
    refine ⟨trivial, fun s7 a1 a2 => ⟨trivial, fun s8 a3 a4 => ⟨fun _ => ?_, fun h => absurd (same s7 a1 s8 a3) h⟩⟩⟩
    refine ⟨trivial, fun i9 a1 a2 => ⟨trivial, fun i10 a3 a4 => ⟨fun _ => ?_, fun h => absurd (same2 i9 a1 i10 a3) h⟩⟩⟩
    refine ⟨trivial, fun i11 a1 a2 => ⟨trivial, fun i12 a3 a4 => ⟨fun _ => ?_, fun h => absurd (u64same a2 a4 a1 a3) h⟩⟩⟩
    refine ⟨trivial, fun i13 a1 a2 => ⟨fun _ => ?_, fun h => absurd (same3 _ w i13 a1 a2) h⟩⟩
    refine ⟨trivial, fun i14 a1 a2 => ⟨fun _ => ?_, fun h => absurd (same4 _ w i14 a1 a2) h⟩⟩
    refine ⟨trivial, fun i15 a1 a2 => ⟨trivial, fun i16 a3 a4 => yesB (l := [_, _, _]) (by rw [same5 i15 a1 i16 a3]; simp)⟩⟩
  · have w : wide i2 = IntKind.wrap .i64 (8 * i2) := by subst c3; decide
    refine ⟨trivial, fun b6 h11 => ?_⟩
    refine ⟨fun _ => ?_, fun h => by rw [awake01 h11] at h; cases h⟩
    refine ⟨trivial, fun s7 a1 a2 => ⟨trivial, fun s8 a3 a4 => ⟨fun _ => ?_, fun h => absurd (same s7 a1 s8 a3) h⟩⟩⟩
    refine ⟨trivial, fun i9 a1 a2 => ⟨trivial, fun i10 a3 a4 => ⟨fun _ => ?_, fun h => absurd (same2 i9 a1 i10 a3) h⟩⟩⟩
    refine ⟨trivial, fun i11 a1 a2 => ⟨trivial, fun i12 a3 a4 => ⟨fun _ => ?_, fun h => absurd (u64same a2 a4 a1 a3) h⟩⟩⟩
    refine ⟨trivial, fun i13 a1 a2 => ⟨fun _ => ?_, fun h => absurd (same3 _ w i13 a1 a2) h⟩⟩
    refine ⟨trivial, fun i14 a1 a2 => ⟨fun _ => ?_, fun h => absurd (same4 _ w i14 a1 a2) h⟩⟩
    refine ⟨trivial, fun i15 a1 a2 => ⟨trivial, fun i16 a3 a4 => yesB (l := [_, _, _]) (by rw [same5 i15 a1 i16 a3]; simp)⟩⟩
  · have w : wide i2 = 64 := by unfold wide; rw [if_neg c1, if_neg c2, if_neg c3]
    refine ⟨trivial, fun b6 h11 => ?_⟩
    refine ⟨fun _ => ?_, fun h => by rw [awake01 h11] at h; cases h⟩
    refine ⟨trivial, fun s7 a1 a2 => ⟨trivial, fun s8 a3 a4 => ⟨fun _ => ?_, fun h => absurd (same s7 a1 s8 a3) h⟩⟩⟩
    refine ⟨trivial, fun i9 a1 a2 => ⟨trivial, fun i10 a3 a4 => ⟨fun _ => ?_, fun h => absurd (same2 i9 a1 i10 a3) h⟩⟩⟩
    refine ⟨trivial, fun i11 a1 a2 => ⟨trivial, fun i12 a3 a4 => ⟨fun _ => ?_, fun h => absurd (u64same a2 a4 a1 a3) h⟩⟩⟩
    refine ⟨trivial, fun i13 a1 a2 => ⟨fun _ => ?_, fun h => absurd (same3 _ w i13 a1 a2) h⟩⟩
    refine ⟨trivial, fun i14 a1 a2 => ⟨fun _ => ?_, fun h => absurd (same4 _ w i14 a1 a2) h⟩⟩
    refine ⟨trivial, fun i15 a1 a2 => ⟨trivial, fun i16 a3 a4 => yesB (l := [_, _, _]) (by rw [same5 i15 a1 i16 a3]; simp)⟩⟩

end Go.Vc
