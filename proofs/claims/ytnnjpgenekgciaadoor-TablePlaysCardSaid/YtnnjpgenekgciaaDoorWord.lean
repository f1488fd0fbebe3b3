/-
  Contracts of the functions on whole numbers (word, and the document's).
  Printed by wip/vct.py: the conditions of functions, by their contracts.
  The functions on whole numbers keep their contracts: the plain part.
  The document's functions on whole numbers keep their contracts: the plain part.
  More contracts of the functions on whole numbers; the laws.
  Printed by wip/vct.py: the conditions of functions, by their contracts.
  More functions on whole numbers keep their contracts: the plain part.
  Still more functions on whole numbers keep their contracts: the plain part.
  The laws of whole numbers: the plain part.
-/
import Derived.Test.YtnnjpgenekgciaaDoorVcd
import Derived.KernelRfl
set_option linter.unusedVariables false
set_option linter.unusedSimpArgs false
namespace Go.Vc
def tru (_ : List D) : Prop := True

def b2i (b : Bool) : Int := if b then 1 else 0
def bitsOf (v : Int) : List Int := (List.range 64).map fun i => b2i (bt v i)
def valueOf : List Int → Int
  | [] => 0
  | b :: l => b + 2 * valueOf l
def is01 (l : List Int) : Prop := ∀ x ∈ l, x = 0 ∨ x = 1
def clamp (a b n : Int) : Int := if n < a then a else if n > b then b else n
def Low.post : List D → Prop
  | [.I v, .I n, .I r] => ∀ i, i < 64 → bt r i = (decide ((i : Int) < n) && bt v i)
  | _ => False
def Low.sig : Sig := sigF [.i .u64, .i .i64] [.i .u64] tru Low.post
def Field.post : List D → Prop
  | [.I v, .I a, .I n, .I r] => ∀ i, i < 64 → bt r i = (decide (0 ≤ a) && decide (a < 64) && decide ((i : Int) < n) && bt v (i + a.toNat))
  | _ => False
def Field.sig : Sig := sigF [.i .u64, .i .i64, .i .i64] [.i .u64] tru Field.post
def Turn32.post : List D → Prop
  | [.I v, .I n, .I r] => ∀ i, i < 32 → bt r i = bt v (((i : Int) - n) % 32).toNat
  | _ => False
def Turn32.sig : Sig := sigF [.i .u32, .i .i64] [.i .u32] tru Turn32.post
def RBits.post : List D → Prop
  | [.I v, .V _, .Z l] => l = bitsOf v
  | _ => False
def RBits.sig : Sig := sigF [.i .u64] [.z .i64] tru RBits.post
def RBits.I0 : List D → Prop
  | [.I v0, .I v, .Z l, .I i] => 0 ≤ i ∧ i ≤ 64 ∧ v = v0 / 2 ^ i.toNat ∧ l = (bitsOf v0).take i.toNat
  | _ => False
def RBits.I0M : List D → Nat
  | [.I _, .I _, .Z _, .I i] => (64 - i).toNat
  | _ => 0
def RValue.pre : List D → Prop
  | [.V _, .Z l] => l.length ≤ 64 ∧ is01 l
  | _ => False
def RValue.post : List D → Prop
  | [.V _, .Z l, .I r] => r = valueOf l
  | _ => False
def RValue.sig : Sig := sigF [.z .i64] [.i .u64] RValue.pre RValue.post
def RValue.I0 : List D → Prop
  | [.V _, .Z l, .I v, .I i] => -1 ≤ i ∧ i < l.length ∧ v = valueOf (l.drop (i + 1).toNat)
  | _ => False
def RValue.I0M : List D → Nat
  | [.V _, .Z _, .I _, .I i] => (i + 1).toNat
  | _ => 0
end Go.Vc
namespace Go.Vc
set_option linter.unusedVariables false
def Low.vc : VC :=
 (.all .I
 (.all .I
 (.know (.has .u64 (.at 0))
 (.know (.has .i64 (.at 1))
 (.post 0 [(.at 0), (.at 1)]
 (.and
 (.imp (.o2 .le (.at 1) (.int 0)) true
 (.ret [(.at 0), (.at 1), (.int 0)]))
 (.imp (.o2 .le (.at 1) (.int 0)) false
 (.and
 (.imp (.o2 .le (.int 64) (.at 1)) true
 (.ret [(.at 0), (.at 1), (.at 0)]))
 (.imp (.o2 .le (.int 64) (.at 1)) false
 (.obl (.o2 .le (.int 0) (.at 1))
 (.ret [(.at 0), (.at 1), (.o2 (.bits .and .u64) (.at 0) (.o2 (.sub .u64) (.o2 (.shl .u64) (.int 1) (.at 1)) (.int 1)))])))))))))))
def Low.Pure : Prop :=
 ∀ (i0 : Int),
 ∀ (i1 : Int),
 (0 ≤ i0 ∧ i0 < 18446744073709551616) →
 (-9223372036854775808 ≤ i1 ∧ i1 < 9223372036854775808) →
 Low.sig.pre [(D.I i0), (D.I i1)] →
 ((
 (i1 ≤ (0 : Int)) →
  Low.sig.post [(D.I i0), (D.I i1), (D.I (0 : Int))]) ∧ (
 ((0 : Int) < i1) →
 ((
 ((64 : Int) ≤ i1) →
   Low.sig.post [(D.I i0), (D.I i1), (D.I i0)]) ∧ (
 (i1 < (64 : Int)) →
 ((0 : Int) ≤ i1) ∧ (((0 : Int) ≤ i1) →
   Low.sig.post [(D.I i0), (D.I i1), (D.I (Go.bits .and .u64 i0 (IntKind.wrap .u64 ((shlI .u64 (1 : Int) i1) - (1 : Int)))))])))))
theorem Low.den : Low.vc.den2 (mkEnv Low.sig [] []) [] = Low.Pure := by kernel_rfl
def Field.vc : VC :=
 (.all .I
 (.all .I
 (.all .I
 (.know (.has .u64 (.at 0))
 (.know (.has .i64 (.at 1))
 (.know (.has .i64 (.at 2))
 (.post 0 [(.at 0), (.at 1), (.at 2)]
 (.and
 (.imp (.o2 .lt (.at 1) (.int 0)) true
 (.ret [(.at 0), (.at 1), (.at 2), (.int 0)]))
 (.imp (.o2 .lt (.at 1) (.int 0)) false
 (.and
 (.imp (.o2 .lt (.int 63) (.at 1)) true
 (.ret [(.at 0), (.at 1), (.at 2), (.int 0)]))
 (.imp (.o2 .lt (.int 63) (.at 1)) false
 (.obl (.o2 .le (.int 0) (.at 1))
 (.pre 1 [(.o2 (.shr .u64) (.at 0) (.at 1)), (.at 2)]
 (.all .I
 (.post 1 [(.o2 (.shr .u64) (.at 0) (.at 1)), (.at 2), (.at 3)]
 (.know (.has .u64 (.at 3))
 (.ret [(.at 0), (.at 1), (.at 2), (.at 3)])))))))))))))))))
def Field.Pure : Prop :=
 ∀ (i0 : Int),
 ∀ (i1 : Int),
 ∀ (i2 : Int),
 (0 ≤ i0 ∧ i0 < 18446744073709551616) →
 (-9223372036854775808 ≤ i1 ∧ i1 < 9223372036854775808) →
 (-9223372036854775808 ≤ i2 ∧ i2 < 9223372036854775808) →
 Field.sig.pre [(D.I i0), (D.I i1), (D.I i2)] →
 ((
 (i1 < (0 : Int)) →
  Field.sig.post [(D.I i0), (D.I i1), (D.I i2), (D.I (0 : Int))]) ∧ (
 ((0 : Int) ≤ i1) →
 ((
 ((63 : Int) < i1) →
   Field.sig.post [(D.I i0), (D.I i1), (D.I i2), (D.I (0 : Int))]) ∧ (
 (i1 ≤ (63 : Int)) →
 ((0 : Int) ≤ i1) ∧ (((0 : Int) ≤ i1) →
   Low.sig.pre [(D.I (shrI .u64 i0 i1)), (D.I i2)] ∧ (
 ∀ (i3 : Int),
   Low.sig.post [(D.I (shrI .u64 i0 i1)), (D.I i2), (D.I i3)] →
 (0 ≤ i3 ∧ i3 < 18446744073709551616) →
   Field.sig.post [(D.I i0), (D.I i1), (D.I i2), (D.I i3)]))))))
theorem Field.den : Field.vc.den2 (mkEnv Field.sig [Low.sig] []) [] = Field.Pure := by kernel_rfl
def Turn32.Pure : Prop :=
 ∀ (i0 : Int),
 ∀ (i1 : Int),
 (0 ≤ i0 ∧ i0 < 4294967296) →
 (-9223372036854775808 ≤ i1 ∧ i1 < 9223372036854775808) →
 Turn32.sig.pre [(D.I i0), (D.I i1)] →
 Turn32.sig.post [(D.I i0), (D.I i1), (D.I (Go.bits .or .u32 (shlI .u32 i0 (Go.bits .and .u64 (IntKind.wrap .u64 i1) (31 : Int))) (shrI .u32 i0 (IntKind.wrap .u64 ((32 : Int) - (Go.bits .and .u64 (IntKind.wrap .u64 i1) (31 : Int)))))))]
def RBits.vc : VC :=
 (.all .I
 (.know (.has .u64 (.at 0))
 (.post 0 [(.at 0)]
 (.all .V
 (.all .V
 (.inv 0 [(.at 0), (.at 0), (.lis []), (.int 0)]
 (.all .I
 (.all .V
 (.all .Z
 (.all .I
 (.know (.has .u64 (.at 3))
 (.know (.has .i64 (.at 6))
 (.know (.allHas .i64 (.at 5))
 (.asm 0 [(.at 0), (.at 3), (.at 5), (.at 6)]
 (.and
 (.imp (.o2 .lt (.at 6) (.int 64)) true
 (.all .V
 (.obl (.o2 .le (.o1 .lilen (.o2 .liapp (.at 5) (.o2 .licons (.o1 (.wrap .i64) (.o2 .rem (.at 3) (.int 2))) (.lis [])))) (.int 17592186044416))
 (.all .V
 (.back 0 [(.at 0), (.at 3), (.at 5), (.at 6)] [(.at 0), (.o2 (.quo .u64) (.at 3) (.int 2)), (.o2 .liapp (.at 5) (.o2 .licons (.o1 (.wrap .i64) (.o2 .rem (.at 3) (.int 2))) (.lis []))), (.o2 (.add .i64) (.at 6) (.int 1))])))))
 (.imp (.o2 .lt (.at 6) (.int 64)) false
 (.ret [(.at 0), (.at 4), (.at 5)])))))))))))))))))
def RBits.Pure : Prop :=
 ∀ (i0 : Int),
 (0 ≤ i0 ∧ i0 < 18446744073709551616) →
 RBits.sig.pre [(D.I i0)] →
 ∀ (v1 : Value),
 ∀ (v2 : Value),
 RBits.I0 [(D.I i0), (D.I i0), (D.Z ([] : List Int)), (D.I (0 : Int))] ∧ (
 ∀ (i3 : Int),
 ∀ (v4 : Value),
 ∀ (z5 : List Int),
 ∀ (i6 : Int),
 (0 ≤ i3 ∧ i3 < 18446744073709551616) →
 (-9223372036854775808 ≤ i6 ∧ i6 < 9223372036854775808) →
 (∀ x ∈ z5, IntKind.has .i64 x) →
 RBits.I0 [(D.I i0), (D.I i3), (D.Z z5), (D.I i6)] →
 ((
 (i6 < (64 : Int)) →
 ∀ (v7 : Value),
 ((((z5 ++ ((IntKind.wrap .i64 (Int.tmod i3 (2 : Int))) :: ([] : List Int))).length : Nat) : Int) ≤ (17592186044416 : Int)) ∧ (((((z5 ++ ((IntKind.wrap .i64 (Int.tmod i3 (2 : Int))) :: ([] : List Int))).length : Nat) : Int) ≤ (17592186044416 : Int)) →
 ∀ (v8 : Value),
  RBits.I0 [(D.I i0), (D.I (IntKind.wrap .u64 (Int.tdiv i3 (2 : Int)))), (D.Z (z5 ++ ((IntKind.wrap .i64 (Int.tmod i3 (2 : Int))) :: ([] : List Int)))), (D.I (IntKind.wrap .i64 (i6 + (1 : Int))))] ∧ RBits.I0M [(D.I i0), (D.I (IntKind.wrap .u64 (Int.tdiv i3 (2 : Int)))), (D.Z (z5 ++ ((IntKind.wrap .i64 (Int.tmod i3 (2 : Int))) :: ([] : List Int)))), (D.I (IntKind.wrap .i64 (i6 + (1 : Int))))] < RBits.I0M [(D.I i0), (D.I i3), (D.Z z5), (D.I i6)])) ∧ (
 ((64 : Int) ≤ i6) →
  RBits.sig.post [(D.I i0), (D.V v4), (D.Z z5)])))
theorem RBits.den : RBits.vc.den2 (mkEnv RBits.sig [] [(RBits.I0, RBits.I0M)]) [] = RBits.Pure := by kernel_rfl
def RValue.vc : VC :=
 (.all .V
 (.all .Z
 (.know (.allHas .i64 (.at 1))
 (.post 0 [(.at 0), (.at 1)]
 (.inv 0 [(.at 0), (.at 1), (.int 0), (.o2 (.sub .i64) (.o1 .lilen (.at 1)) (.int 1))]
 (.all .I
 (.all .I
 (.know (.has .u64 (.at 2))
 (.know (.has .i64 (.at 3))
 (.asm 0 [(.at 0), (.at 1), (.at 2), (.at 3)]
 (.and
 (.imp (.o2 .le (.int 0) (.at 3)) true
 (.obl (.o2 .lt (.at 3) (.o1 .lilen (.at 1)))
 (.back 0 [(.at 0), (.at 1), (.at 2), (.at 3)] [(.at 0), (.at 1), (.o2 (.add .u64) (.o2 (.mul .u64) (.int 2) (.at 2)) (.o1 (.wrap .u64) (.o2 .liget (.at 1) (.at 3)))), (.o2 (.sub .i64) (.at 3) (.int 1))])))
 (.imp (.o2 .le (.int 0) (.at 3)) false
 (.ret [(.at 0), (.at 1), (.at 2)])))))))))))))
def RValue.Pure : Prop :=
 ∀ (v0 : Value),
 ∀ (z1 : List Int),
 (∀ x ∈ z1, IntKind.has .i64 x) →
 RValue.sig.pre [(D.V v0), (D.Z z1)] →
 RValue.I0 [(D.V v0), (D.Z z1), (D.I (0 : Int)), (D.I (IntKind.wrap .i64 (((z1.length : Nat) : Int) - (1 : Int))))] ∧ (
 ∀ (i2 : Int),
 ∀ (i3 : Int),
 (0 ≤ i2 ∧ i2 < 18446744073709551616) →
 (-9223372036854775808 ≤ i3 ∧ i3 < 9223372036854775808) →
 RValue.I0 [(D.V v0), (D.Z z1), (D.I i2), (D.I i3)] →
 ((
 ((0 : Int) ≤ i3) →
 (i3 < ((z1.length : Nat) : Int)) ∧ ((i3 < ((z1.length : Nat) : Int)) →
  RValue.I0 [(D.V v0), (D.Z z1), (D.I (IntKind.wrap .u64 ((IntKind.wrap .u64 ((2 : Int) * i2)) + (IntKind.wrap .u64 (z1.getD i3.toNat 0))))), (D.I (IntKind.wrap .i64 (i3 - (1 : Int))))] ∧ RValue.I0M [(D.V v0), (D.Z z1), (D.I (IntKind.wrap .u64 ((IntKind.wrap .u64 ((2 : Int) * i2)) + (IntKind.wrap .u64 (z1.getD i3.toNat 0))))), (D.I (IntKind.wrap .i64 (i3 - (1 : Int))))] < RValue.I0M [(D.V v0), (D.Z z1), (D.I i2), (D.I i3)])) ∧ (
 (i3 < (0 : Int)) →
  RValue.sig.post [(D.V v0), (D.Z z1), (D.I i2)])))
theorem RValue.den : RValue.vc.den2 (mkEnv RValue.sig [] [(RValue.I0, RValue.I0M)]) [] = RValue.Pure := by kernel_rfl
end Go.Vc
namespace Go.Vc
theorem u64i {x : Int} (h : 0 ≤ x ∧ x < 18446744073709551616) : IntKind.u64.has x := has_in.2 h
theorem u32i {x : Int} (h : 0 ≤ x ∧ x < 4294967296) : IntKind.u32.has x := has_in.2 h
theorem minI_eq (a b : Int) : minI a b = min a b := by simp only [minI]; omega
theorem maxI_eq (a b : Int) : maxI a b = max a b := by simp only [maxI]; omega
theorem i64w {x : Int} (h : -9223372036854775808 ≤ x) (h' : x < 9223372036854775808) : IntKind.i64.wrap x = x := by rw [IntKind.wrap_i64]; omega
theorem u64w {x : Int} (h : 0 ≤ x) (h' : x < 18446744073709551616) : IntKind.u64.wrap x = x := by rw [IntKind.wrap_u64]; omega

theorem Low.pure : Low.Pure := by
  intro i0 i1 h1 h2 h3
  refine ⟨?_, ?_⟩
  · intro h4
    show ∀ i, i < 64 → bt 0 i = (decide ((i : Int) < i1) && bt i0 i)
    intro i hi
    have : ¬ ((i : Int) < i1) := by omega
    simp [this, bt_zero]
  · intro h4
    refine ⟨?_, ?_⟩
    · intro h5
      show ∀ i, i < 64 → bt i0 i = (decide ((i : Int) < i1) && bt i0 i)
      intro i hi
      have : ((i : Int) < i1) := by omega
      simp [this]
    · intro h5
      refine ⟨?_, fun h6 => ?_⟩
      · omega -- (0 : Int) ≤ i1
      show ∀ i, i < 64 → bt (Go.bits .and .u64 i0 (IntKind.wrap .u64 ((shlI .u64 (1 : Int) i1) - (1 : Int)))) i = (decide ((i : Int) < i1) && bt i0 i)
      intro i hi
      rw [bt_and .u64 _ _ hi, bt_wrap .u64 _ hi, shl_one _ h6 h5, bt_mask]
      have : (i < i1.toNat) ↔ ((i : Int) < i1) := by omega
      simp [this, Bool.and_comm]

theorem Field.pure : Field.Pure := by
  intro i0 i1 i2 h1 h2 h3 h4
  refine ⟨?_, ?_⟩
  · intro h5
    show ∀ i, i < 64 → bt 0 i = (decide (0 ≤ i1) && decide (i1 < 64) && decide ((i : Int) < i2) && bt i0 (i + i1.toNat))
    intro i hi
    have : ¬ 0 ≤ i1 := by omega
    simp [this, bt_zero]
  · intro h5
    refine ⟨?_, ?_⟩
    · intro h6
      show ∀ i, i < 64 → bt 0 i = (decide (0 ≤ i1) && decide (i1 < 64) && decide ((i : Int) < i2) && bt i0 (i + i1.toNat))
      intro i hi
      have : ¬ i1 < 64 := by omega
      simp [this, bt_zero]
    · intro h6
      refine ⟨?_, fun h7 => ?_⟩
      · omega -- (0 : Int) ≤ i1
      refine ⟨?_, ?_⟩
      · trivial -- pre [(D.I (shrI .u64 i0 i1)), (D.I i2)]
      intro i3 h8 h9
      show ∀ i, i < 64 → bt i3 i = (decide (0 ≤ i1) && decide (i1 < 64) && decide ((i : Int) < i2) && bt i0 (i + i1.toNat))
      intro i hi
      have h8 : ∀ i, i < 64 → bt i3 i = (decide ((i : Int) < i2) && bt (shrI .u64 i0 i1) i) := h8
      have : i1 < 64 := by omega
      rw [h8 i hi, bt_shr_u64 _ (u64i h1)]
      simp [h5, this]

theorem and_31 (a : Int) (ha : IntKind.u64.has a) : Go.bits .and .u64 a 31 = a % 32 := by
  have h := (u64_has a).1 ha
  have e := bits_mask .u64 64 (by decide) (fun n h0 h1 => wrap_u64_eq h0 (by simpa using h1)) 5 (by decide) a h.1 h.2
  simpa using e

theorem Turn32.pure : Turn32.Pure := by
  intro i0 i1 h1 h2 h3
  show ∀ i, i < 32 → bt (Go.bits .or .u32 (shlI .u32 i0 (Go.bits .and .u64 (IntKind.wrap .u64 i1) (31 : Int))) (shrI .u32 i0 (IntKind.wrap .u64 ((32 : Int) - (Go.bits .and .u64 (IntKind.wrap .u64 i1) (31 : Int)))))) i = bt i0 (((i : Int) - i1) % 32).toNat
  intro i hi
  rw [and_31 _ (wrap_has _ _), IntKind.wrap_u64 i1]
  have e : i1 % 18446744073709551616 % 32 = i1 % 32 := by omega
  rw [e, u64w (by omega) (by omega), bt_or .u32 _ _ hi, bt_shl .u32 _ _ hi, bt_shr_u32 _ (u32i h1)]
  by_cases c : (i1 % 32).toNat ≤ i
  · have e1 : (((i : Int) - i1) % 32).toNat = i - (i1 % 32).toNat := by omega
    rw [bt_u32_ge (u32i h1) (i := i + (32 - i1 % 32).toNat) (by omega)]
    simp [c, e1]
  · have e1 : (((i : Int) - i1) % 32).toNat = i + (32 - i1 % 32).toNat := by omega
    simp [c, e1]

/-- The lowest bit that is there, by itself. -/
theorem lowest {v : Int} (h0 : 0 < v) (h1 : v < 18446744073709551616) : ∃ k : Nat, k < 64 ∧ bt v k = true ∧ (∀ j, j < k → bt v j = false) ∧ Go.bits .and .u64 v (IntKind.wrap .u64 (0 - v)) = 2 ^ k := by
  have hex : ∃ k : Nat, bt v k = true := by
    apply Classical.byContradiction
    intro h
    have : v = 0 := eq_u64 (u64i ⟨by omega, by omega⟩) (u64i ⟨by omega, by omega⟩) (fun i _ => by
      rw [bt_zero]
      cases hb : bt v i with
      | false => rfl
      | true => exact absurd ⟨i, hb⟩ h)
    omega
  have hmin : ∃ k : Nat, bt v k = true ∧ ∀ j, j < k → bt v j = false := by
    obtain ⟨k, hk⟩ := hex
    induction k using Nat.strongRecOn with
    | _ k ih =>
      by_cases h : ∃ j, j < k ∧ bt v j = true
      · obtain ⟨j, hj, hb⟩ := h
        exact ih j hj hb
      · refine ⟨k, hk, fun j hj => ?_⟩
        cases hb : bt v j with
        | false => rfl
        | true => exact absurd ⟨j, hj, hb⟩ h
  obtain ⟨k, hk, hlow⟩ := hmin
  have hk64 : k < 64 := by
    apply Classical.byContradiction
    intro hc
    rw [bt_u64_ge (u64i ⟨by omega, by omega⟩) (by omega)] at hk
    cases hk
  refine ⟨k, hk64, hk, hlow, ?_⟩
  have hp : (2 : Int) ^ k < 2 ^ 64 := Int.pow_lt_pow_of_lt (by decide) hk64
  apply eq_u64 (bits_has _ _ _ _) ((u64_has _).2 ⟨Int.le_of_lt (pow_pos' k), hp⟩)
  intro i hi
  rw [bt_and .u64 _ _ hi, bt_wrap .u64 _ hi, bt_pow]
  have hn : bt (0 - v) i = ((BitVec.ofInt 64 (-v)).getLsbD i) := by rw [bt_ofInt]; simp [hi]
  rw [hn, BitVec.ofInt_neg, BitVec.getLsbD_neg, bt_ofInt]
  simp only [hi, decide_true, Bool.true_and]
  by_cases c : i < k
  · have e : ¬ k = i := by omega
    simp [hlow i c, e]
  · by_cases e : k = i
    · subst e
      have : ¬ ∃ j, j < k ∧ (BitVec.ofInt 64 v).getLsbD j = true := by
        rintro ⟨j, hj, hb⟩
        rw [bt_ofInt, hlow j hj] at hb
        simp at hb
      simp [hk, this]
    · have : ∃ j, j < i ∧ (BitVec.ofInt 64 v).getLsbD j = true := ⟨k, by omega, by rw [bt_ofInt, hk]; simp [hk64]⟩
      simp [e, this]

end Go.Vc
namespace Go.Vc
theorem bitsOf_len (v : Int) : (bitsOf v).length = 64 := by simp [bitsOf]
theorem bitsOf_get (v : Int) {i : Nat} (h : i < 64) : (bitsOf v).getD i 0 = b2i (bt v i) := by simp [bitsOf, List.getD, h]
theorem b2i_01 (b : Bool) : b2i b = 0 ∨ b2i b = 1 := by cases b <;> simp [b2i]
theorem bitsOf_01 (v : Int) : is01 (bitsOf v) := by
  intro x hx
  simp only [bitsOf, List.mem_map] at hx
  obtain ⟨i, _, rfl⟩ := hx
  exact b2i_01 _
theorem is01_getD {l : List Int} (h : is01 l) (i : Nat) : l.getD i 0 = 0 ∨ l.getD i 0 = 1 := by
  simp only [List.getD]
  cases e : l[i]? with
  | none => simp
  | some x => simpa using h x (List.mem_of_getElem? e)
theorem getD_set {l : List Int} (i j : Nat) (x : Int) (hi : i < l.length) : (l.set i x).getD j 0 = if j = i then x else l.getD j 0 := by
  simp only [List.getD]
  by_cases h : j = i
  · subst h; simp [hi]
  · rw [List.getElem?_set_ne (by omega)]; simp [h]

theorem valueOf_bt : ∀ {l : List Int}, is01 l → ∀ i : Nat, bt (valueOf l) i = (l.getD i 0 == 1)
  | [], _, i => by simp [valueOf, bt_zero]
  | b :: l, h, i => by
    have hb := h b (by simp)
    have hl : is01 l := fun x hx => h x (by simp [hx])
    cases i with
    | zero =>
      simp only [valueOf, bt, List.getD_cons_zero, Int.pow_zero, Int.ediv_one]
      rcases hb with rfl | rfl
      · simp
      · have : (1 + 2 * valueOf l) % 2 = 1 := by omega
        simp [this]
    | succ i =>
      rw [List.getD_cons_succ, ← valueOf_bt hl i]
      have e : (b + 2 * valueOf l) / 2 ^ (i + 1) = valueOf l / 2 ^ i := by
        rw [Int.pow_succ, Int.mul_comm (2 ^ i) 2, ← Int.ediv_ediv_of_nonneg (by decide : (0 : Int) ≤ 2)]
        have : (b + 2 * valueOf l) / 2 = valueOf l := by omega
        rw [this]
      show decide ((b + 2 * valueOf l) / 2 ^ (i + 1) % 2 = 1) = decide (valueOf l / 2 ^ i % 2 = 1)
      simp only [e]

theorem valueOf_range : ∀ {l : List Int}, is01 l → 0 ≤ valueOf l ∧ valueOf l < 2 ^ l.length
  | [], _ => by simp [valueOf]
  | b :: l, h => by
    have hb := h b (by simp)
    have hl := valueOf_range (l := l) (fun x hx => h x (by simp [hx]))
    simp only [valueOf, List.length_cons, Int.pow_succ]
    omega

theorem valueOf_u64 {l : List Int} (h : is01 l) (hl : l.length ≤ 64) : 0 ≤ valueOf l ∧ valueOf l < 18446744073709551616 := by
  have h1 := valueOf_range h
  have h2 : (2 : Int) ^ l.length ≤ 2 ^ 64 := by exact_mod_cast Nat.pow_le_pow_right (by decide : 0 < 2) hl
  simp only [show (2 : Int) ^ 64 = 18446744073709551616 from rfl] at h2
  omega

theorem drop_getD {l : List Int} {i : Nat} (h : i < l.length) : l.drop i = l.getD i 0 :: l.drop (i + 1) := by
  rw [List.drop_eq_getElem_cons h]
  simp [List.getD, h]

theorem bits_take_succ (v : Int) {i : Nat} (h : i < 64) : (bitsOf v).take (i + 1) = (bitsOf v).take i ++ [b2i (bt v i)] := by
  rw [List.take_add_one]
  congr 1
  simp [bitsOf, h]

theorem RBits.pure : RBits.Pure := by
  intro i0 h1 h2 v1 v2
  refine ⟨?_, ?_⟩
  · exact ⟨by decide, by decide, by simp, by simp⟩
  intro i3 v4 z5 i6 h3 h4 h5 h6
  have h6 : 0 ≤ i6 ∧ i6 ≤ 64 ∧ i3 = i0 / 2 ^ i6.toNat ∧ z5 = (bitsOf i0).take i6.toNat := h6
  obtain ⟨a, b, c, d⟩ := h6
  refine ⟨?_, ?_⟩
  · intro h7 v7
    have hl : z5.length = i6.toNat := by rw [d, List.length_take, bitsOf_len]; omega
    refine ⟨?_, fun h8 => ?_⟩
    · simp only [List.length_append, List.length_cons, List.length_nil]
      omega
    intro v8
    have e1 : Int.tmod i3 2 = b2i (bt i0 i6.toNat) := by
      rw [Int.tmod_eq_emod_of_nonneg h3.1]
      simp only [bt, ← c]
      have : i3 % 2 = 0 ∨ i3 % 2 = 1 := by omega
      rcases this with h | h <;> simp [h, b2i]
    have e2 : Int.tdiv i3 2 = i3 / 2 := Int.tdiv_eq_ediv_of_nonneg h3.1
    have e4 : (i6 + 1).toNat = i6.toNat + 1 := by omega
    rw [e1, e2, i64w (by unfold b2i; split <;> decide) (by unfold b2i; split <;> decide), u64w (by omega) (by omega), i64w (by omega) (by omega)]
    refine ⟨?_, ?_⟩
    · show 0 ≤ i6 + 1 ∧ i6 + 1 ≤ 64 ∧ i3 / 2 = i0 / 2 ^ (i6 + 1).toNat ∧ z5 ++ [b2i (bt i0 i6.toNat)] = (bitsOf i0).take (i6 + 1).toNat
      refine ⟨by omega, by omega, ?_, ?_⟩
      · rw [e4, Int.pow_succ, c, Int.ediv_ediv_of_nonneg (Int.le_of_lt (pow_pos' _))]
      · rw [e4, bits_take_succ _ (by omega), d]
    · show (64 - (i6 + 1)).toNat < (64 - i6).toNat
      omega
  · intro h7
    show z5 = bitsOf i0
    rw [d, List.take_of_length_le]
    rw [bitsOf_len]; omega

theorem RValue.pure : RValue.Pure := by
  intro v0 z1 h1 h2
  have h2 : z1.length ≤ 64 ∧ is01 z1 := h2
  obtain ⟨hl, h01⟩ := h2
  refine ⟨?_, ?_⟩
  · rw [i64w (by omega) (by omega)]
    refine ⟨by omega, by omega, ?_⟩
    rw [List.drop_of_length_le (by omega)]; rfl
  intro i2 i3 h3 h4 h5
  have h5 : -1 ≤ i3 ∧ i3 < z1.length ∧ i2 = valueOf (z1.drop (i3 + 1).toNat) := h5
  obtain ⟨a, b, c⟩ := h5
  refine ⟨?_, ?_⟩
  · intro h6
    refine ⟨?_, fun h7 => ?_⟩
    · omega -- i3 < ((z1.length : Nat) : Int)
    have hd : z1.drop i3.toNat = z1.getD i3.toNat 0 :: z1.drop (i3 + 1).toNat := by
      rw [drop_getD (by omega), show (i3 + 1).toNat = i3.toNat + 1 from by omega]
    have hx := is01_getD h01 i3.toNat
    have hdr : is01 (z1.drop i3.toNat) := fun x hx => h01 x (List.mem_of_mem_drop hx)
    have hv := valueOf_u64 hdr (by rw [List.length_drop]; omega)
    have he : valueOf (z1.drop i3.toNat) = z1.getD i3.toNat 0 + 2 * i2 := by rw [hd, c]; rfl
    rw [u64w (x := 2 * i2) (by omega) (by omega), u64w (x := z1.getD i3.toNat 0) (by omega) (by omega), u64w (by omega) (by omega), i64w (by omega) (by omega)]
    refine ⟨?_, ?_⟩
    · refine ⟨by omega, by omega, ?_⟩
      rw [show i3 - 1 + 1 = i3 from by omega, he]; omega
    · show (i3 - 1 + 1).toNat < (i3 + 1).toNat
      omega
  · intro h6
    show i2 = valueOf z1
    rw [c, show (i3 + 1).toNat = 0 from by omega]; rfl

end Go.Vc
namespace Go.Vc
def Swap.post : List D → Prop
  | [.I v, .I r] => ∀ i, i < 64 → bt r i = bt v (8 * (7 - i / 8) + i % 8)
  | _ => False
def Swap.sig : Sig := sigF [.i .u64] [.i .u64] tru Swap.post

/-- The lowest n bytes. -/
def bytesLE (v : Int) (n : Nat) : List Int := (List.range n).map fun j => v / 256 ^ j % 256
def numOf : List Int → Int
  | [] => 0
  | b :: l => b + 256 * numOf l

def Bytes.post : List D → Prop
  | [.I v, .I n, .S r] => r = textOf (bytesLE v (clamp 0 8 n).toNat)
  | _ => False
def Bytes.sig : Sig := sigF [.i .u64, .i .i64] [.s] tru Bytes.post
def Bytes.I0 : List D → Prop
  | [.I v, .I n, .I i, .Z l] => 0 ≤ i ∧ i ≤ clamp 0 8 n ∧ l.length = (clamp 0 8 n).toNat ∧ l.take i.toNat = bytesLE v i.toNat
  | _ => False
def Bytes.I0M : List D → Nat
  | [.I _, .I n, .I i, .Z _] => (clamp 0 8 n - i).toNat
  | _ => 0
def RBytes.sig : Sig := Bytes.sig
def RBytes.I0 : List D → Prop
  | [.I v0, .I n, .I v, .S s, .I i] => 0 ≤ i ∧ i ≤ clamp 0 8 n ∧ v = v0 / 256 ^ i.toNat ∧ s = textOf (bytesLE v0 i.toNat)
  | _ => False
def RBytes.I0M : List D → Nat
  | [.I _, .I n, .I _, .S _, .I i] => (clamp 0 8 n - i).toNat
  | _ => 0
def RField.sig : Sig := Field.sig
def Cut.pre : List D → Prop
  | [.S _, .I n] => 0 ≤ n
  | _ => False
def Cut.post : List D → Prop
  | [.S s, .I n, .S r] => r = if (s.size : Int) > n then s.extract 0 n.toNat else s
  | _ => False
def Cut.sig : Sig := sigF [.s, .i .i64] [.s] Cut.pre Cut.post

end Go.Vc
namespace Go.Vc
set_option linter.unusedVariables false
def Swap.vc : VC :=
 (.all .I
 (.know (.has .u64 (.at 0))
 (.post 0 [(.at 0)]
 (.ret [(.at 0), (.o2 (.bits .or .u64) (.o2 (.shr .u64) (.o2 (.bits .or .u64) (.o2 (.bits .and .u64) (.o2 (.shr .u64) (.o2 (.bits .or .u64) (.o2 (.bits .and .u64) (.o2 (.shr .u64) (.at 0) (.int 8)) (.int 71777214294589695)) (.o2 (.shl .u64) (.o2 (.bits .and .u64) (.at 0) (.int 71777214294589695)) (.int 8))) (.int 16)) (.int 281470681808895)) (.o2 (.shl .u64) (.o2 (.bits .and .u64) (.o2 (.bits .or .u64) (.o2 (.bits .and .u64) (.o2 (.shr .u64) (.at 0) (.int 8)) (.int 71777214294589695)) (.o2 (.shl .u64) (.o2 (.bits .and .u64) (.at 0) (.int 71777214294589695)) (.int 8))) (.int 281470681808895)) (.int 16))) (.int 32)) (.o2 (.shl .u64) (.o2 (.bits .or .u64) (.o2 (.bits .and .u64) (.o2 (.shr .u64) (.o2 (.bits .or .u64) (.o2 (.bits .and .u64) (.o2 (.shr .u64) (.at 0) (.int 8)) (.int 71777214294589695)) (.o2 (.shl .u64) (.o2 (.bits .and .u64) (.at 0) (.int 71777214294589695)) (.int 8))) (.int 16)) (.int 281470681808895)) (.o2 (.shl .u64) (.o2 (.bits .and .u64) (.o2 (.bits .or .u64) (.o2 (.bits .and .u64) (.o2 (.shr .u64) (.at 0) (.int 8)) (.int 71777214294589695)) (.o2 (.shl .u64) (.o2 (.bits .and .u64) (.at 0) (.int 71777214294589695)) (.int 8))) (.int 281470681808895)) (.int 16))) (.int 32)))]))))
def Swap.Pure : Prop :=
 ∀ (i0 : Int),
 (0 ≤ i0 ∧ i0 < 18446744073709551616) →
 Swap.sig.pre [(D.I i0)] →
 Swap.sig.post [(D.I i0), (D.I (Go.bits .or .u64 (shrI .u64 (Go.bits .or .u64 (Go.bits .and .u64 (shrI .u64 (Go.bits .or .u64 (Go.bits .and .u64 (shrI .u64 i0 (8 : Int)) (71777214294589695 : Int)) (shlI .u64 (Go.bits .and .u64 i0 (71777214294589695 : Int)) (8 : Int))) (16 : Int)) (281470681808895 : Int)) (shlI .u64 (Go.bits .and .u64 (Go.bits .or .u64 (Go.bits .and .u64 (shrI .u64 i0 (8 : Int)) (71777214294589695 : Int)) (shlI .u64 (Go.bits .and .u64 i0 (71777214294589695 : Int)) (8 : Int))) (281470681808895 : Int)) (16 : Int))) (32 : Int)) (shlI .u64 (Go.bits .or .u64 (Go.bits .and .u64 (shrI .u64 (Go.bits .or .u64 (Go.bits .and .u64 (shrI .u64 i0 (8 : Int)) (71777214294589695 : Int)) (shlI .u64 (Go.bits .and .u64 i0 (71777214294589695 : Int)) (8 : Int))) (16 : Int)) (281470681808895 : Int)) (shlI .u64 (Go.bits .and .u64 (Go.bits .or .u64 (Go.bits .and .u64 (shrI .u64 i0 (8 : Int)) (71777214294589695 : Int)) (shlI .u64 (Go.bits .and .u64 i0 (71777214294589695 : Int)) (8 : Int))) (281470681808895 : Int)) (16 : Int))) (32 : Int))))]
theorem Swap.den : Swap.vc.den2 (mkEnv Swap.sig [] []) [] = Swap.Pure := by kernel_rfl
def Bytes.vc : VC :=
 (.all .I
 (.all .I
 (.know (.has .u64 (.at 0))
 (.know (.has .i64 (.at 1))
 (.post 0 [(.at 0), (.at 1)]
 (.obl (.o2 .le (.int 0) (.o2 .min (.o2 .max (.at 1) (.int 0)) (.int 8)))
 (.obl (.o2 .le (.o2 .min (.o2 .max (.at 1) (.int 0)) (.int 8)) (.int 140737488355328))
 (.all .V
 (.inv 0 [(.at 0), (.at 1), (.int 0), (.o2 .lirep (.o2 .min (.o2 .max (.at 1) (.int 0)) (.int 8)) (.int 0))]
 (.all .I
 (.all .Z
 (.know (.has .i64 (.at 3))
 (.know (.allHas .u8 (.at 4))
 (.asm 0 [(.at 0), (.at 1), (.at 3), (.at 4)]
 (.and
 (.imp (.o2 .lt (.at 3) (.o1 .lilen (.o2 .lirep (.o2 .min (.o2 .max (.at 1) (.int 0)) (.int 8)) (.int 0)))) true
 (.obl (.o2 .le (.int 0) (.o2 (.mul .i64) (.int 8) (.at 3)))
 (.obl (.o2 .le (.int 0) (.at 3))
 (.obl (.o2 .lt (.at 3) (.o1 .lilen (.at 4)))
 (.back 0 [(.at 0), (.at 1), (.at 3), (.at 4)] [(.at 0), (.at 1), (.o2 (.add .i64) (.at 3) (.int 1)), (.o3 .liset (.at 4) (.at 3) (.o1 (.wrap .u8) (.o2 (.shr .u64) (.at 0) (.o2 (.mul .i64) (.int 8) (.at 3)))))])))))
 (.imp (.o2 .lt (.at 3) (.o1 .lilen (.o2 .lirep (.o2 .min (.o2 .max (.at 1) (.int 0)) (.int 8)) (.int 0)))) false
 (.ret [(.at 0), (.at 1), (.o1 .ofLi (.at 4))])))))))))))))))))
def Bytes.Pure : Prop :=
 ∀ (i0 : Int),
 ∀ (i1 : Int),
 (0 ≤ i0 ∧ i0 < 18446744073709551616) →
 (-9223372036854775808 ≤ i1 ∧ i1 < 9223372036854775808) →
 Bytes.sig.pre [(D.I i0), (D.I i1)] →
 ((0 : Int) ≤ (minI (maxI i1 (0 : Int)) (8 : Int))) ∧ (((0 : Int) ≤ (minI (maxI i1 (0 : Int)) (8 : Int))) →
 ((minI (maxI i1 (0 : Int)) (8 : Int)) ≤ (140737488355328 : Int)) ∧ (((minI (maxI i1 (0 : Int)) (8 : Int)) ≤ (140737488355328 : Int)) →
 ∀ (v2 : Value),
 Bytes.I0 [(D.I i0), (D.I i1), (D.I (0 : Int)), (D.Z (List.replicate (minI (maxI i1 (0 : Int)) (8 : Int)).toNat (0 : Int)))] ∧ (
 ∀ (i3 : Int),
 ∀ (z4 : List Int),
 (-9223372036854775808 ≤ i3 ∧ i3 < 9223372036854775808) →
 (∀ x ∈ z4, IntKind.has .u8 x) →
 Bytes.I0 [(D.I i0), (D.I i1), (D.I i3), (D.Z z4)] →
 ((
 (i3 < (((List.replicate (minI (maxI i1 (0 : Int)) (8 : Int)).toNat (0 : Int)).length : Nat) : Int)) →
 ((0 : Int) ≤ (IntKind.wrap .i64 ((8 : Int) * i3))) ∧ (((0 : Int) ≤ (IntKind.wrap .i64 ((8 : Int) * i3))) →
 ((0 : Int) ≤ i3) ∧ (((0 : Int) ≤ i3) →
 (i3 < ((z4.length : Nat) : Int)) ∧ ((i3 < ((z4.length : Nat) : Int)) →
  Bytes.I0 [(D.I i0), (D.I i1), (D.I (IntKind.wrap .i64 (i3 + (1 : Int)))), (D.Z (z4.set i3.toNat (IntKind.wrap .u8 (shrI .u64 i0 (IntKind.wrap .i64 ((8 : Int) * i3))))))] ∧ Bytes.I0M [(D.I i0), (D.I i1), (D.I (IntKind.wrap .i64 (i3 + (1 : Int)))), (D.Z (z4.set i3.toNat (IntKind.wrap .u8 (shrI .u64 i0 (IntKind.wrap .i64 ((8 : Int) * i3))))))] < Bytes.I0M [(D.I i0), (D.I i1), (D.I i3), (D.Z z4)])))) ∧ (
 ((((List.replicate (minI (maxI i1 (0 : Int)) (8 : Int)).toNat (0 : Int)).length : Nat) : Int) ≤ i3) →
  Bytes.sig.post [(D.I i0), (D.I i1), (D.S (textOf z4))])))))
theorem Bytes.den : Bytes.vc.den2 (mkEnv Bytes.sig [] [(Bytes.I0, Bytes.I0M)]) [] = Bytes.Pure := by kernel_rfl
def RBytes.vc : VC :=
 (.all .I
 (.all .I
 (.know (.has .u64 (.at 0))
 (.know (.has .i64 (.at 1))
 (.post 0 [(.at 0), (.at 1)]
 (.inv 0 [(.at 0), (.at 1), (.at 0), (.str ⟨#[]⟩), (.int 0)]
 (.all .I
 (.all .S
 (.all .I
 (.know (.has .u64 (.at 2))
 (.know (.ssz (.at 3))
 (.know (.has .i64 (.at 4))
 (.asm 0 [(.at 0), (.at 1), (.at 2), (.at 3), (.at 4)]
 (.and
 (.imp (.o2 .lt (.at 4) (.at 1)) true
 (.and
 (.imp (.o2 .lt (.at 4) (.int 8)) true
 (.all .V
 (.obl (.o2 .le (.o1 .slen (.o2 .cat (.at 3) (.o1 .ofLi (.o2 .licons (.o1 (.wrap .u8) (.o2 .rem (.at 2) (.int 256))) (.lis []))))) (.int 9223372036854775807))
 (.back 0 [(.at 0), (.at 1), (.at 2), (.at 3), (.at 4)] [(.at 0), (.at 1), (.o2 (.quo .u64) (.at 2) (.int 256)), (.o2 .cat (.at 3) (.o1 .ofLi (.o2 .licons (.o1 (.wrap .u8) (.o2 .rem (.at 2) (.int 256))) (.lis [])))), (.o2 (.add .i64) (.at 4) (.int 1))]))))
 (.imp (.o2 .lt (.at 4) (.int 8)) false
 (.ret [(.at 0), (.at 1), (.at 3)]))))
 (.imp (.o2 .lt (.at 4) (.at 1)) false
 (.ret [(.at 0), (.at 1), (.at 3)]))))))))))))))))
def RBytes.Pure : Prop :=
 ∀ (i0 : Int),
 ∀ (i1 : Int),
 (0 ≤ i0 ∧ i0 < 18446744073709551616) →
 (-9223372036854775808 ≤ i1 ∧ i1 < 9223372036854775808) →
 RBytes.sig.pre [(D.I i0), (D.I i1)] →
 RBytes.I0 [(D.I i0), (D.I i1), (D.I i0), (D.S (⟨#[]⟩ : ByteArray)), (D.I (0 : Int))] ∧ (
 ∀ (i2 : Int),
 ∀ (s3 : ByteArray),
 ∀ (i4 : Int),
 (0 ≤ i2 ∧ i2 < 18446744073709551616) →
 ((s3.size : Int) ≤ 9223372036854775807) →
 (-9223372036854775808 ≤ i4 ∧ i4 < 9223372036854775808) →
 RBytes.I0 [(D.I i0), (D.I i1), (D.I i2), (D.S s3), (D.I i4)] →
 ((
 (i4 < i1) →
 ((
 (i4 < (8 : Int)) →
 ∀ (v5 : Value),
 ((((s3 ++ (textOf ((IntKind.wrap .u8 (Int.tmod i2 (256 : Int))) :: ([] : List Int)))).size : Nat) : Int) ≤ (9223372036854775807 : Int)) ∧ (((((s3 ++ (textOf ((IntKind.wrap .u8 (Int.tmod i2 (256 : Int))) :: ([] : List Int)))).size : Nat) : Int) ≤ (9223372036854775807 : Int)) →
   RBytes.I0 [(D.I i0), (D.I i1), (D.I (IntKind.wrap .u64 (Int.tdiv i2 (256 : Int)))), (D.S (s3 ++ (textOf ((IntKind.wrap .u8 (Int.tmod i2 (256 : Int))) :: ([] : List Int))))), (D.I (IntKind.wrap .i64 (i4 + (1 : Int))))] ∧ RBytes.I0M [(D.I i0), (D.I i1), (D.I (IntKind.wrap .u64 (Int.tdiv i2 (256 : Int)))), (D.S (s3 ++ (textOf ((IntKind.wrap .u8 (Int.tmod i2 (256 : Int))) :: ([] : List Int))))), (D.I (IntKind.wrap .i64 (i4 + (1 : Int))))] < RBytes.I0M [(D.I i0), (D.I i1), (D.I i2), (D.S s3), (D.I i4)])) ∧ (
 ((8 : Int) ≤ i4) →
   RBytes.sig.post [(D.I i0), (D.I i1), (D.S s3)]))) ∧ (
 (i1 ≤ i4) →
  RBytes.sig.post [(D.I i0), (D.I i1), (D.S s3)])))
theorem RBytes.den : RBytes.vc.den2 (mkEnv RBytes.sig [] [(RBytes.I0, RBytes.I0M)]) [] = RBytes.Pure := by kernel_rfl










def RField.vc : VC :=
 (.all .I
 (.all .I
 (.all .I
 (.know (.has .u64 (.at 0))
 (.know (.has .i64 (.at 1))
 (.know (.has .i64 (.at 2))
 (.post 0 [(.at 0), (.at 1), (.at 2)]
 (.and
 (.imp (.o2 .lt (.at 1) (.int 0)) true
 (.ret [(.at 0), (.at 1), (.at 2), (.int 0)]))
 (.imp (.o2 .lt (.at 1) (.int 0)) false
 (.and
 (.imp (.o2 .lt (.int 63) (.at 1)) true
 (.ret [(.at 0), (.at 1), (.at 2), (.int 0)]))
 (.imp (.o2 .lt (.int 63) (.at 1)) false
 (.pre 1 [(.at 0)]
 (.all .V
 (.all .Z
 (.post 1 [(.at 0), (.at 3), (.at 4)]
 (.know (.allHas .i64 (.at 4))
 (.obl (.o2 .le (.at 1) (.o1 .lilen (.at 4)))
 (.obl (.o2 .le (.int 0) (.at 1))
 (.all .V
 (.obl (.o2 .le (.int 0) (.o2 .min (.o2 .max (.at 2) (.int 0)) (.o1 .lilen (.o2 .lidrop (.at 4) (.at 1)))))
 (.obl (.o2 .le (.o2 .min (.o2 .max (.at 2) (.int 0)) (.o1 .lilen (.o2 .lidrop (.at 4) (.at 1)))) (.o1 .lilen (.o2 .lidrop (.at 4) (.at 1))))
 (.all .V
 (.pre 2 [(.at 6), (.o2 .litake (.o2 .lidrop (.at 4) (.at 1)) (.o2 .min (.o2 .max (.at 2) (.int 0)) (.o1 .lilen (.o2 .lidrop (.at 4) (.at 1)))))]
 (.all .I
 (.post 2 [(.at 6), (.o2 .litake (.o2 .lidrop (.at 4) (.at 1)) (.o2 .min (.o2 .max (.at 2) (.int 0)) (.o1 .lilen (.o2 .lidrop (.at 4) (.at 1))))), (.at 7)]
 (.know (.has .u64 (.at 7))
 (.ret [(.at 0), (.at 1), (.at 2), (.at 7)])))))))))))))))))))))))))))
def RField.Pure : Prop :=
 ∀ (i0 : Int),
 ∀ (i1 : Int),
 ∀ (i2 : Int),
 (0 ≤ i0 ∧ i0 < 18446744073709551616) →
 (-9223372036854775808 ≤ i1 ∧ i1 < 9223372036854775808) →
 (-9223372036854775808 ≤ i2 ∧ i2 < 9223372036854775808) →
 RField.sig.pre [(D.I i0), (D.I i1), (D.I i2)] →
 ((
 (i1 < (0 : Int)) →
  RField.sig.post [(D.I i0), (D.I i1), (D.I i2), (D.I (0 : Int))]) ∧ (
 ((0 : Int) ≤ i1) →
 ((
 ((63 : Int) < i1) →
   RField.sig.post [(D.I i0), (D.I i1), (D.I i2), (D.I (0 : Int))]) ∧ (
 (i1 ≤ (63 : Int)) →
   RBits.sig.pre [(D.I i0)] ∧ (
 ∀ (v3 : Value),
 ∀ (z4 : List Int),
   RBits.sig.post [(D.I i0), (D.V v3), (D.Z z4)] →
 (∀ x ∈ z4, IntKind.has .i64 x) →
 (i1 ≤ ((z4.length : Nat) : Int)) ∧ ((i1 ≤ ((z4.length : Nat) : Int)) →
 ((0 : Int) ≤ i1) ∧ (((0 : Int) ≤ i1) →
 ∀ (v5 : Value),
 ((0 : Int) ≤ (minI (maxI i2 (0 : Int)) (((z4.drop i1.toNat).length : Nat) : Int))) ∧ (((0 : Int) ≤ (minI (maxI i2 (0 : Int)) (((z4.drop i1.toNat).length : Nat) : Int))) →
 ((minI (maxI i2 (0 : Int)) (((z4.drop i1.toNat).length : Nat) : Int)) ≤ (((z4.drop i1.toNat).length : Nat) : Int)) ∧ (((minI (maxI i2 (0 : Int)) (((z4.drop i1.toNat).length : Nat) : Int)) ≤ (((z4.drop i1.toNat).length : Nat) : Int)) →
 ∀ (v6 : Value),
   RValue.sig.pre [(D.V v6), (D.Z ((z4.drop i1.toNat).take (minI (maxI i2 (0 : Int)) (((z4.drop i1.toNat).length : Nat) : Int)).toNat))] ∧ (
 ∀ (i7 : Int),
   RValue.sig.post [(D.V v6), (D.Z ((z4.drop i1.toNat).take (minI (maxI i2 (0 : Int)) (((z4.drop i1.toNat).length : Nat) : Int)).toNat)), (D.I i7)] →
 (0 ≤ i7 ∧ i7 < 18446744073709551616) →
   RField.sig.post [(D.I i0), (D.I i1), (D.I i2), (D.I i7)]))))))))))
theorem RField.den : RField.vc.den2 (mkEnv RField.sig [RBits.sig, RValue.sig] []) [] = RField.Pure := by kernel_rfl
def Cut.vc : VC :=
 (.all .S
 (.all .I
 (.know (.ssz (.at 0))
 (.know (.has .i64 (.at 1))
 (.post 0 [(.at 0), (.at 1)]
 (.and
 (.imp (.o2 .lt (.at 1) (.o1 .slen (.at 0))) true
 (.obl (.o2 .le (.int 0) (.at 1))
 (.obl (.o2 .le (.at 1) (.o1 .slen (.at 0)))
 (.ret [(.at 0), (.at 1), (.o3 .ssub (.at 0) (.int 0) (.at 1))]))))
 (.imp (.o2 .lt (.at 1) (.o1 .slen (.at 0))) false
 (.ret [(.at 0), (.at 1), (.at 0)]))))))))
def Cut.Pure : Prop :=
 ∀ (s0 : ByteArray),
 ∀ (i1 : Int),
 ((s0.size : Int) ≤ 9223372036854775807) →
 (-9223372036854775808 ≤ i1 ∧ i1 < 9223372036854775808) →
 Cut.sig.pre [(D.S s0), (D.I i1)] →
 ((
 (i1 < ((s0.size : Nat) : Int)) →
 ((0 : Int) ≤ i1) ∧ (((0 : Int) ≤ i1) →
 (i1 ≤ ((s0.size : Nat) : Int)) ∧ ((i1 ≤ ((s0.size : Nat) : Int)) →
  Cut.sig.post [(D.S s0), (D.I i1), (D.S (s0.extract (0 : Int).toNat i1.toNat))]))) ∧ (
 (((s0.size : Nat) : Int) ≤ i1) →
  Cut.sig.post [(D.S s0), (D.I i1), (D.S s0)]))
theorem Cut.den : Cut.vc.den2 (mkEnv Cut.sig [] []) [] = Cut.Pure := by kernel_rfl
end Go.Vc
namespace Go.Vc
theorem m8 : ∀ i, i < 64 → bt 71777214294589695 i = decide (i / 8 % 2 = 0) := by decide
theorem m16 : ∀ i, i < 64 → bt 281470681808895 i = decide (i / 16 % 2 = 0) := by decide

theorem swap_step (v : Int) (hv : IntKind.u64.has v) (s m : Int) (n : Nat) (hs : s = n) (hm : ∀ i, i < 64 → bt m i = decide (i / n % 2 = 0)) (hn : n = 8 ∨ n = 16) (i : Nat) (hi : i < 64) :
    bt (Go.bits .or .u64 (Go.bits .and .u64 (shrI .u64 v s) m) (shlI .u64 (Go.bits .and .u64 v m) s)) i = bt v (if i / n % 2 = 0 then i + n else i - n) := by
  rw [bt_or .u64 _ _ hi, bt_and .u64 _ _ hi, bt_shr_u64 _ hv, bt_shl .u64 _ _ hi, hm i hi]
  have e : s.toNat = n := by omega
  rw [e]
  by_cases c : i / n % 2 = 0
  · simp only [c, decide_true, Bool.and_true, if_true]
    have : ¬ n ≤ i ∨ (i - n) / n % 2 = 1 := by rcases hn with rfl | rfl <;> omega
    rcases this with h | h
    · simp [h]
    · by_cases h2 : n ≤ i
      · rw [bt_and .u64 _ _ (show i - n < 64 by omega), hm _ (by omega)]; simp [h]
      · simp [h2]
  · have h1 : n ≤ i := by rcases hn with rfl | rfl <;> omega
    have h2 : (i - n) / n % 2 = 0 := by rcases hn with rfl | rfl <;> omega
    rw [bt_and .u64 _ _ (show i - n < 64 by omega), hm _ (by omega)]
    simp [c, h1, h2]

theorem Swap.pure : Swap.Pure := by
  intro i0 h1 h2
  have s1 := swap_step i0 (u64i h1) 8 71777214294589695 8 rfl m8 (Or.inl rfl)
  generalize hv1 : Go.bits .or .u64 (Go.bits .and .u64 (shrI .u64 i0 (8 : Int)) (71777214294589695 : Int)) (shlI .u64 (Go.bits .and .u64 i0 (71777214294589695 : Int)) (8 : Int)) = v1 at s1 ⊢
  have hh1 : IntKind.u64.has v1 := by rw [← hv1]; exact bits_has _ _ _ _
  have s2 := swap_step v1 hh1 16 281470681808895 16 rfl m16 (Or.inr rfl)
  generalize hv2 : Go.bits .or .u64 (Go.bits .and .u64 (shrI .u64 v1 (16 : Int)) (281470681808895 : Int)) (shlI .u64 (Go.bits .and .u64 v1 (281470681808895 : Int)) (16 : Int)) = v2 at s2 ⊢
  have hh2 : IntKind.u64.has v2 := by rw [← hv2]; exact bits_has _ _ _ _
  show ∀ i, i < 64 → bt (Go.bits .or .u64 (shrI .u64 v2 (32 : Int)) (shlI .u64 v2 (32 : Int))) i = bt i0 (8 * (7 - i / 8) + i % 8)
  intro i hi
  rw [bt_or .u64 _ _ hi, bt_shr_u64 _ hh2, bt_shl .u64 _ _ hi]
  simp only [show (32 : Int).toNat = 32 from rfl]
  have key : ∀ j, j < 64 → bt v2 j = bt i0 (if (if j / 16 % 2 = 0 then j + 16 else j - 16) / 8 % 2 = 0 then (if j / 16 % 2 = 0 then j + 16 else j - 16) + 8 else (if j / 16 % 2 = 0 then j + 16 else j - 16) - 8) := by
    intro j hj
    rw [s2 j hj, s1 _ (by split <;> omega)]
  by_cases c : 32 ≤ i
  · rw [bt_u64_ge hh2 (show 64 ≤ i + 32 by omega), key (i - 32) (by omega)]
    simp only [c, decide_true, Bool.true_and, Bool.false_or]
    congr 1
    repeat' split
    all_goals omega
  · rw [key (i + 32) (by omega)]
    simp only [c, decide_false, Bool.false_and, Bool.or_false]
    congr 1
    repeat' split
    all_goals omega

theorem bytesLE_len (v : Int) (n : Nat) : (bytesLE v n).length = n := by simp [bytesLE]
theorem bytesLE_has (v : Int) (n : Nat) : ∀ x ∈ bytesLE v n, 0 ≤ x ∧ x < 256 := by
  intro x hx
  simp only [bytesLE, List.mem_map] at hx
  obtain ⟨j, _, rfl⟩ := hx
  omega
theorem bytesLE_succ (v : Int) (n : Nat) : bytesLE v (n + 1) = bytesLE v n ++ [v / 256 ^ n % 256] := by
  simp [bytesLE, List.range_succ]
theorem pow_256 (n : Nat) : (256 : Int) ^ n = 2 ^ (8 * n) := by
  rw [Int.pow_mul]; rfl
theorem shr_byte (v : Int) {i : Int} (h0 : 0 ≤ i) (h1 : i < 8) : IntKind.u8.wrap (shrI .u64 v (8 * i)) = v / 256 ^ i.toNat % 256 := by
  have hb : (8 * i).toNat ≤ 64 := by omega
  rw [IntKind.wrap_u8, shrI, show Nat.min (8 * i).toNat IntKind.u64.bits = (8 * i).toNat from Nat.min_eq_left hb,
    Int.fdiv_eq_ediv_of_nonneg _ (Int.le_of_lt (pow_pos' _)), pow_256, show (8 * i).toNat = 8 * i.toNat from by omega]

theorem clamp8 (n : Int) : 0 ≤ clamp 0 8 n ∧ clamp 0 8 n ≤ 8 := by unfold clamp; split <;> (try split) <;> omega
theorem clamp8_eq (n : Int) : minI (maxI n 0) 8 = clamp 0 8 n := by rw [minI_eq, maxI_eq]; unfold clamp; split <;> (try split) <;> omega

theorem Bytes.pure : Bytes.Pure := by
  intro i0 i1 h1 h2 h3
  rw [clamp8_eq]
  have hc := clamp8 i1
  have hlr : (List.replicate (clamp 0 8 i1).toNat (0 : Int)).length = (clamp 0 8 i1).toNat := by simp
  refine ⟨?_, fun h4 => ?_⟩
  · omega
  refine ⟨?_, fun h5 => ?_⟩
  · omega
  intro v2
  refine ⟨?_, ?_⟩
  · exact ⟨by omega, by omega, by simp, by simp [bytesLE]⟩
  intro i3 z4 h6 h7 h8
  have h8 : 0 ≤ i3 ∧ i3 ≤ clamp 0 8 i1 ∧ z4.length = (clamp 0 8 i1).toNat ∧ z4.take i3.toNat = bytesLE i0 i3.toNat := h8
  obtain ⟨a, b, c, d⟩ := h8
  refine ⟨?_, ?_⟩
  · intro h9
    rw [i64w (x := 8 * i3) (by omega) (by omega), i64w (by omega) (by omega)]
    refine ⟨?_, fun h10 => ?_⟩
    · omega
    refine ⟨?_, fun h11 => ?_⟩
    · omega -- (0 : Int) ≤ i3
    refine ⟨?_, fun h12 => ?_⟩
    · omega -- i3 < ((z4.length : Nat) : Int)
    refine ⟨?_, ?_⟩
    · refine ⟨by omega, by omega, by rw [List.length_set]; exact c, ?_⟩
      rw [shr_byte _ a (by omega), show (i3 + 1).toNat = i3.toNat + 1 from by omega, bytesLE_succ, List.take_add_one, List.take_set_of_le (Nat.le_refl _), d]
      congr 1
      rw [List.getElem?_set_self (by omega)]; rfl
    · show (clamp 0 8 i1 - (i3 + 1)).toNat < (clamp 0 8 i1 - i3).toNat
      omega
  · intro h9
    show textOf z4 = textOf (bytesLE i0 (clamp 0 8 i1).toNat)
    rw [show (clamp 0 8 i1).toNat = i3.toNat from by omega, ← d, List.take_of_length_le (by omega)]

theorem size_textOf (l : List Int) : (textOf l).size = l.length := textOf_size l

theorem div_pow_succ (v : Int) (n : Nat) : v / 256 ^ (n + 1) = v / 256 ^ n / 256 := by
  rw [Int.pow_succ, Int.ediv_ediv_of_nonneg]
  rw [pow_256]; exact Int.le_of_lt (pow_pos' _)

theorem RBytes.pure : RBytes.Pure := by
  intro i0 i1 h1 h2 h3
  have hc := clamp8 i1
  refine ⟨?_, ?_⟩
  · exact ⟨by omega, by omega, by simp, rfl⟩
  intro i2 s3 i4 h4 h5 h6 h7
  have h7 : 0 ≤ i4 ∧ i4 ≤ clamp 0 8 i1 ∧ i2 = i0 / 256 ^ i4.toNat ∧ s3 = textOf (bytesLE i0 i4.toNat) := h7
  obtain ⟨a, b, c, d⟩ := h7
  have hend : (8 ≤ i4 ∨ i1 ≤ i4) → textOf (bytesLE i0 i4.toNat) = textOf (bytesLE i0 (clamp 0 8 i1).toNat) := by
    intro h
    have : clamp 0 8 i1 = i4 := by unfold clamp at *; split <;> (try split) <;> omega
    rw [this]
  refine ⟨?_, ?_⟩
  · intro h8
    refine ⟨?_, ?_⟩
    · intro h9 v5
      have e1 : IntKind.wrap .u8 (Int.tmod i2 256) = i0 / 256 ^ i4.toNat % 256 := by
        rw [Int.tmod_eq_emod_of_nonneg h4.1, IntKind.wrap_u8, ← c]; omega
      have e2 : IntKind.wrap .u64 (Int.tdiv i2 256) = i2 / 256 := by
        rw [Int.tdiv_eq_ediv_of_nonneg h4.1, u64w (by omega) (by omega)]
      rw [e1, e2, i64w (by omega) (by omega), d, textOf_append, ← bytesLE_succ]
      have hlt : i4 < clamp 0 8 i1 := by unfold clamp at *; split <;> (try split) <;> omega
      refine ⟨?_, fun h10 => ?_⟩
      · rw [size_textOf, bytesLE_len]; omega
      refine ⟨?_, ?_⟩
      · refine ⟨by omega, by omega, ?_, ?_⟩
        · rw [show (i4 + 1).toNat = i4.toNat + 1 from by omega, div_pow_succ, c]
        · rw [show (i4 + 1).toNat = i4.toNat + 1 from by omega]
      · show (clamp 0 8 i1 - (i4 + 1)).toNat < (clamp 0 8 i1 - i4).toNat
        omega
    · intro h9
      show s3 = textOf (bytesLE i0 (clamp 0 8 i1).toNat)
      rw [d]; exact hend (Or.inl h9)
  · intro h8
    show s3 = textOf (bytesLE i0 (clamp 0 8 i1).toNat)
    rw [d]; exact hend (Or.inr h8)

end Go.Vc
namespace Go.Vc
/-- A number's bytes as bits. -/
theorem bt_numOf : ∀ {l : List Int}, (∀ x ∈ l, 0 ≤ x ∧ x < 256) → ∀ i : Nat, bt (numOf l) i = bt (l.getD (i / 8) 0) (i % 8)
  | [], _, i => by simp [numOf, bt_zero]
  | b :: l, h, i => by
    have hb := h b (by simp)
    have hl : ∀ x ∈ l, 0 ≤ x ∧ x < 256 := fun x hx => h x (by simp [hx])
    have e : numOf (b :: l) = b + numOf l * 2 ^ 8 := by simp only [numOf]; omega
    by_cases c : i < 8
    · rw [e, bt_add_mul _ _ c, show i / 8 = 0 from by omega, show i % 8 = i from by omega]; rfl
    · rw [show i / 8 = (i - 8) / 8 + 1 from by omega, show i % 8 = (i - 8) % 8 from by omega, List.getD_cons_succ, ← bt_numOf hl]
      have e2 : numOf l = numOf (b :: l) / 2 ^ 8 := by rw [e]; simp only [show (2 : Int) ^ 8 = 256 from rfl]; omega
      rw [e2, bt_ediv_pow, show i - 8 + 8 = i from by omega]

theorem bytesLE_get (v : Int) (n : Nat) {j : Nat} (h : j < n) : (bytesLE v n).getD j 0 = v / 256 ^ j % 256 := by simp [bytesLE, List.getD, h]

theorem bt_byte (v : Int) (j i : Nat) (h : i < 8) : bt (v / 256 ^ j % 256) i = bt v (i + 8 * j) := by
  rw [show (256 : Int) = 2 ^ 8 from rfl, bt_emod _ h, show ((2 : Int) ^ 8) ^ j = 2 ^ (8 * j) from (Int.pow_mul ..).symm, bt_ediv_pow]

theorem textOf_cons (b : Int) (l : List Int) : textOf [b] ++ textOf l = textOf (b :: l) := by rw [textOf_append]; rfl

theorem is01_take {l : List Int} (h : is01 l) (n : Nat) : is01 (l.take n) := fun x hx => h x (List.mem_of_mem_take hx)
theorem is01_drop {l : List Int} (h : is01 l) (n : Nat) : is01 (l.drop n) := fun x hx => h x (List.mem_of_mem_drop hx)
theorem getD_take (l : List Int) (n i : Nat) : (l.take n).getD i 0 = if i < n then l.getD i 0 else 0 := by
  simp only [List.getD]
  by_cases h : i < n
  · rw [List.getElem?_take_of_lt h]; simp [h]
  · rw [List.getElem?_eq_none (by rw [List.length_take]; omega)]; simp [h]
theorem getD_drop (l : List Int) (n i : Nat) : (l.drop n).getD i 0 = l.getD (i + n) 0 := by
  simp only [List.getD, List.getElem?_drop, Nat.add_comm]
theorem b2i_eq1 (b : Bool) : (b2i b == 1) = b := by cases b <;> rfl

theorem RField.pure : RField.Pure := by
  intro i0 i1 i2 h1 h2 h3 h4
  refine ⟨?_, ?_⟩
  · intro h5
    show ∀ i, i < 64 → bt 0 i = (decide (0 ≤ i1) && decide (i1 < 64) && decide ((i : Int) < i2) && bt i0 (i + i1.toNat))
    intro i hi
    have : ¬ 0 ≤ i1 := by omega
    simp [this, bt_zero]
  · intro h5
    refine ⟨?_, ?_⟩
    · intro h6
      show ∀ i, i < 64 → bt 0 i = (decide (0 ≤ i1) && decide (i1 < 64) && decide ((i : Int) < i2) && bt i0 (i + i1.toNat))
      intro i hi
      have : ¬ i1 < 64 := by omega
      simp [this, bt_zero]
    · intro h6
      refine ⟨?_, ?_⟩
      · trivial -- pre [(D.I i0)]
      intro v3 z4 h7 h8
      have h7 : z4 = bitsOf i0 := h7
      have hl : z4.length = 64 := by rw [h7, bitsOf_len]
      have h01 : is01 z4 := by rw [h7]; exact bitsOf_01 _
      have hd : (z4.drop i1.toNat).length = 64 - i1.toNat := by rw [List.length_drop, hl]
      rw [minI_eq, maxI_eq]
      refine ⟨?_, fun h9 => ?_⟩
      · omega
      refine ⟨?_, fun h10 => ?_⟩
      · omega
      intro v5
      refine ⟨?_, fun h11 => ?_⟩
      · omega
      refine ⟨?_, fun h12 => ?_⟩
      · omega
      intro v6
      refine ⟨?_, ?_⟩
      · exact ⟨by rw [List.length_take]; omega, is01_take (is01_drop h01 _) _⟩
      intro i7 h13 h14
      have h13 : i7 = valueOf ((z4.drop i1.toNat).take (min (max i2 0) ((z4.drop i1.toNat).length : Int)).toNat) := h13
      show ∀ i, i < 64 → bt i7 i = (decide (0 ≤ i1) && decide (i1 < 64) && decide ((i : Int) < i2) && bt i0 (i + i1.toNat))
      intro i hi
      rw [h13, valueOf_bt (is01_take (is01_drop h01 _) _), getD_take, getD_drop, hd]
      have e0 : 0 ≤ i1 := by omega
      have e1 : i1 < 64 := by omega
      by_cases c : (i : Int) < i2
      · by_cases d : i + i1.toNat < 64
        · rw [if_pos (by omega), h7, bitsOf_get _ d, b2i_eq1]; simp [c, e0, e1]
        · rw [if_neg (by omega), bt_u64_ge (u64i h1) (by omega)]; simp
      · rw [if_neg (by omega)]; simp [c]

theorem Cut.pure : Cut.Pure := by
  intro s0 i1 h1 h2 h3
  have h3 : 0 ≤ i1 := h3
  refine ⟨?_, ?_⟩
  · intro h4
    refine ⟨?_, fun h5 => ?_⟩
    · omega -- (0 : Int) ≤ i1
    refine ⟨?_, fun h6 => ?_⟩
    · omega -- i1 ≤ ((s0.size : Nat) : Int)
    show s0.extract (0 : Int).toNat i1.toNat = if (s0.size : Int) > i1 then s0.extract 0 i1.toNat else s0
    rw [if_pos (by omega)]; rfl
  · intro h4
    show s0 = if (s0.size : Int) > i1 then s0.extract 0 i1.toNat else s0
    rw [if_neg (by omega)]

end Go.Vc
namespace Go.Vc
end Go.Vc
