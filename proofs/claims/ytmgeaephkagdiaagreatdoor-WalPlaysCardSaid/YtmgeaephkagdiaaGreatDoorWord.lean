/-
 Contracts of the functions on whole numbers (word, and the document's).
 Printed by wip/vct.py: the conditions of functions, by their contracts.
 The functions on whole numbers keep their contracts: the plain part.
 The document's functions on whole numbers keep their contracts: the plain part.
 More contracts of the functions on whole numbers; the laws.
 Printed by wip/vct.py: the conditions of functions, by their contracts.
 More functions on whole numbers keep their contracts: the plain part.
 Still more functions on whole numbers keep their contracts: the plain part.
 The laws of whole numbers: the plain part.
-/
import Derived.Test.YtmgeaephkagdiaaGreatDoorVcd
import Derived.KernelRfl
set_option linter.unusedVariables false
set_option linter.unusedSimpArgs false
namespace Go.Vc
def tru (_ : List D) : Prop := True
def clamp (a b n : Int) : Int := if n < a then a else if n > b then b else n
def Low.post : List D → Prop
 | [.I v, .I n, .I r] => ∀ i, i < 64 → bt r i = (decide ((i : Int) < n) && bt v i)
 | _ => False
def Low.sig : Sig := sigF [.i .u64, .i .i64] [.i .u64] tru Low.post
def Field.post : List D → Prop
 | [.I v, .I a, .I n, .I r] => ∀ i, i < 64 → bt r i = (decide (0 ≤ a) && decide (a < 64) && decide ((i : Int) < n) && bt v (i + a.toNat))
 | _ => False
def Field.sig : Sig := sigF [.i .u64, .i .i64, .i .i64] [.i .u64] tru Field.post
end Go.Vc
namespace Go.Vc
set_option linter.unusedVariables false
def Low.Pure : Prop :=
 ∀ i0 i1 : Int,
 U64 i0 →
 R64 i1 →
 Low.sig.pre [.I i0, .I i1] →
 ((
 (i1 ≤ 0) →
  Low.sig.post [.I i0, .I i1, .I 0]) ∧ (
 (0 < i1) →
 ((
 (64 ≤ i1) →
  Low.sig.post [.I i0, .I i1, .I i0]) ∧ (
 (i1 < 64) →
 (0 ≤ i1) ∧ ((0 ≤ i1) →
  Low.sig.post [.I i0, .I i1, .I (Go.bits .and .u64 i0 (IntKind.wrap .u64 ((shlI .u64 1 i1) - 1)))])))))
def Field.Pure : Prop :=
 ∀ i0 i1 i2 : Int,
 U64 i0 →
 R64 i1 →
 R64 i2 →
 Field.sig.pre [.I i0, .I i1, .I i2] →
 ((
 (i1 < 0) →
  Field.sig.post [.I i0, .I i1, .I i2, .I 0]) ∧ (
 (0 ≤ i1) →
 ((
 (63 < i1) →
  Field.sig.post [.I i0, .I i1, .I i2, .I 0]) ∧ (
 (i1 ≤ 63) →
 (0 ≤ i1) ∧ ((0 ≤ i1) →
  Low.sig.pre [.I (shrI .u64 i0 i1), .I i2] ∧ (
 ∀ i3 : Int,
  Low.sig.post [.I (shrI .u64 i0 i1), .I i2, .I i3] →
 U64 i3 →
  Field.sig.post [.I i0, .I i1, .I i2, .I i3]))))))
end Go.Vc
namespace Go.Vc
theorem u64i {x : Int} (h : 0 ≤ x ∧ x < 18446744073709551616) : IntKind.u64.has x := has_in.2 h
theorem u32i {x : Int} (h : 0 ≤ x ∧ x < 4294967296) : IntKind.u32.has x := has_in.2 h
theorem minI_eq (a b : Int) : minI a b = min a b := by simp only [minI]; omega
theorem maxI_eq (a b : Int) : maxI a b = max a b := by simp only [maxI]; omega
theorem i64w {x : Int} (h : -9223372036854775808 ≤ x) (h' : x < 9223372036854775808) : IntKind.i64.wrap x = x := by rw [IntKind.wrap_i64]; omega
theorem u64w {x : Int} (h : 0 ≤ x) (h' : x < 18446744073709551616) : IntKind.u64.wrap x = x := by rw [IntKind.wrap_u64]; omega
theorem Low.pure : Low.Pure := by
 intro i0 i1 h1 h2 h3
 refine ⟨?_, ?_⟩
 ·intro h4
  show ∀ i, i < 64 → bt 0 i = (decide ((i : Int) < i1) && bt i0 i)
  intro i hi
  have : ¬ ((i : Int) < i1) := by omega
  simp [this, bt_zero]
 ·intro h4
  refine ⟨?_, ?_⟩
  ·intro h5
   show ∀ i, i < 64 → bt i0 i = (decide ((i : Int) < i1) && bt i0 i)
   intro i hi
   have : ((i : Int) < i1) := by omega
   simp [this]
  ·intro h5
   refine ⟨?_, fun h6 => ?_⟩
   ·omega -- (0 : Int) ≤ i1
   show ∀ i, i < 64 → bt (Go.bits .and .u64 i0 (IntKind.wrap .u64 ((shlI .u64 (1 : Int) i1) - (1 : Int)))) i = (decide ((i : Int) < i1) && bt i0 i)
   intro i hi
   rw [bt_and .u64 _ _ hi, bt_wrap .u64 _ hi, shl_one _ h6 h5, bt_mask]
   have : (i < i1.toNat) ↔ ((i : Int) < i1) := by omega
   simp [this, Bool.and_comm]
theorem Field.pure : Field.Pure := by
 intro i0 i1 i2 h1 h2 h3 h4
 refine ⟨?_, ?_⟩
 ·intro h5
  show ∀ i, i < 64 → bt 0 i = (decide (0 ≤ i1) && decide (i1 < 64) && decide ((i : Int) < i2) && bt i0 (i + i1.toNat))
  intro i hi
  have : ¬ 0 ≤ i1 := by omega
  simp [this, bt_zero]
 ·intro h5
  refine ⟨?_, ?_⟩
  ·intro h6
   show ∀ i, i < 64 → bt 0 i = (decide (0 ≤ i1) && decide (i1 < 64) && decide ((i : Int) < i2) && bt i0 (i + i1.toNat))
   intro i hi
   have : ¬ i1 < 64 := by omega
   simp [this, bt_zero]
  ·intro h6
   refine ⟨?_, fun h7 => ?_⟩
   ·omega -- (0 : Int) ≤ i1
   refine ⟨?_, ?_⟩
   ·trivial -- pre [(D.I (shrI .u64 i0 i1)), (D.I i2)]
   intro i3 h8 h9
   show ∀ i, i < 64 → bt i3 i = (decide (0 ≤ i1) && decide (i1 < 64) && decide ((i : Int) < i2) && bt i0 (i + i1.toNat))
   intro i hi
   have h8 : ∀ i, i < 64 → bt i3 i = (decide ((i : Int) < i2) && bt (shrI .u64 i0 i1) i) := h8
   have : i1 < 64 := by omega
   rw [h8 i hi, bt_shr_u64 _ (u64i h1)]
   simp [h5, this]
end Go.Vc
namespace Go.Vc
end Go.Vc
namespace Go.Vc
def bytesLE (v : Int) (n : Nat) : List Int := (List.range n).map fun j => v / 256 ^ j % 256
def wide (n : Int) : Int := if n = 1 then 8 else if n = 2 then 16 else if n = 4 then 32 else 64
end Go.Vc
namespace Go.Vc
set_option linter.unusedVariables false
end Go.Vc
namespace Go.Vc
theorem bytesLE_len (v : Int) (n : Nat) : (bytesLE v n).length = n := by simp [bytesLE]
theorem bytesLE_has (v : Int) (n : Nat) : ∀ x ∈ bytesLE v n, 0 ≤ x ∧ x < 256 := by
 intro x hx
 simp only [bytesLE, List.mem_map] at hx
 obtain ⟨j, _, rfl⟩ := hx
 omega
theorem bytesLE_succ (v : Int) (n : Nat) : bytesLE v (n + 1) = bytesLE v n ++ [v / 256 ^ n % 256] := by
 simp [bytesLE, List.range_succ]
theorem pow_256 (n : Nat) : (256 : Int) ^ n = 2 ^ (8 * n) := by
 rw [Int.pow_mul]; rfl
theorem size_textOf (l : List Int) : (textOf l).size = l.length := textOf_size l
theorem div_pow_succ (v : Int) (n : Nat) : v / 256 ^ (n + 1) = v / 256 ^ n / 256 := by
 rw [Int.pow_succ, Int.ediv_ediv_of_nonneg]
 rw [pow_256]; exact Int.le_of_lt (pow_pos' _)
end Go.Vc
namespace Go.Vc
theorem bytesLE_get (v : Int) (n : Nat) {j : Nat} (h : j < n) : (bytesLE v n).getD j 0 = v / 256 ^ j % 256 := by simp [bytesLE, List.getD, h]
theorem bt_byte (v : Int) (j i : Nat) (h : i < 8) : bt (v / 256 ^ j % 256) i = bt v (i + 8 * j) := by
 rw [show (256 : Int) = 2 ^ 8 from rfl, bt_emod _ h, show ((2 : Int) ^ 8) ^ j = 2 ^ (8 * j) from (Int.pow_mul ..).symm, bt_ediv_pow]
end Go.Vc
namespace Go.Vc
end Go.Vc