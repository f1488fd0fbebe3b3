/-
 Contracts of the functions on whole numbers (word, and the document's).
 Printed by wip/vct.py: the conditions of functions, by their contracts.
 The functions on whole numbers keep their contracts: the plain part.
 The document's functions on whole numbers keep their contracts: the plain part.
 More contracts of the functions on whole numbers; the laws.
 Printed by wip/vct.py: the conditions of functions, by their contracts.
 More functions on whole numbers keep their contracts: the plain part.
 Still more functions on whole numbers keep their contracts: the plain part.
 The laws of whole numbers: the plain part.
-/
import Derived.Test.YtmgeaephkagdiaaGreatDoorVcd
import Derived.KernelRfl
set_option linter.unusedVariables false
set_option linter.unusedSimpArgs false
namespace Go.Vc
def tru (_ : List D) : Prop := True
def clamp (a b n : Int) : Int := if n < a then a else if n > b then b else n
def Low.post : List D → Prop
 | [.I v, .I n, .I r] => ∀ i, i < 64 → bt r i = (decide ((i : Int) < n) && bt v i)
 | _ => False
def Low.sig : Sig := sigF [.i .u64, .i .i64] [.i .u64] tru Low.post
def Field.post : List D → Prop
 | [.I v, .I a, .I n, .I r] => ∀ i, i < 64 → bt r i = (decide (0 ≤ a) && decide (a < 64) && decide ((i : Int) < n) && bt v (i + a.toNat))
 | _ => False
def Field.sig : Sig := sigF [.i .u64, .i .i64, .i .i64] [.i .u64] tru Field.post
end Go.Vc
namespace Go.Vc
set_option linter.unusedVariables false
def Low.Pure : Prop :=
 ∀ i0 i1 : Int,
 U64 i0 →
 R64 i1 →
 Low.sig.pre [.I i0, .I i1] →
 ((
 (i1 ≤ 0) →
  Low.sig.post [.I i0, .I i1, .I 0]) ∧ (
 (0 < i1) →
 ((
 (64 ≤ i1) →
  Low.sig.post [.I i0, .I i1, .I i0]) ∧ (
 (i1 < 64) →
 (0 ≤ i1) ∧ ((0 ≤ i1) →
  Low.sig.post [.I i0, .I i1, .I (Go.bits .and .u64 i0 (IntKind.wrap .u64 ((shlI .u64 1 i1) - 1)))])))))
def Field.Pure : Prop :=
 ∀ i0 i1 i2 : Int,
 U64 i0 →
 R64 i1 →
 R64 i2 →
 Field.sig.pre [.I i0, .I i1, .I i2] →
 ((
 (i1 < 0) →
  Field.sig.post [.I i0, .I i1, .I i2, .I 0]) ∧ (
 (0 ≤ i1) →
 ((
 (63 < i1) →
  Field.sig.post [.I i0, .I i1, .I i2, .I 0]) ∧ (
 (i1 ≤ 63) →
 (0 ≤ i1) ∧ ((0 ≤ i1) →
  Low.sig.pre [.I (shrI .u64 i0 i1), .I i2] ∧ (
 ∀ i3 : Int,
  Low.sig.post [.I (shrI .u64 i0 i1), .I i2, .I i3] →
 U64 i3 →
  Field.sig.post [.I i0, .I i1, .I i2, .I i3]))))))
end Go.Vc
namespace Go.Vc
theorem u64i {x : Int} (h : 0 ≤ x ∧ x < 18446744073709551616) : IntKind.u64.has x := has_in.2 h
theorem minI_eq (a b : Int) : minI a b = min a b := by simp only [minI]; omega
theorem maxI_eq (a b : Int) : maxI a b = max a b := by simp only [maxI]; omega
theorem i64w {x : Int} (h : -9223372036854775808 ≤ x) (h' : x < 9223372036854775808) : IntKind.i64.wrap x = x := by rw [IntKind.wrap_i64]; omega
theorem u64w {x : Int} (h : 0 ≤ x) (h' : x < 18446744073709551616) : IntKind.u64.wrap x = x := by rw [IntKind.wrap_u64]; omega
theorem Low.pure : Low.Pure := by
 intro i0 i1 h1 h2 h3
 refine ⟨?_, ?_⟩
 ·intro h4
  show ∀ i, i < 64 → bt 0 i = (decide ((i : Int) < i1) && bt i0 i)
  intro i hi
  have : ¬ ((i : Int) < i1) := by omega
  simp [this, bt_zero]
 ·intro h4
  refine ⟨?_, ?_⟩
  ·intro h5
   show ∀ i, i < 64 → bt i0 i = (decide ((i : Int) < i1) && bt i0 i)
   intro i hi
   have : ((i : Int) < i1) := by omega
   simp [this]
  ·intro h5
   refine ⟨?_, fun h6 => ?_⟩
   ·omega -- (0 : Int) ≤ i1
   show ∀ i, i < 64 → bt (Go.bits .and .u64 i0 (IntKind.wrap .u64 ((shlI .u64 (1 : Int) i1) - (1 : Int)))) i = (decide ((i : Int) < i1) && bt i0 i)
   intro i hi
   rw [bt_and .u64 _ _ hi, bt_wrap .u64 _ hi, shl_one _ h6 h5, bt_mask]
   have : (i < i1.toNat) ↔ ((i : Int) < i1) := by omega
   simp [this, Bool.and_comm]
theorem Field.pure : Field.Pure := by
 intro i0 i1 i2 h1 h2 h3 h4
 refine ⟨?_, ?_⟩
 ·intro h5
  show ∀ i, i < 64 → bt 0 i = (decide (0 ≤ i1) && decide (i1 < 64) && decide ((i : Int) < i2) && bt i0 (i + i1.toNat))
  intro i hi
  have : ¬ 0 ≤ i1 := by omega
  simp [this, bt_zero]
 ·intro h5
  refine ⟨?_, ?_⟩
  ·intro h6
   show ∀ i, i < 64 → bt 0 i = (decide (0 ≤ i1) && decide (i1 < 64) && decide ((i : Int) < i2) && bt i0 (i + i1.toNat))
   intro i hi
   have : ¬ i1 < 64 := by omega
   simp [this, bt_zero]
  ·intro h6
   refine ⟨?_, fun h7 => ?_⟩
   ·omega -- (0 : Int) ≤ i1
   refine ⟨?_, ?_⟩
   ·trivial -- pre [(D.I (shrI .u64 i0 i1)), (D.I i2)]
   intro i3 h8 h9
   show ∀ i, i < 64 → bt i3 i = (decide (0 ≤ i1) && decide (i1 < 64) && decide ((i : Int) < i2) && bt i0 (i + i1.toNat))
   intro i hi
   have h8 : ∀ i, i < 64 → bt i3 i = (decide ((i : Int) < i2) && bt (shrI .u64 i0 i1) i) := h8
   have : i1 < 64 := by omega
   rw [h8 i hi, bt_shr_u64 _ (u64i h1)]
   simp [h5, this]
end Go.Vc
namespace Go.Vc
end Go.Vc
namespace Go.Vc
def Swap.post : List D → Prop
 | [.I v, .I r] => ∀ i, i < 64 → bt r i = bt v (8 * (7 - i / 8) + i % 8)
 | _ => False
def Swap.sig : Sig := sigF [.i .u64] [.i .u64] tru Swap.post
def bytesLE (v : Int) (n : Nat) : List Int := (List.range n).map fun j => v / 256 ^ j % 256
def Bytes.post : List D → Prop
 | [.I v, .I n, .S r] => r = textOf (bytesLE v (clamp 0 8 n).toNat)
 | _ => False
def Bytes.sig : Sig := sigF [.i .u64, .i .i64] [.s] tru Bytes.post
def Bytes.I0 : List D → Prop
 | [.I v, .I n, .I i, .Z l] => 0 ≤ i ∧ i ≤ clamp 0 8 n ∧ l.length = (clamp 0 8 n).toNat ∧ l.take i.toNat = bytesLE v i.toNat
 | _ => False
def Bytes.I0M : List D → Nat
 | [.I _, .I n, .I i, .Z _] => (clamp 0 8 n - i).toNat
 | _ => 0
def wide (n : Int) : Int := if n = 1 then 8 else if n = 2 then 16 else if n = 4 then 32 else 64
def Cut.pre : List D → Prop
 | [.S _, .I n] => 0 ≤ n
 | _ => False
def Cut.post : List D → Prop
 | [.S s, .I n, .S r] => r = if (s.size : Int) > n then s.extract 0 n.toNat else s
 | _ => False
def Cut.sig : Sig := sigF [.s, .i .i64] [.s] Cut.pre Cut.post
end Go.Vc
namespace Go.Vc
set_option linter.unusedVariables false
def Swap.Pure : Prop :=
 ∀ i0 : Int,
 U64 i0 →
 Swap.sig.pre [.I i0] →
 Swap.sig.post [.I i0, .I (Go.bits .or .u64 (shrI .u64 (Go.bits .or .u64 (Go.bits .and .u64 (shrI .u64 (Go.bits .or .u64 (Go.bits .and .u64 (shrI .u64 i0 8) 71777214294589695) (shlI .u64 (Go.bits .and .u64 i0 71777214294589695) 8)) 16) 281470681808895) (shlI .u64 (Go.bits .and .u64 (Go.bits .or .u64 (Go.bits .and .u64 (shrI .u64 i0 8) 71777214294589695) (shlI .u64 (Go.bits .and .u64 i0 71777214294589695) 8)) 281470681808895) 16)) 32) (shlI .u64 (Go.bits .or .u64 (Go.bits .and .u64 (shrI .u64 (Go.bits .or .u64 (Go.bits .and .u64 (shrI .u64 i0 8) 71777214294589695) (shlI .u64 (Go.bits .and .u64 i0 71777214294589695) 8)) 16) 281470681808895) (shlI .u64 (Go.bits .and .u64 (Go.bits .or .u64 (Go.bits .and .u64 (shrI .u64 i0 8) 71777214294589695) (shlI .u64 (Go.bits .and .u64 i0 71777214294589695) 8)) 281470681808895) 16)) 32))]
def Bytes.Pure : Prop :=
 ∀ i0 i1 : Int,
 U64 i0 →
 R64 i1 →
 Bytes.sig.pre [.I i0, .I i1] →
 (0 ≤ (minI (maxI i1 0) 8)) ∧ ((0 ≤ (minI (maxI i1 0) 8)) →
 ((minI (maxI i1 0) 8) ≤ 140737488355328) ∧ (((minI (maxI i1 0) 8) ≤ 140737488355328) →
 ∀ v2 : Value,
 Bytes.I0 [.I i0, .I i1, .I 0, .Z (List.replicate (minI (maxI i1 0) 8).toNat (0 : Int))] ∧ (
 ∀ i3 : Int,
 ∀ z4 : List Int,
 R64 i3 →
 (∀ x ∈ z4, IntKind.has .u8 x) →
 Bytes.I0 [.I i0, .I i1, .I i3, .Z z4] →
 ((
 (i3 < (((List.replicate (minI (maxI i1 0) 8).toNat (0 : Int)).length : Nat) : Int)) →
 (0 ≤ (IntKind.wrap .i64 (8 * i3))) ∧ ((0 ≤ (IntKind.wrap .i64 (8 * i3))) →
 (0 ≤ i3) ∧ ((0 ≤ i3) →
 (i3 < ((z4.length : Nat) : Int)) ∧ ((i3 < ((z4.length : Nat) : Int)) →
  Bk Bytes.I0 Bytes.I0M [.I i0, .I i1, .I (IntKind.wrap .i64 (i3 + 1)), .Z (z4.set i3.toNat (IntKind.wrap .u8 (shrI .u64 i0 (IntKind.wrap .i64 (8 * i3)))))] [.I i0, .I i1, .I i3, .Z z4])))) ∧ (
 ((((List.replicate (minI (maxI i1 0) 8).toNat (0 : Int)).length : Nat) : Int) ≤ i3) →
  Bytes.sig.post [.I i0, .I i1, .S (textOf z4)])))))
def Cut.Pure : Prop :=
 ∀ s0 : ByteArray,
 ∀ i1 : Int,
 ((s0.size : Int) ≤ 9223372036854775807) →
 R64 i1 →
 Cut.sig.pre [.S s0, .I i1] →
 ((
 (i1 < ((s0.size : Nat) : Int)) →
 (0 ≤ i1) ∧ ((0 ≤ i1) →
 (i1 ≤ ((s0.size : Nat) : Int)) ∧ ((i1 ≤ ((s0.size : Nat) : Int)) →
  Cut.sig.post [.S s0, .I i1, .S (s0.extract (0 : Int).toNat i1.toNat)]))) ∧ (
 (((s0.size : Nat) : Int) ≤ i1) →
  Cut.sig.post [.S s0, .I i1, .S s0]))
end Go.Vc
namespace Go.Vc
theorem m8 : ∀ i, i < 64 → bt 71777214294589695 i = decide (i / 8 % 2 = 0) := by decide
theorem m16 : ∀ i, i < 64 → bt 281470681808895 i = decide (i / 16 % 2 = 0) := by decide
theorem swap_step (v : Int) (hv : IntKind.u64.has v) (s m : Int) (n : Nat) (hs : s = n) (hm : ∀ i, i < 64 → bt m i = decide (i / n % 2 = 0)) (hn : n = 8 ∨ n = 16) (i : Nat) (hi : i < 64) :
  bt (Go.bits .or .u64 (Go.bits .and .u64 (shrI .u64 v s) m) (shlI .u64 (Go.bits .and .u64 v m) s)) i = bt v (if i / n % 2 = 0 then i + n else i - n) := by
 rw [bt_or .u64 _ _ hi, bt_and .u64 _ _ hi, bt_shr_u64 _ hv, bt_shl .u64 _ _ hi, hm i hi]
 have e : s.toNat = n := by omega
 rw [e]
 by_cases c : i / n % 2 = 0
 ·simp only [c, decide_true, Bool.and_true, if_true]
  have : ¬ n ≤ i ∨ (i - n) / n % 2 = 1 := by rcases hn with rfl | rfl <;> omega
  rcases this with h | h
  ·simp [h]
  ·by_cases h2 : n ≤ i
   ·rw [bt_and .u64 _ _ (show i - n < 64 by omega), hm _ (by omega)]; simp [h]
   ·simp [h2]
 ·have h1 : n ≤ i := by rcases hn with rfl | rfl <;> omega
  have h2 : (i - n) / n % 2 = 0 := by rcases hn with rfl | rfl <;> omega
  rw [bt_and .u64 _ _ (show i - n < 64 by omega), hm _ (by omega)]
  simp [c, h1, h2]
theorem Swap.pure : Swap.Pure := by
 intro i0 h1 h2
 have s1 := swap_step i0 (u64i h1) 8 71777214294589695 8 rfl m8 (Or.inl rfl)
 generalize hv1 : Go.bits .or .u64 (Go.bits .and .u64 (shrI .u64 i0 (8 : Int)) (71777214294589695 : Int)) (shlI .u64 (Go.bits .and .u64 i0 (71777214294589695 : Int)) (8 : Int)) = v1 at s1 ⊢
 have hh1 : IntKind.u64.has v1 := by rw [← hv1]; exact bits_has _ _ _ _
 have s2 := swap_step v1 hh1 16 281470681808895 16 rfl m16 (Or.inr rfl)
 generalize hv2 : Go.bits .or .u64 (Go.bits .and .u64 (shrI .u64 v1 (16 : Int)) (281470681808895 : Int)) (shlI .u64 (Go.bits .and .u64 v1 (281470681808895 : Int)) (16 : Int)) = v2 at s2 ⊢
 have hh2 : IntKind.u64.has v2 := by rw [← hv2]; exact bits_has _ _ _ _
 show ∀ i, i < 64 → bt (Go.bits .or .u64 (shrI .u64 v2 (32 : Int)) (shlI .u64 v2 (32 : Int))) i = bt i0 (8 * (7 - i / 8) + i % 8)
 intro i hi
 rw [bt_or .u64 _ _ hi, bt_shr_u64 _ hh2, bt_shl .u64 _ _ hi]
 simp only [show (32 : Int).toNat = 32 from rfl]
 have key : ∀ j, j < 64 → bt v2 j = bt i0 (if (if j / 16 % 2 = 0 then j + 16 else j - 16) / 8 % 2 = 0 then (if j / 16 % 2 = 0 then j + 16 else j - 16) + 8 else (if j / 16 % 2 = 0 then j + 16 else j - 16) - 8) := by
  intro j hj
  rw [s2 j hj, s1 _ (by split <;> omega)]
 by_cases c : 32 ≤ i
 ·rw [bt_u64_ge hh2 (show 64 ≤ i + 32 by omega), key (i - 32) (by omega)]
  simp only [c, decide_true, Bool.true_and, Bool.false_or]
  congr 1
  repeat' split
  all_goals omega
 ·rw [key (i + 32) (by omega)]
  simp only [c, decide_false, Bool.false_and, Bool.or_false]
  congr 1
  repeat' split
  all_goals omega
theorem bytesLE_len (v : Int) (n : Nat) : (bytesLE v n).length = n := by simp [bytesLE]
theorem bytesLE_has (v : Int) (n : Nat) : ∀ x ∈ bytesLE v n, 0 ≤ x ∧ x < 256 := by
 intro x hx
 simp only [bytesLE, List.mem_map] at hx
 obtain ⟨j, _, rfl⟩ := hx
 omega
theorem bytesLE_succ (v : Int) (n : Nat) : bytesLE v (n + 1) = bytesLE v n ++ [v / 256 ^ n % 256] := by
 simp [bytesLE, List.range_succ]
theorem pow_256 (n : Nat) : (256 : Int) ^ n = 2 ^ (8 * n) := by
 rw [Int.pow_mul]; rfl
theorem shr_byte (v : Int) {i : Int} (h0 : 0 ≤ i) (h1 : i < 8) : IntKind.u8.wrap (shrI .u64 v (8 * i)) = v / 256 ^ i.toNat % 256 := by
 have hb : (8 * i).toNat ≤ 64 := by omega
 rw [IntKind.wrap_u8, shrI, show Nat.min (8 * i).toNat IntKind.u64.bits = (8 * i).toNat from Nat.min_eq_left hb,
  Int.fdiv_eq_ediv_of_nonneg _ (Int.le_of_lt (pow_pos' _)), pow_256, show (8 * i).toNat = 8 * i.toNat from by omega]
theorem clamp8 (n : Int) : 0 ≤ clamp 0 8 n ∧ clamp 0 8 n ≤ 8 := by unfold clamp; split <;> (try split) <;> omega
theorem clamp8_eq (n : Int) : minI (maxI n 0) 8 = clamp 0 8 n := by rw [minI_eq, maxI_eq]; unfold clamp; split <;> (try split) <;> omega
theorem Bytes.pure : Bytes.Pure := by
 intro i0 i1 h1 h2 h3
 rw [clamp8_eq]
 have hc := clamp8 i1
 have hlr : (List.replicate (clamp 0 8 i1).toNat (0 : Int)).length = (clamp 0 8 i1).toNat := by simp
 refine ⟨?_, fun h4 => ?_⟩
 ·omega
 refine ⟨?_, fun h5 => ?_⟩
 ·omega
 intro v2
 refine ⟨?_, ?_⟩
 ·exact ⟨by omega, by omega, by simp, by simp [bytesLE]⟩
 intro i3 z4 h6 h7 h8
 have h8 : 0 ≤ i3 ∧ i3 ≤ clamp 0 8 i1 ∧ z4.length = (clamp 0 8 i1).toNat ∧ z4.take i3.toNat = bytesLE i0 i3.toNat := h8
 obtain ⟨a, b, c, d⟩ := h8
 refine ⟨?_, ?_⟩
 ·intro h9
  rw [i64w (x := 8 * i3) (by omega) (by omega), i64w (by omega) (by omega)]
  refine ⟨?_, fun h10 => ?_⟩
  ·omega
  refine ⟨?_, fun h11 => ?_⟩
  ·omega -- (0 : Int) ≤ i3
  refine ⟨?_, fun h12 => ?_⟩
  ·omega -- i3 < ((z4.length : Nat) : Int)
  refine ⟨?_, ?_⟩
  ·refine ⟨by omega, by omega, by rw [List.length_set]; exact c, ?_⟩
   rw [shr_byte _ a (by omega), show (i3 + 1).toNat = i3.toNat + 1 from by omega, bytesLE_succ, List.take_add_one, List.take_set_of_le (Nat.le_refl _), d]
   congr 1
   rw [List.getElem?_set_self (by omega)]; rfl
  ·show (clamp 0 8 i1 - (i3 + 1)).toNat < (clamp 0 8 i1 - i3).toNat
   omega
 ·intro h9
  show textOf z4 = textOf (bytesLE i0 (clamp 0 8 i1).toNat)
  rw [show (clamp 0 8 i1).toNat = i3.toNat from by omega, ← d, List.take_of_length_le (by omega)]
theorem div_pow_succ (v : Int) (n : Nat) : v / 256 ^ (n + 1) = v / 256 ^ n / 256 := by
 rw [Int.pow_succ, Int.ediv_ediv_of_nonneg]
 rw [pow_256]; exact Int.le_of_lt (pow_pos' _)
end Go.Vc
namespace Go.Vc
theorem bytesLE_get (v : Int) (n : Nat) {j : Nat} (h : j < n) : (bytesLE v n).getD j 0 = v / 256 ^ j % 256 := by simp [bytesLE, List.getD, h]
theorem bt_byte (v : Int) (j i : Nat) (h : i < 8) : bt (v / 256 ^ j % 256) i = bt v (i + 8 * j) := by
 rw [show (256 : Int) = 2 ^ 8 from rfl, bt_emod _ h, show ((2 : Int) ^ 8) ^ j = 2 ^ (8 * j) from (Int.pow_mul ..).symm, bt_ediv_pow]
theorem Cut.pure : Cut.Pure := by
 intro s0 i1 h1 h2 h3
 have h3 : 0 ≤ i1 := h3
 refine ⟨?_, ?_⟩
 ·intro h4
  refine ⟨?_, fun h5 => ?_⟩
  ·omega -- (0 : Int) ≤ i1
  refine ⟨?_, fun h6 => ?_⟩
  ·omega -- i1 ≤ ((s0.size : Nat) : Int)
  show s0.extract (0 : Int).toNat i1.toNat = if (s0.size : Int) > i1 then s0.extract 0 i1.toNat else s0
  rw [if_pos (by omega)]; rfl
 ·intro h4
  show s0 = if (s0.size : Int) > i1 then s0.extract 0 i1.toNat else s0
  rw [if_neg (by omega)]
end Go.Vc
namespace Go.Vc
end Go.Vc