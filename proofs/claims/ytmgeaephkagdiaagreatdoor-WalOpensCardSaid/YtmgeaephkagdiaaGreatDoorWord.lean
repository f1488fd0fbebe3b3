/-
  Contracts of the functions on whole numbers (word, and the document's).
  Printed by wip/vct.py: the conditions of functions, by their contracts.
  The functions on whole numbers keep their contracts: the plain part.
  The document's functions on whole numbers keep their contracts: the plain part.
  More contracts of the functions on whole numbers; the laws.
  Printed by wip/vct.py: the conditions of functions, by their contracts.
  More functions on whole numbers keep their contracts: the plain part.
  Still more functions on whole numbers keep their contracts: the plain part.
  The laws of whole numbers: the plain part.
-/
import Derived.Test.YtmgeaephkagdiaaGreatDoorVcd
import Derived.KernelRfl
set_option linter.unusedVariables false
set_option linter.unusedSimpArgs false
namespace Go.Vc
def tru (_ : List D) : Prop := True

def clamp (a b n : Int) : Int := if n < a then a else if n > b then b else n
def Low.post : List D → Prop
  | [.I v, .I n, .I r] => ∀ i, i < 64 → bt r i = (decide ((i : Int) < n) && bt v i)
  | _ => False
def Low.sig : Sig := sigF [.i .u64, .i .i64] [.i .u64] tru Low.post
def Field.post : List D → Prop
  | [.I v, .I a, .I n, .I r] => ∀ i, i < 64 → bt r i = (decide (0 ≤ a) && decide (a < 64) && decide ((i : Int) < n) && bt v (i + a.toNat))
  | _ => False
def Field.sig : Sig := sigF [.i .u64, .i .i64, .i .i64] [.i .u64] tru Field.post
end Go.Vc
namespace Go.Vc
set_option linter.unusedVariables false
def Low.Pure : Prop :=
 ∀ (i0 : Int),
 ∀ (i1 : Int),
 (0 ≤ i0 ∧ i0 < 18446744073709551616) →
 (-9223372036854775808 ≤ i1 ∧ i1 < 9223372036854775808) →
 Low.sig.pre [.I i0, .I i1] →
 ((
 (i1 ≤ (0 : Int)) →
  Low.sig.post [.I i0, .I i1, (D.I (0 : Int))]) ∧ (
 ((0 : Int) < i1) →
 ((
 ((64 : Int) ≤ i1) →
   Low.sig.post [.I i0, .I i1, .I i0]) ∧ (
 (i1 < (64 : Int)) →
 ((0 : Int) ≤ i1) ∧ (((0 : Int) ≤ i1) →
   Low.sig.post [.I i0, .I i1, (D.I (Go.bits .and .u64 i0 (IntKind.wrap .u64 ((shlI .u64 (1 : Int) i1) - (1 : Int)))))])))))
def Field.Pure : Prop :=
 ∀ (i0 : Int),
 ∀ (i1 : Int),
 ∀ (i2 : Int),
 (0 ≤ i0 ∧ i0 < 18446744073709551616) →
 (-9223372036854775808 ≤ i1 ∧ i1 < 9223372036854775808) →
 (-9223372036854775808 ≤ i2 ∧ i2 < 9223372036854775808) →
 Field.sig.pre [.I i0, .I i1, .I i2] →
 ((
 (i1 < (0 : Int)) →
  Field.sig.post [.I i0, .I i1, .I i2, (D.I (0 : Int))]) ∧ (
 ((0 : Int) ≤ i1) →
 ((
 ((63 : Int) < i1) →
   Field.sig.post [.I i0, .I i1, .I i2, (D.I (0 : Int))]) ∧ (
 (i1 ≤ (63 : Int)) →
 ((0 : Int) ≤ i1) ∧ (((0 : Int) ≤ i1) →
   Low.sig.pre [(D.I (shrI .u64 i0 i1)), .I i2] ∧ (
 ∀ (i3 : Int),
   Low.sig.post [(D.I (shrI .u64 i0 i1)), .I i2, .I i3] →
 (0 ≤ i3 ∧ i3 < 18446744073709551616) →
   Field.sig.post [.I i0, .I i1, .I i2, .I i3]))))))
end Go.Vc
namespace Go.Vc
theorem u64i {x : Int} (h : 0 ≤ x ∧ x < 18446744073709551616) : IntKind.u64.has x := has_in.2 h
theorem u32i {x : Int} (h : 0 ≤ x ∧ x < 4294967296) : IntKind.u32.has x := has_in.2 h
theorem minI_eq (a b : Int) : minI a b = min a b := by simp only [minI]; omega
theorem maxI_eq (a b : Int) : maxI a b = max a b := by simp only [maxI]; omega
theorem i64w {x : Int} (h : -9223372036854775808 ≤ x) (h' : x < 9223372036854775808) : IntKind.i64.wrap x = x := by rw [IntKind.wrap_i64]; omega
theorem u64w {x : Int} (h : 0 ≤ x) (h' : x < 18446744073709551616) : IntKind.u64.wrap x = x := by rw [IntKind.wrap_u64]; omega

theorem Low.pure : Low.Pure := by
  intro i0 i1 h1 h2 h3
  refine ⟨?_, ?_⟩
  · intro h4
    show ∀ i, i < 64 → bt 0 i = (decide ((i : Int) < i1) && bt i0 i)
    intro i hi
    have : ¬ ((i : Int) < i1) := by omega
    simp [this, bt_zero]
  · intro h4
    refine ⟨?_, ?_⟩
    · intro h5
      show ∀ i, i < 64 → bt i0 i = (decide ((i : Int) < i1) && bt i0 i)
      intro i hi
      have : ((i : Int) < i1) := by omega
      simp [this]
    · intro h5
      refine ⟨?_, fun h6 => ?_⟩
      · omega -- (0 : Int) ≤ i1
      show ∀ i, i < 64 → bt (Go.bits .and .u64 i0 (IntKind.wrap .u64 ((shlI .u64 (1 : Int) i1) - (1 : Int)))) i = (decide ((i : Int) < i1) && bt i0 i)
      intro i hi
      rw [bt_and .u64 _ _ hi, bt_wrap .u64 _ hi, shl_one _ h6 h5, bt_mask]
      have : (i < i1.toNat) ↔ ((i : Int) < i1) := by omega
      simp [this, Bool.and_comm]

theorem Field.pure : Field.Pure := by
  intro i0 i1 i2 h1 h2 h3 h4
  refine ⟨?_, ?_⟩
  · intro h5
    show ∀ i, i < 64 → bt 0 i = (decide (0 ≤ i1) && decide (i1 < 64) && decide ((i : Int) < i2) && bt i0 (i + i1.toNat))
    intro i hi
    have : ¬ 0 ≤ i1 := by omega
    simp [this, bt_zero]
  · intro h5
    refine ⟨?_, ?_⟩
    · intro h6
      show ∀ i, i < 64 → bt 0 i = (decide (0 ≤ i1) && decide (i1 < 64) && decide ((i : Int) < i2) && bt i0 (i + i1.toNat))
      intro i hi
      have : ¬ i1 < 64 := by omega
      simp [this, bt_zero]
    · intro h6
      refine ⟨?_, fun h7 => ?_⟩
      · omega -- (0 : Int) ≤ i1
      refine ⟨?_, ?_⟩
      · trivial -- pre [(D.I (shrI .u64 i0 i1)), (D.I i2)]
      intro i3 h8 h9
      show ∀ i, i < 64 → bt i3 i = (decide (0 ≤ i1) && decide (i1 < 64) && decide ((i : Int) < i2) && bt i0 (i + i1.toNat))
      intro i hi
      have h8 : ∀ i, i < 64 → bt i3 i = (decide ((i : Int) < i2) && bt (shrI .u64 i0 i1) i) := h8
      have : i1 < 64 := by omega
      rw [h8 i hi, bt_shr_u64 _ (u64i h1)]
      simp [h5, this]

/-- The lowest bit that is there, by itself. -/
theorem lowest {v : Int} (h0 : 0 < v) (h1 : v < 18446744073709551616) : ∃ k : Nat, k < 64 ∧ bt v k = true ∧ (∀ j, j < k → bt v j = false) ∧ Go.bits .and .u64 v (IntKind.wrap .u64 (0 - v)) = 2 ^ k := by
  have hex : ∃ k : Nat, bt v k = true := by
    apply Classical.byContradiction
    intro h
    have : v = 0 := eq_u64 (u64i ⟨by omega, by omega⟩) (u64i ⟨by omega, by omega⟩) (fun i _ => by
      rw [bt_zero]
      cases hb : bt v i with
      | false => rfl
      | true => exact absurd ⟨i, hb⟩ h)
    omega
  have hmin : ∃ k : Nat, bt v k = true ∧ ∀ j, j < k → bt v j = false := by
    obtain ⟨k, hk⟩ := hex
    induction k using Nat.strongRecOn with
    | _ k ih =>
      by_cases h : ∃ j, j < k ∧ bt v j = true
      · obtain ⟨j, hj, hb⟩ := h
        exact ih j hj hb
      · refine ⟨k, hk, fun j hj => ?_⟩
        cases hb : bt v j with
        | false => rfl
        | true => exact absurd ⟨j, hj, hb⟩ h
  obtain ⟨k, hk, hlow⟩ := hmin
  have hk64 : k < 64 := by
    apply Classical.byContradiction
    intro hc
    rw [bt_u64_ge (u64i ⟨by omega, by omega⟩) (by omega)] at hk
    cases hk
  refine ⟨k, hk64, hk, hlow, ?_⟩
  have hp : (2 : Int) ^ k < 2 ^ 64 := Int.pow_lt_pow_of_lt (by decide) hk64
  apply eq_u64 (bits_has _ _ _ _) ((u64_has _).2 ⟨Int.le_of_lt (pow_pos' k), hp⟩)
  intro i hi
  rw [bt_and .u64 _ _ hi, bt_wrap .u64 _ hi, bt_pow]
  have hn : bt (0 - v) i = ((BitVec.ofInt 64 (-v)).getLsbD i) := by rw [bt_ofInt]; simp [hi]
  rw [hn, BitVec.ofInt_neg, BitVec.getLsbD_neg, bt_ofInt]
  simp only [hi, decide_true, Bool.true_and]
  by_cases c : i < k
  · have e : ¬ k = i := by omega
    simp [hlow i c, e]
  · by_cases e : k = i
    · subst e
      have : ¬ ∃ j, j < k ∧ (BitVec.ofInt 64 v).getLsbD j = true := by
        rintro ⟨j, hj, hb⟩
        rw [bt_ofInt, hlow j hj] at hb
        simp at hb
      simp [hk, this]
    · have : ∃ j, j < i ∧ (BitVec.ofInt 64 v).getLsbD j = true := ⟨k, by omega, by rw [bt_ofInt, hk]; simp [hk64]⟩
      simp [e, this]

end Go.Vc
namespace Go.Vc
end Go.Vc
namespace Go.Vc
/-- The lowest n bytes. -/
def bytesLE (v : Int) (n : Nat) : List Int := (List.range n).map fun j => v / 256 ^ j % 256
def Bytes.post : List D → Prop
  | [.I v, .I n, .S r] => r = textOf (bytesLE v (clamp 0 8 n).toNat)
  | _ => False
def Bytes.sig : Sig := sigF [.i .u64, .i .i64] [.s] tru Bytes.post
def RBytes.sig : Sig := Bytes.sig
def RBytes.I0 : List D → Prop
  | [.I v0, .I n, .I v, .S s, .I i] => 0 ≤ i ∧ i ≤ clamp 0 8 n ∧ v = v0 / 256 ^ i.toNat ∧ s = textOf (bytesLE v0 i.toNat)
  | _ => False
def RBytes.I0M : List D → Nat
  | [.I _, .I n, .I _, .S _, .I i] => (clamp 0 8 n - i).toNat
  | _ => 0
def wide (n : Int) : Int := if n = 1 then 8 else if n = 2 then 16 else if n = 4 then 32 else 64
end Go.Vc
namespace Go.Vc
set_option linter.unusedVariables false
def RBytes.Pure : Prop :=
 ∀ (i0 : Int),
 ∀ (i1 : Int),
 (0 ≤ i0 ∧ i0 < 18446744073709551616) →
 (-9223372036854775808 ≤ i1 ∧ i1 < 9223372036854775808) →
 RBytes.sig.pre [.I i0, .I i1] →
 RBytes.I0 [.I i0, .I i1, .I i0, (D.S (⟨#[]⟩ : ByteArray)), (D.I (0 : Int))] ∧ (
 ∀ (i2 : Int),
 ∀ (s3 : ByteArray),
 ∀ (i4 : Int),
 (0 ≤ i2 ∧ i2 < 18446744073709551616) →
 ((s3.size : Int) ≤ 9223372036854775807) →
 (-9223372036854775808 ≤ i4 ∧ i4 < 9223372036854775808) →
 RBytes.I0 [.I i0, .I i1, .I i2, .S s3, .I i4] →
 ((
 (i4 < i1) →
 ((
 (i4 < (8 : Int)) →
 ∀ (v5 : Value),
 ((((s3 ++ (textOf ((IntKind.wrap .u8 (Int.tmod i2 (256 : Int))) :: ([] : List Int)))).size : Nat) : Int) ≤ (9223372036854775807 : Int)) ∧ (((((s3 ++ (textOf ((IntKind.wrap .u8 (Int.tmod i2 (256 : Int))) :: ([] : List Int)))).size : Nat) : Int) ≤ (9223372036854775807 : Int)) →
   RBytes.I0 [.I i0, .I i1, (D.I (IntKind.wrap .u64 (Int.tdiv i2 (256 : Int)))), (D.S (s3 ++ (textOf ((IntKind.wrap .u8 (Int.tmod i2 (256 : Int))) :: ([] : List Int))))), (D.I (IntKind.wrap .i64 (i4 + (1 : Int))))] ∧ RBytes.I0M [.I i0, .I i1, (D.I (IntKind.wrap .u64 (Int.tdiv i2 (256 : Int)))), (D.S (s3 ++ (textOf ((IntKind.wrap .u8 (Int.tmod i2 (256 : Int))) :: ([] : List Int))))), (D.I (IntKind.wrap .i64 (i4 + (1 : Int))))] < RBytes.I0M [.I i0, .I i1, .I i2, .S s3, .I i4])) ∧ (
 ((8 : Int) ≤ i4) →
   RBytes.sig.post [.I i0, .I i1, .S s3]))) ∧ (
 (i1 ≤ i4) →
  RBytes.sig.post [.I i0, .I i1, .S s3])))
end Go.Vc
namespace Go.Vc
theorem bytesLE_len (v : Int) (n : Nat) : (bytesLE v n).length = n := by simp [bytesLE]
theorem bytesLE_has (v : Int) (n : Nat) : ∀ x ∈ bytesLE v n, 0 ≤ x ∧ x < 256 := by
  intro x hx
  simp only [bytesLE, List.mem_map] at hx
  obtain ⟨j, _, rfl⟩ := hx
  omega
theorem bytesLE_succ (v : Int) (n : Nat) : bytesLE v (n + 1) = bytesLE v n ++ [v / 256 ^ n % 256] := by
  simp [bytesLE, List.range_succ]
theorem pow_256 (n : Nat) : (256 : Int) ^ n = 2 ^ (8 * n) := by
  rw [Int.pow_mul]; rfl
theorem clamp8 (n : Int) : 0 ≤ clamp 0 8 n ∧ clamp 0 8 n ≤ 8 := by unfold clamp; split <;> (try split) <;> omega
theorem size_textOf (l : List Int) : (textOf l).size = l.length := textOf_size l

theorem div_pow_succ (v : Int) (n : Nat) : v / 256 ^ (n + 1) = v / 256 ^ n / 256 := by
  rw [Int.pow_succ, Int.ediv_ediv_of_nonneg]
  rw [pow_256]; exact Int.le_of_lt (pow_pos' _)

theorem RBytes.pure : RBytes.Pure := by
  intro i0 i1 h1 h2 h3
  have hc := clamp8 i1
  refine ⟨?_, ?_⟩
  · exact ⟨by omega, by omega, by simp, rfl⟩
  intro i2 s3 i4 h4 h5 h6 h7
  have h7 : 0 ≤ i4 ∧ i4 ≤ clamp 0 8 i1 ∧ i2 = i0 / 256 ^ i4.toNat ∧ s3 = textOf (bytesLE i0 i4.toNat) := h7
  obtain ⟨a, b, c, d⟩ := h7
  have hend : (8 ≤ i4 ∨ i1 ≤ i4) → textOf (bytesLE i0 i4.toNat) = textOf (bytesLE i0 (clamp 0 8 i1).toNat) := by
    intro h
    have : clamp 0 8 i1 = i4 := by unfold clamp at *; split <;> (try split) <;> omega
    rw [this]
  refine ⟨?_, ?_⟩
  · intro h8
    refine ⟨?_, ?_⟩
    · intro h9 v5
      have e1 : IntKind.wrap .u8 (Int.tmod i2 256) = i0 / 256 ^ i4.toNat % 256 := by
        rw [Int.tmod_eq_emod_of_nonneg h4.1, IntKind.wrap_u8, ← c]; omega
      have e2 : IntKind.wrap .u64 (Int.tdiv i2 256) = i2 / 256 := by
        rw [Int.tdiv_eq_ediv_of_nonneg h4.1, u64w (by omega) (by omega)]
      rw [e1, e2, i64w (by omega) (by omega), d, textOf_append, ← bytesLE_succ]
      have hlt : i4 < clamp 0 8 i1 := by unfold clamp at *; split <;> (try split) <;> omega
      refine ⟨?_, fun h10 => ?_⟩
      · rw [size_textOf, bytesLE_len]; omega
      refine ⟨?_, ?_⟩
      · refine ⟨by omega, by omega, ?_, ?_⟩
        · rw [show (i4 + 1).toNat = i4.toNat + 1 from by omega, div_pow_succ, c]
        · rw [show (i4 + 1).toNat = i4.toNat + 1 from by omega]
      · show (clamp 0 8 i1 - (i4 + 1)).toNat < (clamp 0 8 i1 - i4).toNat
        omega
    · intro h9
      show s3 = textOf (bytesLE i0 (clamp 0 8 i1).toNat)
      rw [d]; exact hend (Or.inl h9)
  · intro h8
    show s3 = textOf (bytesLE i0 (clamp 0 8 i1).toNat)
    rw [d]; exact hend (Or.inr h8)

end Go.Vc
namespace Go.Vc
theorem bytesLE_get (v : Int) (n : Nat) {j : Nat} (h : j < n) : (bytesLE v n).getD j 0 = v / 256 ^ j % 256 := by simp [bytesLE, List.getD, h]

theorem bt_byte (v : Int) (j i : Nat) (h : i < 8) : bt (v / 256 ^ j % 256) i = bt v (i + 8 * j) := by
  rw [show (256 : Int) = 2 ^ 8 from rfl, bt_emod _ h, show ((2 : Int) ^ 8) ^ j = 2 ^ (8 * j) from (Int.pow_mul ..).symm, bt_ediv_pow]

theorem textOf_cons (b : Int) (l : List Int) : textOf [b] ++ textOf l = textOf (b :: l) := by rw [textOf_append]; rfl

theorem xor_zero {a : Int} (h : IntKind.u64.has a) : Go.bits .xor .u64 a 0 = a := by
  apply eq_u64 (bits_has _ _ _ _) h
  intro i hi
  rw [bt_xor .u64 _ _ hi, bt_zero]; simp

end Go.Vc
namespace Go.Vc
end Go.Vc
