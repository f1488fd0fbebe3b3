/-
 Contracts of the functions on whole numbers (word, and the document's).
 Printed by wip/vct.py: the conditions of functions, by their contracts.
 The functions on whole numbers keep their contracts: the plain part.
 The document's functions on whole numbers keep their contracts: the plain part.
 More contracts of the functions on whole numbers; the laws.
 Printed by wip/vct.py: the conditions of functions, by their contracts.
 More functions on whole numbers keep their contracts: the plain part.
 Still more functions on whole numbers keep their contracts: the plain part.
 The laws of whole numbers: the plain part.
-/
import Derived.Test.YtmgeaephkagdiaaGreatDoorVcd
import Derived.KernelRfl
set_option linter.unusedVariables false
set_option linter.unusedSimpArgs false
open _root_.Go.IntKind (wrap)
namespace Go.Vc
def tru (_ : LD) : Prop := True
def b2i (b : Bool) : Int := if b then 1 else 0
def bitsOf (v : Int) : LI := (List.range 64).map fun i => b2i (bt v i)
def valueOf : LI → Int
 | [] => 0
 | b :: l => b + 2 * valueOf l
def oG (l : LI) : Prop := ∀ x ∈ l, x = 0 ∨ x = 1
def clamp (a b n : Int) : Int := if n < a then a else if n > b then b else n
def Low.post : LD → Prop
 | [.I v, .I n, .I r] => ∀ i, i < 64 → bt r i = (decide ((i : Int) < n) && bt v i)
 | _ => False
def Low.sig : Sig := gQ [.i .u64, .i .i64] [.i .u64] tru Low.post
def Field.post : LD → Prop
 | [.I v, .I a, .I n, .I r] => ∀ i, i < 64 → bt r i = (decide (0 ≤ a) && decide (a < 64) && decide ((i : Int) < n) && bt v (i + a.toNat))
 | _ => False
def Field.sig : Sig := gQ [.i .u64, .i .i64, .i .i64] [.i .u64] tru Field.post
def vX.post : LD → Prop
 | [.I v, .I n, .I r] => ∀ i, i < 32 → bt r i = bt v (((i : Int) - n) % 32).toNat
 | _ => False
def vX.sig : Sig := gQ [.i .u32, .i .i64] [.i .u32] tru vX.post
def jP.post : LD → Prop
 | [.I v, .V _, .Z l] => l = bitsOf v
 | _ => False
def jP.sig : Sig := gQ [.i .u64] [.z .i64] tru jP.post
def jP.I0 : LD → Prop
 | [.I v0, .I v, .Z l, .I i] => 0 ≤ i ∧ i ≤ 64 ∧ v = v0 / 2 ^ i.toNat ∧ l = (bitsOf v0).take i.toNat
 | _ => False
def jP.I0M : LD → Nat
 | [.I _, .I _, .Z _, .I i] => (64 - i).toNat
 | _ => 0
def iZ.pre : LD → Prop
 | [.V _, .Z l] => l.length ≤ 64 ∧ oG l
 | _ => False
def iZ.post : LD → Prop
 | [.V _, .Z l, .I r] => r = valueOf l
 | _ => False
def iZ.sig : Sig := gQ [.z .i64] [.i .u64] iZ.pre iZ.post
def iZ.I0 : LD → Prop
 | [.V _, .Z l, .I v, .I i] => -1 ≤ i ∧ i < l.length ∧ v = valueOf (l.drop (i + 1).toNat)
 | _ => False
def iZ.I0M : LD → Nat
 | [.V _, .Z _, .I _, .I i] => (i + 1).toNat
 | _ => 0
end Go.Vc
namespace Go.Vc
set_option linter.unusedVariables false
def Low.Pure : Prop :=
 ∀ i0 i1 : Int,
 U64 i0 →
 R64 i1 →
 Low.sig.pre [.I i0, .I i1] →
 ((
 (i1 ≤ 0) →
  Low.sig.post [.I i0, .I i1, .I 0]) ∧ (
 (0 < i1) →
 ((
 (64 ≤ i1) →
  Low.sig.post [.I i0, .I i1, .I i0]) ∧ (
 (i1 < 64) →
 Im (0 ≤ i1) (
  Low.sig.post [.I i0, .I i1, .I (Go.bits .and .u64 i0 (wrap .u64 ((fC .u64 1 i1) - 1)))])))))
def Field.Pure : Prop :=
 ∀ i0 i1 i2 : Int,
 U64 i0 →
 R64 i1 →
 R64 i2 →
 Field.sig.pre [.I i0, .I i1, .I i2] →
 ((
 (i1 < 0) →
  Field.sig.post [.I i0, .I i1, .I i2, .I 0]) ∧ (
 (0 ≤ i1) →
 ((
 (63 < i1) →
  Field.sig.post [.I i0, .I i1, .I i2, .I 0]) ∧ (
 (i1 ≤ 63) →
 Im (0 ≤ i1) (
  Low.sig.pre [.I (aW .u64 i0 i1), .I i2] ∧ (
 ∀ i3 : Int,
  Low.sig.post [.I (aW .u64 i0 i1), .I i2, .I i3] →
 U64 i3 →
  Field.sig.post [.I i0, .I i1, .I i2, .I i3]))))))
def vX.Pure : Prop :=
 ∀ i0 i1 : Int,
 (0 ≤ i0 ∧ i0 < 4294967296) →
 R64 i1 →
 vX.sig.pre [.I i0, .I i1] →
 vX.sig.post [.I i0, .I i1, .I (Go.bits .or .u32 (fC .u32 i0 (Go.bits .and .u64 (wrap .u64 i1) 31)) (aW .u32 i0 (wrap .u64 (32 - (Go.bits .and .u64 (wrap .u64 i1) 31)))))]
def jP.Pure : Prop :=
 ∀ i0 : Int,
 U64 i0 →
 jP.sig.pre [.I i0] →
 ∀ v1 v2 : Value,
 jP.I0 [.I i0, .I i0, .Z ([] : LI), .I 0] ∧ (
 ∀ i3 : Int,
 ∀ v4 : Value,
 ∀ z5 : LI,
 ∀ i6 : Int,
 U64 i3 →
 R64 i6 →
 (∀ x ∈ z5, IntKind.has .i64 x) →
 jP.I0 [.I i0, .I i3, .Z z5, .I i6] →
 ((
 (i6 < 64) →
 ∀ v7 : Value,
 Im (((z5 ++ ((wrap .i64 (Int.tmod i3 (2 : Int))) :: ([] : LI))).length : Int) ≤ (17592186044416 : Int)) (
 ∀ v8 : Value,
  Bk jP.I0 jP.I0M [.I i0, .I (wrap .u64 (Int.tdiv i3 2)), .Z (z5 ++ ((wrap .i64 (Int.tmod i3 2)) :: ([] : LI))), .I (wrap .i64 (i6 + 1))] [.I i0, .I i3, .Z z5, .I i6])) ∧ (
 (64 ≤ i6) →
  jP.sig.post [.I i0, .V v4, .Z z5])))
def iZ.Pure : Prop :=
 ∀ v0 : Value,
 ∀ z1 : LI,
 (∀ x ∈ z1, IntKind.has .i64 x) →
 iZ.sig.pre [.V v0, .Z z1] →
 iZ.I0 [.V v0, .Z z1, .I (0 : Int), .I (wrap .i64 ((z1.length : Int) - (1 : Int)))] ∧ (
 ∀ i2 i3 : Int,
 U64 i2 →
 R64 i3 →
 iZ.I0 [.V v0, .Z z1, .I i2, .I i3] →
 ((
 (0 ≤ i3) →
 Im (i3 < (z1.length : Int)) (
  Bk iZ.I0 iZ.I0M [.V v0, .Z z1, .I (wrap .u64 ((wrap .u64 (2 * i2)) + (wrap .u64 (z1.getD i3.toNat 0)))), .I (wrap .i64 (i3 - 1))] [.V v0, .Z z1, .I i2, .I i3])) ∧ (
 (i3 < 0) →
  iZ.sig.post [.V v0, .Z z1, .I i2])))
end Go.Vc
namespace Go.Vc
theorem aL9 {x : Int} (h : 0 ≤ x ∧ x < 18446744073709551616) : IntKind.u64.has x := qJ.2 h
theorem u32i {x : Int} (h : 0 ≤ x ∧ x < 4294967296) : IntKind.u32.has x := qJ.2 h
theorem aT3 (a b : Int) : iQ a b = min a b := by simp only [iQ]; omega
theorem aT2 (a b : Int) : fJ a b = max a b := by simp only [fJ]; omega
theorem aH {x : Int} (h : -9223372036854775808 ≤ x) (h' : x < 9223372036854775808) : IntKind.i64.wrap x = x := by rw [IntKind.wrap_i64]; omega
theorem eY {x : Int} (h : 0 ≤ x) (h' : x < 18446744073709551616) : IntKind.u64.wrap x = x := by rw [IntKind.wrap_u64]; omega
theorem Low.pure : Low.Pure := by
 intro i0 i1 h1 h2 h3
 refine ⟨?_, ?_⟩
 ·intro h4
  show ∀ i, i < 64 → bt 0 i = (decide ((i : Int) < i1) && bt i0 i)
  intro i hi
  have : ¬ ((i : Int) < i1) := by omega
  simp [this, xP]
 ·intro h4
  refine ⟨?_, ?_⟩
  ·intro h5
   show ∀ i, i < 64 → bt i0 i = (decide ((i : Int) < i1) && bt i0 i)
   intro i hi
   have : ((i : Int) < i1) := by omega
   simp [this]
  ·intro h5
   refine ⟨?_, fun h6 => ?_⟩
   ·omega -- (0 : Int) ≤ i1
   show ∀ i, i < 64 → bt (Go.bits .and .u64 i0 (wrap .u64 ((fC .u64 (1 : Int) i1) - (1 : Int)))) i = (decide ((i : Int) < i1) && bt i0 i)
   intro i hi
   rw [aN5 .u64 _ _ hi, aE8 .u64 _ hi, dR9 _ h6 h5, bT5]
   have : (i < i1.toNat) ↔ ((i : Int) < i1) := by omega
   simp [this, Bool.and_comm]
theorem Field.pure : Field.Pure := by
 intro i0 i1 i2 h1 h2 h3 h4
 refine ⟨?_, ?_⟩
 ·intro h5
  show ∀ i, i < 64 → bt 0 i = (decide (0 ≤ i1) && decide (i1 < 64) && decide ((i : Int) < i2) && bt i0 (i + i1.toNat))
  intro i hi
  have : ¬ 0 ≤ i1 := by omega
  simp [this, xP]
 ·intro h5
  refine ⟨?_, ?_⟩
  ·intro h6
   show ∀ i, i < 64 → bt 0 i = (decide (0 ≤ i1) && decide (i1 < 64) && decide ((i : Int) < i2) && bt i0 (i + i1.toNat))
   intro i hi
   have : ¬ i1 < 64 := by omega
   simp [this, xP]
  ·intro h6
   refine ⟨?_, fun h7 => ?_⟩
   ·omega -- (0 : Int) ≤ i1
   refine ⟨?_, ?_⟩
   ·trivial -- pre [(D.I (aW .u64 i0 i1)), (D.I i2)]
   intro i3 h8 h9
   show ∀ i, i < 64 → bt i3 i = (decide (0 ≤ i1) && decide (i1 < 64) && decide ((i : Int) < i2) && bt i0 (i + i1.toNat))
   intro i hi
   have h8 : ∀ i, i < 64 → bt i3 i = (decide ((i : Int) < i2) && bt (aW .u64 i0 i1) i) := h8
   have : i1 < 64 := by omega
   rw [h8 i hi, bC2 _ (aL9 h1)]
   simp [h5, this]
theorem cV4 (a : Int) (ha : IntKind.u64.has a) : Go.bits .and .u64 a 31 = a % 32 := by
 have h := (rD a).1 ha
 have e := bits_mask .u64 64 (by decide) (fun n h0 h1 => bR4 h0 (by simpa using h1)) 5 (by decide) a h.1 h.2
 simpa using e
theorem vX.pure : vX.Pure := by
 intro i0 i1 h1 h2 h3
 show ∀ i, i < 32 → bt (Go.bits .or .u32 (fC .u32 i0 (Go.bits .and .u64 (wrap .u64 i1) (31 : Int))) (aW .u32 i0 (wrap .u64 ((32 : Int) - (Go.bits .and .u64 (wrap .u64 i1) (31 : Int)))))) i = bt i0 (((i : Int) - i1) % 32).toNat
 intro i hi
 rw [cV4 _ (bR0 _ _), IntKind.wrap_u64 i1]
 have e : i1 % 18446744073709551616 % 32 = i1 % 32 := by omega
 rw [e, eY (by omega) (by omega), zL .u32 _ _ hi, zM .u32 _ _ hi, cY7 _ (u32i h1)]
 by_cases c : (i1 % 32).toNat ≤ i
 ·have e1 : (((i : Int) - i1) % 32).toNat = i - (i1 % 32).toNat := by omega
  rw [cY9 (u32i h1) (i := i + (32 - i1 % 32).toNat) (by omega)]
  simp [c, e1]
 ·have e1 : (((i : Int) - i1) % 32).toNat = i + (32 - i1 % 32).toNat := by omega
  simp [c, e1]
end Go.Vc
namespace Go.Vc
theorem bB5 (v : Int) : (bitsOf v).length = 64 := by simp [bitsOf]
theorem cX9 (v : Int) {i : Nat} (h : i < 64) : (bitsOf v).getD i 0 = b2i (bt v i) := by simp [bitsOf, List.getD, h]
theorem cW8 (b : Bool) : b2i b = 0 ∨ b2i b = 1 := by cases b <;> simp [b2i]
theorem cX8 (v : Int) : oG (bitsOf v) := by
 intro x hx
 simp only [bitsOf, List.mem_map] at hx
 obtain ⟨i, _, rfl⟩ := hx
 exact cW8 _
theorem dF7 {l : LI} (h : oG l) (i : Nat) : l.getD i 0 = 0 ∨ l.getD i 0 = 1 := by
 simp only [List.getD]
 cases e : l[i]? with
 | none => simp
 | some x => simpa using h x (List.mem_of_getElem? e)
theorem aR0 {l : LI} (i j : Nat) (x : Int) (hi : i < l.length) : (l.set i x).getD j 0 = if j = i then x else l.getD j 0 := by
 simp only [List.getD]
 by_cases h : j = i
 ·subst h; simp [hi]
 ·rw [List.getElem?_set_ne (by omega)]; simp [h]
theorem cT9 : ∀ {l : LI}, oG l → ∀ i : Nat, bt (valueOf l) i = (l.getD i 0 == 1)
 | [], _, i => by simp [valueOf, xP]
 | b :: l, h, i => by
  have hb := h b (by simp)
  have hl : oG l := fun x hx => h x (by simp [hx])
  cases i with
  | zero =>
   simp only [valueOf, bt, List.getD_cons_zero, Int.pow_zero, Int.ediv_one]
   rcases hb with rfl | rfl
   ·simp
   ·have : (1 + 2 * valueOf l) % 2 = 1 := by omega
    simp [this]
  | succ i =>
   rw [List.getD_cons_succ, ← cT9 hl i]
   have e : (b + 2 * valueOf l) / 2 ^ (i + 1) = valueOf l / 2 ^ i := by
    rw [Int.pow_succ, Int.mul_comm (2 ^ i) 2, ← Int.ediv_ediv_of_nonneg (by decide : (0 : Int) ≤ 2)]
    have : (b + 2 * valueOf l) / 2 = valueOf l := by omega
    rw [this]
   show decide ((b + 2 * valueOf l) / 2 ^ (i + 1) % 2 = 1) = decide (valueOf l / 2 ^ i % 2 = 1)
   simp only [e]
theorem cU0 : ∀ {l : LI}, oG l → 0 ≤ valueOf l ∧ valueOf l < 2 ^ l.length
 | [], _ => by simp [valueOf]
 | b :: l, h => by
  have hb := h b (by simp)
  have hl := cU0 (l := l) (fun x hx => h x (by simp [hx]))
  simp only [valueOf, List.length_cons, Int.pow_succ]
  omega
theorem dX2 {l : LI} (h : oG l) (hl : l.length ≤ 64) : 0 ≤ valueOf l ∧ valueOf l < 18446744073709551616 := by
 have h1 := cU0 h
 have h2 : (2 : Int) ^ l.length ≤ 2 ^ 64 := by exact_mod_cast Nat.pow_le_pow_right (by decide : 0 < 2) hl
 simp only [show (2 : Int) ^ 64 = 18446744073709551616 from rfl] at h2
 omega
theorem dB6 {l : LI} {i : Nat} (h : i < l.length) : l.drop i = l.getD i 0 :: l.drop (i + 1) := by
 rw [List.drop_eq_getElem_cons h]
 simp [List.getD, h]
theorem cY0 (v : Int) {i : Nat} (h : i < 64) : (bitsOf v).take (i + 1) = (bitsOf v).take i ++ [b2i (bt v i)] := by
 rw [List.take_add_one]
 congr 1
 simp [bitsOf, h]
theorem jP.pure : jP.Pure := by
 intro i0 h1 h2 v1 v2
 refine ⟨?_, ?_⟩
 ·exact ⟨by decide, by decide, by simp, by simp⟩
 intro i3 v4 z5 i6 h3 h4 h5 h6
 have h6 : 0 ≤ i6 ∧ i6 ≤ 64 ∧ i3 = i0 / 2 ^ i6.toNat ∧ z5 = (bitsOf i0).take i6.toNat := h6
 obtain ⟨a, b, c, d⟩ := h6
 refine ⟨?_, ?_⟩
 ·intro h7 v7
  have hl : z5.length = i6.toNat := by rw [d, List.length_take, bB5]; omega
  refine ⟨?_, fun h8 => ?_⟩
  ·simp only [List.length_append, List.length_cons, List.length_nil]
   omega
  intro v8
  have e1 : Int.tmod i3 2 = b2i (bt i0 i6.toNat) := by
   rw [Int.tmod_eq_emod_of_nonneg h3.1]
   simp only [bt, ← c]
   have : i3 % 2 = 0 ∨ i3 % 2 = 1 := by omega
   rcases this with h | h <;> simp [h, b2i]
  have e2 : Int.tdiv i3 2 = i3 / 2 := Int.tdiv_eq_ediv_of_nonneg h3.1
  have e4 : (i6 + 1).toNat = i6.toNat + 1 := by omega
  rw [e1, e2, aH (by unfold b2i; split <;> decide) (by unfold b2i; split <;> decide), eY (by omega) (by omega), aH (by omega) (by omega)]
  refine ⟨?_, ?_⟩
  ·show 0 ≤ i6 + 1 ∧ i6 + 1 ≤ 64 ∧ i3 / 2 = i0 / 2 ^ (i6 + 1).toNat ∧ z5 ++ [b2i (bt i0 i6.toNat)] = (bitsOf i0).take (i6 + 1).toNat
   refine ⟨by omega, by omega, ?_, ?_⟩
   ·rw [e4, Int.pow_succ, c, Int.ediv_ediv_of_nonneg (Int.le_of_lt (oJ _))]
   ·rw [e4, cY0 _ (by omega), d]
  ·show (64 - (i6 + 1)).toNat < (64 - i6).toNat
   omega
 ·intro h7
  show z5 = bitsOf i0
  rw [d, List.take_of_length_le]
  rw [bB5]; omega
theorem iZ.pure : iZ.Pure := by
 intro v0 z1 h1 h2
 have h2 : z1.length ≤ 64 ∧ oG z1 := h2
 obtain ⟨hl, h01⟩ := h2
 refine ⟨?_, ?_⟩
 ·rw [aH (by omega) (by omega)]
  refine ⟨by omega, by omega, ?_⟩
  rw [List.drop_of_length_le (by omega)]; rfl
 intro i2 i3 h3 h4 h5
 have h5 : -1 ≤ i3 ∧ i3 < z1.length ∧ i2 = valueOf (z1.drop (i3 + 1).toNat) := h5
 obtain ⟨a, b, c⟩ := h5
 refine ⟨?_, ?_⟩
 ·intro h6
  refine ⟨?_, fun h7 => ?_⟩
  ·omega -- i3 < ((z1.length : Nat) : Int)
  have hd : z1.drop i3.toNat = z1.getD i3.toNat 0 :: z1.drop (i3 + 1).toNat := by
   rw [dB6 (by omega), show (i3 + 1).toNat = i3.toNat + 1 from by omega]
  have hx := dF7 h01 i3.toNat
  have hdr : oG (z1.drop i3.toNat) := fun x hx => h01 x (List.mem_of_mem_drop hx)
  have hv := dX2 hdr (by rw [List.length_drop]; omega)
  have he : valueOf (z1.drop i3.toNat) = z1.getD i3.toNat 0 + 2 * i2 := by rw [hd, c]; rfl
  rw [eY (x := 2 * i2) (by omega) (by omega), eY (x := z1.getD i3.toNat 0) (by omega) (by omega), eY (by omega) (by omega), aH (by omega) (by omega)]
  refine ⟨?_, ?_⟩
  ·refine ⟨by omega, by omega, ?_⟩
   rw [show i3 - 1 + 1 = i3 from by omega, he]; omega
  ·show (i3 - 1 + 1).toNat < (i3 + 1).toNat
   omega
 ·intro h6
  show i2 = valueOf z1
  rw [c, show (i3 + 1).toNat = 0 from by omega]; rfl
end Go.Vc
namespace Go.Vc
def Swap.post : LD → Prop
 | [.I v, .I r] => ∀ i, i < 64 → bt r i = bt v (8 * (7 - i / 8) + i % 8)
 | _ => False
def Swap.sig : Sig := gQ [.i .u64] [.i .u64] tru Swap.post
def bytesLE (v : Int) (n : Nat) : LI := (List.range n).map fun j => v / 256 ^ j % 256
def numOf : LI → Int
 | [] => 0
 | b :: l => b + 256 * numOf l
def Bytes.post : LD → Prop
 | [.I v, .I n, .S r] => r = textOf (bytesLE v (clamp 0 8 n).toNat)
 | _ => False
def Bytes.sig : Sig := gQ [.i .u64, .i .i64] [.s] tru Bytes.post
def Bytes.I0 : LD → Prop
 | [.I v, .I n, .I i, .Z l] => 0 ≤ i ∧ i ≤ clamp 0 8 n ∧ l.length = (clamp 0 8 n).toNat ∧ l.take i.toNat = bytesLE v i.toNat
 | _ => False
def Bytes.I0M : LD → Nat
 | [.I _, .I n, .I i, .Z _] => (clamp 0 8 n - i).toNat
 | _ => 0
def kF.sig : Sig := Bytes.sig
def kF.I0 : LD → Prop
 | [.I v0, .I n, .I v, .S s, .I i] => 0 ≤ i ∧ i ≤ clamp 0 8 n ∧ v = v0 / 256 ^ i.toNat ∧ s = textOf (bytesLE v0 i.toNat)
 | _ => False
def kF.I0M : LD → Nat
 | [.I _, .I n, .I _, .S _, .I i] => (clamp 0 8 n - i).toNat
 | _ => 0
def wide (n : Int) : Int := if n = 1 then 8 else if n = 2 then 16 else if n = 4 then 32 else 64
def pU.sig : Sig := Field.sig
def Cut.pre : LD → Prop
 | [.S _, .I n] => 0 ≤ n
 | _ => False
def Cut.post : LD → Prop
 | [.S s, .I n, .S r] => r = if (s.size : Int) > n then s.extract 0 n.toNat else s
 | _ => False
def Cut.sig : Sig := gQ [.s, .i .i64] [.s] Cut.pre Cut.post
end Go.Vc
namespace Go.Vc
set_option linter.unusedVariables false
def Swap.Pure : Prop :=
 ∀ i0 : Int,
 U64 i0 →
 Swap.sig.pre [.I i0] →
 Swap.sig.post [.I i0, .I (Go.bits .or .u64 (aW .u64 (Go.bits .or .u64 (Go.bits .and .u64 (aW .u64 (Go.bits .or .u64 (Go.bits .and .u64 (aW .u64 i0 8) 71777214294589695) (fC .u64 (Go.bits .and .u64 i0 71777214294589695) 8)) 16) 281470681808895) (fC .u64 (Go.bits .and .u64 (Go.bits .or .u64 (Go.bits .and .u64 (aW .u64 i0 8) 71777214294589695) (fC .u64 (Go.bits .and .u64 i0 71777214294589695) 8)) 281470681808895) 16)) 32) (fC .u64 (Go.bits .or .u64 (Go.bits .and .u64 (aW .u64 (Go.bits .or .u64 (Go.bits .and .u64 (aW .u64 i0 8) 71777214294589695) (fC .u64 (Go.bits .and .u64 i0 71777214294589695) 8)) 16) 281470681808895) (fC .u64 (Go.bits .and .u64 (Go.bits .or .u64 (Go.bits .and .u64 (aW .u64 i0 8) 71777214294589695) (fC .u64 (Go.bits .and .u64 i0 71777214294589695) 8)) 281470681808895) 16)) 32))]
def Bytes.Pure : Prop :=
 ∀ i0 i1 : Int,
 U64 i0 →
 R64 i1 →
 Bytes.sig.pre [.I i0, .I i1] →
 Im (0 ≤ (iQ (fJ i1 0) 8)) (
 Im ((iQ (fJ i1 0) 8) ≤ 140737488355328) (
 ∀ v2 : Value,
 Bytes.I0 [.I i0, .I i1, .I 0, .Z (List.replicate (iQ (fJ i1 0) 8).toNat (0 : Int))] ∧ (
 ∀ i3 : Int,
 ∀ z4 : LI,
 R64 i3 →
 (∀ x ∈ z4, IntKind.has .u8 x) →
 Bytes.I0 [.I i0, .I i1, .I i3, .Z z4] →
 ((
 (i3 < ((List.replicate (iQ (fJ i1 0) 8).toNat (0 : Int)).length : Int)) →
 Im (0 ≤ (wrap .i64 (8 * i3))) (
 Im (0 ≤ i3) (
 Im (i3 < (z4.length : Int)) (
  Bk Bytes.I0 Bytes.I0M [.I i0, .I i1, .I (wrap .i64 (i3 + 1)), .Z (z4.set i3.toNat (wrap .u8 (aW .u64 i0 (wrap .i64 (8 * i3)))))] [.I i0, .I i1, .I i3, .Z z4])))) ∧ (
 (((List.replicate (iQ (fJ i1 0) 8).toNat (0 : Int)).length : Int) ≤ i3) →
  Bytes.sig.post [.I i0, .I i1, .S (textOf z4)])))))
def kF.Pure : Prop :=
 ∀ i0 i1 : Int,
 U64 i0 →
 R64 i1 →
 kF.sig.pre [.I i0, .I i1] →
 kF.I0 [.I i0, .I i1, .I i0, .S (⟨#[]⟩ : BA), .I 0] ∧ (
 ∀ i2 : Int,
 ∀ s3 : BA,
 ∀ i4 : Int,
 U64 i2 →
 ((s3.size : Int) ≤ 9223372036854775807) →
 R64 i4 →
 kF.I0 [.I i0, .I i1, .I i2, .S s3, .I i4] →
 ((
 (i4 < i1) →
 ((
 (i4 < 8) →
 ∀ v5 : Value,
 Im (((s3 ++ (textOf ((wrap .u8 (Int.tmod i2 (256 : Int))) :: ([] : LI)))).size : Int) ≤ (9223372036854775807 : Int)) (
  Bk kF.I0 kF.I0M [.I i0, .I i1, .I (wrap .u64 (Int.tdiv i2 256)), .S (s3 ++ (textOf ((wrap .u8 (Int.tmod i2 256)) :: ([] : LI)))), .I (wrap .i64 (i4 + 1))] [.I i0, .I i1, .I i2, .S s3, .I i4])) ∧ (
 (8 ≤ i4) →
  kF.sig.post [.I i0, .I i1, .S s3]))) ∧ (
 (i1 ≤ i4) →
  kF.sig.post [.I i0, .I i1, .S s3])))
def pU.Pure : Prop :=
 ∀ i0 i1 i2 : Int,
 U64 i0 →
 R64 i1 →
 R64 i2 →
 pU.sig.pre [.I i0, .I i1, .I i2] →
 ((
 (i1 < 0) →
  pU.sig.post [.I i0, .I i1, .I i2, .I 0]) ∧ (
 (0 ≤ i1) →
 ((
 (63 < i1) →
  pU.sig.post [.I i0, .I i1, .I i2, .I 0]) ∧ (
 (i1 ≤ 63) →
  jP.sig.pre [.I i0] ∧ (
 ∀ v3 : Value,
 ∀ z4 : LI,
  jP.sig.post [.I i0, .V v3, .Z z4] →
 (∀ x ∈ z4, IntKind.has .i64 x) →
 Im (i1 ≤ (z4.length : Int)) (
 Im (0 ≤ i1) (
 ∀ v5 : Value,
 Im (0 ≤ (iQ (fJ i2 0) ((z4.drop i1.toNat).length : Int))) (
 Im ((iQ (fJ i2 0) ((z4.drop i1.toNat).length : Int)) ≤ ((z4.drop i1.toNat).length : Int)) (
 ∀ v6 : Value,
  iZ.sig.pre [.V v6, .Z ((z4.drop i1.toNat).take (iQ (fJ i2 0) ((z4.drop i1.toNat).length : Int)).toNat)] ∧ (
 ∀ i7 : Int,
  iZ.sig.post [.V v6, .Z ((z4.drop i1.toNat).take (iQ (fJ i2 0) ((z4.drop i1.toNat).length : Int)).toNat), .I i7] →
 U64 i7 →
  pU.sig.post [.I i0, .I i1, .I i2, .I i7]))))))))))
def Cut.Pure : Prop :=
 ∀ s0 : BA,
 ∀ i1 : Int,
 ((s0.size : Int) ≤ 9223372036854775807) →
 R64 i1 →
 Cut.sig.pre [.S s0, .I i1] →
 ((
 (i1 < (s0.size : Int)) →
 Im (0 ≤ i1) (
 Im (i1 ≤ (s0.size : Int)) (
  Cut.sig.post [.S s0, .I i1, .S (s0.extract (0 : Int).toNat i1.toNat)]))) ∧ (
 ((s0.size : Int) ≤ i1) →
  Cut.sig.post [.S s0, .I i1, .S s0]))
end Go.Vc
namespace Go.Vc
theorem m8 : ∀ i, i < 64 → bt 71777214294589695 i = decide (i / 8 % 2 = 0) := by decide
theorem m16 : ∀ i, i < 64 → bt 281470681808895 i = decide (i / 16 % 2 = 0) := by decide
theorem cR0 (v : Int) (hv : IntKind.u64.has v) (s m : Int) (n : Nat) (hs : s = n) (hm : ∀ i, i < 64 → bt m i = decide (i / n % 2 = 0)) (hn : n = 8 ∨ n = 16) (i : Nat) (hi : i < 64) :
  bt (Go.bits .or .u64 (Go.bits .and .u64 (aW .u64 v s) m) (fC .u64 (Go.bits .and .u64 v m) s)) i = bt v (if i / n % 2 = 0 then i + n else i - n) := by
 rw [zL .u64 _ _ hi, aN5 .u64 _ _ hi, bC2 _ hv, zM .u64 _ _ hi, hm i hi]
 have e : s.toNat = n := by omega
 rw [e]
 by_cases c : i / n % 2 = 0
 ·simp only [c, decide_true, Bool.and_true, if_true]
  have : ¬ n ≤ i ∨ (i - n) / n % 2 = 1 := by rcases hn with rfl | rfl <;> omega
  rcases this with h | h
  ·simp [h]
  ·by_cases h2 : n ≤ i
   ·rw [aN5 .u64 _ _ (show i - n < 64 by omega), hm _ (by omega)]; simp [h]
   ·simp [h2]
 ·have h1 : n ≤ i := by rcases hn with rfl | rfl <;> omega
  have h2 : (i - n) / n % 2 = 0 := by rcases hn with rfl | rfl <;> omega
  rw [aN5 .u64 _ _ (show i - n < 64 by omega), hm _ (by omega)]
  simp [c, h1, h2]
theorem Swap.pure : Swap.Pure := by
 intro i0 h1 h2
 have s1 := cR0 i0 (aL9 h1) 8 71777214294589695 8 rfl m8 (Or.inl rfl)
 generalize hv1 : Go.bits .or .u64 (Go.bits .and .u64 (aW .u64 i0 (8 : Int)) (71777214294589695 : Int)) (fC .u64 (Go.bits .and .u64 i0 (71777214294589695 : Int)) (8 : Int)) = v1 at s1 ⊢
 have hh1 : IntKind.u64.has v1 := by rw [← hv1]; exact bB6 _ _ _ _
 have s2 := cR0 v1 hh1 16 281470681808895 16 rfl m16 (Or.inr rfl)
 generalize hv2 : Go.bits .or .u64 (Go.bits .and .u64 (aW .u64 v1 (16 : Int)) (281470681808895 : Int)) (fC .u64 (Go.bits .and .u64 v1 (281470681808895 : Int)) (16 : Int)) = v2 at s2 ⊢
 have hh2 : IntKind.u64.has v2 := by rw [← hv2]; exact bB6 _ _ _ _
 show ∀ i, i < 64 → bt (Go.bits .or .u64 (aW .u64 v2 (32 : Int)) (fC .u64 v2 (32 : Int))) i = bt i0 (8 * (7 - i / 8) + i % 8)
 intro i hi
 rw [zL .u64 _ _ hi, bC2 _ hh2, zM .u64 _ _ hi]
 simp only [show (32 : Int).toNat = 32 from rfl]
 have key : ∀ j, j < 64 → bt v2 j = bt i0 (if (if j / 16 % 2 = 0 then j + 16 else j - 16) / 8 % 2 = 0 then (if j / 16 % 2 = 0 then j + 16 else j - 16) + 8 else (if j / 16 % 2 = 0 then j + 16 else j - 16) - 8) := by
  intro j hj
  rw [s2 j hj, s1 _ (by split <;> omega)]
 by_cases c : 32 ≤ i
 ·rw [bT8 hh2 (show 64 ≤ i + 32 by omega), key (i - 32) (by omega)]
  simp only [c, decide_true, Bool.true_and, Bool.false_or]
  congr 1
  repeat' split
  all_goals omega
 ·rw [key (i + 32) (by omega)]
  simp only [c, decide_false, Bool.false_and, Bool.or_false]
  congr 1
  repeat' split
  all_goals omega
theorem sS (v : Int) (n : Nat) : (bytesLE v n).length = n := by simp [bytesLE]
theorem aN7 (v : Int) (n : Nat) : ∀ x ∈ bytesLE v n, 0 ≤ x ∧ x < 256 := by
 intro x hx
 simp only [bytesLE, List.mem_map] at hx
 obtain ⟨j, _, rfl⟩ := hx
 omega
theorem aF2 (v : Int) (n : Nat) : bytesLE v (n + 1) = bytesLE v n ++ [v / 256 ^ n % 256] := by
 simp [bytesLE, List.range_succ]
theorem aJ2 (n : Nat) : (256 : Int) ^ n = 2 ^ (8 * n) := by
 rw [Int.pow_mul]; rfl
theorem dS1 (v : Int) {i : Int} (h0 : 0 ≤ i) (h1 : i < 8) : IntKind.u8.wrap (aW .u64 v (8 * i)) = v / 256 ^ i.toNat % 256 := by
 have hb : (8 * i).toNat ≤ 64 := by omega
 rw [IntKind.wrap_u8, aW, show Nat.min (8 * i).toNat IntKind.u64.bits = (8 * i).toNat from Nat.min_eq_left hb,
  Int.fdiv_eq_ediv_of_nonneg _ (Int.le_of_lt (oJ _)), aJ2, show (8 * i).toNat = 8 * i.toNat from by omega]
theorem bV0 (n : Int) : 0 ≤ clamp 0 8 n ∧ clamp 0 8 n ≤ 8 := by unfold clamp; split <;> (try split) <;> omega
theorem cZ6 (n : Int) : iQ (fJ n 0) 8 = clamp 0 8 n := by rw [aT3, aT2]; unfold clamp; split <;> (try split) <;> omega
theorem Bytes.pure : Bytes.Pure := by
 intro i0 i1 h1 h2 h3
 rw [cZ6]
 have hc := bV0 i1
 have hlr : (List.replicate (clamp 0 8 i1).toNat (0 : Int)).length = (clamp 0 8 i1).toNat := by simp
 refine ⟨?_, fun h4 => ?_⟩
 ·omega
 refine ⟨?_, fun h5 => ?_⟩
 ·omega
 intro v2
 refine ⟨?_, ?_⟩
 ·exact ⟨by omega, by omega, by simp, by simp [bytesLE]⟩
 intro i3 z4 h6 h7 h8
 have h8 : 0 ≤ i3 ∧ i3 ≤ clamp 0 8 i1 ∧ z4.length = (clamp 0 8 i1).toNat ∧ z4.take i3.toNat = bytesLE i0 i3.toNat := h8
 obtain ⟨a, b, c, d⟩ := h8
 refine ⟨?_, ?_⟩
 ·intro h9
  rw [aH (x := 8 * i3) (by omega) (by omega), aH (by omega) (by omega)]
  refine ⟨?_, fun h10 => ?_⟩
  ·omega
  refine ⟨?_, fun h11 => ?_⟩
  ·omega -- (0 : Int) ≤ i3
  refine ⟨?_, fun h12 => ?_⟩
  ·omega -- i3 < ((z4.length : Nat) : Int)
  refine ⟨?_, ?_⟩
  ·refine ⟨by omega, by omega, by rw [List.length_set]; exact c, ?_⟩
   rw [dS1 _ a (by omega), show (i3 + 1).toNat = i3.toNat + 1 from by omega, aF2, List.take_add_one, List.take_set_of_le (Nat.le_refl _), d]
   congr 1
   rw [List.getElem?_set_self (by omega)]; rfl
  ·show (clamp 0 8 i1 - (i3 + 1)).toNat < (clamp 0 8 i1 - i3).toNat
   omega
 ·intro h9
  show textOf z4 = textOf (bytesLE i0 (clamp 0 8 i1).toNat)
  rw [show (clamp 0 8 i1).toNat = i3.toNat from by omega, ← d, List.take_of_length_le (by omega)]
theorem xB (l : LI) : (textOf l).size = l.length := textOf_size l
theorem bE4 (v : Int) (n : Nat) : v / 256 ^ (n + 1) = v / 256 ^ n / 256 := by
 rw [Int.pow_succ, Int.ediv_ediv_of_nonneg]
 rw [aJ2]; exact Int.le_of_lt (oJ _)
theorem kF.pure : kF.Pure := by
 intro i0 i1 h1 h2 h3
 have hc := bV0 i1
 refine ⟨?_, ?_⟩
 ·exact ⟨by omega, by omega, by simp, rfl⟩
 intro i2 s3 i4 h4 h5 h6 h7
 have h7 : 0 ≤ i4 ∧ i4 ≤ clamp 0 8 i1 ∧ i2 = i0 / 256 ^ i4.toNat ∧ s3 = textOf (bytesLE i0 i4.toNat) := h7
 obtain ⟨a, b, c, d⟩ := h7
 have hend : (8 ≤ i4 ∨ i1 ≤ i4) → textOf (bytesLE i0 i4.toNat) = textOf (bytesLE i0 (clamp 0 8 i1).toNat) := by
  intro h
  have : clamp 0 8 i1 = i4 := by unfold clamp at *; split <;> (try split) <;> omega
  rw [this]
 refine ⟨?_, ?_⟩
 ·intro h8
  refine ⟨?_, ?_⟩
  ·intro h9 v5
   have e1 : wrap .u8 (Int.tmod i2 256) = i0 / 256 ^ i4.toNat % 256 := by
    rw [Int.tmod_eq_emod_of_nonneg h4.1, IntKind.wrap_u8, ← c]; omega
   have e2 : wrap .u64 (Int.tdiv i2 256) = i2 / 256 := by
    rw [Int.tdiv_eq_ediv_of_nonneg h4.1, eY (by omega) (by omega)]
   rw [e1, e2, aH (by omega) (by omega), d, xG, ← aF2]
   have hlt : i4 < clamp 0 8 i1 := by unfold clamp at *; split <;> (try split) <;> omega
   refine ⟨?_, fun h10 => ?_⟩
   ·rw [xB, sS]; omega
   refine ⟨?_, ?_⟩
   ·refine ⟨by omega, by omega, ?_, ?_⟩
    ·rw [show (i4 + 1).toNat = i4.toNat + 1 from by omega, bE4, c]
    ·rw [show (i4 + 1).toNat = i4.toNat + 1 from by omega]
   ·show (clamp 0 8 i1 - (i4 + 1)).toNat < (clamp 0 8 i1 - i4).toNat
    omega
  ·intro h9
   show s3 = textOf (bytesLE i0 (clamp 0 8 i1).toNat)
   rw [d]; exact hend (Or.inl h9)
 ·intro h8
  show s3 = textOf (bytesLE i0 (clamp 0 8 i1).toNat)
  rw [d]; exact hend (Or.inr h8)
end Go.Vc
namespace Go.Vc
theorem bT6 : ∀ {l : LI}, (∀ x ∈ l, 0 ≤ x ∧ x < 256) → ∀ i : Nat, bt (numOf l) i = bt (l.getD (i / 8) 0) (i % 8)
 | [], _, i => by simp [numOf, xP]
 | b :: l, h, i => by
  have hb := h b (by simp)
  have hl : ∀ x ∈ l, 0 ≤ x ∧ x < 256 := fun x hx => h x (by simp [hx])
  have e : numOf (b :: l) = b + numOf l * 2 ^ 8 := by simp only [numOf]; omega
  by_cases c : i < 8
  ·rw [e, wE _ _ c, show i / 8 = 0 from by omega, show i % 8 = i from by omega]; rfl
  ·rw [show i / 8 = (i - 8) / 8 + 1 from by omega, show i % 8 = (i - 8) % 8 from by omega, List.getD_cons_succ, ← bT6 hl]
   have e2 : numOf l = numOf (b :: l) / 2 ^ 8 := by rw [e]; simp only [show (2 : Int) ^ 8 = 256 from rfl]; omega
   rw [e2, zJ, show i - 8 + 8 = i from by omega]
theorem bU0 (v : Int) (n : Nat) {j : Nat} (h : j < n) : (bytesLE v n).getD j 0 = v / 256 ^ j % 256 := by simp [bytesLE, List.getD, h]
theorem bC0 (v : Int) (j i : Nat) (h : i < 8) : bt (v / 256 ^ j % 256) i = bt v (i + 8 * j) := by
 rw [show (256 : Int) = 2 ^ 8 from rfl, aE7 _ h, show ((2 : Int) ^ 8) ^ j = 2 ^ (8 * j) from (Int.pow_mul ..).symm, zJ]
theorem cS0 (b : Int) (l : LI) : textOf [b] ++ textOf l = textOf (b :: l) := by rw [xG]; rfl
theorem cD5 {l : LI} (h : oG l) (n : Nat) : oG (l.take n) := fun x hx => h x (List.mem_of_mem_take hx)
theorem cD4 {l : LI} (h : oG l) (n : Nat) : oG (l.drop n) := fun x hx => h x (List.mem_of_mem_drop hx)
theorem getD_take (l : LI) (n i : Nat) : (l.take n).getD i 0 = if i < n then l.getD i 0 else 0 := by
 simp only [List.getD]
 by_cases h : i < n
 ·rw [List.getElem?_take_of_lt h]; simp [h]
 ·rw [List.getElem?_eq_none (by rw [List.length_take]; omega)]; simp [h]
theorem getD_drop (l : LI) (n i : Nat) : (l.drop n).getD i 0 = l.getD (i + n) 0 := by
 simp only [List.getD, List.getElem?_drop, Nat.add_comm]
theorem cW9 (b : Bool) : (b2i b == 1) = b := by cases b <;> rfl
theorem pU.pure : pU.Pure := by
 intro i0 i1 i2 h1 h2 h3 h4
 refine ⟨?_, ?_⟩
 ·intro h5
  show ∀ i, i < 64 → bt 0 i = (decide (0 ≤ i1) && decide (i1 < 64) && decide ((i : Int) < i2) && bt i0 (i + i1.toNat))
  intro i hi
  have : ¬ 0 ≤ i1 := by omega
  simp [this, xP]
 ·intro h5
  refine ⟨?_, ?_⟩
  ·intro h6
   show ∀ i, i < 64 → bt 0 i = (decide (0 ≤ i1) && decide (i1 < 64) && decide ((i : Int) < i2) && bt i0 (i + i1.toNat))
   intro i hi
   have : ¬ i1 < 64 := by omega
   simp [this, xP]
  ·intro h6
   refine ⟨?_, ?_⟩
   ·trivial -- pre [(D.I i0)]
   intro v3 z4 h7 h8
   have h7 : z4 = bitsOf i0 := h7
   have hl : z4.length = 64 := by rw [h7, bB5]
   have h01 : oG z4 := by rw [h7]; exact cX8 _
   have hd : (z4.drop i1.toNat).length = 64 - i1.toNat := by rw [List.length_drop, hl]
   rw [aT3, aT2]
   refine ⟨?_, fun h9 => ?_⟩
   ·omega
   refine ⟨?_, fun h10 => ?_⟩
   ·omega
   intro v5
   refine ⟨?_, fun h11 => ?_⟩
   ·omega
   refine ⟨?_, fun h12 => ?_⟩
   ·omega
   intro v6
   refine ⟨?_, ?_⟩
   ·exact ⟨by rw [List.length_take]; omega, cD5 (cD4 h01 _) _⟩
   intro i7 h13 h14
   have h13 : i7 = valueOf ((z4.drop i1.toNat).take (min (max i2 0) ((z4.drop i1.toNat).length : Int)).toNat) := h13
   show ∀ i, i < 64 → bt i7 i = (decide (0 ≤ i1) && decide (i1 < 64) && decide ((i : Int) < i2) && bt i0 (i + i1.toNat))
   intro i hi
   rw [h13, cT9 (cD5 (cD4 h01 _) _), getD_take, getD_drop, hd]
   have e0 : 0 ≤ i1 := by omega
   have e1 : i1 < 64 := by omega
   by_cases c : (i : Int) < i2
   ·by_cases d : i + i1.toNat < 64
    ·rw [if_pos (by omega), h7, cX9 _ d, cW9]; simp [c, e0, e1]
    ·rw [if_neg (by omega), bT8 (aL9 h1) (by omega)]; simp
   ·rw [if_neg (by omega)]; simp [c]
theorem Cut.pure : Cut.Pure := by
 intro s0 i1 h1 h2 h3
 have h3 : 0 ≤ i1 := h3
 refine ⟨?_, ?_⟩
 ·intro h4
  refine ⟨?_, fun h5 => ?_⟩
  ·omega -- (0 : Int) ≤ i1
  refine ⟨?_, fun h6 => ?_⟩
  ·omega -- i1 ≤ ((s0.size : Nat) : Int)
  show s0.extract (0 : Int).toNat i1.toNat = if (s0.size : Int) > i1 then s0.extract 0 i1.toNat else s0
  rw [if_pos (by omega)]; rfl
 ·intro h4
  show s0 = if (s0.size : Int) > i1 then s0.extract 0 i1.toNat else s0
  rw [if_neg (by omega)]
end Go.Vc
namespace Go.Vc
end Go.Vc