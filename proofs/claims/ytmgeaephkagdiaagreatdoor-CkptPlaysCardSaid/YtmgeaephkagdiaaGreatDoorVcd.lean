/-
 Bits of whole numbers: plain laws, with no program in sight.
 Contracts, written short.
 Conditions made short, and read as plain statements.
 Texts as lists of bytes: plain laws.
 From a law's contract to its walk.
 Contracts whose words are parts of others: many words as one.
-/
import Derived.Test.YtmgeaephkagdiaaGreatDoorVce
import Derived.Laws.Closers25b
set_option linter.unusedVariables false
set_option linter.unusedSimpArgs false
namespace Go.Vc
def bt (v : Int) (i : Nat) : Bool := decide (v / 2 ^ i % 2 = 1)
theorem bt_nat (n i : Nat) : bt (n : Int) i = n.testBit i := by
 rw [bt, Nat.testBit_eq_decide_div_mod_eq]
 congr 1
 have h : ((n : Int) / 2 ^ i % 2) = ((n / 2 ^ i % 2 : Nat) : Int) := by simp
 rw [h]
 apply propext
 omega
theorem bt_toNat {v : Int} (h : 0 ≤ v) (i : Nat) : bt v i = v.toNat.testBit i := by
 obtain ⟨n, rfl⟩ := Int.eq_ofNat_of_zero_le h
 exact bt_nat n i
theorem pow_pos' (n : Nat) : (0 : Int) < 2 ^ n := Int.pow_pos (by decide)
theorem ediv_add_mul (a m : Int) {i w : Nat} (h : i < w) : ∃ q : Int, (a + m * 2 ^ w) / 2 ^ i = a / 2 ^ i + 2 * q := by
 refine ⟨m * 2 ^ (w - i - 1), ?_⟩
 have e : m * 2 ^ w = (2 * (m * 2 ^ (w - i - 1))) * 2 ^ i := by
  have h2 : w = 1 + (w - i - 1) + i := by omega
  rw [h2, Int.pow_add, Int.pow_add, show 1 + (w - i - 1) + i - i - 1 = w - i - 1 from by omega]
  have h3 : (2 : Int) ^ 1 = 2 := rfl
  rw [h3, ← Int.mul_assoc, ← Int.mul_assoc, Int.mul_comm m 2, Int.mul_assoc 2 m]
 rw [e, Int.add_mul_ediv_right _ _ (Int.ne_of_gt (pow_pos' i))]
theorem bt_add_mul (a m : Int) {i w : Nat} (h : i < w) : bt (a + m * 2 ^ w) i = bt a i := by
 obtain ⟨q, e⟩ := ediv_add_mul a m h
 simp only [bt, e]
 congr 1
 apply propext
 omega
theorem bt_emod (a : Int) {i w : Nat} (h : i < w) : bt (a % 2 ^ w) i = bt a i := by
 have e : a % 2 ^ w = a + (-(a / 2 ^ w)) * 2 ^ w := by
  have := Int.mul_ediv_add_emod a (2 ^ w)
  rw [Int.neg_mul, Int.mul_comm (a / 2 ^ w)]
  omega
 rw [e, bt_add_mul _ _ h]
theorem bt_wrap (k : IntKind) (a : Int) {i : Nat} (h : i < k.bits) : bt (k.wrap a) i = bt a i := by
 simp only [IntKind.wrap]
 split
 ·have e : a % 2 ^ k.bits - 2 ^ k.bits = a % 2 ^ k.bits + (-1) * 2 ^ k.bits := by omega
  rw [e, bt_add_mul _ _ h, bt_emod _ h]
 ·exact bt_emod _ h
theorem bt_ofInt (w : Nat) (v : Int) (i : Nat) : (BitVec.ofInt w v).getLsbD i = (decide (i < w) && bt v i) := by
 by_cases h : i < w
 ·rw [← bt_emod v h]
  have hp : 0 ≤ v % 2 ^ w := Int.emod_nonneg _ (Int.ne_of_gt (pow_pos' w))
  rw [bt_toNat hp, BitVec.getLsbD, BitVec.toNat_ofInt]
  simp [h]
 ·simp [h, BitVec.getLsbD_of_ge, Nat.le_of_not_lt h]
theorem bt_bv {w : Nat} (x : BitVec w) (i : Nat) : bt (x.toNat : Int) i = x.getLsbD i := bt_nat _ _
theorem bt_and (k : IntKind) (a b : Int) {i : Nat} (h : i < k.bits) : bt (Go.bits .and k a b) i = (bt a i && bt b i) := by
 simp only [Go.bits]
 rw [bt_wrap k _ h, bt_bv, BitVec.getLsbD_and, bt_ofInt, bt_ofInt]; simp [h]
theorem bt_or (k : IntKind) (a b : Int) {i : Nat} (h : i < k.bits) : bt (Go.bits .or k a b) i = (bt a i || bt b i) := by
 simp only [Go.bits]
 rw [bt_wrap k _ h, bt_bv, BitVec.getLsbD_or, bt_ofInt, bt_ofInt]; simp [h]
theorem bt_mul_pow (a : Int) (n i : Nat) : bt (a * 2 ^ n) i = (decide (n ≤ i) && bt a (i - n)) := by
 by_cases h : n ≤ i
 ·obtain ⟨m, rfl⟩ := Nat.exists_eq_add_of_le h
  simp only [bt, h, decide_true, Bool.true_and, Nat.add_sub_cancel_left]
  rw [Int.pow_add, Int.mul_comm a, Int.mul_ediv_mul_of_pos _ _ (pow_pos' n)]
 ·have h' : i < n := by omega
  simp only [h, decide_false, Bool.false_and]
  have := bt_add_mul 0 a h'
  rw [Int.zero_add] at this
  rw [this]; simp [bt]
theorem bt_ediv_pow (a : Int) (n i : Nat) : bt (a / 2 ^ n) i = bt a (i + n) := by
 simp only [bt]
 rw [Int.ediv_ediv_of_nonneg (Int.le_of_lt (pow_pos' n)), ← Int.pow_add, Nat.add_comm]
theorem bt_shl (k : IntKind) (a b : Int) {i : Nat} (h : i < k.bits) : bt (shlI k a b) i = (decide (b.toNat ≤ i) && bt a (i - b.toNat)) := by
 rw [shlI, bt_wrap k _ h, bt_mul_pow]
 by_cases hb : b.toNat ≤ k.bits
 ·rw [show Nat.min b.toNat k.bits = b.toNat from Nat.min_eq_left hb]
 ·have e : Nat.min b.toNat k.bits = k.bits := Nat.min_eq_right (by omega)
  rw [e, decide_eq_false (by omega : ¬ k.bits ≤ i), decide_eq_false (by omega : ¬ b.toNat ≤ i)]; simp
theorem bt_of_lt {v : Int} {w i : Nat} (h0 : 0 ≤ v) (h1 : v < 2 ^ w) (hi : w ≤ i) : bt v i = false := by
 rw [bt_toNat h0]
 apply Nat.testBit_lt_two_pow
 have : v.toNat < 2 ^ w := by
  have : (v.toNat : Int) < ((2 ^ w : Nat) : Int) := by rw [Int.toNat_of_nonneg h0]; simpa using h1
  omega
 exact Nat.lt_of_lt_of_le this (Nat.pow_le_pow_right (by decide) hi)
theorem u64_has (v : Int) : IntKind.u64.has v ↔ 0 ≤ v ∧ v < 2 ^ 64 := by
 simp only [IntKind.has, IntKind.min, IntKind.max, IntKind.signed, IntKind.bits]
 constructor <;> rintro ⟨h1, h2⟩ <;> constructor <;> simp at * <;> omega
theorem u8_has (v : Int) : IntKind.u8.has v ↔ 0 ≤ v ∧ v < 256 := by
 simp only [IntKind.has, IntKind.min, IntKind.max, IntKind.signed, IntKind.bits]
 constructor <;> rintro ⟨h1, h2⟩ <;> constructor <;> simp at * <;> omega
theorem bt_shr_u64 {a : Int} (b : Int) {i : Nat} (ha : IntKind.u64.has a) : bt (shrI .u64 a b) i = bt a (i + b.toNat) := by
 have ⟨h0, h1⟩ := (u64_has a).1 ha
 rw [shrI, Int.fdiv_eq_ediv_of_nonneg _ (Int.le_of_lt (pow_pos' _)), bt_ediv_pow]
 by_cases hb : b.toNat ≤ 64
 ·rw [show Nat.min b.toNat IntKind.u64.bits = b.toNat from Nat.min_eq_left hb]
 ·rw [show Nat.min b.toNat IntKind.u64.bits = 64 from Nat.min_eq_right (by simp [IntKind.bits]; omega)]
  rw [bt_of_lt h0 h1 (by omega), bt_of_lt h0 h1 (by omega)]
theorem bt_u64_ge {v : Int} (h : IntKind.u64.has v) {i : Nat} (hi : 64 ≤ i) : bt v i = false :=
 bt_of_lt ((u64_has v).1 h).1 ((u64_has v).1 h).2 hi
theorem eq_of_bt {w : Nat} {a b : Int} (ha : 0 ≤ a) (ha1 : a < 2 ^ w) (hb : 0 ≤ b) (hb1 : b < 2 ^ w) (h : ∀ i, i < w → bt a i = bt b i) : a = b := by
 have e : a.toNat = b.toNat := by
  apply Nat.eq_of_testBit_eq
  intro i
  rw [← bt_toNat ha, ← bt_toNat hb]
  by_cases hi : i < w
  ·exact h i hi
  ·rw [bt_of_lt ha ha1 (by omega), bt_of_lt hb hb1 (by omega)]
 omega
theorem eq_u64 {a b : Int} (ha : IntKind.u64.has a) (hb : IntKind.u64.has b) (h : ∀ i, i < 64 → bt a i = bt b i) : a = b :=
 eq_of_bt ((u64_has a).1 ha).1 ((u64_has a).1 ha).2 ((u64_has b).1 hb).1 ((u64_has b).1 hb).2 h
theorem bt_mask (n i : Nat) : bt (2 ^ n - 1) i = decide (i < n) := by
 have e : ((2 : Int) ^ n - 1) = ((2 ^ n - 1 : Nat) : Int) := by
  have : 0 < 2 ^ n := Nat.two_pow_pos n
  rw [Int.natCast_sub this]; simp
 rw [e, bt_nat, Nat.testBit_two_pow_sub_one]
theorem bt_zero (i : Nat) : bt 0 i = false := by simp [bt]
theorem wrap_u64_eq {v : Int} (h0 : 0 ≤ v) (h1 : v < 18446744073709551616) : IntKind.u64.wrap v = v := by
 rw [IntKind.wrap_u64]; omega
theorem shl_one (n : Int) (h0 : 0 ≤ n) (h1 : n < 64) : shlI .u64 1 n = 2 ^ n.toNat := by
 rw [shlI, show Nat.min n.toNat IntKind.u64.bits = n.toNat from Nat.min_eq_left (by simp [IntKind.bits]; omega), Int.one_mul]
 apply wrap_u64_eq (Int.le_of_lt (pow_pos' _))
 have : (2 : Int) ^ n.toNat < 2 ^ 64 := Int.pow_lt_pow_of_lt (by decide) (by omega)
 simpa using this
end Go.Vc
namespace Go.Vc
inductive AK where
 | i (k : IntKind) | b | s | z (k : IntKind) | l (ek : EK) | a (k : IntKind) (n : Nat)
def AK.sv (n : Nat) : AK → SV
 | .i k => .one (.lf (.int k (.at n)))
 | .b => .one (.lf (.bool (.at n)))
 | .s => .one (.lf (.str (.at n)))
 | .z _ => .one (.lf (.sl (.at n)))
 | .l _ => .one (.lf (.sl (.at n)))
 | .a k m => .one (.agg [.ints k m (.at n)])
def AK.srts : AK → List Srt
 | .i _ => [.I] | .b => [.B] | .s => [.S] | .z _ => [.V, .Z] | .l _ => [.V, .L] | .a _ _ => [.Z]
def AK.chs (own : Bool) (n : Nat) : AK → List Ch
 | .z k => [if own then .osl (.at n) [.int k] (.at (n + 1)) else .rsl (.at n) [.int k] (.at (n + 1))]
 | .l ek => (if own then .osl (.at n) ek (.at (n + 1)) else .rsl (.at n) ek (.at (n + 1))) :: (if flatEK ek then [] else [.abs (.deep ek) [.at (n + 1)]])
 | _ => []
def svsOf : Nat → List AK → List SV
 | _, [] => []
 | n, a :: r => a.sv n :: svsOf (n + a.srts.length) r
def chsOf (own : Bool) : Nat → List AK → List Ch
 | _, [] => []
 | n, a :: r => a.chs own n ++ chsOf own (n + a.srts.length) r
def srtsOf : List AK → List Srt
 | [] => []
 | a :: r => a.srts ++ srtsOf r
def resOf : List SV → SV
 | [x] => x
 | xs => .tup (xs.map fun x => match x with | .one y => y | _ => .lf .junk)
def sigF (as rs : List AK) (pre post : List D → Prop) : Sig :=
 { args := svsOf 0 as, heap := chsOf false 0 as, srts := srtsOf as, res := resOf (svsOf (srtsOf as).length rs), heap' := chsOf true (srtsOf as).length rs, news := srtsOf rs, pre := pre, post := post }
theorem wrap_has (k : IntKind) (n : Int) : k.has (k.wrap n) := wrap_within k n
theorem bits_has (o : BinOp) (k : IntKind) (a b : Int) : k.has (Go.bits o k a b) := bits_within o k a b
end Go.Vc
namespace Go.Vc
def VC.tidy (n : Nat) (K : List Tm) : VC → VC
 | .tt => .tt
 | .and a b => .and (a.tidy n K) (b.tidy n K)
 | .imp t p k => if p && t.under n then (if K.contains t then k.tidy n K else .imp t p (k.tidy n (t :: K))) else .imp t p (k.tidy n K)
 | .obl t k => if K.contains t then k.tidy n K else if t.under n then .obl t (k.tidy n (t :: K)) else .obl t (k.tidy n K)
 | .all s k => .all s (k.tidy (n + 1) K)
 | .know f k => .know f (k.tidy n K)
 | .pre c ts k => .pre c ts (k.tidy n K)
 | .post c ts k => .post c ts (k.tidy n K)
 | .inv j ts k => .inv j ts (k.tidy n K)
 | .asm j ts k => .asm j ts (k.tidy n K)
 | .back j a b => .back j a b
 | .ret ts => .ret ts
 | .cut m k => .cut m (k.tidy (min m n) [])
def knownOk (ρ : List D) (K : List Tm) : Prop := ∀ t ∈ K, t.under ρ.length = true ∧ (t.den ρ).toB = true
theorem knownOk.ext {ρ : List D} {K : List Tm} (h : knownOk ρ K) (d : D) : knownOk (ρ ++ [d]) K := by
 intro t ht
 obtain ⟨h1, h2⟩ := h t ht
 exact ⟨Tm.under_mono h1 (by simp), by rw [Tm.den_below h1]; exact h2⟩
theorem knownOk.cons {ρ : List D} {K : List Tm} {t : Tm} (h : knownOk ρ K) (h1 : t.under ρ.length = true) (h2 : (t.den ρ).toB = true) : knownOk ρ (t :: K) := by
 intro u hu
 rcases List.mem_cons.1 hu with rfl | hu
 ·exact ⟨h1, h2⟩
 ·exact h u hu
theorem tidy_sound {E : Env} : ∀ {v : VC} {ρ : List D} {K : List Tm}, knownOk ρ K → (v.tidy ρ.length K).den E ρ → v.den E ρ
 | .tt, _, _, _, _ => trivial
 | .and a b, ρ, K, hK, h => ⟨tidy_sound hK h.1, tidy_sound hK h.2⟩
 | .imp t p k, ρ, K, hK, h => by
  intro ht
  simp only [VC.tidy] at h
  split at h
  ·rename_i c
   simp only [Bool.and_eq_true] at c
   obtain ⟨rfl, c2⟩ := c
   split at h
   ·exact tidy_sound hK h
   ·exact tidy_sound (hK.cons c2 ht) (h ht)
  ·exact tidy_sound hK (h ht)
 | .obl t k, ρ, K, hK, h => by
  simp only [VC.tidy] at h
  split at h
  ·rename_i c
   have hm : t ∈ K := by simpa using c
   exact ⟨(hK t hm).2, fun _ => tidy_sound hK h⟩
  ·split at h
   ·rename_i c
    exact ⟨h.1, fun ht => tidy_sound (hK.cons c ht) (h.2 ht)⟩
   ·exact ⟨h.1, fun ht => tidy_sound hK (h.2 ht)⟩
 | .all s k, ρ, K, hK, h => by
  have e : ∀ d : D, (ρ ++ [d]).length = ρ.length + 1 := fun d => by simp
  cases s <;> (intro x; exact tidy_sound (hK.ext _) (by rw [e]; exact h x))
 | .know f k, ρ, K, hK, h => fun hf => tidy_sound hK (h hf)
 | .pre c ts k, ρ, K, hK, h => ⟨h.1, tidy_sound hK h.2⟩
 | .post c ts k, ρ, K, hK, h => fun hp => tidy_sound hK (h hp)
 | .inv j ts k, ρ, K, hK, h => ⟨h.1, tidy_sound hK h.2⟩
 | .asm j ts k, ρ, K, hK, h => fun hp => tidy_sound hK (h hp)
 | .back j a b, _, _, _, h => h
 | .ret ts, _, _, _, h => h
 | .cut m k, ρ, K, hK, h => by
  show k.den E (ρ.take m)
  exact tidy_sound (ρ := ρ.take m) (K := []) (fun t ht => by cases ht) (by rw [List.length_take]; exact h)
mutual
def Tm.yes (ρ : List D) : Tm → Prop
 | .o2 .lt a b => (a.den ρ).toI < (b.den ρ).toI
 | .o2 .le a b => (a.den ρ).toI ≤ (b.den ρ).toI
 | .o2 .eq a b => (a.den ρ).toI = (b.den ρ).toI
 | .o2 .eqb a b => (a.den ρ).toB = (b.den ρ).toB
 | .o2 .eqs a b => (a.den ρ).toS = (b.den ρ).toS
 | .o2 .and a b => a.yes ρ ∧ b.yes ρ
 | .o2 .or a b => a.yes ρ ∨ b.yes ρ
 | .o1 .not a => a.no ρ
 | t => (t.den ρ).toB = true
def Tm.no (ρ : List D) : Tm → Prop
 | .o2 .lt a b => (b.den ρ).toI ≤ (a.den ρ).toI
 | .o2 .le a b => (b.den ρ).toI < (a.den ρ).toI
 | .o2 .eq a b => (a.den ρ).toI ≠ (b.den ρ).toI
 | .o2 .eqb a b => (a.den ρ).toB ≠ (b.den ρ).toB
 | .o2 .eqs a b => (a.den ρ).toS ≠ (b.den ρ).toS
 | .o2 .and a b => a.no ρ ∨ b.no ρ
 | .o2 .or a b => a.no ρ ∧ b.no ρ
 | .o1 .not a => a.yes ρ
 | t => (t.den ρ).toB = false
end
theorem bytes_eq {a b : ByteArray} : (a.toList == b.toList) = true ↔ a = b := by
 rw [beq_iff_eq]
 constructor
 ·intro h
  rw [ByteArray.toList_eq, ByteArray.toList_eq] at h
  cases a; cases b
  simp at h
  simp [h]
 ·rintro rfl; rfl
theorem yes_no {ρ : List D} : ∀ (t : Tm), (t.yes ρ ↔ (t.den ρ).toB = true) ∧ (t.no ρ ↔ (t.den ρ).toB = false)
 | .at _ => ⟨Iff.rfl, Iff.rfl⟩
 | .int _ => ⟨Iff.rfl, Iff.rfl⟩
 | .bool _ => ⟨Iff.rfl, Iff.rfl⟩
 | .str _ => ⟨Iff.rfl, Iff.rfl⟩
 | .nat _ => ⟨Iff.rfl, Iff.rfl⟩
 | .lis _ => ⟨Iff.rfl, Iff.rfl⟩
 | .lnil => ⟨Iff.rfl, Iff.rfl⟩
 | .o1 o a => by
  have h := yes_no (ρ := ρ) a
  cases o <;> first | exact ⟨Iff.rfl, Iff.rfl⟩ | skip
  constructor
  ·simp only [Tm.yes, Tm.den, O1.den, D.toB_B, h.2, Bool.not_eq_true']
  ·simp only [Tm.no, Tm.den, O1.den, D.toB_B, h.1, Bool.not_eq_false']
 | .o2 o a b => by
  have h := yes_no (ρ := ρ) a
  have h' := yes_no (ρ := ρ) b
  cases o <;> first | exact ⟨Iff.rfl, Iff.rfl⟩ | skip
  ·constructor <;> simp [Tm.yes, Tm.no, Tm.den, O2.den]
  ·constructor <;> simp [Tm.yes, Tm.no, Tm.den, O2.den]
  ·constructor <;> simp [Tm.yes, Tm.no, Tm.den, O2.den]
  ·constructor <;> simp [Tm.yes, Tm.no, Tm.den, O2.den]
  ·constructor
   ·simp only [Tm.yes, Tm.den, O2.den, D.toB_B]; exact bytes_eq.symm
   ·simp only [Tm.no, Tm.den, O2.den, D.toB_B]
    rw [← Bool.not_eq_true]
    exact not_congr bytes_eq.symm
  ·constructor
   ·simp only [Tm.yes, Tm.den, O2.den, D.toB_B, h.1, h'.1, Bool.and_eq_true]
   ·simp only [Tm.no, Tm.den, O2.den, D.toB_B, h.2, h'.2, Bool.and_eq_false_iff]
  ·constructor
   ·simp only [Tm.yes, Tm.den, O2.den, D.toB_B, h.1, h'.1, Bool.or_eq_true]
   ·simp only [Tm.no, Tm.den, O2.den, D.toB_B, h.2, h'.2, Bool.or_eq_false_iff]
 | .o3 _ _ _ _ => ⟨Iff.rfl, Iff.rfl⟩
def IntKind.in_ (k : IntKind) (x : Int) : Prop :=
 match k with
 | .u8 => 0 ≤ x ∧ x < 256
 | .u16 => 0 ≤ x ∧ x < 65536
 | .u32 => 0 ≤ x ∧ x < 4294967296
 | .u64 => 0 ≤ x ∧ x < 18446744073709551616
 | .i8 => -128 ≤ x ∧ x < 128
 | .i16 => -32768 ≤ x ∧ x < 32768
 | .i32 => -2147483648 ≤ x ∧ x < 2147483648
 | .i64 => -9223372036854775808 ≤ x ∧ x < 9223372036854775808
theorem has_in {k : IntKind} {x : Int} : k.has x ↔ IntKind.in_ k x := by
 cases k <;> simp only [IntKind.has, IntKind.in_, IntKind.min, IntKind.max, IntKind.signed, IntKind.bits] <;> constructor <;> rintro ⟨h1, h2⟩ <;> constructor <;> simp at * <;> omega
def Fact.den2 (ρ : List D) : Fact → Prop
 | .has .u8 t => 0 ≤ (t.den ρ).toI ∧ (t.den ρ).toI < 256
 | .has .u16 t => 0 ≤ (t.den ρ).toI ∧ (t.den ρ).toI < 65536
 | .has .u32 t => 0 ≤ (t.den ρ).toI ∧ (t.den ρ).toI < 4294967296
 | .has .u64 t => 0 ≤ (t.den ρ).toI ∧ (t.den ρ).toI < 18446744073709551616
 | .has .i8 t => -128 ≤ (t.den ρ).toI ∧ (t.den ρ).toI < 128
 | .has .i16 t => -32768 ≤ (t.den ρ).toI ∧ (t.den ρ).toI < 32768
 | .has .i32 t => -2147483648 ≤ (t.den ρ).toI ∧ (t.den ρ).toI < 2147483648
 | .has .i64 t => -9223372036854775808 ≤ (t.den ρ).toI ∧ (t.den ρ).toI < 9223372036854775808
 | .ssz t => ((t.den ρ).toS.size : Int) ≤ 9223372036854775807
 | f => f.den ρ
theorem fact2 {ρ : List D} {f : Fact} (h : f.den ρ) : f.den2 ρ := by
 cases f with
 | has k t => cases k <;> exact has_in.1 h
 | _ => exact h
def VC.den2 (E : Env) : VC → List D → Prop
 | .tt, _ => True
 | .and a b, ρ => a.den2 E ρ ∧ b.den2 E ρ
 | .imp t true k, ρ => t.yes ρ → k.den2 E ρ
 | .imp t false k, ρ => t.no ρ → k.den2 E ρ
 | .obl t k, ρ => t.yes ρ ∧ (t.yes ρ → k.den2 E ρ)
 | .all .I c, ρ => ∀ x : Int, c.den2 E (ρ ++ [.I x])
 | .all .B c, ρ => ∀ x : Bool, c.den2 E (ρ ++ [.B x])
 | .all .S c, ρ => ∀ x : ByteArray, c.den2 E (ρ ++ [.S x])
 | .all .Z c, ρ => ∀ x : List Int, c.den2 E (ρ ++ [.Z x])
 | .all .L c, ρ => ∀ x : List D, c.den2 E (ρ ++ [.L x])
 | .all .N c, ρ => ∀ x : Nat, c.den2 E (ρ ++ [.N x])
 | .all .V c, ρ => ∀ x : Value, c.den2 E (ρ ++ [.V x])
 | .know f k, ρ => f.den2 ρ → k.den2 E ρ
 | .pre c ts k, ρ => E.pre c (ts.map (Tm.den ρ)) ∧ k.den2 E ρ
 | .post c ts k, ρ => E.post c (ts.map (Tm.den ρ)) → k.den2 E ρ
 | .inv j ts k, ρ => E.inv j (ts.map (Tm.den ρ)) ∧ k.den2 E ρ
 | .asm j ts k, ρ => E.inv j (ts.map (Tm.den ρ)) → k.den2 E ρ
 | .back j old new, ρ => E.inv j (new.map (Tm.den ρ)) ∧ E.meas j (new.map (Tm.den ρ)) < E.meas j (old.map (Tm.den ρ))
 | .ret ts, ρ => E.ret (ts.map (Tm.den ρ))
 | .cut n k, ρ => k.den2 E (ρ.take n)
theorem den2_den {E : Env} : ∀ {v : VC} {ρ : List D}, v.den2 E ρ → v.den E ρ
 | .tt, _, _ => trivial
 | .and a b, ρ, h => ⟨den2_den h.1, den2_den h.2⟩
 | .imp t true k, ρ, h => fun ht => den2_den (h ((yes_no t).1.2 ht))
 | .imp t false k, ρ, h => fun ht => den2_den (h ((yes_no t).2.2 ht))
 | .obl t k, ρ, h => ⟨(yes_no t).1.1 h.1, fun ht => den2_den (h.2 ((yes_no t).1.2 ht))⟩
 | .all s k, ρ, h => by cases s <;> exact fun x => den2_den (h x)
 | .know f k, ρ, h => fun hf => den2_den (h (fact2 hf))
 | .pre c ts k, ρ, h => ⟨h.1, den2_den h.2⟩
 | .post c ts k, ρ, h => fun hp => den2_den (h hp)
 | .inv j ts k, ρ, h => ⟨h.1, den2_den h.2⟩
 | .asm j ts k, ρ, h => fun hp => den2_den (h hp)
 | .back j a b, _, h => h
 | .ret ts, _, h => h
 | .cut n k, ρ, h => den2_den (v := k) h
def vcOf' (cx : Cx) : M := match vcOf cx with | .ok v => .ok (v.tidy 0 []) | .error e => .error e
theorem keeps {cx : Cx} {vc : VC} {f : FuncId} {own : Sig} {l : List (FuncId × Sig)} {invs : List ((List D → Prop) × (List D → Nat))} (hm : cx.P.follows .mixedOrders = true) (hf : cx.P.funcs[f]? = some cx.fn)
  (hname : (cx.fn.name == "runtime.NumGoroutine") = false) (hown : own.toSigR = cx.own) (hs : cx.sigs = sigsOf 1 l) (hl : ∀ x ∈ l, Kept cx.P cx.G x.1 x.2) (h : vcOf' cx = .ok vc)
  (hd : vc.den2 (mkEnv own (l.map (·.2)) invs) []) (hlen : l.length < 199) : Kept cx.P cx.G f own := by
 unfold vcOf' at h
 split at h
 ·rename_i v hv
  cases h
  exact kept_of hm hf hname hown hs hl hv (tidy_sound (ρ := []) (K := []) (fun t ht => by cases ht) (den2_den hd)) hlen
 ·cases h
def VC.isTt : VC → Bool
 | .tt => true
 | _ => false
def bare : Tm → Bool → Tm × Bool
 | .o1 .not t, p => bare t (!p)
 | t, p => (t, p)
def toldN : Tm → Option Bool
 | .o2 .eq (.int a) (.int b) => some (a == b)
 | .o2 .lt (.int a) (.int b) => some (decide (a < b))
 | .o2 .le (.int a) (.int b) => some (decide (a ≤ b))
 | _ => none
theorem toldN_ok {ρ : List D} {t : Tm} {b : Bool} (h : toldN t = some b) : (t.den ρ).toB = b := by
 unfold toldN at h
 split at h <;> first | (cases h; rfl) | cases h
def toldB (K : List (Tm × Bool)) (x : Tm × Bool) : Option Bool :=
 if toldN x.1 = some x.2 then some true else if toldN x.1 = some (!x.2) then some false else if x.1 = .bool x.2 then some true else if x.1 = .bool (!x.2) then some false else if K.contains x then some true else if K.contains (x.1, !x.2) then some false else none
def addB (n : Nat) (x : Tm × Bool) (K : List (Tm × Bool)) : List (Tm × Bool) := if x.1.under n then x :: K else K
def VC.mk (c : VC → VC) (v : VC) : VC := if v.isTt then .tt else c v
def VC.mkAnd (a b : VC) : VC := if a.isTt then b else if b.isTt then a else .and a b
def VC.slim (n : Nat) (K : List (Tm × Bool)) : VC → VC
 | .tt => .tt
 | .and a b => VC.mkAnd (a.slim n K) (b.slim n K)
 | .imp t p k => match toldB K (bare t p) with
  | some true => k.slim n K
  | some false => .tt
  | none => VC.mk (.imp t p) (k.slim n (addB n (bare t p) K))
 | .obl t k => match toldB K (bare t true) with
  | some true => k.slim n K
  | _ => .obl t (k.slim n (addB n (bare t true) K))
 | .all s k => VC.mk (.all s) (k.slim (n + 1) K)
 | .know f k => VC.mk (.know f) (k.slim n K)
 | .pre c ts k => .pre c ts (k.slim n K)
 | .post c ts k => VC.mk (.post c ts) (k.slim n K)
 | .inv j ts k => .inv j ts (k.slim n K)
 | .asm j ts k => VC.mk (.asm j ts) (k.slim n K)
 | .back j a b => .back j a b
 | .ret ts => .ret ts
 | .cut m k => .cut m (k.slim (min m n) [])
theorem bare_den {ρ : List D} : ∀ (t : Tm) (p : Bool), ((bare t p).1.den ρ).toB = (bare t p).2 ↔ (t.den ρ).toB = p
 | .o1 .not t, p => by
  rw [bare, bare_den t (!p)]
  show _ ↔ (!(t.den ρ).toB) = p
  cases (t.den ρ).toB <;> cases p <;> simp
 | .o1 (.wrap _) _, _ | .o1 .slen _, _ | .o1 .lilen _, _ | .o1 .llen _, _ | .o1 .ofLi _, _ | .o1 .toLi _, _ | .o1 .asI _, _ | .o1 .asB _, _ | .o1 .asS _, _ | .o1 .asZ _, _ | .o1 .asL _, _ | .o1 .asV _, _ | .o1 .asN _, _ => Iff.rfl
 | .at _, _ | .int _, _ | .bool _, _ | .str _, _ | .nat _, _ | .lis _, _ | .lnil, _ | .o2 _ _ _, _ | .o3 _ _ _ _, _ => Iff.rfl
def toldOk (ρ : List D) (K : List (Tm × Bool)) : Prop := ∀ x ∈ K, x.1.under ρ.length = true ∧ (x.1.den ρ).toB = x.2
theorem toldB_ok {ρ : List D} {K : List (Tm × Bool)} {x : Tm × Bool} {b : Bool} (hK : toldOk ρ K) (h : toldB K x = some b) : decide ((x.1.den ρ).toB = x.2) = b := by
 unfold toldB at h
 split at h
 ·rename_i c; cases h; simp [toldN_ok (ρ := ρ) c]
 split at h
 ·rename_i c; cases h; rw [toldN_ok (ρ := ρ) c]; cases x.2 <;> rfl
 split at h
 ·rename_i c; cases h; rw [c]; simp [Tm.den]
 ·split at h
  ·rename_i c; cases h; rw [c]; simp [Tm.den]
  ·split at h
   ·rename_i c; cases h; simpa using (hK x (by simpa using c)).2
   ·split at h
    ·rename_i c
     cases h
     have h1 : (x.1.den ρ).toB = !x.2 := (hK (x.1, !x.2) (by simpa using c)).2
     rw [h1]; cases x.2 <;> rfl
    ·cases h
theorem toldOk.ext {ρ : List D} {K : List (Tm × Bool)} (h : toldOk ρ K) (d : D) : toldOk (ρ ++ [d]) K := by
 intro t ht
 obtain ⟨h1, h2⟩ := h t ht
 exact ⟨Tm.under_mono h1 (by simp), by rw [Tm.den_below h1]; exact h2⟩
theorem toldOk.add {ρ : List D} {K : List (Tm × Bool)} {x : Tm × Bool} (h : toldOk ρ K) (h2 : (x.1.den ρ).toB = x.2) : toldOk ρ (addB ρ.length x K) := by
 unfold addB
 split
 ·rename_i c
  intro y hy
  rcases List.mem_cons.1 hy with rfl | hy
  ·exact ⟨c, h2⟩
  ·exact h y hy
 ·exact h
theorem isTt_den {E : Env} {v : VC} (h : v.isTt = true) (ρ : List D) : v.den E ρ := by
 cases v <;> first | trivial | cases h
theorem slim_sound {E : Env} : ∀ {v : VC} {ρ : List D} {K : List (Tm × Bool)}, toldOk ρ K → (v.slim ρ.length K).den E ρ → v.den E ρ
 | .tt, _, _, _, _ => trivial
 | .and a b, ρ, K, hK, h => by
  simp only [VC.slim, VC.mk, VC.mkAnd] at h
  split at h
  ·rename_i c; exact ⟨slim_sound hK (isTt_den c ρ), slim_sound hK h⟩
  ·split at h
   ·rename_i c; exact ⟨slim_sound hK h, slim_sound hK (isTt_den c ρ)⟩
   ·exact ⟨slim_sound hK h.1, slim_sound hK h.2⟩
 | .imp t p k, ρ, K, hK, h => by
  intro ht
  have hb := (bare_den (ρ := ρ) t p).2 ht
  simp only [VC.slim, VC.mk, VC.mkAnd] at h
  split at h
  ·exact slim_sound hK h
  ·rename_i c
   have := toldB_ok hK c
   simp [hb] at this
  ·split at h
   ·rename_i c; exact slim_sound (hK.add hb) (isTt_den c ρ)
   ·exact slim_sound (hK.add hb) (h ht)
 | .obl t k, ρ, K, hK, h => by
  simp only [VC.slim, VC.mk, VC.mkAnd] at h
  split at h
  ·rename_i c
   have := toldB_ok hK c
   have hb : ((bare t true).1.den ρ).toB = (bare t true).2 := by simpa using this
   exact ⟨(bare_den t true).1 hb, fun _ => slim_sound hK h⟩
  ·exact ⟨h.1, fun ht => slim_sound (hK.add ((bare_den t true).2 ht)) (h.2 ht)⟩
 | .all s k, ρ, K, hK, h => by
  have e : ∀ d : D, (ρ ++ [d]).length = ρ.length + 1 := fun d => by simp
  simp only [VC.slim, VC.mk, VC.mkAnd] at h
  split at h
  ·rename_i c; cases s <;> exact fun x => slim_sound (hK.ext _) (by rw [e]; exact isTt_den c _)
  ·cases s <;> exact fun x => slim_sound (hK.ext _) (by rw [e]; exact h x)
 | .know f k, ρ, K, hK, h => by
  simp only [VC.slim, VC.mk, VC.mkAnd] at h
  split at h
  ·rename_i c; exact fun _ => slim_sound hK (isTt_den c _)
  ·exact fun hf => slim_sound hK (h hf)
 | .pre c ts k, ρ, K, hK, h => ⟨h.1, slim_sound hK h.2⟩
 | .post c ts k, ρ, K, hK, h => by
  simp only [VC.slim, VC.mk, VC.mkAnd] at h
  split at h
  ·rename_i c; exact fun _ => slim_sound hK (isTt_den c _)
  ·exact fun hf => slim_sound hK (h hf)
 | .inv j ts k, ρ, K, hK, h => ⟨h.1, slim_sound hK h.2⟩
 | .asm j ts k, ρ, K, hK, h => by
  simp only [VC.slim, VC.mk, VC.mkAnd] at h
  split at h
  ·rename_i c; exact fun _ => slim_sound hK (isTt_den c _)
  ·exact fun hf => slim_sound hK (h hf)
 | .back j a b, _, _, _, h => h
 | .ret ts, _, _, _, h => h
 | .cut m k, ρ, K, hK, h => by
  show k.den E (ρ.take m)
  exact slim_sound (ρ := ρ.take m) (K := []) (fun t ht => by cases ht) (by rw [List.length_take]; exact h)
def vcOfs (cx : Cx) : M := match vcOf' cx with | .ok v => .ok (v.slim 0 []) | .error e => .error e
theorem keep_slim {cx : Cx} {vc : VC} {f : FuncId} {own : Sig} {l : List (FuncId × Sig)} {invs : List ((List D → Prop) × (List D → Nat))} (hm : cx.P.follows .mixedOrders = true) (hf : cx.P.funcs[f]? = some cx.fn)
  (hname : (cx.fn.name == "runtime.NumGoroutine") = false) (hown : own.toSigR = cx.own) (hs : cx.sigs = sigsOf 1 l) (hl : ∀ x ∈ l, Kept cx.P cx.G x.1 x.2) (h : vcOfs cx = .ok vc)
  (hd : vc.den2 (mkEnv own (l.map (·.2)) invs) []) (hlen : l.length < 199) : Kept cx.P cx.G f own := by
 unfold vcOfs vcOf' at h
 split at h
 ·rename_i v hv
  cases h
  split at hv
  ·rename_i v0 hv0
   cases hv
   exact kept_of hm hf hname hown hs hl hv0 (tidy_sound (ρ := []) (K := []) (fun t ht => by cases ht) (slim_sound (ρ := []) (K := []) (fun t ht => by cases ht) (den2_den hd))) hlen
  ·cases hv
 ·cases h
def denS (cx : Cx) (E : Env) : Prop := match vcOfs cx with | .ok v => v.den2 E [] | .error _ => False
def denT (cx : Cx) (E : Env) : Prop := match vcOf' cx with | .ok v => v.den2 E [] | .error _ => False
theorem keep_s {cx : Cx} {f : FuncId} {own : Sig} {l : List (FuncId × Sig)} {invs : List ((List D → Prop) × (List D → Nat))} {ss : List Sig} {Q : Prop} (hm : cx.P.follows .mixedOrders = true) (hf : cx.P.funcs[f]? = some cx.fn)
  (hname : (cx.fn.name == "runtime.NumGoroutine") = false) (hown : own.toSigR = cx.own) (hs : cx.sigs = sigsOf 1 l) (hl : ∀ x ∈ l, Kept cx.P cx.G x.1 x.2)
  (hss : l.map (·.2) = ss) (hq : denS cx (mkEnv own ss invs) = Q) (q : Q) (hlen : l.length < 199) : Kept cx.P cx.G f own := by
 have hd : denS cx (mkEnv own (l.map (·.2)) invs) := by rw [hss]; exact Eq.mpr hq q
 unfold denS at hd
 split at hd
 ·rename_i v hv; exact keep_slim hm hf hname hown hs hl hv hd hlen
 ·exact hd.elim
theorem keep_t {cx : Cx} {f : FuncId} {own : Sig} {l : List (FuncId × Sig)} {invs : List ((List D → Prop) × (List D → Nat))} {ss : List Sig} {Q : Prop} (hm : cx.P.follows .mixedOrders = true) (hf : cx.P.funcs[f]? = some cx.fn)
  (hname : (cx.fn.name == "runtime.NumGoroutine") = false) (hown : own.toSigR = cx.own) (hs : cx.sigs = sigsOf 1 l) (hl : ∀ x ∈ l, Kept cx.P cx.G x.1 x.2)
  (hss : l.map (·.2) = ss) (hq : denT cx (mkEnv own ss invs) = Q) (q : Q) (hlen : l.length < 199) : Kept cx.P cx.G f own := by
 have hd : denT cx (mkEnv own (l.map (·.2)) invs) := by rw [hss]; exact Eq.mpr hq q
 unfold denT at hd
 split at hd
 ·rename_i v hv; exact keeps hm hf hname hown hs hl hv hd hlen
 ·exact hd.elim
end Go.Vc
namespace Go.Vc
theorem textOf_append (a b : List Int) : textOf a ++ textOf b = textOf (a ++ b) := by
 simp [textOf, ByteArray.ext_iff]
theorem bytesOf_append (a b : ByteArray) : bytesOf (a ++ b) = bytesOf a ++ bytesOf b := by simp [bytesOf]
theorem bytesOf_has (s : ByteArray) : ∀ x ∈ bytesOf s, 0 ≤ x ∧ x < 256 := by
 intro x hx
 simp only [bytesOf, List.mem_map] at hx
 obtain ⟨b, _, rfl⟩ := hx
 have := b.toNat_lt
 omega
theorem textOf_bytesOf (s : ByteArray) : textOf (bytesOf s) = s := by
 cases s with
 | mk d =>
  simp [textOf, bytesOf, Function.comp_def]
theorem bytesOf_textOf : ∀ {l : List Int}, (∀ x ∈ l, 0 ≤ x ∧ x < 256) → bytesOf (textOf l) = l := by
 intro l h
 simp only [bytesOf, textOf, List.map_map]
 conv => rhs; rw [← List.map_id l]
 apply List.map_congr_left
 intro x hx
 have := h x hx
 simp only [Function.comp, id]
 have e : (UInt8.ofNat x.toNat).toNat = x.toNat % 256 := by simp
 rw [e]
 omega
theorem text_inj {a b : ByteArray} (h : bytesOf a = bytesOf b) : a = b := by rw [← textOf_bytesOf a, h, textOf_bytesOf]
theorem bytesOf_extract (s : ByteArray) (a b : Nat) : bytesOf (s.extract a b) = ((bytesOf s).take b).drop a := by
 simp [bytesOf, ByteArray.data_extract, List.map_drop, List.map_take]
 rw [List.drop_take]
theorem bytesOf_length' (s : ByteArray) : (bytesOf s).length = s.size := by simp [bytesOf]
end Go.Vc
namespace Go.Vc
open Go.RowKit (Below)
def yes : List D → Prop
 | l => l.getLast? = some (.B true)
theorem of_yes {l : List D} {b : Bool} (h : yes (l ++ [.B b])) : b = true := by simpa [yes] using h
theorem owns_rsl {ρ : List D} : ∀ {as : List AK} {n : Nat}, owns ρ (chsOf false n as) = []
 | [], _ => rfl
 | a :: as, n => by
  have h := owns_rsl (ρ := ρ) (as := as) (n := n + a.srts.length)
  rw [chsOf, owns_append, h, List.append_nil]
  cases a with
  | l ek =>
   have : ∀ b : Bool, owns ρ (Ch.rsl (.at n) ek (.at (n + 1)) :: (if b = true then [] else [.abs (.deep ek) [.at (n + 1)]])) = [] := fun b => by cases b <;> rfl
   exact this (flatEK ek)
  | _ => rfl
theorem law_walk {P : Program} {G : List Glob} {f : FuncId} {as : List AK} {pre : List D → Prop} (hk : Kept P G f (sigF as [.b] pre yes)) {args : Array Value} {ρ : List D} {w : World}
  (hs : srtsOk (srtsOf as) ρ) (hp : pre ρ) (ha : svsHold ρ (svsOf 0 as) args.toList) (hh : HeapOk ρ (chsOf false 0 as) w) (hg : ∀ g ∈ G, g.holds w) :
  Calls P f args w fun e w' => e = .returned (.bool true) ∧ Below w.heap.size w w' := by
 refine (hk.holds w args ρ hs hp ha hh (fun g h => ⟨hg g h, by show _ ∉ owns ρ (chsOf false 0 as); rw [owns_rsl]; simp⟩)).mono ?_
 rintro e w' ⟨v, rfl, hfit⟩
 rcases hfit with hfit | ⟨r, hr, _⟩
 rotate_left
 ·cases hr
 obtain ⟨σ, hσ, hpost, hres, _, _, _, hfr⟩ := hfit
 have hfr : Frame0 w (owns ρ (chsOf false 0 as)) w' := hfr
 rw [owns_rsl] at hfr
 refine ⟨?_, hfr.below⟩
 have hσ : srtsOk [.B] σ := hσ
 match σ, hσ with
 | [d], hd =>
  obtain ⟨b, rfl⟩ := hd.1
  have hb : b = true := of_yes hpost
  subst hb
  have hl := srtsOk_length hs
  have hv : v = .bool ((ρ ++ [D.B true]).getD (srtsOf as).length default).toB := hres
  rw [hv]
  simp [List.getD, ← hl]
theorem int_holds {ρ : List D} {k : IntKind} {n : Int} {i : Nat} (h : ρ[i]? = some (.I n)) (hw : (Lit.int k n).wf = true) : (SV.one (.lf (.int k (.at i)))).holds ρ (.int k n) := by
 have e : (Tm.den ρ (.at i)) = .I n := by simp [Tm.den, List.getD, h]
 show Value.int k n = .int k (Tm.den ρ (.at i)).toI ∧ k.has (Tm.den ρ (.at i)).toI
 rw [e]; exact ⟨rfl, wf_has hw⟩
theorem svs_cons {ρ : List D} {x : SV} {xs : List SV} {v : Value} {vs : List Value} (h : x.holds ρ v) (h' : svsHold ρ xs vs) : svsHold ρ (x :: xs) (v :: vs) := ⟨v, vs, rfl, h, h'⟩
theorem svs_nil {ρ : List D} : svsHold ρ [] [] := rfl
end Go.Vc
namespace Go.Vc
theorem kept_pack {P : Program} {G : List Glob} {f : FuncId} {s s' : Sig} (hk : Kept P G f s) (θ τ : List Tm) (ha : s.alt = none) (ha' : s'.alt = none)
  (e1 : s'.args = s.args.map (SV.subst 0 θ)) (e2 : s'.heap = s.heap.map (Ch.subst 0 θ)) (e3 : s'.res = s.res.subst 0 (θ ++ τ)) (e4 : s'.heap' = s.heap'.map (Ch.subst 0 (θ ++ τ)))
  (hu : θ.all (Tm.under s'.srts.length) = true)
  (hs : ∀ ρ, srtsOk s'.srts ρ → s'.pre ρ → srtsOk s.srts (θ.map (Tm.den ρ)) ∧ s.pre (θ.map (Tm.den ρ)))
  (hn : ∀ ρ σ, srtsOk s'.srts ρ → s'.pre ρ → srtsOk s.news σ → s.post (θ.map (Tm.den ρ) ++ σ) → ∃ σ', srtsOk s'.news σ' ∧ τ.map (Tm.den (ρ ++ σ')) = σ ∧ s'.post (ρ ++ σ')) : Kept P G f s' := by
 refine ⟨?_, hk.body⟩
 intro w args ρ hsr hp hargs hh hg
 obtain ⟨hsr1, hp1⟩ := hs ρ hsr hp
 have hargs1 : svsHold (θ.map (Tm.den ρ)) s.args args.toList := by
  rw [e1] at hargs
  have := svsHold_subst (ρ := []) (σ := ρ) (θ := θ) s.args args.toList
  rw [List.nil_append, List.nil_append, List.length_nil] at this
  rw [← this]; exact hargs
 have hh1 : HeapOk (θ.map (Tm.den ρ)) s.heap w := by
  rw [e2] at hh
  exact HeapOk.of_subst (ρ := []) (σ := ρ) (θ := θ) hh
 have ho : owns ρ s'.heap = owns (θ.map (Tm.den ρ)) s.heap := by
  rw [e2]; exact owns_subst (ρ := []) (σ := ρ) (θ := θ) s.heap
 have hr : ros ρ s'.heap = ros (θ.map (Tm.den ρ)) s.heap := by
  rw [e2]; exact ros_subst (ρ := []) (σ := ρ) (θ := θ) s.heap
 refine (hk.holds w args (θ.map (Tm.den ρ)) hsr1 hp1 hargs1 hh1 (by rw [← ho]; exact hg)).mono ?_
 rintro e w' ⟨v, rfl, hfit⟩
 rcases hfit with hfit | ⟨r, hr2, _⟩
 rotate_left
 ·unfold Sig.toSigR SigR.second at hr2
  cases hx : s.alt with
  | none => simp only [hx] at hr2; cases hr2
  | some x => rw [ha] at hx; cases hx
 obtain ⟨σ, h1, h2, h3, h4, h5, h6, h7⟩ := hfit
 obtain ⟨σ', k1, k2, k3⟩ := hn ρ σ hsr hp h1 h2
 have hρ : (θ ++ τ).map (Tm.den (ρ ++ σ')) = θ.map (Tm.den ρ) ++ σ := by
  rw [List.map_append, k2]
  refine congrArg (· ++ σ) (List.map_congr_left fun t ht => ?_)
  have hl := srtsOk_length hsr
  exact Tm.den_below (by rw [hl]; exact List.all_eq_true.1 hu t ht)
 have ho' : owns (ρ ++ σ') s'.heap' = owns (θ.map (Tm.den ρ) ++ σ) s.heap' := by
  rw [e4, ← hρ]; exact owns_subst (ρ := []) (σ := ρ ++ σ') (θ := θ ++ τ) s.heap'
 have hr' : ros (ρ ++ σ') s'.heap' = ros (θ.map (Tm.den ρ) ++ σ) s.heap' := by
  rw [e4, ← hρ]; exact ros_subst (ρ := []) (σ := ρ ++ σ') (θ := θ ++ τ) s.heap'
 refine ⟨v, rfl, .inl ⟨σ', k1, k3, ?_, ?_, ?_, ?_, ?_⟩⟩
 ·have := SV.holds_subst (ρ := []) (σ := ρ ++ σ') (θ := θ ++ τ) s.res v
  rw [List.nil_append, List.nil_append, List.length_nil, hρ] at this
  show s'.res.holds (ρ ++ σ') v
  rw [e3, this]; exact h3
 ·show HeapOk (ρ ++ σ') s'.heap' w'
  rw [e4]
  refine HeapOk.to_subst (ρ := []) (σ := ρ ++ σ') (θ := θ ++ τ) ?_
  rw [List.nil_append, List.nil_append, hρ]; exact h4
 ·intro b hb
  have hb : b ∈ owns (ρ ++ σ') s'.heap' := hb
  rw [ho'] at hb
  show b ∈ owns ρ s'.heap ∨ _
  rw [ho]; exact h5 b hb
 ·intro b hb
  have hb : b ∈ ros (ρ ++ σ') s'.heap' := hb
  rw [hr'] at hb
  show b ∈ owns ρ s'.heap ∨ _ ∨ b ∈ ros ρ s'.heap
  rw [ho, hr]; exact h6 b hb
 ·show Frame0 w (owns ρ s'.heap) w'
  rw [ho]; exact h7
end Go.Vc