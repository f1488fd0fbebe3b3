/-
 Bits of whole numbers: plain laws, with no program in sight.
 Contracts, written short.
 Conditions made short, and read as plain statements.
 Texts as lists of bytes: plain laws.
 From a law's contract to its walk.
 Contracts whose words are parts of others: many words as one.
-/
import Derived.Test.YtmgeaephkagdiaaGreatDoorVce
import Derived.Laws.Closers25b
set_option linter.unusedVariables false
set_option linter.unusedSimpArgs false
open _root_.Go.IntKind (wrap)
namespace Go.Vc
def bt (v : Int) (i : Nat) : Bool := decide (v / 2 ^ i % 2 = 1)
theorem bC1 (n i : Nat) : bt (n : Int) i = n.testBit i := by
 rw [bt, Nat.testBit_eq_decide_div_mod_eq]
 congr 1
 have h : ((n : Int) / 2 ^ i % 2) = ((n / 2 ^ i % 2 : Nat) : Int) := by simp
 rw [h]
 apply propext
 omega
theorem aN6 {v : Int} (h : 0 ≤ v) (i : Nat) : bt v i = v.toNat.testBit i := by
 obtain ⟨n, rfl⟩ := Int.eq_ofNat_of_zero_le h
 exact bC1 n i
theorem oJ (n : Nat) : (0 : Int) < 2 ^ n := Int.pow_pos (by decide)
theorem dB8 (a m : Int) {i w : Nat} (h : i < w) : ∃ q : Int, (a + m * 2 ^ w) / 2 ^ i = a / 2 ^ i + 2 * q := by
 refine ⟨m * 2 ^ (w - i - 1), ?_⟩
 have e : m * 2 ^ w = (2 * (m * 2 ^ (w - i - 1))) * 2 ^ i := by
  have h2 : w = 1 + (w - i - 1) + i := by omega
  rw [h2, Int.pow_add, Int.pow_add, show 1 + (w - i - 1) + i - i - 1 = w - i - 1 from by omega]
  have h3 : (2 : Int) ^ 1 = 2 := rfl
  rw [h3, ← Int.mul_assoc, ← Int.mul_assoc, Int.mul_comm m 2, Int.mul_assoc 2 m]
 rw [e, Int.add_mul_ediv_right _ _ (Int.ne_of_gt (oJ i))]
theorem wE (a m : Int) {i w : Nat} (h : i < w) : bt (a + m * 2 ^ w) i = bt a i := by
 obtain ⟨q, e⟩ := dB8 a m h
 simp only [bt, e]
 congr 1
 apply propext
 omega
theorem aE7 (a : Int) {i w : Nat} (h : i < w) : bt (a % 2 ^ w) i = bt a i := by
 have e : a % 2 ^ w = a + (-(a / 2 ^ w)) * 2 ^ w := by
  have := Int.mul_ediv_add_emod a (2 ^ w)
  rw [Int.neg_mul, Int.mul_comm (a / 2 ^ w)]
  omega
 rw [e, wE _ _ h]
theorem aE8 (k : IntKind) (a : Int) {i : Nat} (h : i < k.bits) : bt (k.wrap a) i = bt a i := by
 simp only [wrap]
 split
 ·have e : a % 2 ^ k.bits - 2 ^ k.bits = a % 2 ^ k.bits + (-1) * 2 ^ k.bits := by omega
  rw [e, wE _ _ h, aE7 _ h]
 ·exact aE7 _ h
theorem zK (w : Nat) (v : Int) (i : Nat) : (BitVec.ofInt w v).getLsbD i = (decide (i < w) && bt v i) := by
 by_cases h : i < w
 ·rw [← aE7 v h]
  have hp : 0 ≤ v % 2 ^ w := Int.emod_nonneg _ (Int.ne_of_gt (oJ w))
  rw [aN6 hp, BitVec.getLsbD, BitVec.toNat_ofInt]
  simp [h]
 ·simp [h, BitVec.getLsbD_of_ge, Nat.le_of_not_lt h]
theorem bB9 {w : Nat} (x : BitVec w) (i : Nat) : bt (x.toNat : Int) i = x.getLsbD i := bC1 _ _
theorem aN5 (k : IntKind) (a b : Int) {i : Nat} (h : i < k.bits) : bt (Go.bits .and k a b) i = (bt a i && bt b i) := by
 simp only [Go.bits]
 rw [aE8 k _ h, bB9, BitVec.getLsbD_and, zK, zK]; simp [h]
theorem zL (k : IntKind) (a b : Int) {i : Nat} (h : i < k.bits) : bt (Go.bits .or k a b) i = (bt a i || bt b i) := by
 simp only [Go.bits]
 rw [aE8 k _ h, bB9, BitVec.getLsbD_or, zK, zK]; simp [h]
theorem cZ0 (k : IntKind) (a b : Int) {i : Nat} (h : i < k.bits) : bt (Go.bits .xor k a b) i = (bt a i ^^ bt b i) := by
 simp only [Go.bits]
 rw [aE8 k _ h, bB9, BitVec.getLsbD_xor, zK, zK]; simp [h]
theorem cY4 (a : Int) (n i : Nat) : bt (a * 2 ^ n) i = (decide (n ≤ i) && bt a (i - n)) := by
 by_cases h : n ≤ i
 ·obtain ⟨m, rfl⟩ := Nat.exists_eq_add_of_le h
  simp only [bt, h, decide_true, Bool.true_and, Nat.add_sub_cancel_left]
  rw [Int.pow_add, Int.mul_comm a, Int.mul_ediv_mul_of_pos _ _ (oJ n)]
 ·have h' : i < n := by omega
  simp only [h, decide_false, Bool.false_and]
  have := wE 0 a h'
  rw [Int.zero_add] at this
  rw [this]; simp [bt]
theorem zJ (a : Int) (n i : Nat) : bt (a / 2 ^ n) i = bt a (i + n) := by
 simp only [bt]
 rw [Int.ediv_ediv_of_nonneg (Int.le_of_lt (oJ n)), ← Int.pow_add, Nat.add_comm]
theorem zM (k : IntKind) (a b : Int) {i : Nat} (h : i < k.bits) : bt (fC k a b) i = (decide (b.toNat ≤ i) && bt a (i - b.toNat)) := by
 rw [fC, aE8 k _ h, cY4]
 by_cases hb : b.toNat ≤ k.bits
 ·rw [show Nat.min b.toNat k.bits = b.toNat from Nat.min_eq_left hb]
 ·have e : Nat.min b.toNat k.bits = k.bits := Nat.min_eq_right (by omega)
  rw [e, decide_eq_false (by omega : ¬ k.bits ≤ i), decide_eq_false (by omega : ¬ b.toNat ≤ i)]; simp
theorem oO {v : Int} {w i : Nat} (h0 : 0 ≤ v) (h1 : v < 2 ^ w) (hi : w ≤ i) : bt v i = false := by
 rw [aN6 h0]
 apply Nat.testBit_lt_two_pow
 have : v.toNat < 2 ^ w := by
  have : (v.toNat : Int) < ((2 ^ w : Nat) : Int) := by rw [Int.toNat_of_nonneg h0]; simpa using h1
  omega
 exact Nat.lt_of_lt_of_le this (Nat.pow_le_pow_right (by decide) hi)
theorem rD (v : Int) : IntKind.u64.has v ↔ 0 ≤ v ∧ v < 2 ^ 64 := by
 simp only [IntKind.has, IntKind.min, IntKind.max, IntKind.signed, IntKind.bits]
 constructor <;> rintro ⟨h1, h2⟩ <;> constructor <;> simp at * <;> omega
theorem bQ1 (v : Int) : IntKind.u32.has v ↔ 0 ≤ v ∧ v < 2 ^ 32 := by
 simp only [IntKind.has, IntKind.min, IntKind.max, IntKind.signed, IntKind.bits]
 constructor <;> rintro ⟨h1, h2⟩ <;> constructor <;> simp at * <;> omega
theorem dW5 (v : Int) : IntKind.u8.has v ↔ 0 ≤ v ∧ v < 256 := by
 simp only [IntKind.has, IntKind.min, IntKind.max, IntKind.signed, IntKind.bits]
 constructor <;> rintro ⟨h1, h2⟩ <;> constructor <;> simp at * <;> omega
theorem bC2 {a : Int} (b : Int) {i : Nat} (ha : IntKind.u64.has a) : bt (aW .u64 a b) i = bt a (i + b.toNat) := by
 have ⟨h0, h1⟩ := (rD a).1 ha
 rw [aW, Int.fdiv_eq_ediv_of_nonneg _ (Int.le_of_lt (oJ _)), zJ]
 by_cases hb : b.toNat ≤ 64
 ·rw [show Nat.min b.toNat IntKind.u64.bits = b.toNat from Nat.min_eq_left hb]
 ·rw [show Nat.min b.toNat IntKind.u64.bits = 64 from Nat.min_eq_right (by simp [IntKind.bits]; omega)]
  rw [oO h0 h1 (by omega), oO h0 h1 (by omega)]
theorem cY7 {a : Int} (b : Int) {i : Nat} (ha : IntKind.u32.has a) : bt (aW .u32 a b) i = bt a (i + b.toNat) := by
 have ⟨h0, h1⟩ := (bQ1 a).1 ha
 rw [aW, Int.fdiv_eq_ediv_of_nonneg _ (Int.le_of_lt (oJ _)), zJ]
 by_cases hb : b.toNat ≤ 32
 ·rw [show Nat.min b.toNat IntKind.u32.bits = b.toNat from Nat.min_eq_left hb]
 ·rw [show Nat.min b.toNat IntKind.u32.bits = 32 from Nat.min_eq_right (by simp [IntKind.bits]; omega)]
  rw [oO h0 h1 (by omega), oO h0 h1 (by omega)]
theorem bT8 {v : Int} (h : IntKind.u64.has v) {i : Nat} (hi : 64 ≤ i) : bt v i = false :=
 oO ((rD v).1 h).1 ((rD v).1 h).2 hi
theorem cY9 {v : Int} (h : IntKind.u32.has v) {i : Nat} (hi : 32 ≤ i) : bt v i = false :=
 oO ((bQ1 v).1 h).1 ((bQ1 v).1 h).2 hi
theorem bY1 {w : Nat} {a b : Int} (ha : 0 ≤ a) (ha1 : a < 2 ^ w) (hb : 0 ≤ b) (hb1 : b < 2 ^ w) (h : ∀ i, i < w → bt a i = bt b i) : a = b := by
 have e : a.toNat = b.toNat := by
  apply Nat.eq_of_testBit_eq
  intro i
  rw [← aN6 ha, ← aN6 hb]
  by_cases hi : i < w
  ·exact h i hi
  ·rw [oO ha ha1 (by omega), oO hb hb1 (by omega)]
 omega
theorem bF4 {a b : Int} (ha : IntKind.u64.has a) (hb : IntKind.u64.has b) (h : ∀ i, i < 64 → bt a i = bt b i) : a = b :=
 bY1 ((rD a).1 ha).1 ((rD a).1 ha).2 ((rD b).1 hb).1 ((rD b).1 hb).2 h
theorem bT5 (n i : Nat) : bt (2 ^ n - 1) i = decide (i < n) := by
 have e : ((2 : Int) ^ n - 1) = ((2 ^ n - 1 : Nat) : Int) := by
  have : 0 < 2 ^ n := Nat.two_pow_pos n
  rw [Int.natCast_sub this]; simp
 rw [e, bC1, Nat.testBit_two_pow_sub_one]
theorem xP (i : Nat) : bt 0 i = false := by simp [bt]
theorem cY5 (i : Nat) : bt (-1) i = true := by
 have h := bT5 (i + 1) i
 have e : (2 : Int) ^ (i + 1) - 1 = -1 + 1 * 2 ^ (i + 1) := by omega
 rw [e, wE _ _ (by omega)] at h
 simpa using h
theorem cY6 (v : Int) (i : Nat) : bt (-v - 1) i = !bt v i := by
 have h : (-v - 1) / 2 ^ i = -(v / 2 ^ i) - 1 := by
  have hp := oJ i
  have h1 := Int.mul_ediv_add_emod v (2 ^ i)
  have h2 := Int.emod_nonneg v (Int.ne_of_gt hp)
  have h3 := Int.emod_lt_of_pos v hp
  have h4 := Int.mul_ediv_add_emod (-v - 1) (2 ^ i)
  have h5 := Int.emod_nonneg (-v - 1) (Int.ne_of_gt hp)
  have h6 := Int.emod_lt_of_pos (-v - 1) hp
  generalize (2 : Int) ^ i = p at *
  generalize v / p = x at *
  generalize (-v - 1) / p = y at *
  generalize v % p = s at *
  generalize (-v - 1) % p = t at *
  have : p * (x + y + 1) = p - 1 - s - t := by rw [Int.mul_add, Int.mul_add]; omega
  have hz : x + y + 1 = 0 := by
   have c1 : x + y + 1 < 1 := by
    apply Int.lt_of_mul_lt_mul_left (a := p) _ (Int.le_of_lt hp); omega
   have c2 : -1 < x + y + 1 := by
    apply Int.lt_of_mul_lt_mul_left (a := p) _ (Int.le_of_lt hp); omega
   omega
  omega
 simp only [bt, h]
 generalize v / 2 ^ i = x
 by_cases hx : x % 2 = 1
 ·have : ¬ (-x - 1) % 2 = 1 := by omega
  simp [hx, this]
 ·have : (-x - 1) % 2 = 1 := by omega
  simp [hx, this]
theorem bR4 {v : Int} (h0 : 0 ≤ v) (h1 : v < 18446744073709551616) : IntKind.u64.wrap v = v := by
 rw [IntKind.wrap_u64]; omega
theorem dR9 (n : Int) (h0 : 0 ≤ n) (h1 : n < 64) : fC .u64 1 n = 2 ^ n.toNat := by
 rw [fC, show Nat.min n.toNat IntKind.u64.bits = n.toNat from Nat.min_eq_left (by simp [IntKind.bits]; omega), Int.one_mul]
 apply bR4 (Int.le_of_lt (oJ _))
 have : (2 : Int) ^ n.toNat < 2 ^ 64 := Int.pow_lt_pow_of_lt (by decide) (by omega)
 simpa using this
end Go.Vc
namespace Go.Vc
inductive AK where
 | i (k : IntKind) | b | s | z (k : IntKind) | l (ek : EK) | a (k : IntKind) (n : Nat)
def AK.sv (n : Nat) : AK → SV
 | .i k => .one (.lf (.int k (.at n)))
 | .b => .one (.lf (.bool (.at n)))
 | .s => .one (.lf (.str (.at n)))
 | .z _ => .one (.lf (.sl (.at n)))
 | .l _ => .one (.lf (.sl (.at n)))
 | .a k m => .one (.agg [.ints k m (.at n)])
def AK.aA : AK → List Srt
 | .i _ => [.I] | .b => [.B] | .s => [.S] | .z _ => [.V, .Z] | .l _ => [.V, .L] | .a _ _ => [.Z]
def AK.chs (own : Bool) (n : Nat) : AK → List Ch
 | .z k => [if own then .osl (.at n) [.int k] (.at (n + 1)) else .rsl (.at n) [.int k] (.at (n + 1))]
 | .l ek => (if own then .osl (.at n) ek (.at (n + 1)) else .rsl (.at n) ek (.at (n + 1))) :: (if jU ek then [] else [.abs (.deep ek) [.at (n + 1)]])
 | _ => []
def vU : Nat → List AK → List SV
 | _, [] => []
 | n, a :: r => a.sv n :: vU (n + a.aA.length) r
def uZ (own : Bool) : Nat → List AK → List Ch
 | _, [] => []
 | n, a :: r => a.chs own n ++ uZ own (n + a.aA.length) r
def lX : List AK → List Srt
 | [] => []
 | a :: r => a.aA ++ lX r
def cM2 : List SV → SV
 | [x] => x
 | xs => .tup (xs.map fun x => match x with | .one y => y | _ => .lf .junk)
def gQ (as rs : List AK) (pre post : LD → Prop) : Sig :=
 { args := vU 0 as, heap := uZ false 0 as, aA := lX as, res := cM2 (vU (lX as).length rs), heap' := uZ true (lX as).length rs, news := lX rs, pre := pre, post := post }
theorem bR0 (k : IntKind) (n : Int) : k.has (k.wrap n) := wrap_within k n
theorem bB6 (o : BinOp) (k : IntKind) (a b : Int) : k.has (Go.bits o k a b) := bits_within o k a b
end Go.Vc
namespace Go.Vc
def VC.tidy (n : Nat) (K : List Tm) : VC → VC
 | .tt => .tt
 | .and a b => .and (a.tidy n K) (b.tidy n K)
 | .imp t p k => if p && t.under n then (if K.contains t then k.tidy n K else .imp t p (k.tidy n (t :: K))) else .imp t p (k.tidy n K)
 | .obl t k => if K.contains t then k.tidy n K else if t.under n then .obl t (k.tidy n (t :: K)) else .obl t (k.tidy n K)
 | .all s k => .all s (k.tidy (n + 1) K)
 | .know f k => .know f (k.tidy n K)
 | .pre c ts k => .pre c ts (k.tidy n K)
 | .post c ts k => .post c ts (k.tidy n K)
 | .inv j ts k => .inv j ts (k.tidy n K)
 | .asm j ts k => .asm j ts (k.tidy n K)
 | .back j a b => .back j a b
 | .ret ts => .ret ts
 | .cut m k => .cut m (k.tidy (min m n) [])
def yI (ρ : LD) (K : List Tm) : Prop := ∀ t ∈ K, t.under ρ.length = true ∧ (t.den ρ).toB = true
theorem yI.ext {ρ : LD} {K : List Tm} (h : yI ρ K) (d : D) : yI (ρ ++ [d]) K := by
 intro t ht
 obtain ⟨h1, h2⟩ := h t ht
 exact ⟨Tm.mZ h1 (by simp), by rw [Tm.cO h1]; exact h2⟩
theorem yI.cons {ρ : LD} {K : List Tm} {t : Tm} (h : yI ρ K) (h1 : t.under ρ.length = true) (h2 : (t.den ρ).toB = true) : yI ρ (t :: K) := by
 intro u hu
 rcases List.mem_cons.1 hu with rfl | hu
 ·exact ⟨h1, h2⟩
 ·exact h u hu
theorem mD {E : Env} : ∀ {v : VC} {ρ : LD} {K : List Tm}, yI ρ K → (v.tidy ρ.length K).den E ρ → v.den E ρ
 | .tt, _, _, _, _ => trivial
 | .and a b, ρ, K, hK, h => ⟨mD hK h.1, mD hK h.2⟩
 | .imp t p k, ρ, K, hK, h => by
  intro ht
  simp only [VC.tidy] at h
  split at h
  ·rename_i c
   simp only [Bool.and_eq_true] at c
   obtain ⟨rfl, c2⟩ := c
   split at h
   ·exact mD hK h
   ·exact mD (hK.cons c2 ht) (h ht)
  ·exact mD hK (h ht)
 | .obl t k, ρ, K, hK, h => by
  simp only [VC.tidy] at h
  split at h
  ·rename_i c
   have hm : t ∈ K := by simpa using c
   exact ⟨(hK t hm).2, fun _ => mD hK h⟩
  ·split at h
   ·rename_i c
    exact ⟨h.1, fun ht => mD (hK.cons c ht) (h.2 ht)⟩
   ·exact ⟨h.1, fun ht => mD hK (h.2 ht)⟩
 | .all s k, ρ, K, hK, h => by
  have e : ∀ d : D, (ρ ++ [d]).length = ρ.length + 1 := fun d => by simp
  cases s <;> (intro x; exact mD (hK.ext _) (by rw [e]; exact h x))
 | .know f k, ρ, K, hK, h => fun hf => mD hK (h hf)
 | .pre c ts k, ρ, K, hK, h => ⟨h.1, mD hK h.2⟩
 | .post c ts k, ρ, K, hK, h => fun hp => mD hK (h hp)
 | .inv j ts k, ρ, K, hK, h => ⟨h.1, mD hK h.2⟩
 | .asm j ts k, ρ, K, hK, h => fun hp => mD hK (h hp)
 | .back j a b, _, _, _, h => h
 | .ret ts, _, _, _, h => h
 | .cut m k, ρ, K, hK, h => by
  show k.den E (ρ.take m)
  exact mD (ρ := ρ.take m) (K := []) (fun t ht => by cases ht) (by rw [List.length_take]; exact h)
mutual
def Tm.yes (ρ : LD) : Tm → Prop
 | .o2 .lt a b => (a.den ρ).toI < (b.den ρ).toI
 | .o2 .le a b => (a.den ρ).toI ≤ (b.den ρ).toI
 | .o2 .eq a b => (a.den ρ).toI = (b.den ρ).toI
 | .o2 .eqb a b => (a.den ρ).toB = (b.den ρ).toB
 | .o2 .eqs a b => (a.den ρ).toS = (b.den ρ).toS
 | .o2 .and a b => a.yes ρ ∧ b.yes ρ
 | .o2 .or a b => a.yes ρ ∨ b.yes ρ
 | .o1 .not a => a.no ρ
 | t => (t.den ρ).toB = true
def Tm.no (ρ : LD) : Tm → Prop
 | .o2 .lt a b => (b.den ρ).toI ≤ (a.den ρ).toI
 | .o2 .le a b => (b.den ρ).toI < (a.den ρ).toI
 | .o2 .eq a b => (a.den ρ).toI ≠ (b.den ρ).toI
 | .o2 .eqb a b => (a.den ρ).toB ≠ (b.den ρ).toB
 | .o2 .eqs a b => (a.den ρ).toS ≠ (b.den ρ).toS
 | .o2 .and a b => a.no ρ ∨ b.no ρ
 | .o2 .or a b => a.no ρ ∧ b.no ρ
 | .o1 .not a => a.yes ρ
 | t => (t.den ρ).toB = false
end
theorem bytes_eq {a b : BA} : (a.toList == b.toList) = true ↔ a = b := by
 rw [beq_iff_eq]
 constructor
 ·intro h
  rw [ByteArray.toList_eq, ByteArray.toList_eq] at h
  cases a; cases b
  simp at h
  simp [h]
 ·rintro rfl; rfl
theorem zA {ρ : LD} : ∀ (t : Tm), (t.yes ρ ↔ (t.den ρ).toB = true) ∧ (t.no ρ ↔ (t.den ρ).toB = false)
 | .at _ => ⟨Iff.rfl, Iff.rfl⟩
 | .int _ => ⟨Iff.rfl, Iff.rfl⟩
 | .bool _ => ⟨Iff.rfl, Iff.rfl⟩
 | .str _ => ⟨Iff.rfl, Iff.rfl⟩
 | .nat _ => ⟨Iff.rfl, Iff.rfl⟩
 | .lis _ => ⟨Iff.rfl, Iff.rfl⟩
 | .lnil => ⟨Iff.rfl, Iff.rfl⟩
 | .o1 o a => by
  have h := zA (ρ := ρ) a
  cases o <;> first | exact ⟨Iff.rfl, Iff.rfl⟩ | skip
  constructor
  ·simp only [Tm.yes, Tm.den, O1.den, D.toB_B, h.2, Bool.not_eq_true']
  ·simp only [Tm.no, Tm.den, O1.den, D.toB_B, h.1, Bool.not_eq_false']
 | .o2 o a b => by
  have h := zA (ρ := ρ) a
  have h' := zA (ρ := ρ) b
  cases o <;> first | exact ⟨Iff.rfl, Iff.rfl⟩ | skip
  ·constructor <;> simp [Tm.yes, Tm.no, Tm.den, O2.den]
  ·constructor <;> simp [Tm.yes, Tm.no, Tm.den, O2.den]
  ·constructor <;> simp [Tm.yes, Tm.no, Tm.den, O2.den]
  ·constructor <;> simp [Tm.yes, Tm.no, Tm.den, O2.den]
  ·constructor
   ·simp only [Tm.yes, Tm.den, O2.den, D.toB_B]; exact bytes_eq.symm
   ·simp only [Tm.no, Tm.den, O2.den, D.toB_B]
    rw [← Bool.not_eq_true]
    exact not_congr bytes_eq.symm
  ·constructor
   ·simp only [Tm.yes, Tm.den, O2.den, D.toB_B, h.1, h'.1, Bool.and_eq_true]
   ·simp only [Tm.no, Tm.den, O2.den, D.toB_B, h.2, h'.2, Bool.and_eq_false_iff]
  ·constructor
   ·simp only [Tm.yes, Tm.den, O2.den, D.toB_B, h.1, h'.1, Bool.or_eq_true]
   ·simp only [Tm.no, Tm.den, O2.den, D.toB_B, h.2, h'.2, Bool.or_eq_false_iff]
 | .o3 _ _ _ _ => ⟨Iff.rfl, Iff.rfl⟩
def IntKind.in_ (k : IntKind) (x : Int) : Prop :=
 match k with
 | .u8 => 0 ≤ x ∧ x < 256
 | .u16 => 0 ≤ x ∧ x < 65536
 | .u32 => 0 ≤ x ∧ x < 4294967296
 | .u64 => 0 ≤ x ∧ x < 18446744073709551616
 | .i8 => -128 ≤ x ∧ x < 128
 | .i16 => -32768 ≤ x ∧ x < 32768
 | .i32 => -2147483648 ≤ x ∧ x < 2147483648
 | .i64 => -9223372036854775808 ≤ x ∧ x < 9223372036854775808
theorem qJ {k : IntKind} {x : Int} : k.has x ↔ IntKind.in_ k x := by
 cases k <;> simp only [IntKind.has, IntKind.in_, IntKind.min, IntKind.max, IntKind.signed, IntKind.bits] <;> constructor <;> rintro ⟨h1, h2⟩ <;> constructor <;> simp at * <;> omega
def Fact.iC (ρ : LD) : Fact → Prop
 | .has .u8 t => 0 ≤ (t.den ρ).toI ∧ (t.den ρ).toI < 256
 | .has .u16 t => 0 ≤ (t.den ρ).toI ∧ (t.den ρ).toI < 65536
 | .has .u32 t => 0 ≤ (t.den ρ).toI ∧ (t.den ρ).toI < 4294967296
 | .has .u64 t => 0 ≤ (t.den ρ).toI ∧ (t.den ρ).toI < 18446744073709551616
 | .has .i8 t => -128 ≤ (t.den ρ).toI ∧ (t.den ρ).toI < 128
 | .has .i16 t => -32768 ≤ (t.den ρ).toI ∧ (t.den ρ).toI < 32768
 | .has .i32 t => -2147483648 ≤ (t.den ρ).toI ∧ (t.den ρ).toI < 2147483648
 | .has .i64 t => -9223372036854775808 ≤ (t.den ρ).toI ∧ (t.den ρ).toI < 9223372036854775808
 | .ssz t => ((t.den ρ).toS.size : Int) ≤ 9223372036854775807
 | f => f.den ρ
theorem dD2 {ρ : LD} {f : Fact} (h : f.den ρ) : f.iC ρ := by
 cases f with
 | has k t => cases k <;> exact qJ.1 h
 | _ => exact h
def VC.iC (E : Env) : VC → LD → Prop
 | .tt, _ => True
 | .and a b, ρ => a.iC E ρ ∧ b.iC E ρ
 | .imp t true k, ρ => t.yes ρ → k.iC E ρ
 | .imp t false k, ρ => t.no ρ → k.iC E ρ
 | .obl t k, ρ => t.yes ρ ∧ (t.yes ρ → k.iC E ρ)
 | .all .I c, ρ => ∀ x : Int, c.iC E (ρ ++ [.I x])
 | .all .B c, ρ => ∀ x : Bool, c.iC E (ρ ++ [.B x])
 | .all .S c, ρ => ∀ x : BA, c.iC E (ρ ++ [.S x])
 | .all .Z c, ρ => ∀ x : LI, c.iC E (ρ ++ [.Z x])
 | .all .L c, ρ => ∀ x : LD, c.iC E (ρ ++ [.L x])
 | .all .N c, ρ => ∀ x : Nat, c.iC E (ρ ++ [.N x])
 | .all .V c, ρ => ∀ x : Value, c.iC E (ρ ++ [.V x])
 | .know f k, ρ => f.iC ρ → k.iC E ρ
 | .pre c ts k, ρ => E.pre c (ts.map (Tm.den ρ)) ∧ k.iC E ρ
 | .post c ts k, ρ => E.post c (ts.map (Tm.den ρ)) → k.iC E ρ
 | .inv j ts k, ρ => E.inv j (ts.map (Tm.den ρ)) ∧ k.iC E ρ
 | .asm j ts k, ρ => E.inv j (ts.map (Tm.den ρ)) → k.iC E ρ
 | .back j old new, ρ => E.inv j (new.map (Tm.den ρ)) ∧ E.meas j (new.map (Tm.den ρ)) < E.meas j (old.map (Tm.den ρ))
 | .ret ts, ρ => E.ret (ts.map (Tm.den ρ))
 | .cut n k, ρ => k.iC E (ρ.take n)
theorem oC {E : Env} : ∀ {v : VC} {ρ : LD}, v.iC E ρ → v.den E ρ
 | .tt, _, _ => trivial
 | .and a b, ρ, h => ⟨oC h.1, oC h.2⟩
 | .imp t true k, ρ, h => fun ht => oC (h ((zA t).1.2 ht))
 | .imp t false k, ρ, h => fun ht => oC (h ((zA t).2.2 ht))
 | .obl t k, ρ, h => ⟨(zA t).1.1 h.1, fun ht => oC (h.2 ((zA t).1.2 ht))⟩
 | .all s k, ρ, h => by cases s <;> exact fun x => oC (h x)
 | .know f k, ρ, h => fun hf => oC (h (dD2 hf))
 | .pre c ts k, ρ, h => ⟨h.1, oC h.2⟩
 | .post c ts k, ρ, h => fun hp => oC (h hp)
 | .inv j ts k, ρ, h => ⟨h.1, oC h.2⟩
 | .asm j ts k, ρ, h => fun hp => oC (h hp)
 | .back j a b, _, h => h
 | .ret ts, _, h => h
 | .cut n k, ρ, h => oC (v := k) h
def aM1 (cx : Cx) : M := match aM0 cx with | .ok v => .ok (v.tidy 0 []) | .error e => .error e
theorem keeps {cx : Cx} {vc : VC} {f : FuncId} {own : Sig} {l : List (FuncId × Sig)} {invs : List ((LD → Prop) × (LD → Nat))} (hm : cx.P.follows .mixedOrders = true) (hf : cx.P.funcs[f]? = some cx.fn)
  (hname : (cx.fn.name == "runtime.NumGoroutine") = false) (hown : own.toSigR = cx.own) (hs : cx.sigs = uM 1 l) (hl : ∀ x ∈ l, Kept cx.P cx.G x.1 x.2) (h : aM1 cx = .ok vc)
  (hd : vc.iC (jX own (l.map (·.2)) invs) []) (hlen : l.length < 199) : Kept cx.P cx.G f own := by
 unfold aM1 at h
 split at h
 ·rename_i v hv
  cases h
  exact cE3 hm hf hname hown hs hl hv (mD (ρ := []) (K := []) (fun t ht => by cases ht) (oC hd)) hlen
 ·cases h
def VC.aR9 : VC → Bool
 | .tt => true
 | _ => false
def bare : Tm → Bool → Tm × Bool
 | .o1 .not t, p => bare t (!p)
 | t, p => (t, p)
def aY4 : Tm → Option Bool
 | .o2 .eq (.int a) (.int b) => some (a == b)
 | .o2 .lt (.int a) (.int b) => some (decide (a < b))
 | .o2 .le (.int a) (.int b) => some (decide (a ≤ b))
 | _ => none
theorem cS5 {ρ : LD} {t : Tm} {b : Bool} (h : aY4 t = some b) : (t.den ρ).toB = b := by
 unfold aY4 at h
 split at h <;> first | (cases h; rfl) | cases h
def aY3 (K : List (Tm × Bool)) (x : Tm × Bool) : Option Bool :=
 if aY4 x.1 = some x.2 then some true else if aY4 x.1 = some (!x.2) then some false else if x.1 = .bool x.2 then some true else if x.1 = .bool (!x.2) then some false else if K.contains x then some true else if K.contains (x.1, !x.2) then some false else none
def aM5 (n : Nat) (x : Tm × Bool) (K : List (Tm × Bool)) : List (Tm × Bool) := if x.1.under n then x :: K else K
def VC.mk (c : VC → VC) (v : VC) : VC := if v.aR9 then .tt else c v
def VC.mkAnd (a b : VC) : VC := if a.aR9 then b else if b.aR9 then a else .and a b
def VC.jG (n : Nat) (K : List (Tm × Bool)) : VC → VC
 | .tt => .tt
 | .and a b => VC.mkAnd (a.jG n K) (b.jG n K)
 | .imp t p k => match aY3 K (bare t p) with
  | some true => k.jG n K
  | some false => .tt
  | none => VC.mk (.imp t p) (k.jG n (aM5 n (bare t p) K))
 | .obl t k => match aY3 K (bare t true) with
  | some true => k.jG n K
  | _ => .obl t (k.jG n (aM5 n (bare t true) K))
 | .all s k => VC.mk (.all s) (k.jG (n + 1) K)
 | .know f k => VC.mk (.know f) (k.jG n K)
 | .pre c ts k => .pre c ts (k.jG n K)
 | .post c ts k => VC.mk (.post c ts) (k.jG n K)
 | .inv j ts k => .inv j ts (k.jG n K)
 | .asm j ts k => VC.mk (.asm j ts) (k.jG n K)
 | .back j a b => .back j a b
 | .ret ts => .ret ts
 | .cut m k => .cut m (k.jG (min m n) [])
theorem aN2 {ρ : LD} : ∀ (t : Tm) (p : Bool), ((bare t p).1.den ρ).toB = (bare t p).2 ↔ (t.den ρ).toB = p
 | .o1 .not t, p => by
  rw [bare, aN2 t (!p)]
  show _ ↔ (!(t.den ρ).toB) = p
  cases (t.den ρ).toB <;> cases p <;> simp
 | .o1 (.wrap _) _, _ | .o1 .slen _, _ | .o1 .lilen _, _ | .o1 .llen _, _ | .o1 .ofLi _, _ | .o1 .aC _, _ | .o1 .asI _, _ | .o1 .asB _, _ | .o1 .asS _, _ | .o1 .asZ _, _ | .o1 .asL _, _ | .o1 .asV _, _ | .o1 .asN _, _ => Iff.rfl
 | .at _, _ | .int _, _ | .bool _, _ | .str _, _ | .nat _, _ | .lis _, _ | .lnil, _ | .o2 _ _ _, _ | .o3 _ _ _ _, _ => Iff.rfl
def xH (ρ : LD) (K : List (Tm × Bool)) : Prop := ∀ x ∈ K, x.1.under ρ.length = true ∧ (x.1.den ρ).toB = x.2
theorem cS4 {ρ : LD} {K : List (Tm × Bool)} {x : Tm × Bool} {b : Bool} (hK : xH ρ K) (h : aY3 K x = some b) : decide ((x.1.den ρ).toB = x.2) = b := by
 unfold aY3 at h
 split at h
 ·rename_i c; cases h; simp [cS5 (ρ := ρ) c]
 split at h
 ·rename_i c; cases h; rw [cS5 (ρ := ρ) c]; cases x.2 <;> rfl
 split at h
 ·rename_i c; cases h; rw [c]; simp [Tm.den]
 ·split at h
  ·rename_i c; cases h; rw [c]; simp [Tm.den]
  ·split at h
   ·rename_i c; cases h; simpa using (hK x (by simpa using c)).2
   ·split at h
    ·rename_i c
     cases h
     have h1 : (x.1.den ρ).toB = !x.2 := (hK (x.1, !x.2) (by simpa using c)).2
     rw [h1]; cases x.2 <;> rfl
    ·cases h
theorem xH.ext {ρ : LD} {K : List (Tm × Bool)} (h : xH ρ K) (d : D) : xH (ρ ++ [d]) K := by
 intro t ht
 obtain ⟨h1, h2⟩ := h t ht
 exact ⟨Tm.mZ h1 (by simp), by rw [Tm.cO h1]; exact h2⟩
theorem xH.add {ρ : LD} {K : List (Tm × Bool)} {x : Tm × Bool} (h : xH ρ K) (h2 : (x.1.den ρ).toB = x.2) : xH ρ (aM5 ρ.length x K) := by
 unfold aM5
 split
 ·rename_i c
  intro y hy
  rcases List.mem_cons.1 hy with rfl | hy
  ·exact ⟨c, h2⟩
  ·exact h y hy
 ·exact h
theorem yG {E : Env} {v : VC} (h : v.aR9 = true) (ρ : LD) : v.den E ρ := by
 cases v <;> first | trivial | cases h
theorem iV {E : Env} : ∀ {v : VC} {ρ : LD} {K : List (Tm × Bool)}, xH ρ K → (v.jG ρ.length K).den E ρ → v.den E ρ
 | .tt, _, _, _, _ => trivial
 | .and a b, ρ, K, hK, h => by
  simp only [VC.jG, VC.mk, VC.mkAnd] at h
  split at h
  ·rename_i c; exact ⟨iV hK (yG c ρ), iV hK h⟩
  ·split at h
   ·rename_i c; exact ⟨iV hK h, iV hK (yG c ρ)⟩
   ·exact ⟨iV hK h.1, iV hK h.2⟩
 | .imp t p k, ρ, K, hK, h => by
  intro ht
  have hb := (aN2 (ρ := ρ) t p).2 ht
  simp only [VC.jG, VC.mk, VC.mkAnd] at h
  split at h
  ·exact iV hK h
  ·rename_i c
   have := cS4 hK c
   simp [hb] at this
  ·split at h
   ·rename_i c; exact iV (hK.add hb) (yG c ρ)
   ·exact iV (hK.add hb) (h ht)
 | .obl t k, ρ, K, hK, h => by
  simp only [VC.jG, VC.mk, VC.mkAnd] at h
  split at h
  ·rename_i c
   have := cS4 hK c
   have hb : ((bare t true).1.den ρ).toB = (bare t true).2 := by simpa using this
   exact ⟨(aN2 t true).1 hb, fun _ => iV hK h⟩
  ·exact ⟨h.1, fun ht => iV (hK.add ((aN2 t true).2 ht)) (h.2 ht)⟩
 | .all s k, ρ, K, hK, h => by
  have e : ∀ d : D, (ρ ++ [d]).length = ρ.length + 1 := fun d => by simp
  simp only [VC.jG, VC.mk, VC.mkAnd] at h
  split at h
  ·rename_i c; cases s <;> exact fun x => iV (hK.ext _) (by rw [e]; exact yG c _)
  ·cases s <;> exact fun x => iV (hK.ext _) (by rw [e]; exact h x)
 | .know f k, ρ, K, hK, h => by
  simp only [VC.jG, VC.mk, VC.mkAnd] at h
  split at h
  ·rename_i c; exact fun _ => iV hK (yG c _)
  ·exact fun hf => iV hK (h hf)
 | .pre c ts k, ρ, K, hK, h => ⟨h.1, iV hK h.2⟩
 | .post c ts k, ρ, K, hK, h => by
  simp only [VC.jG, VC.mk, VC.mkAnd] at h
  split at h
  ·rename_i c; exact fun _ => iV hK (yG c _)
  ·exact fun hf => iV hK (h hf)
 | .inv j ts k, ρ, K, hK, h => ⟨h.1, iV hK h.2⟩
 | .asm j ts k, ρ, K, hK, h => by
  simp only [VC.jG, VC.mk, VC.mkAnd] at h
  split at h
  ·rename_i c; exact fun _ => iV hK (yG c _)
  ·exact fun hf => iV hK (h hf)
 | .back j a b, _, _, _, h => h
 | .ret ts, _, _, _, h => h
 | .cut m k, ρ, K, hK, h => by
  show k.den E (ρ.take m)
  exact iV (ρ := ρ.take m) (K := []) (fun t ht => by cases ht) (by rw [List.length_take]; exact h)
def bQ7 (cx : Cx) : M := match aM1 cx with | .ok v => .ok (v.jG 0 []) | .error e => .error e
theorem dG2 {cx : Cx} {vc : VC} {f : FuncId} {own : Sig} {l : List (FuncId × Sig)} {invs : List ((LD → Prop) × (LD → Nat))} (hm : cx.P.follows .mixedOrders = true) (hf : cx.P.funcs[f]? = some cx.fn)
  (hname : (cx.fn.name == "runtime.NumGoroutine") = false) (hown : own.toSigR = cx.own) (hs : cx.sigs = uM 1 l) (hl : ∀ x ∈ l, Kept cx.P cx.G x.1 x.2) (h : bQ7 cx = .ok vc)
  (hd : vc.iC (jX own (l.map (·.2)) invs) []) (hlen : l.length < 199) : Kept cx.P cx.G f own := by
 unfold bQ7 aM1 at h
 split at h
 ·rename_i v hv
  cases h
  split at hv
  ·rename_i v0 hv0
   cases hv
   exact cE3 hm hf hname hown hs hl hv0 (mD (ρ := []) (K := []) (fun t ht => by cases ht) (iV (ρ := []) (K := []) (fun t ht => by cases ht) (oC hd))) hlen
  ·cases hv
 ·cases h
def aO8 (cx : Cx) (E : Env) : Prop := match bQ7 cx with | .ok v => v.iC E [] | .error _ => False
def aO9 (cx : Cx) (E : Env) : Prop := match aM1 cx with | .ok v => v.iC E [] | .error _ => False
theorem dG1 {cx : Cx} {f : FuncId} {own : Sig} {l : List (FuncId × Sig)} {invs : List ((LD → Prop) × (LD → Nat))} {ss : List Sig} {Q : Prop} (hm : cx.P.follows .mixedOrders = true) (hf : cx.P.funcs[f]? = some cx.fn)
  (hname : (cx.fn.name == "runtime.NumGoroutine") = false) (hown : own.toSigR = cx.own) (hs : cx.sigs = uM 1 l) (hl : ∀ x ∈ l, Kept cx.P cx.G x.1 x.2)
  (hss : l.map (·.2) = ss) (hq : aO8 cx (jX own ss invs) = Q) (q : Q) (hlen : l.length < 199) : Kept cx.P cx.G f own := by
 have hd : aO8 cx (jX own (l.map (·.2)) invs) := by rw [hss]; exact Eq.mpr hq q
 unfold aO8 at hd
 split at hd
 ·rename_i v hv; exact dG2 hm hf hname hown hs hl hv hd hlen
 ·exact hd.elim
theorem dG3 {cx : Cx} {f : FuncId} {own : Sig} {l : List (FuncId × Sig)} {invs : List ((LD → Prop) × (LD → Nat))} {ss : List Sig} {Q : Prop} (hm : cx.P.follows .mixedOrders = true) (hf : cx.P.funcs[f]? = some cx.fn)
  (hname : (cx.fn.name == "runtime.NumGoroutine") = false) (hown : own.toSigR = cx.own) (hs : cx.sigs = uM 1 l) (hl : ∀ x ∈ l, Kept cx.P cx.G x.1 x.2)
  (hss : l.map (·.2) = ss) (hq : aO9 cx (jX own ss invs) = Q) (q : Q) (hlen : l.length < 199) : Kept cx.P cx.G f own := by
 have hd : aO9 cx (jX own (l.map (·.2)) invs) := by rw [hss]; exact Eq.mpr hq q
 unfold aO9 at hd
 split at hd
 ·rename_i v hv; exact keeps hm hf hname hown hs hl hv hd hlen
 ·exact hd.elim
end Go.Vc
namespace Go.Vc
theorem xG (a b : LI) : textOf a ++ textOf b = textOf (a ++ b) := by
 simp [textOf, ByteArray.ext_iff]
theorem bU1 (a b : BA) : bytesOf (a ++ b) = bytesOf a ++ bytesOf b := by simp [bytesOf]
theorem nX (s : BA) : ∀ x ∈ bytesOf s, 0 ≤ x ∧ x < 256 := by
 intro x hx
 simp only [bytesOf, List.mem_map] at hx
 obtain ⟨b, _, rfl⟩ := hx
 have := b.toNat_lt
 omega
theorem aL8 (s : BA) : textOf (bytesOf s) = s := by
 cases s with
 | mk d =>
  simp [textOf, bytesOf, Function.comp_def]
theorem lK : ∀ {l : LI}, (∀ x ∈ l, 0 ≤ x ∧ x < 256) → bytesOf (textOf l) = l := by
 intro l h
 simp only [bytesOf, textOf, List.map_map]
 conv => rhs; rw [← List.map_id l]
 apply List.map_congr_left
 intro x hx
 have := h x hx
 simp only [Function.comp, id]
 have e : (UInt8.ofNat x.toNat).toNat = x.toNat % 256 := by simp
 rw [e]
 omega
theorem aF1 (s : BA) (i : Int) : byteAt s i = (bytesOf s).getD i.toNat 0 := by
 simp only [byteAt, bytesOf, List.getD, List.getElem?_map]
 cases s.data.toList[i.toNat]? <;> rfl
theorem aE3 {a b : BA} (h : bytesOf a = bytesOf b) : a = b := by rw [← aL8 a, h, aL8]
theorem rG (s : BA) (a b : Nat) : bytesOf (s.extract a b) = ((bytesOf s).take b).drop a := by
 simp [bytesOf, ByteArray.data_extract, List.map_drop, List.map_take]
 rw [List.drop_take]
theorem bytesOf_length' (s : BA) : (bytesOf s).length = s.size := by simp [bytesOf]
end Go.Vc
namespace Go.Vc
open Go.RowKit (Below)
def yes : LD → Prop
 | l => l.getLast? = some (.B true)
theorem dL4 {l : LD} {b : Bool} (h : yes (l ++ [.B b])) : b = true := by simpa [yes] using h
theorem bM0 {ρ : LD} : ∀ {as : List AK} {n : Nat}, owns ρ (uZ false n as) = []
 | [], _ => rfl
 | a :: as, n => by
  have h := bM0 (ρ := ρ) (as := as) (n := n + a.aA.length)
  rw [uZ, fK, h, List.append_nil]
  cases a with
  | l ek =>
   have : ∀ b : Bool, owns ρ (Ch.rsl (.at n) ek (.at (n + 1)) :: (if b = true then [] else [.abs (.deep ek) [.at (n + 1)]])) = [] := fun b => by cases b <;> rfl
   exact this (jU ek)
  | _ => rfl
theorem dH0 {P : Program} {G : List Glob} {f : FuncId} {as : List AK} {pre : LD → Prop} (hk : Kept P G f (gQ as [.b] pre yes)) {args : Array Value} {ρ : LD} {w : World}
  (hs : aY (lX as) ρ) (hp : pre ρ) (ha : bM ρ (vU 0 as) args.toList) (hh : aP ρ (uZ false 0 as) w) (hg : ∀ g ∈ G, g.holds w) :
  Calls P f args w fun e w' => e = .returned (.bool true) ∧ Below w.heap.size w w' := by
 refine (hk.holds w args ρ hs hp ha hh (fun g h => ⟨hg g h, by show _ ∉ owns ρ (uZ false 0 as); rw [bM0]; simp⟩)).mono ?_
 rintro e w' ⟨v, rfl, hfit⟩
 rcases hfit with hfit | ⟨r, hr, _⟩
 rotate_left
 ·cases hr
 obtain ⟨σ, hσ, hpost, hres, _, _, _, hfr⟩ := hfit
 have hfr : sN w (owns ρ (uZ false 0 as)) w' := hfr
 rw [bM0] at hfr
 refine ⟨?_, hfr.below⟩
 have hσ : aY [.B] σ := hσ
 match σ, hσ with
 | [d], hd =>
  obtain ⟨b, rfl⟩ := hd.1
  have hb : b = true := dL4 hpost
  subst hb
  have hl := dF hs
  have hv : v = .bool ((ρ ++ [D.B true]).getD (lX as).length default).toB := hres
  rw [hv]
  simp [List.getD, ← hl]
theorem dK9 {ρ : LD} {w : World} : aP ρ [] w := ⟨by simp, by simp [owns], by simp⟩
theorem bT3 {ρ : LD} {b : Bool} {i : Nat} (h : ρ[i]? = some (.B b)) : (SV.one (.lf (.bool (.at i)))).holds ρ (.bool b) := by
 have e : (Tm.den ρ (.at i)) = .B b := by simp [Tm.den, List.getD, h]
 show Value.bool b = .bool (Tm.den ρ (.at i)).toB
 rw [e]; rfl
theorem str_holds {ρ : LD} {s : BA} {i : Nat} (h : ρ[i]? = some (.S s)) (hs : s.size ≤ 140737488351232) : (SV.one (.lf (.str (.at i)))).holds ρ (.string s) := by
 have e : (Tm.den ρ (.at i)) = .S s := by simp [Tm.den, List.getD, h]
 show Value.string s = .string (Tm.den ρ (.at i)).toS ∧ ((Tm.den ρ (.at i)).toS.size : Int) ≤ fG
 rw [e]; refine ⟨rfl, ?_⟩
 show (s.size : Int) ≤ 9223372036854775807
 omega
theorem bP6 {ρ : LD} {x : SV} {xs : List SV} {v : Value} {vs : List Value} (h : x.holds ρ v) (h' : bM ρ xs vs) : bM ρ (x :: xs) (v :: vs) := ⟨v, vs, rfl, h, h'⟩
theorem dT8 {ρ : LD} : bM ρ [] [] := rfl
end Go.Vc
namespace Go.Vc
theorem bI7 {P : Program} {G : List Glob} {f : FuncId} {s s' : Sig} (hk : Kept P G f s) (θ τ : List Tm) (ha : s.alt = none) (ha' : s'.alt = none)
  (e1 : s'.args = s.args.map (SV.subst 0 θ)) (e2 : s'.heap = s.heap.map (Ch.subst 0 θ)) (e3 : s'.res = s.res.subst 0 (θ ++ τ)) (e4 : s'.heap' = s.heap'.map (Ch.subst 0 (θ ++ τ)))
  (hu : θ.all (Tm.under s'.aA.length) = true)
  (hs : ∀ ρ, aY s'.aA ρ → s'.pre ρ → aY s.aA (θ.map (Tm.den ρ)) ∧ s.pre (θ.map (Tm.den ρ)))
  (hn : ∀ ρ σ, aY s'.aA ρ → s'.pre ρ → aY s.news σ → s.post (θ.map (Tm.den ρ) ++ σ) → ∃ σ', aY s'.news σ' ∧ τ.map (Tm.den (ρ ++ σ')) = σ ∧ s'.post (ρ ++ σ')) : Kept P G f s' := by
 refine ⟨?_, hk.body⟩
 intro w args ρ hsr hp hargs hh hg
 obtain ⟨hsr1, hp1⟩ := hs ρ hsr hp
 have hargs1 : bM (θ.map (Tm.den ρ)) s.args args.toList := by
  rw [e1] at hargs
  have := aX8 (ρ := []) (σ := ρ) (θ := θ) s.args args.toList
  rw [List.nil_append, List.nil_append, List.length_nil] at this
  rw [← this]; exact hargs
 have hh1 : aP (θ.map (Tm.den ρ)) s.heap w := by
  rw [e2] at hh
  exact aP.aT9 (ρ := []) (σ := ρ) (θ := θ) hh
 have ho : owns ρ s'.heap = owns (θ.map (Tm.den ρ)) s.heap := by
  rw [e2]; exact uD (ρ := []) (σ := ρ) (θ := θ) s.heap
 have hr : ros ρ s'.heap = ros (θ.map (Tm.den ρ)) s.heap := by
  rw [e2]; exact aD1 (ρ := []) (σ := ρ) (θ := θ) s.heap
 refine (hk.holds w args (θ.map (Tm.den ρ)) hsr1 hp1 hargs1 hh1 (by rw [← ho]; exact hg)).mono ?_
 rintro e w' ⟨v, rfl, hfit⟩
 rcases hfit with hfit | ⟨r, hr2, _⟩
 rotate_left
 ·unfold Sig.toSigR SigR.second at hr2
  cases hx : s.alt with
  | none => simp only [hx] at hr2; cases hr2
  | some x => rw [ha] at hx; cases hx
 obtain ⟨σ, h1, h2, h3, h4, h5, h6, h7⟩ := hfit
 obtain ⟨σ', k1, k2, k3⟩ := hn ρ σ hsr hp h1 h2
 have hρ : (θ ++ τ).map (Tm.den (ρ ++ σ')) = θ.map (Tm.den ρ) ++ σ := by
  rw [List.map_append, k2]
  refine congrArg (· ++ σ) (List.map_congr_left fun t ht => ?_)
  have hl := dF hsr
  exact Tm.cO (by rw [hl]; exact List.all_eq_true.1 hu t ht)
 have ho' : owns (ρ ++ σ') s'.heap' = owns (θ.map (Tm.den ρ) ++ σ) s.heap' := by
  rw [e4, ← hρ]; exact uD (ρ := []) (σ := ρ ++ σ') (θ := θ ++ τ) s.heap'
 have hr' : ros (ρ ++ σ') s'.heap' = ros (θ.map (Tm.den ρ) ++ σ) s.heap' := by
  rw [e4, ← hρ]; exact aD1 (ρ := []) (σ := ρ ++ σ') (θ := θ ++ τ) s.heap'
 refine ⟨v, rfl, .inl ⟨σ', k1, k3, ?_, ?_, ?_, ?_, ?_⟩⟩
 ·have := SV.oW (ρ := []) (σ := ρ ++ σ') (θ := θ ++ τ) s.res v
  rw [List.nil_append, List.nil_append, List.length_nil, hρ] at this
  show s'.res.holds (ρ ++ σ') v
  rw [e3, this]; exact h3
 ·show aP (ρ ++ σ') s'.heap' w'
  rw [e4]
  refine aP.cS3 (ρ := []) (σ := ρ ++ σ') (θ := θ ++ τ) ?_
  rw [List.nil_append, List.nil_append, hρ]; exact h4
 ·intro b hb
  have hb : b ∈ owns (ρ ++ σ') s'.heap' := hb
  rw [ho'] at hb
  show b ∈ owns ρ s'.heap ∨ _
  rw [ho]; exact h5 b hb
 ·intro b hb
  have hb : b ∈ ros (ρ ++ σ') s'.heap' := hb
  rw [hr'] at hb
  show b ∈ owns ρ s'.heap ∨ _ ∨ b ∈ ros ρ s'.heap
  rw [ho, hr]; exact h6 b hb
 ·show sN w (owns ρ s'.heap) w'
  rw [ho]; exact h7
end Go.Vc