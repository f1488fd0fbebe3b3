/-
 The document's sums of 256 bits: blocks, the plain part.
 The document's sums of 256 bits: a block, the plain part.
 The document's sums of 256 bits: all bytes, the plain part.
 Sums of 256 bits: the law that bytes have their sums.
-/
import Derived.Test.YtmgeaephkagdiaaGreatDoorShac
set_option linter.unusedVariables false
set_option linter.unusedSimpArgs false
open _root_.Go.IntKind (wrap)
namespace Go.Vc
theorem bO3 {a b : Int} (ha : 0 ≤ a ∧ a < 4294967296) (hb : 0 ≤ b ∧ b < 4294967296) (h : ∀ i, i < 32 → bt a i = bt b i) : a = b := by
 apply bF4 ((rD _).2 ⟨ha.1, by omega⟩) ((rD _).2 ⟨hb.1, by omega⟩)
 intro i hi
 by_cases c : i < 32
 ·exact h i c
 ·rw [oO (w := 32) ha.1 ha.2 (by omega), oO (w := 32) hb.1 hb.2 (by omega)]
theorem aY8 (o : BinOp) (a b : Int) : 0 ≤ Go.bits o .u32 a b ∧ Go.bits o .u32 a b < 4294967296 := qJ.1 (bB6 o .u32 a b)
theorem cY8 {y : Int} (hy : 0 ≤ y ∧ y < 4294967296) (i : Nat) (hi : i < 32) : bt (y / 2 + y % 2 * 2147483648) i = bt y ((i + 1) % 32) := by
 by_cases c : i = 31
 ·subst c
  have e1 : (y / 2 + y % 2 * 2147483648) / 2 ^ 31 % 2 = y % 2 := by
   have h31 : (2 : Int) ^ 31 = 2147483648 := by decide
   have h1 : 0 ≤ y / 2 ∧ y / 2 < 2147483648 := by omega
   have h2 : 0 ≤ y % 2 ∧ y % 2 < 2 := by omega
   rw [h31]
   generalize y / 2 = a at *
   generalize y % 2 = b at *
   have h3 : (a + b * 2147483648) / 2147483648 = b := by omega
   rw [h3]; omega
  have e2 : y / 2 ^ 0 % 2 = y % 2 := by rw [Int.pow_zero, Int.ediv_one]
  show bt (y / 2 + y % 2 * 2147483648) 31 = bt y 0
  simp only [bt, e1, e2]
 ·have h := wE (y / 2) (y % 2) (w := 31) (i := i) (by omega)
  have e : (2 : Int) ^ 31 = 2147483648 := by decide
  rw [e] at h
  rw [h, show (i + 1) % 32 = i + 1 from by omega]
  have := zJ y 1 i
  rw [Int.pow_one] at this
  exact this
theorem bT7 {x : Int} (hx : 0 ≤ x ∧ x < 4294967296) : ∀ (n i : Nat), i < 32 → bt (iW x n) i = bt x ((i + n) % 32)
 | 0, i, hi => by rw [Nat.add_zero, Nat.mod_eq_of_lt hi]; rfl
 | n + 1, i, hi => by
  have ih := bT7 hx n ((i + 1) % 32) (Nat.mod_lt _ (by decide))
  show bt (iW x n / 2 + iW x n % 2 * 2147483648) i = _
  rw [cY8 (aY5 hx n) i hi, ih]
  congr 1; omega
theorem dU6 (x n : Int) : 0 ≤ t32 x n ∧ t32 x n < 4294967296 := aY8 _ _ _
theorem uP {x : Int} (hx : 0 ≤ x ∧ x < 4294967296) (n : Nat) (hn : n < 32) : iW x n = t32 x (-(n : Int)) := by
 refine bO3 (aY5 hx n) (dU6 _ _) fun i hi => ?_
 have h : ∀ i, i < 32 → bt (t32 x (-(n : Int))) i = bt x (((i : Int) - (-(n : Int))) % 32).toNat := vX.pure x (-(n : Int)) hx (by omega) trivial
 rw [h i hi, bT7 hx n i hi]
 congr 1; omega
theorem dL0 {x : Int} (_hx : 0 ≤ x ∧ x < 4294967296) : (4294967295 : Int) - x = Go.bits .xor .u32 (4294967295 : Int) x := by
 refine bO3 (by omega) (aY8 _ _ _) fun i hi => ?_
 rw [cZ0 .u32 _ _ hi]
 have e1 : (4294967295 : Int) - x = (-x - 1) + 1 * 2 ^ 32 := by
  have : (2 : Int) ^ 32 = 4294967296 := by decide
  rw [this]; omega
 have e2 : bt 4294967295 i = true := by
  have : (4294967295 : Int) = -1 + 1 * 2 ^ 32 := by decide
  rw [this, wE _ _ hi, cY5]
 rw [e1, wE _ _ hi, cY6, e2]; simp
theorem bF5 {x : Int} (n : Nat) (hn : n ≤ 32) : aW .u32 x (n : Int) = x / 2 ^ n := by
 show x.fdiv (2 ^ (Nat.min ((n : Int)).toNat 32)) = x / 2 ^ n
 rw [show ((n : Int)).toNat = n from by omega, show Nat.min n 32 = n from Nat.min_eq_left hn]
 exact Int.fdiv_eq_ediv_of_nonneg _ (Int.le_of_lt (oJ n))
theorem dX8 {a b c d : Int} (ha : 0 ≤ a ∧ a < 256) (hb : 0 ≤ b ∧ b < 256) (hc : 0 ≤ c ∧ c < 256) (hd : 0 ≤ d ∧ d < 256) :
  Go.bits .or .u32 (Go.bits .or .u32 (Go.bits .or .u32 (fC .u32 a 24) (fC .u32 b 16)) (fC .u32 c 8)) d = a * 16777216 + b * 65536 + c * 256 + d := by
 have hh : ∀ x ∈ [d, c, b, a], 0 ≤ x ∧ x < 256 := by
  intro x hx
  simp only [List.mem_cons, List.not_mem_nil, or_false] at hx
  rcases hx with rfl | rfl | rfl | rfl <;> assumption
 have en : a * 16777216 + b * 65536 + c * 256 + d = numOf [d, c, b, a] := by simp only [numOf]; omega
 refine bO3 (aY8 _ _ _) (by omega) fun i hi => ?_
 have z : ∀ {v : Int}, 0 ≤ v ∧ v < 256 → ∀ {j : Nat}, 8 ≤ j → bt v j = false := fun {v} h {j} hj => oO (w := 8) h.1 h.2 hj
 rw [en, bT6 hh, zL .u32 _ _ hi, zL .u32 _ _ hi, zL .u32 _ _ hi, zM .u32 _ _ hi, zM .u32 _ _ hi, zM .u32 _ _ hi]
 simp only [show (24 : Int).toNat = 24 from rfl, show (16 : Int).toNat = 16 from rfl, show (8 : Int).toNat = 8 from rfl]
 by_cases c1 : i < 8
 ·rw [show i / 8 = 0 from by omega, show i % 8 = i from by omega]
  simp [show ¬ 24 ≤ i from by omega, show ¬ 16 ≤ i from by omega, show ¬ 8 ≤ i from by omega]
 ·by_cases c2 : i < 16
  ·rw [show i / 8 = 1 from by omega, show i % 8 = i - 8 from by omega, z hd (by omega : 8 ≤ i)]
   simp [show ¬ 24 ≤ i from by omega, show ¬ 16 ≤ i from by omega, show 8 ≤ i from by omega]
  ·by_cases c3 : i < 24
   ·rw [show i / 8 = 2 from by omega, show i % 8 = i - 16 from by omega, z hd (by omega : 8 ≤ i), z hc (by omega : 8 ≤ i - 8)]
    simp [show ¬ 24 ≤ i from by omega, show 16 ≤ i from by omega]
   ·rw [show i / 8 = 3 from by omega, show i % 8 = i - 24 from by omega, z hd (by omega : 8 ≤ i), z hc (by omega : 8 ≤ i - 8), z hb (by omega : 8 ≤ i - 16)]
    simp [show 24 ≤ i from by omega]
theorem cO4 (b : LI) : ∀ (m j : Nat), j < m → m ≤ 64 → (uK b m).getD j 0 = wordAt b (j : Int)
 | 0, j, h, _ => by omega
 | m + 1, j, h, hm => by
  rw [uK, aR0 _ _ _ (by rw [bO6]; omega)]
  split
  ·rename_i e; rw [e]
  ·exact cO4 b m j (by omega) (by omega)
theorem cO8 (b : LI) : ∀ (m j : Nat), j < 16 → m ≤ 48 → (lW b m).getD j 0 = wordAt b (j : Int)
 | 0, j, h, _ => cO4 b 16 j h (by decide)
 | m + 1, j, h, hm => by
  rw [lW, aR0 _ _ _ (by rw [aL0]; omega), if_neg (by omega)]
  exact cO8 b m j h (by omega)
theorem bO2 (b : LI) : ∀ (m n j : Nat), j < n + 16 → n ≤ m → m ≤ 48 → (lW b m).getD j 0 = (lW b n).getD j 0
 | 0, n, j, _, h, _ => by rw [show n = 0 from by omega]
 | m + 1, n, j, hj, hn, hm => by
  by_cases c : n = m + 1
  ·rw [c]
  ·rw [lW, aR0 _ _ _ (by rw [aL0]; omega), if_neg (by omega)]
   exact bO2 b m n j hj (by omega) (by omega)
theorem bR8 (b : LI) {j : Nat} (h : j < 16) : (bZ b).getD j 0 = wordAt b (j : Int) := cO8 b 48 j h (Nat.le_refl _)
theorem bR9 (b : LI) {i : Nat} (h : 16 ≤ i) (h' : i < 64) : (bZ b).getD i 0 = aI4 ((bZ b).getD (i - 16) 0) ((bZ b).getD (i - 15) 0) ((bZ b).getD (i - 7) 0) ((bZ b).getD (i - 2) 0) := by
 obtain ⟨n, rfl⟩ : ∃ n, i = n + 16 := ⟨i - 16, by omega⟩
 have e : ∀ j, j < n + 16 → (bZ b).getD j 0 = (lW b n).getD j 0 := fun j hj => bO2 b 48 n j hj (by omega) (Nat.le_refl _)
 have e1 : (bZ b).getD (n + 16) 0 = (lW b (n + 1)).getD (n + 16) 0 := bO2 b 48 (n + 1) (n + 16) (by omega) (by omega) (Nat.le_refl _)
 rw [e1, lW, aR0 _ _ _ (by rw [aL0]; omega), if_pos rfl, e _ (by omega), e _ (by omega), e _ (by omega), e _ (by omega), bL0]
 rw [aH (x := ((n + 16 : Nat) : Int) - 16) (by omega) (by omega), aH (x := ((n + 16 : Nat) : Int) - 15) (by omega) (by omega), aH (x := ((n + 16 : Nat) : Int) - 7) (by omega) (by omega), aH (x := ((n + 16 : Nat) : Int) - 2) (by omega) (by omega)]
 rw [show (((n + 16 : Nat) : Int) - 16).toNat = n + 16 - 16 from by omega, show (((n + 16 : Nat) : Int) - 15).toNat = n + 16 - 15 from by omega, show (((n + 16 : Nat) : Int) - 7).toNat = n + 16 - 7 from by omega, show (((n + 16 : Nat) : Int) - 2).toNat = n + 16 - 2 from by omega]
theorem dX7 {b : LI} (hb : ∀ x ∈ b, 0 ≤ x ∧ x < 256) {j : Nat} (h : j < 1000) :
  wordAt b (j : Int) = b.getD (4 * j) 0 * 16777216 + b.getD (4 * j + 1) 0 * 65536 + b.getD (4 * j + 2) 0 * 256 + b.getD (4 * j + 3) 0 := by
 have g : ∀ i, 0 ≤ b.getD i 0 ∧ b.getD i 0 < 256 := by
  intro i
  rw [List.getD]
  cases hc : b[i]? with
  | none => simp
  | some x => exact hb x (List.mem_of_getElem? hc)
 have w : ∀ i, wrap .u32 (b.getD i 0) = b.getD i 0 := fun i => mY (g i).1 (by have := (g i).2; omega)
 rw [wordAt, aH (x := 4 * (j : Int)) (by omega) (by omega), aH (x := 4 * (j : Int) + 1) (by omega) (by omega), aH (x := 4 * (j : Int) + 2) (by omega) (by omega), aH (x := 4 * (j : Int) + 3) (by omega) (by omega)]
 rw [show (4 * (j : Int)).toNat = 4 * j from by omega, show (4 * (j : Int) + 1).toNat = 4 * j + 1 from by omega, show (4 * (j : Int) + 2).toNat = 4 * j + 2 from by omega, show (4 * (j : Int) + 3).toNat = 4 * j + 3 from by omega, w, w, w, w]
 exact dX8 (g _) (g _) (g _) (g _)
theorem aX9 {l : LI} {n j : Nat} (h : j < n) : (l.take n).getD j 0 = l.getD j 0 := bP8 h
theorem dX6 (b : LI) (i : Int) : 0 ≤ wordAt b i ∧ wordAt b i < 4294967296 := aY8 _ _ _
theorem dK5 (a b c d : Int) : 0 ≤ aI4 a b c d ∧ aI4 a b c d < 4294967296 := qJ.1 (bR0 .u32 _)
theorem bR7 (b : LI) {i : Nat} (h : i < 64) : 0 ≤ (bZ b).getD i 0 ∧ (bZ b).getD i 0 < 4294967296 := by
 by_cases c : i < 16
 ·rw [bR8 b c]; exact dX6 _ _
 ·rw [bR9 b (by omega) h]; exact dK5 _ _ _ _
end Go.Vc
namespace Go.Vc
def aP2 (a b c d : Int) : Int :=
 (wrap .u32 ((wrap .u32 ((wrap .u32 ((wrap .u32 ((wrap .u32 a) * (16777216 : Int))) + (wrap .u32 ((wrap .u32 b) * (65536 : Int))))) + (wrap .u32 ((wrap .u32 c) * (256 : Int))))) + (wrap .u32 d)))
def aP1 (p x q y a b c d : Int) : Int :=
 (wrap .u32 ((wrap .u32 ((wrap .u32 (p + (Go.bits .xor .u32 (Go.bits .xor .u32 a b) (wrap .u32 (Int.tdiv x (8 : Int)))))) + q)) + (Go.bits .xor .u32 (Go.bits .xor .u32 c d) (wrap .u32 (Int.tdiv y (1024 : Int))))))
def bV9 (v : LI) (k w a b c n d e f : Int) : LI :=
 ((((wrap .u32 ((wrap .u32 ((wrap .u32 ((wrap .u32 ((wrap .u32 ((v.getD (7 : Int).toNat 0) + (Go.bits .xor .u32 (Go.bits .xor .u32 a b) c))) + (Go.bits .xor .u32 (Go.bits .and .u32 (v.getD (4 : Int).toNat 0) (v.getD (5 : Int).toNat 0)) (Go.bits .and .u32 n (v.getD (6 : Int).toNat 0))))) + k)) + w)) + (wrap .u32 ((Go.bits .xor .u32 (Go.bits .xor .u32 d e) f) + (Go.bits .xor .u32 (Go.bits .xor .u32 (Go.bits .and .u32 (v.getD (0 : Int).toNat 0) (v.getD (1 : Int).toNat 0)) (Go.bits .and .u32 (v.getD (0 : Int).toNat 0) (v.getD (2 : Int).toNat 0))) (Go.bits .and .u32 (v.getD (1 : Int).toNat 0) (v.getD (2 : Int).toNat 0))))))) :: ([] : LI)) ++ (v.take (7 : Int).toNat)).set (4 : Int).toNat (wrap .u32 (((((wrap .u32 ((wrap .u32 ((wrap .u32 ((wrap .u32 ((wrap .u32 ((v.getD (7 : Int).toNat 0) + (Go.bits .xor .u32 (Go.bits .xor .u32 a b) c))) + (Go.bits .xor .u32 (Go.bits .and .u32 (v.getD (4 : Int).toNat 0) (v.getD (5 : Int).toNat 0)) (Go.bits .and .u32 n (v.getD (6 : Int).toNat 0))))) + k)) + w)) + (wrap .u32 ((Go.bits .xor .u32 (Go.bits .xor .u32 d e) f) + (Go.bits .xor .u32 (Go.bits .xor .u32 (Go.bits .and .u32 (v.getD (0 : Int).toNat 0) (v.getD (1 : Int).toNat 0)) (Go.bits .and .u32 (v.getD (0 : Int).toNat 0) (v.getD (2 : Int).toNat 0))) (Go.bits .and .u32 (v.getD (1 : Int).toNat 0) (v.getD (2 : Int).toNat 0))))))) :: ([] : LI)) ++ (v.take (7 : Int).toNat)).getD (4 : Int).toNat 0) + (wrap .u32 ((wrap .u32 ((wrap .u32 ((wrap .u32 ((v.getD (7 : Int).toNat 0) + (Go.bits .xor .u32 (Go.bits .xor .u32 a b) c))) + (Go.bits .xor .u32 (Go.bits .and .u32 (v.getD (4 : Int).toNat 0) (v.getD (5 : Int).toNat 0)) (Go.bits .and .u32 n (v.getD (6 : Int).toNat 0))))) + k)) + w)))))
theorem dB5 {a b c d : Int} (ha : 0 ≤ a ∧ a < 256) (hb : 0 ≤ b ∧ b < 256) (hc : 0 ≤ c ∧ c < 256) (hd : 0 ≤ d ∧ d < 256) : aP2 a b c d = a * 16777216 + b * 65536 + c * 256 + d := by
 unfold aP2
 rw [mY (x := a) (by omega) (by omega), mY (x := b) (by omega) (by omega), mY (x := c) (by omega) (by omega), mY (x := d) (by omega) (by omega), mY (x := a * 16777216) (by omega) (by omega), mY (x := b * 65536) (by omega) (by omega),
  mY (x := c * 256) (by omega) (by omega), mY (x := a * 16777216 + b * 65536) (by omega) (by omega), mY (x := a * 16777216 + b * 65536 + c * 256) (by omega) (by omega), mY (by omega) (by omega)]
theorem aF8 {x : Int} (hx : 0 ≤ x ∧ x < 4294967296) (n : Nat) (hn : n ≤ 32) (m : Int) (hm : m = 2 ^ n) (hp : 0 < m) : wrap .u32 (Int.tdiv x m) = aW .u32 x (n : Int) := by
 have h1 : 0 ≤ x / m := Int.ediv_nonneg hx.1 (Int.le_of_lt hp)
 have h2 : x / m ≤ x := Int.ediv_le_self _ hx.1
 rw [Int.tdiv_eq_ediv_of_nonneg hx.1, mY h1 (by omega), bF5 n hn, hm]
theorem dB2 {p x q y a b c d : Int} (hx : 0 ≤ x ∧ x < 4294967296) (hy : 0 ≤ y ∧ y < 4294967296) (ha : a = iW x 7) (hb : b = iW x 18) (hc : c = iW y 17) (hd : d = iW y 19) : aP1 p x q y a b c d = aI4 p x q y := by
 rw [uP hx 7 (by decide)] at ha
 rw [uP hx 18 (by decide)] at hb
 rw [uP hy 17 (by decide)] at hc
 rw [uP hy 19 (by decide)] at hd
 unfold aP1
 rw [aF8 hx 3 (by decide) 8 (by decide) (by decide), aF8 hy 10 (by decide) 1024 (by decide) (by decide), ha, hb, hc, hd]
 rfl
theorem dB4 {v : LI} {k w a b c n d e f : Int} (hl : v.length = 8) (h4 : 0 ≤ v.getD 4 0 ∧ v.getD 4 0 < 4294967296) (h0 : 0 ≤ v.getD 0 0 ∧ v.getD 0 0 < 4294967296)
  (ha : a = iW (v.getD 4 0) 6) (hb : b = iW (v.getD 4 0) 11) (hc : c = iW (v.getD 4 0) 25) (hn : n = 4294967295 - v.getD 4 0) (hd : d = iW (v.getD 0 0) 2) (he : e = iW (v.getD 0 0) 13) (hf : f = iW (v.getD 0 0) 22) :
  bV9 v k w a b c n d e f = rnd v k w := by
 rw [uP h4 6 (by decide)] at ha
 rw [uP h4 11 (by decide)] at hb
 rw [uP h4 25 (by decide)] at hc
 rw [dL0 h4] at hn
 rw [uP h0 2 (by decide)] at hd
 rw [uP h0 13 (by decide)] at he
 rw [uP h0 22 (by decide)] at hf
 subst ha hb hc hn hd he hf
 match v, hl with
 | [_, _, _, _, _, _, _, _], _ => rfl
theorem bytes_at (s : BA) (i : Nat) : 0 ≤ (bytesOf s).getD i 0 ∧ (bytesOf s).getD i 0 < 256 := by
 rw [List.getD]
 cases hc : (bytesOf s)[i]? with
 | none => simp
 | some x => exact nX s x (List.mem_of_getElem? hc)
theorem bW.pure : bW.Pure := by
 intro v0 z1 v2 z3 s4 h1 h2 h3 h4 v5 v6
 obtain ⟨p1, p2, p3⟩ : z1.length = 8 ∧ z3 = gK ∧ s4.size = 64 := h4
 have hW := dR6 (bytesOf s4)
 refine ⟨⟨by decide, by decide, rfl⟩, ?_⟩
 intro v7 z8 i9 h5 h6 h7
 obtain ⟨a1, a2, a3⟩ : 0 ≤ i9 ∧ i9 ≤ 16 ∧ z8 = (bZ (bytesOf s4)).take i9.toNat := h7
 have l8 : z8.length = i9.toNat := by rw [a3, List.length_take]; omega
 refine ⟨?_, ?_⟩
 ·intro h8
  have e0 : wrap .i64 ((4 : Int) * i9) = 4 * i9 := aH (by omega) (by omega)
  have e1 : wrap .i64 ((4 : Int) * i9 + 1) = 4 * i9 + 1 := aH (by omega) (by omega)
  have e2 : wrap .i64 ((4 : Int) * i9 + 2) = 4 * i9 + 2 := aH (by omega) (by omega)
  have e3 : wrap .i64 ((4 : Int) * i9 + 3) = 4 * i9 + 3 := aH (by omega) (by omega)
  have ei : wrap .i64 (i9 + 1) = i9 + 1 := aH (by omega) (by omega)
  have hw : aP2 (byteAt s4 (4 * i9)) (byteAt s4 (4 * i9 + 1)) (byteAt s4 (4 * i9 + 2)) (byteAt s4 (4 * i9 + 3)) = (bZ (bytesOf s4)).getD i9.toNat 0 := by
   rw [aF1, aF1, aF1, aF1, dB5 (bytes_at _ _) (bytes_at _ _) (bytes_at _ _) (bytes_at _ _), bR8 _ (by omega), dX7 (nX s4) (by omega),
    show (4 * i9).toNat = 4 * i9.toNat from by omega, show (4 * i9 + 1).toNat = 4 * i9.toNat + 1 from by omega, show (4 * i9 + 2).toNat = 4 * i9.toNat + 2 from by omega, show (4 * i9 + 3).toNat = 4 * i9.toNat + 3 from by omega]
  rw [e0, e1, e2, e3, ei]
  refine ⟨by omega, fun _ => ⟨by omega, fun _ => ⟨by omega, fun _ => ⟨by omega, fun _ => ⟨by omega, fun _ => ⟨by omega, fun _ => ⟨by omega, fun _ => ⟨by omega, fun _ v10 => ?_⟩⟩⟩⟩⟩⟩⟩⟩
  have hl : ∀ x : Int, (z8 ++ (x :: ([] : LI))).length = i9.toNat + 1 := fun x => by rw [List.length_append, l8]; rfl
  refine ⟨by rw [hl]; omega, fun _ v11 => ⟨⟨by omega, by omega, ?_⟩, ?_⟩⟩
  ·show z8 ++ [aP2 (byteAt s4 (4 * i9)) (byteAt s4 (4 * i9 + 1)) (byteAt s4 (4 * i9 + 2)) (byteAt s4 (4 * i9 + 3))] = _
   rw [hw, show (i9 + 1).toNat = i9.toNat + 1 from by omega, aE2 (by omega), a3]
  ·show (16 - (i9 + 1)).toNat < (16 - i9).toNat; omega
 ·intro h8
  refine ⟨⟨by decide, by decide, by rw [a3, show i9.toNat = 16 from by omega]; rfl⟩, ?_⟩
  intro v10 z11 i12 h9 h10 h11
  obtain ⟨b1, b2, b3⟩ : 16 ≤ i12 ∧ i12 ≤ 64 ∧ z11 = (bZ (bytesOf s4)).take i12.toNat := h11
  have l11 : z11.length = i12.toNat := by rw [b3, List.length_take]; omega
  refine ⟨?_, ?_⟩
  ·intro h12
   have e15 : wrap .i64 (i12 - 15) = i12 - 15 := aH (by omega) (by omega)
   have e2 : wrap .i64 (i12 - 2) = i12 - 2 := aH (by omega) (by omega)
   have e16 : wrap .i64 (i12 - 16) = i12 - 16 := aH (by omega) (by omega)
   have e7 : wrap .i64 (i12 - 7) = i12 - 7 := aH (by omega) (by omega)
   have ei : wrap .i64 (i12 + 1) = i12 + 1 := aH (by omega) (by omega)
   rw [e15, e2, e16, e7, ei]
   refine ⟨by omega, fun _ => ⟨by omega, fun _ => ⟨by omega, fun _ => ⟨by omega, fun _ => ⟨by omega, fun _ => ⟨by omega, fun _ => ⟨by omega, fun _ => ⟨by omega, fun _ => ⟨⟨by decide, by decide⟩, ?_⟩⟩⟩⟩⟩⟩⟩⟩⟩
   intro i13 h21 h22
   refine ⟨⟨by decide, by decide⟩, ?_⟩
   intro i14 h23 h24
   refine ⟨⟨by decide, by decide⟩, ?_⟩
   intro i15 h25 h26
   refine ⟨⟨by decide, by decide⟩, ?_⟩
   intro i16 h27 h28 v17
   have gx : z11.getD (i12 - 15).toNat 0 = (bZ (bytesOf s4)).getD (i12.toNat - 15) 0 := by rw [b3, aX9 (by omega), show (i12 - 15).toNat = i12.toNat - 15 from by omega]
   have gy : z11.getD (i12 - 2).toNat 0 = (bZ (bytesOf s4)).getD (i12.toNat - 2) 0 := by rw [b3, aX9 (by omega), show (i12 - 2).toNat = i12.toNat - 2 from by omega]
   have gp : z11.getD (i12 - 16).toNat 0 = (bZ (bytesOf s4)).getD (i12.toNat - 16) 0 := by rw [b3, aX9 (by omega), show (i12 - 16).toNat = i12.toNat - 16 from by omega]
   have gq : z11.getD (i12 - 7).toNat 0 = (bZ (bytesOf s4)).getD (i12.toNat - 7) 0 := by rw [b3, aX9 (by omega), show (i12 - 7).toNat = i12.toNat - 7 from by omega]
   have hw : aP1 (z11.getD (i12 - 16).toNat 0) (z11.getD (i12 - 15).toNat 0) (z11.getD (i12 - 7).toNat 0) (z11.getD (i12 - 2).toNat 0) i13 i14 i15 i16 = (bZ (bytesOf s4)).getD i12.toNat 0 := by
    rw [dB2 (by rw [gx]; exact bR7 _ (by omega)) (by rw [gy]; exact bR7 _ (by omega)) h21 h23 h25 h27, bR9 _ (by omega) (by omega), gx, gy, gp, gq]
   have hl : ∀ x : Int, (z11 ++ (x :: ([] : LI))).length = i12.toNat + 1 := fun x => by rw [List.length_append, l11]; rfl
   refine ⟨by rw [hl]; omega, fun _ v18 => ⟨⟨by omega, by omega, ?_⟩, ?_⟩⟩
   ·show z11 ++ [aP1 (z11.getD (i12 - 16).toNat 0) (z11.getD (i12 - 15).toNat 0) (z11.getD (i12 - 7).toNat 0) (z11.getD (i12 - 2).toNat 0) i13 i14 i15 i16] = _
    rw [hw, show (i12 + 1).toNat = i12.toNat + 1 from by omega, aE2 (by omega), b3]
   ·show (64 - (i12 + 1)).toNat < (64 - i12).toNat; omega
  ·intro h12 v13
   have eW : z11 = bZ (bytesOf s4) := by rw [b3, List.take_of_length_le (by omega)]
   refine ⟨by rw [List.nil_append]; omega, fun _ v14 => ⟨⟨by decide, by decide, rfl⟩, ?_⟩⟩
   intro v15 z16 i17 h14 h15 h16
   obtain ⟨c1, c2, c3⟩ : 0 ≤ i17 ∧ i17 ≤ 64 ∧ z16 = jD z1 (bZ (bytesOf s4)) i17.toNat := h16
   have l16 : z16.length = 8 := by rw [c3]; exact cH8 p1 _
   have l3 : z3.length = 64 := by rw [p2]; rfl
   have g16 : ∀ j, j < 8 → 0 ≤ z16.getD j 0 ∧ z16.getD j 0 < 4294967296 := by
    intro j hj
    rw [List.getD, List.getElem?_eq_getElem (by omega)]
    exact qJ.1 (h15 _ (List.getElem_mem _))
   refine ⟨?_, ?_⟩
   ·intro h17
    refine ⟨by omega, fun _ => ⟨by omega, fun _ => ⟨by omega, fun _ => ⟨by omega, fun _ => ⟨c1, fun _ => ⟨by omega, fun _ => ⟨by omega, fun _ => ⟨⟨by decide, by decide⟩, ?_⟩⟩⟩⟩⟩⟩⟩⟩
    intro i18 h25 h26
    refine ⟨⟨by decide, by decide⟩, ?_⟩
    intro i19 h27 h28
    refine ⟨⟨by decide, by decide⟩, ?_⟩
    intro i20 h29 h30
    refine ⟨trivial, ?_⟩
    intro i21 h31 h32
    refine ⟨by omega, fun _ => ⟨by omega, fun _ => ⟨by omega, fun _ => ⟨⟨by decide, by decide⟩, ?_⟩⟩⟩⟩
    intro i22 h36 h37
    refine ⟨⟨by decide, by decide⟩, ?_⟩
    intro i23 h38 h39
    refine ⟨⟨by decide, by decide⟩, ?_⟩
    intro i24 h40 h41 v25
    have hl : ∀ x : Int, ((x :: ([] : LI)) ++ z16.take (7 : Int).toNat).length = 8 := fun x => by
     rw [List.length_append, List.length_take]
     show 1 + min 7 z16.length = 8
     omega
    refine ⟨by omega, fun _ v26 => ⟨by rw [hl]; decide, fun _ v27 => ⟨by rw [hl]; decide, fun _ => ⟨?_, ?_⟩⟩⟩⟩
    ·rw [aH (x := i17 + 1) (by omega) (by omega)]
     refine ⟨by omega, by omega, ?_⟩
     show bV9 z16 (z3.getD i17.toNat 0) (z11.getD i17.toNat 0) i18 i19 i20 i21 i22 i23 i24 = _
     rw [dB4 l16 (g16 4 (by decide)) (g16 0 (by decide)) h25 h27 h29 h31 h36 h38 h40, show (i17 + 1).toNat = i17.toNat + 1 from by omega, c3, p2, eW]
     rfl
    ·rw [aH (x := i17 + 1) (by omega) (by omega)]
     show (64 - (i17 + 1)).toNat < (64 - i17).toNat; omega
   ·intro h17
    have e16 : z16 = jD z1 (bZ (bytesOf s4)) 64 := by rw [c3, show i17.toNat = 64 from by omega]
    refine ⟨⟨by decide, by decide, e16⟩, ?_⟩
    intro i18 z19 h18 h19 h20
    obtain ⟨d1, d2, d3⟩ : 0 ≤ i18 ∧ i18 ≤ 8 ∧ z19 = oN z1 (jD z1 (bZ (bytesOf s4)) 64) i18.toNat := h20
    have l19 : z19.length = 8 := by rw [d3]; exact aZ6 (by rw [← e16]; exact l16) _
    refine ⟨fun h21 => ⟨d1, fun _ => ⟨by omega, fun _ => ⟨by omega, fun _ => ⟨?_, ?_⟩⟩⟩⟩, fun h21 => ?_⟩
    ·rw [aH (x := i18 + 1) (by omega) (by omega)]
     refine ⟨by omega, by omega, ?_⟩
     rw [d3]; exact bS0 d1
    ·rw [aH (x := i18 + 1) (by omega) (by omega)]
     show (8 - (i18 + 1)).toNat < (8 - i18).toNat; omega
    ·rw [show i18 = 8 from by omega] at d3
     exact (d3 : _ = rZ z1 (bytesOf s4))
end Go.Vc
namespace Go.Vc
theorem bW6 : ∀ (n : Nat) (st l : LI), l.length ≤ n → (bV st l).2.length % 64 = l.length % 64
 | 0, st, l, h => by rw [rO (by omega)]
 | n + 1, st, l, h => by
  by_cases c : l.length < 64
  ·rw [rO c]
  ·rw [wF (by omega), bW6 n _ _ (by rw [List.length_drop]; omega), List.length_drop]; omega
theorem cP2 {l : LI} (h : l.length ≤ 1000000) : iU l = jY (bV dO (fQ l)).1 := by
 have hm := bW6 _ dO l (Nat.le_refl _)
 have hp : fM (bV dO l).2.length = fM l.length := by unfold fM; rw [hm]
 have hc : wrap .u64 (wrap .u64 ((l.length : Nat) : Int)) = l.length := by
  rw [eY (x := ((l.length : Nat) : Int)) (by omega) (by omega), eY (by omega) (by omega)]
 have hb : wrap .u64 (8 * ((l.length : Nat) : Int)) = zH l := by rw [eY (by omega) (by omega), zH]; omega
 unfold iU hsum rC fQ
 rw [hc, hp, hb]
 have e : ∀ r : LI, r ++ [128] ++ List.replicate (fM l.length) 0 ++ be8 (zH l) = r ++ ([128] ++ List.replicate (fM l.length) 0 ++ be8 (zH l)) := fun r => by simp
 rw [e l, e, bW2 _ _ l _ (Nat.le_refl _)]
theorem dE5 (s : BA) : ∀ x ∈ fQ (bytesOf s), 0 ≤ x ∧ x < 256 := by
 intro x hx
 simp only [fQ, List.mem_append, List.mem_cons, List.not_mem_nil, or_false] at hx
 rcases hx with ((h | h) | h) | h
 ·exact nX s x h
 ·omega
 ·have := List.eq_of_mem_replicate h; omega
 ·exact cX1 _ x h
theorem dE6 (l : LI) : (fQ l).length = l.length + 1 + fM l.length + 8 ∧ (fQ l).length % 64 = 0 := by
 have hp := bM1 l.length
 have e : (fQ l).length = l.length + 1 + fM l.length + 8 := by simp only [fQ, List.length_append, List.length_replicate, bA8, List.length_cons, List.length_nil]
 exact ⟨e, by omega⟩
theorem u8w {x : Int} : wrap .u8 x = x % 256 := IntKind.wrap_u8' x
def aF9 (v : Int) : LI := (wrap .u8 (wrap .u32 (Int.tdiv v (16777216 : Int)))) :: ((wrap .u8 (Int.tmod (wrap .u32 (Int.tdiv v (65536 : Int))) (256 : Int))) :: ((wrap .u8 (Int.tmod (wrap .u32 (Int.tdiv v (256 : Int))) (256 : Int))) :: ((wrap .u8 (Int.tmod v (256 : Int))) :: ([] : LI))))
theorem dB3 {v : Int} (h : 0 ≤ v ∧ v < 4294967296) : aF9 v = [wrap .u8 (aW .u32 v 24), wrap .u8 (aW .u32 v 16), wrap .u8 (aW .u32 v 8), wrap .u8 v] := by
 unfold aF9
 rw [aF8 h 24 (by decide) 16777216 (by decide) (by decide), aF8 h 16 (by decide) 65536 (by decide) (by decide), aF8 h 8 (by decide) 256 (by decide) (by decide)]
 have e16 := bF5 (x := v) 16 (by decide)
 have e8 := bF5 (x := v) 8 (by decide)
 have p16 : (2 : Int) ^ 16 = 65536 := by decide
 have p8 : (2 : Int) ^ 8 = 256 := by decide
 rw [p16] at e16
 rw [p8] at e8
 have t16 : Int.tmod (aW .u32 v ((16 : Nat) : Int)) 256 = aW .u32 v ((16 : Nat) : Int) % 256 := Int.tmod_eq_emod_of_nonneg (by rw [e16]; omega)
 have t8 : Int.tmod (aW .u32 v ((8 : Nat) : Int)) 256 = aW .u32 v ((8 : Nat) : Int) % 256 := Int.tmod_eq_emod_of_nonneg (by rw [e8]; omega)
 have t0 : Int.tmod v 256 = v % 256 := Int.tmod_eq_emod_of_nonneg h.1
 rw [t16, t8, t0]
 simp only [u8w, Int.emod_emod]
 rfl
section
variable {v0 v2 v11 : Value} {z1 z3 z12 : LI} {s4 s14 : BA} {i13 i15 : Int}
theorem dL3 (hz : z12 = (bV dO (fQ (bytesOf s4))).1) (hl : z12.length = 8) (hsz : s4.size ≤ 1000000) (h : rOf.I3 [(D.V v0), (D.Z z1), (D.V v2), (D.Z z3), (D.S s4), (D.S s14), (D.I i15)]) (hi : ((z12.length : Nat) : Int) ≤ i15) :
  rOf.sig.post [(D.V v0), (D.Z z1), (D.V v2), (D.Z z3), (D.S s4), (D.S s14)] := by
 obtain ⟨a1, a2, a3⟩ : 0 ≤ i15 ∧ i15 ≤ 8 ∧ s14 = textOf (jY ((bV dO (fQ (bytesOf s4))).1.take i15.toNat)) := h
 show s14 = textOf (iU (bytesOf s4))
 rw [a3, ← hz, List.take_of_length_le (by omega), hz, cP2 (by rw [bytesOf_length']; exact hsz)]
end
theorem rOf.pure : rOf.Pure := by
 intro v0 z1 v2 z3 s4 h1 h2 h3 h4 n5
 obtain ⟨p1, p2, p3⟩ : z1 = dO ∧ z3 = gK ∧ s4.size ≤ 1000000 := h4
 have hbl := bytesOf_length' s4
 have hpk := bM2 s4.size
 obtain ⟨fl, fm⟩ := dE6 (bytesOf s4)
 rw [hbl] at fl
 have e128 : (⟨#[128]⟩ : BA) = textOf [128] := by decide
 have e0 : (⟨#[0]⟩ : BA) = textOf [0] := by decide
 have s128 : (s4 ++ (⟨#[128]⟩ : BA)).size = s4.size + 1 := by rw [ByteArray.size_append]; rfl
 refine ⟨by rw [s128]; omega, fun _ => ⟨⟨by decide, by omega, ?_⟩, ?_⟩⟩
 ·rw [e128]
  conv => lhs; rw [← aL8 s4]
  rw [xG]; simp
 intro s6 i7 h5 h6 h7
 obtain ⟨a1, a2, a3⟩ : 0 ≤ i7 ∧ i7 ≤ fM s4.size ∧ s6 = textOf (bytesOf s4 ++ [128] ++ List.replicate i7.toNat 0) := h7
 have s6s : s6.size = s4.size + 1 + i7.toNat := by rw [a3, xB]; simp only [List.length_append, List.length_replicate, hbl, List.length_cons, List.length_nil]
 refine ⟨fun h8 => ⟨fun h9 => ?_, fun h9 => ?_⟩, fun h8 => absurd h8 (by omega)⟩
 ·have ss : (s6 ++ (⟨#[0]⟩ : BA)).size = s6.size + 1 := by rw [ByteArray.size_append]; rfl
  rw [aH (x := i7 + 1) (by omega) (by omega)]
  have hk : i7.toNat + 1 ≤ fM s4.size := cJ7 (by omega) (by
   intro hc; apply h9
   rw [Int.tmod_eq_emod_of_nonneg (by omega)]; omega)
  refine ⟨by rw [ss]; omega, fun _ => ⟨⟨by omega, by omega, ?_⟩, ?_⟩⟩
  ·rw [a3, e0, xG, show (i7 + 1).toNat = i7.toNat + 1 from by omega, List.append_assoc, List.replicate_succ']
  ·show (64 - (i7 + 1)).toNat < (64 - i7).toNat; omega
 ·have hk : i7.toNat = fM s4.size := cJ8 (by omega) (by rw [Int.tmod_eq_emod_of_nonneg (by omega)] at h9; omega)
  rw [eY (x := ((s4.size : Nat) : Int)) (by omega) (by omega), eY (x := ((s4.size : Nat) : Int) * 8) (by omega) (by omega)]
  refine ⟨⟨by decide, by decide, by rw [show (0 : Int).toNat = 0 from rfl, Int.pow_zero, Int.ediv_one], rfl⟩, ?_⟩
  intro i8 s9 i10 h10 h11 h12 h13
  obtain ⟨b1, b2, b3, b4⟩ : 0 ≤ i10 ∧ i10 ≤ 8 ∧ i8 = (s4.size : Int) * 8 / 256 ^ i10.toNat ∧ s9 = textOf (bytesLE ((s4.size : Int) * 8) i10.toNat).reverse := h13
  have s9s : s9.size = i10.toNat := by rw [b4, xB, List.length_reverse, sS]
  refine ⟨fun h14 v11 => ?_, fun h14 => ?_⟩
  ·have et : wrap .u8 (Int.tmod i8 256) = i8 % 256 := by rw [Int.tmod_eq_emod_of_nonneg h10.1, u8w, Int.emod_emod]
   have ed : wrap .u64 (Int.tdiv i8 256) = i8 / 256 := by rw [Int.tdiv_eq_ediv_of_nonneg h10.1]; exact eY (by omega) (by omega)
   rw [et, ed, aH (x := i10 + 1) (by omega) (by omega)]
   have ss : (textOf (i8 % 256 :: ([] : LI)) ++ s9).size = 1 + s9.size := by rw [ByteArray.size_append, xB]; rfl
   refine ⟨by rw [ss]; omega, fun _ => ⟨⟨by omega, by omega, ?_, ?_⟩, ?_⟩⟩
   ·rw [b3, show (i10 + 1).toNat = i10.toNat + 1 from by omega, Int.pow_succ, Int.ediv_ediv_of_nonneg (Int.le_of_lt (Int.pow_pos (by decide)))]
   ·rw [b4, xG, b3, show (i10 + 1).toNat = i10.toNat + 1 from by omega, aF2, List.reverse_append]; rfl
   ·show (8 - (i10 + 1)).toNat < (8 - i10).toNat; omega
  ·have eF : s6 ++ s9 = textOf (fQ (bytesOf s4)) := by
    rw [a3, b4, xG, hk, show i10.toNat = 8 from by omega]
    congr 1
    simp only [fQ, hbl, be8, zH]
   have hF : bytesOf (s6 ++ s9) = fQ (bytesOf s4) := by rw [eF, lK (dE5 s4)]
   have sF : (s6 ++ s9).size = (fQ (bytesOf s4)).length := by rw [eF, xB]
   refine ⟨by rw [sF]; omega, fun _ => ⟨⟨by decide, by decide, by omega, by rw [p1]; rfl, by rw [p1]; rfl⟩, ?_⟩⟩
   intro v11 z12 i13 h15 h16 h17
   obtain ⟨c1, c2, c3, c4, c5⟩ : 0 ≤ i13 ∧ i13 % 64 = 0 ∧ i13 ≤ (fQ (bytesOf s4)).length ∧ z12.length = 8 ∧ (bV z12 ((fQ (bytesOf s4)).drop i13.toNat)).1 = (bV dO (fQ (bytesOf s4))).1 := h17
   rw [sF]
   refine ⟨fun h18 => ?_, fun h18 => ?_⟩
   ·rw [aH (x := i13 + 64) (by omega) (by omega)]
    have hx : ((s6 ++ s9).extract i13.toNat (i13 + 64).toNat).size = 64 := by rw [ByteArray.size_extract, sF]; omega
    refine ⟨by omega, fun _ => ⟨c1, fun _ => ⟨by omega, fun _ => ⟨⟨c4, p2, hx⟩, ?_⟩⟩⟩⟩
    intro v14 z15 h19 h20
    have h19 : z15 = rZ z12 (bytesOf ((s6 ++ s9).extract i13.toNat (i13 + 64).toNat)) := h19
    have hdl : ((fQ (bytesOf s4)).drop i13.toNat).length = (fQ (bytesOf s4)).length - i13.toNat := List.length_drop
    refine ⟨⟨by omega, by omega, by omega, ?_, ?_⟩, ?_⟩
    ·rw [h19]; exact cH7 c4
    ·rw [← c5, wF (l := (fQ (bytesOf s4)).drop i13.toNat) (by omega), h19, rG, hF, List.drop_take, List.drop_drop, show (i13 + 64).toNat - i13.toNat = 64 from by omega, show i13.toNat + 64 = (i13 + 64).toNat from by omega]
    ·show ((fQ (bytesOf s4)).length - (i13 + 64)).toNat < ((fQ (bytesOf s4)).length - i13).toNat; omega
   ·have hz : z12 = (bV dO (fQ (bytesOf s4))).1 := by
     rw [List.drop_eq_nil_of_le (by omega), rO (by decide)] at c5
     exact c5
    refine ⟨⟨by decide, by decide, rfl⟩, ?_⟩
    intro s14 i15 h19 h20 h21
    refine ⟨fun h22 => ?_, fun h22 => dL3 hz c4 p3 h21 h22⟩
    obtain ⟨d1, d2, d3⟩ : 0 ≤ i15 ∧ i15 ≤ 8 ∧ s14 = textOf (jY ((bV dO (fQ (bytesOf s4))).1.take i15.toNat)) := h21
    have hv : 0 ≤ z12.getD i15.toNat 0 ∧ z12.getD i15.toNat 0 < 4294967296 := by
     rw [List.getD, List.getElem?_eq_getElem (by omega)]
     exact qJ.1 (h16 _ (List.getElem_mem _))
    have key : s14 ++ textOf (aF9 (z12.getD i15.toNat 0)) = textOf (jY (z12.take (i15.toNat + 1))) := by
     rw [d3, xG, dB3 hv, aE2 (by omega), cJ3, ← hz]; simp [jY]
    have hol : (jY (z12.take (i15.toNat + 1))).length ≤ 32 := by
     have e : ∀ l : LI, (jY l).length = 4 * l.length := by
      intro l
      induction l with
      | nil => rfl
      | cons x l ih => simp only [jY, List.flatMap_cons, List.length_append, List.length_cons, List.length_nil] at *; omega
     rw [e, List.length_take]; omega
    refine ⟨d1, fun _ v16 => ?_⟩
    rw [aH (x := i15 + 1) (by omega) (by omega)]
    refine ⟨?_, fun _ => ⟨⟨by omega, by omega, ?_⟩, ?_⟩⟩
    ·show (((s14 ++ textOf (aF9 (z12.getD i15.toNat 0))).size : Nat) : Int) ≤ 9223372036854775807
     rw [key, xB]; omega
    ·show s14 ++ textOf (aF9 (z12.getD i15.toNat 0)) = _
     rw [key, show (i15 + 1).toNat = i15.toNat + 1 from by omega, hz]
    ·show (8 - (i15 + 1)).toNat < (8 - i15).toNat; omega
end Go.Vc
namespace Go.Vc
end Go.Vc