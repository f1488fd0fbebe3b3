/-
  The document's sums of 256 bits: blocks, the plain part.
  The document's sums of 256 bits: a block, the plain part.
  The document's sums of 256 bits: all bytes, the plain part.
  Sums of 256 bits: the law that bytes have their sums.
-/
import Derived.Test.YtnnjpgenekgciaaDoorShac
set_option linter.unusedVariables false
set_option linter.unusedSimpArgs false
namespace Go.Vc
theorem same32 {a b : Int} (ha : 0 ≤ a ∧ a < 4294967296) (hb : 0 ≤ b ∧ b < 4294967296) (h : ∀ i, i < 32 → bt a i = bt b i) : a = b := by
  apply eq_u64 ((u64_has _).2 ⟨ha.1, by omega⟩) ((u64_has _).2 ⟨hb.1, by omega⟩)
  intro i hi
  by_cases c : i < 32
  · exact h i c
  · rw [bt_of_lt (w := 32) ha.1 ha.2 (by omega), bt_of_lt (w := 32) hb.1 hb.2 (by omega)]

theorem u32_bits (o : BinOp) (a b : Int) : 0 ≤ Go.bits o .u32 a b ∧ Go.bits o .u32 a b < 4294967296 := has_in.1 (bits_has o .u32 a b)

theorem bt_turn1 {y : Int} (hy : 0 ≤ y ∧ y < 4294967296) (i : Nat) (hi : i < 32) : bt (y / 2 + y % 2 * 2147483648) i = bt y ((i + 1) % 32) := by
  by_cases c : i = 31
  · subst c
    have e1 : (y / 2 + y % 2 * 2147483648) / 2 ^ 31 % 2 = y % 2 := by
      have h31 : (2 : Int) ^ 31 = 2147483648 := by decide
      have h1 : 0 ≤ y / 2 ∧ y / 2 < 2147483648 := by omega
      have h2 : 0 ≤ y % 2 ∧ y % 2 < 2 := by omega
      rw [h31]
      generalize y / 2 = a at *
      generalize y % 2 = b at *
      have h3 : (a + b * 2147483648) / 2147483648 = b := by omega
      rw [h3]; omega
    have e2 : y / 2 ^ 0 % 2 = y % 2 := by rw [Int.pow_zero, Int.ediv_one]
    show bt (y / 2 + y % 2 * 2147483648) 31 = bt y 0
    simp only [bt, e1, e2]
  · have h := bt_add_mul (y / 2) (y % 2) (w := 31) (i := i) (by omega)
    have e : (2 : Int) ^ 31 = 2147483648 := by decide
    rw [e] at h
    rw [h, show (i + 1) % 32 = i + 1 from by omega]
    have := bt_ediv_pow y 1 i
    rw [Int.pow_one] at this
    exact this

theorem bt_turn {x : Int} (hx : 0 ≤ x ∧ x < 4294967296) : ∀ (n i : Nat), i < 32 → bt (turnGo x n) i = bt x ((i + n) % 32)
  | 0, i, hi => by rw [Nat.add_zero, Nat.mod_eq_of_lt hi]; rfl
  | n + 1, i, hi => by
    have ih := bt_turn hx n ((i + 1) % 32) (Nat.mod_lt _ (by decide))
    show bt (turnGo x n / 2 + turnGo x n % 2 * 2147483648) i = _
    rw [bt_turn1 (turnGo_has hx n) i hi, ih]
    congr 1; omega

theorem t32_has (x n : Int) : 0 ≤ t32 x n ∧ t32 x n < 4294967296 := u32_bits _ _ _
theorem turn_is {x : Int} (hx : 0 ≤ x ∧ x < 4294967296) (n : Nat) (hn : n < 32) : turnGo x n = t32 x (-(n : Int)) := by
  refine same32 (turnGo_has hx n) (t32_has _ _) fun i hi => ?_
  have h : ∀ i, i < 32 → bt (t32 x (-(n : Int))) i = bt x (((i : Int) - (-(n : Int))) % 32).toNat := Turn32.pure x (-(n : Int)) hx (by omega) trivial
  rw [h i hi, bt_turn hx n i hi]
  congr 1; omega

theorem not_is {x : Int} (_hx : 0 ≤ x ∧ x < 4294967296) : (4294967295 : Int) - x = Go.bits .xor .u32 (4294967295 : Int) x := by
  refine same32 (by omega) (u32_bits _ _ _) fun i hi => ?_
  rw [bt_xor .u32 _ _ hi]
  have e1 : (4294967295 : Int) - x = (-x - 1) + 1 * 2 ^ 32 := by
    have : (2 : Int) ^ 32 = 4294967296 := by decide
    rw [this]; omega
  have e2 : bt 4294967295 i = true := by
    have : (4294967295 : Int) = -1 + 1 * 2 ^ 32 := by decide
    rw [this, bt_add_mul _ _ hi, bt_neg_one]
  rw [e1, bt_add_mul _ _ hi, bt_not, e2]; simp

theorem fdiv_is {x : Int} (n : Nat) (hn : n ≤ 32) : shrI .u32 x (n : Int) = x / 2 ^ n := by
  show x.fdiv (2 ^ (Nat.min ((n : Int)).toNat 32)) = x / 2 ^ n
  rw [show ((n : Int)).toNat = n from by omega, show Nat.min n 32 = n from Nat.min_eq_left hn]
  exact Int.fdiv_eq_ediv_of_nonneg _ (Int.le_of_lt (pow_pos' n))

theorem word_is {a b c d : Int} (ha : 0 ≤ a ∧ a < 256) (hb : 0 ≤ b ∧ b < 256) (hc : 0 ≤ c ∧ c < 256) (hd : 0 ≤ d ∧ d < 256) :
    Go.bits .or .u32 (Go.bits .or .u32 (Go.bits .or .u32 (shlI .u32 a 24) (shlI .u32 b 16)) (shlI .u32 c 8)) d = a * 16777216 + b * 65536 + c * 256 + d := by
  have hh : ∀ x ∈ [d, c, b, a], 0 ≤ x ∧ x < 256 := by
    intro x hx
    simp only [List.mem_cons, List.not_mem_nil, or_false] at hx
    rcases hx with rfl | rfl | rfl | rfl <;> assumption
  have en : a * 16777216 + b * 65536 + c * 256 + d = numOf [d, c, b, a] := by simp only [numOf]; omega
  refine same32 (u32_bits _ _ _) (by omega) fun i hi => ?_
  have z : ∀ {v : Int}, 0 ≤ v ∧ v < 256 → ∀ {j : Nat}, 8 ≤ j → bt v j = false := fun {v} h {j} hj => bt_of_lt (w := 8) h.1 h.2 hj
  rw [en, bt_numOf hh, bt_or .u32 _ _ hi, bt_or .u32 _ _ hi, bt_or .u32 _ _ hi, bt_shl .u32 _ _ hi, bt_shl .u32 _ _ hi, bt_shl .u32 _ _ hi]
  simp only [show (24 : Int).toNat = 24 from rfl, show (16 : Int).toNat = 16 from rfl, show (8 : Int).toNat = 8 from rfl]
  by_cases c1 : i < 8
  · rw [show i / 8 = 0 from by omega, show i % 8 = i from by omega]
    simp [show ¬ 24 ≤ i from by omega, show ¬ 16 ≤ i from by omega, show ¬ 8 ≤ i from by omega]
  · by_cases c2 : i < 16
    · rw [show i / 8 = 1 from by omega, show i % 8 = i - 8 from by omega, z hd (by omega : 8 ≤ i)]
      simp [show ¬ 24 ≤ i from by omega, show ¬ 16 ≤ i from by omega, show 8 ≤ i from by omega]
    · by_cases c3 : i < 24
      · rw [show i / 8 = 2 from by omega, show i % 8 = i - 16 from by omega, z hd (by omega : 8 ≤ i), z hc (by omega : 8 ≤ i - 8)]
        simp [show ¬ 24 ≤ i from by omega, show 16 ≤ i from by omega]
      · rw [show i / 8 = 3 from by omega, show i % 8 = i - 24 from by omega, z hd (by omega : 8 ≤ i), z hc (by omega : 8 ≤ i - 8), z hb (by omega : 8 ≤ i - 16)]
        simp [show 24 ≤ i from by omega]

theorem s0_get (b : List Int) : ∀ (m j : Nat), j < m → m ≤ 64 → (sched0 b m).getD j 0 = wordAt b (j : Int)
  | 0, j, h, _ => by omega
  | m + 1, j, h, hm => by
    rw [sched0, getD_set _ _ _ (by rw [sched0_len]; omega)]
    split
    · rename_i e; rw [e]
    · exact s0_get b m j (by omega) (by omega)
theorem s1_low (b : List Int) : ∀ (m j : Nat), j < 16 → m ≤ 48 → (sched1 b m).getD j 0 = wordAt b (j : Int)
  | 0, j, h, _ => s0_get b 16 j h (by decide)
  | m + 1, j, h, hm => by
    rw [sched1, getD_set _ _ _ (by rw [sched1_len]; omega), if_neg (by omega)]
    exact s1_low b m j h (by omega)
theorem s1_stable (b : List Int) : ∀ (m n j : Nat), j < n + 16 → n ≤ m → m ≤ 48 → (sched1 b m).getD j 0 = (sched1 b n).getD j 0
  | 0, n, j, _, h, _ => by rw [show n = 0 from by omega]
  | m + 1, n, j, hj, hn, hm => by
    by_cases c : n = m + 1
    · rw [c]
    · rw [sched1, getD_set _ _ _ (by rw [sched1_len]; omega), if_neg (by omega)]
      exact s1_stable b m n j hj (by omega) (by omega)
theorem W_low (b : List Int) {j : Nat} (h : j < 16) : (schedW b).getD j 0 = wordAt b (j : Int) := s1_low b 48 j h (Nat.le_refl _)
theorem W_next (b : List Int) {i : Nat} (h : 16 ≤ i) (h' : i < 64) : (schedW b).getD i 0 = nextOf ((schedW b).getD (i - 16) 0) ((schedW b).getD (i - 15) 0) ((schedW b).getD (i - 7) 0) ((schedW b).getD (i - 2) 0) := by
  obtain ⟨n, rfl⟩ : ∃ n, i = n + 16 := ⟨i - 16, by omega⟩
  have e : ∀ j, j < n + 16 → (schedW b).getD j 0 = (sched1 b n).getD j 0 := fun j hj => s1_stable b 48 n j hj (by omega) (Nat.le_refl _)
  have e1 : (schedW b).getD (n + 16) 0 = (sched1 b (n + 1)).getD (n + 16) 0 := s1_stable b 48 (n + 1) (n + 16) (by omega) (by omega) (Nat.le_refl _)
  rw [e1, sched1, getD_set _ _ _ (by rw [sched1_len]; omega), if_pos rfl, e _ (by omega), e _ (by omega), e _ (by omega), e _ (by omega), nextW]
  rw [i64w (x := ((n + 16 : Nat) : Int) - 16) (by omega) (by omega), i64w (x := ((n + 16 : Nat) : Int) - 15) (by omega) (by omega), i64w (x := ((n + 16 : Nat) : Int) - 7) (by omega) (by omega), i64w (x := ((n + 16 : Nat) : Int) - 2) (by omega) (by omega)]
  rw [show (((n + 16 : Nat) : Int) - 16).toNat = n + 16 - 16 from by omega, show (((n + 16 : Nat) : Int) - 15).toNat = n + 16 - 15 from by omega, show (((n + 16 : Nat) : Int) - 7).toNat = n + 16 - 7 from by omega, show (((n + 16 : Nat) : Int) - 2).toNat = n + 16 - 2 from by omega]

theorem wordAt_is {b : List Int} (hb : ∀ x ∈ b, 0 ≤ x ∧ x < 256) {j : Nat} (h : j < 1000) :
    wordAt b (j : Int) = b.getD (4 * j) 0 * 16777216 + b.getD (4 * j + 1) 0 * 65536 + b.getD (4 * j + 2) 0 * 256 + b.getD (4 * j + 3) 0 := by
  have g : ∀ i, 0 ≤ b.getD i 0 ∧ b.getD i 0 < 256 := by
    intro i
    rw [List.getD]
    cases hc : b[i]? with
    | none => simp
    | some x => exact hb x (List.mem_of_getElem? hc)
  have w : ∀ i, IntKind.wrap .u32 (b.getD i 0) = b.getD i 0 := fun i => u32w (g i).1 (by have := (g i).2; omega)
  rw [wordAt, i64w (x := 4 * (j : Int)) (by omega) (by omega), i64w (x := 4 * (j : Int) + 1) (by omega) (by omega), i64w (x := 4 * (j : Int) + 2) (by omega) (by omega), i64w (x := 4 * (j : Int) + 3) (by omega) (by omega)]
  rw [show (4 * (j : Int)).toNat = 4 * j from by omega, show (4 * (j : Int) + 1).toNat = 4 * j + 1 from by omega, show (4 * (j : Int) + 2).toNat = 4 * j + 2 from by omega, show (4 * (j : Int) + 3).toNat = 4 * j + 3 from by omega, w, w, w, w]
  exact word_is (g _) (g _) (g _) (g _)

theorem take_eq {l : List Int} {n j : Nat} (h : j < n) : (l.take n).getD j 0 = l.getD j 0 := take_getD h

theorem wordAt_has (b : List Int) (i : Int) : 0 ≤ wordAt b i ∧ wordAt b i < 4294967296 := u32_bits _ _ _
theorem nextOf_has (a b c d : Int) : 0 ≤ nextOf a b c d ∧ nextOf a b c d < 4294967296 := has_in.1 (wrap_has .u32 _)
theorem W_has (b : List Int) {i : Nat} (h : i < 64) : 0 ≤ (schedW b).getD i 0 ∧ (schedW b).getD i 0 < 4294967296 := by
  by_cases c : i < 16
  · rw [W_low b c]; exact wordAt_has _ _
  · rw [W_next b (by omega) h]; exact nextOf_has _ _ _ _

end Go.Vc
namespace Go.Vc
def docWord (a b c d : Int) : Int :=
  (IntKind.wrap .u32 ((IntKind.wrap .u32 ((IntKind.wrap .u32 ((IntKind.wrap .u32 ((IntKind.wrap .u32 a) * (16777216 : Int))) + (IntKind.wrap .u32 ((IntKind.wrap .u32 b) * (65536 : Int))))) + (IntKind.wrap .u32 ((IntKind.wrap .u32 c) * (256 : Int))))) + (IntKind.wrap .u32 d)))
def docNext (p x q y a b c d : Int) : Int :=
  (IntKind.wrap .u32 ((IntKind.wrap .u32 ((IntKind.wrap .u32 (p + (Go.bits .xor .u32 (Go.bits .xor .u32 a b) (IntKind.wrap .u32 (Int.tdiv x (8 : Int)))))) + q)) + (Go.bits .xor .u32 (Go.bits .xor .u32 c d) (IntKind.wrap .u32 (Int.tdiv y (1024 : Int))))))
def docRound (v : List Int) (k w a b c n d e f : Int) : List Int :=
  ((((IntKind.wrap .u32 ((IntKind.wrap .u32 ((IntKind.wrap .u32 ((IntKind.wrap .u32 ((IntKind.wrap .u32 ((v.getD (7 : Int).toNat 0) + (Go.bits .xor .u32 (Go.bits .xor .u32 a b) c))) + (Go.bits .xor .u32 (Go.bits .and .u32 (v.getD (4 : Int).toNat 0) (v.getD (5 : Int).toNat 0)) (Go.bits .and .u32 n (v.getD (6 : Int).toNat 0))))) + k)) + w)) + (IntKind.wrap .u32 ((Go.bits .xor .u32 (Go.bits .xor .u32 d e) f) + (Go.bits .xor .u32 (Go.bits .xor .u32 (Go.bits .and .u32 (v.getD (0 : Int).toNat 0) (v.getD (1 : Int).toNat 0)) (Go.bits .and .u32 (v.getD (0 : Int).toNat 0) (v.getD (2 : Int).toNat 0))) (Go.bits .and .u32 (v.getD (1 : Int).toNat 0) (v.getD (2 : Int).toNat 0))))))) :: ([] : List Int)) ++ (v.take (7 : Int).toNat)).set (4 : Int).toNat (IntKind.wrap .u32 (((((IntKind.wrap .u32 ((IntKind.wrap .u32 ((IntKind.wrap .u32 ((IntKind.wrap .u32 ((IntKind.wrap .u32 ((v.getD (7 : Int).toNat 0) + (Go.bits .xor .u32 (Go.bits .xor .u32 a b) c))) + (Go.bits .xor .u32 (Go.bits .and .u32 (v.getD (4 : Int).toNat 0) (v.getD (5 : Int).toNat 0)) (Go.bits .and .u32 n (v.getD (6 : Int).toNat 0))))) + k)) + w)) + (IntKind.wrap .u32 ((Go.bits .xor .u32 (Go.bits .xor .u32 d e) f) + (Go.bits .xor .u32 (Go.bits .xor .u32 (Go.bits .and .u32 (v.getD (0 : Int).toNat 0) (v.getD (1 : Int).toNat 0)) (Go.bits .and .u32 (v.getD (0 : Int).toNat 0) (v.getD (2 : Int).toNat 0))) (Go.bits .and .u32 (v.getD (1 : Int).toNat 0) (v.getD (2 : Int).toNat 0))))))) :: ([] : List Int)) ++ (v.take (7 : Int).toNat)).getD (4 : Int).toNat 0) + (IntKind.wrap .u32 ((IntKind.wrap .u32 ((IntKind.wrap .u32 ((IntKind.wrap .u32 ((v.getD (7 : Int).toNat 0) + (Go.bits .xor .u32 (Go.bits .xor .u32 a b) c))) + (Go.bits .xor .u32 (Go.bits .and .u32 (v.getD (4 : Int).toNat 0) (v.getD (5 : Int).toNat 0)) (Go.bits .and .u32 n (v.getD (6 : Int).toNat 0))))) + k)) + w)))))

theorem docWord_is {a b c d : Int} (ha : 0 ≤ a ∧ a < 256) (hb : 0 ≤ b ∧ b < 256) (hc : 0 ≤ c ∧ c < 256) (hd : 0 ≤ d ∧ d < 256) : docWord a b c d = a * 16777216 + b * 65536 + c * 256 + d := by
  unfold docWord
  rw [u32w (x := a) (by omega) (by omega), u32w (x := b) (by omega) (by omega), u32w (x := c) (by omega) (by omega), u32w (x := d) (by omega) (by omega), u32w (x := a * 16777216) (by omega) (by omega), u32w (x := b * 65536) (by omega) (by omega),
    u32w (x := c * 256) (by omega) (by omega), u32w (x := a * 16777216 + b * 65536) (by omega) (by omega), u32w (x := a * 16777216 + b * 65536 + c * 256) (by omega) (by omega), u32w (by omega) (by omega)]

theorem div_is {x : Int} (hx : 0 ≤ x ∧ x < 4294967296) (n : Nat) (hn : n ≤ 32) (m : Int) (hm : m = 2 ^ n) (hp : 0 < m) : IntKind.wrap .u32 (Int.tdiv x m) = shrI .u32 x (n : Int) := by
  have h1 : 0 ≤ x / m := Int.ediv_nonneg hx.1 (Int.le_of_lt hp)
  have h2 : x / m ≤ x := Int.ediv_le_self _ hx.1
  rw [Int.tdiv_eq_ediv_of_nonneg hx.1, u32w h1 (by omega), fdiv_is n hn, hm]

theorem docNext_is {p x q y a b c d : Int} (hx : 0 ≤ x ∧ x < 4294967296) (hy : 0 ≤ y ∧ y < 4294967296) (ha : a = turnGo x 7) (hb : b = turnGo x 18) (hc : c = turnGo y 17) (hd : d = turnGo y 19) : docNext p x q y a b c d = nextOf p x q y := by
  rw [turn_is hx 7 (by decide)] at ha
  rw [turn_is hx 18 (by decide)] at hb
  rw [turn_is hy 17 (by decide)] at hc
  rw [turn_is hy 19 (by decide)] at hd
  unfold docNext
  rw [div_is hx 3 (by decide) 8 (by decide) (by decide), div_is hy 10 (by decide) 1024 (by decide) (by decide), ha, hb, hc, hd]
  rfl

theorem docRound_is {v : List Int} {k w a b c n d e f : Int} (hl : v.length = 8) (h4 : 0 ≤ v.getD 4 0 ∧ v.getD 4 0 < 4294967296) (h0 : 0 ≤ v.getD 0 0 ∧ v.getD 0 0 < 4294967296)
    (ha : a = turnGo (v.getD 4 0) 6) (hb : b = turnGo (v.getD 4 0) 11) (hc : c = turnGo (v.getD 4 0) 25) (hn : n = 4294967295 - v.getD 4 0) (hd : d = turnGo (v.getD 0 0) 2) (he : e = turnGo (v.getD 0 0) 13) (hf : f = turnGo (v.getD 0 0) 22) :
    docRound v k w a b c n d e f = rnd v k w := by
  rw [turn_is h4 6 (by decide)] at ha
  rw [turn_is h4 11 (by decide)] at hb
  rw [turn_is h4 25 (by decide)] at hc
  rw [not_is h4] at hn
  rw [turn_is h0 2 (by decide)] at hd
  rw [turn_is h0 13 (by decide)] at he
  rw [turn_is h0 22 (by decide)] at hf
  subst ha hb hc hn hd he hf
  match v, hl with
  | [_, _, _, _, _, _, _, _], _ => rfl

theorem bytes_at (s : ByteArray) (i : Nat) : 0 ≤ (bytesOf s).getD i 0 ∧ (bytesOf s).getD i 0 < 256 := by
  rw [List.getD]
  cases hc : (bytesOf s)[i]? with
  | none => simp
  | some x => exact bytesOf_has s x (List.mem_of_getElem? hc)

theorem rMix.pure : rMix.Pure := by
  intro v0 z1 v2 z3 s4 h1 h2 h3 h4 v5 v6
  obtain ⟨p1, p2, p3⟩ : z1.length = 8 ∧ z3 = shaRounds ∧ s4.size = 64 := h4
  have hW := schedW_len (bytesOf s4)
  refine ⟨⟨by decide, by decide, rfl⟩, ?_⟩
  intro v7 z8 i9 h5 h6 h7
  obtain ⟨a1, a2, a3⟩ : 0 ≤ i9 ∧ i9 ≤ 16 ∧ z8 = (schedW (bytesOf s4)).take i9.toNat := h7
  have l8 : z8.length = i9.toNat := by rw [a3, List.length_take]; omega
  refine ⟨?_, ?_⟩
  · intro h8
    have e0 : IntKind.wrap .i64 ((4 : Int) * i9) = 4 * i9 := i64w (by omega) (by omega)
    have e1 : IntKind.wrap .i64 ((4 : Int) * i9 + 1) = 4 * i9 + 1 := i64w (by omega) (by omega)
    have e2 : IntKind.wrap .i64 ((4 : Int) * i9 + 2) = 4 * i9 + 2 := i64w (by omega) (by omega)
    have e3 : IntKind.wrap .i64 ((4 : Int) * i9 + 3) = 4 * i9 + 3 := i64w (by omega) (by omega)
    have ei : IntKind.wrap .i64 (i9 + 1) = i9 + 1 := i64w (by omega) (by omega)
    have hw : docWord (byteAt s4 (4 * i9)) (byteAt s4 (4 * i9 + 1)) (byteAt s4 (4 * i9 + 2)) (byteAt s4 (4 * i9 + 3)) = (schedW (bytesOf s4)).getD i9.toNat 0 := by
      rw [byteAt_eq, byteAt_eq, byteAt_eq, byteAt_eq, docWord_is (bytes_at _ _) (bytes_at _ _) (bytes_at _ _) (bytes_at _ _), W_low _ (by omega), wordAt_is (bytesOf_has s4) (by omega),
        show (4 * i9).toNat = 4 * i9.toNat from by omega, show (4 * i9 + 1).toNat = 4 * i9.toNat + 1 from by omega, show (4 * i9 + 2).toNat = 4 * i9.toNat + 2 from by omega, show (4 * i9 + 3).toNat = 4 * i9.toNat + 3 from by omega]
    rw [e0, e1, e2, e3, ei]
    refine ⟨by omega, fun _ => ⟨by omega, fun _ => ⟨by omega, fun _ => ⟨by omega, fun _ => ⟨by omega, fun _ => ⟨by omega, fun _ => ⟨by omega, fun _ => ⟨by omega, fun _ v10 => ?_⟩⟩⟩⟩⟩⟩⟩⟩
    have hl : ∀ x : Int, (z8 ++ (x :: ([] : List Int))).length = i9.toNat + 1 := fun x => by rw [List.length_append, l8]; rfl
    refine ⟨by rw [hl]; omega, fun _ v11 => ⟨⟨by omega, by omega, ?_⟩, ?_⟩⟩
    · show z8 ++ [docWord (byteAt s4 (4 * i9)) (byteAt s4 (4 * i9 + 1)) (byteAt s4 (4 * i9 + 2)) (byteAt s4 (4 * i9 + 3))] = _
      rw [hw, show (i9 + 1).toNat = i9.toNat + 1 from by omega, take_next (by omega), a3]
    · show (16 - (i9 + 1)).toNat < (16 - i9).toNat; omega
  · intro h8
    refine ⟨⟨by decide, by decide, by rw [a3, show i9.toNat = 16 from by omega]; rfl⟩, ?_⟩
    intro v10 z11 i12 h9 h10 h11
    obtain ⟨b1, b2, b3⟩ : 16 ≤ i12 ∧ i12 ≤ 64 ∧ z11 = (schedW (bytesOf s4)).take i12.toNat := h11
    have l11 : z11.length = i12.toNat := by rw [b3, List.length_take]; omega
    refine ⟨?_, ?_⟩
    · intro h12
      have e15 : IntKind.wrap .i64 (i12 - 15) = i12 - 15 := i64w (by omega) (by omega)
      have e2 : IntKind.wrap .i64 (i12 - 2) = i12 - 2 := i64w (by omega) (by omega)
      have e16 : IntKind.wrap .i64 (i12 - 16) = i12 - 16 := i64w (by omega) (by omega)
      have e7 : IntKind.wrap .i64 (i12 - 7) = i12 - 7 := i64w (by omega) (by omega)
      have ei : IntKind.wrap .i64 (i12 + 1) = i12 + 1 := i64w (by omega) (by omega)
      rw [e15, e2, e16, e7, ei]
      refine ⟨by omega, fun _ => ⟨by omega, fun _ => ⟨by omega, fun _ => ⟨by omega, fun _ => ⟨by omega, fun _ => ⟨by omega, fun _ => ⟨by omega, fun _ => ⟨by omega, fun _ => ⟨⟨by decide, by decide⟩, ?_⟩⟩⟩⟩⟩⟩⟩⟩⟩
      intro i13 h21 h22
      refine ⟨⟨by decide, by decide⟩, ?_⟩
      intro i14 h23 h24
      refine ⟨⟨by decide, by decide⟩, ?_⟩
      intro i15 h25 h26
      refine ⟨⟨by decide, by decide⟩, ?_⟩
      intro i16 h27 h28 v17
      have gx : z11.getD (i12 - 15).toNat 0 = (schedW (bytesOf s4)).getD (i12.toNat - 15) 0 := by rw [b3, take_eq (by omega), show (i12 - 15).toNat = i12.toNat - 15 from by omega]
      have gy : z11.getD (i12 - 2).toNat 0 = (schedW (bytesOf s4)).getD (i12.toNat - 2) 0 := by rw [b3, take_eq (by omega), show (i12 - 2).toNat = i12.toNat - 2 from by omega]
      have gp : z11.getD (i12 - 16).toNat 0 = (schedW (bytesOf s4)).getD (i12.toNat - 16) 0 := by rw [b3, take_eq (by omega), show (i12 - 16).toNat = i12.toNat - 16 from by omega]
      have gq : z11.getD (i12 - 7).toNat 0 = (schedW (bytesOf s4)).getD (i12.toNat - 7) 0 := by rw [b3, take_eq (by omega), show (i12 - 7).toNat = i12.toNat - 7 from by omega]
      have hw : docNext (z11.getD (i12 - 16).toNat 0) (z11.getD (i12 - 15).toNat 0) (z11.getD (i12 - 7).toNat 0) (z11.getD (i12 - 2).toNat 0) i13 i14 i15 i16 = (schedW (bytesOf s4)).getD i12.toNat 0 := by
        rw [docNext_is (by rw [gx]; exact W_has _ (by omega)) (by rw [gy]; exact W_has _ (by omega)) h21 h23 h25 h27, W_next _ (by omega) (by omega), gx, gy, gp, gq]
      have hl : ∀ x : Int, (z11 ++ (x :: ([] : List Int))).length = i12.toNat + 1 := fun x => by rw [List.length_append, l11]; rfl
      refine ⟨by rw [hl]; omega, fun _ v18 => ⟨⟨by omega, by omega, ?_⟩, ?_⟩⟩
      · show z11 ++ [docNext (z11.getD (i12 - 16).toNat 0) (z11.getD (i12 - 15).toNat 0) (z11.getD (i12 - 7).toNat 0) (z11.getD (i12 - 2).toNat 0) i13 i14 i15 i16] = _
        rw [hw, show (i12 + 1).toNat = i12.toNat + 1 from by omega, take_next (by omega), b3]
      · show (64 - (i12 + 1)).toNat < (64 - i12).toNat; omega
    · intro h12 v13
      have eW : z11 = schedW (bytesOf s4) := by rw [b3, List.take_of_length_le (by omega)]
      refine ⟨by rw [List.nil_append]; omega, fun _ v14 => ⟨⟨by decide, by decide, rfl⟩, ?_⟩⟩
      intro v15 z16 i17 h14 h15 h16
      obtain ⟨c1, c2, c3⟩ : 0 ≤ i17 ∧ i17 ≤ 64 ∧ z16 = mixR z1 (schedW (bytesOf s4)) i17.toNat := h16
      have l16 : z16.length = 8 := by rw [c3]; exact mixR_len p1 _
      have l3 : z3.length = 64 := by rw [p2]; rfl
      have g16 : ∀ j, j < 8 → 0 ≤ z16.getD j 0 ∧ z16.getD j 0 < 4294967296 := by
        intro j hj
        rw [List.getD, List.getElem?_eq_getElem (by omega)]
        exact has_in.1 (h15 _ (List.getElem_mem _))
      refine ⟨?_, ?_⟩
      · intro h17
        refine ⟨by omega, fun _ => ⟨by omega, fun _ => ⟨by omega, fun _ => ⟨by omega, fun _ => ⟨c1, fun _ => ⟨by omega, fun _ => ⟨by omega, fun _ => ⟨⟨by decide, by decide⟩, ?_⟩⟩⟩⟩⟩⟩⟩⟩
        intro i18 h25 h26
        refine ⟨⟨by decide, by decide⟩, ?_⟩
        intro i19 h27 h28
        refine ⟨⟨by decide, by decide⟩, ?_⟩
        intro i20 h29 h30
        refine ⟨trivial, ?_⟩
        intro i21 h31 h32
        refine ⟨by omega, fun _ => ⟨by omega, fun _ => ⟨by omega, fun _ => ⟨⟨by decide, by decide⟩, ?_⟩⟩⟩⟩
        intro i22 h36 h37
        refine ⟨⟨by decide, by decide⟩, ?_⟩
        intro i23 h38 h39
        refine ⟨⟨by decide, by decide⟩, ?_⟩
        intro i24 h40 h41 v25
        have hl : ∀ x : Int, ((x :: ([] : List Int)) ++ z16.take (7 : Int).toNat).length = 8 := fun x => by
          rw [List.length_append, List.length_take]
          show 1 + min 7 z16.length = 8
          omega
        refine ⟨by omega, fun _ v26 => ⟨by rw [hl]; decide, fun _ v27 => ⟨by rw [hl]; decide, fun _ => ⟨?_, ?_⟩⟩⟩⟩
        · rw [i64w (x := i17 + 1) (by omega) (by omega)]
          refine ⟨by omega, by omega, ?_⟩
          show docRound z16 (z3.getD i17.toNat 0) (z11.getD i17.toNat 0) i18 i19 i20 i21 i22 i23 i24 = _
          rw [docRound_is l16 (g16 4 (by decide)) (g16 0 (by decide)) h25 h27 h29 h31 h36 h38 h40, show (i17 + 1).toNat = i17.toNat + 1 from by omega, c3, p2, eW]
          rfl
        · rw [i64w (x := i17 + 1) (by omega) (by omega)]
          show (64 - (i17 + 1)).toNat < (64 - i17).toNat; omega
      · intro h17
        have e16 : z16 = mixR z1 (schedW (bytesOf s4)) 64 := by rw [c3, show i17.toNat = 64 from by omega]
        refine ⟨⟨by decide, by decide, e16⟩, ?_⟩
        intro i18 z19 h18 h19 h20
        obtain ⟨d1, d2, d3⟩ : 0 ≤ i18 ∧ i18 ≤ 8 ∧ z19 = addS z1 (mixR z1 (schedW (bytesOf s4)) 64) i18.toNat := h20
        have l19 : z19.length = 8 := by rw [d3]; exact addS_len (by rw [← e16]; exact l16) _
        refine ⟨fun h21 => ⟨d1, fun _ => ⟨by omega, fun _ => ⟨by omega, fun _ => ⟨?_, ?_⟩⟩⟩⟩, fun h21 => ?_⟩
        · rw [i64w (x := i18 + 1) (by omega) (by omega)]
          refine ⟨by omega, by omega, ?_⟩
          rw [d3]; exact addS_next d1
        · rw [i64w (x := i18 + 1) (by omega) (by omega)]
          show (8 - (i18 + 1)).toNat < (8 - i18).toNat; omega
        · rw [show i18 = 8 from by omega] at d3
          exact (d3 : _ = mixL z1 (bytesOf s4))

end Go.Vc
namespace Go.Vc
theorem eat_mod : ∀ (n : Nat) (st l : List Int), l.length ≤ n → (eatL st l).2.length % 64 = l.length % 64
  | 0, st, l, h => by rw [eatL_lt (by omega)]
  | n + 1, st, l, h => by
    by_cases c : l.length < 64
    · rw [eatL_lt c]
    · rw [eatL_ge (by omega), eat_mod n _ _ (by rw [List.length_drop]; omega), List.length_drop]; omega

theorem shaL_full {l : List Int} (h : l.length ≤ 1000000) : shaL l = outB (eatL shaStart (fullB l)).1 := by
  have hm := eat_mod _ shaStart l (Nat.le_refl _)
  have hp : padK (eatL shaStart l).2.length = padK l.length := by unfold padK; rw [hm]
  have hc : IntKind.wrap .u64 (IntKind.wrap .u64 ((l.length : Nat) : Int)) = l.length := by
    rw [u64w (x := ((l.length : Nat) : Int)) (by omega) (by omega), u64w (by omega) (by omega)]
  have hb : IntKind.wrap .u64 (8 * ((l.length : Nat) : Int)) = bits8 l := by rw [u64w (by omega) (by omega), bits8]; omega
  unfold shaL hsum tailB fullB
  rw [hc, hp, hb]
  have e : ∀ r : List Int, r ++ [128] ++ List.replicate (padK l.length) 0 ++ be8 (bits8 l) = r ++ ([128] ++ List.replicate (padK l.length) 0 ++ be8 (bits8 l)) := fun r => by simp
  rw [e l, e, eatL_append _ _ l _ (Nat.le_refl _)]

theorem fullB_has (s : ByteArray) : ∀ x ∈ fullB (bytesOf s), 0 ≤ x ∧ x < 256 := by
  intro x hx
  simp only [fullB, List.mem_append, List.mem_cons, List.not_mem_nil, or_false] at hx
  rcases hx with ((h | h) | h) | h
  · exact bytesOf_has s x h
  · omega
  · have := List.eq_of_mem_replicate h; omega
  · exact be8_has _ x h
theorem fullB_len (l : List Int) : (fullB l).length = l.length + 1 + padK l.length + 8 ∧ (fullB l).length % 64 = 0 := by
  have hp := padK_at l.length
  have e : (fullB l).length = l.length + 1 + padK l.length + 8 := by simp only [fullB, List.length_append, List.length_replicate, be8_len, List.length_cons, List.length_nil]
  exact ⟨e, by omega⟩

theorem u8w {x : Int} : IntKind.wrap .u8 x = x % 256 := IntKind.wrap_u8' x

def docOut (v : Int) : List Int := (IntKind.wrap .u8 (IntKind.wrap .u32 (Int.tdiv v (16777216 : Int)))) :: ((IntKind.wrap .u8 (Int.tmod (IntKind.wrap .u32 (Int.tdiv v (65536 : Int))) (256 : Int))) :: ((IntKind.wrap .u8 (Int.tmod (IntKind.wrap .u32 (Int.tdiv v (256 : Int))) (256 : Int))) :: ((IntKind.wrap .u8 (Int.tmod v (256 : Int))) :: ([] : List Int))))
theorem docOut_is {v : Int} (h : 0 ≤ v ∧ v < 4294967296) : docOut v = [IntKind.wrap .u8 (shrI .u32 v 24), IntKind.wrap .u8 (shrI .u32 v 16), IntKind.wrap .u8 (shrI .u32 v 8), IntKind.wrap .u8 v] := by
  unfold docOut
  rw [div_is h 24 (by decide) 16777216 (by decide) (by decide), div_is h 16 (by decide) 65536 (by decide) (by decide), div_is h 8 (by decide) 256 (by decide) (by decide)]
  have e16 := fdiv_is (x := v) 16 (by decide)
  have e8 := fdiv_is (x := v) 8 (by decide)
  have p16 : (2 : Int) ^ 16 = 65536 := by decide
  have p8 : (2 : Int) ^ 8 = 256 := by decide
  rw [p16] at e16
  rw [p8] at e8
  have t16 : Int.tmod (shrI .u32 v ((16 : Nat) : Int)) 256 = shrI .u32 v ((16 : Nat) : Int) % 256 := Int.tmod_eq_emod_of_nonneg (by rw [e16]; omega)
  have t8 : Int.tmod (shrI .u32 v ((8 : Nat) : Int)) 256 = shrI .u32 v ((8 : Nat) : Int) % 256 := Int.tmod_eq_emod_of_nonneg (by rw [e8]; omega)
  have t0 : Int.tmod v 256 = v % 256 := Int.tmod_eq_emod_of_nonneg h.1
  rw [t16, t8, t0]
  simp only [u8w, Int.emod_emod]
  rfl

section
variable {v0 v2 v11 : Value} {z1 z3 z12 : List Int} {s4 s14 : ByteArray} {i13 i15 : Int}
theorem ofEnd (hz : z12 = (eatL shaStart (fullB (bytesOf s4))).1) (hl : z12.length = 8) (hsz : s4.size ≤ 1000000) (h : rOf.I3 [(D.V v0), (D.Z z1), (D.V v2), (D.Z z3), (D.S s4), (D.S s14), (D.I i15)]) (hi : ((z12.length : Nat) : Int) ≤ i15) :
    rOf.sig.post [(D.V v0), (D.Z z1), (D.V v2), (D.Z z3), (D.S s4), (D.S s14)] := by
  obtain ⟨a1, a2, a3⟩ : 0 ≤ i15 ∧ i15 ≤ 8 ∧ s14 = textOf (outB ((eatL shaStart (fullB (bytesOf s4))).1.take i15.toNat)) := h
  show s14 = textOf (shaL (bytesOf s4))
  rw [a3, ← hz, List.take_of_length_le (by omega), hz, shaL_full (by rw [bytesOf_length']; exact hsz)]
end
theorem rOf.pure : rOf.Pure := by
  intro v0 z1 v2 z3 s4 h1 h2 h3 h4 n5
  obtain ⟨p1, p2, p3⟩ : z1 = shaStart ∧ z3 = shaRounds ∧ s4.size ≤ 1000000 := h4
  have hbl := bytesOf_length' s4
  have hpk := padK_lt s4.size
  obtain ⟨fl, fm⟩ := fullB_len (bytesOf s4)
  rw [hbl] at fl
  have e128 : (⟨#[128]⟩ : ByteArray) = textOf [128] := by decide
  have e0 : (⟨#[0]⟩ : ByteArray) = textOf [0] := by decide
  have s128 : (s4 ++ (⟨#[128]⟩ : ByteArray)).size = s4.size + 1 := by rw [ByteArray.size_append]; rfl
  refine ⟨by rw [s128]; omega, fun _ => ⟨⟨by decide, by omega, ?_⟩, ?_⟩⟩
  · rw [e128]
    conv => lhs; rw [← textOf_bytesOf s4]
    rw [textOf_append]; simp
  intro s6 i7 h5 h6 h7
  obtain ⟨a1, a2, a3⟩ : 0 ≤ i7 ∧ i7 ≤ padK s4.size ∧ s6 = textOf (bytesOf s4 ++ [128] ++ List.replicate i7.toNat 0) := h7
  have s6s : s6.size = s4.size + 1 + i7.toNat := by rw [a3, size_textOf]; simp only [List.length_append, List.length_replicate, hbl, List.length_cons, List.length_nil]
  refine ⟨fun h8 => ⟨fun h9 => ?_, fun h9 => ?_⟩, fun h8 => absurd h8 (by omega)⟩
  · have ss : (s6 ++ (⟨#[0]⟩ : ByteArray)).size = s6.size + 1 := by rw [ByteArray.size_append]; rfl
    rw [i64w (x := i7 + 1) (by omega) (by omega)]
    have hk : i7.toNat + 1 ≤ padK s4.size := padK_next (by omega) (by
      intro hc; apply h9
      rw [Int.tmod_eq_emod_of_nonneg (by omega)]; omega)
    refine ⟨by rw [ss]; omega, fun _ => ⟨⟨by omega, by omega, ?_⟩, ?_⟩⟩
    · rw [a3, e0, textOf_append, show (i7 + 1).toNat = i7.toNat + 1 from by omega, List.append_assoc, List.replicate_succ']
    · show (64 - (i7 + 1)).toNat < (64 - i7).toNat; omega
  · have hk : i7.toNat = padK s4.size := padK_only (by omega) (by rw [Int.tmod_eq_emod_of_nonneg (by omega)] at h9; omega)
    rw [u64w (x := ((s4.size : Nat) : Int)) (by omega) (by omega), u64w (x := ((s4.size : Nat) : Int) * 8) (by omega) (by omega)]
    refine ⟨⟨by decide, by decide, by rw [show (0 : Int).toNat = 0 from rfl, Int.pow_zero, Int.ediv_one], rfl⟩, ?_⟩
    intro i8 s9 i10 h10 h11 h12 h13
    obtain ⟨b1, b2, b3, b4⟩ : 0 ≤ i10 ∧ i10 ≤ 8 ∧ i8 = (s4.size : Int) * 8 / 256 ^ i10.toNat ∧ s9 = textOf (bytesLE ((s4.size : Int) * 8) i10.toNat).reverse := h13
    have s9s : s9.size = i10.toNat := by rw [b4, size_textOf, List.length_reverse, bytesLE_len]
    refine ⟨fun h14 v11 => ?_, fun h14 => ?_⟩
    · have et : IntKind.wrap .u8 (Int.tmod i8 256) = i8 % 256 := by rw [Int.tmod_eq_emod_of_nonneg h10.1, u8w, Int.emod_emod]
      have ed : IntKind.wrap .u64 (Int.tdiv i8 256) = i8 / 256 := by rw [Int.tdiv_eq_ediv_of_nonneg h10.1]; exact u64w (by omega) (by omega)
      rw [et, ed, i64w (x := i10 + 1) (by omega) (by omega)]
      have ss : (textOf (i8 % 256 :: ([] : List Int)) ++ s9).size = 1 + s9.size := by rw [ByteArray.size_append, size_textOf]; rfl
      refine ⟨by rw [ss]; omega, fun _ => ⟨⟨by omega, by omega, ?_, ?_⟩, ?_⟩⟩
      · rw [b3, show (i10 + 1).toNat = i10.toNat + 1 from by omega, Int.pow_succ, Int.ediv_ediv_of_nonneg (Int.le_of_lt (Int.pow_pos (by decide)))]
      · rw [b4, textOf_append, b3, show (i10 + 1).toNat = i10.toNat + 1 from by omega, bytesLE_succ, List.reverse_append]; rfl
      · show (8 - (i10 + 1)).toNat < (8 - i10).toNat; omega
    · have eF : s6 ++ s9 = textOf (fullB (bytesOf s4)) := by
        rw [a3, b4, textOf_append, hk, show i10.toNat = 8 from by omega]
        congr 1
        simp only [fullB, hbl, be8, bits8]
      have hF : bytesOf (s6 ++ s9) = fullB (bytesOf s4) := by rw [eF, bytesOf_textOf (fullB_has s4)]
      have sF : (s6 ++ s9).size = (fullB (bytesOf s4)).length := by rw [eF, size_textOf]
      refine ⟨by rw [sF]; omega, fun _ => ⟨⟨by decide, by decide, by omega, by rw [p1]; rfl, by rw [p1]; rfl⟩, ?_⟩⟩
      intro v11 z12 i13 h15 h16 h17
      obtain ⟨c1, c2, c3, c4, c5⟩ : 0 ≤ i13 ∧ i13 % 64 = 0 ∧ i13 ≤ (fullB (bytesOf s4)).length ∧ z12.length = 8 ∧ (eatL z12 ((fullB (bytesOf s4)).drop i13.toNat)).1 = (eatL shaStart (fullB (bytesOf s4))).1 := h17
      rw [sF]
      refine ⟨fun h18 => ?_, fun h18 => ?_⟩
      · rw [i64w (x := i13 + 64) (by omega) (by omega)]
        have hx : ((s6 ++ s9).extract i13.toNat (i13 + 64).toNat).size = 64 := by rw [ByteArray.size_extract, sF]; omega
        refine ⟨by omega, fun _ => ⟨c1, fun _ => ⟨by omega, fun _ => ⟨⟨c4, p2, hx⟩, ?_⟩⟩⟩⟩
        intro v14 z15 h19 h20
        have h19 : z15 = mixL z12 (bytesOf ((s6 ++ s9).extract i13.toNat (i13 + 64).toNat)) := h19
        have hdl : ((fullB (bytesOf s4)).drop i13.toNat).length = (fullB (bytesOf s4)).length - i13.toNat := List.length_drop
        refine ⟨⟨by omega, by omega, by omega, ?_, ?_⟩, ?_⟩
        · rw [h19]; exact mixL_len c4
        · rw [← c5, eatL_ge (l := (fullB (bytesOf s4)).drop i13.toNat) (by omega), h19, bytesOf_extract, hF, List.drop_take, List.drop_drop, show (i13 + 64).toNat - i13.toNat = 64 from by omega, show i13.toNat + 64 = (i13 + 64).toNat from by omega]
        · show ((fullB (bytesOf s4)).length - (i13 + 64)).toNat < ((fullB (bytesOf s4)).length - i13).toNat; omega
      · have hz : z12 = (eatL shaStart (fullB (bytesOf s4))).1 := by
          rw [List.drop_eq_nil_of_le (by omega), eatL_lt (by decide)] at c5
          exact c5
        refine ⟨⟨by decide, by decide, rfl⟩, ?_⟩
        intro s14 i15 h19 h20 h21
        refine ⟨fun h22 => ?_, fun h22 => ofEnd hz c4 p3 h21 h22⟩
        obtain ⟨d1, d2, d3⟩ : 0 ≤ i15 ∧ i15 ≤ 8 ∧ s14 = textOf (outB ((eatL shaStart (fullB (bytesOf s4))).1.take i15.toNat)) := h21
        have hv : 0 ≤ z12.getD i15.toNat 0 ∧ z12.getD i15.toNat 0 < 4294967296 := by
          rw [List.getD, List.getElem?_eq_getElem (by omega)]
          exact has_in.1 (h16 _ (List.getElem_mem _))
        have key : s14 ++ textOf (docOut (z12.getD i15.toNat 0)) = textOf (outB (z12.take (i15.toNat + 1))) := by
          rw [d3, textOf_append, docOut_is hv, take_next (by omega), outB_append, ← hz]; simp [outB]
        have hol : (outB (z12.take (i15.toNat + 1))).length ≤ 32 := by
          have e : ∀ l : List Int, (outB l).length = 4 * l.length := by
            intro l
            induction l with
            | nil => rfl
            | cons x l ih => simp only [outB, List.flatMap_cons, List.length_append, List.length_cons, List.length_nil] at *; omega
          rw [e, List.length_take]; omega
        refine ⟨d1, fun _ v16 => ?_⟩
        rw [i64w (x := i15 + 1) (by omega) (by omega)]
        refine ⟨?_, fun _ => ⟨⟨by omega, by omega, ?_⟩, ?_⟩⟩
        · show (((s14 ++ textOf (docOut (z12.getD i15.toNat 0))).size : Nat) : Int) ≤ 9223372036854775807
          rw [key, size_textOf]; omega
        · show s14 ++ textOf (docOut (z12.getD i15.toNat 0)) = _
          rw [key, show (i15 + 1).toNat = i15.toNat + 1 from by omega, hz]
        · show (8 - (i15 + 1)).toNat < (8 - i15).toNat; omega

end Go.Vc
namespace Go.Vc
end Go.Vc
