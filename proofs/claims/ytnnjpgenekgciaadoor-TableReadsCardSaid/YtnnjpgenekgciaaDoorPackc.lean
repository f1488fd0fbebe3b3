/-
  Numbers and texts as bytes: reading, the plain part.
  Numbers and texts as bytes: the laws on reading.
  Numbers and texts as bytes: what is written is read again.
-/
import Derived.Test.YtnnjpgenekgciaaDoorPackb
set_option linter.unusedVariables false
set_option linter.unusedSimpArgs false
namespace Go.Vc
theorem pk_rg {s : ByteArray} {a e n a' e' r : Int} (h : (a', e', r) = rdFixed s a e n) (ha : 0 ≤ a ∧ a ≤ s.size) : 0 ≤ a' ∧ a' ≤ s.size := by
  have hc := clamp18 n
  have := (rdRaw_size s a e (clamp 1 8 n) (by omega) ha).2
  have e1 : a' = (rdRaw s a e (clamp 1 8 n)).1 := congrArg (·.1) h
  rw [e1]; exact this
theorem pk_err {s : ByteArray} {a e n : Int} (he : e ≠ 0) : rdFixed s a e n = (a, e, 0) := by
  rw [rdFixed, rdRaw, if_pos he]; rfl
theorem clamp_in {n : Int} (hn : 1 ≤ n ∧ n ≤ 8) : clamp 1 8 n = n := by unfold clamp; rw [if_neg (by omega), if_neg (by omega)]
theorem pk_ok {s : ByteArray} {a n : Int} (ha : 0 ≤ a) (hn : 1 ≤ n ∧ n ≤ 8) (h : a + n ≤ s.size) : rdFixed s a 0 n = (a + n, 0, beNum (((bytesOf s).drop a.toNat).take n.toNat)) := by
  rw [rdFixed, clamp_in hn, rdRaw, if_neg (by simp), if_neg (by omega)]
  show (a + n, (0 : Int), beNum (bytesOf (s.extract a.toNat (a + n).toNat))) = _
  rw [bytesOf_extract, List.drop_take, show (a + n).toNat - a.toNat = n.toNat from by omega]
theorem pk_short {s : ByteArray} {a n : Int} (hn : 1 ≤ n ∧ n ≤ 8) (h : (s.size : Int) < a + n) : rdFixed s a 0 n = (a, 2, 0) := by
  rw [rdFixed, clamp_in hn, rdRaw, if_neg (by simp), if_pos (by omega)]; rfl
/-- What a read that went well says. -/
theorem pk_inv {s : ByteArray} {a e n a' r : Int} (ha : 0 ≤ a) (hn : 1 ≤ n ∧ n ≤ 8) (h : (a', 0, r) = rdFixed s a e n) :
    e = 0 ∧ a + n ≤ s.size ∧ a' = a + n ∧ r = beNum (((bytesOf s).drop a.toNat).take n.toNat) := by
  by_cases he : e = 0
  · subst he
    by_cases hs : a + n ≤ s.size
    · rw [pk_ok ha hn hs] at h
      simp only [Prod.mk.injEq] at h
      exact ⟨rfl, hs, h.1, h.2.2⟩
    · rw [pk_short hn (by omega)] at h
      simp only [Prod.mk.injEq] at h
      omega
  · rw [pk_err he] at h
    simp only [Prod.mk.injEq] at h
    omega

theorem pk_len {l : List Int} {a n : Nat} (h : a + n ≤ l.length) : ((l.drop a).take n).length = n := by
  rw [List.length_take, List.length_drop]; omega

theorem pk_be : ∀ (l : List Int), (∀ x ∈ l, 0 ≤ x ∧ x < 256) → ∀ i (h2 : i < l.length), beNum l / 256 ^ (l.length - 1 - i) % 256 = l[i] := by
  intro l
  induction l with
  | nil => intro _ i h2; simp at h2
  | cons c l ih =>
    intro h i h2
    have hc := h c (by simp)
    have hr := beNum_range (l := l) (fun x hx => h x (by simp [hx])) l.length (Nat.le_refl _)
    rw [List.take_length] at hr
    have e0 : beNum (c :: l) = c * 256 ^ l.length + beNum l := by
      show l.foldl _ (256 * 0 + c) = _
      rw [beNum_acc]; simp
    rw [e0, List.length_cons]
    cases i with
    | zero =>
      rw [show l.length + 1 - 1 - 0 = l.length from by omega, Int.add_comm, Int.add_mul_ediv_right _ _ (Int.ne_of_gt (pow256_pos _)), Int.ediv_eq_zero_of_lt hr.1 hr.2]
      simp; omega
    | succ i =>
      have hi : i < l.length := by simpa using h2
      rw [show l.length + 1 - 1 - (i + 1) = l.length - 1 - i from by omega, List.getElem_cons_succ, ← ih (fun x hx => h x (by simp [hx])) i hi]
      have e1 : c * 256 ^ l.length = (c * 256 ^ i * 256) * 256 ^ (l.length - 1 - i) := by
        rw [Int.mul_assoc, Int.mul_assoc, ← Int.pow_succ', ← Int.pow_add]
        congr 2
        omega
      rw [e1, Int.add_comm, Int.add_mul_ediv_right _ _ (Int.ne_of_gt (pow256_pos _))]
      omega
theorem pk_back {l : List Int} (h : ∀ x ∈ l, 0 ≤ x ∧ x < 256) : beB (beNum l) l.length = l := by
  apply List.ext_getElem (beB_len _ _)
  intro i h1 h2
  have hb := beB_get (beNum l) (n := l.length) (k := i) h2
  have e1 : (beB (beNum l) l.length).getD i 0 = (beB (beNum l) l.length)[i] := by simp [List.getD, h1]
  rw [← e1, hb]
  exact pk_be l h i h2

/-- The one spelling. -/
theorem pk_one {l : List Int} {n : Int} (h : ∀ x ∈ l, 0 ≤ x ∧ x < 256) (hn : 1 ≤ n) (hl : (l.length : Int) = n) :
    numB (beNum l) = (247 + n) :: l ↔ ¬ (beNum l < 248 ∨ widthF (beNum l) ≠ n) := by
  constructor
  · intro he hc
    unfold numB at he
    split at he
    · have := congrArg List.length he
      simp at this
      subst this
      simp at hl; omega
    · simp only [List.cons.injEq] at he
      have := he.1
      omega
  · intro hc
    have h1 : ¬ beNum l < 248 := by omega
    have h2 : widthF (beNum l) = n := by omega
    rw [numB, if_neg h1, h2]
    congr 1
    rw [show n.toNat = l.length from by omega, pk_back h]

theorem rn_a {S : ByteArray} {a e a1 e1 v1 : Int} (h : (a1, e1, v1) = rdFixed S a e 1) (hc : e1 ≠ 0 ∨ v1 < 248) : rdNum S a e = (a1, e1, v1) := by
  rw [rdNum, ← h, if_pos hc]
theorem rn_b {S : ByteArray} {a e a1 e1 v1 a2 e2 u : Int} (h : (a1, e1, v1) = rdFixed S a e 1) (hc : ¬ (e1 ≠ 0 ∨ v1 < 248)) (h2 : (a2, e2, u) = rdFixed S a1 e1 (v1 - 247)) (he : e2 ≠ 0) : rdNum S a e = (a, e2, 0) := by
  rw [rdNum, ← h, if_neg hc, ← h2]
  simp [he]
theorem rn_c {S : ByteArray} {a e a1 e1 v1 a2 u : Int} (h : (a1, e1, v1) = rdFixed S a e 1) (hc : ¬ (e1 ≠ 0 ∨ v1 < 248)) (h2 : (a2, 0, u) = rdFixed S a1 e1 (v1 - 247)) (he : u < 248 ∨ widthF u ≠ v1 - 247) : rdNum S a e = (a, 3, 0) := by
  rw [rdNum, ← h, if_neg hc, ← h2]
  simp [he]
theorem rn_d {S : ByteArray} {a e a1 e1 v1 a2 u : Int} (h : (a1, e1, v1) = rdFixed S a e 1) (hc : ¬ (e1 ≠ 0 ∨ v1 < 248)) (h2 : (a2, 0, u) = rdFixed S a1 e1 (v1 - 247)) (he : ¬ (u < 248 ∨ widthF u ≠ v1 - 247)) : rdNum S a e = (a2, 0, u) := by
  rw [rdNum, ← h, if_neg hc, ← h2]
  simp only [he]
  simp

theorem pk_byte {S : ByteArray} {a e a1 e1 v1 : Int} (ha : 0 ≤ a ∧ a ≤ S.size) (h : (a1, e1, v1) = rdFixed S a e 1) : 0 ≤ v1 ∧ v1 < 256 := by
  by_cases he : e1 = 0
  · subst he
    have hi := pk_inv ha.1 (by omega) h
    have hr := beNum_range (l := ((bytesOf S).drop a.toNat).take 1) (fun x hx => bytesOf_has S x (List.mem_of_mem_drop (List.mem_of_mem_take hx))) _ (Nat.le_refl _)
    rw [List.take_length, pk_len (by rw [bytesOf_length']; omega)] at hr
    have e : v1 = beNum (((bytesOf S).drop a.toNat).take 1) := hi.2.2.2
    rw [e]; exact hr
  · have : v1 = 0 := by
      by_cases h0 : e = 0
      · subst h0
        by_cases hs : a + 1 ≤ S.size
        · rw [pk_ok ha.1 (by omega) hs] at h; simp only [Prod.mk.injEq] at h; omega
        · rw [pk_short (by omega) (by omega)] at h; simp only [Prod.mk.injEq] at h; omega
      · rw [pk_err h0] at h; simp only [Prod.mk.injEq] at h; omega
    omega

theorem rdNum_at {S : ByteArray} {a e a1 e1 v1 : Int} (ha : 0 ≤ a ∧ a ≤ S.size) (h : (a1, e1, v1) = rdNum S a e) : 0 ≤ a1 ∧ a1 ≤ S.size := by
  generalize hr : rdFixed S a e 1 = r
  obtain ⟨b, f, w⟩ := r
  have hb := pk_rg hr.symm ha
  by_cases hc : f ≠ 0 ∨ w < 248
  · rw [rn_a hr.symm hc] at h
    simp only [Prod.mk.injEq] at h
    rw [h.1]; exact hb
  · generalize hq : rdFixed S b f (w - 247) = q
    obtain ⟨c, g, u⟩ := q
    have hcc := pk_rg hq.symm hb
    by_cases hg : g = 0
    · subst hg
      by_cases hu : u < 248 ∨ widthF u ≠ w - 247
      · rw [rn_c hr.symm hc hq.symm hu] at h
        simp only [Prod.mk.injEq] at h
        rw [h.1]; exact ha
      · rw [rn_d hr.symm hc hq.symm hu] at h
        simp only [Prod.mk.injEq] at h
        rw [h.1]; exact hcc
    · rw [rn_b hr.symm hc hq.symm hg] at h
      simp only [Prod.mk.injEq] at h
      rw [h.1]; exact ha

theorem rdRaw_at {S : ByteArray} {a e n a1 e1 : Int} {r : ByteArray} (ha : 0 ≤ a ∧ a ≤ S.size) (h : (a1, e1, r) = rdRaw S a e n) : 0 ≤ a1 ∧ a1 ≤ S.size := by
  unfold rdRaw at h
  split at h
  · simp only [Prod.mk.injEq] at h; rw [h.1]; exact ha
  · split at h
    · simp only [Prod.mk.injEq] at h; rw [h.1]; exact ha
    · simp only [Prod.mk.injEq] at h; omega

theorem rdText_at {S : ByteArray} {a e m a1 e1 : Int} {r : ByteArray} (ha : 0 ≤ a ∧ a ≤ S.size) (h : (a1, e1, r) = rdText S a e m) : 0 ≤ a1 ∧ a1 ≤ S.size := by
  generalize hn : rdNum S a e = n
  obtain ⟨b, f, w⟩ := n
  have hb := rdNum_at ha hn.symm
  unfold rdText at h
  rw [hn] at h
  simp only at h
  generalize hq : rdRaw S b (if f = 0 ∧ w > max m 0 then 12 else f) (min w 1099511627776) = q at h
  obtain ⟨c, g, u⟩ := q
  have hc := rdRaw_at hb hq.symm
  simp only [Prod.mk.injEq] at h
  rw [h.1]
  split <;> assumption

theorem PFail.pure : PFail.Pure := by
  intro n0 s1 i2 i3 i4 h1 h2 h3 h4 h5
  refine ⟨?_, ?_⟩
  · intro h6
    exact ⟨rfl, by rw [if_pos h6]⟩
  · intro h6
    exact ⟨rfl, by rw [if_neg h6]⟩

theorem PDone.pure : PDone.Pure := by
  intro n0 s1 i2 i3 h1 h2 h3 h4
  have h4 : 0 ≤ i2 ∧ i2 ≤ s1.size := h4
  refine ⟨?_, ?_⟩
  · intro h5
    refine ⟨h4, ?_⟩
    intro i4 i5 h6 h7 h8
    obtain ⟨e1, e2⟩ : i4 = i2 ∧ i5 = if i3 = 0 then 3 else i3 := h6
    refine ⟨e1, ?_, rfl⟩
    rw [rdDone, e2]
    by_cases hc : i3 = 0
    · rw [if_pos hc, if_pos ⟨h5, hc⟩]
    · rw [if_neg hc, if_neg (fun h => hc h.2)]
  · intro h5
    refine ⟨rfl, ?_, rfl⟩
    rw [rdDone, if_neg (by omega)]

theorem cut40 {x : Int} (h : 0 ≤ x ∧ x < 18446744073709551616) : IntKind.wrap .i64 (minI x (1099511627776 : Int)) = min x 1099511627776 := by
  rw [minI_eq, i64w (by omega) (by omega)]

theorem PText.pure : PText.Pure := by
  intro n0 s1 i2 i3 i4 h1 h2 h3 h4 h5
  have h5 : 0 ≤ i2 ∧ i2 ≤ s1.size := h5
  refine ⟨h5, ?_⟩
  intro i5 i6 i7 h6 h8 h7 h9
  have h6 : (i5, i6, i7) = rdNum s1 i2 i3 := h6
  have hb := rdNum_at h5 h6
  have unf : ∀ x, (if i6 = 0 ∧ i7 > max i4 0 then (12 : Int) else i6) = x → ∀ a e r, (a, e, r) = rdRaw s1 i5 x (min i7 1099511627776) → rdText s1 i2 i3 i4 = (if e ≠ 0 then i2 else a, e, r) := by
    intro x hx a e r hr
    unfold rdText
    rw [← h6]
    simp only [hx]
    rw [← hr]
  have em : IntKind.wrap .u64 (maxI i4 (0 : Int)) = max i4 0 := by rw [maxI_eq, u64w (by omega) (by omega)]
  have e40 := cut40 (x := i7) (by assumption)
  try rw [em]
  have fin : ∀ x, (if i6 = 0 ∧ i7 > max i4 0 then (12 : Int) else i6) = x → PRaw.sig.pre [(D.N n0), (D.S s1), (D.I i5), (D.I x), (D.I (min i7 1099511627776))] ∧
      ∀ (i8 i9 : Int) (s10 : ByteArray), PRaw.sig.post [(D.N n0), (D.S s1), (D.I i5), (D.I x), (D.I (min i7 1099511627776)), (D.I i8), (D.I i9), (D.S s10)] →
        (i9 ≠ 0 → PText.sig.post [(D.N n0), (D.S s1), (D.I i2), (D.I i3), (D.I i4), (D.I i2), (D.I i9), (D.S s10)]) ∧
        (i9 = 0 → PText.sig.post [(D.N n0), (D.S s1), (D.I i2), (D.I i3), (D.I i4), (D.I i8), (D.I i9), (D.S s10)]) := by
    intro x hx
    refine ⟨hb, ?_⟩
    intro i8 i9 s10 h
    have h := unf x hx i8 i9 s10 h
    constructor
    · intro hc
      show (i2, i9, s10) = rdText s1 i2 i3 i4
      rw [h, if_pos hc]
    · intro hc
      show (i8, i9, s10) = rdText s1 i2 i3 i4
      rw [h, if_neg (by omega)]
  rw [e40]
  refine ⟨?_, ?_⟩
  · intro h10
    refine ⟨?_, ?_⟩
    · intro h11
      have f := fin 12 (by rw [if_pos ⟨h10, h11⟩])
      exact ⟨f.1, fun i8 i9 s10 h _ _ _ => f.2 i8 i9 s10 h⟩
    · intro h11
      have f := fin i6 (by rw [if_neg (by omega)])
      exact ⟨f.1, fun i8 i9 s10 h _ _ _ => f.2 i8 i9 s10 h⟩
  · intro h10
    have f := fin i6 (by rw [if_neg (by omega)])
    exact ⟨f.1, fun i8 i9 s10 h _ _ _ => f.2 i8 i9 s10 h⟩

theorem cRaw.pure : cRaw.Pure := by
  intro s0 i1 i2 i3 h1 h2 h3 h4 h5 n4 n5
  have h5 : 0 ≤ i1 ∧ i1 ≤ s0.size ∧ s0.size ≤ 1000000000 := h5
  try rw [i64w (x := ((s0.size : Nat) : Int) - i1) (by omega) (by omega)]
  refine ⟨?_, ?_⟩
  · intro h6
    show (i1, i2, ByteArray.empty) = rdRaw s0 i1 i2 i3
    rw [rdRaw, if_pos h6]
  · intro h6
    have h6 : i2 = 0 := h6
    refine ⟨?_, ?_⟩
    · intro h7
      show (i1, (2 : Int), ByteArray.empty) = rdRaw s0 i1 i2 i3
      rw [rdRaw, if_neg (by omega), if_pos (.inl h7)]
    · intro h7
      refine ⟨?_, ?_⟩
      · intro h8
        show (i1, (2 : Int), ByteArray.empty) = rdRaw s0 i1 i2 i3
        rw [rdRaw, if_neg (by omega), if_pos (.inr h8)]
      · intro h8
        rw [i64w (x := i1 + i3) (by omega) (by omega)]
        refine ⟨by omega, fun h9 => ⟨by omega, fun h10 => ⟨by omega, fun h11 => ?_⟩⟩⟩
        show (i1 + i3, i2, s0.extract i1.toNat (i1 + i3).toNat) = rdRaw s0 i1 i2 i3
        rw [rdRaw, if_neg (by omega), if_neg (by omega)]

theorem cFixed.pure : cFixed.Pure := by
  intro s0 i1 i2 i3 h1 h2 h3 h4 h5 n4 n5
  have h5 : 0 ≤ i1 ∧ i1 ≤ s0.size ∧ s0.size ≤ 1000000000 ∧ 1 ≤ i3 ∧ i3 ≤ 8 := h5
  have ec := clamp_in (n := i3) ⟨h5.2.2.2.1, h5.2.2.2.2⟩
  refine ⟨⟨h5.1, h5.2.1, h5.2.2.1⟩, ?_⟩
  intro i6 i7 s8 h6 h7 h8 h9
  have h6 : (i6, i7, s8) = rdRaw s0 i1 i2 i3 := h6
  have es : (rdRaw s0 i1 i2 i3).2.2 = s8 := by rw [← h6]
  have hs8 : (s8.size : Int) ≤ i3 := by
    have := (rdRaw_size s0 i1 i2 i3 (by omega) ⟨h5.1, h5.2.1⟩).1
    rwa [es] at this
  have hlen := bytesOf_length' s8
  have hby := bytesOf_has s8
  have inv : ∀ v i : Int, cFixed.I0 [(D.S s0), (D.I i1), (D.I i2), (D.I i3), (D.I v), (D.I i)] ↔ 0 ≤ i ∧ i ≤ s8.size ∧ v = beNum ((bytesOf s8).take i.toNat) := by
    intro v i
    show 0 ≤ i ∧ i ≤ (rdRaw s0 i1 i2 i3).2.2.size ∧ v = beNum ((bytesOf (rdRaw s0 i1 i2 i3).2.2).take i.toNat) ↔ _
    rw [es]
  refine ⟨?_, ?_⟩
  · exact (inv _ _).2 ⟨by decide, by omega, rfl⟩
  intro i9 i10 h10 h11 h12
  obtain ⟨a, b, d⟩ := (inv _ _).1 h12
  refine ⟨?_, ?_⟩
  · intro h13
    refine ⟨a, fun h14 => ?_⟩
    have hx : 0 ≤ byteAt s8 i10 ∧ byteAt s8 i10 < 256 := has_in.1 (has_byteAt s8 i10)
    have hr := beNum_range hby i10.toNat (by omega)
    have hp : (256 : Int) ^ i10.toNat ≤ 256 ^ 7 := by
      have h2 : 256 ^ i10.toNat ≤ 256 ^ 7 := Nat.pow_le_pow_right (by decide : 0 < 256) (by omega)
      have h3 : ((256 ^ i10.toNat : Nat) : Int) ≤ ((256 ^ 7 : Nat) : Int) := by omega
      rwa [Int.natCast_pow, Int.natCast_pow] at h3
    have hp7 : (256 : Int) ^ 7 = 72057594037927936 := rfl
    rw [u64w (x := byteAt s8 i10) (by omega) (by omega), u64w (x := 256 * i9) (by omega) (by omega), u64w (by omega) (by omega), i64w (by omega) (by omega)]
    refine ⟨?_, ?_⟩
    · refine (inv _ _).2 ⟨by omega, by omega, ?_⟩
      rw [show (i10 + 1).toNat = i10.toNat + 1 from by omega, take_snoc' (by omega), beNum_snoc, d, byteAt_eq]
    · show ((rdRaw s0 i1 i2 i3).2.2.size - (i10 + 1)).toNat < ((rdRaw s0 i1 i2 i3).2.2.size - i10).toNat
      rw [es]; omega
  · intro h13
    show (i6, i7, i9) = rdFixed s0 i1 i2 i3
    rw [rdFixed, ec, ← h6, d, List.take_of_length_le (by omega)]

theorem cNum.pure : cNum.Pure := by
  intro s0 i1 i2 h1 h2 h3 h4 n3 n4
  have h4 : 0 ≤ i1 ∧ i1 ≤ s0.size ∧ s0.size ≤ 1000000000 := h4
  refine ⟨⟨h4.1, h4.2.1, h4.2.2, by decide, by decide⟩, ?_⟩
  intro i5 i6 i7 h5 h6 h7 h8 n8
  have h5 : (i5, i6, i7) = rdFixed s0 i1 i2 1 := h5
  have hb := pk_rg h5 ⟨h4.1, h4.2.1⟩
  have hv := pk_byte ⟨h4.1, h4.2.1⟩ h5
  refine ⟨?_, ?_⟩
  · intro h9
    exact (rn_a h5 (.inl h9)).symm
  · intro h9
    refine ⟨?_, ?_⟩
    · intro h10
      exact (rn_a h5 (.inr h10)).symm
    · intro h10
      have hc : ¬ (i6 ≠ 0 ∨ i7 < 248) := by omega
      rw [i64w (x := i7) (by omega) (by omega), i64w (x := i7 - 247) (by omega) (by omega)]
      refine ⟨⟨hb.1, hb.2, h4.2.2, by omega, by omega⟩, ?_⟩
      intro i9 i10 i11 h11 h12 h13 h14
      have h11 : (i9, i10, i11) = rdFixed s0 i5 i6 (i7 - 247) := h11
      have fb : i10 ≠ 0 → cNum.sig.post [(D.S s0), (D.I i1), (D.I i2), (D.I i1), (D.I i10), (D.I (0 : Int))] := fun h => (rn_b h5 hc h11 h).symm
      refine ⟨?_, ?_⟩
      · intro h15
        subst h15
        subst h9
        have q1 := pk_inv h4.1 (by omega) h5
        have q2 := pk_inv hb.1 (by omega) h11
        have b1 : i1 ≤ i9 := by omega
        have b3 : i9 ≤ s0.size := by omega
        have hl := bytesOf_length' s0
        have has : ∀ x ∈ ((bytesOf s0).drop i5.toNat).take (i7 - 247).toNat, 0 ≤ x ∧ x < 256 := fun x hx => bytesOf_has s0 x (List.mem_of_mem_drop (List.mem_of_mem_take hx))
        have hlen : ((((bytesOf s0).drop i5.toNat).take (i7 - 247).toNat).length : Int) = i7 - 247 := by rw [pk_len (by omega)]; omega
        have one := pk_one has (n := i7 - 247) (by omega) hlen
        rw [← q2.2.2.2, show 247 + (i7 - 247) = i7 from by omega] at one
        have cut : bytesOf (s0.extract i1.toNat i9.toNat) = i7 :: ((bytesOf s0).drop i5.toNat).take (i7 - 247).toNat := by
          rw [bytesOf_extract, List.drop_take, show i9.toNat - i1.toNat = 1 + (i7 - 247).toNat from by omega, List.take_add, List.drop_drop, show i1.toNat + 1 = i5.toNat from by omega]
          have e1 := q1.2.2.2
          have e2 : ((bytesOf s0).drop i1.toNat).take 1 = [((bytesOf s0).drop i1.toNat).getD 0 0] := by
            have := take_snoc' (l := (bytesOf s0).drop i1.toNat) (i := 0) (by rw [List.length_drop]; omega)
            simpa using this
          have e3 : i7 = ((bytesOf s0).drop i1.toNat).getD 0 0 := by
            rw [e1, show (1 : Int).toNat = 1 from rfl, e2]; simp [beNum]
          rw [e2, ← e3]; rfl
        have fin : ∀ s12 : ByteArray, RNum.sig.post [(D.I i11), (D.S s12)] → (s12 ≠ s0.extract i1.toNat i9.toNat → cNum.sig.post [(D.S s0), (D.I i1), (D.I i2), (D.I i1), (D.I (3 : Int)), (D.I (0 : Int))]) ∧
            (s12 = s0.extract i1.toNat i9.toNat → cNum.sig.post [(D.S s0), (D.I i1), (D.I i2), (D.I i9), (D.I (0 : Int)), (D.I i11)]) := by
          intro s12 hs
          have hs : s12 = textOf (numB i11) := hs
          have hsb : bytesOf s12 = numB i11 := by rw [hs, bytesOf_textOf (numB_has h14.1)]
          constructor
          · intro hne
            refine (rn_c h5 hc h11 ?_).symm
            apply Classical.byContradiction
            intro hcc
            exact hne (text_inj (by rw [hsb, cut]; exact one.2 hcc))
          · intro he
            refine (rn_d h5 hc h11 (one.1 ?_)).symm
            rw [← hsb, he, cut]
        repeat' first
          | exact ⟨trivial, fun s12 hs _ => ⟨b1, fun _ => ⟨h4.1, fun _ => ⟨b3, fun _ => ⟨fun hh => ⟨fun _ => (fin s12 hs).1 hh, fun hx => absurd hx (by decide)⟩, fun hh => ⟨fun hx => absurd rfl hx, fun _ => (fin s12 hs).2 hh⟩⟩⟩⟩⟩⟩
          | exact ⟨b1, fun _ => ⟨h4.1, fun _ => ⟨b3, fun _ => ⟨trivial, fun s12 hs _ => ⟨fun hh => ⟨fun _ => (fin s12 hs).1 hh, fun hx => absurd hx (by decide)⟩, fun hh => ⟨fun hx => absurd rfl hx, fun _ => (fin s12 hs).2 hh⟩⟩⟩⟩⟩⟩
          | refine ⟨?_, ?_⟩
      · intro h15
        refine ⟨fun _ => fb h15, fun h => absurd h h15⟩

theorem cText.pure : cText.Pure := by
  intro s0 i1 i2 i3 h1 h2 h3 h4 h5 n4 n5
  have h5 : 0 ≤ i1 ∧ i1 ≤ s0.size ∧ s0.size ≤ 1000000000 := h5
  refine ⟨h5, ?_⟩
  intro i6 i7 i8 h6 h7 h8 h9 n9
  have h6 : (i6, i7, i8) = rdNum s0 i1 i2 := h6
  have hb := rdNum_at ⟨h5.1, h5.2.1⟩ h6
  have unf : ∀ x, (if i7 = 0 ∧ i8 > max i3 0 then (12 : Int) else i7) = x → ∀ a e r, (a, e, r) = rdRaw s0 i6 x (min i8 1099511627776) → rdText s0 i1 i2 i3 = (if e ≠ 0 then i1 else a, e, r) := by
    intro x hx a e r hr
    unfold rdText
    rw [← h6]
    simp only [hx]
    rw [← hr]
  have f12 : i7 = 0 → max i3 0 < i8 → cText.sig.post [(D.S s0), (D.I i1), (D.I i2), (D.I i3), (D.I i1), (D.I (12 : Int)), (D.S (⟨#[]⟩ : ByteArray))] := by
    intro a b
    refine Eq.symm ?_
    rw [unf 12 (by rw [if_pos ⟨a, b⟩]) i6 12 ByteArray.empty (by rw [rdRaw, if_pos (by decide)])]; rfl
  have f2 : i7 = 0 → i8 ≤ max i3 0 → (s0.size : Int) - i6 < i8 → cText.sig.post [(D.S s0), (D.I i1), (D.I i2), (D.I i3), (D.I i1), (D.I (2 : Int)), (D.S (⟨#[]⟩ : ByteArray))] := by
    intro a b c
    refine Eq.symm ?_
    rw [unf 0 (by rw [if_neg (by omega), a]) i6 2 ByteArray.empty (by rw [rdRaw, if_neg (by simp), if_pos (by omega)])]; rfl
  have fe : i7 ≠ 0 → cText.sig.post [(D.S s0), (D.I i1), (D.I i2), (D.I i3), (D.I i1), (D.I i7), (D.S (⟨#[]⟩ : ByteArray))] := by
    intro a
    refine Eq.symm ?_
    rw [unf i7 (by rw [if_neg (by omega)]) i6 i7 ByteArray.empty (by rw [rdRaw, if_pos a]), if_pos a]; rfl
  have fok : i7 = 0 → i8 ≤ max i3 0 → i8 ≤ (s0.size : Int) - i6 → cRaw.sig.pre [(D.S s0), (D.I i6), (D.I i7), (D.I (IntKind.wrap .i64 i8))] ∧ (
      ∀ (i10 : Int), ∀ (i11 : Int), ∀ (s12 : ByteArray),
       cRaw.sig.post [(D.S s0), (D.I i6), (D.I i7), (D.I (IntKind.wrap .i64 i8)), (D.I i10), (D.I i11), (D.S s12)] →
       (-9223372036854775808 ≤ i10 ∧ i10 < 9223372036854775808) →
       (-9223372036854775808 ≤ i11 ∧ i11 < 9223372036854775808) →
       ((s12.size : Int) ≤ 9223372036854775807) →
       cText.sig.post [(D.S s0), (D.I i1), (D.I i2), (D.I i3), (D.I i10), (D.I i11), (D.S s12)]) := by
    intro a b c
    refine ⟨⟨hb.1, hb.2, h5.2.2⟩, ?_⟩
    intro i10 i11 s12 h _ _ _
    rw [i64w (by omega) (by omega)] at h
    have h : (i10, i11, s12) = rdRaw s0 i6 i7 i8 := h
    refine Eq.symm ?_
    have hm : min i8 1099511627776 = i8 := by omega
    rw [unf i7 (by rw [if_neg (by omega)]) i10 i11 s12 (by rw [hm, h])]
    have e11 : i11 = 0 := by
      rw [rdRaw, if_neg (by omega), if_neg (by omega)] at h
      simp only [Prod.mk.injEq] at h
      rw [h.2.1, a]
    rw [if_neg (by omega)]
  rw [i64w (x := ((s0.size : Nat) : Int) - i6) (by omega) (by omega), u64w (x := ((s0.size : Nat) : Int) - i6) (by omega) (by omega)]
  have hw : 0 ≤ i3 → IntKind.wrap .u64 i3 = i3 := fun h => u64w h (by omega)
  by_cases hi3 : 0 ≤ i3
  · rw [hw hi3]
    repeat' first
      | (exfalso; omega)
      | exact f12 (by omega) (by omega)
      | exact f2 (by omega) (by omega) (by omega)
      | exact fe (by omega)
      | exact fok (by omega) (by omega) (by omega)
      | refine ⟨?_, ?_⟩
      | intro _
  · repeat' first
      | (exfalso; omega)
      | exact f12 (by omega) (by omega)
      | exact f2 (by omega) (by omega) (by omega)
      | exact fe (by omega)
      | exact fok (by omega) (by omega) (by omega)
      | refine ⟨?_, ?_⟩
      | intro _

theorem cDone.pure : cDone.Pure := by
  intro s0 i1 i2 h1 h2 h3 h4 n3 n4
  refine ⟨?_, ?_⟩
  · intro h5
    refine ⟨?_, ?_⟩
    · intro h6
      refine ⟨rfl, ?_⟩
      rw [rdDone, if_pos ⟨h6, h5⟩]
    · intro h6
      refine ⟨rfl, ?_⟩
      rw [rdDone, if_neg (by omega)]
  · intro h5
    refine ⟨rfl, ?_⟩
    rw [rdDone, if_neg (by omega)]

end Go.Vc
namespace Go.Vc
theorem take_one_at {S : ByteArray} {a : Int} (ha : 0 ≤ a) (h : a + 1 ≤ S.size) : ((bytesOf S).drop a.toNat).take 1 = [beNum (((bytesOf S).drop a.toNat).take 1)] := by
  have hl := bytesOf_length' S
  have e2 : ((bytesOf S).drop a.toNat).take 1 = [((bytesOf S).drop a.toNat).getD 0 0] := by
    have := take_snoc' (l := (bytesOf S).drop a.toNat) (i := 0) (by rw [List.length_drop]; omega)
    simpa using this
  rw [e2]; simp [beNum]

/-- A number that was read well stands there, as the one spelling. -/
theorem num_spell {S : ByteArray} {a e a' v : Int} (ha : 0 ≤ a ∧ a ≤ S.size) (h : (a', 0, v) = rdNum S a e) :
    e = 0 ∧ a ≤ a' ∧ a' ≤ S.size ∧ ((bytesOf S).drop a.toNat).take (a' - a).toNat = numB v := by
  have hr := rdNum_at ha h
  generalize hq : rdFixed S a e 1 = r
  obtain ⟨b, f, w⟩ := r
  have hb := pk_rg hq.symm ha
  have hw := pk_byte ha hq.symm
  by_cases hc : f ≠ 0 ∨ w < 248
  · rw [rn_a hq.symm hc] at h
    simp only [Prod.mk.injEq] at h
    obtain ⟨rfl, rfl, rfl⟩ := h
    have q := pk_inv ha.1 (by omega) hq.symm
    refine ⟨q.1, by omega, hr.2, ?_⟩
    have e4 := q.2.2.2
    rw [show (1 : Int).toNat = 1 from rfl] at e4
    rw [show (a' - a).toNat = 1 from by omega, take_one_at ha.1 q.2.1, ← e4, numB, if_pos (by omega)]
  · generalize hp : rdFixed S b f (w - 247) = p
    obtain ⟨c, g, u⟩ := p
    by_cases hg : g = 0
    · subst hg
      by_cases hu : u < 248 ∨ widthF u ≠ w - 247
      · rw [rn_c hq.symm hc hp.symm hu] at h
        simp only [Prod.mk.injEq] at h
        omega
      · rw [rn_d hq.symm hc hp.symm hu] at h
        simp only [Prod.mk.injEq] at h
        obtain ⟨rfl, -, rfl⟩ := h
        have hf : f = 0 := by omega
        subst hf
        have q1 := pk_inv ha.1 (by omega) hq.symm
        have q2 := pk_inv hb.1 (by omega) hp.symm
        have hl := bytesOf_length' S
        refine ⟨q1.1, by omega, hr.2, ?_⟩
        have has : ∀ x ∈ ((bytesOf S).drop b.toNat).take (w - 247).toNat, 0 ≤ x ∧ x < 256 := fun x hx => bytesOf_has S x (List.mem_of_mem_drop (List.mem_of_mem_take hx))
        have hlen : ((((bytesOf S).drop b.toNat).take (w - 247).toNat).length : Int) = w - 247 := by rw [pk_len (by omega)]; omega
        have one := pk_one has (n := w - 247) (by omega) hlen
        rw [← q2.2.2.2, show 247 + (w - 247) = w from by omega] at one
        rw [one.2 hu, show (a' - a).toNat = 1 + (w - 247).toNat from by omega, List.take_add, List.drop_drop, show a.toNat + 1 = b.toNat from by omega, take_one_at ha.1 q1.2.1]
        have e4 := q1.2.2.2
        rw [show (1 : Int).toNat = 1 from rfl] at e4
        rw [← e4]; rfl
    · rw [rn_b hq.symm hc hp.symm hg] at h
      simp only [Prod.mk.injEq] at h
      omega

theorem raw_spell {S : ByteArray} {a e n a' : Int} {t : ByteArray} (ha : 0 ≤ a ∧ a ≤ S.size) (h : (a', 0, t) = rdRaw S a e n) :
    e = 0 ∧ 0 ≤ n ∧ a' = a + n ∧ a' ≤ S.size ∧ ((bytesOf S).drop a.toNat).take n.toNat = bytesOf t ∧ (t.size : Int) = n := by
  unfold rdRaw at h
  split at h
  · simp only [Prod.mk.injEq] at h; omega
  · split at h
    · simp only [Prod.mk.injEq] at h; omega
    · simp only [Prod.mk.injEq] at h
      obtain ⟨rfl, -, rfl⟩ := h
      refine ⟨by omega, by omega, rfl, by omega, ?_, ?_⟩
      · rw [bytesOf_extract, List.drop_take, show (a + n).toNat - a.toNat = n.toNat from by omega]
      · rw [ByteArray.size_extract]; omega

theorem text_spell {S : ByteArray} {a e m a' : Int} {t : ByteArray} (ha : 0 ≤ a ∧ a ≤ S.size) (hm : 0 ≤ m ∧ m ≤ 1000000000) (h : (a', 0, t) = rdText S a e m) :
    e = 0 ∧ a ≤ a' ∧ a' ≤ S.size ∧ ((bytesOf S).drop a.toNat).take (a' - a).toNat = textB t := by
  generalize hn : rdNum S a e = n
  obtain ⟨b, f, w⟩ := n
  have hb := rdNum_at ha hn.symm
  unfold rdText at h
  rw [hn] at h
  simp only at h
  by_cases hc : f = 0 ∧ w > max m 0
  · rw [if_pos hc, rdRaw, if_pos (show (12 : Int) ≠ 0 by decide)] at h
    simp only [Prod.mk.injEq] at h
    omega
  · rw [if_neg hc] at h
    generalize hq : rdRaw S b f (min w 1099511627776) = q at h
    obtain ⟨c, g, u⟩ := q
    simp only [Prod.mk.injEq] at h
    obtain ⟨h1, h2, rfl⟩ := h
    subst h2
    rw [if_neg (by decide)] at h1
    subst h1
    have r := raw_spell hb hq.symm
    obtain ⟨rfl, r2, r3, r4, r5, r6⟩ := r
    have s := num_spell ha hn.symm
    have hmin : min w 1099511627776 = w := by omega
    rw [hmin] at r2 r3 r5 r6
    refine ⟨s.1, by omega, r4, ?_⟩
    rw [textB, r6, show (a' - a).toNat = (b - a).toNat + w.toNat from by omega, List.take_add, List.drop_drop, s.2.2.2, show a.toNat + (b - a).toNat = b.toNat from by omega, r5]

end Go.Vc
namespace Go.Vc
end Go.Vc
