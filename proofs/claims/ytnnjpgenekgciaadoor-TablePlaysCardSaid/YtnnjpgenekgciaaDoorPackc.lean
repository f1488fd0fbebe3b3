/-
  Numbers and texts as bytes: reading, the plain part.
  Numbers and texts as bytes: the laws on reading.
  Numbers and texts as bytes: what is written is read again.
-/
import Derived.Test.YtnnjpgenekgciaaDoorPackb
set_option linter.unusedVariables false
set_option linter.unusedSimpArgs false
namespace Go.Vc
theorem pk_rg {s : ByteArray} {a e n a' e' r : Int} (h : (a', e', r) = rdFixed s a e n) (ha : 0 ≤ a ∧ a ≤ s.size) : 0 ≤ a' ∧ a' ≤ s.size := by
  have hc := clamp18 n
  have := (rdRaw_size s a e (clamp 1 8 n) (by omega) ha).2
  have e1 : a' = (rdRaw s a e (clamp 1 8 n)).1 := congrArg (·.1) h
  rw [e1]; exact this
theorem pk_err {s : ByteArray} {a e n : Int} (he : e ≠ 0) : rdFixed s a e n = (a, e, 0) := by
  rw [rdFixed, rdRaw, if_pos he]; rfl
theorem clamp_in {n : Int} (hn : 1 ≤ n ∧ n ≤ 8) : clamp 1 8 n = n := by unfold clamp; rw [if_neg (by omega), if_neg (by omega)]
theorem pk_ok {s : ByteArray} {a n : Int} (ha : 0 ≤ a) (hn : 1 ≤ n ∧ n ≤ 8) (h : a + n ≤ s.size) : rdFixed s a 0 n = (a + n, 0, beNum (((bytesOf s).drop a.toNat).take n.toNat)) := by
  rw [rdFixed, clamp_in hn, rdRaw, if_neg (by simp), if_neg (by omega)]
  show (a + n, (0 : Int), beNum (bytesOf (s.extract a.toNat (a + n).toNat))) = _
  rw [bytesOf_extract, List.drop_take, show (a + n).toNat - a.toNat = n.toNat from by omega]
theorem pk_short {s : ByteArray} {a n : Int} (hn : 1 ≤ n ∧ n ≤ 8) (h : (s.size : Int) < a + n) : rdFixed s a 0 n = (a, 2, 0) := by
  rw [rdFixed, clamp_in hn, rdRaw, if_neg (by simp), if_pos (by omega)]; rfl
/-- What a read that went well says. -/
theorem pk_inv {s : ByteArray} {a e n a' r : Int} (ha : 0 ≤ a) (hn : 1 ≤ n ∧ n ≤ 8) (h : (a', 0, r) = rdFixed s a e n) :
    e = 0 ∧ a + n ≤ s.size ∧ a' = a + n ∧ r = beNum (((bytesOf s).drop a.toNat).take n.toNat) := by
  by_cases he : e = 0
  · subst he
    by_cases hs : a + n ≤ s.size
    · rw [pk_ok ha hn hs] at h
      simp only [Prod.mk.injEq] at h
      exact ⟨rfl, hs, h.1, h.2.2⟩
    · rw [pk_short hn (by omega)] at h
      simp only [Prod.mk.injEq] at h
      omega
  · rw [pk_err he] at h
    simp only [Prod.mk.injEq] at h
    omega

theorem pk_len {l : List Int} {a n : Nat} (h : a + n ≤ l.length) : ((l.drop a).take n).length = n := by
  rw [List.length_take, List.length_drop]; omega

theorem pk_be : ∀ (l : List Int), (∀ x ∈ l, 0 ≤ x ∧ x < 256) → ∀ i (h2 : i < l.length), beNum l / 256 ^ (l.length - 1 - i) % 256 = l[i] := by
  intro l
  induction l with
  | nil => intro _ i h2; simp at h2
  | cons c l ih =>
    intro h i h2
    have hc := h c (by simp)
    have hr := beNum_range (l := l) (fun x hx => h x (by simp [hx])) l.length (Nat.le_refl _)
    rw [List.take_length] at hr
    have e0 : beNum (c :: l) = c * 256 ^ l.length + beNum l := by
      show l.foldl _ (256 * 0 + c) = _
      rw [beNum_acc]; simp
    rw [e0, List.length_cons]
    cases i with
    | zero =>
      rw [show l.length + 1 - 1 - 0 = l.length from by omega, Int.add_comm, Int.add_mul_ediv_right _ _ (Int.ne_of_gt (pow256_pos _)), Int.ediv_eq_zero_of_lt hr.1 hr.2]
      simp; omega
    | succ i =>
      have hi : i < l.length := by simpa using h2
      rw [show l.length + 1 - 1 - (i + 1) = l.length - 1 - i from by omega, List.getElem_cons_succ, ← ih (fun x hx => h x (by simp [hx])) i hi]
      have e1 : c * 256 ^ l.length = (c * 256 ^ i * 256) * 256 ^ (l.length - 1 - i) := by
        rw [Int.mul_assoc, Int.mul_assoc, ← Int.pow_succ', ← Int.pow_add]
        congr 2
        omega
      rw [e1, Int.add_comm, Int.add_mul_ediv_right _ _ (Int.ne_of_gt (pow256_pos _))]
      omega
theorem pk_back {l : List Int} (h : ∀ x ∈ l, 0 ≤ x ∧ x < 256) : beB (beNum l) l.length = l := by
  apply List.ext_getElem (beB_len _ _)
  intro i h1 h2
  have hb := beB_get (beNum l) (n := l.length) (k := i) h2
  have e1 : (beB (beNum l) l.length).getD i 0 = (beB (beNum l) l.length)[i] := by simp [List.getD, h1]
  rw [← e1, hb]
  exact pk_be l h i h2

/-- The one spelling. -/
theorem pk_one {l : List Int} {n : Int} (h : ∀ x ∈ l, 0 ≤ x ∧ x < 256) (hn : 1 ≤ n) (hl : (l.length : Int) = n) :
    numB (beNum l) = (247 + n) :: l ↔ ¬ (beNum l < 248 ∨ widthF (beNum l) ≠ n) := by
  constructor
  · intro he hc
    unfold numB at he
    split at he
    · have := congrArg List.length he
      simp at this
      subst this
      simp at hl; omega
    · simp only [List.cons.injEq] at he
      have := he.1
      omega
  · intro hc
    have h1 : ¬ beNum l < 248 := by omega
    have h2 : widthF (beNum l) = n := by omega
    rw [numB, if_neg h1, h2]
    congr 1
    rw [show n.toNat = l.length from by omega, pk_back h]

theorem rn_a {S : ByteArray} {a e a1 e1 v1 : Int} (h : (a1, e1, v1) = rdFixed S a e 1) (hc : e1 ≠ 0 ∨ v1 < 248) : rdNum S a e = (a1, e1, v1) := by
  rw [rdNum, ← h, if_pos hc]
theorem rn_b {S : ByteArray} {a e a1 e1 v1 a2 e2 u : Int} (h : (a1, e1, v1) = rdFixed S a e 1) (hc : ¬ (e1 ≠ 0 ∨ v1 < 248)) (h2 : (a2, e2, u) = rdFixed S a1 e1 (v1 - 247)) (he : e2 ≠ 0) : rdNum S a e = (a, e2, 0) := by
  rw [rdNum, ← h, if_neg hc, ← h2]
  simp [he]
theorem rn_c {S : ByteArray} {a e a1 e1 v1 a2 u : Int} (h : (a1, e1, v1) = rdFixed S a e 1) (hc : ¬ (e1 ≠ 0 ∨ v1 < 248)) (h2 : (a2, 0, u) = rdFixed S a1 e1 (v1 - 247)) (he : u < 248 ∨ widthF u ≠ v1 - 247) : rdNum S a e = (a, 3, 0) := by
  rw [rdNum, ← h, if_neg hc, ← h2]
  simp [he]
theorem rn_d {S : ByteArray} {a e a1 e1 v1 a2 u : Int} (h : (a1, e1, v1) = rdFixed S a e 1) (hc : ¬ (e1 ≠ 0 ∨ v1 < 248)) (h2 : (a2, 0, u) = rdFixed S a1 e1 (v1 - 247)) (he : ¬ (u < 248 ∨ widthF u ≠ v1 - 247)) : rdNum S a e = (a2, 0, u) := by
  rw [rdNum, ← h, if_neg hc, ← h2]
  simp only [he]
  simp

theorem pk_byte {S : ByteArray} {a e a1 e1 v1 : Int} (ha : 0 ≤ a ∧ a ≤ S.size) (h : (a1, e1, v1) = rdFixed S a e 1) : 0 ≤ v1 ∧ v1 < 256 := by
  by_cases he : e1 = 0
  · subst he
    have hi := pk_inv ha.1 (by omega) h
    have hr := beNum_range (l := ((bytesOf S).drop a.toNat).take 1) (fun x hx => bytesOf_has S x (List.mem_of_mem_drop (List.mem_of_mem_take hx))) _ (Nat.le_refl _)
    rw [List.take_length, pk_len (by rw [bytesOf_length']; omega)] at hr
    have e : v1 = beNum (((bytesOf S).drop a.toNat).take 1) := hi.2.2.2
    rw [e]; exact hr
  · have : v1 = 0 := by
      by_cases h0 : e = 0
      · subst h0
        by_cases hs : a + 1 ≤ S.size
        · rw [pk_ok ha.1 (by omega) hs] at h; simp only [Prod.mk.injEq] at h; omega
        · rw [pk_short (by omega) (by omega)] at h; simp only [Prod.mk.injEq] at h; omega
      · rw [pk_err h0] at h; simp only [Prod.mk.injEq] at h; omega
    omega

theorem rdNum_at {S : ByteArray} {a e a1 e1 v1 : Int} (ha : 0 ≤ a ∧ a ≤ S.size) (h : (a1, e1, v1) = rdNum S a e) : 0 ≤ a1 ∧ a1 ≤ S.size := by
  generalize hr : rdFixed S a e 1 = r
  obtain ⟨b, f, w⟩ := r
  have hb := pk_rg hr.symm ha
  by_cases hc : f ≠ 0 ∨ w < 248
  · rw [rn_a hr.symm hc] at h
    simp only [Prod.mk.injEq] at h
    rw [h.1]; exact hb
  · generalize hq : rdFixed S b f (w - 247) = q
    obtain ⟨c, g, u⟩ := q
    have hcc := pk_rg hq.symm hb
    by_cases hg : g = 0
    · subst hg
      by_cases hu : u < 248 ∨ widthF u ≠ w - 247
      · rw [rn_c hr.symm hc hq.symm hu] at h
        simp only [Prod.mk.injEq] at h
        rw [h.1]; exact ha
      · rw [rn_d hr.symm hc hq.symm hu] at h
        simp only [Prod.mk.injEq] at h
        rw [h.1]; exact hcc
    · rw [rn_b hr.symm hc hq.symm hg] at h
      simp only [Prod.mk.injEq] at h
      rw [h.1]; exact ha

theorem rdRaw_at {S : ByteArray} {a e n a1 e1 : Int} {r : ByteArray} (ha : 0 ≤ a ∧ a ≤ S.size) (h : (a1, e1, r) = rdRaw S a e n) : 0 ≤ a1 ∧ a1 ≤ S.size := by
  unfold rdRaw at h
  split at h
  · simp only [Prod.mk.injEq] at h; rw [h.1]; exact ha
  · split at h
    · simp only [Prod.mk.injEq] at h; rw [h.1]; exact ha
    · simp only [Prod.mk.injEq] at h; omega

theorem rdText_at {S : ByteArray} {a e m a1 e1 : Int} {r : ByteArray} (ha : 0 ≤ a ∧ a ≤ S.size) (h : (a1, e1, r) = rdText S a e m) : 0 ≤ a1 ∧ a1 ≤ S.size := by
  generalize hn : rdNum S a e = n
  obtain ⟨b, f, w⟩ := n
  have hb := rdNum_at ha hn.symm
  unfold rdText at h
  rw [hn] at h
  simp only at h
  generalize hq : rdRaw S b (if f = 0 ∧ w > max m 0 then 12 else f) (min w 1099511627776) = q at h
  obtain ⟨c, g, u⟩ := q
  have hc := rdRaw_at hb hq.symm
  simp only [Prod.mk.injEq] at h
  rw [h.1]
  split <;> assumption

theorem PFail.pure : PFail.Pure := by
  intro n0 s1 i2 i3 i4 h1 h2 h3 h4 h5
  refine ⟨?_, ?_⟩
  · intro h6
    exact ⟨rfl, by rw [if_pos h6]⟩
  · intro h6
    exact ⟨rfl, by rw [if_neg h6]⟩

theorem PDone.pure : PDone.Pure := by
  intro n0 s1 i2 i3 h1 h2 h3 h4
  have h4 : 0 ≤ i2 ∧ i2 ≤ s1.size := h4
  refine ⟨?_, ?_⟩
  · intro h5
    refine ⟨h4, ?_⟩
    intro i4 i5 h6 h7 h8
    obtain ⟨e1, e2⟩ : i4 = i2 ∧ i5 = if i3 = 0 then 3 else i3 := h6
    refine ⟨e1, ?_, rfl⟩
    rw [rdDone, e2]
    by_cases hc : i3 = 0
    · rw [if_pos hc, if_pos ⟨h5, hc⟩]
    · rw [if_neg hc, if_neg (fun h => hc h.2)]
  · intro h5
    refine ⟨rfl, ?_, rfl⟩
    rw [rdDone, if_neg (by omega)]

theorem cut40 {x : Int} (h : 0 ≤ x ∧ x < 18446744073709551616) : IntKind.wrap .i64 (minI x (1099511627776 : Int)) = min x 1099511627776 := by
  rw [minI_eq, i64w (by omega) (by omega)]

theorem PText.pure : PText.Pure := by
  intro n0 s1 i2 i3 i4 h1 h2 h3 h4 h5
  have h5 : 0 ≤ i2 ∧ i2 ≤ s1.size := h5
  refine ⟨h5, ?_⟩
  intro i5 i6 i7 h6 h8 h7 h9
  have h6 : (i5, i6, i7) = rdNum s1 i2 i3 := h6
  have hb := rdNum_at h5 h6
  have unf : ∀ x, (if i6 = 0 ∧ i7 > max i4 0 then (12 : Int) else i6) = x → ∀ a e r, (a, e, r) = rdRaw s1 i5 x (min i7 1099511627776) → rdText s1 i2 i3 i4 = (if e ≠ 0 then i2 else a, e, r) := by
    intro x hx a e r hr
    unfold rdText
    rw [← h6]
    simp only [hx]
    rw [← hr]
  have em : IntKind.wrap .u64 (maxI i4 (0 : Int)) = max i4 0 := by rw [maxI_eq, u64w (by omega) (by omega)]
  have e40 := cut40 (x := i7) (by assumption)
  try rw [em]
  have fin : ∀ x, (if i6 = 0 ∧ i7 > max i4 0 then (12 : Int) else i6) = x → PRaw.sig.pre [(D.N n0), (D.S s1), (D.I i5), (D.I x), (D.I (min i7 1099511627776))] ∧
      ∀ (i8 i9 : Int) (s10 : ByteArray), PRaw.sig.post [(D.N n0), (D.S s1), (D.I i5), (D.I x), (D.I (min i7 1099511627776)), (D.I i8), (D.I i9), (D.S s10)] →
        (i9 ≠ 0 → PText.sig.post [(D.N n0), (D.S s1), (D.I i2), (D.I i3), (D.I i4), (D.I i2), (D.I i9), (D.S s10)]) ∧
        (i9 = 0 → PText.sig.post [(D.N n0), (D.S s1), (D.I i2), (D.I i3), (D.I i4), (D.I i8), (D.I i9), (D.S s10)]) := by
    intro x hx
    refine ⟨hb, ?_⟩
    intro i8 i9 s10 h
    have h := unf x hx i8 i9 s10 h
    constructor
    · intro hc
      show (i2, i9, s10) = rdText s1 i2 i3 i4
      rw [h, if_pos hc]
    · intro hc
      show (i8, i9, s10) = rdText s1 i2 i3 i4
      rw [h, if_neg (by omega)]
  rw [e40]
  refine ⟨?_, ?_⟩
  · intro h10
    refine ⟨?_, ?_⟩
    · intro h11
      have f := fin 12 (by rw [if_pos ⟨h10, h11⟩])
      exact ⟨f.1, fun i8 i9 s10 h _ _ _ => f.2 i8 i9 s10 h⟩
    · intro h11
      have f := fin i6 (by rw [if_neg (by omega)])
      exact ⟨f.1, fun i8 i9 s10 h _ _ _ => f.2 i8 i9 s10 h⟩
  · intro h10
    have f := fin i6 (by rw [if_neg (by omega)])
    exact ⟨f.1, fun i8 i9 s10 h _ _ _ => f.2 i8 i9 s10 h⟩

end Go.Vc
namespace Go.Vc
theorem take_one_at {S : ByteArray} {a : Int} (ha : 0 ≤ a) (h : a + 1 ≤ S.size) : ((bytesOf S).drop a.toNat).take 1 = [beNum (((bytesOf S).drop a.toNat).take 1)] := by
  have hl := bytesOf_length' S
  have e2 : ((bytesOf S).drop a.toNat).take 1 = [((bytesOf S).drop a.toNat).getD 0 0] := by
    have := take_snoc' (l := (bytesOf S).drop a.toNat) (i := 0) (by rw [List.length_drop]; omega)
    simpa using this
  rw [e2]; simp [beNum]

/-- A number that was read well stands there, as the one spelling. -/
theorem num_spell {S : ByteArray} {a e a' v : Int} (ha : 0 ≤ a ∧ a ≤ S.size) (h : (a', 0, v) = rdNum S a e) :
    e = 0 ∧ a ≤ a' ∧ a' ≤ S.size ∧ ((bytesOf S).drop a.toNat).take (a' - a).toNat = numB v := by
  have hr := rdNum_at ha h
  generalize hq : rdFixed S a e 1 = r
  obtain ⟨b, f, w⟩ := r
  have hb := pk_rg hq.symm ha
  have hw := pk_byte ha hq.symm
  by_cases hc : f ≠ 0 ∨ w < 248
  · rw [rn_a hq.symm hc] at h
    simp only [Prod.mk.injEq] at h
    obtain ⟨rfl, rfl, rfl⟩ := h
    have q := pk_inv ha.1 (by omega) hq.symm
    refine ⟨q.1, by omega, hr.2, ?_⟩
    have e4 := q.2.2.2
    rw [show (1 : Int).toNat = 1 from rfl] at e4
    rw [show (a' - a).toNat = 1 from by omega, take_one_at ha.1 q.2.1, ← e4, numB, if_pos (by omega)]
  · generalize hp : rdFixed S b f (w - 247) = p
    obtain ⟨c, g, u⟩ := p
    by_cases hg : g = 0
    · subst hg
      by_cases hu : u < 248 ∨ widthF u ≠ w - 247
      · rw [rn_c hq.symm hc hp.symm hu] at h
        simp only [Prod.mk.injEq] at h
        omega
      · rw [rn_d hq.symm hc hp.symm hu] at h
        simp only [Prod.mk.injEq] at h
        obtain ⟨rfl, -, rfl⟩ := h
        have hf : f = 0 := by omega
        subst hf
        have q1 := pk_inv ha.1 (by omega) hq.symm
        have q2 := pk_inv hb.1 (by omega) hp.symm
        have hl := bytesOf_length' S
        refine ⟨q1.1, by omega, hr.2, ?_⟩
        have has : ∀ x ∈ ((bytesOf S).drop b.toNat).take (w - 247).toNat, 0 ≤ x ∧ x < 256 := fun x hx => bytesOf_has S x (List.mem_of_mem_drop (List.mem_of_mem_take hx))
        have hlen : ((((bytesOf S).drop b.toNat).take (w - 247).toNat).length : Int) = w - 247 := by rw [pk_len (by omega)]; omega
        have one := pk_one has (n := w - 247) (by omega) hlen
        rw [← q2.2.2.2, show 247 + (w - 247) = w from by omega] at one
        rw [one.2 hu, show (a' - a).toNat = 1 + (w - 247).toNat from by omega, List.take_add, List.drop_drop, show a.toNat + 1 = b.toNat from by omega, take_one_at ha.1 q1.2.1]
        have e4 := q1.2.2.2
        rw [show (1 : Int).toNat = 1 from rfl] at e4
        rw [← e4]; rfl
    · rw [rn_b hq.symm hc hp.symm hg] at h
      simp only [Prod.mk.injEq] at h
      omega

theorem raw_spell {S : ByteArray} {a e n a' : Int} {t : ByteArray} (ha : 0 ≤ a ∧ a ≤ S.size) (h : (a', 0, t) = rdRaw S a e n) :
    e = 0 ∧ 0 ≤ n ∧ a' = a + n ∧ a' ≤ S.size ∧ ((bytesOf S).drop a.toNat).take n.toNat = bytesOf t ∧ (t.size : Int) = n := by
  unfold rdRaw at h
  split at h
  · simp only [Prod.mk.injEq] at h; omega
  · split at h
    · simp only [Prod.mk.injEq] at h; omega
    · simp only [Prod.mk.injEq] at h
      obtain ⟨rfl, -, rfl⟩ := h
      refine ⟨by omega, by omega, rfl, by omega, ?_, ?_⟩
      · rw [bytesOf_extract, List.drop_take, show (a + n).toNat - a.toNat = n.toNat from by omega]
      · rw [ByteArray.size_extract]; omega

theorem text_spell {S : ByteArray} {a e m a' : Int} {t : ByteArray} (ha : 0 ≤ a ∧ a ≤ S.size) (hm : 0 ≤ m ∧ m ≤ 1000000000) (h : (a', 0, t) = rdText S a e m) :
    e = 0 ∧ a ≤ a' ∧ a' ≤ S.size ∧ ((bytesOf S).drop a.toNat).take (a' - a).toNat = textB t := by
  generalize hn : rdNum S a e = n
  obtain ⟨b, f, w⟩ := n
  have hb := rdNum_at ha hn.symm
  unfold rdText at h
  rw [hn] at h
  simp only at h
  by_cases hc : f = 0 ∧ w > max m 0
  · rw [if_pos hc, rdRaw, if_pos (show (12 : Int) ≠ 0 by decide)] at h
    simp only [Prod.mk.injEq] at h
    omega
  · rw [if_neg hc] at h
    generalize hq : rdRaw S b f (min w 1099511627776) = q at h
    obtain ⟨c, g, u⟩ := q
    simp only [Prod.mk.injEq] at h
    obtain ⟨h1, h2, rfl⟩ := h
    subst h2
    rw [if_neg (by decide)] at h1
    subst h1
    have r := raw_spell hb hq.symm
    obtain ⟨rfl, r2, r3, r4, r5, r6⟩ := r
    have s := num_spell ha hn.symm
    have hmin : min w 1099511627776 = w := by omega
    rw [hmin] at r2 r3 r5 r6
    refine ⟨s.1, by omega, r4, ?_⟩
    rw [textB, r6, show (a' - a).toNat = (b - a).toNat + w.toNat from by omega, List.take_add, List.drop_drop, s.2.2.2, show a.toNat + (b - a).toNat = b.toNat from by omega, r5]

end Go.Vc
namespace Go.Vc
theorem at_len {S : ByteArray} {a : Int} {l r : List Int} (ha : 0 ≤ a ∧ a ≤ S.size) (h : (bytesOf S).drop a.toNat = l ++ r) : a + l.length ≤ S.size := by
  have e := congrArg List.length h
  rw [List.length_drop, bytesOf_length', List.length_append] at e
  omega
theorem at_take {S : ByteArray} {a : Int} {l r : List Int} {n : Nat} (hn : n = l.length) (h : (bytesOf S).drop a.toNat = l ++ r) : ((bytesOf S).drop a.toNat).take n = l := by
  rw [h, hn, List.take_left]

theorem back_num {S : ByteArray} {a v : Int} {r : List Int} (hv : 0 ≤ v ∧ v < 18446744073709551616) (ha : 0 ≤ a ∧ a ≤ S.size) (h : (bytesOf S).drop a.toNat = numB v ++ r) :
    rdNum S a 0 = (a + (numB v).length, 0, v) := by
  have hl := at_len ha h
  have hw := widthF_range v
  unfold numB at h hl ⊢
  by_cases hc : v < 248
  · rw [if_pos hc] at h hl ⊢
    have k := pk_ok (s := S) (n := 1) ha.1 (by omega) (by simp at hl; omega)
    rw [show (1 : Int).toNat = [v].length from rfl, at_take rfl h, show beNum [v] = v from by simp [beNum]] at k
    rw [rn_a k.symm (.inr hc)]; rfl
  · rw [if_neg hc] at h hl ⊢
    rw [List.length_cons, beB_len] at hl
    have k := pk_ok (s := S) (n := 1) ha.1 (by omega) (by omega)
    rw [show (1 : Int).toNat = [247 + widthF v].length from rfl, at_take rfl (show _ = [247 + widthF v] ++ (beB v (widthF v).toNat ++ r) from h), show beNum [247 + widthF v] = 247 + widthF v from by simp [beNum]] at k
    have k2 := pk_ok (s := S) (a := a + 1) (n := widthF v) (by omega) (by omega) (by omega)
    have h2 : (bytesOf S).drop (a + 1).toNat = beB v (widthF v).toNat ++ r := by
      rw [show (a + 1).toNat = a.toNat + 1 from by omega, ← List.drop_drop, h]; rfl
    rw [at_take (by rw [beB_len]) h2, beNum_beB, Int.emod_eq_of_lt hv.1 (widthF_lt hv)] at k2
    rw [rn_d k.symm (by omega) (a2 := a + 1 + widthF v) (u := v) (by rw [show 247 + widthF v - 247 = widthF v from by omega, k2]) (by omega)]
    rw [List.length_cons, beB_len]
    have e9 : a + 1 + widthF v = a + (((widthF v).toNat + 1 : Nat) : Int) := by omega
    rw [e9]

theorem back_raw {S t : ByteArray} {a : Int} {r : List Int} (ha : 0 ≤ a ∧ a ≤ S.size) (h : (bytesOf S).drop a.toNat = bytesOf t ++ r) :
    rdRaw S a 0 t.size = (a + (bytesOf t).length, 0, t) := by
  have hl := at_len ha h
  have hb := bytesOf_length' t
  rw [rdRaw, if_neg (by simp), if_neg (by omega)]
  simp only [Prod.mk.injEq]
  refine ⟨by omega, trivial, ?_⟩
  apply text_inj
  rw [bytesOf_extract, List.drop_take, at_take (by omega) h]

theorem back_text {S t : ByteArray} {a m : Int} {r : List Int} (hm : t.size ≤ m) (hm2 : m ≤ 1000000000) (ha : 0 ≤ a ∧ a ≤ S.size) (h : (bytesOf S).drop a.toNat = textB t ++ r) :
    rdText S a 0 m = (a + (textB t).length, 0, t) := by
  have hl := at_len ha h
  rw [textB, List.append_assoc] at h
  rw [textB, List.length_append] at hl
  have k := back_num (by omega) ha h
  have h2 : (bytesOf S).drop (a + (numB t.size).length).toNat = bytesOf t ++ r := by
    rw [show (a + (numB t.size).length).toNat = a.toNat + (numB t.size).length from by omega, ← List.drop_drop, h, List.drop_left]
  have k2 := back_raw (by omega) h2
  unfold rdText
  rw [k]
  simp only
  rw [if_neg (show ¬ (True ∧ (t.size : Int) > max m 0) from fun h => by omega), show min (t.size : Int) 1099511627776 = t.size from by omega, k2]
  simp only [ne_eq, not_true_eq_false, if_false, Prod.mk.injEq, and_true]
  rw [textB, List.length_append]; omega

end Go.Vc
