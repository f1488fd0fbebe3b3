/-
 Contracts of records in frames.
 Records in frames: plain laws.
 Printed by wip/vct.py: the conditions of functions, by their contracts.
 Records in frames keep their contracts: the plain part.
 Records in frames: scanning; two laws.
-/
import Derived.Test.YtmgeaephkagdiaaGreatDoorPack
import Derived.Test.YtmgeaephkagdiaaGreatDoorCrc
import Derived.KernelRfl
set_option linter.unusedVariables false
set_option linter.unusedSimpArgs false
namespace Go.Vc
def coverB (seq n : Int) : List Int := beB n 4 ++ beB seq 8
def frameB (seq : Int) (rec_ : ByteArray) : List Int :=
 79 :: 74 :: (coverB seq rec_.size ++ (beB (crcOf 0 (coverB seq rec_.size ++ bytesOf rec_)) 4 ++ bytesOf rec_))
def FCover.pre : List D → Prop
 | [.I _, .I n] => 0 ≤ n
 | _ => False
def FCover.post : List D → Prop
 | [.I q, .I n, .S r] => r = textOf (coverB q n)
 | _ => False
def FCover.sig : Sig := sigF [.i .u64, .i .i64] [.s] FCover.pre FCover.post
def FWrite.pre : List D → Prop
 | [.I _, .S s] => s.size ≤ 900000000
 | _ => False
def FWrite.post : List D → Prop
 | [.I q, .S s, .S r, .I e] => if s.size > 4194304 then r = ByteArray.empty ∧ e = 12 else r = textOf (frameB q s) ∧ e = 0
 | _ => False
def FWrite.sig : Sig := sigF [.i .u64, .s] [.s, .i .i64] FWrite.pre FWrite.post
def fRead (l : List Int) : Int × List Int × Int × Int :=
 if l.length < 2 then (0, [], 0, 2) else
 if l.take 2 ≠ [79, 74] then (0, [], 0, 3) else
 if l.length < 18 then (0, [], 0, 2) else
 let n := beNum ((l.drop 2).take 4)
 if n > 4194304 then (0, [], 0, 12) else
 if (l.length : Int) < 18 + n then (0, [], 0, 2) else
 let rec_ := (l.drop 18).take n.toNat
 if crcOf 0 ((l.drop 2).take 12 ++ rec_) ≠ beNum ((l.drop 14).take 4) then (0, [], 0, 4) else
 (beNum ((l.drop 6).take 8), rec_, 18 + n, 0)
def FRead.pre : List D → Prop
 | [.S s] => s.size ≤ 1000000000
 | _ => False
def FRead.post : List D → Prop
 | [.S s, .I q, .S r, .I n, .I e] => (q, bytesOf r, n, e) = fRead (bytesOf s)
 | _ => False
def FRead.sig : Sig := sigF [.s] [.i .u64, .s, .i .i64, .i .i64] FRead.pre FRead.post
def fScan : Nat → List Int → Int → List (List Int) × Int
 | 0, _, _ => ([], 0)
 | f + 1, l, q =>
  let r := fRead l
  if r.2.2.2 ≠ 0 ∨ r.1 ≠ q then ([], 0) else
  let x := fScan f (l.drop r.2.2.1.toNat) ((q + 1) % 18446744073709551616)
  (r.2.1 :: x.1, r.2.2.1 + x.2)
def scanF (l : List Int) (q : Int) : List (List Int) × Int := fScan (l.length + 1) l q
def txts (l : List (List Int)) : List D := l.map fun x => .S (textOf x)
def FScan.post : List D → Prop
 | [.S s, .I q, .V _, .L l, .I n] => l = txts (scanF (bytesOf s) q).1 ∧ n = (scanF (bytesOf s) q).2
 | _ => False
def FScan.pre : List D → Prop
 | [.S s, .I _] => s.size ≤ 1000000000
 | _ => False
def FScan.sig : Sig := sigF [.s, .i .u64] [.l [.str], .i .i64] FScan.pre FScan.post
def FScan.I0 : List D → Prop
 | [.S s, .I q0, .I q, .L out, .I a] => 0 ≤ a ∧ a ≤ s.size ∧ out.length ≤ a ∧ ∃ f done, ((s.size : Int) - a).toNat < f ∧ out = txts done ∧
   scanF (bytesOf s) q0 = (done ++ (fScan f ((bytesOf s).drop a.toNat) q).1, a + (fScan f ((bytesOf s).drop a.toNat) q).2)
 | _ => False
def FScan.I0M : List D → Nat
 | [.S s, .I _, .I _, .L _, .I a] => ((s.size : Int) - a).toNat
 | _ => 0
end Go.Vc
namespace Go.Vc
theorem coverB_len (q n : Int) : (coverB q n).length = 12 := by rw [coverB, List.length_append, beB_len, beB_len]
theorem frameB_len (q : Int) (r : ByteArray) : (frameB q r).length = 18 + r.size := by
 rw [frameB, List.length_cons, List.length_cons, List.length_append, List.length_append, coverB_len, beB_len, bytesOf_length']; omega
theorem frameB_has (q : Int) (r : ByteArray) : ∀ x ∈ frameB q r, 0 ≤ x ∧ x < 256 := by
 intro x hx
 simp only [frameB, coverB, List.mem_cons, List.mem_append] at hx
 rcases hx with rfl | rfl | (h | h) | h | h
 ·omega
 ·omega
 ·exact beB_has _ _ x h
 ·exact beB_has _ _ x h
 ·exact beB_has _ _ x h
 ·exact bytesOf_has r x h
theorem take_left {l1 l2 : List Int} {n : Nat} (h : l1.length = n) : (l1 ++ l2).take n = l1 := by subst h; simp
theorem drop_left {l1 l2 : List Int} {n : Nat} (h : l1.length = n) : (l1 ++ l2).drop n = l2 := by subst h; simp
theorem beNum_be {v : Int} {n : Nat} (h0 : 0 ≤ v) (h1 : v < 256 ^ n) : beNum (beB v n) = v := by rw [beNum_beB, Int.emod_eq_of_lt h0 h1]
theorem pow4 : (256 : Int) ^ 4 = 4294967296 := by decide
theorem pow8 : (256 : Int) ^ 8 = 18446744073709551616 := by decide
theorem frame_parts (q : Int) (r : ByteArray) (rest : List Int) :
  let l := frameB q r ++ rest
  l.take 2 = [79, 74] ∧ (l.drop 2).take 4 = beB r.size 4 ∧ (l.drop 2).take 12 = coverB q r.size ∧ (l.drop 6).take 8 = beB q 8 ∧
   (l.drop 14).take 4 = beB (crcOf 0 (coverB q r.size ++ bytesOf r)) 4 ∧ l.drop 18 = bytesOf r ++ rest := by
 intro l
 have e0 : l = [79, 74] ++ (coverB q r.size ++ (beB (crcOf 0 (coverB q r.size ++ bytesOf r)) 4 ++ (bytesOf r ++ rest))) := by
  simp only [l, frameB, List.cons_append, List.nil_append, List.append_assoc]
 have d2 : l.drop 2 = coverB q r.size ++ (beB (crcOf 0 (coverB q r.size ++ bytesOf r)) 4 ++ (bytesOf r ++ rest)) := by rw [e0]; exact drop_left rfl
 have d14 : l.drop 14 = beB (crcOf 0 (coverB q r.size ++ bytesOf r)) 4 ++ (bytesOf r ++ rest) := by
  rw [show 14 = 2 + 12 from rfl, ← List.drop_drop, d2]; exact drop_left (coverB_len _ _)
 have d6 : l.drop 6 = beB q 8 ++ (beB (crcOf 0 (coverB q r.size ++ bytesOf r)) 4 ++ (bytesOf r ++ rest)) := by
  rw [show 6 = 2 + 4 from rfl, ← List.drop_drop, d2]
  simp only [coverB, List.append_assoc]
  exact drop_left (beB_len _ _)
 refine ⟨?_, ?_, ?_, ?_, ?_, ?_⟩
 ·rw [e0]; exact take_left rfl
 ·rw [d2]; simp only [coverB, List.append_assoc]; exact take_left (beB_len _ _)
 ·rw [d2]; exact take_left (coverB_len _ _)
 ·rw [d6]; exact take_left (beB_len _ _)
 ·rw [d14]; exact take_left (beB_len _ _)
 ·rw [show 18 = 14 + 4 from rfl, ← List.drop_drop, d14]; exact drop_left (beB_len _ _)
theorem fRead_frame {q : Int} {r : ByteArray} (rest : List Int) (hq : 0 ≤ q ∧ q < 18446744073709551616) (hr : r.size ≤ 4194304) :
  fRead (frameB q r ++ rest) = (q, bytesOf r, (18 + r.size : Int), 0) := by
 obtain ⟨p1, p2, p3, p4, p5, p6⟩ := frame_parts q r rest
 have hl : (frameB q r ++ rest).length = 18 + r.size + rest.length := by rw [List.length_append, frameB_len]
 have hn : beNum (beB (r.size : Int) 4) = r.size := beNum_be (by omega) (by rw [pow4]; omega)
 have ht : (bytesOf r ++ rest).take r.size = bytesOf r := take_left (bytesOf_length' r)
 unfold fRead
 rw [if_neg (by omega), if_neg (by rw [p1]; simp), if_neg (by omega)]
 simp only [p2, hn, p3, p4, p5, p6]
 rw [if_neg (by omega), if_neg (by omega), show ((r.size : Int)).toNat = r.size from by omega, ht, beNum_be (crcOf_has _ _).1 (by rw [pow4]; exact (crcOf_has _ _).2), beNum_be hq.1 (by rw [pow8]; exact hq.2), if_neg (by simp)]
theorem fRead_torn {q : Int} {r : ByteArray} {c : Nat} (hr : r.size ≤ 4194304) (hc : c < 18 + r.size) : (fRead ((frameB q r).take c)).2.2.2 = 2 := by
 have hl : ((frameB q r).take c).length = c := by rw [List.length_take, frameB_len]; omega
 obtain ⟨p1, p2, _⟩ := frame_parts q r []
 rw [List.append_nil] at p1 p2
 unfold fRead
 rw [hl]
 by_cases h2 : c < 2
 ·rw [if_pos h2]
 ·rw [if_neg h2, if_neg (by rw [List.take_take, Nat.min_eq_left (by omega), p1]; simp)]
  by_cases h18 : c < 18
  ·rw [if_pos h18]
  ·rw [if_neg h18]
   have e : (((frameB q r).take c).drop 2).take 4 = beB r.size 4 := by
    rw [List.drop_take, List.take_take, Nat.min_eq_left (by omega), p2]
   have hn : beNum (beB (r.size : Int) 4) = r.size := beNum_be (by omega) (by rw [pow4]; omega)
   simp only [e, hn]
   rw [if_neg (by omega), if_pos (by omega)]
theorem fRead_n {l : List Int} (h : ∀ x ∈ l, 0 ≤ x ∧ x < 256) (he : (fRead l).2.2.2 = 0) : 18 ≤ (fRead l).2.2.1 ∧ (fRead l).2.2.1 ≤ l.length := by
 unfold fRead at he ⊢
 split at he <;> try (exact absurd he (by decide))
 split at he <;> try (exact absurd he (by decide))
 split at he <;> try (exact absurd he (by decide))
 dsimp only at he ⊢
 split at he <;> try (exact absurd he (by decide))
 split at he <;> try (exact absurd he (by decide))
 split at he <;> try (exact absurd he (by decide))
 rename_i h1 h2 h3 h4 h5 h6
 rw [if_neg h1, if_neg h2, if_neg h3, if_neg h4, if_neg h5, if_neg h6]
 have hr := beNum_range (l := (l.drop 2).take 4) (fun x hx => h x (List.mem_of_mem_drop (List.mem_of_mem_take hx))) _ (Nat.le_refl _)
 rw [List.take_length] at hr
 show 18 ≤ 18 + beNum ((l.drop 2).take 4) ∧ 18 + beNum ((l.drop 2).take 4) ≤ l.length
 omega
theorem scan_step {f : Nat} {l : List Int} {q : Int} (h : (fRead l).2.2.2 = 0) (hq : (fRead l).1 = q) :
  fScan (f + 1) l q = ((fRead l).2.1 :: (fScan f (l.drop (fRead l).2.2.1.toNat) ((q + 1) % 18446744073709551616)).1, (fRead l).2.2.1 + (fScan f (l.drop (fRead l).2.2.1.toNat) ((q + 1) % 18446744073709551616)).2) := by
 simp only [fScan]
 rw [if_neg (fun h1 => h1.elim (fun h1 => h1 h) (fun h1 => h1 hq))]
theorem scan_stop {f : Nat} {l : List Int} {q : Int} (h : (fRead l).2.2.2 ≠ 0 ∨ (fRead l).1 ≠ q) : fScan (f + 1) l q = ([], 0) := by
 simp only [fScan]
 rw [if_pos h]
end Go.Vc
namespace Go.Vc
set_option linter.unusedVariables false
def FCover.Pure : Prop :=
 ∀ i0 i1 : Int,
 U64 i0 →
 R64 i1 →
 FCover.sig.pre [.I i0, .I i1] →
 ∀ v2 : Value,
 ∀ n3 : Nat,
 WFixed.sig.pre [.N n3, .V v2, .Z ([] : List Int), .I (IntKind.wrap .u64 i1), .I 4] ∧ (
 ∀ v4 : Value,
 ∀ z5 : List Int,
 WFixed.sig.post [.N n3, .V v2, .Z ([] : List Int), .I (IntKind.wrap .u64 i1), .I 4, .V v4, .Z z5] →
 (∀ x ∈ z5, IntKind.has .u8 x) →
 WFixed.sig.pre [.N n3, .V v4, .Z z5, .I i0, .I 8] ∧ (
 ∀ v6 : Value,
 ∀ z7 : List Int,
 WFixed.sig.post [.N n3, .V v4, .Z z5, .I i0, .I 8, .V v6, .Z z7] →
 (∀ x ∈ z7, IntKind.has .u8 x) →
 WBytes.sig.pre [.N n3, .V v6, .Z z7] ∧ (
 ∀ s8 : ByteArray,
 WBytes.sig.post [.N n3, .V v6, .Z z7, .S s8] →
 ((s8.size : Int) ≤ 9223372036854775807) →
 FCover.sig.post [.I i0, .I i1, .S s8])))
def FWrite.Pure : Prop :=
 ∀ i0 : Int,
 ∀ s1 : ByteArray,
 U64 i0 →
 ((s1.size : Int) ≤ 9223372036854775807) →
 FWrite.sig.pre [.I i0, .S s1] →
 ((
 (4194304 < ((s1.size : Nat) : Int)) →
  FWrite.sig.post [.I i0, .S s1, .S (⟨#[]⟩ : ByteArray), .I 12]) ∧ (
 (((s1.size : Nat) : Int) ≤ (4194304 : Int)) →
  FCover.sig.pre [.I i0, .I ((s1.size : Nat) : Int)] ∧ (
 ∀ s2 : ByteArray,
  FCover.sig.post [.I i0, .I ((s1.size : Nat) : Int), .S s2] →
 ((s2.size : Int) ≤ 9223372036854775807) →
 ∀ v3 : Value,
 ∀ n4 : Nat,
 (((((⟨#[79, 74]⟩ : ByteArray) ++ s2).size : Nat) : Int) ≤ (9223372036854775807 : Int)) ∧ ((((((⟨#[79, 74]⟩ : ByteArray) ++ s2).size : Nat) : Int) ≤ (9223372036854775807 : Int)) →
  WRaw.sig.pre [.N n4, .V v3, .Z ([] : List Int), .S ((⟨#[79, 74]⟩ : ByteArray) ++ s2)] ∧ (
 ∀ v5 : Value,
 ∀ z6 : List Int,
  WRaw.sig.post [.N n4, .V v3, .Z ([] : List Int), .S ((⟨#[79, 74]⟩ : ByteArray) ++ s2), .V v5, .Z z6] →
 (∀ x ∈ z6, IntKind.has .u8 x) →
  COf.sig.pre [.S s2] ∧ (
 ∀ i7 : Int,
  COf.sig.post [.S s2, .I i7] →
 (0 ≤ i7 ∧ i7 < 4294967296) →
  CMore.sig.pre [.I i7, .S s1] ∧ (
 ∀ i8 : Int,
  CMore.sig.post [.I i7, .S s1, .I i8] →
 (0 ≤ i8 ∧ i8 < 4294967296) →
  WFixed.sig.pre [.N n4, .V v5, .Z z6, .I (IntKind.wrap .u64 i8), .I 4] ∧ (
 ∀ v9 : Value,
 ∀ z10 : List Int,
  WFixed.sig.post [.N n4, .V v5, .Z z6, .I (IntKind.wrap .u64 i8), .I 4, .V v9, .Z z10] →
 (∀ x ∈ z10, IntKind.has .u8 x) →
  WRaw.sig.pre [.N n4, .V v9, .Z z10, .S s1] ∧ (
 ∀ v11 : Value,
 ∀ z12 : List Int,
  WRaw.sig.post [.N n4, .V v9, .Z z10, .S s1, .V v11, .Z z12] →
 (∀ x ∈ z12, IntKind.has .u8 x) →
  WBytes.sig.pre [.N n4, .V v11, .Z z12] ∧ (
 ∀ s13 : ByteArray,
  WBytes.sig.post [.N n4, .V v11, .Z z12, .S s13] →
 ((s13.size : Int) ≤ 9223372036854775807) →
  FWrite.sig.post [.I i0, .S s1, .S s13, .I 0]))))))))))
def FRead.Pure : Prop :=
 ∀ s0 : ByteArray,
 ((s0.size : Int) ≤ 9223372036854775807) →
 FRead.sig.pre [.S s0] →
 PRead.sig.pre [.S s0] ∧ (
 ∀ n1 : Nat,
 PRead.sig.post [.S s0, .N n1] →
 PRaw.sig.pre [.N n1, .S s0, .I 0, .I 0, .I 2] ∧ (
 ∀ i2 i3 : Int,
 ∀ s4 : ByteArray,
 PRaw.sig.post [.N n1, .S s0, .I 0, .I 0, .I 2, .I i2, .I i3, .S s4] →
 ((s4.size : Int) ≤ 9223372036854775807) →
 R64 i2 →
 R64 i3 →
 ((
 (s4 ≠ (⟨#[79, 74]⟩ : ByteArray)) →
  PErr.sig.pre [.N n1, .S s0, .I i2, .I i3] ∧ (
  PErr.sig.post [.N n1, .S s0, .I i2, .I i3] →
 ((
 (i3 = 0) →
  FRead.sig.post [.S s0, .I 0, .S (⟨#[]⟩ : ByteArray), .I 0, .I 3]) ∧ (
 (i3 ≠ 0) →
  PFixed.sig.pre [.N n1, .S s0, .I i2, .I i3, .I 4] ∧ (
 ∀ i5 i6 i7 : Int,
  PFixed.sig.post [.N n1, .S s0, .I i2, .I i3, .I 4, .I i5, .I i6, .I i7] →
 U64 i7 →
 R64 i5 →
 R64 i6 →
  PFixed.sig.pre [.N n1, .S s0, .I i5, .I i6, .I 8] ∧ (
 ∀ i8 i9 i10 : Int,
  PFixed.sig.post [.N n1, .S s0, .I i5, .I i6, .I 8, .I i8, .I i9, .I i10] →
 U64 i10 →
 R64 i8 →
 R64 i9 →
  PFixed.sig.pre [.N n1, .S s0, .I i8, .I i9, .I 4] ∧ (
 ∀ i11 i12 i13 : Int,
  PFixed.sig.post [.N n1, .S s0, .I i8, .I i9, .I 4, .I i11, .I i12, .I i13] →
 U64 i13 →
 R64 i11 →
 R64 i12 →
  PErr.sig.pre [.N n1, .S s0, .I i11, .I i12] ∧ (
  PErr.sig.post [.N n1, .S s0, .I i11, .I i12] →
 ((
 (i12 = 0) →
 ((
 (4194304 < (IntKind.wrap .i64 i7)) →
   FRead.sig.post [.S s0, .I 0, .S (⟨#[]⟩ : ByteArray), .I 0, .I 12]) ∧ (
 ((IntKind.wrap .i64 i7) ≤ 4194304) →
   PRaw.sig.pre [.N n1, .S s0, .I i11, .I i12, .I (IntKind.wrap .i64 i7)] ∧ (
 ∀ i14 i15 : Int,
 ∀ s16 : ByteArray,
   PRaw.sig.post [.N n1, .S s0, .I i11, .I i12, .I (IntKind.wrap .i64 i7), .I i14, .I i15, .S s16] →
 ((s16.size : Int) ≤ 9223372036854775807) →
 R64 i14 →
 R64 i15 →
   PErr.sig.pre [.N n1, .S s0, .I i14, .I i15] ∧ (
   PErr.sig.post [.N n1, .S s0, .I i14, .I i15] →
 ((
 (i15 ≠ 0) →
   FRead.sig.post [.S s0, .I 0, .S (⟨#[]⟩ : ByteArray), .I 0, .I i15]) ∧ (
 (i15 = 0) →
   FCover.sig.pre [.I i10, .I (IntKind.wrap .i64 i7)] ∧ (
 ∀ s17 : ByteArray,
   FCover.sig.post [.I i10, .I (IntKind.wrap .i64 i7), .S s17] →
 ((s17.size : Int) ≤ 9223372036854775807) →
   COf.sig.pre [.S s17] ∧ (
 ∀ i18 : Int,
   COf.sig.post [.S s17, .I i18] →
 (0 ≤ i18 ∧ i18 < 4294967296) →
   CMore.sig.pre [.I i18, .S s16] ∧ (
 ∀ i19 : Int,
   CMore.sig.post [.I i18, .S s16, .I i19] →
 (0 ≤ i19 ∧ i19 < 4294967296) →
 ((
 (i19 ≠ (IntKind.wrap .u32 i13)) →
    FRead.sig.post [.S s0, .I 0, .S (⟨#[]⟩ : ByteArray), .I 0, .I 4]) ∧ (
 (i19 = (IntKind.wrap .u32 i13)) →
    PAt.sig.pre [.N n1, .S s0, .I i14, .I i15] ∧ (
    PAt.sig.post [.N n1, .S s0, .I i14, .I i15] →
    FRead.sig.post [.S s0, .I i10, .S s16, .I i14, .I 0]))))))))))))) ∧ (
 (i12 ≠ 0) →
  PRaw.sig.pre [.N n1, .S s0, .I i11, .I i12, .I (IntKind.wrap .i64 i7)] ∧ (
 ∀ i14 i15 : Int,
 ∀ s16 : ByteArray,
  PRaw.sig.post [.N n1, .S s0, .I i11, .I i12, .I (IntKind.wrap .i64 i7), .I i14, .I i15, .S s16] →
 ((s16.size : Int) ≤ 9223372036854775807) →
 R64 i14 →
 R64 i15 →
  PErr.sig.pre [.N n1, .S s0, .I i14, .I i15] ∧ (
  PErr.sig.post [.N n1, .S s0, .I i14, .I i15] →
 ((
 (i15 ≠ 0) →
   FRead.sig.post [.S s0, .I 0, .S (⟨#[]⟩ : ByteArray), .I 0, .I i15]) ∧ (
 (i15 = 0) →
   FCover.sig.pre [.I i10, .I (IntKind.wrap .i64 i7)] ∧ (
 ∀ s17 : ByteArray,
   FCover.sig.post [.I i10, .I (IntKind.wrap .i64 i7), .S s17] →
 ((s17.size : Int) ≤ 9223372036854775807) →
   COf.sig.pre [.S s17] ∧ (
 ∀ i18 : Int,
   COf.sig.post [.S s17, .I i18] →
 (0 ≤ i18 ∧ i18 < 4294967296) →
   CMore.sig.pre [.I i18, .S s16] ∧ (
 ∀ i19 : Int,
   CMore.sig.post [.I i18, .S s16, .I i19] →
 (0 ≤ i19 ∧ i19 < 4294967296) →
 ((
 (i19 ≠ (IntKind.wrap .u32 i13)) →
   FRead.sig.post [.S s0, .I 0, .S (⟨#[]⟩ : ByteArray), .I 0, .I 4]) ∧ (
 (i19 = (IntKind.wrap .u32 i13)) →
   PAt.sig.pre [.N n1, .S s0, .I i14, .I i15] ∧ (
   PAt.sig.post [.N n1, .S s0, .I i14, .I i15] →
   FRead.sig.post [.S s0, .I i10, .S s16, .I i14, .I 0])))))))))))))))))))) ∧ (
 (s4 = (⟨#[79, 74]⟩ : ByteArray)) →
  PFixed.sig.pre [.N n1, .S s0, .I i2, .I i3, .I 4] ∧ (
 ∀ i5 i6 i7 : Int,
  PFixed.sig.post [.N n1, .S s0, .I i2, .I i3, .I 4, .I i5, .I i6, .I i7] →
 U64 i7 →
 R64 i5 →
 R64 i6 →
  PFixed.sig.pre [.N n1, .S s0, .I i5, .I i6, .I 8] ∧ (
 ∀ i8 i9 i10 : Int,
  PFixed.sig.post [.N n1, .S s0, .I i5, .I i6, .I 8, .I i8, .I i9, .I i10] →
 U64 i10 →
 R64 i8 →
 R64 i9 →
  PFixed.sig.pre [.N n1, .S s0, .I i8, .I i9, .I 4] ∧ (
 ∀ i11 i12 i13 : Int,
  PFixed.sig.post [.N n1, .S s0, .I i8, .I i9, .I 4, .I i11, .I i12, .I i13] →
 U64 i13 →
 R64 i11 →
 R64 i12 →
  PErr.sig.pre [.N n1, .S s0, .I i11, .I i12] ∧ (
  PErr.sig.post [.N n1, .S s0, .I i11, .I i12] →
 ((
 (i12 = 0) →
 ((
 (4194304 < (IntKind.wrap .i64 i7)) →
  FRead.sig.post [.S s0, .I 0, .S (⟨#[]⟩ : ByteArray), .I 0, .I 12]) ∧ (
 ((IntKind.wrap .i64 i7) ≤ 4194304) →
  PRaw.sig.pre [.N n1, .S s0, .I i11, .I i12, .I (IntKind.wrap .i64 i7)] ∧ (
 ∀ i14 i15 : Int,
 ∀ s16 : ByteArray,
  PRaw.sig.post [.N n1, .S s0, .I i11, .I i12, .I (IntKind.wrap .i64 i7), .I i14, .I i15, .S s16] →
 ((s16.size : Int) ≤ 9223372036854775807) →
 R64 i14 →
 R64 i15 →
  PErr.sig.pre [.N n1, .S s0, .I i14, .I i15] ∧ (
  PErr.sig.post [.N n1, .S s0, .I i14, .I i15] →
 ((
 (i15 ≠ 0) →
   FRead.sig.post [.S s0, .I 0, .S (⟨#[]⟩ : ByteArray), .I 0, .I i15]) ∧ (
 (i15 = 0) →
   FCover.sig.pre [.I i10, .I (IntKind.wrap .i64 i7)] ∧ (
 ∀ s17 : ByteArray,
   FCover.sig.post [.I i10, .I (IntKind.wrap .i64 i7), .S s17] →
 ((s17.size : Int) ≤ 9223372036854775807) →
   COf.sig.pre [.S s17] ∧ (
 ∀ i18 : Int,
   COf.sig.post [.S s17, .I i18] →
 (0 ≤ i18 ∧ i18 < 4294967296) →
   CMore.sig.pre [.I i18, .S s16] ∧ (
 ∀ i19 : Int,
   CMore.sig.post [.I i18, .S s16, .I i19] →
 (0 ≤ i19 ∧ i19 < 4294967296) →
 ((
 (i19 ≠ (IntKind.wrap .u32 i13)) →
   FRead.sig.post [.S s0, .I 0, .S (⟨#[]⟩ : ByteArray), .I 0, .I 4]) ∧ (
 (i19 = (IntKind.wrap .u32 i13)) →
   PAt.sig.pre [.N n1, .S s0, .I i14, .I i15] ∧ (
   PAt.sig.post [.N n1, .S s0, .I i14, .I i15] →
   FRead.sig.post [.S s0, .I i10, .S s16, .I i14, .I 0]))))))))))))) ∧ (
 (i12 ≠ 0) →
  PRaw.sig.pre [.N n1, .S s0, .I i11, .I i12, .I (IntKind.wrap .i64 i7)] ∧ (
 ∀ i14 i15 : Int,
 ∀ s16 : ByteArray,
  PRaw.sig.post [.N n1, .S s0, .I i11, .I i12, .I (IntKind.wrap .i64 i7), .I i14, .I i15, .S s16] →
 ((s16.size : Int) ≤ 9223372036854775807) →
 R64 i14 →
 R64 i15 →
  PErr.sig.pre [.N n1, .S s0, .I i14, .I i15] ∧ (
  PErr.sig.post [.N n1, .S s0, .I i14, .I i15] →
 ((
 (i15 ≠ 0) →
  FRead.sig.post [.S s0, .I 0, .S (⟨#[]⟩ : ByteArray), .I 0, .I i15]) ∧ (
 (i15 = 0) →
  FCover.sig.pre [.I i10, .I (IntKind.wrap .i64 i7)] ∧ (
 ∀ s17 : ByteArray,
  FCover.sig.post [.I i10, .I (IntKind.wrap .i64 i7), .S s17] →
 ((s17.size : Int) ≤ 9223372036854775807) →
  COf.sig.pre [.S s17] ∧ (
 ∀ i18 : Int,
  COf.sig.post [.S s17, .I i18] →
 (0 ≤ i18 ∧ i18 < 4294967296) →
  CMore.sig.pre [.I i18, .S s16] ∧ (
 ∀ i19 : Int,
  CMore.sig.post [.I i18, .S s16, .I i19] →
 (0 ≤ i19 ∧ i19 < 4294967296) →
 ((
 (i19 ≠ (IntKind.wrap .u32 i13)) →
   FRead.sig.post [.S s0, .I 0, .S (⟨#[]⟩ : ByteArray), .I 0, .I 4]) ∧ (
 (i19 = (IntKind.wrap .u32 i13)) →
   PAt.sig.pre [.N n1, .S s0, .I i14, .I i15] ∧ (
   PAt.sig.post [.N n1, .S s0, .I i14, .I i15] →
   FRead.sig.post [.S s0, .I i10, .S s16, .I i14, .I 0]))))))))))))))))))))
def FScan.Pure : Prop :=
 ∀ s0 : ByteArray,
 ∀ i1 : Int,
 ((s0.size : Int) ≤ 9223372036854775807) →
 U64 i1 →
 FScan.sig.pre [.S s0, .I i1] →
 ∀ v2 v3 : Value,
 FScan.I0 [.S s0, .I i1, .I i1, .L ([] : List D), .I 0] ∧ (
 ∀ i4 : Int,
 ∀ v5 : Value,
 ∀ l6 : List D,
 ∀ i7 : Int,
 U64 i4 →
 R64 i7 →
 (EK.ok [.str] (D.L l6)) →
 FScan.I0 [.S s0, .I i1, .I i4, .L l6, .I i7] →
 (i7 ≤ ((s0.size : Nat) : Int)) ∧ ((i7 ≤ ((s0.size : Nat) : Int)) →
 (0 ≤ i7) ∧ ((0 ≤ i7) →
 FRead.sig.pre [.S (s0.extract i7.toNat ((s0.size : Nat) : Int).toNat)] ∧ (
 ∀ i8 : Int,
 ∀ s9 : ByteArray,
 ∀ i10 i11 : Int,
 FRead.sig.post [.S (s0.extract i7.toNat ((s0.size : Nat) : Int).toNat), .I i8, .S s9, .I i10, .I i11] →
 U64 i8 →
 ((s9.size : Int) ≤ 9223372036854775807) →
 R64 i10 →
 R64 i11 →
 ((
 (i11 ≠ 0) →
  FScan.sig.post [.S s0, .I i1, .V v5, .L l6, .I i7]) ∧ (
 (i11 = 0) →
 ((
 (i8 ≠ i4) →
  FScan.sig.post [.S s0, .I i1, .V v5, .L l6, .I i7]) ∧ (
 (i8 = i4) →
 ∀ v12 : Value,
 ((((l6 ++ ((D.S s9) :: ([] : List D))).length : Nat) : Int) ≤ (8796093022208 : Int)) ∧ (((((l6 ++ ((D.S s9) :: ([] : List D))).length : Nat) : Int) ≤ (8796093022208 : Int)) →
 ∀ v13 : Value,
  Bk FScan.I0 FScan.I0M [.S s0, .I i1, .I (IntKind.wrap .u64 (i4 + 1)), .L (l6 ++ ((D.S s9) :: ([] : List D))), .I (IntKind.wrap .i64 (i7 + i10))] [.S s0, .I i1, .I i4, .L l6, .I i7])))))))))
end Go.Vc
namespace Go.Vc
theorem crcOf_more (sum : Int) (a b : List Int) : crcOf (crcOf sum a) b = crcOf sum (a ++ b) := by
 apply u32_ext (crcOf_has _ _) (crcOf_has _ _)
 rw [crcOf_eq (crcOf sum a) b, crcOf_eq sum (a ++ b), crc_append, crcOf_eq sum a, BitVec.not_not]
theorem FCover.pure : FCover.Pure := by
 intro i0 i1 h1 h2 h3 v2 n3
 have h3 : 0 ≤ i1 := h3
 rw [u64w (by omega) (by omega)]
 refine ⟨(by decide : ([] : List Int).length ≤ 4000000000), ?_⟩
 intro v4 z5 h4 h5
 have h4 : z5 = [] ++ fixB i1 4 := h4
 have hl : z5.length = 4 := by rw [h4, List.nil_append, fixB_len]; decide
 refine ⟨(by show z5.length ≤ 4000000000; omega), ?_⟩
 intro v6 z7 h6 h7
 have h6 : z7 = z5 ++ fixB i0 8 := h6
 refine ⟨trivial, ?_⟩
 intro s8 h8 h9
 have h8 : s8 = textOf z7 := h8
 show s8 = textOf (coverB i0 i1)
 rw [h8, h6, h4]; rfl
theorem beB_mod {v : Int} {n : Nat} (hn : n ≤ 8) : beB (IntKind.wrap .u64 v) n = beB v n := by
 unfold beB bytesLE
 congr 1
 apply List.map_congr_left
 intro j hj
 have hj : j < n := List.mem_range.1 hj
 rw [IntKind.wrap_u64]
 apply eq_of_bt (w := 8) (by omega) (by show _ < (256 : Int); omega) (by omega) (by show _ < (256 : Int); omega)
 intro i hi
 rw [bt_byte _ _ _ hi, bt_byte _ _ _ hi, show (18446744073709551616 : Int) = 2 ^ 64 from by decide, bt_emod _ (by omega)]
theorem FWrite.pure : FWrite.Pure := by
 intro i0 s1 h1 h2 h3
 have h3 : s1.size ≤ 900000000 := h3
 refine ⟨?_, ?_⟩
 ·intro h4
  show if s1.size > 4194304 then (⟨#[]⟩ : ByteArray) = ByteArray.empty ∧ (12 : Int) = 12 else _
  rw [if_pos (by omega)]
  exact ⟨rfl, rfl⟩
 ·intro h4
  refine ⟨(by show 0 ≤ ((s1.size : Nat) : Int); omega), ?_⟩
  intro s2 h5 h6 v3 n4
  have h5 : s2 = textOf (coverB i0 s1.size) := h5
  have hs2 : s2.size = 12 := by rw [h5, size_textOf, coverB_len]
  have hb2 : bytesOf s2 = coverB i0 s1.size := by
   rw [h5, bytesOf_textOf]
   intro x hx
   simp only [coverB, List.mem_append] at hx
   rcases hx with h | h <;> exact beB_has _ _ x h
  have hm : bytesOf ((⟨#[79, 74]⟩ : ByteArray) ++ s2) = 79 :: 74 :: coverB i0 s1.size := by
   rw [bytesOf_append, hb2]; rfl
  have hms : ((⟨#[79, 74]⟩ : ByteArray) ++ s2).size = 14 := by rw [ByteArray.size_append, hs2]; rfl
  refine ⟨by omega, fun h7 => ?_⟩
  refine ⟨⟨by decide, by omega⟩, ?_⟩
  intro v5 z6 h8 h9
  have h8 : z6 = [] ++ bytesOf ((⟨#[79, 74]⟩ : ByteArray) ++ s2) := h8
  rw [hm, List.nil_append] at h8
  have hl6 : z6.length = 14 := by rw [h8, List.length_cons, List.length_cons, coverB_len]
  refine ⟨trivial, ?_⟩
  intro i7 h10 h11
  have h10 : i7 = crcOf 0 (bytesOf s2) := h10
  refine ⟨trivial, ?_⟩
  intro i8 h12 h13
  have h12 : i8 = crcOf i7 (bytesOf s1) := h12
  refine ⟨(by show z6.length ≤ 4000000000; omega), ?_⟩
  intro v9 z10 h14 h15
  have h14 : z10 = z6 ++ fixB (IntKind.wrap .u64 i8) 4 := h14
  have hf : fixB (IntKind.wrap .u64 i8) 4 = beB i8 4 := beB_mod (by decide)
  have hl10 : z10.length = 18 := by rw [h14, hf, List.length_append, beB_len, hl6]
  refine ⟨⟨by omega, by omega⟩, ?_⟩
  intro v11 z12 h16 h17
  have h16 : z12 = z10 ++ bytesOf s1 := h16
  refine ⟨trivial, ?_⟩
  intro s13 h18 h19
  have h18 : s13 = textOf z12 := h18
  show if s1.size > 4194304 then _ else s13 = textOf (frameB i0 s1) ∧ (0 : Int) = 0
  rw [if_neg (by omega)]
  refine ⟨?_, rfl⟩
  rw [h18, h16, h14, hf, h8, h12, h10, hb2, crcOf_more]
  simp only [frameB, List.cons_append, List.append_assoc]
theorem rf_range {s : ByteArray} {a e n a' e' r : Int} (h : (a', e', r) = rdFixed s a e n) (ha : 0 ≤ a ∧ a ≤ s.size) : 0 ≤ a' ∧ a' ≤ s.size := by
 have hc := clamp18 n
 have := (rdRaw_size s a e (clamp 1 8 n) (by omega) ha).2
 have e1 : a' = (rdRaw s a e (clamp 1 8 n)).1 := congrArg (·.1) h
 rw [e1]; exact this
theorem rf_err {s : ByteArray} {a e n : Int} (he : e ≠ 0) : rdFixed s a e n = (a, e, 0) := by
 rw [rdFixed, rdRaw, if_pos he]; rfl
theorem rf_ok {s : ByteArray} {a n : Int} (ha : 0 ≤ a) (hn : 1 ≤ n ∧ n ≤ 8) (h : a + n ≤ s.size) : rdFixed s a 0 n = (a + n, 0, beNum (((bytesOf s).drop a.toNat).take n.toNat)) := by
 have hc : clamp 1 8 n = n := by unfold clamp; rw [if_neg (by omega), if_neg (by omega)]
 rw [rdFixed, hc, rdRaw, if_neg (by simp), if_neg (by omega)]
 show (a + n, (0 : Int), beNum (bytesOf (s.extract a.toNat (a + n).toNat))) = _
 rw [bytesOf_extract, List.drop_take, show (a + n).toNat - a.toNat = n.toNat from by omega]
theorem rf_short {s : ByteArray} {a n : Int} (hn : 1 ≤ n ∧ n ≤ 8) (h : (s.size : Int) < a + n) : rdFixed s a 0 n = (a, 2, 0) := by
 have hc : clamp 1 8 n = n := by unfold clamp; rw [if_neg (by omega), if_neg (by omega)]
 rw [rdFixed, hc, rdRaw, if_neg (by simp), if_pos (by omega)]; rfl
theorem beB_beNum : ∀ {l : List Int}, (∀ x ∈ l, 0 ≤ x ∧ x < 256) → beB (beNum l) l.length = l := by
 intro l h
 apply List.ext_getElem (beB_len _ _)
 intro i h1 h2
 have hb := beB_get (beNum l) (n := l.length) (k := i) h2
 have e1 : (beB (beNum l) l.length).getD i 0 = (beB (beNum l) l.length)[i] := by simp [List.getD, h1]
 rw [← e1, hb]
 have key : ∀ (l : List Int), (∀ x ∈ l, 0 ≤ x ∧ x < 256) → ∀ i (h2 : i < l.length), beNum l / 256 ^ (l.length - 1 - i) % 256 = l[i] := by
  intro l
  induction l with
  | nil => intro _ i h2; simp at h2
  | cons c l ih =>
   intro h i h2
   have hc := h c (by simp)
   have hr := beNum_range (l := l) (fun x hx => h x (by simp [hx])) l.length (Nat.le_refl _)
   rw [List.take_length] at hr
   have e0 : beNum (c :: l) = c * 256 ^ l.length + beNum l := by
    show l.foldl _ (256 * 0 + c) = _
    rw [beNum_acc]; simp
   rw [e0, List.length_cons]
   cases i with
   | zero =>
    rw [show l.length + 1 - 1 - 0 = l.length from by omega, Int.add_comm, Int.add_mul_ediv_right _ _ (Int.ne_of_gt (pow256_pos _)), Int.ediv_eq_zero_of_lt hr.1 hr.2]
    simp; omega
   | succ i =>
    have hi : i < l.length := by simpa using h2
    rw [show l.length + 1 - 1 - (i + 1) = l.length - 1 - i from by omega, List.getElem_cons_succ, ← ih (fun x hx => h x (by simp [hx])) i hi]
    have e1 : c * 256 ^ l.length = (c * 256 ^ i * 256) * 256 ^ (l.length - 1 - i) := by
     rw [Int.mul_assoc, Int.mul_assoc, ← Int.pow_succ', ← Int.pow_add]
     congr 2
     omega
    rw [e1, Int.add_comm, Int.add_mul_ediv_right _ _ (Int.ne_of_gt (pow256_pos _))]
    omega
 exact key l h i h2
theorem take12 {l : List Int} : (l.drop 2).take 12 = (l.drop 2).take 4 ++ (l.drop 6).take 8 := by
 rw [show (12 : Nat) = 4 + 8 from rfl, List.take_add, List.drop_drop]
theorem FRead.pure : FRead.Pure := by
 intro s0 h1 h2
 have h2 : s0.size ≤ 1000000000 := h2
 have hL := bytesOf_length' s0
 have hB := bytesOf_has s0
 refine ⟨trivial, ?_⟩
 intro n1 h3
 refine ⟨⟨by decide, by omega⟩, ?_⟩
 intro i2 i3 s4 h4 h5 h6 h7
 have h4 : (i2, i3, s4) = rdRaw s0 0 0 2 := h4
 have key : (s0.size < 2 ∧ i2 = 0 ∧ i3 = 2 ∧ s4 = ByteArray.empty) ∨ (2 ≤ s0.size ∧ i2 = 2 ∧ i3 = 0 ∧ bytesOf s4 = (bytesOf s0).take 2) := by
  rw [rdRaw, if_neg (by simp)] at h4
  by_cases c : s0.size < 2
  ·rw [if_pos (by omega)] at h4
   simp only [Prod.mk.injEq] at h4
   exact .inl ⟨c, h4.1, h4.2.1, h4.2.2⟩
  ·rw [if_neg (by omega)] at h4
   simp only [Prod.mk.injEq] at h4
   refine .inr ⟨by omega, by omega, h4.2.1, ?_⟩
   rw [h4.2.2, bytesOf_extract]; rfl
 have r2 : 0 ≤ i2 ∧ i2 ≤ s0.size := by rcases key with k | k <;> omega
 have go : (i3 = 0 → bytesOf s4 = [79, 74]) → ∀ i5 i6 i7 : Int, (i5, i6, i7) = rdFixed s0 i2 i3 4 → ∀ i8 i9 i10 : Int, (i8, i9, i10) = rdFixed s0 i5 i6 8 → ∀ i11 i12 i13 : Int, (i11, i12, i13) = rdFixed s0 i8 i9 4 →
   (0 ≤ i7 ∧ i7 < 4294967296) ∧ (0 ≤ i13 ∧ i13 < 4294967296) ∧
   ((18 ≤ s0.size ∧ (bytesOf s0).take 2 = [79, 74] ∧ i11 = 18 ∧ i12 = 0 ∧ i7 = beNum (((bytesOf s0).drop 2).take 4) ∧ i10 = beNum (((bytesOf s0).drop 6).take 8) ∧ i13 = beNum (((bytesOf s0).drop 14).take 4)) ∨
     (i12 = 2 ∧ fRead (bytesOf s0) = (0, [], 0, 2))) := by
  intro hoj i5 i6 i7 f1 i8 i9 i10 f2 i11 i12 i13 f3
  rcases key with ⟨k1, rfl, rfl, _⟩ | ⟨k1, rfl, rfl, k4⟩
  ·rw [rf_err (by decide)] at f1
   simp only [Prod.mk.injEq] at f1
   obtain ⟨rfl, rfl, rfl⟩ := f1
   rw [rf_err (by decide)] at f2
   simp only [Prod.mk.injEq] at f2
   obtain ⟨rfl, rfl, rfl⟩ := f2
   rw [rf_err (by decide)] at f3
   simp only [Prod.mk.injEq] at f3
   obtain ⟨rfl, rfl, rfl⟩ := f3
   refine ⟨by decide, by decide, .inr ⟨rfl, ?_⟩⟩
   unfold fRead
   rw [if_pos (by omega)]
  ·have oj : (bytesOf s0).take 2 = [79, 74] := by rw [← k4]; exact hoj rfl
   have short : s0.size < 18 → fRead (bytesOf s0) = (0, [], 0, 2) := by
    intro h
    unfold fRead
    rw [if_neg (by omega), if_neg (by rw [oj]; simp), if_pos (by omega)]
   have rng : ∀ k, 0 ≤ beNum (((bytesOf s0).drop k).take 4) ∧ beNum (((bytesOf s0).drop k).take 4) < 4294967296 := by
    intro k
    have hr := beNum_range (l := ((bytesOf s0).drop k).take 4) (fun x hx => hB x (List.mem_of_mem_drop (List.mem_of_mem_take hx))) _ (Nat.le_refl _)
    rw [List.take_length] at hr
    have hle : (((bytesOf s0).drop k).take 4).length ≤ 4 := by rw [List.length_take]; omega
    have hp : (256 : Int) ^ (((bytesOf s0).drop k).take 4).length ≤ 256 ^ 4 := by
     have h2 := Nat.pow_le_pow_right (by decide : 0 < 256) hle
     have h3 : ((256 ^ (((bytesOf s0).drop k).take 4).length : Nat) : Int) ≤ ((256 ^ 4 : Nat) : Int) := by omega
     rwa [Int.natCast_pow, Int.natCast_pow] at h3
    rw [pow4] at hp
    omega
   by_cases c6 : 6 ≤ s0.size
   ·rw [rf_ok (by decide) (by decide) (by omega)] at f1
    simp only [Prod.mk.injEq] at f1
    obtain ⟨rfl, rfl, rfl⟩ := f1
    by_cases c14 : 14 ≤ s0.size
    ·rw [rf_ok (by decide) (by decide) (by omega)] at f2
     simp only [Prod.mk.injEq] at f2
     obtain ⟨rfl, rfl, rfl⟩ := f2
     by_cases c18 : 18 ≤ s0.size
     ·rw [rf_ok (by decide) (by decide) (by omega)] at f3
      simp only [Prod.mk.injEq] at f3
      obtain ⟨rfl, rfl, rfl⟩ := f3
      exact ⟨rng 2, rng 14, .inl ⟨c18, oj, rfl, rfl, rfl, rfl, rfl⟩⟩
     ·rw [rf_short (by decide) (by omega)] at f3
      simp only [Prod.mk.injEq] at f3
      obtain ⟨rfl, rfl, rfl⟩ := f3
      exact ⟨rng 2, by decide, .inr ⟨rfl, short (by omega)⟩⟩
    ·rw [rf_short (by decide) (by omega)] at f2
     simp only [Prod.mk.injEq] at f2
     obtain ⟨rfl, rfl, rfl⟩ := f2
     rw [rf_err (by decide)] at f3
     simp only [Prod.mk.injEq] at f3
     obtain ⟨rfl, rfl, rfl⟩ := f3
     exact ⟨rng 2, by decide, .inr ⟨rfl, short (by omega)⟩⟩
   ·rw [rf_short (by decide) (by omega)] at f1
    simp only [Prod.mk.injEq] at f1
    obtain ⟨rfl, rfl, rfl⟩ := f1
    rw [rf_err (by decide)] at f2
    simp only [Prod.mk.injEq] at f2
    obtain ⟨rfl, rfl, rfl⟩ := f2
    rw [rf_err (by decide)] at f3
    simp only [Prod.mk.injEq] at f3
    obtain ⟨rfl, rfl, rfl⟩ := f3
    exact ⟨by decide, by decide, .inr ⟨rfl, short (by omega)⟩⟩
 have go2 : (s4 ≠ ⟨#[79, 74]⟩ → i3 ≠ 0) → (i3 = 0 → bytesOf s4 = [79, 74]) := by
  intro h h0
  apply Classical.byContradiction
  intro hc
  exact h (fun e => hc (by rw [e]; rfl)) h0
 refine ⟨fun h8 => ⟨trivial, fun h9 => ⟨fun h10 => ?_, fun h10 => ?_⟩⟩, fun h8 => ?_⟩
 ·show ((0 : Int), bytesOf ⟨#[]⟩, (0 : Int), (3 : Int)) = fRead (bytesOf s0)
  rcases key with ⟨_, _, k3, _⟩ | ⟨k1, _, _, k4⟩
  ·omega
  ·unfold fRead
   rw [if_neg (by omega), if_pos]
   ·rfl
   ·intro e
    apply h8
    apply text_inj
    rw [k4, e]; rfl
 all_goals
  have hoj : i3 = 0 → bytesOf s4 = [79, 74] := go2 (by first | exact fun _ => h10 | exact fun h => absurd h8 h)
  refine ⟨r2, ?_⟩
  intro i5 i6 i7 f1 b1 _ _
  have r5 := rf_range (show (i5, i6, i7) = rdFixed s0 i2 i3 4 from f1) r2
  refine ⟨r5, ?_⟩
  intro i8 i9 i10 f2 b2 _ _
  have r8 := rf_range (show (i8, i9, i10) = rdFixed s0 i5 i6 8 from f2) r5
  refine ⟨r8, ?_⟩
  intro i11 i12 i13 f3 b3 _ _
  have r11 := rf_range (show (i11, i12, i13) = rdFixed s0 i8 i9 4 from f3) r8
  obtain ⟨g7, g13, T⟩ := go hoj i5 i6 i7 f1 i8 i9 i10 f2 i11 i12 i13 f3
  have w7 : IntKind.wrap .i64 i7 = i7 := i64w (by omega) (by omega)
  have w13 : IntKind.wrap .u32 i13 = i13 := by rw [IntKind.wrap_u32]; omega
  rw [w7]
  have unf : 18 ≤ s0.size → (bytesOf s0).take 2 = [79, 74] → i7 = beNum (((bytesOf s0).drop 2).take 4) → fRead (bytesOf s0) =
    (if i7 > 4194304 then (0, [], 0, 12) else if (s0.size : Int) < 18 + i7 then (0, [], 0, 2) else
     if crcOf 0 (((bytesOf s0).drop 2).take 12 ++ ((bytesOf s0).drop 18).take i7.toNat) ≠ beNum (((bytesOf s0).drop 14).take 4) then (0, [], 0, 4) else
     (beNum (((bytesOf s0).drop 6).take 8), ((bytesOf s0).drop 18).take i7.toNat, 18 + i7, 0)) := by
   intro a b c
   unfold fRead
   rw [if_neg (by omega), if_neg (by rw [b]; simp), if_neg (by omega), ← c, hL]
  refine ⟨trivial, fun _ => ⟨fun h24 => ⟨fun h25 => ?_, fun h25 => ?_⟩, fun h24 => ?_⟩⟩
  ·show ((0 : Int), bytesOf ⟨#[]⟩, (0 : Int), (12 : Int)) = fRead (bytesOf s0)
   rcases T with ⟨t1, t2, _, _, t5, _⟩ | ⟨t1, _⟩
   ·rw [unf t1 t2 t5, if_pos h25]; rfl
   ·omega
  all_goals
   refine ⟨r11, ?_⟩
   intro i14 i15 s16 q1 _ _ _
   have q1 : (i14, i15, s16) = rdRaw s0 i11 i12 i7 := q1
   refine ⟨trivial, fun _ => ⟨fun e1 => ?_, fun e1 => ?_⟩⟩
   ·show ((0 : Int), bytesOf ⟨#[]⟩, (0 : Int), i15) = fRead (bytesOf s0)
    rcases T with ⟨t1, t2, t3, t4, t5, _⟩ | ⟨t1, t2⟩
    ·rw [rdRaw, t3, t4, if_neg (by simp)] at q1
     by_cases c : (s0.size : Int) < 18 + i7
     ·rw [if_pos (by omega)] at q1
      simp only [Prod.mk.injEq] at q1
      rw [unf t1 t2 t5, if_neg (by omega), if_pos c, q1.2.1]; rfl
     ·rw [if_neg (by omega)] at q1
      simp only [Prod.mk.injEq] at q1
      exact absurd q1.2.1 e1
    ·rw [rdRaw, t1, if_pos (by decide)] at q1
     simp only [Prod.mk.injEq] at q1
     rw [t2, q1.2.1]; rfl
   ·rcases T with ⟨t1, t2, t3, t4, t5, t6, t7⟩ | ⟨t1, t2⟩
    ·rw [rdRaw, t3, t4, if_neg (by simp)] at q1
     by_cases c : (s0.size : Int) < 18 + i7
     ·rw [if_pos (by omega)] at q1
      simp only [Prod.mk.injEq] at q1
      omega
     ·rw [if_neg (by omega)] at q1
      simp only [Prod.mk.injEq] at q1
      obtain ⟨q2, q3, q4⟩ := q1
      have hrec : bytesOf s16 = ((bytesOf s0).drop 18).take i7.toNat := by
       rw [q4, bytesOf_extract, List.drop_take, show (18 + i7).toNat - (18 : Int).toNat = i7.toNat from by omega]; rfl
      have hcov : coverB i10 i7 = ((bytesOf s0).drop 2).take 12 := by
       have l4 : (((bytesOf s0).drop 2).take 4).length = 4 := by rw [List.length_take, List.length_drop]; omega
       have l8 : (((bytesOf s0).drop 6).take 8).length = 8 := by rw [List.length_take, List.length_drop]; omega
       have b4 := beB_beNum (l := ((bytesOf s0).drop 2).take 4) (fun x hx => hB x (List.mem_of_mem_drop (List.mem_of_mem_take hx)))
       have b8 := beB_beNum (l := ((bytesOf s0).drop 6).take 8) (fun x hx => hB x (List.mem_of_mem_drop (List.mem_of_mem_take hx)))
       rw [l4] at b4
       rw [l8] at b8
       rw [take12, coverB, t5, t6, b4, b8]
      refine ⟨(by show 0 ≤ i7; omega), ?_⟩
      intro s17 c1 _
      have c1 : s17 = textOf (coverB i10 i7) := c1
      have hb17 : bytesOf s17 = coverB i10 i7 := by
       rw [c1, bytesOf_textOf]
       intro x hx
       simp only [coverB, List.mem_append] at hx
       rcases hx with h | h <;> exact beB_has _ _ x h
      refine ⟨trivial, ?_⟩
      intro i18 c2 _
      have c2 : i18 = crcOf 0 (bytesOf s17) := c2
      refine ⟨trivial, ?_⟩
      intro i19 c3 _
      have c3 : i19 = crcOf i18 (bytesOf s16) := c3
      have e19 : i19 = crcOf 0 (((bytesOf s0).drop 2).take 12 ++ ((bytesOf s0).drop 18).take i7.toNat) := by
       rw [c3, c2, crcOf_more, hb17, hcov, hrec]
      have hmax : ¬ i7 > 4194304 := by omega
      rw [w13]
      refine ⟨fun ne => ?_, fun eq => ⟨trivial, fun _ => ?_⟩⟩
      ·show ((0 : Int), bytesOf ⟨#[]⟩, (0 : Int), (4 : Int)) = fRead (bytesOf s0)
       rw [unf t1 t2 t5, if_neg hmax, if_neg c, if_pos (by rw [← e19, ← t7]; exact ne)]; rfl
      ·show (i10, bytesOf s16, i14, (0 : Int)) = fRead (bytesOf s0)
       rw [unf t1 t2 t5, if_neg hmax, if_neg c, if_neg (by rw [← e19, ← t7]; exact fun h => h eq), ← t6, hrec, q2]
    ·rw [rdRaw, t1, if_pos (by decide)] at q1
     simp only [Prod.mk.injEq] at q1
     omega
end Go.Vc
namespace Go.Vc
theorem txts_append (a b : List (List Int)) : txts (a ++ b) = txts a ++ txts b := by simp [txts]
theorem FScan.pure : FScan.Pure := by
 intro s0 i1 h1 h2 h3 v2 v3
 have h3 : s0.size ≤ 1000000000 := h3
 have hL := bytesOf_length' s0
 have hB := bytesOf_has s0
 refine ⟨?_, ?_⟩
 ·refine ⟨by decide, by omega, by simp, s0.size + 1, [], by omega, rfl, ?_⟩
  rw [scanF, hL]; simp
 intro i4 v5 l6 i7 h4 h5 h6 h7
 obtain ⟨a, b, c, f, done, hf, hd, hs⟩ : 0 ≤ i7 ∧ i7 ≤ s0.size ∧ l6.length ≤ i7 ∧ ∃ f done, ((s0.size : Int) - i7).toNat < f ∧ l6 = txts done ∧
   scanF (bytesOf s0) i1 = (done ++ (fScan f ((bytesOf s0).drop i7.toNat) i4).1, i7 + (fScan f ((bytesOf s0).drop i7.toNat) i4).2) := h7
 refine ⟨?_, fun h8 => ?_⟩
 ·omega -- i7 ≤ ((s0.size : Nat) : Int)
 refine ⟨?_, fun h9 => ?_⟩
 ·omega -- (0 : Int) ≤ i7
 refine ⟨?_, ?_⟩
 ·show (s0.extract i7.toNat ((s0.size : Nat) : Int).toNat).size ≤ 1000000000
  rw [ByteArray.size_extract]; omega
 intro i8 s9 i10 i11 h10 h11 h12 h13 h14
 have hx : bytesOf (s0.extract i7.toNat ((s0.size : Nat) : Int).toNat) = (bytesOf s0).drop i7.toNat := by
  rw [bytesOf_extract, List.take_of_length_le (by omega)]
 have h10 : (i8, bytesOf s9, i10, i11) = fRead (bytesOf (s0.extract i7.toNat ((s0.size : Nat) : Int).toNat)) := h10
 rw [hx] at h10
 have hdl : ((bytesOf s0).drop i7.toNat).length = s0.size - i7.toNat := by rw [List.length_drop, hL]
 obtain ⟨g, rfl⟩ : ∃ g, f = g + 1 := ⟨f - 1, by omega⟩
 have stop : (i11 ≠ 0 ∨ i8 ≠ i4) → FScan.sig.post [(D.S s0), (D.I i1), (D.V v5), (D.L l6), (D.I i7)] := by
  intro h
  rw [scan_stop (by rw [← h10]; exact h), List.append_nil] at hs
  show l6 = txts (scanF (bytesOf s0) i1).1 ∧ i7 = (scanF (bytesOf s0) i1).2
  rw [hs]
  exact ⟨hd, by simp⟩
 refine ⟨fun h15 => stop (.inl h15), fun h15 => ⟨fun h16 => stop (.inr h16), fun h16 v12 => ?_⟩⟩
 have hn := fRead_n (l := (bytesOf s0).drop i7.toNat) (fun x hx => hB x (List.mem_of_mem_drop hx)) (by rw [← h10]; exact h15)
 rw [← h10, hdl] at hn
 have hn : 18 ≤ i10 ∧ i10 ≤ ((s0.size - i7.toNat : Nat) : Int) := hn
 refine ⟨?_, fun h17 => ?_⟩
 ·rw [List.length_append]; simp only [List.length_cons, List.length_nil]; omega
 intro v13
 rw [i64w (by omega) (by omega), IntKind.wrap_u64]
 refine ⟨?_, ?_⟩
 ·refine ⟨by omega, by omega, by rw [List.length_append]; simp only [List.length_cons, List.length_nil]; omega, g, done ++ [bytesOf s9], by omega, ?_, ?_⟩
  ·rw [txts_append, hd]
   simp [txts, textOf_bytesOf]
  ·rw [scan_step (by rw [← h10]; exact h15) (by rw [← h10]; exact h16), ← h10] at hs
   rw [hs]
   simp only [List.drop_drop]
   rw [show i7.toNat + i10.toNat = (i7 + i10).toNat from by omega]
   simp only [List.append_assoc, List.cons_append, List.nil_append, Prod.mk.injEq, true_and]
   omega
 ·show ((s0.size : Int) - (i7 + i10)).toNat < ((s0.size : Int) - i7).toNat
  omega
end Go.Vc