/-
 Contracts of the sums that tell what was changed (crc, and the document's).
 Printed by wip/vct.py: the conditions of functions, by their contracts.
 Sums that tell what was changed: the plain part.
 Sums that tell what was changed: what becomes of each bit; the laws.
 Sums that tell what was changed: two laws more.
-/
import Derived.Test.YtmgeaephkagdiaaGreatDoorWord
import Derived.KernelRfl
set_option linter.unusedVariables false
set_option linter.unusedSimpArgs false
namespace Go.Vc
abbrev W32 := BitVec 32
def cv (x : Int) : W32 := BitVec.ofInt 32 x
def cpoly : W32 := 0x82f63b78#32
def st (c : W32) : W32 := (c >>> 1) ^^^ (if c.getLsbD 0 then cpoly else 0#32)
def stn : Nat → W32 → W32
 | 0, c => c
 | n + 1, c => stn n (st c)
def crcByte (c : W32) (b : Int) : W32 := stn 8 (c ^^^ cv b)
def crcRun (c : W32) (l : List Int) : W32 := l.foldl crcByte c
def crcOf (sum : Int) (l : List Int) : Int := ((~~~ (crcRun (~~~ cv sum) l)).toNat : Int)
def crcHalf : List Int := [0x00000000, 0x105ec76f, 0x20bd8ede, 0x30e349b1, 0x417b1dbc, 0x5125dad3, 0x61c69362, 0x7198540d, 0x82f63b78, 0x92a8fc17, 0xa24bb5a6, 0xb21572c9, 0xc38d26c4, 0xd3d3e1ab, 0xe330a81a, 0xf36e6f75]
def CMore.post : List D → Prop
 | [.I sum, .S s, .I r] => r = crcOf sum (bytesOf s)
 | _ => False
def CMore.sig : Sig := sigF [.i .u32, .s] [.i .u32] tru CMore.post
def CMore.I0 : List D → Prop
 | [.I sum, .S s, .I c, .I i] => 0 ≤ i ∧ i ≤ s.size ∧ c = ((crcRun (~~~ cv sum) ((bytesOf s).take i.toNat)).toNat : Int)
 | _ => False
def CMore.I0M : List D → Nat
 | [.I _, .S s, .I _, .I i] => ((s.size : Int) - i).toNat
 | _ => 0
def COf.post : List D → Prop
 | [.S s, .I r] => r = crcOf 0 (bytesOf s)
 | _ => False
def COf.sig : Sig := sigF [.s] [.i .u32] tru COf.post
end Go.Vc
namespace Go.Vc
set_option linter.unusedVariables false
def CMore.Pure : Prop :=
 ∀ i0 : Int,
 ∀ s1 : ByteArray,
 (0 ≤ i0 ∧ i0 < 4294967296) →
 ((s1.size : Int) ≤ 9223372036854775807) →
 CMore.sig.pre [.I i0, .S s1] →
 CMore.I0 [.I i0, .S s1, .I (Go.bits .xor .u32 4294967295 i0), .I 0] ∧ (
 ∀ i2 i3 : Int,
 (0 ≤ i2 ∧ i2 < 4294967296) →
 R64 i3 →
 CMore.I0 [.I i0, .S s1, .I i2, .I i3] →
 ((
 (i3 < ((s1.size : Nat) : Int)) →
 (0 ≤ i3) ∧ ((0 ≤ i3) →
 (0 ≤ (Go.bits .and .u32 (Go.bits .xor .u32 i2 (IntKind.wrap .u32 (byteAt s1 i3))) 15)) ∧ ((0 ≤ (Go.bits .and .u32 (Go.bits .xor .u32 i2 (IntKind.wrap .u32 (byteAt s1 i3))) 15)) →
 ((Go.bits .and .u32 (Go.bits .xor .u32 i2 (IntKind.wrap .u32 (byteAt s1 i3))) 15) < 16) ∧ (((Go.bits .and .u32 (Go.bits .xor .u32 i2 (IntKind.wrap .u32 (byteAt s1 i3))) 15) < 16) →
 (0 ≤ (Go.bits .and .u32 (Go.bits .xor .u32 (Go.bits .xor .u32 (shrI .u32 i2 4) (([0, 274646895, 549293790, 820201905, 1098587580, 1361435347, 1640403810, 1905808397, 2197175160, 2460548119, 2722870694, 2987750089, 3280807620, 3553878443, 3811616794, 4084100981] : List Int).getD (Go.bits .and .u32 (Go.bits .xor .u32 i2 (IntKind.wrap .u32 (byteAt s1 i3))) 15).toNat 0)) (shrI .u32 (IntKind.wrap .u32 (byteAt s1 i3)) 4)) 15)) ∧ ((0 ≤ (Go.bits .and .u32 (Go.bits .xor .u32 (Go.bits .xor .u32 (shrI .u32 i2 4) (([0, 274646895, 549293790, 820201905, 1098587580, 1361435347, 1640403810, 1905808397, 2197175160, 2460548119, 2722870694, 2987750089, 3280807620, 3553878443, 3811616794, 4084100981] : List Int).getD (Go.bits .and .u32 (Go.bits .xor .u32 i2 (IntKind.wrap .u32 (byteAt s1 i3))) 15).toNat 0)) (shrI .u32 (IntKind.wrap .u32 (byteAt s1 i3)) 4)) 15)) →
 ((Go.bits .and .u32 (Go.bits .xor .u32 (Go.bits .xor .u32 (shrI .u32 i2 4) (([0, 274646895, 549293790, 820201905, 1098587580, 1361435347, 1640403810, 1905808397, 2197175160, 2460548119, 2722870694, 2987750089, 3280807620, 3553878443, 3811616794, 4084100981] : List Int).getD (Go.bits .and .u32 (Go.bits .xor .u32 i2 (IntKind.wrap .u32 (byteAt s1 i3))) 15).toNat 0)) (shrI .u32 (IntKind.wrap .u32 (byteAt s1 i3)) 4)) 15) < 16) ∧ (((Go.bits .and .u32 (Go.bits .xor .u32 (Go.bits .xor .u32 (shrI .u32 i2 4) (([0, 274646895, 549293790, 820201905, 1098587580, 1361435347, 1640403810, 1905808397, 2197175160, 2460548119, 2722870694, 2987750089, 3280807620, 3553878443, 3811616794, 4084100981] : List Int).getD (Go.bits .and .u32 (Go.bits .xor .u32 i2 (IntKind.wrap .u32 (byteAt s1 i3))) 15).toNat 0)) (shrI .u32 (IntKind.wrap .u32 (byteAt s1 i3)) 4)) 15) < 16) →
  Bk CMore.I0 CMore.I0M [.I i0, .S s1, .I (Go.bits .xor .u32 (shrI .u32 (Go.bits .xor .u32 (shrI .u32 i2 4) (([0, 274646895, 549293790, 820201905, 1098587580, 1361435347, 1640403810, 1905808397, 2197175160, 2460548119, 2722870694, 2987750089, 3280807620, 3553878443, 3811616794, 4084100981] : List Int).getD (Go.bits .and .u32 (Go.bits .xor .u32 i2 (IntKind.wrap .u32 (byteAt s1 i3))) 15).toNat 0)) 4) (([0, 274646895, 549293790, 820201905, 1098587580, 1361435347, 1640403810, 1905808397, 2197175160, 2460548119, 2722870694, 2987750089, 3280807620, 3553878443, 3811616794, 4084100981] : List Int).getD (Go.bits .and .u32 (Go.bits .xor .u32 (Go.bits .xor .u32 (shrI .u32 i2 4) (([0, 274646895, 549293790, 820201905, 1098587580, 1361435347, 1640403810, 1905808397, 2197175160, 2460548119, 2722870694, 2987750089, 3280807620, 3553878443, 3811616794, 4084100981] : List Int).getD (Go.bits .and .u32 (Go.bits .xor .u32 i2 (IntKind.wrap .u32 (byteAt s1 i3))) 15).toNat 0)) (shrI .u32 (IntKind.wrap .u32 (byteAt s1 i3)) 4)) 15).toNat 0)), .I (IntKind.wrap .i64 (i3 + 1))] [.I i0, .S s1, .I i2, .I i3])))))) ∧ (
 (((s1.size : Nat) : Int) ≤ i3) →
  CMore.sig.post [.I i0, .S s1, .I (Go.bits .xor .u32 4294967295 i2)])))
def COf.Pure : Prop :=
 ∀ s0 : ByteArray,
 ((s0.size : Int) ≤ 9223372036854775807) →
 COf.sig.pre [.S s0] →
 CMore.sig.pre [.I 0, .S s0] ∧ (
 ∀ i1 : Int,
 CMore.sig.post [.I 0, .S s0, .I i1] →
 (0 ≤ i1 ∧ i1 < 4294967296) →
 COf.sig.post [.S s0, .I i1])
end Go.Vc
namespace Go.Vc
theorem cv_bit (x : Int) (i : Nat) : (cv x).getLsbD i = (decide (i < 32) && bt x i) := bt_ofInt 32 x i
theorem cv_toNat (b : W32) : cv (b.toNat : Int) = b := by simp [cv]
theorem u32v {x : Int} (h : 0 ≤ x ∧ x < 4294967296) : ((cv x).toNat : Int) = x := by
 simp only [cv, BitVec.toNat_ofInt]
 omega
theorem toNat_32 (b : W32) : 0 ≤ (b.toNat : Int) ∧ (b.toNat : Int) < 4294967296 := by have := b.isLt; omega
theorem cv_eq {x : Int} {b : W32} (h : 0 ≤ x ∧ x < 4294967296) (e : cv x = b) : x = (b.toNat : Int) := by rw [← e, u32v h]
theorem cv_xor (a b : Int) : cv (Go.bits .xor .u32 a b) = cv a ^^^ cv b := by
 apply BitVec.eq_of_getLsbD_eq
 intro i hi
 rw [BitVec.getLsbD_xor, cv_bit, cv_bit, cv_bit, bt_xor .u32 _ _ hi]; simp [hi]
theorem cv_and (a b : Int) : cv (Go.bits .and .u32 a b) = cv a &&& cv b := by
 apply BitVec.eq_of_getLsbD_eq
 intro i hi
 rw [BitVec.getLsbD_and, cv_bit, cv_bit, cv_bit, bt_and .u32 _ _ hi]; simp [hi]
theorem cv_shr {a : Int} (h : 0 ≤ a ∧ a < 4294967296) (n : Nat) : cv (shrI .u32 a n) = cv a >>> n := by
 apply BitVec.eq_of_getLsbD_eq
 intro i hi
 rw [BitVec.getLsbD_ushiftRight, cv_bit, cv_bit, bt_shr_u32 _ (u32i h)]
 simp only [hi, decide_true, Bool.true_and, Int.toNat_natCast]
 by_cases c : n + i < 32
 ·simp [c, Nat.add_comm]
 ·rw [bt_u32_ge (u32i h) (by omega)]; simp [c]
theorem cv_not (x : Int) : cv (Go.bits .xor .u32 4294967295 x) = ~~~ cv x := by
 rw [cv_xor]
 apply BitVec.eq_of_getLsbD_eq
 intro i hi
 have e : (cv 4294967295).getLsbD i = true := by
  rw [cv_bit, show (4294967295 : Int) = 2 ^ 32 - 1 from rfl, bt_mask]; simp [hi]
 rw [BitVec.getLsbD_xor, BitVec.getLsbD_not, e]; simp [hi]
theorem xor_shift (a b : W32) (n : Nat) : (a ^^^ b) >>> n = (a >>> n) ^^^ (b >>> n) := by
 apply BitVec.eq_of_getLsbD_eq
 intro i _
 simp only [BitVec.getLsbD_xor, BitVec.getLsbD_ushiftRight]
theorem xor_left (a b c d : W32) : (a ^^^ b) ^^^ (c ^^^ d) = (a ^^^ c) ^^^ (b ^^^ d) := by
 apply BitVec.eq_of_getLsbD_eq
 intro i _
 simp only [BitVec.getLsbD_xor]
 cases a.getLsbD i <;> cases b.getLsbD i <;> cases c.getLsbD i <;> cases d.getLsbD i <;> rfl
theorem st_xor (a b : W32) : st (a ^^^ b) = st a ^^^ st b := by
 simp only [st]
 rw [xor_shift, xor_left, BitVec.getLsbD_xor]
 congr 1
 cases a.getLsbD 0 <;> cases b.getLsbD 0 <;> simp
theorem stn_xor : ∀ (n : Nat) (a b : W32), stn n (a ^^^ b) = stn n a ^^^ stn n b
 | 0, _, _ => rfl
 | n + 1, a, b => by simp only [stn, st_xor, stn_xor n]
theorem stn_add : ∀ (m n : Nat) (c : W32), stn (m + n) c = stn n (stn m c)
 | 0, n, c => by simp [stn]
 | m + 1, n, c => by rw [Nat.succ_add]; simp only [stn]; exact stn_add m n _
theorem st_even {c : W32} (h : c.getLsbD 0 = false) : st c = c >>> 1 := by unfold st; rw [h]; simp
theorem stn_shift : ∀ (n : Nat) (c : W32), (∀ i, i < n → c.getLsbD i = false) → stn n c = c >>> n
 | 0, c, _ => by simp [stn]
 | n + 1, c, h => by
  simp only [stn]
  rw [st_even (h 0 (by omega)), stn_shift n]
  ·rw [← BitVec.shiftRight_add, Nat.add_comm]
  ·intro i hi
   rw [BitVec.getLsbD_ushiftRight, Nat.add_comm]; exact h (i + 1) (by omega)
theorem crcRun_snoc (c : W32) (l : List Int) (b : Int) : crcRun c (l ++ [b]) = crcByte (crcRun c l) b := by simp [crcRun]
theorem take_snoc {l : List Int} {i : Nat} (h : i < l.length) : l.take (i + 1) = l.take i ++ [l.getD i 0] := by
 rw [List.take_add_one]
 congr 1
 simp [List.getD, h]
theorem not_run {x sum : Int} {l : List Int} (h : 0 ≤ x ∧ x < 4294967296) (e : cv x = ~~~ crcRun (~~~ cv sum) l) : x = crcOf sum l := cv_eq h e
theorem half_eq : ∀ i, i < 16 → ((stn 4 (BitVec.ofNat 32 i)).toNat : Int) = crcHalf.getD i 0 := by decide
theorem nibble (c : W32) : stn 4 c = (c >>> 4) ^^^ stn 4 (c &&& 15#32) := by
 have e : c = (c &&& ~~~ 15#32) ^^^ (c &&& 15#32) := by
  apply BitVec.eq_of_getLsbD_eq
  intro i hi
  simp only [BitVec.getLsbD_xor, BitVec.getLsbD_and, BitVec.getLsbD_not, hi, decide_true, Bool.true_and]
  cases c.getLsbD i <;> cases (15#32).getLsbD i <;> rfl
 conv => lhs; rw [e, stn_xor]
 congr 1
 rw [stn_shift]
 ·apply BitVec.eq_of_getLsbD_eq
  intro i hi
  simp only [BitVec.getLsbD_ushiftRight, BitVec.getLsbD_and, BitVec.getLsbD_not]
  by_cases h : 4 + i < 32
  ·have : (15#32).getLsbD (4 + i) = false := by
    rw [show (15#32 : W32) = cv 15 from rfl, cv_bit, bt_of_lt (w := 4) (by decide) (by decide) (by omega)]; simp
   rw [this]
   simp only [h, decide_true, Bool.not_false, Bool.and_true]
  ·rw [BitVec.getLsbD_of_ge c _ (by omega)]; simp
 ·intro i hi
  have : (15#32).getLsbD i = true := by
   have : ∀ j, j < 4 → (15#32 : W32).getLsbD j = true := by decide
   exact this i hi
  rw [BitVec.getLsbD_and, BitVec.getLsbD_not, this]
  cases c.getLsbD i <;> simp
theorem and15_lt (x : Int) (h : 0 ≤ x ∧ x < 4294967296) : 0 ≤ Go.bits .and .u32 x 15 ∧ Go.bits .and .u32 x 15 < 16 := by
 rw [u32_and _ _ h.1 h.2 (by decide) (by decide)]
 have : x.toNat &&& (15 : Int).toNat ≤ 15 := Nat.and_le_right
 omega
theorem half_get {x : Int} (h : 0 ≤ x ∧ x < 4294967296) : cv (crcHalf.getD (Go.bits .and .u32 x 15).toNat 0) = stn 4 (cv x &&& 15#32) := by
 have hl := and15_lt x h
 rw [← half_eq _ (by omega), cv_toNat]
 congr 1
 have e : (BitVec.ofNat 32 (Go.bits .and .u32 x 15).toNat) = cv (Go.bits .and .u32 x 15) := by
  apply BitVec.eq_of_toNat_eq
  simp only [BitVec.toNat_ofNat, cv, BitVec.toNat_ofInt]
  omega
 rw [e, cv_and]; rfl
theorem byte_halves (c : W32) {b : Int} (h0 : 0 ≤ b) (h1 : b < 256) :
  let c1 := (c >>> 4) ^^^ stn 4 ((c ^^^ cv b) &&& 15#32)
  (c1 >>> 4) ^^^ stn 4 ((c1 ^^^ (cv b >>> 4)) &&& 15#32) = crcByte c b := by
 intro c1
 have e1 : c1 ^^^ (cv b >>> 4) = stn 4 (c ^^^ cv b) := by
  rw [nibble (c ^^^ cv b), xor_shift]
  simp only [c1]
  apply BitVec.eq_of_getLsbD_eq
  intro i _
  simp only [BitVec.getLsbD_xor]
  cases (c >>> 4).getLsbD i <;> cases (cv b >>> 4).getLsbD i <;> cases (stn 4 ((c ^^^ cv b) &&& 15#32)).getLsbD i <;> rfl
 clear_value c1
 have e2 : c1 >>> 4 = (c1 ^^^ (cv b >>> 4)) >>> 4 := by
  rw [xor_shift c1]
  have : (cv b >>> 4) >>> 4 = 0#32 := by
   apply BitVec.eq_of_getLsbD_eq
   intro i _
   rw [BitVec.getLsbD_ushiftRight, BitVec.getLsbD_ushiftRight, cv_bit, bt_of_lt (w := 8) h0 h1 (by omega)]; simp
  rw [this]; simp
 rw [e2, e1, ← nibble]
 rw [crcByte, show (8 : Nat) = 4 + 4 from rfl, stn_add]
theorem u8_wrap32 {b : Int} (h : 0 ≤ b ∧ b < 256) : IntKind.wrap .u32 b = b := by rw [IntKind.wrap_u32]; omega
theorem CMore.pure : CMore.Pure := by
 intro i0 s1 h1 h2 h3
 have hlen := bytesOf_length' s1
 refine ⟨?_, ?_⟩
 ·refine ⟨by decide, by omega, ?_⟩
  apply cv_eq (has_in.1 (bits_has .xor .u32 _ _))
  rw [cv_not]; rfl
 intro i2 i3 h4 h5 h6
 have h6 : 0 ≤ i3 ∧ i3 ≤ s1.size ∧ i2 = ((crcRun (~~~ cv i0) ((bytesOf s1).take i3.toNat)).toNat : Int) := h6
 obtain ⟨a, b, c⟩ := h6
 have hby := byteAt_has s1 i3
 refine ⟨?_, ?_⟩
 ·intro h7
  rw [u8_wrap32 hby]
  refine ⟨?_, fun h8 => ?_⟩
  ·omega -- (0 : Int) ≤ i3
  have x1 := has_in.1 (bits_has .xor .u32 i2 (byteAt s1 i3))
  have x1 : 0 ≤ Go.bits .xor .u32 i2 (byteAt s1 i3) ∧ Go.bits .xor .u32 i2 (byteAt s1 i3) < 4294967296 := x1
  have a1 := and15_lt _ x1
  refine ⟨a1.1, fun h9 => ⟨a1.2, fun h10 => ?_⟩⟩
  generalize hc1 : Go.bits .xor .u32 (shrI .u32 i2 (4 : Int)) (([0, 274646895, 549293790, 820201905, 1098587580, 1361435347, 1640403810, 1905808397, 2197175160, 2460548119, 2722870694, 2987750089, 3280807620, 3553878443, 3811616794, 4084100981] : List Int).getD (Go.bits .and .u32 (Go.bits .xor .u32 i2 (byteAt s1 i3)) (15 : Int)).toNat 0) = c1
  have hc1h : 0 ≤ c1 ∧ c1 < 4294967296 := by rw [← hc1]; exact has_in.1 (bits_has .xor .u32 _ _)
  have e1 : cv c1 = (cv i2 >>> 4) ^^^ stn 4 ((cv i2 ^^^ cv (byteAt s1 i3)) &&& 15#32) := by
   rw [← hc1, cv_xor]
   have := cv_shr h4 4
   rw [show ((4 : Nat) : Int) = 4 from rfl] at this
   rw [this, ← cv_xor, ← half_get x1]; rfl
  have x2 : 0 ≤ Go.bits .xor .u32 c1 (shrI .u32 (byteAt s1 i3) 4) ∧ Go.bits .xor .u32 c1 (shrI .u32 (byteAt s1 i3) 4) < 4294967296 := has_in.1 (bits_has .xor .u32 _ _)
  have a2 := and15_lt _ x2
  refine ⟨a2.1, fun h11 => ⟨a2.2, fun h12 => ?_⟩⟩
  rw [i64w (by omega) (by omega)]
  refine ⟨?_, ?_⟩
  ·refine ⟨by omega, by omega, ?_⟩
   apply cv_eq (has_in.1 (bits_has .xor .u32 _ _))
   rw [cv_xor]
   have s4 := cv_shr hc1h 4
   rw [show ((4 : Nat) : Int) = 4 from rfl] at s4
   have s5 := cv_shr (a := byteAt s1 i3) (by omega) 4
   rw [show ((4 : Nat) : Int) = 4 from rfl] at s5
   have g := half_get x2
   rw [cv_xor, s5] at g
   rw [s4, show (cv (([0, 274646895, 549293790, 820201905, 1098587580, 1361435347, 1640403810, 1905808397, 2197175160, 2460548119, 2722870694, 2987750089, 3280807620, 3553878443, 3811616794, 4084100981] : List Int).getD (Go.bits .and .u32 (Go.bits .xor .u32 c1 (shrI .u32 (byteAt s1 i3) 4)) (15 : Int)).toNat 0)) = _ from g, e1]
   rw [byte_halves (cv i2) hby.1 hby.2, show (i3 + 1).toNat = i3.toNat + 1 from by omega, take_snoc (by omega), crcRun_snoc, c, cv_toNat, byteAt_eq]
  ·show ((s1.size : Int) - (i3 + 1)).toNat < ((s1.size : Int) - i3).toNat
   omega
 ·intro h7
  show Go.bits .xor .u32 4294967295 i2 = crcOf i0 (bytesOf s1)
  apply not_run (has_in.1 (bits_has .xor .u32 _ _))
  rw [cv_not, c, cv_toNat, List.take_of_length_le (by omega)]
theorem COf.pure : COf.Pure := by
 intro s0 h1 h2
 refine ⟨trivial, ?_⟩
 intro i1 h3 h4
 exact h3
end Go.Vc
namespace Go.Vc
theorem u32_ext {a b : Int} (ha : 0 ≤ a ∧ a < 4294967296) (hb : 0 ≤ b ∧ b < 4294967296) (h : cv a = cv b) : a = b := by rw [cv_eq ha h, u32v hb]
theorem crcOf_eq (sum : Int) (l : List Int) : cv (crcOf sum l) = ~~~ crcRun (~~~ cv sum) l := cv_toNat _
theorem crcOf_has (sum : Int) (l : List Int) : 0 ≤ crcOf sum l ∧ crcOf sum l < 4294967296 := toNat_32 _
theorem crc_append (c : W32) (a b : List Int) : crcRun c (a ++ b) = crcRun (crcRun c a) b := by simp [crcRun]
end Go.Vc
namespace Go.Vc
end Go.Vc